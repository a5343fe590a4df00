/- What the Go functions that this law reaches answer, function by function; conditions: those that each contract names. Made for this claim by a program of this session (wip/myprint) over the kit's print. -/
import Derived.Test.YtdbokdodjekchaaPFnRouteNoRoundx0
namespace Go.Proofs.Ytdbokdodjekchaa.PFnRouteNoRound
open Go.RowKit Go.Proofs.YtdbokdodjekchaaW.PrintWords Go.Proofs.YtdbokdodjekchaaW.PrintLast Go.Proofs.YtdbokdodjekchaaW.PrintMore
attribute [local go_sem] zbL zbJ max_two min_two zbF zbE zbK zbI   -- for this text's walks alone
set_option linter.unusedVariables false
set_option linter.unusedSimpArgs false
def spec_l1In.f (a0 : Int) (a1 : Int) (a2 : Int) : Option (Bool):=if a0 ≥ a1 then (some (decide (a0 ≤ a2))) else (some false)
set_option maxHeartbeats 8000000 in
set_option maxRecDepth 100000 in
theorem spec_l1In.calls (a0 : Int) (a1 : Int) (a2 : Int) (r : Bool) (w : World) (h : spec_l1In.f a0 a1 a2 = some r) :
  Calls Try.prog 76 #[.int .i64 a0,.int .i64 a1,.int .i64 a2] w fun e w' => e = .returned (.bool r) ∧ Drawn0 w w':=by
 have H : (if a0 ≥ a1 then (some (decide (a0 ≤ a2))) else (some false)) = some r:=h; clear h; by_cases c4 : a0 ≥ a1
 ·
  rw [if_pos c4] at H; have c4b0 : decide (a1 ≤ a0) = true:=decide_eq_true c4; clear c4; obtain rfl:=Option.some.inj H; go_enter Try.func76,Try.ntmps76; go_wp2; go_ret; exact ⟨by first | rfl | (simp; done) | (simp [*]; done),by repeat (first | exact Drawn0.refl _ | apply Drawn0.step)⟩
 ·
  rw [if_neg c4] at H; have c4b0 : decide (a1 ≤ a0) = false:=decide_eq_false c4; clear c4; obtain rfl:=Option.some.inj H; go_enter Try.func76,Try.ntmps76; go_wp2; go_ret; exact ⟨by first | rfl | (simp; done) | (simp [*]; done),by repeat (first | exact Drawn0.refl _ | apply Drawn0.step)⟩
def spec_l16Fabric.f (a0 : Int) (a1 : Int) : Option (Bool):=(spec_l1In.f a0 1 5).bind fun t115 => (if t115 = true then ((spec_l1In.f a1 1 5).bind fun t116 => (some t116)) else (some false))
set_option maxHeartbeats 8000000 in
set_option maxRecDepth 100000 in
theorem spec_l16Fabric.calls (a0 : Int) (a1 : Int) (r : Bool) (w : World) (h : spec_l16Fabric.f a0 a1 = some r) :
  Calls Try.prog 49 #[.int .i64 a0,.int .i64 a1] w fun e w' => e = .returned (.bool r) ∧ Drawn0 w w':=by
 have H : ((spec_l1In.f a0 1 5).bind fun t115 => (if t115 = true then ((spec_l1In.f a1 1 5).bind fun t116 => (some t116)) else (some false))) = some r:=h; clear h; replace H:=bE H; obtain ⟨t115,A30,H⟩:=H; replace H : (if t115 = true then ((spec_l1In.f a1 1 5).bind fun t116 => (some t116)) else (some false)) = some r:=H; have A3:=aM A30; clear A30; by_cases c4 : t115 = true
 ·
  subst c4; have H1 : ((spec_l1In.f a1 1 5).bind fun t116 => (some t116)) = some r:=by rw [if_pos rfl] at H; exact H
  clear H; have H:=H1; clear H1; replace H:=bE H; obtain ⟨t116,A50,H⟩:=H; replace H : (some t116) = some r:=H; have A5:=aM A50; clear A50; obtain rfl:=Option.some.inj H; go_enter Try.func49,Try.ntmps49; go_wp2_with (first | ((with_reducible refine zaI (f:=76) rfl ?_); refine zaR (some 6) rfl rfl Try.func76 (by kernel_rfl) rfl #[.int .i64 a0,.int .i64 1,.int .i64 5] rfl (by (try simp only [mA,mB,mC]); first | done | rfl | (simp only [mE,mD]; rfl)) ?_; (with_reducible refine (spec_l1In.calls a0 1 5 true _ A3.out).mono ?_); rintro e w' ⟨rfl,⟨nd,rfl⟩⟩; refine ⟨_,rfl,?_⟩) | (go_at_call 76; (with_reducible refine (spec_l1In.calls a1 1 5 t116 _ A5.out).mono ?_); rintro e w' ⟨rfl,⟨nd,rfl⟩⟩)); go_ret; exact ⟨by first | rfl | (simp; done) | (simp [*]; done),by repeat (first | exact Drawn0.refl _ | apply Drawn0.step)⟩
 ·
  replace c4:=Bool.eq_false_iff.mpr c4; subst c4; have H1 : (some false) = some r:=by rw [if_neg (show ¬ (false = true) by decide)] at H; exact H
  clear H; have H:=H1; clear H1; obtain rfl:=Option.some.inj H; go_enter Try.func49,Try.ntmps49; go_wp2_with (first | ((with_reducible refine zaI (f:=76) rfl ?_); refine zaR (some 6) rfl rfl Try.func76 (by kernel_rfl) rfl #[.int .i64 a0,.int .i64 1,.int .i64 5] rfl (by (try simp only [mA,mB,mC]); first | done | rfl | (simp only [mE,mD]; rfl)) ?_; (with_reducible refine (spec_l1In.calls a0 1 5 false _ A3.out).mono ?_); rintro e w' ⟨rfl,⟨nd,rfl⟩⟩; refine ⟨_,rfl,?_⟩)); go_ret; exact ⟨by first | rfl | (simp; done) | (simp [*]; done),by repeat (first | exact Drawn0.refl _ | apply Drawn0.step)⟩
mutual
def spec_l16Wire.j0 : Nat → Int → Int → Int → Int → Int → Bool → Option (Int)
 | 0,_,_,_,_,_,_ => none
 | k + 1,x1,x7,x8,x9,x10,x23 => if x23 = true then (some (wrap64 (4 * x1))) else (if x8 = x10 then (spec_l16Wire.j1 k x1 x7 x8 x9 x10 (x9 == (wrap64 (x7 - 1)))) else (spec_l16Wire.j1 k x1 x7 x8 x9 x10 false))
def spec_l16Wire.j1 : Nat → Int → Int → Int → Int → Int → Bool → Option (Int)
 | 0,_,_,_,_,_,_ => none
 | k + 1,x1,x7,x8,x9,x10,x35 => if x35 = true then (some (wrap64 ((wrap64 (4 * x1)) + 1))) else (if x7 = x9 then (spec_l16Wire.j2 k x1 x7 x8 x9 x10 (x10 == (wrap64 (x8 + 1)))) else (spec_l16Wire.j2 k x1 x7 x8 x9 x10 false))
def spec_l16Wire.j2 : Nat → Int → Int → Int → Int → Int → Bool → Option (Int)
 | 0,_,_,_,_,_,_ => none
 | k + 1,x1,x7,x8,x9,x10,x48 => if x48 = true then (some (wrap64 ((wrap64 (4 * x1)) + 2))) else (if x7 = x9 then (if x10 = (wrap64 (x8 - 1)) then (some (wrap64 ((wrap64 (4 * x1)) + 3))) else (some (-1))) else (some (-1)))
end
def spec_l16Wire.f (k : Nat) (a0 : Int) (a1 : Int) (a2 : Int) : Option (Int):=if a0 = 0 then (none) else (if (wrap64 (Int.tdiv a1 a0)) = (wrap64 (Int.tdiv a2 a0)) then (spec_l16Wire.j0 k a1 (Int.tmod a1 a0) (wrap64 (Int.tdiv a1 a0)) (Int.tmod a2 a0) (wrap64 (Int.tdiv a2 a0)) ((Int.tmod a2 a0) == (wrap64 ((Int.tmod a1 a0) + 1)))) else (spec_l16Wire.j0 k a1 (Int.tmod a1 a0) (wrap64 (Int.tdiv a1 a0)) (Int.tmod a2 a0) (wrap64 (Int.tdiv a2 a0)) false))
theorem spec_l16Wire.mono_l : ∀ k,(∀ y0 y1 y2 y3 y4 y5,LeO (spec_l16Wire.j0 k y0 y1 y2 y3 y4 y5) (spec_l16Wire.j0 (k + 1) y0 y1 y2 y3 y4 y5)) ∧ (∀ y0 y1 y2 y3 y4 y5,LeO (spec_l16Wire.j1 k y0 y1 y2 y3 y4 y5) (spec_l16Wire.j1 (k + 1) y0 y1 y2 y3 y4 y5)) ∧ (∀ y0 y1 y2 y3 y4 y5,LeO (spec_l16Wire.j2 k y0 y1 y2 y3 y4 y5) (spec_l16Wire.j2 (k + 1) y0 y1 y2 y3 y4 y5))
 | 0 => ⟨fun _ _ _ _ _ _ r h => by simp [spec_l16Wire.j0] at h,fun _ _ _ _ _ _ r h => by simp [spec_l16Wire.j1] at h,fun _ _ _ _ _ _ r h => by simp [spec_l16Wire.j2] at h⟩
 | k + 1 => by
  obtain ⟨ih0,ih1,ih2⟩:=spec_l16Wire.mono_l k; refine ⟨?_,?_,?_⟩
  ·
   intro y0 y1 y2 y3 y4 y5; unfold spec_l16Wire.j0
   repeat' first
   | (with_reducible exact ih0 _ _ _ _ _ _)
   | (with_reducible exact ih1 _ _ _ _ _ _)
   | (with_reducible exact ih2 _ _ _ _ _ _)
   | (with_reducible exact LeO.refl _)
   | (with_reducible exact LeO.none _)
   | (with_reducible refine LeO.ite ?_ ?_)
   | (with_reducible refine LeO.bind ?_ (fun _ => ?_))
   | exact ih0 _ _ _ _ _ _
   | exact ih1 _ _ _ _ _ _
   | exact ih2 _ _ _ _ _ _
   | exact LeO.none _
   | refine LeO.ite ?_ ?_
   | refine LeO.bind ?_ (fun _ => ?_)
  ·
   intro y0 y1 y2 y3 y4 y5; unfold spec_l16Wire.j1
   repeat' first
   | (with_reducible exact ih0 _ _ _ _ _ _)
   | (with_reducible exact ih1 _ _ _ _ _ _)
   | (with_reducible exact ih2 _ _ _ _ _ _)
   | (with_reducible exact LeO.refl _)
   | (with_reducible exact LeO.none _)
   | (with_reducible refine LeO.ite ?_ ?_)
   | (with_reducible refine LeO.bind ?_ (fun _ => ?_))
   | exact ih0 _ _ _ _ _ _
   | exact ih1 _ _ _ _ _ _
   | exact ih2 _ _ _ _ _ _
   | exact LeO.none _
   | refine LeO.ite ?_ ?_
   | refine LeO.bind ?_ (fun _ => ?_)
  ·
   intro y0 y1 y2 y3 y4 y5; unfold spec_l16Wire.j2
   repeat' first
   | (with_reducible exact ih0 _ _ _ _ _ _)
   | (with_reducible exact ih1 _ _ _ _ _ _)
   | (with_reducible exact ih2 _ _ _ _ _ _)
   | (with_reducible exact LeO.refl _)
   | (with_reducible exact LeO.none _)
   | (with_reducible refine LeO.ite ?_ ?_)
   | (with_reducible refine LeO.bind ?_ (fun _ => ?_))
   | exact ih0 _ _ _ _ _ _
   | exact ih1 _ _ _ _ _ _
   | exact ih2 _ _ _ _ _ _
   | exact LeO.none _
   | refine LeO.ite ?_ ?_
   | refine LeO.bind ?_ (fun _ => ?_)
theorem spec_l16Wire.mono : ∀ a0 a1 a2 k,LeO (spec_l16Wire.f k a0 a1 a2) (spec_l16Wire.f (k + 1) a0 a1 a2):=by
 intro a0 a1 a2 k; obtain ⟨ih0,ih1,ih2⟩:=spec_l16Wire.mono_l k; unfold spec_l16Wire.f
 repeat' first
   | (with_reducible exact ih0 _ _ _ _ _ _)
   | (with_reducible exact ih1 _ _ _ _ _ _)
   | (with_reducible exact ih2 _ _ _ _ _ _)
   | (with_reducible exact LeO.refl _)
   | (with_reducible exact LeO.none _)
   | (with_reducible refine LeO.ite ?_ ?_)
   | (with_reducible refine LeO.bind ?_ (fun _ => ?_))
   | exact ih0 _ _ _ _ _ _
   | exact ih1 _ _ _ _ _ _
   | exact ih2 _ _ _ _ _ _
   | exact LeO.none _
   | refine LeO.ite ?_ ?_
   | refine LeO.bind ?_ (fun _ => ?_)
set_option maxHeartbeats 8000000 in
set_option maxRecDepth 100000 in
theorem spec_l16Wire.calls (k : Nat) (a0 : Int) (a1 : Int) (a2 : Int) (r : Int) (w : World) (h : spec_l16Wire.f k a0 a1 a2 = some r) :
  Calls Try.prog 71 #[.int .i64 a0,.int .i64 a1,.int .i64 a2] w fun e w' => e = .returned (.int .i64 r) ∧ Drawn0 w w':=by
 have H : (if a0 = 0 then (none) else (if (wrap64 (Int.tdiv a1 a0)) = (wrap64 (Int.tdiv a2 a0)) then (spec_l16Wire.j0 k a1 (Int.tmod a1 a0) (wrap64 (Int.tdiv a1 a0)) (Int.tmod a2 a0) (wrap64 (Int.tdiv a2 a0)) ((Int.tmod a2 a0) == (wrap64 ((Int.tmod a1 a0) + 1)))) else (spec_l16Wire.j0 k a1 (Int.tmod a1 a0) (wrap64 (Int.tdiv a1 a0)) (Int.tmod a2 a0) (wrap64 (Int.tdiv a2 a0)) false))) = some r:=h; clear h; by_cases c4 : a0 = 0
 ·
  rw [if_pos c4] at H; exact absurd H (by simp)
 ·
  rw [if_neg c4] at H; have c4b0 : (a0 == 0) = false:=beq_eq_false_iff_ne.mpr c4; have c4b1 : (a0 != 0) = true:=bne_iff_ne.mpr c4; have HC5:=aM H; clear H; go_enter Try.func71,Try.ntmps71; go_upto_region 5 with (fail)
  go_cut [23] (fun v23 wc => ∃ (kq : Nat) (x23_4 : Bool),v23 = .bool x23_4 ∧ Aside0 (spec_l16Wire.j0 kq a1 (Int.tmod a1 a0) (wrap64 (Int.tdiv a1 a0)) (Int.tmod a2 a0) (wrap64 (Int.tdiv a2 a0)) x23_4 = some r) ∧ Aside0 (kq ≤ k) ∧ Drawn0 w wc); case first =>
   have H:=HC5.out; clear HC5; by_cases c6 : (wrap64 (Int.tdiv a1 a0)) = (wrap64 (Int.tdiv a2 a0))
   ·
    rw [if_pos c6] at H; have c6b0 : ((wrap64 (Int.tdiv a1 a0)) == (wrap64 (Int.tdiv a2 a0))) = true:=beq_iff_eq.mpr c6; have c6b1 : ((wrap64 (Int.tdiv a1 a0)) != (wrap64 (Int.tdiv a2 a0))) = false:=bne_eq_false_iff_eq.mpr c6; clear c6
    (first | rw [c6b0] | (simp only [zaP,i32_w]; rw [c6b0]) | skip)
    have H':=aM H; clear H; go_wp2; go_meet; case rel => exact ⟨_,(((Int.tmod a2 a0) == (wrap64 ((Int.tmod a1 a0) + 1)))),(by first | rfl | (simp; done) | (simp [*]; done)),H',⟨by first | omega | exact Nat.le_refl _⟩,by repeat (first | exact Drawn0.refl _ | apply Drawn0.step)⟩
   ·
    rw [if_neg c6] at H; have c6b0 : ((wrap64 (Int.tdiv a1 a0)) == (wrap64 (Int.tdiv a2 a0))) = false:=beq_eq_false_iff_ne.mpr c6; have c6b1 : ((wrap64 (Int.tdiv a1 a0)) != (wrap64 (Int.tdiv a2 a0))) = true:=bne_iff_ne.mpr c6
    (first | rw [c6b0] | (simp only [zaP,i32_w]; rw [c6b0]) | skip)
    have H':=aM H; clear H; go_wp2; go_meet; case rel => exact ⟨_,(false),(by first | rfl | (simp; done) | (simp [*]; done)),H',⟨by first | omega | exact Nat.le_refl _⟩,by repeat (first | exact Drawn0.refl _ | apply Drawn0.step)⟩
  case rest =>
   clear HC5
   try clear p2
   try clear c4
   try clear c4b0
   try clear c4b1
   try clear c6
   try clear c6b0
   try clear c6b1
   try clear p6
   obtain ⟨kq,x23_4,rfl,HA,HJ4,⟨mc4,rfl⟩⟩:=hcut; cases kq with
   | zero => exact absurd HA.out (by simp [spec_l16Wire.j0])
   | succ kj4 =>
    have H:=HA.out; clear HA; simp only [spec_l16Wire.j0] at H; by_cases c7 : x23_4 = true
    ·
     subst c7; have H1 : (some (wrap64 (4 * a1))) = some r:=by rw [if_pos rfl] at H; exact H
     clear H; have H:=H1; clear H1; obtain rfl:=Option.some.inj H; go_wp2; go_ret; exact ⟨by first | rfl | (simp; done) | (simp [*]; done),by repeat (first | exact Drawn0.refl _ | apply Drawn0.step)⟩
    ·
     replace c7:=Bool.eq_false_iff.mpr c7; subst c7; have H1 : (if (wrap64 (Int.tdiv a1 a0)) = (wrap64 (Int.tdiv a2 a0)) then (spec_l16Wire.j1 kj4 a1 (Int.tmod a1 a0) (wrap64 (Int.tdiv a1 a0)) (Int.tmod a2 a0) (wrap64 (Int.tdiv a2 a0)) ((Int.tmod a2 a0) == (wrap64 ((Int.tmod a1 a0) - 1)))) else (spec_l16Wire.j1 kj4 a1 (Int.tmod a1 a0) (wrap64 (Int.tdiv a1 a0)) (Int.tmod a2 a0) (wrap64 (Int.tdiv a2 a0)) false)) = some r:=by rw [if_neg (show ¬ (false = true) by decide)] at H; exact H
     clear H; have H:=H1; clear H1; have HC8:=aM H; clear H; go_upto_region 7 with (fail)
     go_cut [35] (fun v35 wc => ∃ (kq : Nat) (x35_7 : Bool),v35 = .bool x35_7 ∧ Aside0 (spec_l16Wire.j1 kq a1 (Int.tmod a1 a0) (wrap64 (Int.tdiv a1 a0)) (Int.tmod a2 a0) (wrap64 (Int.tdiv a2 a0)) x35_7 = some r) ∧ Aside0 (kq ≤ kj4) ∧ Drawn0 w wc); case first =>
      have H:=HC8.out; clear HC8; by_cases c9 : (wrap64 (Int.tdiv a1 a0)) = (wrap64 (Int.tdiv a2 a0))
      ·
       rw [if_pos c9] at H; have c9b0 : ((wrap64 (Int.tdiv a1 a0)) == (wrap64 (Int.tdiv a2 a0))) = true:=beq_iff_eq.mpr c9; have c9b1 : ((wrap64 (Int.tdiv a1 a0)) != (wrap64 (Int.tdiv a2 a0))) = false:=bne_eq_false_iff_eq.mpr c9; clear c9
       (first | rw [c9b0] | (simp only [zaP,i32_w]; rw [c9b0]) | skip)
       have H':=aM H; clear H; go_wp2; go_meet; case rel => exact ⟨_,(((Int.tmod a2 a0) == (wrap64 ((Int.tmod a1 a0) - 1)))),(by first | rfl | (simp; done) | (simp [*]; done)),H',⟨by have:=HJ4.out; first | omega | exact Nat.le_refl _⟩,by repeat (first | exact Drawn0.refl _ | apply Drawn0.step)⟩
      ·
       rw [if_neg c9] at H; have c9b0 : ((wrap64 (Int.tdiv a1 a0)) == (wrap64 (Int.tdiv a2 a0))) = false:=beq_eq_false_iff_ne.mpr c9; have c9b1 : ((wrap64 (Int.tdiv a1 a0)) != (wrap64 (Int.tdiv a2 a0))) = true:=bne_iff_ne.mpr c9
       (first | rw [c9b0] | (simp only [zaP,i32_w]; rw [c9b0]) | skip)
       have H':=aM H; clear H; go_wp2; go_meet; case rel => exact ⟨_,(false),(by first | rfl | (simp; done) | (simp [*]; done)),H',⟨by have:=HJ4.out; first | omega | exact Nat.le_refl _⟩,by repeat (first | exact Drawn0.refl _ | apply Drawn0.step)⟩
     case rest =>
      clear HC8
      try clear p2
      try clear c4
      try clear c4b0
      try clear c4b1
      try clear c6
      try clear c6b0
      try clear c6b1
      try clear p6
      try clear c7
      try clear c9
      try clear c9b0
      try clear c9b1
      try clear p2
      try clear p6
      obtain ⟨kq,x35_7,rfl,HA,HJ7,⟨mc7,rfl⟩⟩:=hcut; cases kq with
      | zero => exact absurd HA.out (by simp [spec_l16Wire.j1])
      | succ kj7 =>
       have H:=HA.out; clear HA; simp only [spec_l16Wire.j1] at H; by_cases c10 : x35_7 = true
       ·
        subst c10; have H1 : (some (wrap64 ((wrap64 (4 * a1)) + 1))) = some r:=by rw [if_pos rfl] at H; exact H
        clear H; have H:=H1; clear H1; obtain rfl:=Option.some.inj H; go_wp2; go_ret; exact ⟨by first | rfl | (simp; done) | (simp [*]; done),by repeat (first | exact Drawn0.refl _ | apply Drawn0.step)⟩
       ·
        replace c10:=Bool.eq_false_iff.mpr c10; subst c10; have H1 : (if (Int.tmod a1 a0) = (Int.tmod a2 a0) then (spec_l16Wire.j2 kj7 a1 (Int.tmod a1 a0) (wrap64 (Int.tdiv a1 a0)) (Int.tmod a2 a0) (wrap64 (Int.tdiv a2 a0)) ((wrap64 (Int.tdiv a2 a0)) == (wrap64 ((wrap64 (Int.tdiv a1 a0)) + 1)))) else (spec_l16Wire.j2 kj7 a1 (Int.tmod a1 a0) (wrap64 (Int.tdiv a1 a0)) (Int.tmod a2 a0) (wrap64 (Int.tdiv a2 a0)) false)) = some r:=by rw [if_neg (show ¬ (false = true) by decide)] at H; exact H
        clear H; have H:=H1; clear H1; have HC11:=aM H; clear H; go_upto_region 9 with (fail)
        go_cut [48] (fun v48 wc => ∃ (kq : Nat) (x48_10 : Bool),v48 = .bool x48_10 ∧ Aside0 (spec_l16Wire.j2 kq a1 (Int.tmod a1 a0) (wrap64 (Int.tdiv a1 a0)) (Int.tmod a2 a0) (wrap64 (Int.tdiv a2 a0)) x48_10 = some r) ∧ Aside0 (kq ≤ kj7) ∧ Drawn0 w wc); case first =>
         have H:=HC11.out; clear HC11; by_cases c12 : (Int.tmod a1 a0) = (Int.tmod a2 a0)
         ·
          rw [if_pos c12] at H; have c12b0 : ((Int.tmod a1 a0) == (Int.tmod a2 a0)) = true:=beq_iff_eq.mpr c12; have c12b1 : ((Int.tmod a1 a0) != (Int.tmod a2 a0)) = false:=bne_eq_false_iff_eq.mpr c12; clear c12
          (first | rw [c12b0] | (simp only [zaP,i32_w]; rw [c12b0]) | skip)
          have H':=aM H; clear H; go_wp2; go_meet; case rel => exact ⟨_,(((wrap64 (Int.tdiv a2 a0)) == (wrap64 ((wrap64 (Int.tdiv a1 a0)) + 1)))),(by first | rfl | (simp; done) | (simp [*]; done)),H',⟨by have:=HJ4.out; have:=HJ7.out; first | omega | exact Nat.le_refl _⟩,by repeat (first | exact Drawn0.refl _ | apply Drawn0.step)⟩
         ·
          rw [if_neg c12] at H; have c12b0 : ((Int.tmod a1 a0) == (Int.tmod a2 a0)) = false:=beq_eq_false_iff_ne.mpr c12; have c12b1 : ((Int.tmod a1 a0) != (Int.tmod a2 a0)) = true:=bne_iff_ne.mpr c12
          (first | rw [c12b0] | (simp only [zaP,i32_w]; rw [c12b0]) | skip)
          have H':=aM H; clear H; go_wp2; go_meet; case rel => exact ⟨_,(false),(by first | rfl | (simp; done) | (simp [*]; done)),H',⟨by have:=HJ4.out; have:=HJ7.out; first | omega | exact Nat.le_refl _⟩,by repeat (first | exact Drawn0.refl _ | apply Drawn0.step)⟩
        case rest =>
         clear HC11
         try clear c1
         try clear p2
         try clear c4
         try clear c4b0
         try clear c4b1
         try clear c6
         try clear c6b0
         try clear c6b1
         try clear p6
         try clear c7
         try clear c9
         try clear c9b0
         try clear c9b1
         try clear c10
         try clear c12
         try clear c12b0
         try clear c12b1
         try clear p2
         try clear p6
         obtain ⟨kq,x48_10,rfl,HA,HJ10,⟨mc10,rfl⟩⟩:=hcut; cases kq with
         | zero => exact absurd HA.out (by simp [spec_l16Wire.j2])
         | succ kj10 =>
          have H:=HA.out; clear HA; simp only [spec_l16Wire.j2] at H; by_cases c13 : x48_10 = true
          ·
           subst c13; have H1 : (some (wrap64 ((wrap64 (4 * a1)) + 2))) = some r:=by rw [if_pos rfl] at H; exact H
           clear H; have H:=H1; clear H1; obtain rfl:=Option.some.inj H; go_wp2; go_ret; exact ⟨by first | rfl | (simp; done) | (simp [*]; done),by repeat (first | exact Drawn0.refl _ | apply Drawn0.step)⟩
          ·
           replace c13:=Bool.eq_false_iff.mpr c13; subst c13; have H1 : (if (Int.tmod a1 a0) = (Int.tmod a2 a0) then (if (wrap64 (Int.tdiv a2 a0)) = (wrap64 ((wrap64 (Int.tdiv a1 a0)) - 1)) then (some (wrap64 ((wrap64 (4 * a1)) + 3))) else (some (-1))) else (some (-1))) = some r:=by rw [if_neg (show ¬ (false = true) by decide)] at H; exact H
           clear H; have H:=H1; clear H1; by_cases c14 : (Int.tmod a1 a0) = (Int.tmod a2 a0)
           ·
            rw [if_pos c14] at H; have c14b0 : ((Int.tmod a1 a0) == (Int.tmod a2 a0)) = true:=beq_iff_eq.mpr c14; have c14b1 : ((Int.tmod a1 a0) != (Int.tmod a2 a0)) = false:=bne_eq_false_iff_eq.mpr c14; clear c14; by_cases c15 : (wrap64 (Int.tdiv a2 a0)) = (wrap64 ((wrap64 (Int.tdiv a1 a0)) - 1))
            ·
             rw [if_pos c15] at H; have c15b0 : ((wrap64 (Int.tdiv a2 a0)) == (wrap64 ((wrap64 (Int.tdiv a1 a0)) - 1))) = true:=beq_iff_eq.mpr c15; have c15b1 : ((wrap64 (Int.tdiv a2 a0)) != (wrap64 ((wrap64 (Int.tdiv a1 a0)) - 1))) = false:=bne_eq_false_iff_eq.mpr c15; clear c15; obtain rfl:=Option.some.inj H; go_wp2; go_ret; exact ⟨by first | rfl | (simp; done) | (simp [*]; done),by repeat (first | exact Drawn0.refl _ | apply Drawn0.step)⟩
            ·
             rw [if_neg c15] at H; have c15b0 : ((wrap64 (Int.tdiv a2 a0)) == (wrap64 ((wrap64 (Int.tdiv a1 a0)) - 1))) = false:=beq_eq_false_iff_ne.mpr c15; have c15b1 : ((wrap64 (Int.tdiv a2 a0)) != (wrap64 ((wrap64 (Int.tdiv a1 a0)) - 1))) = true:=bne_iff_ne.mpr c15; obtain rfl:=Option.some.inj H; go_wp2; go_ret; exact ⟨by first | rfl | (simp; done) | (simp [*]; done),by repeat (first | exact Drawn0.refl _ | apply Drawn0.step)⟩
           ·
            rw [if_neg c14] at H; have c14b0 : ((Int.tmod a1 a0) == (Int.tmod a2 a0)) = false:=beq_eq_false_iff_ne.mpr c14; have c14b1 : ((Int.tmod a1 a0) != (Int.tmod a2 a0)) = true:=bne_iff_ne.mpr c14; obtain rfl:=Option.some.inj H; go_wp2; go_ret; exact ⟨by first | rfl | (simp; done) | (simp [*]; done),by repeat (first | exact Drawn0.refl _ | apply Drawn0.step)⟩
def spec_l16Nodes.f (a0 : Int) (a1 : Int) (a2 : Int) (a3 : Int) : Option (Bool):=(spec_l16Fabric.f a0 a1).bind fun t117 => (if t117 = true then ((spec_l1In.f a2 0 (wrap64 ((wrap64 (a0 * a1)) - 1))).bind fun t118 => (if t118 = true then ((spec_l1In.f a3 0 (wrap64 ((wrap64 (a0 * a1)) - 1))).bind fun t119 => (some t119)) else (some false))) else (some false))
set_option maxHeartbeats 8000000 in
set_option maxRecDepth 100000 in
theorem spec_l16Nodes.calls (a0 : Int) (a1 : Int) (a2 : Int) (a3 : Int) (r : Bool) (w : World) (h : spec_l16Nodes.f a0 a1 a2 a3 = some r) :
  Calls Try.prog 93 #[.int .i64 a0,.int .i64 a1,.int .i64 a2,.int .i64 a3] w fun e w' => e = .returned (.bool r) ∧ Drawn0 w w':=by
 have H : ((spec_l16Fabric.f a0 a1).bind fun t117 => (if t117 = true then ((spec_l1In.f a2 0 (wrap64 ((wrap64 (a0 * a1)) - 1))).bind fun t118 => (if t118 = true then ((spec_l1In.f a3 0 (wrap64 ((wrap64 (a0 * a1)) - 1))).bind fun t119 => (some t119)) else (some false))) else (some false))) = some r:=h; clear h; replace H:=bE H; obtain ⟨t117,A50,H⟩:=H; replace H : (if t117 = true then ((spec_l1In.f a2 0 (wrap64 ((wrap64 (a0 * a1)) - 1))).bind fun t118 => (if t118 = true then ((spec_l1In.f a3 0 (wrap64 ((wrap64 (a0 * a1)) - 1))).bind fun t119 => (some t119)) else (some false))) else (some false)) = some r:=H; have A5:=aM A50; clear A50; by_cases c6 : t117 = true
 ·
  subst c6; have H1 : ((spec_l1In.f a2 0 (wrap64 ((wrap64 (a0 * a1)) - 1))).bind fun t118 => (if t118 = true then ((spec_l1In.f a3 0 (wrap64 ((wrap64 (a0 * a1)) - 1))).bind fun t119 => (some t119)) else (some false))) = some r:=by rw [if_pos rfl] at H; exact H
  clear H; have H:=H1; clear H1; replace H:=bE H; obtain ⟨t118,A70,H⟩:=H; replace H : (if t118 = true then ((spec_l1In.f a3 0 (wrap64 ((wrap64 (a0 * a1)) - 1))).bind fun t119 => (some t119)) else (some false)) = some r:=H; have A7:=aM A70; clear A70; by_cases c8 : t118 = true
  ·
   subst c8; have H1 : ((spec_l1In.f a3 0 (wrap64 ((wrap64 (a0 * a1)) - 1))).bind fun t119 => (some t119)) = some r:=by rw [if_pos rfl] at H; exact H
   clear H; have H:=H1; clear H1; replace H:=bE H; obtain ⟨t119,A90,H⟩:=H; replace H : (some t119) = some r:=H; have A9:=aM A90; clear A90; obtain rfl:=Option.some.inj H; go_enter Try.func93,Try.ntmps93; go_wp2_with (first | ((with_reducible refine zaI (f:=49) rfl ?_); refine zaR (some 11) rfl rfl Try.func49 (by kernel_rfl) rfl #[.int .i64 a0,.int .i64 a1] rfl (by (try simp only [mA,mB,mC]); first | done | rfl | (simp only [mE,mD]; rfl)) ?_; (with_reducible refine (spec_l16Fabric.calls a0 a1 true _ A5.out).mono ?_); rintro e w' ⟨rfl,⟨nd,rfl⟩⟩; refine ⟨_,rfl,?_⟩) | (go_at_call 76; (with_reducible refine (spec_l1In.calls a2 0 (wrap64 ((wrap64 (a0 * a1)) - 1)) true _ A7.out).mono ?_); rintro e w' ⟨rfl,⟨nd,rfl⟩⟩) | (go_at_call 76; (with_reducible refine (spec_l1In.calls a3 0 (wrap64 ((wrap64 (a0 * a1)) - 1)) t119 _ A9.out).mono ?_); rintro e w' ⟨rfl,⟨nd,rfl⟩⟩))
   go_ret; exact ⟨by first | rfl | (simp; done) | (simp [*]; done),by repeat (first | exact Drawn0.refl _ | apply Drawn0.step)⟩
  ·
   replace c8:=Bool.eq_false_iff.mpr c8; subst c8; have H1 : (some false) = some r:=by rw [if_neg (show ¬ (false = true) by decide)] at H; exact H
   clear H; have H:=H1; clear H1; obtain rfl:=Option.some.inj H; go_enter Try.func93,Try.ntmps93; go_wp2_with (first | ((with_reducible refine zaI (f:=49) rfl ?_); refine zaR (some 11) rfl rfl Try.func49 (by kernel_rfl) rfl #[.int .i64 a0,.int .i64 a1] rfl (by (try simp only [mA,mB,mC]); first | done | rfl | (simp only [mE,mD]; rfl)) ?_; (with_reducible refine (spec_l16Fabric.calls a0 a1 true _ A5.out).mono ?_); rintro e w' ⟨rfl,⟨nd,rfl⟩⟩; refine ⟨_,rfl,?_⟩) | (go_at_call 76; (with_reducible refine (spec_l1In.calls a2 0 (wrap64 ((wrap64 (a0 * a1)) - 1)) false _ A7.out).mono ?_); rintro e w' ⟨rfl,⟨nd,rfl⟩⟩)); go_ret; exact ⟨by first | rfl | (simp; done) | (simp [*]; done),by repeat (first | exact Drawn0.refl _ | apply Drawn0.step)⟩
 ·
  replace c6:=Bool.eq_false_iff.mpr c6; subst c6; have H1 : (some false) = some r:=by rw [if_neg (show ¬ (false = true) by decide)] at H; exact H
  clear H; have H:=H1; clear H1; obtain rfl:=Option.some.inj H; go_enter Try.func93,Try.ntmps93; go_wp2_with (first | ((with_reducible refine zaI (f:=49) rfl ?_); refine zaR (some 11) rfl rfl Try.func49 (by kernel_rfl) rfl #[.int .i64 a0,.int .i64 a1] rfl (by (try simp only [mA,mB,mC]); first | done | rfl | (simp only [mE,mD]; rfl)) ?_; (with_reducible refine (spec_l16Fabric.calls a0 a1 false _ A5.out).mono ?_); rintro e w' ⟨rfl,⟨nd,rfl⟩⟩; refine ⟨_,rfl,?_⟩)); go_ret; exact ⟨by first | rfl | (simp; done) | (simp [*]; done),by repeat (first | exact Drawn0.refl _ | apply Drawn0.step)⟩
end Go.Proofs.Ytdbokdodjekchaa.PFnRouteNoRound
