/- What the Go functions that this law reaches answer, function by function; conditions: those that each contract names. Made for this claim by a program of this session (wip/myprint) over the kit's print. -/
import Derived.Test.YtdbokdodjekchaaPFnRouteNoRoundx0
import Derived.Test.YtdbokdodjekchaaPFnRouteNoRoundx5
import Derived.Test.YtdbokdodjekchaaPFnRouteNoRoundx6
namespace Go.Proofs.Ytdbokdodjekchaa.PFnRouteNoRound
open Go.RowKit Go.Proofs.YtdbokdodjekchaaW.PrintWords Go.Proofs.YtdbokdodjekchaaW.PrintLast Go.Proofs.YtdbokdodjekchaaW.PrintMore
attribute [local go_sem] zbL zbJ max_two min_two zbF zbE zbK zbI   -- for this text's walks alone
set_option linter.unusedVariables false
set_option linter.unusedSimpArgs false
def spec_l16Ways.l0 : Nat → Int → Int → List (List Int) → Int → Option (Bool)
 | 0,_,_,_,_ => none
 | k + 1,x0,x1,x2,x7 => if x7 < (x2.length : Int) then (if 0 ≤ x7 then ((spec_WayValid.f k x0 x1 (rd_L2 x2 x7)).bind fun t128 => (if t128 = true then (spec_l16Ways.l0 k x0 x1 x2 (wrap64 (x7 + 1))) else (some false))) else (none)) else ((spec_l16Fabric.f x0 x1).bind fun t129 => (if t129 = true then (some (decide ((x2.length : Int) ≤ 12))) else (some false)))
def spec_l16Ways.f (k : Nat) (a0 : Int) (a1 : Int) (l2 : List (List Int)) : Option (Bool):=spec_l16Ways.l0 k a0 a1 l2 0
theorem spec_l16Ways.mono_l : ∀ k,(∀ y0 y1 y2 y3,LeO (spec_l16Ways.l0 k y0 y1 y2 y3) (spec_l16Ways.l0 (k + 1) y0 y1 y2 y3))
 | 0 => fun _ _ _ _ r h => by simp [spec_l16Ways.l0] at h
 | k + 1 => by
  have ih0:=spec_l16Ways.mono_l k
  ·
   intro y0 y1 y2 y3; unfold spec_l16Ways.l0
   repeat' first
   | (with_reducible exact ih0 _ _ _ _)
   | (with_reducible exact spec_WayValid.mono _ _ _ _)
   | (with_reducible exact LeO.refl _)
   | (with_reducible exact LeO.none _)
   | (with_reducible refine LeO.ite ?_ ?_)
   | (with_reducible refine LeO.bind ?_ (fun _ => ?_))
   | exact ih0 _ _ _ _
   | exact spec_WayValid.mono _ _ _ _
   | exact LeO.none _
   | refine LeO.ite ?_ ?_
   | refine LeO.bind ?_ (fun _ => ?_)
theorem spec_l16Ways.mono : ∀ a0 a1 a2 k,LeO (spec_l16Ways.f k a0 a1 a2) (spec_l16Ways.f (k + 1) a0 a1 a2):=by
 intro a0 a1 a2 k; have ih0:=spec_l16Ways.mono_l k; unfold spec_l16Ways.f
 repeat' first
   | (with_reducible exact ih0 _ _ _ _)
   | (with_reducible exact spec_WayValid.mono _ _ _ _)
   | (with_reducible exact LeO.refl _)
   | (with_reducible exact LeO.none _)
   | (with_reducible refine LeO.ite ?_ ?_)
   | (with_reducible refine LeO.bind ?_ (fun _ => ?_))
   | exact ih0 _ _ _ _
   | exact spec_WayValid.mono _ _ _ _
   | exact LeO.none _
   | refine LeO.ite ?_ ?_
   | refine LeO.bind ?_ (fun _ => ?_)
set_option maxHeartbeats 8000000 in
set_option maxRecDepth 100000 in
theorem spec_l16Ways.calls (k : Nat) (a0 : Int) (a1 : Int) (A2 : Option Addr) (c2 : Nat) (l2 : List (List Int)) (r : Bool) (w : World) (hr2 : Kd.C (Kd.slice 3 (Kd.int .i64)) w A2 l2.length l2) (hc2 : l2.length ≤ c2) (h : spec_l16Ways.f k a0 a1 l2 = some r) :
  Calls Try.prog 40 #[.int .i64 a0,.int .i64 a1,.slice A2 l2.length c2] w fun e w' => e = .returned (.bool r) ∧ Below w.heap.size w w':=by
 have HR2:=aM hr2; have HC2:=aM hc2; clear hr2 hc2; have HB:=aM (Below.refl w.heap.size w); have H : (spec_l16Ways.l0 k a0 a1 l2 0) = some r:=h; clear h; have H':=aM H; clear H; go_enter Try.func40,Try.ntmps40; go_wp2; go_loopg [7] k (fun kq v7 w' => ∃ (x7_1 : Int),v7 = .int .i64 x7_1 ∧ Aside0 (spec_l16Ways.l0 kq a0 a1 l2 x7_1 = some r) ∧ Aside0 (kq ≤ k) ∧ Aside0 (Below w.heap.size w w')); case atStart => exact ⟨(0),(by first | rfl | (simp; done) | (simp [*]; done)),H',⟨Nat.le_refl _⟩,⟨by repeat (first | (with_reducible first | exact HB.out | apply zaA | apply bN | apply bD) | exact HB.out)⟩⟩
 case round =>
  clear H'
  try clear c2
  try clear p2
  obtain ⟨x7_1,rfl,HA,HK1,HB⟩:=hrel; cases gk with
  | zero => exact absurd HA.out (by simp [spec_l16Ways.l0])
  | succ k1 =>
   have H:=HA.out; clear HA; simp only [spec_l16Ways.l0] at H; by_cases c4 : x7_1 < (l2.length : Int)
   ·
    rw [if_pos c4] at H; have c4b0 : decide (x7_1 < (l2.length : Int)) = true:=decide_eq_true c4; clear c4; by_cases c5 : 0 ≤ x7_1
    ·
     rw [if_pos c5] at H; have c5b0 : decide (0 ≤ x7_1) = true:=decide_eq_true c5; clear c5; replace H:=bE H; obtain ⟨t128,A60,H⟩:=H; replace H : (if t128 = true then (spec_l16Ways.l0 k1 a0 a1 l2 (wrap64 (x7_1 + 1))) else (some false)) = some r:=H; have A6:=aM A60; clear A60; by_cases c7 : t128 = true
     ·
      subst c7; have H1 : (spec_l16Ways.l0 k1 a0 a1 l2 (wrap64 (x7_1 + 1))) = some r:=by rw [if_pos rfl] at H; exact H
      clear H; have H:=H1; clear H1; have H':=aM H; clear H; have p127 : 0 ≤ (x7_1 : Int):=oD (by assumption); have q127 : x7_1 < (l2.length : Int):=oD (by assumption); obtain ⟨ad127,A127_0,c127_0,e127,hx127_0,hl127_0,hi127_0⟩:=at_L2 HR2.out x7_1 p127 q127; cases e127; replace hx127_0:=(HB.out.cell (bC w _ hx127_0)).trans hx127_0; have HR127_0:=aM hi127_0; have HC127_0:=aM hl127_0; clear hi127_0 hl127_0; replace p127:=eq_true p127; replace q127:=eq_true q127
      go_wp2_with (first | ((with_reducible refine zaI (f:=70) rfl ?_); refine zaR (some 20) rfl rfl Try.func70 (by kernel_rfl) rfl #[.int .i64 a0,.int .i64 a1,.slice A127_0 (rd_L2 l2 x7_1).length c127_0] rfl (by (try simp only [mA,mB,mC]); first | done | rfl | (simp only [mE,mD]; rfl)) ?_; (with_reducible refine (spec_WayValid.calls k1 a0 a1 _ _ (rd_L2 l2 x7_1) true _ ?side1 ?side2 A6.out).mono ?_); (case side1 => repeat (first | exact (Kd.C_below HR127_0.out HB.out) | (with_reducible refine Kd.C_alloc ?_ _) | (with_reducible refine Kd.C_drewN ?_ _) | (with_reducible refine Kd.C_drew ?_))); (case side2 => exact HC127_0.out); rintro e w8 ⟨rfl,hb⟩; refine ⟨_,rfl,?_⟩; have n0_:=aM (zaJ (by repeat (first | (with_reducible first | exact HB.out | apply zaA | apply bN | apply bD) | exact HB.out)) hb); clear HB; have HB:=n0_; clear n0_; (try clear hb); (try clear hb2); (try clear hk); (try clear hi)))
      go_roundg k1; case measure => have:=HK1.out; omega
      case rel => exact ⟨(wrap64 (x7_1 + 1)),(by first | rfl | (simp; done) | (simp [*]; done)),H',⟨by have:=HK1.out; omega⟩,⟨by repeat (first | (with_reducible first | exact HB.out | apply zaA | apply bN | apply bD) | exact HB.out)⟩⟩
     ·
      replace c7:=Bool.eq_false_iff.mpr c7; subst c7; have H1 : (some false) = some r:=by rw [if_neg (show ¬ (false = true) by decide)] at H; exact H
      clear H; have H:=H1; clear H1; obtain rfl:=Option.some.inj H; have p127 : 0 ≤ (x7_1 : Int):=oD (by assumption); have q127 : x7_1 < (l2.length : Int):=oD (by assumption); obtain ⟨ad127,A127_0,c127_0,e127,hx127_0,hl127_0,hi127_0⟩:=at_L2 HR2.out x7_1 p127 q127; cases e127; replace hx127_0:=(HB.out.cell (bC w _ hx127_0)).trans hx127_0; have HR127_0:=aM hi127_0; have HC127_0:=aM hl127_0; clear hi127_0 hl127_0; replace p127:=eq_true p127; replace q127:=eq_true q127
      go_wp2_with (first | ((with_reducible refine zaI (f:=70) rfl ?_); refine zaR (some 20) rfl rfl Try.func70 (by kernel_rfl) rfl #[.int .i64 a0,.int .i64 a1,.slice A127_0 (rd_L2 l2 x7_1).length c127_0] rfl (by (try simp only [mA,mB,mC]); first | done | rfl | (simp only [mE,mD]; rfl)) ?_; (with_reducible refine (spec_WayValid.calls k1 a0 a1 _ _ (rd_L2 l2 x7_1) false _ ?side1 ?side2 A6.out).mono ?_); (case side1 => repeat (first | exact (Kd.C_below HR127_0.out HB.out) | (with_reducible refine Kd.C_alloc ?_ _) | (with_reducible refine Kd.C_drewN ?_ _) | (with_reducible refine Kd.C_drew ?_))); (case side2 => exact HC127_0.out); rintro e w9 ⟨rfl,hb⟩; refine ⟨_,rfl,?_⟩; have n0_:=aM (zaJ (by repeat (first | (with_reducible first | exact HB.out | apply zaA | apply bN | apply bD) | exact HB.out)) hb); clear HB; have HB:=n0_; clear n0_; (try clear hb); (try clear hb2); (try clear hk); (try clear hi)))
      go_ret; exact ⟨by first | rfl | (simp [*] <;> rfl),by repeat (first | (with_reducible first | exact HB.out | apply zaA | apply bN | apply bD) | exact HB.out)⟩
    ·
     rw [if_neg c5] at H; exact absurd H (by simp)
   ·
    rw [if_neg c4] at H; have c4b0 : decide (x7_1 < (l2.length : Int)) = false:=decide_eq_false c4; clear c4; replace H:=bE H; obtain ⟨t129,A100,H⟩:=H; replace H : (if t129 = true then (some (decide ((l2.length : Int) ≤ 12))) else (some false)) = some r:=H; have A10:=aM A100; clear A100; by_cases c11 : t129 = true
    ·
     subst c11; have H1 : (some (decide ((l2.length : Int) ≤ 12))) = some r:=by rw [if_pos rfl] at H; exact H
     clear H; have H:=H1; clear H1; obtain rfl:=Option.some.inj H; go_wp2_with (first | ((with_reducible refine zaI (f:=49) rfl ?_); refine zaR (some 24) rfl rfl Try.func49 (by kernel_rfl) rfl #[.int .i64 a0,.int .i64 a1] rfl (by (try simp only [mA,mB,mC]); first | done | rfl | (simp only [mE,mD]; rfl)) ?_; (with_reducible refine (spec_l16Fabric.calls a0 a1 true _ A10.out).mono ?_); rintro e w' ⟨rfl,⟨nd,rfl⟩⟩; refine ⟨_,rfl,?_⟩)); go_ret; exact ⟨by first | rfl | (simp [*] <;> rfl),by repeat (first | (with_reducible first | exact HB.out | apply zaA | apply bN | apply bD) | exact HB.out)⟩
    ·
     replace c11:=Bool.eq_false_iff.mpr c11; subst c11; have H1 : (some false) = some r:=by rw [if_neg (show ¬ (false = true) by decide)] at H; exact H
     clear H; have H:=H1; clear H1; obtain rfl:=Option.some.inj H; go_wp2_with (first | ((with_reducible refine zaI (f:=49) rfl ?_); refine zaR (some 24) rfl rfl Try.func49 (by kernel_rfl) rfl #[.int .i64 a0,.int .i64 a1] rfl (by (try simp only [mA,mB,mC]); first | done | rfl | (simp only [mE,mD]; rfl)) ?_; (with_reducible refine (spec_l16Fabric.calls a0 a1 false _ A10.out).mono ?_); rintro e w' ⟨rfl,⟨nd,rfl⟩⟩; refine ⟨_,rfl,?_⟩)); go_ret; exact ⟨by first | rfl | (simp [*] <;> rfl),by repeat (first | (with_reducible first | exact HB.out | apply zaA | apply bN | apply bD) | exact HB.out)⟩
def spec_l16Wires.l0 : Nat → Int → List Int → List Int → Int → Option (List Int)
 | 0,_,_,_,_ => none
 | k + 1,x0,x1,x5,x6 => if x6 < (x1.length : Int) then (if 0 ≤ (wrap64 (x6 - 1)) then (if (wrap64 (x6 - 1)) < (x1.length : Int) then (if 0 ≤ x6 then ((spec_l16Wire.f k x0 (rd x1 (wrap64 (x6 - 1))) (rd x1 x6)).bind fun t135 => (if x5.length < 17592186044416 then (spec_l16Wires.l0 k x0 x1 (x5 ++ [t135]) (wrap64 (x6 + 1))) else (none))) else (none)) else (none)) else (none)) else (some x5)
def spec_l16Wires.f (k : Nat) (a0 : Int) (l1 : List Int) : Option (List Int):=spec_l16Wires.l0 k a0 l1 (([] : List Int)) 1
theorem spec_l16Wires.mono_l : ∀ k,(∀ y0 y1 y2 y3,LeO (spec_l16Wires.l0 k y0 y1 y2 y3) (spec_l16Wires.l0 (k + 1) y0 y1 y2 y3))
 | 0 => fun _ _ _ _ r h => by simp [spec_l16Wires.l0] at h
 | k + 1 => by
  have ih0:=spec_l16Wires.mono_l k
  ·
   intro y0 y1 y2 y3; unfold spec_l16Wires.l0
   repeat' first
   | (with_reducible exact ih0 _ _ _ _)
   | (with_reducible exact spec_l16Wire.mono _ _ _ _)
   | (with_reducible exact LeO.refl _)
   | (with_reducible exact LeO.none _)
   | (with_reducible refine LeO.ite ?_ ?_)
   | (with_reducible refine LeO.bind ?_ (fun _ => ?_))
   | exact ih0 _ _ _ _
   | exact spec_l16Wire.mono _ _ _ _
   | exact LeO.none _
   | refine LeO.ite ?_ ?_
   | refine LeO.bind ?_ (fun _ => ?_)
theorem spec_l16Wires.mono : ∀ a0 a1 k,LeO (spec_l16Wires.f k a0 a1) (spec_l16Wires.f (k + 1) a0 a1):=by
 intro a0 a1 k; have ih0:=spec_l16Wires.mono_l k; unfold spec_l16Wires.f
 repeat' first
   | (with_reducible exact ih0 _ _ _ _)
   | (with_reducible exact spec_l16Wire.mono _ _ _ _)
   | (with_reducible exact LeO.refl _)
   | (with_reducible exact LeO.none _)
   | (with_reducible refine LeO.ite ?_ ?_)
   | (with_reducible refine LeO.bind ?_ (fun _ => ?_))
   | exact ih0 _ _ _ _
   | exact spec_l16Wire.mono _ _ _ _
   | exact LeO.none _
   | refine LeO.ite ?_ ?_
   | refine LeO.bind ?_ (fun _ => ?_)
def spec_l16Wires.T5 : Bool × List (List Nat × List Nat):=(true,[([],[]),([],[]),([],[]),([],[]),([3],[3]),([2,4],[2,4]),([5],[5]),([],[]),([],[]),([7,8],[7,8]),([9],[9]),([1,6,10],[1,6,10]),([11],[11]),([0,12,11],[0,12]),([13,13,0,1,2,3,4,5,6,7,8,9,10,11,12,13],[0,13])])
def spec_l16Wires.B5 : List Nat:=[0,0,0,0,8,28,60,0,0,384,896,2046,4094,8191,16383]
theorem spec_l16Wires.tab5 : rtab .any (opsOf Try.f41 5) = spec_l16Wires.T5:=by kernel_rfl
theorem spec_l16Wires.bits5 : waitsOk spec_l16Wires.T5.2 spec_l16Wires.B5 = true:=by kernel_rfl
set_option maxHeartbeats 8000000 in
set_option maxRecDepth 100000 in
theorem spec_l16Wires.calls (k : Nat) (a0 : Int) (A1 : Option Addr) (c1 : Nat) (l1 : List Int) (r : List Int) (w : World) (hr1 : Kd.C (Kd.int .i64) w A1 l1.length l1) (hc1 : l1.length ≤ c1) (h : spec_l16Wires.f k a0 l1 = some r) :
  Calls Try.prog 41 #[.int .i64 a0,.slice A1 l1.length c1] w fun e w' => ∃ v0_ : Value,e = .returned (v0_) ∧ Kd.R (Kd.int .i64) 3 w' w.heap.size (fun _ => True) v0_ r ∧ Below w.heap.size w w':=by
 have HR1:=aM hr1; have HC1:=aM hc1; clear hr1 hc1; have HB:=aM (Below.refl w.heap.size w); have H : (spec_l16Wires.l0 k a0 l1 (([] : List Int)) 1) = some r:=h; clear h; obtain ⟨y130,hy130⟩ : ∃ y_ : List Int,y_ = (([] : List Int)):=⟨_,rfl⟩
 replace H : (spec_l16Wires.l0 k a0 l1 y130 1) = some r:=by first | (rw [hy130]; with_reducible exact H) | (have H2_:=(Option.bind_some _ _).symm.trans H; rw [hy130]; with_reducible exact H2_) | (have H2_:=(Option.bind_some _ _).symm.trans H; with_reducible exact H2_) | with_reducible exact H | (rw [hy130]; exact H) | exact H
 have Ny130:=aM hy130; clear hy130; have H':=aM H; clear H; go_enter Try.func41,Try.ntmps41
 go_wp2_with (first | ((with_reducible refine zaS (N:=7) rfl ?_); refine Kd.R_lit (Kd.int .i64) _ 3 ?hg (N:=7) ?hd (xs:=([] : List Int)) (inner:=[]) (ok:=fun _ => True) (okp:=fun _ => True) ?hr ?hp (fun _ hk => hk) trivial (Below.refl _ _) (Nat.le_refl _) (by simp) ?_; (case hd => rfl); (case hg => rfl); (case hr => first | (go_simp; done) | (go_simp; rfl)); (case hp => exact (Reps.none _ _)); intro v131 w3 ho4 hb hg_ hnew_; clear hg_ hnew_; (first | rw [← Ny130.out] at ho4 | (simp only [Int.reduceToNat] at ho4; rw [← Ny130.out] at ho4)); have n0_:=aM (Kd.R_lower ho4 (zaK (by repeat (first | (with_reducible first | exact HB.out | apply zaA | apply bN | apply bD) | exact HB.out)))); have n1_:=aM (zaJ (by repeat (first | (with_reducible first | exact HB.out | apply zaA | apply bN | apply bD) | exact HB.out)) hb); clear HB; have HO132:=n0_; have HB:=n1_; clear n0_ n1_; clear hb ho4))
 go_loopg [5,6] k (fun kq v5 v6 w' => ∃ (x5_1 : List Int) (x6_1 : Int),v6 = .int .i64 x6_1 ∧ Aside0 (spec_l16Wires.l0 kq a0 l1 x5_1 x6_1 = some r) ∧ Aside0 (kq ≤ k) ∧ Aside0 (Kd.R (Kd.int .i64) 3 w' w.heap.size (fun _ => True) v5 x5_1) ∧ Aside0 (Below w.heap.size w w')); case atStart => exact ⟨(y130),(1),(by first | rfl | (simp; done) | (simp [*]; done)),H',⟨Nat.le_refl _⟩,⟨by (with_reducible repeat (first | apply Kd.R_alloc | apply Kd.R_drewN | apply Kd.R_drew)); exact HO132.out⟩,⟨by repeat (first | (with_reducible first | exact HB.out | apply zaA | apply bN | apply bD) | exact HB.out)⟩⟩
 case round =>
  clear H'
  try clear c1
  try clear p2
  try clear c4
  obtain ⟨x5_1,x6_1,rfl,HA,HK1,HO_5,HB⟩:=hrel; cases gk with
  | zero => exact absurd HA.out (by simp [spec_l16Wires.l0])
  | succ k1 =>
   have H:=HA.out; clear HA; simp only [spec_l16Wires.l0] at H; by_cases c5 : x6_1 < (l1.length : Int)
   ·
    rw [if_pos c5] at H; have c5b0 : decide (x6_1 < (l1.length : Int)) = true:=decide_eq_true c5; clear c5; obtain ⟨ji6,hji6⟩ : ∃ j_ : Int,(wrap64 (x6_1 - 1)) = j_:=⟨_,rfl⟩
    replace H : (if 0 ≤ (ji6) then (if (ji6) < (l1.length : Int) then (if 0 ≤ x6_1 then ((spec_l16Wire.f k1 a0 (rd l1 (ji6)) (rd l1 x6_1)).bind fun t135 => (if x5_1.length < 17592186044416 then (spec_l16Wires.l0 k1 a0 l1 (x5_1 ++ [t135]) (wrap64 (x6_1 + 1))) else (none))) else (none)) else (none)) else (none)) = some r:=by first | (rw [hji6] at H; exact H) | (simp only [hji6] at H ⊢; exact H)
    have hji6w : (IntKind.i64.wrap (x6_1 - 1)) = ji6:=(zaP _).trans hji6; by_cases c7 : 0 ≤ (ji6)
    ·
     rw [if_pos c7] at H; have c7b0 : decide (0 ≤ (ji6)) = true:=decide_eq_true c7; clear c7; by_cases c8 : (ji6) < (l1.length : Int)
     ·
      rw [if_pos c8] at H; have c8b0 : decide ((ji6) < (l1.length : Int)) = true:=decide_eq_true c8; clear c8; by_cases c9 : 0 ≤ x6_1
      ·
       rw [if_pos c9] at H; have c9b0 : decide (0 ≤ x6_1) = true:=decide_eq_true c9; clear c9; replace H:=bE H; obtain ⟨t135,A100,H⟩:=H; replace H : (if x5_1.length < 17592186044416 then (spec_l16Wires.l0 k1 a0 l1 (x5_1 ++ [t135]) (wrap64 (x6_1 + 1))) else (none)) = some r:=H; have A10:=aM A100; clear A100; by_cases c11 : x5_1.length < 17592186044416
       ·
        rw [if_pos c11] at H; have LMc11:=aM c11; clear c11; obtain ⟨y136,hy136⟩ : ∃ y_ : List Int,y_ = (x5_1 ++ [t135]):=⟨_,rfl⟩
        replace H : (spec_l16Wires.l0 k1 a0 l1 y136 (wrap64 (x6_1 + 1))) = some r:=by first | (rw [hy136]; with_reducible exact H) | (have H2_:=(Option.bind_some _ _).symm.trans H; rw [hy136]; with_reducible exact H2_) | (have H2_:=(Option.bind_some _ _).symm.trans H; with_reducible exact H2_) | with_reducible exact H | (rw [hy136]; exact H) | exact H
        have Ny136:=aM hy136; clear hy136; have H':=aM H; clear H
        try go_wp2
        have n0_:=aM (Kd.R_drew HO_5.out); have n1_:=aM (bD HB.out); clear HO_5; clear HB; have HO_5:=n0_; have HB:=n1_; clear n0_ n1_; have p133 : 0 ≤ ((ji6) : Int):=oD (by assumption); have q133 : (ji6) < (l1.length : Int):=oD (by assumption); obtain ⟨ad133,e133,hx133_0⟩:=Kd.at_int HR1.out (ji6) p133 q133; have hw133_0:=hx133_0; cases e133; replace hx133_0:=(HB.out.cell (bC w _ hx133_0)).trans hx133_0; replace p133:=eq_true p133; replace q133:=eq_true q133; have p134 : 0 ≤ (x6_1 : Int):=oD (by assumption); have q134 : x6_1 < (l1.length : Int):=oD (by assumption); obtain ⟨ad134,e134,hx134_0⟩:=Kd.at_int HR1.out x6_1 p134 q134; have hw134_0:=hx134_0; obtain rfl : ad133 = ad134:=(by injection e134); replace hx134_0:=(HB.out.cell (bC w _ hx134_0)).trans hx134_0; replace p134:=eq_true p134; replace q134:=eq_true q134
        refine start_ (n:=15) (S:=fun w' => w'.cell? (ad133.add ((ji6)).toNat) = some (.int .i64 (rd l1 (ji6))) ∧ w'.cell? (ad133.add (x6_1).toNat) = some (.int .i64 (rd l1 x6_1))) (ds:=[]) #[false,false,false,false,false,false,false,false,false,false,false,false,false,false,false] (by kernel_rfl) rfl rfl ⟨((HB.out.cell (bC w _ hw133_0)).trans hw133_0),((HB.out.cell (bC w _ hw134_0)).trans hw134_0)⟩ (fun hHeld => ?_); refine zbO spec_l16Wires.tab5 spec_l16Wires.bits5 (fun HT_ HW_ => ?_); generalize wr.drew = w12 at HO_5 HB hx133_0 hx134_0 hHeld ⊢; refine zaQ (i:=0) (N:=some 14) (v:=?_) (a':=?_) #[true,false,false,false,false,false,false,false,false,false,false,false,false,false,false] rfl rfl (zaO HT_.out (by kernel_rfl)) (fun _ _ _ h => h) (Or.inl ⟨by rfl,?_⟩) ?_ ?_; rotate_left
        ·
         intro w'; go_simp; with_reducible rfl
        rotate_left
        ·
         simp only [Act.put,sA,sB,sC,zaP]; rfl
        refine zaQ (i:=1) (N:=some 15) (v:=?_) (a':=?_) #[true,true,false,false,false,false,false,false,false,false,false,false,false,false,false] rfl rfl (zaO HT_.out (by kernel_rfl)) (fun _ _ _ h => h) (Or.inl ⟨by rfl,?_⟩) ?_ ?_; rotate_left
        ·
         intro w'; go_simp; with_reducible rfl
        rotate_left
        ·
         simp only [Act.put,sA,sB,sC,zaP]; rfl
        refine zaQ (i:=2) (N:=some 16) (v:=?_) (a':=?_) #[true,true,true,false,false,false,false,false,false,false,false,false,false,false,false] rfl rfl (zaO HT_.out (by kernel_rfl)) (fun _ _ _ h => h) (Or.inl ⟨by rfl,?_⟩) ?_ ?_; rotate_left
        ·
         intro w'; go_simp; with_reducible rfl
        rotate_left
        ·
         simp only [Act.put,sA,sB,sC,zaP]; rfl
        refine zaQ (i:=3) (N:=some 17) (v:=?_) (a':=?_) #[true,true,true,true,false,false,false,false,false,false,false,false,false,false,false] rfl rfl (zaO HT_.out (by kernel_rfl)) (fun _ _ _ h => h) (Or.inl ⟨by rfl,?_⟩) ?_ ?_; rotate_left
        ·
         intro w'; go_simp; with_reducible rfl
        rotate_left
        ·
         simp only [Act.put,sA,sB,sC,zaP]; rfl
        refine zaQ (i:=4) (N:=some 18) (v:=?_) (a':=?_) #[true,true,true,true,true,false,false,false,false,false,false,false,false,false,false] rfl rfl (zaO HT_.out (by kernel_rfl)) (fun _ _ _ h => h) (Or.inl ⟨by rfl,?_⟩) ?_ ?_; rotate_left
        ·
         intro w'; go_simp; with_reducible rfl
        rotate_left
        ·
         simp only [Act.put,sA,sB,sC,zaP]; rfl
        refine zaQ (i:=5) (N:=some 19) (v:=?_) (a':=?_) #[true,true,true,true,true,true,false,false,false,false,false,false,false,false,false] rfl rfl (zaO HT_.out (by kernel_rfl)) (fun _ _ _ h => h) (Or.inl ⟨by rfl,?_⟩) ?_ ?_; rotate_left
        ·
         intro w'; go_simp; with_reducible rfl
        rotate_left
        ·
         simp only [Act.put,sA,sB,sC,zaP]; rfl
        refine zaQ (i:=7) (N:=some 21) (v:=?_) (a':=?_) #[true,true,true,true,true,true,false,true,false,false,false,false,false,false,false] rfl rfl (zaO HT_.out (by kernel_rfl)) (fun _ _ _ h => h) (Or.inl ⟨by rfl,?_⟩) ?_ ?_; rotate_left
        ·
         intro w'; go_simp; with_reducible rfl
        rotate_left
        ·
         simp only [Act.put,sA,sB,sC,zaP]; rfl
        refine zaQ (i:=8) (N:=some 22) (v:=?_) (a':=?_) #[true,true,true,true,true,true,false,true,true,false,false,false,false,false,false] rfl rfl (zaO HT_.out (by kernel_rfl)) (fun _ _ _ h => h) (Or.inl ⟨by rfl,?_⟩) ?_ ?_; rotate_left
        ·
         intro w'; go_simp; with_reducible rfl
        rotate_left
        ·
         simp only [Act.put,sA,sB,sC,zaP]; rfl
        refine zaQ (i:=9) (N:=some 23) (v:=?_) (a':=?_) #[true,true,true,true,true,true,false,true,true,true,false,false,false,false,false] rfl rfl (zaO HT_.out (by kernel_rfl)) (fun _ _ _ h => h) (Or.inl ⟨by rfl,?_⟩) ?_ ?_; rotate_left
        ·
         intro w'; go_simp; with_reducible rfl
        rotate_left
        ·
         simp only [Act.put,sA,sB,sC,zaP]; rfl
        refine take_ (i:=6) (N:=some 20) (v:=?_) (a':=?_) #[true,true,true,true,true,true,true,true,true,true,false,false,false,false,false] rfl rfl (zaX HT_.out HW_.out (by kernel_rfl)) (fun _ _ _ h => h) (Or.inl ⟨by rfl,?_⟩) hHeld ?_ ?_; rotate_left
        ·
         rintro w' ⟨s0,s1⟩; go_simp; with_reducible rfl
        rotate_left
        ·
         simp only [Act.put,sA,sB,sC,zaP]; rfl
        refine take_ (i:=10) (N:=some 24) (v:=?_) (a':=?_) #[true,true,true,true,true,true,true,true,true,true,true,false,false,false,false] rfl rfl (zaX HT_.out HW_.out (by kernel_rfl)) (fun _ _ _ h => h) (Or.inl ⟨by rfl,?_⟩) hHeld ?_ ?_; rotate_left
        ·
         rintro w' ⟨s0,s1⟩; go_simp; with_reducible rfl
        rotate_left
        ·
         simp only [Act.put,sA,sB,sC,zaP]; rfl
        refine one_ (i:=11) (N:=some 25) #[true,true,true,true,true,true,true,true,true,true,true,true,false,false,false] rfl rfl (zbP HT_.out (by kernel_rfl)) (by decide) (fun K hK => ?_); refine goes_ Try.func71 (by kernel_rfl) rfl #[.int .i64 a0,.int .i64 (rd l1 (ji6)),.int .i64 (rd l1 x6_1)] (by rfl) rfl rfl (by (try simp only [mA,mB,mC]); first | done | (simp only [hji6]; rfl) | rfl | (simp only [mE,mD]; rfl)) ?_; (with_reducible refine (spec_l16Wire.calls k1 a0 (rd l1 (ji6)) (rd l1 x6_1) t135 _ A10.out).mono ?_); rintro e w' ⟨rfl,⟨nd,rfl⟩⟩; refine ⟨_,rfl,?_⟩; refine hK.out _ _ ⟨((HB.out.cell (bC w _ hw133_0)).trans hw133_0),((HB.out.cell (bC w _ hw134_0)).trans hw134_0)⟩ (fun hHeld => ?_); clear hK K; refine norm_ (a':=?_) ?_ ?_; rotate_left
        ·
         show Act.put _ (some 25) _ = _
         simp only [Act.put,sA,sB,sC,zaP]; rfl
        refine one_ (i:=12) (N:=some 26) #[true,true,true,true,true,true,true,true,true,true,true,true,true,false,false] rfl rfl (zbP HT_.out (by kernel_rfl)) (by decide) (fun K hK => ?_); refine value_ (w1:=?_) (v:=?_) (by rfl) rfl ?_ ?_; rotate_left 2
        ·
         go_simp
         constructor
         ·
          rfl
         ·
          rfl
        refine hK.out _ _ ⟨(World.cell?_alloc_lt _ _ _ (bC _ _ (((HB.out.cell (bC w _ hw133_0)).trans hw133_0)))).trans (((HB.out.cell (bC w _ hw133_0)).trans hw133_0)),(World.cell?_alloc_lt _ _ _ (bC _ _ (((HB.out.cell (bC w _ hw134_0)).trans hw134_0)))).trans (((HB.out.cell (bC w _ hw134_0)).trans hw134_0))⟩ (fun hHeld => ?_); clear hK K; refine norm_ (a':=?_) ?_ ?_; rotate_left
        ·
         show Act.put _ (some 26) _ = _
         simp only [Act.put,sA,sB,sC,zaP]; rfl
        refine one_ (i:=13) (N:=some 27) #[true,true,true,true,true,true,true,true,true,true,true,true,true,true,false] rfl rfl (zbP HT_.out (by kernel_rfl)) (by decide) (fun K hK => ?_); refine Kd.R_append_step (Kd.int .i64) (w0:=w) w.heap.size (by rfl) (.tmp 14) (.tmp 26) 28 3 (.int .i64 0) 8 rfl Try.underlying28 info3 rfl (by decide) (by omega) u5 x5_1 t135 [.int .i64 t135] (fun _ => True) (fun _ => False) rfl rfl ?aP (fun _ hk => hk.elim) ?aF ?aO ?aB ?aS ?aL ?_
        (case aP => exact rfl)
        (case aB => exact (by repeat (first | (with_reducible first | exact HB.out | apply zaA | apply bN | apply bD) | exact HB.out)))
        (case aF => exact (fun _ _ => trivial))
        (case aO => exact (by (with_reducible repeat (first | apply Kd.R_alloc | apply Kd.R_drewN | apply Kd.R_drew)); exact HO_5.out))
        (case aS => exact (zaK (by repeat (first | (with_reducible first | exact HB.out | apply zaA | apply bN | apply bD) | exact HB.out))))
        (case aL => have:=LMc11.out; omega)
        intro v137 w13 ho hb hg hat; rw [← Ny136.out] at ho; have n0_:=aM (hb); have n1_:=aM (ho); clear HB; clear HO_5; have HB:=n0_; have HO138:=n1_; clear n0_ n1_; clear ho hb hg hat; refine hK.out _ _ ⟨((HB.out.cell (bC w _ hw133_0)).trans hw133_0),((HB.out.cell (bC w _ hw134_0)).trans hw134_0)⟩ (fun hHeld => ?_); clear hK K; refine norm_ (a':=?_) ?_ ?_; rotate_left
        ·
         show Act.put _ (some 27) _ = _
         simp only [Act.put,sA,sB,sC,zaP]; rfl
        refine zaQ (i:=14) (N:=some 5) (v:=?_) (a':=?_) #[true,true,true,true,true,true,true,true,true,true,true,true,true,true,true] rfl rfl (zaO HT_.out (by kernel_rfl)) (fun _ _ _ h => h) (Or.inl ⟨by rfl,?_⟩) ?_ ?_; rotate_left
        ·
         intro w'; go_simp; with_reducible rfl
        rotate_left
        ·
         simp only [Act.put,sA,sB,sC,zaP]; rfl
        refine done_ (done_of HT_.out (by kernel_rfl)) ?_
        try go_wp2
        go_roundg k1; case measure => have:=HK1.out; omega
        case rel => exact ⟨(y136),(wrap64 (x6_1 + 1)),(by first | rfl | (simp; done) | (simp [*]; done)),H',⟨by have:=HK1.out; omega⟩,⟨by (with_reducible repeat (first | apply Kd.R_alloc | apply Kd.R_drewN | apply Kd.R_drew)); exact HO138.out⟩,⟨by repeat (first | (with_reducible first | exact HB.out | apply zaA | apply bN | apply bD) | exact HB.out)⟩⟩
       ·
        rw [if_neg c11] at H; exact absurd H (by simp)
      ·
       rw [if_neg c9] at H; exact absurd H (by simp)
     ·
      rw [if_neg c8] at H; exact absurd H (by simp)
    ·
     rw [if_neg c7] at H; exact absurd H (by simp)
   ·
    rw [if_neg c5] at H; have c5b0 : decide (x6_1 < (l1.length : Int)) = false:=decide_eq_false c5; clear c5; obtain rfl:=Option.some.inj H; go_wp2; go_ret; exact ⟨_,by first | rfl | (simp [*] <;> rfl),by (with_reducible repeat (first | apply Kd.R_alloc | apply Kd.R_drewN | apply Kd.R_drew)); exact HO_5.out,by repeat (first | (with_reducible first | exact HB.out | apply zaA | apply bN | apply bD) | exact HB.out)⟩
def spec_l16Left.l0 : Nat → List Bool → Int → Option (Bool)
 | 0,_,_ => none
 | k + 1,x0,x3 => if x3 < (x0.length : Int) then (if 0 ≤ x3 then (if rdOf false x0 x3 = true then (spec_l16Left.l0 k x0 (wrap64 (x3 + 1))) else (some true)) else (none)) else (some false)
def spec_l16Left.f (k : Nat) (l0 : List Bool) : Option (Bool):=spec_l16Left.l0 k l0 0
theorem spec_l16Left.mono_l : ∀ k,(∀ y0 y1,LeO (spec_l16Left.l0 k y0 y1) (spec_l16Left.l0 (k + 1) y0 y1))
 | 0 => fun _ _ r h => by simp [spec_l16Left.l0] at h
 | k + 1 => by
  have ih0:=spec_l16Left.mono_l k
  ·
   intro y0 y1; unfold spec_l16Left.l0
   repeat' first
   | (with_reducible exact ih0 _ _)
   | (with_reducible exact LeO.refl _)
   | (with_reducible exact LeO.none _)
   | (with_reducible refine LeO.ite ?_ ?_)
   | (with_reducible refine LeO.bind ?_ (fun _ => ?_))
   | exact ih0 _ _
   | exact LeO.none _
   | refine LeO.ite ?_ ?_
   | refine LeO.bind ?_ (fun _ => ?_)
theorem spec_l16Left.mono : ∀ a0 k,LeO (spec_l16Left.f k a0) (spec_l16Left.f (k + 1) a0):=by
 intro a0 k; have ih0:=spec_l16Left.mono_l k; unfold spec_l16Left.f
 repeat' first
   | (with_reducible exact ih0 _ _)
   | (with_reducible exact LeO.refl _)
   | (with_reducible exact LeO.none _)
   | (with_reducible refine LeO.ite ?_ ?_)
   | (with_reducible refine LeO.bind ?_ (fun _ => ?_))
   | exact ih0 _ _
   | exact LeO.none _
   | refine LeO.ite ?_ ?_
   | refine LeO.bind ?_ (fun _ => ?_)
set_option maxHeartbeats 8000000 in
set_option maxRecDepth 100000 in
theorem spec_l16Left.calls (k : Nat) (A0 : Option Addr) (c0 : Nat) (l0 : List Bool) (r : Bool) (w : World) (hr0 : Kd.C Kd.bool w A0 l0.length l0) (hc0 : l0.length ≤ c0) (h : spec_l16Left.f k l0 = some r) :
  Calls Try.prog 44 #[.slice A0 l0.length c0] w fun e w' => e = .returned (.bool r) ∧ Drawn0 w w':=by
 have HR0:=aM hr0; have HC0:=aM hc0; clear hr0 hc0; have H : (spec_l16Left.l0 k l0 0) = some r:=h; clear h; have H':=aM H; clear H; go_enter Try.func44,Try.ntmps44; go_wp2; go_loopg [3] k (fun kq v3 w' => ∃ (x3_1 : Int),v3 = .int .i64 x3_1 ∧ Aside0 (spec_l16Left.l0 kq l0 x3_1 = some r) ∧ Aside0 (kq ≤ k) ∧ Drawn0 w w'); case atStart => exact ⟨(0),(by first | rfl | (simp; done) | (simp [*]; done)),H',⟨Nat.le_refl _⟩,by repeat (first | exact Drawn0.refl _ | apply Drawn0.step)⟩
 case round =>
  clear H'; obtain ⟨x3_1,rfl,HA,HK1,⟨m1,rfl⟩⟩:=hrel; cases gk with
  | zero => exact absurd HA.out (by simp [spec_l16Left.l0])
  | succ k1 =>
   have H:=HA.out; clear HA; simp only [spec_l16Left.l0] at H; by_cases c2 : x3_1 < (l0.length : Int)
   ·
    rw [if_pos c2] at H; have c2b0 : decide (x3_1 < (l0.length : Int)) = true:=decide_eq_true c2; clear c2; by_cases c3 : 0 ≤ x3_1
    ·
     rw [if_pos c3] at H; have c3b0 : decide (0 ≤ x3_1) = true:=decide_eq_true c3; clear c3; obtain ⟨bq4,hbq4⟩ : ∃ b_ : Bool,b_ = (rdOf false l0 x3_1):=⟨_,rfl⟩
     replace H : (if bq4 = true then (spec_l16Left.l0 k1 l0 (wrap64 (x3_1 + 1))) else (some true)) = some r:=by rw [← hbq4] at H; exact H
     have Nbq4:=aM hbq4; clear hbq4; by_cases c5 : bq4 = true
     ·
      subst c5; have H1 : (spec_l16Left.l0 k1 l0 (wrap64 (x3_1 + 1))) = some r:=by rw [if_pos rfl] at H; exact H
      clear H; have H:=H1; clear H1; have H':=aM H; clear H; have p139 : 0 ≤ (x3_1 : Int):=oD (by assumption); have q139 : x3_1 < (l0.length : Int):=oD (by assumption); obtain ⟨ad139,e139,hx139_0⟩:=Kd.at_bool HR0.out x3_1 p139 q139; (try rw [← Nbq4.out] at hx139_0); cases e139; replace p139:=eq_true p139; replace q139:=eq_true q139; go_wp2; go_roundg k1; case measure => have:=HK1.out; omega
      case rel => exact ⟨(wrap64 (x3_1 + 1)),(by first | rfl | (simp; done) | (simp [*]; done)),H',⟨by have:=HK1.out; omega⟩,by repeat (first | exact Drawn0.refl _ | apply Drawn0.step)⟩
     ·
      replace c5:=Bool.eq_false_iff.mpr c5; subst c5; have H1 : (some true) = some r:=by rw [if_neg (show ¬ (false = true) by decide)] at H; exact H
      clear H; have H:=H1; clear H1; obtain rfl:=Option.some.inj H; have p139 : 0 ≤ (x3_1 : Int):=oD (by assumption); have q139 : x3_1 < (l0.length : Int):=oD (by assumption); obtain ⟨ad139,e139,hx139_0⟩:=Kd.at_bool HR0.out x3_1 p139 q139; (try rw [← Nbq4.out] at hx139_0); cases e139; replace p139:=eq_true p139; replace q139:=eq_true q139; go_wp2; go_ret; exact ⟨by first | rfl | (simp; done) | (simp [*]; done),by repeat (first | exact Drawn0.refl _ | apply Drawn0.step)⟩
    ·
     rw [if_neg c3] at H; exact absurd H (by simp)
   ·
    rw [if_neg c2] at H; have c2b0 : decide (x3_1 < (l0.length : Int)) = false:=decide_eq_false c2; clear c2; obtain rfl:=Option.some.inj H; go_wp2; go_ret; exact ⟨by first | rfl | (simp; done) | (simp [*]; done),by repeat (first | exact Drawn0.refl _ | apply Drawn0.step)⟩
end Go.Proofs.Ytdbokdodjekchaa.PFnRouteNoRound
