/- What the Go functions that this law reaches answer, function by function; conditions: those that each contract names. Made for this claim by a program of this session (wip/myprint) over the kit's print. -/
import Derived.Test.YtdbokdodjekchaaPFnRouteNoRoundx0
import Derived.Test.YtdbokdodjekchaaPFnRouteNoRoundx5
import Derived.Test.YtdbokdodjekchaaPFnRouteNoRoundx12
namespace Go.Proofs.Ytdbokdodjekchaa.PFnRouteNoRound
open Go.RowKit Go.Proofs.YtdbokdodjekchaaW.PrintWords Go.Proofs.YtdbokdodjekchaaW.PrintLast Go.Proofs.YtdbokdodjekchaaW.PrintMore
attribute [local go_sem] max2_int min2_int max_two min_two max_three min_three max_four min_four   -- for this text's walks alone
set_option linter.unusedVariables false
set_option linter.unusedSimpArgs false
mutual
def spec_l16Route.l0 : Nat → Int → Int → Bool → List Int → Int → Int → Option (List Int)
 | 0, _, _, _, _, _, _ => none
 | k + 1, x0, x2, x3, x9, x10, x11 => if x0 = 0 then (none) else (if x10 = (Int.tmod x2 x0) then (spec_l16Route.j1 k x0 x2 x3 x9 x10 x11 (x11 != (wrap64 (Int.tdiv x2 x0)))) else (spec_l16Route.j1 k x0 x2 x3 x9 x10 x11 true))
def spec_l16Route.j1 : Nat → Int → Int → Bool → List Int → Int → Int → Bool → Option (List Int)
 | 0, _, _, _, _, _, _, _ => none
 | k + 1, x0, x2, x3, x9, x10, x11, x31 => if x31 = true then (if x0 = 0 then (none) else (if x10 = (Int.tmod x2 x0) then (spec_l16Route.j2 k x0 x2 x3 x9 x10 x11 false) else (if x3 = true then (spec_l16Route.j2 k x0 x2 x3 x9 x10 x11 true) else (spec_l16Route.j2 k x0 x2 x3 x9 x10 x11 (x11 == (wrap64 (Int.tdiv x2 x0))))))) else (some x9)
def spec_l16Route.j2 : Nat → Int → Int → Bool → List Int → Int → Int → Bool → Option (List Int)
 | 0, _, _, _, _, _, _, _ => none
 | k + 1, x0, x2, x3, x9, x10, x11, x46 => if x46 = true then (if x0 = 0 then (none) else ((spec_l16Toward.f x10 (Int.tmod x2 x0)).bind fun t228 => (if x9.length < 17592186044416 then (spec_l16Route.l0 k x0 x2 x3 (x9 ++ [wrap64 (t228 + (wrap64 (x0 * x11)))]) t228 x11) else (none)))) else (if x0 = 0 then (none) else ((spec_l16Toward.f x11 (wrap64 (Int.tdiv x2 x0))).bind fun t232 => (if x9.length < 17592186044416 then (spec_l16Route.l0 k x0 x2 x3 (x9 ++ [wrap64 (x10 + (wrap64 (x0 * t232)))]) x10 t232) else (none))))
end
def spec_l16Route.f (k : Nat) (a0 : Int) (a1 : Int) (a2 : Int) (a3 : Bool) : Option (List Int) := if a0 = 0 then (none) else (spec_l16Route.l0 k a0 a2 a3 (([a1] : List Int)) (Int.tmod a1 a0) (wrap64 (Int.tdiv a1 a0)))
theorem spec_l16Route.mono_l : ∀ k, (∀ y0 y1 y2 y3 y4 y5, LeO (spec_l16Route.l0 k y0 y1 y2 y3 y4 y5) (spec_l16Route.l0 (k + 1) y0 y1 y2 y3 y4 y5)) ∧ (∀ y0 y1 y2 y3 y4 y5 y6, LeO (spec_l16Route.j1 k y0 y1 y2 y3 y4 y5 y6) (spec_l16Route.j1 (k + 1) y0 y1 y2 y3 y4 y5 y6)) ∧ (∀ y0 y1 y2 y3 y4 y5 y6, LeO (spec_l16Route.j2 k y0 y1 y2 y3 y4 y5 y6) (spec_l16Route.j2 (k + 1) y0 y1 y2 y3 y4 y5 y6))
 | 0 => ⟨fun _ _ _ _ _ _ r h => by simp [spec_l16Route.l0] at h, fun _ _ _ _ _ _ _ r h => by simp [spec_l16Route.j1] at h, fun _ _ _ _ _ _ _ r h => by simp [spec_l16Route.j2] at h⟩
 | k + 1 => by
  obtain ⟨ih0, ih1, ih2⟩ := spec_l16Route.mono_l k; refine ⟨?_, ?_, ?_⟩
  ·
   intro y0 y1 y2 y3 y4 y5; unfold spec_l16Route.l0
   repeat' first
   | (with_reducible exact ih0 _ _ _ _ _ _)
   | (with_reducible exact ih1 _ _ _ _ _ _ _)
   | (with_reducible exact ih2 _ _ _ _ _ _ _)
   | (with_reducible exact LeO.refl _)
   | (with_reducible exact LeO.none _)
   | (with_reducible refine LeO.ite ?_ ?_)
   | (with_reducible refine LeO.bind ?_ (fun _ => ?_))
   | exact ih0 _ _ _ _ _ _
   | exact ih1 _ _ _ _ _ _ _
   | exact ih2 _ _ _ _ _ _ _
   | exact LeO.none _
   | refine LeO.ite ?_ ?_
   | refine LeO.bind ?_ (fun _ => ?_)
  ·
   intro y0 y1 y2 y3 y4 y5 y6; unfold spec_l16Route.j1
   repeat' first
   | (with_reducible exact ih0 _ _ _ _ _ _)
   | (with_reducible exact ih1 _ _ _ _ _ _ _)
   | (with_reducible exact ih2 _ _ _ _ _ _ _)
   | (with_reducible exact LeO.refl _)
   | (with_reducible exact LeO.none _)
   | (with_reducible refine LeO.ite ?_ ?_)
   | (with_reducible refine LeO.bind ?_ (fun _ => ?_))
   | exact ih0 _ _ _ _ _ _
   | exact ih1 _ _ _ _ _ _ _
   | exact ih2 _ _ _ _ _ _ _
   | exact LeO.none _
   | refine LeO.ite ?_ ?_
   | refine LeO.bind ?_ (fun _ => ?_)
  ·
   intro y0 y1 y2 y3 y4 y5 y6; unfold spec_l16Route.j2
   repeat' first
   | (with_reducible exact ih0 _ _ _ _ _ _)
   | (with_reducible exact ih1 _ _ _ _ _ _ _)
   | (with_reducible exact ih2 _ _ _ _ _ _ _)
   | (with_reducible exact LeO.refl _)
   | (with_reducible exact LeO.none _)
   | (with_reducible refine LeO.ite ?_ ?_)
   | (with_reducible refine LeO.bind ?_ (fun _ => ?_))
   | exact ih0 _ _ _ _ _ _
   | exact ih1 _ _ _ _ _ _ _
   | exact ih2 _ _ _ _ _ _ _
   | exact LeO.none _
   | refine LeO.ite ?_ ?_
   | refine LeO.bind ?_ (fun _ => ?_)
theorem spec_l16Route.mono : ∀ a0 a1 a2 a3 k, LeO (spec_l16Route.f k a0 a1 a2 a3) (spec_l16Route.f (k + 1) a0 a1 a2 a3) := by
 intro a0 a1 a2 a3 k; obtain ⟨ih0, ih1, ih2⟩ := spec_l16Route.mono_l k; unfold spec_l16Route.f
 repeat' first
   | (with_reducible exact ih0 _ _ _ _ _ _)
   | (with_reducible exact ih1 _ _ _ _ _ _ _)
   | (with_reducible exact ih2 _ _ _ _ _ _ _)
   | (with_reducible exact LeO.refl _)
   | (with_reducible exact LeO.none _)
   | (with_reducible refine LeO.ite ?_ ?_)
   | (with_reducible refine LeO.bind ?_ (fun _ => ?_))
   | exact ih0 _ _ _ _ _ _
   | exact ih1 _ _ _ _ _ _ _
   | exact ih2 _ _ _ _ _ _ _
   | exact LeO.none _
   | refine LeO.ite ?_ ?_
   | refine LeO.bind ?_ (fun _ => ?_)
set_option maxHeartbeats 8000000 in
set_option maxRecDepth 100000 in
theorem spec_l16Route.calls (k : Nat) (a0 : Int) (a1 : Int) (a2 : Int) (a3 : Bool) (r : List Int) (w : World) (h : spec_l16Route.f k a0 a1 a2 a3 = some r) :
  Calls Try.prog 62 #[.int .i64 a0, .int .i64 a1, .int .i64 a2, .bool a3] w fun e w' => ∃ v0_ : Value, e = .returned (v0_) ∧ Kd.R (Kd.int .i64) 3 w' w.heap.size (fun _ => True) v0_ r ∧ Below w.heap.size w w' := by
 have HB := aM (Below.refl w.heap.size w); have H : (if a0 = 0 then (none) else (spec_l16Route.l0 k a0 a2 a3 (([a1] : List Int)) (Int.tmod a1 a0) (wrap64 (Int.tdiv a1 a0)))) = some r := h; clear h; obtain ⟨y225, hy225⟩ : ∃ y_ : List Int, y_ = (([a1] : List Int)) := ⟨_, rfl⟩
 replace H : (if a0 = 0 then (none) else (spec_l16Route.l0 k a0 a2 a3 y225 (Int.tmod a1 a0) (wrap64 (Int.tdiv a1 a0)))) = some r := by first | (rw [hy225]; with_reducible exact H) | (have H2_ := (Option.bind_some _ _).symm.trans H; rw [hy225]; with_reducible exact H2_) | (have H2_ := (Option.bind_some _ _).symm.trans H; with_reducible exact H2_) | with_reducible exact H | (rw [hy225]; exact H) | exact H
 have Ny225 := aM hy225; clear hy225; by_cases c5 : a0 = 0
 ·
  rw [if_pos c5] at H; exact absurd H (by simp)
 ·
  rw [if_neg c5] at H; have c5b0 : (a0 == 0) = false := beq_eq_false_iff_ne.mpr c5; have c5b1 : (a0 != 0) = true := bne_iff_ne.mpr c5; have H' := aM H; clear H; go_enter Try.func62, Try.ntmps62
  go_wp2_with (first | ((with_reducible refine gate_dst (N := 13) rfl ?_); refine Kd.R_lit (Kd.int .i64) _ 3 ?hg (N := 13) ?hd (xs := ([a1] : List Int)) (inner := [.int .i64 a1]) (ok := fun _ => True) (okp := fun _ => True) ?hr ?hp (fun _ hk => hk) trivial (Below.refl _ _) (Nat.le_refl _) (by simp) ?_; (case hd => rfl); (case hg => rfl); (case hr => first | (go_simp; done) | (go_simp; rfl)); (case hp => exact (Reps.one (show Kd.M (Kd.int .i64) _ _ _ a1 [.int .i64 a1] from rfl) (Reps.none _ _))); intro v226 w6 ho7 hb hg_ hnew_; clear hg_ hnew_; (first | rw [← Ny225.out] at ho7 | (simp only [Int.reduceToNat] at ho7; rw [← Ny225.out] at ho7)); have n0_ := aM (Kd.R_lower ho7 (below_size hBx)); have n1_ := aM (below_step hBx hb); clear HB; have HO227 := n0_; have HB := n1_; clear n0_ n1_; clear hb ho7))
  go_loopg [9, 10, 11] k (fun kq v9 v10 v11 w' => ∃ (x9_1 : List Int) (x10_1 : Int) (x11_1 : Int), v10 = .int .i64 x10_1 ∧ v11 = .int .i64 x11_1 ∧ Aside0 (spec_l16Route.l0 kq a0 a2 a3 x9_1 x10_1 x11_1 = some r) ∧ Aside0 (kq ≤ k) ∧ Aside0 (Kd.R (Kd.int .i64) 3 w' w.heap.size (fun _ => True) v9 x9_1) ∧ Aside0 (Below w.heap.size w w')); case atStart => exact ⟨(y225), (Int.tmod a1 a0), (wrap64 (Int.tdiv a1 a0)), rOx, rOx, H', ⟨Nat.le_refl _⟩, ⟨by (with_reducible repeat (first | apply Kd.R_alloc | apply Kd.R_drewN | apply Kd.R_drew)); exact HO227.out⟩, ⟨hBx⟩⟩
  case round =>
   clear H'
   try clear p2
   try clear c5
   try clear c5b0
   try clear c5b1
   try clear c6
   try clear p6
   obtain ⟨x9_1, x10_1, x11_1, rfl, rfl, HA, HK1, HO_9, HB⟩ := hrel; cases gk with
   | zero => exact absurd HA.out (by simp [spec_l16Route.l0])
   | succ k1 =>
    have H := HA.out; clear HA; simp only [spec_l16Route.l0] at H; have HC8 := aM H; clear H; go_upto_region 4 with (fail)
    go_cut [31] (fun v31 wc => ∃ (kq : Nat) (x31_7 : Bool), v31 = .bool x31_7 ∧ Aside0 (spec_l16Route.j1 kq a0 a2 a3 x9_1 x10_1 x11_1 x31_7 = some r) ∧ Aside0 (kq ≤ k1) ∧ Aside0 (Kd.R (Kd.int .i64) 3 wc w.heap.size (fun _ => True) u9 x9_1) ∧ Aside0 (Below w.heap.size w wc)); case first =>
     have H := HC8.out; clear HC8; by_cases c9 : a0 = 0
     ·
      rw [if_pos c9] at H; exact absurd H (by simp)
     ·
      rw [if_neg c9] at H; have c9b0 : (a0 == 0) = false := beq_eq_false_iff_ne.mpr c9; have c9b1 : (a0 != 0) = true := bne_iff_ne.mpr c9
      (first | rw [c9b0] | (simp only [i64_w, i32_w]; rw [c9b0]) | skip)
      by_cases c10 : x10_1 = (Int.tmod a2 a0)
      ·
       rw [if_pos c10] at H; have c10b0 : (x10_1 == (Int.tmod a2 a0)) = true := beq_iff_eq.mpr c10; have c10b1 : (x10_1 != (Int.tmod a2 a0)) = false := bne_eq_false_iff_eq.mpr c10; clear c10; have H' := aM H; clear H; go_wp2; go_meet; case rel => exact ⟨_, ((x11_1 != (wrap64 (Int.tdiv a2 a0)))), rOx, H', ⟨by have := HK1.out; first | omega | exact Nat.le_refl _⟩, ⟨by (with_reducible repeat (first | apply Kd.R_alloc | apply Kd.R_drewN | apply Kd.R_drew)); exact HO_9.out⟩, ⟨hBx⟩⟩
      ·
       rw [if_neg c10] at H; have c10b0 : (x10_1 == (Int.tmod a2 a0)) = false := beq_eq_false_iff_ne.mpr c10; have c10b1 : (x10_1 != (Int.tmod a2 a0)) = true := bne_iff_ne.mpr c10; have H' := aM H; clear H; go_wp2; go_meet; case rel => exact ⟨_, (true), rOx, H', ⟨by have := HK1.out; first | omega | exact Nat.le_refl _⟩, ⟨by (with_reducible repeat (first | apply Kd.R_alloc | apply Kd.R_drewN | apply Kd.R_drew)); exact HO_9.out⟩, ⟨hBx⟩⟩
    case rest =>
     clear HC8
     try clear c1
     try clear p2
     try clear c5
     try clear c5b0
     try clear c5b1
     try clear c6
     try clear p6
     try clear c9
     try clear c9b0
     try clear c9b1
     try clear c10
     try clear c10b0
     try clear c10b1
     try clear p2
     try clear p6
     obtain ⟨kq, x31_7, rfl, HA, HJ7, HO_9, HB⟩ := hcut; cases kq with
     | zero => exact absurd HA.out (by simp [spec_l16Route.j1])
     | succ kj7 =>
      have H := HA.out; clear HA; simp only [spec_l16Route.j1] at H; by_cases c11 : x31_7 = true
      ·
       subst c11; have H1 : (if a0 = 0 then (none) else (if x10_1 = (Int.tmod a2 a0) then (spec_l16Route.j2 kj7 a0 a2 a3 x9_1 x10_1 x11_1 false) else (if a3 = true then (spec_l16Route.j2 kj7 a0 a2 a3 x9_1 x10_1 x11_1 true) else (spec_l16Route.j2 kj7 a0 a2 a3 x9_1 x10_1 x11_1 (x11_1 == (wrap64 (Int.tdiv a2 a0))))))) = some r := by rw [if_pos rfl] at H; exact H
       clear H; have H := H1; clear H1; have HC12 := aM H; clear H; go_upto_region 5 with (fail)
       go_cut [46] (fun v46 wc => ∃ (kq : Nat) (x46_11 : Bool), v46 = .bool x46_11 ∧ Aside0 (spec_l16Route.j2 kq a0 a2 a3 x9_1 x10_1 x11_1 x46_11 = some r) ∧ Aside0 (kq ≤ kj7) ∧ Aside0 (Kd.R (Kd.int .i64) 3 wc w.heap.size (fun _ => True) u9 x9_1) ∧ Aside0 (Below w.heap.size w wc)); case first =>
        have H := HC12.out; clear HC12; by_cases c13 : a0 = 0
        ·
         rw [if_pos c13] at H; exact absurd H (by simp)
        ·
         rw [if_neg c13] at H; have c13b0 : (a0 == 0) = false := beq_eq_false_iff_ne.mpr c13; have c13b1 : (a0 != 0) = true := bne_iff_ne.mpr c13
         (first | rw [c13b0] | (simp only [i64_w, i32_w]; rw [c13b0]) | skip)
         by_cases c14 : x10_1 = (Int.tmod a2 a0)
         ·
          rw [if_pos c14] at H; have c14b0 : (x10_1 == (Int.tmod a2 a0)) = true := beq_iff_eq.mpr c14; have c14b1 : (x10_1 != (Int.tmod a2 a0)) = false := bne_eq_false_iff_eq.mpr c14; clear c14; have H' := aM H; clear H; go_wp2; go_meet; case rel => exact ⟨_, (false), rOx, H', ⟨by have := HK1.out; have := HJ7.out; first | omega | exact Nat.le_refl _⟩, ⟨by (with_reducible repeat (first | apply Kd.R_alloc | apply Kd.R_drewN | apply Kd.R_drew)); exact HO_9.out⟩, ⟨hBx⟩⟩
         ·
          rw [if_neg c14] at H; have c14b0 : (x10_1 == (Int.tmod a2 a0)) = false := beq_eq_false_iff_ne.mpr c14; have c14b1 : (x10_1 != (Int.tmod a2 a0)) = true := bne_iff_ne.mpr c14; by_cases c15 : a3 = true
          ·
           subst c15; have H1 : (spec_l16Route.j2 kj7 a0 a2 true x9_1 x10_1 x11_1 true) = some r := by rw [if_pos rfl] at H; exact H
           clear H; have H := H1; clear H1; have H' := aM H; clear H; go_wp2; go_meet; case rel => exact ⟨_, (true), rOx, H', ⟨by have := HK1.out; have := HJ7.out; first | omega | exact Nat.le_refl _⟩, ⟨by (with_reducible repeat (first | apply Kd.R_alloc | apply Kd.R_drewN | apply Kd.R_drew)); exact HO_9.out⟩, ⟨hBx⟩⟩
          ·
           replace c15 := Bool.eq_false_iff.mpr c15; subst c15; have H1 : (spec_l16Route.j2 kj7 a0 a2 false x9_1 x10_1 x11_1 (x11_1 == (wrap64 (Int.tdiv a2 a0)))) = some r := by rw [if_neg (show ¬ (false = true) by decide)] at H; exact H
           clear H; have H := H1; clear H1; have H' := aM H; clear H; go_wp2; go_meet; case rel => exact ⟨_, ((x11_1 == (wrap64 (Int.tdiv a2 a0)))), rOx, H', ⟨by have := HK1.out; have := HJ7.out; first | omega | exact Nat.le_refl _⟩, ⟨by (with_reducible repeat (first | apply Kd.R_alloc | apply Kd.R_drewN | apply Kd.R_drew)); exact HO_9.out⟩, ⟨hBx⟩⟩
       case rest =>
        clear HC12
        try clear c1
        try clear p2
        try clear c5
        try clear c5b0
        try clear c5b1
        try clear c6
        try clear p6
        try clear c9
        try clear c9b0
        try clear c9b1
        try clear c10
        try clear c10b0
        try clear c10b1
        try clear c11
        try clear c13
        try clear c13b0
        try clear c13b1
        try clear c14
        try clear c14b0
        try clear c14b1
        try clear c15
        try clear p2
        try clear p6
        obtain ⟨kq, x46_11, rfl, HA, HJ11, HO_9, HB⟩ := hcut; cases kq with
        | zero => exact absurd HA.out (by simp [spec_l16Route.j2])
        | succ kj11 =>
         have H := HA.out; clear HA; simp only [spec_l16Route.j2] at H; by_cases c16 : x46_11 = true
         ·
          subst c16; have H1 : (if a0 = 0 then (none) else ((spec_l16Toward.f x10_1 (Int.tmod a2 a0)).bind fun t228 => (if x9_1.length < 17592186044416 then (spec_l16Route.l0 kj11 a0 a2 a3 (x9_1 ++ [wrap64 (t228 + (wrap64 (a0 * x11_1)))]) t228 x11_1) else (none)))) = some r := by rw [if_pos rfl] at H; exact H
          clear H; have H := H1; clear H1; by_cases c17 : a0 = 0
          ·
           rw [if_pos c17] at H; exact absurd H (by simp)
          ·
           rw [if_neg c17] at H; have c17b0 : (a0 == 0) = false := beq_eq_false_iff_ne.mpr c17; have c17b1 : (a0 != 0) = true := bne_iff_ne.mpr c17; replace H := bE H; obtain ⟨t228, A180, H⟩ := H; replace H : (if x9_1.length < 17592186044416 then (spec_l16Route.l0 kj11 a0 a2 a3 (x9_1 ++ [wrap64 (t228 + (wrap64 (a0 * x11_1)))]) t228 x11_1) else (none)) = some r := H; have A18 := aM A180; clear A180; by_cases c19 : x9_1.length < 17592186044416
           ·
            rw [if_pos c19] at H; have LMc19 := aM c19; clear c19; obtain ⟨y229, hy229⟩ : ∃ y_ : List Int, y_ = (x9_1 ++ [wrap64 (t228 + (wrap64 (a0 * x11_1)))]) := ⟨_, rfl⟩
            replace H : (spec_l16Route.l0 kj11 a0 a2 a3 y229 t228 x11_1) = some r := by first | (rw [hy229]; with_reducible exact H) | (have H2_ := (Option.bind_some _ _).symm.trans H; rw [hy229]; with_reducible exact H2_) | (have H2_ := (Option.bind_some _ _).symm.trans H; with_reducible exact H2_) | with_reducible exact H | (rw [hy229]; exact H) | exact H
            have Ny229 := aM hy229; clear hy229; have H' := aM H; clear H
            go_wp2_with (first | ((with_reducible refine gate_callee (f := 79) rfl ?_); refine goesL_ (some 51) rfl rfl Try.func79 (by kernel_rfl) rfl #[.int .i64 x10_1, .int .i64 (Int.tmod a2 a0)] rfl mQx ?_; (with_reducible refine (spec_l16Toward.calls x10_1 (Int.tmod a2 a0) t228 _ A18.out).mono ?_); rintro e w' ⟨rfl, ⟨nd, rfl⟩⟩; refine ⟨_, rfl, ?_⟩) | ((with_reducible refine gate_builtin (b := .append) (xs := #[.tmp 57, .tmp 63]) rfl ?_); at_builtin; refine Kd.R_append (Kd.int .i64) (w0 := w) w.heap.size rfl (.tmp 57) (.tmp 63) 28 3 (.int .i64 0) 8 rfl Try.underlying28 info3 rfl (by decide) (by omega) u9 x9_1 (wrap64 (t228 + (wrap64 (a0 * x11_1)))) [.int .i64 (wrap64 (t228 + (wrap64 (a0 * x11_1))))] (fun _ => True) (fun _ => False) rfl rfl ?aP (fun _ hk => hk.elim) ?aF ?aO ?aB ?aS ?aL ?_; (case aP => exact rfl); (case aB => exact hBx); (case aF => exact (fun _ _ => trivial)); (case aO => exact (by (with_reducible repeat (first | apply Kd.R_alloc | apply Kd.R_drewN | apply Kd.R_drew)); exact HO_9.out)); (case aS => exact (below_size hBx)); (case aL => have := LMc19.out; omega); intro v230 w20 ho hb hg hat; rw [← Ny229.out] at ho; have n0_ := aM (hb); have n1_ := aM (ho); clear HB; clear HO_9; have HB := n0_; have HO231 := n1_; clear n0_ n1_; clear ho hb hg hat))
            go_roundg kj11; case measure => have := HK1.out; have := HJ7.out; have := HJ11.out; omega
            case rel => exact ⟨(y229), (t228), (x11_1), rOx, rOx, H', ⟨by have := HK1.out; have := HJ7.out; have := HJ11.out; omega⟩, ⟨by (with_reducible repeat (first | apply Kd.R_alloc | apply Kd.R_drewN | apply Kd.R_drew)); exact HO231.out⟩, ⟨hBx⟩⟩
           ·
            rw [if_neg c19] at H; exact absurd H (by simp)
         ·
          replace c16 := Bool.eq_false_iff.mpr c16; subst c16; have H1 : (if a0 = 0 then (none) else ((spec_l16Toward.f x11_1 (wrap64 (Int.tdiv a2 a0))).bind fun t232 => (if x9_1.length < 17592186044416 then (spec_l16Route.l0 kj11 a0 a2 a3 (x9_1 ++ [wrap64 (x10_1 + (wrap64 (a0 * t232)))]) x10_1 t232) else (none)))) = some r := by rw [if_neg (show ¬ (false = true) by decide)] at H; exact H
          clear H; have H := H1; clear H1; by_cases c21 : a0 = 0
          ·
           rw [if_pos c21] at H; exact absurd H (by simp)
          ·
           rw [if_neg c21] at H; have c21b0 : (a0 == 0) = false := beq_eq_false_iff_ne.mpr c21; have c21b1 : (a0 != 0) = true := bne_iff_ne.mpr c21; replace H := bE H; obtain ⟨t232, A220, H⟩ := H; replace H : (if x9_1.length < 17592186044416 then (spec_l16Route.l0 kj11 a0 a2 a3 (x9_1 ++ [wrap64 (x10_1 + (wrap64 (a0 * t232)))]) x10_1 t232) else (none)) = some r := H; have A22 := aM A220; clear A220; by_cases c23 : x9_1.length < 17592186044416
           ·
            rw [if_pos c23] at H; have LMc23 := aM c23; clear c23; obtain ⟨y233, hy233⟩ : ∃ y_ : List Int, y_ = (x9_1 ++ [wrap64 (x10_1 + (wrap64 (a0 * t232)))]) := ⟨_, rfl⟩
            replace H : (spec_l16Route.l0 kj11 a0 a2 a3 y233 x10_1 t232) = some r := by first | (rw [hy233]; with_reducible exact H) | (have H2_ := (Option.bind_some _ _).symm.trans H; rw [hy233]; with_reducible exact H2_) | (have H2_ := (Option.bind_some _ _).symm.trans H; with_reducible exact H2_) | with_reducible exact H | (rw [hy233]; exact H) | exact H
            have Ny233 := aM hy233; clear hy233; have H' := aM H; clear H
            go_wp2_with (first | ((with_reducible refine gate_callee (f := 79) rfl ?_); refine goesL_ (some 56) rfl rfl Try.func79 (by kernel_rfl) rfl #[.int .i64 x11_1, .int .i64 (wrap64 (Int.tdiv a2 a0))] rfl mQx ?_; (with_reducible refine (spec_l16Toward.calls x11_1 (wrap64 (Int.tdiv a2 a0)) t232 _ A22.out).mono ?_); rintro e w' ⟨rfl, ⟨nd, rfl⟩⟩; refine ⟨_, rfl, ?_⟩) | ((with_reducible refine gate_builtin (b := .append) (xs := #[.tmp 57, .tmp 63]) rfl ?_); at_builtin; refine Kd.R_append (Kd.int .i64) (w0 := w) w.heap.size rfl (.tmp 57) (.tmp 63) 28 3 (.int .i64 0) 8 rfl Try.underlying28 info3 rfl (by decide) (by omega) u9 x9_1 (wrap64 (x10_1 + (wrap64 (a0 * t232)))) [.int .i64 (wrap64 (x10_1 + (wrap64 (a0 * t232))))] (fun _ => True) (fun _ => False) rfl rfl ?aP (fun _ hk => hk.elim) ?aF ?aO ?aB ?aS ?aL ?_; (case aP => exact rfl); (case aB => exact hBx); (case aF => exact (fun _ _ => trivial)); (case aO => exact (by (with_reducible repeat (first | apply Kd.R_alloc | apply Kd.R_drewN | apply Kd.R_drew)); exact HO_9.out)); (case aS => exact (below_size hBx)); (case aL => have := LMc23.out; omega); intro v234 w24 ho hb hg hat; rw [← Ny233.out] at ho; have n0_ := aM (hb); have n1_ := aM (ho); clear HB; clear HO_9; have HB := n0_; have HO235 := n1_; clear n0_ n1_; clear ho hb hg hat))
            go_roundg kj11; case measure => have := HK1.out; have := HJ7.out; have := HJ11.out; omega
            case rel => exact ⟨(y233), (x10_1), (t232), rOx, rOx, H', ⟨by have := HK1.out; have := HJ7.out; have := HJ11.out; omega⟩, ⟨by (with_reducible repeat (first | apply Kd.R_alloc | apply Kd.R_drewN | apply Kd.R_drew)); exact HO235.out⟩, ⟨hBx⟩⟩
           ·
            rw [if_neg c23] at H; exact absurd H (by simp)
      ·
       replace c11 := Bool.eq_false_iff.mpr c11; subst c11; have H1 : (some x9_1) = some r := by rw [if_neg (show ¬ (false = true) by decide)] at H; exact H
       clear H; have H := H1; clear H1; obtain rfl := Option.some.inj H; go_wp2; go_ret; exact ⟨_, by first | rfl | (simp [*] <;> rfl), by (with_reducible repeat (first | apply Kd.R_alloc | apply Kd.R_drewN | apply Kd.R_drew)); exact HO_9.out, hBx⟩
theorem R_row3 {W : World} {base b : Nat} {x y z : Int} (h : W.heap[b]? = some (.cells #[.int .i64 x, .int .i64 y, .int .i64 z] 3 (0, 0))) (hb : base ≤ b) : Kd.R (Kd.int .i64) 3 W base (fun k => k = b) (.slice (some ⟨b, 0, none⟩) 3 3) [x, y, z] :=
 ⟨fun k hk => (by have e_ : b = k := (by simpa [Value.ownBlock] using hk); exact e_.symm), [.int .i64 x, .int .i64 y, .int .i64 z], ⟨rfl, .inr ⟨b, 3, _, rfl, hb, h, Nat.le_refl _, by unfold maxLen; omega, rfl, rfl⟩⟩,
  Reps.one (show Kd.M (Kd.int .i64) _ _ _ x [.int .i64 x] from rfl) (Reps.one (show Kd.M (Kd.int .i64) _ _ _ y [.int .i64 y] from rfl) (Reps.one (show Kd.M (Kd.int .i64) _ _ _ z [.int .i64 z] from rfl) (Reps.none _ _)))⟩
def lit4 (a w : Int) : List (List Int) := [[0, 1, a], [1, a, w], [a, w, 0], [w, 0, 1]]
theorem push_old {α : Type} (a : Array α) (x : α) (i : Nat) (h : i < a.size) : (a.push x)[i]? = a[i]? := by rw [Array.getElem?_push, if_neg (by omega)]
theorem push_new {α : Type} (a : Array α) (x : α) (i : Nat) (h : i = a.size) : (a.push x)[i]? = some x := by rw [Array.getElem?_push, if_pos h]
theorem lit4_event {P : Program} {ops : Array Oper} {rest : List Oper} {o : Oper} {a : Act} {Q : Exit → Act → World → Prop} {W : World} (x t : Int) (hgd : o.guard = none)
  (hrun : (execOp a.eval o).run P ((((W.alloc (.cells #[.int .i64 0, .int .i64 1, .int .i64 x] 3)).alloc (.cells #[.int .i64 1, .int .i64 x, .int .i64 t] 3)).alloc (.cells #[.int .i64 x, .int .i64 t, .int .i64 0] 3)).alloc (.cells #[.int .i64 t, .int .i64 0, .int .i64 1] 3)) =
   .ok (.value (.slice (some ⟨W.heap.size + 4, 0, none⟩) 4 4)) (((((W.alloc (.cells #[.int .i64 0, .int .i64 1, .int .i64 x] 3)).alloc (.cells #[.int .i64 1, .int .i64 x, .int .i64 t] 3)).alloc (.cells #[.int .i64 x, .int .i64 t, .int .i64 0] 3)).alloc (.cells #[.int .i64 t, .int .i64 0, .int .i64 1] 3)).alloc
    (.cells #[.slice (some ⟨W.heap.size, 0, none⟩) 3 3, .slice (some ⟨W.heap.size + 1, 0, none⟩) 3 3, .slice (some ⟨W.heap.size + 2, 0, none⟩) 3 3, .slice (some ⟨W.heap.size + 3, 0, none⟩) 3 3] 28)))
  (h : ∀ u w1, Kd.S (Kd.slice 3 (Kd.int .i64)) 28 w1 W.heap.size (fun _ => True) u (lit4 x t) → Below W.heap.size W w1 → wpList P ops Q rest (a.put o.dst u) w1) : wpList P ops Q (o :: rest) a ((((W.alloc (.cells #[.int .i64 0, .int .i64 1, .int .i64 x] 3)).alloc (.cells #[.int .i64 1, .int .i64 x, .int .i64 t] 3)).alloc (.cells #[.int .i64 x, .int .i64 t, .int .i64 0] 3)).alloc (.cells #[.int .i64 t, .int .i64 0, .int .i64 1] 3)) := by
 refine Kd.event_run hgd hrun (h _ _ ?_ (bA (bA (bA (bA (bA (Below.refl _ _) _) _) _) _) _)); generalize hO0 : (Obj.cells #[.int .i64 0, .int .i64 1, .int .i64 x] 3) = o0; generalize hO1 : (Obj.cells #[.int .i64 1, .int .i64 x, .int .i64 t] 3) = o1; generalize hO2 : (Obj.cells #[.int .i64 x, .int .i64 t, .int .i64 0] 3) = o2; generalize hO3 : (Obj.cells #[.int .i64 t, .int .i64 0, .int .i64 1] 3) = o3; generalize hO4 : (Obj.cells #[.slice (some ⟨W.heap.size, 0, none⟩) 3 3, .slice (some ⟨W.heap.size + 1, 0, none⟩) 3 3, .slice (some ⟨W.heap.size + 2, 0, none⟩) 3 3, .slice (some ⟨W.heap.size + 3, 0, none⟩) 3 3] 28) = o4; have hh : (((((W.alloc o0).alloc o1).alloc o2).alloc o3).alloc o4).heap = ((((W.heap.push o0).push o1).push o2).push o3).push o4 := rfl
 have g0 : (((((W.alloc o0).alloc o1).alloc o2).alloc o3).alloc o4).heap[W.heap.size]? = some o0 := by rw [hh]; exact (push_old _ _ _ (by simp only [Array.size_push]; omega)).trans ((push_old _ _ _ (by simp only [Array.size_push]; omega)).trans ((push_old _ _ _ (by simp only [Array.size_push]; omega)).trans ((push_old _ _ _ (by simp only [Array.size_push]; omega)).trans (push_new _ _ _ (by simp only [Array.size_push])))))
 have g1 : (((((W.alloc o0).alloc o1).alloc o2).alloc o3).alloc o4).heap[W.heap.size + 1]? = some o1 := by rw [hh]; exact (push_old _ _ _ (by simp only [Array.size_push]; omega)).trans ((push_old _ _ _ (by simp only [Array.size_push]; omega)).trans ((push_old _ _ _ (by simp only [Array.size_push]; omega)).trans (push_new _ _ _ (by simp only [Array.size_push]))))
 have g2 : (((((W.alloc o0).alloc o1).alloc o2).alloc o3).alloc o4).heap[W.heap.size + 2]? = some o2 := by rw [hh]; exact (push_old _ _ _ (by simp only [Array.size_push]; omega)).trans ((push_old _ _ _ (by simp only [Array.size_push]; omega)).trans (push_new _ _ _ (by simp only [Array.size_push])))
 have g3 : (((((W.alloc o0).alloc o1).alloc o2).alloc o3).alloc o4).heap[W.heap.size + 3]? = some o3 := by rw [hh]; exact (push_old _ _ _ (by simp only [Array.size_push]; omega)).trans (push_new _ _ _ (by simp only [Array.size_push]))
 have g4 : (((((W.alloc o0).alloc o1).alloc o2).alloc o3).alloc o4).heap[W.heap.size + 4]? = some o4 := by rw [hh]; exact push_new _ _ _ (by simp only [Array.size_push])
 generalize (((((W.alloc o0).alloc o1).alloc o2).alloc o3).alloc o4) = W5 at g0 g1 g2 g3 g4; subst hO0 hO1 hO2 hO3 hO4; have r0 := R_row3 g0 (Nat.le_refl W.heap.size); have r1 := R_row3 g1 (show W.heap.size ≤ W.heap.size + 1 by omega); have r2 := R_row3 g2 (show W.heap.size ≤ W.heap.size + 2 by omega); have r3 := R_row3 g3 (show W.heap.size ≤ W.heap.size + 3 by omega); refine ⟨fun k => k - W.heap.size, fun _ _ => trivial, [.slice (some ⟨W.heap.size, 0, none⟩) 3 3, .slice (some ⟨W.heap.size + 1, 0, none⟩) 3 3, .slice (some ⟨W.heap.size + 2, 0, none⟩) 3 3, .slice (some ⟨W.heap.size + 3, 0, none⟩) 3 3], ⟨rfl, .inr ⟨W.heap.size + 4, 4, _, rfl, by omega, g4, Nat.le_refl _, by unfold maxLen; omega, rfl, rfl⟩⟩, ?_⟩; have hne : ∀ k j : Nat, j < 4 → k = W.heap.size + j → some k ≠ (Value.slice (some ⟨W.heap.size + 4, 0, none⟩) 4 4).ownBlock := by
  intro k j hj e e2; have : k = W.heap.size + 4 := by simpa [Value.ownBlock] using e2
  omega
 refine ⟨rfl, fun j p hp => ?_⟩
 match j, hp with
 | 0, hp =>
  obtain rfl : ([0, 1, x], 0) = p := by simpa [lit4] using hp
  exact ⟨_, rfl, Kd.R_mono r0 (fun k hk => ⟨⟨trivial, hne k 0 (by omega) hk⟩, by show k - W.heap.size = _; omega⟩)⟩
 | 1, hp =>
  obtain rfl : ([1, x, t], 1) = p := by simpa [lit4] using hp
  exact ⟨_, rfl, Kd.R_mono r1 (fun k hk => ⟨⟨trivial, hne k 1 (by omega) hk⟩, by show k - W.heap.size = _; omega⟩)⟩
 | 2, hp =>
  obtain rfl : ([x, t, 0], 2) = p := by simpa [lit4] using hp
  exact ⟨_, rfl, Kd.R_mono r2 (fun k hk => ⟨⟨trivial, hne k 2 (by omega) hk⟩, by show k - W.heap.size = _; omega⟩)⟩
 | 3, hp =>
  obtain rfl : ([t, 0, 1], 3) = p := by simpa [lit4] using hp
  exact ⟨_, rfl, Kd.R_mono r3 (fun k hk => ⟨⟨trivial, hne k 3 (by omega) hk⟩, by show k - W.heap.size = _; omega⟩)⟩
 | j + 4, hp => simp [lit4] at hp
def spec_l16Draw.lit (w : Int) : List (List Int) := lit4 (wrap64 (1 + w)) w
mutual
def spec_l16Draw.l0 : Nat → Int → Int → List (List Int) → Int → Int → List Int → Int → Option (Int × Int × (List (List Int)) × Int)
 | 0, _, _, _, _, _, _, _ => none
 | k + 1, x5, x6, x7, x8, x9, x1000, x1001 => if x9 > 0 then ((spec_l16Fabric.f x5 x6).bind fun t249 => (spec_l16Draw.j1 k x5 x6 x7 x8 x9 t249 x1000 x1001)) else (spec_l16Draw.j1 k x5 x6 x7 x8 x9 false x1000 x1001)
def spec_l16Draw.j1 : Nat → Int → Int → List (List Int) → Int → Int → Bool → List Int → Int → Option (Int × Int × (List (List Int)) × Int)
 | 0, _, _, _, _, _, _, _, _ => none
 | k + 1, x5, x6, x7, x8, x9, x29, x1000, x1001 => if x29 = true then ((spec_l21Rd_pick.f k x1000 x1001 (wrap64 (x5 * x6))).bind fun bt250 => ((spec_l21Rd_pick.f k x1000 bt250.2 (wrap64 (x5 * x6))).bind fun bt252 => (if x8 = 0 then ((spec_l16Route.f k x5 bt250.1 bt252.1 true).bind fun t254 => (if x7.length < 5864062014805 then (spec_l16Draw.l0 k x5 x6 (x7 ++ [t254]) x8 (wrap64 (x9 - 1)) x1000 bt252.2) else (none))) else (if x8 = 1 then ((spec_l21Rd_pick.f k x1000 bt252.2 2).bind fun bt260 => ((spec_l16Route.f k x5 bt250.1 bt252.1 (bt260.1 == 0)).bind fun t262 => (if x7.length < 5864062014805 then (spec_l16Draw.l0 k x5 x6 (x7 ++ [t262]) x8 (wrap64 (x9 - 1)) x1000 bt260.2) else (none)))) else ((spec_l16Walk.f k x1000 bt252.2 x5 x6).bind fun bt268 => (if x7.length < 5864062014805 then (spec_l16Draw.l0 k x5 x6 (x7 ++ [bt268.1]) x8 (wrap64 (x9 - 1)) x1000 bt268.2) else (none))))))) else (if x8 = 3 then (if x5 > 1 then (spec_l16Draw.j2 k x5 x6 x7 (decide (x6 > 1)) x1000 x1001) else (spec_l16Draw.j2 k x5 x6 x7 false x1000 x1001)) else (spec_l16Draw.j2 k x5 x6 x7 false x1000 x1001))
def spec_l16Draw.j2 : Nat → Int → Int → List (List Int) → Bool → List Int → Int → Option (Int × Int × (List (List Int)) × Int)
 | 0, _, _, _, _, _, _ => none
 | k + 1, x5, x6, x7, x80, x1000, x1001 => if x80 = true then ((spec_l21Rd_pick.f k x1000 x1001 25).bind fun bt275 => (if bt275.1 = 0 then (if (spec_l16Draw.lit x5).length < 5864062014805 then (some (x5, x6, ((spec_l16Draw.lit x5) ++ [(([0, wrap64 ((wrap64 (x5 * x6)) + 1)] : List Int))]), bt275.2)) else (none)) else (some (x5, x6, (spec_l16Draw.lit x5), bt275.2)))) else ((spec_l21Rd_pick.f k x1000 x1001 25).bind fun bt283 => (if bt283.1 = 0 then (if x7.length < 5864062014805 then (some (x5, x6, (x7 ++ [(([0, wrap64 ((wrap64 (x5 * x6)) + 1)] : List Int))]), bt283.2)) else (none)) else (some (x5, x6, x7, bt283.2))))
end
def spec_l16Draw.f (k : Nat) (s0_0 : List Int) (s0_1 : Int) : Option (Int × Int × (List (List Int)) × Int) := (spec_l16Size.f k s0_0 s0_1).bind fun bt236 => ((spec_l21Rd_pick.f k s0_0 bt236.2.2 4).bind fun bt242 => ((spec_l21Rd_num.f k s0_0 bt242.2 (([4, 2, 6, 1, 0, 12] : List Int))).bind fun bt247 => (spec_l16Draw.l0 k bt236.1 bt236.2.1 (([] : List (List Int))) bt242.1 bt247.1 s0_0 bt247.2)))
theorem spec_l16Draw.mono_l : ∀ k, (∀ y0 y1 y2 y3 y4 y5 y6, LeO (spec_l16Draw.l0 k y0 y1 y2 y3 y4 y5 y6) (spec_l16Draw.l0 (k + 1) y0 y1 y2 y3 y4 y5 y6)) ∧ (∀ y0 y1 y2 y3 y4 y5 y6 y7, LeO (spec_l16Draw.j1 k y0 y1 y2 y3 y4 y5 y6 y7) (spec_l16Draw.j1 (k + 1) y0 y1 y2 y3 y4 y5 y6 y7)) ∧ (∀ y0 y1 y2 y3 y4 y5, LeO (spec_l16Draw.j2 k y0 y1 y2 y3 y4 y5) (spec_l16Draw.j2 (k + 1) y0 y1 y2 y3 y4 y5))
 | 0 => ⟨fun _ _ _ _ _ _ _ r h => by simp [spec_l16Draw.l0] at h, fun _ _ _ _ _ _ _ _ r h => by simp [spec_l16Draw.j1] at h, fun _ _ _ _ _ _ r h => by simp [spec_l16Draw.j2] at h⟩
 | k + 1 => by
  obtain ⟨ih0, ih1, ih2⟩ := spec_l16Draw.mono_l k; refine ⟨?_, ?_, ?_⟩
  ·
   intro y0 y1 y2 y3 y4 y5 y6; unfold spec_l16Draw.l0
   repeat' first
   | (with_reducible exact ih0 _ _ _ _ _ _ _)
   | (with_reducible exact ih1 _ _ _ _ _ _ _ _)
   | (with_reducible exact ih2 _ _ _ _ _ _)
   | (with_reducible exact spec_l16Route.mono _ _ _ _ _)
   | (with_reducible exact spec_l16Size.mono _ _ _)
   | (with_reducible exact spec_l16Walk.mono _ _ _ _ _)
   | (with_reducible exact spec_l21Rd_num.mono _ _ _ _)
   | (with_reducible exact spec_l21Rd_pick.mono _ _ _ _)
   | (with_reducible exact LeO.refl _)
   | (with_reducible exact LeO.none _)
   | (with_reducible refine LeO.ite ?_ ?_)
   | (with_reducible refine LeO.bind ?_ (fun _ => ?_))
   | exact ih0 _ _ _ _ _ _ _
   | exact ih1 _ _ _ _ _ _ _ _
   | exact ih2 _ _ _ _ _ _
   | exact spec_l16Route.mono _ _ _ _ _
   | exact spec_l16Size.mono _ _ _
   | exact spec_l16Walk.mono _ _ _ _ _
   | exact spec_l21Rd_num.mono _ _ _ _
   | exact spec_l21Rd_pick.mono _ _ _ _
   | exact LeO.none _
   | refine LeO.ite ?_ ?_
   | refine LeO.bind ?_ (fun _ => ?_)
  ·
   intro y0 y1 y2 y3 y4 y5 y6 y7; unfold spec_l16Draw.j1
   repeat' first
   | (with_reducible exact ih0 _ _ _ _ _ _ _)
   | (with_reducible exact ih1 _ _ _ _ _ _ _ _)
   | (with_reducible exact ih2 _ _ _ _ _ _)
   | (with_reducible exact spec_l16Route.mono _ _ _ _ _)
   | (with_reducible exact spec_l16Size.mono _ _ _)
   | (with_reducible exact spec_l16Walk.mono _ _ _ _ _)
   | (with_reducible exact spec_l21Rd_num.mono _ _ _ _)
   | (with_reducible exact spec_l21Rd_pick.mono _ _ _ _)
   | (with_reducible exact LeO.refl _)
   | (with_reducible exact LeO.none _)
   | (with_reducible refine LeO.ite ?_ ?_)
   | (with_reducible refine LeO.bind ?_ (fun _ => ?_))
   | exact ih0 _ _ _ _ _ _ _
   | exact ih1 _ _ _ _ _ _ _ _
   | exact ih2 _ _ _ _ _ _
   | exact spec_l16Route.mono _ _ _ _ _
   | exact spec_l16Size.mono _ _ _
   | exact spec_l16Walk.mono _ _ _ _ _
   | exact spec_l21Rd_num.mono _ _ _ _
   | exact spec_l21Rd_pick.mono _ _ _ _
   | exact LeO.none _
   | refine LeO.ite ?_ ?_
   | refine LeO.bind ?_ (fun _ => ?_)
  ·
   intro y0 y1 y2 y3 y4 y5; unfold spec_l16Draw.j2
   repeat' first
   | (with_reducible exact ih0 _ _ _ _ _ _ _)
   | (with_reducible exact ih1 _ _ _ _ _ _ _ _)
   | (with_reducible exact ih2 _ _ _ _ _ _)
   | (with_reducible exact spec_l16Route.mono _ _ _ _ _)
   | (with_reducible exact spec_l16Size.mono _ _ _)
   | (with_reducible exact spec_l16Walk.mono _ _ _ _ _)
   | (with_reducible exact spec_l21Rd_num.mono _ _ _ _)
   | (with_reducible exact spec_l21Rd_pick.mono _ _ _ _)
   | (with_reducible exact LeO.refl _)
   | (with_reducible exact LeO.none _)
   | (with_reducible refine LeO.ite ?_ ?_)
   | (with_reducible refine LeO.bind ?_ (fun _ => ?_))
   | exact ih0 _ _ _ _ _ _ _
   | exact ih1 _ _ _ _ _ _ _ _
   | exact ih2 _ _ _ _ _ _
   | exact spec_l16Route.mono _ _ _ _ _
   | exact spec_l16Size.mono _ _ _
   | exact spec_l16Walk.mono _ _ _ _ _
   | exact spec_l21Rd_num.mono _ _ _ _
   | exact spec_l21Rd_pick.mono _ _ _ _
   | exact LeO.none _
   | refine LeO.ite ?_ ?_
   | refine LeO.bind ?_ (fun _ => ?_)
theorem spec_l16Draw.mono : ∀ a0 a1 k, LeO (spec_l16Draw.f k a0 a1) (spec_l16Draw.f (k + 1) a0 a1) := by
 intro a0 a1 k; obtain ⟨ih0, ih1, ih2⟩ := spec_l16Draw.mono_l k; unfold spec_l16Draw.f
 repeat' first
   | (with_reducible exact ih0 _ _ _ _ _ _ _)
   | (with_reducible exact ih1 _ _ _ _ _ _ _ _)
   | (with_reducible exact ih2 _ _ _ _ _ _)
   | (with_reducible exact spec_l16Route.mono _ _ _ _ _)
   | (with_reducible exact spec_l16Size.mono _ _ _)
   | (with_reducible exact spec_l16Walk.mono _ _ _ _ _)
   | (with_reducible exact spec_l21Rd_num.mono _ _ _ _)
   | (with_reducible exact spec_l21Rd_pick.mono _ _ _ _)
   | (with_reducible exact LeO.refl _)
   | (with_reducible exact LeO.none _)
   | (with_reducible refine LeO.ite ?_ ?_)
   | (with_reducible refine LeO.bind ?_ (fun _ => ?_))
   | exact ih0 _ _ _ _ _ _ _
   | exact ih1 _ _ _ _ _ _ _ _
   | exact ih2 _ _ _ _ _ _
   | exact spec_l16Route.mono _ _ _ _ _
   | exact spec_l16Size.mono _ _ _
   | exact spec_l16Walk.mono _ _ _ _ _
   | exact spec_l21Rd_num.mono _ _ _ _
   | exact spec_l21Rd_pick.mono _ _ _ _
   | exact LeO.none _
   | refine LeO.ite ?_ ?_
   | refine LeO.bind ?_ (fun _ => ?_)
set_option maxHeartbeats 8000000 in
set_option maxRecDepth 100000 in
theorem spec_l16Draw.calls (k : Nat) (g : Nat) (s0_0 : List Int) (s0_1 : Int) (r1 : Int) (r2 : Int) (r3 : List (List Int)) (r4 : Int) (w0 w : World) (hI : IsS77 w0 w g s0_0 s0_1) (hB : Below w0.heap.size w0 w) (h : spec_l16Draw.f k s0_0 s0_1 = some (r1, r2, r3, r4)) :
  Calls Try.prog 32 #[.pointer (some ⟨g, 0, none⟩)] w fun e w' => ∃ v2_ : Value, e = .returned (.tuple #[.int .i64 r1, .int .i64 r2, v2_]) ∧ Kd.S (Kd.slice 3 (Kd.int .i64)) 28 w' w.heap.size (fun _ => True) v2_ r3 ∧ IsS77 w0 w' g s0_0 r4 ∧ Below w0.heap.size w0 w' ∧ KeepBut w w' g none := by
 have HI0 := aM hI; have HK := aM (KeepBut.refl w g none); have HL := aM hB.size; clear hI; have HW0 := aM hB.size; have HB := aM hB; clear hB; have H : ((spec_l16Size.f k s0_0 s0_1).bind fun bt236 => ((spec_l21Rd_pick.f k s0_0 bt236.2.2 4).bind fun bt242 => ((spec_l21Rd_num.f k s0_0 bt242.2 (([4, 2, 6, 1, 0, 12] : List Int))).bind fun bt247 => (spec_l16Draw.l0 k bt236.1 bt236.2.1 (([] : List (List Int))) bt242.1 bt247.1 s0_0 bt247.2)))) = some (r1, r2, r3, r4) := h; clear h; replace H := bE H; obtain ⟨⟨t236, t237, t238⟩, A20, H⟩ := H; replace H : ((spec_l21Rd_pick.f k s0_0 t238 4).bind fun bt242 => ((spec_l21Rd_num.f k s0_0 bt242.2 (([4, 2, 6, 1, 0, 12] : List Int))).bind fun bt247 => (spec_l16Draw.l0 k t236 t237 (([] : List (List Int))) bt242.1 bt247.1 s0_0 bt247.2))) = some (r1, r2, r3, r4) := H; have A2 := aM A20; clear A20
 obtain ⟨y239, hy239⟩ : ∃ y_ : List (List Int), y_ = (([] : List (List Int))) := ⟨_, rfl⟩
 replace H : ((spec_l21Rd_pick.f k s0_0 t238 4).bind fun bt242 => ((spec_l21Rd_num.f k s0_0 bt242.2 (([4, 2, 6, 1, 0, 12] : List Int))).bind fun bt247 => (spec_l16Draw.l0 k t236 t237 y239 bt242.1 bt247.1 s0_0 bt247.2))) = some (r1, r2, r3, r4) := by first | (rw [hy239]; with_reducible exact H) | (have H2_ := (Option.bind_some _ _).symm.trans H; rw [hy239]; with_reducible exact H2_) | (have H2_ := (Option.bind_some _ _).symm.trans H; with_reducible exact H2_) | with_reducible exact H | (rw [hy239]; exact H) | exact H
 have Ny239 := aM hy239; clear hy239; replace H := bE H; obtain ⟨⟨t242, t243⟩, A30, H⟩ := H; replace H : ((spec_l21Rd_num.f k s0_0 t243 (([4, 2, 6, 1, 0, 12] : List Int))).bind fun bt247 => (spec_l16Draw.l0 k t236 t237 y239 t242 bt247.1 s0_0 bt247.2)) = some (r1, r2, r3, r4) := H; have A3 := aM A30; clear A30; obtain ⟨y244, hy244⟩ : ∃ y_ : List Int, y_ = (([4, 2, 6, 1, 0, 12] : List Int)) := ⟨_, rfl⟩
 replace H : ((spec_l21Rd_num.f k s0_0 t243 y244).bind fun bt247 => (spec_l16Draw.l0 k t236 t237 y239 t242 bt247.1 s0_0 bt247.2)) = some (r1, r2, r3, r4) := by first | (rw [hy244]; with_reducible exact H) | (have H2_ := (Option.bind_some _ _).symm.trans H; rw [hy244]; with_reducible exact H2_) | (have H2_ := (Option.bind_some _ _).symm.trans H; with_reducible exact H2_) | with_reducible exact H | (rw [hy244]; exact H) | exact H
 have Ny244 := aM hy244; clear hy244; replace H := bE H; obtain ⟨⟨t247, t248⟩, A40, H⟩ := H; replace H : (spec_l16Draw.l0 k t236 t237 y239 t242 t247 s0_0 t248) = some (r1, r2, r3, r4) := H; have A4 := aM A40; clear A40; have H' := aM H; clear H; go_enter Try.func32, Try.ntmps32
 go_wp2_with (first | ((with_reducible refine gate_callee (f := 48) rfl ?_); refine goesL_ (some 14) rfl rfl Try.func48 (by kernel_rfl) rfl #[.pointer (some ⟨g, 0, none⟩)] rfl mQx ?_; (with_reducible refine (spec_l16Size.calls k g s0_0 s0_1 t236 t237 t238 w0 _ ?side1 ?side2 A2.out).mono ?_); (case side1 => exact hIx); (case side2 => exact hSx); rintro e w5 ⟨rfl, hi, hb, hk⟩; refine ⟨_, rfl, ?_⟩; have n0_ := aM (KeepBut.trans hKx hk (.inl rfl)); have n1_ := aM (hb); have n2_ := aM (hi); clear HK; clear HB; clear HI0; have HK := n0_; have HB := n1_; have HI0 := n2_; clear n0_ n1_ n2_; (try clear hb); (try clear hb2); (try clear hk); (try clear hi)) | ((with_reducible refine gate_dst (N := 17) rfl ?_); refine Kd.S_lit (Kd.slice 3 (Kd.int .i64)) _ 28 ?hg (N := 17) ?hd (xs := ([] : List (List Int))) (inner := []) (ok := fun _ => True) (okp := fun _ => True) ?hr ?hp (fun _ hk => hk) trivial (Below.refl _ _) (Nat.le_refl _) (by simp) ?_; (case hd => rfl); (case hg => rfl); (case hr => first | (go_simp; done) | (go_simp; rfl)); (case hp => exact (Reps.none _ _)); intro v240 w6 ho7 hb hg_ hnew_; clear hg_ hnew_; (first | rw [← Ny239.out] at ho7 | (simp only [Int.reduceToNat] at ho7; rw [← Ny239.out] at ho7)); have n0_ := aM (Kd.S_lower ho7 (keep_size (w := w) (g := g) (row := none) hKx)); have n1_ := aM (IsS77.below hIx hb); have n2_ := aM (KeepBut.trans hKx (KeepBut.of_below hb g none) (.inl rfl)); have n3_ := aM (below_step hSx hb); clear HI0; clear HK; clear HB; have HO241 := n0_; have HI0 := n1_; have HK := n2_; have HB := n3_; clear n0_ n1_ n2_ n3_; clear hb ho7) | ((with_reducible refine gate_callee (f := 51) rfl ?_); refine goesL_ (some 19) rfl rfl Try.func51 (by kernel_rfl) rfl #[.pointer (some ⟨g, 0, none⟩), .int .i64 4] rfl mQx ?_; (with_reducible refine (spec_l21Rd_pick.calls k g s0_0 t238 4 t242 t243 w0 _ ?side1 ?side2 A3.out).mono ?_); (case side1 => exact hIx); (case side2 => exact hSx); rintro e w8 ⟨rfl, hi, hb, hk⟩; refine ⟨_, rfl, ?_⟩; have n0_ := aM (Kd.S_mono (Kd.S_keep (IsS77.apartS (show IsS77 w0 _ g s0_0 t238 from hIx) (by (with_reducible repeat (first | apply Kd.S_alloc | apply Kd.S_drewN | apply Kd.S_drew)); exact HO241.out) (by decide)) hk (fun _ h => h.2)) (fun _ h => h.1)); have n1_ := aM (KeepBut.trans hKx hk (.inl rfl)); have n2_ := aM (hb); have n3_ := aM (hi); clear HO241; clear HK; clear HB; clear HI0; have HO241 := n0_; have HK := n1_; have HB := n2_; have HI0 := n3_; clear n0_ n1_ n2_ n3_; (try clear hb); (try clear hb2); (try clear hk); (try clear hi)) | ((with_reducible refine gate_dst (N := 21) rfl ?_); refine Kd.R_lit (Kd.int .i64) _ 3 ?hg (N := 21) ?hd (xs := ([4, 2, 6, 1, 0, 12] : List Int)) (inner := [.int .i64 4, .int .i64 2, .int .i64 6, .int .i64 1, .int .i64 0, .int .i64 12]) (ok := fun _ => True) (okp := fun _ => True) ?hr ?hp (fun _ hk => hk) trivial (Below.refl _ _) (Nat.le_refl _) (by simp) ?_; (case hd => rfl); (case hg => rfl); (case hr => first | (go_simp; done) | (go_simp; rfl)); (case hp => exact (Reps.one (show Kd.M (Kd.int .i64) _ _ _ 4 [.int .i64 4] from rfl) (Reps.one (show Kd.M (Kd.int .i64) _ _ _ 2 [.int .i64 2] from rfl) (Reps.one (show Kd.M (Kd.int .i64) _ _ _ 6 [.int .i64 6] from rfl) (Reps.one (show Kd.M (Kd.int .i64) _ _ _ 1 [.int .i64 1] from rfl) (Reps.one (show Kd.M (Kd.int .i64) _ _ _ 0 [.int .i64 0] from rfl) (Reps.one (show Kd.M (Kd.int .i64) _ _ _ 12 [.int .i64 12] from rfl) (Reps.none _ _)))))))); intro v245 w9 ho10 hb hg_ hnew_; clear hg_ hnew_; (first | rw [← Ny244.out] at ho10 | (simp only [Int.reduceToNat] at ho10; rw [← Ny244.out] at ho10)); have n0_ := aM (Kd.S_elder' (by (with_reducible repeat (first | apply Kd.S_alloc | apply Kd.S_drewN | apply Kd.S_drew)); exact HO241.out) (Kd.R_base ho10) hb); have n1_ := aM (Kd.R_lower ho10 (keep_size (w := w) (g := g) (row := none) hKx)); have n2_ := aM (IsS77.below hIx hb); have n3_ := aM (KeepBut.trans hKx (KeepBut.of_below hb g none) (.inl rfl)); have n4_ := aM (below_step hSx hb); clear HO241; clear HI0; clear HK; clear HB; have HO241 := n0_; have HO246 := n1_; have HI0 := n2_; have HK := n3_; have HB := n4_; clear n0_ n1_ n2_ n3_ n4_; clear hb ho10; obtain ⟨Ao11, co11, eo11⟩ := Kd.R_slice HO246.out; subst eo11) | ((with_reducible refine gate_callee (f := 61) rfl ?_); refine goesL_ (some 22) rfl rfl Try.func61 (by kernel_rfl) rfl #[.pointer (some ⟨g, 0, none⟩), .slice Ao11 y244.length co11] rfl mQx ?_; (with_reducible refine (spec_l21Rd_num.calls k g s0_0 t243 _ _ y244 t247 t248 w0 _ ?side1 ?side2 ?side3 ?side4 ?side5 A4.out).mono ?_); (case side1 => exact hIx); (case side2 => exact hSx); (case side3 => repeat (first | exact (Kd.R_reads' HO246.out).2.2 | (with_reducible refine Kd.C_alloc ?_ _) | (with_reducible refine Kd.C_drewN ?_ _) | (with_reducible refine Kd.C_drew ?_))); (case side4 => exact (Kd.R_reads' HO246.out).2.1); (case side5 => exact far_slice (IsS77.own_ne HI0.out HO246.out (by decide))); rintro e w12 ⟨rfl, hi, hb, hk⟩; refine ⟨_, rfl, ?_⟩; have n0_ := aM (Kd.S_mono (Kd.S_keep (IsS77.apartS (show IsS77 w0 _ g s0_0 t243 from hIx) (by (with_reducible repeat (first | apply Kd.S_alloc | apply Kd.S_drewN | apply Kd.S_drew)); exact HO241.out) (by decide)) hk (fun _ h => h.2)) (fun _ h => h.1)); have n1_ := aM (Kd.R_mono (Kd.R_keep (IsS77.apart (show IsS77 w0 _ g s0_0 t243 from hIx) (by (with_reducible repeat (first | apply Kd.R_alloc | apply Kd.R_drewN | apply Kd.R_drew)); exact HO246.out) (by decide)) hk (fun _ h => h.2)) (fun _ h => h.1)); have n2_ := aM (KeepBut.trans hKx hk (.inl rfl)); have n3_ := aM (hb); have n4_ := aM (hi); clear HO241; clear HO246; clear HK; clear HB; clear HI0; have HO241 := n0_; have HO246 := n1_; have HK := n2_; have HB := n3_; have HI0 := n4_; clear n0_ n1_ n2_ n3_ n4_; (try clear hb); (try clear hb2); (try clear hk); (try clear hi)))
 go_loopg [7, 9] k (fun kq v7 v9 w' => ∃ (x7_1 : List (List Int)) (x9_1 : Int) (x1001_1 : Int), v9 = .int .i64 x9_1 ∧ Aside0 (spec_l16Draw.l0 kq t236 t237 x7_1 t242 x9_1 s0_0 x1001_1 = some (r1, r2, r3, r4)) ∧ Aside0 (kq ≤ k) ∧ Aside0 (Kd.S (Kd.slice 3 (Kd.int .i64)) 28 w' w.heap.size (fun _ => True) v7 x7_1) ∧ Aside0 (IsS77 w0 w' g s0_0 x1001_1) ∧ Aside0 (KeepBut w w' g none) ∧ Aside0 (Below w0.heap.size w0 w')); case atStart => exact ⟨(y239), (t247), (t248), rOx, H', ⟨Nat.le_refl _⟩, ⟨by (with_reducible repeat (first | apply Kd.S_alloc | apply Kd.S_drewN | apply Kd.S_drew)); exact Kd.S_mono HO241.out (fun _ hk => trivial)⟩, ⟨hIx⟩, ⟨hKx⟩, ⟨hSx⟩⟩
 case round =>
  clear H'
  try clear p2
  try clear c3
  try clear c4
  try clear c5
  try clear c6
  obtain ⟨x7_1, x9_1, x1001_1, rfl, HA, HK1, HO_7, HI0, HK, HB⟩ := hrel; cases gk with
  | zero => exact absurd HA.out (by simp [spec_l16Draw.l0])
  | succ k1 =>
   have H := HA.out; clear HA; simp only [spec_l16Draw.l0] at H; have HC13 := aM H; clear H; go_upto_region 5 with (fail)
   go_cut [29] (fun v29 wc => ∃ (kq : Nat) (x29_12 : Bool), v29 = .bool x29_12 ∧ Aside0 (spec_l16Draw.j1 kq t236 t237 x7_1 t242 x9_1 x29_12 s0_0 x1001_1 = some (r1, r2, r3, r4)) ∧ Aside0 (kq ≤ k1) ∧ Aside0 (Kd.S (Kd.slice 3 (Kd.int .i64)) 28 wc w.heap.size (fun _ => True) u7 x7_1) ∧ Aside0 (IsS77 w0 wc g s0_0 x1001_1) ∧ Aside0 (KeepBut w wc g none) ∧ Aside0 (Below w0.heap.size w0 wc)); case first =>
    have H := HC13.out; clear HC13; by_cases c14 : x9_1 > 0
    ·
     rw [if_pos c14] at H; have c14b0 : decide (0 < x9_1) = true := decide_eq_true c14; clear c14
     (first | rw [c14b0] | (simp only [i64_w, i32_w]; rw [c14b0]) | skip)
     replace H := bE H; obtain ⟨t249, A150, H⟩ := H; replace H : (spec_l16Draw.j1 k1 t236 t237 x7_1 t242 x9_1 t249 s0_0 x1001_1) = some (r1, r2, r3, r4) := H; have A15 := aM A150; clear A150; have H' := aM H; clear H; go_wp2_with (first | (go_at_call 49; (with_reducible refine (spec_l16Fabric.calls t236 t237 t249 _ A15.out).mono ?_); rintro e w' ⟨rfl, ⟨nd, rfl⟩⟩)); go_meet; case rel => exact ⟨_, (t249), rOx, H', ⟨by have := HK1.out; first | omega | exact Nat.le_refl _⟩, ⟨by (with_reducible repeat (first | apply Kd.S_alloc | apply Kd.S_drewN | apply Kd.S_drew)); exact HO_7.out⟩, ⟨hIx⟩, ⟨hKx⟩, ⟨hSx⟩⟩
    ·
     rw [if_neg c14] at H; have c14b0 : decide (0 < x9_1) = false := decide_eq_false c14; clear c14
     (first | rw [c14b0] | (simp only [i64_w, i32_w]; rw [c14b0]) | skip)
     have H' := aM H; clear H; go_wp2; go_meet; case rel => exact ⟨_, (false), rOx, H', ⟨by have := HK1.out; first | omega | exact Nat.le_refl _⟩, ⟨by (with_reducible repeat (first | apply Kd.S_alloc | apply Kd.S_drewN | apply Kd.S_drew)); exact HO_7.out⟩, ⟨hIx⟩, ⟨hKx⟩, ⟨hSx⟩⟩
   case rest =>
    clear HC13
    try clear c1
    try clear p2
    try clear c3
    try clear c4
    try clear c5
    try clear c6
    try clear c14
    try clear c14b0
    try clear p2
    obtain ⟨kq, x29_12, rfl, HA, HJ12, HO_7, HI0, HK, HB⟩ := hcut; cases kq with
    | zero => exact absurd HA.out (by simp [spec_l16Draw.j1])
    | succ kj12 =>
     have H := HA.out; clear HA; simp only [spec_l16Draw.j1] at H; by_cases c16 : x29_12 = true
     ·
      subst c16
      have H1 : ((spec_l21Rd_pick.f kj12 s0_0 x1001_1 (wrap64 (t236 * t237))).bind fun bt250 => ((spec_l21Rd_pick.f kj12 s0_0 bt250.2 (wrap64 (t236 * t237))).bind fun bt252 => (if t242 = 0 then ((spec_l16Route.f kj12 t236 bt250.1 bt252.1 true).bind fun t254 => (if x7_1.length < 5864062014805 then (spec_l16Draw.l0 kj12 t236 t237 (x7_1 ++ [t254]) t242 (wrap64 (x9_1 - 1)) s0_0 bt252.2) else (none))) else (if t242 = 1 then ((spec_l21Rd_pick.f kj12 s0_0 bt252.2 2).bind fun bt260 => ((spec_l16Route.f kj12 t236 bt250.1 bt252.1 (bt260.1 == 0)).bind fun t262 => (if x7_1.length < 5864062014805 then (spec_l16Draw.l0 kj12 t236 t237 (x7_1 ++ [t262]) t242 (wrap64 (x9_1 - 1)) s0_0 bt260.2) else (none)))) else ((spec_l16Walk.f kj12 s0_0 bt252.2 t236 t237).bind fun bt268 => (if x7_1.length < 5864062014805 then (spec_l16Draw.l0 kj12 t236 t237 (x7_1 ++ [bt268.1]) t242 (wrap64 (x9_1 - 1)) s0_0 bt268.2) else (none))))))) = some (r1, r2, r3, r4) := by rw [if_pos rfl] at H; exact H
      clear H; have H := H1; clear H1; replace H := bE H; obtain ⟨⟨t250, t251⟩, A170, H⟩ := H
      replace H : ((spec_l21Rd_pick.f kj12 s0_0 t251 (wrap64 (t236 * t237))).bind fun bt252 => (if t242 = 0 then ((spec_l16Route.f kj12 t236 t250 bt252.1 true).bind fun t254 => (if x7_1.length < 5864062014805 then (spec_l16Draw.l0 kj12 t236 t237 (x7_1 ++ [t254]) t242 (wrap64 (x9_1 - 1)) s0_0 bt252.2) else (none))) else (if t242 = 1 then ((spec_l21Rd_pick.f kj12 s0_0 bt252.2 2).bind fun bt260 => ((spec_l16Route.f kj12 t236 t250 bt252.1 (bt260.1 == 0)).bind fun t262 => (if x7_1.length < 5864062014805 then (spec_l16Draw.l0 kj12 t236 t237 (x7_1 ++ [t262]) t242 (wrap64 (x9_1 - 1)) s0_0 bt260.2) else (none)))) else ((spec_l16Walk.f kj12 s0_0 bt252.2 t236 t237).bind fun bt268 => (if x7_1.length < 5864062014805 then (spec_l16Draw.l0 kj12 t236 t237 (x7_1 ++ [bt268.1]) t242 (wrap64 (x9_1 - 1)) s0_0 bt268.2) else (none)))))) = some (r1, r2, r3, r4) := H; have A17 := aM A170; clear A170
      replace H := bE H; obtain ⟨⟨t252, t253⟩, A180, H⟩ := H; replace H : (if t242 = 0 then ((spec_l16Route.f kj12 t236 t250 t252 true).bind fun t254 => (if x7_1.length < 5864062014805 then (spec_l16Draw.l0 kj12 t236 t237 (x7_1 ++ [t254]) t242 (wrap64 (x9_1 - 1)) s0_0 t253) else (none))) else (if t242 = 1 then ((spec_l21Rd_pick.f kj12 s0_0 t253 2).bind fun bt260 => ((spec_l16Route.f kj12 t236 t250 t252 (bt260.1 == 0)).bind fun t262 => (if x7_1.length < 5864062014805 then (spec_l16Draw.l0 kj12 t236 t237 (x7_1 ++ [t262]) t242 (wrap64 (x9_1 - 1)) s0_0 bt260.2) else (none)))) else ((spec_l16Walk.f kj12 s0_0 t253 t236 t237).bind fun bt268 => (if x7_1.length < 5864062014805 then (spec_l16Draw.l0 kj12 t236 t237 (x7_1 ++ [bt268.1]) t242 (wrap64 (x9_1 - 1)) s0_0 bt268.2) else (none))))) = some (r1, r2, r3, r4) := H; have A18 := aM A180; clear A180; by_cases c19 : t242 = 0
      ·
       rw [if_pos c19] at H; have c19b0 : (t242 == 0) = true := beq_iff_eq.mpr c19; have c19b1 : (t242 != 0) = false := bne_eq_false_iff_eq.mpr c19; clear c19; replace H := bE H; obtain ⟨t254, A200, H⟩ := H; replace H : (if x7_1.length < 5864062014805 then (spec_l16Draw.l0 kj12 t236 t237 (x7_1 ++ [t254]) t242 (wrap64 (x9_1 - 1)) s0_0 t253) else (none)) = some (r1, r2, r3, r4) := H; have A20 := aM A200; clear A200; by_cases c21 : x7_1.length < 5864062014805
       ·
        rw [if_pos c21] at H; have LMc21 := aM c21; clear c21; obtain ⟨y257, hy257⟩ : ∃ y_ : List (List Int), y_ = (x7_1 ++ [t254]) := ⟨_, rfl⟩
        replace H : (spec_l16Draw.l0 kj12 t236 t237 y257 t242 (wrap64 (x9_1 - 1)) s0_0 t253) = some (r1, r2, r3, r4) := by first | (rw [hy257]; with_reducible exact H) | (have H2_ := (Option.bind_some _ _).symm.trans H; rw [hy257]; with_reducible exact H2_) | (have H2_ := (Option.bind_some _ _).symm.trans H; with_reducible exact H2_) | with_reducible exact H | (rw [hy257]; exact H) | exact H
        have Ny257 := aM hy257; clear hy257; have H' := aM H; clear H
        go_wp2_with (first | ((with_reducible refine gate_callee (f := 51) rfl ?_); refine goesL_ (some 36) rfl rfl Try.func51 (by kernel_rfl) rfl #[.pointer (some ⟨g, 0, none⟩), .int .i64 (wrap64 (t236 * t237))] rfl mQx ?_; (with_reducible refine (spec_l21Rd_pick.calls kj12 g s0_0 x1001_1 (wrap64 (t236 * t237)) t250 t251 w0 _ ?side1 ?side2 A17.out).mono ?_); (case side1 => exact hIx); (case side2 => exact hSx); rintro e w22 ⟨rfl, hi, hb, hk⟩; refine ⟨_, rfl, ?_⟩; have n0_ := aM (Kd.S_mono (Kd.S_keep (IsS77.apartS (show IsS77 w0 _ g s0_0 x1001_1 from hIx) (by (with_reducible repeat (first | apply Kd.S_alloc | apply Kd.S_drewN | apply Kd.S_drew)); exact HO_7.out) (by decide)) hk (fun _ h => h.2)) (fun _ h => h.1)); have n1_ := aM (KeepBut.trans hKx hk (.inl rfl)); have n2_ := aM (hb); have n3_ := aM (hi); clear HO_7; clear HK; clear HB; clear HI0; have HO_7 := n0_; have HK := n1_; have HB := n2_; have HI0 := n3_; clear n0_ n1_ n2_ n3_; (try clear hb); (try clear hb2); (try clear hk); (try clear hi)) | ((with_reducible refine gate_callee (f := 51) rfl ?_); refine goesL_ (some 41) rfl rfl Try.func51 (by kernel_rfl) rfl #[.pointer (some ⟨g, 0, none⟩), .int .i64 (wrap64 (t236 * t237))] rfl mQx ?_; (with_reducible refine (spec_l21Rd_pick.calls kj12 g s0_0 t251 (wrap64 (t236 * t237)) t252 t253 w0 _ ?side1 ?side2 A18.out).mono ?_); (case side1 => exact hIx); (case side2 => exact hSx); rintro e w23 ⟨rfl, hi, hb, hk⟩; refine ⟨_, rfl, ?_⟩; have n0_ := aM (Kd.S_mono (Kd.S_keep (IsS77.apartS (show IsS77 w0 _ g s0_0 t251 from hIx) (by (with_reducible repeat (first | apply Kd.S_alloc | apply Kd.S_drewN | apply Kd.S_drew)); exact HO_7.out) (by decide)) hk (fun _ h => h.2)) (fun _ h => h.1)); have n1_ := aM (KeepBut.trans hKx hk (.inl rfl)); have n2_ := aM (hb); have n3_ := aM (hi); clear HO_7; clear HK; clear HB; clear HI0; have HO_7 := n0_; have HK := n1_; have HB := n2_; have HI0 := n3_; clear n0_ n1_ n2_ n3_; (try clear hb); (try clear hb2); (try clear hk); (try clear hi)) | ((with_reducible refine gate_callee (f := 62) rfl ?_); refine goesL_ (some 56) rfl rfl Try.func62 (by kernel_rfl) rfl #[.int .i64 t236, .int .i64 t250, .int .i64 t252, .bool true] rfl mQx ?_; (with_reducible refine (spec_l16Route.calls kj12 t236 t250 t252 true t254 _ A20.out).mono ?_); rintro e w24 ⟨v255, rfl, ho0, hb⟩; refine ⟨_, rfl, ?_⟩; have n0_ := aM (Kd.S_elder' (by (with_reducible repeat (first | apply Kd.S_alloc | apply Kd.S_drewN | apply Kd.S_drew)); exact HO_7.out) (Kd.R_base ho0) hb); have n1_ := aM (Kd.R_lower ho0 (keep_size (w := w) (g := g) (row := none) hKx)); have n2_ := aM (IsS77.below hIx hb); have n3_ := aM (KeepBut.trans hKx (KeepBut.of_below hb g none) (.inl rfl)); have n4_ := aM (below_step hSx hb); clear HO_7; clear HI0; clear HK; clear HB; have HO_7 := n0_; have HO256 := n1_; have HI0 := n2_; have HK := n3_; have HB := n4_; clear n0_ n1_ n2_ n3_ n4_; (try clear hb); (try clear hb2); (try clear hk); (try clear hi); (try clear ho0); obtain ⟨Ao26, co26, eo26⟩ := Kd.R_slice HO256.out; subst eo26) | ((with_reducible refine gate_builtin (b := .append) (xs := #[.tmp 52, .tmp 57]) rfl ?_); at_builtin; refine Kd.S_append (Kd.slice 3 (Kd.int .i64)) w.heap.size rfl (.tmp 52) (.tmp 57) 23 28 (.slice none 0 0) 24 rfl Try.underlying23 info28 rfl (by decide) (by omega) u7 x7_1 t254 [.slice Ao26 t254.length co26] (fun _ => True) (fun k_ => some k_ = (.slice Ao26 t254.length co26 : Value).ownBlock) rfl rfl ?aP (fun k_ hk_ => ((Kd.R_mono (ok' := fun k_ => ((fun _ => True)) k_ ∧ some k_ ≠ (u7 : Value).ownBlock) (Kd.R_apart' (HO256.out) (Kd.S_typed HO_7.out) (by decide)) (fun k_ hk => ⟨trivial, hk.2⟩))).1 k_ hk_.symm) ?aF ?aO (Below.refl _ _) ?aS ?aL ?_; (case aP => exact Kd.M_row (Kd.R_mono (Kd.R_tight rfl (Kd.R_mono (ok' := fun k_ => ((fun _ => True)) k_ ∧ some k_ ≠ (u7 : Value).ownBlock) (Kd.R_apart' (HO256.out) (Kd.S_typed HO_7.out) (by decide)) (fun k_ hk => ⟨trivial, hk.2⟩))) (fun _ h_ => h_))); (case aF => exact (fun _ _ => trivial)); (case aO => exact (by (with_reducible repeat (first | apply Kd.S_alloc | apply Kd.S_drewN | apply Kd.S_drew)); exact Kd.S_mono HO_7.out (fun k_ hk => ⟨trivial, fun e_ => hk.2 e_⟩))); (case aS => exact (keep_size (w := w) (g := g) (row := none) hKx)); (case aL => have := LMc21.out; omega); intro v258 w25 ho hb hg hat; rw [← Ny257.out] at ho; have n0_ := aM (IsS77.grown hIx hg (IsS77.own_neS HI0.out HO_7.out (by decide))); have n1_ := aM (below_weaken hSx HL.out hb); have n2_ := aM (KeepBut.trans hKx (KeepBut.of_grown hg g) (Kd.S_base2 HO_7.out)); have n3_ := aM (ho); clear HI0; clear HB; clear HK; clear HO_7; clear HO256; have HI0 := n0_; have HB := n1_; have HK := n2_; have HO259 := n3_; clear n0_ n1_ n2_ n3_; clear ho hb hg hat))
        go_roundg kj12; case measure => have := HK1.out; have := HJ12.out; omega
        case rel => exact ⟨(y257), (wrap64 (x9_1 - 1)), (t253), rOx, H', ⟨by have := HK1.out; have := HJ12.out; omega⟩, ⟨by (with_reducible repeat (first | apply Kd.S_alloc | apply Kd.S_drewN | apply Kd.S_drew)); exact HO259.out⟩, ⟨hIx⟩, ⟨hKx⟩, ⟨hSx⟩⟩
       ·
        rw [if_neg c21] at H; exact absurd H (by simp)
      ·
       rw [if_neg c19] at H; have c19b0 : (t242 == 0) = false := beq_eq_false_iff_ne.mpr c19; have c19b1 : (t242 != 0) = true := bne_iff_ne.mpr c19; by_cases c27 : t242 = 1
       ·
        rw [if_pos c27] at H; have c27b0 : (t242 == 1) = true := beq_iff_eq.mpr c27; have c27b1 : (t242 != 1) = false := bne_eq_false_iff_eq.mpr c27; clear c27; replace H := bE H; obtain ⟨⟨t260, t261⟩, A280, H⟩ := H; replace H : ((spec_l16Route.f kj12 t236 t250 t252 (t260 == 0)).bind fun t262 => (if x7_1.length < 5864062014805 then (spec_l16Draw.l0 kj12 t236 t237 (x7_1 ++ [t262]) t242 (wrap64 (x9_1 - 1)) s0_0 t261) else (none))) = some (r1, r2, r3, r4) := H; have A28 := aM A280; clear A280; replace H := bE H; obtain ⟨t262, A290, H⟩ := H; replace H : (if x7_1.length < 5864062014805 then (spec_l16Draw.l0 kj12 t236 t237 (x7_1 ++ [t262]) t242 (wrap64 (x9_1 - 1)) s0_0 t261) else (none)) = some (r1, r2, r3, r4) := H; have A29 := aM A290; clear A290; by_cases c30 : x7_1.length < 5864062014805
        ·
         rw [if_pos c30] at H; have LMc30 := aM c30; clear c30; obtain ⟨y265, hy265⟩ : ∃ y_ : List (List Int), y_ = (x7_1 ++ [t262]) := ⟨_, rfl⟩
         replace H : (spec_l16Draw.l0 kj12 t236 t237 y265 t242 (wrap64 (x9_1 - 1)) s0_0 t261) = some (r1, r2, r3, r4) := by first | (rw [hy265]; with_reducible exact H) | (have H2_ := (Option.bind_some _ _).symm.trans H; rw [hy265]; with_reducible exact H2_) | (have H2_ := (Option.bind_some _ _).symm.trans H; with_reducible exact H2_) | with_reducible exact H | (rw [hy265]; exact H) | exact H
         have Ny265 := aM hy265; clear hy265; have H' := aM H; clear H
         go_wp2_with (first | ((with_reducible refine gate_callee (f := 51) rfl ?_); refine goesL_ (some 36) rfl rfl Try.func51 (by kernel_rfl) rfl #[.pointer (some ⟨g, 0, none⟩), .int .i64 (wrap64 (t236 * t237))] rfl mQx ?_; (with_reducible refine (spec_l21Rd_pick.calls kj12 g s0_0 x1001_1 (wrap64 (t236 * t237)) t250 t251 w0 _ ?side1 ?side2 A17.out).mono ?_); (case side1 => exact hIx); (case side2 => exact hSx); rintro e w31 ⟨rfl, hi, hb, hk⟩; refine ⟨_, rfl, ?_⟩; have n0_ := aM (Kd.S_mono (Kd.S_keep (IsS77.apartS (show IsS77 w0 _ g s0_0 x1001_1 from hIx) (by (with_reducible repeat (first | apply Kd.S_alloc | apply Kd.S_drewN | apply Kd.S_drew)); exact HO_7.out) (by decide)) hk (fun _ h => h.2)) (fun _ h => h.1)); have n1_ := aM (KeepBut.trans hKx hk (.inl rfl)); have n2_ := aM (hb); have n3_ := aM (hi); clear HO_7; clear HK; clear HB; clear HI0; have HO_7 := n0_; have HK := n1_; have HB := n2_; have HI0 := n3_; clear n0_ n1_ n2_ n3_; (try clear hb); (try clear hb2); (try clear hk); (try clear hi)) | ((with_reducible refine gate_callee (f := 51) rfl ?_); refine goesL_ (some 41) rfl rfl Try.func51 (by kernel_rfl) rfl #[.pointer (some ⟨g, 0, none⟩), .int .i64 (wrap64 (t236 * t237))] rfl mQx ?_; (with_reducible refine (spec_l21Rd_pick.calls kj12 g s0_0 t251 (wrap64 (t236 * t237)) t252 t253 w0 _ ?side1 ?side2 A18.out).mono ?_); (case side1 => exact hIx); (case side2 => exact hSx); rintro e w32 ⟨rfl, hi, hb, hk⟩; refine ⟨_, rfl, ?_⟩; have n0_ := aM (Kd.S_mono (Kd.S_keep (IsS77.apartS (show IsS77 w0 _ g s0_0 t251 from hIx) (by (with_reducible repeat (first | apply Kd.S_alloc | apply Kd.S_drewN | apply Kd.S_drew)); exact HO_7.out) (by decide)) hk (fun _ h => h.2)) (fun _ h => h.1)); have n1_ := aM (KeepBut.trans hKx hk (.inl rfl)); have n2_ := aM (hb); have n3_ := aM (hi); clear HO_7; clear HK; clear HB; clear HI0; have HO_7 := n0_; have HK := n1_; have HB := n2_; have HI0 := n3_; clear n0_ n1_ n2_ n3_; (try clear hb); (try clear hb2); (try clear hk); (try clear hi)) | ((with_reducible refine gate_callee (f := 51) rfl ?_); refine goesL_ (some 66) rfl rfl Try.func51 (by kernel_rfl) rfl #[.pointer (some ⟨g, 0, none⟩), .int .i64 2] rfl mQx ?_; (with_reducible refine (spec_l21Rd_pick.calls kj12 g s0_0 t253 2 t260 t261 w0 _ ?side1 ?side2 A28.out).mono ?_); (case side1 => exact hIx); (case side2 => exact hSx); rintro e w33 ⟨rfl, hi, hb, hk⟩; refine ⟨_, rfl, ?_⟩; have n0_ := aM (Kd.S_mono (Kd.S_keep (IsS77.apartS (show IsS77 w0 _ g s0_0 t253 from hIx) (by (with_reducible repeat (first | apply Kd.S_alloc | apply Kd.S_drewN | apply Kd.S_drew)); exact HO_7.out) (by decide)) hk (fun _ h => h.2)) (fun _ h => h.1)); have n1_ := aM (KeepBut.trans hKx hk (.inl rfl)); have n2_ := aM (hb); have n3_ := aM (hi); clear HO_7; clear HK; clear HB; clear HI0; have HO_7 := n0_; have HK := n1_; have HB := n2_; have HI0 := n3_; clear n0_ n1_ n2_ n3_; (try clear hb); (try clear hb2); (try clear hk); (try clear hi)) | ((with_reducible refine gate_callee (f := 62) rfl ?_); refine goesL_ (some 68) rfl rfl Try.func62 (by kernel_rfl) rfl #[.int .i64 t236, .int .i64 t250, .int .i64 t252, .bool (t260 == 0)] rfl mQx ?_; (with_reducible refine (spec_l16Route.calls kj12 t236 t250 t252 (t260 == 0) t262 _ A29.out).mono ?_); rintro e w34 ⟨v263, rfl, ho0, hb⟩; refine ⟨_, rfl, ?_⟩; have n0_ := aM (Kd.S_elder' (by (with_reducible repeat (first | apply Kd.S_alloc | apply Kd.S_drewN | apply Kd.S_drew)); exact HO_7.out) (Kd.R_base ho0) hb); have n1_ := aM (Kd.R_lower ho0 (keep_size (w := w) (g := g) (row := none) hKx)); have n2_ := aM (IsS77.below hIx hb); have n3_ := aM (KeepBut.trans hKx (KeepBut.of_below hb g none) (.inl rfl)); have n4_ := aM (below_step hSx hb); clear HO_7; clear HI0; clear HK; clear HB; have HO_7 := n0_; have HO264 := n1_; have HI0 := n2_; have HK := n3_; have HB := n4_; clear n0_ n1_ n2_ n3_ n4_; (try clear hb); (try clear hb2); (try clear hk); (try clear hi); (try clear ho0); obtain ⟨Ao36, co36, eo36⟩ := Kd.R_slice HO264.out; subst eo36) | ((with_reducible refine gate_builtin (b := .append) (xs := #[.tmp 61, .tmp 69]) rfl ?_); at_builtin; refine Kd.S_append (Kd.slice 3 (Kd.int .i64)) w.heap.size rfl (.tmp 61) (.tmp 69) 23 28 (.slice none 0 0) 24 rfl Try.underlying23 info28 rfl (by decide) (by omega) u7 x7_1 t262 [.slice Ao36 t262.length co36] (fun _ => True) (fun k_ => some k_ = (.slice Ao36 t262.length co36 : Value).ownBlock) rfl rfl ?aP (fun k_ hk_ => ((Kd.R_mono (ok' := fun k_ => ((fun _ => True)) k_ ∧ some k_ ≠ (u7 : Value).ownBlock) (Kd.R_apart' (HO264.out) (Kd.S_typed HO_7.out) (by decide)) (fun k_ hk => ⟨trivial, hk.2⟩))).1 k_ hk_.symm) ?aF ?aO (Below.refl _ _) ?aS ?aL ?_; (case aP => exact Kd.M_row (Kd.R_mono (Kd.R_tight rfl (Kd.R_mono (ok' := fun k_ => ((fun _ => True)) k_ ∧ some k_ ≠ (u7 : Value).ownBlock) (Kd.R_apart' (HO264.out) (Kd.S_typed HO_7.out) (by decide)) (fun k_ hk => ⟨trivial, hk.2⟩))) (fun _ h_ => h_))); (case aF => exact (fun _ _ => trivial)); (case aO => exact (by (with_reducible repeat (first | apply Kd.S_alloc | apply Kd.S_drewN | apply Kd.S_drew)); exact Kd.S_mono HO_7.out (fun k_ hk => ⟨trivial, fun e_ => hk.2 e_⟩))); (case aS => exact (keep_size (w := w) (g := g) (row := none) hKx)); (case aL => have := LMc30.out; omega); intro v266 w35 ho hb hg hat; rw [← Ny265.out] at ho; have n0_ := aM (IsS77.grown hIx hg (IsS77.own_neS HI0.out HO_7.out (by decide))); have n1_ := aM (below_weaken hSx HL.out hb); have n2_ := aM (KeepBut.trans hKx (KeepBut.of_grown hg g) (Kd.S_base2 HO_7.out)); have n3_ := aM (ho); clear HI0; clear HB; clear HK; clear HO_7; clear HO264; have HI0 := n0_; have HB := n1_; have HK := n2_; have HO267 := n3_; clear n0_ n1_ n2_ n3_; clear ho hb hg hat))
         go_roundg kj12; case measure => have := HK1.out; have := HJ12.out; omega
         case rel => exact ⟨(y265), (wrap64 (x9_1 - 1)), (t261), rOx, H', ⟨by have := HK1.out; have := HJ12.out; omega⟩, ⟨by (with_reducible repeat (first | apply Kd.S_alloc | apply Kd.S_drewN | apply Kd.S_drew)); exact HO267.out⟩, ⟨hIx⟩, ⟨hKx⟩, ⟨hSx⟩⟩
        ·
         rw [if_neg c30] at H; exact absurd H (by simp)
       ·
        rw [if_neg c27] at H; have c27b0 : (t242 == 1) = false := beq_eq_false_iff_ne.mpr c27; have c27b1 : (t242 != 1) = true := bne_iff_ne.mpr c27; replace H := bE H; obtain ⟨⟨t268, t271⟩, A370, H⟩ := H; replace H : (if x7_1.length < 5864062014805 then (spec_l16Draw.l0 kj12 t236 t237 (x7_1 ++ [t268]) t242 (wrap64 (x9_1 - 1)) s0_0 t271) else (none)) = some (r1, r2, r3, r4) := H; have A37 := aM A370; clear A370; by_cases c38 : x7_1.length < 5864062014805
        ·
         rw [if_pos c38] at H; have LMc38 := aM c38; clear c38; obtain ⟨y272, hy272⟩ : ∃ y_ : List (List Int), y_ = (x7_1 ++ [t268]) := ⟨_, rfl⟩
         replace H : (spec_l16Draw.l0 kj12 t236 t237 y272 t242 (wrap64 (x9_1 - 1)) s0_0 t271) = some (r1, r2, r3, r4) := by first | (rw [hy272]; with_reducible exact H) | (have H2_ := (Option.bind_some _ _).symm.trans H; rw [hy272]; with_reducible exact H2_) | (have H2_ := (Option.bind_some _ _).symm.trans H; with_reducible exact H2_) | with_reducible exact H | (rw [hy272]; exact H) | exact H
         have Ny272 := aM hy272; clear hy272; have H' := aM H; clear H
         go_wp2_with (first | ((with_reducible refine gate_callee (f := 51) rfl ?_); refine goesL_ (some 36) rfl rfl Try.func51 (by kernel_rfl) rfl #[.pointer (some ⟨g, 0, none⟩), .int .i64 (wrap64 (t236 * t237))] rfl mQx ?_; (with_reducible refine (spec_l21Rd_pick.calls kj12 g s0_0 x1001_1 (wrap64 (t236 * t237)) t250 t251 w0 _ ?side1 ?side2 A17.out).mono ?_); (case side1 => exact hIx); (case side2 => exact hSx); rintro e w39 ⟨rfl, hi, hb, hk⟩; refine ⟨_, rfl, ?_⟩; have n0_ := aM (Kd.S_mono (Kd.S_keep (IsS77.apartS (show IsS77 w0 _ g s0_0 x1001_1 from hIx) (by (with_reducible repeat (first | apply Kd.S_alloc | apply Kd.S_drewN | apply Kd.S_drew)); exact HO_7.out) (by decide)) hk (fun _ h => h.2)) (fun _ h => h.1)); have n1_ := aM (KeepBut.trans hKx hk (.inl rfl)); have n2_ := aM (hb); have n3_ := aM (hi); clear HO_7; clear HK; clear HB; clear HI0; have HO_7 := n0_; have HK := n1_; have HB := n2_; have HI0 := n3_; clear n0_ n1_ n2_ n3_; (try clear hb); (try clear hb2); (try clear hk); (try clear hi)) | ((with_reducible refine gate_callee (f := 51) rfl ?_); refine goesL_ (some 41) rfl rfl Try.func51 (by kernel_rfl) rfl #[.pointer (some ⟨g, 0, none⟩), .int .i64 (wrap64 (t236 * t237))] rfl mQx ?_; (with_reducible refine (spec_l21Rd_pick.calls kj12 g s0_0 t251 (wrap64 (t236 * t237)) t252 t253 w0 _ ?side1 ?side2 A18.out).mono ?_); (case side1 => exact hIx); (case side2 => exact hSx); rintro e w40 ⟨rfl, hi, hb, hk⟩; refine ⟨_, rfl, ?_⟩; have n0_ := aM (Kd.S_mono (Kd.S_keep (IsS77.apartS (show IsS77 w0 _ g s0_0 t251 from hIx) (by (with_reducible repeat (first | apply Kd.S_alloc | apply Kd.S_drewN | apply Kd.S_drew)); exact HO_7.out) (by decide)) hk (fun _ h => h.2)) (fun _ h => h.1)); have n1_ := aM (KeepBut.trans hKx hk (.inl rfl)); have n2_ := aM (hb); have n3_ := aM (hi); clear HO_7; clear HK; clear HB; clear HI0; have HO_7 := n0_; have HK := n1_; have HB := n2_; have HI0 := n3_; clear n0_ n1_ n2_ n3_; (try clear hb); (try clear hb2); (try clear hk); (try clear hi)) | ((with_reducible refine gate_callee (f := 50) rfl ?_); refine goesL_ (some 47) rfl rfl Try.func50 (by kernel_rfl) rfl #[.pointer (some ⟨g, 0, none⟩), .int .i64 t236, .int .i64 t237] rfl mQx ?_; (with_reducible refine (spec_l16Walk.calls kj12 g s0_0 t253 t236 t237 t268 t271 w0 _ ?side1 ?side2 A37.out).mono ?_); (case side1 => exact hIx); (case side2 => exact hSx); rintro e w41 ⟨v269, rfl, ho0, hi, hb, hk⟩; refine ⟨_, rfl, ?_⟩; have n0_ := aM (Kd.S_mono (Kd.S_told (Kd.S_oldK (IsS77.apartS (show IsS77 w0 _ g s0_0 t253 from hIx) (by (with_reducible repeat (first | apply Kd.S_alloc | apply Kd.S_drewN | apply Kd.S_drew)); exact HO_7.out) (by decide)) hk) (Kd.R_base ho0)) (fun _ h_ => h_.1)); have n1_ := aM (Kd.R_lower ho0 (keep_size (w := w) (g := g) (row := none) hKx)); have n2_ := aM (KeepBut.trans hKx hk (.inl rfl)); have n3_ := aM (hb); have n4_ := aM (hi); clear HO_7; clear HK; clear HB; clear HI0; have HO_7 := n0_; have HO270 := n1_; have HK := n2_; have HB := n3_; have HI0 := n4_; clear n0_ n1_ n2_ n3_ n4_; (try clear hb); (try clear hb2); (try clear hk); (try clear hi); (try clear ho0); obtain ⟨Ao43, co43, eo43⟩ := Kd.R_slice HO270.out; subst eo43) | ((with_reducible refine gate_builtin (b := .append) (xs := #[.tmp 43, .tmp 48]) rfl ?_); at_builtin; refine Kd.S_append (Kd.slice 3 (Kd.int .i64)) w.heap.size rfl (.tmp 43) (.tmp 48) 23 28 (.slice none 0 0) 24 rfl Try.underlying23 info28 rfl (by decide) (by omega) u7 x7_1 t268 [.slice Ao43 t268.length co43] (fun _ => True) (fun k_ => some k_ = (.slice Ao43 t268.length co43 : Value).ownBlock) rfl rfl ?aP (fun k_ hk_ => ((Kd.R_mono (ok' := fun k_ => ((fun _ => True)) k_ ∧ some k_ ≠ (u7 : Value).ownBlock) (Kd.R_apart' (HO270.out) (Kd.S_typed HO_7.out) (by decide)) (fun k_ hk => ⟨trivial, hk.2⟩))).1 k_ hk_.symm) ?aF ?aO (Below.refl _ _) ?aS ?aL ?_; (case aP => exact Kd.M_row (Kd.R_mono (Kd.R_tight rfl (Kd.R_mono (ok' := fun k_ => ((fun _ => True)) k_ ∧ some k_ ≠ (u7 : Value).ownBlock) (Kd.R_apart' (HO270.out) (Kd.S_typed HO_7.out) (by decide)) (fun k_ hk => ⟨trivial, hk.2⟩))) (fun _ h_ => h_))); (case aF => exact (fun _ _ => trivial)); (case aO => exact (by (with_reducible repeat (first | apply Kd.S_alloc | apply Kd.S_drewN | apply Kd.S_drew)); exact Kd.S_mono HO_7.out (fun k_ hk => ⟨trivial, fun e_ => hk.2 e_⟩))); (case aS => exact (keep_size (w := w) (g := g) (row := none) hKx)); (case aL => have := LMc38.out; omega); intro v273 w42 ho hb hg hat; rw [← Ny272.out] at ho; have n0_ := aM (IsS77.grown hIx hg (IsS77.own_neS HI0.out HO_7.out (by decide))); have n1_ := aM (below_weaken hSx HL.out hb); have n2_ := aM (KeepBut.trans hKx (KeepBut.of_grown hg g) (Kd.S_base2 HO_7.out)); have n3_ := aM (ho); clear HI0; clear HB; clear HK; clear HO_7; clear HO270; have HI0 := n0_; have HB := n1_; have HK := n2_; have HO274 := n3_; clear n0_ n1_ n2_ n3_; clear ho hb hg hat))
         go_roundg kj12; case measure => have := HK1.out; have := HJ12.out; omega
         case rel => exact ⟨(y272), (wrap64 (x9_1 - 1)), (t271), rOx, H', ⟨by have := HK1.out; have := HJ12.out; omega⟩, ⟨by (with_reducible repeat (first | apply Kd.S_alloc | apply Kd.S_drewN | apply Kd.S_drew)); exact HO274.out⟩, ⟨hIx⟩, ⟨hKx⟩, ⟨hSx⟩⟩
        ·
         rw [if_neg c38] at H; exact absurd H (by simp)
     ·
      replace c16 := Bool.eq_false_iff.mpr c16; subst c16; have H1 : (if t242 = 3 then (if t236 > 1 then (spec_l16Draw.j2 kj12 t236 t237 x7_1 (decide (t237 > 1)) s0_0 x1001_1) else (spec_l16Draw.j2 kj12 t236 t237 x7_1 false s0_0 x1001_1)) else (spec_l16Draw.j2 kj12 t236 t237 x7_1 false s0_0 x1001_1)) = some (r1, r2, r3, r4) := by rw [if_neg (show ¬ (false = true) by decide)] at H; exact H
      clear H; have H := H1; clear H1; have HC44 := aM H; clear H; go_upto_region 15 with (fail)
      go_cut [80] (fun v80 wc => ∃ (kq : Nat) (x80_43 : Bool), v80 = .bool x80_43 ∧ Aside0 (spec_l16Draw.j2 kq t236 t237 x7_1 x80_43 s0_0 x1001_1 = some (r1, r2, r3, r4)) ∧ Aside0 (kq ≤ kj12) ∧ Aside0 (Kd.S (Kd.slice 3 (Kd.int .i64)) 28 wc w.heap.size (fun _ => True) u7 x7_1) ∧ Aside0 (IsS77 w0 wc g s0_0 x1001_1) ∧ Aside0 (KeepBut w wc g none) ∧ Aside0 (Below w0.heap.size w0 wc)); case first =>
       have H := HC44.out; clear HC44; by_cases c45 : t242 = 3
       ·
        rw [if_pos c45] at H; have c45b0 : (t242 == 3) = true := beq_iff_eq.mpr c45; have c45b1 : (t242 != 3) = false := bne_eq_false_iff_eq.mpr c45; clear c45
        (first | rw [c45b0] | (simp only [i64_w, i32_w]; rw [c45b0]) | skip)
        by_cases c46 : t236 > 1
        ·
         rw [if_pos c46] at H; have c46b0 : decide (1 < t236) = true := decide_eq_true c46; clear c46; have H' := aM H; clear H; go_wp2; go_meet; case rel => exact ⟨_, (decide (t237 > 1)), rOx, H', ⟨by have := HK1.out; have := HJ12.out; first | omega | exact Nat.le_refl _⟩, ⟨by (with_reducible repeat (first | apply Kd.S_alloc | apply Kd.S_drewN | apply Kd.S_drew)); exact HO_7.out⟩, ⟨hIx⟩, ⟨hKx⟩, ⟨hSx⟩⟩
        ·
         rw [if_neg c46] at H; have c46b0 : decide (1 < t236) = false := decide_eq_false c46; clear c46; have H' := aM H; clear H; go_wp2; go_meet; case rel => exact ⟨_, (false), rOx, H', ⟨by have := HK1.out; have := HJ12.out; first | omega | exact Nat.le_refl _⟩, ⟨by (with_reducible repeat (first | apply Kd.S_alloc | apply Kd.S_drewN | apply Kd.S_drew)); exact HO_7.out⟩, ⟨hIx⟩, ⟨hKx⟩, ⟨hSx⟩⟩
       ·
        rw [if_neg c45] at H; have c45b0 : (t242 == 3) = false := beq_eq_false_iff_ne.mpr c45; have c45b1 : (t242 != 3) = true := bne_iff_ne.mpr c45
        (first | rw [c45b0] | (simp only [i64_w, i32_w]; rw [c45b0]) | skip)
        have H' := aM H; clear H; go_wp2; go_meet; case rel => exact ⟨_, (false), rOx, H', ⟨by have := HK1.out; have := HJ12.out; first | omega | exact Nat.le_refl _⟩, ⟨by (with_reducible repeat (first | apply Kd.S_alloc | apply Kd.S_drewN | apply Kd.S_drew)); exact HO_7.out⟩, ⟨hIx⟩, ⟨hKx⟩, ⟨hSx⟩⟩
      case rest =>
       clear HC44
       try clear c1
       try clear c2
       try clear p2
       try clear c3
       try clear c4
       try clear c5
       try clear c6
       try clear p6
       try clear c14
       try clear c14b0
       try clear c16
       try clear c19
       try clear c19b0
       try clear c19b1
       try clear c21
       try clear c27
       try clear c27b0
       try clear c27b1
       try clear c30
       try clear c32
       try clear c38
       try clear c45
       try clear c45b0
       try clear c45b1
       try clear c46
       try clear c46b0
       try clear p2
       obtain ⟨kq, x80_43, rfl, HA, HJ43, HO_7, HI0, HK, HB⟩ := hcut; cases kq with
       | zero => exact absurd HA.out (by simp [spec_l16Draw.j2])
       | succ kj43 =>
        have H := HA.out; clear HA; simp only [spec_l16Draw.j2] at H; by_cases c47 : x80_43 = true
        ·
         subst c47; have H1 : ((spec_l21Rd_pick.f kj43 s0_0 x1001_1 25).bind fun bt275 => (if bt275.1 = 0 then (if (spec_l16Draw.lit t236).length < 5864062014805 then (some (t236, t237, ((spec_l16Draw.lit t236) ++ [(([0, wrap64 ((wrap64 (t236 * t237)) + 1)] : List Int))]), bt275.2)) else (none)) else (some (t236, t237, (spec_l16Draw.lit t236), bt275.2)))) = some (r1, r2, r3, r4) := by rw [if_pos rfl] at H; exact H
         clear H; have H := H1; clear H1; replace H := bE H; obtain ⟨⟨t275, t276⟩, A480, H⟩ := H; replace H : (if t275 = 0 then (if (spec_l16Draw.lit t236).length < 5864062014805 then (some (t236, t237, ((spec_l16Draw.lit t236) ++ [(([0, wrap64 ((wrap64 (t236 * t237)) + 1)] : List Int))]), t276)) else (none)) else (some (t236, t237, (spec_l16Draw.lit t236), t276))) = some (r1, r2, r3, r4) := H; have A48 := aM A480; clear A480; by_cases c49 : t275 = 0
         ·
          rw [if_pos c49] at H; have c49b0 : (t275 == 0) = true := beq_iff_eq.mpr c49; have c49b1 : (t275 != 0) = false := bne_eq_false_iff_eq.mpr c49; clear c49; obtain ⟨y277, hy277⟩ : ∃ y_ : List Int, y_ = (([0, wrap64 ((wrap64 (t236 * t237)) + 1)] : List Int)) := ⟨_, rfl⟩
          replace H : (if (spec_l16Draw.lit t236).length < 5864062014805 then (some (t236, t237, ((spec_l16Draw.lit t236) ++ [y277]), t276)) else (none)) = some (r1, r2, r3, r4) := by first | (rw [hy277]; with_reducible exact H) | (have H2_ := (Option.bind_some _ _).symm.trans H; rw [hy277]; with_reducible exact H2_) | (have H2_ := (Option.bind_some _ _).symm.trans H; with_reducible exact H2_) | with_reducible exact H | (rw [hy277]; exact H) | exact H
          have Ny277 := aM hy277; clear hy277; by_cases c50 : (spec_l16Draw.lit t236).length < 5864062014805
          ·
           rw [if_pos c50] at H; have LMc50 := aM c50; clear c50; obtain ⟨y280, hy280⟩ : ∃ y_ : List (List Int), y_ = ((spec_l16Draw.lit t236) ++ [y277]) := ⟨_, rfl⟩
           replace H : (some (t236, t237, y280, t276)) = some (r1, r2, r3, r4) := by first | (rw [hy280]; with_reducible exact H) | (have H2_ := (Option.bind_some _ _).symm.trans H; rw [hy280]; with_reducible exact H2_) | (have H2_ := (Option.bind_some _ _).symm.trans H; with_reducible exact H2_) | with_reducible exact H | (rw [hy280]; exact H) | exact H
           have Ny280 := aM hy280; clear hy280; simp only [Option.some.injEq, Prod.mk.injEq] at H; obtain ⟨rfl, rfl, rfl, rfl⟩ := H
           go_wp2_with (first | ((with_reducible refine gate_dst (N := 94) rfl ?_); refine lit4_event (wrap64 (1 + t236)) t236 ?hg ?hr ?_; (case hg => rfl); (case hr => first | (go_simp; done) | (go_simp; rfl)); intro u7 w50 hS hb; have n0_ := aM (Kd.S_lower (show Kd.S (Kd.slice 3 (Kd.int .i64)) 28 w50 _ (fun _ => True) u7 (spec_l16Draw.lit t236) from hS) (keep_size (w := w) (g := g) (row := none) hKx)); have n2_ := aM (IsS77.below hIx hb); have n3_ := aM (KeepBut.trans hKx (KeepBut.of_below hb g none) (.inl rfl)); have n4_ := aM (below_step hSx hb); clear HO_7; clear HI0; clear HK; clear HB; have HO_7 := n0_; have HI0 := n2_; have HK := n3_; have HB := n4_; clear n0_ n2_ n3_ n4_; clear hb hS) | ((with_reducible refine gate_callee (f := 51) rfl ?_); refine goesL_ (some 96) rfl rfl Try.func51 (by kernel_rfl) rfl #[.pointer (some ⟨g, 0, none⟩), .int .i64 25] rfl mQx ?_; (with_reducible refine (spec_l21Rd_pick.calls kj43 g s0_0 x1001_1 25 t275 t276 w0 _ ?side1 ?side2 A48.out).mono ?_); (case side1 => exact hIx); (case side2 => exact hSx); rintro e w51 ⟨rfl, hi, hb, hk⟩; refine ⟨_, rfl, ?_⟩; have n0_ := aM (Kd.S_mono (Kd.S_keep (IsS77.apartS (show IsS77 w0 _ g s0_0 x1001_1 from hIx) (by (with_reducible repeat (first | apply Kd.S_alloc | apply Kd.S_drewN | apply Kd.S_drew)); exact HO_7.out) (by decide)) hk (fun _ h => h.2)) (fun _ h => h.1)); have n1_ := aM (KeepBut.trans hKx hk (.inl rfl)); have n2_ := aM (hb); have n3_ := aM (hi); clear HO_7; clear HK; clear HB; clear HI0; have HO_7 := n0_; have HK := n1_; have HB := n2_; have HI0 := n3_; clear n0_ n1_ n2_ n3_; (try clear hb); (try clear hb2); (try clear hk); (try clear hi)) | ((with_reducible refine gate_dst (N := 103) rfl ?_); refine Kd.R_lit (Kd.int .i64) _ 3 ?hg (N := 103) ?hd (xs := ([0, wrap64 ((wrap64 (t236 * t237)) + 1)] : List Int)) (inner := [.int .i64 0, .int .i64 (wrap64 ((wrap64 (t236 * t237)) + 1))]) (ok := fun _ => True) (okp := fun _ => True) ?hr ?hp (fun _ hk => hk) trivial (Below.refl _ _) (Nat.le_refl _) (by simp) ?_; (case hd => rfl); (case hg => rfl); (case hr => first | (go_simp; done) | (go_simp; rfl)); (case hp => exact (Reps.one (show Kd.M (Kd.int .i64) _ _ _ 0 [.int .i64 0] from rfl) (Reps.one (show Kd.M (Kd.int .i64) _ _ _ (wrap64 ((wrap64 (t236 * t237)) + 1)) [.int .i64 (wrap64 ((wrap64 (t236 * t237)) + 1))] from rfl) (Reps.none _ _)))); intro v278 w52 ho53 hb hg_ hnew_; clear hg_ hnew_; (first | rw [← Ny277.out] at ho53 | (simp only [Int.reduceToNat] at ho53; rw [← Ny277.out] at ho53)); have n0_ := aM (Kd.S_elder' (by (with_reducible repeat (first | apply Kd.S_alloc | apply Kd.S_drewN | apply Kd.S_drew)); exact HO_7.out) (Kd.R_base ho53) hb); have n1_ := aM (Kd.R_lower ho53 (keep_size (w := w) (g := g) (row := none) hKx)); have n2_ := aM (IsS77.below hIx hb); have n3_ := aM (KeepBut.trans hKx (KeepBut.of_below hb g none) (.inl rfl)); have n4_ := aM (below_step hSx hb); clear HO_7; clear HI0; clear HK; clear HB; have HO_7 := n0_; have HO279 := n1_; have HI0 := n2_; have HK := n3_; have HB := n4_; clear n0_ n1_ n2_ n3_ n4_; clear hb ho53; obtain ⟨Ao55, co55, eo55⟩ := Kd.R_slice HO279.out; subst eo55) | ((with_reducible refine gate_builtin (b := .append) (xs := #[.tmp 98, .tmp 104]) rfl ?_); at_builtin; refine Kd.S_append (Kd.slice 3 (Kd.int .i64)) w.heap.size rfl (.tmp 98) (.tmp 104) 23 28 (.slice none 0 0) 24 rfl Try.underlying23 info28 rfl (by decide) (by omega) u7 (spec_l16Draw.lit t236) y277 [.slice Ao55 y277.length co55] (fun _ => True) (fun k_ => some k_ = (.slice Ao55 y277.length co55 : Value).ownBlock) rfl rfl ?aP (fun k_ hk_ => ((Kd.R_mono (ok' := fun k_ => ((fun _ => True)) k_ ∧ some k_ ≠ (u7 : Value).ownBlock) (Kd.R_apart' (HO279.out) (Kd.S_typed HO_7.out) (by decide)) (fun k_ hk => ⟨trivial, hk.2⟩))).1 k_ hk_.symm) ?aF ?aO (Below.refl _ _) ?aS ?aL ?_; (case aP => exact Kd.M_row (Kd.R_mono (Kd.R_tight rfl (Kd.R_mono (ok' := fun k_ => ((fun _ => True)) k_ ∧ some k_ ≠ (u7 : Value).ownBlock) (Kd.R_apart' (HO279.out) (Kd.S_typed HO_7.out) (by decide)) (fun k_ hk => ⟨trivial, hk.2⟩))) (fun _ h_ => h_))); (case aF => exact (fun _ _ => trivial)); (case aO => exact (by (with_reducible repeat (first | apply Kd.S_alloc | apply Kd.S_drewN | apply Kd.S_drew)); exact Kd.S_mono HO_7.out (fun k_ hk => ⟨trivial, fun e_ => hk.2 e_⟩))); (case aS => exact (keep_size (w := w) (g := g) (row := none) hKx)); (case aL => have := LMc50.out; omega); intro v281 w54 ho hb hg hat; rw [← Ny280.out] at ho; have n0_ := aM (IsS77.grown hIx hg (IsS77.own_neS HI0.out HO_7.out (by decide))); have n1_ := aM (below_weaken hSx HL.out hb); have n2_ := aM (KeepBut.trans hKx (KeepBut.of_grown hg g) (Kd.S_base2 HO_7.out)); have n3_ := aM (ho); clear HI0; clear HB; clear HK; clear HO_7; clear HO279; have HI0 := n0_; have HB := n1_; have HK := n2_; have HO282 := n3_; clear n0_ n1_ n2_ n3_; clear ho hb hg hat))
           go_ret3; exact ⟨_, by first | rfl | (simp [*] <;> rfl), by (with_reducible repeat (first | apply Kd.S_alloc | apply Kd.S_drewN | apply Kd.S_drew)); exact HO282.out, hIx, hSx, hKx⟩
          ·
           rw [if_neg c50] at H; exact absurd H (by simp)
         ·
          rw [if_neg c49] at H; have c49b0 : (t275 == 0) = false := beq_eq_false_iff_ne.mpr c49; have c49b1 : (t275 != 0) = true := bne_iff_ne.mpr c49; simp only [Option.some.injEq, Prod.mk.injEq] at H; obtain ⟨rfl, rfl, rfl, rfl⟩ := H
          go_wp2_with (first | ((with_reducible refine gate_dst (N := 94) rfl ?_); refine lit4_event (wrap64 (1 + t236)) t236 ?hg ?hr ?_; (case hg => rfl); (case hr => first | (go_simp; done) | (go_simp; rfl)); intro u7 w50 hS hb; have n0_ := aM (Kd.S_lower (show Kd.S (Kd.slice 3 (Kd.int .i64)) 28 w50 _ (fun _ => True) u7 (spec_l16Draw.lit t236) from hS) (keep_size (w := w) (g := g) (row := none) hKx)); have n2_ := aM (IsS77.below hIx hb); have n3_ := aM (KeepBut.trans hKx (KeepBut.of_below hb g none) (.inl rfl)); have n4_ := aM (below_step hSx hb); clear HO_7; clear HI0; clear HK; clear HB; have HO_7 := n0_; have HI0 := n2_; have HK := n3_; have HB := n4_; clear n0_ n2_ n3_ n4_; clear hb hS) | ((with_reducible refine gate_callee (f := 51) rfl ?_); refine goesL_ (some 96) rfl rfl Try.func51 (by kernel_rfl) rfl #[.pointer (some ⟨g, 0, none⟩), .int .i64 25] rfl mQx ?_; (with_reducible refine (spec_l21Rd_pick.calls kj43 g s0_0 x1001_1 25 t275 t276 w0 _ ?side1 ?side2 A48.out).mono ?_); (case side1 => exact hIx); (case side2 => exact hSx); rintro e w56 ⟨rfl, hi, hb, hk⟩; refine ⟨_, rfl, ?_⟩; have n0_ := aM (Kd.S_mono (Kd.S_keep (IsS77.apartS (show IsS77 w0 _ g s0_0 x1001_1 from hIx) (by (with_reducible repeat (first | apply Kd.S_alloc | apply Kd.S_drewN | apply Kd.S_drew)); exact HO_7.out) (by decide)) hk (fun _ h => h.2)) (fun _ h => h.1)); have n1_ := aM (KeepBut.trans hKx hk (.inl rfl)); have n2_ := aM (hb); have n3_ := aM (hi); clear HO_7; clear HK; clear HB; clear HI0; have HO_7 := n0_; have HK := n1_; have HB := n2_; have HI0 := n3_; clear n0_ n1_ n2_ n3_; (try clear hb); (try clear hb2); (try clear hk); (try clear hi)))
          go_ret3; exact ⟨_, by first | rfl | (simp [*] <;> rfl), by (with_reducible repeat (first | apply Kd.S_alloc | apply Kd.S_drewN | apply Kd.S_drew)); exact HO_7.out, hIx, hSx, hKx⟩
        ·
         replace c47 := Bool.eq_false_iff.mpr c47; subst c47; have H1 : ((spec_l21Rd_pick.f kj43 s0_0 x1001_1 25).bind fun bt283 => (if bt283.1 = 0 then (if x7_1.length < 5864062014805 then (some (t236, t237, (x7_1 ++ [(([0, wrap64 ((wrap64 (t236 * t237)) + 1)] : List Int))]), bt283.2)) else (none)) else (some (t236, t237, x7_1, bt283.2)))) = some (r1, r2, r3, r4) := by rw [if_neg (show ¬ (false = true) by decide)] at H; exact H
         clear H; have H := H1; clear H1; replace H := bE H; obtain ⟨⟨t283, t284⟩, A570, H⟩ := H; replace H : (if t283 = 0 then (if x7_1.length < 5864062014805 then (some (t236, t237, (x7_1 ++ [(([0, wrap64 ((wrap64 (t236 * t237)) + 1)] : List Int))]), t284)) else (none)) else (some (t236, t237, x7_1, t284))) = some (r1, r2, r3, r4) := H; have A57 := aM A570; clear A570; by_cases c58 : t283 = 0
         ·
          rw [if_pos c58] at H; have c58b0 : (t283 == 0) = true := beq_iff_eq.mpr c58; have c58b1 : (t283 != 0) = false := bne_eq_false_iff_eq.mpr c58; clear c58; obtain ⟨y285, hy285⟩ : ∃ y_ : List Int, y_ = (([0, wrap64 ((wrap64 (t236 * t237)) + 1)] : List Int)) := ⟨_, rfl⟩
          replace H : (if x7_1.length < 5864062014805 then (some (t236, t237, (x7_1 ++ [y285]), t284)) else (none)) = some (r1, r2, r3, r4) := by first | (rw [hy285]; with_reducible exact H) | (have H2_ := (Option.bind_some _ _).symm.trans H; rw [hy285]; with_reducible exact H2_) | (have H2_ := (Option.bind_some _ _).symm.trans H; with_reducible exact H2_) | with_reducible exact H | (rw [hy285]; exact H) | exact H
          have Ny285 := aM hy285; clear hy285; by_cases c59 : x7_1.length < 5864062014805
          ·
           rw [if_pos c59] at H; have LMc59 := aM c59; clear c59; obtain ⟨y288, hy288⟩ : ∃ y_ : List (List Int), y_ = (x7_1 ++ [y285]) := ⟨_, rfl⟩
           replace H : (some (t236, t237, y288, t284)) = some (r1, r2, r3, r4) := by first | (rw [hy288]; with_reducible exact H) | (have H2_ := (Option.bind_some _ _).symm.trans H; rw [hy288]; with_reducible exact H2_) | (have H2_ := (Option.bind_some _ _).symm.trans H; with_reducible exact H2_) | with_reducible exact H | (rw [hy288]; exact H) | exact H
           have Ny288 := aM hy288; clear hy288; simp only [Option.some.injEq, Prod.mk.injEq] at H; obtain ⟨rfl, rfl, rfl, rfl⟩ := H
           go_wp2_with (first | ((with_reducible refine gate_callee (f := 51) rfl ?_); refine goesL_ (some 96) rfl rfl Try.func51 (by kernel_rfl) rfl #[.pointer (some ⟨g, 0, none⟩), .int .i64 25] rfl mQx ?_; (with_reducible refine (spec_l21Rd_pick.calls kj43 g s0_0 x1001_1 25 t283 t284 w0 _ ?side1 ?side2 A57.out).mono ?_); (case side1 => exact hIx); (case side2 => exact hSx); rintro e w60 ⟨rfl, hi, hb, hk⟩; refine ⟨_, rfl, ?_⟩; have n0_ := aM (Kd.S_mono (Kd.S_keep (IsS77.apartS (show IsS77 w0 _ g s0_0 x1001_1 from hIx) (by (with_reducible repeat (first | apply Kd.S_alloc | apply Kd.S_drewN | apply Kd.S_drew)); exact HO_7.out) (by decide)) hk (fun _ h => h.2)) (fun _ h => h.1)); have n1_ := aM (KeepBut.trans hKx hk (.inl rfl)); have n2_ := aM (hb); have n3_ := aM (hi); clear HO_7; clear HK; clear HB; clear HI0; have HO_7 := n0_; have HK := n1_; have HB := n2_; have HI0 := n3_; clear n0_ n1_ n2_ n3_; (try clear hb); (try clear hb2); (try clear hk); (try clear hi)) | ((with_reducible refine gate_dst (N := 103) rfl ?_); refine Kd.R_lit (Kd.int .i64) _ 3 ?hg (N := 103) ?hd (xs := ([0, wrap64 ((wrap64 (t236 * t237)) + 1)] : List Int)) (inner := [.int .i64 0, .int .i64 (wrap64 ((wrap64 (t236 * t237)) + 1))]) (ok := fun _ => True) (okp := fun _ => True) ?hr ?hp (fun _ hk => hk) trivial (Below.refl _ _) (Nat.le_refl _) (by simp) ?_; (case hd => rfl); (case hg => rfl); (case hr => first | (go_simp; done) | (go_simp; rfl)); (case hp => exact (Reps.one (show Kd.M (Kd.int .i64) _ _ _ 0 [.int .i64 0] from rfl) (Reps.one (show Kd.M (Kd.int .i64) _ _ _ (wrap64 ((wrap64 (t236 * t237)) + 1)) [.int .i64 (wrap64 ((wrap64 (t236 * t237)) + 1))] from rfl) (Reps.none _ _)))); intro v286 w61 ho62 hb hg_ hnew_; clear hg_ hnew_; (first | rw [← Ny285.out] at ho62 | (simp only [Int.reduceToNat] at ho62; rw [← Ny285.out] at ho62)); have n0_ := aM (Kd.S_elder' (by (with_reducible repeat (first | apply Kd.S_alloc | apply Kd.S_drewN | apply Kd.S_drew)); exact HO_7.out) (Kd.R_base ho62) hb); have n1_ := aM (Kd.R_lower ho62 (keep_size (w := w) (g := g) (row := none) hKx)); have n2_ := aM (IsS77.below hIx hb); have n3_ := aM (KeepBut.trans hKx (KeepBut.of_below hb g none) (.inl rfl)); have n4_ := aM (below_step hSx hb); clear HO_7; clear HI0; clear HK; clear HB; have HO_7 := n0_; have HO287 := n1_; have HI0 := n2_; have HK := n3_; have HB := n4_; clear n0_ n1_ n2_ n3_ n4_; clear hb ho62; obtain ⟨Ao64, co64, eo64⟩ := Kd.R_slice HO287.out; subst eo64) | ((with_reducible refine gate_builtin (b := .append) (xs := #[.tmp 98, .tmp 104]) rfl ?_); at_builtin; refine Kd.S_append (Kd.slice 3 (Kd.int .i64)) w.heap.size rfl (.tmp 98) (.tmp 104) 23 28 (.slice none 0 0) 24 rfl Try.underlying23 info28 rfl (by decide) (by omega) u7 x7_1 y285 [.slice Ao64 y285.length co64] (fun _ => True) (fun k_ => some k_ = (.slice Ao64 y285.length co64 : Value).ownBlock) rfl rfl ?aP (fun k_ hk_ => ((Kd.R_mono (ok' := fun k_ => ((fun _ => True)) k_ ∧ some k_ ≠ (u7 : Value).ownBlock) (Kd.R_apart' (HO287.out) (Kd.S_typed HO_7.out) (by decide)) (fun k_ hk => ⟨trivial, hk.2⟩))).1 k_ hk_.symm) ?aF ?aO (Below.refl _ _) ?aS ?aL ?_; (case aP => exact Kd.M_row (Kd.R_mono (Kd.R_tight rfl (Kd.R_mono (ok' := fun k_ => ((fun _ => True)) k_ ∧ some k_ ≠ (u7 : Value).ownBlock) (Kd.R_apart' (HO287.out) (Kd.S_typed HO_7.out) (by decide)) (fun k_ hk => ⟨trivial, hk.2⟩))) (fun _ h_ => h_))); (case aF => exact (fun _ _ => trivial)); (case aO => exact (by (with_reducible repeat (first | apply Kd.S_alloc | apply Kd.S_drewN | apply Kd.S_drew)); exact Kd.S_mono HO_7.out (fun k_ hk => ⟨trivial, fun e_ => hk.2 e_⟩))); (case aS => exact (keep_size (w := w) (g := g) (row := none) hKx)); (case aL => have := LMc59.out; omega); intro v289 w63 ho hb hg hat; rw [← Ny288.out] at ho; have n0_ := aM (IsS77.grown hIx hg (IsS77.own_neS HI0.out HO_7.out (by decide))); have n1_ := aM (below_weaken hSx HL.out hb); have n2_ := aM (KeepBut.trans hKx (KeepBut.of_grown hg g) (Kd.S_base2 HO_7.out)); have n3_ := aM (ho); clear HI0; clear HB; clear HK; clear HO_7; clear HO287; have HI0 := n0_; have HB := n1_; have HK := n2_; have HO290 := n3_; clear n0_ n1_ n2_ n3_; clear ho hb hg hat))
           go_ret3; exact ⟨_, by first | rfl | (simp [*] <;> rfl), by (with_reducible repeat (first | apply Kd.S_alloc | apply Kd.S_drewN | apply Kd.S_drew)); exact HO290.out, hIx, hSx, hKx⟩
          ·
           rw [if_neg c59] at H; exact absurd H (by simp)
         ·
          rw [if_neg c58] at H; have c58b0 : (t283 == 0) = false := beq_eq_false_iff_ne.mpr c58; have c58b1 : (t283 != 0) = true := bne_iff_ne.mpr c58; simp only [Option.some.injEq, Prod.mk.injEq] at H; obtain ⟨rfl, rfl, rfl, rfl⟩ := H
          go_wp2_with (first | ((with_reducible refine gate_callee (f := 51) rfl ?_); refine goesL_ (some 96) rfl rfl Try.func51 (by kernel_rfl) rfl #[.pointer (some ⟨g, 0, none⟩), .int .i64 25] rfl mQx ?_; (with_reducible refine (spec_l21Rd_pick.calls kj43 g s0_0 x1001_1 25 t283 t284 w0 _ ?side1 ?side2 A57.out).mono ?_); (case side1 => exact hIx); (case side2 => exact hSx); rintro e w65 ⟨rfl, hi, hb, hk⟩; refine ⟨_, rfl, ?_⟩; have n0_ := aM (Kd.S_mono (Kd.S_keep (IsS77.apartS (show IsS77 w0 _ g s0_0 x1001_1 from hIx) (by (with_reducible repeat (first | apply Kd.S_alloc | apply Kd.S_drewN | apply Kd.S_drew)); exact HO_7.out) (by decide)) hk (fun _ h => h.2)) (fun _ h => h.1)); have n1_ := aM (KeepBut.trans hKx hk (.inl rfl)); have n2_ := aM (hb); have n3_ := aM (hi); clear HO_7; clear HK; clear HB; clear HI0; have HO_7 := n0_; have HK := n1_; have HB := n2_; have HI0 := n3_; clear n0_ n1_ n2_ n3_; (try clear hb); (try clear hb2); (try clear hk); (try clear hi)))
          go_ret3; exact ⟨_, by first | rfl | (simp [*] <;> rfl), by (with_reducible repeat (first | apply Kd.S_alloc | apply Kd.S_drewN | apply Kd.S_drew)); exact HO_7.out, hIx, hSx, hKx⟩
def spec_l21Open.f (l0 : List Int) : Option (List Int × Int) := if (l0.length : Int) > 2000 then (if 2000 ≤ (l0.length : Int) then (some (l0.take 2000, 0)) else (none)) else (some (l0, 0))
set_option maxHeartbeats 8000000 in
set_option maxRecDepth 100000 in
theorem spec_l21Open.calls (A0 : Option Addr) (c0 : Nat) (l0 : List Int) (r1 : List Int) (r2 : Int) (w0 w : World) (hB : Below w0.heap.size w0 w) (hr0 : Kd.C (Kd.int .u8) w0 A0 l0.length l0) (hc0 : l0.length ≤ c0) (h : spec_l21Open.f l0 = some (r1, r2)) :
  Calls Try.prog 33 #[.slice A0 l0.length c0] w fun e w' => ∃ g_ : Nat, e = .returned (.pointer (some ⟨g_, 0, none⟩)) ∧ IsS77 w0 w' g_ r1 r2 ∧ Below w0.heap.size w0 w' ∧ Below w.heap.size w w' := by
 have hu77 := Try.underlying77; have HR0 := aM hr0; have HC0 := aM hc0; clear hr0 hc0; have HBW := aM (Below.refl w.heap.size w); have HW0 := aM hB.size; have HB := aM hB; clear hB; have H : (if (l0.length : Int) > 2000 then (if 2000 ≤ (l0.length : Int) then (some (l0.take 2000, 0)) else (none)) else (some (l0, 0))) = some (r1, r2) := h; clear h; by_cases c2 : (l0.length : Int) > 2000
 ·
  rw [if_pos c2] at H; have c2b0 : decide (2000 < (l0.length : Int)) = true := decide_eq_true c2; have c2b1 : decide (2000 < l0.length) = true := decide_eq_true (by omega); clear c2; by_cases c3 : 2000 ≤ (l0.length : Int)
  ·
   rw [if_pos c3] at H; have c3b0 := eq_true c3; have c3b1 : decide (2000 ≤ (l0.length : Int)) = true := decide_eq_true c3; clear c3; simp only [Option.some.injEq, Prod.mk.injEq] at H; obtain ⟨rfl, rfl⟩ := H; obtain ⟨i04, hi04, _, hsz4, _⟩ := info_parts info5; obtain ⟨hcut4, hA4, hC4⟩ := print_take_of (P := Try.prog) (Value.int .u8) 0 22 5 .i64 Try.underlying22 hi04 hsz4 A0 c0 l0 2000 (by omega) (oAx) HC0.out; have HR291 := aM (Kd.C_of_reads (h1 := fun _ => rfl) (hA4 _ (Kd.reads_of_C HR0.out))); have HC291 := aM hC4; clear hA4 hC4 hi04 hsz4; go_enter Try.func33, Try.ntmps33
   go_wp2_with (first | ((with_reducible refine gate_dst (N := 10) rfl ?_); refine box_event ?hg (N := 10) ?hd (cs := #[.slice A0 (l0.take 2000).length c0, .int .i64 0]) (t := 77) ?hr ?_; (case hd => rfl); (case hg => rfl); (case hr => first | (go_simp; done) | (go_simp; rfl)); intro gb292 hg w5 hbox hb; have n0_ := aM (below_step HBW.out hb); have n1_ := aM (below_step hBx hb); have n2_ := aM (hbox); have n3_ := aM ((by rw [hg]; exact (below_size (by repeat (first | (with_reducible first | exact HBW.out | apply bA | apply bN | apply bD) | exact HBW.out))) : w.heap.size ≤ gb292)); have n4_ := aM ((Nat.le_trans HW0.out (by rw [hg]; exact (below_size (by repeat (first | (with_reducible first | exact HBW.out | apply bA | apply bN | apply bD) | exact HBW.out))) : w.heap.size ≤ gb292) : w0.heap.size ≤ gb292)); clear HBW; clear HB; have HBW := n0_; have HB := n1_; have BK292 := n2_; have GW292 := n3_; have GE292 := n4_; clear n0_ n1_ n2_ n3_ n4_; clear hb hbox hg))
   go_ret; exact ⟨_, rfl, (show IsS77 w0 _ gb292 (l0.take 2000) 0 from ⟨_, _, by (with_reducible repeat (first | refine blk_drewN ?_ _ | refine blk_drew ?_ | refine blk_alloc ?_ _)); exact BK292.out, GE292.out, HR291.out⟩), by repeat (first | (with_reducible first | exact HB.out | apply bA | apply bN | apply bD | refine below_set ?_ GE292.out) | exact HB.out), by repeat (first | (with_reducible first | exact HBW.out | apply bA | apply bN | apply bD | refine below_set ?_ GW292.out) | exact HBW.out)⟩
  ·
   rw [if_neg c3] at H; exact absurd H (by simp)
 ·
  rw [if_neg c2] at H; have c2b0 : decide (2000 < (l0.length : Int)) = false := decide_eq_false c2; have c2b1 : decide (2000 < l0.length) = false := decide_eq_false (by omega); clear c2; simp only [Option.some.injEq, Prod.mk.injEq] at H; obtain ⟨rfl, rfl⟩ := H; go_enter Try.func33, Try.ntmps33
  go_wp2_with (first | ((with_reducible refine gate_dst (N := 10) rfl ?_); refine box_event ?hg (N := 10) ?hd (cs := #[.slice A0 l0.length c0, .int .i64 0]) (t := 77) ?hr ?_; (case hd => rfl); (case hg => rfl); (case hr => first | (go_simp; done) | (go_simp; rfl)); intro gb293 hg w6 hbox hb; have n0_ := aM (below_step HBW.out hb); have n1_ := aM (below_step hBx hb); have n2_ := aM (hbox); have n3_ := aM ((by rw [hg]; exact (below_size (by repeat (first | (with_reducible first | exact HBW.out | apply bA | apply bN | apply bD) | exact HBW.out))) : w.heap.size ≤ gb293)); have n4_ := aM ((Nat.le_trans HW0.out (by rw [hg]; exact (below_size (by repeat (first | (with_reducible first | exact HBW.out | apply bA | apply bN | apply bD) | exact HBW.out))) : w.heap.size ≤ gb293) : w0.heap.size ≤ gb293)); clear HBW; clear HB; have HBW := n0_; have HB := n1_; have BK293 := n2_; have GW293 := n3_; have GE293 := n4_; clear n0_ n1_ n2_ n3_ n4_; clear hb hbox hg))
  go_ret; exact ⟨_, rfl, (show IsS77 w0 _ gb293 l0 0 from ⟨_, _, by (with_reducible repeat (first | refine blk_drewN ?_ _ | refine blk_drew ?_ | refine blk_alloc ?_ _)); exact BK293.out, GE293.out, HR0.out⟩), by repeat (first | (with_reducible first | exact HB.out | apply bA | apply bN | apply bD | refine below_set ?_ GE293.out) | exact HB.out), by repeat (first | (with_reducible first | exact HBW.out | apply bA | apply bN | apply bD | refine below_set ?_ GW293.out) | exact HBW.out)⟩
end Go.Proofs.Ytdbokdodjekchaa.PFnRouteNoRound
