/- What the Go functions that this law reaches answer, function by function; conditions: those that each contract names. Made for this claim by a program of this session (wip/myprint) over the kit's print. -/
import Derived.Test.YtmkjcoppadegjaaPFnVlanStaysx0
import Derived.Test.YtmkjcoppadegjaaPFnVlanStaysx5
import Derived.Test.YtmkjcoppadegjaaPFnVlanStaysx7
namespace Go.Proofs.Ytmkjcoppadegjaa.PFnVlanStays
open Go.RowKit Go.Proofs.YtmkjcoppadegjaaW.PrintWords Go.Proofs.YtmkjcoppadegjaaW.PrintLast Go.Proofs.YtmkjcoppadegjaaW.PrintMore
attribute [local go_sem] max2_int min2_int max_two min_two max_three min_three max_four min_four   -- for this text's walks alone
set_option linter.unusedVariables false
set_option linter.unusedSimpArgs false
/-! ### spec_FloodVlan: function 39 -/
mutual
def spec_FloodVlan.j0 : Nat → List (S27) → Int → Int → List (S52) → Bool → Option ((List (S52)))
 | 0, _, _, _, _, _ => none
 | k + 1, x0, x1, x2, x7, x22 => if x22 = true then (some x7) else (if 0 ≤ x1 then (if x1 < (x0.length : Int) then ((spec_VlanIn.f k ((rd_T27 x0 x1).f0) ((rd_T27 x0 x1).f1) ((rd_T27 x0 x1).f2) x2).bind fun t264 => (if t264 < 0 then (some x7) else ((spec_PortsOn.f k x0 t264).bind fun t265 => (spec_FloodVlan.l0 k x0 x1 x7 t264 t265 0)))) else (none)) else (none))
def spec_FloodVlan.l0 : Nat → List (S27) → Int → List (S52) → Int → List Int → Int → Option ((List (S52)))
 | 0, _, _, _, _, _, _ => none
 | k + 1, x0, x1, x7, x8, x9, x10 => if x10 < (x9.length : Int) then (if 0 ≤ x10 then (if (rd x9 x10) = x1 then (spec_FloodVlan.l0 k x0 x1 x7 x8 x9 (wrap64 (x10 + 1))) else (if 0 ≤ (rd x9 x10) then (if (rd x9 x10) < (x0.length : Int) then ((spec_TagOut.f k ((rd_T27 x0 (rd x9 x10)).f0) ((rd_T27 x0 (rd x9 x10)).f1) ((rd_T27 x0 (rd x9 x10)).f2) x8).bind fun t272 => (if x7.length < 8796093022208 then (spec_FloodVlan.l0 k x0 x1 (x7 ++ [(⟨rd x9 x10, t272⟩ : S52)]) x8 x9 (wrap64 (x10 + 1))) else (none))) else (none)) else (none))) else (none)) else (some x7)
end
def spec_FloodVlan.f (k : Nat) (l0 : List (S27)) (a1 : Int) (a2 : Int) : Option ((List (S52))) := (some (([] : List (S52)) : List (S52))).bind fun y258 => ((spec_VPortsValid.f k l0).bind fun t261 => (if t261 = true then ((spec_l1In.f a1 0 (wrap64 ((l0.length : Int) - 1))).bind fun t262 => (spec_FloodVlan.j0 k l0 a1 a2 y258 (!t262))) else (spec_FloodVlan.j0 k l0 a1 a2 y258 true)))
theorem spec_FloodVlan.mono_l : ∀ k, (∀ y0 y1 y2 y3 y4, LeO (spec_FloodVlan.j0 k y0 y1 y2 y3 y4) (spec_FloodVlan.j0 (k + 1) y0 y1 y2 y3 y4)) ∧ (∀ y0 y1 y2 y3 y4 y5, LeO (spec_FloodVlan.l0 k y0 y1 y2 y3 y4 y5) (spec_FloodVlan.l0 (k + 1) y0 y1 y2 y3 y4 y5))
 | 0 => ⟨fun _ _ _ _ _ r h => by simp [spec_FloodVlan.j0] at h, fun _ _ _ _ _ _ r h => by simp [spec_FloodVlan.l0] at h⟩
 | k + 1 => by
  obtain ⟨ih0, ih1⟩ := spec_FloodVlan.mono_l k
  refine ⟨?_, ?_⟩
  ·
   intro y0 y1 y2 y3 y4
   unfold spec_FloodVlan.j0
   repeat' first
   | (with_reducible exact ih0 _ _ _ _ _)
   | (with_reducible exact ih1 _ _ _ _ _ _)
   | (with_reducible exact spec_PortsOn.mono _ _ _)
   | (with_reducible exact spec_TagOut.mono _ _ _ _ _)
   | (with_reducible exact spec_VPortsValid.mono _ _)
   | (with_reducible exact spec_VlanIn.mono _ _ _ _ _)
   | (with_reducible exact LeO.refl _)
   | (with_reducible exact LeO.none _)
   | (with_reducible refine LeO.ite ?_ ?_)
   | (with_reducible refine LeO.bind ?_ (fun _ => ?_))
   | exact ih0 _ _ _ _ _
   | exact ih1 _ _ _ _ _ _
   | exact spec_PortsOn.mono _ _ _
   | exact spec_TagOut.mono _ _ _ _ _
   | exact spec_VPortsValid.mono _ _
   | exact spec_VlanIn.mono _ _ _ _ _
   | exact LeO.none _
   | refine LeO.ite ?_ ?_
   | refine LeO.bind ?_ (fun _ => ?_)
  ·
   intro y0 y1 y2 y3 y4 y5
   unfold spec_FloodVlan.l0
   repeat' first
   | (with_reducible exact ih0 _ _ _ _ _)
   | (with_reducible exact ih1 _ _ _ _ _ _)
   | (with_reducible exact spec_PortsOn.mono _ _ _)
   | (with_reducible exact spec_TagOut.mono _ _ _ _ _)
   | (with_reducible exact spec_VPortsValid.mono _ _)
   | (with_reducible exact spec_VlanIn.mono _ _ _ _ _)
   | (with_reducible exact LeO.refl _)
   | (with_reducible exact LeO.none _)
   | (with_reducible refine LeO.ite ?_ ?_)
   | (with_reducible refine LeO.bind ?_ (fun _ => ?_))
   | exact ih0 _ _ _ _ _
   | exact ih1 _ _ _ _ _ _
   | exact spec_PortsOn.mono _ _ _
   | exact spec_TagOut.mono _ _ _ _ _
   | exact spec_VPortsValid.mono _ _
   | exact spec_VlanIn.mono _ _ _ _ _
   | exact LeO.none _
   | refine LeO.ite ?_ ?_
   | refine LeO.bind ?_ (fun _ => ?_)
theorem spec_FloodVlan.mono : ∀ a0 a1 a2 k, LeO (spec_FloodVlan.f k a0 a1 a2) (spec_FloodVlan.f (k + 1) a0 a1 a2) := by
 intro a0 a1 a2 k
 obtain ⟨ih0, ih1⟩ := spec_FloodVlan.mono_l k
 unfold spec_FloodVlan.f
 repeat' first
   | (with_reducible exact ih0 _ _ _ _ _)
   | (with_reducible exact ih1 _ _ _ _ _ _)
   | (with_reducible exact spec_PortsOn.mono _ _ _)
   | (with_reducible exact spec_TagOut.mono _ _ _ _ _)
   | (with_reducible exact spec_VPortsValid.mono _ _)
   | (with_reducible exact spec_VlanIn.mono _ _ _ _ _)
   | (with_reducible exact LeO.refl _)
   | (with_reducible exact LeO.none _)
   | (with_reducible refine LeO.ite ?_ ?_)
   | (with_reducible refine LeO.bind ?_ (fun _ => ?_))
   | exact ih0 _ _ _ _ _
   | exact ih1 _ _ _ _ _ _
   | exact spec_PortsOn.mono _ _ _
   | exact spec_TagOut.mono _ _ _ _ _
   | exact spec_VPortsValid.mono _ _
   | exact spec_VlanIn.mono _ _ _ _ _
   | exact LeO.none _
   | refine LeO.ite ?_ ?_
   | refine LeO.bind ?_ (fun _ => ?_)
def spec_FloodVlan.T12 : Bool × List (List Nat × List Nat) := (true, [([], []), ([], []), ([], []), ([1, 2], [1, 2]), ([3], [3]), ([], []), ([], []), ([], []), ([6, 7], [6, 7]), ([8], [8]), ([5, 9], [5, 9]), ([10], [10]), ([], []), ([11, 12], [11, 12]), ([4, 13], [4, 13]), ([14], [14]), ([0, 15, 13], [0, 15]), ([16, 16, 0, 1, 2, 3, 4, 5, 6, 7, 8, 9, 10, 11, 12, 13, 14, 15, 16], [0, 16])])
def spec_FloodVlan.B12 : List Nat := [0, 0, 0, 6, 14, 0, 0, 0, 192, 448, 992, 2016, 0, 8160, 16382, 32766, 65535, 131071]
theorem spec_FloodVlan.tab12 : rtab .any (opsOf Try.f39 12) = spec_FloodVlan.T12 := by kernel_rfl
theorem spec_FloodVlan.bits12 : waitsOk spec_FloodVlan.T12.2 spec_FloodVlan.B12 = true := by kernel_rfl
set_option maxHeartbeats 8000000 in
set_option maxRecDepth 100000 in
theorem spec_FloodVlan.calls (k : Nat) (A0 : Option Addr) (c0 : Nat) (l0 : List (S27)) (a1 : Int) (a2 : Int) (r : List (S52)) (w : World) (hr0 : Kd.C k27 w A0 l0.length l0) (hc0 : l0.length ≤ c0) (h : spec_FloodVlan.f k l0 a1 a2 = some r) :
  Calls Try.prog 39 #[.slice A0 l0.length c0, .int .i64 a1, .int .i64 a2] w fun e w' => ∃ v0_ : Value, e = .returned (v0_) ∧ Kd.R k52 52 w' w.heap.size (fun _ => True) v0_ r ∧ Below w.heap.size w w' := by
 have hu27 := Try.underlying27
 have hu52 := Try.underlying52
 have HR0 := aM hr0
 have HC0 := aM hc0
 clear hr0 hc0
 have HB := aM (Below.refl w.heap.size w)
 have H : ((some (([] : List (S52)) : List (S52))).bind fun y258 => ((spec_VPortsValid.f k l0).bind fun t261 => (if t261 = true then ((spec_l1In.f a1 0 (wrap64 ((l0.length : Int) - 1))).bind fun t262 => (spec_FloodVlan.j0 k l0 a1 a2 y258 (!t262))) else (spec_FloodVlan.j0 k l0 a1 a2 y258 true)))) = some r := h
 clear h
 obtain ⟨y258, hy258⟩ : ∃ y_ : List (S52), y_ = (([] : List (S52))) := ⟨_, rfl⟩
 replace H : ((spec_VPortsValid.f k l0).bind fun t261 => (if t261 = true then ((spec_l1In.f a1 0 (wrap64 ((l0.length : Int) - 1))).bind fun t262 => (spec_FloodVlan.j0 k l0 a1 a2 y258 (!t262))) else (spec_FloodVlan.j0 k l0 a1 a2 y258 true))) = some r := by first | (rw [hy258]; with_reducible exact H) | (have H2_ := (Option.bind_some _ _).symm.trans H; rw [hy258]; with_reducible exact H2_) | (have H2_ := (Option.bind_some _ _).symm.trans H; with_reducible exact H2_) | with_reducible exact H | (rw [hy258]; exact H) | exact H
 have Ny258 := aM hy258
 clear hy258
 have HC4 := aM H
 clear H
 go_enter Try.func39, Try.ntmps39
 go_upto_region 2 with (first | ((with_reducible refine gate_dst (N := 11) rfl ?_); (try (refine gate_guard (by rfl) ?_; dsimp only)); refine Kd.R_lit k52 _ 52 ?hg (N := 11) ?hd (xs := ([] : List (S52))) (inner := []) (ok := fun _ => True) (okp := fun _ => True) ?hr ?hp (fun _ hk => hk) trivial (Below.refl _ _) (Nat.le_refl _) (by simp) ?_; (case hd => rfl); (case hg => rfl); (case hr => first | (go_simp; done) | (go_simp; rfl)); (case hp => exact (Reps.none _ _)); intro v259 w5 ho6 hb hg_ hnew_; clear hg_ hnew_; (first | rw [← Ny258.out] at ho6 | (simp only [Int.reduceToNat] at ho6; rw [← Ny258.out] at ho6)); have n0_ := aM (Kd.R_lower ho6 (below_size (by repeat (first | (with_reducible first | exact HB.out | apply below_alloc | apply bN | apply bD) | exact HB.out)))); have n1_ := aM (below_step (by repeat (first | (with_reducible first | exact HB.out | apply below_alloc | apply bN | apply bD) | exact HB.out)) hb); clear HB; have HO260 := n0_; have HB := n1_; clear n0_ n1_; clear hb ho6))
 (try simp only [Act.put, sA, sB, sC])
 go_cut [22] (fun v22 wc => ∃ (kq : Nat) (x22_3 : Bool), v22 = .bool x22_3 ∧ Aside0 (spec_FloodVlan.j0 kq l0 a1 a2 y258 x22_3 = some r) ∧ Aside0 (kq ≤ k) ∧ Aside0 (Kd.R k52 52 wc w.heap.size (fun _ => True) v259 y258) ∧ Aside0 (Below w.heap.size w wc))
 case first =>
  have H := HC4.out
  clear HC4
  replace H := bE H
  obtain ⟨t261, A70, H⟩ := H
  replace H : (if t261 = true then ((spec_l1In.f a1 0 (wrap64 ((l0.length : Int) - 1))).bind fun t262 => (spec_FloodVlan.j0 k l0 a1 a2 y258 (!t262))) else (spec_FloodVlan.j0 k l0 a1 a2 y258 true)) = some r := H
  have A7 := aM A70
  clear A70
  by_cases c8 : t261 = true
  ·
   subst c8
   have H1 : ((spec_l1In.f a1 0 (wrap64 ((l0.length : Int) - 1))).bind fun t262 => (spec_FloodVlan.j0 k l0 a1 a2 y258 (!t262))) = some r := by rw [if_pos rfl] at H; exact H
   clear H
   have H := H1
   clear H1
   replace H := bE H
   obtain ⟨t262, A90, H⟩ := H
   replace H : (spec_FloodVlan.j0 k l0 a1 a2 y258 (!t262)) = some r := H
   have A9 := aM A90
   clear A90
   have H' := aM H
   clear H
   go_wp2_with (first | ((with_reducible refine gate_callee (f := 25) rfl ?_); refine goesL_ (some 13) rfl rfl Try.func25 (by kernel_rfl) rfl #[.slice A0 l0.length c0] rfl (by (try simp only [mA, mB, mC]); first | done | rfl | (simp only [mE, mD]; rfl)) ?_; (with_reducible refine (spec_VPortsValid.calls k _ _ l0 true _ ?side1 ?side2 A7.out).mono ?_); (case side1 => repeat (first | exact (Kd.C_below HR0.out HB.out) | (with_reducible refine Kd.C_alloc ?_ _) | (with_reducible refine Kd.C_drewN ?_ _) | (with_reducible refine Kd.C_drew ?_))); (case side2 => exact HC0.out); rintro e w10 ⟨rfl, hb⟩; refine ⟨_, rfl, ?_⟩; have n0_ := aM (Kd.R_below (by (with_reducible repeat (first | apply Kd.R_alloc | apply Kd.R_drewN | apply Kd.R_drew)); exact HO260.out) hb); have n1_ := aM (below_step (by repeat (first | (with_reducible first | exact HB.out | apply below_alloc | apply bN | apply bD) | exact HB.out)) hb); clear HO260; clear HB; have HO260 := n0_; have HB := n1_; clear n0_ n1_; (try clear hb); (try clear hb2); (try clear hk); (try clear hi)) | (go_at_call 57; (with_reducible refine (spec_l1In.calls a1 0 (wrap64 ((l0.length : Int) - 1)) t262 _ A9.out).mono ?_); rintro e w' ⟨rfl, ⟨nd, rfl⟩⟩))
   go_meet
   case rel => exact ⟨_, (!t262), (by first | rfl | (simp; done) | (simp [*]; done)), H', ⟨by first | omega | exact Nat.le_refl _⟩, ⟨by (with_reducible repeat (first | apply Kd.R_alloc | apply Kd.R_drewN | apply Kd.R_drew)); exact HO260.out⟩, ⟨by repeat (first | (with_reducible first | exact HB.out | apply below_alloc | apply bN | apply bD) | exact HB.out)⟩⟩
  ·
   replace c8 := Bool.eq_false_iff.mpr c8
   subst c8
   have H1 : (spec_FloodVlan.j0 k l0 a1 a2 y258 true) = some r := by rw [if_neg (show ¬ (false = true) by decide)] at H; exact H
   clear H
   have H := H1
   clear H1
   have H' := aM H
   clear H
   go_wp2_with (first | ((with_reducible refine gate_callee (f := 25) rfl ?_); refine goesL_ (some 13) rfl rfl Try.func25 (by kernel_rfl) rfl #[.slice A0 l0.length c0] rfl (by (try simp only [mA, mB, mC]); first | done | rfl | (simp only [mE, mD]; rfl)) ?_; (with_reducible refine (spec_VPortsValid.calls k _ _ l0 false _ ?side1 ?side2 A7.out).mono ?_); (case side1 => repeat (first | exact (Kd.C_below HR0.out HB.out) | (with_reducible refine Kd.C_alloc ?_ _) | (with_reducible refine Kd.C_drewN ?_ _) | (with_reducible refine Kd.C_drew ?_))); (case side2 => exact HC0.out); rintro e w11 ⟨rfl, hb⟩; refine ⟨_, rfl, ?_⟩; have n0_ := aM (Kd.R_below (by (with_reducible repeat (first | apply Kd.R_alloc | apply Kd.R_drewN | apply Kd.R_drew)); exact HO260.out) hb); have n1_ := aM (below_step (by repeat (first | (with_reducible first | exact HB.out | apply below_alloc | apply bN | apply bD) | exact HB.out)) hb); clear HO260; clear HB; have HO260 := n0_; have HB := n1_; clear n0_ n1_; (try clear hb); (try clear hb2); (try clear hk); (try clear hi)))
   go_meet
   case rel => exact ⟨_, (true), (by first | rfl | (simp; done) | (simp [*]; done)), H', ⟨by first | omega | exact Nat.le_refl _⟩, ⟨by (with_reducible repeat (first | apply Kd.R_alloc | apply Kd.R_drewN | apply Kd.R_drew)); exact HO260.out⟩, ⟨by repeat (first | (with_reducible first | exact HB.out | apply below_alloc | apply bN | apply bD) | exact HB.out)⟩⟩
 case rest =>
  clear HC4
  try clear c2
  try clear p2
  try clear c3
  try clear p6
  try clear c8
  obtain ⟨kq, x22_3, rfl, HA, HJ3, HO_7, HB⟩ := hcut
  cases kq with
  | zero => exact absurd HA.out (by simp [spec_FloodVlan.j0])
  | succ kj3 =>
   have H := HA.out
   clear HA
   simp only [spec_FloodVlan.j0] at H
   by_cases c12 : x22_3 = true
   ·
    subst c12
    have H1 : (some y258) = some r := by rw [if_pos rfl] at H; exact H
    clear H
    have H := H1
    clear H1
    obtain rfl := Option.some.inj H
    go_wp2
    go_ret
    exact ⟨_, by first | rfl | (simp [*] <;> rfl), by (with_reducible repeat (first | apply Kd.R_alloc | apply Kd.R_drewN | apply Kd.R_drew)); exact HO_7.out, by repeat (first | (with_reducible first | exact HB.out | apply below_alloc | apply bN | apply bD) | exact HB.out)⟩
   ·
    replace c12 := Bool.eq_false_iff.mpr c12
    subst c12
    have H1 : (if 0 ≤ a1 then (if a1 < (l0.length : Int) then ((spec_VlanIn.f kj3 ((rd_T27 l0 a1).f0) ((rd_T27 l0 a1).f1) ((rd_T27 l0 a1).f2) a2).bind fun t264 => (if t264 < 0 then (some y258) else ((spec_PortsOn.f kj3 l0 t264).bind fun t265 => (spec_FloodVlan.l0 kj3 l0 a1 y258 t264 t265 0)))) else (none)) else (none)) = some r := by rw [if_neg (show ¬ (false = true) by decide)] at H; exact H
    clear H
    have H := H1
    clear H1
    by_cases c13 : 0 ≤ a1
    ·
     rw [if_pos c13] at H
     have c13b0 : decide (0 ≤ a1) = true := decide_eq_true c13
     clear c13
     by_cases c14 : a1 < (l0.length : Int)
     ·
      rw [if_pos c14] at H
      have c14b0 : decide (a1 < (l0.length : Int)) = true := decide_eq_true c14
      clear c14
      replace H := bE H
      obtain ⟨t264, A150, H⟩ := H
      replace H : (if t264 < 0 then (some y258) else ((spec_PortsOn.f kj3 l0 t264).bind fun t265 => (spec_FloodVlan.l0 kj3 l0 a1 y258 t264 t265 0))) = some r := H
      have A15 := aM A150
      clear A150
      by_cases c16 : t264 < 0
      ·
       rw [if_pos c16] at H
       have c16b0 : decide (t264 < 0) = true := decide_eq_true c16
       clear c16
       obtain rfl := Option.some.inj H
       have p263 : 0 ≤ (a1 : Int) := of_decide_eq_true (by assumption)
       have q263 : a1 < (l0.length : Int) := of_decide_eq_true (by assumption)
       obtain ⟨ad263, A263_2, c263_2, e263, hx263_0, hx263_1, hx263_2, hl263_2, hi263_2⟩ := at_T27 HR0.out a1 p263 q263
       cases e263
       replace hx263_0 := (HB.out.cell (bC w _ hx263_0)).trans hx263_0
       replace hx263_1 := (HB.out.cell (bC w _ hx263_1)).trans hx263_1
       replace hx263_2 := (HB.out.cell (bC w _ hx263_2)).trans hx263_2
       have HR263_2 := aM hi263_2
       have HC263_2 := aM hl263_2
       clear hi263_2 hl263_2
       replace p263 := eq_true p263
       replace q263 := eq_true q263
       go_wp2_with (first | ((with_reducible refine gate_callee (f := 22) rfl ?_); refine goesL_ (some 29) rfl rfl Try.func22 (by kernel_rfl) rfl #[.agg #[.int .i64 ((rd_T27 l0 a1).f0), .int .i64 ((rd_T27 l0 a1).f1), .slice A263_2 ((rd_T27 l0 a1).f2).length c263_2], .int .i64 a2] rfl (by (try simp only [mA, mB, mC]); first | done | rfl | (simp only [mE, mD]; rfl)) ?_; (with_reducible refine (spec_VlanIn.calls kj3 ((rd_T27 l0 a1).f0) ((rd_T27 l0 a1).f1) _ _ ((rd_T27 l0 a1).f2) a2 t264 _ ?side1 ?side2 A15.out).mono ?_); (case side1 => repeat (first | exact (Kd.C_below HR263_2.out HB.out) | (with_reducible refine Kd.C_alloc ?_ _) | (with_reducible refine Kd.C_drewN ?_ _) | (with_reducible refine Kd.C_drew ?_))); (case side2 => exact HC263_2.out); rintro e w17 ⟨rfl, hb⟩; refine ⟨_, rfl, ?_⟩; have n0_ := aM (Kd.R_below (by (with_reducible repeat (first | apply Kd.R_alloc | apply Kd.R_drewN | apply Kd.R_drew)); exact HO_7.out) hb); have n1_ := aM (below_step (by repeat (first | (with_reducible first | exact HB.out | apply below_alloc | apply bN | apply bD) | exact HB.out)) hb); clear HO_7; clear HB; have HO_7 := n0_; have HB := n1_; clear n0_ n1_; (try clear hb); (try clear hb2); (try clear hk); (try clear hi)))
       go_ret
       exact ⟨_, by first | rfl | (simp [*] <;> rfl), by (with_reducible repeat (first | apply Kd.R_alloc | apply Kd.R_drewN | apply Kd.R_drew)); exact HO_7.out, by repeat (first | (with_reducible first | exact HB.out | apply below_alloc | apply bN | apply bD) | exact HB.out)⟩
      ·
       rw [if_neg c16] at H
       have c16b0 : decide (t264 < 0) = false := decide_eq_false c16
       clear c16
       replace H := bE H
       obtain ⟨t265, A180, H⟩ := H
       replace H : (spec_FloodVlan.l0 kj3 l0 a1 y258 t264 t265 0) = some r := H
       have A18 := aM A180
       clear A180
       have H' := aM H
       clear H
       have p263 : 0 ≤ (a1 : Int) := of_decide_eq_true (by assumption)
       have q263 : a1 < (l0.length : Int) := of_decide_eq_true (by assumption)
       obtain ⟨ad263, A263_2, c263_2, e263, hx263_0, hx263_1, hx263_2, hl263_2, hi263_2⟩ := at_T27 HR0.out a1 p263 q263
       cases e263
       replace hx263_0 := (HB.out.cell (bC w _ hx263_0)).trans hx263_0
       replace hx263_1 := (HB.out.cell (bC w _ hx263_1)).trans hx263_1
       replace hx263_2 := (HB.out.cell (bC w _ hx263_2)).trans hx263_2
       have HR263_2 := aM hi263_2
       have HC263_2 := aM hl263_2
       clear hi263_2 hl263_2
       replace p263 := eq_true p263
       replace q263 := eq_true q263
       go_wp2_with (first | ((with_reducible refine gate_callee (f := 22) rfl ?_); refine goesL_ (some 29) rfl rfl Try.func22 (by kernel_rfl) rfl #[.agg #[.int .i64 ((rd_T27 l0 a1).f0), .int .i64 ((rd_T27 l0 a1).f1), .slice A263_2 ((rd_T27 l0 a1).f2).length c263_2], .int .i64 a2] rfl (by (try simp only [mA, mB, mC]); first | done | rfl | (simp only [mE, mD]; rfl)) ?_; (with_reducible refine (spec_VlanIn.calls kj3 ((rd_T27 l0 a1).f0) ((rd_T27 l0 a1).f1) _ _ ((rd_T27 l0 a1).f2) a2 t264 _ ?side1 ?side2 A15.out).mono ?_); (case side1 => repeat (first | exact (Kd.C_below HR263_2.out HB.out) | (with_reducible refine Kd.C_alloc ?_ _) | (with_reducible refine Kd.C_drewN ?_ _) | (with_reducible refine Kd.C_drew ?_))); (case side2 => exact HC263_2.out); rintro e w19 ⟨rfl, hb⟩; refine ⟨_, rfl, ?_⟩; have n0_ := aM (Kd.R_below (by (with_reducible repeat (first | apply Kd.R_alloc | apply Kd.R_drewN | apply Kd.R_drew)); exact HO_7.out) hb); have n1_ := aM (below_step (by repeat (first | (with_reducible first | exact HB.out | apply below_alloc | apply bN | apply bD) | exact HB.out)) hb); clear HO_7; clear HB; have HO_7 := n0_; have HB := n1_; clear n0_ n1_; (try clear hb); (try clear hb2); (try clear hk); (try clear hi)) | ((with_reducible refine gate_callee (f := 31) rfl ?_); refine goesL_ (some 35) rfl rfl Try.func31 (by kernel_rfl) rfl #[.slice (some ad263) l0.length c0, .int .i64 t264] rfl (by (try simp only [mA, mB, mC]); first | done | rfl | (simp only [mE, mD]; rfl)) ?_; (with_reducible refine (spec_PortsOn.calls kj3 _ _ l0 t264 t265 _ ?side1 ?side2 A18.out).mono ?_); (case side1 => repeat (first | exact (Kd.C_below HR0.out HB.out) | (with_reducible refine Kd.C_alloc ?_ _) | (with_reducible refine Kd.C_drewN ?_ _) | (with_reducible refine Kd.C_drew ?_))); (case side2 => exact HC0.out); rintro e w20 ⟨v266, rfl, ho0, hb⟩; refine ⟨_, rfl, ?_⟩; have n0_ := aM (Kd.R_below (by (with_reducible repeat (first | apply Kd.R_alloc | apply Kd.R_drewN | apply Kd.R_drew)); exact HO_7.out) hb); have n1_ := aM (Kd.R_lower ho0 (below_size (by repeat (first | (with_reducible first | exact HB.out | apply below_alloc | apply bN | apply bD) | exact HB.out)))); have n2_ := aM (below_step (by repeat (first | (with_reducible first | exact HB.out | apply below_alloc | apply bN | apply bD) | exact HB.out)) hb); clear HO_7; clear HB; have HO_7 := n0_; have HO267 := n1_; have HB := n2_; clear n0_ n1_ n2_; (try clear hb); (try clear hb2); (try clear hk); (try clear hi); (try clear ho0)))
       go_loopg [7, 10] kj3 (fun kq v7 v10 w' => ∃ (x7_2 : List (S52)) (x10_2 : Int), v10 = .int .i64 x10_2 ∧ Aside0 (spec_FloodVlan.l0 kq l0 a1 x7_2 t264 t265 x10_2 = some r) ∧ Aside0 (kq ≤ kj3) ∧ Aside0 (Kd.R k52 52 w' w.heap.size (fun _ => True) v7 x7_2) ∧ Aside0 (Kd.R (Kd.int .i64) 3 w' w.heap.size (fun _ => True) v266 t265) ∧ Aside0 (Below w.heap.size w w'))
       case atStart => exact ⟨(y258), (0), (by first | rfl | (simp; done) | (simp [*]; done)), H', ⟨Nat.le_refl _⟩, ⟨by (with_reducible repeat (first | apply Kd.R_alloc | apply Kd.R_drewN | apply Kd.R_drew)); exact HO_7.out⟩, ⟨by (with_reducible repeat (first | apply Kd.R_alloc | apply Kd.R_drewN | apply Kd.R_drew)); exact HO267.out⟩, ⟨by repeat (first | (with_reducible first | exact HB.out | apply below_alloc | apply bN | apply bD) | exact HB.out)⟩⟩
       case round =>
        clear H'
        try clear c1
        try clear c2
        try clear p2
        try clear q2
        try clear hx2
        try clear c3
        try clear p6
        try clear c8
        try clear c12
        try clear c13
        try clear c13b0
        try clear c14
        try clear c14b0
        try clear c16
        try clear c16b0
        try clear hx263_0
        try clear hx263_1
        try clear hx263_2
        try clear p2
        try clear p263
        try clear p6
        try clear q263
        obtain ⟨x7_2, x10_2, rfl, HA, HK2, HO_7, HO_9, HB⟩ := hrel
        cases gk with
        | zero => exact absurd HA.out (by simp [spec_FloodVlan.l0])
        | succ k2 =>
         have H := HA.out
         clear HA
         simp only [spec_FloodVlan.l0] at H
         by_cases c21 : x10_2 < (t265.length : Int)
         ·
          rw [if_pos c21] at H
          have c21b0 : decide (x10_2 < (t265.length : Int)) = true := decide_eq_true c21
          clear c21
          by_cases c22 : 0 ≤ x10_2
          ·
           rw [if_pos c22] at H
           have c22b0 : decide (0 ≤ x10_2) = true := decide_eq_true c22
           clear c22
           by_cases c23 : (rd t265 x10_2) = a1
           ·
            rw [if_pos c23] at H
            have c23b0 : ((rd t265 x10_2) == a1) = true := beq_iff_eq.mpr c23
            have c23b1 : ((rd t265 x10_2) != a1) = false := bne_eq_false_iff_eq.mpr c23
            clear c23
            have H' := aM H
            clear H
            obtain ⟨Ao24, co24, eo24⟩ := Kd.R_slice HO_9.out
            subst eo24
            have p268 : 0 ≤ (x10_2 : Int) := of_decide_eq_true (by assumption)
            have q268 : x10_2 < (t265.length : Int) := of_decide_eq_true (by assumption)
            obtain ⟨ad268, e268, hx268_0⟩ := Kd.at_int (Kd.R_reads' HO_9.out).2.2 x10_2 p268 q268
            cases e268
            replace p268 := eq_true p268
            replace q268 := eq_true q268
            go_wp2
            go_roundg k2
            case measure => have := HJ3.out; have := HK2.out; omega
            case rel => exact ⟨(x7_2), (wrap64 (x10_2 + 1)), (by first | rfl | (simp; done) | (simp [*]; done)), H', ⟨by have := HJ3.out; have := HK2.out; omega⟩, ⟨by (with_reducible repeat (first | apply Kd.R_alloc | apply Kd.R_drewN | apply Kd.R_drew)); exact HO_7.out⟩, ⟨by (with_reducible repeat (first | apply Kd.R_alloc | apply Kd.R_drewN | apply Kd.R_drew)); exact HO_9.out⟩, ⟨by repeat (first | (with_reducible first | exact HB.out | apply below_alloc | apply bN | apply bD) | exact HB.out)⟩⟩
           ·
            rw [if_neg c23] at H
            have c23b0 : ((rd t265 x10_2) == a1) = false := beq_eq_false_iff_ne.mpr c23
            have c23b1 : ((rd t265 x10_2) != a1) = true := bne_iff_ne.mpr c23
            by_cases c25 : 0 ≤ (rd t265 x10_2)
            ·
             rw [if_pos c25] at H
             have c25b0 : decide (0 ≤ (rd t265 x10_2)) = true := decide_eq_true c25
             clear c25
             by_cases c26 : (rd t265 x10_2) < (l0.length : Int)
             ·
              rw [if_pos c26] at H
              have c26b0 : decide ((rd t265 x10_2) < (l0.length : Int)) = true := decide_eq_true c26
              clear c26
              replace H := bE H
              obtain ⟨t272, A270, H⟩ := H
              replace H : (if x7_2.length < 8796093022208 then (spec_FloodVlan.l0 k2 l0 a1 (x7_2 ++ [(⟨rd t265 x10_2, t272⟩ : S52)]) t264 t265 (wrap64 (x10_2 + 1))) else (none)) = some r := H
              have A27 := aM A270
              clear A270
              by_cases c28 : x7_2.length < 8796093022208
              ·
               rw [if_pos c28] at H
               have LMc28 := aM c28
               clear c28
               obtain ⟨y273, hy273⟩ : ∃ y_ : List (S52), y_ = (x7_2 ++ [(⟨rd t265 x10_2, t272⟩ : S52)]) := ⟨_, rfl⟩
               replace H : (spec_FloodVlan.l0 k2 l0 a1 y273 t264 t265 (wrap64 (x10_2 + 1))) = some r := by first | (rw [hy273]; with_reducible exact H) | (have H2_ := (Option.bind_some _ _).symm.trans H; rw [hy273]; with_reducible exact H2_) | (have H2_ := (Option.bind_some _ _).symm.trans H; with_reducible exact H2_) | with_reducible exact H | (rw [hy273]; exact H) | exact H
               have Ny273 := aM hy273
               clear hy273
               have H' := aM H
               clear H
               obtain ⟨Ao29, co29, eo29⟩ := Kd.R_slice HO_9.out
               subst eo29
               have p268 : 0 ≤ (x10_2 : Int) := of_decide_eq_true (by assumption)
               have q268 : x10_2 < (t265.length : Int) := of_decide_eq_true (by assumption)
               obtain ⟨ad268, e268, hx268_0⟩ := Kd.at_int (Kd.R_reads' HO_9.out).2.2 x10_2 p268 q268
               cases e268
               replace p268 := eq_true p268
               replace q268 := eq_true q268
               try go_wp2
               have n0_ := aM (Kd.R_drew HO_7.out)
               have n1_ := aM (Kd.R_drew HO_9.out)
               have n2_ := aM (bD HB.out)
               clear HO_7
               clear HO_9
               clear HB
               have HO_7 := n0_
               have HO_9 := n1_
               have HB := n2_
               clear n0_ n1_ n2_
               have p269 : 0 ≤ (x10_2 : Int) := of_decide_eq_true (by assumption)
               have q269 : x10_2 < (t265.length : Int) := of_decide_eq_true (by assumption)
               obtain ⟨ad269, e269, hx269_0⟩ := Kd.at_int (Kd.R_reads' HO_9.out).2.2 x10_2 p269 q269
               obtain rfl : ad268 = ad269 := (by injection e269)
               replace p269 := eq_true p269
               replace q269 := eq_true q269
               have p270 : 0 ≤ (x10_2 : Int) := of_decide_eq_true (by assumption)
               have q270 : x10_2 < (t265.length : Int) := of_decide_eq_true (by assumption)
               obtain ⟨ad270, e270, hx270_0⟩ := Kd.at_int (Kd.R_reads' HO_9.out).2.2 x10_2 p270 q270
               obtain rfl : ad268 = ad270 := (by injection e270)
               replace p270 := eq_true p270
               replace q270 := eq_true q270
               have p271 : 0 ≤ ((rd t265 x10_2) : Int) := of_decide_eq_true (by assumption)
               have q271 : (rd t265 x10_2) < (l0.length : Int) := of_decide_eq_true (by assumption)
               obtain ⟨ad271, A271_2, c271_2, e271, hx271_0, hx271_1, hx271_2, hl271_2, hi271_2⟩ := at_T27 HR0.out (rd t265 x10_2) p271 q271
               have hw271_2 := hx271_2
               have hw271_1 := hx271_1
               have hw271_0 := hx271_0
               obtain rfl : ad263 = ad271 := (by injection e271)
               replace hx271_0 := (HB.out.cell (bC w _ hx271_0)).trans hx271_0
               replace hx271_1 := (HB.out.cell (bC w _ hx271_1)).trans hx271_1
               replace hx271_2 := (HB.out.cell (bC w _ hx271_2)).trans hx271_2
               have HR271_2 := aM hi271_2
               have HC271_2 := aM hl271_2
               clear hi271_2 hl271_2
               replace p271 := eq_true p271
               replace q271 := eq_true q271
               refine start_ (n := 18) (S := fun w' => w'.cell? (ad268.add (x10_2).toNat) = some (.int .i64 (rd t265 x10_2)) ∧ w'.cell? (ad268.add (x10_2).toNat) = some (.int .i64 (rd t265 x10_2)) ∧ w'.cell? (ad263.add (((rd t265 x10_2)).toNat * 3)) = some (.int .i64 ((rd_T27 l0 (rd t265 x10_2)).f0)) ∧ w'.cell? ⟨(ad263.add (((rd t265 x10_2)).toNat * 3)).block, (ad263.add (((rd t265 x10_2)).toNat * 3)).off + 1, none⟩ = some (.int .i64 ((rd_T27 l0 (rd t265 x10_2)).f1)) ∧ w'.cell? ⟨(ad263.add (((rd t265 x10_2)).toNat * 3)).block, (ad263.add (((rd t265 x10_2)).toNat * 3)).off + 2, none⟩ = some (.slice A271_2 ((rd_T27 l0 (rd t265 x10_2)).f2).length c271_2)) (ds := [15, 16]) #[false, false, false, false, false, false, false, false, false, false, false, false, false, false, false, false, false, false] (by kernel_rfl) rfl rfl ⟨hx269_0, hx270_0, ((HB.out.cell (bC w _ hw271_0)).trans hw271_0), ((HB.out.cell (bC w _ hw271_1)).trans hw271_1), ((HB.out.cell (bC w _ hw271_2)).trans hw271_2)⟩ (fun hHeld => ?_); refine with_tabW spec_FloodVlan.tab12 spec_FloodVlan.bits12 (fun HT_ HW_ => ?_)
               generalize wr.drew = w30 at HO_7 HO_9 HB HR271_2 hx269_0 hx270_0 hx271_0 hx271_1 hx271_2 hHeld ⊢
               refine pure_ (i := 0) (N := some 48) (v := ?_) (a' := ?_) #[true, false, false, false, false, false, false, false, false, false, false, false, false, false, false, false, false, false] rfl rfl (any_of HT_.out (by kernel_rfl)) (fun _ _ _ h => h) (Or.inl ⟨by rfl, ?_⟩) ?_ ?_
               rotate_left
               ·
                intro w'
                go_simp
                with_reducible rfl
               rotate_left
               ·
                simp only [Act.put, sA, sB, sC, i64_w]
                rfl
               refine pure_ (i := 1) (N := some 49) (v := ?_) (a' := ?_) #[true, true, false, false, false, false, false, false, false, false, false, false, false, false, false, false, false, false] rfl rfl (any_of HT_.out (by kernel_rfl)) (fun _ _ _ h => h) (Or.inl ⟨by rfl, ?_⟩) ?_ ?_
               rotate_left
               ·
                intro w'
                go_simp
                with_reducible rfl
               rotate_left
               ·
                simp only [Act.put, sA, sB, sC, i64_w]
                rfl
               refine pure_ (i := 2) (N := some 50) (v := ?_) (a' := ?_) #[true, true, true, false, false, false, false, false, false, false, false, false, false, false, false, false, false, false] rfl rfl (any_of HT_.out (by kernel_rfl)) (fun _ _ _ h => h) (Or.inl ⟨by rfl, ?_⟩) ?_ ?_
               rotate_left
               ·
                intro w'
                go_simp
                with_reducible rfl
               rotate_left
               ·
                simp only [Act.put, sA, sB, sC, i64_w]
                rfl
               refine pure_ (i := 3) (N := some 51) (v := ?_) (a' := ?_) #[true, true, true, true, false, false, false, false, false, false, false, false, false, false, false, false, false, false] rfl rfl (any_of HT_.out (by kernel_rfl)) (fun _ _ _ h => h) (Or.inl ⟨by rfl, ?_⟩) ?_ ?_
               rotate_left
               ·
                intro w'
                go_simp
                with_reducible rfl
               rotate_left
               ·
                simp only [Act.put, sA, sB, sC, i64_w]
                rfl
               refine pure_ (i := 5) (N := some 53) (v := ?_) (a' := ?_) #[true, true, true, true, false, true, false, false, false, false, false, false, false, false, false, false, false, false] rfl rfl (any_of HT_.out (by kernel_rfl)) (fun _ _ _ h => h) (Or.inl ⟨by rfl, ?_⟩) ?_ ?_
               rotate_left
               ·
                intro w'
                go_simp
                with_reducible rfl
               rotate_left
               ·
                simp only [Act.put, sA, sB, sC, i64_w]
                rfl
               refine pure_ (i := 6) (N := some 54) (v := ?_) (a' := ?_) #[true, true, true, true, false, true, true, false, false, false, false, false, false, false, false, false, false, false] rfl rfl (any_of HT_.out (by kernel_rfl)) (fun _ _ _ h => h) (Or.inl ⟨by rfl, ?_⟩) ?_ ?_
               rotate_left
               ·
                intro w'
                go_simp
                with_reducible rfl
               rotate_left
               ·
                simp only [Act.put, sA, sB, sC, i64_w]
                rfl
               refine pure_ (i := 7) (N := some 55) (v := ?_) (a' := ?_) #[true, true, true, true, false, true, true, true, false, false, false, false, false, false, false, false, false, false] rfl rfl (any_of HT_.out (by kernel_rfl)) (fun _ _ _ h => h) (Or.inl ⟨by rfl, ?_⟩) ?_ ?_
               rotate_left
               ·
                intro w'
                go_simp
                with_reducible rfl
               rotate_left
               ·
                simp only [Act.put, sA, sB, sC, i64_w]
                rfl
               refine pure_ (i := 8) (N := some 56) (v := ?_) (a' := ?_) #[true, true, true, true, false, true, true, true, true, false, false, false, false, false, false, false, false, false] rfl rfl (any_of HT_.out (by kernel_rfl)) (fun _ _ _ h => h) (Or.inl ⟨by rfl, ?_⟩) ?_ ?_
               rotate_left
               ·
                intro w'
                go_simp
                with_reducible rfl
               rotate_left
               ·
                simp only [Act.put, sA, sB, sC, i64_w]
                rfl
               refine pure_ (i := 12) (N := some 60) (v := ?_) (a' := ?_) #[true, true, true, true, false, true, true, true, true, false, false, false, true, false, false, false, false, false] rfl rfl (any_of HT_.out (by kernel_rfl)) (fun _ _ _ h => h) (Or.inl ⟨by rfl, ?_⟩) ?_ ?_
               rotate_left
               ·
                intro w'
                go_simp
                with_reducible rfl
               rotate_left
               ·
                simp only [Act.put, sA, sB, sC, i64_w]
                rfl
               refine take_ (i := 4) (N := some 52) (v := ?_) (a' := ?_) #[true, true, true, true, true, true, true, true, true, false, false, false, true, false, false, false, false, false] rfl rfl (take_ofW HT_.out HW_.out (by kernel_rfl)) (fun _ _ _ h => h) (Or.inl ⟨by rfl, ?_⟩) hHeld ?_ ?_
               rotate_left
               ·
                rintro w' ⟨s0, s1, s2, s3, s4⟩
                go_simp
                with_reducible rfl
               rotate_left
               ·
                simp only [Act.put, sA, sB, sC, i64_w]
                rfl
               refine take_ (i := 9) (N := some 57) (v := ?_) (a' := ?_) #[true, true, true, true, true, true, true, true, true, true, false, false, true, false, false, false, false, false] rfl rfl (take_ofW HT_.out HW_.out (by kernel_rfl)) (fun _ _ _ h => h) (Or.inl ⟨by rfl, ?_⟩) hHeld ?_ ?_
               rotate_left
               ·
                rintro w' ⟨s0, s1, s2, s3, s4⟩
                go_simp
                with_reducible rfl
               rotate_left
               ·
                simp only [Act.put, sA, sB, sC, i64_w]
                rfl
               refine pure_ (i := 10) (N := some 58) (v := ?_) (a' := ?_) #[true, true, true, true, true, true, true, true, true, true, true, false, true, false, false, false, false, false] rfl rfl (any_of HT_.out (by kernel_rfl)) (fun _ _ _ h => h) (Or.inl ⟨by rfl, ?_⟩) ?_ ?_
               rotate_left
               ·
                intro w'
                go_simp
                with_reducible rfl
               rotate_left
               ·
                simp only [Act.put, sA, sB, sC, i64_w]
                rfl
               refine take_ (i := 11) (N := some 59) (v := ?_) (a' := ?_) #[true, true, true, true, true, true, true, true, true, true, true, true, true, false, false, false, false, false] rfl rfl (take_ofW HT_.out HW_.out (by kernel_rfl)) (fun _ _ _ h => h) (Or.inl ⟨by rfl, ?_⟩) hHeld ?_ ?_
               rotate_left
               ·
                rintro w' ⟨s0, s1, s2, s3, s4⟩
                go_simp
                with_reducible rfl
               rotate_left
               ·
                simp only [Act.put, sA, sB, sC, i64_w]
                rfl
               refine one_ (i := 13) (N := some 61) #[true, true, true, true, true, true, true, true, true, true, true, true, true, true, false, false, false, false] rfl rfl (one_of HT_.out (by kernel_rfl)) (by decide) (fun K hK => ?_)
               refine goes_ Try.func18 (by kernel_rfl) rfl #[.agg #[.int .i64 ((rd_T27 l0 (rd t265 x10_2)).f0), .int .i64 ((rd_T27 l0 (rd t265 x10_2)).f1), .slice A271_2 ((rd_T27 l0 (rd t265 x10_2)).f2).length c271_2], .int .i64 t264] (by rfl) rfl rfl (by (try simp only [mA, mB, mC]); first | done | rfl | (simp only [mE, mD]; rfl)) ?_
               with_reducible refine (spec_TagOut.calls k2 ((rd_T27 l0 (rd t265 x10_2)).f0) ((rd_T27 l0 (rd t265 x10_2)).f1) _ _ ((rd_T27 l0 (rd t265 x10_2)).f2) t264 t272 _ ?side1 ?side2 A27.out).mono ?_
               (case side1 => repeat (first | exact (Kd.C_below HR271_2.out HB.out) | (with_reducible refine Kd.C_alloc ?_ _) | (with_reducible refine Kd.C_drewN ?_ _) | (with_reducible refine Kd.C_drew ?_)))
               (case side2 => exact HC271_2.out)
               rintro e w31 ⟨rfl, hb⟩
               have HS0_ := (hb.cell (bC _ _ (hHeld.1))).trans (hHeld.1)
               have HS1_ := (hb.cell (bC _ _ (hHeld.2.1))).trans (hHeld.2.1)
               refine ⟨_, rfl, ?_⟩
               have n0_ := aM (Kd.R_below (by (with_reducible repeat (first | apply Kd.R_alloc | apply Kd.R_drewN | apply Kd.R_drew)); exact HO_7.out) hb)
               have n1_ := aM (Kd.R_below (by (with_reducible repeat (first | apply Kd.R_alloc | apply Kd.R_drewN | apply Kd.R_drew)); exact HO_9.out) hb)
               have n2_ := aM (below_step (by repeat (first | (with_reducible first | exact HB.out | apply below_alloc | apply bN | apply bD) | exact HB.out)) hb)
               clear HO_7
               clear HO_9
               clear HB
               have HO_7 := n0_
               have HO_9 := n1_
               have HB := n2_
               clear n0_ n1_ n2_
               (try clear hb)
               (try clear hb2)
               (try clear hk)
               (try clear hi)
               refine hK.out _ _ ⟨HS0_, HS1_, ((HB.out.cell (bC w _ hw271_0)).trans hw271_0), ((HB.out.cell (bC w _ hw271_1)).trans hw271_1), ((HB.out.cell (bC w _ hw271_2)).trans hw271_2)⟩ (fun hHeld => ?_)
               clear hK K
               refine norm_ (a' := ?_) ?_ ?_
               rotate_left
               ·
                show Act.put _ (some 61) _ = _
                simp only [Act.put, sA, sB, sC, i64_w]
                rfl
               refine pure_ (i := 14) (N := some 62) (v := ?_) (a' := ?_) #[true, true, true, true, true, true, true, true, true, true, true, true, true, true, true, false, false, false] rfl rfl (any_of HT_.out (by kernel_rfl)) (fun _ _ _ h => h) (Or.inl ⟨by rfl, ?_⟩) ?_ ?_
               rotate_left
               ·
                intro w'
                go_simp
                with_reducible rfl
               rotate_left
               ·
                simp only [Act.put, sA, sB, sC, i64_w]
                rfl
               refine last_ (i := 15) (N := some 63) #[true, true, true, true, true, true, true, true, true, true, true, true, true, true, true, true, false, false] rfl rfl (one_of HT_.out (by kernel_rfl)) (by decide) (fun K hK => ?_)
               refine value_ (w1 := ?_) (v := ?_) (by rfl) rfl ?_ ?_
               rotate_left 2
               ·
                go_simp
                constructor
                ·
                 rfl
                ·
                 rfl
               refine hK.out _ _ ?_
               clear hK K
               refine norm_ (a' := ?_) ?_ ?_
               rotate_left
               ·
                show Act.put _ (some 63) _ = _
                simp only [Act.put, sA, sB, sC, i64_w]
                rfl
               refine last_ (i := 16) (N := some 64) #[true, true, true, true, true, true, true, true, true, true, true, true, true, true, true, true, true, false] rfl rfl (one_of HT_.out (by kernel_rfl)) (by decide) (fun K hK => ?_)
               refine Kd.R_append_step k52 (w0 := w) w.heap.size (by rfl) (.tmp 48) (.tmp 63) 49 52 (.agg #[(.int .i64 0), (.int .i64 0)]) 16 rfl Try.underlying49 info52 rfl (by decide) (by omega) u7 x7_2 (⟨rd t265 x10_2, t272⟩ : S52) [.int .i64 (rd t265 x10_2), .int .i64 t272] (fun _ => True) (fun _ => False) rfl rfl ?aP (fun _ hk => hk.elim) ?aF ?aO ?aB ?aS ?aL ?_
               (case aP => exact k52_mkM _ _ _ (⟨rd t265 x10_2, t272⟩ : S52))
               (case aB => exact (by repeat (first | (with_reducible first | exact HB.out | apply below_alloc | apply bN | apply bD) | exact HB.out)))
               (case aF => exact (fun _ _ => trivial))
               (case aO => exact (by (with_reducible repeat (first | apply Kd.R_alloc | apply Kd.R_drewN | apply Kd.R_drew)); exact HO_7.out))
               (case aS => exact (below_size (by repeat (first | (with_reducible first | exact HB.out | apply below_alloc | apply bN | apply bD) | exact HB.out))))
               (case aL => have := LMc28.out; omega)
               intro v274 w32 ho hb hg hat
               rw [← Ny273.out] at ho
               have n0_ := aM (Kd.R_over' (by (with_reducible repeat (first | apply Kd.R_alloc | apply Kd.R_drewN | apply Kd.R_drew)); exact HO_9.out) (Kd.R_typed (by (with_reducible repeat (first | apply Kd.R_alloc | apply Kd.R_drewN | apply Kd.R_drew)); exact HO_7.out)) (by decide) hg)
               have n1_ := aM (hb)
               have n2_ := aM (ho)
               clear HO_9
               clear HB
               clear HO_7
               have HO_9 := n0_
               have HB := n1_
               have HO275 := n2_
               clear n0_ n1_ n2_
               clear ho hb hg hat
               refine hK.out _ _ ?_
               clear hK K
               refine norm_ (a' := ?_) ?_ ?_
               rotate_left
               ·
                show Act.put _ (some 64) _ = _
                simp only [Act.put, sA, sB, sC, i64_w]
                rfl
               refine pure_ (i := 17) (N := some 7) (v := ?_) (a' := ?_) #[true, true, true, true, true, true, true, true, true, true, true, true, true, true, true, true, true, true] rfl rfl (any_of HT_.out (by kernel_rfl)) (fun _ _ _ h => h) (Or.inl ⟨by rfl, ?_⟩) ?_ ?_
               rotate_left
               ·
                intro w'
                go_simp
                with_reducible rfl
               rotate_left
               ·
                simp only [Act.put, sA, sB, sC, i64_w]
                rfl
               refine done_ (done_of HT_.out (by kernel_rfl)) ?_
               try go_wp2
               go_roundg k2
               case measure => have := HJ3.out; have := HK2.out; omega
               case rel => exact ⟨(y273), (wrap64 (x10_2 + 1)), (by first | rfl | (simp; done) | (simp [*]; done)), H', ⟨by have := HJ3.out; have := HK2.out; omega⟩, ⟨by (with_reducible repeat (first | apply Kd.R_alloc | apply Kd.R_drewN | apply Kd.R_drew)); exact HO275.out⟩, ⟨by (with_reducible repeat (first | apply Kd.R_alloc | apply Kd.R_drewN | apply Kd.R_drew)); exact HO_9.out⟩, ⟨by repeat (first | (with_reducible first | exact HB.out | apply below_alloc | apply bN | apply bD) | exact HB.out)⟩⟩
              ·
               rw [if_neg c28] at H
               exact absurd H (by simp)
             ·
              rw [if_neg c26] at H
              exact absurd H (by simp)
            ·
             rw [if_neg c25] at H
             exact absurd H (by simp)
          ·
           rw [if_neg c22] at H
           exact absurd H (by simp)
         ·
          rw [if_neg c21] at H
          have c21b0 : decide (x10_2 < (t265.length : Int)) = false := decide_eq_false c21
          clear c21
          obtain rfl := Option.some.inj H
          obtain ⟨Ao33, co33, eo33⟩ := Kd.R_slice HO_9.out
          subst eo33
          go_wp2
          go_ret
          exact ⟨_, by first | rfl | (simp [*] <;> rfl), by (with_reducible repeat (first | apply Kd.R_alloc | apply Kd.R_drewN | apply Kd.R_drew)); exact HO_7.out, by repeat (first | (with_reducible first | exact HB.out | apply below_alloc | apply bN | apply bD) | exact HB.out)⟩
     ·
      rw [if_neg c14] at H
      exact absurd H (by simp)
    ·
     rw [if_neg c13] at H
     exact absurd H (by simp)
end Go.Proofs.Ytmkjcoppadegjaa.PFnVlanStays
