/- What the Go functions that this law reaches answer, function by function; conditions: those that each contract names. Made for this claim by a program of this session (wip/myprint) over the kit's print. -/
import Derived.Test.YtmkjcoppadegjaaPFnVlanStaysx0
import Derived.Test.YtmkjcoppadegjaaPFnVlanStaysx2
import Derived.Test.YtmkjcoppadegjaaPFnVlanStaysx3
namespace Go.Proofs.Ytmkjcoppadegjaa.PFnVlanStays
open Go.RowKit Go.Proofs.YtmkjcoppadegjaaW.PrintWords Go.Proofs.YtmkjcoppadegjaaW.PrintLast Go.Proofs.YtmkjcoppadegjaaW.PrintMore
attribute [local go_sem] max2_int min2_int max_two min_two max_three min_three max_four min_four   -- for this text's walks alone
set_option linter.unusedVariables false
set_option linter.unusedSimpArgs false
/-! ### spec_l10Ports: function 62 -/
def spec_l10Ports.l0 : Nat → List (S27) → Int → List Int → Int → Option ((List (S27)) × Int)
 | 0, _, _, _, _ => none
 | k + 1, x3, x4, x1000, x1001 => if x4 > 0 then ((spec_l10Draw.f k x1000 x1001).bind fun bt143 => (if x3.length < 3518437208883 then (spec_l10Ports.l0 k (x3 ++ [(⟨bt143.1, bt143.2.1, bt143.2.2.1⟩ : S27)]) (wrap64 (x4 - 1)) x1000 bt143.2.2.2) else (none))) else ((spec_l21Rd_pick.f k x1000 x1001 (x3.length : Int)).bind fun bt152 => (if 0 ≤ bt152.1 then (if bt152.1 < (x3.length : Int) then ((spec_l21Rd_pick.f k x1000 bt152.2 75).bind fun bt154 => (if bt154.1 = 0 then ((spec_l21Rd_num.f k x1000 bt154.2 (([0, 3] : List Int))).bind fun bt159 => (some ((x3.set (bt152.1 : Int).toNat (⟨bt159.1, (rd_T27 x3 bt152.1).f1, (rd_T27 x3 bt152.1).f2⟩ : S27)), bt159.2))) else (if bt154.1 = 1 then ((spec_l21Rd_num.f k x1000 bt154.2 (([0, 10] : List Int))).bind fun bt165 => (some ((x3.set (bt152.1 : Int).toNat (⟨(rd_T27 x3 bt152.1).f0, bt165.1, (rd_T27 x3 bt152.1).f2⟩ : S27)), bt165.2))) else (if bt154.1 = 2 then (if ((rd_T27 x3 bt152.1).f2).length < 17592186044416 then (some ((x3.set (bt152.1 : Int).toNat (⟨(rd_T27 x3 bt152.1).f0, (rd_T27 x3 bt152.1).f1, (((rd_T27 x3 bt152.1).f2) ++ [(rd_T27 x3 bt152.1).f1])⟩ : S27)), bt154.2)) else (none)) else (if bt154.1 = 3 then (if ((rd_T27 x3 bt152.1).f2).length < 17592186044416 then (some ((x3.set (bt152.1 : Int).toNat (⟨(rd_T27 x3 bt152.1).f0, (rd_T27 x3 bt152.1).f1, (((rd_T27 x3 bt152.1).f2) ++ [1])⟩ : S27)), bt154.2)) else (none)) else (if bt154.1 = 4 then ((spec_l21Rd_num.f k x1000 bt154.2 (([0, 7] : List Int))).bind fun bt182 => (if 0 ≤ bt182.1 then (if (bt182.1 : Int).toNat ≤ 7036874417766 then (some ((List.replicate (bt182.1 : Int).toNat z27), bt182.2)) else (none)) else (none))) else (some (x3, bt154.2)))))))) else (none)) else (none)))
def spec_l10Ports.f (k : Nat) (s0_0 : List Int) (s0_1 : Int) : Option ((List (S27)) × Int) := (spec_l21Rd_num.f k s0_0 s0_1 (([3, 4, 2, 6, 1] : List Int))).bind fun bt141 => (spec_l10Ports.l0 k (([] : List (S27))) bt141.1 s0_0 bt141.2)
theorem spec_l10Ports.mono_l : ∀ k, (∀ y0 y1 y2 y3, LeO (spec_l10Ports.l0 k y0 y1 y2 y3) (spec_l10Ports.l0 (k + 1) y0 y1 y2 y3))
 | 0 => fun _ _ _ _ r h => by simp [spec_l10Ports.l0] at h
 | k + 1 => by
  have ih0 := spec_l10Ports.mono_l k
  ·
   intro y0 y1 y2 y3
   unfold spec_l10Ports.l0
   repeat' first
   | (with_reducible exact ih0 _ _ _ _)
   | (with_reducible exact spec_l10Draw.mono _ _ _)
   | (with_reducible exact spec_l21Rd_num.mono _ _ _ _)
   | (with_reducible exact spec_l21Rd_pick.mono _ _ _ _)
   | (with_reducible exact LeO.refl _)
   | (with_reducible exact LeO.none _)
   | (with_reducible refine LeO.ite ?_ ?_)
   | (with_reducible refine LeO.bind ?_ (fun _ => ?_))
   | exact ih0 _ _ _ _
   | exact spec_l10Draw.mono _ _ _
   | exact spec_l21Rd_num.mono _ _ _ _
   | exact spec_l21Rd_pick.mono _ _ _ _
   | exact LeO.none _
   | refine LeO.ite ?_ ?_
   | refine LeO.bind ?_ (fun _ => ?_)
theorem spec_l10Ports.mono : ∀ a0 a1 k, LeO (spec_l10Ports.f k a0 a1) (spec_l10Ports.f (k + 1) a0 a1) := by
 intro a0 a1 k
 have ih0 := spec_l10Ports.mono_l k
 unfold spec_l10Ports.f
 repeat' first
   | (with_reducible exact ih0 _ _ _ _)
   | (with_reducible exact spec_l10Draw.mono _ _ _)
   | (with_reducible exact spec_l21Rd_num.mono _ _ _ _)
   | (with_reducible exact spec_l21Rd_pick.mono _ _ _ _)
   | (with_reducible exact LeO.refl _)
   | (with_reducible exact LeO.none _)
   | (with_reducible refine LeO.ite ?_ ?_)
   | (with_reducible refine LeO.bind ?_ (fun _ => ?_))
   | exact ih0 _ _ _ _
   | exact spec_l10Draw.mono _ _ _
   | exact spec_l21Rd_num.mono _ _ _ _
   | exact spec_l21Rd_pick.mono _ _ _ _
   | exact LeO.none _
   | refine LeO.ite ?_ ?_
   | refine LeO.bind ?_ (fun _ => ?_)
def spec_l10Ports.T13 : Bool × List (List Nat × List Nat) := (true, [([], []), ([], []), ([1], [1]), ([2], [2]), ([3], [3]), ([], []), ([5], [5]), ([6], [6]), ([7], [7]), ([8], [8]), ([4, 9], [4, 9]), ([0, 0, 1, 2, 3, 4, 5, 6, 7, 8, 9, 10], [0]), ([11, 0, 1, 2, 3, 4, 5, 6, 7, 8, 9, 10], [11]), ([12, 10, 10, 0, 1, 2, 3, 4, 5, 6, 7, 8, 9, 10], [10, 12])])
def spec_l10Ports.B13 : List Nat := [0, 0, 2, 6, 14, 0, 32, 96, 224, 480, 1022, 2047, 4095, 8191]
theorem spec_l10Ports.tab13 : rtab .any (opsOf Try.f62 13) = spec_l10Ports.T13 := by kernel_rfl
theorem spec_l10Ports.bits13 : waitsOk spec_l10Ports.T13.2 spec_l10Ports.B13 = true := by kernel_rfl
set_option maxHeartbeats 8000000 in
set_option maxRecDepth 100000 in
theorem spec_l10Ports.calls (k : Nat) (g : Nat) (s0_0 : List Int) (s0_1 : Int) (r1 : List (S27)) (r2 : Int) (w0 w : World) (hI : IsS77 w0 w g s0_0 s0_1) (hB : Below w0.heap.size w0 w) (h : spec_l10Ports.f k s0_0 s0_1 = some (r1, r2)) :
  Calls Try.prog 62 #[.pointer (some ⟨g, 0, none⟩)] w fun e w' => ∃ v0_ : Value, e = .returned (v0_) ∧ Kd.S k27 27 w' w.heap.size (fun _ => True) v0_ r1 ∧ IsS77 w0 w' g s0_0 r2 ∧ Below w0.heap.size w0 w' ∧ KeepBut w w' g none := by
 have HI0 := aM hI
 have HK := aM (KeepBut.refl w g none)
 have HL := aM hB.size
 clear hI
 have HW0 := aM hB.size
 have HB := aM hB
 clear hB
 have H : ((spec_l21Rd_num.f k s0_0 s0_1 (([3, 4, 2, 6, 1] : List Int))).bind fun bt141 => (spec_l10Ports.l0 k (([] : List (S27))) bt141.1 s0_0 bt141.2)) = some (r1, r2) := h
 clear h
 obtain ⟨y135, hy135⟩ : ∃ y_ : List (S27), y_ = (([] : List (S27))) := ⟨_, rfl⟩
 replace H : ((spec_l21Rd_num.f k s0_0 s0_1 (([3, 4, 2, 6, 1] : List Int))).bind fun bt141 => (spec_l10Ports.l0 k y135 bt141.1 s0_0 bt141.2)) = some (r1, r2) := by first | (rw [hy135]; with_reducible exact H) | (have H2_ := (Option.bind_some _ _).symm.trans H; rw [hy135]; with_reducible exact H2_) | (have H2_ := (Option.bind_some _ _).symm.trans H; with_reducible exact H2_) | with_reducible exact H | (rw [hy135]; exact H) | exact H
 have Ny135 := aM hy135
 clear hy135
 obtain ⟨y138, hy138⟩ : ∃ y_ : List Int, y_ = (([3, 4, 2, 6, 1] : List Int)) := ⟨_, rfl⟩
 replace H : ((spec_l21Rd_num.f k s0_0 s0_1 y138).bind fun bt141 => (spec_l10Ports.l0 k y135 bt141.1 s0_0 bt141.2)) = some (r1, r2) := by first | (rw [hy138]; with_reducible exact H) | (have H2_ := (Option.bind_some _ _).symm.trans H; rw [hy138]; with_reducible exact H2_) | (have H2_ := (Option.bind_some _ _).symm.trans H; with_reducible exact H2_) | with_reducible exact H | (rw [hy138]; exact H) | exact H
 have Ny138 := aM hy138
 clear hy138
 replace H := bE H
 obtain ⟨⟨t141, t142⟩, A20, H⟩ := H
 replace H : (spec_l10Ports.l0 k y135 t141 s0_0 t142) = some (r1, r2) := H
 have A2 := aM A20
 clear A20
 have H' := aM H
 clear H
 go_enter Try.func62, Try.ntmps62
 go_wp2_with (first | ((with_reducible refine gate_dst (N := 6) rfl ?_); refine Kd.S_lit k27 _ 27 ?hg (N := 6) ?hd (xs := ([] : List (S27))) (inner := []) (ok := fun _ => True) (okp := fun _ => True) ?hr ?hp (fun _ hk => hk) trivial (Below.refl _ _) (Nat.le_refl _) (by simp) ?_; (case hd => rfl); (case hg => rfl); (case hr => first | (go_simp; done) | (go_simp; rfl)); (case hp => exact (Reps.none _ _)); intro v136 w3 ho4 hb hg_ hnew_; clear hg_ hnew_; (first | rw [← Ny135.out] at ho4 | (simp only [Int.reduceToNat] at ho4; rw [← Ny135.out] at ho4)); have n0_ := aM (Kd.S_lower ho4 (keep_size (w := w) (g := g) (row := none) (by repeat (first | (with_reducible first | exact HK.out | apply KeepBut.set_ | apply keep_drewN | apply keep_drew | apply keep_alloc) | exact HK.out)))); have n1_ := aM (IsS77.below (by repeat (first | (with_reducible first | exact HI0.out | apply IsS77.alloc | apply IsS77.drewN | apply IsS77.drew | apply IsS77.set_1) | exact HI0.out)) hb); have n2_ := aM (KeepBut.trans (by repeat (first | (with_reducible first | exact HK.out | apply KeepBut.set_ | apply keep_drewN | apply keep_drew | apply keep_alloc) | exact HK.out)) (KeepBut.of_below hb g none) (.inl rfl)); have n3_ := aM (below_step (by repeat (first | (with_reducible first | exact HB.out | apply below_alloc | apply bN | apply bD | refine below_set ?_ (IsS77.ge HI0.out)) | exact HB.out)) hb); clear HI0; clear HK; clear HB; have HO137 := n0_; have HI0 := n1_; have HK := n2_; have HB := n3_; clear n0_ n1_ n2_ n3_; clear hb ho4) | ((with_reducible refine gate_dst (N := 8) rfl ?_); refine Kd.R_lit (Kd.int .i64) _ 3 ?hg (N := 8) ?hd (xs := ([3, 4, 2, 6, 1] : List Int)) (inner := [.int .i64 3, .int .i64 4, .int .i64 2, .int .i64 6, .int .i64 1]) (ok := fun _ => True) (okp := fun _ => True) ?hr ?hp (fun _ hk => hk) trivial (Below.refl _ _) (Nat.le_refl _) (by simp) ?_; (case hd => rfl); (case hg => rfl); (case hr => first | (go_simp; done) | (go_simp; rfl)); (case hp => exact (Reps.one (show Kd.M (Kd.int .i64) _ _ _ 3 [.int .i64 3] from rfl) (Reps.one (show Kd.M (Kd.int .i64) _ _ _ 4 [.int .i64 4] from rfl) (Reps.one (show Kd.M (Kd.int .i64) _ _ _ 2 [.int .i64 2] from rfl) (Reps.one (show Kd.M (Kd.int .i64) _ _ _ 6 [.int .i64 6] from rfl) (Reps.one (show Kd.M (Kd.int .i64) _ _ _ 1 [.int .i64 1] from rfl) (Reps.none _ _))))))); intro v139 w5 ho6 hb hg_ hnew_; clear hg_ hnew_; (first | rw [← Ny138.out] at ho6 | (simp only [Int.reduceToNat] at ho6; rw [← Ny138.out] at ho6)); have n0_ := aM (Kd.S_elder' (by (with_reducible repeat (first | apply Kd.S_alloc | apply Kd.S_drewN | apply Kd.S_drew)); exact HO137.out) (Kd.R_base ho6) hb); have n1_ := aM (Kd.R_lower ho6 (keep_size (w := w) (g := g) (row := none) (by repeat (first | (with_reducible first | exact HK.out | apply KeepBut.set_ | apply keep_drewN | apply keep_drew | apply keep_alloc) | exact HK.out)))); have n2_ := aM (IsS77.below (by repeat (first | (with_reducible first | exact HI0.out | apply IsS77.alloc | apply IsS77.drewN | apply IsS77.drew | apply IsS77.set_1) | exact HI0.out)) hb); have n3_ := aM (KeepBut.trans (by repeat (first | (with_reducible first | exact HK.out | apply KeepBut.set_ | apply keep_drewN | apply keep_drew | apply keep_alloc) | exact HK.out)) (KeepBut.of_below hb g none) (.inl rfl)); have n4_ := aM (below_step (by repeat (first | (with_reducible first | exact HB.out | apply below_alloc | apply bN | apply bD | refine below_set ?_ (IsS77.ge HI0.out)) | exact HB.out)) hb); clear HO137; clear HI0; clear HK; clear HB; have HO137 := n0_; have HO140 := n1_; have HI0 := n2_; have HK := n3_; have HB := n4_; clear n0_ n1_ n2_ n3_ n4_; clear hb ho6; obtain ⟨Ao7, co7, eo7⟩ := Kd.R_slice HO140.out; subst eo7) | ((with_reducible refine gate_callee (f := 64) rfl ?_); refine goesL_ (some 9) rfl rfl Try.func64 (by kernel_rfl) rfl #[.pointer (some ⟨g, 0, none⟩), .slice Ao7 y138.length co7] rfl (by (try simp only [mA, mB, mC]); first | done | rfl | (simp only [mE, mD]; rfl)) ?_; (with_reducible refine (spec_l21Rd_num.calls k g s0_0 s0_1 _ _ y138 t141 t142 w0 _ ?side1 ?side2 ?side3 ?side4 ?side5 A2.out).mono ?_); (case side1 => repeat (first | (with_reducible first | exact HI0.out | apply IsS77.alloc | apply IsS77.drewN | apply IsS77.drew | apply IsS77.set_1) | exact HI0.out)); (case side2 => repeat (first | (with_reducible first | exact HB.out | apply below_alloc | apply bN | apply bD | refine below_set ?_ (IsS77.ge HI0.out)) | exact HB.out)); (case side3 => repeat (first | exact (Kd.R_reads' HO140.out).2.2 | (with_reducible refine Kd.C_alloc ?_ _) | (with_reducible refine Kd.C_drewN ?_ _) | (with_reducible refine Kd.C_drew ?_))); (case side4 => exact (Kd.R_reads' HO140.out).2.1); (case side5 => exact far_slice (IsS77.own_ne HI0.out HO140.out (by decide))); rintro e w8 ⟨rfl, hi, hb, hk⟩; refine ⟨_, rfl, ?_⟩; have n0_ := aM (Kd.S_mono (Kd.S_keep (IsS77.apartS (show IsS77 w0 _ g s0_0 s0_1 from by repeat (first | (with_reducible first | exact HI0.out | apply IsS77.alloc | apply IsS77.drewN | apply IsS77.drew | apply IsS77.set_1) | exact HI0.out)) (by (with_reducible repeat (first | apply Kd.S_alloc | apply Kd.S_drewN | apply Kd.S_drew)); exact HO137.out) (by decide)) hk (fun _ h => h.2)) (fun _ h => h.1)); have n1_ := aM (Kd.R_mono (Kd.R_keep (IsS77.apart (show IsS77 w0 _ g s0_0 s0_1 from by repeat (first | (with_reducible first | exact HI0.out | apply IsS77.alloc | apply IsS77.drewN | apply IsS77.drew | apply IsS77.set_1) | exact HI0.out)) (by (with_reducible repeat (first | apply Kd.R_alloc | apply Kd.R_drewN | apply Kd.R_drew)); exact HO140.out) (by decide)) hk (fun _ h => h.2)) (fun _ h => h.1)); have n2_ := aM (KeepBut.trans (by repeat (first | (with_reducible first | exact HK.out | apply KeepBut.set_ | apply keep_drewN | apply keep_drew | apply keep_alloc) | exact HK.out)) hk (.inl rfl)); have n3_ := aM (hb); have n4_ := aM (hi); clear HO137; clear HO140; clear HK; clear HB; clear HI0; have HO137 := n0_; have HO140 := n1_; have HK := n2_; have HB := n3_; have HI0 := n4_; clear n0_ n1_ n2_ n3_ n4_; (try clear hb); (try clear hb2); (try clear hk); (try clear hi)))
 go_loopg [3, 4] k (fun kq v3 v4 w' => ∃ (x3_1 : List (S27)) (x4_1 : Int) (x1001_1 : Int), v4 = .int .i64 x4_1 ∧ Aside0 (spec_l10Ports.l0 kq x3_1 x4_1 s0_0 x1001_1 = some (r1, r2)) ∧ Aside0 (kq ≤ k) ∧ Aside0 (Kd.S k27 27 w' w.heap.size (fun _ => True) v3 x3_1) ∧ Aside0 (IsS77 w0 w' g s0_0 x1001_1) ∧ Aside0 (KeepBut w w' g none) ∧ Aside0 (Below w0.heap.size w0 w'))
 case atStart => exact ⟨(y135), (t141), (t142), (by first | rfl | (simp; done) | (simp [*]; done)), H', ⟨Nat.le_refl _⟩, ⟨by (with_reducible repeat (first | apply Kd.S_alloc | apply Kd.S_drewN | apply Kd.S_drew)); exact Kd.S_mono HO137.out (fun _ hk => trivial)⟩, ⟨by repeat (first | (with_reducible first | exact HI0.out | apply IsS77.alloc | apply IsS77.drewN | apply IsS77.drew | apply IsS77.set_1) | exact HI0.out)⟩, ⟨by repeat (first | (with_reducible first | exact HK.out | apply KeepBut.set_ | apply keep_drewN | apply keep_drew | apply keep_alloc) | exact HK.out)⟩, ⟨by repeat (first | (with_reducible first | exact HB.out | apply below_alloc | apply bN | apply bD | refine below_set ?_ (IsS77.ge HI0.out)) | exact HB.out)⟩⟩
 case round =>
  clear H'
  try clear p2
  try clear c6
  obtain ⟨x3_1, x4_1, x1001_1, rfl, HA, HK1, HO_3, HI0, HK, HB⟩ := hrel
  cases gk with
  | zero => exact absurd HA.out (by simp [spec_l10Ports.l0])
  | succ k1 =>
   have H := HA.out
   clear HA
   simp only [spec_l10Ports.l0] at H
   by_cases c9 : x4_1 > 0
   ·
    rw [if_pos c9] at H
    have c9b0 : decide (0 < x4_1) = true := decide_eq_true c9
    clear c9
    replace H := bE H
    obtain ⟨⟨t143, t144, t145, t148⟩, A100, H⟩ := H
    replace H : (if x3_1.length < 3518437208883 then (spec_l10Ports.l0 k1 (x3_1 ++ [(⟨t143, t144, t145⟩ : S27)]) (wrap64 (x4_1 - 1)) s0_0 t148) else (none)) = some (r1, r2) := H
    have A10 := aM A100
    clear A100
    by_cases c11 : x3_1.length < 3518437208883
    ·
     rw [if_pos c11] at H
     have LMc11 := aM c11
     clear c11
     obtain ⟨y149, hy149⟩ : ∃ y_ : List (S27), y_ = (x3_1 ++ [(⟨t143, t144, t145⟩ : S27)]) := ⟨_, rfl⟩
     replace H : (spec_l10Ports.l0 k1 y149 (wrap64 (x4_1 - 1)) s0_0 t148) = some (r1, r2) := by first | (rw [hy149]; with_reducible exact H) | (have H2_ := (Option.bind_some _ _).symm.trans H; rw [hy149]; with_reducible exact H2_) | (have H2_ := (Option.bind_some _ _).symm.trans H; with_reducible exact H2_) | with_reducible exact H | (rw [hy149]; exact H) | exact H
     have Ny149 := aM hy149
     clear hy149
     have H' := aM H
     clear H
     go_wp2_with (first | ((with_reducible refine gate_callee (f := 76) rfl ?_); refine goesL_ (some 16) rfl rfl Try.func76 (by kernel_rfl) rfl #[.pointer (some ⟨g, 0, none⟩)] rfl (by (try simp only [mA, mB, mC]); first | done | rfl | (simp only [mE, mD]; rfl)) ?_; (with_reducible refine (spec_l10Draw.calls k1 g s0_0 x1001_1 t143 t144 t145 t148 w0 _ ?side1 ?side2 A10.out).mono ?_); (case side1 => repeat (first | (with_reducible first | exact HI0.out | apply IsS77.alloc | apply IsS77.drewN | apply IsS77.drew | apply IsS77.set_1) | exact HI0.out)); (case side2 => repeat (first | (with_reducible first | exact HB.out | apply below_alloc | apply bN | apply bD | refine below_set ?_ (IsS77.ge HI0.out)) | exact HB.out)); rintro e w12 ⟨v146, rfl, ho0, hi, hb, hk⟩; refine ⟨_, rfl, ?_⟩; have n0_ := aM (Kd.S_mono (Kd.S_told (Kd.S_oldK (IsS77.apartS (show IsS77 w0 _ g s0_0 x1001_1 from by repeat (first | (with_reducible first | exact HI0.out | apply IsS77.alloc | apply IsS77.drewN | apply IsS77.drew | apply IsS77.set_1) | exact HI0.out)) (by (with_reducible repeat (first | apply Kd.S_alloc | apply Kd.S_drewN | apply Kd.S_drew)); exact HO_3.out) (by decide)) hk) (Kd.R_base ho0)) (fun _ h_ => h_.1)); have n1_ := aM (Kd.R_lower ho0 (keep_size (w := w) (g := g) (row := none) (by repeat (first | (with_reducible first | exact HK.out | apply KeepBut.set_ | apply keep_drewN | apply keep_drew | apply keep_alloc) | exact HK.out)))); have n2_ := aM (KeepBut.trans (by repeat (first | (with_reducible first | exact HK.out | apply KeepBut.set_ | apply keep_drewN | apply keep_drew | apply keep_alloc) | exact HK.out)) hk (.inl rfl)); have n3_ := aM (hb); have n4_ := aM (hi); clear HO_3; clear HK; clear HB; clear HI0; have HO_3 := n0_; have HO147 := n1_; have HK := n2_; have HB := n3_; have HI0 := n4_; clear n0_ n1_ n2_ n3_ n4_; (try clear hb); (try clear hb2); (try clear hk); (try clear hi); (try clear ho0); obtain ⟨Ao14, co14, eo14⟩ := Kd.R_slice HO147.out; subst eo14) | ((with_reducible refine gate_builtin (b := .append) (xs := #[.tmp 14, .tmp 17]) rfl ?_); at_builtin; refine Kd.S_append k27 w.heap.size rfl (.tmp 14) (.tmp 17) 34 27 (.agg #[(.int .i64 0), (.int .i64 0), (.slice none 0 0)]) 40 rfl Try.underlying34 info27 rfl (by decide) (by omega) u3 x3_1 (⟨t143, t144, t145⟩ : S27) [.int .i64 t143, .int .i64 t144, .slice Ao14 t145.length co14] (fun _ => True) (fun k_ => some k_ = (.slice Ao14 t145.length co14 : Value).ownBlock) rfl rfl ?aP (fun k_ hk_ => ((Kd.R_mono (ok' := fun k_ => ((fun _ => True)) k_ ∧ some k_ ≠ (u3 : Value).ownBlock) (Kd.R_apart' (HO147.out) (Kd.S_typed HO_3.out) (by decide)) (fun k_ hk => ⟨trivial, hk.2⟩))).1 k_ hk_.symm) ?aF ?aO (Below.refl _ _) ?aS ?aL ?_; (case aP => exact k27_mkM _ _ _ (⟨t143, t144, t145⟩ : S27) (Kd.R_mono (Kd.R_tight rfl (Kd.R_mono (ok' := fun k_ => ((fun _ => True)) k_ ∧ some k_ ≠ (u3 : Value).ownBlock) (Kd.R_apart' (HO147.out) (Kd.S_typed HO_3.out) (by decide)) (fun k_ hk => ⟨trivial, hk.2⟩))) (fun _ h_ => h_))); (case aF => exact (fun _ _ => trivial)); (case aO => exact (by (with_reducible repeat (first | apply Kd.S_alloc | apply Kd.S_drewN | apply Kd.S_drew)); exact Kd.S_mono HO_3.out (fun k_ hk => ⟨trivial, fun e_ => hk.2 e_⟩))); (case aS => exact (keep_size (w := w) (g := g) (row := none) (by repeat (first | (with_reducible first | exact HK.out | apply KeepBut.set_ | apply keep_drewN | apply keep_drew | apply keep_alloc) | exact HK.out)))); (case aL => have := LMc11.out; omega); intro v150 w13 ho hb hg hat; rw [← Ny149.out] at ho; have n0_ := aM (IsS77.grown (by repeat (first | (with_reducible first | exact HI0.out | apply IsS77.alloc | apply IsS77.drewN | apply IsS77.drew | apply IsS77.set_1) | exact HI0.out)) hg (IsS77.own_neS HI0.out HO_3.out (by decide))); have n1_ := aM (below_weaken (by repeat (first | (with_reducible first | exact HB.out | apply below_alloc | apply bN | apply bD | refine below_set ?_ (IsS77.ge HI0.out)) | exact HB.out)) HL.out hb); have n2_ := aM (KeepBut.trans (by repeat (first | (with_reducible first | exact HK.out | apply KeepBut.set_ | apply keep_drewN | apply keep_drew | apply keep_alloc) | exact HK.out)) (KeepBut.of_grown hg g) (Kd.S_base2 HO_3.out)); have n3_ := aM (ho); clear HI0; clear HB; clear HK; clear HO_3; clear HO147; have HI0 := n0_; have HB := n1_; have HK := n2_; have HO151 := n3_; clear n0_ n1_ n2_ n3_; clear ho hb hg hat))
     go_roundg k1
     case measure => have := HK1.out; omega
     case rel => exact ⟨(y149), (wrap64 (x4_1 - 1)), (t148), (by first | rfl | (simp; done) | (simp [*]; done)), H', ⟨by have := HK1.out; omega⟩, ⟨by (with_reducible repeat (first | apply Kd.S_alloc | apply Kd.S_drewN | apply Kd.S_drew)); exact HO151.out⟩, ⟨by repeat (first | (with_reducible first | exact HI0.out | apply IsS77.alloc | apply IsS77.drewN | apply IsS77.drew | apply IsS77.set_1) | exact HI0.out)⟩, ⟨by repeat (first | (with_reducible first | exact HK.out | apply KeepBut.set_ | apply keep_drewN | apply keep_drew | apply keep_alloc) | exact HK.out)⟩, ⟨by repeat (first | (with_reducible first | exact HB.out | apply below_alloc | apply bN | apply bD | refine below_set ?_ (IsS77.ge HI0.out)) | exact HB.out)⟩⟩
    ·
     rw [if_neg c11] at H
     exact absurd H (by simp)
   ·
    rw [if_neg c9] at H
    have c9b0 : decide (0 < x4_1) = false := decide_eq_false c9
    clear c9
    replace H := bE H
    obtain ⟨⟨t152, t153⟩, A150, H⟩ := H
    replace H : (if 0 ≤ t152 then (if t152 < (x3_1.length : Int) then ((spec_l21Rd_pick.f k1 s0_0 t153 75).bind fun bt154 => (if bt154.1 = 0 then ((spec_l21Rd_num.f k1 s0_0 bt154.2 (([0, 3] : List Int))).bind fun bt159 => (some ((x3_1.set (t152 : Int).toNat (⟨bt159.1, (rd_T27 x3_1 t152).f1, (rd_T27 x3_1 t152).f2⟩ : S27)), bt159.2))) else (if bt154.1 = 1 then ((spec_l21Rd_num.f k1 s0_0 bt154.2 (([0, 10] : List Int))).bind fun bt165 => (some ((x3_1.set (t152 : Int).toNat (⟨(rd_T27 x3_1 t152).f0, bt165.1, (rd_T27 x3_1 t152).f2⟩ : S27)), bt165.2))) else (if bt154.1 = 2 then (if ((rd_T27 x3_1 t152).f2).length < 17592186044416 then (some ((x3_1.set (t152 : Int).toNat (⟨(rd_T27 x3_1 t152).f0, (rd_T27 x3_1 t152).f1, (((rd_T27 x3_1 t152).f2) ++ [(rd_T27 x3_1 t152).f1])⟩ : S27)), bt154.2)) else (none)) else (if bt154.1 = 3 then (if ((rd_T27 x3_1 t152).f2).length < 17592186044416 then (some ((x3_1.set (t152 : Int).toNat (⟨(rd_T27 x3_1 t152).f0, (rd_T27 x3_1 t152).f1, (((rd_T27 x3_1 t152).f2) ++ [1])⟩ : S27)), bt154.2)) else (none)) else (if bt154.1 = 4 then ((spec_l21Rd_num.f k1 s0_0 bt154.2 (([0, 7] : List Int))).bind fun bt182 => (if 0 ≤ bt182.1 then (if (bt182.1 : Int).toNat ≤ 7036874417766 then (some ((List.replicate (bt182.1 : Int).toNat z27), bt182.2)) else (none)) else (none))) else (some (x3_1, bt154.2)))))))) else (none)) else (none)) = some (r1, r2) := H
    have A15 := aM A150
    clear A150
    by_cases c16 : 0 ≤ t152
    ·
     rw [if_pos c16] at H
     have c16b0 : decide (0 ≤ t152) = true := decide_eq_true c16
     clear c16
     by_cases c17 : t152 < (x3_1.length : Int)
     ·
      rw [if_pos c17] at H
      have c17b0 : decide (t152 < (x3_1.length : Int)) = true := decide_eq_true c17
      clear c17
      replace H := bE H
      obtain ⟨⟨t154, t155⟩, A190, H⟩ := H
      replace H : (if t154 = 0 then ((spec_l21Rd_num.f k1 s0_0 t155 (([0, 3] : List Int))).bind fun bt159 => (some ((x3_1.set (t152 : Int).toNat (⟨bt159.1, (rd_T27 x3_1 t152).f1, (rd_T27 x3_1 t152).f2⟩ : S27)), bt159.2))) else (if t154 = 1 then ((spec_l21Rd_num.f k1 s0_0 t155 (([0, 10] : List Int))).bind fun bt165 => (some ((x3_1.set (t152 : Int).toNat (⟨(rd_T27 x3_1 t152).f0, bt165.1, (rd_T27 x3_1 t152).f2⟩ : S27)), bt165.2))) else (if t154 = 2 then (if ((rd_T27 x3_1 t152).f2).length < 17592186044416 then (some ((x3_1.set (t152 : Int).toNat (⟨(rd_T27 x3_1 t152).f0, (rd_T27 x3_1 t152).f1, (((rd_T27 x3_1 t152).f2) ++ [(rd_T27 x3_1 t152).f1])⟩ : S27)), t155)) else (none)) else (if t154 = 3 then (if ((rd_T27 x3_1 t152).f2).length < 17592186044416 then (some ((x3_1.set (t152 : Int).toNat (⟨(rd_T27 x3_1 t152).f0, (rd_T27 x3_1 t152).f1, (((rd_T27 x3_1 t152).f2) ++ [1])⟩ : S27)), t155)) else (none)) else (if t154 = 4 then ((spec_l21Rd_num.f k1 s0_0 t155 (([0, 7] : List Int))).bind fun bt182 => (if 0 ≤ bt182.1 then (if (bt182.1 : Int).toNat ≤ 7036874417766 then (some ((List.replicate (bt182.1 : Int).toNat z27), bt182.2)) else (none)) else (none))) else (some (x3_1, t155))))))) = some (r1, r2) := H
      have A19 := aM A190
      clear A190
      by_cases c20 : t154 = 0
      ·
       rw [if_pos c20] at H
       have c20b0 : (t154 == 0) = true := beq_iff_eq.mpr c20
       have c20b1 : (t154 != 0) = false := bne_eq_false_iff_eq.mpr c20
       clear c20
       obtain ⟨y156, hy156⟩ : ∃ y_ : List Int, y_ = (([0, 3] : List Int)) := ⟨_, rfl⟩
       replace H : ((spec_l21Rd_num.f k1 s0_0 t155 y156).bind fun bt159 => (some ((x3_1.set (t152 : Int).toNat (⟨bt159.1, (rd_T27 x3_1 t152).f1, (rd_T27 x3_1 t152).f2⟩ : S27)), bt159.2))) = some (r1, r2) := by first | (rw [hy156]; with_reducible exact H) | (have H2_ := (Option.bind_some _ _).symm.trans H; rw [hy156]; with_reducible exact H2_) | (have H2_ := (Option.bind_some _ _).symm.trans H; with_reducible exact H2_) | with_reducible exact H | (rw [hy156]; exact H) | exact H
       have Ny156 := aM hy156
       clear hy156
       replace H := bE H
       obtain ⟨⟨t159, t160⟩, A210, H⟩ := H
       replace H : (some ((x3_1.set (t152 : Int).toNat (⟨t159, (rd_T27 x3_1 t152).f1, (rd_T27 x3_1 t152).f2⟩ : S27)), t160)) = some (r1, r2) := H
       have A21 := aM A210
       clear A210
       obtain ⟨y161, hy161⟩ : ∃ y_ : List (S27), y_ = (x3_1.set (t152 : Int).toNat (⟨t159, (rd_T27 x3_1 t152).f1, (rd_T27 x3_1 t152).f2⟩ : S27)) := ⟨_, rfl⟩
       replace H : (some (y161, t160)) = some (r1, r2) := by first | (rw [hy161]; with_reducible exact H) | (have H2_ := (Option.bind_some _ _).symm.trans H; rw [hy161]; with_reducible exact H2_) | (have H2_ := (Option.bind_some _ _).symm.trans H; with_reducible exact H2_) | with_reducible exact H | (rw [hy161]; exact H) | exact H
       have Ny161 := aM hy161
       clear hy161
       simp only [Option.some.injEq, Prod.mk.injEq] at H
       obtain ⟨rfl, rfl⟩ := H
       obtain ⟨Ao22, co22, eo22⟩ := Kd.S_slice HO_3.out
       subst eo22
       go_wp2_with (first | ((with_reducible refine gate_callee (f := 63) rfl ?_); refine goesL_ (some 23) rfl rfl Try.func63 (by kernel_rfl) rfl #[.pointer (some ⟨g, 0, none⟩), .int .i64 (x3_1.length : Int)] rfl (by (try simp only [mA, mB, mC]); first | done | rfl | (simp only [mE, mD]; rfl)) ?_; (with_reducible refine (spec_l21Rd_pick.calls k1 g s0_0 x1001_1 (x3_1.length : Int) t152 t153 w0 _ ?side1 ?side2 A15.out).mono ?_); (case side1 => repeat (first | (with_reducible first | exact HI0.out | apply IsS77.alloc | apply IsS77.drewN | apply IsS77.drew | apply IsS77.set_1) | exact HI0.out)); (case side2 => repeat (first | (with_reducible first | exact HB.out | apply below_alloc | apply bN | apply bD | refine below_set ?_ (IsS77.ge HI0.out)) | exact HB.out)); rintro e w23 ⟨rfl, hi, hb, hk⟩; refine ⟨_, rfl, ?_⟩; have n0_ := aM (Kd.S_mono (Kd.S_keep (IsS77.apartS (show IsS77 w0 _ g s0_0 x1001_1 from by repeat (first | (with_reducible first | exact HI0.out | apply IsS77.alloc | apply IsS77.drewN | apply IsS77.drew | apply IsS77.set_1) | exact HI0.out)) (by (with_reducible repeat (first | apply Kd.S_alloc | apply Kd.S_drewN | apply Kd.S_drew)); exact HO_3.out) (by decide)) hk (fun _ h => h.2)) (fun _ h => h.1)); have n1_ := aM (KeepBut.trans (by repeat (first | (with_reducible first | exact HK.out | apply KeepBut.set_ | apply keep_drewN | apply keep_drew | apply keep_alloc) | exact HK.out)) hk (.inl rfl)); have n2_ := aM (hb); have n3_ := aM (hi); clear HO_3; clear HK; clear HB; clear HI0; have HO_3 := n0_; have HK := n1_; have HB := n2_; have HI0 := n3_; clear n0_ n1_ n2_ n3_; (try clear hb); (try clear hb2); (try clear hk); (try clear hi); have p18 : 0 ≤ (t152 : Int) := of_decide_eq_true (by assumption); have q18 : (t152 : Int) < ((x3_1.length : Int) : Int) := of_decide_eq_true (by assumption); obtain ⟨go18, co18, eo18, gb18, gl18, cl18, HG18⟩ := Kd.S_form HO_3.out (by omega); (first | cases eo18 | (injection eo18 with ea_ en_ ec_; (first | subst ea_ | (injection ea_ with ea_; subst ea_)); subst ec_; clear en_)); have GB18 := aM gb18; have GG18 := aM HG18; clear gb18 gl18 HG18; obtain ⟨_, ce18, hcl18, hM18, hcc18, hfr18, _, _⟩ := Kd.S_elem HO_3.out z27 (t152 : Int) p18 q18; obtain ⟨ve18_2, rfl, ge18_2⟩ := k27_openM hM18; have hx18_0 : w23.cell? ⟨go18, (t152 : Int).toNat * 3, none⟩ = some (.int .i64 ((rd_T27 x3_1 t152).f0)) := hcc18 0 _ rfl; have hx18_1 : w23.cell? ⟨go18, (t152 : Int).toNat * 3 + 1, none⟩ = some (.int .i64 ((rd_T27 x3_1 t152).f1)) := hcc18 1 _ rfl; have hx18_2 : w23.cell? ⟨go18, (t152 : Int).toNat * 3 + 2, none⟩ = some (ve18_2) := hcc18 2 _ rfl; have hf18_0 : w23.frozen? ⟨go18, (t152 : Int).toNat * 3, none⟩ = false := hfr18 0; have hf18_1 : w23.frozen? ⟨go18, (t152 : Int).toNat * 3 + 1, none⟩ = false := hfr18 1; have hf18_2 : w23.frozen? ⟨go18, (t152 : Int).toNat * 3 + 2, none⟩ = false := hfr18 2; clear hcl18 hcc18 hfr18 hM18; replace p18 := eq_true p18; replace q18 := eq_true q18) | ((with_reducible refine gate_callee (f := 63) rfl ?_); refine goesL_ (some 26) rfl rfl Try.func63 (by kernel_rfl) rfl #[.pointer (some ⟨g, 0, none⟩), .int .i64 75] rfl (by (try simp only [mA, mB, mC]); first | done | rfl | (simp only [mE, mD]; rfl)) ?_; (with_reducible refine (spec_l21Rd_pick.calls k1 g s0_0 t153 75 t154 t155 w0 _ ?side1 ?side2 A19.out).mono ?_); (case side1 => repeat (first | (with_reducible first | exact HI0.out | apply IsS77.alloc | apply IsS77.drewN | apply IsS77.drew | apply IsS77.set_1) | exact HI0.out)); (case side2 => repeat (first | (with_reducible first | exact HB.out | apply below_alloc | apply bN | apply bD | refine below_set ?_ (IsS77.ge HI0.out)) | exact HB.out)); rintro e w24 ⟨rfl, hi, hb, hk⟩; refine ⟨_, rfl, ?_⟩; have n0_ := aM (Kd.S_mono (Kd.S_keep (IsS77.apartS (show IsS77 w0 _ g s0_0 t153 from by repeat (first | (with_reducible first | exact HI0.out | apply IsS77.alloc | apply IsS77.drewN | apply IsS77.drew | apply IsS77.set_1) | exact HI0.out)) (by (with_reducible repeat (first | apply Kd.S_alloc | apply Kd.S_drewN | apply Kd.S_drew)); exact HO_3.out) (by decide)) hk (fun _ h => h.2)) (fun _ h => h.1)); have n1_ := aM (KeepBut.trans (by repeat (first | (with_reducible first | exact HK.out | apply KeepBut.set_ | apply keep_drewN | apply keep_drew | apply keep_alloc) | exact HK.out)) hk (.inl rfl)); have n2_ := aM (hb); have n3_ := aM (hi); clear HO_3; clear HK; clear HB; clear HI0; have HO_3 := n0_; have HK := n1_; have HB := n2_; have HI0 := n3_; clear n0_ n1_ n2_ n3_; (try clear hb); (try clear hb2); (try clear hk); (try clear hi)) | ((with_reducible refine gate_dst (N := 31) rfl ?_); refine Kd.R_lit (Kd.int .i64) _ 3 ?hg (N := 31) ?hd (xs := ([0, 3] : List Int)) (inner := [.int .i64 0, .int .i64 3]) (ok := fun _ => True) (okp := fun _ => True) ?hr ?hp (fun _ hk => hk) trivial (Below.refl _ _) (Nat.le_refl _) (by simp) ?_; (case hd => rfl); (case hg => rfl); (case hr => first | (go_simp; done) | (go_simp; rfl)); (case hp => exact (Reps.one (show Kd.M (Kd.int .i64) _ _ _ 0 [.int .i64 0] from rfl) (Reps.one (show Kd.M (Kd.int .i64) _ _ _ 3 [.int .i64 3] from rfl) (Reps.none _ _)))); intro v157 w25 ho26 hb hg_ hnew_; clear hg_ hnew_; (first | rw [← Ny156.out] at ho26 | (simp only [Int.reduceToNat] at ho26; rw [← Ny156.out] at ho26)); have n0_ := aM (Kd.S_elder' (by (with_reducible repeat (first | apply Kd.S_alloc | apply Kd.S_drewN | apply Kd.S_drew)); exact HO_3.out) (Kd.R_base ho26) hb); have n1_ := aM (Kd.R_lower ho26 (keep_size (w := w) (g := g) (row := none) (by repeat (first | (with_reducible first | exact HK.out | apply KeepBut.set_ | apply keep_drewN | apply keep_drew | apply keep_alloc) | exact HK.out)))); have n2_ := aM (IsS77.below (by repeat (first | (with_reducible first | exact HI0.out | apply IsS77.alloc | apply IsS77.drewN | apply IsS77.drew | apply IsS77.set_1) | exact HI0.out)) hb); have n3_ := aM (KeepBut.trans (by repeat (first | (with_reducible first | exact HK.out | apply KeepBut.set_ | apply keep_drewN | apply keep_drew | apply keep_alloc) | exact HK.out)) (KeepBut.of_below hb g none) (.inl rfl)); have n4_ := aM (below_step (by repeat (first | (with_reducible first | exact HB.out | apply below_alloc | apply bN | apply bD | refine below_set ?_ (IsS77.ge HI0.out)) | exact HB.out)) hb); clear HO_3; clear HI0; clear HK; clear HB; have HO_3 := n0_; have HO158 := n1_; have HI0 := n2_; have HK := n3_; have HB := n4_; clear n0_ n1_ n2_ n3_ n4_; clear hb ho26; obtain ⟨Ao27, co27, eo27⟩ := Kd.R_slice HO158.out; subst eo27) | ((with_reducible refine gate_callee (f := 64) rfl ?_); refine goesL_ (some 32) rfl rfl Try.func64 (by kernel_rfl) rfl #[.pointer (some ⟨g, 0, none⟩), .slice Ao27 y156.length co27] rfl (by (try simp only [mA, mB, mC]); first | done | rfl | (simp only [mE, mD]; rfl)) ?_; (with_reducible refine (spec_l21Rd_num.calls k1 g s0_0 t155 _ _ y156 t159 t160 w0 _ ?side1 ?side2 ?side3 ?side4 ?side5 A21.out).mono ?_); (case side1 => repeat (first | (with_reducible first | exact HI0.out | apply IsS77.alloc | apply IsS77.drewN | apply IsS77.drew | apply IsS77.set_1) | exact HI0.out)); (case side2 => repeat (first | (with_reducible first | exact HB.out | apply below_alloc | apply bN | apply bD | refine below_set ?_ (IsS77.ge HI0.out)) | exact HB.out)); (case side3 => repeat (first | exact (Kd.R_reads' HO158.out).2.2 | (with_reducible refine Kd.C_alloc ?_ _) | (with_reducible refine Kd.C_drewN ?_ _) | (with_reducible refine Kd.C_drew ?_))); (case side4 => exact (Kd.R_reads' HO158.out).2.1); (case side5 => exact far_slice (IsS77.own_ne HI0.out HO158.out (by decide))); rintro e w28 ⟨rfl, hi, hb, hk⟩; refine ⟨_, rfl, ?_⟩; have n0_ := aM (Kd.S_mono (Kd.S_keep (IsS77.apartS (show IsS77 w0 _ g s0_0 t155 from by repeat (first | (with_reducible first | exact HI0.out | apply IsS77.alloc | apply IsS77.drewN | apply IsS77.drew | apply IsS77.set_1) | exact HI0.out)) (by (with_reducible repeat (first | apply Kd.S_alloc | apply Kd.S_drewN | apply Kd.S_drew)); exact HO_3.out) (by decide)) hk (fun _ h => h.2)) (fun _ h => h.1)); have n1_ := aM (Kd.R_mono (Kd.R_keep (IsS77.apart (show IsS77 w0 _ g s0_0 t155 from by repeat (first | (with_reducible first | exact HI0.out | apply IsS77.alloc | apply IsS77.drewN | apply IsS77.drew | apply IsS77.set_1) | exact HI0.out)) (by (with_reducible repeat (first | apply Kd.R_alloc | apply Kd.R_drewN | apply Kd.R_drew)); exact HO158.out) (by decide)) hk (fun _ h => h.2)) (fun _ h => h.1)); have n2_ := aM (KeepBut.trans (by repeat (first | (with_reducible first | exact HK.out | apply KeepBut.set_ | apply keep_drewN | apply keep_drew | apply keep_alloc) | exact HK.out)) hk (.inl rfl)); have n3_ := aM (hb); have n4_ := aM (hi); clear HO_3; clear HO158; clear HK; clear HB; clear HI0; have HO_3 := n0_; have HO158 := n1_; have HK := n2_; have HB := n3_; have HI0 := n4_; clear n0_ n1_ n2_ n3_ n4_; (try clear hb); (try clear hb2); (try clear hk); (try clear hi); have n_ := aM (Kd.S_mono (ok' := (fun k_ => some k_ ≠ (.slice Ao27 y156.length co27 : Value).ownBlock)) HO_3.out (fun k_ hk => hk.2)); clear HO_3; have HO_3 := n_; clear n_; have HX29 := aM (show Kd.S k27 27 w28 w.heap.size (fun k_ => ((fun k_ => some k_ ≠ (.slice Ao27 y156.length co27 : Value).ownBlock)) k_ ∧ ¬ ((fun _ => False)) k_) (.slice (some ⟨go18, 0, none⟩) x3_1.length co22) x3_1 from (by (with_reducible repeat (first | apply Kd.S_alloc | apply Kd.S_drewN | apply Kd.S_drew)); exact Kd.S_mono HO_3.out (fun k_ hk => ⟨hk, fun e_ => e_⟩))); obtain ⟨oki29, ce29, hcl29, hM29, hcc29, hfr29, hoki29, hH29⟩ := Kd.S_elem HX29.out z27 (t152 : Int) (of_decide_eq_true (by assumption)) (by have h_ : (t152 : Int) < ((x3_1.length : Int) : Int) := of_decide_eq_true (by assumption); first | exact h_ | (have e_ := (Kd.S_reads' HO_3.out).1; omega) | simpa using h_); obtain ⟨ve29_2, rfl, ge29_2⟩ := k27_openM hM29; have HP29 := Kd.S_seg hH29 (of_decide_eq_true (by assumption)) (by have h_ : (t152 : Int) < ((x3_1.length : Int) : Int) := of_decide_eq_true (by assumption); first | exact h_ | (have e_ := (Kd.S_reads' HO_3.out).1; omega) | simpa using h_) (seg := [.int .i64 t159]) (j := 0) (show 1 ≤ 3 from by decide) (x' := (⟨t159, (rd_T27 x3_1 t152).f1, (rd_T27 x3_1 t152).f2⟩ : S27)) (k27_mkM _ _ _ (⟨t159, (rd_T27 x3_1 t152).f1, (rd_T27 x3_1 t152).f2⟩ : S27) (Kd.R_mono ge29_2 (fun _ h_ => Or.inl h_))) (fun _ hk => hk) (fun k_ hk_ => hk_.elim); have hx29_0 := hcc29 0 _ rfl; (try simp only [show (k27).sz = 3 from rfl, Nat.mul_one, Nat.add_zero] at hx29_0); have hf29_0 := hfr29 0; (try simp only [show (k27).sz = 3 from rfl, Nat.mul_one, Nat.add_zero] at hf29_0); clear hcl29 hcc29 hfr29 hM29 hoki29 hH29) | ((with_reducible refine gate_store (t := 3) (p := 34) rfl ?_); refine store_event (t := 3) (p := 34) (v := ?vo_w30) (w1 := (w28.setCell ⟨go18, (t152 : Int).toNat * 3, none⟩ (.int .i64 t159))) ?hg ?ho ?hn ?hr ?_; (case ho => rfl); (case hg => rfl); (case hn => rfl); (case hr => first | (go_simp; done) | (go_simp; rfl)); intro w30 hw; have hg : w28.grownBy w30 (some go18) := (by rw [hw]; exact HP29.2); have hp_ : Kd.S k27 27 w30 w.heap.size (fun k_ => some k_ ≠ (.slice Ao27 y156.length co27 : Value).ownBlock) (.slice (some ⟨go18, 0, none⟩) x3_1.length co22) y161 := (by rw [hw, Ny161.out]; exact HP29.1); clear HP29; have n0_ := aM (hp_); have n1_ := aM (IsS77.grown (by repeat (first | (with_reducible first | exact HI0.out | apply IsS77.alloc | apply IsS77.drewN | apply IsS77.drew | apply IsS77.set_1) | exact HI0.out)) hg (IsS77.own_neS HI0.out HO_3.out (by decide))); have n2_ := aM (Kd.R_over' (v := (.slice (some ⟨go18, 0, none⟩) x3_1.length co22)) (by (with_reducible repeat (first | apply Kd.R_alloc | apply Kd.R_drewN | apply Kd.R_drew)); exact HO158.out) (Kd.S_typed HO_3.out) (by decide) hg); have n3_ := aM ((by rw [hw]; exact below_set (HB.out) (Nat.le_trans HL.out GB18.out) : Below w0.heap.size w0 w30)); have n4_ := aM (KeepBut.trans (by repeat (first | (with_reducible first | exact HK.out | apply KeepBut.set_ | apply keep_drewN | apply keep_drew | apply keep_alloc) | exact HK.out)) (KeepBut.of_grown hg g) (Kd.S_base2 HO_3.out)); clear HO_3; clear HI0; clear HO158; clear HB; clear HK; have HO_3 := n0_; have HI0 := n1_; have HO158 := n2_; have HB := n3_; have HK := n4_; clear n0_ n1_ n2_ n3_ n4_; clear hg hw hp_))
       go_ret
       exact ⟨_, by first | rfl | (simp [*] <;> rfl), by (with_reducible repeat (first | apply Kd.S_alloc | apply Kd.S_drewN | apply Kd.S_drew)); exact Kd.S_mono HO_3.out (fun _ hk => trivial), by repeat (first | (with_reducible first | exact HI0.out | apply IsS77.alloc | apply IsS77.drewN | apply IsS77.drew | apply IsS77.set_1) | exact HI0.out), by repeat (first | (with_reducible first | exact HB.out | apply below_alloc | apply bN | apply bD | refine below_set ?_ (IsS77.ge HI0.out)) | exact HB.out), by repeat (first | (with_reducible first | exact HK.out | apply KeepBut.set_ | apply keep_drewN | apply keep_drew | apply keep_alloc) | exact HK.out)⟩
      ·
       rw [if_neg c20] at H
       have c20b0 : (t154 == 0) = false := beq_eq_false_iff_ne.mpr c20
       have c20b1 : (t154 != 0) = true := bne_iff_ne.mpr c20
       by_cases c31 : t154 = 1
       ·
        rw [if_pos c31] at H
        have c31b0 : (t154 == 1) = true := beq_iff_eq.mpr c31
        have c31b1 : (t154 != 1) = false := bne_eq_false_iff_eq.mpr c31
        clear c31
        obtain ⟨y162, hy162⟩ : ∃ y_ : List Int, y_ = (([0, 10] : List Int)) := ⟨_, rfl⟩
        replace H : ((spec_l21Rd_num.f k1 s0_0 t155 y162).bind fun bt165 => (some ((x3_1.set (t152 : Int).toNat (⟨(rd_T27 x3_1 t152).f0, bt165.1, (rd_T27 x3_1 t152).f2⟩ : S27)), bt165.2))) = some (r1, r2) := by first | (rw [hy162]; with_reducible exact H) | (have H2_ := (Option.bind_some _ _).symm.trans H; rw [hy162]; with_reducible exact H2_) | (have H2_ := (Option.bind_some _ _).symm.trans H; with_reducible exact H2_) | with_reducible exact H | (rw [hy162]; exact H) | exact H
        have Ny162 := aM hy162
        clear hy162
        replace H := bE H
        obtain ⟨⟨t165, t166⟩, A320, H⟩ := H
        replace H : (some ((x3_1.set (t152 : Int).toNat (⟨(rd_T27 x3_1 t152).f0, t165, (rd_T27 x3_1 t152).f2⟩ : S27)), t166)) = some (r1, r2) := H
        have A32 := aM A320
        clear A320
        obtain ⟨y167, hy167⟩ : ∃ y_ : List (S27), y_ = (x3_1.set (t152 : Int).toNat (⟨(rd_T27 x3_1 t152).f0, t165, (rd_T27 x3_1 t152).f2⟩ : S27)) := ⟨_, rfl⟩
        replace H : (some (y167, t166)) = some (r1, r2) := by first | (rw [hy167]; with_reducible exact H) | (have H2_ := (Option.bind_some _ _).symm.trans H; rw [hy167]; with_reducible exact H2_) | (have H2_ := (Option.bind_some _ _).symm.trans H; with_reducible exact H2_) | with_reducible exact H | (rw [hy167]; exact H) | exact H
        have Ny167 := aM hy167
        clear hy167
        simp only [Option.some.injEq, Prod.mk.injEq] at H
        obtain ⟨rfl, rfl⟩ := H
        obtain ⟨Ao33, co33, eo33⟩ := Kd.S_slice HO_3.out
        subst eo33
        go_wp2_with (first | ((with_reducible refine gate_callee (f := 63) rfl ?_); refine goesL_ (some 23) rfl rfl Try.func63 (by kernel_rfl) rfl #[.pointer (some ⟨g, 0, none⟩), .int .i64 (x3_1.length : Int)] rfl (by (try simp only [mA, mB, mC]); first | done | rfl | (simp only [mE, mD]; rfl)) ?_; (with_reducible refine (spec_l21Rd_pick.calls k1 g s0_0 x1001_1 (x3_1.length : Int) t152 t153 w0 _ ?side1 ?side2 A15.out).mono ?_); (case side1 => repeat (first | (with_reducible first | exact HI0.out | apply IsS77.alloc | apply IsS77.drewN | apply IsS77.drew | apply IsS77.set_1) | exact HI0.out)); (case side2 => repeat (first | (with_reducible first | exact HB.out | apply below_alloc | apply bN | apply bD | refine below_set ?_ (IsS77.ge HI0.out)) | exact HB.out)); rintro e w34 ⟨rfl, hi, hb, hk⟩; refine ⟨_, rfl, ?_⟩; have n0_ := aM (Kd.S_mono (Kd.S_keep (IsS77.apartS (show IsS77 w0 _ g s0_0 x1001_1 from by repeat (first | (with_reducible first | exact HI0.out | apply IsS77.alloc | apply IsS77.drewN | apply IsS77.drew | apply IsS77.set_1) | exact HI0.out)) (by (with_reducible repeat (first | apply Kd.S_alloc | apply Kd.S_drewN | apply Kd.S_drew)); exact HO_3.out) (by decide)) hk (fun _ h => h.2)) (fun _ h => h.1)); have n1_ := aM (KeepBut.trans (by repeat (first | (with_reducible first | exact HK.out | apply KeepBut.set_ | apply keep_drewN | apply keep_drew | apply keep_alloc) | exact HK.out)) hk (.inl rfl)); have n2_ := aM (hb); have n3_ := aM (hi); clear HO_3; clear HK; clear HB; clear HI0; have HO_3 := n0_; have HK := n1_; have HB := n2_; have HI0 := n3_; clear n0_ n1_ n2_ n3_; (try clear hb); (try clear hb2); (try clear hk); (try clear hi); have p18 : 0 ≤ (t152 : Int) := of_decide_eq_true (by assumption); have q18 : (t152 : Int) < ((x3_1.length : Int) : Int) := of_decide_eq_true (by assumption); obtain ⟨go18, co18, eo18, gb18, gl18, cl18, HG18⟩ := Kd.S_form HO_3.out (by omega); (first | cases eo18 | (injection eo18 with ea_ en_ ec_; (first | subst ea_ | (injection ea_ with ea_; subst ea_)); subst ec_; clear en_)); have GB18 := aM gb18; have GG18 := aM HG18; clear gb18 gl18 HG18; obtain ⟨_, ce18, hcl18, hM18, hcc18, hfr18, _, _⟩ := Kd.S_elem HO_3.out z27 (t152 : Int) p18 q18; obtain ⟨ve18_2, rfl, ge18_2⟩ := k27_openM hM18; have hx18_0 : w34.cell? ⟨go18, (t152 : Int).toNat * 3, none⟩ = some (.int .i64 ((rd_T27 x3_1 t152).f0)) := hcc18 0 _ rfl; have hx18_1 : w34.cell? ⟨go18, (t152 : Int).toNat * 3 + 1, none⟩ = some (.int .i64 ((rd_T27 x3_1 t152).f1)) := hcc18 1 _ rfl; have hx18_2 : w34.cell? ⟨go18, (t152 : Int).toNat * 3 + 2, none⟩ = some (ve18_2) := hcc18 2 _ rfl; have hf18_0 : w34.frozen? ⟨go18, (t152 : Int).toNat * 3, none⟩ = false := hfr18 0; have hf18_1 : w34.frozen? ⟨go18, (t152 : Int).toNat * 3 + 1, none⟩ = false := hfr18 1; have hf18_2 : w34.frozen? ⟨go18, (t152 : Int).toNat * 3 + 2, none⟩ = false := hfr18 2; clear hcl18 hcc18 hfr18 hM18; replace p18 := eq_true p18; replace q18 := eq_true q18) | ((with_reducible refine gate_callee (f := 63) rfl ?_); refine goesL_ (some 26) rfl rfl Try.func63 (by kernel_rfl) rfl #[.pointer (some ⟨g, 0, none⟩), .int .i64 75] rfl (by (try simp only [mA, mB, mC]); first | done | rfl | (simp only [mE, mD]; rfl)) ?_; (with_reducible refine (spec_l21Rd_pick.calls k1 g s0_0 t153 75 t154 t155 w0 _ ?side1 ?side2 A19.out).mono ?_); (case side1 => repeat (first | (with_reducible first | exact HI0.out | apply IsS77.alloc | apply IsS77.drewN | apply IsS77.drew | apply IsS77.set_1) | exact HI0.out)); (case side2 => repeat (first | (with_reducible first | exact HB.out | apply below_alloc | apply bN | apply bD | refine below_set ?_ (IsS77.ge HI0.out)) | exact HB.out)); rintro e w35 ⟨rfl, hi, hb, hk⟩; refine ⟨_, rfl, ?_⟩; have n0_ := aM (Kd.S_mono (Kd.S_keep (IsS77.apartS (show IsS77 w0 _ g s0_0 t153 from by repeat (first | (with_reducible first | exact HI0.out | apply IsS77.alloc | apply IsS77.drewN | apply IsS77.drew | apply IsS77.set_1) | exact HI0.out)) (by (with_reducible repeat (first | apply Kd.S_alloc | apply Kd.S_drewN | apply Kd.S_drew)); exact HO_3.out) (by decide)) hk (fun _ h => h.2)) (fun _ h => h.1)); have n1_ := aM (KeepBut.trans (by repeat (first | (with_reducible first | exact HK.out | apply KeepBut.set_ | apply keep_drewN | apply keep_drew | apply keep_alloc) | exact HK.out)) hk (.inl rfl)); have n2_ := aM (hb); have n3_ := aM (hi); clear HO_3; clear HK; clear HB; clear HI0; have HO_3 := n0_; have HK := n1_; have HB := n2_; have HI0 := n3_; clear n0_ n1_ n2_ n3_; (try clear hb); (try clear hb2); (try clear hk); (try clear hi)) | ((with_reducible refine gate_dst (N := 39) rfl ?_); refine Kd.R_lit (Kd.int .i64) _ 3 ?hg (N := 39) ?hd (xs := ([0, 10] : List Int)) (inner := [.int .i64 0, .int .i64 10]) (ok := fun _ => True) (okp := fun _ => True) ?hr ?hp (fun _ hk => hk) trivial (Below.refl _ _) (Nat.le_refl _) (by simp) ?_; (case hd => rfl); (case hg => rfl); (case hr => first | (go_simp; done) | (go_simp; rfl)); (case hp => exact (Reps.one (show Kd.M (Kd.int .i64) _ _ _ 0 [.int .i64 0] from rfl) (Reps.one (show Kd.M (Kd.int .i64) _ _ _ 10 [.int .i64 10] from rfl) (Reps.none _ _)))); intro v163 w36 ho37 hb hg_ hnew_; clear hg_ hnew_; (first | rw [← Ny162.out] at ho37 | (simp only [Int.reduceToNat] at ho37; rw [← Ny162.out] at ho37)); have n0_ := aM (Kd.S_elder' (by (with_reducible repeat (first | apply Kd.S_alloc | apply Kd.S_drewN | apply Kd.S_drew)); exact HO_3.out) (Kd.R_base ho37) hb); have n1_ := aM (Kd.R_lower ho37 (keep_size (w := w) (g := g) (row := none) (by repeat (first | (with_reducible first | exact HK.out | apply KeepBut.set_ | apply keep_drewN | apply keep_drew | apply keep_alloc) | exact HK.out)))); have n2_ := aM (IsS77.below (by repeat (first | (with_reducible first | exact HI0.out | apply IsS77.alloc | apply IsS77.drewN | apply IsS77.drew | apply IsS77.set_1) | exact HI0.out)) hb); have n3_ := aM (KeepBut.trans (by repeat (first | (with_reducible first | exact HK.out | apply KeepBut.set_ | apply keep_drewN | apply keep_drew | apply keep_alloc) | exact HK.out)) (KeepBut.of_below hb g none) (.inl rfl)); have n4_ := aM (below_step (by repeat (first | (with_reducible first | exact HB.out | apply below_alloc | apply bN | apply bD | refine below_set ?_ (IsS77.ge HI0.out)) | exact HB.out)) hb); clear HO_3; clear HI0; clear HK; clear HB; have HO_3 := n0_; have HO164 := n1_; have HI0 := n2_; have HK := n3_; have HB := n4_; clear n0_ n1_ n2_ n3_ n4_; clear hb ho37; obtain ⟨Ao38, co38, eo38⟩ := Kd.R_slice HO164.out; subst eo38) | ((with_reducible refine gate_callee (f := 64) rfl ?_); refine goesL_ (some 40) rfl rfl Try.func64 (by kernel_rfl) rfl #[.pointer (some ⟨g, 0, none⟩), .slice Ao38 y162.length co38] rfl (by (try simp only [mA, mB, mC]); first | done | rfl | (simp only [mE, mD]; rfl)) ?_; (with_reducible refine (spec_l21Rd_num.calls k1 g s0_0 t155 _ _ y162 t165 t166 w0 _ ?side1 ?side2 ?side3 ?side4 ?side5 A32.out).mono ?_); (case side1 => repeat (first | (with_reducible first | exact HI0.out | apply IsS77.alloc | apply IsS77.drewN | apply IsS77.drew | apply IsS77.set_1) | exact HI0.out)); (case side2 => repeat (first | (with_reducible first | exact HB.out | apply below_alloc | apply bN | apply bD | refine below_set ?_ (IsS77.ge HI0.out)) | exact HB.out)); (case side3 => repeat (first | exact (Kd.R_reads' HO164.out).2.2 | (with_reducible refine Kd.C_alloc ?_ _) | (with_reducible refine Kd.C_drewN ?_ _) | (with_reducible refine Kd.C_drew ?_))); (case side4 => exact (Kd.R_reads' HO164.out).2.1); (case side5 => exact far_slice (IsS77.own_ne HI0.out HO164.out (by decide))); rintro e w39 ⟨rfl, hi, hb, hk⟩; refine ⟨_, rfl, ?_⟩; have n0_ := aM (Kd.S_mono (Kd.S_keep (IsS77.apartS (show IsS77 w0 _ g s0_0 t155 from by repeat (first | (with_reducible first | exact HI0.out | apply IsS77.alloc | apply IsS77.drewN | apply IsS77.drew | apply IsS77.set_1) | exact HI0.out)) (by (with_reducible repeat (first | apply Kd.S_alloc | apply Kd.S_drewN | apply Kd.S_drew)); exact HO_3.out) (by decide)) hk (fun _ h => h.2)) (fun _ h => h.1)); have n1_ := aM (Kd.R_mono (Kd.R_keep (IsS77.apart (show IsS77 w0 _ g s0_0 t155 from by repeat (first | (with_reducible first | exact HI0.out | apply IsS77.alloc | apply IsS77.drewN | apply IsS77.drew | apply IsS77.set_1) | exact HI0.out)) (by (with_reducible repeat (first | apply Kd.R_alloc | apply Kd.R_drewN | apply Kd.R_drew)); exact HO164.out) (by decide)) hk (fun _ h => h.2)) (fun _ h => h.1)); have n2_ := aM (KeepBut.trans (by repeat (first | (with_reducible first | exact HK.out | apply KeepBut.set_ | apply keep_drewN | apply keep_drew | apply keep_alloc) | exact HK.out)) hk (.inl rfl)); have n3_ := aM (hb); have n4_ := aM (hi); clear HO_3; clear HO164; clear HK; clear HB; clear HI0; have HO_3 := n0_; have HO164 := n1_; have HK := n2_; have HB := n3_; have HI0 := n4_; clear n0_ n1_ n2_ n3_ n4_; (try clear hb); (try clear hb2); (try clear hk); (try clear hi); have n_ := aM (Kd.S_mono (ok' := (fun k_ => some k_ ≠ (.slice Ao38 y162.length co38 : Value).ownBlock)) HO_3.out (fun k_ hk => hk.2)); clear HO_3; have HO_3 := n_; clear n_; have HX40 := aM (show Kd.S k27 27 w39 w.heap.size (fun k_ => ((fun k_ => some k_ ≠ (.slice Ao38 y162.length co38 : Value).ownBlock)) k_ ∧ ¬ ((fun _ => False)) k_) (.slice (some ⟨go18, 0, none⟩) x3_1.length co33) x3_1 from (by (with_reducible repeat (first | apply Kd.S_alloc | apply Kd.S_drewN | apply Kd.S_drew)); exact Kd.S_mono HO_3.out (fun k_ hk => ⟨hk, fun e_ => e_⟩))); obtain ⟨oki40, ce40, hcl40, hM40, hcc40, hfr40, hoki40, hH40⟩ := Kd.S_elem HX40.out z27 (t152 : Int) (of_decide_eq_true (by assumption)) (by have h_ : (t152 : Int) < ((x3_1.length : Int) : Int) := of_decide_eq_true (by assumption); first | exact h_ | (have e_ := (Kd.S_reads' HO_3.out).1; omega) | simpa using h_); obtain ⟨ve40_2, rfl, ge40_2⟩ := k27_openM hM40; have HP40 := Kd.S_seg hH40 (of_decide_eq_true (by assumption)) (by have h_ : (t152 : Int) < ((x3_1.length : Int) : Int) := of_decide_eq_true (by assumption); first | exact h_ | (have e_ := (Kd.S_reads' HO_3.out).1; omega) | simpa using h_) (seg := [.int .i64 t165]) (j := 1) (show 2 ≤ 3 from by decide) (x' := (⟨(rd_T27 x3_1 t152).f0, t165, (rd_T27 x3_1 t152).f2⟩ : S27)) (k27_mkM _ _ _ (⟨(rd_T27 x3_1 t152).f0, t165, (rd_T27 x3_1 t152).f2⟩ : S27) (Kd.R_mono ge40_2 (fun _ h_ => Or.inl h_))) (fun _ hk => hk) (fun k_ hk_ => hk_.elim); have hx40_1 := hcc40 1 _ rfl; (try simp only [show (k27).sz = 3 from rfl, Nat.mul_one, Nat.add_zero] at hx40_1); have hf40_1 := hfr40 1; (try simp only [show (k27).sz = 3 from rfl, Nat.mul_one, Nat.add_zero] at hf40_1); clear hcl40 hcc40 hfr40 hM40 hoki40 hH40) | ((with_reducible refine gate_store (t := 3) (p := 42) rfl ?_); refine store_event (t := 3) (p := 42) (v := ?vo_w41) (w1 := (w39.setCell ⟨go18, (t152 : Int).toNat * 3 + 1, none⟩ (.int .i64 t165))) ?hg ?ho ?hn ?hr ?_; (case ho => rfl); (case hg => rfl); (case hn => rfl); (case hr => first | (go_simp; done) | (go_simp; rfl)); intro w41 hw; have hg : w39.grownBy w41 (some go18) := (by rw [hw]; exact HP40.2); have hp_ : Kd.S k27 27 w41 w.heap.size (fun k_ => some k_ ≠ (.slice Ao38 y162.length co38 : Value).ownBlock) (.slice (some ⟨go18, 0, none⟩) x3_1.length co33) y167 := (by rw [hw, Ny167.out]; exact HP40.1); clear HP40; have n0_ := aM (hp_); have n1_ := aM (IsS77.grown (by repeat (first | (with_reducible first | exact HI0.out | apply IsS77.alloc | apply IsS77.drewN | apply IsS77.drew | apply IsS77.set_1) | exact HI0.out)) hg (IsS77.own_neS HI0.out HO_3.out (by decide))); have n2_ := aM (Kd.R_over' (v := (.slice (some ⟨go18, 0, none⟩) x3_1.length co33)) (by (with_reducible repeat (first | apply Kd.R_alloc | apply Kd.R_drewN | apply Kd.R_drew)); exact HO164.out) (Kd.S_typed HO_3.out) (by decide) hg); have n3_ := aM ((by rw [hw]; exact below_set (HB.out) (Nat.le_trans HL.out GB18.out) : Below w0.heap.size w0 w41)); have n4_ := aM (KeepBut.trans (by repeat (first | (with_reducible first | exact HK.out | apply KeepBut.set_ | apply keep_drewN | apply keep_drew | apply keep_alloc) | exact HK.out)) (KeepBut.of_grown hg g) (Kd.S_base2 HO_3.out)); clear HO_3; clear HI0; clear HO164; clear HB; clear HK; have HO_3 := n0_; have HI0 := n1_; have HO164 := n2_; have HB := n3_; have HK := n4_; clear n0_ n1_ n2_ n3_ n4_; clear hg hw hp_))
        go_ret
        exact ⟨_, by first | rfl | (simp [*] <;> rfl), by (with_reducible repeat (first | apply Kd.S_alloc | apply Kd.S_drewN | apply Kd.S_drew)); exact Kd.S_mono HO_3.out (fun _ hk => trivial), by repeat (first | (with_reducible first | exact HI0.out | apply IsS77.alloc | apply IsS77.drewN | apply IsS77.drew | apply IsS77.set_1) | exact HI0.out), by repeat (first | (with_reducible first | exact HB.out | apply below_alloc | apply bN | apply bD | refine below_set ?_ (IsS77.ge HI0.out)) | exact HB.out), by repeat (first | (with_reducible first | exact HK.out | apply KeepBut.set_ | apply keep_drewN | apply keep_drew | apply keep_alloc) | exact HK.out)⟩
       ·
        rw [if_neg c31] at H
        have c31b0 : (t154 == 1) = false := beq_eq_false_iff_ne.mpr c31
        have c31b1 : (t154 != 1) = true := bne_iff_ne.mpr c31
        by_cases c42 : t154 = 2
        ·
         rw [if_pos c42] at H
         have c42b0 : (t154 == 2) = true := beq_iff_eq.mpr c42
         have c42b1 : (t154 != 2) = false := bne_eq_false_iff_eq.mpr c42
         clear c42
         by_cases c43 : ((rd_T27 x3_1 t152).f2).length < 17592186044416
         ·
          rw [if_pos c43] at H
          have LMc43 := aM c43
          clear c43
          obtain ⟨y170, hy170⟩ : ∃ y_ : List Int, y_ = (((rd_T27 x3_1 t152).f2) ++ [(rd_T27 x3_1 t152).f1]) := ⟨_, rfl⟩
          replace H : (some ((x3_1.set (t152 : Int).toNat (⟨(rd_T27 x3_1 t152).f0, (rd_T27 x3_1 t152).f1, y170⟩ : S27)), t155)) = some (r1, r2) := by first | (rw [hy170]; with_reducible exact H) | (have H2_ := (Option.bind_some _ _).symm.trans H; rw [hy170]; with_reducible exact H2_) | (have H2_ := (Option.bind_some _ _).symm.trans H; with_reducible exact H2_) | with_reducible exact H | (rw [hy170]; exact H) | exact H
          have Ny170 := aM hy170
          clear hy170
          obtain ⟨y173, hy173⟩ : ∃ y_ : List (S27), y_ = (x3_1.set (t152 : Int).toNat (⟨(rd_T27 x3_1 t152).f0, (rd_T27 x3_1 t152).f1, y170⟩ : S27)) := ⟨_, rfl⟩
          replace H : (some (y173, t155)) = some (r1, r2) := by first | (rw [hy173]; with_reducible exact H) | (have H2_ := (Option.bind_some _ _).symm.trans H; rw [hy173]; with_reducible exact H2_) | (have H2_ := (Option.bind_some _ _).symm.trans H; with_reducible exact H2_) | with_reducible exact H | (rw [hy173]; exact H) | exact H
          have Ny173 := aM hy173
          clear hy173
          simp only [Option.some.injEq, Prod.mk.injEq] at H
          obtain ⟨rfl, rfl⟩ := H
          obtain ⟨Ao44, co44, eo44⟩ := Kd.S_slice HO_3.out
          subst eo44
          try go_wp2_with (first | ((with_reducible refine gate_callee (f := 63) rfl ?_); refine goesL_ (some 23) rfl rfl Try.func63 (by kernel_rfl) rfl #[.pointer (some ⟨g, 0, none⟩), .int .i64 (x3_1.length : Int)] rfl (by (try simp only [mA, mB, mC]); first | done | rfl | (simp only [mE, mD]; rfl)) ?_; (with_reducible refine (spec_l21Rd_pick.calls k1 g s0_0 x1001_1 (x3_1.length : Int) t152 t153 w0 _ ?side1 ?side2 A15.out).mono ?_); (case side1 => repeat (first | (with_reducible first | exact HI0.out | apply IsS77.alloc | apply IsS77.drewN | apply IsS77.drew | apply IsS77.set_1) | exact HI0.out)); (case side2 => repeat (first | (with_reducible first | exact HB.out | apply below_alloc | apply bN | apply bD | refine below_set ?_ (IsS77.ge HI0.out)) | exact HB.out)); rintro e w45 ⟨rfl, hi, hb, hk⟩; refine ⟨_, rfl, ?_⟩; have n0_ := aM (Kd.S_mono (Kd.S_keep (IsS77.apartS (show IsS77 w0 _ g s0_0 x1001_1 from by repeat (first | (with_reducible first | exact HI0.out | apply IsS77.alloc | apply IsS77.drewN | apply IsS77.drew | apply IsS77.set_1) | exact HI0.out)) (by (with_reducible repeat (first | apply Kd.S_alloc | apply Kd.S_drewN | apply Kd.S_drew)); exact HO_3.out) (by decide)) hk (fun _ h => h.2)) (fun _ h => h.1)); have n1_ := aM (KeepBut.trans (by repeat (first | (with_reducible first | exact HK.out | apply KeepBut.set_ | apply keep_drewN | apply keep_drew | apply keep_alloc) | exact HK.out)) hk (.inl rfl)); have n2_ := aM (hb); have n3_ := aM (hi); clear HO_3; clear HK; clear HB; clear HI0; have HO_3 := n0_; have HK := n1_; have HB := n2_; have HI0 := n3_; clear n0_ n1_ n2_ n3_; (try clear hb); (try clear hb2); (try clear hk); (try clear hi); have p18 : 0 ≤ (t152 : Int) := of_decide_eq_true (by assumption); have q18 : (t152 : Int) < ((x3_1.length : Int) : Int) := of_decide_eq_true (by assumption); obtain ⟨go18, co18, eo18, gb18, gl18, cl18, HG18⟩ := Kd.S_form HO_3.out (by omega); (first | cases eo18 | (injection eo18 with ea_ en_ ec_; (first | subst ea_ | (injection ea_ with ea_; subst ea_)); subst ec_; clear en_)); have GB18 := aM gb18; have GG18 := aM HG18; clear gb18 gl18 HG18; obtain ⟨_, ce18, hcl18, hM18, hcc18, hfr18, _, _⟩ := Kd.S_elem HO_3.out z27 (t152 : Int) p18 q18; obtain ⟨ve18_2, rfl, ge18_2⟩ := k27_openM hM18; have hx18_0 : w45.cell? ⟨go18, (t152 : Int).toNat * 3, none⟩ = some (.int .i64 ((rd_T27 x3_1 t152).f0)) := hcc18 0 _ rfl; have hx18_1 : w45.cell? ⟨go18, (t152 : Int).toNat * 3 + 1, none⟩ = some (.int .i64 ((rd_T27 x3_1 t152).f1)) := hcc18 1 _ rfl; have hx18_2 : w45.cell? ⟨go18, (t152 : Int).toNat * 3 + 2, none⟩ = some (ve18_2) := hcc18 2 _ rfl; have hf18_0 : w45.frozen? ⟨go18, (t152 : Int).toNat * 3, none⟩ = false := hfr18 0; have hf18_1 : w45.frozen? ⟨go18, (t152 : Int).toNat * 3 + 1, none⟩ = false := hfr18 1; have hf18_2 : w45.frozen? ⟨go18, (t152 : Int).toNat * 3 + 2, none⟩ = false := hfr18 2; clear hcl18 hcc18 hfr18 hM18; replace p18 := eq_true p18; replace q18 := eq_true q18) | ((with_reducible refine gate_callee (f := 63) rfl ?_); refine goesL_ (some 26) rfl rfl Try.func63 (by kernel_rfl) rfl #[.pointer (some ⟨g, 0, none⟩), .int .i64 75] rfl (by (try simp only [mA, mB, mC]); first | done | rfl | (simp only [mE, mD]; rfl)) ?_; (with_reducible refine (spec_l21Rd_pick.calls k1 g s0_0 t153 75 t154 t155 w0 _ ?side1 ?side2 A19.out).mono ?_); (case side1 => repeat (first | (with_reducible first | exact HI0.out | apply IsS77.alloc | apply IsS77.drewN | apply IsS77.drew | apply IsS77.set_1) | exact HI0.out)); (case side2 => repeat (first | (with_reducible first | exact HB.out | apply below_alloc | apply bN | apply bD | refine below_set ?_ (IsS77.ge HI0.out)) | exact HB.out)); rintro e w46 ⟨rfl, hi, hb, hk⟩; refine ⟨_, rfl, ?_⟩; have n0_ := aM (Kd.S_mono (Kd.S_keep (IsS77.apartS (show IsS77 w0 _ g s0_0 t153 from by repeat (first | (with_reducible first | exact HI0.out | apply IsS77.alloc | apply IsS77.drewN | apply IsS77.drew | apply IsS77.set_1) | exact HI0.out)) (by (with_reducible repeat (first | apply Kd.S_alloc | apply Kd.S_drewN | apply Kd.S_drew)); exact HO_3.out) (by decide)) hk (fun _ h => h.2)) (fun _ h => h.1)); have n1_ := aM (KeepBut.trans (by repeat (first | (with_reducible first | exact HK.out | apply KeepBut.set_ | apply keep_drewN | apply keep_drew | apply keep_alloc) | exact HK.out)) hk (.inl rfl)); have n2_ := aM (hb); have n3_ := aM (hi); clear HO_3; clear HK; clear HB; clear HI0; have HO_3 := n0_; have HK := n1_; have HB := n2_; have HI0 := n3_; clear n0_ n1_ n2_ n3_; (try clear hb); (try clear hb2); (try clear hk); (try clear hi)))
          have n0_ := aM (Kd.S_drew HO_3.out)
          have n1_ := aM (IsS77.drew HI0.out)
          have n2_ := aM (keep_drew HK.out)
          have n3_ := aM (bD HB.out)
          clear HO_3
          clear HI0
          clear HK
          clear HB
          have HO_3 := n0_
          have HI0 := n1_
          have HK := n2_
          have HB := n3_
          clear n0_ n1_ n2_ n3_
          have p168 : 0 ≤ (t152 : Int) := of_decide_eq_true (by assumption)
          have q168 : t152 < (x3_1.length : Int) := of_decide_eq_true (by assumption)
          obtain ⟨ad168, A168_2, c168_2, e168, hx168_0, hx168_1, hx168_2, hl168_2, hi168_2⟩ := at_T27 (Kd.S_reads' HO_3.out).2.2 t152 p168 q168
          obtain rfl : (⟨go18, 0, none⟩ : Addr) = ad168 := (by injection e168)
          obtain ⟨ce168, hce168, hMe168, hcc168⟩ := Kd.S_get HO_3.out z27 t152 p168 (by first | exact q168 | exact of_decide_eq_true (by assumption) | (have e_ := (Kd.S_reads' HO_3.out).1; omega))
          obtain ⟨ve168_2, rfl, ge168_2⟩ := k27_openM hMe168
          have hv168_2 := hcc168 2 _ rfl
          rw [add_field _ _ 2 (by omega)] at hv168_2
          replace hv168_2 := Option.some.inj (hv168_2.symm.trans hx168_2)
          rw [hv168_2] at ge168_2
          have HL168_2 := aM (show Kd.R (Kd.int .i64) 3 _ _ _ _ ((rd_T27 x3_1 t152).f2) from ge168_2)
          clear hv168_2 ge168_2
          have HX168_2 := aM hx168_2
          clear hcc168 hce168
          (first | simp only [add_plain] at hx168_0 | simp only [add_at] at hx168_0 | simp only [Addr.add, Nat.zero_add] at hx168_0 | skip)
          (first | simp only [add_plain] at hx168_1 | simp only [add_at] at hx168_1 | simp only [Addr.add, Nat.zero_add] at hx168_1 | skip)
          (first | simp only [add_plain] at hx168_2 | simp only [add_at] at hx168_2 | simp only [Addr.add, Nat.zero_add] at hx168_2 | skip)
          have HR168_2 := aM hi168_2
          have HC168_2 := aM hl168_2
          clear hi168_2 hl168_2
          replace p168 := eq_true p168
          replace q168 := eq_true q168
          have p169 : 0 ≤ (t152 : Int) := of_decide_eq_true (by assumption)
          have q169 : t152 < (x3_1.length : Int) := of_decide_eq_true (by assumption)
          obtain ⟨ad169, A169_2, c169_2, e169, hx169_0, hx169_1, hx169_2, hl169_2, hi169_2⟩ := at_T27 (Kd.S_reads' HO_3.out).2.2 t152 p169 q169
          obtain rfl : (⟨go18, 0, none⟩ : Addr) = ad169 := (by injection e169)
          obtain ⟨ce169, hce169, hMe169, hcc169⟩ := Kd.S_get HO_3.out z27 t152 p169 (by first | exact q169 | exact of_decide_eq_true (by assumption) | (have e_ := (Kd.S_reads' HO_3.out).1; omega))
          obtain ⟨ve169_2, rfl, ge169_2⟩ := k27_openM hMe169
          have hv169_2 := hcc169 2 _ rfl
          rw [add_field _ _ 2 (by omega)] at hv169_2
          replace hv169_2 := Option.some.inj (hv169_2.symm.trans hx169_2)
          rw [hv169_2] at ge169_2
          have HL169_2 := aM (show Kd.R (Kd.int .i64) 3 _ _ _ _ ((rd_T27 x3_1 t152).f2) from ge169_2)
          clear hv169_2 ge169_2
          have HX169_2 := aM hx169_2
          clear hcc169 hce169
          (first | simp only [add_plain] at hx169_0 | simp only [add_at] at hx169_0 | simp only [Addr.add, Nat.zero_add] at hx169_0 | skip)
          (first | simp only [add_plain] at hx169_1 | simp only [add_at] at hx169_1 | simp only [Addr.add, Nat.zero_add] at hx169_1 | skip)
          (first | simp only [add_plain] at hx169_2 | simp only [add_at] at hx169_2 | simp only [Addr.add, Nat.zero_add] at hx169_2 | skip)
          have HR169_2 := aM hi169_2
          have HC169_2 := aM hl169_2
          clear hi169_2 hl169_2
          replace p169 := eq_true p169
          replace q169 := eq_true q169
          have ea_ := Option.some.inj (hx168_2.symm.trans hx169_2)
          injection ea_ with ea_ en_ ec_
          subst ea_
          subst ec_
          clear en_
          obtain ⟨oki48, ce48, hcl48, hM48, hcc48, _, _, hH48⟩ := Kd.S_elem HO_3.out z27 (t152 : Int) (of_decide_eq_true (by assumption)) (by have h_ : (t152 : Int) < ((x3_1.length : Int) : Int) := of_decide_eq_true (by assumption); first | exact h_ | (have e_ := (Kd.S_reads' HO_3.out).1; omega) | simpa using h_)
          obtain ⟨ve48_2, rfl, ge48_2⟩ := k27_openM hM48
          have hv48 := hcc48 2 _ rfl
          have hX48 := HX168_2.out
          (try simp only [add_plain] at hX48)
          (try simp only [Nat.add_zero] at hv48)
          replace hv48 := Option.some.inj (hv48.symm.trans hX48)
          subst hv48
          clear hX48 hcc48 hcl48
          have UU48 := aM (show Kd.R (Kd.int .i64) 3 _ w.heap.size oki48 (.slice A168_2 ((rd_T27 x3_1 t152).f2).length c168_2) ((rd_T27 x3_1 t152).f2) from ge48_2)
          have HH48 := aM hH48
          have HN48 := aM (Kd.S_reads' HO_3.out).1
          clear hH48 ge48_2
          refine start_ (n := 14) (S := fun w' => w'.cell? ⟨go18, (t152).toNat * 3, none⟩ = some (.int .i64 ((rd_T27 x3_1 t152).f0)) ∧ w'.cell? ⟨go18, (t152).toNat * 3 + 1, none⟩ = some (.int .i64 ((rd_T27 x3_1 t152).f1)) ∧ w'.cell? ⟨go18, (t152).toNat * 3 + 2, none⟩ = some (.slice A168_2 ((rd_T27 x3_1 t152).f2).length c168_2) ∧ w'.cell? ⟨go18, (t152).toNat * 3, none⟩ = some (.int .i64 ((rd_T27 x3_1 t152).f0)) ∧ w'.cell? ⟨go18, (t152).toNat * 3 + 1, none⟩ = some (.int .i64 ((rd_T27 x3_1 t152).f1)) ∧ w'.cell? ⟨go18, (t152).toNat * 3 + 2, none⟩ = some (.slice A168_2 ((rd_T27 x3_1 t152).f2).length c168_2)) (ds := [13]) #[false, false, false, false, false, false, false, false, false, false, false, false, false, false] (by kernel_rfl) rfl rfl ⟨hx168_0, hx168_1, hx168_2, hx169_0, hx169_1, hx169_2⟩ (fun hHeld => ?_); refine with_tabW spec_l10Ports.tab13 spec_l10Ports.bits13 (fun HT_ HW_ => ?_)
          generalize w46.drew = w47 at HO_3 HI0 HK HB HH48 HL168_2 HL169_2 HR168_2 HR169_2 HX168_2 HX169_2 UU48 hx168_0 hx168_1 hx168_2 hx169_0 hx169_1 hx169_2 hHeld ⊢
          refine pure_ (i := 0) (N := some 45) (v := ?_) (a' := ?_) #[true, false, false, false, false, false, false, false, false, false, false, false, false, false] rfl rfl (any_of HT_.out (by kernel_rfl)) (fun _ _ _ h => h) (Or.inl ⟨by rfl, ?_⟩) ?_ ?_
          rotate_left
          ·
           intro w'
           go_simp
           with_reducible rfl
          rotate_left
          ·
           simp only [Act.put, sA, sB, sC, i64_w]
           rfl
          refine pure_ (i := 1) (N := some 46) (v := ?_) (a' := ?_) #[true, true, false, false, false, false, false, false, false, false, false, false, false, false] rfl rfl (any_of HT_.out (by kernel_rfl)) (fun _ _ _ h => h) (Or.inl ⟨by rfl, ?_⟩) ?_ ?_
          rotate_left
          ·
           intro w'
           go_simp
           with_reducible rfl
          rotate_left
          ·
           simp only [Act.put, sA, sB, sC, i64_w]
           rfl
          refine pure_ (i := 2) (N := some 47) (v := ?_) (a' := ?_) #[true, true, true, false, false, false, false, false, false, false, false, false, false, false] rfl rfl (any_of HT_.out (by kernel_rfl)) (fun _ _ _ h => h) (Or.inl ⟨by rfl, ?_⟩) ?_ ?_
          rotate_left
          ·
           intro w'
           go_simp
           with_reducible rfl
          rotate_left
          ·
           simp only [Act.put, sA, sB, sC, i64_w]
           rfl
          refine pure_ (i := 3) (N := some 48) (v := ?_) (a' := ?_) #[true, true, true, true, false, false, false, false, false, false, false, false, false, false] rfl rfl (any_of HT_.out (by kernel_rfl)) (fun _ _ _ h => h) (Or.inl ⟨by rfl, ?_⟩) ?_ ?_
          rotate_left
          ·
           intro w'
           go_simp
           with_reducible rfl
          rotate_left
          ·
           simp only [Act.put, sA, sB, sC, i64_w]
           rfl
          refine pure_ (i := 5) (N := some 50) (v := ?_) (a' := ?_) #[true, true, true, true, false, true, false, false, false, false, false, false, false, false] rfl rfl (any_of HT_.out (by kernel_rfl)) (fun _ _ _ h => h) (Or.inl ⟨by rfl, ?_⟩) ?_ ?_
          rotate_left
          ·
           intro w'
           go_simp
           with_reducible rfl
          rotate_left
          ·
           simp only [Act.put, sA, sB, sC, i64_w]
           rfl
          refine pure_ (i := 6) (N := some 51) (v := ?_) (a' := ?_) #[true, true, true, true, false, true, true, false, false, false, false, false, false, false] rfl rfl (any_of HT_.out (by kernel_rfl)) (fun _ _ _ h => h) (Or.inl ⟨by rfl, ?_⟩) ?_ ?_
          rotate_left
          ·
           intro w'
           go_simp
           with_reducible rfl
          rotate_left
          ·
           simp only [Act.put, sA, sB, sC, i64_w]
           rfl
          refine pure_ (i := 7) (N := some 52) (v := ?_) (a' := ?_) #[true, true, true, true, false, true, true, true, false, false, false, false, false, false] rfl rfl (any_of HT_.out (by kernel_rfl)) (fun _ _ _ h => h) (Or.inl ⟨by rfl, ?_⟩) ?_ ?_
          rotate_left
          ·
           intro w'
           go_simp
           with_reducible rfl
          rotate_left
          ·
           simp only [Act.put, sA, sB, sC, i64_w]
           rfl
          refine take_ (i := 4) (N := some 49) (v := ?_) (a' := ?_) #[true, true, true, true, true, true, true, true, false, false, false, false, false, false] rfl rfl (take_ofW HT_.out HW_.out (by kernel_rfl)) (fun _ _ _ h => h) (Or.inl ⟨by rfl, ?_⟩) hHeld ?_ ?_
          rotate_left
          ·
           rintro w' ⟨s0, s1, s2, s3, s4, s5⟩
           go_simp
           with_reducible rfl
          rotate_left
          ·
           simp only [Act.put, sA, sB, sC, i64_w]
           rfl
          refine take_ (i := 8) (N := some 53) (v := ?_) (a' := ?_) #[true, true, true, true, true, true, true, true, true, false, false, false, false, false] rfl rfl (take_ofW HT_.out HW_.out (by kernel_rfl)) (fun _ _ _ h => h) (Or.inl ⟨by rfl, ?_⟩) hHeld ?_ ?_
          rotate_left
          ·
           rintro w' ⟨s0, s1, s2, s3, s4, s5⟩
           go_simp
           with_reducible rfl
          rotate_left
          ·
           simp only [Act.put, sA, sB, sC, i64_w]
           rfl
          refine one_ (i := 9) (N := some 54) #[true, true, true, true, true, true, true, true, true, true, false, false, false, false] rfl rfl (one_of HT_.out (by kernel_rfl)) (by decide) (fun K hK => ?_)
          refine value_ (w1 := ?_) (v := ?_) (by rfl) rfl ?_ ?_
          rotate_left 2
          ·
           go_simp
           constructor
           ·
            rfl
           ·
            rfl
          refine hK.out _ _ ⟨(World.cell?_alloc_lt _ _ _ (bC _ _ (hHeld.1))).trans (hHeld.1), (World.cell?_alloc_lt _ _ _ (bC _ _ (hHeld.2.1))).trans (hHeld.2.1), (World.cell?_alloc_lt _ _ _ (bC _ _ (hHeld.2.2.1))).trans (hHeld.2.2.1), (World.cell?_alloc_lt _ _ _ (bC _ _ (hHeld.2.2.2.1))).trans (hHeld.2.2.2.1), (World.cell?_alloc_lt _ _ _ (bC _ _ (hHeld.2.2.2.2.1))).trans (hHeld.2.2.2.2.1), (World.cell?_alloc_lt _ _ _ (bC _ _ (hHeld.2.2.2.2.2))).trans (hHeld.2.2.2.2.2)⟩ (fun hHeld => ?_)
          clear hK K
          refine norm_ (a' := ?_) ?_ ?_
          rotate_left
          ·
           show Act.put _ (some 54) _ = _
           simp only [Act.put, sA, sB, sC, i64_w]
           rfl
          refine one_ (i := 10) (N := some 55) #[true, true, true, true, true, true, true, true, true, true, true, false, false, false] rfl rfl (one_of HT_.out (by kernel_rfl)) (by decide) (fun K hK => ?_)
          refine Kd.R_append_step (Kd.int .i64) w.heap.size (by rfl) (.tmp 49) (.tmp 54) 22 3 (.int .i64 0) 8 rfl Try.underlying22 info3 rfl (by decide) (by omega) (.slice A168_2 ((rd_T27 x3_1 t152).f2).length c168_2) ((rd_T27 x3_1 t152).f2) ((rd_T27 x3_1 t152).f1) [.int .i64 ((rd_T27 x3_1 t152).f1)] (fun k_ => oki48 k_ ∨ ((fun _ => True)) k_ ∧ w47.heap.size ≤ k_) (fun _ => False) rfl rfl ?aP (fun _ hk => hk.elim) ?aF ?aO (Below.refl _ _) ?aS ?aL ?_
          (case aP => exact rfl)
          (case aF => exact (fun k_ hk => .inr ⟨trivial, hk⟩))
          (case aO => exact (by (with_reducible repeat (first | apply Kd.R_alloc | apply Kd.R_drewN | apply Kd.R_drew)); exact Kd.R_mono UU48.out (fun _ hk => .inl hk)))
          (case aS => exact (keep_size (w := w) (g := g) (row := none) (by repeat (first | (with_reducible first | exact HK.out | apply KeepBut.set_ | apply keep_drewN | apply keep_drew | apply keep_alloc) | exact HK.out))))
          (case aL => have := LMc43.out; omega)
          intro v171 w49 ho hb hg hat
          (first | have HS0_ := cell_grown hg (hHeld.1) (by first | (rw [add_block]; exact (fun e_ => ((HL168_2.out.1 _ e_.symm).2) rfl)) | (show some (Addr.add _ _).block ≠ _; rw [add_block]; exact (fun e_ => ((HL168_2.out.1 _ e_.symm).2) rfl)) | exact (fun e_ => ((HL168_2.out.1 _ e_.symm).2) rfl)) | have HS0_ := cell_grown hg (cell_unalloc (hHeld.1) (by first | (rw [add_block]; exact Kd.S_lt HO_3.out _ rfl) | (show (Addr.add _ _).block < _; rw [add_block]; exact Kd.S_lt HO_3.out _ rfl) | exact Kd.S_lt HO_3.out _ rfl)) (by first | (rw [add_block]; exact (fun e_ => ((HL168_2.out.1 _ e_.symm).2) rfl)) | (show some (Addr.add _ _).block ≠ _; rw [add_block]; exact (fun e_ => ((HL168_2.out.1 _ e_.symm).2) rfl)) | exact (fun e_ => ((HL168_2.out.1 _ e_.symm).2) rfl)))
          (first | have HS1_ := cell_grown hg (hHeld.2.1) (by first | (rw [add_block]; exact (fun e_ => ((HL168_2.out.1 _ e_.symm).2) rfl)) | (show some (Addr.add _ _).block ≠ _; rw [add_block]; exact (fun e_ => ((HL168_2.out.1 _ e_.symm).2) rfl)) | exact (fun e_ => ((HL168_2.out.1 _ e_.symm).2) rfl)) | have HS1_ := cell_grown hg (cell_unalloc (hHeld.2.1) (by first | (rw [add_block]; exact Kd.S_lt HO_3.out _ rfl) | (show (Addr.add _ _).block < _; rw [add_block]; exact Kd.S_lt HO_3.out _ rfl) | exact Kd.S_lt HO_3.out _ rfl)) (by first | (rw [add_block]; exact (fun e_ => ((HL168_2.out.1 _ e_.symm).2) rfl)) | (show some (Addr.add _ _).block ≠ _; rw [add_block]; exact (fun e_ => ((HL168_2.out.1 _ e_.symm).2) rfl)) | exact (fun e_ => ((HL168_2.out.1 _ e_.symm).2) rfl)))
          (first | have HS2_ := cell_grown hg (hHeld.2.2.1) (by first | (rw [add_block]; exact (fun e_ => ((HL168_2.out.1 _ e_.symm).2) rfl)) | (show some (Addr.add _ _).block ≠ _; rw [add_block]; exact (fun e_ => ((HL168_2.out.1 _ e_.symm).2) rfl)) | exact (fun e_ => ((HL168_2.out.1 _ e_.symm).2) rfl)) | have HS2_ := cell_grown hg (cell_unalloc (hHeld.2.2.1) (by first | (rw [add_block]; exact Kd.S_lt HO_3.out _ rfl) | (show (Addr.add _ _).block < _; rw [add_block]; exact Kd.S_lt HO_3.out _ rfl) | exact Kd.S_lt HO_3.out _ rfl)) (by first | (rw [add_block]; exact (fun e_ => ((HL168_2.out.1 _ e_.symm).2) rfl)) | (show some (Addr.add _ _).block ≠ _; rw [add_block]; exact (fun e_ => ((HL168_2.out.1 _ e_.symm).2) rfl)) | exact (fun e_ => ((HL168_2.out.1 _ e_.symm).2) rfl)))
          (first | have HS3_ := cell_grown hg (hHeld.2.2.2.1) (by first | (rw [add_block]; exact (fun e_ => ((HL168_2.out.1 _ e_.symm).2) rfl)) | (show some (Addr.add _ _).block ≠ _; rw [add_block]; exact (fun e_ => ((HL168_2.out.1 _ e_.symm).2) rfl)) | exact (fun e_ => ((HL168_2.out.1 _ e_.symm).2) rfl)) | have HS3_ := cell_grown hg (cell_unalloc (hHeld.2.2.2.1) (by first | (rw [add_block]; exact Kd.S_lt HO_3.out _ rfl) | (show (Addr.add _ _).block < _; rw [add_block]; exact Kd.S_lt HO_3.out _ rfl) | exact Kd.S_lt HO_3.out _ rfl)) (by first | (rw [add_block]; exact (fun e_ => ((HL168_2.out.1 _ e_.symm).2) rfl)) | (show some (Addr.add _ _).block ≠ _; rw [add_block]; exact (fun e_ => ((HL168_2.out.1 _ e_.symm).2) rfl)) | exact (fun e_ => ((HL168_2.out.1 _ e_.symm).2) rfl)))
          (first | have HS4_ := cell_grown hg (hHeld.2.2.2.2.1) (by first | (rw [add_block]; exact (fun e_ => ((HL168_2.out.1 _ e_.symm).2) rfl)) | (show some (Addr.add _ _).block ≠ _; rw [add_block]; exact (fun e_ => ((HL168_2.out.1 _ e_.symm).2) rfl)) | exact (fun e_ => ((HL168_2.out.1 _ e_.symm).2) rfl)) | have HS4_ := cell_grown hg (cell_unalloc (hHeld.2.2.2.2.1) (by first | (rw [add_block]; exact Kd.S_lt HO_3.out _ rfl) | (show (Addr.add _ _).block < _; rw [add_block]; exact Kd.S_lt HO_3.out _ rfl) | exact Kd.S_lt HO_3.out _ rfl)) (by first | (rw [add_block]; exact (fun e_ => ((HL168_2.out.1 _ e_.symm).2) rfl)) | (show some (Addr.add _ _).block ≠ _; rw [add_block]; exact (fun e_ => ((HL168_2.out.1 _ e_.symm).2) rfl)) | exact (fun e_ => ((HL168_2.out.1 _ e_.symm).2) rfl)))
          (first | have HS5_ := cell_grown hg (hHeld.2.2.2.2.2) (by first | (rw [add_block]; exact (fun e_ => ((HL168_2.out.1 _ e_.symm).2) rfl)) | (show some (Addr.add _ _).block ≠ _; rw [add_block]; exact (fun e_ => ((HL168_2.out.1 _ e_.symm).2) rfl)) | exact (fun e_ => ((HL168_2.out.1 _ e_.symm).2) rfl)) | have HS5_ := cell_grown hg (cell_unalloc (hHeld.2.2.2.2.2) (by first | (rw [add_block]; exact Kd.S_lt HO_3.out _ rfl) | (show (Addr.add _ _).block < _; rw [add_block]; exact Kd.S_lt HO_3.out _ rfl) | exact Kd.S_lt HO_3.out _ rfl)) (by first | (rw [add_block]; exact (fun e_ => ((HL168_2.out.1 _ e_.symm).2) rfl)) | (show some (Addr.add _ _).block ≠ _; rw [add_block]; exact (fun e_ => ((HL168_2.out.1 _ e_.symm).2) rfl)) | exact (fun e_ => ((HL168_2.out.1 _ e_.symm).2) rfl)))
          rw [← Ny170.out] at ho
          have n0_ := aM (IsS77.grown (by repeat (first | (with_reducible first | exact HI0.out | apply IsS77.alloc | apply IsS77.drewN | apply IsS77.drew | apply IsS77.set_1) | exact HI0.out)) hg (IsS77.own_ne HI0.out HL168_2.out (by decide)))
          have n1_ := aM (below_weaken (by repeat (first | (with_reducible first | exact HB.out | apply below_alloc | apply bN | apply bD | refine below_set ?_ (IsS77.ge HI0.out)) | exact HB.out)) HL.out hb)
          have n2_ := aM (KeepBut.trans (by repeat (first | (with_reducible first | exact HK.out | apply KeepBut.set_ | apply keep_drewN | apply keep_drew | apply keep_alloc) | exact HK.out)) (KeepBut.of_grown hg g) (Kd.R_base2 HL168_2.out))
          have n3_ := aM (Kd.H_grown (Kd.H_widen (by repeat (first | exact HH48.out | refine Kd.H_alloc ?_ _ | refine Kd.H_drewN ?_ _ | refine Kd.H_drew ?_))) hg (fun k_ e_ => .inl (UU48.out.1 k_ e_)))
          have n4_ := aM (ho)
          clear HI0
          clear HB
          clear HK
          clear HH48
          clear HO_3
          clear UU48
          clear HL168_2
          clear HL169_2
          have HI0 := n0_
          have HB := n1_
          have HK := n2_
          have HH48 := n3_
          have HO172 := n4_
          clear n0_ n1_ n2_ n3_ n4_
          clear ho hb hg hat
          obtain ⟨Ao52, co52, eo52⟩ := Kd.R_slice HO172.out
          (first | subst eo52 | (injection eo52 with f1_ f2_ f3_; have f4_ := f1_.symm; have f5_ := f3_.symm; clear f1_ f2_ f3_; subst f4_; subst f5_))
          obtain ⟨_, _, hraw50, _, _, hcc50, _⟩ := Kd.H_raw HH48.out (of_decide_eq_true (by assumption)) (by have h_ : (t152 : Int) < ((x3_1.length : Int) : Int) := of_decide_eq_true (by assumption); first | exact h_ | (have e_ := (HN48.out); omega) | simpa using h_)
          obtain ⟨_, hfr50⟩ := Kd.H_at HH48.out (of_decide_eq_true (by assumption)) (by have h_ : (t152 : Int) < ((x3_1.length : Int) : Int) := of_decide_eq_true (by assumption); first | exact h_ | (have e_ := (HN48.out); omega) | simpa using h_)
          have hx50_0 := hcc50 2 _ rfl
          have hf50_0 := hfr50 2
          (try rw [show (k27).sz = 3 from rfl] at hx50_0)
          (try rw [show (k27).sz = 3 from rfl] at hf50_0)
          have HP50 := Kd.S_seg0 HH48.out (of_decide_eq_true (by assumption)) (by have h_ : (t152 : Int) < ((x3_1.length : Int) : Int) := of_decide_eq_true (by assumption); first | exact h_ | (have e_ := (HN48.out); omega) | simpa using h_) (seg := [.slice Ao52 y170.length co52]) (j := 2) (show 3 ≤ 3 from by decide) (x' := (⟨(rd_T27 x3_1 t152).f0, (rd_T27 x3_1 t152).f1, y170⟩ : S27)) (k27_mkM _ _ _ (⟨(rd_T27 x3_1 t152).f0, (rd_T27 x3_1 t152).f1, y170⟩ : S27) HO172.out) (fun _ hk => hk)
          clear hcc50 hfr50
          have HN0_go18 := aM (show g ≠ go18 from by have h_ := IsS77.own_ne HI0.out hraw50 (by decide); intro e_; exact h_ (by rw [e_]; rfl))
          have HS50 := HP50.1
          rw [← Ny173.out] at HS50
          have HQ50 := aM HS50
          obtain ⟨_, hgg50⟩ := Kd.R_typed hraw50 go18 rfl
          have GG50_ := aM hgg50
          clear HP50 HS50 hgg50
          refine hK.out _ _ ⟨HS0_, HS1_, HS2_, HS3_, HS4_, HS5_⟩ (fun hHeld => ?_)
          clear hK K
          refine norm_ (a' := ?_) ?_ ?_
          rotate_left
          ·
           show Act.put _ (some 55) _ = _
           simp only [Act.put, sA, sB, sC, i64_w]
           rfl
          refine pure_ (i := 11) (N := some 56) (v := ?_) (a' := ?_) #[true, true, true, true, true, true, true, true, true, true, true, true, false, false] rfl rfl (any_of HT_.out (by kernel_rfl)) (fun _ _ _ h => h) (Or.inl ⟨by rfl, ?_⟩) ?_ ?_
          rotate_left
          ·
           intro w'
           go_simp
           with_reducible rfl
          rotate_left
          ·
           simp only [Act.put, sA, sB, sC, i64_w]
           rfl
          refine pure_ (i := 12) (N := some 57) (v := ?_) (a' := ?_) #[true, true, true, true, true, true, true, true, true, true, true, true, true, false] rfl rfl (any_of HT_.out (by kernel_rfl)) (fun _ _ _ h => h) (Or.inl ⟨by rfl, ?_⟩) ?_ ?_
          rotate_left
          ·
           intro w'
           go_simp
           with_reducible rfl
          rotate_left
          ·
           simp only [Act.put, sA, sB, sC, i64_w]
           rfl
          refine last_ (i := 13) (N := none) #[true, true, true, true, true, true, true, true, true, true, true, true, true, true] rfl rfl (one_of HT_.out (by kernel_rfl)) (by decide) (fun K hK => ?_)
          refine skip_ (w1 := ?_) (by rfl) rfl ?_ ?_
          rotate_left
          ·
           go_simp
           rfl
          refine hK.out _ _ ?_
          clear hK K
          refine done_ (done_of HT_.out (by kernel_rfl)) ?_
          try go_wp2
          go_ret
          exact ⟨_, by first | rfl | (simp [*] <;> rfl), by (with_reducible repeat (first | apply Kd.S_alloc | apply Kd.S_drewN | apply Kd.S_drew)); exact HQ50.out, by repeat (first | (with_reducible first | exact HI0.out | apply IsS77.alloc | apply IsS77.drewN | apply IsS77.drew | apply IsS77.set_1 | refine IsS77.far ?_ HN0_go18.out _) | exact HI0.out), by repeat (first | (with_reducible first | exact HB.out | apply below_alloc | apply bN | apply bD | refine below_set ?_ (Nat.le_trans HL.out GB18.out) | refine below_set ?_ (IsS77.ge HI0.out)) | exact HB.out), by repeat (first | (with_reducible first | exact HK.out | apply KeepBut.set_ | apply keep_drewN | apply keep_drew | apply keep_alloc | refine keep_far ?_ GB18.out _) | exact HK.out)⟩
         ·
          rw [if_neg c43] at H
          exact absurd H (by simp)
        ·
         rw [if_neg c42] at H
         have c42b0 : (t154 == 2) = false := beq_eq_false_iff_ne.mpr c42
         have c42b1 : (t154 != 2) = true := bne_iff_ne.mpr c42
         by_cases c53 : t154 = 3
         ·
          rw [if_pos c53] at H
          have c53b0 : (t154 == 3) = true := beq_iff_eq.mpr c53
          have c53b1 : (t154 != 3) = false := bne_eq_false_iff_eq.mpr c53
          clear c53
          by_cases c54 : ((rd_T27 x3_1 t152).f2).length < 17592186044416
          ·
           rw [if_pos c54] at H
           have LMc54 := aM c54
           clear c54
           obtain ⟨y175, hy175⟩ : ∃ y_ : List Int, y_ = (((rd_T27 x3_1 t152).f2) ++ [1]) := ⟨_, rfl⟩
           replace H : (some ((x3_1.set (t152 : Int).toNat (⟨(rd_T27 x3_1 t152).f0, (rd_T27 x3_1 t152).f1, y175⟩ : S27)), t155)) = some (r1, r2) := by first | (rw [hy175]; with_reducible exact H) | (have H2_ := (Option.bind_some _ _).symm.trans H; rw [hy175]; with_reducible exact H2_) | (have H2_ := (Option.bind_some _ _).symm.trans H; with_reducible exact H2_) | with_reducible exact H | (rw [hy175]; exact H) | exact H
           have Ny175 := aM hy175
           clear hy175
           obtain ⟨y178, hy178⟩ : ∃ y_ : List (S27), y_ = (x3_1.set (t152 : Int).toNat (⟨(rd_T27 x3_1 t152).f0, (rd_T27 x3_1 t152).f1, y175⟩ : S27)) := ⟨_, rfl⟩
           replace H : (some (y178, t155)) = some (r1, r2) := by first | (rw [hy178]; with_reducible exact H) | (have H2_ := (Option.bind_some _ _).symm.trans H; rw [hy178]; with_reducible exact H2_) | (have H2_ := (Option.bind_some _ _).symm.trans H; with_reducible exact H2_) | with_reducible exact H | (rw [hy178]; exact H) | exact H
           have Ny178 := aM hy178
           clear hy178
           simp only [Option.some.injEq, Prod.mk.injEq] at H
           obtain ⟨rfl, rfl⟩ := H
           obtain ⟨Ao55, co55, eo55⟩ := Kd.S_slice HO_3.out
           subst eo55
           go_wp2_with (first | ((with_reducible refine gate_callee (f := 63) rfl ?_); refine goesL_ (some 23) rfl rfl Try.func63 (by kernel_rfl) rfl #[.pointer (some ⟨g, 0, none⟩), .int .i64 (x3_1.length : Int)] rfl (by (try simp only [mA, mB, mC]); first | done | rfl | (simp only [mE, mD]; rfl)) ?_; (with_reducible refine (spec_l21Rd_pick.calls k1 g s0_0 x1001_1 (x3_1.length : Int) t152 t153 w0 _ ?side1 ?side2 A15.out).mono ?_); (case side1 => repeat (first | (with_reducible first | exact HI0.out | apply IsS77.alloc | apply IsS77.drewN | apply IsS77.drew | apply IsS77.set_1) | exact HI0.out)); (case side2 => repeat (first | (with_reducible first | exact HB.out | apply below_alloc | apply bN | apply bD | refine below_set ?_ (IsS77.ge HI0.out)) | exact HB.out)); rintro e w56 ⟨rfl, hi, hb, hk⟩; refine ⟨_, rfl, ?_⟩; have n0_ := aM (Kd.S_mono (Kd.S_keep (IsS77.apartS (show IsS77 w0 _ g s0_0 x1001_1 from by repeat (first | (with_reducible first | exact HI0.out | apply IsS77.alloc | apply IsS77.drewN | apply IsS77.drew | apply IsS77.set_1) | exact HI0.out)) (by (with_reducible repeat (first | apply Kd.S_alloc | apply Kd.S_drewN | apply Kd.S_drew)); exact HO_3.out) (by decide)) hk (fun _ h => h.2)) (fun _ h => h.1)); have n1_ := aM (KeepBut.trans (by repeat (first | (with_reducible first | exact HK.out | apply KeepBut.set_ | apply keep_drewN | apply keep_drew | apply keep_alloc) | exact HK.out)) hk (.inl rfl)); have n2_ := aM (hb); have n3_ := aM (hi); clear HO_3; clear HK; clear HB; clear HI0; have HO_3 := n0_; have HK := n1_; have HB := n2_; have HI0 := n3_; clear n0_ n1_ n2_ n3_; (try clear hb); (try clear hb2); (try clear hk); (try clear hi); have p18 : 0 ≤ (t152 : Int) := of_decide_eq_true (by assumption); have q18 : (t152 : Int) < ((x3_1.length : Int) : Int) := of_decide_eq_true (by assumption); obtain ⟨go18, co18, eo18, gb18, gl18, cl18, HG18⟩ := Kd.S_form HO_3.out (by omega); (first | cases eo18 | (injection eo18 with ea_ en_ ec_; (first | subst ea_ | (injection ea_ with ea_; subst ea_)); subst ec_; clear en_)); have GB18 := aM gb18; have GG18 := aM HG18; clear gb18 gl18 HG18; obtain ⟨_, ce18, hcl18, hM18, hcc18, hfr18, _, _⟩ := Kd.S_elem HO_3.out z27 (t152 : Int) p18 q18; obtain ⟨ve18_2, rfl, ge18_2⟩ := k27_openM hM18; have hx18_0 : w56.cell? ⟨go18, (t152 : Int).toNat * 3, none⟩ = some (.int .i64 ((rd_T27 x3_1 t152).f0)) := hcc18 0 _ rfl; have hx18_1 : w56.cell? ⟨go18, (t152 : Int).toNat * 3 + 1, none⟩ = some (.int .i64 ((rd_T27 x3_1 t152).f1)) := hcc18 1 _ rfl; have hx18_2 : w56.cell? ⟨go18, (t152 : Int).toNat * 3 + 2, none⟩ = some (ve18_2) := hcc18 2 _ rfl; have hf18_0 : w56.frozen? ⟨go18, (t152 : Int).toNat * 3, none⟩ = false := hfr18 0; have hf18_1 : w56.frozen? ⟨go18, (t152 : Int).toNat * 3 + 1, none⟩ = false := hfr18 1; have hf18_2 : w56.frozen? ⟨go18, (t152 : Int).toNat * 3 + 2, none⟩ = false := hfr18 2; clear hcl18 hcc18 hfr18 hM18; replace p18 := eq_true p18; replace q18 := eq_true q18) | ((with_reducible refine gate_callee (f := 63) rfl ?_); refine goesL_ (some 26) rfl rfl Try.func63 (by kernel_rfl) rfl #[.pointer (some ⟨g, 0, none⟩), .int .i64 75] rfl (by (try simp only [mA, mB, mC]); first | done | rfl | (simp only [mE, mD]; rfl)) ?_; (with_reducible refine (spec_l21Rd_pick.calls k1 g s0_0 t153 75 t154 t155 w0 _ ?side1 ?side2 A19.out).mono ?_); (case side1 => repeat (first | (with_reducible first | exact HI0.out | apply IsS77.alloc | apply IsS77.drewN | apply IsS77.drew | apply IsS77.set_1) | exact HI0.out)); (case side2 => repeat (first | (with_reducible first | exact HB.out | apply below_alloc | apply bN | apply bD | refine below_set ?_ (IsS77.ge HI0.out)) | exact HB.out)); rintro e w57 ⟨rfl, hi, hb, hk⟩; refine ⟨_, rfl, ?_⟩; have n0_ := aM (Kd.S_mono (Kd.S_keep (IsS77.apartS (show IsS77 w0 _ g s0_0 t153 from by repeat (first | (with_reducible first | exact HI0.out | apply IsS77.alloc | apply IsS77.drewN | apply IsS77.drew | apply IsS77.set_1) | exact HI0.out)) (by (with_reducible repeat (first | apply Kd.S_alloc | apply Kd.S_drewN | apply Kd.S_drew)); exact HO_3.out) (by decide)) hk (fun _ h => h.2)) (fun _ h => h.1)); have n1_ := aM (KeepBut.trans (by repeat (first | (with_reducible first | exact HK.out | apply KeepBut.set_ | apply keep_drewN | apply keep_drew | apply keep_alloc) | exact HK.out)) hk (.inl rfl)); have n2_ := aM (hb); have n3_ := aM (hi); clear HO_3; clear HK; clear HB; clear HI0; have HO_3 := n0_; have HK := n1_; have HB := n2_; have HI0 := n3_; clear n0_ n1_ n2_ n3_; (try clear hb); (try clear hb2); (try clear hk); (try clear hi); have p174 : 0 ≤ (t152 : Int) := of_decide_eq_true (by assumption); have q174 : t152 < (x3_1.length : Int) := of_decide_eq_true (by assumption); obtain ⟨ad174, A174_2, c174_2, e174, hx174_0, hx174_1, hx174_2, hl174_2, hi174_2⟩ := at_T27 (Kd.S_reads' HO_3.out).2.2 t152 p174 q174; obtain rfl : (⟨go18, 0, none⟩ : Addr) = ad174 := (by injection e174); obtain ⟨ce174, hce174, hMe174, hcc174⟩ := Kd.S_get HO_3.out z27 t152 p174 (by first | exact q174 | exact of_decide_eq_true (by assumption) | (have e_ := (Kd.S_reads' HO_3.out).1; omega)); obtain ⟨ve174_2, rfl, ge174_2⟩ := k27_openM hMe174; have hv174_2 := hcc174 2 _ rfl; rw [add_field _ _ 2 (by omega)] at hv174_2; replace hv174_2 := Option.some.inj (hv174_2.symm.trans hx174_2); rw [hv174_2] at ge174_2; have HL174_2 := aM (show Kd.R (Kd.int .i64) 3 _ _ _ _ ((rd_T27 x3_1 t152).f2) from ge174_2); clear hv174_2 ge174_2; have HX174_2 := aM hx174_2; clear hcc174 hce174; (first | simp only [add_plain] at hx174_0 | simp only [add_at] at hx174_0 | simp only [Addr.add, Nat.zero_add] at hx174_0 | skip); (first | simp only [add_plain] at hx174_1 | simp only [add_at] at hx174_1 | simp only [Addr.add, Nat.zero_add] at hx174_1 | skip); (first | simp only [add_plain] at hx174_2 | simp only [add_at] at hx174_2 | simp only [Addr.add, Nat.zero_add] at hx174_2 | skip); have HR174_2 := aM hi174_2; have HC174_2 := aM hl174_2; clear hi174_2 hl174_2; replace p174 := eq_true p174; replace q174 := eq_true q174; obtain ⟨oki58, ce58, hcl58, hM58, hcc58, _, _, hH58⟩ := Kd.S_elem HO_3.out z27 (t152 : Int) (of_decide_eq_true (by assumption)) (by have h_ : (t152 : Int) < ((x3_1.length : Int) : Int) := of_decide_eq_true (by assumption); first | exact h_ | (have e_ := (Kd.S_reads' HO_3.out).1; omega) | simpa using h_); obtain ⟨ve58_2, rfl, ge58_2⟩ := k27_openM hM58; have hv58 := hcc58 2 _ rfl; have hX58 := HX174_2.out; (try simp only [add_plain] at hX58); (try simp only [Nat.add_zero] at hv58); replace hv58 := Option.some.inj (hv58.symm.trans hX58); subst hv58; clear hX58 hcc58 hcl58; have UU58 := aM (show Kd.R (Kd.int .i64) 3 _ w.heap.size oki58 (.slice A174_2 ((rd_T27 x3_1 t152).f2).length c174_2) ((rd_T27 x3_1 t152).f2) from ge58_2); have HH58 := aM hH58; have HN58 := aM (Kd.S_reads' HO_3.out).1; clear hH58 ge58_2) | ((with_reducible refine gate_builtin (b := .append) (xs := #[.tmp 64, .tmp 65]) rfl ?_); at_builtin; refine Kd.R_append (Kd.int .i64) w.heap.size rfl (.tmp 64) (.tmp 65) 22 3 (.int .i64 0) 8 rfl Try.underlying22 info3 rfl (by decide) (by omega) (.slice A174_2 ((rd_T27 x3_1 t152).f2).length c174_2) ((rd_T27 x3_1 t152).f2) 1 [.int .i64 1] (fun k_ => oki58 k_ ∨ ((fun _ => True)) k_ ∧ w57.heap.size ≤ k_) (fun _ => False) rfl rfl ?aP (fun _ hk => hk.elim) ?aF ?aO (Below.refl _ _) ?aS ?aL ?_; (case aP => exact rfl); (case aF => exact (fun k_ hk => .inr ⟨trivial, hk⟩)); (case aO => exact (by (with_reducible repeat (first | apply Kd.R_alloc | apply Kd.R_drewN | apply Kd.R_drew)); exact Kd.R_mono UU58.out (fun _ hk => .inl hk))); (case aS => exact (keep_size (w := w) (g := g) (row := none) (by repeat (first | (with_reducible first | exact HK.out | apply KeepBut.set_ | apply keep_drewN | apply keep_drew | apply keep_alloc) | exact HK.out)))); (case aL => have := LMc54.out; omega); intro v176 w59 ho hb hg hat; rw [← Ny175.out] at ho; have n0_ := aM (IsS77.grown (by repeat (first | (with_reducible first | exact HI0.out | apply IsS77.alloc | apply IsS77.drewN | apply IsS77.drew | apply IsS77.set_1) | exact HI0.out)) hg (IsS77.own_ne HI0.out HL174_2.out (by decide))); have n1_ := aM (below_weaken (by repeat (first | (with_reducible first | exact HB.out | apply below_alloc | apply bN | apply bD | refine below_set ?_ (IsS77.ge HI0.out)) | exact HB.out)) HL.out hb); have n2_ := aM (KeepBut.trans (by repeat (first | (with_reducible first | exact HK.out | apply KeepBut.set_ | apply keep_drewN | apply keep_drew | apply keep_alloc) | exact HK.out)) (KeepBut.of_grown hg g) (Kd.R_base2 HL174_2.out)); have n3_ := aM (Kd.H_grown (Kd.H_widen (by repeat (first | exact HH58.out | refine Kd.H_alloc ?_ _ | refine Kd.H_drewN ?_ _ | refine Kd.H_drew ?_))) hg (fun k_ e_ => .inl (UU58.out.1 k_ e_))); have n4_ := aM (ho); clear HI0; clear HB; clear HK; clear HH58; clear HO_3; clear UU58; clear HL174_2; have HI0 := n0_; have HB := n1_; have HK := n2_; have HH58 := n3_; have HO177 := n4_; clear n0_ n1_ n2_ n3_ n4_; clear ho hb hg hat; obtain ⟨Ao62, co62, eo62⟩ := Kd.R_slice HO177.out; subst eo62; obtain ⟨_, _, hraw60, _, _, hcc60, _⟩ := Kd.H_raw HH58.out (of_decide_eq_true (by assumption)) (by have h_ : (t152 : Int) < ((x3_1.length : Int) : Int) := of_decide_eq_true (by assumption); first | exact h_ | (have e_ := (HN58.out); omega) | simpa using h_); obtain ⟨_, hfr60⟩ := Kd.H_at HH58.out (of_decide_eq_true (by assumption)) (by have h_ : (t152 : Int) < ((x3_1.length : Int) : Int) := of_decide_eq_true (by assumption); first | exact h_ | (have e_ := (HN58.out); omega) | simpa using h_); have hx60_0 := hcc60 2 _ rfl; have hf60_0 := hfr60 2; (try rw [show (k27).sz = 3 from rfl] at hx60_0); (try rw [show (k27).sz = 3 from rfl] at hf60_0); have HP60 := Kd.S_seg0 HH58.out (of_decide_eq_true (by assumption)) (by have h_ : (t152 : Int) < ((x3_1.length : Int) : Int) := of_decide_eq_true (by assumption); first | exact h_ | (have e_ := (HN58.out); omega) | simpa using h_) (seg := [.slice Ao62 y175.length co62]) (j := 2) (show 3 ≤ 3 from by decide) (x' := (⟨(rd_T27 x3_1 t152).f0, (rd_T27 x3_1 t152).f1, y175⟩ : S27)) (k27_mkM _ _ _ (⟨(rd_T27 x3_1 t152).f0, (rd_T27 x3_1 t152).f1, y175⟩ : S27) HO177.out) (fun _ hk => hk); clear hcc60 hfr60) | ((with_reducible refine gate_store (t := 22) (p := 68) rfl ?_); refine store_event (t := 22) (p := 68) (v := ?vo_w61) (w1 := (w59.setCell ⟨go18, (t152 : Int).toNat * 3 + 2, none⟩ (.slice Ao62 y175.length co62))) ?hg ?ho ?hn ?hr ?_; (case ho => rfl); (case hg => rfl); (case hn => rfl); (case hr => first | (go_simp; done) | (go_simp; rfl)); intro w61 hw; have hg : w59.grownBy w61 (some go18) := (by rw [hw]; exact HP60.2); have hp_ : Kd.S k27 27 w61 w.heap.size (fun _ => True) (.slice (some ⟨go18, 0, none⟩) x3_1.length co55) y178 := (by rw [hw, Ny178.out]; exact HP60.1); clear HP60; have n0_ := aM (IsS77.grown (by repeat (first | (with_reducible first | exact HI0.out | apply IsS77.alloc | apply IsS77.drewN | apply IsS77.drew | apply IsS77.set_1) | exact HI0.out)) hg (IsS77.own_ne HI0.out hraw60 (by decide))); have n1_ := aM ((by rw [hw]; exact below_set HB.out (Nat.le_trans HL.out GB18.out) : Below w0.heap.size w0 w61)); have n2_ := aM (KeepBut.trans (by repeat (first | (with_reducible first | exact HK.out | apply KeepBut.set_ | apply keep_drewN | apply keep_drew | apply keep_alloc) | exact HK.out)) (KeepBut.of_grown hg g) (Kd.R_base2 hraw60)); have n3_ := aM (hp_); clear HI0; clear HB; clear HK; clear HO177; clear HH58; have HI0 := n0_; have HB := n1_; have HK := n2_; have HO_3 := n3_; clear n0_ n1_ n2_ n3_; clear hg hw hp_ hraw60))
           go_ret
           exact ⟨_, by first | rfl | (simp [*] <;> rfl), by (with_reducible repeat (first | apply Kd.S_alloc | apply Kd.S_drewN | apply Kd.S_drew)); exact HO_3.out, by repeat (first | (with_reducible first | exact HI0.out | apply IsS77.alloc | apply IsS77.drewN | apply IsS77.drew | apply IsS77.set_1) | exact HI0.out), by repeat (first | (with_reducible first | exact HB.out | apply below_alloc | apply bN | apply bD | refine below_set ?_ (IsS77.ge HI0.out)) | exact HB.out), by repeat (first | (with_reducible first | exact HK.out | apply KeepBut.set_ | apply keep_drewN | apply keep_drew | apply keep_alloc) | exact HK.out)⟩
          ·
           rw [if_neg c54] at H
           exact absurd H (by simp)
         ·
          rw [if_neg c53] at H
          have c53b0 : (t154 == 3) = false := beq_eq_false_iff_ne.mpr c53
          have c53b1 : (t154 != 3) = true := bne_iff_ne.mpr c53
          by_cases c63 : t154 = 4
          ·
           rw [if_pos c63] at H
           have c63b0 : (t154 == 4) = true := beq_iff_eq.mpr c63
           have c63b1 : (t154 != 4) = false := bne_eq_false_iff_eq.mpr c63
           clear c63
           obtain ⟨y179, hy179⟩ : ∃ y_ : List Int, y_ = (([0, 7] : List Int)) := ⟨_, rfl⟩
           replace H : ((spec_l21Rd_num.f k1 s0_0 t155 y179).bind fun bt182 => (if 0 ≤ bt182.1 then (if (bt182.1 : Int).toNat ≤ 7036874417766 then (some ((List.replicate (bt182.1 : Int).toNat z27), bt182.2)) else (none)) else (none))) = some (r1, r2) := by first | (rw [hy179]; with_reducible exact H) | (have H2_ := (Option.bind_some _ _).symm.trans H; rw [hy179]; with_reducible exact H2_) | (have H2_ := (Option.bind_some _ _).symm.trans H; with_reducible exact H2_) | with_reducible exact H | (rw [hy179]; exact H) | exact H
           have Ny179 := aM hy179
           clear hy179
           replace H := bE H
           obtain ⟨⟨t182, t183⟩, A640, H⟩ := H
           replace H : (if 0 ≤ t182 then (if (t182 : Int).toNat ≤ 7036874417766 then (some ((List.replicate (t182 : Int).toNat z27), t183)) else (none)) else (none)) = some (r1, r2) := H
           have A64 := aM A640
           clear A640
           by_cases c65 : 0 ≤ t182
           ·
            rw [if_pos c65] at H
            have c65b0 := eq_true c65
            have c65b1 : decide (0 ≤ t182) = true := decide_eq_true c65
            clear c65
            by_cases c66 : (t182 : Int).toNat ≤ 7036874417766
            ·
             rw [if_pos c66] at H
             have c66b0 := eq_true c66
             have c66b1 : decide ((t182 : Int).toNat ≤ 7036874417766) = true := decide_eq_true c66
             clear c66
             obtain ⟨y184, hy184⟩ : ∃ y_ : List (S27), y_ = (List.replicate (t182 : Int).toNat z27) := ⟨_, rfl⟩
             replace H : (some (y184, t183)) = some (r1, r2) := by first | (rw [hy184]; with_reducible exact H) | (have H2_ := (Option.bind_some _ _).symm.trans H; rw [hy184]; with_reducible exact H2_) | (have H2_ := (Option.bind_some _ _).symm.trans H; with_reducible exact H2_) | with_reducible exact H | (rw [hy184]; exact H) | exact H
             have Ny184 := aM hy184
             clear hy184
             simp only [Option.some.injEq, Prod.mk.injEq] at H
             obtain ⟨rfl, rfl⟩ := H
             obtain ⟨Ao67, co67, eo67⟩ := Kd.S_slice HO_3.out
             subst eo67
             go_wp2_with (first | ((with_reducible refine gate_callee (f := 63) rfl ?_); refine goesL_ (some 23) rfl rfl Try.func63 (by kernel_rfl) rfl #[.pointer (some ⟨g, 0, none⟩), .int .i64 (x3_1.length : Int)] rfl (by (try simp only [mA, mB, mC]); first | done | rfl | (simp only [mE, mD]; rfl)) ?_; (with_reducible refine (spec_l21Rd_pick.calls k1 g s0_0 x1001_1 (x3_1.length : Int) t152 t153 w0 _ ?side1 ?side2 A15.out).mono ?_); (case side1 => repeat (first | (with_reducible first | exact HI0.out | apply IsS77.alloc | apply IsS77.drewN | apply IsS77.drew | apply IsS77.set_1) | exact HI0.out)); (case side2 => repeat (first | (with_reducible first | exact HB.out | apply below_alloc | apply bN | apply bD | refine below_set ?_ (IsS77.ge HI0.out)) | exact HB.out)); rintro e w68 ⟨rfl, hi, hb, hk⟩; refine ⟨_, rfl, ?_⟩; have n0_ := aM (Kd.S_mono (Kd.S_keep (IsS77.apartS (show IsS77 w0 _ g s0_0 x1001_1 from by repeat (first | (with_reducible first | exact HI0.out | apply IsS77.alloc | apply IsS77.drewN | apply IsS77.drew | apply IsS77.set_1) | exact HI0.out)) (by (with_reducible repeat (first | apply Kd.S_alloc | apply Kd.S_drewN | apply Kd.S_drew)); exact HO_3.out) (by decide)) hk (fun _ h => h.2)) (fun _ h => h.1)); have n1_ := aM (KeepBut.trans (by repeat (first | (with_reducible first | exact HK.out | apply KeepBut.set_ | apply keep_drewN | apply keep_drew | apply keep_alloc) | exact HK.out)) hk (.inl rfl)); have n2_ := aM (hb); have n3_ := aM (hi); clear HO_3; clear HK; clear HB; clear HI0; have HO_3 := n0_; have HK := n1_; have HB := n2_; have HI0 := n3_; clear n0_ n1_ n2_ n3_; (try clear hb); (try clear hb2); (try clear hk); (try clear hi); have p18 : 0 ≤ (t152 : Int) := of_decide_eq_true (by assumption); have q18 : (t152 : Int) < ((x3_1.length : Int) : Int) := of_decide_eq_true (by assumption); obtain ⟨go18, co18, eo18, gb18, gl18, cl18, HG18⟩ := Kd.S_form HO_3.out (by omega); (first | cases eo18 | (injection eo18 with ea_ en_ ec_; (first | subst ea_ | (injection ea_ with ea_; subst ea_)); subst ec_; clear en_)); have GB18 := aM gb18; have GG18 := aM HG18; clear gb18 gl18 HG18; obtain ⟨_, ce18, hcl18, hM18, hcc18, hfr18, _, _⟩ := Kd.S_elem HO_3.out z27 (t152 : Int) p18 q18; obtain ⟨ve18_2, rfl, ge18_2⟩ := k27_openM hM18; have hx18_0 : w68.cell? ⟨go18, (t152 : Int).toNat * 3, none⟩ = some (.int .i64 ((rd_T27 x3_1 t152).f0)) := hcc18 0 _ rfl; have hx18_1 : w68.cell? ⟨go18, (t152 : Int).toNat * 3 + 1, none⟩ = some (.int .i64 ((rd_T27 x3_1 t152).f1)) := hcc18 1 _ rfl; have hx18_2 : w68.cell? ⟨go18, (t152 : Int).toNat * 3 + 2, none⟩ = some (ve18_2) := hcc18 2 _ rfl; have hf18_0 : w68.frozen? ⟨go18, (t152 : Int).toNat * 3, none⟩ = false := hfr18 0; have hf18_1 : w68.frozen? ⟨go18, (t152 : Int).toNat * 3 + 1, none⟩ = false := hfr18 1; have hf18_2 : w68.frozen? ⟨go18, (t152 : Int).toNat * 3 + 2, none⟩ = false := hfr18 2; clear hcl18 hcc18 hfr18 hM18; replace p18 := eq_true p18; replace q18 := eq_true q18) | ((with_reducible refine gate_callee (f := 63) rfl ?_); refine goesL_ (some 26) rfl rfl Try.func63 (by kernel_rfl) rfl #[.pointer (some ⟨g, 0, none⟩), .int .i64 75] rfl (by (try simp only [mA, mB, mC]); first | done | rfl | (simp only [mE, mD]; rfl)) ?_; (with_reducible refine (spec_l21Rd_pick.calls k1 g s0_0 t153 75 t154 t155 w0 _ ?side1 ?side2 A19.out).mono ?_); (case side1 => repeat (first | (with_reducible first | exact HI0.out | apply IsS77.alloc | apply IsS77.drewN | apply IsS77.drew | apply IsS77.set_1) | exact HI0.out)); (case side2 => repeat (first | (with_reducible first | exact HB.out | apply below_alloc | apply bN | apply bD | refine below_set ?_ (IsS77.ge HI0.out)) | exact HB.out)); rintro e w69 ⟨rfl, hi, hb, hk⟩; refine ⟨_, rfl, ?_⟩; have n0_ := aM (Kd.S_mono (Kd.S_keep (IsS77.apartS (show IsS77 w0 _ g s0_0 t153 from by repeat (first | (with_reducible first | exact HI0.out | apply IsS77.alloc | apply IsS77.drewN | apply IsS77.drew | apply IsS77.set_1) | exact HI0.out)) (by (with_reducible repeat (first | apply Kd.S_alloc | apply Kd.S_drewN | apply Kd.S_drew)); exact HO_3.out) (by decide)) hk (fun _ h => h.2)) (fun _ h => h.1)); have n1_ := aM (KeepBut.trans (by repeat (first | (with_reducible first | exact HK.out | apply KeepBut.set_ | apply keep_drewN | apply keep_drew | apply keep_alloc) | exact HK.out)) hk (.inl rfl)); have n2_ := aM (hb); have n3_ := aM (hi); clear HO_3; clear HK; clear HB; clear HI0; have HO_3 := n0_; have HK := n1_; have HB := n2_; have HI0 := n3_; clear n0_ n1_ n2_ n3_; (try clear hb); (try clear hb2); (try clear hk); (try clear hi)) | ((with_reducible refine gate_dst (N := 72) rfl ?_); refine Kd.R_lit (Kd.int .i64) _ 3 ?hg (N := 72) ?hd (xs := ([0, 7] : List Int)) (inner := [.int .i64 0, .int .i64 7]) (ok := fun _ => True) (okp := fun _ => True) ?hr ?hp (fun _ hk => hk) trivial (Below.refl _ _) (Nat.le_refl _) (by simp) ?_; (case hd => rfl); (case hg => rfl); (case hr => first | (go_simp; done) | (go_simp; rfl)); (case hp => exact (Reps.one (show Kd.M (Kd.int .i64) _ _ _ 0 [.int .i64 0] from rfl) (Reps.one (show Kd.M (Kd.int .i64) _ _ _ 7 [.int .i64 7] from rfl) (Reps.none _ _)))); intro v180 w70 ho71 hb hg_ hnew_; clear hg_ hnew_; (first | rw [← Ny179.out] at ho71 | (simp only [Int.reduceToNat] at ho71; rw [← Ny179.out] at ho71)); have n0_ := aM (Kd.S_elder' (by (with_reducible repeat (first | apply Kd.S_alloc | apply Kd.S_drewN | apply Kd.S_drew)); exact HO_3.out) (Kd.R_base ho71) hb); have n1_ := aM (Kd.R_lower ho71 (keep_size (w := w) (g := g) (row := none) (by repeat (first | (with_reducible first | exact HK.out | apply KeepBut.set_ | apply keep_drewN | apply keep_drew | apply keep_alloc) | exact HK.out)))); have n2_ := aM (IsS77.below (by repeat (first | (with_reducible first | exact HI0.out | apply IsS77.alloc | apply IsS77.drewN | apply IsS77.drew | apply IsS77.set_1) | exact HI0.out)) hb); have n3_ := aM (KeepBut.trans (by repeat (first | (with_reducible first | exact HK.out | apply KeepBut.set_ | apply keep_drewN | apply keep_drew | apply keep_alloc) | exact HK.out)) (KeepBut.of_below hb g none) (.inl rfl)); have n4_ := aM (below_step (by repeat (first | (with_reducible first | exact HB.out | apply below_alloc | apply bN | apply bD | refine below_set ?_ (IsS77.ge HI0.out)) | exact HB.out)) hb); clear HO_3; clear HI0; clear HK; clear HB; have HO_3 := n0_; have HO181 := n1_; have HI0 := n2_; have HK := n3_; have HB := n4_; clear n0_ n1_ n2_ n3_ n4_; clear hb ho71; obtain ⟨Ao72, co72, eo72⟩ := Kd.R_slice HO181.out; subst eo72) | ((with_reducible refine gate_callee (f := 64) rfl ?_); refine goesL_ (some 73) rfl rfl Try.func64 (by kernel_rfl) rfl #[.pointer (some ⟨g, 0, none⟩), .slice Ao72 y179.length co72] rfl (by (try simp only [mA, mB, mC]); first | done | rfl | (simp only [mE, mD]; rfl)) ?_; (with_reducible refine (spec_l21Rd_num.calls k1 g s0_0 t155 _ _ y179 t182 t183 w0 _ ?side1 ?side2 ?side3 ?side4 ?side5 A64.out).mono ?_); (case side1 => repeat (first | (with_reducible first | exact HI0.out | apply IsS77.alloc | apply IsS77.drewN | apply IsS77.drew | apply IsS77.set_1) | exact HI0.out)); (case side2 => repeat (first | (with_reducible first | exact HB.out | apply below_alloc | apply bN | apply bD | refine below_set ?_ (IsS77.ge HI0.out)) | exact HB.out)); (case side3 => repeat (first | exact (Kd.R_reads' HO181.out).2.2 | (with_reducible refine Kd.C_alloc ?_ _) | (with_reducible refine Kd.C_drewN ?_ _) | (with_reducible refine Kd.C_drew ?_))); (case side4 => exact (Kd.R_reads' HO181.out).2.1); (case side5 => exact far_slice (IsS77.own_ne HI0.out HO181.out (by decide))); rintro e w73 ⟨rfl, hi, hb, hk⟩; refine ⟨_, rfl, ?_⟩; have n0_ := aM (Kd.S_mono (Kd.S_keep (IsS77.apartS (show IsS77 w0 _ g s0_0 t155 from by repeat (first | (with_reducible first | exact HI0.out | apply IsS77.alloc | apply IsS77.drewN | apply IsS77.drew | apply IsS77.set_1) | exact HI0.out)) (by (with_reducible repeat (first | apply Kd.S_alloc | apply Kd.S_drewN | apply Kd.S_drew)); exact HO_3.out) (by decide)) hk (fun _ h => h.2)) (fun _ h => h.1)); have n1_ := aM (Kd.R_mono (Kd.R_keep (IsS77.apart (show IsS77 w0 _ g s0_0 t155 from by repeat (first | (with_reducible first | exact HI0.out | apply IsS77.alloc | apply IsS77.drewN | apply IsS77.drew | apply IsS77.set_1) | exact HI0.out)) (by (with_reducible repeat (first | apply Kd.R_alloc | apply Kd.R_drewN | apply Kd.R_drew)); exact HO181.out) (by decide)) hk (fun _ h => h.2)) (fun _ h => h.1)); have n2_ := aM (KeepBut.trans (by repeat (first | (with_reducible first | exact HK.out | apply KeepBut.set_ | apply keep_drewN | apply keep_drew | apply keep_alloc) | exact HK.out)) hk (.inl rfl)); have n3_ := aM (hb); have n4_ := aM (hi); clear HO_3; clear HO181; clear HK; clear HB; clear HI0; have HO_3 := n0_; have HO181 := n1_; have HK := n2_; have HB := n3_; have HI0 := n4_; clear n0_ n1_ n2_ n3_ n4_; (try clear hb); (try clear hb2); (try clear hk); (try clear hi)) | ((with_reducible refine gate_dst (N := 74) rfl ?_); refine Kd.S_make k27 _ 27 rfl (N := 74) rfl 34 _ _ rfl t182 rfl rfl Try.underlying34 (.agg #[(.int .i64 0), (.int .i64 0), (.slice none 0 0)]) 40 info27 rfl (by decide) (by omega) z27 (ok := fun _ => True) (okp := fun _ => True) (k27_mkM _ _ _ z27 (Kd.R_nil _ _ _ _ _)) (fun _ hk => hk) trivial (of_decide_eq_true (by assumption)) (Nat.le_trans (Nat.mul_le_mul_right _ (of_decide_eq_true (by assumption) : t182.toNat ≤ 7036874417766)) (by omega)) (Below.refl _ _) (Nat.le_refl _) ?_; intro v185 w74 ho75 hb hg_ hnew_; clear hg_ hnew_; (first | rw [← Ny184.out] at ho75 | (simp only [Int.reduceToNat] at ho75; rw [← Ny184.out] at ho75)); have n0_ := aM (Kd.S_elder' (by (with_reducible repeat (first | apply Kd.S_alloc | apply Kd.S_drewN | apply Kd.S_drew)); exact HO_3.out) (Kd.S_base ho75) hb); have n1_ := aM (Kd.R_below (by (with_reducible repeat (first | apply Kd.R_alloc | apply Kd.R_drewN | apply Kd.R_drew)); exact HO181.out) hb); have n2_ := aM (Kd.S_lower (Kd.S_new' (Kd.S_new' ho75 (Kd.S_lt (by (with_reducible repeat (first | apply Kd.S_alloc | apply Kd.S_drewN | apply Kd.S_drew)); exact HO_3.out))) (Kd.R_lt (by (with_reducible repeat (first | apply Kd.R_alloc | apply Kd.R_drewN | apply Kd.R_drew)); exact HO181.out))) (keep_size (w := w) (g := g) (row := none) (by repeat (first | (with_reducible first | exact HK.out | apply KeepBut.set_ | apply keep_drewN | apply keep_drew | apply keep_alloc) | exact HK.out)))); have n3_ := aM (IsS77.below (by repeat (first | (with_reducible first | exact HI0.out | apply IsS77.alloc | apply IsS77.drewN | apply IsS77.drew | apply IsS77.set_1) | exact HI0.out)) hb); have n4_ := aM (KeepBut.trans (by repeat (first | (with_reducible first | exact HK.out | apply KeepBut.set_ | apply keep_drewN | apply keep_drew | apply keep_alloc) | exact HK.out)) (KeepBut.of_below hb g none) (.inl rfl)); have n5_ := aM (below_step (by repeat (first | (with_reducible first | exact HB.out | apply below_alloc | apply bN | apply bD | refine below_set ?_ (IsS77.ge HI0.out)) | exact HB.out)) hb); clear HO_3; clear HO181; clear HI0; clear HK; clear HB; have HO_3 := n0_; have HO181 := n1_; have HO186 := n2_; have HI0 := n3_; have HK := n4_; have HB := n5_; clear n0_ n1_ n2_ n3_ n4_ n5_; clear hb ho75))
             go_ret
             exact ⟨_, by first | rfl | (simp [*] <;> rfl), by (with_reducible repeat (first | apply Kd.S_alloc | apply Kd.S_drewN | apply Kd.S_drew)); exact Kd.S_mono HO186.out (fun _ hk => trivial), by repeat (first | (with_reducible first | exact HI0.out | apply IsS77.alloc | apply IsS77.drewN | apply IsS77.drew | apply IsS77.set_1) | exact HI0.out), by repeat (first | (with_reducible first | exact HB.out | apply below_alloc | apply bN | apply bD | refine below_set ?_ (IsS77.ge HI0.out)) | exact HB.out), by repeat (first | (with_reducible first | exact HK.out | apply KeepBut.set_ | apply keep_drewN | apply keep_drew | apply keep_alloc) | exact HK.out)⟩
            ·
             rw [if_neg c66] at H
             exact absurd H (by simp)
           ·
            rw [if_neg c65] at H
            exact absurd H (by simp)
          ·
           rw [if_neg c63] at H
           have c63b0 : (t154 == 4) = false := beq_eq_false_iff_ne.mpr c63
           have c63b1 : (t154 != 4) = true := bne_iff_ne.mpr c63
           simp only [Option.some.injEq, Prod.mk.injEq] at H
           obtain ⟨rfl, rfl⟩ := H
           obtain ⟨Ao76, co76, eo76⟩ := Kd.S_slice HO_3.out
           subst eo76
           go_wp2_with (first | ((with_reducible refine gate_callee (f := 63) rfl ?_); refine goesL_ (some 23) rfl rfl Try.func63 (by kernel_rfl) rfl #[.pointer (some ⟨g, 0, none⟩), .int .i64 (x3_1.length : Int)] rfl (by (try simp only [mA, mB, mC]); first | done | rfl | (simp only [mE, mD]; rfl)) ?_; (with_reducible refine (spec_l21Rd_pick.calls k1 g s0_0 x1001_1 (x3_1.length : Int) t152 t153 w0 _ ?side1 ?side2 A15.out).mono ?_); (case side1 => repeat (first | (with_reducible first | exact HI0.out | apply IsS77.alloc | apply IsS77.drewN | apply IsS77.drew | apply IsS77.set_1) | exact HI0.out)); (case side2 => repeat (first | (with_reducible first | exact HB.out | apply below_alloc | apply bN | apply bD | refine below_set ?_ (IsS77.ge HI0.out)) | exact HB.out)); rintro e w77 ⟨rfl, hi, hb, hk⟩; refine ⟨_, rfl, ?_⟩; have n0_ := aM (Kd.S_mono (Kd.S_keep (IsS77.apartS (show IsS77 w0 _ g s0_0 x1001_1 from by repeat (first | (with_reducible first | exact HI0.out | apply IsS77.alloc | apply IsS77.drewN | apply IsS77.drew | apply IsS77.set_1) | exact HI0.out)) (by (with_reducible repeat (first | apply Kd.S_alloc | apply Kd.S_drewN | apply Kd.S_drew)); exact HO_3.out) (by decide)) hk (fun _ h => h.2)) (fun _ h => h.1)); have n1_ := aM (KeepBut.trans (by repeat (first | (with_reducible first | exact HK.out | apply KeepBut.set_ | apply keep_drewN | apply keep_drew | apply keep_alloc) | exact HK.out)) hk (.inl rfl)); have n2_ := aM (hb); have n3_ := aM (hi); clear HO_3; clear HK; clear HB; clear HI0; have HO_3 := n0_; have HK := n1_; have HB := n2_; have HI0 := n3_; clear n0_ n1_ n2_ n3_; (try clear hb); (try clear hb2); (try clear hk); (try clear hi); have p18 : 0 ≤ (t152 : Int) := of_decide_eq_true (by assumption); have q18 : (t152 : Int) < ((x3_1.length : Int) : Int) := of_decide_eq_true (by assumption); obtain ⟨go18, co18, eo18, gb18, gl18, cl18, HG18⟩ := Kd.S_form HO_3.out (by omega); (first | cases eo18 | (injection eo18 with ea_ en_ ec_; (first | subst ea_ | (injection ea_ with ea_; subst ea_)); subst ec_; clear en_)); have GB18 := aM gb18; have GG18 := aM HG18; clear gb18 gl18 HG18; obtain ⟨_, ce18, hcl18, hM18, hcc18, hfr18, _, _⟩ := Kd.S_elem HO_3.out z27 (t152 : Int) p18 q18; obtain ⟨ve18_2, rfl, ge18_2⟩ := k27_openM hM18; have hx18_0 : w77.cell? ⟨go18, (t152 : Int).toNat * 3, none⟩ = some (.int .i64 ((rd_T27 x3_1 t152).f0)) := hcc18 0 _ rfl; have hx18_1 : w77.cell? ⟨go18, (t152 : Int).toNat * 3 + 1, none⟩ = some (.int .i64 ((rd_T27 x3_1 t152).f1)) := hcc18 1 _ rfl; have hx18_2 : w77.cell? ⟨go18, (t152 : Int).toNat * 3 + 2, none⟩ = some (ve18_2) := hcc18 2 _ rfl; have hf18_0 : w77.frozen? ⟨go18, (t152 : Int).toNat * 3, none⟩ = false := hfr18 0; have hf18_1 : w77.frozen? ⟨go18, (t152 : Int).toNat * 3 + 1, none⟩ = false := hfr18 1; have hf18_2 : w77.frozen? ⟨go18, (t152 : Int).toNat * 3 + 2, none⟩ = false := hfr18 2; clear hcl18 hcc18 hfr18 hM18; replace p18 := eq_true p18; replace q18 := eq_true q18) | ((with_reducible refine gate_callee (f := 63) rfl ?_); refine goesL_ (some 26) rfl rfl Try.func63 (by kernel_rfl) rfl #[.pointer (some ⟨g, 0, none⟩), .int .i64 75] rfl (by (try simp only [mA, mB, mC]); first | done | rfl | (simp only [mE, mD]; rfl)) ?_; (with_reducible refine (spec_l21Rd_pick.calls k1 g s0_0 t153 75 t154 t155 w0 _ ?side1 ?side2 A19.out).mono ?_); (case side1 => repeat (first | (with_reducible first | exact HI0.out | apply IsS77.alloc | apply IsS77.drewN | apply IsS77.drew | apply IsS77.set_1) | exact HI0.out)); (case side2 => repeat (first | (with_reducible first | exact HB.out | apply below_alloc | apply bN | apply bD | refine below_set ?_ (IsS77.ge HI0.out)) | exact HB.out)); rintro e w78 ⟨rfl, hi, hb, hk⟩; refine ⟨_, rfl, ?_⟩; have n0_ := aM (Kd.S_mono (Kd.S_keep (IsS77.apartS (show IsS77 w0 _ g s0_0 t153 from by repeat (first | (with_reducible first | exact HI0.out | apply IsS77.alloc | apply IsS77.drewN | apply IsS77.drew | apply IsS77.set_1) | exact HI0.out)) (by (with_reducible repeat (first | apply Kd.S_alloc | apply Kd.S_drewN | apply Kd.S_drew)); exact HO_3.out) (by decide)) hk (fun _ h => h.2)) (fun _ h => h.1)); have n1_ := aM (KeepBut.trans (by repeat (first | (with_reducible first | exact HK.out | apply KeepBut.set_ | apply keep_drewN | apply keep_drew | apply keep_alloc) | exact HK.out)) hk (.inl rfl)); have n2_ := aM (hb); have n3_ := aM (hi); clear HO_3; clear HK; clear HB; clear HI0; have HO_3 := n0_; have HK := n1_; have HB := n2_; have HI0 := n3_; clear n0_ n1_ n2_ n3_; (try clear hb); (try clear hb2); (try clear hk); (try clear hi)))
           go_ret
           exact ⟨_, by first | rfl | (simp [*] <;> rfl), by (with_reducible repeat (first | apply Kd.S_alloc | apply Kd.S_drewN | apply Kd.S_drew)); exact HO_3.out, by repeat (first | (with_reducible first | exact HI0.out | apply IsS77.alloc | apply IsS77.drewN | apply IsS77.drew | apply IsS77.set_1) | exact HI0.out), by repeat (first | (with_reducible first | exact HB.out | apply below_alloc | apply bN | apply bD | refine below_set ?_ (IsS77.ge HI0.out)) | exact HB.out), by repeat (first | (with_reducible first | exact HK.out | apply KeepBut.set_ | apply keep_drewN | apply keep_drew | apply keep_alloc) | exact HK.out)⟩
     ·
      rw [if_neg c17] at H
      exact absurd H (by simp)
    ·
     rw [if_neg c16] at H
     exact absurd H (by simp)
/-! ### spec_DrawFloodVlan: function 37 -/
def spec_DrawFloodVlan.f (k : Nat) (l0 : List Int) : Option ((List (S27)) × Int × Int) := (spec_l21Open.f l0).bind fun bt187 => ((spec_l10Ports.f k bt187.1 bt187.2).bind fun bt190 => ((spec_l21Rd_pick.f k bt187.1 bt190.2 (wrap64 ((bt190.1.length : Int) + 2))).bind fun bt194 => ((spec_l21Rd_pick.f k bt187.1 bt194.2 8).bind fun bt196 => ((spec_l21Rd_num.f k bt187.1 bt196.2 (([0, 1, 2, 0, 3, 4, 9, 10] : List Int))).bind fun bt201 => (some (bt190.1, wrap64 (bt194.1 - (wrap64 (Int.tdiv bt196.1 7))), bt201.1))))))
theorem spec_DrawFloodVlan.mono : ∀ a0 k, LeO (spec_DrawFloodVlan.f k a0) (spec_DrawFloodVlan.f (k + 1) a0) := by
 intro a0 k
 unfold spec_DrawFloodVlan.f
 repeat' first
   | (with_reducible exact spec_l10Ports.mono _ _ _)
   | (with_reducible exact spec_l21Rd_num.mono _ _ _ _)
   | (with_reducible exact spec_l21Rd_pick.mono _ _ _ _)
   | (with_reducible exact LeO.refl _)
   | (with_reducible exact LeO.none _)
   | (with_reducible refine LeO.ite ?_ ?_)
   | (with_reducible refine LeO.bind ?_ (fun _ => ?_))
   | exact spec_l10Ports.mono _ _ _
   | exact spec_l21Rd_num.mono _ _ _ _
   | exact spec_l21Rd_pick.mono _ _ _ _
   | exact LeO.none _
   | refine LeO.ite ?_ ?_
   | refine LeO.bind ?_ (fun _ => ?_)
set_option maxHeartbeats 8000000 in
set_option maxRecDepth 100000 in
theorem spec_DrawFloodVlan.calls (k : Nat) (A0 : Option Addr) (c0 : Nat) (l0 : List Int) (r1 : List (S27)) (r2 : Int) (r3 : Int) (w : World) (hr0 : Kd.C (Kd.int .u8) w A0 l0.length l0) (hc0 : l0.length ≤ c0) (h : spec_DrawFloodVlan.f k l0 = some (r1, r2, r3)) :
  Calls Try.prog 37 #[.slice A0 l0.length c0] w fun e w' => ∃ v0_ : Value, e = .returned (.tuple #[v0_, .int .i64 r2, .int .i64 r3]) ∧ Kd.S k27 27 w' w.heap.size (fun _ => True) v0_ r1 ∧ Below w.heap.size w w' := by
 have HR0 := aM hr0
 have HC0 := aM hc0
 clear hr0 hc0
 have HB := aM (Below.refl w.heap.size w)
 have H : ((spec_l21Open.f l0).bind fun bt187 => ((spec_l10Ports.f k bt187.1 bt187.2).bind fun bt190 => ((spec_l21Rd_pick.f k bt187.1 bt190.2 (wrap64 ((bt190.1.length : Int) + 2))).bind fun bt194 => ((spec_l21Rd_pick.f k bt187.1 bt194.2 8).bind fun bt196 => ((spec_l21Rd_num.f k bt187.1 bt196.2 (([0, 1, 2, 0, 3, 4, 9, 10] : List Int))).bind fun bt201 => (some (bt190.1, wrap64 (bt194.1 - (wrap64 (Int.tdiv bt196.1 7))), bt201.1))))))) = some (r1, r2, r3) := h
 clear h
 replace H := bE H
 obtain ⟨⟨t187, t188⟩, A20, H⟩ := H
 replace H : ((spec_l10Ports.f k t187 t188).bind fun bt190 => ((spec_l21Rd_pick.f k t187 bt190.2 (wrap64 ((bt190.1.length : Int) + 2))).bind fun bt194 => ((spec_l21Rd_pick.f k t187 bt194.2 8).bind fun bt196 => ((spec_l21Rd_num.f k t187 bt196.2 (([0, 1, 2, 0, 3, 4, 9, 10] : List Int))).bind fun bt201 => (some (bt190.1, wrap64 (bt194.1 - (wrap64 (Int.tdiv bt196.1 7))), bt201.1)))))) = some (r1, r2, r3) := H
 have A2 := aM A20
 clear A20
 replace H := bE H
 obtain ⟨⟨t190, t193⟩, A30, H⟩ := H
 replace H : ((spec_l21Rd_pick.f k t187 t193 (wrap64 ((t190.length : Int) + 2))).bind fun bt194 => ((spec_l21Rd_pick.f k t187 bt194.2 8).bind fun bt196 => ((spec_l21Rd_num.f k t187 bt196.2 (([0, 1, 2, 0, 3, 4, 9, 10] : List Int))).bind fun bt201 => (some (t190, wrap64 (bt194.1 - (wrap64 (Int.tdiv bt196.1 7))), bt201.1))))) = some (r1, r2, r3) := H
 have A3 := aM A30
 clear A30
 replace H := bE H
 obtain ⟨⟨t194, t195⟩, A40, H⟩ := H
 replace H : ((spec_l21Rd_pick.f k t187 t195 8).bind fun bt196 => ((spec_l21Rd_num.f k t187 bt196.2 (([0, 1, 2, 0, 3, 4, 9, 10] : List Int))).bind fun bt201 => (some (t190, wrap64 (t194 - (wrap64 (Int.tdiv bt196.1 7))), bt201.1)))) = some (r1, r2, r3) := H
 have A4 := aM A40
 clear A40
 replace H := bE H
 obtain ⟨⟨t196, t197⟩, A50, H⟩ := H
 replace H : ((spec_l21Rd_num.f k t187 t197 (([0, 1, 2, 0, 3, 4, 9, 10] : List Int))).bind fun bt201 => (some (t190, wrap64 (t194 - (wrap64 (Int.tdiv t196 7))), bt201.1))) = some (r1, r2, r3) := H
 have A5 := aM A50
 clear A50
 obtain ⟨y198, hy198⟩ : ∃ y_ : List Int, y_ = (([0, 1, 2, 0, 3, 4, 9, 10] : List Int)) := ⟨_, rfl⟩
 replace H : ((spec_l21Rd_num.f k t187 t197 y198).bind fun bt201 => (some (t190, wrap64 (t194 - (wrap64 (Int.tdiv t196 7))), bt201.1))) = some (r1, r2, r3) := by first | (rw [hy198]; with_reducible exact H) | (have H2_ := (Option.bind_some _ _).symm.trans H; rw [hy198]; with_reducible exact H2_) | (have H2_ := (Option.bind_some _ _).symm.trans H; with_reducible exact H2_) | with_reducible exact H | (rw [hy198]; exact H) | exact H
 have Ny198 := aM hy198
 clear hy198
 replace H := bE H
 obtain ⟨⟨t201, t202⟩, A60, H⟩ := H
 replace H : (some (t190, wrap64 (t194 - (wrap64 (Int.tdiv t196 7))), t201)) = some (r1, r2, r3) := H
 have A6 := aM A60
 clear A60
 simp only [Option.some.injEq, Prod.mk.injEq] at H
 obtain ⟨rfl, rfl, rfl⟩ := H
 go_enter Try.func37, Try.ntmps37
 go_wp2_with (first | ((with_reducible refine gate_callee (f := 61) rfl ?_); refine goesL_ (some 8) rfl rfl Try.func61 (by kernel_rfl) rfl #[.slice A0 l0.length c0] rfl (by (try simp only [mA, mB, mC]); first | done | rfl | (simp only [mE, mD]; rfl)) ?_; (with_reducible refine (spec_l21Open.calls _ _ l0 t187 t188 w _ ?side1 ?side2 ?side3 A2.out).mono ?_); (case side1 => repeat (first | (with_reducible first | exact HB.out | apply below_alloc | apply bN | apply bD) | exact HB.out)); (case side2 => exact HR0.out); (case side3 => exact HC0.out); rintro e w7 ⟨g189, rfl, hi, hb, hb2⟩; refine ⟨_, rfl, ?_⟩; have n0_ := aM (hb); have n1_ := aM (hi); clear HB; have HB := n0_; have HI189 := n1_; clear n0_ n1_; (try clear hb); (try clear hb2); (try clear hk); (try clear hi)) | ((with_reducible refine gate_callee (f := 62) rfl ?_); refine goesL_ (some 10) rfl rfl Try.func62 (by kernel_rfl) rfl #[.pointer (some ⟨g189, 0, none⟩)] rfl (by (try simp only [mA, mB, mC]); first | done | rfl | (simp only [mE, mD]; rfl)) ?_; (with_reducible refine (spec_l10Ports.calls k g189 t187 t188 t190 t193 w _ ?side1 ?side2 A3.out).mono ?_); (case side1 => repeat (first | (with_reducible first | exact HI189.out | apply IsS77.alloc | apply IsS77.drewN | apply IsS77.drew | apply IsS77.set_1) | exact HI189.out)); (case side2 => repeat (first | (with_reducible first | exact HB.out | apply below_alloc | apply bN | apply bD | refine below_set ?_ (IsS77.ge HI189.out)) | exact HB.out)); rintro e w8 ⟨v191, rfl, ho0, hi, hb, hk⟩; refine ⟨_, rfl, ?_⟩; have n0_ := aM (Kd.S_lower ho0 (below_size (by repeat (first | (with_reducible first | exact HB.out | apply below_alloc | apply bN | apply bD | refine below_set ?_ (IsS77.ge HI189.out)) | exact HB.out)))); have n1_ := aM (hb); have n2_ := aM (hi); clear HB; clear HI189; have HO192 := n0_; have HB := n1_; have HI189 := n2_; clear n0_ n1_ n2_; (try clear hb); (try clear hb2); (try clear hk); (try clear hi); (try clear ho0); obtain ⟨Ao9, co9, eo9⟩ := Kd.S_slice HO192.out; subst eo9) | ((with_reducible refine gate_callee (f := 63) rfl ?_); refine goesL_ (some 16) rfl rfl Try.func63 (by kernel_rfl) rfl #[.pointer (some ⟨g189, 0, none⟩), .int .i64 (wrap64 ((t190.length : Int) + 2))] rfl (by (try simp only [mA, mB, mC]); first | done | rfl | (simp only [mE, mD]; rfl)) ?_; (with_reducible refine (spec_l21Rd_pick.calls k g189 t187 t193 (wrap64 ((t190.length : Int) + 2)) t194 t195 w _ ?side1 ?side2 A4.out).mono ?_); (case side1 => repeat (first | (with_reducible first | exact HI189.out | apply IsS77.alloc | apply IsS77.drewN | apply IsS77.drew | apply IsS77.set_1) | exact HI189.out)); (case side2 => repeat (first | (with_reducible first | exact HB.out | apply below_alloc | apply bN | apply bD | refine below_set ?_ (IsS77.ge HI189.out)) | exact HB.out)); rintro e w10 ⟨rfl, hi, hb, hk⟩; refine ⟨_, rfl, ?_⟩; have n0_ := aM (Kd.S_mono (Kd.S_keep (IsS77.apartS (show IsS77 w _ g189 t187 t193 from by repeat (first | (with_reducible first | exact HI189.out | apply IsS77.alloc | apply IsS77.drewN | apply IsS77.drew | apply IsS77.set_1) | exact HI189.out)) (by (with_reducible repeat (first | apply Kd.S_alloc | apply Kd.S_drewN | apply Kd.S_drew)); exact HO192.out) (by decide)) hk (fun _ h => h.2)) (fun _ h => h.1)); have n1_ := aM (hb); have n2_ := aM (hi); clear HO192; clear HB; clear HI189; have HO192 := n0_; have HB := n1_; have HI189 := n2_; clear n0_ n1_ n2_; (try clear hb); (try clear hb2); (try clear hk); (try clear hi)) | ((with_reducible refine gate_callee (f := 63) rfl ?_); refine goesL_ (some 18) rfl rfl Try.func63 (by kernel_rfl) rfl #[.pointer (some ⟨g189, 0, none⟩), .int .i64 8] rfl (by (try simp only [mA, mB, mC]); first | done | rfl | (simp only [mE, mD]; rfl)) ?_; (with_reducible refine (spec_l21Rd_pick.calls k g189 t187 t195 8 t196 t197 w _ ?side1 ?side2 A5.out).mono ?_); (case side1 => repeat (first | (with_reducible first | exact HI189.out | apply IsS77.alloc | apply IsS77.drewN | apply IsS77.drew | apply IsS77.set_1) | exact HI189.out)); (case side2 => repeat (first | (with_reducible first | exact HB.out | apply below_alloc | apply bN | apply bD | refine below_set ?_ (IsS77.ge HI189.out)) | exact HB.out)); rintro e w11 ⟨rfl, hi, hb, hk⟩; refine ⟨_, rfl, ?_⟩; have n0_ := aM (Kd.S_mono (Kd.S_keep (IsS77.apartS (show IsS77 w _ g189 t187 t195 from by repeat (first | (with_reducible first | exact HI189.out | apply IsS77.alloc | apply IsS77.drewN | apply IsS77.drew | apply IsS77.set_1) | exact HI189.out)) (by (with_reducible repeat (first | apply Kd.S_alloc | apply Kd.S_drewN | apply Kd.S_drew)); exact HO192.out) (by decide)) hk (fun _ h => h.2)) (fun _ h => h.1)); have n1_ := aM (hb); have n2_ := aM (hi); clear HO192; clear HB; clear HI189; have HO192 := n0_; have HB := n1_; have HI189 := n2_; clear n0_ n1_ n2_; (try clear hb); (try clear hb2); (try clear hk); (try clear hi)) | ((with_reducible refine gate_dst (N := 22) rfl ?_); refine Kd.R_lit (Kd.int .i64) _ 3 ?hg (N := 22) ?hd (xs := ([0, 1, 2, 0, 3, 4, 9, 10] : List Int)) (inner := [.int .i64 0, .int .i64 1, .int .i64 2, .int .i64 0, .int .i64 3, .int .i64 4, .int .i64 9, .int .i64 10]) (ok := fun _ => True) (okp := fun _ => True) ?hr ?hp (fun _ hk => hk) trivial (Below.refl _ _) (Nat.le_refl _) (by simp) ?_; (case hd => rfl); (case hg => rfl); (case hr => first | (go_simp; done) | (go_simp; rfl)); (case hp => exact (Reps.one (show Kd.M (Kd.int .i64) _ _ _ 0 [.int .i64 0] from rfl) (Reps.one (show Kd.M (Kd.int .i64) _ _ _ 1 [.int .i64 1] from rfl) (Reps.one (show Kd.M (Kd.int .i64) _ _ _ 2 [.int .i64 2] from rfl) (Reps.one (show Kd.M (Kd.int .i64) _ _ _ 0 [.int .i64 0] from rfl) (Reps.one (show Kd.M (Kd.int .i64) _ _ _ 3 [.int .i64 3] from rfl) (Reps.one (show Kd.M (Kd.int .i64) _ _ _ 4 [.int .i64 4] from rfl) (Reps.one (show Kd.M (Kd.int .i64) _ _ _ 9 [.int .i64 9] from rfl) (Reps.one (show Kd.M (Kd.int .i64) _ _ _ 10 [.int .i64 10] from rfl) (Reps.none _ _)))))))))); intro v199 w12 ho13 hb hg_ hnew_; clear hg_ hnew_; (first | rw [← Ny198.out] at ho13 | (simp only [Int.reduceToNat] at ho13; rw [← Ny198.out] at ho13)); have n0_ := aM (Kd.S_elder' (by (with_reducible repeat (first | apply Kd.S_alloc | apply Kd.S_drewN | apply Kd.S_drew)); exact HO192.out) (Kd.R_base ho13) hb); have n1_ := aM (Kd.R_lower ho13 (below_size (by repeat (first | (with_reducible first | exact HB.out | apply below_alloc | apply bN | apply bD | refine below_set ?_ (IsS77.ge HI189.out)) | exact HB.out)))); have n2_ := aM (IsS77.below (by repeat (first | (with_reducible first | exact HI189.out | apply IsS77.alloc | apply IsS77.drewN | apply IsS77.drew | apply IsS77.set_1) | exact HI189.out)) hb); have n3_ := aM (below_step (by repeat (first | (with_reducible first | exact HB.out | apply below_alloc | apply bN | apply bD | refine below_set ?_ (IsS77.ge HI189.out)) | exact HB.out)) hb); clear HO192; clear HI189; clear HB; have HO192 := n0_; have HO200 := n1_; have HI189 := n2_; have HB := n3_; clear n0_ n1_ n2_ n3_; clear hb ho13; obtain ⟨Ao14, co14, eo14⟩ := Kd.R_slice HO200.out; subst eo14) | ((with_reducible refine gate_callee (f := 64) rfl ?_); refine goesL_ (some 23) rfl rfl Try.func64 (by kernel_rfl) rfl #[.pointer (some ⟨g189, 0, none⟩), .slice Ao14 y198.length co14] rfl (by (try simp only [mA, mB, mC]); first | done | rfl | (simp only [mE, mD]; rfl)) ?_; (with_reducible refine (spec_l21Rd_num.calls k g189 t187 t197 _ _ y198 t201 t202 w _ ?side1 ?side2 ?side3 ?side4 ?side5 A6.out).mono ?_); (case side1 => repeat (first | (with_reducible first | exact HI189.out | apply IsS77.alloc | apply IsS77.drewN | apply IsS77.drew | apply IsS77.set_1) | exact HI189.out)); (case side2 => repeat (first | (with_reducible first | exact HB.out | apply below_alloc | apply bN | apply bD | refine below_set ?_ (IsS77.ge HI189.out)) | exact HB.out)); (case side3 => repeat (first | exact (Kd.R_reads' HO200.out).2.2 | (with_reducible refine Kd.C_alloc ?_ _) | (with_reducible refine Kd.C_drewN ?_ _) | (with_reducible refine Kd.C_drew ?_))); (case side4 => exact (Kd.R_reads' HO200.out).2.1); (case side5 => exact far_slice (IsS77.own_ne HI189.out HO200.out (by decide))); rintro e w15 ⟨rfl, hi, hb, hk⟩; refine ⟨_, rfl, ?_⟩; have n0_ := aM (Kd.S_mono (Kd.S_keep (IsS77.apartS (show IsS77 w _ g189 t187 t197 from by repeat (first | (with_reducible first | exact HI189.out | apply IsS77.alloc | apply IsS77.drewN | apply IsS77.drew | apply IsS77.set_1) | exact HI189.out)) (by (with_reducible repeat (first | apply Kd.S_alloc | apply Kd.S_drewN | apply Kd.S_drew)); exact HO192.out) (by decide)) hk (fun _ h => h.2)) (fun _ h => h.1)); have n1_ := aM (Kd.R_mono (Kd.R_keep (IsS77.apart (show IsS77 w _ g189 t187 t197 from by repeat (first | (with_reducible first | exact HI189.out | apply IsS77.alloc | apply IsS77.drewN | apply IsS77.drew | apply IsS77.set_1) | exact HI189.out)) (by (with_reducible repeat (first | apply Kd.R_alloc | apply Kd.R_drewN | apply Kd.R_drew)); exact HO200.out) (by decide)) hk (fun _ h => h.2)) (fun _ h => h.1)); have n2_ := aM (hb); have n3_ := aM (hi); clear HO192; clear HO200; clear HB; clear HI189; have HO192 := n0_; have HO200 := n1_; have HB := n2_; have HI189 := n3_; clear n0_ n1_ n2_ n3_; (try clear hb); (try clear hb2); (try clear hk); (try clear hi)))
 go_ret3
 exact ⟨_, by first | rfl | (simp [*] <;> rfl), by (with_reducible repeat (first | apply Kd.S_alloc | apply Kd.S_drewN | apply Kd.S_drew)); exact Kd.S_mono HO192.out (fun _ hk => trivial), by repeat (first | (with_reducible first | exact HB.out | apply below_alloc | apply bN | apply bD | refine below_set ?_ (IsS77.ge HI189.out)) | exact HB.out)⟩
/-! ### impl_TagOut: function 20 -/
def impl_TagOut.f (k : Nat) (a0_0 : Int) (a0_1 : Int) (l0_2 : List Int) (a1 : Int) : Option (Int) := (impl_VPort_valid.f k a0_0 a0_1 l0_2).bind fun t204 => (if t204 = true then (if a1 = a0_1 then (some 0) else ((slices_Contains_int_int.f k l0_2 a1).bind fun t205 => (if t205 = true then (some a1) else (some (-1))))) else (some (-1)))
theorem impl_TagOut.mono : ∀ a0 a1 a2 a3 k, LeO (impl_TagOut.f k a0 a1 a2 a3) (impl_TagOut.f (k + 1) a0 a1 a2 a3) := by
 intro a0 a1 a2 a3 k
 unfold impl_TagOut.f
 repeat' first
   | (with_reducible exact impl_VPort_valid.mono _ _ _ _)
   | (with_reducible exact slices_Contains_int_int.mono _ _ _)
   | (with_reducible exact LeO.refl _)
   | (with_reducible exact LeO.none _)
   | (with_reducible refine LeO.ite ?_ ?_)
   | (with_reducible refine LeO.bind ?_ (fun _ => ?_))
   | exact impl_VPort_valid.mono _ _ _ _
   | exact slices_Contains_int_int.mono _ _ _
   | exact LeO.none _
   | refine LeO.ite ?_ ?_
   | refine LeO.bind ?_ (fun _ => ?_)
set_option maxHeartbeats 8000000 in
set_option maxRecDepth 100000 in
theorem impl_TagOut.calls (k : Nat) (a0_0 : Int) (a0_1 : Int) (A0_2 : Option Addr) (c0_2 : Nat) (l0_2 : List Int) (a1 : Int) (r : Int) (w : World) (hr0_2 : Kd.C (Kd.int .i64) w A0_2 l0_2.length l0_2) (hc0_2 : l0_2.length ≤ c0_2) (h : impl_TagOut.f k a0_0 a0_1 l0_2 a1 = some r) :
  Calls Try.prog 20 #[.agg #[.int .i64 a0_0, .int .i64 a0_1, .slice A0_2 l0_2.length c0_2], .int .i64 a1] w fun e w' => e = .returned (.int .i64 r) ∧ Below w.heap.size w w' := by
 have hu27 := Try.underlying27
 have HR0_2 := aM hr0_2
 have HC0_2 := aM hc0_2
 clear hr0_2 hc0_2
 have HB := aM (Below.refl w.heap.size w)
 have H : ((impl_VPort_valid.f k a0_0 a0_1 l0_2).bind fun t204 => (if t204 = true then (if a1 = a0_1 then (some 0) else ((slices_Contains_int_int.f k l0_2 a1).bind fun t205 => (if t205 = true then (some a1) else (some (-1))))) else (some (-1)))) = some r := h
 clear h
 replace H := bE H
 obtain ⟨t204, A30, H⟩ := H
 replace H : (if t204 = true then (if a1 = a0_1 then (some 0) else ((slices_Contains_int_int.f k l0_2 a1).bind fun t205 => (if t205 = true then (some a1) else (some (-1))))) else (some (-1))) = some r := H
 have A3 := aM A30
 clear A30
 by_cases c4 : t204 = true
 ·
  subst c4
  have H1 : (if a1 = a0_1 then (some 0) else ((slices_Contains_int_int.f k l0_2 a1).bind fun t205 => (if t205 = true then (some a1) else (some (-1))))) = some r := by rw [if_pos rfl] at H; exact H
  clear H
  have H := H1
  clear H1
  by_cases c5 : a1 = a0_1
  ·
   rw [if_pos c5] at H
   have c5b0 : (a1 == a0_1) = true := beq_iff_eq.mpr c5
   have c5b1 : (a1 != a0_1) = false := bne_eq_false_iff_eq.mpr c5
   clear c5
   obtain rfl := Option.some.inj H
   go_enter Try.func20, Try.ntmps20
   go_wp2_with (first | ((with_reducible refine gate_dst (N := 2) rfl ?_); refine box_event ?hg (N := 2) ?hd (cs := #[.int .i64 a0_0, .int .i64 a0_1, .slice A0_2 l0_2.length c0_2]) (t := 27) ?hr ?_; (case hd => rfl); (case hg => rfl); (case hr => first | (go_simp; done) | (go_simp; rfl)); intro gb203 hg w6 hbox hb; have n0_ := aM (below_step (by repeat (first | (with_reducible first | exact HB.out | apply below_alloc | apply bN | apply bD) | exact HB.out)) hb); have n1_ := aM (hbox); have n2_ := aM ((by rw [hg]; exact (below_size (by repeat (first | (with_reducible first | exact HB.out | apply below_alloc | apply bN | apply bD) | exact HB.out))) : w.heap.size ≤ gb203)); have n3_ := aM ((by rw [hg]; exact (below_size (by repeat (first | (with_reducible first | exact HB.out | apply below_alloc | apply bN | apply bD) | exact HB.out))) : w.heap.size ≤ gb203)); clear HB; have HB := n0_; have BK203 := n1_; have GW203 := n2_; have GE203 := n3_; clear n0_ n1_ n2_ n3_; clear hb hbox hg; have hcz7_0 : w6.cell? ⟨gb203, 0, none⟩ = some (.int .i64 a0_0) := (blk_cell BK203.out 0).trans rfl; have hcz7_1 : w6.cell? ⟨gb203, 1, none⟩ = some (.int .i64 a0_1) := (blk_cell BK203.out 1).trans rfl; have hcz7_2 : w6.cell? ⟨gb203, 2, none⟩ = some (.slice A0_2 l0_2.length c0_2) := (blk_cell BK203.out 2).trans rfl; have hfz7_0 := blk_frozen BK203.out 0; have hfz7_1 := blk_frozen BK203.out 1; have hfz7_2 := blk_frozen BK203.out 2) | ((with_reducible refine gate_callee (f := 55) rfl ?_); refine goesL_ (some 7) rfl rfl Try.func55 (by kernel_rfl) rfl #[.agg #[.int .i64 a0_0, .int .i64 a0_1, .slice A0_2 l0_2.length c0_2]] rfl (by (try simp only [mA, mB, mC]); first | done | rfl | (simp only [mE, mD]; rfl)) ?_; (with_reducible refine (impl_VPort_valid.calls k a0_0 a0_1 _ _ l0_2 true _ ?side1 ?side2 A3.out).mono ?_); (case side1 => repeat (first | exact (Kd.C_below HR0_2.out HB.out) | (with_reducible refine Kd.C_alloc ?_ _) | (with_reducible refine Kd.C_drewN ?_ _) | (with_reducible refine Kd.C_drew ?_))); (case side2 => exact HC0_2.out); rintro e w8 ⟨rfl, hb⟩; refine ⟨_, rfl, ?_⟩; have n0_ := aM (blk_below (g := gb203) (o := .cells #[.int .i64 a0_0, .int .i64 a0_1, .slice A0_2 l0_2.length c0_2] 27 (0, 0)) (by (with_reducible repeat (first | refine blk_drewN ?_ _ | refine blk_drew ?_ | refine blk_alloc ?_ _)); exact BK203.out) hb); have n1_ := aM (below_step (by repeat (first | (with_reducible first | exact HB.out | apply below_alloc | apply bN | apply bD | refine below_set ?_ GE203.out) | exact HB.out)) hb); clear BK203; clear HB; have BK203 := n0_; have HB := n1_; clear n0_ n1_; (try clear hb); (try clear hb2); (try clear hk); (try clear hi); have hcz9_0 : w8.cell? ⟨gb203, 0, none⟩ = some (.int .i64 a0_0) := (blk_cell BK203.out 0).trans rfl; have hcz9_1 : w8.cell? ⟨gb203, 1, none⟩ = some (.int .i64 a0_1) := (blk_cell BK203.out 1).trans rfl; have hcz9_2 : w8.cell? ⟨gb203, 2, none⟩ = some (.slice A0_2 l0_2.length c0_2) := (blk_cell BK203.out 2).trans rfl; have hfz9_0 := blk_frozen BK203.out 0; have hfz9_1 := blk_frozen BK203.out 1; have hfz9_2 := blk_frozen BK203.out 2))
   go_ret
   exact ⟨by first | rfl | (simp [*] <;> rfl), by repeat (first | (with_reducible first | exact HB.out | apply below_alloc | apply bN | apply bD | refine below_set ?_ GE203.out) | exact HB.out)⟩
  ·
   rw [if_neg c5] at H
   have c5b0 : (a1 == a0_1) = false := beq_eq_false_iff_ne.mpr c5
   have c5b1 : (a1 != a0_1) = true := bne_iff_ne.mpr c5
   replace H := bE H
   obtain ⟨t205, A100, H⟩ := H
   replace H : (if t205 = true then (some a1) else (some (-1))) = some r := H
   have A10 := aM A100
   clear A100
   by_cases c11 : t205 = true
   ·
    subst c11
    have H1 : (some a1) = some r := by rw [if_pos rfl] at H; exact H
    clear H
    have H := H1
    clear H1
    obtain rfl := Option.some.inj H
    go_enter Try.func20, Try.ntmps20
    go_wp2_with (first | ((with_reducible refine gate_dst (N := 2) rfl ?_); refine box_event ?hg (N := 2) ?hd (cs := #[.int .i64 a0_0, .int .i64 a0_1, .slice A0_2 l0_2.length c0_2]) (t := 27) ?hr ?_; (case hd => rfl); (case hg => rfl); (case hr => first | (go_simp; done) | (go_simp; rfl)); intro gb203 hg w12 hbox hb; have n0_ := aM (below_step (by repeat (first | (with_reducible first | exact HB.out | apply below_alloc | apply bN | apply bD) | exact HB.out)) hb); have n1_ := aM (hbox); have n2_ := aM ((by rw [hg]; exact (below_size (by repeat (first | (with_reducible first | exact HB.out | apply below_alloc | apply bN | apply bD) | exact HB.out))) : w.heap.size ≤ gb203)); have n3_ := aM ((by rw [hg]; exact (below_size (by repeat (first | (with_reducible first | exact HB.out | apply below_alloc | apply bN | apply bD) | exact HB.out))) : w.heap.size ≤ gb203)); clear HB; have HB := n0_; have BK203 := n1_; have GW203 := n2_; have GE203 := n3_; clear n0_ n1_ n2_ n3_; clear hb hbox hg; have hcz13_0 : w12.cell? ⟨gb203, 0, none⟩ = some (.int .i64 a0_0) := (blk_cell BK203.out 0).trans rfl; have hcz13_1 : w12.cell? ⟨gb203, 1, none⟩ = some (.int .i64 a0_1) := (blk_cell BK203.out 1).trans rfl; have hcz13_2 : w12.cell? ⟨gb203, 2, none⟩ = some (.slice A0_2 l0_2.length c0_2) := (blk_cell BK203.out 2).trans rfl; have hfz13_0 := blk_frozen BK203.out 0; have hfz13_1 := blk_frozen BK203.out 1; have hfz13_2 := blk_frozen BK203.out 2) | ((with_reducible refine gate_callee (f := 55) rfl ?_); refine goesL_ (some 7) rfl rfl Try.func55 (by kernel_rfl) rfl #[.agg #[.int .i64 a0_0, .int .i64 a0_1, .slice A0_2 l0_2.length c0_2]] rfl (by (try simp only [mA, mB, mC]); first | done | rfl | (simp only [mE, mD]; rfl)) ?_; (with_reducible refine (impl_VPort_valid.calls k a0_0 a0_1 _ _ l0_2 true _ ?side1 ?side2 A3.out).mono ?_); (case side1 => repeat (first | exact (Kd.C_below HR0_2.out HB.out) | (with_reducible refine Kd.C_alloc ?_ _) | (with_reducible refine Kd.C_drewN ?_ _) | (with_reducible refine Kd.C_drew ?_))); (case side2 => exact HC0_2.out); rintro e w14 ⟨rfl, hb⟩; refine ⟨_, rfl, ?_⟩; have n0_ := aM (blk_below (g := gb203) (o := .cells #[.int .i64 a0_0, .int .i64 a0_1, .slice A0_2 l0_2.length c0_2] 27 (0, 0)) (by (with_reducible repeat (first | refine blk_drewN ?_ _ | refine blk_drew ?_ | refine blk_alloc ?_ _)); exact BK203.out) hb); have n1_ := aM (below_step (by repeat (first | (with_reducible first | exact HB.out | apply below_alloc | apply bN | apply bD | refine below_set ?_ GE203.out) | exact HB.out)) hb); clear BK203; clear HB; have BK203 := n0_; have HB := n1_; clear n0_ n1_; (try clear hb); (try clear hb2); (try clear hk); (try clear hi); have hcz15_0 : w14.cell? ⟨gb203, 0, none⟩ = some (.int .i64 a0_0) := (blk_cell BK203.out 0).trans rfl; have hcz15_1 : w14.cell? ⟨gb203, 1, none⟩ = some (.int .i64 a0_1) := (blk_cell BK203.out 1).trans rfl; have hcz15_2 : w14.cell? ⟨gb203, 2, none⟩ = some (.slice A0_2 l0_2.length c0_2) := (blk_cell BK203.out 2).trans rfl; have hfz15_0 := blk_frozen BK203.out 0; have hfz15_1 := blk_frozen BK203.out 1; have hfz15_2 := blk_frozen BK203.out 2) | ((with_reducible refine gate_callee (f := 56) rfl ?_); refine goesL_ (some 18) rfl rfl Try.func56 (by kernel_rfl) rfl #[.slice A0_2 l0_2.length c0_2, .int .i64 a1] rfl (by (try simp only [mA, mB, mC]); first | done | rfl | (simp only [mE, mD]; rfl)) ?_; (with_reducible refine (slices_Contains_int_int.calls k _ _ l0_2 a1 true _ ?side1 ?side2 A10.out).mono ?_); (case side1 => repeat (first | exact (Kd.C_below HR0_2.out HB.out) | (with_reducible refine Kd.C_alloc ?_ _) | (with_reducible refine Kd.C_drewN ?_ _) | (with_reducible refine Kd.C_drew ?_))); (case side2 => exact HC0_2.out); rintro e w' ⟨rfl, ⟨nd, rfl⟩⟩; refine ⟨_, rfl, ?_⟩))
    go_ret
    exact ⟨by first | rfl | (simp [*] <;> rfl), by repeat (first | (with_reducible first | exact HB.out | apply below_alloc | apply bN | apply bD | refine below_set ?_ GE203.out) | exact HB.out)⟩
   ·
    replace c11 := Bool.eq_false_iff.mpr c11
    subst c11
    have H1 : (some (-1)) = some r := by rw [if_neg (show ¬ (false = true) by decide)] at H; exact H
    clear H
    have H := H1
    clear H1
    obtain rfl := Option.some.inj H
    go_enter Try.func20, Try.ntmps20
    go_wp2_with (first | ((with_reducible refine gate_dst (N := 2) rfl ?_); refine box_event ?hg (N := 2) ?hd (cs := #[.int .i64 a0_0, .int .i64 a0_1, .slice A0_2 l0_2.length c0_2]) (t := 27) ?hr ?_; (case hd => rfl); (case hg => rfl); (case hr => first | (go_simp; done) | (go_simp; rfl)); intro gb203 hg w16 hbox hb; have n0_ := aM (below_step (by repeat (first | (with_reducible first | exact HB.out | apply below_alloc | apply bN | apply bD) | exact HB.out)) hb); have n1_ := aM (hbox); have n2_ := aM ((by rw [hg]; exact (below_size (by repeat (first | (with_reducible first | exact HB.out | apply below_alloc | apply bN | apply bD) | exact HB.out))) : w.heap.size ≤ gb203)); have n3_ := aM ((by rw [hg]; exact (below_size (by repeat (first | (with_reducible first | exact HB.out | apply below_alloc | apply bN | apply bD) | exact HB.out))) : w.heap.size ≤ gb203)); clear HB; have HB := n0_; have BK203 := n1_; have GW203 := n2_; have GE203 := n3_; clear n0_ n1_ n2_ n3_; clear hb hbox hg; have hcz17_0 : w16.cell? ⟨gb203, 0, none⟩ = some (.int .i64 a0_0) := (blk_cell BK203.out 0).trans rfl; have hcz17_1 : w16.cell? ⟨gb203, 1, none⟩ = some (.int .i64 a0_1) := (blk_cell BK203.out 1).trans rfl; have hcz17_2 : w16.cell? ⟨gb203, 2, none⟩ = some (.slice A0_2 l0_2.length c0_2) := (blk_cell BK203.out 2).trans rfl; have hfz17_0 := blk_frozen BK203.out 0; have hfz17_1 := blk_frozen BK203.out 1; have hfz17_2 := blk_frozen BK203.out 2) | ((with_reducible refine gate_callee (f := 55) rfl ?_); refine goesL_ (some 7) rfl rfl Try.func55 (by kernel_rfl) rfl #[.agg #[.int .i64 a0_0, .int .i64 a0_1, .slice A0_2 l0_2.length c0_2]] rfl (by (try simp only [mA, mB, mC]); first | done | rfl | (simp only [mE, mD]; rfl)) ?_; (with_reducible refine (impl_VPort_valid.calls k a0_0 a0_1 _ _ l0_2 true _ ?side1 ?side2 A3.out).mono ?_); (case side1 => repeat (first | exact (Kd.C_below HR0_2.out HB.out) | (with_reducible refine Kd.C_alloc ?_ _) | (with_reducible refine Kd.C_drewN ?_ _) | (with_reducible refine Kd.C_drew ?_))); (case side2 => exact HC0_2.out); rintro e w18 ⟨rfl, hb⟩; refine ⟨_, rfl, ?_⟩; have n0_ := aM (blk_below (g := gb203) (o := .cells #[.int .i64 a0_0, .int .i64 a0_1, .slice A0_2 l0_2.length c0_2] 27 (0, 0)) (by (with_reducible repeat (first | refine blk_drewN ?_ _ | refine blk_drew ?_ | refine blk_alloc ?_ _)); exact BK203.out) hb); have n1_ := aM (below_step (by repeat (first | (with_reducible first | exact HB.out | apply below_alloc | apply bN | apply bD | refine below_set ?_ GE203.out) | exact HB.out)) hb); clear BK203; clear HB; have BK203 := n0_; have HB := n1_; clear n0_ n1_; (try clear hb); (try clear hb2); (try clear hk); (try clear hi); have hcz19_0 : w18.cell? ⟨gb203, 0, none⟩ = some (.int .i64 a0_0) := (blk_cell BK203.out 0).trans rfl; have hcz19_1 : w18.cell? ⟨gb203, 1, none⟩ = some (.int .i64 a0_1) := (blk_cell BK203.out 1).trans rfl; have hcz19_2 : w18.cell? ⟨gb203, 2, none⟩ = some (.slice A0_2 l0_2.length c0_2) := (blk_cell BK203.out 2).trans rfl; have hfz19_0 := blk_frozen BK203.out 0; have hfz19_1 := blk_frozen BK203.out 1; have hfz19_2 := blk_frozen BK203.out 2) | ((with_reducible refine gate_callee (f := 56) rfl ?_); refine goesL_ (some 18) rfl rfl Try.func56 (by kernel_rfl) rfl #[.slice A0_2 l0_2.length c0_2, .int .i64 a1] rfl (by (try simp only [mA, mB, mC]); first | done | rfl | (simp only [mE, mD]; rfl)) ?_; (with_reducible refine (slices_Contains_int_int.calls k _ _ l0_2 a1 false _ ?side1 ?side2 A10.out).mono ?_); (case side1 => repeat (first | exact (Kd.C_below HR0_2.out HB.out) | (with_reducible refine Kd.C_alloc ?_ _) | (with_reducible refine Kd.C_drewN ?_ _) | (with_reducible refine Kd.C_drew ?_))); (case side2 => exact HC0_2.out); rintro e w' ⟨rfl, ⟨nd, rfl⟩⟩; refine ⟨_, rfl, ?_⟩))
    go_ret
    exact ⟨by first | rfl | (simp [*] <;> rfl), by repeat (first | (with_reducible first | exact HB.out | apply below_alloc | apply bN | apply bD | refine below_set ?_ GE203.out) | exact HB.out)⟩
 ·
  replace c4 := Bool.eq_false_iff.mpr c4
  subst c4
  have H1 : (some (-1)) = some r := by rw [if_neg (show ¬ (false = true) by decide)] at H; exact H
  clear H
  have H := H1
  clear H1
  obtain rfl := Option.some.inj H
  go_enter Try.func20, Try.ntmps20
  go_wp2_with (first | ((with_reducible refine gate_dst (N := 2) rfl ?_); refine box_event ?hg (N := 2) ?hd (cs := #[.int .i64 a0_0, .int .i64 a0_1, .slice A0_2 l0_2.length c0_2]) (t := 27) ?hr ?_; (case hd => rfl); (case hg => rfl); (case hr => first | (go_simp; done) | (go_simp; rfl)); intro gb203 hg w20 hbox hb; have n0_ := aM (below_step (by repeat (first | (with_reducible first | exact HB.out | apply below_alloc | apply bN | apply bD) | exact HB.out)) hb); have n1_ := aM (hbox); have n2_ := aM ((by rw [hg]; exact (below_size (by repeat (first | (with_reducible first | exact HB.out | apply below_alloc | apply bN | apply bD) | exact HB.out))) : w.heap.size ≤ gb203)); have n3_ := aM ((by rw [hg]; exact (below_size (by repeat (first | (with_reducible first | exact HB.out | apply below_alloc | apply bN | apply bD) | exact HB.out))) : w.heap.size ≤ gb203)); clear HB; have HB := n0_; have BK203 := n1_; have GW203 := n2_; have GE203 := n3_; clear n0_ n1_ n2_ n3_; clear hb hbox hg; have hcz21_0 : w20.cell? ⟨gb203, 0, none⟩ = some (.int .i64 a0_0) := (blk_cell BK203.out 0).trans rfl; have hcz21_1 : w20.cell? ⟨gb203, 1, none⟩ = some (.int .i64 a0_1) := (blk_cell BK203.out 1).trans rfl; have hcz21_2 : w20.cell? ⟨gb203, 2, none⟩ = some (.slice A0_2 l0_2.length c0_2) := (blk_cell BK203.out 2).trans rfl; have hfz21_0 := blk_frozen BK203.out 0; have hfz21_1 := blk_frozen BK203.out 1; have hfz21_2 := blk_frozen BK203.out 2) | ((with_reducible refine gate_callee (f := 55) rfl ?_); refine goesL_ (some 7) rfl rfl Try.func55 (by kernel_rfl) rfl #[.agg #[.int .i64 a0_0, .int .i64 a0_1, .slice A0_2 l0_2.length c0_2]] rfl (by (try simp only [mA, mB, mC]); first | done | rfl | (simp only [mE, mD]; rfl)) ?_; (with_reducible refine (impl_VPort_valid.calls k a0_0 a0_1 _ _ l0_2 false _ ?side1 ?side2 A3.out).mono ?_); (case side1 => repeat (first | exact (Kd.C_below HR0_2.out HB.out) | (with_reducible refine Kd.C_alloc ?_ _) | (with_reducible refine Kd.C_drewN ?_ _) | (with_reducible refine Kd.C_drew ?_))); (case side2 => exact HC0_2.out); rintro e w22 ⟨rfl, hb⟩; refine ⟨_, rfl, ?_⟩; have n0_ := aM (blk_below (g := gb203) (o := .cells #[.int .i64 a0_0, .int .i64 a0_1, .slice A0_2 l0_2.length c0_2] 27 (0, 0)) (by (with_reducible repeat (first | refine blk_drewN ?_ _ | refine blk_drew ?_ | refine blk_alloc ?_ _)); exact BK203.out) hb); have n1_ := aM (below_step (by repeat (first | (with_reducible first | exact HB.out | apply below_alloc | apply bN | apply bD | refine below_set ?_ GE203.out) | exact HB.out)) hb); clear BK203; clear HB; have BK203 := n0_; have HB := n1_; clear n0_ n1_; (try clear hb); (try clear hb2); (try clear hk); (try clear hi)))
  go_ret
  exact ⟨by first | rfl | (simp [*] <;> rfl), by repeat (first | (with_reducible first | exact HB.out | apply below_alloc | apply bN | apply bD | refine below_set ?_ GE203.out) | exact HB.out)⟩
/-! ### impl_portsOk: function 58 -/
def impl_portsOk.f (a0 : Int) : Option (Bool) := (impl_within.f a0 1 6).bind fun t206 => (some t206)
set_option maxHeartbeats 8000000 in
set_option maxRecDepth 100000 in
theorem impl_portsOk.calls (a0 : Int) (r : Bool) (w : World) (h : impl_portsOk.f a0 = some r) :
  Calls Try.prog 58 #[.int .i64 a0] w fun e w' => e = .returned (.bool r) ∧ Drawn0 w w' := by
 have H : ((impl_within.f a0 1 6).bind fun t206 => (some t206)) = some r := h
 clear h
 replace H := bE H
 obtain ⟨t206, A20, H⟩ := H
 replace H : (some t206) = some r := H
 have A2 := aM A20
 clear A20
 obtain rfl := Option.some.inj H
 go_enter Try.func58, Try.ntmps58
 go_wp2_with (first | ((with_reducible refine gate_callee (f := 73) rfl ?_); refine goesL_ (some 4) rfl rfl Try.func73 (by kernel_rfl) rfl #[.int .i64 a0, .int .i64 1, .int .i64 6] rfl (by (try simp only [mA, mB, mC]); first | done | rfl | (simp only [mE, mD]; rfl)) ?_; (with_reducible refine (impl_within.calls a0 1 6 t206 _ A2.out).mono ?_); rintro e w' ⟨rfl, ⟨nd, rfl⟩⟩; refine ⟨_, rfl, ?_⟩))
 go_ret
 exact ⟨by first | rfl | (simp; done) | (simp [*]; done), by repeat (first | exact Drawn0.refl _ | apply Drawn0.step)⟩
-- function 79 (impl_VPort_79): by its function value, where it is called
-- function 74 (impl_VPort_74): by its function value, where it is called
-- function 75 (impl_VPort_1): by its function value, where it is called
-- function 59 (impl_VPort_59): by its function value, where it is called
set_option maxHeartbeats 8000000 in
set_option maxRecDepth 100000 in
theorem index79 (p : S27 → Option Bool) (g : Nat) (fs lb : Array Value) (eg : ∀ args w, (callFunc g args).run Try.prog w = .ok (.enter g args) w) (A : Option Addr) (c : Nat) (l : List S27) (r : Int) (w : World)
  (hr0 : Kd.C k27 w A l.length l) (hc0 : l.length ≤ c) (hp : PredK Try.prog g fs lb k27 valAgg p w) (h : ixO p l 0 = some r) :
  Calls Try.prog 79 #[.slice A l.length c, .func (.func g) fs lb] w fun e w' => e = .returned (.int .i64 r) ∧ Below w.heap.size w w' := by
 have HR0 := aM hr0
 have HL := aM hr0.2.1
 have HP := aM hp
 clear hr0 hc0 hp
 have H := aM h
 clear h
 go_enter Try.func79, Try.ntmps79
 go_wp2
 go_loopg [5, 8] l.length (fun kq _ v8 w' => ∃ (i : Int), v8 = .int .i64 i ∧ Aside0 (ixO p (l.drop i.toNat) i = some r) ∧ Aside0 (0 ≤ i ∧ i ≤ l.length ∧ (l.length : Int) - i ≤ kq) ∧ Aside0 (Below w.heap.size w w'))
 case atStart => exact ⟨0, rfl, H, ⟨by omega, by omega, by omega⟩, ⟨Below.refl _ _⟩⟩
 case round =>
  clear H
  obtain ⟨i, rfl, HA, HK, HB0⟩ := hrel
  have HB := HB0
  by_cases hlt : i < (l.length : Int)
  ·
   have p1 : 0 ≤ i := HK.out.1
   obtain ⟨ad, c_, e, hlen, hK, hcell⟩ := Kd.C_get HR0.out z27 i p1 hlt
   cases e
   have hK' := k27.K_below HB.out hK
   have hn : i.toNat < l.length := by omega
   have hstep := HA.out
   rw [ixO_step p z27 l i hn p1] at hstep
   obtain ⟨b, hb, hif⟩ := bE hstep
   have hcall0 := HP.out wr _ b c_ HB.out hK' hb
   generalize l.getD i.toNat z27 = x at hK hK' hb hstep hcall0
   obtain ⟨A2_, c2_, rfl, l2, g2⟩ := k27_open hK
   have hcall1 : Calls Try.prog g (fs ++ #[.agg #[.int .i64 x.f0, .int .i64 x.f1, .slice A2_ x.f2.length c2_]] ++ lb) wr (fun e w' => e = .returned (.bool b) ∧ Below wr.heap.size wr w') := hcall0
   have hsz_ : (k27).sz = 3 := rfl
   rw [hsz_] at hcell
   have hx0 := pw_cell_below HB.out (show w.cell? (ad.add (i.toNat * 3)) = some (.int .i64 x.f0) by have hq := hcell 0 _ rfl; rwa [Nat.add_zero] at hq)
   have hx1 := pw_cell_below HB.out (show w.cell? ⟨(ad.add (i.toNat * 3)).block, (ad.add (i.toNat * 3)).off + 1, none⟩ = some (.int .i64 x.f1) by rw [← add_field _ _ 1 (by omega)]; exact hcell 1 _ rfl)
   have hx2 := pw_cell_below HB.out (show w.cell? ⟨(ad.add (i.toNat * 3)).block, (ad.add (i.toNat * 3)).off + 2, none⟩ = some (.slice A2_ x.f2.length c2_) by rw [← add_field _ _ 2 (by omega)]; exact hcell 2 _ rfl)
   try clear hK
   try clear l0_ g0_
   try clear l2 g2
   have HIF := aM hif
   have H2 := aM hlt
   have HC := aM hcall1
   clear hstep hif hb HA hn hK' hcell hcall0 hcall1 hlen
   have q0 := decide_eq_true p1
   have q1 := decide_eq_true hlt
   replace p1 := eq_true p1
   replace hlt := eq_true hlt
   cases b with
   | true =>
    have ER := aM (Option.some.inj ((if_pos rfl).symm.trans HIF.out))
    clear HIF
    go_wp2_with (go_at_fn g; (with_reducible refine calls_of_args (args' := fs ++ #[.agg #[.int .i64 x.f0, .int .i64 x.f1, .slice A2_ x.f2.length c2_]] ++ lb) (by first | rfl | simp) ?_); (with_reducible refine HC.out.mono ?_); rintro e w' ⟨rfl, hb'⟩)
    go_ret
    exact ⟨by rw [← ER.out]; rfl, below_hop HB.out hb'⟩
   | false =>
    have ER := aM ((if_neg (show ¬ (false = true) by decide)).symm.trans HIF.out)
    clear HIF
    go_wp2_with (go_at_fn g; (with_reducible refine calls_of_args (args' := fs ++ #[.agg #[.int .i64 x.f0, .int .i64 x.f1, .slice A2_ x.f2.length c2_]] ++ lb) (by first | rfl | simp) ?_); (with_reducible refine HC.out.mono ?_); rintro e w' ⟨rfl, hb'⟩)
    go_roundg ((l.length : Int) - (i + 1)).toNat
    case measure => have := HK.out; have := H2.out; omega
    case rel =>
     have hw : wrap64 (i + 1) = i + 1 := by
      have := HK.out; have := H2.out; have := HL.out
      unfold wrap64; omega
     exact ⟨wrap64 (i + 1), rfl, ⟨by rw [hw]; exact ER.out⟩, ⟨by have := HK.out; have := H2.out; rw [hw]; omega⟩, ⟨below_hop HB.out hb'⟩⟩
  ·
   have hr := HA.out
   rw [List.drop_eq_nil_of_le (by omega)] at hr
   simp only [ixO, Option.some.injEq] at hr
   subst hr
   have q1 := decide_eq_false hlt
   go_wp2
   go_ret
   exact ⟨rfl, HB.out⟩
set_option maxHeartbeats 8000000 in
set_option maxRecDepth 100000 in
theorem contains74 (p : S27 → Option Bool) (g : Nat) (fs lb : Array Value) (eg : ∀ args w, (callFunc g args).run Try.prog w = .ok (.enter g args) w) (A : Option Addr) (c : Nat) (l : List S27) (r : Bool) (w : World)
  (hr0 : Kd.C k27 w A l.length l) (hc0 : l.length ≤ c) (hp : PredK Try.prog g fs lb k27 valAgg p w) (h : anyO p l = some r) :
  Calls Try.prog 74 #[.slice A l.length c, .func (.func g) fs lb] w fun e w' => e = .returned (.bool r) ∧ Below w.heap.size w w' := by
 obtain ⟨i, hi, hd⟩ := ixO_any p l 0 r (by omega) h
 have HC := aM (index79 p g fs lb eg A c l i w hr0 hc0 hp hi)
 have HD := aM hd
 clear hr0 hc0 hp h hi hd
 go_enter Try.func74, Try.ntmps74
 go_wp2_with (go_at_call 79; (with_reducible refine HC.out.mono ?_); rintro e w' ⟨rfl, hb'⟩)
 go_ret
 exact ⟨by rw [← HD.out]; rfl, hb'⟩
set_option maxHeartbeats 8000000 in
set_option maxRecDepth 100000 in
/-- The closure of 'all': the predicate lies in the block B. -/
theorem not75 (p : S27 → Option Bool) (g : Nat) (fs lb : Array Value) (eg : ∀ args w, (callFunc g args).run Try.prog w = .ok (.enter g args) w) (B : Nat) (w : World) (hB : B < w.heap.size) (hc : w.cell? ⟨B, 0, none⟩ = some (.func (.func g) fs lb))
  (hp : PredK Try.prog g fs lb k27 valAgg p w) : PredK Try.prog 75 #[] #[.pointer (some ⟨B, 0, none⟩)] k27 valAgg (fun x => (p x).map (! ·)) w := by
 intro W x b cs hb hK hx
 obtain ⟨c, hc0, rfl⟩ := Option.map_eq_some_iff.mp hx
 have hcell : W.cell? ⟨B, 0, none⟩ = some (.func (.func g) fs lb) := (hb.cell (p := ⟨B, 0, none⟩) hB).trans hc
 have hK1 := hK
 obtain ⟨A2_, c2_, rfl, l2, g2⟩ := k27_open hK
 have hb1 : Below W.heap.size W (W.alloc (.cells #[.int .i64 x.f0, .int .i64 x.f1, .slice A2_ x.f2.length c2_] 27)) := below_alloc (Below.refl _ _) _
 have hcall1 : Calls Try.prog g (fs ++ #[.agg #[.int .i64 x.f0, .int .i64 x.f1, .slice A2_ x.f2.length c2_]] ++ lb) (W.alloc (.cells #[.int .i64 x.f0, .int .i64 x.f1, .slice A2_ x.f2.length c2_] 27)) (fun e w' => e = .returned (.bool c) ∧ Below (W.alloc (.cells #[.int .i64 x.f0, .int .i64 x.f1, .slice A2_ x.f2.length c2_] 27)).heap.size (W.alloc (.cells #[.int .i64 x.f0, .int .i64 x.f1, .slice A2_ x.f2.length c2_] 27)) w') := hp (W.alloc (.cells #[.int .i64 x.f0, .int .i64 x.f1, .slice A2_ x.f2.length c2_] 27)) x c _ (below_hop hb hb1) (k27.K_below hb1 hK1) hc0
 have HC := aM hcall1
 have HB := aM hb1
 have hBW : B < W.heap.size := Nat.lt_of_lt_of_le hB hb.size
 have hcell2 : (W.alloc (.cells #[.int .i64 x.f0, .int .i64 x.f1, .slice A2_ x.f2.length c2_] 27)).cell? ⟨B, 0, none⟩ = some (.func (.func g) fs lb) := (hb1.cell (p := ⟨B, 0, none⟩) hBW).trans hcell
 clear hp hx hc0 hc hcall1 hb hb1 hK1 hB
 try clear hK
 show Calls Try.prog 75 #[.agg #[.int .i64 x.f0, .int .i64 x.f1, .slice A2_ x.f2.length c2_], .pointer (some ⟨B, 0, none⟩)] W _
 have hu_ := Try.underlying27
 go_enter Try.func75, Try.ntmps75
 go_wp2_with (go_at_fn g; (with_reducible refine calls_of_args (args' := fs ++ #[.agg #[.int .i64 x.f0, .int .i64 x.f1, .slice A2_ x.f2.length c2_]] ++ lb) (by first | rfl | simp) ?_); (with_reducible refine HC.out.mono ?_); rintro e w' ⟨rfl, hb'⟩)
 go_ret
 exact ⟨rfl, below_hop HB.out hb'⟩
set_option maxHeartbeats 8000000 in
set_option maxRecDepth 100000 in
theorem all59 (p : S27 → Option Bool) (g : Nat) (fs lb : Array Value) (eg : ∀ args w, (callFunc g args).run Try.prog w = .ok (.enter g args) w) (A : Option Addr) (c : Nat) (l : List S27) (r : Bool) (w : World)
  (hr0 : Kd.C k27 w A l.length l) (hc0 : l.length ≤ c) (hp : PredK Try.prog g fs lb k27 valAgg p w) (h : allO p l = some r) :
  Calls Try.prog 59 #[.slice A l.length c, .func (.func g) fs lb] w fun e w' => e = .returned (.bool r) ∧ Below w.heap.size w w' := by
 have hb1 : Below w.heap.size w (w.alloc (.cells #[.func (.func g) fs lb] 60)) := below_alloc (Below.refl _ _) _
 have HC := aM (contains74 (fun x => (p x).map (! ·)) 75 #[] #[.pointer (some ⟨w.heap.size, 0, none⟩)] (enters_of Try.func75 (by kernel_rfl) rfl) A c l (!r) (w.alloc (.cells #[.func (.func g) fs lb] 60)) (Kd.C_below hr0 hb1) hc0 (not75 p g fs lb eg w.heap.size _ (by simp) (by simp) (hp.later hb1)) (anyO_all p l r h))
 have HB := aM hb1
 clear hr0 hc0 hp h hb1
 go_enter Try.func59, Try.ntmps59
 go_wp2_with (go_at_call 74; (with_reducible refine HC.out.mono ?_); rintro e w' ⟨rfl, hb'⟩)
 go_ret
 exact ⟨by first | rfl | (rw [Bool.not_not]; rfl), below_hop HB.out hb'⟩
/-! ### all_impl_VPort_valid: function 59 at 55 -/
def all_impl_VPort_valid.f (k : Nat) (l0 : List (S27)) : Option (Bool) := allO (fun x => impl_VPort_valid.f k x.f0 x.f1 x.f2) l0
theorem all_impl_VPort_valid.mono : ∀ l0 k, LeO (all_impl_VPort_valid.f k l0) (all_impl_VPort_valid.f (k + 1) l0) := fun l0 k => allO_mono (α := S27) (fun k x => impl_VPort_valid.f k x.f0 x.f1 x.f2) (fun k x => impl_VPort_valid.mono x.f0 x.f1 x.f2 k) k l0
set_option maxHeartbeats 1000000 in
theorem all_impl_VPort_valid.calls (k : Nat) (A0 : Option Addr) (c0 : Nat) (l0 : List (S27)) (r : Bool) (w : World) (hr0 : Kd.C k27 w A0 l0.length l0) (hc0 : l0.length ≤ c0) (h : all_impl_VPort_valid.f k l0 = some r) :
  Calls Try.prog 59 #[.slice A0 l0.length c0, .func (.func 55) #[] #[]] w fun e w' => e = .returned (.bool r) ∧ Below w.heap.size w w' := by
 refine all59 _ 55 #[] #[] (enters_of Try.func55 (by kernel_rfl) rfl) A0 c0 l0 r w hr0 hc0 ?_ h
 intro W x b cs hb hK hx
 obtain ⟨A2_, c2_, rfl, l2, g2⟩ := k27_open hK
 refine (impl_VPort_valid.calls k x.f0 x.f1 _ _ x.f2 b W g2 l2 hx).mono ?_
 rintro e w' ⟨rfl, hd⟩; exact ⟨rfl, hd⟩
end Go.Proofs.Ytmkjcoppadegjaa.PFnVlanStays
