/- What the Go functions that this law reaches answer, function by function; conditions: those that each contract names. Made for this claim by a program of this session (wip/myprint) over the kit's print. -/
import Derived.Test.YtdbokdodjekchaaPFnNoRoundx0
import Derived.Test.YtdbokdodjekchaaPFnNoRoundx10
import Derived.Test.YtdbokdodjekchaaPFnNoRoundx11
namespace Go.Proofs.Ytdbokdodjekchaa.PFnNoRound
open Go.RowKit Go.Proofs.YtdbokdodjekchaaW.PrintWords Go.Proofs.YtdbokdodjekchaaW.PrintLast Go.Proofs.YtdbokdodjekchaaW.PrintMore
attribute [local go_sem] max2_int min2_int max_two min_two max_three min_three max_four min_four   -- for this text's walks alone
set_option linter.unusedVariables false
set_option linter.unusedSimpArgs false
/-! ### spec_RunWorms: function 17 -/
mutual
def spec_RunWorms.l0 : Nat → Int → Int → List (List Int) → List (List Int) → List Int → Int → Option (List Bool × Int × Bool × Bool)
 | 0, _, _, _, _, _, _ => none
 | k + 1, x0, x1, x2, x8, x9, x10 => if x10 < (x2.length : Int) then (if 0 ≤ x10 then ((spec_l16Wires.f k x0 (rd_L2 x2 x10)).bind fun t275 => (if x8.length < 5864062014805 then (if x9.length < 17592186044416 then (spec_RunWorms.l0 k x0 x1 x2 (x8 ++ [t275]) (x9 ++ [(-1)]) (wrap64 (x10 + 1))) else (none)) else (none))) else (none)) else (if 0 ≤ (x2.length : Int) then (if ((x2.length : Int) : Int).toNat ≤ 281474976710656 then (if 0 ≤ (wrap64 ((wrap64 (4 * x0)) * x1)) then (if (wrap64 ((wrap64 (4 * x0)) * x1) : Int).toNat ≤ 281474976710656 then (spec_RunWorms.l1 k x8 x9 (List.replicate (wrap64 ((wrap64 (4 * x0)) * x1) : Int).toNat false) (List.replicate ((x2.length : Int) : Int).toNat false) 0 false) else (none)) else (none)) else (none)) else (none))
def spec_RunWorms.l1 : Nat → List (List Int) → List Int → List Bool → List Bool → Int → Bool → Option (List Bool × Int × Bool × Bool)
 | 0, _, _, _, _, _, _ => none
 | k + 1, x8, x9, x12, x288000, x288001, x288002 => (spec_l16Left.f k x288000).bind fun t291 => (if t291 = true then ((spec_l16Step.f k x8 x9 x288000 x12).bind fun bt292 => (if bt292.1 = true then (spec_RunWorms.l1 k x8 bt292.2.1 bt292.2.2.2 bt292.2.2.1 (wrap64 (x288001 + 1)) x288002) else (some (bt292.2.2.1, wrap64 (x288001 + 1), true, true)))) else (some (x288000, x288001, x288002, true)))
end
def spec_RunWorms.f (k : Nat) (a0 : Int) (a1 : Int) (l2 : List (List Int)) : Option (List Bool × Int × Bool × Bool) := (spec_l16Ways.f k a0 a1 l2).bind fun t267 => (if t267 = true then (spec_RunWorms.l0 k a0 a1 l2 (([] : List (List Int))) (([] : List Int)) 0) else (some (([] : List Bool), 0, false, false)))
theorem spec_RunWorms.mono_l : ∀ k, (∀ y0 y1 y2 y3 y4 y5, LeO (spec_RunWorms.l0 k y0 y1 y2 y3 y4 y5) (spec_RunWorms.l0 (k + 1) y0 y1 y2 y3 y4 y5)) ∧ (∀ y0 y1 y2 y3 y4 y5, LeO (spec_RunWorms.l1 k y0 y1 y2 y3 y4 y5) (spec_RunWorms.l1 (k + 1) y0 y1 y2 y3 y4 y5))
 | 0 => ⟨fun _ _ _ _ _ _ r h => by simp [spec_RunWorms.l0] at h, fun _ _ _ _ _ _ r h => by simp [spec_RunWorms.l1] at h⟩
 | k + 1 => by
  obtain ⟨ih0, ih1⟩ := spec_RunWorms.mono_l k
  refine ⟨?_, ?_⟩
  ·
   intro y0 y1 y2 y3 y4 y5
   unfold spec_RunWorms.l0
   repeat' first
   | (with_reducible exact ih0 _ _ _ _ _ _)
   | (with_reducible exact ih1 _ _ _ _ _ _)
   | (with_reducible exact spec_l16Left.mono _ _)
   | (with_reducible exact spec_l16Step.mono _ _ _ _ _)
   | (with_reducible exact spec_l16Ways.mono _ _ _ _)
   | (with_reducible exact spec_l16Wires.mono _ _ _)
   | (with_reducible exact LeO.refl _)
   | (with_reducible exact LeO.none _)
   | (with_reducible refine LeO.ite ?_ ?_)
   | (with_reducible refine LeO.bind ?_ (fun _ => ?_))
   | exact ih0 _ _ _ _ _ _
   | exact ih1 _ _ _ _ _ _
   | exact spec_l16Left.mono _ _
   | exact spec_l16Step.mono _ _ _ _ _
   | exact spec_l16Ways.mono _ _ _ _
   | exact spec_l16Wires.mono _ _ _
   | exact LeO.none _
   | refine LeO.ite ?_ ?_
   | refine LeO.bind ?_ (fun _ => ?_)
  ·
   intro y0 y1 y2 y3 y4 y5
   unfold spec_RunWorms.l1
   repeat' first
   | (with_reducible exact ih0 _ _ _ _ _ _)
   | (with_reducible exact ih1 _ _ _ _ _ _)
   | (with_reducible exact spec_l16Left.mono _ _)
   | (with_reducible exact spec_l16Step.mono _ _ _ _ _)
   | (with_reducible exact spec_l16Ways.mono _ _ _ _)
   | (with_reducible exact spec_l16Wires.mono _ _ _)
   | (with_reducible exact LeO.refl _)
   | (with_reducible exact LeO.none _)
   | (with_reducible refine LeO.ite ?_ ?_)
   | (with_reducible refine LeO.bind ?_ (fun _ => ?_))
   | exact ih0 _ _ _ _ _ _
   | exact ih1 _ _ _ _ _ _
   | exact spec_l16Left.mono _ _
   | exact spec_l16Step.mono _ _ _ _ _
   | exact spec_l16Ways.mono _ _ _ _
   | exact spec_l16Wires.mono _ _ _
   | exact LeO.none _
   | refine LeO.ite ?_ ?_
   | refine LeO.bind ?_ (fun _ => ?_)
theorem spec_RunWorms.mono : ∀ a0 a1 a2 k, LeO (spec_RunWorms.f k a0 a1 a2) (spec_RunWorms.f (k + 1) a0 a1 a2) := by
 intro a0 a1 a2 k
 obtain ⟨ih0, ih1⟩ := spec_RunWorms.mono_l k
 unfold spec_RunWorms.f
 repeat' first
   | (with_reducible exact ih0 _ _ _ _ _ _)
   | (with_reducible exact ih1 _ _ _ _ _ _)
   | (with_reducible exact spec_l16Left.mono _ _)
   | (with_reducible exact spec_l16Step.mono _ _ _ _ _)
   | (with_reducible exact spec_l16Ways.mono _ _ _ _)
   | (with_reducible exact spec_l16Wires.mono _ _ _)
   | (with_reducible exact LeO.refl _)
   | (with_reducible exact LeO.none _)
   | (with_reducible refine LeO.ite ?_ ?_)
   | (with_reducible refine LeO.bind ?_ (fun _ => ?_))
   | exact ih0 _ _ _ _ _ _
   | exact ih1 _ _ _ _ _ _
   | exact spec_l16Left.mono _ _
   | exact spec_l16Step.mono _ _ _ _ _
   | exact spec_l16Ways.mono _ _ _ _
   | exact spec_l16Wires.mono _ _ _
   | exact LeO.none _
   | refine LeO.ite ?_ ?_
   | refine LeO.bind ?_ (fun _ => ?_)
set_option maxHeartbeats 8000000 in
set_option maxRecDepth 100000 in
theorem spec_RunWorms.calls (k : Nat) (a0 : Int) (a1 : Int) (A2 : Option Addr) (c2 : Nat) (l2 : List (List Int)) (r1 : List Bool) (r2 : Int) (r3 : Bool) (r4 : Bool) (w : World) (hr2 : Kd.C (Kd.slice 3 (Kd.int .i64)) w A2 l2.length l2) (hc2 : l2.length ≤ c2) (h : spec_RunWorms.f k a0 a1 l2 = some (r1, r2, r3, r4)) :
  Calls Try.prog 17 #[.int .i64 a0, .int .i64 a1, .slice A2 l2.length c2] w fun e w' => ∃ v0_ : Value, e = .returned (.tuple #[.agg #[v0_, .int .i64 r2, .bool r3], .bool r4]) ∧ Kd.R Kd.bool 4 w' w.heap.size (fun _ => True) v0_ r1 ∧ Below w.heap.size w w' := by
 have hu33 := Try.underlying33
 have HR2 := aM hr2
 have HC2 := aM hc2
 clear hr2 hc2
 have HB := aM (Below.refl w.heap.size w)
 have H : ((spec_l16Ways.f k a0 a1 l2).bind fun t267 => (if t267 = true then (spec_RunWorms.l0 k a0 a1 l2 (([] : List (List Int))) (([] : List Int)) 0) else (some (([] : List Bool), 0, false, false)))) = some (r1, r2, r3, r4) := h
 clear h
 replace H := bE H
 obtain ⟨t267, A40, H⟩ := H
 replace H : (if t267 = true then (spec_RunWorms.l0 k a0 a1 l2 (([] : List (List Int))) (([] : List Int)) 0) else (some (([] : List Bool), 0, false, false))) = some (r1, r2, r3, r4) := H
 have A4 := aM A40
 clear A40
 by_cases c5 : t267 = true
 ·
  subst c5
  have H1 : (spec_RunWorms.l0 k a0 a1 l2 (([] : List (List Int))) (([] : List Int)) 0) = some (r1, r2, r3, r4) := by rw [if_pos rfl] at H; exact H
  clear H
  have H := H1
  clear H1
  obtain ⟨y268, hy268⟩ : ∃ y_ : List (List Int), y_ = (([] : List (List Int))) := ⟨_, rfl⟩
  replace H : (spec_RunWorms.l0 k a0 a1 l2 y268 (([] : List Int)) 0) = some (r1, r2, r3, r4) := by first | (rw [hy268]; with_reducible exact H) | (have H2_ := (Option.bind_some _ _).symm.trans H; rw [hy268]; with_reducible exact H2_) | (have H2_ := (Option.bind_some _ _).symm.trans H; with_reducible exact H2_) | with_reducible exact H | (rw [hy268]; exact H) | exact H
  have Ny268 := aM hy268
  clear hy268
  obtain ⟨y271, hy271⟩ : ∃ y_ : List Int, y_ = (([] : List Int)) := ⟨_, rfl⟩
  replace H : (spec_RunWorms.l0 k a0 a1 l2 y268 y271 0) = some (r1, r2, r3, r4) := by first | (rw [hy271]; with_reducible exact H) | (have H2_ := (Option.bind_some _ _).symm.trans H; rw [hy271]; with_reducible exact H2_) | (have H2_ := (Option.bind_some _ _).symm.trans H; with_reducible exact H2_) | with_reducible exact H | (rw [hy271]; exact H) | exact H
  have Ny271 := aM hy271
  clear hy271
  have H' := aM H
  clear H
  go_enter Try.func17, Try.ntmps17
  go_wp2_with (first | ((with_reducible refine gate_dst (N := 6) rfl ?_); refine box_event ?hg (N := 6) ?hd (cs := #[.slice none 0 0, .int .i64 0, .bool false]) (t := 33) ?hr ?_; (case hd => rfl); (case hg => rfl); (case hr => first | (go_simp; done) | (go_simp; rfl)); intro gb266 hg w6 hbox hb; have n0_ := aM (below_step (by repeat (first | (with_reducible first | exact HB.out | apply below_alloc | apply bN | apply bD) | exact HB.out)) hb); have n1_ := aM (hbox); have n2_ := aM ((by rw [hg]; exact (below_size (by repeat (first | (with_reducible first | exact HB.out | apply below_alloc | apply bN | apply bD) | exact HB.out))) : w.heap.size ≤ gb266)); have n3_ := aM ((by rw [hg]; exact (below_size (by repeat (first | (with_reducible first | exact HB.out | apply below_alloc | apply bN | apply bD) | exact HB.out))) : w.heap.size ≤ gb266)); clear HB; have HB := n0_; have BK266 := n1_; have GW266 := n2_; have GE266 := n3_; clear n0_ n1_ n2_ n3_; clear hb hbox hg) | ((with_reducible refine gate_callee (f := 40) rfl ?_); refine goesL_ (some 16) rfl rfl Try.func40 (by kernel_rfl) rfl #[.int .i64 a0, .int .i64 a1, .slice A2 l2.length c2] rfl (by (try simp only [mA, mB, mC]); first | done | rfl | (simp only [mE, mD]; rfl)) ?_; (with_reducible refine (spec_l16Ways.calls k a0 a1 _ _ l2 true _ ?side1 ?side2 A4.out).mono ?_); (case side1 => repeat (first | exact (Kd.C_below HR2.out HB.out) | (with_reducible refine Kd.C_alloc ?_ _) | (with_reducible refine Kd.C_drewN ?_ _) | (with_reducible refine Kd.C_drew ?_))); (case side2 => exact HC2.out); rintro e w7 ⟨rfl, hb⟩; refine ⟨_, rfl, ?_⟩; have n0_ := aM (blk_below (g := gb266) (o := .cells #[.slice none 0 0, .int .i64 0, .bool false] 33 (0, 0)) (by (with_reducible repeat (first | refine blk_drewN ?_ _ | refine blk_drew ?_ | refine blk_alloc ?_ _)); exact BK266.out) hb); have n1_ := aM (below_step (by repeat (first | (with_reducible first | exact HB.out | apply below_alloc | apply bN | apply bD | refine below_set ?_ GE266.out) | exact HB.out)) hb); clear BK266; clear HB; have BK266 := n0_; have HB := n1_; clear n0_ n1_; (try clear hb); (try clear hb2); (try clear hk); (try clear hi)) | ((with_reducible refine gate_dst (N := 19) rfl ?_); refine Kd.S_lit (Kd.slice 3 (Kd.int .i64)) _ 28 ?hg (N := 19) ?hd (xs := ([] : List (List Int))) (inner := []) (ok := fun _ => True) (okp := fun _ => True) ?hr ?hp (fun _ hk => hk) trivial (Below.refl _ _) (Nat.le_refl _) (by simp) ?_; (case hd => rfl); (case hg => rfl); (case hr => first | (go_simp; done) | (go_simp; rfl)); (case hp => exact (Reps.none _ _)); intro v269 w8 ho9 hb hg_ hnew_; clear hg_ hnew_; (first | rw [← Ny268.out] at ho9 | (simp only [Int.reduceToNat] at ho9; rw [← Ny268.out] at ho9)); have n0_ := aM (Kd.S_lower ho9 (below_size (by repeat (first | (with_reducible first | exact HB.out | apply below_alloc | apply bN | apply bD | refine below_set ?_ GE266.out) | exact HB.out)))); have n1_ := aM (blk_below (g := gb266) (o := .cells #[.slice none 0 0, .int .i64 0, .bool false] 33 (0, 0)) (by (with_reducible repeat (first | refine blk_drewN ?_ _ | refine blk_drew ?_ | refine blk_alloc ?_ _)); exact BK266.out) hb); have n2_ := aM (below_step (by repeat (first | (with_reducible first | exact HB.out | apply below_alloc | apply bN | apply bD | refine below_set ?_ GE266.out) | exact HB.out)) hb); clear BK266; clear HB; have HO270 := n0_; have BK266 := n1_; have HB := n2_; clear n0_ n1_ n2_; clear hb ho9) | ((with_reducible refine gate_dst (N := 20) rfl ?_); refine Kd.R_lit (Kd.int .i64) _ 3 ?hg (N := 20) ?hd (xs := ([] : List Int)) (inner := []) (ok := fun _ => True) (okp := fun _ => True) ?hr ?hp (fun _ hk => hk) trivial (Below.refl _ _) (Nat.le_refl _) (by simp) ?_; (case hd => rfl); (case hg => rfl); (case hr => first | (go_simp; done) | (go_simp; rfl)); (case hp => exact (Reps.none _ _)); intro v272 w10 ho11 hb hg_ hnew_; clear hg_ hnew_; (first | rw [← Ny271.out] at ho11 | (simp only [Int.reduceToNat] at ho11; rw [← Ny271.out] at ho11)); have n0_ := aM (Kd.S_elder' (by (with_reducible repeat (first | apply Kd.S_alloc | apply Kd.S_drewN | apply Kd.S_drew)); exact HO270.out) (Kd.R_base ho11) hb); have n1_ := aM (Kd.R_lower ho11 (below_size (by repeat (first | (with_reducible first | exact HB.out | apply below_alloc | apply bN | apply bD | refine below_set ?_ GE266.out) | exact HB.out)))); have n2_ := aM (blk_below (g := gb266) (o := .cells #[.slice none 0 0, .int .i64 0, .bool false] 33 (0, 0)) (by (with_reducible repeat (first | refine blk_drewN ?_ _ | refine blk_drew ?_ | refine blk_alloc ?_ _)); exact BK266.out) hb); have n3_ := aM (below_step (by repeat (first | (with_reducible first | exact HB.out | apply below_alloc | apply bN | apply bD | refine below_set ?_ GE266.out) | exact HB.out)) hb); clear HO270; clear BK266; clear HB; have HO270 := n0_; have HO273 := n1_; have BK266 := n2_; have HB := n3_; clear n0_ n1_ n2_ n3_; clear hb ho11))
  go_loopg [8, 9, 10] k (fun kq v8 v9 v10 w' => ∃ (x8_1 : List (List Int)) (x9_1 : List Int) (x10_1 : Int), v10 = .int .i64 x10_1 ∧ Aside0 (spec_RunWorms.l0 kq a0 a1 l2 x8_1 x9_1 x10_1 = some (r1, r2, r3, r4)) ∧ Aside0 (kq ≤ k) ∧ Aside0 (Kd.S (Kd.slice 3 (Kd.int .i64)) 28 w' w.heap.size (fun k_ => some k_ ≠ (v9 : Value).ownBlock) v8 x8_1) ∧ Aside0 (Kd.R (Kd.int .i64) 3 w' w.heap.size (fun _ => True) v9 x9_1) ∧ Aside0 (w'.heap[gb266]? = some (.cells #[(.slice none 0 0), .int .i64 0, .bool false] 33 (0, 0))) ∧ Aside0 (Below w.heap.size w w'))
  case atStart => exact ⟨(y268), (y271), (0), (by first | rfl | (simp; done) | (simp [*]; done)), H', ⟨Nat.le_refl _⟩, ⟨by (with_reducible repeat (first | apply Kd.S_alloc | apply Kd.S_drewN | apply Kd.S_drew)); exact Kd.S_mono HO270.out (fun _ hk => hk.2)⟩, ⟨by (with_reducible repeat (first | apply Kd.R_alloc | apply Kd.R_drewN | apply Kd.R_drew)); exact HO273.out⟩, ⟨by (with_reducible repeat (first | refine blk_drewN ?_ _ | refine blk_drew ?_ | refine blk_alloc ?_ _)); exact BK266.out⟩, ⟨by repeat (first | (with_reducible first | exact HB.out | apply below_alloc | apply bN | apply bD | refine below_set ?_ GE266.out) | exact HB.out)⟩⟩
  case round =>
   clear H'
   try clear c1
   try clear c2
   try clear p2
   try clear c4
   try clear c5
   obtain ⟨x8_1, x9_1, x10_1, rfl, HA, HK1, HO_8, HO_9, BK266, HB⟩ := hrel
   cases gk with
   | zero => exact absurd HA.out (by simp [spec_RunWorms.l0])
   | succ k1 =>
    have H := HA.out
    clear HA
    simp only [spec_RunWorms.l0] at H
    by_cases c12 : x10_1 < (l2.length : Int)
    ·
     rw [if_pos c12] at H
     have c12b0 : decide (x10_1 < (l2.length : Int)) = true := decide_eq_true c12
     clear c12
     by_cases c13 : 0 ≤ x10_1
     ·
      rw [if_pos c13] at H
      have c13b0 : decide (0 ≤ x10_1) = true := decide_eq_true c13
      clear c13
      replace H := bE H
      obtain ⟨t275, A140, H⟩ := H
      replace H : (if x8_1.length < 5864062014805 then (if x9_1.length < 17592186044416 then (spec_RunWorms.l0 k1 a0 a1 l2 (x8_1 ++ [t275]) (x9_1 ++ [(-1)]) (wrap64 (x10_1 + 1))) else (none)) else (none)) = some (r1, r2, r3, r4) := H
      have A14 := aM A140
      clear A140
      by_cases c15 : x8_1.length < 5864062014805
      ·
       rw [if_pos c15] at H
       have LMc15 := aM c15
       clear c15
       obtain ⟨y278, hy278⟩ : ∃ y_ : List (List Int), y_ = (x8_1 ++ [t275]) := ⟨_, rfl⟩
       replace H : (if x9_1.length < 17592186044416 then (spec_RunWorms.l0 k1 a0 a1 l2 y278 (x9_1 ++ [(-1)]) (wrap64 (x10_1 + 1))) else (none)) = some (r1, r2, r3, r4) := by first | (rw [hy278]; with_reducible exact H) | (have H2_ := (Option.bind_some _ _).symm.trans H; rw [hy278]; with_reducible exact H2_) | (have H2_ := (Option.bind_some _ _).symm.trans H; with_reducible exact H2_) | with_reducible exact H | (rw [hy278]; exact H) | exact H
       have Ny278 := aM hy278
       clear hy278
       by_cases c16 : x9_1.length < 17592186044416
       ·
        rw [if_pos c16] at H
        have LMc16 := aM c16
        clear c16
        obtain ⟨y281, hy281⟩ : ∃ y_ : List Int, y_ = (x9_1 ++ [(-1)]) := ⟨_, rfl⟩
        replace H : (spec_RunWorms.l0 k1 a0 a1 l2 y278 y281 (wrap64 (x10_1 + 1))) = some (r1, r2, r3, r4) := by first | (rw [hy281]; with_reducible exact H) | (have H2_ := (Option.bind_some _ _).symm.trans H; rw [hy281]; with_reducible exact H2_) | (have H2_ := (Option.bind_some _ _).symm.trans H; with_reducible exact H2_) | with_reducible exact H | (rw [hy281]; exact H) | exact H
        have Ny281 := aM hy281
        clear hy281
        have H' := aM H
        clear H
        have p274 : 0 ≤ (x10_1 : Int) := of_decide_eq_true (by assumption)
        have q274 : x10_1 < (l2.length : Int) := of_decide_eq_true (by assumption)
        obtain ⟨ad274, A274_0, c274_0, e274, hx274_0, hl274_0, hi274_0⟩ := at_L2 HR2.out x10_1 p274 q274
        cases e274
        replace hx274_0 := (HB.out.cell (bC w _ hx274_0)).trans hx274_0
        have HR274_0 := aM hi274_0
        have HC274_0 := aM hl274_0
        clear hi274_0 hl274_0
        replace p274 := eq_true p274
        replace q274 := eq_true q274
        go_wp2_with (first | ((with_reducible refine gate_callee (f := 41) rfl ?_); refine goesL_ (some 33) rfl rfl Try.func41 (by kernel_rfl) rfl #[.int .i64 a0, .slice A274_0 (rd_L2 l2 x10_1).length c274_0] rfl (by (try simp only [mA, mB, mC]); first | done | rfl | (simp only [mE, mD]; rfl)) ?_; (with_reducible refine (spec_l16Wires.calls k1 a0 _ _ (rd_L2 l2 x10_1) t275 _ ?side1 ?side2 A14.out).mono ?_); (case side1 => repeat (first | exact (Kd.C_below HR274_0.out HB.out) | (with_reducible refine Kd.C_alloc ?_ _) | (with_reducible refine Kd.C_drewN ?_ _) | (with_reducible refine Kd.C_drew ?_))); (case side2 => exact HC274_0.out); rintro e w17 ⟨v276, rfl, ho0, hb⟩; refine ⟨_, rfl, ?_⟩; have n0_ := aM (Kd.S_elder' (by (with_reducible repeat (first | apply Kd.S_alloc | apply Kd.S_drewN | apply Kd.S_drew)); exact HO_8.out) (Kd.R_base ho0) hb); have n1_ := aM (Kd.R_elder' (by (with_reducible repeat (first | apply Kd.R_alloc | apply Kd.R_drewN | apply Kd.R_drew)); exact HO_9.out) (Kd.R_base ho0) hb); have n2_ := aM (Kd.R_lower (Kd.R_new' ho0 (Kd.R_lt (by (with_reducible repeat (first | apply Kd.R_alloc | apply Kd.R_drewN | apply Kd.R_drew)); exact HO_9.out))) (below_size (by repeat (first | (with_reducible first | exact HB.out | apply below_alloc | apply bN | apply bD | refine below_set ?_ GE266.out) | exact HB.out)))); have n3_ := aM (blk_below (g := gb266) (o := .cells #[.slice none 0 0, .int .i64 0, .bool false] 33 (0, 0)) (by (with_reducible repeat (first | refine blk_drewN ?_ _ | refine blk_drew ?_ | refine blk_alloc ?_ _)); exact BK266.out) hb); have n4_ := aM (below_step (by repeat (first | (with_reducible first | exact HB.out | apply below_alloc | apply bN | apply bD | refine below_set ?_ GE266.out) | exact HB.out)) hb); clear HO_8; clear HO_9; clear BK266; clear HB; have HO_8 := n0_; have HO_9 := n1_; have HO277 := n2_; have BK266 := n3_; have HB := n4_; clear n0_ n1_ n2_ n3_ n4_; (try clear hb); (try clear hb2); (try clear hk); (try clear hi); (try clear ho0); obtain ⟨Ao19, co19, eo19⟩ := Kd.R_slice HO277.out; subst eo19) | ((with_reducible refine gate_builtin (b := .append) (xs := #[.tmp 27, .tmp 34]) rfl ?_); at_builtin; refine Kd.S_append (Kd.slice 3 (Kd.int .i64)) (w0 := w) w.heap.size rfl (.tmp 27) (.tmp 34) 23 28 (.slice none 0 0) 24 rfl Try.underlying23 info28 rfl (by decide) (by omega) u8 x8_1 t275 [.slice Ao19 t275.length co19] (fun k_ => some k_ ≠ (u9 : Value).ownBlock) (fun k_ => some k_ = (.slice Ao19 t275.length co19 : Value).ownBlock) rfl rfl ?aP (fun k_ hk_ => ((Kd.R_mono (ok' := fun k_ => ((fun k_ => some k_ ≠ (u9 : Value).ownBlock)) k_ ∧ some k_ ≠ (u8 : Value).ownBlock) (Kd.R_apart' (HO277.out) (Kd.S_typed HO_8.out) (by decide)) (fun k_ hk => ⟨hk.1.2, hk.2⟩))).1 k_ hk_.symm) ?aF ?aO ?aB ?aS ?aL ?_; (case aP => exact Kd.M_row (Kd.R_mono (Kd.R_tight rfl (Kd.R_mono (ok' := fun k_ => ((fun k_ => some k_ ≠ (u9 : Value).ownBlock)) k_ ∧ some k_ ≠ (u8 : Value).ownBlock) (Kd.R_apart' (HO277.out) (Kd.S_typed HO_8.out) (by decide)) (fun k_ hk => ⟨hk.1.2, hk.2⟩))) (fun _ h_ => h_))); (case aB => exact (by repeat (first | (with_reducible first | exact HB.out | apply below_alloc | apply bN | apply bD | refine below_set ?_ GE266.out) | exact HB.out))); (case aF => exact (fun k_ hk => Kd.fresh' (Kd.R_lt (by (with_reducible repeat (first | apply Kd.R_alloc | apply Kd.R_drewN | apply Kd.R_drew)); exact HO_9.out)) k_ hk)); (case aO => exact (by (with_reducible repeat (first | apply Kd.S_alloc | apply Kd.S_drewN | apply Kd.S_drew)); exact Kd.S_mono HO_8.out (fun k_ hk => ⟨hk.1, fun e_ => hk.2 e_⟩))); (case aS => exact (below_size (by repeat (first | (with_reducible first | exact HB.out | apply below_alloc | apply bN | apply bD | refine below_set ?_ GE266.out) | exact HB.out)))); (case aL => have := LMc15.out; omega); intro v279 w18 ho hb hg hat; rw [← Ny278.out] at ho; have n0_ := aM (Kd.R_over' (by (with_reducible repeat (first | apply Kd.R_alloc | apply Kd.R_drewN | apply Kd.R_drew)); exact HO_9.out) (Kd.S_typed (by (with_reducible repeat (first | apply Kd.S_alloc | apply Kd.S_drewN | apply Kd.S_drew)); exact HO_8.out)) (by decide) hg); have n1_ := aM (blk_grown (g := gb266) (o := .cells #[.slice none 0 0, .int .i64 0, .bool false] 33 (0, 0)) (by (with_reducible repeat (first | refine blk_drewN ?_ _ | refine blk_drew ?_ | refine blk_alloc ?_ _)); exact BK266.out) hg (Kd.S_ne HO_8.out BK266.out (by decide))); have n2_ := aM (hb); have n3_ := aM (ho); clear HO_9; clear BK266; clear HB; clear HO_8; clear HO277; have HO_9 := n0_; have BK266 := n1_; have HB := n2_; have HO280 := n3_; clear n0_ n1_ n2_ n3_; clear ho hb hg hat) | ((with_reducible refine gate_builtin (b := .append) (xs := #[.tmp 36, .tmp 37]) rfl ?_); at_builtin; refine Kd.R_append (Kd.int .i64) (w0 := w) w.heap.size rfl (.tmp 36) (.tmp 37) 28 3 (.int .i64 0) 8 rfl Try.underlying28 info3 rfl (by decide) (by omega) u9 x9_1 (-1) [.int .i64 (-1)] (fun _ => True) (fun _ => False) rfl rfl ?aP (fun _ hk => hk.elim) ?aF ?aO ?aB ?aS ?aL ?_; (case aP => exact rfl); (case aB => exact (by repeat (first | (with_reducible first | exact HB.out | apply below_alloc | apply bN | apply bD | refine below_set ?_ GE266.out) | exact HB.out))); (case aF => exact (fun _ _ => trivial)); (case aO => exact (by (with_reducible repeat (first | apply Kd.R_alloc | apply Kd.R_drewN | apply Kd.R_drew)); exact Kd.R_mono HO_9.out (fun _ hk => trivial))); (case aS => exact (below_size (by repeat (first | (with_reducible first | exact HB.out | apply below_alloc | apply bN | apply bD | refine below_set ?_ GE266.out) | exact HB.out)))); (case aL => have := LMc16.out; omega); intro v282 w20 ho hb hg hat; rw [← Ny281.out] at ho; have n0_ := aM (blk_grown (g := gb266) (o := .cells #[.slice none 0 0, .int .i64 0, .bool false] 33 (0, 0)) (by (with_reducible repeat (first | refine blk_drewN ?_ _ | refine blk_drew ?_ | refine blk_alloc ?_ _)); exact BK266.out) hg (Kd.R_ne HO_9.out BK266.out (by decide))); have n1_ := aM (Kd.S_after (ok := (fun _ => True)) (by (with_reducible repeat (first | apply Kd.S_alloc | apply Kd.S_drewN | apply Kd.S_drew)); exact Kd.S_mono HO280.out (fun _ hk => ⟨trivial, hk⟩)) hg hat); have n2_ := aM (hb); have n3_ := aM (ho); clear BK266; clear HO280; clear HB; clear HO_9; have BK266 := n0_; have HO280 := n1_; have HB := n2_; have HO283 := n3_; clear n0_ n1_ n2_ n3_; clear ho hb hg hat))
        go_roundg k1
        case measure => have := HK1.out; omega
        case rel => exact ⟨(y278), (y281), (wrap64 (x10_1 + 1)), (by first | rfl | (simp; done) | (simp [*]; done)), H', ⟨by have := HK1.out; omega⟩, ⟨by (with_reducible repeat (first | apply Kd.S_alloc | apply Kd.S_drewN | apply Kd.S_drew)); exact Kd.S_mono HO280.out (fun _ hk => hk.2)⟩, ⟨by (with_reducible repeat (first | apply Kd.R_alloc | apply Kd.R_drewN | apply Kd.R_drew)); exact HO283.out⟩, ⟨by (with_reducible repeat (first | refine blk_drewN ?_ _ | refine blk_drew ?_ | refine blk_alloc ?_ _)); exact BK266.out⟩, ⟨by repeat (first | (with_reducible first | exact HB.out | apply below_alloc | apply bN | apply bD | refine below_set ?_ GE266.out) | exact HB.out)⟩⟩
       ·
        rw [if_neg c16] at H
        exact absurd H (by simp)
      ·
       rw [if_neg c15] at H
       exact absurd H (by simp)
     ·
      rw [if_neg c13] at H
      exact absurd H (by simp)
    ·
     rw [if_neg c12] at H
     have c12b0 : decide (x10_1 < (l2.length : Int)) = false := decide_eq_false c12
     clear c12
     by_cases c21 : 0 ≤ (l2.length : Int)
     ·
      rw [if_pos c21] at H
      have c21b0 := eq_true c21
      have c21b1 : decide (0 ≤ (l2.length : Int)) = true := decide_eq_true c21
      clear c21
      by_cases c22 : ((l2.length : Int) : Int).toNat ≤ 281474976710656
      ·
       rw [if_pos c22] at H
       have c22b0 := eq_true c22
       have c22b1 : decide (((l2.length : Int) : Int).toNat ≤ 281474976710656) = true := decide_eq_true c22
       clear c22
       obtain ⟨y284, hy284⟩ : ∃ y_ : List Bool, y_ = (List.replicate ((l2.length : Int) : Int).toNat false) := ⟨_, rfl⟩
       replace H : (if 0 ≤ (wrap64 ((wrap64 (4 * a0)) * a1)) then (if (wrap64 ((wrap64 (4 * a0)) * a1) : Int).toNat ≤ 281474976710656 then (spec_RunWorms.l1 k1 x8_1 x9_1 (List.replicate (wrap64 ((wrap64 (4 * a0)) * a1) : Int).toNat false) y284 0 false) else (none)) else (none)) = some (r1, r2, r3, r4) := by first | (rw [hy284]; with_reducible exact H) | (have H2_ := (Option.bind_some _ _).symm.trans H; rw [hy284]; with_reducible exact H2_) | (have H2_ := (Option.bind_some _ _).symm.trans H; with_reducible exact H2_) | with_reducible exact H | (rw [hy284]; exact H) | exact H
       have Ny284 := aM hy284
       clear hy284
       obtain ⟨ji23, hji23⟩ : ∃ j_ : Int, (wrap64 ((wrap64 (4 * a0)) * a1)) = j_ := ⟨_, rfl⟩
       replace H : (if 0 ≤ (ji23) then (if (ji23 : Int).toNat ≤ 281474976710656 then (spec_RunWorms.l1 k1 x8_1 x9_1 (List.replicate (ji23 : Int).toNat false) y284 0 false) else (none)) else (none)) = some (r1, r2, r3, r4) := by first | (rw [hji23] at H; exact H) | (simp only [hji23] at H ⊢; exact H)
       have hji23w : (IntKind.i64.wrap ((wrap64 (4 * a0)) * a1)) = ji23 := (i64_w _).trans hji23
       by_cases c24 : 0 ≤ (ji23)
       ·
        rw [if_pos c24] at H
        have c24b0 := eq_true c24
        have c24b1 : decide (0 ≤ (ji23)) = true := decide_eq_true c24
        clear c24
        by_cases c25 : (ji23 : Int).toNat ≤ 281474976710656
        ·
         rw [if_pos c25] at H
         have c25b0 := eq_true c25
         have c25b1 : decide ((ji23 : Int).toNat ≤ 281474976710656) = true := decide_eq_true c25
         clear c25
         obtain ⟨y288, hy288⟩ : ∃ y_ : List Bool, y_ = (List.replicate (ji23 : Int).toNat false) := ⟨_, rfl⟩
         replace H : (spec_RunWorms.l1 k1 x8_1 x9_1 y288 y284 0 false) = some (r1, r2, r3, r4) := by first | (rw [hy288]; with_reducible exact H) | (have H2_ := (Option.bind_some _ _).symm.trans H; rw [hy288]; with_reducible exact H2_) | (have H2_ := (Option.bind_some _ _).symm.trans H; with_reducible exact H2_) | with_reducible exact H | (rw [hy288]; exact H) | exact H
         have Ny288 := aM hy288
         clear hy288
         have H' := aM H
         clear H
         go_wp2_with (first | ((with_reducible refine gate_dst (N := 41) rfl ?_); refine Kd.R_make Kd.bool _ 4 rfl (N := 41) rfl 31 _ _ rfl (l2.length : Int) rfl rfl Try.underlying31 (.bool false) 1 info4 rfl (by decide) (by omega) false (ok := fun _ => True) (okp := fun _ => True) rfl (fun _ hk => hk) trivial (of_decide_eq_true (by assumption)) (Nat.le_trans (Nat.mul_le_mul_right _ (of_decide_eq_true (by assumption) : (l2.length : Int).toNat ≤ 281474976710656)) (by omega)) (Below.refl _ _) (Nat.le_refl _) ?_; intro v285 w26 ho27 hb hg_ hnew_; clear hg_ hnew_; (first | rw [← Ny284.out] at ho27 | (simp only [Int.reduceToNat] at ho27; rw [← Ny284.out] at ho27)); have n0_ := aM (Kd.S_below (by (with_reducible repeat (first | apply Kd.S_alloc | apply Kd.S_drewN | apply Kd.S_drew)); exact HO_8.out) hb); have n1_ := aM (Kd.R_below (by (with_reducible repeat (first | apply Kd.R_alloc | apply Kd.R_drewN | apply Kd.R_drew)); exact HO_9.out) hb); have n2_ := aM (Kd.R_lower ho27 (below_size (by repeat (first | (with_reducible first | exact HB.out | apply below_alloc | apply bN | apply bD | refine below_set ?_ GE266.out) | exact HB.out)))); have n3_ := aM (blk_below (g := gb266) (o := .cells #[.slice none 0 0, .int .i64 0, .bool false] 33 (0, 0)) (by (with_reducible repeat (first | refine blk_drewN ?_ _ | refine blk_drew ?_ | refine blk_alloc ?_ _)); exact BK266.out) hb); have n4_ := aM (below_step (by repeat (first | (with_reducible first | exact HB.out | apply below_alloc | apply bN | apply bD | refine below_set ?_ GE266.out) | exact HB.out)) hb); clear HO_8; clear HO_9; clear BK266; clear HB; have HO_8 := n0_; have HO_9 := n1_; have HO286 := n2_; have BK266 := n3_; have HB := n4_; clear n0_ n1_ n2_ n3_ n4_; clear hb ho27; obtain ⟨Ao28, co28, eo28⟩ := Kd.R_slice HO286.out; subst eo28) | ((with_reducible refine gate_dst (N := 11) rfl ?_); refine box_event ?hg (N := 11) ?hd (cs := #[.slice none 0 0, .int .i64 0, .bool false]) (t := 33) ?hr ?_; (case hd => rfl); (case hg => rfl); (case hr => first | (go_simp; done) | (go_simp; rfl)); intro gb287 hg w29 hbox hb; have n0_ := aM (Kd.S_below (by (with_reducible repeat (first | apply Kd.S_alloc | apply Kd.S_drewN | apply Kd.S_drew)); exact HO_8.out) hb); have n1_ := aM (Kd.R_below (by (with_reducible repeat (first | apply Kd.R_alloc | apply Kd.R_drewN | apply Kd.R_drew)); exact HO_9.out) hb); have n2_ := aM (Kd.R_below (by (with_reducible repeat (first | apply Kd.R_alloc | apply Kd.R_drewN | apply Kd.R_drew)); exact HO286.out) hb); have n3_ := aM (blk_below (g := gb266) (o := .cells #[.slice none 0 0, .int .i64 0, .bool false] 33 (0, 0)) (by (with_reducible repeat (first | refine blk_drewN ?_ _ | refine blk_drew ?_ | refine blk_alloc ?_ _)); exact BK266.out) hb); have n4_ := aM (below_step (by repeat (first | (with_reducible first | exact HB.out | apply below_alloc | apply bN | apply bD | refine below_set ?_ GE266.out) | exact HB.out)) hb); have n5_ := aM (hbox); have n6_ := aM ((by rw [hg]; exact (below_size (by repeat (first | (with_reducible first | exact HB.out | apply below_alloc | apply bN | apply bD | refine below_set ?_ GE266.out) | exact HB.out))) : w.heap.size ≤ gb287)); have n7_ := aM ((by rw [hg]; exact (below_size (by repeat (first | (with_reducible first | exact HB.out | apply below_alloc | apply bN | apply bD | refine below_set ?_ GE266.out) | exact HB.out))) : w.heap.size ≤ gb287)); have n8_ := aM ((by rw [hg]; exact Nat.ne_of_lt (blk_lt (g := gb266) (o := .cells #[.slice none 0 0, .int .i64 0, .bool false] 33 (0, 0)) (by (with_reducible repeat (first | refine blk_drewN ?_ _ | refine blk_drew ?_ | refine blk_alloc ?_ _)); exact BK266.out)) : gb266 ≠ gb287)); have n9_ := aM ((by rw [hg]; exact Nat.ne_of_gt (blk_lt (g := gb266) (o := .cells #[.slice none 0 0, .int .i64 0, .bool false] 33 (0, 0)) (by (with_reducible repeat (first | refine blk_drewN ?_ _ | refine blk_drew ?_ | refine blk_alloc ?_ _)); exact BK266.out)) : gb287 ≠ gb266)); clear HO_8; clear HO_9; clear HO286; clear BK266; clear HB; have HO_8 := n0_; have HO_9 := n1_; have HO286 := n2_; have BK266 := n3_; have HB := n4_; have BK287 := n5_; have GW287 := n6_; have GE287 := n7_; have NB266_287 := n8_; have NB287_266 := n9_; clear n0_ n1_ n2_ n3_ n4_ n5_ n6_ n7_ n8_ n9_; clear hb hbox hg; have hnb30 := NB287_266.out; have hnc30 := NB266_287.out; have hcz31_0 : w29.cell? ⟨gb287, 0, none⟩ = some (.slice none 0 0) := (blk_cell BK287.out 0).trans rfl; have hcz31_1 : w29.cell? ⟨gb287, 1, none⟩ = some (.int .i64 0) := (blk_cell BK287.out 1).trans rfl; have hcz31_2 : w29.cell? ⟨gb287, 2, none⟩ = some (.bool false) := (blk_cell BK287.out 2).trans rfl; have hfz31_0 := blk_frozen BK287.out 0; have hfz31_1 := blk_frozen BK287.out 1; have hfz31_2 := blk_frozen BK287.out 2) | ((with_reducible refine gate_dst (N := 47) rfl ?_); refine Kd.R_make Kd.bool _ 4 rfl (N := 47) rfl 31 _ _ rfl ji23 rfl rfl Try.underlying31 (.bool false) 1 info4 rfl (by decide) (by omega) false (ok := fun _ => True) (okp := fun _ => True) rfl (fun _ hk => hk) trivial (of_decide_eq_true (by assumption)) (Nat.le_trans (Nat.mul_le_mul_right _ (of_decide_eq_true (by assumption) : ji23.toNat ≤ 281474976710656)) (by omega)) (Below.refl _ _) (Nat.le_refl _) ?_; intro v289 w32 ho33 hb hg_ hnew_; clear hg_ hnew_; (first | rw [← Ny288.out] at ho33 | (simp only [Int.reduceToNat] at ho33; rw [← Ny288.out] at ho33)); have n0_ := aM (Kd.S_below (by (with_reducible repeat (first | apply Kd.S_alloc | apply Kd.S_drewN | apply Kd.S_drew)); exact (Kd.S_mono (Kd.S_far (p := ⟨gb287, 2, none⟩) (Kd.S_far (p := ⟨gb287, 1, none⟩) (Kd.S_far (p := ⟨gb287, 0, none⟩) (Kd.S_types HO_8.out BK287.out (by decide)) (fun _ hk => hk.2) (.slice Ao28 y284.length co28)) (fun _ hk => hk.2) (.int .i64 0)) (fun _ hk => hk.2) (.bool false)) (fun _ h_ => h_.1))) hb); have n1_ := aM (Kd.R_below (by (with_reducible repeat (first | apply Kd.R_alloc | apply Kd.R_drewN | apply Kd.R_drew)); exact (Kd.R_mono (Kd.R_far (p := ⟨gb287, 2, none⟩) (Kd.R_far (p := ⟨gb287, 1, none⟩) (Kd.R_far (p := ⟨gb287, 0, none⟩) (Kd.R_types HO_9.out BK287.out (by decide)) (fun _ hk => hk.2) (.slice Ao28 y284.length co28)) (fun _ hk => hk.2) (.int .i64 0)) (fun _ hk => hk.2) (.bool false)) (fun _ h_ => h_.1))) hb); have n2_ := aM (Kd.R_elder' (by (with_reducible repeat (first | apply Kd.R_alloc | apply Kd.R_drewN | apply Kd.R_drew)); exact (Kd.R_mono (Kd.R_far (p := ⟨gb287, 2, none⟩) (Kd.R_far (p := ⟨gb287, 1, none⟩) (Kd.R_far (p := ⟨gb287, 0, none⟩) (Kd.R_types HO286.out BK287.out (by decide)) (fun _ hk => hk.2) (.slice Ao28 y284.length co28)) (fun _ hk => hk.2) (.int .i64 0)) (fun _ hk => hk.2) (.bool false)) (fun _ h_ => h_.1))) (Kd.R_base ho33) hb); have n3_ := aM (Kd.R_lower (Kd.R_new' ho33 (Kd.R_lt (by (with_reducible repeat (first | apply Kd.R_alloc | apply Kd.R_drewN | apply Kd.R_drew)); exact (Kd.R_mono (Kd.R_far (p := ⟨gb287, 2, none⟩) (Kd.R_far (p := ⟨gb287, 1, none⟩) (Kd.R_far (p := ⟨gb287, 0, none⟩) (Kd.R_types HO286.out BK287.out (by decide)) (fun _ hk => hk.2) (.slice Ao28 y284.length co28)) (fun _ hk => hk.2) (.int .i64 0)) (fun _ hk => hk.2) (.bool false)) (fun _ h_ => h_.1))))) (below_size (by repeat (first | (with_reducible first | exact HB.out | apply below_alloc | apply bN | apply bD | refine below_set ?_ GE266.out | refine below_set ?_ GE287.out) | exact HB.out)))); have n4_ := aM (blk_below (g := gb266) (o := .cells #[.slice none 0 0, .int .i64 0, .bool false] 33 (0, 0)) (by (with_reducible repeat (first | refine blk_drewN ?_ _ | refine blk_drew ?_ | refine blk_alloc ?_ _)); refine blk_far ?_ NB266_287.out _; (with_reducible repeat (first | refine blk_drewN ?_ _ | refine blk_drew ?_ | refine blk_alloc ?_ _)); refine blk_far ?_ NB266_287.out _; (with_reducible repeat (first | refine blk_drewN ?_ _ | refine blk_drew ?_ | refine blk_alloc ?_ _)); refine blk_far ?_ NB266_287.out _; (with_reducible repeat (first | refine blk_drewN ?_ _ | refine blk_drew ?_ | refine blk_alloc ?_ _)); exact BK266.out) hb); have n5_ := aM (blk_below (g := gb287) (o := .cells #[.slice Ao28 y284.length co28, .int .i64 0, .bool false] 33 (0, 0)) (by (with_reducible repeat (first | refine blk_drewN ?_ _ | refine blk_drew ?_ | refine blk_alloc ?_ _)); refine blk_put (cs := #[.slice Ao28 y284.length co28, .int .i64 0, .bool false]) ?_ 2 _ rfl; (with_reducible repeat (first | refine blk_drewN ?_ _ | refine blk_drew ?_ | refine blk_alloc ?_ _)); refine blk_put (cs := #[.slice Ao28 y284.length co28, .int .i64 0, .bool false]) ?_ 1 _ rfl; (with_reducible repeat (first | refine blk_drewN ?_ _ | refine blk_drew ?_ | refine blk_alloc ?_ _)); refine blk_put (cs := #[.slice none 0 0, .int .i64 0, .bool false]) ?_ 0 _ rfl; (with_reducible repeat (first | refine blk_drewN ?_ _ | refine blk_drew ?_ | refine blk_alloc ?_ _)); exact BK287.out) hb); have n6_ := aM (below_step (by repeat (first | (with_reducible first | exact HB.out | apply below_alloc | apply bN | apply bD | refine below_set ?_ GE266.out | refine below_set ?_ GE287.out) | exact HB.out)) hb); clear HO_8; clear HO_9; clear HO286; clear BK266; clear BK287; clear HB; have HO_8 := n0_; have HO_9 := n1_; have HO286 := n2_; have HO290 := n3_; have BK266 := n4_; have BK287 := n5_; have HB := n6_; clear n0_ n1_ n2_ n3_ n4_ n5_ n6_; clear hb ho33))
         go_loopg [] k1 (fun kq w' => ∃ (x9_2 : List Int) (x12_2 : List Bool) (x288000_2 : List Bool) (x288001_2 : Int) (x288002_2 : Bool) (u288000 : Value), Aside0 (spec_RunWorms.l1 kq x8_1 x9_2 x12_2 x288000_2 x288001_2 x288002_2 = some (r1, r2, r3, r4)) ∧ Aside0 (kq ≤ k1) ∧ Aside0 (Kd.S (Kd.slice 3 (Kd.int .i64)) 28 w' w.heap.size (fun k_ => some k_ ≠ (u9 : Value).ownBlock) u8 x8_1) ∧ Aside0 (Kd.R (Kd.int .i64) 3 w' w.heap.size (fun _ => True) u9 x9_2) ∧ Aside0 (Kd.R Kd.bool 4 w' w.heap.size (fun k_ => some k_ ≠ (u288000 : Value).ownBlock) v289 x12_2) ∧ Aside0 (Kd.R Kd.bool 4 w' w.heap.size (fun k_ => some k_ ≠ (v289 : Value).ownBlock) u288000 x288000_2) ∧ Aside0 (w'.heap[gb266]? = some (.cells #[(.slice none 0 0), .int .i64 0, .bool false] 33 (0, 0))) ∧ Aside0 (w'.heap[gb287]? = some (.cells #[u288000, .int .i64 x288001_2, .bool x288002_2] 33 (0, 0))) ∧ Aside0 (Below w.heap.size w w'))
         case atStart => exact ⟨(x9_1), (y288), (y284), (0), (false), (.slice Ao28 y284.length co28), H', ⟨Nat.le_refl _⟩, ⟨by (with_reducible repeat (first | apply Kd.S_alloc | apply Kd.S_drewN | apply Kd.S_drew)); exact HO_8.out⟩, ⟨by (with_reducible repeat (first | apply Kd.R_alloc | apply Kd.R_drewN | apply Kd.R_drew)); exact HO_9.out⟩, ⟨by (with_reducible repeat (first | apply Kd.R_alloc | apply Kd.R_drewN | apply Kd.R_drew)); exact Kd.R_mono HO290.out (fun _ hk => hk.2)⟩, ⟨by (with_reducible repeat (first | apply Kd.R_alloc | apply Kd.R_drewN | apply Kd.R_drew)); exact Kd.R_mono HO286.out (fun _ hk => hk.2)⟩, ⟨by (with_reducible repeat (first | refine blk_drewN ?_ _ | refine blk_drew ?_ | refine blk_alloc ?_ _)); exact BK266.out⟩, ⟨by (with_reducible repeat (first | refine blk_drewN ?_ _ | refine blk_drew ?_ | refine blk_alloc ?_ _)); exact BK287.out⟩, ⟨by repeat (first | (with_reducible first | exact HB.out | apply below_alloc | apply bN | apply bD | refine below_set ?_ GE266.out | refine below_set ?_ GE287.out) | exact HB.out)⟩⟩
         case round =>
          clear H'
          try clear c1
          try clear c2
          try clear p2
          try clear q2
          try clear hx2
          try clear c3
          try clear c4
          try clear c5
          try clear p6
          try clear c12
          try clear c12b0
          try clear c13
          try clear c13b0
          try clear c15
          try clear c16
          try clear c17
          try clear c21
          try clear c21b0
          try clear c21b1
          try clear c22
          try clear c22b0
          try clear c22b1
          try clear c24
          try clear c24b0
          try clear c24b1
          try clear c25
          try clear c25b0
          try clear c25b1
          try clear c27
          try clear p27
          try clear q27
          try clear hx27
          try clear c30
          try clear hcz31_0
          try clear hcz31_1
          try clear hcz31_2
          try clear hfz31_0
          try clear hfz31_1
          try clear hfz31_2
          try clear hx274_0
          try clear p2
          try clear p274
          try clear q274
          obtain ⟨x9_2, x12_2, x288000_2, x288001_2, x288002_2, u288000, HA, HK2, HO_8, HO_9, HO_12, HO_288000, BK266, BK287, HB⟩ := hrel
          cases gk with
          | zero => exact absurd HA.out (by simp [spec_RunWorms.l1])
          | succ k2 =>
           have H := HA.out
           clear HA
           simp only [spec_RunWorms.l1] at H
           replace H := bE H
           obtain ⟨t291, A340, H⟩ := H
           replace H : (if t291 = true then ((spec_l16Step.f k2 x8_1 x9_2 x288000_2 x12_2).bind fun bt292 => (if bt292.1 = true then (spec_RunWorms.l1 k2 x8_1 bt292.2.1 bt292.2.2.2 bt292.2.2.1 (wrap64 (x288001_2 + 1)) x288002_2) else (some (bt292.2.2.1, wrap64 (x288001_2 + 1), true, true)))) else (some (x288000_2, x288001_2, x288002_2, true))) = some (r1, r2, r3, r4) := H
           have A34 := aM A340
           clear A340
           by_cases c35 : t291 = true
           ·
            subst c35
            have H1 : ((spec_l16Step.f k2 x8_1 x9_2 x288000_2 x12_2).bind fun bt292 => (if bt292.1 = true then (spec_RunWorms.l1 k2 x8_1 bt292.2.1 bt292.2.2.2 bt292.2.2.1 (wrap64 (x288001_2 + 1)) x288002_2) else (some (bt292.2.2.1, wrap64 (x288001_2 + 1), true, true)))) = some (r1, r2, r3, r4) := by rw [if_pos rfl] at H; exact H
            clear H
            have H := H1
            clear H1
            replace H := bE H
            obtain ⟨⟨t292, t293, t294, t295⟩, A360, H⟩ := H
            replace H : (if t292 = true then (spec_RunWorms.l1 k2 x8_1 t293 t295 t294 (wrap64 (x288001_2 + 1)) x288002_2) else (some (t294, wrap64 (x288001_2 + 1), true, true))) = some (r1, r2, r3, r4) := H
            have A36 := aM A360
            clear A360
            by_cases c37 : t292 = true
            ·
             subst c37
             have H1 : (spec_RunWorms.l1 k2 x8_1 t293 t295 t294 (wrap64 (x288001_2 + 1)) x288002_2) = some (r1, r2, r3, r4) := by rw [if_pos rfl] at H; exact H
             clear H
             have H := H1
             clear H1
             have H' := aM H
             clear H
             have hnb38 := NB287_266.out
             have hnc38 := NB266_287.out
             have hcz39_0 : wr.cell? ⟨gb287, 0, none⟩ = some (u288000) := (blk_cell BK287.out 0).trans rfl
             have hcz39_1 : wr.cell? ⟨gb287, 1, none⟩ = some (.int .i64 x288001_2) := (blk_cell BK287.out 1).trans rfl
             have hcz39_2 : wr.cell? ⟨gb287, 2, none⟩ = some (.bool x288002_2) := (blk_cell BK287.out 2).trans rfl
             have hfz39_0 := blk_frozen BK287.out 0
             have hfz39_1 := blk_frozen BK287.out 1
             have hfz39_2 := blk_frozen BK287.out 2
             obtain ⟨Ao40, co40, eo40⟩ := Kd.R_slice HO_288000.out
             subst eo40
             go_wp2_with (first | ((with_reducible refine gate_callee (f := 44) rfl ?_); refine goesL_ (some 50) rfl rfl Try.func44 (by kernel_rfl) rfl #[.slice Ao40 x288000_2.length co40] rfl (by (try simp only [mA, mB, mC]); first | done | rfl | (simp only [mE, mD]; rfl)) ?_; (with_reducible refine (spec_l16Left.calls k2 _ _ x288000_2 true _ ?side1 ?side2 A34.out).mono ?_); (case side1 => repeat (first | exact (Kd.R_reads' HO_288000.out).2.2 | (with_reducible refine Kd.C_alloc ?_ _) | (with_reducible refine Kd.C_drewN ?_ _) | (with_reducible refine Kd.C_drew ?_))); (case side2 => exact (Kd.R_reads' HO_288000.out).2.1); rintro e w' ⟨rfl, ⟨nd, rfl⟩⟩; refine ⟨_, rfl, ?_⟩; (try (rw [drewN_self wr]; generalize hq_ : World.drewN wr _ = wr; have n0_ : Aside0 (Kd.R Kd.bool 4 wr w.heap.size (fun k_ => some k_ ≠ (.slice Ao40 x288000_2.length co40 : Value).ownBlock) v289 x12_2) := ⟨by rw [← hq_]; exact (by (with_reducible repeat (first | apply Kd.R_alloc | apply Kd.R_drewN | apply Kd.R_drew)); exact HO_12.out)⟩; have n1_ : Aside0 (Kd.R Kd.bool 4 wr w.heap.size (fun k_ => some k_ ≠ (v289 : Value).ownBlock) (.slice Ao40 x288000_2.length co40) x288000_2) := ⟨by rw [← hq_]; exact (by (with_reducible repeat (first | apply Kd.R_alloc | apply Kd.R_drewN | apply Kd.R_drew)); exact HO_288000.out)⟩; have n2_ : Aside0 (Kd.S (Kd.slice 3 (Kd.int .i64)) 28 wr w.heap.size (fun k_ => some k_ ≠ (u9 : Value).ownBlock) u8 x8_1) := ⟨by rw [← hq_]; exact (by (with_reducible repeat (first | apply Kd.S_alloc | apply Kd.S_drewN | apply Kd.S_drew)); exact HO_8.out)⟩; have n3_ : Aside0 (Kd.R (Kd.int .i64) 3 wr w.heap.size (fun _ => True) u9 x9_2) := ⟨by rw [← hq_]; exact (by (with_reducible repeat (first | apply Kd.R_alloc | apply Kd.R_drewN | apply Kd.R_drew)); exact HO_9.out)⟩; have n4_ : Aside0 (wr.heap[gb266]? = some (.cells #[.slice none 0 0, .int .i64 0, .bool false] 33 (0, 0))) := ⟨by rw [← hq_]; exact (by (with_reducible repeat (first | refine blk_drewN ?_ _ | refine blk_drew ?_ | refine blk_alloc ?_ _)); exact BK266.out)⟩; have n5_ : Aside0 (wr.heap[gb287]? = some (.cells #[.slice Ao40 x288000_2.length co40, .int .i64 x288001_2, .bool x288002_2] 33 (0, 0))) := ⟨by rw [← hq_]; exact (by (with_reducible repeat (first | refine blk_drewN ?_ _ | refine blk_drew ?_ | refine blk_alloc ?_ _)); exact BK287.out)⟩; have n6_ : Aside0 (Below w.heap.size w wr) := ⟨by rw [← hq_]; exact (by repeat (first | (with_reducible first | exact HB.out | apply below_alloc | apply bN | apply bD | refine below_set ?_ GE266.out | refine below_set ?_ GE287.out) | exact HB.out))⟩; clear HO_12 HO_288000 HO_8 HO_9 BK266 BK287 HB hq_; have HO_12 := n0_; have HO_288000 := n1_; have HO_8 := n2_; have HO_9 := n3_; have BK266 := n4_; have BK287 := n5_; have HB := n6_; clear n0_ n1_ n2_ n3_ n4_ n5_ n6_; have hcy266_0 : wr.cell? ⟨gb266, 0, none⟩ = some (.slice none 0 0) := (blk_cell BK266.out 0).trans rfl; have hfy266_0 := blk_frozen BK266.out 0; have hcy266_1 : wr.cell? ⟨gb266, 1, none⟩ = some (.int .i64 0) := (blk_cell BK266.out 1).trans rfl; have hfy266_1 := blk_frozen BK266.out 1; have hcy266_2 : wr.cell? ⟨gb266, 2, none⟩ = some (.bool false) := (blk_cell BK266.out 2).trans rfl; have hfy266_2 := blk_frozen BK266.out 2; have hcy287_0 : wr.cell? ⟨gb287, 0, none⟩ = some (.slice Ao40 x288000_2.length co40) := (blk_cell BK287.out 0).trans rfl; have hfy287_0 := blk_frozen BK287.out 0; have hcy287_1 : wr.cell? ⟨gb287, 1, none⟩ = some (.int .i64 x288001_2) := (blk_cell BK287.out 1).trans rfl; have hfy287_1 := blk_frozen BK287.out 1; have hcy287_2 : wr.cell? ⟨gb287, 2, none⟩ = some (.bool x288002_2) := (blk_cell BK287.out 2).trans rfl; have hfy287_2 := blk_frozen BK287.out 2))) | ((with_reducible refine gate_store (t := 3) (p := 54) rfl ?_); refine store_event (t := 3) (p := 54) (v := ?vo_w41) (w1 := (wr.setCell ⟨gb287, 1, none⟩ (.int .i64 (wrap64 (x288001_2 + 1))))) ?hg ?ho ?hn ?hr ?_; (case ho => rfl); (case hg => rfl); (case hn => rfl); (case hr => first | (go_simp; done) | (go_simp; rfl)); intro w41 hw; have n0_ : Aside0 (Kd.S (Kd.slice 3 (Kd.int .i64)) 28 w41 w.heap.size (fun k_ => some k_ ≠ (u9 : Value).ownBlock) u8 x8_1) := ⟨(by rw [hw]; exact (by (with_reducible repeat (first | apply Kd.S_alloc | apply Kd.S_drewN | apply Kd.S_drew)); exact Kd.S_mono (Kd.S_far (p := ⟨gb287, 1, none⟩) (Kd.S_types HO_8.out BK287.out (by decide)) (fun _ hk => hk.2) (.int .i64 (wrap64 (x288001_2 + 1)))) (fun _ hk => hk.1)))⟩; have n1_ : Aside0 (Kd.R (Kd.int .i64) 3 w41 w.heap.size (fun _ => True) u9 x9_2) := ⟨(by rw [hw]; exact (by (with_reducible repeat (first | apply Kd.R_alloc | apply Kd.R_drewN | apply Kd.R_drew)); exact Kd.R_mono (Kd.R_far (p := ⟨gb287, 1, none⟩) (Kd.R_types HO_9.out BK287.out (by decide)) (fun _ hk => hk.2) (.int .i64 (wrap64 (x288001_2 + 1)))) (fun _ hk => trivial)))⟩; have n2_ : Aside0 (Kd.R Kd.bool 4 w41 w.heap.size (fun k_ => some k_ ≠ (.slice Ao40 x288000_2.length co40 : Value).ownBlock) v289 x12_2) := ⟨(by rw [hw]; exact (by (with_reducible repeat (first | apply Kd.R_alloc | apply Kd.R_drewN | apply Kd.R_drew)); exact Kd.R_mono (Kd.R_far (p := ⟨gb287, 1, none⟩) (Kd.R_types HO_12.out BK287.out (by decide)) (fun _ hk => hk.2) (.int .i64 (wrap64 (x288001_2 + 1)))) (fun _ hk => hk.1)))⟩; have n3_ : Aside0 (Kd.R Kd.bool 4 w41 w.heap.size (fun k_ => some k_ ≠ (v289 : Value).ownBlock) (.slice Ao40 x288000_2.length co40) x288000_2) := ⟨(by rw [hw]; exact (by (with_reducible repeat (first | apply Kd.R_alloc | apply Kd.R_drewN | apply Kd.R_drew)); exact Kd.R_mono (Kd.R_far (p := ⟨gb287, 1, none⟩) (Kd.R_types HO_288000.out BK287.out (by decide)) (fun _ hk => hk.2) (.int .i64 (wrap64 (x288001_2 + 1)))) (fun _ hk => hk.1)))⟩; have n4_ : Aside0 (w41.heap[gb266]? = some (.cells #[.slice none 0 0, .int .i64 0, .bool false] 33 (0, 0))) := ⟨(by rw [hw]; exact (by (with_reducible repeat (first | refine blk_drewN ?_ _ | refine blk_drew ?_ | refine blk_alloc ?_ _)); refine blk_far ?_ NB266_287.out _; (with_reducible repeat (first | refine blk_drewN ?_ _ | refine blk_drew ?_ | refine blk_alloc ?_ _)); exact BK266.out))⟩; have n5_ : Aside0 (w41.heap[gb287]? = some (.cells #[.slice Ao40 x288000_2.length co40, .int .i64 (wrap64 (x288001_2 + 1)), .bool x288002_2] 33 (0, 0))) := ⟨(by rw [hw]; exact (by (with_reducible repeat (first | refine blk_drewN ?_ _ | refine blk_drew ?_ | refine blk_alloc ?_ _)); refine blk_put (cs := #[.slice Ao40 x288000_2.length co40, .int .i64 x288001_2, .bool x288002_2]) ?_ 1 _ rfl; (with_reducible repeat (first | refine blk_drewN ?_ _ | refine blk_drew ?_ | refine blk_alloc ?_ _)); exact BK287.out))⟩; have n6_ : Aside0 (Below w.heap.size w w41) := ⟨(by rw [hw]; exact (by repeat (first | (with_reducible first | exact HB.out | apply below_alloc | apply bN | apply bD | refine below_set ?_ GE266.out | refine below_set ?_ GE287.out) | exact HB.out)))⟩; clear hw; clear HO_8; clear HO_9; clear HO_12; clear HO_288000; clear BK266; clear BK287; clear HB; have HO_8 := n0_; have HO_9 := n1_; have HO_12 := n2_; have HO_288000 := n3_; have BK266 := n4_; have BK287 := n5_; have HB := n6_; clear n0_ n1_ n2_ n3_ n4_ n5_ n6_; have hcz42_0 : w41.cell? ⟨gb287, 0, none⟩ = some (.slice Ao40 x288000_2.length co40) := (blk_cell BK287.out 0).trans rfl; have hcz42_1 : w41.cell? ⟨gb287, 1, none⟩ = some (.int .i64 (wrap64 (x288001_2 + 1))) := (blk_cell BK287.out 1).trans rfl; have hcz42_2 : w41.cell? ⟨gb287, 2, none⟩ = some (.bool x288002_2) := (blk_cell BK287.out 2).trans rfl; have hfz42_0 := blk_frozen BK287.out 0; have hfz42_1 := blk_frozen BK287.out 1; have hfz42_2 := blk_frozen BK287.out 2; obtain ⟨Ao43, co43, eo43⟩ := Kd.S_slice HO_8.out; subst eo43; obtain ⟨Ao44, co44, eo44⟩ := Kd.R_slice HO_9.out; subst eo44; obtain ⟨Ao45, co45, eo45⟩ := Kd.R_slice HO_12.out; subst eo45) | ((with_reducible refine gate_callee (f := 45) rfl ?_); refine goesL_ (some 60) rfl rfl Try.func45 (by kernel_rfl) rfl #[.slice Ao43 x8_1.length co43, .slice Ao44 x9_2.length co44, .slice Ao40 x288000_2.length co40, .slice Ao45 x12_2.length co45] rfl (by (try simp only [mA, mB, mC]); first | done | rfl | (simp only [mE, mD]; rfl)) ?_; (with_reducible refine (spec_l16Step.calls k2 _ _ x8_1 (fun k_ => some k_ = (.slice Ao44 x9_2.length co44 : Value).ownBlock) (.slice Ao44 x9_2.length co44) x9_2 (fun k_ => some k_ = (.slice Ao40 x288000_2.length co40 : Value).ownBlock) (.slice Ao40 x288000_2.length co40) x288000_2 (fun k_ => some k_ = (.slice Ao45 x12_2.length co45 : Value).ownBlock) (.slice Ao45 x12_2.length co45) x12_2 true t293 t294 t295 w _ ?side1 ?side2 ?side3 ?side4 ?side5 ?side6 ?side7 ?side8 A36.out).mono ?_); (case side1 => repeat (first | (with_reducible first | exact HB.out | apply below_alloc | apply bN | apply bD | refine below_set ?_ GE266.out | refine below_set ?_ GE287.out) | exact HB.out)); (case side2 => exact Kd.C_kept_own ((Kd.S_R (Kd.S_apart' (Kd.S_apart' HO_8.out (Kd.R_typed HO_288000.out) (by decide)) (Kd.R_typed HO_12.out) (by decide)))) (fun k_ hk_ hs_ => Or.elim hs_ (fun e_ => (hk_.1.1) e_) (fun e_ => Or.elim e_ (fun e_ => (hk_.1.2) e_) (fun e_ => (hk_.2) e_)))); (case side3 => exact (Kd.S_reads' HO_8.out).2.1); (case side4 => exact Kd.R_tight rfl HO_9.out); (case side5 => exact Kd.R_tight rfl HO_288000.out); (case side6 => exact fun k_ e_ => (HO_288000.out.1 k_ e_.symm)); (case side7 => exact Kd.R_tight rfl HO_12.out); (case side8 => exact fun k_ e_ => (HO_12.out.1 k_ e_.symm)); rintro e w46 ⟨rfl, hy0, hy1, hy2, hb, hkp⟩; refine ⟨_, rfl, ?_⟩; have n0_ := aM (Kd.S_mono (ok' := fun k_ => some k_ ≠ (.slice Ao44 x9_2.length co44 : Value).ownBlock) (Kd.S_keptB ((Kd.S_apart' (Kd.S_apart' HO_8.out (Kd.R_typed HO_288000.out) (by decide)) (Kd.R_typed HO_12.out) (by decide))) hkp (fun k_ hk_ hs_ => Or.elim hs_ (fun e_ => (hk_.1.1) e_) (fun e_ => Or.elim e_ (fun e_ => (hk_.1.2) e_) (fun e_ => (hk_.2) e_)))) (fun k_ hk_ => hk_.1.1.1)); have n1_ := aM (Kd.R_reok rfl hy0 (fun k_ e_ => HO_9.out.1 k_ e_)); have n2_ := aM (Kd.R_reok rfl hy2 (fun k_ e_ => HO_12.out.1 k_ e_)); have n3_ := aM (Kd.R_reok rfl hy1 (fun k_ e_ => HO_288000.out.1 k_ e_)); have n4_ := aM (blk_kept (by (with_reducible repeat (first | refine blk_drewN ?_ _ | refine blk_drew ?_ | refine blk_alloc ?_ _)); exact BK266.out) hkp (fun hs_ => Or.elim hs_ (fun e_ => (fun e_ => (Kd.R_ne HO_9.out BK266.out (by decide)) e_) e_) (fun e_ => Or.elim e_ (fun e_ => (fun e_ => (Kd.R_ne HO_288000.out BK266.out (by decide)) e_) e_) (fun e_ => (fun e_ => (Kd.R_ne HO_12.out BK266.out (by decide)) e_) e_)))); have n5_ := aM (blk_kept (by (with_reducible repeat (first | refine blk_drewN ?_ _ | refine blk_drew ?_ | refine blk_alloc ?_ _)); exact BK287.out) hkp (fun hs_ => Or.elim hs_ (fun e_ => (fun e_ => (Kd.R_ne HO_9.out BK287.out (by decide)) e_) e_) (fun e_ => Or.elim e_ (fun e_ => (fun e_ => (Kd.R_ne HO_288000.out BK287.out (by decide)) e_) e_) (fun e_ => (fun e_ => (Kd.R_ne HO_12.out BK287.out (by decide)) e_) e_)))); have n6_ := aM (hb); clear HO_8; clear HO_9; clear HO_12; clear HO_288000; clear BK266; clear BK287; clear HB; have HO_8 := n0_; have HO_9 := n1_; have HO_12 := n2_; have HO_288000 := n3_; have BK266 := n4_; have BK287 := n5_; have HB := n6_; clear n0_ n1_ n2_ n3_ n4_ n5_ n6_; (try clear hb); (try clear hkp); (try clear hy0); (try clear hy1); (try clear hy2)))
             go_roundg k2
             case measure => have := HK1.out; have := HK2.out; omega
             case rel => exact ⟨(t293), (t295), (t294), (wrap64 (x288001_2 + 1)), (x288002_2), (.slice Ao40 x288000_2.length co40), H', ⟨by have := HK1.out; have := HK2.out; omega⟩, ⟨by (with_reducible repeat (first | apply Kd.S_alloc | apply Kd.S_drewN | apply Kd.S_drew)); exact HO_8.out⟩, ⟨by (with_reducible repeat (first | apply Kd.R_alloc | apply Kd.R_drewN | apply Kd.R_drew)); exact HO_9.out⟩, ⟨by (with_reducible repeat (first | apply Kd.R_alloc | apply Kd.R_drewN | apply Kd.R_drew)); exact HO_12.out⟩, ⟨by (with_reducible repeat (first | apply Kd.R_alloc | apply Kd.R_drewN | apply Kd.R_drew)); exact HO_288000.out⟩, ⟨by (with_reducible repeat (first | refine blk_drewN ?_ _ | refine blk_drew ?_ | refine blk_alloc ?_ _)); exact BK266.out⟩, ⟨by (with_reducible repeat (first | refine blk_drewN ?_ _ | refine blk_drew ?_ | refine blk_alloc ?_ _)); exact BK287.out⟩, ⟨by repeat (first | (with_reducible first | exact HB.out | apply below_alloc | apply bN | apply bD | refine below_set ?_ GE266.out | refine below_set ?_ GE287.out) | exact HB.out)⟩⟩
            ·
             replace c37 := Bool.eq_false_iff.mpr c37
             subst c37
             have H1 : (some (t294, wrap64 (x288001_2 + 1), true, true)) = some (r1, r2, r3, r4) := by rw [if_neg (show ¬ (false = true) by decide)] at H; exact H
             clear H
             have H := H1
             clear H1
             simp only [Option.some.injEq, Prod.mk.injEq] at H
             obtain ⟨rfl, rfl, rfl, rfl⟩ := H
             have hnb47 := NB287_266.out
             have hnc47 := NB266_287.out
             have hcz48_0 : wr.cell? ⟨gb287, 0, none⟩ = some (u288000) := (blk_cell BK287.out 0).trans rfl
             have hcz48_1 : wr.cell? ⟨gb287, 1, none⟩ = some (.int .i64 x288001_2) := (blk_cell BK287.out 1).trans rfl
             have hcz48_2 : wr.cell? ⟨gb287, 2, none⟩ = some (.bool x288002_2) := (blk_cell BK287.out 2).trans rfl
             have hfz48_0 := blk_frozen BK287.out 0
             have hfz48_1 := blk_frozen BK287.out 1
             have hfz48_2 := blk_frozen BK287.out 2
             obtain ⟨Ao49, co49, eo49⟩ := Kd.R_slice HO_288000.out
             subst eo49
             go_wp2_with (first | ((with_reducible refine gate_callee (f := 44) rfl ?_); refine goesL_ (some 50) rfl rfl Try.func44 (by kernel_rfl) rfl #[.slice Ao49 x288000_2.length co49] rfl (by (try simp only [mA, mB, mC]); first | done | rfl | (simp only [mE, mD]; rfl)) ?_; (with_reducible refine (spec_l16Left.calls k2 _ _ x288000_2 true _ ?side1 ?side2 A34.out).mono ?_); (case side1 => repeat (first | exact (Kd.R_reads' HO_288000.out).2.2 | (with_reducible refine Kd.C_alloc ?_ _) | (with_reducible refine Kd.C_drewN ?_ _) | (with_reducible refine Kd.C_drew ?_))); (case side2 => exact (Kd.R_reads' HO_288000.out).2.1); rintro e w' ⟨rfl, ⟨nd, rfl⟩⟩; refine ⟨_, rfl, ?_⟩; (try (rw [drewN_self wr]; generalize hq_ : World.drewN wr _ = wr; have n0_ : Aside0 (Kd.R Kd.bool 4 wr w.heap.size (fun k_ => some k_ ≠ (.slice Ao49 x288000_2.length co49 : Value).ownBlock) v289 x12_2) := ⟨by rw [← hq_]; exact (by (with_reducible repeat (first | apply Kd.R_alloc | apply Kd.R_drewN | apply Kd.R_drew)); exact HO_12.out)⟩; have n1_ : Aside0 (Kd.R Kd.bool 4 wr w.heap.size (fun k_ => some k_ ≠ (v289 : Value).ownBlock) (.slice Ao49 x288000_2.length co49) x288000_2) := ⟨by rw [← hq_]; exact (by (with_reducible repeat (first | apply Kd.R_alloc | apply Kd.R_drewN | apply Kd.R_drew)); exact HO_288000.out)⟩; have n2_ : Aside0 (Kd.S (Kd.slice 3 (Kd.int .i64)) 28 wr w.heap.size (fun k_ => some k_ ≠ (u9 : Value).ownBlock) u8 x8_1) := ⟨by rw [← hq_]; exact (by (with_reducible repeat (first | apply Kd.S_alloc | apply Kd.S_drewN | apply Kd.S_drew)); exact HO_8.out)⟩; have n3_ : Aside0 (Kd.R (Kd.int .i64) 3 wr w.heap.size (fun _ => True) u9 x9_2) := ⟨by rw [← hq_]; exact (by (with_reducible repeat (first | apply Kd.R_alloc | apply Kd.R_drewN | apply Kd.R_drew)); exact HO_9.out)⟩; have n4_ : Aside0 (wr.heap[gb266]? = some (.cells #[.slice none 0 0, .int .i64 0, .bool false] 33 (0, 0))) := ⟨by rw [← hq_]; exact (by (with_reducible repeat (first | refine blk_drewN ?_ _ | refine blk_drew ?_ | refine blk_alloc ?_ _)); exact BK266.out)⟩; have n5_ : Aside0 (wr.heap[gb287]? = some (.cells #[.slice Ao49 x288000_2.length co49, .int .i64 x288001_2, .bool x288002_2] 33 (0, 0))) := ⟨by rw [← hq_]; exact (by (with_reducible repeat (first | refine blk_drewN ?_ _ | refine blk_drew ?_ | refine blk_alloc ?_ _)); exact BK287.out)⟩; have n6_ : Aside0 (Below w.heap.size w wr) := ⟨by rw [← hq_]; exact (by repeat (first | (with_reducible first | exact HB.out | apply below_alloc | apply bN | apply bD | refine below_set ?_ GE266.out | refine below_set ?_ GE287.out) | exact HB.out))⟩; clear HO_12 HO_288000 HO_8 HO_9 BK266 BK287 HB hq_; have HO_12 := n0_; have HO_288000 := n1_; have HO_8 := n2_; have HO_9 := n3_; have BK266 := n4_; have BK287 := n5_; have HB := n6_; clear n0_ n1_ n2_ n3_ n4_ n5_ n6_; have hcy266_0 : wr.cell? ⟨gb266, 0, none⟩ = some (.slice none 0 0) := (blk_cell BK266.out 0).trans rfl; have hfy266_0 := blk_frozen BK266.out 0; have hcy266_1 : wr.cell? ⟨gb266, 1, none⟩ = some (.int .i64 0) := (blk_cell BK266.out 1).trans rfl; have hfy266_1 := blk_frozen BK266.out 1; have hcy266_2 : wr.cell? ⟨gb266, 2, none⟩ = some (.bool false) := (blk_cell BK266.out 2).trans rfl; have hfy266_2 := blk_frozen BK266.out 2; have hcy287_0 : wr.cell? ⟨gb287, 0, none⟩ = some (.slice Ao49 x288000_2.length co49) := (blk_cell BK287.out 0).trans rfl; have hfy287_0 := blk_frozen BK287.out 0; have hcy287_1 : wr.cell? ⟨gb287, 1, none⟩ = some (.int .i64 x288001_2) := (blk_cell BK287.out 1).trans rfl; have hfy287_1 := blk_frozen BK287.out 1; have hcy287_2 : wr.cell? ⟨gb287, 2, none⟩ = some (.bool x288002_2) := (blk_cell BK287.out 2).trans rfl; have hfy287_2 := blk_frozen BK287.out 2))) | ((with_reducible refine gate_store (t := 3) (p := 54) rfl ?_); refine store_event (t := 3) (p := 54) (v := ?vo_w50) (w1 := (wr.setCell ⟨gb287, 1, none⟩ (.int .i64 (wrap64 (x288001_2 + 1))))) ?hg ?ho ?hn ?hr ?_; (case ho => rfl); (case hg => rfl); (case hn => rfl); (case hr => first | (go_simp; done) | (go_simp; rfl)); intro w50 hw; have n0_ : Aside0 (Kd.S (Kd.slice 3 (Kd.int .i64)) 28 w50 w.heap.size (fun k_ => some k_ ≠ (u9 : Value).ownBlock) u8 x8_1) := ⟨(by rw [hw]; exact (by (with_reducible repeat (first | apply Kd.S_alloc | apply Kd.S_drewN | apply Kd.S_drew)); exact Kd.S_mono (Kd.S_far (p := ⟨gb287, 1, none⟩) (Kd.S_types HO_8.out BK287.out (by decide)) (fun _ hk => hk.2) (.int .i64 (wrap64 (x288001_2 + 1)))) (fun _ hk => hk.1)))⟩; have n1_ : Aside0 (Kd.R (Kd.int .i64) 3 w50 w.heap.size (fun _ => True) u9 x9_2) := ⟨(by rw [hw]; exact (by (with_reducible repeat (first | apply Kd.R_alloc | apply Kd.R_drewN | apply Kd.R_drew)); exact Kd.R_mono (Kd.R_far (p := ⟨gb287, 1, none⟩) (Kd.R_types HO_9.out BK287.out (by decide)) (fun _ hk => hk.2) (.int .i64 (wrap64 (x288001_2 + 1)))) (fun _ hk => trivial)))⟩; have n2_ : Aside0 (Kd.R Kd.bool 4 w50 w.heap.size (fun k_ => some k_ ≠ (.slice Ao49 x288000_2.length co49 : Value).ownBlock) v289 x12_2) := ⟨(by rw [hw]; exact (by (with_reducible repeat (first | apply Kd.R_alloc | apply Kd.R_drewN | apply Kd.R_drew)); exact Kd.R_mono (Kd.R_far (p := ⟨gb287, 1, none⟩) (Kd.R_types HO_12.out BK287.out (by decide)) (fun _ hk => hk.2) (.int .i64 (wrap64 (x288001_2 + 1)))) (fun _ hk => hk.1)))⟩; have n3_ : Aside0 (Kd.R Kd.bool 4 w50 w.heap.size (fun k_ => some k_ ≠ (v289 : Value).ownBlock) (.slice Ao49 x288000_2.length co49) x288000_2) := ⟨(by rw [hw]; exact (by (with_reducible repeat (first | apply Kd.R_alloc | apply Kd.R_drewN | apply Kd.R_drew)); exact Kd.R_mono (Kd.R_far (p := ⟨gb287, 1, none⟩) (Kd.R_types HO_288000.out BK287.out (by decide)) (fun _ hk => hk.2) (.int .i64 (wrap64 (x288001_2 + 1)))) (fun _ hk => hk.1)))⟩; have n4_ : Aside0 (w50.heap[gb266]? = some (.cells #[.slice none 0 0, .int .i64 0, .bool false] 33 (0, 0))) := ⟨(by rw [hw]; exact (by (with_reducible repeat (first | refine blk_drewN ?_ _ | refine blk_drew ?_ | refine blk_alloc ?_ _)); refine blk_far ?_ NB266_287.out _; (with_reducible repeat (first | refine blk_drewN ?_ _ | refine blk_drew ?_ | refine blk_alloc ?_ _)); exact BK266.out))⟩; have n5_ : Aside0 (w50.heap[gb287]? = some (.cells #[.slice Ao49 x288000_2.length co49, .int .i64 (wrap64 (x288001_2 + 1)), .bool x288002_2] 33 (0, 0))) := ⟨(by rw [hw]; exact (by (with_reducible repeat (first | refine blk_drewN ?_ _ | refine blk_drew ?_ | refine blk_alloc ?_ _)); refine blk_put (cs := #[.slice Ao49 x288000_2.length co49, .int .i64 x288001_2, .bool x288002_2]) ?_ 1 _ rfl; (with_reducible repeat (first | refine blk_drewN ?_ _ | refine blk_drew ?_ | refine blk_alloc ?_ _)); exact BK287.out))⟩; have n6_ : Aside0 (Below w.heap.size w w50) := ⟨(by rw [hw]; exact (by repeat (first | (with_reducible first | exact HB.out | apply below_alloc | apply bN | apply bD | refine below_set ?_ GE266.out | refine below_set ?_ GE287.out) | exact HB.out)))⟩; clear hw; clear HO_8; clear HO_9; clear HO_12; clear HO_288000; clear BK266; clear BK287; clear HB; have HO_8 := n0_; have HO_9 := n1_; have HO_12 := n2_; have HO_288000 := n3_; have BK266 := n4_; have BK287 := n5_; have HB := n6_; clear n0_ n1_ n2_ n3_ n4_ n5_ n6_; have hcz51_0 : w50.cell? ⟨gb287, 0, none⟩ = some (.slice Ao49 x288000_2.length co49) := (blk_cell BK287.out 0).trans rfl; have hcz51_1 : w50.cell? ⟨gb287, 1, none⟩ = some (.int .i64 (wrap64 (x288001_2 + 1))) := (blk_cell BK287.out 1).trans rfl; have hcz51_2 : w50.cell? ⟨gb287, 2, none⟩ = some (.bool x288002_2) := (blk_cell BK287.out 2).trans rfl; have hfz51_0 := blk_frozen BK287.out 0; have hfz51_1 := blk_frozen BK287.out 1; have hfz51_2 := blk_frozen BK287.out 2; obtain ⟨Ao52, co52, eo52⟩ := Kd.S_slice HO_8.out; subst eo52; obtain ⟨Ao53, co53, eo53⟩ := Kd.R_slice HO_9.out; subst eo53; obtain ⟨Ao54, co54, eo54⟩ := Kd.R_slice HO_12.out; subst eo54) | ((with_reducible refine gate_callee (f := 45) rfl ?_); refine goesL_ (some 60) rfl rfl Try.func45 (by kernel_rfl) rfl #[.slice Ao52 x8_1.length co52, .slice Ao53 x9_2.length co53, .slice Ao49 x288000_2.length co49, .slice Ao54 x12_2.length co54] rfl (by (try simp only [mA, mB, mC]); first | done | rfl | (simp only [mE, mD]; rfl)) ?_; (with_reducible refine (spec_l16Step.calls k2 _ _ x8_1 (fun k_ => some k_ = (.slice Ao53 x9_2.length co53 : Value).ownBlock) (.slice Ao53 x9_2.length co53) x9_2 (fun k_ => some k_ = (.slice Ao49 x288000_2.length co49 : Value).ownBlock) (.slice Ao49 x288000_2.length co49) x288000_2 (fun k_ => some k_ = (.slice Ao54 x12_2.length co54 : Value).ownBlock) (.slice Ao54 x12_2.length co54) x12_2 false t293 t294 t295 w _ ?side1 ?side2 ?side3 ?side4 ?side5 ?side6 ?side7 ?side8 A36.out).mono ?_); (case side1 => repeat (first | (with_reducible first | exact HB.out | apply below_alloc | apply bN | apply bD | refine below_set ?_ GE266.out | refine below_set ?_ GE287.out) | exact HB.out)); (case side2 => exact Kd.C_kept_own ((Kd.S_R (Kd.S_apart' (Kd.S_apart' HO_8.out (Kd.R_typed HO_288000.out) (by decide)) (Kd.R_typed HO_12.out) (by decide)))) (fun k_ hk_ hs_ => Or.elim hs_ (fun e_ => (hk_.1.1) e_) (fun e_ => Or.elim e_ (fun e_ => (hk_.1.2) e_) (fun e_ => (hk_.2) e_)))); (case side3 => exact (Kd.S_reads' HO_8.out).2.1); (case side4 => exact Kd.R_tight rfl HO_9.out); (case side5 => exact Kd.R_tight rfl HO_288000.out); (case side6 => exact fun k_ e_ => (HO_288000.out.1 k_ e_.symm)); (case side7 => exact Kd.R_tight rfl HO_12.out); (case side8 => exact fun k_ e_ => (HO_12.out.1 k_ e_.symm)); rintro e w55 ⟨rfl, hy0, hy1, hy2, hb, hkp⟩; refine ⟨_, rfl, ?_⟩; have n0_ := aM (Kd.S_mono (ok' := fun k_ => some k_ ≠ (.slice Ao53 x9_2.length co53 : Value).ownBlock) (Kd.S_keptB ((Kd.S_apart' (Kd.S_apart' HO_8.out (Kd.R_typed HO_288000.out) (by decide)) (Kd.R_typed HO_12.out) (by decide))) hkp (fun k_ hk_ hs_ => Or.elim hs_ (fun e_ => (hk_.1.1) e_) (fun e_ => Or.elim e_ (fun e_ => (hk_.1.2) e_) (fun e_ => (hk_.2) e_)))) (fun k_ hk_ => hk_.1.1.1)); have n1_ := aM (Kd.R_reok rfl hy0 (fun k_ e_ => HO_9.out.1 k_ e_)); have n2_ := aM (Kd.R_reok rfl hy2 (fun k_ e_ => HO_12.out.1 k_ e_)); have n3_ := aM (Kd.R_reok rfl hy1 (fun k_ e_ => HO_288000.out.1 k_ e_)); have n4_ := aM (blk_kept (by (with_reducible repeat (first | refine blk_drewN ?_ _ | refine blk_drew ?_ | refine blk_alloc ?_ _)); exact BK266.out) hkp (fun hs_ => Or.elim hs_ (fun e_ => (fun e_ => (Kd.R_ne HO_9.out BK266.out (by decide)) e_) e_) (fun e_ => Or.elim e_ (fun e_ => (fun e_ => (Kd.R_ne HO_288000.out BK266.out (by decide)) e_) e_) (fun e_ => (fun e_ => (Kd.R_ne HO_12.out BK266.out (by decide)) e_) e_)))); have n5_ := aM (blk_kept (by (with_reducible repeat (first | refine blk_drewN ?_ _ | refine blk_drew ?_ | refine blk_alloc ?_ _)); exact BK287.out) hkp (fun hs_ => Or.elim hs_ (fun e_ => (fun e_ => (Kd.R_ne HO_9.out BK287.out (by decide)) e_) e_) (fun e_ => Or.elim e_ (fun e_ => (fun e_ => (Kd.R_ne HO_288000.out BK287.out (by decide)) e_) e_) (fun e_ => (fun e_ => (Kd.R_ne HO_12.out BK287.out (by decide)) e_) e_)))); have n6_ := aM (hb); clear HO_8; clear HO_9; clear HO_12; clear HO_288000; clear BK266; clear BK287; clear HB; have HO_8 := n0_; have HO_9 := n1_; have HO_12 := n2_; have HO_288000 := n3_; have BK266 := n4_; have BK287 := n5_; have HB := n6_; clear n0_ n1_ n2_ n3_ n4_ n5_ n6_; (try clear hb); (try clear hkp); (try clear hy0); (try clear hy1); (try clear hy2); have hcz56_0 : w55.cell? ⟨gb287, 0, none⟩ = some (.slice Ao49 x288000_2.length co49) := (blk_cell BK287.out 0).trans rfl; have hcz56_1 : w55.cell? ⟨gb287, 1, none⟩ = some (.int .i64 (wrap64 (x288001_2 + 1))) := (blk_cell BK287.out 1).trans rfl; have hcz56_2 : w55.cell? ⟨gb287, 2, none⟩ = some (.bool x288002_2) := (blk_cell BK287.out 2).trans rfl; have hfz56_0 := blk_frozen BK287.out 0; have hfz56_1 := blk_frozen BK287.out 1; have hfz56_2 := blk_frozen BK287.out 2; have hcz57_0 : w55.cell? ⟨gb266, 0, none⟩ = some (.slice none 0 0) := (blk_cell BK266.out 0).trans rfl; have hcz57_1 : w55.cell? ⟨gb266, 1, none⟩ = some (.int .i64 0) := (blk_cell BK266.out 1).trans rfl; have hcz57_2 : w55.cell? ⟨gb266, 2, none⟩ = some (.bool false) := (blk_cell BK266.out 2).trans rfl; have hfz57_0 := blk_frozen BK266.out 0; have hfz57_1 := blk_frozen BK266.out 1; have hfz57_2 := blk_frozen BK266.out 2))
             refine bodyPost_ret (results_ct rfl _ _ gb266 33 #[.slice Ao49 x288000_2.length co49, .int .i64 (wrap64 (x288001_2 + 1)), .bool true] (0, 0) _ rfl (by (with_reducible repeat (first | refine blk_drewN ?_ _ | refine blk_drew ?_ | refine blk_alloc ?_ _)); refine blk_put (cs := #[.slice Ao49 x288000_2.length co49, .int .i64 (wrap64 (x288001_2 + 1)), .bool false]) ?_ 2 _ rfl; (with_reducible repeat (first | refine blk_drewN ?_ _ | refine blk_drew ?_ | refine blk_alloc ?_ _)); refine blk_put (cs := #[.slice Ao49 x288000_2.length co49, .int .i64 0, .bool false]) ?_ 1 _ rfl; (with_reducible repeat (first | refine blk_drewN ?_ _ | refine blk_drew ?_ | refine blk_alloc ?_ _)); refine blk_put (cs := #[.slice none 0 0, .int .i64 0, .bool false]) ?_ 0 _ rfl; (with_reducible repeat (first | refine blk_drewN ?_ _ | refine blk_drew ?_ | refine blk_alloc ?_ _)); refine blk_far ?_ NB266_287.out _; (with_reducible repeat (first | refine blk_drewN ?_ _ | refine blk_drew ?_ | refine blk_alloc ?_ _)); exact BK266.out) Try.underlying33 rfl (by kernel_rfl)) rfl ?_
             exact ⟨_, by first | rfl | (simp [errW_none, errW_some] <;> rfl) | (simp only [← hji23]; first | rfl | (simp [errW_none, errW_some] <;> rfl)) | (simp [*, errW_none, errW_some] <;> rfl), by (with_reducible repeat (first | apply Kd.R_alloc | apply Kd.R_drewN | apply Kd.R_drew)); exact Kd.R_mono (Kd.R_far (p := ⟨gb266, 2, none⟩) (Kd.R_far (p := ⟨gb266, 1, none⟩) (Kd.R_far (p := ⟨gb266, 0, none⟩) (Kd.R_far (p := ⟨gb287, 2, none⟩) (Kd.R_types (Kd.R_types HO_288000.out BK287.out (by decide)) BK266.out (by decide)) (fun _ hk => hk.1.2) (.bool true)) (fun _ hk => hk.2) (.slice Ao49 x288000_2.length co49)) (fun _ hk => hk.2) (.int .i64 (wrap64 (x288001_2 + 1)))) (fun _ hk => hk.2) (.bool true)) (fun _ hk => trivial), by repeat (first | (with_reducible first | exact HB.out | apply below_alloc | apply bN | apply bD | refine below_set ?_ GE266.out | refine below_set ?_ GE287.out) | exact HB.out)⟩
           ·
            replace c35 := Bool.eq_false_iff.mpr c35
            subst c35
            have H1 : (some (x288000_2, x288001_2, x288002_2, true)) = some (r1, r2, r3, r4) := by rw [if_neg (show ¬ (false = true) by decide)] at H; exact H
            clear H
            have H := H1
            clear H1
            simp only [Option.some.injEq, Prod.mk.injEq] at H
            obtain ⟨rfl, rfl, rfl, rfl⟩ := H
            have hnb58 := NB287_266.out
            have hnc58 := NB266_287.out
            have hcz59_0 : wr.cell? ⟨gb287, 0, none⟩ = some (u288000) := (blk_cell BK287.out 0).trans rfl
            have hcz59_1 : wr.cell? ⟨gb287, 1, none⟩ = some (.int .i64 x288001_2) := (blk_cell BK287.out 1).trans rfl
            have hcz59_2 : wr.cell? ⟨gb287, 2, none⟩ = some (.bool x288002_2) := (blk_cell BK287.out 2).trans rfl
            have hfz59_0 := blk_frozen BK287.out 0
            have hfz59_1 := blk_frozen BK287.out 1
            have hfz59_2 := blk_frozen BK287.out 2
            obtain ⟨Ao60, co60, eo60⟩ := Kd.R_slice HO_288000.out
            subst eo60
            go_wp2_with (first | ((with_reducible refine gate_callee (f := 44) rfl ?_); refine goesL_ (some 50) rfl rfl Try.func44 (by kernel_rfl) rfl #[.slice Ao60 x288000_2.length co60] rfl (by (try simp only [mA, mB, mC]); first | done | rfl | (simp only [mE, mD]; rfl)) ?_; (with_reducible refine (spec_l16Left.calls k2 _ _ x288000_2 false _ ?side1 ?side2 A34.out).mono ?_); (case side1 => repeat (first | exact (Kd.R_reads' HO_288000.out).2.2 | (with_reducible refine Kd.C_alloc ?_ _) | (with_reducible refine Kd.C_drewN ?_ _) | (with_reducible refine Kd.C_drew ?_))); (case side2 => exact (Kd.R_reads' HO_288000.out).2.1); rintro e w' ⟨rfl, ⟨nd, rfl⟩⟩; refine ⟨_, rfl, ?_⟩; (try (rw [drewN_self wr]; generalize hq_ : World.drewN wr _ = wr; have n0_ : Aside0 (Kd.R Kd.bool 4 wr w.heap.size (fun k_ => some k_ ≠ (.slice Ao60 x288000_2.length co60 : Value).ownBlock) v289 x12_2) := ⟨by rw [← hq_]; exact (by (with_reducible repeat (first | apply Kd.R_alloc | apply Kd.R_drewN | apply Kd.R_drew)); exact HO_12.out)⟩; have n1_ : Aside0 (Kd.R Kd.bool 4 wr w.heap.size (fun k_ => some k_ ≠ (v289 : Value).ownBlock) (.slice Ao60 x288000_2.length co60) x288000_2) := ⟨by rw [← hq_]; exact (by (with_reducible repeat (first | apply Kd.R_alloc | apply Kd.R_drewN | apply Kd.R_drew)); exact HO_288000.out)⟩; have n2_ : Aside0 (Kd.S (Kd.slice 3 (Kd.int .i64)) 28 wr w.heap.size (fun k_ => some k_ ≠ (u9 : Value).ownBlock) u8 x8_1) := ⟨by rw [← hq_]; exact (by (with_reducible repeat (first | apply Kd.S_alloc | apply Kd.S_drewN | apply Kd.S_drew)); exact HO_8.out)⟩; have n3_ : Aside0 (Kd.R (Kd.int .i64) 3 wr w.heap.size (fun _ => True) u9 x9_2) := ⟨by rw [← hq_]; exact (by (with_reducible repeat (first | apply Kd.R_alloc | apply Kd.R_drewN | apply Kd.R_drew)); exact HO_9.out)⟩; have n4_ : Aside0 (wr.heap[gb266]? = some (.cells #[.slice none 0 0, .int .i64 0, .bool false] 33 (0, 0))) := ⟨by rw [← hq_]; exact (by (with_reducible repeat (first | refine blk_drewN ?_ _ | refine blk_drew ?_ | refine blk_alloc ?_ _)); exact BK266.out)⟩; have n5_ : Aside0 (wr.heap[gb287]? = some (.cells #[.slice Ao60 x288000_2.length co60, .int .i64 x288001_2, .bool x288002_2] 33 (0, 0))) := ⟨by rw [← hq_]; exact (by (with_reducible repeat (first | refine blk_drewN ?_ _ | refine blk_drew ?_ | refine blk_alloc ?_ _)); exact BK287.out)⟩; have n6_ : Aside0 (Below w.heap.size w wr) := ⟨by rw [← hq_]; exact (by repeat (first | (with_reducible first | exact HB.out | apply below_alloc | apply bN | apply bD | refine below_set ?_ GE266.out | refine below_set ?_ GE287.out) | exact HB.out))⟩; clear HO_12 HO_288000 HO_8 HO_9 BK266 BK287 HB hq_; have HO_12 := n0_; have HO_288000 := n1_; have HO_8 := n2_; have HO_9 := n3_; have BK266 := n4_; have BK287 := n5_; have HB := n6_; clear n0_ n1_ n2_ n3_ n4_ n5_ n6_; have hcy266_0 : wr.cell? ⟨gb266, 0, none⟩ = some (.slice none 0 0) := (blk_cell BK266.out 0).trans rfl; have hfy266_0 := blk_frozen BK266.out 0; have hcy266_1 : wr.cell? ⟨gb266, 1, none⟩ = some (.int .i64 0) := (blk_cell BK266.out 1).trans rfl; have hfy266_1 := blk_frozen BK266.out 1; have hcy266_2 : wr.cell? ⟨gb266, 2, none⟩ = some (.bool false) := (blk_cell BK266.out 2).trans rfl; have hfy266_2 := blk_frozen BK266.out 2; have hcy287_0 : wr.cell? ⟨gb287, 0, none⟩ = some (.slice Ao60 x288000_2.length co60) := (blk_cell BK287.out 0).trans rfl; have hfy287_0 := blk_frozen BK287.out 0; have hcy287_1 : wr.cell? ⟨gb287, 1, none⟩ = some (.int .i64 x288001_2) := (blk_cell BK287.out 1).trans rfl; have hfy287_1 := blk_frozen BK287.out 1; have hcy287_2 : wr.cell? ⟨gb287, 2, none⟩ = some (.bool x288002_2) := (blk_cell BK287.out 2).trans rfl; have hfy287_2 := blk_frozen BK287.out 2)); have hcz61_0 : wr.cell? ⟨gb266, 0, none⟩ = some (.slice none 0 0) := (blk_cell BK266.out 0).trans rfl; have hcz61_1 : wr.cell? ⟨gb266, 1, none⟩ = some (.int .i64 0) := (blk_cell BK266.out 1).trans rfl; have hcz61_2 : wr.cell? ⟨gb266, 2, none⟩ = some (.bool false) := (blk_cell BK266.out 2).trans rfl; have hfz61_0 := blk_frozen BK266.out 0; have hfz61_1 := blk_frozen BK266.out 1; have hfz61_2 := blk_frozen BK266.out 2))
            refine bodyPost_ret (results_ct rfl _ _ gb266 33 #[.slice Ao60 x288000_2.length co60, .int .i64 x288001_2, .bool x288002_2] (0, 0) _ rfl (by (with_reducible repeat (first | refine blk_drewN ?_ _ | refine blk_drew ?_ | refine blk_alloc ?_ _)); refine blk_put (cs := #[.slice Ao60 x288000_2.length co60, .int .i64 x288001_2, .bool false]) ?_ 2 _ rfl; (with_reducible repeat (first | refine blk_drewN ?_ _ | refine blk_drew ?_ | refine blk_alloc ?_ _)); refine blk_put (cs := #[.slice Ao60 x288000_2.length co60, .int .i64 0, .bool false]) ?_ 1 _ rfl; (with_reducible repeat (first | refine blk_drewN ?_ _ | refine blk_drew ?_ | refine blk_alloc ?_ _)); refine blk_put (cs := #[.slice none 0 0, .int .i64 0, .bool false]) ?_ 0 _ rfl; (with_reducible repeat (first | refine blk_drewN ?_ _ | refine blk_drew ?_ | refine blk_alloc ?_ _)); exact BK266.out) Try.underlying33 rfl (by kernel_rfl)) rfl ?_
            exact ⟨_, by first | rfl | (simp [errW_none, errW_some] <;> rfl) | (simp only [← hji23]; first | rfl | (simp [errW_none, errW_some] <;> rfl)) | (simp [*, errW_none, errW_some] <;> rfl), by (with_reducible repeat (first | apply Kd.R_alloc | apply Kd.R_drewN | apply Kd.R_drew)); exact Kd.R_mono (Kd.R_far (p := ⟨gb266, 2, none⟩) (Kd.R_far (p := ⟨gb266, 1, none⟩) (Kd.R_far (p := ⟨gb266, 0, none⟩) (Kd.R_types HO_288000.out BK266.out (by decide)) (fun _ hk => hk.2) (.slice Ao60 x288000_2.length co60)) (fun _ hk => hk.2) (.int .i64 x288001_2)) (fun _ hk => hk.2) (.bool x288002_2)) (fun _ hk => trivial), by repeat (first | (with_reducible first | exact HB.out | apply below_alloc | apply bN | apply bD | refine below_set ?_ GE266.out | refine below_set ?_ GE287.out) | exact HB.out)⟩
        ·
         rw [if_neg c25] at H
         exact absurd H (by simp)
       ·
        rw [if_neg c24] at H
        exact absurd H (by simp)
      ·
       rw [if_neg c22] at H
       exact absurd H (by simp)
     ·
      rw [if_neg c21] at H
      exact absurd H (by simp)
 ·
  replace c5 := Bool.eq_false_iff.mpr c5
  subst c5
  have H1 : (some (([] : List Bool), 0, false, false)) = some (r1, r2, r3, r4) := by rw [if_neg (show ¬ (false = true) by decide)] at H; exact H
  clear H
  have H := H1
  clear H1
  simp only [Option.some.injEq, Prod.mk.injEq] at H
  obtain ⟨rfl, rfl, rfl, rfl⟩ := H
  go_enter Try.func17, Try.ntmps17
  go_wp2_with (first | ((with_reducible refine gate_dst (N := 6) rfl ?_); refine box_event ?hg (N := 6) ?hd (cs := #[.slice none 0 0, .int .i64 0, .bool false]) (t := 33) ?hr ?_; (case hd => rfl); (case hg => rfl); (case hr => first | (go_simp; done) | (go_simp; rfl)); intro gb266 hg w62 hbox hb; have n0_ := aM (below_step (by repeat (first | (with_reducible first | exact HB.out | apply below_alloc | apply bN | apply bD) | exact HB.out)) hb); have n1_ := aM (hbox); have n2_ := aM ((by rw [hg]; exact (below_size (by repeat (first | (with_reducible first | exact HB.out | apply below_alloc | apply bN | apply bD) | exact HB.out))) : w.heap.size ≤ gb266)); have n3_ := aM ((by rw [hg]; exact (below_size (by repeat (first | (with_reducible first | exact HB.out | apply below_alloc | apply bN | apply bD) | exact HB.out))) : w.heap.size ≤ gb266)); clear HB; have HB := n0_; have BK266 := n1_; have GW266 := n2_; have GE266 := n3_; clear n0_ n1_ n2_ n3_; clear hb hbox hg) | ((with_reducible refine gate_callee (f := 40) rfl ?_); refine goesL_ (some 16) rfl rfl Try.func40 (by kernel_rfl) rfl #[.int .i64 a0, .int .i64 a1, .slice A2 l2.length c2] rfl (by (try simp only [mA, mB, mC]); first | done | rfl | (simp only [mE, mD]; rfl)) ?_; (with_reducible refine (spec_l16Ways.calls k a0 a1 _ _ l2 false _ ?side1 ?side2 A4.out).mono ?_); (case side1 => repeat (first | exact (Kd.C_below HR2.out HB.out) | (with_reducible refine Kd.C_alloc ?_ _) | (with_reducible refine Kd.C_drewN ?_ _) | (with_reducible refine Kd.C_drew ?_))); (case side2 => exact HC2.out); rintro e w63 ⟨rfl, hb⟩; refine ⟨_, rfl, ?_⟩; have n0_ := aM (blk_below (g := gb266) (o := .cells #[.slice none 0 0, .int .i64 0, .bool false] 33 (0, 0)) (by (with_reducible repeat (first | refine blk_drewN ?_ _ | refine blk_drew ?_ | refine blk_alloc ?_ _)); exact BK266.out) hb); have n1_ := aM (below_step (by repeat (first | (with_reducible first | exact HB.out | apply below_alloc | apply bN | apply bD | refine below_set ?_ GE266.out) | exact HB.out)) hb); clear BK266; clear HB; have BK266 := n0_; have HB := n1_; clear n0_ n1_; (try clear hb); (try clear hb2); (try clear hk); (try clear hi); have hcz64_0 : w63.cell? ⟨gb266, 0, none⟩ = some (.slice none 0 0) := (blk_cell BK266.out 0).trans rfl; have hcz64_1 : w63.cell? ⟨gb266, 1, none⟩ = some (.int .i64 0) := (blk_cell BK266.out 1).trans rfl; have hcz64_2 : w63.cell? ⟨gb266, 2, none⟩ = some (.bool false) := (blk_cell BK266.out 2).trans rfl; have hfz64_0 := blk_frozen BK266.out 0; have hfz64_1 := blk_frozen BK266.out 1; have hfz64_2 := blk_frozen BK266.out 2))
  refine bodyPost_ret (results_ct rfl _ _ gb266 33 #[.slice none 0 0, .int .i64 0, .bool false] (0, 0) _ rfl (by (with_reducible repeat (first | refine blk_drewN ?_ _ | refine blk_drew ?_ | refine blk_alloc ?_ _)); refine blk_put (cs := #[.slice none 0 0, .int .i64 0, .bool false]) ?_ 2 _ rfl; (with_reducible repeat (first | refine blk_drewN ?_ _ | refine blk_drew ?_ | refine blk_alloc ?_ _)); refine blk_put (cs := #[.slice none 0 0, .int .i64 0, .bool false]) ?_ 1 _ rfl; (with_reducible repeat (first | refine blk_drewN ?_ _ | refine blk_drew ?_ | refine blk_alloc ?_ _)); refine blk_put (cs := #[.slice none 0 0, .int .i64 0, .bool false]) ?_ 0 _ rfl; (with_reducible repeat (first | refine blk_drewN ?_ _ | refine blk_drew ?_ | refine blk_alloc ?_ _)); exact BK266.out) Try.underlying33 rfl (by kernel_rfl)) rfl ?_
  exact ⟨_, by first | rfl | (simp [*] <;> rfl), by first | exact Kd.R_nil _ _ _ _ _ | exact Kd.N_nil _ _ _ _ _ | exact Kd.V_nil _ _ _ _ _ | exact Kd.Q_nil _ _ _ _ _ | exact Kd.S_nil _ _ _ _ _, by repeat (first | (with_reducible first | exact HB.out | apply below_alloc | apply bN | apply bD | refine below_set ?_ GE266.out) | exact HB.out)⟩
-- NOT PRINTED: function 82 (slices_insertionSortCmpFunc_int)
-- NOT PRINTED: function 97 (slices_siftDownCmpFunc_int)
-- NOT PRINTED: function 83 (slices_heapSortCmpFunc_int)
-- NOT PRINTED: function 90 (bits_Len32)
-- NOT PRINTED: function 91 (bits_Len64)
-- NOT PRINTED: function 68 (bits_Len)
-- NOT PRINTED: function 98 (slices_nextPowerOfTwo)
-- NOT PRINTED: function 99 (slices_xorshift_Next)
-- NOT PRINTED: function 84 (slices_breakPatternsCmpFunc_int)
-- NOT PRINTED: function 103 (slices_order2CmpFunc_int)
-- NOT PRINTED: function 101 (slices_medianCmpFunc_int)
-- NOT PRINTED: function 100 (slices_medianAdjacentCmpFunc_int)
-- NOT PRINTED: function 85 (slices_choosePivotCmpFunc_int)
-- NOT PRINTED: function 86 (slices_reverseRangeCmpFunc_int)
-- NOT PRINTED: function 87 (slices_partialInsertionSortCmpFunc_int)
-- NOT PRINTED: function 88 (slices_partitionEqualCmpFunc_int)
-- NOT PRINTED: function 89 (slices_partitionCmpFunc_int)
-- NOT PRINTED: function 67 (slices_pdqsortCmpFunc_int)
-- NOT PRINTED: function 35 (slices_SortFunc_int_int)
/-! ### cmp_isNaN_int: function 92 -/
def cmp_isNaN_int.f (a0 : Int) : Option (Bool) := some (a0 != a0)
set_option maxHeartbeats 8000000 in
set_option maxRecDepth 100000 in
theorem cmp_isNaN_int.calls (a0 : Int) (r : Bool) (w : World) (h : cmp_isNaN_int.f a0 = some r) :
  Calls Try.prog 92 #[.int .i64 a0] w fun e w' => e = .returned (.bool r) ∧ Drawn0 w w' := by
 have H : (some (a0 != a0)) = some r := h
 clear h
 obtain rfl := Option.some.inj H
 go_enter Try.func92, Try.ntmps92
 go_wp2
 go_ret
 exact ⟨by first | rfl | (simp; done) | (simp [*]; done), by repeat (first | exact Drawn0.refl _ | apply Drawn0.step)⟩
/-! ### cmp_Compare_int: function 69 -/
def cmp_Compare_int.f (a0 : Int) (a1 : Int) : Option (Int) := (cmp_isNaN_int.f a0).bind fun t296 => ((cmp_isNaN_int.f a1).bind fun t297 => (if t296 = true then (if t297 = true then (some 0) else (some (-1))) else (if t297 = true then (some 1) else (if a0 < a1 then (some (-1)) else (if a0 > a1 then (some 1) else (some 0))))))
set_option maxHeartbeats 8000000 in
set_option maxRecDepth 100000 in
theorem cmp_Compare_int.calls (a0 : Int) (a1 : Int) (r : Int) (w : World) (h : cmp_Compare_int.f a0 a1 = some r) :
  Calls Try.prog 69 #[.int .i64 a0, .int .i64 a1] w fun e w' => e = .returned (.int .i64 r) ∧ Drawn0 w w' := by
 have H : ((cmp_isNaN_int.f a0).bind fun t296 => ((cmp_isNaN_int.f a1).bind fun t297 => (if t296 = true then (if t297 = true then (some 0) else (some (-1))) else (if t297 = true then (some 1) else (if a0 < a1 then (some (-1)) else (if a0 > a1 then (some 1) else (some 0))))))) = some r := h
 clear h
 replace H := bE H
 obtain ⟨t296, A30, H⟩ := H
 replace H : ((cmp_isNaN_int.f a1).bind fun t297 => (if t296 = true then (if t297 = true then (some 0) else (some (-1))) else (if t297 = true then (some 1) else (if a0 < a1 then (some (-1)) else (if a0 > a1 then (some 1) else (some 0)))))) = some r := H
 have A3 := aM A30
 clear A30
 replace H := bE H
 obtain ⟨t297, A40, H⟩ := H
 replace H : (if t296 = true then (if t297 = true then (some 0) else (some (-1))) else (if t297 = true then (some 1) else (if a0 < a1 then (some (-1)) else (if a0 > a1 then (some 1) else (some 0))))) = some r := H
 have A4 := aM A40
 clear A40
 by_cases c5 : t296 = true
 ·
  subst c5
  have H1 : (if t297 = true then (some 0) else (some (-1))) = some r := by rw [if_pos rfl] at H; exact H
  clear H
  have H := H1
  clear H1
  by_cases c6 : t297 = true
  ·
   subst c6
   have H1 : (some 0) = some r := by rw [if_pos rfl] at H; exact H
   clear H
   have H := H1
   clear H1
   obtain rfl := Option.some.inj H
   go_enter Try.func69, Try.ntmps69
   go_wp2_with (first | ((with_reducible refine gate_callee (f := 92) rfl ?_); refine goesL_ (some 8) rfl rfl Try.func92 (by kernel_rfl) rfl #[.int .i64 a0] rfl (by (try simp only [mA, mB, mC]); first | done | rfl | (simp only [mE, mD]; rfl)) ?_; (with_reducible refine (cmp_isNaN_int.calls a0 true _ A3.out).mono ?_); rintro e w' ⟨rfl, ⟨nd, rfl⟩⟩; refine ⟨_, rfl, ?_⟩) | ((with_reducible refine gate_callee (f := 92) rfl ?_); refine goesL_ (some 10) rfl rfl Try.func92 (by kernel_rfl) rfl #[.int .i64 a1] rfl (by (try simp only [mA, mB, mC]); first | done | rfl | (simp only [mE, mD]; rfl)) ?_; (with_reducible refine (cmp_isNaN_int.calls a1 true _ A4.out).mono ?_); rintro e w' ⟨rfl, ⟨nd, rfl⟩⟩; refine ⟨_, rfl, ?_⟩))
   go_ret
   exact ⟨by first | rfl | (simp; done) | (simp [*]; done), by repeat (first | exact Drawn0.refl _ | apply Drawn0.step)⟩
  ·
   replace c6 := Bool.eq_false_iff.mpr c6
   subst c6
   have H1 : (some (-1)) = some r := by rw [if_neg (show ¬ (false = true) by decide)] at H; exact H
   clear H
   have H := H1
   clear H1
   obtain rfl := Option.some.inj H
   go_enter Try.func69, Try.ntmps69
   go_wp2_with (first | ((with_reducible refine gate_callee (f := 92) rfl ?_); refine goesL_ (some 8) rfl rfl Try.func92 (by kernel_rfl) rfl #[.int .i64 a0] rfl (by (try simp only [mA, mB, mC]); first | done | rfl | (simp only [mE, mD]; rfl)) ?_; (with_reducible refine (cmp_isNaN_int.calls a0 true _ A3.out).mono ?_); rintro e w' ⟨rfl, ⟨nd, rfl⟩⟩; refine ⟨_, rfl, ?_⟩) | ((with_reducible refine gate_callee (f := 92) rfl ?_); refine goesL_ (some 10) rfl rfl Try.func92 (by kernel_rfl) rfl #[.int .i64 a1] rfl (by (try simp only [mA, mB, mC]); first | done | rfl | (simp only [mE, mD]; rfl)) ?_; (with_reducible refine (cmp_isNaN_int.calls a1 false _ A4.out).mono ?_); rintro e w' ⟨rfl, ⟨nd, rfl⟩⟩; refine ⟨_, rfl, ?_⟩))
   go_ret
   exact ⟨by first | rfl | (simp; done) | (simp [*]; done), by repeat (first | exact Drawn0.refl _ | apply Drawn0.step)⟩
 ·
  replace c5 := Bool.eq_false_iff.mpr c5
  subst c5
  have H1 : (if t297 = true then (some 1) else (if a0 < a1 then (some (-1)) else (if a0 > a1 then (some 1) else (some 0)))) = some r := by rw [if_neg (show ¬ (false = true) by decide)] at H; exact H
  clear H
  have H := H1
  clear H1
  by_cases c7 : t297 = true
  ·
   subst c7
   have H1 : (some 1) = some r := by rw [if_pos rfl] at H; exact H
   clear H
   have H := H1
   clear H1
   obtain rfl := Option.some.inj H
   go_enter Try.func69, Try.ntmps69
   go_wp2_with (first | ((with_reducible refine gate_callee (f := 92) rfl ?_); refine goesL_ (some 8) rfl rfl Try.func92 (by kernel_rfl) rfl #[.int .i64 a0] rfl (by (try simp only [mA, mB, mC]); first | done | rfl | (simp only [mE, mD]; rfl)) ?_; (with_reducible refine (cmp_isNaN_int.calls a0 false _ A3.out).mono ?_); rintro e w' ⟨rfl, ⟨nd, rfl⟩⟩; refine ⟨_, rfl, ?_⟩) | ((with_reducible refine gate_callee (f := 92) rfl ?_); refine goesL_ (some 10) rfl rfl Try.func92 (by kernel_rfl) rfl #[.int .i64 a1] rfl (by (try simp only [mA, mB, mC]); first | done | rfl | (simp only [mE, mD]; rfl)) ?_; (with_reducible refine (cmp_isNaN_int.calls a1 true _ A4.out).mono ?_); rintro e w' ⟨rfl, ⟨nd, rfl⟩⟩; refine ⟨_, rfl, ?_⟩))
   go_ret
   exact ⟨by first | rfl | (simp; done) | (simp [*]; done), by repeat (first | exact Drawn0.refl _ | apply Drawn0.step)⟩
  ·
   replace c7 := Bool.eq_false_iff.mpr c7
   subst c7
   have H1 : (if a0 < a1 then (some (-1)) else (if a0 > a1 then (some 1) else (some 0))) = some r := by rw [if_neg (show ¬ (false = true) by decide)] at H; exact H
   clear H
   have H := H1
   clear H1
   by_cases c8 : a0 < a1
   ·
    rw [if_pos c8] at H
    have c8b0 : decide (a0 < a1) = true := decide_eq_true c8
    clear c8
    obtain rfl := Option.some.inj H
    go_enter Try.func69, Try.ntmps69
    go_wp2_with (first | ((with_reducible refine gate_callee (f := 92) rfl ?_); refine goesL_ (some 8) rfl rfl Try.func92 (by kernel_rfl) rfl #[.int .i64 a0] rfl (by (try simp only [mA, mB, mC]); first | done | rfl | (simp only [mE, mD]; rfl)) ?_; (with_reducible refine (cmp_isNaN_int.calls a0 false _ A3.out).mono ?_); rintro e w' ⟨rfl, ⟨nd, rfl⟩⟩; refine ⟨_, rfl, ?_⟩) | ((with_reducible refine gate_callee (f := 92) rfl ?_); refine goesL_ (some 10) rfl rfl Try.func92 (by kernel_rfl) rfl #[.int .i64 a1] rfl (by (try simp only [mA, mB, mC]); first | done | rfl | (simp only [mE, mD]; rfl)) ?_; (with_reducible refine (cmp_isNaN_int.calls a1 false _ A4.out).mono ?_); rintro e w' ⟨rfl, ⟨nd, rfl⟩⟩; refine ⟨_, rfl, ?_⟩))
    go_ret
    exact ⟨by first | rfl | (simp; done) | (simp [*]; done), by repeat (first | exact Drawn0.refl _ | apply Drawn0.step)⟩
   ·
    rw [if_neg c8] at H
    have c8b0 : decide (a0 < a1) = false := decide_eq_false c8
    clear c8
    by_cases c9 : a0 > a1
    ·
     rw [if_pos c9] at H
     have c9b0 : decide (a1 < a0) = true := decide_eq_true c9
     clear c9
     obtain rfl := Option.some.inj H
     go_enter Try.func69, Try.ntmps69
     go_wp2_with (first | ((with_reducible refine gate_callee (f := 92) rfl ?_); refine goesL_ (some 8) rfl rfl Try.func92 (by kernel_rfl) rfl #[.int .i64 a0] rfl (by (try simp only [mA, mB, mC]); first | done | rfl | (simp only [mE, mD]; rfl)) ?_; (with_reducible refine (cmp_isNaN_int.calls a0 false _ A3.out).mono ?_); rintro e w' ⟨rfl, ⟨nd, rfl⟩⟩; refine ⟨_, rfl, ?_⟩) | ((with_reducible refine gate_callee (f := 92) rfl ?_); refine goesL_ (some 10) rfl rfl Try.func92 (by kernel_rfl) rfl #[.int .i64 a1] rfl (by (try simp only [mA, mB, mC]); first | done | rfl | (simp only [mE, mD]; rfl)) ?_; (with_reducible refine (cmp_isNaN_int.calls a1 false _ A4.out).mono ?_); rintro e w' ⟨rfl, ⟨nd, rfl⟩⟩; refine ⟨_, rfl, ?_⟩))
     go_ret
     exact ⟨by first | rfl | (simp; done) | (simp [*]; done), by repeat (first | exact Drawn0.refl _ | apply Drawn0.step)⟩
    ·
     rw [if_neg c9] at H
     have c9b0 : decide (a1 < a0) = false := decide_eq_false c9
     clear c9
     obtain rfl := Option.some.inj H
     go_enter Try.func69, Try.ntmps69
     go_wp2_with (first | ((with_reducible refine gate_callee (f := 92) rfl ?_); refine goesL_ (some 8) rfl rfl Try.func92 (by kernel_rfl) rfl #[.int .i64 a0] rfl (by (try simp only [mA, mB, mC]); first | done | rfl | (simp only [mE, mD]; rfl)) ?_; (with_reducible refine (cmp_isNaN_int.calls a0 false _ A3.out).mono ?_); rintro e w' ⟨rfl, ⟨nd, rfl⟩⟩; refine ⟨_, rfl, ?_⟩) | ((with_reducible refine gate_callee (f := 92) rfl ?_); refine goesL_ (some 10) rfl rfl Try.func92 (by kernel_rfl) rfl #[.int .i64 a1] rfl (by (try simp only [mA, mB, mC]); first | done | rfl | (simp only [mE, mD]; rfl)) ?_; (with_reducible refine (cmp_isNaN_int.calls a1 false _ A4.out).mono ?_); rintro e w' ⟨rfl, ⟨nd, rfl⟩⟩; refine ⟨_, rfl, ?_⟩))
     go_ret
     exact ⟨by first | rfl | (simp; done) | (simp [*]; done), by repeat (first | exact Drawn0.refl _ | apply Drawn0.step)⟩
/-! ### slices_Compare_int_int: function 36 -/
def slices_Compare_int_int.l0 : Nat → List Int → List Int → List Int → Int → Int → Option (Int)
 | 0, _, _, _, _, _ => none
 | k + 1, x0, x1, x9, x10, x11 => if x11 < x10 then (if 0 ≤ x11 then (if x11 < (x9.length : Int) then (if x11 ≥ (x1.length : Int) then (some 1) else (if x11 < (x1.length : Int) then ((cmp_Compare_int.f (rd x9 x11) (rd x1 x11)).bind fun t300 => (if t300 = 0 then (slices_Compare_int_int.l0 k x0 x1 x9 x10 (wrap64 (x11 + 1))) else (some t300))) else (none))) else (none)) else (none)) else (if (x0.length : Int) < (x1.length : Int) then (some (-1)) else (some 0))
def slices_Compare_int_int.f (k : Nat) (l0 : List Int) (l1 : List Int) : Option (Int) := slices_Compare_int_int.l0 k l0 l1 l0 (l0.length : Int) 0
theorem slices_Compare_int_int.mono_l : ∀ k, (∀ y0 y1 y2 y3 y4, LeO (slices_Compare_int_int.l0 k y0 y1 y2 y3 y4) (slices_Compare_int_int.l0 (k + 1) y0 y1 y2 y3 y4))
 | 0 => fun _ _ _ _ _ r h => by simp [slices_Compare_int_int.l0] at h
 | k + 1 => by
  have ih0 := slices_Compare_int_int.mono_l k
  ·
   intro y0 y1 y2 y3 y4
   unfold slices_Compare_int_int.l0
   repeat' first
   | (with_reducible exact ih0 _ _ _ _ _)
   | (with_reducible exact LeO.refl _)
   | (with_reducible exact LeO.none _)
   | (with_reducible refine LeO.ite ?_ ?_)
   | (with_reducible refine LeO.bind ?_ (fun _ => ?_))
   | exact ih0 _ _ _ _ _
   | exact LeO.none _
   | refine LeO.ite ?_ ?_
   | refine LeO.bind ?_ (fun _ => ?_)
theorem slices_Compare_int_int.mono : ∀ a0 a1 k, LeO (slices_Compare_int_int.f k a0 a1) (slices_Compare_int_int.f (k + 1) a0 a1) := by
 intro a0 a1 k
 have ih0 := slices_Compare_int_int.mono_l k
 unfold slices_Compare_int_int.f
 repeat' first
   | (with_reducible exact ih0 _ _ _ _ _)
   | (with_reducible exact LeO.refl _)
   | (with_reducible exact LeO.none _)
   | (with_reducible refine LeO.ite ?_ ?_)
   | (with_reducible refine LeO.bind ?_ (fun _ => ?_))
   | exact ih0 _ _ _ _ _
   | exact LeO.none _
   | refine LeO.ite ?_ ?_
   | refine LeO.bind ?_ (fun _ => ?_)
set_option maxHeartbeats 8000000 in
set_option maxRecDepth 100000 in
theorem slices_Compare_int_int.calls (k : Nat) (A0 : Option Addr) (c0 : Nat) (l0 : List Int) (A1 : Option Addr) (c1 : Nat) (l1 : List Int) (r : Int) (w : World) (hr0 : Kd.C (Kd.int .i64) w A0 l0.length l0) (hc0 : l0.length ≤ c0) (hr1 : Kd.C (Kd.int .i64) w A1 l1.length l1) (hc1 : l1.length ≤ c1) (h : slices_Compare_int_int.f k l0 l1 = some r) :
  Calls Try.prog 36 #[.slice A0 l0.length c0, .slice A1 l1.length c1] w fun e w' => e = .returned (.int .i64 r) ∧ Drawn0 w w' := by
 have HR0 := aM hr0
 have HC0 := aM hc0
 clear hr0 hc0
 have HR1 := aM hr1
 have HC1 := aM hc1
 clear hr1 hc1
 have H : (slices_Compare_int_int.l0 k l0 l1 l0 (l0.length : Int) 0) = some r := h
 clear h
 have H' := aM H
 clear H
 go_enter Try.func36, Try.ntmps36
 go_wp2
 go_loopg [11] k (fun kq v11 w' => ∃ (x11_1 : Int), v11 = .int .i64 x11_1 ∧ Aside0 (slices_Compare_int_int.l0 kq l0 l1 l0 (l0.length : Int) x11_1 = some r) ∧ Aside0 (kq ≤ k) ∧ Drawn0 w w')
 case atStart => exact ⟨(0), (by first | rfl | (simp; done) | (simp [*]; done)), H', ⟨Nat.le_refl _⟩, by repeat (first | exact Drawn0.refl _ | apply Drawn0.step)⟩
 case round =>
  clear H'
  try clear c1
  try clear p2
  obtain ⟨x11_1, rfl, HA, HK1, ⟨m1, rfl⟩⟩ := hrel
  cases gk with
  | zero => exact absurd HA.out (by simp [slices_Compare_int_int.l0])
  | succ k1 =>
   have H := HA.out
   clear HA
   simp only [slices_Compare_int_int.l0] at H
   by_cases c3 : x11_1 < (l0.length : Int)
   ·
    rw [if_pos c3] at H
    have c3b0 : decide (x11_1 < (l0.length : Int)) = true := decide_eq_true c3
    clear c3
    by_cases c4 : 0 ≤ x11_1
    ·
     rw [if_pos c4] at H
     have c4b0 : decide (0 ≤ x11_1) = true := decide_eq_true c4
     clear c4
     by_cases c5 : x11_1 < (l0.length : Int)
     ·
      rw [if_pos c5] at H
      have c5b0 : decide (x11_1 < (l0.length : Int)) = true := decide_eq_true c5
      clear c5
      by_cases c6 : x11_1 ≥ (l1.length : Int)
      ·
       rw [if_pos c6] at H
       have c6b0 : decide ((l1.length : Int) ≤ x11_1) = true := decide_eq_true c6
       clear c6
       obtain rfl := Option.some.inj H
       have p298 : 0 ≤ (x11_1 : Int) := of_decide_eq_true (by assumption)
       have q298 : x11_1 < (l0.length : Int) := of_decide_eq_true (by assumption)
       obtain ⟨ad298, e298, hx298_0⟩ := Kd.at_int HR0.out x11_1 p298 q298
       cases e298
       replace p298 := eq_true p298
       replace q298 := eq_true q298
       go_wp2
       go_ret
       exact ⟨by first | rfl | (simp; done) | (simp [*]; done), by repeat (first | exact Drawn0.refl _ | apply Drawn0.step)⟩
      ·
       rw [if_neg c6] at H
       have c6b0 : decide ((l1.length : Int) ≤ x11_1) = false := decide_eq_false c6
       clear c6
       by_cases c7 : x11_1 < (l1.length : Int)
       ·
        rw [if_pos c7] at H
        have c7b0 : decide (x11_1 < (l1.length : Int)) = true := decide_eq_true c7
        clear c7
        replace H := bE H
        obtain ⟨t300, A80, H⟩ := H
        replace H : (if t300 = 0 then (slices_Compare_int_int.l0 k1 l0 l1 l0 (l0.length : Int) (wrap64 (x11_1 + 1))) else (some t300)) = some r := H
        have A8 := aM A80
        clear A80
        by_cases c9 : t300 = 0
        ·
         rw [if_pos c9] at H
         have c9b0 : (t300 == 0) = true := beq_iff_eq.mpr c9
         have c9b1 : (t300 != 0) = false := bne_eq_false_iff_eq.mpr c9
         clear c9
         have H' := aM H
         clear H
         have p298 : 0 ≤ (x11_1 : Int) := of_decide_eq_true (by assumption)
         have q298 : x11_1 < (l0.length : Int) := of_decide_eq_true (by assumption)
         obtain ⟨ad298, e298, hx298_0⟩ := Kd.at_int HR0.out x11_1 p298 q298
         cases e298
         replace p298 := eq_true p298
         replace q298 := eq_true q298
         have p299 : 0 ≤ (x11_1 : Int) := of_decide_eq_true (by assumption)
         have q299 : x11_1 < (l1.length : Int) := of_decide_eq_true (by assumption)
         obtain ⟨ad299, e299, hx299_0⟩ := Kd.at_int HR1.out x11_1 p299 q299
         cases e299
         replace p299 := eq_true p299
         replace q299 := eq_true q299
         go_wp2_with (first | ((with_reducible refine gate_callee (f := 69) rfl ?_); refine goesL_ (some 26) rfl rfl Try.func69 (by kernel_rfl) rfl #[.int .i64 (rd l0 x11_1), .int .i64 (rd l1 x11_1)] rfl (by (try simp only [mA, mB, mC]); first | done | rfl | (simp only [mE, mD]; rfl)) ?_; (with_reducible refine (cmp_Compare_int.calls (rd l0 x11_1) (rd l1 x11_1) t300 _ A8.out).mono ?_); rintro e w' ⟨rfl, ⟨nd, rfl⟩⟩; refine ⟨_, rfl, ?_⟩))
         go_roundg k1
         case measure => have := HK1.out; omega
         case rel => exact ⟨(wrap64 (x11_1 + 1)), (by first | rfl | (simp; done) | (simp [*]; done)), H', ⟨by have := HK1.out; omega⟩, by repeat (first | exact Drawn0.refl _ | apply Drawn0.step)⟩
        ·
         rw [if_neg c9] at H
         have c9b0 : (t300 == 0) = false := beq_eq_false_iff_ne.mpr c9
         have c9b1 : (t300 != 0) = true := bne_iff_ne.mpr c9
         obtain rfl := Option.some.inj H
         have p298 : 0 ≤ (x11_1 : Int) := of_decide_eq_true (by assumption)
         have q298 : x11_1 < (l0.length : Int) := of_decide_eq_true (by assumption)
         obtain ⟨ad298, e298, hx298_0⟩ := Kd.at_int HR0.out x11_1 p298 q298
         cases e298
         replace p298 := eq_true p298
         replace q298 := eq_true q298
         have p299 : 0 ≤ (x11_1 : Int) := of_decide_eq_true (by assumption)
         have q299 : x11_1 < (l1.length : Int) := of_decide_eq_true (by assumption)
         obtain ⟨ad299, e299, hx299_0⟩ := Kd.at_int HR1.out x11_1 p299 q299
         cases e299
         replace p299 := eq_true p299
         replace q299 := eq_true q299
         go_wp2_with (first | ((with_reducible refine gate_callee (f := 69) rfl ?_); refine goesL_ (some 26) rfl rfl Try.func69 (by kernel_rfl) rfl #[.int .i64 (rd l0 x11_1), .int .i64 (rd l1 x11_1)] rfl (by (try simp only [mA, mB, mC]); first | done | rfl | (simp only [mE, mD]; rfl)) ?_; (with_reducible refine (cmp_Compare_int.calls (rd l0 x11_1) (rd l1 x11_1) t300 _ A8.out).mono ?_); rintro e w' ⟨rfl, ⟨nd, rfl⟩⟩; refine ⟨_, rfl, ?_⟩))
         go_ret
         exact ⟨by first | rfl | (simp; done) | (simp [*]; done), by repeat (first | exact Drawn0.refl _ | apply Drawn0.step)⟩
       ·
        rw [if_neg c7] at H
        exact absurd H (by simp)
     ·
      rw [if_neg c5] at H
      exact absurd H (by simp)
    ·
     rw [if_neg c4] at H
     exact absurd H (by simp)
   ·
    rw [if_neg c3] at H
    have c3b0 : decide (x11_1 < (l0.length : Int)) = false := decide_eq_false c3
    clear c3
    by_cases c10 : (l0.length : Int) < (l1.length : Int)
    ·
     rw [if_pos c10] at H
     have c10b0 : decide ((l0.length : Int) < (l1.length : Int)) = true := decide_eq_true c10
     have c10b1 : decide (l0.length < l1.length) = true := decide_eq_true (Int.ofNat_lt.mp c10)
     clear c10
     obtain rfl := Option.some.inj H
     go_wp2
     go_ret
     exact ⟨by first | rfl | (simp; done) | (simp [*]; done), by repeat (first | exact Drawn0.refl _ | apply Drawn0.step)⟩
    ·
     rw [if_neg c10] at H
     have c10b0 : decide ((l0.length : Int) < (l1.length : Int)) = false := decide_eq_false c10
     have c10b1 : decide (l0.length < l1.length) = false := decide_eq_false (fun h => c10 (Int.ofNat_lt.mpr h))
     clear c10
     obtain rfl := Option.some.inj H
     go_wp2
     go_ret
     exact ⟨by first | rfl | (simp; done) | (simp [*]; done), by repeat (first | exact Drawn0.refl _ | apply Drawn0.step)⟩
-- NOT PRINTED: function 37 (slices_CompactFunc_int_int)
/-! ### slices_Equal_int_int: function 38 -/
def slices_Equal_int_int.l0 : Nat → List Int → List Int → Int → Int → Option (Bool)
 | 0, _, _, _, _ => none
 | k + 1, x0, x1, x12, x13 => if x13 < x12 then (if 0 ≤ x13 then (if x13 < (x0.length : Int) then (if x13 < (x1.length : Int) then (if (rd x0 x13) = (rd x1 x13) then (slices_Equal_int_int.l0 k x0 x1 x12 (wrap64 (x13 + 1))) else (some false)) else (none)) else (none)) else (none)) else (some true)
def slices_Equal_int_int.f (k : Nat) (l0 : List Int) (l1 : List Int) : Option (Bool) := if (l0.length : Int) = (l1.length : Int) then (slices_Equal_int_int.l0 k l0 l1 (l0.length : Int) 0) else (some false)
theorem slices_Equal_int_int.mono_l : ∀ k, (∀ y0 y1 y2 y3, LeO (slices_Equal_int_int.l0 k y0 y1 y2 y3) (slices_Equal_int_int.l0 (k + 1) y0 y1 y2 y3))
 | 0 => fun _ _ _ _ r h => by simp [slices_Equal_int_int.l0] at h
 | k + 1 => by
  have ih0 := slices_Equal_int_int.mono_l k
  ·
   intro y0 y1 y2 y3
   unfold slices_Equal_int_int.l0
   repeat' first
   | (with_reducible exact ih0 _ _ _ _)
   | (with_reducible exact LeO.refl _)
   | (with_reducible exact LeO.none _)
   | (with_reducible refine LeO.ite ?_ ?_)
   | (with_reducible refine LeO.bind ?_ (fun _ => ?_))
   | exact ih0 _ _ _ _
   | exact LeO.none _
   | refine LeO.ite ?_ ?_
   | refine LeO.bind ?_ (fun _ => ?_)
theorem slices_Equal_int_int.mono : ∀ a0 a1 k, LeO (slices_Equal_int_int.f k a0 a1) (slices_Equal_int_int.f (k + 1) a0 a1) := by
 intro a0 a1 k
 have ih0 := slices_Equal_int_int.mono_l k
 unfold slices_Equal_int_int.f
 repeat' first
   | (with_reducible exact ih0 _ _ _ _)
   | (with_reducible exact LeO.refl _)
   | (with_reducible exact LeO.none _)
   | (with_reducible refine LeO.ite ?_ ?_)
   | (with_reducible refine LeO.bind ?_ (fun _ => ?_))
   | exact ih0 _ _ _ _
   | exact LeO.none _
   | refine LeO.ite ?_ ?_
   | refine LeO.bind ?_ (fun _ => ?_)
set_option maxHeartbeats 8000000 in
set_option maxRecDepth 100000 in
theorem slices_Equal_int_int.calls (k : Nat) (A0 : Option Addr) (c0 : Nat) (l0 : List Int) (A1 : Option Addr) (c1 : Nat) (l1 : List Int) (r : Bool) (w : World) (hr0 : Kd.C (Kd.int .i64) w A0 l0.length l0) (hc0 : l0.length ≤ c0) (hr1 : Kd.C (Kd.int .i64) w A1 l1.length l1) (hc1 : l1.length ≤ c1) (h : slices_Equal_int_int.f k l0 l1 = some r) :
  Calls Try.prog 38 #[.slice A0 l0.length c0, .slice A1 l1.length c1] w fun e w' => e = .returned (.bool r) ∧ Drawn0 w w' := by
 have HR0 := aM hr0
 have HC0 := aM hc0
 clear hr0 hc0
 have HR1 := aM hr1
 have HC1 := aM hc1
 clear hr1 hc1
 have H : (if (l0.length : Int) = (l1.length : Int) then (slices_Equal_int_int.l0 k l0 l1 (l0.length : Int) 0) else (some false)) = some r := h
 clear h
 by_cases c3 : (l0.length : Int) = (l1.length : Int)
 ·
  rw [if_pos c3] at H
  have c3b0 : ((l0.length : Int) == (l1.length : Int)) = true := beq_iff_eq.mpr c3
  have c3b1 : ((l0.length : Int) != (l1.length : Int)) = false := bne_eq_false_iff_eq.mpr c3
  have c3b2 : (l0.length == l1.length) = true := by first | simpa using c3 | (simp at c3 ⊢; omega)
  clear c3
  have H' := aM H
  clear H
  go_enter Try.func38, Try.ntmps38
  go_wp2
  repeat (go_quiet (fail); try go_wp2)
  go_loopg [13] k (fun kq v13 w' => ∃ (x13_1 : Int), v13 = .int .i64 x13_1 ∧ Aside0 (slices_Equal_int_int.l0 kq l0 l1 (l0.length : Int) x13_1 = some r) ∧ Aside0 (kq ≤ k) ∧ Drawn0 w w')
  case atStart => exact ⟨(0), (by first | rfl | (simp; done) | (simp [*]; done)), H', ⟨Nat.le_refl _⟩, by repeat (first | exact Drawn0.refl _ | apply Drawn0.step)⟩
  case round =>
   clear H'
   try clear c1
   try clear p2
   try clear c3
   try clear c3b0
   try clear c3b1
   try clear c3b2
   obtain ⟨x13_1, rfl, HA, HK1, ⟨m1, rfl⟩⟩ := hrel
   cases gk with
   | zero => exact absurd HA.out (by simp [slices_Equal_int_int.l0])
   | succ k1 =>
    have H := HA.out
    clear HA
    simp only [slices_Equal_int_int.l0] at H
    by_cases c4 : x13_1 < (l0.length : Int)
    ·
     rw [if_pos c4] at H
     have c4b0 : decide (x13_1 < (l0.length : Int)) = true := decide_eq_true c4
     clear c4
     by_cases c5 : 0 ≤ x13_1
     ·
      rw [if_pos c5] at H
      have c5b0 : decide (0 ≤ x13_1) = true := decide_eq_true c5
      clear c5
      by_cases c6 : x13_1 < (l0.length : Int)
      ·
       rw [if_pos c6] at H
       have c6b0 : decide (x13_1 < (l0.length : Int)) = true := decide_eq_true c6
       clear c6
       by_cases c7 : x13_1 < (l1.length : Int)
       ·
        rw [if_pos c7] at H
        have c7b0 : decide (x13_1 < (l1.length : Int)) = true := decide_eq_true c7
        clear c7
        by_cases c8 : (rd l0 x13_1) = (rd l1 x13_1)
        ·
         rw [if_pos c8] at H
         have c8b0 : ((rd l0 x13_1) == (rd l1 x13_1)) = true := beq_iff_eq.mpr c8
         have c8b1 : ((rd l0 x13_1) != (rd l1 x13_1)) = false := bne_eq_false_iff_eq.mpr c8
         clear c8
         have H' := aM H
         clear H
         have p301 : 0 ≤ (x13_1 : Int) := of_decide_eq_true (by assumption)
         have q301 : x13_1 < (l0.length : Int) := of_decide_eq_true (by assumption)
         obtain ⟨ad301, e301, hx301_0⟩ := Kd.at_int HR0.out x13_1 p301 q301
         cases e301
         replace p301 := eq_true p301
         replace q301 := eq_true q301
         have p302 : 0 ≤ (x13_1 : Int) := of_decide_eq_true (by assumption)
         have q302 : x13_1 < (l1.length : Int) := of_decide_eq_true (by assumption)
         obtain ⟨ad302, e302, hx302_0⟩ := Kd.at_int HR1.out x13_1 p302 q302
         cases e302
         replace p302 := eq_true p302
         replace q302 := eq_true q302
         go_wp2
         repeat (go_quiet (fail); try go_wp2)
         go_roundg k1
         case measure => have := HK1.out; omega
         case rel => exact ⟨(wrap64 (x13_1 + 1)), (by first | rfl | (simp; done) | (simp [*]; done)), H', ⟨by have := HK1.out; omega⟩, by repeat (first | exact Drawn0.refl _ | apply Drawn0.step)⟩
        ·
         rw [if_neg c8] at H
         have c8b0 : ((rd l0 x13_1) == (rd l1 x13_1)) = false := beq_eq_false_iff_ne.mpr c8
         have c8b1 : ((rd l0 x13_1) != (rd l1 x13_1)) = true := bne_iff_ne.mpr c8
         obtain rfl := Option.some.inj H
         have p301 : 0 ≤ (x13_1 : Int) := of_decide_eq_true (by assumption)
         have q301 : x13_1 < (l0.length : Int) := of_decide_eq_true (by assumption)
         obtain ⟨ad301, e301, hx301_0⟩ := Kd.at_int HR0.out x13_1 p301 q301
         cases e301
         replace p301 := eq_true p301
         replace q301 := eq_true q301
         have p302 : 0 ≤ (x13_1 : Int) := of_decide_eq_true (by assumption)
         have q302 : x13_1 < (l1.length : Int) := of_decide_eq_true (by assumption)
         obtain ⟨ad302, e302, hx302_0⟩ := Kd.at_int HR1.out x13_1 p302 q302
         cases e302
         replace p302 := eq_true p302
         replace q302 := eq_true q302
         go_wp2
         repeat (go_quiet (fail); try go_wp2)
         go_ret
         exact ⟨by first | rfl | (simp; done) | (simp [*]; done), by repeat (first | exact Drawn0.refl _ | apply Drawn0.step)⟩
       ·
        rw [if_neg c7] at H
        exact absurd H (by simp)
      ·
       rw [if_neg c6] at H
       exact absurd H (by simp)
     ·
      rw [if_neg c5] at H
      exact absurd H (by simp)
    ·
     rw [if_neg c4] at H
     have c4b0 : decide (x13_1 < (l0.length : Int)) = false := decide_eq_false c4
     clear c4
     obtain rfl := Option.some.inj H
     go_wp2
     repeat (go_quiet (fail); try go_wp2)
     go_ret
     exact ⟨by first | rfl | (simp; done) | (simp [*]; done), by repeat (first | exact Drawn0.refl _ | apply Drawn0.step)⟩
 ·
  rw [if_neg c3] at H
  have c3b0 : ((l0.length : Int) == (l1.length : Int)) = false := beq_eq_false_iff_ne.mpr c3
  have c3b1 : ((l0.length : Int) != (l1.length : Int)) = true := bne_iff_ne.mpr c3
  have c3b2 : (l0.length == l1.length) = false := by first | simpa using c3 | (simp at c3 ⊢; omega)
  obtain rfl := Option.some.inj H
  go_enter Try.func38, Try.ntmps38
  go_wp2
  repeat (go_quiet (fail); try go_wp2)
  go_ret
  exact ⟨by first | rfl | (simp; done) | (simp [*]; done), by repeat (first | exact Drawn0.refl _ | apply Drawn0.step)⟩
end Go.Proofs.Ytdbokdodjekchaa.PFnNoRound
