/- What the Go functions that this law reaches answer, function by function; conditions: those that each contract names. Made for this claim by a program of this session (wip/myprint) over the kit's print. -/
import Derived.Test.YtmkjcoppadegjaaPFnVlanInx0
import Derived.Test.YtmkjcoppadegjaaPFnVlanInx1
import Derived.Test.YtmkjcoppadegjaaPFnVlanInx3
import Derived.Test.YtmkjcoppadegjaaPFnVlanInx4
namespace Go.Proofs.Ytmkjcoppadegjaa.PFnVlanIn
open Go.RowKit Go.Proofs.YtmkjcoppadegjaaW.PrintWords Go.Proofs.YtmkjcoppadegjaaW.PrintLast Go.Proofs.YtmkjcoppadegjaaW.PrintMore
attribute [local go_sem] max2_int min2_int max_two min_two max_three min_three max_four min_four   -- for this text's walks alone
set_option linter.unusedVariables false
set_option linter.unusedSimpArgs false

/-! ### spec_l10One: function 60 -/
def spec_l10One.f (k : Nat) (l0 : List Int) : Option (Int × Int × List Int × Int) := (spec_l21Open.f l0).bind fun bt204 => ((spec_l10Ports.f k bt204.1 bt204.2).bind fun bt207 => (if (bt207.1.length : Int) = 0 then (some (0, 0, ([] : List Int), 1)) else ((spec_l21Rd_pick.f k bt204.1 bt207.2 (bt207.1.length : Int)).bind fun bt211 => (if 0 ≤ bt211.1 then (if bt211.1 < (bt207.1.length : Int) then ((spec_l21Rd_num.f k bt204.1 bt211.2 (([1, 2, 3, 0, 4, 9, 10, (-1), 5, 7] : List Int))).bind fun bt217 => (some ((rd_T27 bt207.1 bt211.1).f0, (rd_T27 bt207.1 bt211.1).f1, (rd_T27 bt207.1 bt211.1).f2, bt217.1))) else (none)) else (none)))))
theorem spec_l10One.mono : ∀ a0 k, LeO (spec_l10One.f k a0) (spec_l10One.f (k + 1) a0) := by
  intro a0 k
  unfold spec_l10One.f
  repeat' first
      | (with_reducible exact spec_l10Ports.mono _ _ _)
      | (with_reducible exact spec_l21Rd_num.mono _ _ _ _)
      | (with_reducible exact spec_l21Rd_pick.mono _ _ _ _)
      | (with_reducible exact LeO.refl _)
      | (with_reducible exact LeO.none _)
      | (with_reducible refine LeO.ite ?_ ?_)
      | (with_reducible refine LeO.bind ?_ (fun _ => ?_))
      | exact spec_l10Ports.mono _ _ _
      | exact spec_l21Rd_num.mono _ _ _ _
      | exact spec_l21Rd_pick.mono _ _ _ _
      | exact LeO.none _
      | refine LeO.ite ?_ ?_
      | refine LeO.bind ?_ (fun _ => ?_)
def spec_l10One.T5 : Bool × List (List Nat × List Nat) := (true, [([], []), ([], []), ([], []), ([2], [2]), ([1, 3], [1, 3]), ([0, 4], [0, 4]), ([5], [5]), ([], []), ([], []), ([7, 8, 4], [7, 8]), ([6, 9, 0, 1, 2, 3, 4, 5, 6], [6]), ([9, 10, 0, 1, 2, 3, 4, 5, 6, 7, 8, 9, 10], [9])])
def spec_l10One.B5 : List Nat := [0, 0, 0, 4, 14, 31, 63, 0, 0, 414, 1023, 2047]
theorem spec_l10One.tab5 : rtab .any (opsOf Try.f60 5) = spec_l10One.T5 := by kernel_rfl
theorem spec_l10One.bits5 : waitsOk spec_l10One.T5.2 spec_l10One.B5 = true := by kernel_rfl
set_option maxHeartbeats 8000000 in
set_option maxRecDepth 100000 in
theorem spec_l10One.calls (k : Nat) (A0 : Option Addr) (c0 : Nat) (l0 : List Int) (r1 : Int) (r2 : Int) (r3 : List Int) (r4 : Int) (w : World) (hr0 : Kd.C (Kd.int .u8) w A0 l0.length l0) (hc0 : l0.length ≤ c0) (h : spec_l10One.f k l0 = some (r1, r2, r3, r4)) :
    Calls Try.prog 60 #[.slice A0 l0.length c0] w fun e w' => ∃ v2_ : Value, e = .returned (.tuple #[.agg #[.int .i64 r1, .int .i64 r2, v2_], .int .i64 r4]) ∧ Kd.R (Kd.int .i64) 3 w' w.heap.size (fun _ => True) v2_ r3 ∧ Below w.heap.size w w' := by
  have hu27 := Try.underlying27
  have HR0 := Aside0.mk hr0
  have HC0 := Aside0.mk hc0
  clear hr0 hc0
  have HB := Aside0.mk (Below.refl w.heap.size w)
  have H : ((spec_l21Open.f l0).bind fun bt204 => ((spec_l10Ports.f k bt204.1 bt204.2).bind fun bt207 => (if (bt207.1.length : Int) = 0 then (some (0, 0, ([] : List Int), 1)) else ((spec_l21Rd_pick.f k bt204.1 bt207.2 (bt207.1.length : Int)).bind fun bt211 => (if 0 ≤ bt211.1 then (if bt211.1 < (bt207.1.length : Int) then ((spec_l21Rd_num.f k bt204.1 bt211.2 (([1, 2, 3, 0, 4, 9, 10, (-1), 5, 7] : List Int))).bind fun bt217 => (some ((rd_T27 bt207.1 bt211.1).f0, (rd_T27 bt207.1 bt211.1).f1, (rd_T27 bt207.1 bt211.1).f2, bt217.1))) else (none)) else (none)))))) = some (r1, r2, r3, r4) := h
  clear h
  replace H := Option.bind_eq_some_iff.mp H
  obtain ⟨⟨t204, t205⟩, A20, H⟩ := H
  replace H : ((spec_l10Ports.f k t204 t205).bind fun bt207 => (if (bt207.1.length : Int) = 0 then (some (0, 0, ([] : List Int), 1)) else ((spec_l21Rd_pick.f k t204 bt207.2 (bt207.1.length : Int)).bind fun bt211 => (if 0 ≤ bt211.1 then (if bt211.1 < (bt207.1.length : Int) then ((spec_l21Rd_num.f k t204 bt211.2 (([1, 2, 3, 0, 4, 9, 10, (-1), 5, 7] : List Int))).bind fun bt217 => (some ((rd_T27 bt207.1 bt211.1).f0, (rd_T27 bt207.1 bt211.1).f1, (rd_T27 bt207.1 bt211.1).f2, bt217.1))) else (none)) else (none))))) = some (r1, r2, r3, r4) := H
  have A2 := Aside0.mk A20
  clear A20
  replace H := Option.bind_eq_some_iff.mp H
  obtain ⟨⟨t207, t210⟩, A30, H⟩ := H
  replace H : (if (t207.length : Int) = 0 then (some (0, 0, ([] : List Int), 1)) else ((spec_l21Rd_pick.f k t204 t210 (t207.length : Int)).bind fun bt211 => (if 0 ≤ bt211.1 then (if bt211.1 < (t207.length : Int) then ((spec_l21Rd_num.f k t204 bt211.2 (([1, 2, 3, 0, 4, 9, 10, (-1), 5, 7] : List Int))).bind fun bt217 => (some ((rd_T27 t207 bt211.1).f0, (rd_T27 t207 bt211.1).f1, (rd_T27 t207 bt211.1).f2, bt217.1))) else (none)) else (none)))) = some (r1, r2, r3, r4) := H
  have A3 := Aside0.mk A30
  clear A30
  by_cases c4 : (t207.length : Int) = 0
  · rw [if_pos c4] at H
    have c4b0 : ((t207.length : Int) == 0) = true := beq_iff_eq.mpr c4
    have c4b1 : ((t207.length : Int) != 0) = false := bne_eq_false_iff_eq.mpr c4
    clear c4
    simp only [Option.some.injEq, Prod.mk.injEq] at H
    obtain ⟨rfl, rfl, rfl, rfl⟩ := H
    go_enter Try.func60, Try.ntmps60
    go_wp2_with (first | ((with_reducible refine gate_dst (N := 2) rfl ?_); refine box_event ?hg (N := 2) ?hd (cs := #[.int .i64 0, .int .i64 0, .slice none 0 0]) (t := 27) ?hr ?_; (case hd => rfl); (case hg => rfl); (case hr => first | (go_simp; done) | (go_simp; rfl)); intro gb203 hg w5 hbox hb; have n0_ := Aside0.mk (below_step (by repeat (first | (with_reducible first | exact HB.out | apply below_alloc | apply pw_below_drewN | apply below_drew1) | exact HB.out)) hb); have n1_ := Aside0.mk (hbox); have n2_ := Aside0.mk ((by rw [hg]; exact (below_size (by repeat (first | (with_reducible first | exact HB.out | apply below_alloc | apply pw_below_drewN | apply below_drew1) | exact HB.out))) : w.heap.size ≤ gb203)); have n3_ := Aside0.mk ((by rw [hg]; exact (below_size (by repeat (first | (with_reducible first | exact HB.out | apply below_alloc | apply pw_below_drewN | apply below_drew1) | exact HB.out))) : w.heap.size ≤ gb203)); clear HB; have HB := n0_; have BK203 := n1_; have GW203 := n2_; have GE203 := n3_; clear n0_ n1_ n2_ n3_; clear hb hbox hg) | ((with_reducible refine gate_callee (f := 61) rfl ?_); refine goesL_ (some 7) rfl rfl Try.func61 (by kernel_rfl) rfl #[.slice A0 l0.length c0] rfl (by (try simp only [List.map_toArray, List.map_cons, List.map_nil]); first | done | rfl | (simp only [List.length_drop, List.length_take]; rfl)) ?_; (with_reducible refine (spec_l21Open.calls _ _ l0 t204 t205 w _ ?side1 ?side2 ?side3 A2.out).mono ?_); (case side1 => repeat (first | (with_reducible first | exact HB.out | apply below_alloc | apply pw_below_drewN | apply below_drew1 | refine below_set ?_ GE203.out) | exact HB.out)); (case side2 => exact HR0.out); (case side3 => exact HC0.out); rintro e w6 ⟨g206, rfl, hi, hb, hb2⟩; refine ⟨_, rfl, ?_⟩; have n0_ := Aside0.mk (blk_below (g := gb203) (o := .cells #[.int .i64 0, .int .i64 0, .slice none 0 0] 27 (0, 0)) (by (with_reducible repeat (first | refine blk_drewN ?_ _ | refine blk_drew ?_ | refine blk_alloc ?_ _)); exact BK203.out) hb2); have n1_ := Aside0.mk (hb); have n2_ := Aside0.mk (hi); have n3_ := Aside0.mk (IsS77.ne_blk hi (blk_below (g := gb203) (o := .cells #[.int .i64 0, .int .i64 0, .slice none 0 0] 27 (0, 0)) (by (with_reducible repeat (first | refine blk_drewN ?_ _ | refine blk_drew ?_ | refine blk_alloc ?_ _)); exact BK203.out) hb2) (by decide)); have n4_ := Aside0.mk (Ne.symm (IsS77.ne_blk hi (blk_below (g := gb203) (o := .cells #[.int .i64 0, .int .i64 0, .slice none 0 0] 27 (0, 0)) (by (with_reducible repeat (first | refine blk_drewN ?_ _ | refine blk_drew ?_ | refine blk_alloc ?_ _)); exact BK203.out) hb2) (by decide))); clear BK203; clear HB; have BK203 := n0_; have HB := n1_; have HI206 := n2_; have NB206_203 := n3_; have NB203_206 := n4_; clear n0_ n1_ n2_ n3_ n4_; (try clear hb); (try clear hb2); (try clear hk); (try clear hi)) | ((with_reducible refine gate_callee (f := 62) rfl ?_); refine goesL_ (some 9) rfl rfl Try.func62 (by kernel_rfl) rfl #[.pointer (some ⟨g206, 0, none⟩)] rfl (by (try simp only [List.map_toArray, List.map_cons, List.map_nil]); first | done | rfl | (simp only [List.length_drop, List.length_take]; rfl)) ?_; (with_reducible refine (spec_l10Ports.calls k g206 t204 t205 t207 t210 w _ ?side1 ?side2 A3.out).mono ?_); (case side1 => repeat (first | (with_reducible first | exact HI206.out | apply IsS77.alloc | apply IsS77.drewN | apply IsS77.drew | apply IsS77.set_1 | refine IsS77.far ?_ NB206_203.out _) | exact HI206.out)); (case side2 => repeat (first | (with_reducible first | exact HB.out | apply below_alloc | apply pw_below_drewN | apply below_drew1 | refine below_set ?_ (IsS77.ge HI206.out) | refine below_set ?_ GE203.out) | exact HB.out)); rintro e w7 ⟨v208, rfl, ho0, hi, hb, hk⟩; refine ⟨_, rfl, ?_⟩; have n0_ := Aside0.mk (KeepBut.blk hk (g' := gb203) (o := .cells #[.int .i64 0, .int .i64 0, .slice none 0 0] 27 (0, 0)) (by (with_reducible repeat (first | refine blk_drewN ?_ _ | refine blk_drew ?_ | refine blk_alloc ?_ _)); exact BK203.out) NB203_206.out (by simp)); have n1_ := Aside0.mk (Kd.S_lower (Kd.S_newB ho0 (g := gb203) (o := .cells #[.int .i64 0, .int .i64 0, .slice none 0 0] 27 (0, 0)) (by (with_reducible repeat (first | refine blk_drewN ?_ _ | refine blk_drew ?_ | refine blk_alloc ?_ _)); exact BK203.out)) (below_size (by repeat (first | (with_reducible first | exact HB.out | apply below_alloc | apply pw_below_drewN | apply below_drew1 | refine below_set ?_ (IsS77.ge HI206.out) | refine below_set ?_ GE203.out) | exact HB.out)))); have n2_ := Aside0.mk (hb); have n3_ := Aside0.mk (hi); clear BK203; clear HB; clear HI206; have BK203 := n0_; have HO209 := n1_; have HB := n2_; have HI206 := n3_; clear n0_ n1_ n2_ n3_; (try clear hb); (try clear hb2); (try clear hk); (try clear hi); (try clear ho0); obtain ⟨Ao8, co8, eo8⟩ := Kd.S_slice HO209.out; subst eo8; have hnb9 := NB203_206.out; have hnc9 := NB206_203.out; have hcz10_0 : w7.cell? ⟨gb203, 0, none⟩ = some (.int .i64 0) := (blk_cell BK203.out 0).trans rfl; have hcz10_1 : w7.cell? ⟨gb203, 1, none⟩ = some (.int .i64 0) := (blk_cell BK203.out 1).trans rfl; have hcz10_2 : w7.cell? ⟨gb203, 2, none⟩ = some (.slice none 0 0) := (blk_cell BK203.out 2).trans rfl; have hfz10_0 := blk_frozen BK203.out 0; have hfz10_1 := blk_frozen BK203.out 1; have hfz10_2 := blk_frozen BK203.out 2))
    refine bodyPost_ret (results_ct rfl _ _ gb203 27 #[.int .i64 0, .int .i64 0, .slice none 0 0] (0, 0) _ rfl (by (with_reducible repeat (first | refine blk_drewN ?_ _ | refine blk_drew ?_ | refine blk_alloc ?_ _)); refine blk_put (cs := #[.int .i64 0, .int .i64 0, .slice none 0 0]) ?_ 2 _ rfl; (with_reducible repeat (first | refine blk_drewN ?_ _ | refine blk_drew ?_ | refine blk_alloc ?_ _)); refine blk_put (cs := #[.int .i64 0, .int .i64 0, .slice none 0 0]) ?_ 1 _ rfl; (with_reducible repeat (first | refine blk_drewN ?_ _ | refine blk_drew ?_ | refine blk_alloc ?_ _)); refine blk_put (cs := #[.int .i64 0, .int .i64 0, .slice none 0 0]) ?_ 0 _ rfl; (with_reducible repeat (first | refine blk_drewN ?_ _ | refine blk_drew ?_ | refine blk_alloc ?_ _)); exact BK203.out) Try.underlying27 rfl (by kernel_rfl)) rfl ?_
    exact ⟨_, by first | rfl | (simp [errW_none, errW_some] <;> rfl) | (simp [*, errW_none, errW_some] <;> rfl), by first | exact Kd.R_nil _ _ _ _ _ | exact Kd.N_nil _ _ _ _ _ | exact Kd.V_nil _ _ _ _ _ | exact Kd.Q_nil _ _ _ _ _ | exact Kd.S_nil _ _ _ _ _, by repeat (first | (with_reducible first | exact HB.out | apply below_alloc | apply pw_below_drewN | apply below_drew1 | refine below_set ?_ (IsS77.ge HI206.out) | refine below_set ?_ GE203.out) | exact HB.out)⟩
  · rw [if_neg c4] at H
    have c4b0 : ((t207.length : Int) == 0) = false := beq_eq_false_iff_ne.mpr c4
    have c4b1 : ((t207.length : Int) != 0) = true := bne_iff_ne.mpr c4
    have c4b2 : ¬ (t207 = []) := fun h_ => c4 (by rw [h_]; rfl)
    replace H := Option.bind_eq_some_iff.mp H
    obtain ⟨⟨t211, t212⟩, A110, H⟩ := H
    replace H : (if 0 ≤ t211 then (if t211 < (t207.length : Int) then ((spec_l21Rd_num.f k t204 t212 (([1, 2, 3, 0, 4, 9, 10, (-1), 5, 7] : List Int))).bind fun bt217 => (some ((rd_T27 t207 t211).f0, (rd_T27 t207 t211).f1, (rd_T27 t207 t211).f2, bt217.1))) else (none)) else (none)) = some (r1, r2, r3, r4) := H
    have A11 := Aside0.mk A110
    clear A110
    by_cases c12 : 0 ≤ t211
    · rw [if_pos c12] at H
      have c12b0 : decide (0 ≤ t211) = true := decide_eq_true c12
      clear c12
      by_cases c13 : t211 < (t207.length : Int)
      · rw [if_pos c13] at H
        have c13b0 : decide (t211 < (t207.length : Int)) = true := decide_eq_true c13
        clear c13
        obtain ⟨y214, hy214⟩ : ∃ y_ : List Int, y_ = (([1, 2, 3, 0, 4, 9, 10, (-1), 5, 7] : List Int)) := ⟨_, rfl⟩
        replace H : ((spec_l21Rd_num.f k t204 t212 y214).bind fun bt217 => (some ((rd_T27 t207 t211).f0, (rd_T27 t207 t211).f1, (rd_T27 t207 t211).f2, bt217.1))) = some (r1, r2, r3, r4) := by first | (rw [hy214]; with_reducible exact H) | (have H2_ := (Option.bind_some _ _).symm.trans H; rw [hy214]; with_reducible exact H2_) | (have H2_ := (Option.bind_some _ _).symm.trans H; with_reducible exact H2_) | with_reducible exact H | (rw [hy214]; exact H) | exact H
        have Ny214 := Aside0.mk hy214
        clear hy214
        replace H := Option.bind_eq_some_iff.mp H
        obtain ⟨⟨t217, t218⟩, A140, H⟩ := H
        replace H : (some ((rd_T27 t207 t211).f0, (rd_T27 t207 t211).f1, (rd_T27 t207 t211).f2, t217)) = some (r1, r2, r3, r4) := H
        have A14 := Aside0.mk A140
        clear A140
        simp only [Option.some.injEq, Prod.mk.injEq] at H
        obtain ⟨rfl, rfl, rfl, rfl⟩ := H
        go_enter Try.func60, Try.ntmps60
        try go_wp2_with (first | ((with_reducible refine gate_dst (N := 2) rfl ?_); refine box_event ?hg (N := 2) ?hd (cs := #[.int .i64 0, .int .i64 0, .slice none 0 0]) (t := 27) ?hr ?_; (case hd => rfl); (case hg => rfl); (case hr => first | (go_simp; done) | (go_simp; rfl)); intro gb203 hg w15 hbox hb; have n0_ := Aside0.mk (below_step (by repeat (first | (with_reducible first | exact HB.out | apply below_alloc | apply pw_below_drewN | apply below_drew1) | exact HB.out)) hb); have n1_ := Aside0.mk (hbox); have n2_ := Aside0.mk ((by rw [hg]; exact (below_size (by repeat (first | (with_reducible first | exact HB.out | apply below_alloc | apply pw_below_drewN | apply below_drew1) | exact HB.out))) : w.heap.size ≤ gb203)); have n3_ := Aside0.mk ((by rw [hg]; exact (below_size (by repeat (first | (with_reducible first | exact HB.out | apply below_alloc | apply pw_below_drewN | apply below_drew1) | exact HB.out))) : w.heap.size ≤ gb203)); clear HB; have HB := n0_; have BK203 := n1_; have GW203 := n2_; have GE203 := n3_; clear n0_ n1_ n2_ n3_; clear hb hbox hg) | ((with_reducible refine gate_callee (f := 61) rfl ?_); refine goesL_ (some 7) rfl rfl Try.func61 (by kernel_rfl) rfl #[.slice A0 l0.length c0] rfl (by (try simp only [List.map_toArray, List.map_cons, List.map_nil]); first | done | rfl | (simp only [List.length_drop, List.length_take]; rfl)) ?_; (with_reducible refine (spec_l21Open.calls _ _ l0 t204 t205 w _ ?side1 ?side2 ?side3 A2.out).mono ?_); (case side1 => repeat (first | (with_reducible first | exact HB.out | apply below_alloc | apply pw_below_drewN | apply below_drew1 | refine below_set ?_ GE203.out) | exact HB.out)); (case side2 => exact HR0.out); (case side3 => exact HC0.out); rintro e w16 ⟨g206, rfl, hi, hb, hb2⟩; refine ⟨_, rfl, ?_⟩; have n0_ := Aside0.mk (blk_below (g := gb203) (o := .cells #[.int .i64 0, .int .i64 0, .slice none 0 0] 27 (0, 0)) (by (with_reducible repeat (first | refine blk_drewN ?_ _ | refine blk_drew ?_ | refine blk_alloc ?_ _)); exact BK203.out) hb2); have n1_ := Aside0.mk (hb); have n2_ := Aside0.mk (hi); have n3_ := Aside0.mk (IsS77.ne_blk hi (blk_below (g := gb203) (o := .cells #[.int .i64 0, .int .i64 0, .slice none 0 0] 27 (0, 0)) (by (with_reducible repeat (first | refine blk_drewN ?_ _ | refine blk_drew ?_ | refine blk_alloc ?_ _)); exact BK203.out) hb2) (by decide)); have n4_ := Aside0.mk (Ne.symm (IsS77.ne_blk hi (blk_below (g := gb203) (o := .cells #[.int .i64 0, .int .i64 0, .slice none 0 0] 27 (0, 0)) (by (with_reducible repeat (first | refine blk_drewN ?_ _ | refine blk_drew ?_ | refine blk_alloc ?_ _)); exact BK203.out) hb2) (by decide))); clear BK203; clear HB; have BK203 := n0_; have HB := n1_; have HI206 := n2_; have NB206_203 := n3_; have NB203_206 := n4_; clear n0_ n1_ n2_ n3_ n4_; (try clear hb); (try clear hb2); (try clear hk); (try clear hi)) | ((with_reducible refine gate_callee (f := 62) rfl ?_); refine goesL_ (some 9) rfl rfl Try.func62 (by kernel_rfl) rfl #[.pointer (some ⟨g206, 0, none⟩)] rfl (by (try simp only [List.map_toArray, List.map_cons, List.map_nil]); first | done | rfl | (simp only [List.length_drop, List.length_take]; rfl)) ?_; (with_reducible refine (spec_l10Ports.calls k g206 t204 t205 t207 t210 w _ ?side1 ?side2 A3.out).mono ?_); (case side1 => repeat (first | (with_reducible first | exact HI206.out | apply IsS77.alloc | apply IsS77.drewN | apply IsS77.drew | apply IsS77.set_1 | refine IsS77.far ?_ NB206_203.out _) | exact HI206.out)); (case side2 => repeat (first | (with_reducible first | exact HB.out | apply below_alloc | apply pw_below_drewN | apply below_drew1 | refine below_set ?_ (IsS77.ge HI206.out) | refine below_set ?_ GE203.out) | exact HB.out)); rintro e w17 ⟨v208, rfl, ho0, hi, hb, hk⟩; refine ⟨_, rfl, ?_⟩; have n0_ := Aside0.mk (KeepBut.blk hk (g' := gb203) (o := .cells #[.int .i64 0, .int .i64 0, .slice none 0 0] 27 (0, 0)) (by (with_reducible repeat (first | refine blk_drewN ?_ _ | refine blk_drew ?_ | refine blk_alloc ?_ _)); exact BK203.out) NB203_206.out (by simp)); have n1_ := Aside0.mk (Kd.S_lower (Kd.S_newB ho0 (g := gb203) (o := .cells #[.int .i64 0, .int .i64 0, .slice none 0 0] 27 (0, 0)) (by (with_reducible repeat (first | refine blk_drewN ?_ _ | refine blk_drew ?_ | refine blk_alloc ?_ _)); exact BK203.out)) (below_size (by repeat (first | (with_reducible first | exact HB.out | apply below_alloc | apply pw_below_drewN | apply below_drew1 | refine below_set ?_ (IsS77.ge HI206.out) | refine below_set ?_ GE203.out) | exact HB.out)))); have n2_ := Aside0.mk (hb); have n3_ := Aside0.mk (hi); clear BK203; clear HB; clear HI206; have BK203 := n0_; have HO209 := n1_; have HB := n2_; have HI206 := n3_; clear n0_ n1_ n2_ n3_; (try clear hb); (try clear hb2); (try clear hk); (try clear hi); (try clear ho0); obtain ⟨Ao18, co18, eo18⟩ := Kd.S_slice HO209.out; subst eo18))
        have n0_ := Aside0.mk (Kd.S_drew HO209.out)
        have n1_ := Aside0.mk (blk_drew BK203.out)
        have n2_ := Aside0.mk (IsS77.drew HI206.out)
        have n3_ := Aside0.mk (below_drew1 HB.out)
        clear HO209
        clear BK203
        clear HI206
        clear HB
        have HO209 := n0_
        have BK203 := n1_
        have HI206 := n2_
        have HB := n3_
        clear n0_ n1_ n2_ n3_
        have p213 : 0 ≤ (t211 : Int) := of_decide_eq_true (by first | (with_reducible assumption) | assumption)
        have q213 : t211 < (t207.length : Int) := of_decide_eq_true (by first | (with_reducible assumption) | assumption)
        obtain ⟨ad213, A213_2, c213_2, e213, hx213_0, hx213_1, hx213_2, hl213_2, hi213_2⟩ := at_T27 (Kd.S_reads' HO209.out).2.2 t211 p213 q213
        cases e213
        obtain ⟨ce213, hce213, hMe213, hcc213⟩ := Kd.S_get HO209.out z27 t211 p213 (by first | exact q213 | exact of_decide_eq_true (by first | (with_reducible assumption) | assumption) | (have e_ := (Kd.S_reads' HO209.out).1; omega))
        obtain ⟨ve213_2, rfl, ge213_2⟩ := k27_openM hMe213
        have hv213_2 := hcc213 2 _ rfl
        rw [add_field _ _ 2 (by omega)] at hv213_2
        replace hv213_2 := Option.some.inj (hv213_2.symm.trans hx213_2)
        rw [hv213_2] at ge213_2
        have HL213_2 := Aside0.mk (show Kd.R (Kd.int .i64) 3 _ _ _ _ ((rd_T27 t207 t211).f2) from ge213_2)
        clear hv213_2 ge213_2
        clear hcc213 hce213
        have HR213_2 := Aside0.mk hi213_2
        have HC213_2 := Aside0.mk hl213_2
        clear hi213_2 hl213_2
        replace p213 := eq_true p213
        replace q213 := eq_true q213
        refine start_ (n := 12) (S := fun w' => True) (ds := []) #[false, false, false, false, false, false, false, false, false, false, false, false] (by kernel_rfl) rfl rfl trivial (fun hHeld => ?_); refine with_tabW spec_l10One.tab5 spec_l10One.bits5 (fun HT_ HW_ => ?_)
        generalize w17.drew = w19 at HO209 BK203 HI206 HB HL213_2 HR213_2 hx213_0 hx213_1 hx213_2 hHeld ⊢
        refine pure_ (i := 0) (N := some 14) (v := ?_) (a' := ?_) #[true, false, false, false, false, false, false, false, false, false, false, false] rfl rfl (any_of HT_.out (by kernel_rfl)) (fun _ _ _ h => h) (Or.inl ⟨by rfl, ?_⟩) ?_ ?_
        rotate_left
        · intro w'
          go_simp
          with_reducible rfl
        rotate_left
        · simp only [Act.put, List.setIfInBounds_toArray, List.set_cons_zero, List.set_cons_succ, i64_w, i32_w]
          rfl
        refine pure_ (i := 1) (N := some 15) (v := ?_) (a' := ?_) #[true, true, false, false, false, false, false, false, false, false, false, false] rfl rfl (any_of HT_.out (by kernel_rfl)) (fun _ _ _ h => h) (Or.inl ⟨by rfl, ?_⟩) ?_ ?_
        rotate_left
        · intro w'
          go_simp
          with_reducible rfl
        rotate_left
        · simp only [Act.put, List.setIfInBounds_toArray, List.set_cons_zero, List.set_cons_succ, i64_w, i32_w]
          rfl
        refine pure_ (i := 2) (N := some 16) (v := ?_) (a' := ?_) #[true, true, true, false, false, false, false, false, false, false, false, false] rfl rfl (any_of HT_.out (by kernel_rfl)) (fun _ _ _ h => h) (Or.inl ⟨by rfl, ?_⟩) ?_ ?_
        rotate_left
        · intro w'
          go_simp
          with_reducible rfl
        rotate_left
        · simp only [Act.put, List.setIfInBounds_toArray, List.set_cons_zero, List.set_cons_succ, i64_w, i32_w]
          rfl
        refine pure_ (i := 7) (N := some 21) (v := ?_) (a' := ?_) #[true, true, true, false, false, false, false, true, false, false, false, false] rfl rfl (any_of HT_.out (by kernel_rfl)) (fun _ _ _ h => h) (Or.inl ⟨by rfl, ?_⟩) ?_ ?_
        rotate_left
        · intro w'
          go_simp
          with_reducible rfl
        rotate_left
        · simp only [Act.put, List.setIfInBounds_toArray, List.set_cons_zero, List.set_cons_succ, i64_w, i32_w]
          rfl
        refine inv_at [3, 4, 5, 6, 8, 9, 10, 11] (fun a0_ b a w' => ∃ (v215 : Value), a = putSel a0_ b [(3, 17, .int .i64 (t207.length : Int)), (4, 18, .int .i64 t211), (5, 19, .pointer (some (ad213.add ((t211).toNat * 3)))), (6, 20, .agg #[.int .i64 ((rd_T27 t207 t211).f0), .int .i64 ((rd_T27 t207 t211).f1), .slice A213_2 ((rd_T27 t207 t211).f2).length c213_2]), (8, 22, v215), (9, 23, .int .i64 t217), (11, 3, .int .i64 t217)] ∧ (Kd.S k27 27 w' w.heap.size (fun k_ => k_ ≠ gb203) (.slice (some ad213) t207.length co18) t207) ∧ (b 10 = false → w'.heap[gb203]? = some (.cells #[.int .i64 0, .int .i64 0, .slice none 0 0] 27 (0, 0))) ∧ (b 4 = false → IsS77 w w' g206 t204 t210) ∧ (Below w.heap.size w w') ∧ (b 4 = true → b 9 = false → IsS77 w w' g206 t204 t212) ∧ (b 8 = true → Kd.R (Kd.int .i64) 3 w' w.heap.size (fun _ => True) v215 y214) ∧ (b 9 = true → IsS77 w w' g206 t204 t218) ∧ (b 10 = true → w'.heap[gb203]? = some (.cells #[.int .i64 ((rd_T27 t207 t211).f0), .int .i64 ((rd_T27 t207 t211).f1), .slice A213_2 ((rd_T27 t207 t211).f2).length c213_2] 27 (0, 0))) ∧ (w'.cell? ⟨(ad213.add ((t211).toNat * 3)).block, (ad213.add ((t211).toNat * 3)).off + 2, none⟩ = some (.slice A213_2 ((rd_T27 t207 t211).f2).length c213_2)) ∧ (Kd.R (Kd.int .i64) 3 w' w.heap.size (fun _ => True) (.slice A213_2 ((rd_T27 t207 t211).f2).length c213_2) ((rd_T27 t207 t211).f2))) HT_.out HW_.out (by kernel_rfl) (by kernel_rfl) ?_ ?_ ?_
        · exact ⟨.bool false, by simp only [putSel, Bool.false_eq_true, if_false], Kd.S_mono HO209.out (fun _ hk => by first | exact hk.2 | exact hk.1 | exact hk), fun _ => BK203.out, fun _ => HI206.out, HB.out, fun h_ => absurd h_ (by decide), fun h_ => absurd h_ (by decide), fun h_ => absurd h_ (by decide), fun h_ => absurd h_ (by decide), (by first | exact hx213_2 | (have h_ := hx213_2; simpa using h_)), Kd.R_mono HL213_2.out (fun _ _ => trivial)⟩
        · skip
          clear BK203 HB HI206 HO209
          refine steps_cons ?_ ?_
          · rintro b a w' ⟨v215, ha, Q_HO209, Q_BK203, Q_HI206, Q_HB, Q_HI206_e4, Q_HO216, Q_HI206_e9, Q_BK203_e10, Q_CL, Q_HL⟩ hb_ hon hoff
            refine ⟨_, rfl, fun K hK => ?_⟩
            have e16 : a.tmps[16]? = some (.slice (some ad213) t207.length co18) := by rw [ha]; exact (putSel_off rfl).trans rfl
            replace ha := Aside0.mk ha
            have HO209 := Aside0.mk Q_HO209
            have BK203 := Aside0.mk (Q_BK203 (hoff 10 (by kernel_rfl)))
            have HI206 := Aside0.mk (Q_HI206 (hoff 4 (by kernel_rfl)))
            have HB := Aside0.mk Q_HB
            refine value_ (w1 := w') (v := .int .i64 (t207.length : Int)) (by rfl) rfl ?_ ?_
            · go_simp
              (try simp only [i64_w])
              try rfl
            refine hK.out _ _ ⟨v215, (by rw [ha.out]; exact putSel_upk 0 hb_ rfl rfl rfl), Q_HO209, Q_BK203, Q_HI206, Q_HB, fun h0_ _ => absurd ((hoff 4 (by kernel_rfl)).symm.trans h0_) (by decide), Q_HO216, fun h0_ => absurd ((hoff 9 (by kernel_rfl)).symm.trans h0_) (by decide), fun h0_ => absurd ((hoff 10 (by kernel_rfl)).symm.trans h0_) (by decide), (by with_reducible first | exact z_CL | exact Q_CL), (by with_reducible first | exact z_HL | exact Q_HL)⟩
          refine steps_cons ?_ ?_
          · rintro b a w' ⟨v215, ha, Q_HO209, Q_BK203, Q_HI206, Q_HB, Q_HI206_e4, Q_HO216, Q_HI206_e9, Q_BK203_e10, Q_CL, Q_HL⟩ hb_ hon hoff
            refine ⟨_, rfl, fun K hK => ?_⟩
            have e15 : a.tmps[15]? = some (.pointer (some ⟨g206, 0, none⟩)) := by rw [ha]; exact (putSel_off rfl).trans rfl
            have e17 : a.tmps[17]? = some (.int .i64 (t207.length : Int)) := by rw [ha]; exact putSel_on (e := (3, 17, .int .i64 (t207.length : Int))) 0 rfl rfl (hon 3 (by kernel_rfl)) rfl
            replace ha := Aside0.mk ha
            have HO209 := Aside0.mk Q_HO209
            have BK203 := Aside0.mk (Q_BK203 (hoff 10 (by kernel_rfl)))
            have HI206 := Aside0.mk (Q_HI206 hb_)
            have HB := Aside0.mk Q_HB
            refine goes_ Try.func63 (by kernel_rfl) rfl #[.pointer (some ⟨g206, 0, none⟩), .int .i64 (t207.length : Int)] (by rfl) rfl rfl (by first | (simp only [List.map_toArray, List.map_cons, List.map_nil, Act.eval, Array.getD_eq_getD_getElem?, Option.getD_some, e15, e17]; done) | (simp only [List.map_toArray, List.map_cons, List.map_nil, Act.eval, Array.getD_eq_getD_getElem?, Option.getD_some, e15, e17]; rfl)) ?_
            with_reducible refine (spec_l21Rd_pick.calls k g206 t204 t210 (t207.length : Int) t211 t212 w _ ?side1 ?side2 A11.out).mono ?_
            (case side1 => repeat (first | (with_reducible first | exact HI206.out | apply IsS77.alloc | apply IsS77.drewN | apply IsS77.drew | apply IsS77.set_1 | refine IsS77.far ?_ NB206_203.out _) | exact HI206.out))
            (case side2 => repeat (first | (with_reducible first | exact HB.out | apply below_alloc | apply pw_below_drewN | apply below_drew1 | refine below_set ?_ (IsS77.ge HI206.out) | refine below_set ?_ GE203.out) | exact HB.out))
            rintro e w20 ⟨rfl, hi, hb, hk⟩
            refine ⟨_, rfl, ?_⟩
            have z_CL := keep_cell hk Q_CL (fun e_ => (IsS77.own_neS HI206.out HO209.out (by decide)) (by have e2_ : (ad213.add ((t211).toNat * 3)).block = _ := e_; rw [add_block] at e2_; rw [← e2_]; rfl))
            have z_HL := Kd.R_mono (ok' := fun _ => True) (Kd.R_keep (IsS77.apart HI206.out Q_HL (by decide)) hk (fun _ h => h.2)) (fun _ _ => trivial)
            have n0_ := Aside0.mk (KeepBut.blk hk (g' := gb203) (o := .cells #[.int .i64 0, .int .i64 0, .slice none 0 0] 27 (0, 0)) (by (with_reducible repeat (first | refine blk_drewN ?_ _ | refine blk_drew ?_ | refine blk_alloc ?_ _)); exact BK203.out) NB203_206.out (by simp))
            have n1_ := Aside0.mk (Kd.S_mono (Kd.S_keep (IsS77.apartS (show IsS77 w _ g206 t204 t210 from by repeat (first | (with_reducible first | exact HI206.out | apply IsS77.alloc | apply IsS77.drewN | apply IsS77.drew | apply IsS77.set_1 | refine IsS77.far ?_ NB206_203.out _) | exact HI206.out)) (by (with_reducible repeat (first | apply Kd.S_alloc | apply Kd.S_drewN | apply Kd.S_drew)); exact HO209.out) (by decide)) hk (fun _ h => h.2)) (fun _ h => h.1))
            have n2_ := Aside0.mk (hb)
            have n3_ := Aside0.mk (hi)
            have z_HO216 := fun (h0_ : b 8 = true) => (show Kd.R (Kd.int .i64) 3 w20 w.heap.size (fun _ => True) v215 y214 from by first | exact (Kd.R_mono (Kd.R_keep (IsS77.apart (show IsS77 w _ g206 t204 t210 from by repeat (first | (with_reducible first | exact HI206.out | apply IsS77.alloc | apply IsS77.drewN | apply IsS77.drew | apply IsS77.set_1 | refine IsS77.far ?_ NB206_203.out _) | exact HI206.out)) (by (with_reducible repeat (first | apply Kd.R_alloc | apply Kd.R_drewN | apply Kd.R_drew)); exact (Q_HO216 h0_)) (by decide)) hk (fun _ h => h.2)) (fun _ h => h.1)) | exact Kd.R_mono (Kd.R_mono (Kd.R_keep (IsS77.apart (show IsS77 w _ g206 t204 t210 from by repeat (first | (with_reducible first | exact HI206.out | apply IsS77.alloc | apply IsS77.drewN | apply IsS77.drew | apply IsS77.set_1 | refine IsS77.far ?_ NB206_203.out _) | exact HI206.out)) (by (with_reducible repeat (first | apply Kd.R_alloc | apply Kd.R_drewN | apply Kd.R_drew)); exact (Q_HO216 h0_)) (by decide)) hk (fun _ h => h.2)) (fun _ h => h.1)) (fun _ h_ => by first | trivial | exact h_ | exact h_.1))
            clear BK203
            clear HO209
            clear HB
            clear HI206
            have BK203 := n0_
            have HO209 := n1_
            have HB := n2_
            have HI206 := n3_
            clear n0_ n1_ n2_ n3_
            (try clear hb)
            (try clear hb2)
            (try clear hk)
            (try clear hi)
            refine hK.out _ _ ⟨v215, (by rw [ha.out]; exact putSel_upk 1 hb_ rfl rfl rfl), (by (with_reducible repeat (first | apply Kd.S_alloc | apply Kd.S_drewN | apply Kd.S_drew)); exact Kd.S_mono HO209.out (fun _ hk => by first | exact hk.2 | exact hk.1 | exact hk)), fun _ => (by (with_reducible repeat (first | refine blk_drewN ?_ _ | refine blk_drew ?_ | refine blk_alloc ?_ _)); exact BK203.out), fun h0_ => absurd ((up_self b 4).symm.trans h0_) (by decide), (by repeat (first | (with_reducible first | exact HB.out | apply below_alloc | apply pw_below_drewN | apply below_drew1 | refine below_set ?_ (IsS77.ge HI206.out) | refine below_set ?_ GE203.out) | exact HB.out)), fun _ _ => (by repeat (first | (with_reducible first | exact HI206.out | apply IsS77.alloc | apply IsS77.drewN | apply IsS77.drew | apply IsS77.set_1 | refine IsS77.far ?_ NB206_203.out _) | exact HI206.out)), z_HO216, fun h0_ => absurd ((hoff 9 (by kernel_rfl)).symm.trans h0_) (by decide), fun h0_ => absurd ((hoff 10 (by kernel_rfl)).symm.trans h0_) (by decide), (by with_reducible first | exact z_CL | exact Q_CL), (by with_reducible first | exact z_HL | exact Q_HL)⟩
          refine steps_cons ?_ ?_
          · rintro b a w' ⟨v215, ha, Q_HO209, Q_BK203, Q_HI206, Q_HB, Q_HI206_e4, Q_HO216, Q_HI206_e9, Q_BK203_e10, Q_CL, Q_HL⟩ hb_ hon hoff
            refine ⟨_, rfl, fun K hK => ?_⟩
            have e14 : a.tmps[14]? = some (.slice (some ad213) t207.length co18) := by rw [ha]; exact (putSel_off rfl).trans rfl
            have e18 : a.tmps[18]? = some (.int .i64 t211) := by rw [ha]; exact putSel_on (e := (4, 18, .int .i64 t211)) 1 rfl rfl (hon 4 (by kernel_rfl)) rfl
            replace ha := Aside0.mk ha
            have HO209 := Aside0.mk Q_HO209
            have BK203 := Aside0.mk (Q_BK203 (hoff 10 (by kernel_rfl)))
            have HB := Aside0.mk Q_HB
            refine value_ (w1 := w') (v := .pointer (some (ad213.add ((t211).toNat * 3)))) (by rfl) rfl ?_ ?_
            · go_simp
              (try simp only [i64_w])
              try rfl
            refine hK.out _ _ ⟨v215, (by rw [ha.out]; exact putSel_upk 2 hb_ rfl rfl rfl), Q_HO209, Q_BK203, fun h0_ => absurd ((hon 4 (by kernel_rfl)).symm.trans h0_) (by decide), Q_HB, Q_HI206_e4, Q_HO216, Q_HI206_e9, fun h0_ => absurd ((hoff 10 (by kernel_rfl)).symm.trans h0_) (by decide), (by with_reducible first | exact z_CL | exact Q_CL), (by with_reducible first | exact z_HL | exact Q_HL)⟩
          refine steps_cons ?_ ?_
          · rintro b a w' ⟨v215, ha, Q_HO209, Q_BK203, Q_HI206, Q_HB, Q_HI206_e4, Q_HO216, Q_HI206_e9, Q_BK203_e10, Q_CL, Q_HL⟩ hb_ hon hoff
            refine ⟨_, rfl, fun K hK => ?_⟩
            have e19 : a.tmps[19]? = some (.pointer (some (ad213.add ((t211).toNat * 3)))) := by rw [ha]; exact putSel_on (e := (5, 19, .pointer (some (ad213.add ((t211).toNat * 3))))) 2 rfl rfl (hon 5 (by kernel_rfl)) rfl
            replace ha := Aside0.mk ha
            have HO209 := Aside0.mk Q_HO209
            have BK203 := Aside0.mk (Q_BK203 (hoff 10 (by kernel_rfl)))
            have HB := Aside0.mk Q_HB
            obtain ⟨ad213_z, A213_2_z, c213_2_z, e213_z, hx213_0_z, hx213_1_z, hx213_2_z, hl213_2_z, hi213_2_z⟩ := at_T27 (Kd.S_reads' HO209.out).2.2 t211 (of_eq_true p213) (of_eq_true q213)
            cases e213_z
            have hs0_ : w'.cell? (ad213.add ((t211).toNat * 3)) = some (.int .i64 ((rd_T27 t207 t211).f0)) := (by first | exact hx213_0_z | (have h_ := hx213_0_z; (try simp only [Int.reduceToNat, Nat.zero_mul, Nat.reduceMul, Nat.reduceEqDiff, Go.Addr.add, ↓reduceIte, Addr.add_zero'] at h_); exact h_))
            have hs1_ : w'.cell? ⟨(ad213.add ((t211).toNat * 3)).block, (ad213.add ((t211).toNat * 3)).off + 1, none⟩ = some (.int .i64 ((rd_T27 t207 t211).f1)) := (by first | exact hx213_1_z | (have h_ := hx213_1_z; (try simp only [Int.reduceToNat, Nat.zero_mul, Nat.reduceMul, Nat.reduceEqDiff, Go.Addr.add, ↓reduceIte, Addr.add_zero'] at h_); exact h_))
            have hs2_ : w'.cell? ⟨(ad213.add ((t211).toNat * 3)).block, (ad213.add ((t211).toNat * 3)).off + 2, none⟩ = some (.slice A213_2 ((rd_T27 t207 t211).f2).length c213_2) := (by first | exact Q_CL | (have h_ := Q_CL; simpa using h_))
            refine value_ (w1 := w') (v := .agg #[.int .i64 ((rd_T27 t207 t211).f0), .int .i64 ((rd_T27 t207 t211).f1), .slice A213_2 ((rd_T27 t207 t211).f2).length c213_2]) (by rfl) rfl ?_ ?_
            · go_simp
              (try simp only [i64_w])
              try rfl
            refine hK.out _ _ ⟨v215, (by rw [ha.out]; exact putSel_upk 3 hb_ rfl rfl rfl), Q_HO209, Q_BK203, fun h0_ => absurd ((hon 4 (by kernel_rfl)).symm.trans h0_) (by decide), Q_HB, Q_HI206_e4, Q_HO216, Q_HI206_e9, fun h0_ => absurd ((hoff 10 (by kernel_rfl)).symm.trans h0_) (by decide), (by with_reducible first | exact z_CL | exact Q_CL), (by with_reducible first | exact z_HL | exact Q_HL)⟩
          refine steps_cons ?_ ?_
          · rintro b a w' ⟨v215, ha, Q_HO209, Q_BK203, Q_HI206, Q_HB, Q_HI206_e4, Q_HO216, Q_HI206_e9, Q_BK203_e10, Q_CL, Q_HL⟩ hb_ hon hoff
            refine ⟨_, rfl, fun K hK => ?_⟩
            replace ha := Aside0.mk ha
            have HO209 := Aside0.mk Q_HO209
            have BK203 := Aside0.mk (Q_BK203 (hoff 10 (by kernel_rfl)))
            have HB := Aside0.mk Q_HB
            refine Kd.R_lit_step (Kd.int .i64) _ 3 ?hg (N := 22) ?hd (xs := ([1, 2, 3, 0, 4, 9, 10, (-1), 5, 7] : List Int)) (inner := [.int .i64 1, .int .i64 2, .int .i64 3, .int .i64 0, .int .i64 4, .int .i64 9, .int .i64 10, .int .i64 (-1), .int .i64 5, .int .i64 7]) (ok := fun _ => True) (okp := fun _ => True) ?hr ?hp (fun _ hk => hk) trivial (Below.refl _ _) (Nat.le_refl _) (by simp) ?_; (case hd => rfl); (case hg => rfl); (case hr => first | (go_simp; done) | (go_simp; rfl)); (case hp => exact (Reps.one (show Kd.M (Kd.int .i64) _ _ _ 1 [.int .i64 1] from rfl) (Reps.one (show Kd.M (Kd.int .i64) _ _ _ 2 [.int .i64 2] from rfl) (Reps.one (show Kd.M (Kd.int .i64) _ _ _ 3 [.int .i64 3] from rfl) (Reps.one (show Kd.M (Kd.int .i64) _ _ _ 0 [.int .i64 0] from rfl) (Reps.one (show Kd.M (Kd.int .i64) _ _ _ 4 [.int .i64 4] from rfl) (Reps.one (show Kd.M (Kd.int .i64) _ _ _ 9 [.int .i64 9] from rfl) (Reps.one (show Kd.M (Kd.int .i64) _ _ _ 10 [.int .i64 10] from rfl) (Reps.one (show Kd.M (Kd.int .i64) _ _ _ (-1) [.int .i64 (-1)] from rfl) (Reps.one (show Kd.M (Kd.int .i64) _ _ _ 5 [.int .i64 5] from rfl) (Reps.one (show Kd.M (Kd.int .i64) _ _ _ 7 [.int .i64 7] from rfl) (Reps.none _ _))))))))))))
            intro v215 w20 ho21 hb hg_ hnew_
            have z_CL := pw_cell_below hb Q_CL
            have z_HL := Kd.R_below Q_HL hb
            clear hg_ hnew_
            (first | rw [← Ny214.out] at ho21 | (simp only [Int.reduceToNat] at ho21; rw [← Ny214.out] at ho21))
            have n0_ := Aside0.mk (Kd.S_elder' (by (with_reducible repeat (first | apply Kd.S_alloc | apply Kd.S_drewN | apply Kd.S_drew)); exact HO209.out) (Kd.R_base ho21) hb)
            have n1_ := Aside0.mk (Kd.R_lower ho21 (below_size (by repeat (first | (with_reducible first | exact HB.out | apply below_alloc | apply pw_below_drewN | apply below_drew1 | refine below_set ?_ GE203.out) | exact HB.out))))
            have n2_ := Aside0.mk (blk_below (g := gb203) (o := .cells #[.int .i64 0, .int .i64 0, .slice none 0 0] 27 (0, 0)) (by (with_reducible repeat (first | refine blk_drewN ?_ _ | refine blk_drew ?_ | refine blk_alloc ?_ _)); exact BK203.out) hb)
            have n4_ := Aside0.mk (below_step (by repeat (first | (with_reducible first | exact HB.out | apply below_alloc | apply pw_below_drewN | apply below_drew1 | refine below_set ?_ GE203.out) | exact HB.out)) hb)
            have z_HI206 := fun (h0_ : b 4 = false) => (show IsS77 w w20 g206 t204 t210 from by first | exact (IsS77.below (by repeat (first | (with_reducible first | exact (Q_HI206 h0_) | apply IsS77.alloc | apply IsS77.drewN | apply IsS77.drew | apply IsS77.set_1 | refine IsS77.far ?_ NB206_203.out _) | exact (Q_HI206 h0_))) hb))
            have z_HI206_e4 := fun (h0_ : b 4 = true) (h1_ : b 9 = false) => (show IsS77 w w20 g206 t204 t212 from by first | exact (IsS77.below (by repeat (first | (with_reducible first | exact (Q_HI206_e4 h0_ h1_) | apply IsS77.alloc | apply IsS77.drewN | apply IsS77.drew | apply IsS77.set_1 | refine IsS77.far ?_ NB206_203.out _) | exact (Q_HI206_e4 h0_ h1_))) hb))
            clear HO209
            clear BK203
            clear HB
            have HO209 := n0_
            have HO216 := n1_
            have BK203 := n2_
            have HB := n4_
            clear n0_ n1_ n2_ n4_
            clear hb ho21
            refine hK.out _ _ ⟨v215, (by rw [ha.out]; exact putSel_upk 4 hb_ rfl rfl rfl), (by (with_reducible repeat (first | apply Kd.S_alloc | apply Kd.S_drewN | apply Kd.S_drew)); exact Kd.S_mono HO209.out (fun _ hk => by first | exact ⟨hk.2, hk.1.2⟩ | exact hk.1 | exact hk.2 | exact hk)), fun _ => (by (with_reducible repeat (first | refine blk_drewN ?_ _ | refine blk_drew ?_ | refine blk_alloc ?_ _)); exact BK203.out), z_HI206, (by repeat (first | (with_reducible first | exact HB.out | apply below_alloc | apply pw_below_drewN | apply below_drew1 | refine below_set ?_ GE203.out) | exact HB.out)), z_HI206_e4, fun _ => (by (with_reducible repeat (first | apply Kd.R_alloc | apply Kd.R_drewN | apply Kd.R_drew)); exact HO216.out), fun h0_ => absurd ((hoff 9 (by kernel_rfl)).symm.trans h0_) (by decide), fun h0_ => absurd ((hoff 10 (by kernel_rfl)).symm.trans h0_) (by decide), (by with_reducible first | exact z_CL | exact Q_CL), (by with_reducible first | exact z_HL | exact Q_HL)⟩
          refine steps_cons ?_ ?_
          · rintro b a w' ⟨v215, ha, Q_HO209, Q_BK203, Q_HI206, Q_HB, Q_HI206_e4, Q_HO216, Q_HI206_e9, Q_BK203_e10, Q_CL, Q_HL⟩ hb_ hon hoff
            refine ⟨_, rfl, fun K hK => ?_⟩
            have e21 : a.tmps[21]? = some (.pointer (some ⟨g206, 0, none⟩)) := by rw [ha]; exact (putSel_off rfl).trans rfl
            have e22 : a.tmps[22]? = some (v215) := by rw [ha]; exact putSel_on (e := (8, 22, v215)) 4 rfl rfl (hon 8 (by kernel_rfl)) rfl
            replace ha := Aside0.mk ha
            have HO209 := Aside0.mk Q_HO209
            have BK203 := Aside0.mk (Q_BK203 (hoff 10 (by kernel_rfl)))
            have HB := Aside0.mk Q_HB
            have HI206 := Aside0.mk (Q_HI206_e4 (hon 4 (by kernel_rfl)) hb_)
            have HO216 := Aside0.mk (Q_HO216 (hon 8 (by kernel_rfl)))
            obtain ⟨Ao24, co24, eo24⟩ := Kd.R_slice HO216.out
            (first | subst eo24 | (injection eo24 with f1_ f2_ f3_; have f4_ := f1_.symm; have f5_ := f3_.symm; clear f1_ f2_ f3_; subst f4_; subst f5_))
            refine goes_ Try.func64 (by kernel_rfl) rfl #[.pointer (some ⟨g206, 0, none⟩), .slice Ao24 y214.length co24] (by rfl) rfl rfl (by first | (simp only [List.map_toArray, List.map_cons, List.map_nil, Act.eval, Array.getD_eq_getD_getElem?, Option.getD_some, e21, e22]; done) | (simp only [List.map_toArray, List.map_cons, List.map_nil, Act.eval, Array.getD_eq_getD_getElem?, Option.getD_some, e21, e22]; rfl)) ?_
            with_reducible refine (spec_l21Rd_num.calls k g206 t204 t212 _ _ y214 t217 t218 w _ ?side1 ?side2 ?side3 ?side4 ?side5 A14.out).mono ?_
            (case side1 => repeat (first | (with_reducible first | exact HI206.out | apply IsS77.alloc | apply IsS77.drewN | apply IsS77.drew | apply IsS77.set_1 | refine IsS77.far ?_ NB206_203.out _) | exact HI206.out))
            (case side2 => repeat (first | (with_reducible first | exact HB.out | apply below_alloc | apply pw_below_drewN | apply below_drew1 | refine below_set ?_ (IsS77.ge HI206.out) | refine below_set ?_ GE203.out) | exact HB.out))
            (case side3 => repeat (first | exact (Kd.R_reads' HO216.out).2.2 | (with_reducible refine Kd.C_alloc ?_ _) | (with_reducible refine Kd.C_drewN ?_ _) | (with_reducible refine Kd.C_drew ?_)))
            (case side4 => exact (Kd.R_reads' HO216.out).2.1)
            (case side5 => exact far_slice (IsS77.own_ne HI206.out HO216.out (by decide)))
            rintro e w25 ⟨rfl, hi, hb, hk⟩
            refine ⟨_, rfl, ?_⟩
            have z_CL := keep_cell hk Q_CL (fun e_ => (IsS77.own_neS HI206.out HO209.out (by decide)) (by have e2_ : (ad213.add ((t211).toNat * 3)).block = _ := e_; rw [add_block] at e2_; rw [← e2_]; rfl))
            have z_HL := Kd.R_mono (ok' := fun _ => True) (Kd.R_keep (IsS77.apart HI206.out Q_HL (by decide)) hk (fun _ h => h.2)) (fun _ _ => trivial)
            have n0_ := Aside0.mk (KeepBut.blk hk (g' := gb203) (o := .cells #[.int .i64 0, .int .i64 0, .slice none 0 0] 27 (0, 0)) (by (with_reducible repeat (first | refine blk_drewN ?_ _ | refine blk_drew ?_ | refine blk_alloc ?_ _)); exact BK203.out) NB203_206.out (by simp))
            have n1_ := Aside0.mk (Kd.S_mono (Kd.S_keep (IsS77.apartS (show IsS77 w _ g206 t204 t212 from by repeat (first | (with_reducible first | exact HI206.out | apply IsS77.alloc | apply IsS77.drewN | apply IsS77.drew | apply IsS77.set_1 | refine IsS77.far ?_ NB206_203.out _) | exact HI206.out)) (by (with_reducible repeat (first | apply Kd.S_alloc | apply Kd.S_drewN | apply Kd.S_drew)); exact HO209.out) (by decide)) hk (fun _ h => h.2)) (fun _ h => h.1))
            have n2_ := Aside0.mk (Kd.R_mono (Kd.R_keep (IsS77.apart (show IsS77 w _ g206 t204 t212 from by repeat (first | (with_reducible first | exact HI206.out | apply IsS77.alloc | apply IsS77.drewN | apply IsS77.drew | apply IsS77.set_1 | refine IsS77.far ?_ NB206_203.out _) | exact HI206.out)) (by (with_reducible repeat (first | apply Kd.R_alloc | apply Kd.R_drewN | apply Kd.R_drew)); exact HO216.out) (by decide)) hk (fun _ h => h.2)) (fun _ h => h.1))
            have n3_ := Aside0.mk (hb)
            have n4_ := Aside0.mk (hi)
            clear BK203
            clear HO209
            clear HO216
            clear HB
            clear HI206
            have BK203 := n0_
            have HO209 := n1_
            have HO216 := n2_
            have HB := n3_
            have HI206 := n4_
            clear n0_ n1_ n2_ n3_ n4_
            (try clear hb)
            (try clear hb2)
            (try clear hk)
            (try clear hi)
            refine hK.out _ _ ⟨.slice Ao24 y214.length co24, (by rw [ha.out]; exact putSel_upk 5 hb_ rfl rfl rfl), (by (with_reducible repeat (first | apply Kd.S_alloc | apply Kd.S_drewN | apply Kd.S_drew)); exact HO209.out), fun _ => (by (with_reducible repeat (first | refine blk_drewN ?_ _ | refine blk_drew ?_ | refine blk_alloc ?_ _)); exact BK203.out), fun h0_ => absurd ((hon 4 (by kernel_rfl)).symm.trans h0_) (by decide), (by repeat (first | (with_reducible first | exact HB.out | apply below_alloc | apply pw_below_drewN | apply below_drew1 | refine below_set ?_ (IsS77.ge HI206.out) | refine below_set ?_ GE203.out) | exact HB.out)), fun _ h1_ => absurd ((up_self b 9).symm.trans h1_) (by decide), fun _ => (by (with_reducible repeat (first | apply Kd.R_alloc | apply Kd.R_drewN | apply Kd.R_drew)); exact HO216.out), fun _ => (by repeat (first | (with_reducible first | exact HI206.out | apply IsS77.alloc | apply IsS77.drewN | apply IsS77.drew | apply IsS77.set_1 | refine IsS77.far ?_ NB206_203.out _) | exact HI206.out)), fun h0_ => absurd ((hoff 10 (by kernel_rfl)).symm.trans h0_) (by decide), (by with_reducible first | exact z_CL | exact Q_CL), (by with_reducible first | exact z_HL | exact Q_HL)⟩
          refine steps_cons ?_ ?_
          · rintro b a w' ⟨v215, ha, Q_HO209, Q_BK203, Q_HI206, Q_HB, Q_HI206_e4, Q_HO216, Q_HI206_e9, Q_BK203_e10, Q_CL, Q_HL⟩ hb_ hon hoff
            refine ⟨_, rfl, fun K hK => ?_⟩
            have e2 : a.tmps[2]? = some (.pointer (some ⟨gb203, 0, none⟩)) := by rw [ha]; exact (putSel_off rfl).trans rfl
            have e20 : a.tmps[20]? = some (.agg #[.int .i64 ((rd_T27 t207 t211).f0), .int .i64 ((rd_T27 t207 t211).f1), .slice A213_2 ((rd_T27 t207 t211).f2).length c213_2]) := by rw [ha]; exact putSel_on (e := (6, 20, .agg #[.int .i64 ((rd_T27 t207 t211).f0), .int .i64 ((rd_T27 t207 t211).f1), .slice A213_2 ((rd_T27 t207 t211).f2).length c213_2])) 3 rfl rfl (hon 6 (by kernel_rfl)) rfl
            replace ha := Aside0.mk ha
            have HO209 := Aside0.mk Q_HO209
            have BK203 := Aside0.mk (Q_BK203 hb_)
            have HB := Aside0.mk Q_HB
            have HO216 := Aside0.mk (Q_HO216 (hon 8 (by kernel_rfl)))
            have HI206 := Aside0.mk (Q_HI206_e9 (hon 9 (by kernel_rfl)))
            have hs26 : w'.cell? ⟨gb203, 0, none⟩ = some (.int .i64 0) := (blk_cell BK203.out 0).trans rfl
            have hfs26 := blk_frozen BK203.out 0
            have hs27 : w'.cell? ⟨gb203, 1, none⟩ = some (.int .i64 0) := (blk_cell BK203.out 1).trans rfl
            have hfs27 := blk_frozen BK203.out 1
            have hs28 : w'.cell? ⟨gb203, 2, none⟩ = some (.slice none 0 0) := (blk_cell BK203.out 2).trans rfl
            have hfs28 := blk_frozen BK203.out 2
            have z_ne : (ad213.add ((t211).toNat * 3)).block ≠ gb203 := by rw [add_block]; exact fun e_ => (Kd.S_R HO209.out).1 _ rfl e_
            have z_CL : (((w'.setCell ⟨gb203, 0, none⟩ (.int .i64 ((rd_T27 t207 t211).f0))).setCell ⟨gb203, 1, none⟩ (.int .i64 ((rd_T27 t207 t211).f1))).setCell ⟨gb203, 2, none⟩ (.slice A213_2 ((rd_T27 t207 t211).f2).length c213_2)).cell? ⟨(ad213.add ((t211).toNat * 3)).block, (ad213.add ((t211).toNat * 3)).off + 2, none⟩ = some (.slice A213_2 ((rd_T27 t207 t211).f2).length c213_2) := cell_kept (S := fun k => k = gb203) Q_CL (Kept.setCell (p := ⟨gb203, 2, none⟩) (Kept.setCell (p := ⟨gb203, 1, none⟩) (Kept.setCell (p := ⟨gb203, 0, none⟩) (Kept.refl w' (fun k => k = gb203)) (Or.inl rfl) _) (Or.inl rfl) _) (Or.inl rfl) _) z_ne
            have z_HL : Kd.R (Kd.int .i64) 3 (((w'.setCell ⟨gb203, 0, none⟩ (.int .i64 ((rd_T27 t207 t211).f0))).setCell ⟨gb203, 1, none⟩ (.int .i64 ((rd_T27 t207 t211).f1))).setCell ⟨gb203, 2, none⟩ (.slice A213_2 ((rd_T27 t207 t211).f2).length c213_2)) w.heap.size (fun _ => True) (.slice A213_2 ((rd_T27 t207 t211).f2).length c213_2) ((rd_T27 t207 t211).f2) := Kd.R_mono (Kd.R_far (p := ⟨gb203, 2, none⟩) (Kd.R_far (p := ⟨gb203, 1, none⟩) (Kd.R_far (p := ⟨gb203, 0, none⟩) (Kd.R_types Q_HL BK203.out (by decide)) (fun _ hk => hk.2) _) (fun _ hk => hk.2) _) (fun _ hk => hk.2) _) (fun _ _ => trivial)
            refine skip_ (w1 := ?_) (by rfl) rfl ?_ ?_
            rotate_left
            · go_simp
              rfl
            refine hK.out _ _ ⟨v215, (by rw [ha.out]; exact putSel_none (v := undef) rfl), (by (with_reducible repeat (first | apply Kd.S_alloc | apply Kd.S_drewN | apply Kd.S_drew)); exact Kd.S_mono (Kd.S_far (p := ⟨gb203, 2, none⟩) (Kd.S_far (p := ⟨gb203, 1, none⟩) (Kd.S_far (p := ⟨gb203, 0, none⟩) (Kd.S_mono (ok' := fun k_ => True ∧ k_ ≠ gb203) HO209.out (fun k_ hk => ⟨trivial, by first | exact hk | exact hk.2⟩)) (fun _ hk => hk.2) (.int .i64 ((rd_T27 t207 t211).f0))) (fun _ hk => hk.2) (.int .i64 ((rd_T27 t207 t211).f1))) (fun _ hk => hk.2) (.slice A213_2 ((rd_T27 t207 t211).f2).length c213_2)) (fun _ hk => by first | exact ⟨hk.1.1, hk.1.2⟩ | exact hk.2 | exact hk.1.2)), fun h0_ => absurd ((up_self b 10).symm.trans h0_) (by decide), fun h0_ => absurd ((hon 4 (by kernel_rfl)).symm.trans h0_) (by decide), (by repeat (first | (with_reducible first | exact HB.out | apply below_alloc | apply pw_below_drewN | apply below_drew1 | refine below_set ?_ (IsS77.ge HI206.out) | refine below_set ?_ GE203.out) | exact HB.out)), fun _ h1_ => absurd ((hon 9 (by kernel_rfl)).symm.trans h1_) (by decide), fun _ => (by (with_reducible repeat (first | apply Kd.R_alloc | apply Kd.R_drewN | apply Kd.R_drew)); exact Kd.R_mono (Kd.R_far (p := ⟨gb203, 2, none⟩) (Kd.R_far (p := ⟨gb203, 1, none⟩) (Kd.R_far (p := ⟨gb203, 0, none⟩) (Kd.R_types HO216.out BK203.out (by decide)) (fun _ hk => hk.2) (.int .i64 ((rd_T27 t207 t211).f0))) (fun _ hk => hk.2) (.int .i64 ((rd_T27 t207 t211).f1))) (fun _ hk => hk.2) (.slice A213_2 ((rd_T27 t207 t211).f2).length c213_2)) (fun _ hk => trivial)), fun _ => (by repeat (first | (with_reducible first | exact HI206.out | apply IsS77.alloc | apply IsS77.drewN | apply IsS77.drew | apply IsS77.set_1 | refine IsS77.far ?_ NB206_203.out _) | exact HI206.out)), fun _ => (by (with_reducible repeat (first | refine blk_drewN ?_ _ | refine blk_drew ?_ | refine blk_alloc ?_ _)); refine blk_put (cs := #[.int .i64 ((rd_T27 t207 t211).f0), .int .i64 ((rd_T27 t207 t211).f1), .slice none 0 0]) ?_ 2 _ rfl; (with_reducible repeat (first | refine blk_drewN ?_ _ | refine blk_drew ?_ | refine blk_alloc ?_ _)); refine blk_put (cs := #[.int .i64 ((rd_T27 t207 t211).f0), .int .i64 0, .slice none 0 0]) ?_ 1 _ rfl; (with_reducible repeat (first | refine blk_drewN ?_ _ | refine blk_drew ?_ | refine blk_alloc ?_ _)); refine blk_put (cs := #[.int .i64 0, .int .i64 0, .slice none 0 0]) ?_ 0 _ rfl; (with_reducible repeat (first | refine blk_drewN ?_ _ | refine blk_drew ?_ | refine blk_alloc ?_ _)); exact BK203.out), z_CL, z_HL⟩
          refine steps_cons ?_ ?_
          · rintro b a w' ⟨v215, ha, Q_HO209, Q_BK203, Q_HI206, Q_HB, Q_HI206_e4, Q_HO216, Q_HI206_e9, Q_BK203_e10, Q_CL, Q_HL⟩ hb_ hon hoff
            refine ⟨_, rfl, fun K hK => ?_⟩
            have e23 : a.tmps[23]? = some (.int .i64 t217) := by rw [ha]; exact putSel_on (e := (9, 23, .int .i64 t217)) 5 rfl rfl (hon 9 (by kernel_rfl)) rfl
            replace ha := Aside0.mk ha
            have HO209 := Aside0.mk Q_HO209
            have HB := Aside0.mk Q_HB
            have HO216 := Aside0.mk (Q_HO216 (hon 8 (by kernel_rfl)))
            have HI206 := Aside0.mk (Q_HI206_e9 (hon 9 (by kernel_rfl)))
            have BK203 := Aside0.mk (Q_BK203_e10 (hon 10 (by kernel_rfl)))
            refine value_ (w1 := w') (v := .int .i64 t217) (by rfl) rfl ?_ ?_
            · go_simp
              (try simp only [i64_w])
              try rfl
            refine hK.out _ _ ⟨v215, (by rw [ha.out]; exact putSel_upk 6 hb_ rfl rfl rfl), Q_HO209, fun h0_ => absurd ((hon 10 (by kernel_rfl)).symm.trans h0_) (by decide), fun h0_ => absurd ((hon 4 (by kernel_rfl)).symm.trans h0_) (by decide), Q_HB, fun _ h1_ => absurd ((hon 9 (by kernel_rfl)).symm.trans h1_) (by decide), Q_HO216, Q_HI206_e9, Q_BK203_e10, (by with_reducible first | exact z_CL | exact Q_CL), (by with_reducible first | exact z_HL | exact Q_HL)⟩
          exact steps_nil
        rintro b a w28 hall ⟨v215, ha, Q_HO209, Q_BK203, Q_HI206, Q_HB, Q_HI206_e4, Q_HO216, Q_HI206_e9, Q_BK203_e10, Q_CL, Q_HL⟩
        clear BK203 HB HI206 HO209
        have hb3_ := hall 3 (by kernel_rfl)
        have hb4_ := hall 4 (by kernel_rfl)
        have hb5_ := hall 5 (by kernel_rfl)
        have hb6_ := hall 6 (by kernel_rfl)
        have hb8_ := hall 8 (by kernel_rfl)
        have hb9_ := hall 9 (by kernel_rfl)
        have hb10_ := hall 10 (by kernel_rfl)
        have hb11_ := hall 11 (by kernel_rfl)
        subst ha
        simp only [putSel, hb3_, hb4_, hb5_, hb6_, hb8_, hb9_, hb10_, hb11_, if_true, Act.put, List.setIfInBounds_toArray, List.set_cons_zero, List.set_cons_succ]
        have HO209 := Aside0.mk Q_HO209
        clear Q_HO209
        clear Q_BK203
        clear Q_HI206
        have HB := Aside0.mk Q_HB
        clear Q_HB
        clear Q_HI206_e4
        have HO216 := Aside0.mk (Q_HO216 hb8_)
        clear Q_HO216
        have HI206 := Aside0.mk (Q_HI206_e9 hb9_)
        clear Q_HI206_e9
        have BK203 := Aside0.mk (Q_BK203_e10 hb10_)
        clear Q_BK203_e10
        clear hall hb3_ hb4_ hb5_ hb6_ hb8_ hb9_ hb10_ hb11_
        try go_wp2
        refine bodyPost_ret (results_ct rfl _ _ gb203 27 #[.int .i64 ((rd_T27 t207 t211).f0), .int .i64 ((rd_T27 t207 t211).f1), .slice A213_2 ((rd_T27 t207 t211).f2).length c213_2] (0, 0) _ rfl (by (with_reducible repeat (first | refine blk_drewN ?_ _ | refine blk_drew ?_ | refine blk_alloc ?_ _)); exact BK203.out) Try.underlying27 rfl (by kernel_rfl)) rfl ?_
        exact ⟨_, by first | rfl | (simp [errW_none, errW_some] <;> rfl) | (simp [*, errW_none, errW_some] <;> rfl), by (with_reducible repeat (first | apply Kd.R_alloc | apply Kd.R_drewN | apply Kd.R_drew)); exact Kd.R_mono Q_HL (fun _ hk => trivial), by repeat (first | (with_reducible first | exact HB.out | apply below_alloc | apply pw_below_drewN | apply below_drew1 | refine below_set ?_ (IsS77.ge HI206.out) | refine below_set ?_ GE203.out) | exact HB.out)⟩
      · rw [if_neg c13] at H
        exact absurd H (by simp)
    · rw [if_neg c12] at H
      exact absurd H (by simp)

/-! ### spec_DrawVlanIn: function 30 -/
def spec_DrawVlanIn.f (k : Nat) (l0 : List Int) : Option (Int × Int × List Int × Int) := (spec_l10One.f k l0).bind fun bt220 => (some (bt220.1, bt220.2.1, bt220.2.2.1, bt220.2.2.2))
theorem spec_DrawVlanIn.mono : ∀ a0 k, LeO (spec_DrawVlanIn.f k a0) (spec_DrawVlanIn.f (k + 1) a0) := by
  intro a0 k
  unfold spec_DrawVlanIn.f
  repeat' first
      | (with_reducible exact spec_l10One.mono _ _)
      | (with_reducible exact LeO.refl _)
      | (with_reducible exact LeO.none _)
      | (with_reducible refine LeO.ite ?_ ?_)
      | (with_reducible refine LeO.bind ?_ (fun _ => ?_))
      | exact spec_l10One.mono _ _
      | exact LeO.none _
      | refine LeO.ite ?_ ?_
      | refine LeO.bind ?_ (fun _ => ?_)
set_option maxHeartbeats 8000000 in
set_option maxRecDepth 100000 in
theorem spec_DrawVlanIn.calls (k : Nat) (A0 : Option Addr) (c0 : Nat) (l0 : List Int) (r1 : Int) (r2 : Int) (r3 : List Int) (r4 : Int) (w : World) (hr0 : Kd.C (Kd.int .u8) w A0 l0.length l0) (hc0 : l0.length ≤ c0) (h : spec_DrawVlanIn.f k l0 = some (r1, r2, r3, r4)) :
    Calls Try.prog 30 #[.slice A0 l0.length c0] w fun e w' => ∃ v2_ : Value, e = .returned (.tuple #[.agg #[.int .i64 r1, .int .i64 r2, v2_], .int .i64 r4]) ∧ Kd.R (Kd.int .i64) 3 w' w.heap.size (fun _ => True) v2_ r3 ∧ Below w.heap.size w w' := by
  have hu27 := Try.underlying27
  have HR0 := Aside0.mk hr0
  have HC0 := Aside0.mk hc0
  clear hr0 hc0
  have HB := Aside0.mk (Below.refl w.heap.size w)
  have H : ((spec_l10One.f k l0).bind fun bt220 => (some (bt220.1, bt220.2.1, bt220.2.2.1, bt220.2.2.2))) = some (r1, r2, r3, r4) := h
  clear h
  replace H := Option.bind_eq_some_iff.mp H
  obtain ⟨⟨t220, t221, t222, t225⟩, A20, H⟩ := H
  replace H : (some (t220, t221, t222, t225)) = some (r1, r2, r3, r4) := H
  have A2 := Aside0.mk A20
  clear A20
  simp only [Option.some.injEq, Prod.mk.injEq] at H
  obtain ⟨rfl, rfl, rfl, rfl⟩ := H
  go_enter Try.func30, Try.ntmps30
  go_wp2_with (first | ((with_reducible refine gate_dst (N := 2) rfl ?_); refine box_event ?hg (N := 2) ?hd (cs := #[.int .i64 0, .int .i64 0, .slice none 0 0]) (t := 27) ?hr ?_; (case hd => rfl); (case hg => rfl); (case hr => first | (go_simp; done) | (go_simp; rfl)); intro gb219 hg w3 hbox hb; have n0_ := Aside0.mk (below_step (by repeat (first | (with_reducible first | exact HB.out | apply below_alloc | apply pw_below_drewN | apply below_drew1) | exact HB.out)) hb); have n1_ := Aside0.mk (hbox); have n2_ := Aside0.mk ((by rw [hg]; exact (below_size (by repeat (first | (with_reducible first | exact HB.out | apply below_alloc | apply pw_below_drewN | apply below_drew1) | exact HB.out))) : w.heap.size ≤ gb219)); have n3_ := Aside0.mk ((by rw [hg]; exact (below_size (by repeat (first | (with_reducible first | exact HB.out | apply below_alloc | apply pw_below_drewN | apply below_drew1) | exact HB.out))) : w.heap.size ≤ gb219)); clear HB; have HB := n0_; have BK219 := n1_; have GW219 := n2_; have GE219 := n3_; clear n0_ n1_ n2_ n3_; clear hb hbox hg) | ((with_reducible refine gate_callee (f := 60) rfl ?_); refine goesL_ (some 5) rfl rfl Try.func60 (by kernel_rfl) rfl #[.slice A0 l0.length c0] rfl (by (try simp only [List.map_toArray, List.map_cons, List.map_nil]); first | done | rfl | (simp only [List.length_drop, List.length_take]; rfl)) ?_; (with_reducible refine (spec_l10One.calls k _ _ l0 t220 t221 t222 t225 _ ?side1 ?side2 A2.out).mono ?_); (case side1 => repeat (first | exact (Kd.C_below HR0.out HB.out) | (with_reducible refine Kd.C_alloc ?_ _) | (with_reducible refine Kd.C_drewN ?_ _) | (with_reducible refine Kd.C_drew ?_))); (case side2 => exact HC0.out); rintro e w4 ⟨v223, rfl, ho0, hb⟩; refine ⟨_, rfl, ?_⟩; have n0_ := Aside0.mk (Kd.R_lower ho0 (below_size (by repeat (first | (with_reducible first | exact HB.out | apply below_alloc | apply pw_below_drewN | apply below_drew1 | refine below_set ?_ GE219.out) | exact HB.out)))); have n1_ := Aside0.mk (blk_below (g := gb219) (o := .cells #[.int .i64 0, .int .i64 0, .slice none 0 0] 27 (0, 0)) (by (with_reducible repeat (first | refine blk_drewN ?_ _ | refine blk_drew ?_ | refine blk_alloc ?_ _)); exact BK219.out) hb); have n2_ := Aside0.mk (below_step (by repeat (first | (with_reducible first | exact HB.out | apply below_alloc | apply pw_below_drewN | apply below_drew1 | refine below_set ?_ GE219.out) | exact HB.out)) hb); clear BK219; clear HB; have HO224 := n0_; have BK219 := n1_; have HB := n2_; clear n0_ n1_ n2_; (try clear hb); (try clear hb2); (try clear hk); (try clear hi); (try clear ho0); have hcz5_0 : w4.cell? ⟨gb219, 0, none⟩ = some (.int .i64 0) := (blk_cell BK219.out 0).trans rfl; have hcz5_1 : w4.cell? ⟨gb219, 1, none⟩ = some (.int .i64 0) := (blk_cell BK219.out 1).trans rfl; have hcz5_2 : w4.cell? ⟨gb219, 2, none⟩ = some (.slice none 0 0) := (blk_cell BK219.out 2).trans rfl; have hfz5_0 := blk_frozen BK219.out 0; have hfz5_1 := blk_frozen BK219.out 1; have hfz5_2 := blk_frozen BK219.out 2; obtain ⟨Ao6, co6, eo6⟩ := Kd.R_slice HO224.out; subst eo6))
  refine bodyPost_ret (results_ct rfl _ _ gb219 27 #[.int .i64 t220, .int .i64 t221, .slice Ao6 t222.length co6] (0, 0) _ rfl (by (with_reducible repeat (first | refine blk_drewN ?_ _ | refine blk_drew ?_ | refine blk_alloc ?_ _)); refine blk_put (cs := #[.int .i64 t220, .int .i64 t221, .slice none 0 0]) ?_ 2 _ rfl; (with_reducible repeat (first | refine blk_drewN ?_ _ | refine blk_drew ?_ | refine blk_alloc ?_ _)); refine blk_put (cs := #[.int .i64 t220, .int .i64 0, .slice none 0 0]) ?_ 1 _ rfl; (with_reducible repeat (first | refine blk_drewN ?_ _ | refine blk_drew ?_ | refine blk_alloc ?_ _)); refine blk_put (cs := #[.int .i64 0, .int .i64 0, .slice none 0 0]) ?_ 0 _ rfl; (with_reducible repeat (first | refine blk_drewN ?_ _ | refine blk_drew ?_ | refine blk_alloc ?_ _)); exact BK219.out) Try.underlying27 rfl (by kernel_rfl)) rfl ?_
  exact ⟨_, by first | rfl | (simp [errW_none, errW_some] <;> rfl) | (simp [*, errW_none, errW_some] <;> rfl), by (with_reducible repeat (first | apply Kd.R_alloc | apply Kd.R_drewN | apply Kd.R_drew)); exact Kd.R_mono (Kd.R_far (p := ⟨gb219, 2, none⟩) (Kd.R_far (p := ⟨gb219, 1, none⟩) (Kd.R_far (p := ⟨gb219, 0, none⟩) (Kd.R_types HO224.out BK219.out (by decide)) (fun _ hk => hk.2) (.int .i64 t220)) (fun _ hk => hk.2) (.int .i64 t221)) (fun _ hk => hk.2) (.slice Ao6 t222.length co6)) (fun _ hk => trivial), by repeat (first | (with_reducible first | exact HB.out | apply below_alloc | apply pw_below_drewN | apply below_drew1 | refine below_set ?_ GE219.out) | exact HB.out)⟩

/-! ### laws_FnVlanIn: function 7 -/
def laws_FnVlanIn.j0 : Nat → Int → Int → Bool → Int → Int → List Int → Option (Bool)
  | 0, _, _, _, _, _, _ => none
  | k + 1, x4, x5, x25, x233000, x233001, x233002 => if x25 = true then ((spec_VlanIn.f k x233000 x233001 x233002 x4).bind fun t235 => (if x5 = t235 then (some (x5 == (-1))) else (some false))) else ((impl_TagOut.f k x233000 x233001 x233002 x5).bind fun t236 => (if t236 = x4 then (if x5 ≥ 1 then (some (decide (x5 ≤ 9))) else (some false)) else (some false)))
def laws_FnVlanIn.f (k : Nat) (l0 : List Int) : Option (Bool) := if (l0.length : Int) > 1048576 then (some true) else ((spec_DrawVlanIn.f k l0).bind fun bt226 => ((impl_VlanIn.f k bt226.1 bt226.2.1 bt226.2.2.1 bt226.2.2.2).bind fun t233 => ((spec_VlanIn.f k bt226.1 bt226.2.1 bt226.2.2.1 bt226.2.2.2).bind fun t234 => (if t233 = t234 then (laws_FnVlanIn.j0 k bt226.2.2.2 t233 (decide (t233 < 0)) bt226.1 bt226.2.1 bt226.2.2.1) else (laws_FnVlanIn.j0 k bt226.2.2.2 t233 true bt226.1 bt226.2.1 bt226.2.2.1)))))
theorem laws_FnVlanIn.mono_l : ∀ k, (∀ y0 y1 y2 y3 y4 y5, LeO (laws_FnVlanIn.j0 k y0 y1 y2 y3 y4 y5) (laws_FnVlanIn.j0 (k + 1) y0 y1 y2 y3 y4 y5))
  | 0 => fun _ _ _ _ _ _ r h => by simp [laws_FnVlanIn.j0] at h
  | k + 1 => by
    have ih0 := laws_FnVlanIn.mono_l k
    · intro y0 y1 y2 y3 y4 y5
      unfold laws_FnVlanIn.j0
      repeat' first
      | (with_reducible exact ih0 _ _ _ _ _ _)
      | (with_reducible exact impl_TagOut.mono _ _ _ _ _)
      | (with_reducible exact impl_VlanIn.mono _ _ _ _ _)
      | (with_reducible exact spec_DrawVlanIn.mono _ _)
      | (with_reducible exact spec_VlanIn.mono _ _ _ _ _)
      | (with_reducible exact LeO.refl _)
      | (with_reducible exact LeO.none _)
      | (with_reducible refine LeO.ite ?_ ?_)
      | (with_reducible refine LeO.bind ?_ (fun _ => ?_))
      | exact ih0 _ _ _ _ _ _
      | exact impl_TagOut.mono _ _ _ _ _
      | exact impl_VlanIn.mono _ _ _ _ _
      | exact spec_DrawVlanIn.mono _ _
      | exact spec_VlanIn.mono _ _ _ _ _
      | exact LeO.none _
      | refine LeO.ite ?_ ?_
      | refine LeO.bind ?_ (fun _ => ?_)
theorem laws_FnVlanIn.mono : ∀ a0 k, LeO (laws_FnVlanIn.f k a0) (laws_FnVlanIn.f (k + 1) a0) := by
  intro a0 k
  have ih0 := laws_FnVlanIn.mono_l k
  unfold laws_FnVlanIn.f
  repeat' first
      | (with_reducible exact ih0 _ _ _ _ _ _)
      | (with_reducible exact impl_TagOut.mono _ _ _ _ _)
      | (with_reducible exact impl_VlanIn.mono _ _ _ _ _)
      | (with_reducible exact spec_DrawVlanIn.mono _ _)
      | (with_reducible exact spec_VlanIn.mono _ _ _ _ _)
      | (with_reducible exact LeO.refl _)
      | (with_reducible exact LeO.none _)
      | (with_reducible refine LeO.ite ?_ ?_)
      | (with_reducible refine LeO.bind ?_ (fun _ => ?_))
      | exact ih0 _ _ _ _ _ _
      | exact impl_TagOut.mono _ _ _ _ _
      | exact impl_VlanIn.mono _ _ _ _ _
      | exact spec_DrawVlanIn.mono _ _
      | exact spec_VlanIn.mono _ _ _ _ _
      | exact LeO.none _
      | refine LeO.ite ?_ ?_
      | refine LeO.bind ?_ (fun _ => ?_)
set_option maxHeartbeats 8000000 in
set_option maxRecDepth 100000 in
theorem laws_FnVlanIn.calls (k : Nat) (A0 : Option Addr) (c0 : Nat) (l0 : List Int) (r : Bool) (w : World) (hr0 : Kd.C (Kd.int .u8) w A0 l0.length l0) (hc0 : l0.length ≤ c0) (h : laws_FnVlanIn.f k l0 = some r) :
    Calls Try.prog 7 #[.slice A0 l0.length c0] w fun e w' => e = .returned (.bool r) ∧ Below w.heap.size w w' := by
  have hu27 := Try.underlying27
  have HR0 := Aside0.mk hr0
  have HC0 := Aside0.mk hc0
  clear hr0 hc0
  have HB := Aside0.mk (Below.refl w.heap.size w)
  have H : (if (l0.length : Int) > 1048576 then (some true) else ((spec_DrawVlanIn.f k l0).bind fun bt226 => ((impl_VlanIn.f k bt226.1 bt226.2.1 bt226.2.2.1 bt226.2.2.2).bind fun t233 => ((spec_VlanIn.f k bt226.1 bt226.2.1 bt226.2.2.1 bt226.2.2.2).bind fun t234 => (if t233 = t234 then (laws_FnVlanIn.j0 k bt226.2.2.2 t233 (decide (t233 < 0)) bt226.1 bt226.2.1 bt226.2.2.1) else (laws_FnVlanIn.j0 k bt226.2.2.2 t233 true bt226.1 bt226.2.1 bt226.2.2.1)))))) = some r := h
  clear h
  by_cases c2 : (l0.length : Int) > 1048576
  · rw [if_pos c2] at H
    have c2b0 : decide (1048576 < (l0.length : Int)) = true := decide_eq_true c2
    have c2b1 : decide (1048576 < l0.length) = true := decide_eq_true (by omega)
    clear c2
    obtain rfl := Option.some.inj H
    go_enter Try.func7, Try.ntmps7
    go_wp2
    go_ret
    exact ⟨by first | rfl | (simp [errW_none, errW_some] <;> rfl) | (simp [*, errW_none, errW_some] <;> rfl), by repeat (first | (with_reducible first | exact HB.out | apply below_alloc | apply pw_below_drewN | apply below_drew1) | exact HB.out)⟩
  · rw [if_neg c2] at H
    have c2b0 : decide (1048576 < (l0.length : Int)) = false := decide_eq_false c2
    have c2b1 : decide (1048576 < l0.length) = false := decide_eq_false (by omega)
    clear c2
    replace H := Option.bind_eq_some_iff.mp H
    obtain ⟨⟨t226, t227, t228, t231⟩, A30, H⟩ := H
    replace H : ((impl_VlanIn.f k t226 t227 t228 t231).bind fun t233 => ((spec_VlanIn.f k t226 t227 t228 t231).bind fun t234 => (if t233 = t234 then (laws_FnVlanIn.j0 k t231 t233 (decide (t233 < 0)) t226 t227 t228) else (laws_FnVlanIn.j0 k t231 t233 true t226 t227 t228)))) = some r := H
    have A3 := Aside0.mk A30
    clear A30
    replace H := Option.bind_eq_some_iff.mp H
    obtain ⟨t233, A40, H⟩ := H
    replace H : ((spec_VlanIn.f k t226 t227 t228 t231).bind fun t234 => (if t233 = t234 then (laws_FnVlanIn.j0 k t231 t233 (decide (t233 < 0)) t226 t227 t228) else (laws_FnVlanIn.j0 k t231 t233 true t226 t227 t228))) = some r := H
    have A4 := Aside0.mk A40
    clear A40
    have HC5 := Aside0.mk H
    clear H
    go_enter Try.func7, Try.ntmps7
    go_upto_region 5 with (first | ((with_reducible refine gate_callee (f := 30) rfl ?_); refine goesL_ (some 11) rfl rfl Try.func30 (by kernel_rfl) rfl #[.slice A0 l0.length c0] rfl (by (try simp only [List.map_toArray, List.map_cons, List.map_nil]); first | done | rfl | (simp only [List.length_drop, List.length_take]; rfl)) ?_; (with_reducible refine (spec_DrawVlanIn.calls k _ _ l0 t226 t227 t228 t231 _ ?side1 ?side2 A3.out).mono ?_); (case side1 => repeat (first | exact HR0.out | (with_reducible refine Kd.C_alloc ?_ _) | (with_reducible refine Kd.C_drewN ?_ _) | (with_reducible refine Kd.C_drew ?_))); (case side2 => exact HC0.out); rintro e w6 ⟨v229, rfl, ho0, hb⟩; refine ⟨_, rfl, ?_⟩; have n0_ := Aside0.mk (Kd.R_lower ho0 (below_size (by repeat (first | (with_reducible first | exact HB.out | apply below_alloc | apply pw_below_drewN | apply below_drew1) | exact HB.out)))); have n1_ := Aside0.mk (below_step (by repeat (first | (with_reducible first | exact HB.out | apply below_alloc | apply pw_below_drewN | apply below_drew1) | exact HB.out)) hb); clear HB; have HO230 := n0_; have HB := n1_; clear n0_ n1_; (try clear hb); (try clear hb2); (try clear hk); (try clear hi); (try clear ho0)) | ((with_reducible refine gate_dst (N := 3) rfl ?_); refine box_event ?hg (N := 3) ?hd (cs := #[.int .i64 0, .int .i64 0, .slice none 0 0]) (t := 27) ?hr ?_; (case hd => rfl); (case hg => rfl); (case hr => first | (go_simp; done) | (go_simp; rfl)); intro gb232 hg w7 hbox hb; have n0_ := Aside0.mk (Kd.R_below (by (with_reducible repeat (first | apply Kd.R_alloc | apply Kd.R_drewN | apply Kd.R_drew)); exact HO230.out) hb); have n1_ := Aside0.mk (below_step (by repeat (first | (with_reducible first | exact HB.out | apply below_alloc | apply pw_below_drewN | apply below_drew1) | exact HB.out)) hb); have n2_ := Aside0.mk (hbox); have n3_ := Aside0.mk ((by rw [hg]; exact (below_size (by repeat (first | (with_reducible first | exact HB.out | apply below_alloc | apply pw_below_drewN | apply below_drew1) | exact HB.out))) : w.heap.size ≤ gb232)); have n4_ := Aside0.mk ((by rw [hg]; exact (below_size (by repeat (first | (with_reducible first | exact HB.out | apply below_alloc | apply pw_below_drewN | apply below_drew1) | exact HB.out))) : w.heap.size ≤ gb232)); clear HO230; clear HB; have HO230 := n0_; have HB := n1_; have BK232 := n2_; have GW232 := n3_; have GE232 := n4_; clear n0_ n1_ n2_ n3_ n4_; clear hb hbox hg; have hcz8_0 : w7.cell? ⟨gb232, 0, none⟩ = some (.int .i64 0) := (blk_cell BK232.out 0).trans rfl; have hcz8_1 : w7.cell? ⟨gb232, 1, none⟩ = some (.int .i64 0) := (blk_cell BK232.out 1).trans rfl; have hcz8_2 : w7.cell? ⟨gb232, 2, none⟩ = some (.slice none 0 0) := (blk_cell BK232.out 2).trans rfl; have hfz8_0 := blk_frozen BK232.out 0; have hfz8_1 := blk_frozen BK232.out 1; have hfz8_2 := blk_frozen BK232.out 2; obtain ⟨Ao9, co9, eo9⟩ := Kd.R_slice HO230.out; subst eo9) | ((with_reducible refine gate_callee (f := 23) rfl ?_); refine goesL_ (some 16) rfl rfl Try.func23 (by kernel_rfl) rfl #[.agg #[.int .i64 t226, .int .i64 t227, .slice Ao9 t228.length co9], .int .i64 t231] rfl (by (try simp only [List.map_toArray, List.map_cons, List.map_nil]); first | done | rfl | (simp only [List.length_drop, List.length_take]; rfl)) ?_; (with_reducible refine (impl_VlanIn.calls k t226 t227 _ _ t228 t231 t233 _ ?side1 ?side2 A4.out).mono ?_); (case side1 => refine (Kd.R_reads' (e := 3) (base := w.heap.size) (ok := fun k_ => True) (n := t228.length) (c := co9) ?_).2.2; exact (by (with_reducible repeat (first | apply Kd.R_alloc | apply Kd.R_drewN | apply Kd.R_drew)); exact (Kd.R_mono (Kd.R_far (p := ⟨gb232, 2, none⟩) (Kd.R_far (p := ⟨gb232, 1, none⟩) (Kd.R_far (p := ⟨gb232, 0, none⟩) (Kd.R_types HO230.out BK232.out (by decide)) (fun _ hk => hk.2) (.int .i64 t226)) (fun _ hk => hk.2) (.int .i64 t227)) (fun _ hk => hk.2) (.slice Ao9 t228.length co9)) (fun _ h_ => h_.1)))); (case side2 => exact (Kd.R_reads' HO230.out).2.1); rintro e w10 ⟨rfl, hb⟩; refine ⟨_, rfl, ?_⟩; have n0_ := Aside0.mk (Kd.R_below (by (with_reducible repeat (first | apply Kd.R_alloc | apply Kd.R_drewN | apply Kd.R_drew)); exact (Kd.R_mono (Kd.R_far (p := ⟨gb232, 2, none⟩) (Kd.R_far (p := ⟨gb232, 1, none⟩) (Kd.R_far (p := ⟨gb232, 0, none⟩) (Kd.R_types HO230.out BK232.out (by decide)) (fun _ hk => hk.2) (.int .i64 t226)) (fun _ hk => hk.2) (.int .i64 t227)) (fun _ hk => hk.2) (.slice Ao9 t228.length co9)) (fun _ h_ => h_.1))) hb); have n1_ := Aside0.mk (blk_below (g := gb232) (o := .cells #[.int .i64 t226, .int .i64 t227, .slice Ao9 t228.length co9] 27 (0, 0)) (by (with_reducible repeat (first | refine blk_drewN ?_ _ | refine blk_drew ?_ | refine blk_alloc ?_ _)); refine blk_put (cs := #[.int .i64 t226, .int .i64 t227, .slice none 0 0]) ?_ 2 _ rfl; (with_reducible repeat (first | refine blk_drewN ?_ _ | refine blk_drew ?_ | refine blk_alloc ?_ _)); refine blk_put (cs := #[.int .i64 t226, .int .i64 0, .slice none 0 0]) ?_ 1 _ rfl; (with_reducible repeat (first | refine blk_drewN ?_ _ | refine blk_drew ?_ | refine blk_alloc ?_ _)); refine blk_put (cs := #[.int .i64 0, .int .i64 0, .slice none 0 0]) ?_ 0 _ rfl; (with_reducible repeat (first | refine blk_drewN ?_ _ | refine blk_drew ?_ | refine blk_alloc ?_ _)); exact BK232.out) hb); have n2_ := Aside0.mk (below_step (by repeat (first | (with_reducible first | exact HB.out | apply below_alloc | apply pw_below_drewN | apply below_drew1 | refine below_set ?_ GE232.out) | exact HB.out)) hb); clear HO230; clear BK232; clear HB; have HO230 := n0_; have BK232 := n1_; have HB := n2_; clear n0_ n1_ n2_; (try clear hb); (try clear hb2); (try clear hk); (try clear hi)))
    (try simp only [Act.put, List.setIfInBounds_toArray, List.set_cons_zero, List.set_cons_succ])
    go_cut [25] (fun v25 wc => ∃ (kq : Nat) (x25_4 : Bool), v25 = .bool x25_4 ∧ Aside0 (laws_FnVlanIn.j0 kq t231 t233 x25_4 t226 t227 t228 = some r) ∧ Aside0 (kq ≤ k) ∧ Aside0 (Kd.R (Kd.int .i64) 3 wc w.heap.size (fun _ => True) (.slice Ao9 t228.length co9) t228) ∧ Aside0 (wc.heap[gb232]? = some (.cells #[.int .i64 t226, .int .i64 t227, (.slice Ao9 t228.length co9)] 27 (0, 0))) ∧ Aside0 (Below w.heap.size w wc))
    case first =>
      have H := HC5.out
      clear HC5
      replace H := Option.bind_eq_some_iff.mp H
      obtain ⟨t234, A110, H⟩ := H
      replace H : (if t233 = t234 then (laws_FnVlanIn.j0 k t231 t233 (decide (t233 < 0)) t226 t227 t228) else (laws_FnVlanIn.j0 k t231 t233 true t226 t227 t228)) = some r := H
      have A11 := Aside0.mk A110
      clear A110
      by_cases c12 : t233 = t234
      · rw [if_pos c12] at H
        have c12b0 : (t233 == t234) = true := beq_iff_eq.mpr c12
        have c12b1 : (t233 != t234) = false := bne_eq_false_iff_eq.mpr c12
        clear c12
        (first | rw [c12b0] | (simp only [i64_w, i32_w]; rw [c12b0]) | skip)
        have H' := Aside0.mk H
        clear H
        have hcz13_0 : w10.cell? ⟨gb232, 0, none⟩ = some (.int .i64 t226) := (blk_cell BK232.out 0).trans rfl
        have hcz13_1 : w10.cell? ⟨gb232, 1, none⟩ = some (.int .i64 t227) := (blk_cell BK232.out 1).trans rfl
        have hcz13_2 : w10.cell? ⟨gb232, 2, none⟩ = some (.slice Ao9 t228.length co9) := (blk_cell BK232.out 2).trans rfl
        have hfz13_0 := blk_frozen BK232.out 0
        have hfz13_1 := blk_frozen BK232.out 1
        have hfz13_2 := blk_frozen BK232.out 2
        go_wp2_with (first | ((with_reducible refine gate_callee (f := 22) rfl ?_); refine goesL_ (some 20) rfl rfl Try.func22 (by kernel_rfl) rfl #[.agg #[.int .i64 t226, .int .i64 t227, .slice Ao9 t228.length co9], .int .i64 t231] rfl (by (try simp only [List.map_toArray, List.map_cons, List.map_nil]); first | done | rfl | (simp only [List.length_drop, List.length_take]; rfl)) ?_; (with_reducible refine (spec_VlanIn.calls k t226 t227 _ _ t228 t231 t234 _ ?side1 ?side2 A11.out).mono ?_); (case side1 => repeat (first | exact (Kd.R_reads' HO230.out).2.2 | (with_reducible refine Kd.C_alloc ?_ _) | (with_reducible refine Kd.C_drewN ?_ _) | (with_reducible refine Kd.C_drew ?_))); (case side2 => exact (Kd.R_reads' HO230.out).2.1); rintro e w14 ⟨rfl, hb⟩; refine ⟨_, rfl, ?_⟩; have n0_ := Aside0.mk (Kd.R_below (by (with_reducible repeat (first | apply Kd.R_alloc | apply Kd.R_drewN | apply Kd.R_drew)); exact HO230.out) hb); have n1_ := Aside0.mk (blk_below (g := gb232) (o := .cells #[.int .i64 t226, .int .i64 t227, .slice Ao9 t228.length co9] 27 (0, 0)) (by (with_reducible repeat (first | refine blk_drewN ?_ _ | refine blk_drew ?_ | refine blk_alloc ?_ _)); exact BK232.out) hb); have n2_ := Aside0.mk (below_step (by repeat (first | (with_reducible first | exact HB.out | apply below_alloc | apply pw_below_drewN | apply below_drew1 | refine below_set ?_ GE232.out) | exact HB.out)) hb); clear HO230; clear BK232; clear HB; have HO230 := n0_; have BK232 := n1_; have HB := n2_; clear n0_ n1_ n2_; (try clear hb); (try clear hb2); (try clear hk); (try clear hi)))
        go_meet
        case rel => exact ⟨_, (decide (t233 < 0)), (by first | rfl | (simp; done) | (simp [*]; done)), H', ⟨by first | omega | exact Nat.le_refl _⟩, ⟨by (with_reducible repeat (first | apply Kd.R_alloc | apply Kd.R_drewN | apply Kd.R_drew)); exact HO230.out⟩, ⟨by (with_reducible repeat (first | refine blk_drewN ?_ _ | refine blk_drew ?_ | refine blk_alloc ?_ _)); exact BK232.out⟩, ⟨by repeat (first | (with_reducible first | exact HB.out | apply below_alloc | apply pw_below_drewN | apply below_drew1 | refine below_set ?_ GE232.out) | exact HB.out)⟩⟩
      · rw [if_neg c12] at H
        have c12b0 : (t233 == t234) = false := beq_eq_false_iff_ne.mpr c12
        have c12b1 : (t233 != t234) = true := bne_iff_ne.mpr c12
        (first | rw [c12b0] | (simp only [i64_w, i32_w]; rw [c12b0]) | skip)
        have H' := Aside0.mk H
        clear H
        have hcz15_0 : w10.cell? ⟨gb232, 0, none⟩ = some (.int .i64 t226) := (blk_cell BK232.out 0).trans rfl
        have hcz15_1 : w10.cell? ⟨gb232, 1, none⟩ = some (.int .i64 t227) := (blk_cell BK232.out 1).trans rfl
        have hcz15_2 : w10.cell? ⟨gb232, 2, none⟩ = some (.slice Ao9 t228.length co9) := (blk_cell BK232.out 2).trans rfl
        have hfz15_0 := blk_frozen BK232.out 0
        have hfz15_1 := blk_frozen BK232.out 1
        have hfz15_2 := blk_frozen BK232.out 2
        go_wp2_with (first | ((with_reducible refine gate_callee (f := 22) rfl ?_); refine goesL_ (some 20) rfl rfl Try.func22 (by kernel_rfl) rfl #[.agg #[.int .i64 t226, .int .i64 t227, .slice Ao9 t228.length co9], .int .i64 t231] rfl (by (try simp only [List.map_toArray, List.map_cons, List.map_nil]); first | done | rfl | (simp only [List.length_drop, List.length_take]; rfl)) ?_; (with_reducible refine (spec_VlanIn.calls k t226 t227 _ _ t228 t231 t234 _ ?side1 ?side2 A11.out).mono ?_); (case side1 => repeat (first | exact (Kd.R_reads' HO230.out).2.2 | (with_reducible refine Kd.C_alloc ?_ _) | (with_reducible refine Kd.C_drewN ?_ _) | (with_reducible refine Kd.C_drew ?_))); (case side2 => exact (Kd.R_reads' HO230.out).2.1); rintro e w16 ⟨rfl, hb⟩; refine ⟨_, rfl, ?_⟩; have n0_ := Aside0.mk (Kd.R_below (by (with_reducible repeat (first | apply Kd.R_alloc | apply Kd.R_drewN | apply Kd.R_drew)); exact HO230.out) hb); have n1_ := Aside0.mk (blk_below (g := gb232) (o := .cells #[.int .i64 t226, .int .i64 t227, .slice Ao9 t228.length co9] 27 (0, 0)) (by (with_reducible repeat (first | refine blk_drewN ?_ _ | refine blk_drew ?_ | refine blk_alloc ?_ _)); exact BK232.out) hb); have n2_ := Aside0.mk (below_step (by repeat (first | (with_reducible first | exact HB.out | apply below_alloc | apply pw_below_drewN | apply below_drew1 | refine below_set ?_ GE232.out) | exact HB.out)) hb); clear HO230; clear BK232; clear HB; have HO230 := n0_; have BK232 := n1_; have HB := n2_; clear n0_ n1_ n2_; (try clear hb); (try clear hb2); (try clear hk); (try clear hi)))
        go_meet
        case rel => exact ⟨_, (true), (by first | rfl | (simp; done) | (simp [*]; done)), H', ⟨by first | omega | exact Nat.le_refl _⟩, ⟨by (with_reducible repeat (first | apply Kd.R_alloc | apply Kd.R_drewN | apply Kd.R_drew)); exact HO230.out⟩, ⟨by (with_reducible repeat (first | refine blk_drewN ?_ _ | refine blk_drew ?_ | refine blk_alloc ?_ _)); exact BK232.out⟩, ⟨by repeat (first | (with_reducible first | exact HB.out | apply below_alloc | apply pw_below_drewN | apply below_drew1 | refine below_set ?_ GE232.out) | exact HB.out)⟩⟩
    case rest =>
      clear HC5
      try clear c1
      try clear c2
      try clear c2b0
      try clear c2b1
      try clear p2
      try clear c3
      try clear c7
      try clear c12
      try clear c12b0
      try clear c12b1
      try clear hcz13_0
      try clear hcz13_1
      try clear hcz13_2
      try clear hcz15_0
      try clear hcz15_1
      try clear hcz15_2
      try clear hcz8_0
      try clear hcz8_1
      try clear hcz8_2
      try clear hfz13_0
      try clear hfz13_1
      try clear hfz13_2
      try clear hfz15_0
      try clear hfz15_1
      try clear hfz15_2
      try clear hfz8_0
      try clear hfz8_1
      try clear hfz8_2
      obtain ⟨kq, x25_4, rfl, HA, HJ4, HO_233002, BK232, HB⟩ := hcut
      cases kq with
      | zero => exact absurd HA.out (by simp [laws_FnVlanIn.j0])
      | succ kj4 =>
        have H := HA.out
        clear HA
        simp only [laws_FnVlanIn.j0] at H
        by_cases c17 : x25_4 = true
        · subst c17
          have H1 : ((spec_VlanIn.f kj4 t226 t227 t228 t231).bind fun t235 => (if t233 = t235 then (some (t233 == (-1))) else (some false))) = some r := by rw [if_pos rfl] at H; exact H
          clear H
          have H := H1
          clear H1
          replace H := Option.bind_eq_some_iff.mp H
          obtain ⟨t235, A180, H⟩ := H
          replace H : (if t233 = t235 then (some (t233 == (-1))) else (some false)) = some r := H
          have A18 := Aside0.mk A180
          clear A180
          by_cases c19 : t233 = t235
          · rw [if_pos c19] at H
            have c19b0 : (t233 == t235) = true := beq_iff_eq.mpr c19
            have c19b1 : (t233 != t235) = false := bne_eq_false_iff_eq.mpr c19
            clear c19
            obtain rfl := Option.some.inj H
            have hcz20_0 : wc.cell? ⟨gb232, 0, none⟩ = some (.int .i64 t226) := (blk_cell BK232.out 0).trans rfl
            have hcz20_1 : wc.cell? ⟨gb232, 1, none⟩ = some (.int .i64 t227) := (blk_cell BK232.out 1).trans rfl
            have hcz20_2 : wc.cell? ⟨gb232, 2, none⟩ = some (.slice Ao9 t228.length co9) := (blk_cell BK232.out 2).trans rfl
            have hfz20_0 := blk_frozen BK232.out 0
            have hfz20_1 := blk_frozen BK232.out 1
            have hfz20_2 := blk_frozen BK232.out 2
            go_wp2_with (first | ((with_reducible refine gate_callee (f := 22) rfl ?_); refine goesL_ (some 29) rfl rfl Try.func22 (by kernel_rfl) rfl #[.agg #[.int .i64 t226, .int .i64 t227, .slice Ao9 t228.length co9], .int .i64 t231] rfl (by (try simp only [List.map_toArray, List.map_cons, List.map_nil]); first | done | rfl | (simp only [List.length_drop, List.length_take]; rfl)) ?_; (with_reducible refine (spec_VlanIn.calls kj4 t226 t227 _ _ t228 t231 t235 _ ?side1 ?side2 A18.out).mono ?_); (case side1 => repeat (first | exact (Kd.R_reads' HO_233002.out).2.2 | (with_reducible refine Kd.C_alloc ?_ _) | (with_reducible refine Kd.C_drewN ?_ _) | (with_reducible refine Kd.C_drew ?_))); (case side2 => exact (Kd.R_reads' HO_233002.out).2.1); rintro e w21 ⟨rfl, hb⟩; refine ⟨_, rfl, ?_⟩; have n0_ := Aside0.mk (Kd.R_below (by (with_reducible repeat (first | apply Kd.R_alloc | apply Kd.R_drewN | apply Kd.R_drew)); exact HO_233002.out) hb); have n1_ := Aside0.mk (blk_below (g := gb232) (o := .cells #[.int .i64 t226, .int .i64 t227, .slice Ao9 t228.length co9] 27 (0, 0)) (by (with_reducible repeat (first | refine blk_drewN ?_ _ | refine blk_drew ?_ | refine blk_alloc ?_ _)); exact BK232.out) hb); have n2_ := Aside0.mk (below_step (by repeat (first | (with_reducible first | exact HB.out | apply below_alloc | apply pw_below_drewN | apply below_drew1 | refine below_set ?_ GE232.out) | exact HB.out)) hb); clear HO_233002; clear BK232; clear HB; have HO_233002 := n0_; have BK232 := n1_; have HB := n2_; clear n0_ n1_ n2_; (try clear hb); (try clear hb2); (try clear hk); (try clear hi)))
            go_ret
            exact ⟨by first | rfl | (simp [errW_none, errW_some] <;> rfl) | (simp [*, errW_none, errW_some] <;> rfl), by repeat (first | (with_reducible first | exact HB.out | apply below_alloc | apply pw_below_drewN | apply below_drew1 | refine below_set ?_ GE232.out) | exact HB.out)⟩
          · rw [if_neg c19] at H
            have c19b0 : (t233 == t235) = false := beq_eq_false_iff_ne.mpr c19
            have c19b1 : (t233 != t235) = true := bne_iff_ne.mpr c19
            obtain rfl := Option.some.inj H
            have hcz22_0 : wc.cell? ⟨gb232, 0, none⟩ = some (.int .i64 t226) := (blk_cell BK232.out 0).trans rfl
            have hcz22_1 : wc.cell? ⟨gb232, 1, none⟩ = some (.int .i64 t227) := (blk_cell BK232.out 1).trans rfl
            have hcz22_2 : wc.cell? ⟨gb232, 2, none⟩ = some (.slice Ao9 t228.length co9) := (blk_cell BK232.out 2).trans rfl
            have hfz22_0 := blk_frozen BK232.out 0
            have hfz22_1 := blk_frozen BK232.out 1
            have hfz22_2 := blk_frozen BK232.out 2
            go_wp2_with (first | ((with_reducible refine gate_callee (f := 22) rfl ?_); refine goesL_ (some 29) rfl rfl Try.func22 (by kernel_rfl) rfl #[.agg #[.int .i64 t226, .int .i64 t227, .slice Ao9 t228.length co9], .int .i64 t231] rfl (by (try simp only [List.map_toArray, List.map_cons, List.map_nil]); first | done | rfl | (simp only [List.length_drop, List.length_take]; rfl)) ?_; (with_reducible refine (spec_VlanIn.calls kj4 t226 t227 _ _ t228 t231 t235 _ ?side1 ?side2 A18.out).mono ?_); (case side1 => repeat (first | exact (Kd.R_reads' HO_233002.out).2.2 | (with_reducible refine Kd.C_alloc ?_ _) | (with_reducible refine Kd.C_drewN ?_ _) | (with_reducible refine Kd.C_drew ?_))); (case side2 => exact (Kd.R_reads' HO_233002.out).2.1); rintro e w23 ⟨rfl, hb⟩; refine ⟨_, rfl, ?_⟩; have n0_ := Aside0.mk (Kd.R_below (by (with_reducible repeat (first | apply Kd.R_alloc | apply Kd.R_drewN | apply Kd.R_drew)); exact HO_233002.out) hb); have n1_ := Aside0.mk (blk_below (g := gb232) (o := .cells #[.int .i64 t226, .int .i64 t227, .slice Ao9 t228.length co9] 27 (0, 0)) (by (with_reducible repeat (first | refine blk_drewN ?_ _ | refine blk_drew ?_ | refine blk_alloc ?_ _)); exact BK232.out) hb); have n2_ := Aside0.mk (below_step (by repeat (first | (with_reducible first | exact HB.out | apply below_alloc | apply pw_below_drewN | apply below_drew1 | refine below_set ?_ GE232.out) | exact HB.out)) hb); clear HO_233002; clear BK232; clear HB; have HO_233002 := n0_; have BK232 := n1_; have HB := n2_; clear n0_ n1_ n2_; (try clear hb); (try clear hb2); (try clear hk); (try clear hi)))
            go_ret
            exact ⟨by first | rfl | (simp [errW_none, errW_some] <;> rfl) | (simp [*, errW_none, errW_some] <;> rfl), by repeat (first | (with_reducible first | exact HB.out | apply below_alloc | apply pw_below_drewN | apply below_drew1 | refine below_set ?_ GE232.out) | exact HB.out)⟩
        · replace c17 := Bool.eq_false_iff.mpr c17
          subst c17
          have H1 : ((impl_TagOut.f kj4 t226 t227 t228 t233).bind fun t236 => (if t236 = t231 then (if t233 ≥ 1 then (some (decide (t233 ≤ 9))) else (some false)) else (some false))) = some r := by rw [if_neg (show ¬ (false = true) by decide)] at H; exact H
          clear H
          have H := H1
          clear H1
          replace H := Option.bind_eq_some_iff.mp H
          obtain ⟨t236, A240, H⟩ := H
          replace H : (if t236 = t231 then (if t233 ≥ 1 then (some (decide (t233 ≤ 9))) else (some false)) else (some false)) = some r := H
          have A24 := Aside0.mk A240
          clear A240
          by_cases c25 : t236 = t231
          · rw [if_pos c25] at H
            have c25b0 : (t236 == t231) = true := beq_iff_eq.mpr c25
            have c25b1 : (t236 != t231) = false := bne_eq_false_iff_eq.mpr c25
            clear c25
            by_cases c26 : t233 ≥ 1
            · rw [if_pos c26] at H
              have c26b0 : decide (1 ≤ t233) = true := decide_eq_true c26
              clear c26
              obtain rfl := Option.some.inj H
              have hcz27_0 : wc.cell? ⟨gb232, 0, none⟩ = some (.int .i64 t226) := (blk_cell BK232.out 0).trans rfl
              have hcz27_1 : wc.cell? ⟨gb232, 1, none⟩ = some (.int .i64 t227) := (blk_cell BK232.out 1).trans rfl
              have hcz27_2 : wc.cell? ⟨gb232, 2, none⟩ = some (.slice Ao9 t228.length co9) := (blk_cell BK232.out 2).trans rfl
              have hfz27_0 := blk_frozen BK232.out 0
              have hfz27_1 := blk_frozen BK232.out 1
              have hfz27_2 := blk_frozen BK232.out 2
              go_wp2_with (first | ((with_reducible refine gate_callee (f := 20) rfl ?_); refine goesL_ (some 37) rfl rfl Try.func20 (by kernel_rfl) rfl #[.agg #[.int .i64 t226, .int .i64 t227, .slice Ao9 t228.length co9], .int .i64 t233] rfl (by (try simp only [List.map_toArray, List.map_cons, List.map_nil]); first | done | rfl | (simp only [List.length_drop, List.length_take]; rfl)) ?_; (with_reducible refine (impl_TagOut.calls kj4 t226 t227 _ _ t228 t233 t236 _ ?side1 ?side2 A24.out).mono ?_); (case side1 => repeat (first | exact (Kd.R_reads' HO_233002.out).2.2 | (with_reducible refine Kd.C_alloc ?_ _) | (with_reducible refine Kd.C_drewN ?_ _) | (with_reducible refine Kd.C_drew ?_))); (case side2 => exact (Kd.R_reads' HO_233002.out).2.1); rintro e w28 ⟨rfl, hb⟩; refine ⟨_, rfl, ?_⟩; have n0_ := Aside0.mk (Kd.R_below (by (with_reducible repeat (first | apply Kd.R_alloc | apply Kd.R_drewN | apply Kd.R_drew)); exact HO_233002.out) hb); have n1_ := Aside0.mk (blk_below (g := gb232) (o := .cells #[.int .i64 t226, .int .i64 t227, .slice Ao9 t228.length co9] 27 (0, 0)) (by (with_reducible repeat (first | refine blk_drewN ?_ _ | refine blk_drew ?_ | refine blk_alloc ?_ _)); exact BK232.out) hb); have n2_ := Aside0.mk (below_step (by repeat (first | (with_reducible first | exact HB.out | apply below_alloc | apply pw_below_drewN | apply below_drew1 | refine below_set ?_ GE232.out) | exact HB.out)) hb); clear HO_233002; clear BK232; clear HB; have HO_233002 := n0_; have BK232 := n1_; have HB := n2_; clear n0_ n1_ n2_; (try clear hb); (try clear hb2); (try clear hk); (try clear hi)))
              go_ret
              exact ⟨by first | rfl | (simp [errW_none, errW_some] <;> rfl) | (simp [*, errW_none, errW_some] <;> rfl), by repeat (first | (with_reducible first | exact HB.out | apply below_alloc | apply pw_below_drewN | apply below_drew1 | refine below_set ?_ GE232.out) | exact HB.out)⟩
            · rw [if_neg c26] at H
              have c26b0 : decide (1 ≤ t233) = false := decide_eq_false c26
              clear c26
              obtain rfl := Option.some.inj H
              have hcz29_0 : wc.cell? ⟨gb232, 0, none⟩ = some (.int .i64 t226) := (blk_cell BK232.out 0).trans rfl
              have hcz29_1 : wc.cell? ⟨gb232, 1, none⟩ = some (.int .i64 t227) := (blk_cell BK232.out 1).trans rfl
              have hcz29_2 : wc.cell? ⟨gb232, 2, none⟩ = some (.slice Ao9 t228.length co9) := (blk_cell BK232.out 2).trans rfl
              have hfz29_0 := blk_frozen BK232.out 0
              have hfz29_1 := blk_frozen BK232.out 1
              have hfz29_2 := blk_frozen BK232.out 2
              go_wp2_with (first | ((with_reducible refine gate_callee (f := 20) rfl ?_); refine goesL_ (some 37) rfl rfl Try.func20 (by kernel_rfl) rfl #[.agg #[.int .i64 t226, .int .i64 t227, .slice Ao9 t228.length co9], .int .i64 t233] rfl (by (try simp only [List.map_toArray, List.map_cons, List.map_nil]); first | done | rfl | (simp only [List.length_drop, List.length_take]; rfl)) ?_; (with_reducible refine (impl_TagOut.calls kj4 t226 t227 _ _ t228 t233 t236 _ ?side1 ?side2 A24.out).mono ?_); (case side1 => repeat (first | exact (Kd.R_reads' HO_233002.out).2.2 | (with_reducible refine Kd.C_alloc ?_ _) | (with_reducible refine Kd.C_drewN ?_ _) | (with_reducible refine Kd.C_drew ?_))); (case side2 => exact (Kd.R_reads' HO_233002.out).2.1); rintro e w30 ⟨rfl, hb⟩; refine ⟨_, rfl, ?_⟩; have n0_ := Aside0.mk (Kd.R_below (by (with_reducible repeat (first | apply Kd.R_alloc | apply Kd.R_drewN | apply Kd.R_drew)); exact HO_233002.out) hb); have n1_ := Aside0.mk (blk_below (g := gb232) (o := .cells #[.int .i64 t226, .int .i64 t227, .slice Ao9 t228.length co9] 27 (0, 0)) (by (with_reducible repeat (first | refine blk_drewN ?_ _ | refine blk_drew ?_ | refine blk_alloc ?_ _)); exact BK232.out) hb); have n2_ := Aside0.mk (below_step (by repeat (first | (with_reducible first | exact HB.out | apply below_alloc | apply pw_below_drewN | apply below_drew1 | refine below_set ?_ GE232.out) | exact HB.out)) hb); clear HO_233002; clear BK232; clear HB; have HO_233002 := n0_; have BK232 := n1_; have HB := n2_; clear n0_ n1_ n2_; (try clear hb); (try clear hb2); (try clear hk); (try clear hi)))
              go_ret
              exact ⟨by first | rfl | (simp [errW_none, errW_some] <;> rfl) | (simp [*, errW_none, errW_some] <;> rfl), by repeat (first | (with_reducible first | exact HB.out | apply below_alloc | apply pw_below_drewN | apply below_drew1 | refine below_set ?_ GE232.out) | exact HB.out)⟩
          · rw [if_neg c25] at H
            have c25b0 : (t236 == t231) = false := beq_eq_false_iff_ne.mpr c25
            have c25b1 : (t236 != t231) = true := bne_iff_ne.mpr c25
            obtain rfl := Option.some.inj H
            have hcz31_0 : wc.cell? ⟨gb232, 0, none⟩ = some (.int .i64 t226) := (blk_cell BK232.out 0).trans rfl
            have hcz31_1 : wc.cell? ⟨gb232, 1, none⟩ = some (.int .i64 t227) := (blk_cell BK232.out 1).trans rfl
            have hcz31_2 : wc.cell? ⟨gb232, 2, none⟩ = some (.slice Ao9 t228.length co9) := (blk_cell BK232.out 2).trans rfl
            have hfz31_0 := blk_frozen BK232.out 0
            have hfz31_1 := blk_frozen BK232.out 1
            have hfz31_2 := blk_frozen BK232.out 2
            go_wp2_with (first | ((with_reducible refine gate_callee (f := 20) rfl ?_); refine goesL_ (some 37) rfl rfl Try.func20 (by kernel_rfl) rfl #[.agg #[.int .i64 t226, .int .i64 t227, .slice Ao9 t228.length co9], .int .i64 t233] rfl (by (try simp only [List.map_toArray, List.map_cons, List.map_nil]); first | done | rfl | (simp only [List.length_drop, List.length_take]; rfl)) ?_; (with_reducible refine (impl_TagOut.calls kj4 t226 t227 _ _ t228 t233 t236 _ ?side1 ?side2 A24.out).mono ?_); (case side1 => repeat (first | exact (Kd.R_reads' HO_233002.out).2.2 | (with_reducible refine Kd.C_alloc ?_ _) | (with_reducible refine Kd.C_drewN ?_ _) | (with_reducible refine Kd.C_drew ?_))); (case side2 => exact (Kd.R_reads' HO_233002.out).2.1); rintro e w32 ⟨rfl, hb⟩; refine ⟨_, rfl, ?_⟩; have n0_ := Aside0.mk (Kd.R_below (by (with_reducible repeat (first | apply Kd.R_alloc | apply Kd.R_drewN | apply Kd.R_drew)); exact HO_233002.out) hb); have n1_ := Aside0.mk (blk_below (g := gb232) (o := .cells #[.int .i64 t226, .int .i64 t227, .slice Ao9 t228.length co9] 27 (0, 0)) (by (with_reducible repeat (first | refine blk_drewN ?_ _ | refine blk_drew ?_ | refine blk_alloc ?_ _)); exact BK232.out) hb); have n2_ := Aside0.mk (below_step (by repeat (first | (with_reducible first | exact HB.out | apply below_alloc | apply pw_below_drewN | apply below_drew1 | refine below_set ?_ GE232.out) | exact HB.out)) hb); clear HO_233002; clear BK232; clear HB; have HO_233002 := n0_; have BK232 := n1_; have HB := n2_; clear n0_ n1_ n2_; (try clear hb); (try clear hb2); (try clear hk); (try clear hi)))
            go_ret
            exact ⟨by first | rfl | (simp [errW_none, errW_some] <;> rfl) | (simp [*, errW_none, errW_some] <;> rfl), by repeat (first | (with_reducible first | exact HB.out | apply below_alloc | apply pw_below_drewN | apply below_drew1 | refine below_set ?_ GE232.out) | exact HB.out)⟩

/-- THE ONE PURE STATEMENT of laws_FnVlanIn: yours. -/
def laws_FnVlanIn.Pure : Prop := ∀ (l0 : List Int), l0.length ≤ maxLen → l0.length * 1 ≤ 140737488351232 → (∀ x ∈ l0, (Lit.int .u8 x).wf = true) → ∃ k, laws_FnVlanIn.f k l0 = some true
theorem laws_FnVlanIn.walk (P : laws_FnVlanIn.Pure) (a0 : Option Addr) (len0 cap0 : Nat) (z0 : List Int) (w : World) (w0 : (a0 = none ∧ len0 = 0 ∧ cap0 = 0 ∧ z0 = []) ∨ ∃ x, a0 = some x ∧ len0 ≤ cap0 ∧ cap0 ≤ maxLen ∧ z0.length = cap0 ∧ (∀ i, i < z0.length → w.cell? (x.add i) = some (.int .u8 (z0.getD i 0))) ∧ ∀ n ∈ z0, (Lit.int .u8 n).wf = true) (y0 : len0 * 1 ≤ 140737488351232) :
    Calls Try.prog 7 #[.slice a0 len0 cap0] w fun e w' => e = .returned (.bool true) ∧ Below w.heap.size w w' := by
  obtain ⟨l0, rfl, hr0, hm0, hw0, hc0⟩ := ReadsInt.ofRowC w0
  obtain ⟨k, h⟩ := P l0 hm0 y0 hw0
  refine (laws_FnVlanIn.calls k _ _ l0 true w (Kd.C_of_reads (d := (0 : Int)) (h1 := fun _ => rfl) hr0) hc0 h).mono ?_
  rintro e w' ⟨rfl, hd⟩
  exact ⟨rfl, hd⟩

end Go.Proofs.Ytmkjcoppadegjaa.PFnVlanIn
