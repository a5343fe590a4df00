/- What the Go functions that this law reaches answer, function by function; conditions: those that each contract names. Made for this claim by a program of this session (wip/myprint) over the kit's print. -/
import Derived.Test.YtcgbkbjldkackaaPFnRoomx0
import Derived.Test.YtcgbkbjldkackaaPFnRoomx2
namespace Go.Proofs.Ytcgbkbjldkackaa.PFnRoom
open Go.RowKit Go.Proofs.YtcgbkbjldkackaaW.PrintWords Go.Proofs.YtcgbkbjldkackaaW.PrintLast Go.Proofs.YtcgbkbjldkackaaW.PrintMore
attribute [local go_sem] max2_int min2_int max_two min_two max_three min_three max_four min_four   -- for this text's walks alone
set_option linter.unusedVariables false
set_option linter.unusedSimpArgs false

/-! ### spec_l13Run: function 38 -/
mutual
def spec_l13Run.l0 : Nat → Int → Int → List Int → Int → Int → Int → List Int → List Int → Int → Int → Int → Int → Bool → Option (Int × Int × Int × Int × Bool)
  | 0, _, _, _, _, _, _, _, _, _, _, _, _, _ => none
  | k + 1, x1, x2, x3, x4, x12, x13, x14, x15, x109000, x109001, x109002, x109003, x109004 => if x109003 < x4 then (spec_l13Run.j1 k x1 x2 x3 x4 x12 x13 x14 x15 (decide (x109001 < x2)) x109000 x109001 x109002 x109003 x109004) else (spec_l13Run.j1 k x1 x2 x3 x4 x12 x13 x14 x15 false x109000 x109001 x109002 x109003 x109004)
def spec_l13Run.j1 : Nat → Int → Int → List Int → Int → Int → Int → List Int → List Int → Bool → Int → Int → Int → Int → Bool → Option (Int × Int × Int × Int × Bool)
  | 0, _, _, _, _, _, _, _, _, _, _, _, _, _, _ => none
  | k + 1, x1, x2, x3, x4, x12, x13, x14, x15, x38, x109000, x109001, x109002, x109003, x109004 => if x38 = true then (if 0 ≤ x109003 then (if x109003 < (x15.length : Int) then (if x109003 < (x14.length : Int) then (if (x3.length : Int) = 0 then (none) else (if 0 ≤ (Int.tmod x109003 (x3.length : Int)) then (if (Int.tmod x109003 (x3.length : Int)) < (x3.length : Int) then (if (rd x3 (Int.tmod x109003 (x3.length : Int))) = 1 then (spec_l13Run.j2 k x1 x2 x3 x4 (wrap64 (x12 + (rd x15 x109003))) (wrap64 (x13 + (rd x14 x109003))) x14 x15 x109003 (decide ((wrap64 (x13 + (rd x14 x109003))) > 0)) x109000 x109001 (mx x109002 (wrap64 (x13 + (rd x14 x109003)))) x109003 x109004) else (spec_l13Run.j2 k x1 x2 x3 x4 (wrap64 (x12 + (rd x15 x109003))) (wrap64 (x13 + (rd x14 x109003))) x14 x15 x109003 false x109000 x109001 (mx x109002 (wrap64 (x13 + (rd x14 x109003)))) x109003 x109004)) else (none)) else (none))) else (none)) else (none)) else (none)) else (some (x109000, x109001, x109002, x109003, (x109001 == x2)))
def spec_l13Run.j2 : Nat → Int → Int → List Int → Int → Int → Int → List Int → List Int → Int → Bool → Int → Int → Int → Int → Bool → Option (Int × Int × Int × Int × Bool)
  | 0, _, _, _, _, _, _, _, _, _, _, _, _, _, _, _ => none
  | k + 1, x1, x2, x3, x4, x12, x13, x14, x15, x16, x69, x109000, x109001, x109002, x109003, x109004 => if x69 = true then (if 0 ≤ (wrap64 (x16 + x1)) then (if (wrap64 (x16 + x1)) < (x15.length : Int) then ((some (x15.set ((wrap64 (x16 + x1)) : Int).toNat 1 : List Int)).bind fun y118 => (if x12 > 0 then (if x109000 < x2 then (if (wrap64 (x16 + x1)) < (x14.length : Int) then (spec_l13Run.l0 k x1 x2 x3 x4 (wrap64 (x12 - 1)) (wrap64 (x13 - 1)) (x14.set ((wrap64 (x16 + x1)) : Int).toNat 1) y118 (wrap64 (x109000 + 1)) (wrap64 (x109001 + 1)) x109002 (wrap64 (x109003 + 1)) x109004) else (none)) else (spec_l13Run.l0 k x1 x2 x3 x4 x12 (wrap64 (x13 - 1)) x14 y118 x109000 (wrap64 (x109001 + 1)) x109002 (wrap64 (x109003 + 1)) x109004)) else (spec_l13Run.l0 k x1 x2 x3 x4 x12 (wrap64 (x13 - 1)) x14 y118 x109000 (wrap64 (x109001 + 1)) x109002 (wrap64 (x109003 + 1)) x109004))) else (none)) else (none)) else (if x12 > 0 then (if x109000 < x2 then (if 0 ≤ (wrap64 (x16 + x1)) then (if (wrap64 (x16 + x1)) < (x14.length : Int) then (spec_l13Run.l0 k x1 x2 x3 x4 (wrap64 (x12 - 1)) x13 (x14.set ((wrap64 (x16 + x1)) : Int).toNat 1) x15 (wrap64 (x109000 + 1)) x109001 x109002 (wrap64 (x109003 + 1)) x109004) else (none)) else (none)) else (spec_l13Run.l0 k x1 x2 x3 x4 x12 x13 x14 x15 x109000 x109001 x109002 (wrap64 (x109003 + 1)) x109004)) else (spec_l13Run.l0 k x1 x2 x3 x4 x12 x13 x14 x15 x109000 x109001 x109002 (wrap64 (x109003 + 1)) x109004))
end
def spec_l13Run.f (k : Nat) (a0 : Int) (a1 : Int) (a2 : Int) (l3 : List Int) (a4 : Int) : Option (Int × Int × Int × Int × Bool) := if 0 ≤ (wrap64 ((wrap64 (a4 + a1)) + 1)) then (if (wrap64 ((wrap64 (a4 + a1)) + 1) : Int).toNat ≤ 35184372088832 then (spec_l13Run.l0 k a1 a2 l3 a4 a0 0 (List.replicate (wrap64 ((wrap64 (a4 + a1)) + 1) : Int).toNat 0) (List.replicate (wrap64 ((wrap64 (a4 + a1)) + 1) : Int).toNat 0) 0 0 0 0 false) else (none)) else (none)
theorem spec_l13Run.mono_l : ∀ k, (∀ y0 y1 y2 y3 y4 y5 y6 y7 y8 y9 y10 y11 y12, LeO (spec_l13Run.l0 k y0 y1 y2 y3 y4 y5 y6 y7 y8 y9 y10 y11 y12) (spec_l13Run.l0 (k + 1) y0 y1 y2 y3 y4 y5 y6 y7 y8 y9 y10 y11 y12)) ∧ (∀ y0 y1 y2 y3 y4 y5 y6 y7 y8 y9 y10 y11 y12 y13, LeO (spec_l13Run.j1 k y0 y1 y2 y3 y4 y5 y6 y7 y8 y9 y10 y11 y12 y13) (spec_l13Run.j1 (k + 1) y0 y1 y2 y3 y4 y5 y6 y7 y8 y9 y10 y11 y12 y13)) ∧ (∀ y0 y1 y2 y3 y4 y5 y6 y7 y8 y9 y10 y11 y12 y13 y14, LeO (spec_l13Run.j2 k y0 y1 y2 y3 y4 y5 y6 y7 y8 y9 y10 y11 y12 y13 y14) (spec_l13Run.j2 (k + 1) y0 y1 y2 y3 y4 y5 y6 y7 y8 y9 y10 y11 y12 y13 y14))
  | 0 => ⟨fun _ _ _ _ _ _ _ _ _ _ _ _ _ r h => by simp [spec_l13Run.l0] at h, fun _ _ _ _ _ _ _ _ _ _ _ _ _ _ r h => by simp [spec_l13Run.j1] at h, fun _ _ _ _ _ _ _ _ _ _ _ _ _ _ _ r h => by simp [spec_l13Run.j2] at h⟩
  | k + 1 => by
    obtain ⟨ih0, ih1, ih2⟩ := spec_l13Run.mono_l k
    refine ⟨?_, ?_, ?_⟩
    · intro y0 y1 y2 y3 y4 y5 y6 y7 y8 y9 y10 y11 y12
      unfold spec_l13Run.l0
      repeat' first
      | (with_reducible exact ih0 _ _ _ _ _ _ _ _ _ _ _ _ _)
      | (with_reducible exact ih1 _ _ _ _ _ _ _ _ _ _ _ _ _ _)
      | (with_reducible exact ih2 _ _ _ _ _ _ _ _ _ _ _ _ _ _ _)
      | (with_reducible exact LeO.refl _)
      | (with_reducible exact LeO.none _)
      | (with_reducible refine LeO.ite ?_ ?_)
      | (with_reducible refine LeO.bind ?_ (fun _ => ?_))
      | exact ih0 _ _ _ _ _ _ _ _ _ _ _ _ _
      | exact ih1 _ _ _ _ _ _ _ _ _ _ _ _ _ _
      | exact ih2 _ _ _ _ _ _ _ _ _ _ _ _ _ _ _
      | exact LeO.none _
      | refine LeO.ite ?_ ?_
      | refine LeO.bind ?_ (fun _ => ?_)
    · intro y0 y1 y2 y3 y4 y5 y6 y7 y8 y9 y10 y11 y12 y13
      unfold spec_l13Run.j1
      repeat' first
      | (with_reducible exact ih0 _ _ _ _ _ _ _ _ _ _ _ _ _)
      | (with_reducible exact ih1 _ _ _ _ _ _ _ _ _ _ _ _ _ _)
      | (with_reducible exact ih2 _ _ _ _ _ _ _ _ _ _ _ _ _ _ _)
      | (with_reducible exact LeO.refl _)
      | (with_reducible exact LeO.none _)
      | (with_reducible refine LeO.ite ?_ ?_)
      | (with_reducible refine LeO.bind ?_ (fun _ => ?_))
      | exact ih0 _ _ _ _ _ _ _ _ _ _ _ _ _
      | exact ih1 _ _ _ _ _ _ _ _ _ _ _ _ _ _
      | exact ih2 _ _ _ _ _ _ _ _ _ _ _ _ _ _ _
      | exact LeO.none _
      | refine LeO.ite ?_ ?_
      | refine LeO.bind ?_ (fun _ => ?_)
    · intro y0 y1 y2 y3 y4 y5 y6 y7 y8 y9 y10 y11 y12 y13 y14
      unfold spec_l13Run.j2
      repeat' first
      | (with_reducible exact ih0 _ _ _ _ _ _ _ _ _ _ _ _ _)
      | (with_reducible exact ih1 _ _ _ _ _ _ _ _ _ _ _ _ _ _)
      | (with_reducible exact ih2 _ _ _ _ _ _ _ _ _ _ _ _ _ _ _)
      | (with_reducible exact LeO.refl _)
      | (with_reducible exact LeO.none _)
      | (with_reducible refine LeO.ite ?_ ?_)
      | (with_reducible refine LeO.bind ?_ (fun _ => ?_))
      | exact ih0 _ _ _ _ _ _ _ _ _ _ _ _ _
      | exact ih1 _ _ _ _ _ _ _ _ _ _ _ _ _ _
      | exact ih2 _ _ _ _ _ _ _ _ _ _ _ _ _ _ _
      | exact LeO.none _
      | refine LeO.ite ?_ ?_
      | refine LeO.bind ?_ (fun _ => ?_)
theorem spec_l13Run.mono : ∀ a0 a1 a2 a3 a4 k, LeO (spec_l13Run.f k a0 a1 a2 a3 a4) (spec_l13Run.f (k + 1) a0 a1 a2 a3 a4) := by
  intro a0 a1 a2 a3 a4 k
  obtain ⟨ih0, ih1, ih2⟩ := spec_l13Run.mono_l k
  unfold spec_l13Run.f
  repeat' first
      | (with_reducible exact ih0 _ _ _ _ _ _ _ _ _ _ _ _ _)
      | (with_reducible exact ih1 _ _ _ _ _ _ _ _ _ _ _ _ _ _)
      | (with_reducible exact ih2 _ _ _ _ _ _ _ _ _ _ _ _ _ _ _)
      | (with_reducible exact LeO.refl _)
      | (with_reducible exact LeO.none _)
      | (with_reducible refine LeO.ite ?_ ?_)
      | (with_reducible refine LeO.bind ?_ (fun _ => ?_))
      | exact ih0 _ _ _ _ _ _ _ _ _ _ _ _ _
      | exact ih1 _ _ _ _ _ _ _ _ _ _ _ _ _ _
      | exact ih2 _ _ _ _ _ _ _ _ _ _ _ _ _ _ _
      | exact LeO.none _
      | refine LeO.ite ?_ ?_
      | refine LeO.bind ?_ (fun _ => ?_)
set_option maxHeartbeats 8000000 in
set_option maxRecDepth 100000 in
theorem spec_l13Run.calls (k : Nat) (a0 : Int) (a1 : Int) (a2 : Int) (A3 : Option Addr) (c3 : Nat) (l3 : List Int) (a4 : Int) (r1 : Int) (r2 : Int) (r3 : Int) (r4 : Int) (r5 : Bool) (w : World) (hr3 : Kd.C (Kd.int .i64) w A3 l3.length l3) (hc3 : l3.length ≤ c3) (h : spec_l13Run.f k a0 a1 a2 l3 a4 = some (r1, r2, r3, r4, r5)) :
    Calls Try.prog 38 #[.int .i64 a0, .int .i64 a1, .int .i64 a2, .slice A3 l3.length c3, .int .i64 a4] w fun e w' => e = .returned (.agg #[.int .i64 r1, .int .i64 r2, .int .i64 r3, .int .i64 r4, .bool r5]) ∧ Below w.heap.size w w' := by
  have hu37 := Try.underlying37
  have HR3 := Aside0.mk hr3
  have HC3 := Aside0.mk hc3
  clear hr3 hc3
  have HB := Aside0.mk (Below.refl w.heap.size w)
  have H : (if 0 ≤ (wrap64 ((wrap64 (a4 + a1)) + 1)) then (if (wrap64 ((wrap64 (a4 + a1)) + 1) : Int).toNat ≤ 35184372088832 then (spec_l13Run.l0 k a1 a2 l3 a4 a0 0 (List.replicate (wrap64 ((wrap64 (a4 + a1)) + 1) : Int).toNat 0) (List.replicate (wrap64 ((wrap64 (a4 + a1)) + 1) : Int).toNat 0) 0 0 0 0 false) else (none)) else (none)) = some (r1, r2, r3, r4, r5) := h
  clear h
  obtain ⟨ji6, hji6⟩ : ∃ j_ : Int, (wrap64 ((wrap64 (a4 + a1)) + 1)) = j_ := ⟨_, rfl⟩
  replace H : (if 0 ≤ (ji6) then (if (ji6 : Int).toNat ≤ 35184372088832 then (spec_l13Run.l0 k a1 a2 l3 a4 a0 0 (List.replicate (ji6 : Int).toNat 0) (List.replicate (ji6 : Int).toNat 0) 0 0 0 0 false) else (none)) else (none)) = some (r1, r2, r3, r4, r5) := by first | (rw [hji6] at H; exact H) | (simp only [hji6] at H ⊢; exact H)
  have hji6w : (IntKind.i64.wrap ((wrap64 (a4 + a1)) + 1)) = ji6 := (i64_w _).trans hji6
  by_cases c7 : 0 ≤ (ji6)
  · rw [if_pos c7] at H
    have c7b0 := eq_true c7
    have c7b1 : decide (0 ≤ (ji6)) = true := decide_eq_true c7
    clear c7
    by_cases c8 : (ji6 : Int).toNat ≤ 35184372088832
    · rw [if_pos c8] at H
      have c8b0 := eq_true c8
      have c8b1 : decide ((ji6 : Int).toNat ≤ 35184372088832) = true := decide_eq_true c8
      clear c8
      obtain ⟨y109, hy109⟩ : ∃ y_ : List Int, y_ = (List.replicate (ji6 : Int).toNat 0) := ⟨_, rfl⟩
      replace H : (spec_l13Run.l0 k a1 a2 l3 a4 a0 0 y109 (List.replicate (ji6 : Int).toNat 0) 0 0 0 0 false) = some (r1, r2, r3, r4, r5) := by first | (rw [hy109]; with_reducible exact H) | (have H2_ := (Option.bind_some _ _).symm.trans H; rw [hy109]; with_reducible exact H2_) | (have H2_ := (Option.bind_some _ _).symm.trans H; with_reducible exact H2_) | with_reducible exact H | (rw [hy109]; exact H) | exact H
      have Ny109 := Aside0.mk hy109
      clear hy109
      obtain ⟨y112, hy112⟩ : ∃ y_ : List Int, y_ = (List.replicate (ji6 : Int).toNat 0) := ⟨_, rfl⟩
      replace H : (spec_l13Run.l0 k a1 a2 l3 a4 a0 0 y109 y112 0 0 0 0 false) = some (r1, r2, r3, r4, r5) := by first | (rw [hy112]; with_reducible exact H) | (have H2_ := (Option.bind_some _ _).symm.trans H; rw [hy112]; with_reducible exact H2_) | (have H2_ := (Option.bind_some _ _).symm.trans H; with_reducible exact H2_) | with_reducible exact H | (rw [hy112]; exact H) | exact H
      have Ny112 := Aside0.mk hy112
      clear hy112
      have H' := Aside0.mk H
      clear H
      go_enter Try.func38, Try.ntmps38
      go_wp2_with (first | ((with_reducible refine gate_dst (N := 10) rfl ?_); refine box_event ?hg (N := 10) ?hd (cs := #[.int .i64 0, .int .i64 0, .int .i64 0, .int .i64 0, .bool false]) (t := 37) ?hr ?_; (case hd => rfl); (case hg => rfl); (case hr => first | (go_simp; done) | (go_simp; rfl)); intro gb107 hg w9 hbox hb; have n0_ := Aside0.mk (below_step (by repeat (first | (with_reducible first | exact HB.out | apply below_alloc | apply pw_below_drewN | apply below_drew1) | exact HB.out)) hb); have n1_ := Aside0.mk (hbox); have n2_ := Aside0.mk ((by rw [hg]; exact (below_size (by repeat (first | (with_reducible first | exact HB.out | apply below_alloc | apply pw_below_drewN | apply below_drew1) | exact HB.out))) : w.heap.size ≤ gb107)); have n3_ := Aside0.mk ((by rw [hg]; exact (below_size (by repeat (first | (with_reducible first | exact HB.out | apply below_alloc | apply pw_below_drewN | apply below_drew1) | exact HB.out))) : w.heap.size ≤ gb107)); clear HB; have HB := n0_; have BK107 := n1_; have GW107 := n2_; have GE107 := n3_; clear n0_ n1_ n2_ n3_; clear hb hbox hg) | ((with_reducible refine gate_dst (N := 11) rfl ?_); refine box_event ?hg (N := 11) ?hd (cs := #[.int .i64 0, .int .i64 0, .int .i64 0, .int .i64 0, .bool false]) (t := 37) ?hr ?_; (case hd => rfl); (case hg => rfl); (case hr => first | (go_simp; done) | (go_simp; rfl)); intro gb108 hg w10 hbox hb; have n0_ := Aside0.mk (blk_below (g := gb107) (o := .cells #[.int .i64 0, .int .i64 0, .int .i64 0, .int .i64 0, .bool false] 37 (0, 0)) (by (with_reducible repeat (first | refine blk_drewN ?_ _ | refine blk_drew ?_ | refine blk_alloc ?_ _)); exact BK107.out) hb); have n1_ := Aside0.mk (below_step (by repeat (first | (with_reducible first | exact HB.out | apply below_alloc | apply pw_below_drewN | apply below_drew1 | refine below_set ?_ GE107.out) | exact HB.out)) hb); have n2_ := Aside0.mk (hbox); have n3_ := Aside0.mk ((by rw [hg]; exact (below_size (by repeat (first | (with_reducible first | exact HB.out | apply below_alloc | apply pw_below_drewN | apply below_drew1 | refine below_set ?_ GE107.out) | exact HB.out))) : w.heap.size ≤ gb108)); have n4_ := Aside0.mk ((by rw [hg]; exact (below_size (by repeat (first | (with_reducible first | exact HB.out | apply below_alloc | apply pw_below_drewN | apply below_drew1 | refine below_set ?_ GE107.out) | exact HB.out))) : w.heap.size ≤ gb108)); have n5_ := Aside0.mk ((by rw [hg]; exact Nat.ne_of_lt (blk_lt (g := gb107) (o := .cells #[.int .i64 0, .int .i64 0, .int .i64 0, .int .i64 0, .bool false] 37 (0, 0)) (by (with_reducible repeat (first | refine blk_drewN ?_ _ | refine blk_drew ?_ | refine blk_alloc ?_ _)); exact BK107.out)) : gb107 ≠ gb108)); have n6_ := Aside0.mk ((by rw [hg]; exact Nat.ne_of_gt (blk_lt (g := gb107) (o := .cells #[.int .i64 0, .int .i64 0, .int .i64 0, .int .i64 0, .bool false] 37 (0, 0)) (by (with_reducible repeat (first | refine blk_drewN ?_ _ | refine blk_drew ?_ | refine blk_alloc ?_ _)); exact BK107.out)) : gb108 ≠ gb107)); clear BK107; clear HB; have BK107 := n0_; have HB := n1_; have BK108 := n2_; have GW108 := n3_; have GE108 := n4_; have NB107_108 := n5_; have NB108_107 := n6_; clear n0_ n1_ n2_ n3_ n4_ n5_ n6_; clear hb hbox hg; have hnb11 := NB108_107.out; have hnc11 := NB107_108.out; have hcz12_0 : w10.cell? ⟨gb108, 0, none⟩ = some (.int .i64 0) := (blk_cell BK108.out 0).trans rfl; have hcz12_1 : w10.cell? ⟨gb108, 1, none⟩ = some (.int .i64 0) := (blk_cell BK108.out 1).trans rfl; have hcz12_2 : w10.cell? ⟨gb108, 2, none⟩ = some (.int .i64 0) := (blk_cell BK108.out 2).trans rfl; have hcz12_3 : w10.cell? ⟨gb108, 3, none⟩ = some (.int .i64 0) := (blk_cell BK108.out 3).trans rfl; have hcz12_4 : w10.cell? ⟨gb108, 4, none⟩ = some (.bool false) := (blk_cell BK108.out 4).trans rfl; have hfz12_0 := blk_frozen BK108.out 0; have hfz12_1 := blk_frozen BK108.out 1; have hfz12_2 := blk_frozen BK108.out 2; have hfz12_3 := blk_frozen BK108.out 3; have hfz12_4 := blk_frozen BK108.out 4) | ((with_reducible refine gate_dst (N := 23) rfl ?_); refine Kd.R_make (Kd.int .i64) _ 3 rfl (N := 23) rfl 27 _ _ rfl ji6 rfl rfl Try.underlying27 (.int .i64 0) 8 info3 rfl (by decide) (by omega) 0 (ok := fun _ => True) (okp := fun _ => True) rfl (fun _ hk => hk) trivial (of_decide_eq_true (by first | (with_reducible assumption) | assumption)) (Nat.le_trans (Nat.mul_le_mul_right _ (of_decide_eq_true (by first | (with_reducible assumption) | assumption) : ji6.toNat ≤ 35184372088832)) (by omega)) (Below.refl _ _) (Nat.le_refl _) ?_; intro v110 w13 ho14 hb hg_ hnew_; clear hg_ hnew_; (first | rw [← Ny109.out] at ho14 | (simp only [Int.reduceToNat] at ho14; rw [← Ny109.out] at ho14)); have n0_ := Aside0.mk (Kd.R_lower ho14 (below_size (by repeat (first | (with_reducible first | exact HB.out | apply below_alloc | apply pw_below_drewN | apply below_drew1 | refine below_set ?_ GE107.out | refine below_set ?_ GE108.out) | exact HB.out)))); have n1_ := Aside0.mk (blk_below (g := gb107) (o := .cells #[.int .i64 0, .int .i64 0, .int .i64 0, .int .i64 0, .bool false] 37 (0, 0)) (by (with_reducible repeat (first | refine blk_drewN ?_ _ | refine blk_drew ?_ | refine blk_alloc ?_ _)); refine blk_far ?_ NB107_108.out _; (with_reducible repeat (first | refine blk_drewN ?_ _ | refine blk_drew ?_ | refine blk_alloc ?_ _)); refine blk_far ?_ NB107_108.out _; (with_reducible repeat (first | refine blk_drewN ?_ _ | refine blk_drew ?_ | refine blk_alloc ?_ _)); refine blk_far ?_ NB107_108.out _; (with_reducible repeat (first | refine blk_drewN ?_ _ | refine blk_drew ?_ | refine blk_alloc ?_ _)); refine blk_far ?_ NB107_108.out _; (with_reducible repeat (first | refine blk_drewN ?_ _ | refine blk_drew ?_ | refine blk_alloc ?_ _)); refine blk_far ?_ NB107_108.out _; (with_reducible repeat (first | refine blk_drewN ?_ _ | refine blk_drew ?_ | refine blk_alloc ?_ _)); exact BK107.out) hb); have n2_ := Aside0.mk (blk_below (g := gb108) (o := .cells #[.int .i64 0, .int .i64 0, .int .i64 0, .int .i64 0, .bool false] 37 (0, 0)) (by (with_reducible repeat (first | refine blk_drewN ?_ _ | refine blk_drew ?_ | refine blk_alloc ?_ _)); refine blk_put (cs := #[.int .i64 0, .int .i64 0, .int .i64 0, .int .i64 0, .bool false]) ?_ 4 _ rfl; (with_reducible repeat (first | refine blk_drewN ?_ _ | refine blk_drew ?_ | refine blk_alloc ?_ _)); refine blk_put (cs := #[.int .i64 0, .int .i64 0, .int .i64 0, .int .i64 0, .bool false]) ?_ 3 _ rfl; (with_reducible repeat (first | refine blk_drewN ?_ _ | refine blk_drew ?_ | refine blk_alloc ?_ _)); refine blk_put (cs := #[.int .i64 0, .int .i64 0, .int .i64 0, .int .i64 0, .bool false]) ?_ 2 _ rfl; (with_reducible repeat (first | refine blk_drewN ?_ _ | refine blk_drew ?_ | refine blk_alloc ?_ _)); refine blk_put (cs := #[.int .i64 0, .int .i64 0, .int .i64 0, .int .i64 0, .bool false]) ?_ 1 _ rfl; (with_reducible repeat (first | refine blk_drewN ?_ _ | refine blk_drew ?_ | refine blk_alloc ?_ _)); refine blk_put (cs := #[.int .i64 0, .int .i64 0, .int .i64 0, .int .i64 0, .bool false]) ?_ 0 _ rfl; (with_reducible repeat (first | refine blk_drewN ?_ _ | refine blk_drew ?_ | refine blk_alloc ?_ _)); exact BK108.out) hb); have n3_ := Aside0.mk (below_step (by repeat (first | (with_reducible first | exact HB.out | apply below_alloc | apply pw_below_drewN | apply below_drew1 | refine below_set ?_ GE107.out | refine below_set ?_ GE108.out) | exact HB.out)) hb); clear BK107; clear BK108; clear HB; have HO111 := n0_; have BK107 := n1_; have BK108 := n2_; have HB := n3_; clear n0_ n1_ n2_ n3_; clear hb ho14) | ((with_reducible refine gate_dst (N := 28) rfl ?_); refine Kd.R_make (Kd.int .i64) _ 3 rfl (N := 28) rfl 27 _ _ rfl ji6 rfl rfl Try.underlying27 (.int .i64 0) 8 info3 rfl (by decide) (by omega) 0 (ok := fun _ => True) (okp := fun _ => True) rfl (fun _ hk => hk) trivial (of_decide_eq_true (by first | (with_reducible assumption) | assumption)) (Nat.le_trans (Nat.mul_le_mul_right _ (of_decide_eq_true (by first | (with_reducible assumption) | assumption) : ji6.toNat ≤ 35184372088832)) (by omega)) (Below.refl _ _) (Nat.le_refl _) ?_; intro v113 w15 ho16 hb hg_ hnew_; clear hg_ hnew_; (first | rw [← Ny112.out] at ho16 | (simp only [Int.reduceToNat] at ho16; rw [← Ny112.out] at ho16)); have n0_ := Aside0.mk (Kd.R_elder' (by (with_reducible repeat (first | apply Kd.R_alloc | apply Kd.R_drewN | apply Kd.R_drew)); exact HO111.out) (Kd.R_base ho16) hb); have n1_ := Aside0.mk (Kd.R_lower (Kd.R_new' ho16 (Kd.R_lt (by (with_reducible repeat (first | apply Kd.R_alloc | apply Kd.R_drewN | apply Kd.R_drew)); exact HO111.out))) (below_size (by repeat (first | (with_reducible first | exact HB.out | apply below_alloc | apply pw_below_drewN | apply below_drew1 | refine below_set ?_ GE107.out | refine below_set ?_ GE108.out) | exact HB.out)))); have n2_ := Aside0.mk (blk_below (g := gb107) (o := .cells #[.int .i64 0, .int .i64 0, .int .i64 0, .int .i64 0, .bool false] 37 (0, 0)) (by (with_reducible repeat (first | refine blk_drewN ?_ _ | refine blk_drew ?_ | refine blk_alloc ?_ _)); exact BK107.out) hb); have n3_ := Aside0.mk (blk_below (g := gb108) (o := .cells #[.int .i64 0, .int .i64 0, .int .i64 0, .int .i64 0, .bool false] 37 (0, 0)) (by (with_reducible repeat (first | refine blk_drewN ?_ _ | refine blk_drew ?_ | refine blk_alloc ?_ _)); exact BK108.out) hb); have n4_ := Aside0.mk (below_step (by repeat (first | (with_reducible first | exact HB.out | apply below_alloc | apply pw_below_drewN | apply below_drew1 | refine below_set ?_ GE107.out | refine below_set ?_ GE108.out) | exact HB.out)) hb); clear HO111; clear BK107; clear BK108; clear HB; have HO111 := n0_; have HO114 := n1_; have BK107 := n2_; have BK108 := n3_; have HB := n4_; clear n0_ n1_ n2_ n3_ n4_; clear hb ho16))
      go_loopg [12, 13] k (fun kq v12 v13 w' => ∃ (x12_1 : Int) (x13_1 : Int) (x14_1 : List Int) (x15_1 : List Int) (x109000_1 : Int) (x109001_1 : Int) (x109002_1 : Int) (x109003_1 : Int), v12 = .int .i64 x12_1 ∧ v13 = .int .i64 x13_1 ∧ Aside0 (spec_l13Run.l0 kq a1 a2 l3 a4 x12_1 x13_1 x14_1 x15_1 x109000_1 x109001_1 x109002_1 x109003_1 false = some (r1, r2, r3, r4, r5)) ∧ Aside0 (kq ≤ k) ∧ Aside0 (Kd.R (Kd.int .i64) 3 w' w.heap.size (fun k_ => some k_ ≠ (v113 : Value).ownBlock) v110 x14_1) ∧ Aside0 (Kd.R (Kd.int .i64) 3 w' w.heap.size (fun k_ => some k_ ≠ (v110 : Value).ownBlock) v113 x15_1) ∧ Aside0 (w'.heap[gb107]? = some (.cells #[.int .i64 0, .int .i64 0, .int .i64 0, .int .i64 0, .bool false] 37 (0, 0))) ∧ Aside0 (w'.heap[gb108]? = some (.cells #[.int .i64 x109000_1, .int .i64 x109001_1, .int .i64 x109002_1, .int .i64 x109003_1, .bool false] 37 (0, 0))) ∧ Aside0 (Below w.heap.size w w'))
      case atStart => exact ⟨(a0), (0), (y109), (y112), (0), (0), (0), (0), (by first | rfl | (simp; done) | (simp [*]; done)), (by first | rfl | (simp; done) | (simp [*]; done)), H', ⟨Nat.le_refl _⟩, ⟨by (with_reducible repeat (first | apply Kd.R_alloc | apply Kd.R_drewN | apply Kd.R_drew)); exact Kd.R_mono HO111.out (fun _ hk => hk.2)⟩, ⟨by (with_reducible repeat (first | apply Kd.R_alloc | apply Kd.R_drewN | apply Kd.R_drew)); exact Kd.R_mono HO114.out (fun _ hk => hk.2)⟩, ⟨by (with_reducible repeat (first | refine blk_drewN ?_ _ | refine blk_drew ?_ | refine blk_alloc ?_ _)); exact BK107.out⟩, ⟨by (with_reducible repeat (first | refine blk_drewN ?_ _ | refine blk_drew ?_ | refine blk_alloc ?_ _)); exact BK108.out⟩, ⟨by repeat (first | (with_reducible first | exact HB.out | apply below_alloc | apply pw_below_drewN | apply below_drew1 | refine below_set ?_ GE107.out | refine below_set ?_ GE108.out) | exact HB.out)⟩⟩
      case round =>
        clear H'
        try clear c1
        try clear p2
        try clear c3
        try clear p6
        try clear c7
        try clear c7b0
        try clear c7b1
        try clear c8
        try clear c8b0
        try clear c8b1
        try clear c11
        try clear hcz12_0
        try clear hcz12_1
        try clear hcz12_2
        try clear hcz12_3
        try clear hcz12_4
        try clear hfz12_0
        try clear hfz12_1
        try clear hfz12_2
        try clear hfz12_3
        try clear hfz12_4
        obtain ⟨x12_1, x13_1, x14_1, x15_1, x109000_1, x109001_1, x109002_1, x109003_1, rfl, rfl, HA, HK1, HO_14, HO_15, BK107, BK108, HB⟩ := hrel
        cases gk with
        | zero => exact absurd HA.out (by simp [spec_l13Run.l0])
        | succ k1 =>
          have H := HA.out
          clear HA
          simp only [spec_l13Run.l0] at H
          have HC17 := Aside0.mk H
          clear H
          go_upto_region 6 with (fail)
          go_cut [38] (fun v38 wc => ∃ (kq : Nat) (x38_16 : Bool), v38 = .bool x38_16 ∧ Aside0 (spec_l13Run.j1 kq a1 a2 l3 a4 x12_1 x13_1 x14_1 x15_1 x38_16 x109000_1 x109001_1 x109002_1 x109003_1 false = some (r1, r2, r3, r4, r5)) ∧ Aside0 (kq ≤ k1) ∧ Aside0 (Kd.R (Kd.int .i64) 3 wc w.heap.size (fun k_ => some k_ ≠ (v113 : Value).ownBlock) v110 x14_1) ∧ Aside0 (Kd.R (Kd.int .i64) 3 wc w.heap.size (fun k_ => some k_ ≠ (v110 : Value).ownBlock) v113 x15_1) ∧ Aside0 (wc.heap[gb107]? = some (.cells #[.int .i64 0, .int .i64 0, .int .i64 0, .int .i64 0, .bool false] 37 (0, 0))) ∧ Aside0 (wc.heap[gb108]? = some (.cells #[.int .i64 x109000_1, .int .i64 x109001_1, .int .i64 x109002_1, .int .i64 x109003_1, .bool false] 37 (0, 0))) ∧ Aside0 (Below w.heap.size w wc))
          case first =>
            have H := HC17.out
            clear HC17
            by_cases c18 : x109003_1 < a4
            · rw [if_pos c18] at H
              have c18b0 : decide (x109003_1 < a4) = true := decide_eq_true c18
              clear c18
              (first | rw [c18b0] | (simp only [i64_w, i32_w]; rw [c18b0]) | skip)
              have H' := Aside0.mk H
              clear H
              have hnb19 := NB108_107.out
              have hnc19 := NB107_108.out
              have hcz20_0 : wr.cell? ⟨gb108, 0, none⟩ = some (.int .i64 x109000_1) := (blk_cell BK108.out 0).trans rfl
              have hcz20_1 : wr.cell? ⟨gb108, 1, none⟩ = some (.int .i64 x109001_1) := (blk_cell BK108.out 1).trans rfl
              have hcz20_2 : wr.cell? ⟨gb108, 2, none⟩ = some (.int .i64 x109002_1) := (blk_cell BK108.out 2).trans rfl
              have hcz20_3 : wr.cell? ⟨gb108, 3, none⟩ = some (.int .i64 x109003_1) := (blk_cell BK108.out 3).trans rfl
              have hcz20_4 : wr.cell? ⟨gb108, 4, none⟩ = some (.bool false) := (blk_cell BK108.out 4).trans rfl
              have hfz20_0 := blk_frozen BK108.out 0
              have hfz20_1 := blk_frozen BK108.out 1
              have hfz20_2 := blk_frozen BK108.out 2
              have hfz20_3 := blk_frozen BK108.out 3
              have hfz20_4 := blk_frozen BK108.out 4
              go_wp2
              go_meet
              case rel => exact ⟨_, (decide (x109001_1 < a2)), (by first | rfl | (simp; done) | (simp [*]; done)), H', ⟨by have := HK1.out; first | omega | exact Nat.le_refl _⟩, ⟨by (with_reducible repeat (first | apply Kd.R_alloc | apply Kd.R_drewN | apply Kd.R_drew)); exact HO_14.out⟩, ⟨by (with_reducible repeat (first | apply Kd.R_alloc | apply Kd.R_drewN | apply Kd.R_drew)); exact HO_15.out⟩, ⟨by (with_reducible repeat (first | refine blk_drewN ?_ _ | refine blk_drew ?_ | refine blk_alloc ?_ _)); exact BK107.out⟩, ⟨by (with_reducible repeat (first | refine blk_drewN ?_ _ | refine blk_drew ?_ | refine blk_alloc ?_ _)); exact BK108.out⟩, ⟨by repeat (first | (with_reducible first | exact HB.out | apply below_alloc | apply pw_below_drewN | apply below_drew1 | refine below_set ?_ GE107.out | refine below_set ?_ GE108.out) | exact HB.out)⟩⟩
            · rw [if_neg c18] at H
              have c18b0 : decide (x109003_1 < a4) = false := decide_eq_false c18
              clear c18
              (first | rw [c18b0] | (simp only [i64_w, i32_w]; rw [c18b0]) | skip)
              have H' := Aside0.mk H
              clear H
              have hnb21 := NB108_107.out
              have hnc21 := NB107_108.out
              have hcz22_0 : wr.cell? ⟨gb108, 0, none⟩ = some (.int .i64 x109000_1) := (blk_cell BK108.out 0).trans rfl
              have hcz22_1 : wr.cell? ⟨gb108, 1, none⟩ = some (.int .i64 x109001_1) := (blk_cell BK108.out 1).trans rfl
              have hcz22_2 : wr.cell? ⟨gb108, 2, none⟩ = some (.int .i64 x109002_1) := (blk_cell BK108.out 2).trans rfl
              have hcz22_3 : wr.cell? ⟨gb108, 3, none⟩ = some (.int .i64 x109003_1) := (blk_cell BK108.out 3).trans rfl
              have hcz22_4 : wr.cell? ⟨gb108, 4, none⟩ = some (.bool false) := (blk_cell BK108.out 4).trans rfl
              have hfz22_0 := blk_frozen BK108.out 0
              have hfz22_1 := blk_frozen BK108.out 1
              have hfz22_2 := blk_frozen BK108.out 2
              have hfz22_3 := blk_frozen BK108.out 3
              have hfz22_4 := blk_frozen BK108.out 4
              go_wp2
              go_meet
              case rel => exact ⟨_, (false), (by first | rfl | (simp; done) | (simp [*]; done)), H', ⟨by have := HK1.out; first | omega | exact Nat.le_refl _⟩, ⟨by (with_reducible repeat (first | apply Kd.R_alloc | apply Kd.R_drewN | apply Kd.R_drew)); exact HO_14.out⟩, ⟨by (with_reducible repeat (first | apply Kd.R_alloc | apply Kd.R_drewN | apply Kd.R_drew)); exact HO_15.out⟩, ⟨by (with_reducible repeat (first | refine blk_drewN ?_ _ | refine blk_drew ?_ | refine blk_alloc ?_ _)); exact BK107.out⟩, ⟨by (with_reducible repeat (first | refine blk_drewN ?_ _ | refine blk_drew ?_ | refine blk_alloc ?_ _)); exact BK108.out⟩, ⟨by repeat (first | (with_reducible first | exact HB.out | apply below_alloc | apply pw_below_drewN | apply below_drew1 | refine below_set ?_ GE107.out | refine below_set ?_ GE108.out) | exact HB.out)⟩⟩
          case rest =>
            clear HC17
            try clear c1
            try clear c2
            try clear p2
            try clear c3
            try clear p6
            try clear c7
            try clear c7b0
            try clear c7b1
            try clear c8
            try clear c8b0
            try clear c8b1
            try clear c11
            try clear c18
            try clear c18b0
            try clear c19
            try clear c21
            try clear hcz12_0
            try clear hcz12_1
            try clear hcz12_2
            try clear hcz12_3
            try clear hcz12_4
            try clear hcz20_0
            try clear hcz20_1
            try clear hcz20_2
            try clear hcz20_3
            try clear hcz20_4
            try clear hcz22_0
            try clear hcz22_1
            try clear hcz22_2
            try clear hcz22_3
            try clear hcz22_4
            try clear hfz12_0
            try clear hfz12_1
            try clear hfz12_2
            try clear hfz12_3
            try clear hfz12_4
            try clear hfz20_0
            try clear hfz20_1
            try clear hfz20_2
            try clear hfz20_3
            try clear hfz20_4
            try clear hfz22_0
            try clear hfz22_1
            try clear hfz22_2
            try clear hfz22_3
            try clear hfz22_4
            try clear p2
            try clear p6
            obtain ⟨kq, x38_16, rfl, HA, HJ16, HO_14, HO_15, BK107, BK108, HB⟩ := hcut
            cases kq with
            | zero => exact absurd HA.out (by simp [spec_l13Run.j1])
            | succ kj16 =>
              have H := HA.out
              clear HA
              simp only [spec_l13Run.j1] at H
              by_cases c23 : x38_16 = true
              · subst c23
                have H1 : (if 0 ≤ x109003_1 then (if x109003_1 < (x15_1.length : Int) then (if x109003_1 < (x14_1.length : Int) then (if (l3.length : Int) = 0 then (none) else (if 0 ≤ (Int.tmod x109003_1 (l3.length : Int)) then (if (Int.tmod x109003_1 (l3.length : Int)) < (l3.length : Int) then (if (rd l3 (Int.tmod x109003_1 (l3.length : Int))) = 1 then (spec_l13Run.j2 kj16 a1 a2 l3 a4 (wrap64 (x12_1 + (rd x15_1 x109003_1))) (wrap64 (x13_1 + (rd x14_1 x109003_1))) x14_1 x15_1 x109003_1 (decide ((wrap64 (x13_1 + (rd x14_1 x109003_1))) > 0)) x109000_1 x109001_1 (mx x109002_1 (wrap64 (x13_1 + (rd x14_1 x109003_1)))) x109003_1 false) else (spec_l13Run.j2 kj16 a1 a2 l3 a4 (wrap64 (x12_1 + (rd x15_1 x109003_1))) (wrap64 (x13_1 + (rd x14_1 x109003_1))) x14_1 x15_1 x109003_1 false x109000_1 x109001_1 (mx x109002_1 (wrap64 (x13_1 + (rd x14_1 x109003_1)))) x109003_1 false)) else (none)) else (none))) else (none)) else (none)) else (none)) = some (r1, r2, r3, r4, r5) := by rw [if_pos rfl] at H; exact H
                clear H
                have H := H1
                clear H1
                by_cases c24 : 0 ≤ x109003_1
                · rw [if_pos c24] at H
                  have c24b0 : decide (0 ≤ x109003_1) = true := decide_eq_true c24
                  clear c24
                  by_cases c25 : x109003_1 < (x15_1.length : Int)
                  · rw [if_pos c25] at H
                    have c25b0 : decide (x109003_1 < (x15_1.length : Int)) = true := decide_eq_true c25
                    clear c25
                    by_cases c26 : x109003_1 < (x14_1.length : Int)
                    · rw [if_pos c26] at H
                      have c26b0 : decide (x109003_1 < (x14_1.length : Int)) = true := decide_eq_true c26
                      clear c26
                      obtain ⟨ji27, hji27⟩ : ∃ j_ : Int, (mx x109002_1 (wrap64 (x13_1 + (rd x14_1 x109003_1)))) = j_ := ⟨_, rfl⟩
                      replace H : (if (l3.length : Int) = 0 then (none) else (if 0 ≤ (Int.tmod x109003_1 (l3.length : Int)) then (if (Int.tmod x109003_1 (l3.length : Int)) < (l3.length : Int) then (if (rd l3 (Int.tmod x109003_1 (l3.length : Int))) = 1 then (spec_l13Run.j2 kj16 a1 a2 l3 a4 (wrap64 (x12_1 + (rd x15_1 x109003_1))) (wrap64 (x13_1 + (rd x14_1 x109003_1))) x14_1 x15_1 x109003_1 (decide ((wrap64 (x13_1 + (rd x14_1 x109003_1))) > 0)) x109000_1 x109001_1 ji27 x109003_1 false) else (spec_l13Run.j2 kj16 a1 a2 l3 a4 (wrap64 (x12_1 + (rd x15_1 x109003_1))) (wrap64 (x13_1 + (rd x14_1 x109003_1))) x14_1 x15_1 x109003_1 false x109000_1 x109001_1 ji27 x109003_1 false)) else (none)) else (none))) = some (r1, r2, r3, r4, r5) := by first | (rw [hji27] at H; exact H) | (simp only [hji27] at H ⊢; exact H)
                      have hji27_ : (if x109002_1 < (wrap64 (x13_1 + (rd x14_1 x109003_1))) then (wrap64 (x13_1 + (rd x14_1 x109003_1))) else x109002_1) = ji27 := hji27
                      have HC28 := Aside0.mk H
                      clear H
                      have hnb29 := NB108_107.out
                      have hnc29 := NB107_108.out
                      have hcz30_0 : wc.cell? ⟨gb108, 0, none⟩ = some (.int .i64 x109000_1) := (blk_cell BK108.out 0).trans rfl
                      have hcz30_1 : wc.cell? ⟨gb108, 1, none⟩ = some (.int .i64 x109001_1) := (blk_cell BK108.out 1).trans rfl
                      have hcz30_2 : wc.cell? ⟨gb108, 2, none⟩ = some (.int .i64 x109002_1) := (blk_cell BK108.out 2).trans rfl
                      have hcz30_3 : wc.cell? ⟨gb108, 3, none⟩ = some (.int .i64 x109003_1) := (blk_cell BK108.out 3).trans rfl
                      have hcz30_4 : wc.cell? ⟨gb108, 4, none⟩ = some (.bool false) := (blk_cell BK108.out 4).trans rfl
                      have hfz30_0 := blk_frozen BK108.out 0
                      have hfz30_1 := blk_frozen BK108.out 1
                      have hfz30_2 := blk_frozen BK108.out 2
                      have hfz30_3 := blk_frozen BK108.out 3
                      have hfz30_4 := blk_frozen BK108.out 4
                      obtain ⟨Ao31, co31, eo31⟩ := Kd.R_slice HO_15.out
                      subst eo31
                      have p115 : 0 ≤ (x109003_1 : Int) := of_decide_eq_true (by first | (with_reducible assumption) | assumption)
                      have q115 : x109003_1 < (x15_1.length : Int) := of_decide_eq_true (by first | (with_reducible assumption) | assumption)
                      obtain ⟨ad115, e115, hx115_0⟩ := Kd.at_int (Kd.R_reads' HO_15.out).2.2 x109003_1 p115 q115
                      cases e115
                      replace p115 := eq_true p115
                      replace q115 := eq_true q115
                      obtain ⟨Ao32, co32, eo32⟩ := Kd.R_slice HO_14.out
                      subst eo32
                      have p116 : 0 ≤ (x109003_1 : Int) := of_decide_eq_true (by first | (with_reducible assumption) | assumption)
                      have q116 : x109003_1 < (x14_1.length : Int) := of_decide_eq_true (by first | (with_reducible assumption) | assumption)
                      obtain ⟨ad116, e116, hx116_0⟩ := Kd.at_int (Kd.R_reads' HO_14.out).2.2 x109003_1 p116 q116
                      cases e116
                      replace p116 := eq_true p116
                      replace q116 := eq_true q116
                      go_upto_region 11 with (fail)
                      go_cut [69] (fun v69 wc => ∃ (kq : Nat) (x69_27 : Bool), v69 = .bool x69_27 ∧ Aside0 (spec_l13Run.j2 kq a1 a2 l3 a4 (wrap64 (x12_1 + (rd x15_1 x109003_1))) (wrap64 (x13_1 + (rd x14_1 x109003_1))) x14_1 x15_1 x109003_1 x69_27 x109000_1 x109001_1 ji27 x109003_1 false = some (r1, r2, r3, r4, r5)) ∧ Aside0 (kq ≤ kj16) ∧ Aside0 (Kd.R (Kd.int .i64) 3 wc w.heap.size (fun k_ => some k_ ≠ ((.slice (some ad115) x15_1.length co31) : Value).ownBlock) (.slice (some ad116) x14_1.length co32) x14_1) ∧ Aside0 (Kd.R (Kd.int .i64) 3 wc w.heap.size (fun k_ => some k_ ≠ ((.slice (some ad116) x14_1.length co32) : Value).ownBlock) (.slice (some ad115) x15_1.length co31) x15_1) ∧ Aside0 (wc.heap[gb107]? = some (.cells #[.int .i64 0, .int .i64 0, .int .i64 0, .int .i64 0, .bool false] 37 (0, 0))) ∧ Aside0 (wc.heap[gb108]? = some (.cells #[.int .i64 x109000_1, .int .i64 x109001_1, .int .i64 ji27, .int .i64 x109003_1, .bool false] 37 (0, 0))) ∧ Aside0 (Below w.heap.size w wc))
                      case first =>
                        have H := HC28.out
                        clear HC28
                        by_cases c33 : (l3.length : Int) = 0
                        · rw [if_pos c33] at H
                          exact absurd H (by simp)
                        · rw [if_neg c33] at H
                          have c33b0 : ((l3.length : Int) == 0) = false := beq_eq_false_iff_ne.mpr c33
                          have c33b1 : ((l3.length : Int) != 0) = true := bne_iff_ne.mpr c33
                          have c33b2 : ¬ (l3 = []) := fun h_ => c33 (by rw [h_]; rfl)
                          (first | rw [c33b0] | (simp only [i64_w, i32_w]; rw [c33b0]) | skip)
                          obtain ⟨ji34, hji34⟩ : ∃ j_ : Int, (Int.tmod x109003_1 (l3.length : Int)) = j_ := ⟨_, rfl⟩
                          replace H : (if 0 ≤ (ji34) then (if (ji34) < (l3.length : Int) then (if (rd l3 (ji34)) = 1 then (spec_l13Run.j2 kj16 a1 a2 l3 a4 (wrap64 (x12_1 + (rd x15_1 x109003_1))) (wrap64 (x13_1 + (rd x14_1 x109003_1))) x14_1 x15_1 x109003_1 (decide ((wrap64 (x13_1 + (rd x14_1 x109003_1))) > 0)) x109000_1 x109001_1 ji27 x109003_1 false) else (spec_l13Run.j2 kj16 a1 a2 l3 a4 (wrap64 (x12_1 + (rd x15_1 x109003_1))) (wrap64 (x13_1 + (rd x14_1 x109003_1))) x14_1 x15_1 x109003_1 false x109000_1 x109001_1 ji27 x109003_1 false)) else (none)) else (none)) = some (r1, r2, r3, r4, r5) := by first | (rw [hji34] at H; exact H) | (simp only [hji34] at H ⊢; exact H)
                          by_cases c35 : 0 ≤ (ji34)
                          · rw [if_pos c35] at H
                            have c35b0 : decide (0 ≤ (ji34)) = true := decide_eq_true c35
                            clear c35
                            by_cases c36 : (ji34) < (l3.length : Int)
                            · rw [if_pos c36] at H
                              have c36b0 : decide ((ji34) < (l3.length : Int)) = true := decide_eq_true c36
                              clear c36
                              by_cases c37 : (rd l3 (ji34)) = 1
                              · rw [if_pos c37] at H
                                have c37b0 : ((rd l3 (ji34)) == 1) = true := beq_iff_eq.mpr c37
                                have c37b1 : ((rd l3 (ji34)) != 1) = false := bne_eq_false_iff_eq.mpr c37
                                clear c37
                                have H' := Aside0.mk H
                                clear H
                                have p117 : 0 ≤ ((ji34) : Int) := of_decide_eq_true (by first | (with_reducible assumption) | assumption)
                                have q117 : (ji34) < (l3.length : Int) := of_decide_eq_true (by first | (with_reducible assumption) | assumption)
                                obtain ⟨ad117, e117, hx117_0⟩ := Kd.at_int HR3.out (ji34) p117 q117
                                cases e117
                                have hn117_0 : ad117.block ≠ gb108 := Nat.ne_of_lt (Nat.lt_of_lt_of_le (by have := World.block_lt_of_cell? _ _ hx117_0; first | rwa [add_block] at this | exact this) GW108.out)
                                replace hx117_0 := (HB.out.cell (World.block_lt_of_cell? w _ hx117_0)).trans hx117_0
                                replace hx117_0 := (cell_far (p := ⟨gb108, 2, none⟩) (by first | (rw [add_block]; exact hn117_0) | (show (Addr.add _ _).block ≠ _; rw [add_block]; exact hn117_0) | exact hn117_0) (.int .i64 ji27)).trans hx117_0
                                clear hn117_0
                                replace p117 := eq_true p117
                                replace q117 := eq_true q117
                                go_wp2
                                go_meet
                                case rel => exact ⟨_, (decide ((wrap64 (x13_1 + (rd x14_1 x109003_1))) > 0)), (by first | rfl | (simp; done) | (simp [*]; done)), H', ⟨by have := HK1.out; have := HJ16.out; first | omega | exact Nat.le_refl _⟩, ⟨by (with_reducible repeat (first | apply Kd.R_alloc | apply Kd.R_drewN | apply Kd.R_drew)); exact Kd.R_mono (Kd.R_far (p := ⟨gb108, 2, none⟩) (Kd.R_types HO_14.out BK108.out (by decide)) (fun _ hk => hk.2) (.int .i64 ji27)) (fun _ hk => hk.1)⟩, ⟨by (with_reducible repeat (first | apply Kd.R_alloc | apply Kd.R_drewN | apply Kd.R_drew)); exact Kd.R_mono (Kd.R_far (p := ⟨gb108, 2, none⟩) (Kd.R_types HO_15.out BK108.out (by decide)) (fun _ hk => hk.2) (.int .i64 ji27)) (fun _ hk => hk.1)⟩, ⟨by (with_reducible repeat (first | refine blk_drewN ?_ _ | refine blk_drew ?_ | refine blk_alloc ?_ _)); refine blk_far ?_ NB107_108.out _; (with_reducible repeat (first | refine blk_drewN ?_ _ | refine blk_drew ?_ | refine blk_alloc ?_ _)); exact BK107.out⟩, ⟨by (with_reducible repeat (first | refine blk_drewN ?_ _ | refine blk_drew ?_ | refine blk_alloc ?_ _)); refine blk_put (cs := #[.int .i64 x109000_1, .int .i64 x109001_1, .int .i64 x109002_1, .int .i64 x109003_1, .bool false]) ?_ 2 _ rfl; (with_reducible repeat (first | refine blk_drewN ?_ _ | refine blk_drew ?_ | refine blk_alloc ?_ _)); exact BK108.out⟩, ⟨by repeat (first | (with_reducible first | exact HB.out | apply below_alloc | apply pw_below_drewN | apply below_drew1 | refine below_set ?_ GE107.out | refine below_set ?_ GE108.out) | exact HB.out)⟩⟩
                              · rw [if_neg c37] at H
                                have c37b0 : ((rd l3 (ji34)) == 1) = false := beq_eq_false_iff_ne.mpr c37
                                have c37b1 : ((rd l3 (ji34)) != 1) = true := bne_iff_ne.mpr c37
                                have H' := Aside0.mk H
                                clear H
                                have p117 : 0 ≤ ((ji34) : Int) := of_decide_eq_true (by first | (with_reducible assumption) | assumption)
                                have q117 : (ji34) < (l3.length : Int) := of_decide_eq_true (by first | (with_reducible assumption) | assumption)
                                obtain ⟨ad117, e117, hx117_0⟩ := Kd.at_int HR3.out (ji34) p117 q117
                                cases e117
                                have hn117_0 : ad117.block ≠ gb108 := Nat.ne_of_lt (Nat.lt_of_lt_of_le (by have := World.block_lt_of_cell? _ _ hx117_0; first | rwa [add_block] at this | exact this) GW108.out)
                                replace hx117_0 := (HB.out.cell (World.block_lt_of_cell? w _ hx117_0)).trans hx117_0
                                replace hx117_0 := (cell_far (p := ⟨gb108, 2, none⟩) (by first | (rw [add_block]; exact hn117_0) | (show (Addr.add _ _).block ≠ _; rw [add_block]; exact hn117_0) | exact hn117_0) (.int .i64 ji27)).trans hx117_0
                                clear hn117_0
                                replace p117 := eq_true p117
                                replace q117 := eq_true q117
                                go_wp2
                                go_meet
                                case rel => exact ⟨_, (false), (by first | rfl | (simp; done) | (simp [*]; done)), H', ⟨by have := HK1.out; have := HJ16.out; first | omega | exact Nat.le_refl _⟩, ⟨by (with_reducible repeat (first | apply Kd.R_alloc | apply Kd.R_drewN | apply Kd.R_drew)); exact Kd.R_mono (Kd.R_far (p := ⟨gb108, 2, none⟩) (Kd.R_types HO_14.out BK108.out (by decide)) (fun _ hk => hk.2) (.int .i64 ji27)) (fun _ hk => hk.1)⟩, ⟨by (with_reducible repeat (first | apply Kd.R_alloc | apply Kd.R_drewN | apply Kd.R_drew)); exact Kd.R_mono (Kd.R_far (p := ⟨gb108, 2, none⟩) (Kd.R_types HO_15.out BK108.out (by decide)) (fun _ hk => hk.2) (.int .i64 ji27)) (fun _ hk => hk.1)⟩, ⟨by (with_reducible repeat (first | refine blk_drewN ?_ _ | refine blk_drew ?_ | refine blk_alloc ?_ _)); refine blk_far ?_ NB107_108.out _; (with_reducible repeat (first | refine blk_drewN ?_ _ | refine blk_drew ?_ | refine blk_alloc ?_ _)); exact BK107.out⟩, ⟨by (with_reducible repeat (first | refine blk_drewN ?_ _ | refine blk_drew ?_ | refine blk_alloc ?_ _)); refine blk_put (cs := #[.int .i64 x109000_1, .int .i64 x109001_1, .int .i64 x109002_1, .int .i64 x109003_1, .bool false]) ?_ 2 _ rfl; (with_reducible repeat (first | refine blk_drewN ?_ _ | refine blk_drew ?_ | refine blk_alloc ?_ _)); exact BK108.out⟩, ⟨by repeat (first | (with_reducible first | exact HB.out | apply below_alloc | apply pw_below_drewN | apply below_drew1 | refine below_set ?_ GE107.out | refine below_set ?_ GE108.out) | exact HB.out)⟩⟩
                            · rw [if_neg c36] at H
                              exact absurd H (by simp)
                          · rw [if_neg c35] at H
                            exact absurd H (by simp)
                      case rest =>
                        clear HC28
                        try clear c1
                        try clear p1
                        try clear q1
                        try clear hx1
                        try clear c2
                        try clear p2
                        try clear c3
                        try clear p6
                        try clear c7
                        try clear c7b0
                        try clear c7b1
                        try clear c8
                        try clear c8b0
                        try clear c8b1
                        try clear c11
                        try clear p11
                        try clear q11
                        try clear hx11
                        try clear c18
                        try clear c18b0
                        try clear c19
                        try clear c21
                        try clear c23
                        try clear c24
                        try clear c24b0
                        try clear c25
                        try clear c25b0
                        try clear c26
                        try clear c26b0
                        try clear c29
                        try clear c33
                        try clear c33b0
                        try clear c33b1
                        try clear c33b2
                        try clear c35
                        try clear c35b0
                        try clear c36
                        try clear c36b0
                        try clear c37
                        try clear c37b0
                        try clear c37b1
                        try clear hcz12_0
                        try clear hcz12_1
                        try clear hcz12_2
                        try clear hcz12_3
                        try clear hcz12_4
                        try clear hcz20_0
                        try clear hcz20_1
                        try clear hcz20_2
                        try clear hcz20_3
                        try clear hcz20_4
                        try clear hcz22_0
                        try clear hcz22_1
                        try clear hcz22_2
                        try clear hcz22_3
                        try clear hcz22_4
                        try clear hcz30_0
                        try clear hcz30_1
                        try clear hcz30_2
                        try clear hcz30_3
                        try clear hcz30_4
                        try clear hfz12_0
                        try clear hfz12_1
                        try clear hfz12_2
                        try clear hfz12_3
                        try clear hfz12_4
                        try clear hfz20_0
                        try clear hfz20_1
                        try clear hfz20_2
                        try clear hfz20_3
                        try clear hfz20_4
                        try clear hfz22_0
                        try clear hfz22_1
                        try clear hfz22_2
                        try clear hfz22_3
                        try clear hfz22_4
                        try clear hfz30_0
                        try clear hfz30_1
                        try clear hfz30_2
                        try clear hfz30_3
                        try clear hfz30_4
                        try clear hx115_0
                        try clear hx116_0
                        try clear hx117_0
                        try clear p115
                        try clear p116
                        try clear p117
                        try clear p2
                        try clear p6
                        try clear q115
                        try clear q116
                        try clear q117
                        obtain ⟨kq, x69_27, rfl, HA, HJ27, HO_14, HO_15, BK107, BK108, HB⟩ := hcut
                        cases kq with
                        | zero => exact absurd HA.out (by simp [spec_l13Run.j2])
                        | succ kj27 =>
                          have H := HA.out
                          clear HA
                          simp only [spec_l13Run.j2] at H
                          by_cases c38 : x69_27 = true
                          · subst c38
                            have H1 : (if 0 ≤ (wrap64 (x109003_1 + a1)) then (if (wrap64 (x109003_1 + a1)) < (x15_1.length : Int) then ((some (x15_1.set ((wrap64 (x109003_1 + a1)) : Int).toNat 1 : List Int)).bind fun y118 => (if (wrap64 (x12_1 + (rd x15_1 x109003_1))) > 0 then (if x109000_1 < a2 then (if (wrap64 (x109003_1 + a1)) < (x14_1.length : Int) then (spec_l13Run.l0 kj27 a1 a2 l3 a4 (wrap64 ((wrap64 (x12_1 + (rd x15_1 x109003_1))) - 1)) (wrap64 ((wrap64 (x13_1 + (rd x14_1 x109003_1))) - 1)) (x14_1.set ((wrap64 (x109003_1 + a1)) : Int).toNat 1) y118 (wrap64 (x109000_1 + 1)) (wrap64 (x109001_1 + 1)) ji27 (wrap64 (x109003_1 + 1)) false) else (none)) else (spec_l13Run.l0 kj27 a1 a2 l3 a4 (wrap64 (x12_1 + (rd x15_1 x109003_1))) (wrap64 ((wrap64 (x13_1 + (rd x14_1 x109003_1))) - 1)) x14_1 y118 x109000_1 (wrap64 (x109001_1 + 1)) ji27 (wrap64 (x109003_1 + 1)) false)) else (spec_l13Run.l0 kj27 a1 a2 l3 a4 (wrap64 (x12_1 + (rd x15_1 x109003_1))) (wrap64 ((wrap64 (x13_1 + (rd x14_1 x109003_1))) - 1)) x14_1 y118 x109000_1 (wrap64 (x109001_1 + 1)) ji27 (wrap64 (x109003_1 + 1)) false))) else (none)) else (none)) = some (r1, r2, r3, r4, r5) := by rw [if_pos rfl] at H; exact H
                            clear H
                            have H := H1
                            clear H1
                            obtain ⟨ji39, hji39⟩ : ∃ j_ : Int, (wrap64 (x109003_1 + a1)) = j_ := ⟨_, rfl⟩
                            replace H : (if 0 ≤ (ji39) then (if (ji39) < (x15_1.length : Int) then ((some (x15_1.set ((ji39) : Int).toNat 1 : List Int)).bind fun y118 => (if (wrap64 (x12_1 + (rd x15_1 x109003_1))) > 0 then (if x109000_1 < a2 then (if (ji39) < (x14_1.length : Int) then (spec_l13Run.l0 kj27 a1 a2 l3 a4 (wrap64 ((wrap64 (x12_1 + (rd x15_1 x109003_1))) - 1)) (wrap64 ((wrap64 (x13_1 + (rd x14_1 x109003_1))) - 1)) (x14_1.set ((ji39) : Int).toNat 1) y118 (wrap64 (x109000_1 + 1)) (wrap64 (x109001_1 + 1)) ji27 (wrap64 (x109003_1 + 1)) false) else (none)) else (spec_l13Run.l0 kj27 a1 a2 l3 a4 (wrap64 (x12_1 + (rd x15_1 x109003_1))) (wrap64 ((wrap64 (x13_1 + (rd x14_1 x109003_1))) - 1)) x14_1 y118 x109000_1 (wrap64 (x109001_1 + 1)) ji27 (wrap64 (x109003_1 + 1)) false)) else (spec_l13Run.l0 kj27 a1 a2 l3 a4 (wrap64 (x12_1 + (rd x15_1 x109003_1))) (wrap64 ((wrap64 (x13_1 + (rd x14_1 x109003_1))) - 1)) x14_1 y118 x109000_1 (wrap64 (x109001_1 + 1)) ji27 (wrap64 (x109003_1 + 1)) false))) else (none)) else (none)) = some (r1, r2, r3, r4, r5) := by first | (rw [hji39] at H; exact H) | (simp only [hji39] at H ⊢; exact H)
                            have hji39w : (IntKind.i64.wrap (x109003_1 + a1)) = ji39 := (i64_w _).trans hji39
                            by_cases c40 : 0 ≤ (ji39)
                            · rw [if_pos c40] at H
                              have c40b0 : decide (0 ≤ (ji39)) = true := decide_eq_true c40
                              clear c40
                              by_cases c41 : (ji39) < (x15_1.length : Int)
                              · rw [if_pos c41] at H
                                have c41b0 : decide ((ji39) < (x15_1.length : Int)) = true := decide_eq_true c41
                                clear c41
                                obtain ⟨y118, hy118⟩ : ∃ y_ : List Int, y_ = (x15_1.set ((ji39) : Int).toNat 1) := ⟨_, rfl⟩
                                replace H : (if (wrap64 (x12_1 + (rd x15_1 x109003_1))) > 0 then (if x109000_1 < a2 then (if (ji39) < (x14_1.length : Int) then (spec_l13Run.l0 kj27 a1 a2 l3 a4 (wrap64 ((wrap64 (x12_1 + (rd x15_1 x109003_1))) - 1)) (wrap64 ((wrap64 (x13_1 + (rd x14_1 x109003_1))) - 1)) (x14_1.set ((ji39) : Int).toNat 1) y118 (wrap64 (x109000_1 + 1)) (wrap64 (x109001_1 + 1)) ji27 (wrap64 (x109003_1 + 1)) false) else (none)) else (spec_l13Run.l0 kj27 a1 a2 l3 a4 (wrap64 (x12_1 + (rd x15_1 x109003_1))) (wrap64 ((wrap64 (x13_1 + (rd x14_1 x109003_1))) - 1)) x14_1 y118 x109000_1 (wrap64 (x109001_1 + 1)) ji27 (wrap64 (x109003_1 + 1)) false)) else (spec_l13Run.l0 kj27 a1 a2 l3 a4 (wrap64 (x12_1 + (rd x15_1 x109003_1))) (wrap64 ((wrap64 (x13_1 + (rd x14_1 x109003_1))) - 1)) x14_1 y118 x109000_1 (wrap64 (x109001_1 + 1)) ji27 (wrap64 (x109003_1 + 1)) false)) = some (r1, r2, r3, r4, r5) := by first | (rw [hy118]; with_reducible exact H) | (have H2_ := (Option.bind_some _ _).symm.trans H; rw [hy118]; with_reducible exact H2_) | (have H2_ := (Option.bind_some _ _).symm.trans H; with_reducible exact H2_) | with_reducible exact H | (rw [hy118]; exact H) | exact H
                                have Ny118 := Aside0.mk hy118
                                clear hy118
                                by_cases c43 : (wrap64 (x12_1 + (rd x15_1 x109003_1))) > 0
                                · rw [if_pos c43] at H
                                  have c43b0 : decide (0 < (wrap64 (x12_1 + (rd x15_1 x109003_1)))) = true := decide_eq_true c43
                                  clear c43
                                  by_cases c44 : x109000_1 < a2
                                  · rw [if_pos c44] at H
                                    have c44b0 : decide (x109000_1 < a2) = true := decide_eq_true c44
                                    clear c44
                                    by_cases c45 : (ji39) < (x14_1.length : Int)
                                    · rw [if_pos c45] at H
                                      have c45b0 : decide ((ji39) < (x14_1.length : Int)) = true := decide_eq_true c45
                                      clear c45
                                      obtain ⟨y119, hy119⟩ : ∃ y_ : List Int, y_ = (x14_1.set ((ji39) : Int).toNat 1) := ⟨_, rfl⟩
                                      replace H : (spec_l13Run.l0 kj27 a1 a2 l3 a4 (wrap64 ((wrap64 (x12_1 + (rd x15_1 x109003_1))) - 1)) (wrap64 ((wrap64 (x13_1 + (rd x14_1 x109003_1))) - 1)) y119 y118 (wrap64 (x109000_1 + 1)) (wrap64 (x109001_1 + 1)) ji27 (wrap64 (x109003_1 + 1)) false) = some (r1, r2, r3, r4, r5) := by first | (rw [hy119]; with_reducible exact H) | (have H2_ := (Option.bind_some _ _).symm.trans H; rw [hy119]; with_reducible exact H2_) | (have H2_ := (Option.bind_some _ _).symm.trans H; with_reducible exact H2_) | with_reducible exact H | (rw [hy119]; exact H) | exact H
                                      have Ny119 := Aside0.mk hy119
                                      clear hy119
                                      have H' := Aside0.mk H
                                      clear H
                                      have hnb47 := NB108_107.out
                                      have hnc47 := NB107_108.out
                                      have hcz48_0 : wc.cell? ⟨gb108, 0, none⟩ = some (.int .i64 x109000_1) := (blk_cell BK108.out 0).trans rfl
                                      have hcz48_1 : wc.cell? ⟨gb108, 1, none⟩ = some (.int .i64 x109001_1) := (blk_cell BK108.out 1).trans rfl
                                      have hcz48_2 : wc.cell? ⟨gb108, 2, none⟩ = some (.int .i64 ji27) := (blk_cell BK108.out 2).trans rfl
                                      have hcz48_3 : wc.cell? ⟨gb108, 3, none⟩ = some (.int .i64 x109003_1) := (blk_cell BK108.out 3).trans rfl
                                      have hcz48_4 : wc.cell? ⟨gb108, 4, none⟩ = some (.bool false) := (blk_cell BK108.out 4).trans rfl
                                      have hfz48_0 := blk_frozen BK108.out 0
                                      have hfz48_1 := blk_frozen BK108.out 1
                                      have hfz48_2 := blk_frozen BK108.out 2
                                      have hfz48_3 := blk_frozen BK108.out 3
                                      have hfz48_4 := blk_frozen BK108.out 4
                                      go_wp2_with (first | ((with_reducible refine gate_store (t := 3) (p := 75) rfl ?_); refine store_event (t := 3) (p := 75) (v := ?vo_w49) (w1 := (wc.setCell ⟨gb108, 1, none⟩ (.int .i64 (wrap64 (x109001_1 + 1))))) ?hg ?ho ?hn ?hr ?_; (case ho => rfl); (case hg => rfl); (case hn => rfl); (case hr => first | (go_simp; done) | (go_simp; rfl)); intro w49 hw; have n0_ : Aside0 (Kd.R (Kd.int .i64) 3 w49 w.heap.size (fun k_ => some k_ ≠ (.slice (some ad115) x15_1.length co31 : Value).ownBlock) (.slice (some ad116) x14_1.length co32) x14_1) := ⟨(by rw [hw]; exact (by (with_reducible repeat (first | apply Kd.R_alloc | apply Kd.R_drewN | apply Kd.R_drew)); exact Kd.R_mono (Kd.R_far (p := ⟨gb108, 1, none⟩) (Kd.R_types HO_14.out BK108.out (by decide)) (fun _ hk => hk.2) (.int .i64 (wrap64 (x109001_1 + 1)))) (fun _ hk => hk.1)))⟩; have n1_ : Aside0 (Kd.R (Kd.int .i64) 3 w49 w.heap.size (fun k_ => some k_ ≠ (.slice (some ad116) x14_1.length co32 : Value).ownBlock) (.slice (some ad115) x15_1.length co31) x15_1) := ⟨(by rw [hw]; exact (by (with_reducible repeat (first | apply Kd.R_alloc | apply Kd.R_drewN | apply Kd.R_drew)); exact Kd.R_mono (Kd.R_far (p := ⟨gb108, 1, none⟩) (Kd.R_types HO_15.out BK108.out (by decide)) (fun _ hk => hk.2) (.int .i64 (wrap64 (x109001_1 + 1)))) (fun _ hk => hk.1)))⟩; have n2_ : Aside0 (w49.heap[gb107]? = some (.cells #[.int .i64 0, .int .i64 0, .int .i64 0, .int .i64 0, .bool false] 37 (0, 0))) := ⟨(by rw [hw]; exact (by (with_reducible repeat (first | refine blk_drewN ?_ _ | refine blk_drew ?_ | refine blk_alloc ?_ _)); refine blk_far ?_ NB107_108.out _; (with_reducible repeat (first | refine blk_drewN ?_ _ | refine blk_drew ?_ | refine blk_alloc ?_ _)); exact BK107.out))⟩; have n3_ : Aside0 (w49.heap[gb108]? = some (.cells #[.int .i64 x109000_1, .int .i64 (wrap64 (x109001_1 + 1)), .int .i64 ji27, .int .i64 x109003_1, .bool false] 37 (0, 0))) := ⟨(by rw [hw]; exact (by (with_reducible repeat (first | refine blk_drewN ?_ _ | refine blk_drew ?_ | refine blk_alloc ?_ _)); refine blk_put (cs := #[.int .i64 x109000_1, .int .i64 x109001_1, .int .i64 ji27, .int .i64 x109003_1, .bool false]) ?_ 1 _ rfl; (with_reducible repeat (first | refine blk_drewN ?_ _ | refine blk_drew ?_ | refine blk_alloc ?_ _)); exact BK108.out))⟩; have n4_ : Aside0 (Below w.heap.size w w49) := ⟨(by rw [hw]; exact (by repeat (first | (with_reducible first | exact HB.out | apply below_alloc | apply pw_below_drewN | apply below_drew1 | refine below_set ?_ GE107.out | refine below_set ?_ GE108.out) | exact HB.out)))⟩; clear hw; clear HO_14; clear HO_15; clear BK107; clear BK108; clear HB; have HO_14 := n0_; have HO_15 := n1_; have BK107 := n2_; have BK108 := n3_; have HB := n4_; clear n0_ n1_ n2_ n3_ n4_; have p42 : 0 ≤ ((ji39) : Int) := of_decide_eq_true (by first | (with_reducible assumption) | assumption); have q42 : ((ji39) : Int) < ((x15_1.length : Int) : Int) := of_decide_eq_true (by first | (with_reducible assumption) | assumption); obtain ⟨go42, co42, eo42, gb42, gl42, cl42, HG42⟩ := Kd.R_form HO_15.out (by omega); (first | cases eo42 | (injection eo42 with ea_ en_ ec_; (first | subst ea_ | (injection ea_ with ea_; subst ea_)); subst ec_; clear en_)); have GB42 := Aside0.mk gb42; have GG42 := Aside0.mk HG42; clear gb42 gl42 HG42; (first | simp only [add_plain] at hx115_0 | skip); obtain ⟨hx42_0, hf42_0⟩ := Kd.R_celln 0 HO_15.out ((ji39) : Int) p42 q42; replace p42 := eq_true p42; replace q42 := eq_true q42; obtain ⟨hy50_, hz50_⟩ := Kd.R_celln 0 HO_15.out ((ji39) : Int) (of_decide_eq_true (by first | (with_reducible assumption) | assumption)) (of_decide_eq_true (by first | (with_reducible assumption) | assumption)); have HP50 := Kd.R_putg HO_15.out ((ji39) : Int) 1) | ((with_reducible refine gate_store (t := 3) (p := 80) rfl ?_); refine store_event (t := 3) (p := 80) (v := ?vo_w51) (w1 := (w49.setCell ⟨go42, ((ji39) : Int).toNat, none⟩ (.int .i64 1))) ?hg ?ho ?hn ?hr ?_; (case ho => rfl); (case hg => rfl); (case hn => rfl); (case hr => first | (go_simp; done) | (go_simp; rfl)); intro w51 hw; have hg : w49.grownBy w51 (some go42) := (by rw [hw]; exact HP50.2); have hp_ : Kd.R (Kd.int .i64) 3 w51 w.heap.size (fun k_ => some k_ ≠ (.slice (some ad116) x14_1.length co32 : Value).ownBlock) (.slice (some ⟨go42, 0, none⟩) x15_1.length co31) y118 := (by rw [hw, Ny118.out]; exact HP50.1); clear HP50; have n0_ := Aside0.mk (Kd.R_after (v := (.slice (some ⟨go42, 0, none⟩) x15_1.length co31)) (v1 := (.slice (some ⟨go42, 0, none⟩) x15_1.length co31)) (ok := (fun _ => True)) (by (with_reducible repeat (first | apply Kd.R_alloc | apply Kd.R_drewN | apply Kd.R_drew)); exact Kd.R_mono HO_14.out (fun _ hk => ⟨trivial, hk⟩)) hg (.inl rfl)); have n1_ := Aside0.mk (hp_); have n2_ := Aside0.mk (blk_grown (g := gb107) (o := .cells #[.int .i64 0, .int .i64 0, .int .i64 0, .int .i64 0, .bool false] 37 (0, 0)) (by (with_reducible repeat (first | refine blk_drewN ?_ _ | refine blk_drew ?_ | refine blk_alloc ?_ _)); exact BK107.out) hg (Kd.R_ne HO_15.out BK107.out (by decide))); have n3_ := Aside0.mk (blk_grown (g := gb108) (o := .cells #[.int .i64 x109000_1, .int .i64 (wrap64 (x109001_1 + 1)), .int .i64 ji27, .int .i64 x109003_1, .bool false] 37 (0, 0)) (by (with_reducible repeat (first | refine blk_drewN ?_ _ | refine blk_drew ?_ | refine blk_alloc ?_ _)); exact BK108.out) hg (Kd.R_ne HO_15.out BK108.out (by decide))); have n4_ := Aside0.mk ((by rw [hw]; exact below_set (HB.out) GB42.out : Below w.heap.size w w51)); clear HO_14; clear HO_15; clear BK107; clear BK108; clear HB; have HO_14 := n0_; have HO_15 := n1_; have BK107 := n2_; have BK108 := n3_; have HB := n4_; clear n0_ n1_ n2_ n3_ n4_; clear hg hw hp_; have hcz52_0 : w51.cell? ⟨gb108, 0, none⟩ = some (.int .i64 x109000_1) := (blk_cell BK108.out 0).trans rfl; have hcz52_1 : w51.cell? ⟨gb108, 1, none⟩ = some (.int .i64 (wrap64 (x109001_1 + 1))) := (blk_cell BK108.out 1).trans rfl; have hcz52_2 : w51.cell? ⟨gb108, 2, none⟩ = some (.int .i64 ji27) := (blk_cell BK108.out 2).trans rfl; have hcz52_3 : w51.cell? ⟨gb108, 3, none⟩ = some (.int .i64 x109003_1) := (blk_cell BK108.out 3).trans rfl; have hcz52_4 : w51.cell? ⟨gb108, 4, none⟩ = some (.bool false) := (blk_cell BK108.out 4).trans rfl; have hfz52_0 := blk_frozen BK108.out 0; have hfz52_1 := blk_frozen BK108.out 1; have hfz52_2 := blk_frozen BK108.out 2; have hfz52_3 := blk_frozen BK108.out 3; have hfz52_4 := blk_frozen BK108.out 4) | ((with_reducible refine gate_store (t := 3) (p := 94) rfl ?_); refine store_event (t := 3) (p := 94) (v := ?vo_w53) (w1 := (w51.setCell ⟨gb108, 0, none⟩ (.int .i64 (wrap64 (x109000_1 + 1))))) ?hg ?ho ?hn ?hr ?_; (case ho => rfl); (case hg => rfl); (case hn => rfl); (case hr => first | (go_simp; done) | (go_simp; rfl)); intro w53 hw; have n0_ : Aside0 (Kd.R (Kd.int .i64) 3 w53 w.heap.size (fun k_ => some k_ ≠ (.slice (some ⟨go42, 0, none⟩) x15_1.length co31 : Value).ownBlock) (.slice (some ad116) x14_1.length co32) x14_1) := ⟨(by rw [hw]; exact (by (with_reducible repeat (first | apply Kd.R_alloc | apply Kd.R_drewN | apply Kd.R_drew)); exact Kd.R_mono (Kd.R_far (p := ⟨gb108, 0, none⟩) (Kd.R_types HO_14.out BK108.out (by decide)) (fun _ hk => hk.2) (.int .i64 (wrap64 (x109000_1 + 1)))) (fun _ hk => hk.1.2)))⟩; have n1_ : Aside0 (Kd.R (Kd.int .i64) 3 w53 w.heap.size (fun k_ => some k_ ≠ (.slice (some ad116) x14_1.length co32 : Value).ownBlock) (.slice (some ⟨go42, 0, none⟩) x15_1.length co31) y118) := ⟨(by rw [hw]; exact (by (with_reducible repeat (first | apply Kd.R_alloc | apply Kd.R_drewN | apply Kd.R_drew)); exact Kd.R_mono (Kd.R_far (p := ⟨gb108, 0, none⟩) (Kd.R_types HO_15.out BK108.out (by decide)) (fun _ hk => hk.2) (.int .i64 (wrap64 (x109000_1 + 1)))) (fun _ hk => hk.1)))⟩; have n2_ : Aside0 (w53.heap[gb107]? = some (.cells #[.int .i64 0, .int .i64 0, .int .i64 0, .int .i64 0, .bool false] 37 (0, 0))) := ⟨(by rw [hw]; exact (by (with_reducible repeat (first | refine blk_drewN ?_ _ | refine blk_drew ?_ | refine blk_alloc ?_ _)); refine blk_far ?_ NB107_108.out _; (with_reducible repeat (first | refine blk_drewN ?_ _ | refine blk_drew ?_ | refine blk_alloc ?_ _)); exact BK107.out))⟩; have n3_ : Aside0 (w53.heap[gb108]? = some (.cells #[.int .i64 (wrap64 (x109000_1 + 1)), .int .i64 (wrap64 (x109001_1 + 1)), .int .i64 ji27, .int .i64 x109003_1, .bool false] 37 (0, 0))) := ⟨(by rw [hw]; exact (by (with_reducible repeat (first | refine blk_drewN ?_ _ | refine blk_drew ?_ | refine blk_alloc ?_ _)); refine blk_put (cs := #[.int .i64 x109000_1, .int .i64 (wrap64 (x109001_1 + 1)), .int .i64 ji27, .int .i64 x109003_1, .bool false]) ?_ 0 _ rfl; (with_reducible repeat (first | refine blk_drewN ?_ _ | refine blk_drew ?_ | refine blk_alloc ?_ _)); exact BK108.out))⟩; have n4_ : Aside0 (Below w.heap.size w w53) := ⟨(by rw [hw]; exact (by repeat (first | (with_reducible first | exact HB.out | apply below_alloc | apply pw_below_drewN | apply below_drew1 | refine below_set ?_ GE107.out | refine below_set ?_ GE108.out) | exact HB.out)))⟩; clear hw; clear HO_14; clear HO_15; clear BK107; clear BK108; clear HB; have HO_14 := n0_; have HO_15 := n1_; have BK107 := n2_; have BK108 := n3_; have HB := n4_; clear n0_ n1_ n2_ n3_ n4_; have p46 : 0 ≤ ((ji39) : Int) := of_decide_eq_true (by first | (with_reducible assumption) | assumption); have q46 : ((ji39) : Int) < ((x14_1.length : Int) : Int) := of_decide_eq_true (by first | (with_reducible assumption) | assumption); obtain ⟨go46, co46, eo46, gb46, gl46, cl46, HG46⟩ := Kd.R_form HO_14.out (by omega); (first | cases eo46 | (injection eo46 with ea_ en_ ec_; (first | subst ea_ | (injection ea_ with ea_; subst ea_)); subst ec_; clear en_)); have GB46 := Aside0.mk gb46; have GG46 := Aside0.mk HG46; clear gb46 gl46 HG46; (first | simp only [add_plain] at hx116_0 | skip); obtain ⟨hx46_0, hf46_0⟩ := Kd.R_celln 0 HO_14.out ((ji39) : Int) p46 q46; replace p46 := eq_true p46; replace q46 := eq_true q46; obtain ⟨hy54_, hz54_⟩ := Kd.R_celln 0 HO_14.out ((ji39) : Int) (of_decide_eq_true (by first | (with_reducible assumption) | assumption)) (of_decide_eq_true (by first | (with_reducible assumption) | assumption)); have HP54 := Kd.R_putg HO_14.out ((ji39) : Int) 1) | ((with_reducible refine gate_store (t := 3) (p := 99) rfl ?_); refine store_event (t := 3) (p := 99) (v := ?vo_w55) (w1 := (w53.setCell ⟨go46, ((ji39) : Int).toNat, none⟩ (.int .i64 1))) ?hg ?ho ?hn ?hr ?_; (case ho => rfl); (case hg => rfl); (case hn => rfl); (case hr => first | (go_simp; done) | (go_simp; rfl)); intro w55 hw; have hg : w53.grownBy w55 (some go46) := (by rw [hw]; exact HP54.2); have hp_ : Kd.R (Kd.int .i64) 3 w55 w.heap.size (fun k_ => some k_ ≠ (.slice (some ⟨go42, 0, none⟩) x15_1.length co31 : Value).ownBlock) (.slice (some ⟨go46, 0, none⟩) x14_1.length co32) y119 := (by rw [hw, Ny119.out]; exact HP54.1); clear HP54; have n0_ := Aside0.mk (hp_); have n1_ := Aside0.mk (Kd.R_after (v := (.slice (some ⟨go46, 0, none⟩) x14_1.length co32)) (v1 := (.slice (some ⟨go46, 0, none⟩) x14_1.length co32)) (ok := (fun _ => True)) (by (with_reducible repeat (first | apply Kd.R_alloc | apply Kd.R_drewN | apply Kd.R_drew)); exact Kd.R_mono HO_15.out (fun _ hk => ⟨trivial, hk⟩)) hg (.inl rfl)); have n2_ := Aside0.mk (blk_grown (g := gb107) (o := .cells #[.int .i64 0, .int .i64 0, .int .i64 0, .int .i64 0, .bool false] 37 (0, 0)) (by (with_reducible repeat (first | refine blk_drewN ?_ _ | refine blk_drew ?_ | refine blk_alloc ?_ _)); exact BK107.out) hg (Kd.R_ne HO_14.out BK107.out (by decide))); have n3_ := Aside0.mk (blk_grown (g := gb108) (o := .cells #[.int .i64 (wrap64 (x109000_1 + 1)), .int .i64 (wrap64 (x109001_1 + 1)), .int .i64 ji27, .int .i64 x109003_1, .bool false] 37 (0, 0)) (by (with_reducible repeat (first | refine blk_drewN ?_ _ | refine blk_drew ?_ | refine blk_alloc ?_ _)); exact BK108.out) hg (Kd.R_ne HO_14.out BK108.out (by decide))); have n4_ := Aside0.mk ((by rw [hw]; exact below_set (HB.out) GB46.out : Below w.heap.size w w55)); clear HO_14; clear HO_15; clear BK107; clear BK108; clear HB; have HO_14 := n0_; have HO_15 := n1_; have BK107 := n2_; have BK108 := n3_; have HB := n4_; clear n0_ n1_ n2_ n3_ n4_; clear hg hw hp_; have hcz56_0 : w55.cell? ⟨gb108, 0, none⟩ = some (.int .i64 (wrap64 (x109000_1 + 1))) := (blk_cell BK108.out 0).trans rfl; have hcz56_1 : w55.cell? ⟨gb108, 1, none⟩ = some (.int .i64 (wrap64 (x109001_1 + 1))) := (blk_cell BK108.out 1).trans rfl; have hcz56_2 : w55.cell? ⟨gb108, 2, none⟩ = some (.int .i64 ji27) := (blk_cell BK108.out 2).trans rfl; have hcz56_3 : w55.cell? ⟨gb108, 3, none⟩ = some (.int .i64 x109003_1) := (blk_cell BK108.out 3).trans rfl; have hcz56_4 : w55.cell? ⟨gb108, 4, none⟩ = some (.bool false) := (blk_cell BK108.out 4).trans rfl; have hfz56_0 := blk_frozen BK108.out 0; have hfz56_1 := blk_frozen BK108.out 1; have hfz56_2 := blk_frozen BK108.out 2; have hfz56_3 := blk_frozen BK108.out 3; have hfz56_4 := blk_frozen BK108.out 4))
                                      go_roundg kj27
                                      case measure => have := HK1.out; have := HJ16.out; have := HJ27.out; omega
                                      case rel => exact ⟨(wrap64 ((wrap64 (x12_1 + (rd x15_1 x109003_1))) - 1)), (wrap64 ((wrap64 (x13_1 + (rd x14_1 x109003_1))) - 1)), (y119), (y118), (wrap64 (x109000_1 + 1)), (wrap64 (x109001_1 + 1)), (ji27), (wrap64 (x109003_1 + 1)), (by first | rfl | (simp; done) | (simp [*]; done)), (by first | rfl | (simp; done) | (simp [*]; done)), H', ⟨by have := HK1.out; have := HJ16.out; have := HJ27.out; omega⟩, ⟨by (with_reducible repeat (first | apply Kd.R_alloc | apply Kd.R_drewN | apply Kd.R_drew)); exact Kd.R_mono (Kd.R_far (p := ⟨gb108, 3, none⟩) (Kd.R_types HO_14.out BK108.out (by decide)) (fun _ hk => hk.2) (.int .i64 (wrap64 (x109003_1 + 1)))) (fun _ hk => hk.1)⟩, ⟨by (with_reducible repeat (first | apply Kd.R_alloc | apply Kd.R_drewN | apply Kd.R_drew)); exact Kd.R_mono (Kd.R_far (p := ⟨gb108, 3, none⟩) (Kd.R_types HO_15.out BK108.out (by decide)) (fun _ hk => hk.2) (.int .i64 (wrap64 (x109003_1 + 1)))) (fun _ hk => hk.1.2)⟩, ⟨by (with_reducible repeat (first | refine blk_drewN ?_ _ | refine blk_drew ?_ | refine blk_alloc ?_ _)); refine blk_far ?_ NB107_108.out _; (with_reducible repeat (first | refine blk_drewN ?_ _ | refine blk_drew ?_ | refine blk_alloc ?_ _)); exact BK107.out⟩, ⟨by (with_reducible repeat (first | refine blk_drewN ?_ _ | refine blk_drew ?_ | refine blk_alloc ?_ _)); refine blk_put (cs := #[.int .i64 (wrap64 (x109000_1 + 1)), .int .i64 (wrap64 (x109001_1 + 1)), .int .i64 ji27, .int .i64 x109003_1, .bool false]) ?_ 3 _ rfl; (with_reducible repeat (first | refine blk_drewN ?_ _ | refine blk_drew ?_ | refine blk_alloc ?_ _)); exact BK108.out⟩, ⟨by repeat (first | (with_reducible first | exact HB.out | apply below_alloc | apply pw_below_drewN | apply below_drew1 | refine below_set ?_ GE107.out | refine below_set ?_ GE108.out) | exact HB.out)⟩⟩
                                    · rw [if_neg c45] at H
                                      exact absurd H (by simp)
                                  · rw [if_neg c44] at H
                                    have c44b0 : decide (x109000_1 < a2) = false := decide_eq_false c44
                                    clear c44
                                    have H' := Aside0.mk H
                                    clear H
                                    have hnb57 := NB108_107.out
                                    have hnc57 := NB107_108.out
                                    have hcz58_0 : wc.cell? ⟨gb108, 0, none⟩ = some (.int .i64 x109000_1) := (blk_cell BK108.out 0).trans rfl
                                    have hcz58_1 : wc.cell? ⟨gb108, 1, none⟩ = some (.int .i64 x109001_1) := (blk_cell BK108.out 1).trans rfl
                                    have hcz58_2 : wc.cell? ⟨gb108, 2, none⟩ = some (.int .i64 ji27) := (blk_cell BK108.out 2).trans rfl
                                    have hcz58_3 : wc.cell? ⟨gb108, 3, none⟩ = some (.int .i64 x109003_1) := (blk_cell BK108.out 3).trans rfl
                                    have hcz58_4 : wc.cell? ⟨gb108, 4, none⟩ = some (.bool false) := (blk_cell BK108.out 4).trans rfl
                                    have hfz58_0 := blk_frozen BK108.out 0
                                    have hfz58_1 := blk_frozen BK108.out 1
                                    have hfz58_2 := blk_frozen BK108.out 2
                                    have hfz58_3 := blk_frozen BK108.out 3
                                    have hfz58_4 := blk_frozen BK108.out 4
                                    go_wp2_with (first | ((with_reducible refine gate_store (t := 3) (p := 75) rfl ?_); refine store_event (t := 3) (p := 75) (v := ?vo_w59) (w1 := (wc.setCell ⟨gb108, 1, none⟩ (.int .i64 (wrap64 (x109001_1 + 1))))) ?hg ?ho ?hn ?hr ?_; (case ho => rfl); (case hg => rfl); (case hn => rfl); (case hr => first | (go_simp; done) | (go_simp; rfl)); intro w59 hw; have n0_ : Aside0 (Kd.R (Kd.int .i64) 3 w59 w.heap.size (fun k_ => some k_ ≠ (.slice (some ad115) x15_1.length co31 : Value).ownBlock) (.slice (some ad116) x14_1.length co32) x14_1) := ⟨(by rw [hw]; exact (by (with_reducible repeat (first | apply Kd.R_alloc | apply Kd.R_drewN | apply Kd.R_drew)); exact Kd.R_mono (Kd.R_far (p := ⟨gb108, 1, none⟩) (Kd.R_types HO_14.out BK108.out (by decide)) (fun _ hk => hk.2) (.int .i64 (wrap64 (x109001_1 + 1)))) (fun _ hk => hk.1)))⟩; have n1_ : Aside0 (Kd.R (Kd.int .i64) 3 w59 w.heap.size (fun k_ => some k_ ≠ (.slice (some ad116) x14_1.length co32 : Value).ownBlock) (.slice (some ad115) x15_1.length co31) x15_1) := ⟨(by rw [hw]; exact (by (with_reducible repeat (first | apply Kd.R_alloc | apply Kd.R_drewN | apply Kd.R_drew)); exact Kd.R_mono (Kd.R_far (p := ⟨gb108, 1, none⟩) (Kd.R_types HO_15.out BK108.out (by decide)) (fun _ hk => hk.2) (.int .i64 (wrap64 (x109001_1 + 1)))) (fun _ hk => hk.1)))⟩; have n2_ : Aside0 (w59.heap[gb107]? = some (.cells #[.int .i64 0, .int .i64 0, .int .i64 0, .int .i64 0, .bool false] 37 (0, 0))) := ⟨(by rw [hw]; exact (by (with_reducible repeat (first | refine blk_drewN ?_ _ | refine blk_drew ?_ | refine blk_alloc ?_ _)); refine blk_far ?_ NB107_108.out _; (with_reducible repeat (first | refine blk_drewN ?_ _ | refine blk_drew ?_ | refine blk_alloc ?_ _)); exact BK107.out))⟩; have n3_ : Aside0 (w59.heap[gb108]? = some (.cells #[.int .i64 x109000_1, .int .i64 (wrap64 (x109001_1 + 1)), .int .i64 ji27, .int .i64 x109003_1, .bool false] 37 (0, 0))) := ⟨(by rw [hw]; exact (by (with_reducible repeat (first | refine blk_drewN ?_ _ | refine blk_drew ?_ | refine blk_alloc ?_ _)); refine blk_put (cs := #[.int .i64 x109000_1, .int .i64 x109001_1, .int .i64 ji27, .int .i64 x109003_1, .bool false]) ?_ 1 _ rfl; (with_reducible repeat (first | refine blk_drewN ?_ _ | refine blk_drew ?_ | refine blk_alloc ?_ _)); exact BK108.out))⟩; have n4_ : Aside0 (Below w.heap.size w w59) := ⟨(by rw [hw]; exact (by repeat (first | (with_reducible first | exact HB.out | apply below_alloc | apply pw_below_drewN | apply below_drew1 | refine below_set ?_ GE107.out | refine below_set ?_ GE108.out) | exact HB.out)))⟩; clear hw; clear HO_14; clear HO_15; clear BK107; clear BK108; clear HB; have HO_14 := n0_; have HO_15 := n1_; have BK107 := n2_; have BK108 := n3_; have HB := n4_; clear n0_ n1_ n2_ n3_ n4_; have p42 : 0 ≤ ((ji39) : Int) := of_decide_eq_true (by first | (with_reducible assumption) | assumption); have q42 : ((ji39) : Int) < ((x15_1.length : Int) : Int) := of_decide_eq_true (by first | (with_reducible assumption) | assumption); obtain ⟨go42, co42, eo42, gb42, gl42, cl42, HG42⟩ := Kd.R_form HO_15.out (by omega); (first | cases eo42 | (injection eo42 with ea_ en_ ec_; (first | subst ea_ | (injection ea_ with ea_; subst ea_)); subst ec_; clear en_)); have GB42 := Aside0.mk gb42; have GG42 := Aside0.mk HG42; clear gb42 gl42 HG42; obtain ⟨hx42_0, hf42_0⟩ := Kd.R_celln 0 HO_15.out ((ji39) : Int) p42 q42; replace p42 := eq_true p42; replace q42 := eq_true q42; obtain ⟨hy60_, hz60_⟩ := Kd.R_celln 0 HO_15.out ((ji39) : Int) (of_decide_eq_true (by first | (with_reducible assumption) | assumption)) (of_decide_eq_true (by first | (with_reducible assumption) | assumption)); have HP60 := Kd.R_putg HO_15.out ((ji39) : Int) 1) | ((with_reducible refine gate_store (t := 3) (p := 80) rfl ?_); refine store_event (t := 3) (p := 80) (v := ?vo_w61) (w1 := (w59.setCell ⟨go42, ((ji39) : Int).toNat, none⟩ (.int .i64 1))) ?hg ?ho ?hn ?hr ?_; (case ho => rfl); (case hg => rfl); (case hn => rfl); (case hr => first | (go_simp; done) | (go_simp; rfl)); intro w61 hw; have hg : w59.grownBy w61 (some go42) := (by rw [hw]; exact HP60.2); have hp_ : Kd.R (Kd.int .i64) 3 w61 w.heap.size (fun k_ => some k_ ≠ (.slice (some ad116) x14_1.length co32 : Value).ownBlock) (.slice (some ⟨go42, 0, none⟩) x15_1.length co31) y118 := (by rw [hw, Ny118.out]; exact HP60.1); clear HP60; have n0_ := Aside0.mk (Kd.R_after (v := (.slice (some ⟨go42, 0, none⟩) x15_1.length co31)) (v1 := (.slice (some ⟨go42, 0, none⟩) x15_1.length co31)) (ok := (fun _ => True)) (by (with_reducible repeat (first | apply Kd.R_alloc | apply Kd.R_drewN | apply Kd.R_drew)); exact Kd.R_mono HO_14.out (fun _ hk => ⟨trivial, hk⟩)) hg (.inl rfl)); have n1_ := Aside0.mk (hp_); have n2_ := Aside0.mk (blk_grown (g := gb107) (o := .cells #[.int .i64 0, .int .i64 0, .int .i64 0, .int .i64 0, .bool false] 37 (0, 0)) (by (with_reducible repeat (first | refine blk_drewN ?_ _ | refine blk_drew ?_ | refine blk_alloc ?_ _)); exact BK107.out) hg (Kd.R_ne HO_15.out BK107.out (by decide))); have n3_ := Aside0.mk (blk_grown (g := gb108) (o := .cells #[.int .i64 x109000_1, .int .i64 (wrap64 (x109001_1 + 1)), .int .i64 ji27, .int .i64 x109003_1, .bool false] 37 (0, 0)) (by (with_reducible repeat (first | refine blk_drewN ?_ _ | refine blk_drew ?_ | refine blk_alloc ?_ _)); exact BK108.out) hg (Kd.R_ne HO_15.out BK108.out (by decide))); have n4_ := Aside0.mk ((by rw [hw]; exact below_set (HB.out) GB42.out : Below w.heap.size w w61)); clear HO_14; clear HO_15; clear BK107; clear BK108; clear HB; have HO_14 := n0_; have HO_15 := n1_; have BK107 := n2_; have BK108 := n3_; have HB := n4_; clear n0_ n1_ n2_ n3_ n4_; clear hg hw hp_; have hcz62_0 : w61.cell? ⟨gb108, 0, none⟩ = some (.int .i64 x109000_1) := (blk_cell BK108.out 0).trans rfl; have hcz62_1 : w61.cell? ⟨gb108, 1, none⟩ = some (.int .i64 (wrap64 (x109001_1 + 1))) := (blk_cell BK108.out 1).trans rfl; have hcz62_2 : w61.cell? ⟨gb108, 2, none⟩ = some (.int .i64 ji27) := (blk_cell BK108.out 2).trans rfl; have hcz62_3 : w61.cell? ⟨gb108, 3, none⟩ = some (.int .i64 x109003_1) := (blk_cell BK108.out 3).trans rfl; have hcz62_4 : w61.cell? ⟨gb108, 4, none⟩ = some (.bool false) := (blk_cell BK108.out 4).trans rfl; have hfz62_0 := blk_frozen BK108.out 0; have hfz62_1 := blk_frozen BK108.out 1; have hfz62_2 := blk_frozen BK108.out 2; have hfz62_3 := blk_frozen BK108.out 3; have hfz62_4 := blk_frozen BK108.out 4))
                                    go_roundg kj27
                                    case measure => have := HK1.out; have := HJ16.out; have := HJ27.out; omega
                                    case rel => exact ⟨((wrap64 (x12_1 + (rd x15_1 x109003_1)))), (wrap64 ((wrap64 (x13_1 + (rd x14_1 x109003_1))) - 1)), (x14_1), (y118), (x109000_1), (wrap64 (x109001_1 + 1)), (ji27), (wrap64 (x109003_1 + 1)), (by first | rfl | (simp; done) | (simp [*]; done)), (by first | rfl | (simp; done) | (simp [*]; done)), H', ⟨by have := HK1.out; have := HJ16.out; have := HJ27.out; omega⟩, ⟨by (with_reducible repeat (first | apply Kd.R_alloc | apply Kd.R_drewN | apply Kd.R_drew)); exact Kd.R_mono (Kd.R_far (p := ⟨gb108, 3, none⟩) (Kd.R_types HO_14.out BK108.out (by decide)) (fun _ hk => hk.2) (.int .i64 (wrap64 (x109003_1 + 1)))) (fun _ hk => hk.1.2)⟩, ⟨by (with_reducible repeat (first | apply Kd.R_alloc | apply Kd.R_drewN | apply Kd.R_drew)); exact Kd.R_mono (Kd.R_far (p := ⟨gb108, 3, none⟩) (Kd.R_types HO_15.out BK108.out (by decide)) (fun _ hk => hk.2) (.int .i64 (wrap64 (x109003_1 + 1)))) (fun _ hk => hk.1)⟩, ⟨by (with_reducible repeat (first | refine blk_drewN ?_ _ | refine blk_drew ?_ | refine blk_alloc ?_ _)); refine blk_far ?_ NB107_108.out _; (with_reducible repeat (first | refine blk_drewN ?_ _ | refine blk_drew ?_ | refine blk_alloc ?_ _)); exact BK107.out⟩, ⟨by (with_reducible repeat (first | refine blk_drewN ?_ _ | refine blk_drew ?_ | refine blk_alloc ?_ _)); refine blk_put (cs := #[.int .i64 x109000_1, .int .i64 (wrap64 (x109001_1 + 1)), .int .i64 ji27, .int .i64 x109003_1, .bool false]) ?_ 3 _ rfl; (with_reducible repeat (first | refine blk_drewN ?_ _ | refine blk_drew ?_ | refine blk_alloc ?_ _)); exact BK108.out⟩, ⟨by repeat (first | (with_reducible first | exact HB.out | apply below_alloc | apply pw_below_drewN | apply below_drew1 | refine below_set ?_ GE107.out | refine below_set ?_ GE108.out) | exact HB.out)⟩⟩
                                · rw [if_neg c43] at H
                                  have c43b0 : decide (0 < (wrap64 (x12_1 + (rd x15_1 x109003_1)))) = false := decide_eq_false c43
                                  clear c43
                                  have H' := Aside0.mk H
                                  clear H
                                  have hnb63 := NB108_107.out
                                  have hnc63 := NB107_108.out
                                  have hcz64_0 : wc.cell? ⟨gb108, 0, none⟩ = some (.int .i64 x109000_1) := (blk_cell BK108.out 0).trans rfl
                                  have hcz64_1 : wc.cell? ⟨gb108, 1, none⟩ = some (.int .i64 x109001_1) := (blk_cell BK108.out 1).trans rfl
                                  have hcz64_2 : wc.cell? ⟨gb108, 2, none⟩ = some (.int .i64 ji27) := (blk_cell BK108.out 2).trans rfl
                                  have hcz64_3 : wc.cell? ⟨gb108, 3, none⟩ = some (.int .i64 x109003_1) := (blk_cell BK108.out 3).trans rfl
                                  have hcz64_4 : wc.cell? ⟨gb108, 4, none⟩ = some (.bool false) := (blk_cell BK108.out 4).trans rfl
                                  have hfz64_0 := blk_frozen BK108.out 0
                                  have hfz64_1 := blk_frozen BK108.out 1
                                  have hfz64_2 := blk_frozen BK108.out 2
                                  have hfz64_3 := blk_frozen BK108.out 3
                                  have hfz64_4 := blk_frozen BK108.out 4
                                  go_wp2_with (first | ((with_reducible refine gate_store (t := 3) (p := 75) rfl ?_); refine store_event (t := 3) (p := 75) (v := ?vo_w65) (w1 := (wc.setCell ⟨gb108, 1, none⟩ (.int .i64 (wrap64 (x109001_1 + 1))))) ?hg ?ho ?hn ?hr ?_; (case ho => rfl); (case hg => rfl); (case hn => rfl); (case hr => first | (go_simp; done) | (go_simp; rfl)); intro w65 hw; have n0_ : Aside0 (Kd.R (Kd.int .i64) 3 w65 w.heap.size (fun k_ => some k_ ≠ (.slice (some ad115) x15_1.length co31 : Value).ownBlock) (.slice (some ad116) x14_1.length co32) x14_1) := ⟨(by rw [hw]; exact (by (with_reducible repeat (first | apply Kd.R_alloc | apply Kd.R_drewN | apply Kd.R_drew)); exact Kd.R_mono (Kd.R_far (p := ⟨gb108, 1, none⟩) (Kd.R_types HO_14.out BK108.out (by decide)) (fun _ hk => hk.2) (.int .i64 (wrap64 (x109001_1 + 1)))) (fun _ hk => hk.1)))⟩; have n1_ : Aside0 (Kd.R (Kd.int .i64) 3 w65 w.heap.size (fun k_ => some k_ ≠ (.slice (some ad116) x14_1.length co32 : Value).ownBlock) (.slice (some ad115) x15_1.length co31) x15_1) := ⟨(by rw [hw]; exact (by (with_reducible repeat (first | apply Kd.R_alloc | apply Kd.R_drewN | apply Kd.R_drew)); exact Kd.R_mono (Kd.R_far (p := ⟨gb108, 1, none⟩) (Kd.R_types HO_15.out BK108.out (by decide)) (fun _ hk => hk.2) (.int .i64 (wrap64 (x109001_1 + 1)))) (fun _ hk => hk.1)))⟩; have n2_ : Aside0 (w65.heap[gb107]? = some (.cells #[.int .i64 0, .int .i64 0, .int .i64 0, .int .i64 0, .bool false] 37 (0, 0))) := ⟨(by rw [hw]; exact (by (with_reducible repeat (first | refine blk_drewN ?_ _ | refine blk_drew ?_ | refine blk_alloc ?_ _)); refine blk_far ?_ NB107_108.out _; (with_reducible repeat (first | refine blk_drewN ?_ _ | refine blk_drew ?_ | refine blk_alloc ?_ _)); exact BK107.out))⟩; have n3_ : Aside0 (w65.heap[gb108]? = some (.cells #[.int .i64 x109000_1, .int .i64 (wrap64 (x109001_1 + 1)), .int .i64 ji27, .int .i64 x109003_1, .bool false] 37 (0, 0))) := ⟨(by rw [hw]; exact (by (with_reducible repeat (first | refine blk_drewN ?_ _ | refine blk_drew ?_ | refine blk_alloc ?_ _)); refine blk_put (cs := #[.int .i64 x109000_1, .int .i64 x109001_1, .int .i64 ji27, .int .i64 x109003_1, .bool false]) ?_ 1 _ rfl; (with_reducible repeat (first | refine blk_drewN ?_ _ | refine blk_drew ?_ | refine blk_alloc ?_ _)); exact BK108.out))⟩; have n4_ : Aside0 (Below w.heap.size w w65) := ⟨(by rw [hw]; exact (by repeat (first | (with_reducible first | exact HB.out | apply below_alloc | apply pw_below_drewN | apply below_drew1 | refine below_set ?_ GE107.out | refine below_set ?_ GE108.out) | exact HB.out)))⟩; clear hw; clear HO_14; clear HO_15; clear BK107; clear BK108; clear HB; have HO_14 := n0_; have HO_15 := n1_; have BK107 := n2_; have BK108 := n3_; have HB := n4_; clear n0_ n1_ n2_ n3_ n4_; have p42 : 0 ≤ ((ji39) : Int) := of_decide_eq_true (by first | (with_reducible assumption) | assumption); have q42 : ((ji39) : Int) < ((x15_1.length : Int) : Int) := of_decide_eq_true (by first | (with_reducible assumption) | assumption); obtain ⟨go42, co42, eo42, gb42, gl42, cl42, HG42⟩ := Kd.R_form HO_15.out (by omega); (first | cases eo42 | (injection eo42 with ea_ en_ ec_; (first | subst ea_ | (injection ea_ with ea_; subst ea_)); subst ec_; clear en_)); have GB42 := Aside0.mk gb42; have GG42 := Aside0.mk HG42; clear gb42 gl42 HG42; obtain ⟨hx42_0, hf42_0⟩ := Kd.R_celln 0 HO_15.out ((ji39) : Int) p42 q42; replace p42 := eq_true p42; replace q42 := eq_true q42; obtain ⟨hy66_, hz66_⟩ := Kd.R_celln 0 HO_15.out ((ji39) : Int) (of_decide_eq_true (by first | (with_reducible assumption) | assumption)) (of_decide_eq_true (by first | (with_reducible assumption) | assumption)); have HP66 := Kd.R_putg HO_15.out ((ji39) : Int) 1) | ((with_reducible refine gate_store (t := 3) (p := 80) rfl ?_); refine store_event (t := 3) (p := 80) (v := ?vo_w67) (w1 := (w65.setCell ⟨go42, ((ji39) : Int).toNat, none⟩ (.int .i64 1))) ?hg ?ho ?hn ?hr ?_; (case ho => rfl); (case hg => rfl); (case hn => rfl); (case hr => first | (go_simp; done) | (go_simp; rfl)); intro w67 hw; have hg : w65.grownBy w67 (some go42) := (by rw [hw]; exact HP66.2); have hp_ : Kd.R (Kd.int .i64) 3 w67 w.heap.size (fun k_ => some k_ ≠ (.slice (some ad116) x14_1.length co32 : Value).ownBlock) (.slice (some ⟨go42, 0, none⟩) x15_1.length co31) y118 := (by rw [hw, Ny118.out]; exact HP66.1); clear HP66; have n0_ := Aside0.mk (Kd.R_after (v := (.slice (some ⟨go42, 0, none⟩) x15_1.length co31)) (v1 := (.slice (some ⟨go42, 0, none⟩) x15_1.length co31)) (ok := (fun _ => True)) (by (with_reducible repeat (first | apply Kd.R_alloc | apply Kd.R_drewN | apply Kd.R_drew)); exact Kd.R_mono HO_14.out (fun _ hk => ⟨trivial, hk⟩)) hg (.inl rfl)); have n1_ := Aside0.mk (hp_); have n2_ := Aside0.mk (blk_grown (g := gb107) (o := .cells #[.int .i64 0, .int .i64 0, .int .i64 0, .int .i64 0, .bool false] 37 (0, 0)) (by (with_reducible repeat (first | refine blk_drewN ?_ _ | refine blk_drew ?_ | refine blk_alloc ?_ _)); exact BK107.out) hg (Kd.R_ne HO_15.out BK107.out (by decide))); have n3_ := Aside0.mk (blk_grown (g := gb108) (o := .cells #[.int .i64 x109000_1, .int .i64 (wrap64 (x109001_1 + 1)), .int .i64 ji27, .int .i64 x109003_1, .bool false] 37 (0, 0)) (by (with_reducible repeat (first | refine blk_drewN ?_ _ | refine blk_drew ?_ | refine blk_alloc ?_ _)); exact BK108.out) hg (Kd.R_ne HO_15.out BK108.out (by decide))); have n4_ := Aside0.mk ((by rw [hw]; exact below_set (HB.out) GB42.out : Below w.heap.size w w67)); clear HO_14; clear HO_15; clear BK107; clear BK108; clear HB; have HO_14 := n0_; have HO_15 := n1_; have BK107 := n2_; have BK108 := n3_; have HB := n4_; clear n0_ n1_ n2_ n3_ n4_; clear hg hw hp_; have hcz68_0 : w67.cell? ⟨gb108, 0, none⟩ = some (.int .i64 x109000_1) := (blk_cell BK108.out 0).trans rfl; have hcz68_1 : w67.cell? ⟨gb108, 1, none⟩ = some (.int .i64 (wrap64 (x109001_1 + 1))) := (blk_cell BK108.out 1).trans rfl; have hcz68_2 : w67.cell? ⟨gb108, 2, none⟩ = some (.int .i64 ji27) := (blk_cell BK108.out 2).trans rfl; have hcz68_3 : w67.cell? ⟨gb108, 3, none⟩ = some (.int .i64 x109003_1) := (blk_cell BK108.out 3).trans rfl; have hcz68_4 : w67.cell? ⟨gb108, 4, none⟩ = some (.bool false) := (blk_cell BK108.out 4).trans rfl; have hfz68_0 := blk_frozen BK108.out 0; have hfz68_1 := blk_frozen BK108.out 1; have hfz68_2 := blk_frozen BK108.out 2; have hfz68_3 := blk_frozen BK108.out 3; have hfz68_4 := blk_frozen BK108.out 4))
                                  go_roundg kj27
                                  case measure => have := HK1.out; have := HJ16.out; have := HJ27.out; omega
                                  case rel => exact ⟨((wrap64 (x12_1 + (rd x15_1 x109003_1)))), (wrap64 ((wrap64 (x13_1 + (rd x14_1 x109003_1))) - 1)), (x14_1), (y118), (x109000_1), (wrap64 (x109001_1 + 1)), (ji27), (wrap64 (x109003_1 + 1)), (by first | rfl | (simp; done) | (simp [*]; done)), (by first | rfl | (simp; done) | (simp [*]; done)), H', ⟨by have := HK1.out; have := HJ16.out; have := HJ27.out; omega⟩, ⟨by (with_reducible repeat (first | apply Kd.R_alloc | apply Kd.R_drewN | apply Kd.R_drew)); exact Kd.R_mono (Kd.R_far (p := ⟨gb108, 3, none⟩) (Kd.R_types HO_14.out BK108.out (by decide)) (fun _ hk => hk.2) (.int .i64 (wrap64 (x109003_1 + 1)))) (fun _ hk => hk.1.2)⟩, ⟨by (with_reducible repeat (first | apply Kd.R_alloc | apply Kd.R_drewN | apply Kd.R_drew)); exact Kd.R_mono (Kd.R_far (p := ⟨gb108, 3, none⟩) (Kd.R_types HO_15.out BK108.out (by decide)) (fun _ hk => hk.2) (.int .i64 (wrap64 (x109003_1 + 1)))) (fun _ hk => hk.1)⟩, ⟨by (with_reducible repeat (first | refine blk_drewN ?_ _ | refine blk_drew ?_ | refine blk_alloc ?_ _)); refine blk_far ?_ NB107_108.out _; (with_reducible repeat (first | refine blk_drewN ?_ _ | refine blk_drew ?_ | refine blk_alloc ?_ _)); exact BK107.out⟩, ⟨by (with_reducible repeat (first | refine blk_drewN ?_ _ | refine blk_drew ?_ | refine blk_alloc ?_ _)); refine blk_put (cs := #[.int .i64 x109000_1, .int .i64 (wrap64 (x109001_1 + 1)), .int .i64 ji27, .int .i64 x109003_1, .bool false]) ?_ 3 _ rfl; (with_reducible repeat (first | refine blk_drewN ?_ _ | refine blk_drew ?_ | refine blk_alloc ?_ _)); exact BK108.out⟩, ⟨by repeat (first | (with_reducible first | exact HB.out | apply below_alloc | apply pw_below_drewN | apply below_drew1 | refine below_set ?_ GE107.out | refine below_set ?_ GE108.out) | exact HB.out)⟩⟩
                              · rw [if_neg c41] at H
                                exact absurd H (by simp)
                            · rw [if_neg c40] at H
                              exact absurd H (by simp)
                          · replace c38 := Bool.eq_false_iff.mpr c38
                            subst c38
                            have H1 : (if (wrap64 (x12_1 + (rd x15_1 x109003_1))) > 0 then (if x109000_1 < a2 then (if 0 ≤ (wrap64 (x109003_1 + a1)) then (if (wrap64 (x109003_1 + a1)) < (x14_1.length : Int) then (spec_l13Run.l0 kj27 a1 a2 l3 a4 (wrap64 ((wrap64 (x12_1 + (rd x15_1 x109003_1))) - 1)) (wrap64 (x13_1 + (rd x14_1 x109003_1))) (x14_1.set ((wrap64 (x109003_1 + a1)) : Int).toNat 1) x15_1 (wrap64 (x109000_1 + 1)) x109001_1 ji27 (wrap64 (x109003_1 + 1)) false) else (none)) else (none)) else (spec_l13Run.l0 kj27 a1 a2 l3 a4 (wrap64 (x12_1 + (rd x15_1 x109003_1))) (wrap64 (x13_1 + (rd x14_1 x109003_1))) x14_1 x15_1 x109000_1 x109001_1 ji27 (wrap64 (x109003_1 + 1)) false)) else (spec_l13Run.l0 kj27 a1 a2 l3 a4 (wrap64 (x12_1 + (rd x15_1 x109003_1))) (wrap64 (x13_1 + (rd x14_1 x109003_1))) x14_1 x15_1 x109000_1 x109001_1 ji27 (wrap64 (x109003_1 + 1)) false)) = some (r1, r2, r3, r4, r5) := by rw [if_neg (show ¬ (false = true) by decide)] at H; exact H
                            clear H
                            have H := H1
                            clear H1
                            by_cases c69 : (wrap64 (x12_1 + (rd x15_1 x109003_1))) > 0
                            · rw [if_pos c69] at H
                              have c69b0 : decide (0 < (wrap64 (x12_1 + (rd x15_1 x109003_1)))) = true := decide_eq_true c69
                              clear c69
                              by_cases c70 : x109000_1 < a2
                              · rw [if_pos c70] at H
                                have c70b0 : decide (x109000_1 < a2) = true := decide_eq_true c70
                                clear c70
                                obtain ⟨ji71, hji71⟩ : ∃ j_ : Int, (wrap64 (x109003_1 + a1)) = j_ := ⟨_, rfl⟩
                                replace H : (if 0 ≤ (ji71) then (if (ji71) < (x14_1.length : Int) then (spec_l13Run.l0 kj27 a1 a2 l3 a4 (wrap64 ((wrap64 (x12_1 + (rd x15_1 x109003_1))) - 1)) (wrap64 (x13_1 + (rd x14_1 x109003_1))) (x14_1.set ((ji71) : Int).toNat 1) x15_1 (wrap64 (x109000_1 + 1)) x109001_1 ji27 (wrap64 (x109003_1 + 1)) false) else (none)) else (none)) = some (r1, r2, r3, r4, r5) := by first | (rw [hji71] at H; exact H) | (simp only [hji71] at H ⊢; exact H)
                                have hji71w : (IntKind.i64.wrap (x109003_1 + a1)) = ji71 := (i64_w _).trans hji71
                                by_cases c72 : 0 ≤ (ji71)
                                · rw [if_pos c72] at H
                                  have c72b0 : decide (0 ≤ (ji71)) = true := decide_eq_true c72
                                  clear c72
                                  by_cases c73 : (ji71) < (x14_1.length : Int)
                                  · rw [if_pos c73] at H
                                    have c73b0 : decide ((ji71) < (x14_1.length : Int)) = true := decide_eq_true c73
                                    clear c73
                                    obtain ⟨y120, hy120⟩ : ∃ y_ : List Int, y_ = (x14_1.set ((ji71) : Int).toNat 1) := ⟨_, rfl⟩
                                    replace H : (spec_l13Run.l0 kj27 a1 a2 l3 a4 (wrap64 ((wrap64 (x12_1 + (rd x15_1 x109003_1))) - 1)) (wrap64 (x13_1 + (rd x14_1 x109003_1))) y120 x15_1 (wrap64 (x109000_1 + 1)) x109001_1 ji27 (wrap64 (x109003_1 + 1)) false) = some (r1, r2, r3, r4, r5) := by first | (rw [hy120]; with_reducible exact H) | (have H2_ := (Option.bind_some _ _).symm.trans H; rw [hy120]; with_reducible exact H2_) | (have H2_ := (Option.bind_some _ _).symm.trans H; with_reducible exact H2_) | with_reducible exact H | (rw [hy120]; exact H) | exact H
                                    have Ny120 := Aside0.mk hy120
                                    clear hy120
                                    have H' := Aside0.mk H
                                    clear H
                                    have hnb75 := NB108_107.out
                                    have hnc75 := NB107_108.out
                                    have hcz76_0 : wc.cell? ⟨gb108, 0, none⟩ = some (.int .i64 x109000_1) := (blk_cell BK108.out 0).trans rfl
                                    have hcz76_1 : wc.cell? ⟨gb108, 1, none⟩ = some (.int .i64 x109001_1) := (blk_cell BK108.out 1).trans rfl
                                    have hcz76_2 : wc.cell? ⟨gb108, 2, none⟩ = some (.int .i64 ji27) := (blk_cell BK108.out 2).trans rfl
                                    have hcz76_3 : wc.cell? ⟨gb108, 3, none⟩ = some (.int .i64 x109003_1) := (blk_cell BK108.out 3).trans rfl
                                    have hcz76_4 : wc.cell? ⟨gb108, 4, none⟩ = some (.bool false) := (blk_cell BK108.out 4).trans rfl
                                    have hfz76_0 := blk_frozen BK108.out 0
                                    have hfz76_1 := blk_frozen BK108.out 1
                                    have hfz76_2 := blk_frozen BK108.out 2
                                    have hfz76_3 := blk_frozen BK108.out 3
                                    have hfz76_4 := blk_frozen BK108.out 4
                                    go_wp2_with (first | ((with_reducible refine gate_store (t := 3) (p := 94) rfl ?_); refine store_event (t := 3) (p := 94) (v := ?vo_w77) (w1 := (wc.setCell ⟨gb108, 0, none⟩ (.int .i64 (wrap64 (x109000_1 + 1))))) ?hg ?ho ?hn ?hr ?_; (case ho => rfl); (case hg => rfl); (case hn => rfl); (case hr => first | (go_simp; done) | (go_simp; rfl)); intro w77 hw; have n0_ : Aside0 (Kd.R (Kd.int .i64) 3 w77 w.heap.size (fun k_ => some k_ ≠ (.slice (some ad115) x15_1.length co31 : Value).ownBlock) (.slice (some ad116) x14_1.length co32) x14_1) := ⟨(by rw [hw]; exact (by (with_reducible repeat (first | apply Kd.R_alloc | apply Kd.R_drewN | apply Kd.R_drew)); exact Kd.R_mono (Kd.R_far (p := ⟨gb108, 0, none⟩) (Kd.R_types HO_14.out BK108.out (by decide)) (fun _ hk => hk.2) (.int .i64 (wrap64 (x109000_1 + 1)))) (fun _ hk => hk.1)))⟩; have n1_ : Aside0 (Kd.R (Kd.int .i64) 3 w77 w.heap.size (fun k_ => some k_ ≠ (.slice (some ad116) x14_1.length co32 : Value).ownBlock) (.slice (some ad115) x15_1.length co31) x15_1) := ⟨(by rw [hw]; exact (by (with_reducible repeat (first | apply Kd.R_alloc | apply Kd.R_drewN | apply Kd.R_drew)); exact Kd.R_mono (Kd.R_far (p := ⟨gb108, 0, none⟩) (Kd.R_types HO_15.out BK108.out (by decide)) (fun _ hk => hk.2) (.int .i64 (wrap64 (x109000_1 + 1)))) (fun _ hk => hk.1)))⟩; have n2_ : Aside0 (w77.heap[gb107]? = some (.cells #[.int .i64 0, .int .i64 0, .int .i64 0, .int .i64 0, .bool false] 37 (0, 0))) := ⟨(by rw [hw]; exact (by (with_reducible repeat (first | refine blk_drewN ?_ _ | refine blk_drew ?_ | refine blk_alloc ?_ _)); refine blk_far ?_ NB107_108.out _; (with_reducible repeat (first | refine blk_drewN ?_ _ | refine blk_drew ?_ | refine blk_alloc ?_ _)); exact BK107.out))⟩; have n3_ : Aside0 (w77.heap[gb108]? = some (.cells #[.int .i64 (wrap64 (x109000_1 + 1)), .int .i64 x109001_1, .int .i64 ji27, .int .i64 x109003_1, .bool false] 37 (0, 0))) := ⟨(by rw [hw]; exact (by (with_reducible repeat (first | refine blk_drewN ?_ _ | refine blk_drew ?_ | refine blk_alloc ?_ _)); refine blk_put (cs := #[.int .i64 x109000_1, .int .i64 x109001_1, .int .i64 ji27, .int .i64 x109003_1, .bool false]) ?_ 0 _ rfl; (with_reducible repeat (first | refine blk_drewN ?_ _ | refine blk_drew ?_ | refine blk_alloc ?_ _)); exact BK108.out))⟩; have n4_ : Aside0 (Below w.heap.size w w77) := ⟨(by rw [hw]; exact (by repeat (first | (with_reducible first | exact HB.out | apply below_alloc | apply pw_below_drewN | apply below_drew1 | refine below_set ?_ GE107.out | refine below_set ?_ GE108.out) | exact HB.out)))⟩; clear hw; clear HO_14; clear HO_15; clear BK107; clear BK108; clear HB; have HO_14 := n0_; have HO_15 := n1_; have BK107 := n2_; have BK108 := n3_; have HB := n4_; clear n0_ n1_ n2_ n3_ n4_; have p74 : 0 ≤ ((ji71) : Int) := of_decide_eq_true (by first | (with_reducible assumption) | assumption); have q74 : ((ji71) : Int) < ((x14_1.length : Int) : Int) := of_decide_eq_true (by first | (with_reducible assumption) | assumption); obtain ⟨go74, co74, eo74, gb74, gl74, cl74, HG74⟩ := Kd.R_form HO_14.out (by omega); (first | cases eo74 | (injection eo74 with ea_ en_ ec_; (first | subst ea_ | (injection ea_ with ea_; subst ea_)); subst ec_; clear en_)); have GB74 := Aside0.mk gb74; have GG74 := Aside0.mk HG74; clear gb74 gl74 HG74; obtain ⟨hx74_0, hf74_0⟩ := Kd.R_celln 0 HO_14.out ((ji71) : Int) p74 q74; replace p74 := eq_true p74; replace q74 := eq_true q74; obtain ⟨hy78_, hz78_⟩ := Kd.R_celln 0 HO_14.out ((ji71) : Int) (of_decide_eq_true (by first | (with_reducible assumption) | assumption)) (of_decide_eq_true (by first | (with_reducible assumption) | assumption)); have HP78 := Kd.R_putg HO_14.out ((ji71) : Int) 1) | ((with_reducible refine gate_store (t := 3) (p := 99) rfl ?_); refine store_event (t := 3) (p := 99) (v := ?vo_w79) (w1 := (w77.setCell ⟨go74, ((ji71) : Int).toNat, none⟩ (.int .i64 1))) ?hg ?ho ?hn ?hr ?_; (case ho => rfl); (case hg => rfl); (case hn => rfl); (case hr => first | (go_simp; done) | (go_simp; rfl)); intro w79 hw; have hg : w77.grownBy w79 (some go74) := (by rw [hw]; exact HP78.2); have hp_ : Kd.R (Kd.int .i64) 3 w79 w.heap.size (fun k_ => some k_ ≠ (.slice (some ad115) x15_1.length co31 : Value).ownBlock) (.slice (some ⟨go74, 0, none⟩) x14_1.length co32) y120 := (by rw [hw, Ny120.out]; exact HP78.1); clear HP78; have n0_ := Aside0.mk (hp_); have n1_ := Aside0.mk (Kd.R_after (v := (.slice (some ⟨go74, 0, none⟩) x14_1.length co32)) (v1 := (.slice (some ⟨go74, 0, none⟩) x14_1.length co32)) (ok := (fun _ => True)) (by (with_reducible repeat (first | apply Kd.R_alloc | apply Kd.R_drewN | apply Kd.R_drew)); exact Kd.R_mono HO_15.out (fun _ hk => ⟨trivial, hk⟩)) hg (.inl rfl)); have n2_ := Aside0.mk (blk_grown (g := gb107) (o := .cells #[.int .i64 0, .int .i64 0, .int .i64 0, .int .i64 0, .bool false] 37 (0, 0)) (by (with_reducible repeat (first | refine blk_drewN ?_ _ | refine blk_drew ?_ | refine blk_alloc ?_ _)); exact BK107.out) hg (Kd.R_ne HO_14.out BK107.out (by decide))); have n3_ := Aside0.mk (blk_grown (g := gb108) (o := .cells #[.int .i64 (wrap64 (x109000_1 + 1)), .int .i64 x109001_1, .int .i64 ji27, .int .i64 x109003_1, .bool false] 37 (0, 0)) (by (with_reducible repeat (first | refine blk_drewN ?_ _ | refine blk_drew ?_ | refine blk_alloc ?_ _)); exact BK108.out) hg (Kd.R_ne HO_14.out BK108.out (by decide))); have n4_ := Aside0.mk ((by rw [hw]; exact below_set (HB.out) GB74.out : Below w.heap.size w w79)); clear HO_14; clear HO_15; clear BK107; clear BK108; clear HB; have HO_14 := n0_; have HO_15 := n1_; have BK107 := n2_; have BK108 := n3_; have HB := n4_; clear n0_ n1_ n2_ n3_ n4_; clear hg hw hp_; have hcz80_0 : w79.cell? ⟨gb108, 0, none⟩ = some (.int .i64 (wrap64 (x109000_1 + 1))) := (blk_cell BK108.out 0).trans rfl; have hcz80_1 : w79.cell? ⟨gb108, 1, none⟩ = some (.int .i64 x109001_1) := (blk_cell BK108.out 1).trans rfl; have hcz80_2 : w79.cell? ⟨gb108, 2, none⟩ = some (.int .i64 ji27) := (blk_cell BK108.out 2).trans rfl; have hcz80_3 : w79.cell? ⟨gb108, 3, none⟩ = some (.int .i64 x109003_1) := (blk_cell BK108.out 3).trans rfl; have hcz80_4 : w79.cell? ⟨gb108, 4, none⟩ = some (.bool false) := (blk_cell BK108.out 4).trans rfl; have hfz80_0 := blk_frozen BK108.out 0; have hfz80_1 := blk_frozen BK108.out 1; have hfz80_2 := blk_frozen BK108.out 2; have hfz80_3 := blk_frozen BK108.out 3; have hfz80_4 := blk_frozen BK108.out 4))
                                    go_roundg kj27
                                    case measure => have := HK1.out; have := HJ16.out; have := HJ27.out; omega
                                    case rel => exact ⟨(wrap64 ((wrap64 (x12_1 + (rd x15_1 x109003_1))) - 1)), ((wrap64 (x13_1 + (rd x14_1 x109003_1)))), (y120), (x15_1), (wrap64 (x109000_1 + 1)), (x109001_1), (ji27), (wrap64 (x109003_1 + 1)), (by first | rfl | (simp; done) | (simp [*]; done)), (by first | rfl | (simp; done) | (simp [*]; done)), H', ⟨by have := HK1.out; have := HJ16.out; have := HJ27.out; omega⟩, ⟨by (with_reducible repeat (first | apply Kd.R_alloc | apply Kd.R_drewN | apply Kd.R_drew)); exact Kd.R_mono (Kd.R_far (p := ⟨gb108, 3, none⟩) (Kd.R_types HO_14.out BK108.out (by decide)) (fun _ hk => hk.2) (.int .i64 (wrap64 (x109003_1 + 1)))) (fun _ hk => hk.1)⟩, ⟨by (with_reducible repeat (first | apply Kd.R_alloc | apply Kd.R_drewN | apply Kd.R_drew)); exact Kd.R_mono (Kd.R_far (p := ⟨gb108, 3, none⟩) (Kd.R_types HO_15.out BK108.out (by decide)) (fun _ hk => hk.2) (.int .i64 (wrap64 (x109003_1 + 1)))) (fun _ hk => hk.1.2)⟩, ⟨by (with_reducible repeat (first | refine blk_drewN ?_ _ | refine blk_drew ?_ | refine blk_alloc ?_ _)); refine blk_far ?_ NB107_108.out _; (with_reducible repeat (first | refine blk_drewN ?_ _ | refine blk_drew ?_ | refine blk_alloc ?_ _)); exact BK107.out⟩, ⟨by (with_reducible repeat (first | refine blk_drewN ?_ _ | refine blk_drew ?_ | refine blk_alloc ?_ _)); refine blk_put (cs := #[.int .i64 (wrap64 (x109000_1 + 1)), .int .i64 x109001_1, .int .i64 ji27, .int .i64 x109003_1, .bool false]) ?_ 3 _ rfl; (with_reducible repeat (first | refine blk_drewN ?_ _ | refine blk_drew ?_ | refine blk_alloc ?_ _)); exact BK108.out⟩, ⟨by repeat (first | (with_reducible first | exact HB.out | apply below_alloc | apply pw_below_drewN | apply below_drew1 | refine below_set ?_ GE107.out | refine below_set ?_ GE108.out) | exact HB.out)⟩⟩
                                  · rw [if_neg c73] at H
                                    exact absurd H (by simp)
                                · rw [if_neg c72] at H
                                  exact absurd H (by simp)
                              · rw [if_neg c70] at H
                                have c70b0 : decide (x109000_1 < a2) = false := decide_eq_false c70
                                clear c70
                                have H' := Aside0.mk H
                                clear H
                                have hnb81 := NB108_107.out
                                have hnc81 := NB107_108.out
                                have hcz82_0 : wc.cell? ⟨gb108, 0, none⟩ = some (.int .i64 x109000_1) := (blk_cell BK108.out 0).trans rfl
                                have hcz82_1 : wc.cell? ⟨gb108, 1, none⟩ = some (.int .i64 x109001_1) := (blk_cell BK108.out 1).trans rfl
                                have hcz82_2 : wc.cell? ⟨gb108, 2, none⟩ = some (.int .i64 ji27) := (blk_cell BK108.out 2).trans rfl
                                have hcz82_3 : wc.cell? ⟨gb108, 3, none⟩ = some (.int .i64 x109003_1) := (blk_cell BK108.out 3).trans rfl
                                have hcz82_4 : wc.cell? ⟨gb108, 4, none⟩ = some (.bool false) := (blk_cell BK108.out 4).trans rfl
                                have hfz82_0 := blk_frozen BK108.out 0
                                have hfz82_1 := blk_frozen BK108.out 1
                                have hfz82_2 := blk_frozen BK108.out 2
                                have hfz82_3 := blk_frozen BK108.out 3
                                have hfz82_4 := blk_frozen BK108.out 4
                                go_wp2
                                go_roundg kj27
                                case measure => have := HK1.out; have := HJ16.out; have := HJ27.out; omega
                                case rel => exact ⟨((wrap64 (x12_1 + (rd x15_1 x109003_1)))), ((wrap64 (x13_1 + (rd x14_1 x109003_1)))), (x14_1), (x15_1), (x109000_1), (x109001_1), (ji27), (wrap64 (x109003_1 + 1)), (by first | rfl | (simp; done) | (simp [*]; done)), (by first | rfl | (simp; done) | (simp [*]; done)), H', ⟨by have := HK1.out; have := HJ16.out; have := HJ27.out; omega⟩, ⟨by (with_reducible repeat (first | apply Kd.R_alloc | apply Kd.R_drewN | apply Kd.R_drew)); exact Kd.R_mono (Kd.R_far (p := ⟨gb108, 3, none⟩) (Kd.R_types HO_14.out BK108.out (by decide)) (fun _ hk => hk.2) (.int .i64 (wrap64 (x109003_1 + 1)))) (fun _ hk => hk.1)⟩, ⟨by (with_reducible repeat (first | apply Kd.R_alloc | apply Kd.R_drewN | apply Kd.R_drew)); exact Kd.R_mono (Kd.R_far (p := ⟨gb108, 3, none⟩) (Kd.R_types HO_15.out BK108.out (by decide)) (fun _ hk => hk.2) (.int .i64 (wrap64 (x109003_1 + 1)))) (fun _ hk => hk.1)⟩, ⟨by (with_reducible repeat (first | refine blk_drewN ?_ _ | refine blk_drew ?_ | refine blk_alloc ?_ _)); refine blk_far ?_ NB107_108.out _; (with_reducible repeat (first | refine blk_drewN ?_ _ | refine blk_drew ?_ | refine blk_alloc ?_ _)); exact BK107.out⟩, ⟨by (with_reducible repeat (first | refine blk_drewN ?_ _ | refine blk_drew ?_ | refine blk_alloc ?_ _)); refine blk_put (cs := #[.int .i64 x109000_1, .int .i64 x109001_1, .int .i64 ji27, .int .i64 x109003_1, .bool false]) ?_ 3 _ rfl; (with_reducible repeat (first | refine blk_drewN ?_ _ | refine blk_drew ?_ | refine blk_alloc ?_ _)); exact BK108.out⟩, ⟨by repeat (first | (with_reducible first | exact HB.out | apply below_alloc | apply pw_below_drewN | apply below_drew1 | refine below_set ?_ GE107.out | refine below_set ?_ GE108.out) | exact HB.out)⟩⟩
                            · rw [if_neg c69] at H
                              have c69b0 : decide (0 < (wrap64 (x12_1 + (rd x15_1 x109003_1)))) = false := decide_eq_false c69
                              clear c69
                              have H' := Aside0.mk H
                              clear H
                              have hnb83 := NB108_107.out
                              have hnc83 := NB107_108.out
                              have hcz84_0 : wc.cell? ⟨gb108, 0, none⟩ = some (.int .i64 x109000_1) := (blk_cell BK108.out 0).trans rfl
                              have hcz84_1 : wc.cell? ⟨gb108, 1, none⟩ = some (.int .i64 x109001_1) := (blk_cell BK108.out 1).trans rfl
                              have hcz84_2 : wc.cell? ⟨gb108, 2, none⟩ = some (.int .i64 ji27) := (blk_cell BK108.out 2).trans rfl
                              have hcz84_3 : wc.cell? ⟨gb108, 3, none⟩ = some (.int .i64 x109003_1) := (blk_cell BK108.out 3).trans rfl
                              have hcz84_4 : wc.cell? ⟨gb108, 4, none⟩ = some (.bool false) := (blk_cell BK108.out 4).trans rfl
                              have hfz84_0 := blk_frozen BK108.out 0
                              have hfz84_1 := blk_frozen BK108.out 1
                              have hfz84_2 := blk_frozen BK108.out 2
                              have hfz84_3 := blk_frozen BK108.out 3
                              have hfz84_4 := blk_frozen BK108.out 4
                              go_wp2
                              go_roundg kj27
                              case measure => have := HK1.out; have := HJ16.out; have := HJ27.out; omega
                              case rel => exact ⟨((wrap64 (x12_1 + (rd x15_1 x109003_1)))), ((wrap64 (x13_1 + (rd x14_1 x109003_1)))), (x14_1), (x15_1), (x109000_1), (x109001_1), (ji27), (wrap64 (x109003_1 + 1)), (by first | rfl | (simp; done) | (simp [*]; done)), (by first | rfl | (simp; done) | (simp [*]; done)), H', ⟨by have := HK1.out; have := HJ16.out; have := HJ27.out; omega⟩, ⟨by (with_reducible repeat (first | apply Kd.R_alloc | apply Kd.R_drewN | apply Kd.R_drew)); exact Kd.R_mono (Kd.R_far (p := ⟨gb108, 3, none⟩) (Kd.R_types HO_14.out BK108.out (by decide)) (fun _ hk => hk.2) (.int .i64 (wrap64 (x109003_1 + 1)))) (fun _ hk => hk.1)⟩, ⟨by (with_reducible repeat (first | apply Kd.R_alloc | apply Kd.R_drewN | apply Kd.R_drew)); exact Kd.R_mono (Kd.R_far (p := ⟨gb108, 3, none⟩) (Kd.R_types HO_15.out BK108.out (by decide)) (fun _ hk => hk.2) (.int .i64 (wrap64 (x109003_1 + 1)))) (fun _ hk => hk.1)⟩, ⟨by (with_reducible repeat (first | refine blk_drewN ?_ _ | refine blk_drew ?_ | refine blk_alloc ?_ _)); refine blk_far ?_ NB107_108.out _; (with_reducible repeat (first | refine blk_drewN ?_ _ | refine blk_drew ?_ | refine blk_alloc ?_ _)); exact BK107.out⟩, ⟨by (with_reducible repeat (first | refine blk_drewN ?_ _ | refine blk_drew ?_ | refine blk_alloc ?_ _)); refine blk_put (cs := #[.int .i64 x109000_1, .int .i64 x109001_1, .int .i64 ji27, .int .i64 x109003_1, .bool false]) ?_ 3 _ rfl; (with_reducible repeat (first | refine blk_drewN ?_ _ | refine blk_drew ?_ | refine blk_alloc ?_ _)); exact BK108.out⟩, ⟨by repeat (first | (with_reducible first | exact HB.out | apply below_alloc | apply pw_below_drewN | apply below_drew1 | refine below_set ?_ GE107.out | refine below_set ?_ GE108.out) | exact HB.out)⟩⟩
                    · rw [if_neg c26] at H
                      exact absurd H (by simp)
                  · rw [if_neg c25] at H
                    exact absurd H (by simp)
                · rw [if_neg c24] at H
                  exact absurd H (by simp)
              · replace c23 := Bool.eq_false_iff.mpr c23
                subst c23
                have H1 : (some (x109000_1, x109001_1, x109002_1, x109003_1, (x109001_1 == a2))) = some (r1, r2, r3, r4, r5) := by rw [if_neg (show ¬ (false = true) by decide)] at H; exact H
                clear H
                have H := H1
                clear H1
                simp only [Option.some.injEq, Prod.mk.injEq] at H
                obtain ⟨rfl, rfl, rfl, rfl, rfl⟩ := H
                have hnb85 := NB108_107.out
                have hnc85 := NB107_108.out
                have hcz86_0 : wc.cell? ⟨gb108, 0, none⟩ = some (.int .i64 x109000_1) := (blk_cell BK108.out 0).trans rfl
                have hcz86_1 : wc.cell? ⟨gb108, 1, none⟩ = some (.int .i64 x109001_1) := (blk_cell BK108.out 1).trans rfl
                have hcz86_2 : wc.cell? ⟨gb108, 2, none⟩ = some (.int .i64 x109002_1) := (blk_cell BK108.out 2).trans rfl
                have hcz86_3 : wc.cell? ⟨gb108, 3, none⟩ = some (.int .i64 x109003_1) := (blk_cell BK108.out 3).trans rfl
                have hcz86_4 : wc.cell? ⟨gb108, 4, none⟩ = some (.bool false) := (blk_cell BK108.out 4).trans rfl
                have hfz86_0 := blk_frozen BK108.out 0
                have hfz86_1 := blk_frozen BK108.out 1
                have hfz86_2 := blk_frozen BK108.out 2
                have hfz86_3 := blk_frozen BK108.out 3
                have hfz86_4 := blk_frozen BK108.out 4
                have hcz87_0 : wc.cell? ⟨gb107, 0, none⟩ = some (.int .i64 0) := (blk_cell BK107.out 0).trans rfl
                have hcz87_1 : wc.cell? ⟨gb107, 1, none⟩ = some (.int .i64 0) := (blk_cell BK107.out 1).trans rfl
                have hcz87_2 : wc.cell? ⟨gb107, 2, none⟩ = some (.int .i64 0) := (blk_cell BK107.out 2).trans rfl
                have hcz87_3 : wc.cell? ⟨gb107, 3, none⟩ = some (.int .i64 0) := (blk_cell BK107.out 3).trans rfl
                have hcz87_4 : wc.cell? ⟨gb107, 4, none⟩ = some (.bool false) := (blk_cell BK107.out 4).trans rfl
                have hfz87_0 := blk_frozen BK107.out 0
                have hfz87_1 := blk_frozen BK107.out 1
                have hfz87_2 := blk_frozen BK107.out 2
                have hfz87_3 := blk_frozen BK107.out 3
                have hfz87_4 := blk_frozen BK107.out 4
                go_wp2
                refine bodyPost_ret (results_cell_row rfl _ _ gb107 37 #[.int .i64 x109000_1, .int .i64 x109001_1, .int .i64 x109002_1, .int .i64 x109003_1, .bool (x109001_1 == a2)] (0, 0) _ rfl (by (with_reducible repeat (first | refine blk_drewN ?_ _ | refine blk_drew ?_ | refine blk_alloc ?_ _)); refine blk_put (cs := #[.int .i64 x109000_1, .int .i64 x109001_1, .int .i64 x109002_1, .int .i64 x109003_1, .bool false]) ?_ 4 _ rfl; (with_reducible repeat (first | refine blk_drewN ?_ _ | refine blk_drew ?_ | refine blk_alloc ?_ _)); refine blk_put (cs := #[.int .i64 x109000_1, .int .i64 x109001_1, .int .i64 x109002_1, .int .i64 0, .bool false]) ?_ 3 _ rfl; (with_reducible repeat (first | refine blk_drewN ?_ _ | refine blk_drew ?_ | refine blk_alloc ?_ _)); refine blk_put (cs := #[.int .i64 x109000_1, .int .i64 x109001_1, .int .i64 0, .int .i64 0, .bool false]) ?_ 2 _ rfl; (with_reducible repeat (first | refine blk_drewN ?_ _ | refine blk_drew ?_ | refine blk_alloc ?_ _)); refine blk_put (cs := #[.int .i64 x109000_1, .int .i64 0, .int .i64 0, .int .i64 0, .bool false]) ?_ 1 _ rfl; (with_reducible repeat (first | refine blk_drewN ?_ _ | refine blk_drew ?_ | refine blk_alloc ?_ _)); refine blk_put (cs := #[.int .i64 0, .int .i64 0, .int .i64 0, .int .i64 0, .bool false]) ?_ 0 _ rfl; (with_reducible repeat (first | refine blk_drewN ?_ _ | refine blk_drew ?_ | refine blk_alloc ?_ _)); refine blk_far ?_ NB107_108.out _; (with_reducible repeat (first | refine blk_drewN ?_ _ | refine blk_drew ?_ | refine blk_alloc ?_ _)); exact BK107.out) Try.underlying37 rfl (by kernel_rfl)) rfl ?_
                exact ⟨by first | rfl | (simp [errW_none, errW_some] <;> rfl) | (simp only [← hji6]; first | rfl | (simp [errW_none, errW_some] <;> rfl)) | (simp [*, errW_none, errW_some] <;> rfl), by repeat (first | (with_reducible first | exact HB.out | apply below_alloc | apply pw_below_drewN | apply below_drew1 | refine below_set ?_ GE107.out | refine below_set ?_ GE108.out) | exact HB.out)⟩
    · rw [if_neg c8] at H
      exact absurd H (by simp)
  · rw [if_neg c7] at H
    exact absurd H (by simp)

/-! ### spec_RunCredits: function 23 -/
def spec_RunCredits.f (k : Nat) (a0 : Int) (a1 : Int) (a2 : Int) (l3 : List Int) (a4 : Int) : Option (Int × Int × Int × Int × Bool × Bool) := (spec_l13Fits.f a0 a1 a2).bind fun t122 => (if t122 = true then ((spec_l13Drain.f k l3).bind fun t123 => (if t123 = true then ((spec_l1In.f a4 0 3000).bind fun t124 => (if t124 = true then ((spec_l13Run.f k a0 a1 a2 l3 a4).bind fun bt125 => (some (bt125.1, bt125.2.1, bt125.2.2.1, bt125.2.2.2.1, bt125.2.2.2.2, true))) else (some (0, 0, 0, 0, false, false)))) else (some (0, 0, 0, 0, false, false)))) else (some (0, 0, 0, 0, false, false)))
theorem spec_RunCredits.mono : ∀ a0 a1 a2 a3 a4 k, LeO (spec_RunCredits.f k a0 a1 a2 a3 a4) (spec_RunCredits.f (k + 1) a0 a1 a2 a3 a4) := by
  intro a0 a1 a2 a3 a4 k
  unfold spec_RunCredits.f
  repeat' first
      | (with_reducible exact spec_l13Drain.mono _ _)
      | (with_reducible exact spec_l13Run.mono _ _ _ _ _ _)
      | (with_reducible exact LeO.refl _)
      | (with_reducible exact LeO.none _)
      | (with_reducible refine LeO.ite ?_ ?_)
      | (with_reducible refine LeO.bind ?_ (fun _ => ?_))
      | exact spec_l13Drain.mono _ _
      | exact spec_l13Run.mono _ _ _ _ _ _
      | exact LeO.none _
      | refine LeO.ite ?_ ?_
      | refine LeO.bind ?_ (fun _ => ?_)
set_option maxHeartbeats 8000000 in
set_option maxRecDepth 100000 in
theorem spec_RunCredits.calls (k : Nat) (a0 : Int) (a1 : Int) (a2 : Int) (A3 : Option Addr) (c3 : Nat) (l3 : List Int) (a4 : Int) (r1 : Int) (r2 : Int) (r3 : Int) (r4 : Int) (r5 : Bool) (r6 : Bool) (w : World) (hr3 : Kd.C (Kd.int .i64) w A3 l3.length l3) (hc3 : l3.length ≤ c3) (h : spec_RunCredits.f k a0 a1 a2 l3 a4 = some (r1, r2, r3, r4, r5, r6)) :
    Calls Try.prog 23 #[.int .i64 a0, .int .i64 a1, .int .i64 a2, .slice A3 l3.length c3, .int .i64 a4] w fun e w' => e = .returned (.tuple #[.agg #[.int .i64 r1, .int .i64 r2, .int .i64 r3, .int .i64 r4, .bool r5], .bool r6]) ∧ Below w.heap.size w w' := by
  have hu37 := Try.underlying37
  have HR3 := Aside0.mk hr3
  have HC3 := Aside0.mk hc3
  clear hr3 hc3
  have HB := Aside0.mk (Below.refl w.heap.size w)
  have H : ((spec_l13Fits.f a0 a1 a2).bind fun t122 => (if t122 = true then ((spec_l13Drain.f k l3).bind fun t123 => (if t123 = true then ((spec_l1In.f a4 0 3000).bind fun t124 => (if t124 = true then ((spec_l13Run.f k a0 a1 a2 l3 a4).bind fun bt125 => (some (bt125.1, bt125.2.1, bt125.2.2.1, bt125.2.2.2.1, bt125.2.2.2.2, true))) else (some (0, 0, 0, 0, false, false)))) else (some (0, 0, 0, 0, false, false)))) else (some (0, 0, 0, 0, false, false)))) = some (r1, r2, r3, r4, r5, r6) := h
  clear h
  replace H := Option.bind_eq_some_iff.mp H
  obtain ⟨t122, A60, H⟩ := H
  replace H : (if t122 = true then ((spec_l13Drain.f k l3).bind fun t123 => (if t123 = true then ((spec_l1In.f a4 0 3000).bind fun t124 => (if t124 = true then ((spec_l13Run.f k a0 a1 a2 l3 a4).bind fun bt125 => (some (bt125.1, bt125.2.1, bt125.2.2.1, bt125.2.2.2.1, bt125.2.2.2.2, true))) else (some (0, 0, 0, 0, false, false)))) else (some (0, 0, 0, 0, false, false)))) else (some (0, 0, 0, 0, false, false))) = some (r1, r2, r3, r4, r5, r6) := H
  have A6 := Aside0.mk A60
  clear A60
  by_cases c7 : t122 = true
  · subst c7
    have H1 : ((spec_l13Drain.f k l3).bind fun t123 => (if t123 = true then ((spec_l1In.f a4 0 3000).bind fun t124 => (if t124 = true then ((spec_l13Run.f k a0 a1 a2 l3 a4).bind fun bt125 => (some (bt125.1, bt125.2.1, bt125.2.2.1, bt125.2.2.2.1, bt125.2.2.2.2, true))) else (some (0, 0, 0, 0, false, false)))) else (some (0, 0, 0, 0, false, false)))) = some (r1, r2, r3, r4, r5, r6) := by rw [if_pos rfl] at H; exact H
    clear H
    have H := H1
    clear H1
    replace H := Option.bind_eq_some_iff.mp H
    obtain ⟨t123, A80, H⟩ := H
    replace H : (if t123 = true then ((spec_l1In.f a4 0 3000).bind fun t124 => (if t124 = true then ((spec_l13Run.f k a0 a1 a2 l3 a4).bind fun bt125 => (some (bt125.1, bt125.2.1, bt125.2.2.1, bt125.2.2.2.1, bt125.2.2.2.2, true))) else (some (0, 0, 0, 0, false, false)))) else (some (0, 0, 0, 0, false, false))) = some (r1, r2, r3, r4, r5, r6) := H
    have A8 := Aside0.mk A80
    clear A80
    by_cases c9 : t123 = true
    · subst c9
      have H1 : ((spec_l1In.f a4 0 3000).bind fun t124 => (if t124 = true then ((spec_l13Run.f k a0 a1 a2 l3 a4).bind fun bt125 => (some (bt125.1, bt125.2.1, bt125.2.2.1, bt125.2.2.2.1, bt125.2.2.2.2, true))) else (some (0, 0, 0, 0, false, false)))) = some (r1, r2, r3, r4, r5, r6) := by rw [if_pos rfl] at H; exact H
      clear H
      have H := H1
      clear H1
      replace H := Option.bind_eq_some_iff.mp H
      obtain ⟨t124, A100, H⟩ := H
      replace H : (if t124 = true then ((spec_l13Run.f k a0 a1 a2 l3 a4).bind fun bt125 => (some (bt125.1, bt125.2.1, bt125.2.2.1, bt125.2.2.2.1, bt125.2.2.2.2, true))) else (some (0, 0, 0, 0, false, false))) = some (r1, r2, r3, r4, r5, r6) := H
      have A10 := Aside0.mk A100
      clear A100
      by_cases c11 : t124 = true
      · subst c11
        have H1 : ((spec_l13Run.f k a0 a1 a2 l3 a4).bind fun bt125 => (some (bt125.1, bt125.2.1, bt125.2.2.1, bt125.2.2.2.1, bt125.2.2.2.2, true))) = some (r1, r2, r3, r4, r5, r6) := by rw [if_pos rfl] at H; exact H
        clear H
        have H := H1
        clear H1
        replace H := Option.bind_eq_some_iff.mp H
        obtain ⟨⟨t125, t126, t127, t128, t129⟩, A120, H⟩ := H
        replace H : (some (t125, t126, t127, t128, t129, true)) = some (r1, r2, r3, r4, r5, r6) := H
        have A12 := Aside0.mk A120
        clear A120
        simp only [Option.some.injEq, Prod.mk.injEq] at H
        obtain ⟨rfl, rfl, rfl, rfl, rfl, rfl⟩ := H
        go_enter Try.func23, Try.ntmps23
        go_wp2_with (first | ((with_reducible refine gate_dst (N := 10) rfl ?_); refine box_event ?hg (N := 10) ?hd (cs := #[.int .i64 0, .int .i64 0, .int .i64 0, .int .i64 0, .bool false]) (t := 37) ?hr ?_; (case hd => rfl); (case hg => rfl); (case hr => first | (go_simp; done) | (go_simp; rfl)); intro gb121 hg w13 hbox hb; have n0_ := Aside0.mk (below_step (by repeat (first | (with_reducible first | exact HB.out | apply below_alloc | apply pw_below_drewN | apply below_drew1) | exact HB.out)) hb); have n1_ := Aside0.mk (hbox); have n2_ := Aside0.mk ((by rw [hg]; exact (below_size (by repeat (first | (with_reducible first | exact HB.out | apply below_alloc | apply pw_below_drewN | apply below_drew1) | exact HB.out))) : w.heap.size ≤ gb121)); have n3_ := Aside0.mk ((by rw [hg]; exact (below_size (by repeat (first | (with_reducible first | exact HB.out | apply below_alloc | apply pw_below_drewN | apply below_drew1) | exact HB.out))) : w.heap.size ≤ gb121)); clear HB; have HB := n0_; have BK121 := n1_; have GW121 := n2_; have GE121 := n3_; clear n0_ n1_ n2_ n3_; clear hb hbox hg) | ((with_reducible refine gate_callee (f := 37) rfl ?_); refine goesL_ (some 15) rfl rfl Try.func37 (by kernel_rfl) rfl #[.int .i64 a0, .int .i64 a1, .int .i64 a2] rfl (by (try simp only [List.map_toArray, List.map_cons, List.map_nil]); first | done | rfl | (simp only [List.length_drop, List.length_take]; rfl)) ?_; (with_reducible refine (spec_l13Fits.calls a0 a1 a2 true _ A6.out).mono ?_); rintro e w' ⟨rfl, ⟨nd, rfl⟩⟩; refine ⟨_, rfl, ?_⟩; (try (rw [drewN_self w13]; generalize hq_ : World.drewN w13 _ = w13; have n0_ : Aside0 (w13.heap[gb121]? = some (.cells #[.int .i64 0, .int .i64 0, .int .i64 0, .int .i64 0, .bool false] 37 (0, 0))) := ⟨by rw [← hq_]; exact (by (with_reducible repeat (first | refine blk_drewN ?_ _ | refine blk_drew ?_ | refine blk_alloc ?_ _)); exact BK121.out)⟩; have n1_ : Aside0 (Below w.heap.size w w13) := ⟨by rw [← hq_]; exact (by repeat (first | (with_reducible first | exact HB.out | apply below_alloc | apply pw_below_drewN | apply below_drew1 | refine below_set ?_ GE121.out) | exact HB.out))⟩; clear BK121 HB hq_; have BK121 := n0_; have HB := n1_; clear n0_ n1_))) | (go_at_call 32; (with_reducible refine (spec_l13Drain.calls k _ _ l3 true _ ?side1 ?side2 A8.out).mono ?_); (case side1 => repeat (first | exact (Kd.C_below HR3.out HB.out) | (with_reducible refine Kd.C_alloc ?_ _) | (with_reducible refine Kd.C_drewN ?_ _) | (with_reducible refine Kd.C_drew ?_))); (case side2 => exact HC3.out); rintro e w' ⟨rfl, ⟨nd, rfl⟩⟩; (try (rw [drewN_self w13]; generalize hq_ : World.drewN w13 _ = w13; have n0_ : Aside0 (w13.heap[gb121]? = some (.cells #[.int .i64 0, .int .i64 0, .int .i64 0, .int .i64 0, .bool false] 37 (0, 0))) := ⟨by rw [← hq_]; exact (by (with_reducible repeat (first | refine blk_drewN ?_ _ | refine blk_drew ?_ | refine blk_alloc ?_ _)); exact BK121.out)⟩; have n1_ : Aside0 (Below w.heap.size w w13) := ⟨by rw [← hq_]; exact (by repeat (first | (with_reducible first | exact HB.out | apply below_alloc | apply pw_below_drewN | apply below_drew1 | refine below_set ?_ GE121.out) | exact HB.out))⟩; clear BK121 HB hq_; have BK121 := n0_; have HB := n1_; clear n0_ n1_))) | (go_at_call 28; (with_reducible refine (spec_l1In.calls a4 0 3000 true _ A10.out).mono ?_); rintro e w' ⟨rfl, ⟨nd, rfl⟩⟩; (try (rw [drewN_self w13]; generalize hq_ : World.drewN w13 _ = w13; have n0_ : Aside0 (w13.heap[gb121]? = some (.cells #[.int .i64 0, .int .i64 0, .int .i64 0, .int .i64 0, .bool false] 37 (0, 0))) := ⟨by rw [← hq_]; exact (by (with_reducible repeat (first | refine blk_drewN ?_ _ | refine blk_drew ?_ | refine blk_alloc ?_ _)); exact BK121.out)⟩; have n1_ : Aside0 (Below w.heap.size w w13) := ⟨by rw [← hq_]; exact (by repeat (first | (with_reducible first | exact HB.out | apply below_alloc | apply pw_below_drewN | apply below_drew1 | refine below_set ?_ GE121.out) | exact HB.out))⟩; clear BK121 HB hq_; have BK121 := n0_; have HB := n1_; clear n0_ n1_))) | ((with_reducible refine gate_callee (f := 38) rfl ?_); refine goesL_ (some 33) rfl rfl Try.func38 (by kernel_rfl) rfl #[.int .i64 a0, .int .i64 a1, .int .i64 a2, .slice A3 l3.length c3, .int .i64 a4] rfl (by (try simp only [List.map_toArray, List.map_cons, List.map_nil]); first | done | rfl | (simp only [List.length_drop, List.length_take]; rfl)) ?_; (with_reducible refine (spec_l13Run.calls k a0 a1 a2 _ _ l3 a4 t125 t126 t127 t128 t129 _ ?side1 ?side2 A12.out).mono ?_); (case side1 => repeat (first | exact (Kd.C_below HR3.out HB.out) | (with_reducible refine Kd.C_alloc ?_ _) | (with_reducible refine Kd.C_drewN ?_ _) | (with_reducible refine Kd.C_drew ?_))); (case side2 => exact HC3.out); rintro e w14 ⟨rfl, hb⟩; refine ⟨_, rfl, ?_⟩; have n0_ := Aside0.mk (blk_below (g := gb121) (o := .cells #[.int .i64 0, .int .i64 0, .int .i64 0, .int .i64 0, .bool false] 37 (0, 0)) (by (with_reducible repeat (first | refine blk_drewN ?_ _ | refine blk_drew ?_ | refine blk_alloc ?_ _)); exact BK121.out) hb); have n1_ := Aside0.mk (below_step (by repeat (first | (with_reducible first | exact HB.out | apply below_alloc | apply pw_below_drewN | apply below_drew1 | refine below_set ?_ GE121.out) | exact HB.out)) hb); clear BK121; clear HB; have BK121 := n0_; have HB := n1_; clear n0_ n1_; (try clear hb); (try clear hb2); (try clear hk); (try clear hi); have hcz15_0 : w14.cell? ⟨gb121, 0, none⟩ = some (.int .i64 0) := (blk_cell BK121.out 0).trans rfl; have hcz15_1 : w14.cell? ⟨gb121, 1, none⟩ = some (.int .i64 0) := (blk_cell BK121.out 1).trans rfl; have hcz15_2 : w14.cell? ⟨gb121, 2, none⟩ = some (.int .i64 0) := (blk_cell BK121.out 2).trans rfl; have hcz15_3 : w14.cell? ⟨gb121, 3, none⟩ = some (.int .i64 0) := (blk_cell BK121.out 3).trans rfl; have hcz15_4 : w14.cell? ⟨gb121, 4, none⟩ = some (.bool false) := (blk_cell BK121.out 4).trans rfl; have hfz15_0 := blk_frozen BK121.out 0; have hfz15_1 := blk_frozen BK121.out 1; have hfz15_2 := blk_frozen BK121.out 2; have hfz15_3 := blk_frozen BK121.out 3; have hfz15_4 := blk_frozen BK121.out 4))
        refine bodyPost_ret (results_ct rfl _ _ gb121 37 #[.int .i64 t125, .int .i64 t126, .int .i64 t127, .int .i64 t128, .bool t129] (0, 0) _ rfl (by (with_reducible repeat (first | refine blk_drewN ?_ _ | refine blk_drew ?_ | refine blk_alloc ?_ _)); refine blk_put (cs := #[.int .i64 t125, .int .i64 t126, .int .i64 t127, .int .i64 t128, .bool false]) ?_ 4 _ rfl; (with_reducible repeat (first | refine blk_drewN ?_ _ | refine blk_drew ?_ | refine blk_alloc ?_ _)); refine blk_put (cs := #[.int .i64 t125, .int .i64 t126, .int .i64 t127, .int .i64 0, .bool false]) ?_ 3 _ rfl; (with_reducible repeat (first | refine blk_drewN ?_ _ | refine blk_drew ?_ | refine blk_alloc ?_ _)); refine blk_put (cs := #[.int .i64 t125, .int .i64 t126, .int .i64 0, .int .i64 0, .bool false]) ?_ 2 _ rfl; (with_reducible repeat (first | refine blk_drewN ?_ _ | refine blk_drew ?_ | refine blk_alloc ?_ _)); refine blk_put (cs := #[.int .i64 t125, .int .i64 0, .int .i64 0, .int .i64 0, .bool false]) ?_ 1 _ rfl; (with_reducible repeat (first | refine blk_drewN ?_ _ | refine blk_drew ?_ | refine blk_alloc ?_ _)); refine blk_put (cs := #[.int .i64 0, .int .i64 0, .int .i64 0, .int .i64 0, .bool false]) ?_ 0 _ rfl; (with_reducible repeat (first | refine blk_drewN ?_ _ | refine blk_drew ?_ | refine blk_alloc ?_ _)); exact BK121.out) Try.underlying37 rfl (by kernel_rfl)) rfl ?_
        exact ⟨by first | rfl | (simp [errW_none, errW_some] <;> rfl) | (simp [*, errW_none, errW_some] <;> rfl), by repeat (first | (with_reducible first | exact HB.out | apply below_alloc | apply pw_below_drewN | apply below_drew1 | refine below_set ?_ GE121.out) | exact HB.out)⟩
      · replace c11 := Bool.eq_false_iff.mpr c11
        subst c11
        have H1 : (some (0, 0, 0, 0, false, false)) = some (r1, r2, r3, r4, r5, r6) := by rw [if_neg (show ¬ (false = true) by decide)] at H; exact H
        clear H
        have H := H1
        clear H1
        simp only [Option.some.injEq, Prod.mk.injEq] at H
        obtain ⟨rfl, rfl, rfl, rfl, rfl, rfl⟩ := H
        go_enter Try.func23, Try.ntmps23
        go_wp2_with (first | ((with_reducible refine gate_dst (N := 10) rfl ?_); refine box_event ?hg (N := 10) ?hd (cs := #[.int .i64 0, .int .i64 0, .int .i64 0, .int .i64 0, .bool false]) (t := 37) ?hr ?_; (case hd => rfl); (case hg => rfl); (case hr => first | (go_simp; done) | (go_simp; rfl)); intro gb121 hg w16 hbox hb; have n0_ := Aside0.mk (below_step (by repeat (first | (with_reducible first | exact HB.out | apply below_alloc | apply pw_below_drewN | apply below_drew1) | exact HB.out)) hb); have n1_ := Aside0.mk (hbox); have n2_ := Aside0.mk ((by rw [hg]; exact (below_size (by repeat (first | (with_reducible first | exact HB.out | apply below_alloc | apply pw_below_drewN | apply below_drew1) | exact HB.out))) : w.heap.size ≤ gb121)); have n3_ := Aside0.mk ((by rw [hg]; exact (below_size (by repeat (first | (with_reducible first | exact HB.out | apply below_alloc | apply pw_below_drewN | apply below_drew1) | exact HB.out))) : w.heap.size ≤ gb121)); clear HB; have HB := n0_; have BK121 := n1_; have GW121 := n2_; have GE121 := n3_; clear n0_ n1_ n2_ n3_; clear hb hbox hg) | ((with_reducible refine gate_callee (f := 37) rfl ?_); refine goesL_ (some 15) rfl rfl Try.func37 (by kernel_rfl) rfl #[.int .i64 a0, .int .i64 a1, .int .i64 a2] rfl (by (try simp only [List.map_toArray, List.map_cons, List.map_nil]); first | done | rfl | (simp only [List.length_drop, List.length_take]; rfl)) ?_; (with_reducible refine (spec_l13Fits.calls a0 a1 a2 true _ A6.out).mono ?_); rintro e w' ⟨rfl, ⟨nd, rfl⟩⟩; refine ⟨_, rfl, ?_⟩; (try (rw [drewN_self w16]; generalize hq_ : World.drewN w16 _ = w16; have n0_ : Aside0 (w16.heap[gb121]? = some (.cells #[.int .i64 0, .int .i64 0, .int .i64 0, .int .i64 0, .bool false] 37 (0, 0))) := ⟨by rw [← hq_]; exact (by (with_reducible repeat (first | refine blk_drewN ?_ _ | refine blk_drew ?_ | refine blk_alloc ?_ _)); exact BK121.out)⟩; have n1_ : Aside0 (Below w.heap.size w w16) := ⟨by rw [← hq_]; exact (by repeat (first | (with_reducible first | exact HB.out | apply below_alloc | apply pw_below_drewN | apply below_drew1 | refine below_set ?_ GE121.out) | exact HB.out))⟩; clear BK121 HB hq_; have BK121 := n0_; have HB := n1_; clear n0_ n1_))) | (go_at_call 32; (with_reducible refine (spec_l13Drain.calls k _ _ l3 true _ ?side1 ?side2 A8.out).mono ?_); (case side1 => repeat (first | exact (Kd.C_below HR3.out HB.out) | (with_reducible refine Kd.C_alloc ?_ _) | (with_reducible refine Kd.C_drewN ?_ _) | (with_reducible refine Kd.C_drew ?_))); (case side2 => exact HC3.out); rintro e w' ⟨rfl, ⟨nd, rfl⟩⟩; (try (rw [drewN_self w16]; generalize hq_ : World.drewN w16 _ = w16; have n0_ : Aside0 (w16.heap[gb121]? = some (.cells #[.int .i64 0, .int .i64 0, .int .i64 0, .int .i64 0, .bool false] 37 (0, 0))) := ⟨by rw [← hq_]; exact (by (with_reducible repeat (first | refine blk_drewN ?_ _ | refine blk_drew ?_ | refine blk_alloc ?_ _)); exact BK121.out)⟩; have n1_ : Aside0 (Below w.heap.size w w16) := ⟨by rw [← hq_]; exact (by repeat (first | (with_reducible first | exact HB.out | apply below_alloc | apply pw_below_drewN | apply below_drew1 | refine below_set ?_ GE121.out) | exact HB.out))⟩; clear BK121 HB hq_; have BK121 := n0_; have HB := n1_; clear n0_ n1_))) | (go_at_call 28; (with_reducible refine (spec_l1In.calls a4 0 3000 false _ A10.out).mono ?_); rintro e w' ⟨rfl, ⟨nd, rfl⟩⟩; (try (rw [drewN_self w16]; generalize hq_ : World.drewN w16 _ = w16; have n0_ : Aside0 (w16.heap[gb121]? = some (.cells #[.int .i64 0, .int .i64 0, .int .i64 0, .int .i64 0, .bool false] 37 (0, 0))) := ⟨by rw [← hq_]; exact (by (with_reducible repeat (first | refine blk_drewN ?_ _ | refine blk_drew ?_ | refine blk_alloc ?_ _)); exact BK121.out)⟩; have n1_ : Aside0 (Below w.heap.size w w16) := ⟨by rw [← hq_]; exact (by repeat (first | (with_reducible first | exact HB.out | apply below_alloc | apply pw_below_drewN | apply below_drew1 | refine below_set ?_ GE121.out) | exact HB.out))⟩; clear BK121 HB hq_; have BK121 := n0_; have HB := n1_; clear n0_ n1_)); have hcz17_0 : w16.cell? ⟨gb121, 0, none⟩ = some (.int .i64 0) := (blk_cell BK121.out 0).trans rfl; have hcz17_1 : w16.cell? ⟨gb121, 1, none⟩ = some (.int .i64 0) := (blk_cell BK121.out 1).trans rfl; have hcz17_2 : w16.cell? ⟨gb121, 2, none⟩ = some (.int .i64 0) := (blk_cell BK121.out 2).trans rfl; have hcz17_3 : w16.cell? ⟨gb121, 3, none⟩ = some (.int .i64 0) := (blk_cell BK121.out 3).trans rfl; have hcz17_4 : w16.cell? ⟨gb121, 4, none⟩ = some (.bool false) := (blk_cell BK121.out 4).trans rfl; have hfz17_0 := blk_frozen BK121.out 0; have hfz17_1 := blk_frozen BK121.out 1; have hfz17_2 := blk_frozen BK121.out 2; have hfz17_3 := blk_frozen BK121.out 3; have hfz17_4 := blk_frozen BK121.out 4))
        refine bodyPost_ret (results_ct rfl _ _ gb121 37 #[.int .i64 0, .int .i64 0, .int .i64 0, .int .i64 0, .bool false] (0, 0) _ rfl (by (with_reducible repeat (first | refine blk_drewN ?_ _ | refine blk_drew ?_ | refine blk_alloc ?_ _)); refine blk_put (cs := #[.int .i64 0, .int .i64 0, .int .i64 0, .int .i64 0, .bool false]) ?_ 4 _ rfl; (with_reducible repeat (first | refine blk_drewN ?_ _ | refine blk_drew ?_ | refine blk_alloc ?_ _)); refine blk_put (cs := #[.int .i64 0, .int .i64 0, .int .i64 0, .int .i64 0, .bool false]) ?_ 3 _ rfl; (with_reducible repeat (first | refine blk_drewN ?_ _ | refine blk_drew ?_ | refine blk_alloc ?_ _)); refine blk_put (cs := #[.int .i64 0, .int .i64 0, .int .i64 0, .int .i64 0, .bool false]) ?_ 2 _ rfl; (with_reducible repeat (first | refine blk_drewN ?_ _ | refine blk_drew ?_ | refine blk_alloc ?_ _)); refine blk_put (cs := #[.int .i64 0, .int .i64 0, .int .i64 0, .int .i64 0, .bool false]) ?_ 1 _ rfl; (with_reducible repeat (first | refine blk_drewN ?_ _ | refine blk_drew ?_ | refine blk_alloc ?_ _)); refine blk_put (cs := #[.int .i64 0, .int .i64 0, .int .i64 0, .int .i64 0, .bool false]) ?_ 0 _ rfl; (with_reducible repeat (first | refine blk_drewN ?_ _ | refine blk_drew ?_ | refine blk_alloc ?_ _)); exact BK121.out) Try.underlying37 rfl (by kernel_rfl)) rfl ?_
        exact ⟨by first | rfl | (simp [errW_none, errW_some] <;> rfl) | (simp [*, errW_none, errW_some] <;> rfl), by repeat (first | (with_reducible first | exact HB.out | apply below_alloc | apply pw_below_drewN | apply below_drew1 | refine below_set ?_ GE121.out) | exact HB.out)⟩
    · replace c9 := Bool.eq_false_iff.mpr c9
      subst c9
      have H1 : (some (0, 0, 0, 0, false, false)) = some (r1, r2, r3, r4, r5, r6) := by rw [if_neg (show ¬ (false = true) by decide)] at H; exact H
      clear H
      have H := H1
      clear H1
      simp only [Option.some.injEq, Prod.mk.injEq] at H
      obtain ⟨rfl, rfl, rfl, rfl, rfl, rfl⟩ := H
      go_enter Try.func23, Try.ntmps23
      go_wp2_with (first | ((with_reducible refine gate_dst (N := 10) rfl ?_); refine box_event ?hg (N := 10) ?hd (cs := #[.int .i64 0, .int .i64 0, .int .i64 0, .int .i64 0, .bool false]) (t := 37) ?hr ?_; (case hd => rfl); (case hg => rfl); (case hr => first | (go_simp; done) | (go_simp; rfl)); intro gb121 hg w18 hbox hb; have n0_ := Aside0.mk (below_step (by repeat (first | (with_reducible first | exact HB.out | apply below_alloc | apply pw_below_drewN | apply below_drew1) | exact HB.out)) hb); have n1_ := Aside0.mk (hbox); have n2_ := Aside0.mk ((by rw [hg]; exact (below_size (by repeat (first | (with_reducible first | exact HB.out | apply below_alloc | apply pw_below_drewN | apply below_drew1) | exact HB.out))) : w.heap.size ≤ gb121)); have n3_ := Aside0.mk ((by rw [hg]; exact (below_size (by repeat (first | (with_reducible first | exact HB.out | apply below_alloc | apply pw_below_drewN | apply below_drew1) | exact HB.out))) : w.heap.size ≤ gb121)); clear HB; have HB := n0_; have BK121 := n1_; have GW121 := n2_; have GE121 := n3_; clear n0_ n1_ n2_ n3_; clear hb hbox hg) | ((with_reducible refine gate_callee (f := 37) rfl ?_); refine goesL_ (some 15) rfl rfl Try.func37 (by kernel_rfl) rfl #[.int .i64 a0, .int .i64 a1, .int .i64 a2] rfl (by (try simp only [List.map_toArray, List.map_cons, List.map_nil]); first | done | rfl | (simp only [List.length_drop, List.length_take]; rfl)) ?_; (with_reducible refine (spec_l13Fits.calls a0 a1 a2 true _ A6.out).mono ?_); rintro e w' ⟨rfl, ⟨nd, rfl⟩⟩; refine ⟨_, rfl, ?_⟩; (try (rw [drewN_self w18]; generalize hq_ : World.drewN w18 _ = w18; have n0_ : Aside0 (w18.heap[gb121]? = some (.cells #[.int .i64 0, .int .i64 0, .int .i64 0, .int .i64 0, .bool false] 37 (0, 0))) := ⟨by rw [← hq_]; exact (by (with_reducible repeat (first | refine blk_drewN ?_ _ | refine blk_drew ?_ | refine blk_alloc ?_ _)); exact BK121.out)⟩; have n1_ : Aside0 (Below w.heap.size w w18) := ⟨by rw [← hq_]; exact (by repeat (first | (with_reducible first | exact HB.out | apply below_alloc | apply pw_below_drewN | apply below_drew1 | refine below_set ?_ GE121.out) | exact HB.out))⟩; clear BK121 HB hq_; have BK121 := n0_; have HB := n1_; clear n0_ n1_))) | (go_at_call 32; (with_reducible refine (spec_l13Drain.calls k _ _ l3 false _ ?side1 ?side2 A8.out).mono ?_); (case side1 => repeat (first | exact (Kd.C_below HR3.out HB.out) | (with_reducible refine Kd.C_alloc ?_ _) | (with_reducible refine Kd.C_drewN ?_ _) | (with_reducible refine Kd.C_drew ?_))); (case side2 => exact HC3.out); rintro e w' ⟨rfl, ⟨nd, rfl⟩⟩; (try (rw [drewN_self w18]; generalize hq_ : World.drewN w18 _ = w18; have n0_ : Aside0 (w18.heap[gb121]? = some (.cells #[.int .i64 0, .int .i64 0, .int .i64 0, .int .i64 0, .bool false] 37 (0, 0))) := ⟨by rw [← hq_]; exact (by (with_reducible repeat (first | refine blk_drewN ?_ _ | refine blk_drew ?_ | refine blk_alloc ?_ _)); exact BK121.out)⟩; have n1_ : Aside0 (Below w.heap.size w w18) := ⟨by rw [← hq_]; exact (by repeat (first | (with_reducible first | exact HB.out | apply below_alloc | apply pw_below_drewN | apply below_drew1 | refine below_set ?_ GE121.out) | exact HB.out))⟩; clear BK121 HB hq_; have BK121 := n0_; have HB := n1_; clear n0_ n1_)); have hcz19_0 : w18.cell? ⟨gb121, 0, none⟩ = some (.int .i64 0) := (blk_cell BK121.out 0).trans rfl; have hcz19_1 : w18.cell? ⟨gb121, 1, none⟩ = some (.int .i64 0) := (blk_cell BK121.out 1).trans rfl; have hcz19_2 : w18.cell? ⟨gb121, 2, none⟩ = some (.int .i64 0) := (blk_cell BK121.out 2).trans rfl; have hcz19_3 : w18.cell? ⟨gb121, 3, none⟩ = some (.int .i64 0) := (blk_cell BK121.out 3).trans rfl; have hcz19_4 : w18.cell? ⟨gb121, 4, none⟩ = some (.bool false) := (blk_cell BK121.out 4).trans rfl; have hfz19_0 := blk_frozen BK121.out 0; have hfz19_1 := blk_frozen BK121.out 1; have hfz19_2 := blk_frozen BK121.out 2; have hfz19_3 := blk_frozen BK121.out 3; have hfz19_4 := blk_frozen BK121.out 4))
      refine bodyPost_ret (results_ct rfl _ _ gb121 37 #[.int .i64 0, .int .i64 0, .int .i64 0, .int .i64 0, .bool false] (0, 0) _ rfl (by (with_reducible repeat (first | refine blk_drewN ?_ _ | refine blk_drew ?_ | refine blk_alloc ?_ _)); refine blk_put (cs := #[.int .i64 0, .int .i64 0, .int .i64 0, .int .i64 0, .bool false]) ?_ 4 _ rfl; (with_reducible repeat (first | refine blk_drewN ?_ _ | refine blk_drew ?_ | refine blk_alloc ?_ _)); refine blk_put (cs := #[.int .i64 0, .int .i64 0, .int .i64 0, .int .i64 0, .bool false]) ?_ 3 _ rfl; (with_reducible repeat (first | refine blk_drewN ?_ _ | refine blk_drew ?_ | refine blk_alloc ?_ _)); refine blk_put (cs := #[.int .i64 0, .int .i64 0, .int .i64 0, .int .i64 0, .bool false]) ?_ 2 _ rfl; (with_reducible repeat (first | refine blk_drewN ?_ _ | refine blk_drew ?_ | refine blk_alloc ?_ _)); refine blk_put (cs := #[.int .i64 0, .int .i64 0, .int .i64 0, .int .i64 0, .bool false]) ?_ 1 _ rfl; (with_reducible repeat (first | refine blk_drewN ?_ _ | refine blk_drew ?_ | refine blk_alloc ?_ _)); refine blk_put (cs := #[.int .i64 0, .int .i64 0, .int .i64 0, .int .i64 0, .bool false]) ?_ 0 _ rfl; (with_reducible repeat (first | refine blk_drewN ?_ _ | refine blk_drew ?_ | refine blk_alloc ?_ _)); exact BK121.out) Try.underlying37 rfl (by kernel_rfl)) rfl ?_
      exact ⟨by first | rfl | (simp [errW_none, errW_some] <;> rfl) | (simp [*, errW_none, errW_some] <;> rfl), by repeat (first | (with_reducible first | exact HB.out | apply below_alloc | apply pw_below_drewN | apply below_drew1 | refine below_set ?_ GE121.out) | exact HB.out)⟩
  · replace c7 := Bool.eq_false_iff.mpr c7
    subst c7
    have H1 : (some (0, 0, 0, 0, false, false)) = some (r1, r2, r3, r4, r5, r6) := by rw [if_neg (show ¬ (false = true) by decide)] at H; exact H
    clear H
    have H := H1
    clear H1
    simp only [Option.some.injEq, Prod.mk.injEq] at H
    obtain ⟨rfl, rfl, rfl, rfl, rfl, rfl⟩ := H
    go_enter Try.func23, Try.ntmps23
    go_wp2_with (first | ((with_reducible refine gate_dst (N := 10) rfl ?_); refine box_event ?hg (N := 10) ?hd (cs := #[.int .i64 0, .int .i64 0, .int .i64 0, .int .i64 0, .bool false]) (t := 37) ?hr ?_; (case hd => rfl); (case hg => rfl); (case hr => first | (go_simp; done) | (go_simp; rfl)); intro gb121 hg w20 hbox hb; have n0_ := Aside0.mk (below_step (by repeat (first | (with_reducible first | exact HB.out | apply below_alloc | apply pw_below_drewN | apply below_drew1) | exact HB.out)) hb); have n1_ := Aside0.mk (hbox); have n2_ := Aside0.mk ((by rw [hg]; exact (below_size (by repeat (first | (with_reducible first | exact HB.out | apply below_alloc | apply pw_below_drewN | apply below_drew1) | exact HB.out))) : w.heap.size ≤ gb121)); have n3_ := Aside0.mk ((by rw [hg]; exact (below_size (by repeat (first | (with_reducible first | exact HB.out | apply below_alloc | apply pw_below_drewN | apply below_drew1) | exact HB.out))) : w.heap.size ≤ gb121)); clear HB; have HB := n0_; have BK121 := n1_; have GW121 := n2_; have GE121 := n3_; clear n0_ n1_ n2_ n3_; clear hb hbox hg) | ((with_reducible refine gate_callee (f := 37) rfl ?_); refine goesL_ (some 15) rfl rfl Try.func37 (by kernel_rfl) rfl #[.int .i64 a0, .int .i64 a1, .int .i64 a2] rfl (by (try simp only [List.map_toArray, List.map_cons, List.map_nil]); first | done | rfl | (simp only [List.length_drop, List.length_take]; rfl)) ?_; (with_reducible refine (spec_l13Fits.calls a0 a1 a2 false _ A6.out).mono ?_); rintro e w' ⟨rfl, ⟨nd, rfl⟩⟩; refine ⟨_, rfl, ?_⟩; (try (rw [drewN_self w20]; generalize hq_ : World.drewN w20 _ = w20; have n0_ : Aside0 (w20.heap[gb121]? = some (.cells #[.int .i64 0, .int .i64 0, .int .i64 0, .int .i64 0, .bool false] 37 (0, 0))) := ⟨by rw [← hq_]; exact (by (with_reducible repeat (first | refine blk_drewN ?_ _ | refine blk_drew ?_ | refine blk_alloc ?_ _)); exact BK121.out)⟩; have n1_ : Aside0 (Below w.heap.size w w20) := ⟨by rw [← hq_]; exact (by repeat (first | (with_reducible first | exact HB.out | apply below_alloc | apply pw_below_drewN | apply below_drew1 | refine below_set ?_ GE121.out) | exact HB.out))⟩; clear BK121 HB hq_; have BK121 := n0_; have HB := n1_; clear n0_ n1_)); have hcz21_0 : w20.cell? ⟨gb121, 0, none⟩ = some (.int .i64 0) := (blk_cell BK121.out 0).trans rfl; have hcz21_1 : w20.cell? ⟨gb121, 1, none⟩ = some (.int .i64 0) := (blk_cell BK121.out 1).trans rfl; have hcz21_2 : w20.cell? ⟨gb121, 2, none⟩ = some (.int .i64 0) := (blk_cell BK121.out 2).trans rfl; have hcz21_3 : w20.cell? ⟨gb121, 3, none⟩ = some (.int .i64 0) := (blk_cell BK121.out 3).trans rfl; have hcz21_4 : w20.cell? ⟨gb121, 4, none⟩ = some (.bool false) := (blk_cell BK121.out 4).trans rfl; have hfz21_0 := blk_frozen BK121.out 0; have hfz21_1 := blk_frozen BK121.out 1; have hfz21_2 := blk_frozen BK121.out 2; have hfz21_3 := blk_frozen BK121.out 3; have hfz21_4 := blk_frozen BK121.out 4))
    refine bodyPost_ret (results_ct rfl _ _ gb121 37 #[.int .i64 0, .int .i64 0, .int .i64 0, .int .i64 0, .bool false] (0, 0) _ rfl (by (with_reducible repeat (first | refine blk_drewN ?_ _ | refine blk_drew ?_ | refine blk_alloc ?_ _)); refine blk_put (cs := #[.int .i64 0, .int .i64 0, .int .i64 0, .int .i64 0, .bool false]) ?_ 4 _ rfl; (with_reducible repeat (first | refine blk_drewN ?_ _ | refine blk_drew ?_ | refine blk_alloc ?_ _)); refine blk_put (cs := #[.int .i64 0, .int .i64 0, .int .i64 0, .int .i64 0, .bool false]) ?_ 3 _ rfl; (with_reducible repeat (first | refine blk_drewN ?_ _ | refine blk_drew ?_ | refine blk_alloc ?_ _)); refine blk_put (cs := #[.int .i64 0, .int .i64 0, .int .i64 0, .int .i64 0, .bool false]) ?_ 2 _ rfl; (with_reducible repeat (first | refine blk_drewN ?_ _ | refine blk_drew ?_ | refine blk_alloc ?_ _)); refine blk_put (cs := #[.int .i64 0, .int .i64 0, .int .i64 0, .int .i64 0, .bool false]) ?_ 1 _ rfl; (with_reducible repeat (first | refine blk_drewN ?_ _ | refine blk_drew ?_ | refine blk_alloc ?_ _)); refine blk_put (cs := #[.int .i64 0, .int .i64 0, .int .i64 0, .int .i64 0, .bool false]) ?_ 0 _ rfl; (with_reducible repeat (first | refine blk_drewN ?_ _ | refine blk_drew ?_ | refine blk_alloc ?_ _)); exact BK121.out) Try.underlying37 rfl (by kernel_rfl)) rfl ?_
    exact ⟨by first | rfl | (simp [errW_none, errW_some] <;> rfl) | (simp [*, errW_none, errW_some] <;> rfl), by repeat (first | (with_reducible first | exact HB.out | apply below_alloc | apply pw_below_drewN | apply below_drew1 | refine below_set ?_ GE121.out) | exact HB.out)⟩

/-! ### impl_within: function 29 -/
def impl_within.f (a0 : Int) (a1 : Int) (a2 : Int) : Option (Bool) := if a1 ≤ a0 then (some (decide (a0 ≤ a2))) else (some false)
set_option maxHeartbeats 8000000 in
set_option maxRecDepth 100000 in
theorem impl_within.calls (a0 : Int) (a1 : Int) (a2 : Int) (r : Bool) (w : World) (h : impl_within.f a0 a1 a2 = some r) :
    Calls Try.prog 29 #[.int .i64 a0, .int .i64 a1, .int .i64 a2] w fun e w' => e = .returned (.bool r) ∧ Drawn0 w w' := by
  have H : (if a1 ≤ a0 then (some (decide (a0 ≤ a2))) else (some false)) = some r := h
  clear h
  by_cases c4 : a1 ≤ a0
  · rw [if_pos c4] at H
    have c4b0 : decide (a1 ≤ a0) = true := decide_eq_true c4
    clear c4
    obtain rfl := Option.some.inj H
    go_enter Try.func29, Try.ntmps29
    go_wp2
    go_ret
    exact ⟨by first | rfl | (simp; done) | (simp [*]; done), by repeat (first | exact Drawn0.refl _ | apply Drawn0.step)⟩
  · rw [if_neg c4] at H
    have c4b0 : decide (a1 ≤ a0) = false := decide_eq_false c4
    clear c4
    obtain rfl := Option.some.inj H
    go_enter Try.func29, Try.ntmps29
    go_wp2
    go_ret
    exact ⟨by first | rfl | (simp; done) | (simp [*]; done), by repeat (first | exact Drawn0.refl _ | apply Drawn0.step)⟩

-- function 45 (slices_IndexFunc_int_int): by its function value, where it is called

-- function 42 (slices_ContainsFunc_int_int): by its function value, where it is called

-- function 43 (impl_all_int_1): by its function value, where it is called

-- function 39 (impl_all_int): by its function value, where it is called

/-! ### impl_isBit: function 40 -/
def impl_isBit.f (a0 : Int) : Option (Bool) := if a0 = 0 then (some true) else (some (a0 == 1))
set_option maxHeartbeats 8000000 in
set_option maxRecDepth 100000 in
theorem impl_isBit.calls (a0 : Int) (r : Bool) (w : World) (h : impl_isBit.f a0 = some r) :
    Calls Try.prog 40 #[.int .i64 a0] w fun e w' => e = .returned (.bool r) ∧ Drawn0 w w' := by
  have H : (if a0 = 0 then (some true) else (some (a0 == 1))) = some r := h
  clear h
  by_cases c2 : a0 = 0
  · rw [if_pos c2] at H
    have c2b0 : (a0 == 0) = true := beq_iff_eq.mpr c2
    have c2b1 : (a0 != 0) = false := bne_eq_false_iff_eq.mpr c2
    clear c2
    obtain rfl := Option.some.inj H
    go_enter Try.func40, Try.ntmps40
    go_wp2
    go_ret
    exact ⟨by first | rfl | (simp; done) | (simp [*]; done), by repeat (first | exact Drawn0.refl _ | apply Drawn0.step)⟩
  · rw [if_neg c2] at H
    have c2b0 : (a0 == 0) = false := beq_eq_false_iff_ne.mpr c2
    have c2b1 : (a0 != 0) = true := bne_iff_ne.mpr c2
    obtain rfl := Option.some.inj H
    go_enter Try.func40, Try.ntmps40
    go_wp2
    go_ret
    exact ⟨by first | rfl | (simp; done) | (simp [*]; done), by repeat (first | exact Drawn0.refl _ | apply Drawn0.step)⟩

end Go.Proofs.Ytcgbkbjldkackaa.PFnRoom
