/- What both sides of FnExactWireOf compute, in plain Lean. -/
import Derived.Test.YtmakbieljmldfaaPFnExactWireOfx2
import Derived.Laws.BitsLemmas
import Derived.OpenShut
namespace Go.Proofs.Ytmakbieljmldfaa.Pure
set_option linter.unusedVariables false
set_option linter.unusedSimpArgs false
open Go.RowKit Go.OpenShut Go.Proofs.Ytmakbieljmldfaa.PFnExactWireOf Go.Proofs.YtmakbieljmldfaaW.PrintWords Go.Proofs.YtmakbieljmldfaaW.PrintLast

theorem w_in {n : Int} (h0 : -9223372036854775808 ≤ n) (h1 : n ≤ 9223372036854775807) : wrap64 n = n := by unfold wrap64; omega

theorem s_in (a b c : Int) : spec_l1In.f a b c = some (decide (b ≤ a ∧ a ≤ c)) := by
  unfold spec_l1In.f
  by_cases h : b ≤ a <;> simp [h]
theorem i_in (a b c : Int) : impl_within.f a b c = some (decide (b ≤ a ∧ a ≤ c)) := by
  unfold impl_within.f
  by_cases h : b ≤ a <;> simp [h]
theorem wire_l0 (a d0 d1 : Int) : impl_fabric_wire.l0 5 a d0 d1 0 = if d0 = 1 ∧ d1 = 0 then some (wrap64 (wrap64 (4 * a) + 0)) else if d0 = -1 ∧ d1 = 0 then some (wrap64 (wrap64 (4 * a) + 1)) else if d0 = 0 ∧ d1 = 1 then some (wrap64 (wrap64 (4 * a) + 2)) else if d0 = 0 ∧ d1 = -1 then some (wrap64 (wrap64 (4 * a) + 3)) else some (-1) := by
  rfl
def nodes (w h a b : Int) : Bool := decide (1 ≤ w ∧ w ≤ 5) && decide (1 ≤ h ∧ h ≤ 5) && decide (0 ≤ a ∧ a ≤ wrap64 (wrap64 (w * h) - 1)) && decide (0 ≤ b ∧ b ≤ wrap64 (wrap64 (w * h) - 1))
theorem spec_nodes (w h a b : Int) : spec_l16Nodes.f w h a b = some (nodes w h a b) := by
  unfold spec_l16Nodes.f spec_l16Fabric.f nodes
  simp only [s_in, Option.bind_some]
  generalize decide (1 ≤ w ∧ w ≤ 5) = x
  generalize decide (1 ≤ h ∧ h ≤ 5) = y
  generalize decide (0 ≤ a ∧ a ≤ wrap64 (wrap64 (w * h) - 1)) = z
  generalize decide (0 ≤ b ∧ b ≤ wrap64 (wrap64 (w * h) - 1)) = u
  cases x <;> cases y <;> cases z <;> cases u <;> rfl
theorem small {w h n : Int} (h1 : 1 ≤ w ∧ w ≤ 5) (h2 : 1 ≤ h ∧ h ≤ 5) (h3 : 0 ≤ n ∧ n ≤ wrap64 (wrap64 (w * h) - 1)) : 0 ≤ n ∧ n ≤ 24 := by
  have e : 0 ≤ w * h ∧ w * h ≤ 25 := by
    have hh : h = 1 ∨ h = 2 ∨ h = 3 ∨ h = 4 ∨ h = 5 := by omega
    rcases hh with rfl | rfl | rfl | rfl | rfl <;> omega
  rw [w_in (n := w * h) (by omega) (by omega), w_in (n := w * h - 1) (by omega) (by omega)] at h3
  omega
theorem tm {n w : Int} (h0 : 0 ≤ n ∧ n ≤ 24) (hw : 1 ≤ w ∧ w ≤ 5) : (0 ≤ Int.tmod n w ∧ Int.tmod n w ≤ 4) ∧ (0 ≤ Int.tdiv n w ∧ Int.tdiv n w ≤ 24) := by
  rw [Int.tmod_eq_emod_of_nonneg h0.1, Int.tdiv_eq_ediv_of_nonneg h0.1]
  have a := Int.emod_nonneg n (show w ≠ 0 by omega)
  have b := Int.emod_lt_of_pos n (show 0 < w by omega)
  have c := Int.ediv_nonneg h0.1 (show 0 ≤ w by omega)
  have d := Int.ediv_le_self w h0.1
  exact ⟨⟨a, by omega⟩, ⟨c, by omega⟩⟩
theorem wires (a ax ay bx by_ : Int) (hax : 0 ≤ ax ∧ ax ≤ 4) (hay : 0 ≤ ay ∧ ay ≤ 24) (hbx : 0 ≤ bx ∧ bx ≤ 4) (hby : 0 ≤ by_ ∧ by_ ≤ 24) (ha : 0 ≤ a ∧ a ≤ 24) (k : Nat) :
    (if ay = by_ then spec_l16Wire.j0 (k + 3) a ax ay bx by_ (bx == wrap64 (ax + 1)) else spec_l16Wire.j0 (k + 3) a ax ay bx by_ false) = impl_fabric_wire.l0 5 a (wrap64 (bx - ax)) (wrap64 (by_ - ay)) 0 := by
  rw [wire_l0, w_in (n := bx - ax) (by omega) (by omega), w_in (n := by_ - ay) (by omega) (by omega), w_in (n := ax + 1) (by omega) (by omega)]
  simp only [spec_l16Wire.j0, spec_l16Wire.j1, spec_l16Wire.j2]
  rw [w_in (n := 4 * a) (by omega) (by omega), w_in (n := 4 * a + 0) (by omega) (by omega), w_in (n := ax - 1) (by omega) (by omega), w_in (n := ay + 1) (by omega) (by omega), w_in (n := ay - 1) (by omega) (by omega), Int.add_zero]
  by_cases e1 : ay = by_
  · by_cases e2 : bx = ax + 1
    · have q : (bx == ax + 1) = true := beq_iff_eq.mpr e2
      rw [if_pos e1, if_pos q, if_pos (show (bx - ax = 1 ∧ by_ - ay = 0) by omega)]
    · have q : ¬ ((bx == ax + 1) = true) := by simpa using e2
      rw [if_pos e1, if_neg q, if_pos e1, if_neg (show ¬ (bx - ax = 1 ∧ by_ - ay = 0) by omega)]
      by_cases e3 : bx = ax - 1
      · have q : (bx == ax - 1) = true := beq_iff_eq.mpr e3
        rw [if_pos q, if_pos (show (bx - ax = -1 ∧ by_ - ay = 0) by omega)]
      · have q : ¬ ((bx == ax - 1) = true) := by simpa using e3
        rw [if_neg q, if_neg (show ¬ (bx - ax = -1 ∧ by_ - ay = 0) by omega), if_neg (show ¬ (bx - ax = 0 ∧ by_ - ay = 1) by omega), if_neg (show ¬ (bx - ax = 0 ∧ by_ - ay = -1) by omega)]
        by_cases e4 : ax = bx
        · have q : ¬ ((by_ == ay + 1) = true) := by simp; omega
          rw [if_pos e4, if_neg q, if_pos e4, if_neg (show ¬ by_ = ay - 1 by omega)]
        · rw [if_neg e4, if_neg (show ¬ (false = true) by decide), if_neg e4]
  · rw [if_neg e1, if_neg (show ¬ (false = true) by decide), if_neg e1, if_neg (show ¬ (false = true) by decide), if_neg (show ¬ (bx - ax = 1 ∧ by_ - ay = 0) by omega), if_neg (show ¬ (bx - ax = -1 ∧ by_ - ay = 0) by omega)]
    by_cases e4 : ax = bx
    · rw [if_pos e4]
      by_cases e5 : by_ = ay + 1
      · have q : (by_ == ay + 1) = true := beq_iff_eq.mpr e5
        rw [if_pos q, if_pos (show (bx - ax = 0 ∧ by_ - ay = 1) by omega)]
      · have q : ¬ ((by_ == ay + 1) = true) := by simpa using e5
        rw [if_neg q, if_pos e4, if_neg (show ¬ (bx - ax = 0 ∧ by_ - ay = 1) by omega)]
        by_cases e6 : by_ = ay - 1
        · rw [if_pos e6, if_pos (show (bx - ax = 0 ∧ by_ - ay = -1) by omega)]
        · rw [if_neg e6, if_neg (show ¬ (bx - ax = 0 ∧ by_ - ay = -1) by omega)]
    · rw [if_neg e4, if_neg (show ¬ (false = true) by decide), if_neg e4, if_neg (show ¬ (bx - ax = 0 ∧ by_ - ay = 1) by omega), if_neg (show ¬ (bx - ax = 0 ∧ by_ - ay = -1) by omega)]

theorem FnExactWireOf : laws_FnExactWireOf.Pure := by
  intro w h a b _ _ _ _
  refine ⟨3 + 3, ?_⟩
  unfold laws_FnExactWireOf.f spec_WireOf.f impl_WireOf.f impl_fabric_wire.f impl_fabric_node.f impl_fabric_valid.f
  simp only [spec_nodes, i_in, Option.bind_some]
  by_cases h1 : 1 ≤ w ∧ w ≤ 5
  · by_cases h2 : 1 ≤ h ∧ h ≤ 5
    · by_cases h3 : 0 ≤ a ∧ a ≤ wrap64 (wrap64 (w * h) - 1)
      · by_cases h4 : 0 ≤ b ∧ b ≤ wrap64 (wrap64 (w * h) - 1)
        · have ha := small h1 h2 h3
          have hb := small h1 h2 h4
          have ta := tm ha h1
          have tb := tm hb h1
          have hn : nodes w h a b = true := by simp only [nodes, h1, h2, h3, h4, and_self, decide_true, Bool.and_self]
          simp only [hn, h1, h2, h3, h4, and_self, decide_true, Option.bind_some, if_true]
          unfold spec_l16Wire.f
          have hw : ¬ w = 0 := by omega
          rw [if_neg hw, if_neg hw, w_in (n := Int.tdiv a w) (by omega) (by omega), w_in (n := Int.tdiv b w) (by omega) (by omega), wires a _ _ _ _ ta.1 ta.2 tb.1 tb.2 ha 3]
          obtain ⟨v, hv⟩ : ∃ v, impl_fabric_wire.l0 5 a (wrap64 (Int.tmod b w - Int.tmod a w)) (wrap64 (Int.tdiv b w - Int.tdiv a w)) 0 = some v := by
            rw [wire_l0]
            split
            · exact ⟨_, rfl⟩
            · split
              · exact ⟨_, rfl⟩
              · split
                · exact ⟨_, rfl⟩
                · split <;> exact ⟨_, rfl⟩
          rw [hv]
          simp only [Option.bind_some, if_true]
        · simp [nodes, h1, h2, h3, h4]
      · simp [nodes, h1, h2, h3]
    · simp [nodes, h1, h2]
  · simp [nodes, h1]

end Go.Proofs.Ytmakbieljmldfaa.Pure
