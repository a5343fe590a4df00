/- The pure part of FnExactSpanOf: both tell the same span of four numbers of Go's int. -/
import Derived.Test.YtekbfebjbpnhgaaPFnExactSpanOfx2
import Derived.Laws.BitsLemmas
import Derived.OpenShut
namespace Go.Proofs.Ytekbfebjbpnhgaa.Pure
open Go.RowKit Go.Proofs.Ytekbfebjbpnhgaa.PFnExactSpanOf Go.Proofs.YtekbfebjbpnhgaaW.PrintWords Go.Proofs.YtekbfebjbpnhgaaW.PrintLast

theorem w_in {n : Int} (h0 : -9223372036854775808 ≤ n) (h1 : n ≤ 9223372036854775807) : wrap64 n = n := by unfold wrap64; omega

/-- Is it an exchange? -/
def vx (a b c d : Int) : Bool := decide (-1000000 ≤ a ∧ a ≤ 1000000) && decide (-1000000 ≤ b ∧ b ≤ 1000000) && decide (-1000000 ≤ c ∧ c ≤ 1000000) && decide (-1000000 ≤ d ∧ d ≤ 1000000) && decide (d ≥ a) && decide (c ≥ b) && decide (d - a ≥ c - b)

theorem vx_iff {a b c d : Int} : vx a b c d = true ↔ (-1000000 ≤ a ∧ a ≤ 1000000) ∧ (-1000000 ≤ b ∧ b ≤ 1000000) ∧ (-1000000 ≤ c ∧ c ≤ 1000000) ∧ (-1000000 ≤ d ∧ d ≤ 1000000) ∧ a ≤ d ∧ b ≤ c ∧ c - b ≤ d - a := by
  simp [vx]
  omega

theorem spec_time (a : Int) : spec_l15Time.f a = some (decide (-1000000 ≤ a ∧ a ≤ 1000000)) := by
  unfold spec_l15Time.f spec_l1In.f
  by_cases h : -1000000 ≤ a <;> simp [h]
theorem impl_time (a : Int) : impl_isTime.f a = some (decide (-1000000 ≤ a ∧ a ≤ 1000000)) := by
  unfold impl_isTime.f impl_within.f
  by_cases h : -1000000 ≤ a <;> simp [h]

theorem spec_valid (a b c d : Int) : spec_ExchangeValid.f a b c d = some (vx a b c d) := by
  unfold spec_ExchangeValid.f
  simp only [spec_time, Option.bind_some, decide_eq_true_eq]
  by_cases h1 : -1000000 ≤ a ∧ a ≤ 1000000
  · by_cases h2 : -1000000 ≤ b ∧ b ≤ 1000000
    · by_cases h3 : -1000000 ≤ c ∧ c ≤ 1000000
      · by_cases h4 : -1000000 ≤ d ∧ d ≤ 1000000
        · rw [w_in (n := d - a) (by omega) (by omega), w_in (n := c - b) (by omega) (by omega)]
          by_cases h5 : a ≤ d <;> by_cases h6 : b ≤ c <;> simp [vx, h1, h2, h3, h4, h5, h6]
        · simp [vx, h1, h2, h3, h4]
      · simp [vx, h1, h2, h3]
    · simp [vx, h1, h2]
  · simp [vx, h1]
theorem impl_valid (a b c d : Int) : impl_ExchangeValid.f a b c d = some (vx a b c d) := by
  unfold impl_ExchangeValid.f
  simp only [impl_time, Option.bind_some, decide_eq_true_eq]
  by_cases h1 : -1000000 ≤ a ∧ a ≤ 1000000
  · by_cases h2 : -1000000 ≤ b ∧ b ≤ 1000000
    · by_cases h3 : -1000000 ≤ c ∧ c ≤ 1000000
      · by_cases h4 : -1000000 ≤ d ∧ d ≤ 1000000
        · rw [w_in (n := d - a) (by omega) (by omega), w_in (n := c - b) (by omega) (by omega)]
          by_cases h5 : a ≤ d <;> by_cases h6 : b ≤ c <;> simp [vx, h1, h2, h3, h4, h5, h6]
        · simp [vx, h1, h2, h3, h4]
      · simp [vx, h1, h2, h3]
    · simp [vx, h1, h2]
  · simp [vx, h1]

def tw (a b c d : Int) : Int := if vx a b c d = true then b - a + c - d else 0
def wy (a b c d : Int) : Int := if vx a b c d = true then d - a - (c - b) else -1

theorem tw_bd {a b c d : Int} (h : vx a b c d = true) : tw a b c d = b - a + c - d ∧ wy a b c d = d - a - (c - b) := by
  unfold tw wy; rw [if_pos h, if_pos h]; exact ⟨rfl, rfl⟩

theorem spec_twice (a b c d : Int) : spec_TwiceAhead.f a b c d = some (tw a b c d) := by
  unfold spec_TwiceAhead.f tw
  simp only [spec_valid, Option.bind_some]
  by_cases h : vx a b c d = true
  · rw [if_pos h, if_pos h]
    rw [vx_iff] at h
    rw [w_in (n := b - a) (by omega) (by omega), w_in (n := b - a + c) (by omega) (by omega), w_in (by omega) (by omega)]
  · rw [if_neg h, if_neg h]
theorem impl_twice (a b c d : Int) : impl_TwiceAhead.f a b c d = some (tw a b c d) := by
  unfold impl_TwiceAhead.f tw
  simp only [impl_valid, Option.bind_some]
  by_cases h : vx a b c d = true
  · rw [if_pos h, if_pos h]
    rw [vx_iff] at h
    rw [w_in (n := b - a) (by omega) (by omega), w_in (n := b - a + c) (by omega) (by omega), w_in (by omega) (by omega)]
  · rw [if_neg h, if_neg h]
theorem spec_way (a b c d : Int) : spec_WayOf.f a b c d = some (wy a b c d) := by
  unfold spec_WayOf.f wy
  simp only [spec_valid, Option.bind_some]
  by_cases h : vx a b c d = true
  · rw [if_pos h, if_pos h]
    rw [vx_iff] at h
    rw [w_in (n := d - a) (by omega) (by omega), w_in (n := c - b) (by omega) (by omega), w_in (by omega) (by omega)]
  · rw [if_neg h, if_neg h]
theorem impl_way (a b c d : Int) : impl_WayOf.f a b c d = some (wy a b c d) := by
  unfold impl_WayOf.f wy
  simp only [impl_valid, Option.bind_some]
  by_cases h : vx a b c d = true
  · rw [if_pos h, if_pos h]
    rw [vx_iff] at h
    rw [w_in (n := d - a) (by omega) (by omega), w_in (n := c - b) (by omega) (by omega), w_in (by omega) (by omega)]
  · rw [if_neg h, if_neg h]

theorem spec_span (a b c d : Int) : spec_SpanOf.f a b c d = some (if vx a b c d = true then (tw a b c d - wy a b c d, tw a b c d + wy a b c d, true) else (0, 0, false)) := by
  unfold spec_SpanOf.f
  simp only [spec_valid, spec_twice, spec_way, Option.bind_some]
  by_cases h : vx a b c d = true
  · rw [if_pos h, if_pos h]
    obtain ⟨e1, e2⟩ := tw_bd h
    rw [e1, e2]
    rw [vx_iff] at h
    rw [w_in (n := b - a + c - d - (d - a - (c - b))) (by omega) (by omega), w_in (n := b - a + c - d + (d - a - (c - b))) (by omega) (by omega)]
  · rw [if_neg h, if_neg h]
theorem impl_span (a b c d : Int) : impl_SpanOf.f a b c d = some (if vx a b c d = true then (tw a b c d - wy a b c d, tw a b c d + wy a b c d, true) else (0, 0, false)) := by
  unfold impl_SpanOf.f
  simp only [impl_valid, impl_twice, impl_way, Option.bind_some]
  by_cases h : vx a b c d = true
  · rw [if_pos h, if_pos h]
    obtain ⟨e1, e2⟩ := tw_bd h
    rw [e1, e2]
    rw [vx_iff] at h
    rw [w_in (n := b - a + c - d - (d - a - (c - b))) (by omega) (by omega), w_in (n := b - a + c - d + (d - a - (c - b))) (by omega) (by omega)]
  · rw [if_neg h, if_neg h]

theorem FnExactSpanOf : laws_FnExactSpanOf.Pure := by
  intro a b c d _ _ _ _
  unfold laws_FnExactSpanOf.f laws_toExchange.f laws_eqSpan.f
  simp only [Option.bind_some, spec_span, impl_span]
  simp


end Go.Proofs.Ytekbfebjbpnhgaa.Pure
