/- The pure part of FnExactTalkTimes: both tell the same exchange, for all whole numbers of Go's int. -/
import Derived.Test.YtekbfebjbpnhgaaPFnExactTalkTimesx2
import Derived.Laws.BitsLemmas
import Derived.OpenShut
namespace Go.Proofs.Ytekbfebjbpnhgaa.Pure
set_option linter.unusedVariables false
set_option linter.unusedSimpArgs false
open Go.RowKit Go.OpenShut Go.Proofs.Ytekbfebjbpnhgaa.PFnExactTalkTimes Go.Proofs.YtekbfebjbpnhgaaW.PrintWords Go.Proofs.YtekbfebjbpnhgaaW.PrintLast

theorem w_in {n : Int} (h0 : -9223372036854775808 ≤ n) (h1 : n ≤ 9223372036854775807) : wrap64 n = n := by unfold wrap64; omega

/-- Is it an exchange? -/
def vx (a b c d : Int) : Bool := decide (-1000000 ≤ a ∧ a ≤ 1000000) && decide (-1000000 ≤ b ∧ b ≤ 1000000) && decide (-1000000 ≤ c ∧ c ≤ 1000000) && decide (-1000000 ≤ d ∧ d ≤ 1000000) && decide (d ≥ a) && decide (c ≥ b) && decide (d - a ≥ c - b)

theorem vx_iff {a b c d : Int} : vx a b c d = true ↔ (-1000000 ≤ a ∧ a ≤ 1000000) ∧ (-1000000 ≤ b ∧ b ≤ 1000000) ∧ (-1000000 ≤ c ∧ c ≤ 1000000) ∧ (-1000000 ≤ d ∧ d ≤ 1000000) ∧ a ≤ d ∧ b ≤ c ∧ c - b ≤ d - a := by
  simp [vx]
  omega

theorem spec_time (a : Int) : spec_l15Time.f a = some (decide (-1000000 ≤ a ∧ a ≤ 1000000)) := by
  unfold spec_l15Time.f spec_l1In.f
  by_cases h : -1000000 ≤ a <;> simp [h]
theorem impl_time (a : Int) : impl_isTime.f a = some (decide (-1000000 ≤ a ∧ a ≤ 1000000)) := by
  unfold impl_isTime.f impl_within.f
  by_cases h : -1000000 ≤ a <;> simp [h]

theorem spec_valid (a b c d : Int) : spec_ExchangeValid.f a b c d = some (vx a b c d) := by
  unfold spec_ExchangeValid.f
  simp only [spec_time, Option.bind_some, decide_eq_true_eq]
  by_cases h1 : -1000000 ≤ a ∧ a ≤ 1000000
  · by_cases h2 : -1000000 ≤ b ∧ b ≤ 1000000
    · by_cases h3 : -1000000 ≤ c ∧ c ≤ 1000000
      · by_cases h4 : -1000000 ≤ d ∧ d ≤ 1000000
        · rw [w_in (n := d - a) (by omega) (by omega), w_in (n := c - b) (by omega) (by omega)]
          by_cases h5 : a ≤ d <;> by_cases h6 : b ≤ c <;> simp [vx, h1, h2, h3, h4, h5, h6]
        · simp [vx, h1, h2, h3, h4]
      · simp [vx, h1, h2, h3]
    · simp [vx, h1, h2]
  · simp [vx, h1]
theorem impl_valid (a b c d : Int) : impl_ExchangeValid.f a b c d = some (vx a b c d) := by
  unfold impl_ExchangeValid.f
  simp only [impl_time, Option.bind_some, decide_eq_true_eq]
  by_cases h1 : -1000000 ≤ a ∧ a ≤ 1000000
  · by_cases h2 : -1000000 ≤ b ∧ b ≤ 1000000
    · by_cases h3 : -1000000 ≤ c ∧ c ≤ 1000000
      · by_cases h4 : -1000000 ≤ d ∧ d ≤ 1000000
        · rw [w_in (n := d - a) (by omega) (by omega), w_in (n := c - b) (by omega) (by omega)]
          by_cases h5 : a ≤ d <;> by_cases h6 : b ≤ c <;> simp [vx, h1, h2, h3, h4, h5, h6]
        · simp [vx, h1, h2, h3, h4]
      · simp [vx, h1, h2, h3]
    · simp [vx, h1, h2]
  · simp [vx, h1]

def tOk (a t h b s : Int) : Prop := (0 ≤ t ∧ t ≤ 1000) ∧ (0 ≤ h ∧ h ≤ 1000) ∧ (0 ≤ b ∧ b ≤ 1000) ∧ (-1000000 ≤ a ∧ a ≤ 1000000) ∧ (-1000000 ≤ s ∧ s ≤ 1000000) ∧ vx s (s + t + a) (s + t + a + h) (s + t + h + b) = true
instance (a t h b s : Int) : Decidable (tOk a t h b s) := by unfold tOk; infer_instance
/-- What TalkTimes answers. -/
def tt (a t h b s : Int) : Int × Int × Int × Int × Bool := if tOk a t h b s then (s, s + t + a, s + t + a + h, s + t + h + b, true) else (0, 0, 0, 0, false)
theorem s_in (a b c : Int) : spec_l1In.f a b c = some (decide (b ≤ a ∧ a ≤ c)) := by
  unfold spec_l1In.f
  by_cases h : b ≤ a <;> simp [h]
theorem i_in (a b c : Int) : impl_within.f a b c = some (decide (b ≤ a ∧ a ≤ c)) := by
  unfold impl_within.f
  by_cases h : b ≤ a <;> simp [h]
theorem spec_talk (a t h b s : Int) {k : Nat} (hk : 0 < k) : spec_TalkTimes.f k a t h b s = some (tt a t h b s) := by
  obtain ⟨k, rfl⟩ : ∃ m, k = m + 1 := ⟨k - 1, by omega⟩
  unfold spec_TalkTimes.f tt tOk
  simp only [s_in, spec_time, Option.bind_some, spec_TalkTimes.j0, if_true, decide_eq_true_eq]
  by_cases h1 : 0 ≤ t ∧ t ≤ 1000
  · by_cases h2 : 0 ≤ h ∧ h ≤ 1000
    · by_cases h3 : 0 ≤ b ∧ b ≤ 1000
      · by_cases h4 : -1000000 ≤ a ∧ a ≤ 1000000
        · by_cases h5 : -1000000 ≤ s ∧ s ≤ 1000000
          · rw [w_in (n := s + t) (by omega) (by omega), w_in (n := s + t + a) (by omega) (by omega), w_in (n := s + t + a + h) (by omega) (by omega), w_in (n := s + t + h) (by omega) (by omega), w_in (n := s + t + h + b) (by omega) (by omega)]
            simp only [spec_valid, Option.bind_some]
            by_cases h6 : vx s (s + t + a) (s + t + a + h) (s + t + h + b) = true <;> simp [h1, h2, h3, h4, h5, h6]
          · simp [h1, h2, h3, h4, h5]
        · simp [h1, h2, h3, h4]
      · simp [h1, h2, h3]
    · simp [h1, h2]
  · simp [h1]
theorem impl_talk (a t h b s : Int) {k : Nat} (hk : 5 < k) : impl_TalkTimes.f k a t h b s = some (tt a t h b s) := by
  obtain ⟨k, rfl⟩ : ∃ m, k = m + 1 + 1 + 1 + 1 + 1 := ⟨k - 5, by omega⟩
  unfold impl_TalkTimes.f tt tOk
  have e1 : wrap64 (0 + 1) = 1 := w_in (n := 0 + 1) (by omega) (by omega)
  have e2 : wrap64 (1 + 1) = 2 := w_in (n := 1 + 1) (by omega) (by omega)
  have e3 : wrap64 (2 + 1) = 3 := w_in (n := 2 + 1) (by omega) (by omega)
  simp only [impl_TalkTimes.l0, i_in, impl_time, Option.bind_some, impl_TalkTimes.j1, if_true, decide_eq_true_eq, e1, e2, e3]
  simp only [Int.reduceLT, Int.reduceEq, if_true, if_false]
  by_cases h1 : 0 ≤ t ∧ t ≤ 1000
  · by_cases h2 : 0 ≤ h ∧ h ≤ 1000
    · by_cases h3 : 0 ≤ b ∧ b ≤ 1000
      · by_cases h4 : -1000000 ≤ a ∧ a ≤ 1000000
        · by_cases h5 : -1000000 ≤ s ∧ s ≤ 1000000
          · rw [w_in (n := s + t) (by omega) (by omega), w_in (n := s + t + a) (by omega) (by omega), w_in (n := s + t + a + h) (by omega) (by omega), w_in (n := s + t + h) (by omega) (by omega), w_in (n := s + t + h + b) (by omega) (by omega)]
            simp only [impl_valid, Option.bind_some]
            by_cases h6 : vx s (s + t + a) (s + t + a + h) (s + t + h + b) = true <;> simp [h1, h2, h3, h4, h5, h6]
          · simp [h1, h2, h3, h4, h5]
        · simp [h1, h2, h3, h4]
      · simp [h1, h2, h3]
    · simp [h1, h2]
  · simp [h1]

theorem FnExactTalkTimes : laws_FnExactTalkTimes.Pure := by
  intro a t h b s _ _ _ _ _
  refine ⟨6, ?_⟩
  unfold laws_FnExactTalkTimes.f laws_eqExchange.f
  rw [spec_talk _ _ _ _ _ (by omega), impl_talk _ _ _ _ _ (by omega)]
  simp only [Option.bind_some]
  simp


end Go.Proofs.Ytekbfebjbpnhgaa.Pure
