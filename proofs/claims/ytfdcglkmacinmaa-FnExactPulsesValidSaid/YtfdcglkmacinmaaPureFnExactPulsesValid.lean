/- The pure part of FnExactPulsesValid: both tell the same of every list of frames. -/
import Derived.Test.YtfdcglkmacinmaaPFnExactPulsesValidx2
import Derived.Laws.BitsLemmas
import Derived.OpenShut
namespace Go.Proofs.Ytfdcglkmacinmaa.Pure
set_option linter.unusedVariables false
set_option linter.unusedSimpArgs false
open Go.RowKit Go.OpenShut Go.Proofs.Ytfdcglkmacinmaa.PFnExactPulsesValid Go.Proofs.YtfdcglkmacinmaaW.PrintWords Go.Proofs.YtfdcglkmacinmaaW.PrintLast

theorem w_in {n : Int} (h0 : -9223372036854775808 ≤ n) (h1 : n ≤ 9223372036854775807) : wrap64 n = n := by unfold wrap64; omega

theorem s_in (a b c : Int) : spec_l1In.f a b c = some (decide (b ≤ a ∧ a ≤ c)) := by
  unfold spec_l1In.f
  by_cases h : b ≤ a <;> simp [h]
theorem i_in (a b c : Int) : impl_within.f a b c = some (decide (b ≤ a ∧ a ≤ c)) := by
  unfold impl_within.f
  by_cases h : b ≤ a <;> simp [h]
def cv_laws_toPulseS (x : S93) : S91 := ⟨x.f0, x.f1⟩
theorem laws_toPulseS_rd (l : List S93) (i : Int) (h : i.toNat < l.length) : (l.map cv_laws_toPulseS)[i.toNat]'(by simpa using h) = cv_laws_toPulseS (rd_T93 l i) := by
  unfold rd_T93
  rw [List.getD_eq_getElem?_getD, List.getElem?_eq_getElem h, List.getElem_map]
  rfl
theorem laws_toPulseS_loop (l : List S93) (hl : l.length ≤ 9223372036854775806) (d : Nat) : ∀ (k : Nat) (i : Int) (x : List S91), 0 ≤ i → i + d = l.length → d < k → x.length = l.length → x.take i.toNat = (l.map cv_laws_toPulseS).take i.toNat →
    laws_toPulseS.l0 k l x i = some (l.map cv_laws_toPulseS) := by
  induction d with
  | zero =>
    intro k i x h0 h1 hk hx ht
    obtain ⟨k, rfl⟩ : ∃ m, k = m + 1 := ⟨k - 1, by omega⟩
    simp only [laws_toPulseS.l0]
    rw [if_neg (by omega)]
    rw [List.take_of_length_le (by omega), List.take_of_length_le (by simp; omega)] at ht
    rw [ht]
  | succ d ih =>
    intro k i x h0 h1 hk hx ht
    obtain ⟨k, rfl⟩ : ∃ m, k = m + 1 := ⟨k - 1, by omega⟩
    simp only [laws_toPulseS.l0, laws_toPulse.f, Option.bind_some]
    rw [if_pos (by omega), if_pos h0, if_pos (by omega), w_in (by omega) (by omega)]
    refine ih k (i + 1) _ (by omega) (by omega) (by omega) (by simpa using hx) ?_
    have e : (i + 1).toNat = i.toNat + 1 := by omega
    have hi : i.toNat < l.length := by omega
    rw [e, List.take_succ_eq_append_getElem (by simpa [hx] using hi), List.take_succ_eq_append_getElem (by simpa using hi), List.getElem_set_self, List.take_set_of_le (Nat.le_refl _), ht, laws_toPulseS_rd l i hi]
    rfl
theorem laws_toPulseS_ok {l : List S93} (hl : l.length ≤ 17592186044416) {k : Nat} (hk : l.length < k) : laws_toPulseS.f k l = some (l.map cv_laws_toPulseS) := by
  unfold laws_toPulseS.f
  rw [if_pos (by omega), if_pos (by omega)]
  exact laws_toPulseS_loop l (by omega) l.length k 0 _ (by omega) (by omega) hk (by simp) (by simp)

theorem laws_eqPulse_refl (x0 x1 : Int) : laws_eqPulse.f x0 x1 x0 x1 = some true := by
  unfold laws_eqPulse.f
  simp
theorem laws_eqPulseS_loop (l : List S91) (hl : l.length ≤ 9223372036854775806) (d : Nat) : ∀ (k : Nat) (i : Int), 0 ≤ i → i + d = l.length → d < k → laws_eqPulseS.l0 k l l i = some true := by
  induction d with
  | zero =>
    intro k i h0 h1 hk
    obtain ⟨k, rfl⟩ : ∃ m, k = m + 1 := ⟨k - 1, by omega⟩
    simp only [laws_eqPulseS.l0]
    rw [if_neg (by omega)]
  | succ d ih =>
    intro k i h0 h1 hk
    obtain ⟨k, rfl⟩ : ∃ m, k = m + 1 := ⟨k - 1, by omega⟩
    simp only [laws_eqPulseS.l0, laws_eqPulse_refl, Option.bind_some, if_true]
    rw [if_pos (by omega), if_pos h0, if_pos (by omega), w_in (by omega) (by omega)]
    exact ih k (i + 1) (by omega) (by omega) (by omega)
theorem laws_eqPulseS_ok {l : List S91} (hl : l.length ≤ 35184372088832) {k : Nat} (hk : l.length < k) : laws_eqPulseS.f k l l = some true := by
  unfold laws_eqPulseS.f
  rw [if_pos rfl]
  exact laws_eqPulseS_loop l (by omega) l.length k 0 (by omega) (by omega) hk

theorem pulses_loop (l : List S91) (hl : l.length ≤ 9223372036854775806) (d : Nat) : ∀ (k : Nat) (i : Int), 0 ≤ i → i + d = l.length → d < k →
    impl_PulsesValid.l0 k l l (l.length : Int) i = spec_PulsesValid.l0 k l i ∧ ∃ r, spec_PulsesValid.l0 k l i = some r := by
  induction d with
  | zero =>
    intro k i h0 h1 hk
    obtain ⟨k, rfl⟩ : ∃ m, k = m + 1 := ⟨k - 1, by omega⟩
    simp only [spec_PulsesValid.l0, impl_PulsesValid.l0]
    rw [if_neg (by omega), if_neg (by omega)]
    exact ⟨rfl, _, rfl⟩
  | succ d ih =>
    intro k i h0 h1 hk
    obtain ⟨k, rfl⟩ : ∃ m, k = m + 1 := ⟨k - 1, by omega⟩
    obtain ⟨e, r, hr⟩ := ih k (i + 1) (by omega) (by omega) (by omega)
    simp only [spec_PulsesValid.l0, impl_PulsesValid.l0, s_in, i_in, Option.bind_some]
    have hi : i < (l.length : Int) := by omega
    rw [w_in (n := i - 1) (by omega) (by omega), w_in (n := i + 1) (by omega) (by omega), e, hr]
    simp only [hi, h0, if_true]
    refine ⟨trivial, ?_⟩
    split
    · split
      · split
        · rw [if_pos (by omega), if_pos (by omega)]
          split <;> exact ⟨_, rfl⟩
        · exact ⟨_, rfl⟩
      · exact ⟨_, rfl⟩
    · exact ⟨_, rfl⟩

theorem FnExactPulsesValid : laws_FnExactPulsesValid.Pure := by
  intro l hl
  refine ⟨l.length + 10, ?_⟩
  have hm : l.length ≤ 9223372036854775807 := by have := hl.1; simp only [maxLen] at this; omega
  unfold laws_FnExactPulsesValid.f laws_szPulseS.f
  rw [w_in (by omega) (by omega)]
  by_cases h : (1048576 : Int) - (l.length : Int) < 0
  · rw [if_pos h]
    simp only [Option.bind_some]
    rw [if_pos (by omega)]
  · rw [if_neg h]
    simp only [Option.bind_some]
    rw [if_neg h]
    have hlen : (l.map cv_laws_toPulseS).length = l.length := by simp
    obtain ⟨e, r, hr⟩ := pulses_loop (l.map cv_laws_toPulseS) (by omega) (l.map cv_laws_toPulseS).length (l.length + 10) 0 (by omega) (by omega) (by omega)
    have e1 : spec_PulsesValid.f (l.length + 10) (l.map cv_laws_toPulseS) = some r := hr
    have e2 : impl_PulsesValid.f (l.length + 10) (l.map cv_laws_toPulseS) = some r := e.trans hr
    simp only [laws_toPulseS_ok (l := l) (by omega) (k := l.length + 10) (by omega), Option.bind_some, e1, e2, laws_eqPulseS_ok (l := l.map cv_laws_toPulseS) (by omega) (k := l.length + 10) (by omega), if_true, bne_self_eq_false, Bool.false_eq_true, if_false]


end Go.Proofs.Ytfdcglkmacinmaa.Pure
