/- What both sides of FnExactRingValid compute, in plain Lean. -/
import Derived.Test.YtfdcglkmacinmaaPFnExactRingValidx2
import Derived.Laws.BitsLemmas
import Derived.OpenShut
namespace Go.Proofs.Ytfdcglkmacinmaa.Pure
set_option linter.unusedVariables false
set_option linter.unusedSimpArgs false
open Go.RowKit Go.OpenShut Go.Proofs.Ytfdcglkmacinmaa.PFnExactRingValid Go.Proofs.YtfdcglkmacinmaaW.PrintWords Go.Proofs.YtfdcglkmacinmaaW.PrintLast

theorem w_in {n : Int} (h0 : -9223372036854775808 ≤ n) (h1 : n ≤ 9223372036854775807) : wrap64 n = n := by unfold wrap64; omega

theorem allO_total {α : Type} {p : α → Option Bool} {q : α → Bool} : ∀ (l : List α), (∀ x ∈ l, p x = some (q x)) → allO p l = some (l.all q)
  | [], _ => rfl
  | x :: xs, h => by
    have ih := allO_total xs (fun y hy => h y (List.mem_cons_of_mem _ hy))
    simp only [allO, h x (List.mem_cons_self), Option.bind_some, List.all_cons]
    cases q x
    · simp
    · simpa using ih

theorem rd_at {l : List Int} {i : Int} (h0 : 0 ≤ i) (h : i.toNat < l.length) : l.drop i.toNat = rd l i :: l.drop (i + 1).toNat := by
  rw [List.drop_eq_getElem_cons h, show (i + 1).toNat = i.toNat + 1 by omega]
  unfold rd
  rw [List.getD_eq_getElem?_getD, List.getElem?_eq_getElem h]
  rfl
theorem rd_mem {l : List Int} {i : Int} (h0 : 0 ≤ i) (h : i < l.length) : rd l i ∈ l := by
  unfold rd
  rw [List.getD_eq_getElem?_getD, List.getElem?_eq_getElem (by omega)]
  exact List.getElem_mem _

theorem s_in (a b c : Int) : spec_l1In.f a b c = some (decide (b ≤ a ∧ a ≤ c)) := by
  unfold spec_l1In.f
  by_cases h : b ≤ a <;> simp [h]
theorem i_in (a b c : Int) : impl_within.f a b c = some (decide (b ≤ a ∧ a ≤ c)) := by
  unfold impl_within.f
  by_cases h : b ≤ a <;> simp [h]
/-- Do numbers ascend, from index i on? -/
def asc (l : List Int) : Int → Nat → Bool
  | _, 0 => true
  | i, d + 1 => (decide (i ≤ 0) || decide (rd l (i - 1) < rd l i)) && asc l (i + 1) d
theorem impl_asc_loop (l : List Int) (hl : l.length ≤ 9223372036854775806) (d : Nat) : ∀ (k : Nat) (i : Int), 1 ≤ i → (d = 0 → (l.length : Int) ≤ i) → (0 < d → i + d = l.length) → d < k → impl_ascends.l0 k l i = some (asc l i d) := by
  induction d with
  | zero =>
    intro k i h0 h1 h2 hk
    obtain ⟨k, rfl⟩ : ∃ m, k = m + 1 := ⟨k - 1, by omega⟩
    have := h1 rfl
    simp only [impl_ascends.l0]
    rw [if_neg (by omega)]
    rfl
  | succ d ih =>
    intro k i h0 h1 h2 hk
    obtain ⟨k, rfl⟩ : ∃ m, k = m + 1 := ⟨k - 1, by omega⟩
    have := h2 (by omega)
    simp only [impl_ascends.l0]
    rw [w_in (n := i - 1) (by omega) (by omega), if_pos (by omega), if_pos (by omega), if_pos (by omega), if_pos (by omega), w_in (n := i + 1) (by omega) (by omega), ih k (i + 1) (by omega) (by omega) (by omega) (by omega)]
    simp only [asc]
    have e : decide (i ≤ 0) = false := by simp; omega
    by_cases h : rd l i ≤ rd l (i - 1)
    · rw [if_pos h]
      have e2 : decide (rd l (i - 1) < rd l i) = false := by simp; omega
      simp [e, e2]
    · rw [if_neg h]
      have e2 : decide (rd l (i - 1) < rd l i) = true := by simp; omega
      simp [e2]
theorem impl_asc {l : List Int} (hl : l.length ≤ 9223372036854775806) {k : Nat} (hk : l.length + 1 < k) : impl_ascends.f k l = some (asc l 0 l.length) := by
  unfold impl_ascends.f
  rw [impl_asc_loop l hl (l.length - 1) k 1 (by omega) (by omega) (by omega) (by omega)]
  cases h : l.length with
  | zero => simp [asc]
  | succ n => simp [asc]

theorem toInt_loop (l : List Int) (hl : l.length ≤ 9223372036854775806) (d : Nat) : ∀ (k : Nat) (i : Int) (x : List Int), 0 ≤ i → i + d = l.length → d < k → x.length = l.length → x.take i.toNat = l.take i.toNat →
    laws_toIntS.l0 k l x i = some l := by
  induction d with
  | zero =>
    intro k i x h0 h1 hk hx ht
    obtain ⟨k, rfl⟩ : ∃ m, k = m + 1 := ⟨k - 1, by omega⟩
    simp only [laws_toIntS.l0]
    rw [if_neg (by omega)]
    rw [List.take_of_length_le (by omega), List.take_of_length_le (by omega)] at ht
    rw [ht]
  | succ d ih =>
    intro k i x h0 h1 hk hx ht
    obtain ⟨k, rfl⟩ : ∃ m, k = m + 1 := ⟨k - 1, by omega⟩
    simp only [laws_toIntS.l0]
    rw [if_pos (by omega), if_pos h0, if_pos (by omega), w_in (by omega) (by omega)]
    refine ih k (i + 1) _ (by omega) (by omega) (by omega) (by simpa using hx) ?_
    have e : (i + 1).toNat = i.toNat + 1 := by omega
    have hi : i.toNat < l.length := by omega
    rw [e, List.take_succ_eq_append_getElem (by simpa [hx] using hi), List.take_succ_eq_append_getElem hi, List.getElem_set_self, List.take_set_of_le (Nat.le_refl _), ht]
    congr 2
    unfold rd
    rw [List.getD_eq_getElem?_getD, List.getElem?_eq_getElem hi]
    rfl
theorem toInt_ok {l : List Int} (hl : l.length ≤ 35184372088832) {k : Nat} (hk : l.length < k) : laws_toIntS.f k l = some l := by
  unfold laws_toIntS.f
  rw [if_pos (by omega), if_pos (by omega)]
  exact toInt_loop l (by omega) l.length k 0 _ (by omega) (by omega) hk (by simp) (by simp)

theorem eqInt_loop (l : List Int) (hl : l.length ≤ 9223372036854775806) (d : Nat) : ∀ (k : Nat) (i : Int), 0 ≤ i → i + d = l.length → d < k → laws_eqIntS.l0 k l l i = some true := by
  induction d with
  | zero =>
    intro k i h0 h1 hk
    obtain ⟨k, rfl⟩ : ∃ m, k = m + 1 := ⟨k - 1, by omega⟩
    simp only [laws_eqIntS.l0]
    rw [if_neg (by omega)]
  | succ d ih =>
    intro k i h0 h1 hk
    obtain ⟨k, rfl⟩ : ∃ m, k = m + 1 := ⟨k - 1, by omega⟩
    simp only [laws_eqIntS.l0]
    rw [if_pos (by omega), if_pos h0, if_pos (by omega), if_pos trivial, w_in (by omega) (by omega)]
    exact ih k (i + 1) (by omega) (by omega) (by omega)
theorem eqInt_ok {l : List Int} (hl : l.length ≤ 35184372088832) {k : Nat} (hk : l.length < k) : laws_eqIntS.f k l l = some true := by
  unfold laws_eqIntS.f
  rw [if_pos rfl]
  exact eqInt_loop l (by omega) l.length k 0 (by omega) (by omega) hk

def lk (a x : Int) : Bool := decide (0 ≤ x ∧ x ≤ wrap64 (a - 1))
def rvv (a b : Int) (l : List Int) : Bool := l.all (lk a) && asc l 0 l.length && (decide (3 ≤ a ∧ a ≤ 10) && lk a b)
theorem spec_ring_loop (a b : Int) (l : List Int) (hl : l.length ≤ 9223372036854775806) (d : Nat) : ∀ (k : Nat) (i : Int), 0 ≤ i → i + d = l.length → d < k →
    spec_RingValid.l0 k i a b l = some ((l.drop i.toNat).all (lk a) && asc l i d && (decide (3 ≤ a ∧ a ≤ 10) && lk a b)) := by
  induction d with
  | zero =>
    intro k i h0 h1 hk
    obtain ⟨k, rfl⟩ : ∃ m, k = m + 1 := ⟨k - 1, by omega⟩
    simp only [spec_RingValid.l0, s_in, Option.bind_some]
    rw [if_neg (by omega), List.drop_eq_nil_of_le (by omega), show decide (0 ≤ b ∧ b ≤ wrap64 (a - 1)) = lk a b from rfl]
    generalize decide (3 ≤ a ∧ a ≤ 10) = x
    generalize lk a b = y
    cases x <;> cases y <;> rfl
  | succ d ih =>
    intro k i h0 h1 hk
    obtain ⟨k, rfl⟩ : ∃ m, k = m + 1 := ⟨k - 1, by omega⟩
    rw [rd_at h0 (by omega)]
    simp only [spec_RingValid.l0, s_in, Option.bind_some]
    rw [if_pos (by omega), if_pos h0, w_in (n := i - 1) (by omega) (by omega), w_in (n := i + 1) (by omega) (by omega), ih k (i + 1) (by omega) (by omega) (by omega)]
    simp only [List.all_cons, asc]
    rw [show decide (0 ≤ rd l i ∧ rd l i ≤ wrap64 (a - 1)) = lk a (rd l i) from rfl]
    by_cases hc : lk a (rd l i) = true
    · rw [if_pos hc]
      simp only [hc, Bool.true_and]
      by_cases hi : i > 0
      · have e : decide (i ≤ 0) = false := by simp; omega
        rw [if_pos hi, if_pos (by omega), if_pos (by omega)]
        by_cases h : rd l (i - 1) ≥ rd l i
        · have e2 : decide (rd l (i - 1) < rd l i) = false := by simp; omega
          rw [if_pos h]
          simp [e, e2]
        · have e2 : decide (rd l (i - 1) < rd l i) = true := by simp; omega
          rw [if_neg h]
          simp [e2]
      · have e : decide (i ≤ 0) = true := by simp; omega
        rw [if_neg hi]
        simp [e]
    · rw [if_neg hc]
      simp [hc]
theorem spec_ring {a b : Int} {l : List Int} (hl : l.length ≤ 9223372036854775806) {k : Nat} (hk : l.length < k) : spec_RingValid.f k a b l = some (rvv a b l) := by
  unfold spec_RingValid.f rvv
  rw [spec_ring_loop a b l hl l.length k 0 (by omega) (by omega) hk]
  simp
theorem impl_lk (a x : Int) : impl_RingValid.p a x = some (lk a x) := by
  unfold impl_RingValid.p lk
  rw [i_in]
theorem impl_ring {a b : Int} {l : List Int} (hl : l.length ≤ 9223372036854775806) {k : Nat} (hk : l.length + 1 < k) : impl_RingValid.f k a b l = some (rvv a b l) := by
  unfold impl_RingValid.f rvv
  rw [i_in, impl_lk, allO_total (q := lk a) l (fun x _ => impl_lk a x), impl_asc hl hk]
  simp only [Option.bind_some]
  generalize decide (3 ≤ a ∧ a ≤ 10) = x
  generalize lk a b = y
  generalize l.all (lk a) = z
  generalize asc l 0 l.length = u
  cases x <;> cases y <;> cases z <;> cases u <;> rfl
theorem toRing_ok {a b : Int} {c : List Int} (hl : c.length ≤ 35184372088832) {k : Nat} (hk : c.length < k) : laws_toRing.f k a b c = some (a, b, c) := by
  unfold laws_toRing.f
  rw [toInt_ok hl hk]
  rfl
theorem eqRing_ok {a b : Int} {c : List Int} (hl : c.length ≤ 35184372088832) {k : Nat} (hk : c.length < k) : laws_eqRing.f k a b c a b c = some true := by
  unfold laws_eqRing.f
  rw [if_pos rfl, if_pos rfl, eqInt_ok hl hk]
  rfl
theorem szRing {a b : Int} {c : List Int} (hl : c.length ≤ 9223372036854775807) {m : Int} (hm : 0 ≤ m) (hm2 : m ≤ 1048576) : laws_szRing.f a b c m = some (if m - (c.length : Int) < 0 then -1 else m - (c.length : Int)) := by
  unfold laws_szRing.f laws_szIntS.f
  rw [w_in (n := m - (c.length : Int)) (by omega) (by omega)]
  by_cases h : m - (c.length : Int) < 0
  · rw [if_pos h, if_pos h]
    rfl
  · rw [if_neg h, if_neg h]
    simp only [Option.bind_some]
    rw [if_neg h]

theorem FnExactRingValid : laws_FnExactRingValid.Pure := by
  intro a b c _ _ hc
  refine ⟨c.length + 10, ?_⟩
  have hm : c.length ≤ 9223372036854775807 := by have := hc.1; simp only [maxLen] at this; omega
  unfold laws_FnExactRingValid.f
  rw [szRing hm (by omega) (by omega)]
  simp only [Option.bind_some]
  by_cases h : (1048576 : Int) - (c.length : Int) < 0
  · rw [if_pos h, if_pos (by omega)]
  · rw [if_neg h, if_neg h, toRing_ok (by omega) (by omega)]
    simp only [Option.bind_some]
    rw [spec_ring (by omega) (by omega), impl_ring (by omega) (by omega), eqRing_ok (by omega) (by omega)]
    simp only [Option.bind_some, if_true, bne_self_eq_false, Bool.false_eq_true, if_false]

end Go.Proofs.Ytfdcglkmacinmaa.Pure
