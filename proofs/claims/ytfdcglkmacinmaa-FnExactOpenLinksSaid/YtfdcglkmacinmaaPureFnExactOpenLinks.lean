/- What both sides of FnExactOpenLinks compute, in plain Lean. -/
import Derived.Test.YtfdcglkmacinmaaPFnExactOpenLinksx4
import Derived.Laws.BitsLemmas
import Derived.OpenShut
namespace Go.Proofs.Ytfdcglkmacinmaa.Pure
set_option linter.unusedVariables false
set_option linter.unusedSimpArgs false
open Go.RowKit Go.OpenShut Go.Proofs.Ytfdcglkmacinmaa.PFnExactOpenLinks Go.Proofs.YtfdcglkmacinmaaW.PrintWords Go.Proofs.YtfdcglkmacinmaaW.PrintLast

theorem w_in {n : Int} (h0 : -9223372036854775808 ≤ n) (h1 : n ≤ 9223372036854775807) : wrap64 n = n := by unfold wrap64; omega

theorem allO_total {α : Type} {p : α → Option Bool} {q : α → Bool} : ∀ (l : List α), (∀ x ∈ l, p x = some (q x)) → allO p l = some (l.all q)
  | [], _ => rfl
  | x :: xs, h => by
    have ih := allO_total xs (fun y hy => h y (List.mem_cons_of_mem _ hy))
    simp only [allO, h x (List.mem_cons_self), Option.bind_some, List.all_cons]
    cases q x
    · simp
    · simpa using ih

theorem rd_at {l : List Int} {i : Int} (h0 : 0 ≤ i) (h : i.toNat < l.length) : l.drop i.toNat = rd l i :: l.drop (i + 1).toNat := by
  rw [List.drop_eq_getElem_cons h, show (i + 1).toNat = i.toNat + 1 by omega]
  unfold rd
  rw [List.getD_eq_getElem?_getD, List.getElem?_eq_getElem h]
  rfl
theorem rd_mem {l : List Int} {i : Int} (h0 : 0 ≤ i) (h : i < l.length) : rd l i ∈ l := by
  unfold rd
  rw [List.getD_eq_getElem?_getD, List.getElem?_eq_getElem (by omega)]
  exact List.getElem_mem _

theorem s_in (a b c : Int) : spec_l1In.f a b c = some (decide (b ≤ a ∧ a ≤ c)) := by
  unfold spec_l1In.f
  by_cases h : b ≤ a <;> simp [h]
theorem i_in (a b c : Int) : impl_within.f a b c = some (decide (b ≤ a ∧ a ≤ c)) := by
  unfold impl_within.f
  by_cases h : b ≤ a <;> simp [h]
theorem index_loop (l : List Int) (v : Int) (hl : l.length ≤ 9223372036854775806) (d : Nat) : ∀ (k : Nat) (i : Int), 0 ≤ i → i + d = l.length → d < k →
    ∃ r, slices_Index_int_int.l0 k l v (l.length : Int) i = some r ∧ decide (r ≥ 0) = (l.drop i.toNat).contains v := by
  induction d with
  | zero =>
    intro k i h0 h1 hk
    obtain ⟨k, rfl⟩ : ∃ m, k = m + 1 := ⟨k - 1, by omega⟩
    refine ⟨-1, by simp only [slices_Index_int_int.l0]; rw [if_neg (by omega)], ?_⟩
    rw [List.drop_eq_nil_of_le (by omega)]; rfl
  | succ d ih =>
    intro k i h0 h1 hk
    obtain ⟨k, rfl⟩ : ∃ m, k = m + 1 := ⟨k - 1, by omega⟩
    rw [rd_at h0 (by omega)]
    simp only [slices_Index_int_int.l0]
    rw [if_pos (by omega), if_pos h0, if_pos (by omega)]
    by_cases e : v = rd l i
    · exact ⟨i, by rw [if_pos e], by rw [← e]; simp [h0]⟩
    · obtain ⟨r, hr, hd⟩ := ih k (i + 1) (by omega) (by omega) (by omega)
      refine ⟨r, by rw [if_neg e, w_in (by omega) (by omega)]; exact hr, ?_⟩
      rw [hd, List.contains_cons]
      simp [e]
theorem contains_ok {l : List Int} {v : Int} (hl : l.length ≤ 9223372036854775806) {k : Nat} (hk : l.length < k) : slices_Contains_int_int.f k l v = some (l.contains v) := by
  obtain ⟨r, hr, hd⟩ := index_loop l v hl l.length k 0 (by omega) (by omega) hk
  unfold slices_Contains_int_int.f slices_Index_int_int.f
  rw [hr]
  simp only [Option.bind_some]
  rw [hd]; rfl

/-- Do numbers ascend, from index i on? -/
def asc (l : List Int) : Int → Nat → Bool
  | _, 0 => true
  | i, d + 1 => (decide (i ≤ 0) || decide (rd l (i - 1) < rd l i)) && asc l (i + 1) d
theorem impl_asc_loop (l : List Int) (hl : l.length ≤ 9223372036854775806) (d : Nat) : ∀ (k : Nat) (i : Int), 1 ≤ i → (d = 0 → (l.length : Int) ≤ i) → (0 < d → i + d = l.length) → d < k → impl_ascends.l0 k l i = some (asc l i d) := by
  induction d with
  | zero =>
    intro k i h0 h1 h2 hk
    obtain ⟨k, rfl⟩ : ∃ m, k = m + 1 := ⟨k - 1, by omega⟩
    have := h1 rfl
    simp only [impl_ascends.l0]
    rw [if_neg (by omega)]
    rfl
  | succ d ih =>
    intro k i h0 h1 h2 hk
    obtain ⟨k, rfl⟩ : ∃ m, k = m + 1 := ⟨k - 1, by omega⟩
    have := h2 (by omega)
    simp only [impl_ascends.l0]
    rw [w_in (n := i - 1) (by omega) (by omega), if_pos (by omega), if_pos (by omega), if_pos (by omega), if_pos (by omega), w_in (n := i + 1) (by omega) (by omega), ih k (i + 1) (by omega) (by omega) (by omega) (by omega)]
    simp only [asc]
    have e : decide (i ≤ 0) = false := by simp; omega
    by_cases h : rd l i ≤ rd l (i - 1)
    · rw [if_pos h]
      have e2 : decide (rd l (i - 1) < rd l i) = false := by simp; omega
      simp [e, e2]
    · rw [if_neg h]
      have e2 : decide (rd l (i - 1) < rd l i) = true := by simp; omega
      simp [e2]
theorem impl_asc {l : List Int} (hl : l.length ≤ 9223372036854775806) {k : Nat} (hk : l.length + 1 < k) : impl_ascends.f k l = some (asc l 0 l.length) := by
  unfold impl_ascends.f
  rw [impl_asc_loop l hl (l.length - 1) k 1 (by omega) (by omega) (by omega) (by omega)]
  cases h : l.length with
  | zero => simp [asc]
  | succ n => simp [asc]

theorem toInt_loop (l : List Int) (hl : l.length ≤ 9223372036854775806) (d : Nat) : ∀ (k : Nat) (i : Int) (x : List Int), 0 ≤ i → i + d = l.length → d < k → x.length = l.length → x.take i.toNat = l.take i.toNat →
    laws_toIntS.l0 k l x i = some l := by
  induction d with
  | zero =>
    intro k i x h0 h1 hk hx ht
    obtain ⟨k, rfl⟩ : ∃ m, k = m + 1 := ⟨k - 1, by omega⟩
    simp only [laws_toIntS.l0]
    rw [if_neg (by omega)]
    rw [List.take_of_length_le (by omega), List.take_of_length_le (by omega)] at ht
    rw [ht]
  | succ d ih =>
    intro k i x h0 h1 hk hx ht
    obtain ⟨k, rfl⟩ : ∃ m, k = m + 1 := ⟨k - 1, by omega⟩
    simp only [laws_toIntS.l0]
    rw [if_pos (by omega), if_pos h0, if_pos (by omega), w_in (by omega) (by omega)]
    refine ih k (i + 1) _ (by omega) (by omega) (by omega) (by simpa using hx) ?_
    have e : (i + 1).toNat = i.toNat + 1 := by omega
    have hi : i.toNat < l.length := by omega
    rw [e, List.take_succ_eq_append_getElem (by simpa [hx] using hi), List.take_succ_eq_append_getElem hi, List.getElem_set_self, List.take_set_of_le (Nat.le_refl _), ht]
    congr 2
    unfold rd
    rw [List.getD_eq_getElem?_getD, List.getElem?_eq_getElem hi]
    rfl
theorem toInt_ok {l : List Int} (hl : l.length ≤ 35184372088832) {k : Nat} (hk : l.length < k) : laws_toIntS.f k l = some l := by
  unfold laws_toIntS.f
  rw [if_pos (by omega), if_pos (by omega)]
  exact toInt_loop l (by omega) l.length k 0 _ (by omega) (by omega) hk (by simp) (by simp)

theorem eqInt_loop (l : List Int) (hl : l.length ≤ 9223372036854775806) (d : Nat) : ∀ (k : Nat) (i : Int), 0 ≤ i → i + d = l.length → d < k → laws_eqIntS.l0 k l l i = some true := by
  induction d with
  | zero =>
    intro k i h0 h1 hk
    obtain ⟨k, rfl⟩ : ∃ m, k = m + 1 := ⟨k - 1, by omega⟩
    simp only [laws_eqIntS.l0]
    rw [if_neg (by omega)]
  | succ d ih =>
    intro k i h0 h1 hk
    obtain ⟨k, rfl⟩ : ∃ m, k = m + 1 := ⟨k - 1, by omega⟩
    simp only [laws_eqIntS.l0]
    rw [if_pos (by omega), if_pos h0, if_pos (by omega), if_pos trivial, w_in (by omega) (by omega)]
    exact ih k (i + 1) (by omega) (by omega) (by omega)
theorem eqInt_ok {l : List Int} (hl : l.length ≤ 35184372088832) {k : Nat} (hk : l.length < k) : laws_eqIntS.f k l l = some true := by
  unfold laws_eqIntS.f
  rw [if_pos rfl]
  exact eqInt_loop l (by omega) l.length k 0 (by omega) (by omega) hk

/-- m, m + 1, .. -/
def seqF (m : Int) (n : Nat) : List Int := (List.range n).map fun (i : Nat) => m + (i : Int)
theorem seqF_len (m : Int) (n : Nat) : (seqF m n).length = n := by simp [seqF]
theorem seqF_succ (m : Int) (n : Nat) : seqF m (n + 1) = seqF m n ++ [m + n] := by simp [seqF, List.range_succ]
theorem seqF_rd (m : Int) (n : Nat) (i : Int) (h0 : 0 ≤ i) (h : i < n) : rd (seqF m n) i = m + i := by
  unfold rd seqF
  rw [List.getD_eq_getElem?_getD, List.getElem?_map, List.getElem?_range (by omega)]
  simp
  omega
theorem mark_loop (m : Int) (hm : 0 ≤ m) (hm2 : m ≤ 1000000000000) (d : Nat) : ∀ (k : Nat) (i : Int) (x : List Int), 0 ≤ i → i + d = x.length → x.length ≤ 1000000000000 → d < k → x.take i.toNat = seqF m i.toNat →
    laws_markIntS.l0 k x (m + i) i = some (m + x.length, seqF m x.length) := by
  induction d with
  | zero =>
    intro k i x h0 h1 hl hk ht
    obtain ⟨k, rfl⟩ : ∃ q, k = q + 1 := ⟨k - 1, by omega⟩
    simp only [laws_markIntS.l0]
    rw [if_neg (by omega)]
    rw [List.take_of_length_le (by omega)] at ht
    have e : i.toNat = x.length := by omega
    rw [e] at ht
    have e2 : i = x.length := by omega
    rw [← ht, ← e2]
  | succ d ih =>
    intro k i x h0 h1 hl hk ht
    obtain ⟨k, rfl⟩ : ∃ q, k = q + 1 := ⟨k - 1, by omega⟩
    simp only [laws_markIntS.l0]
    rw [if_pos (by omega), if_pos h0, w_in (n := i + 1) (by omega) (by omega), w_in (n := m + i + 1) (by omega) (by omega)]
    have e : (i + 1).toNat = i.toNat + 1 := by omega
    have hi : i.toNat < x.length := by omega
    have := ih k (i + 1) (x.set i.toNat (m + i)) (by omega) (by simp; omega) (by simpa using hl) (by omega) (by
      rw [e, List.take_succ_eq_append_getElem (by simpa using hi), List.getElem_set_self, List.take_set_of_le (Nat.le_refl _), ht, seqF_succ]
      congr 2
      omega)
    rw [show m + (i + 1) = m + i + 1 by omega] at this
    simpa using this
theorem mark_ok {l : List Int} {m : Int} (hm : 0 ≤ m) (hm2 : m ≤ 1000000000000) (hl : l.length ≤ 1000000000000) {k : Nat} (hk : l.length < k) : laws_markIntS.f k l m = some (m + l.length, seqF m l.length) := by
  unfold laws_markIntS.f
  have := mark_loop m hm hm2 l.length k 0 l (by omega) (by omega) hl hk (by simp [seqF])
  simpa using this
theorem held_loop (m : Int) (n : Nat) (hm : 0 ≤ m) (hm2 : m ≤ 1000000000000) (hl : n ≤ 1000000000000) (d : Nat) : ∀ (k : Nat) (i : Int), 0 ≤ i → i + d = n → d < k →
    laws_heldIntS.l0 k (seqF m n) (m + i) i = some (m + n) := by
  induction d with
  | zero =>
    intro k i h0 h1 hk
    obtain ⟨k, rfl⟩ : ∃ q, k = q + 1 := ⟨k - 1, by omega⟩
    simp only [laws_heldIntS.l0]
    rw [if_neg (by rw [seqF_len]; omega), show i = (n : Int) by omega]
  | succ d ih =>
    intro k i h0 h1 hk
    obtain ⟨k, rfl⟩ : ∃ q, k = q + 1 := ⟨k - 1, by omega⟩
    simp only [laws_heldIntS.l0]
    rw [if_pos (by rw [seqF_len]; omega), if_pos h0, if_pos (seqF_rd m n i h0 (by omega)), w_in (n := i + 1) (by omega) (by omega), w_in (n := m + i + 1) (by omega) (by omega), show m + i + 1 = m + (i + 1) by omega]
    exact ih k (i + 1) (by omega) (by omega) (by omega)
theorem held_ok {m : Int} {n : Nat} (hm : 0 ≤ m) (hm2 : m ≤ 1000000000000) (hl : n ≤ 1000000000000) {k : Nat} (hk : n < k) : laws_heldIntS.f k (seqF m n) m = some (m + n) := by
  unfold laws_heldIntS.f
  have := held_loop m n hm hm2 hl n k 0 (by omega) (by omega) hk
  simpa using this

theorem has_loop (l : List Int) (v : Int) (hl : l.length ≤ 9223372036854775806) (d : Nat) : ∀ (k : Nat) (i : Int), 0 ≤ i → i + d = l.length → d < k →
    spec_l10Has.l0 k l v i = some ((l.drop i.toNat).contains v) := by
  induction d with
  | zero =>
    intro k i h0 h1 hk
    obtain ⟨k, rfl⟩ : ∃ m, k = m + 1 := ⟨k - 1, by omega⟩
    simp only [spec_l10Has.l0]
    rw [if_neg (by omega), List.drop_eq_nil_of_le (by omega)]
    rfl
  | succ d ih =>
    intro k i h0 h1 hk
    obtain ⟨k, rfl⟩ : ∃ m, k = m + 1 := ⟨k - 1, by omega⟩
    rw [rd_at h0 (by omega)]
    simp only [spec_l10Has.l0]
    rw [if_pos (by omega), if_pos h0, w_in (n := i + 1) (by omega) (by omega), ih k (i + 1) (by omega) (by omega) (by omega), List.contains_cons]
    by_cases e : rd l i = v
    · rw [if_pos e, e]; simp
    · rw [if_neg e]
      have : (v == rd l i) = false := by simp; exact fun h => e h.symm
      simp [this]
theorem has_ok {l : List Int} {v : Int} (hl : l.length ≤ 9223372036854775806) {k : Nat} (hk : l.length < k) : spec_l10Has.f k l v = some (l.contains v) := by
  unfold spec_l10Has.f
  rw [has_loop l v hl l.length k 0 (by omega) (by omega) hk]
  simp

def lk (a x : Int) : Bool := decide (0 ≤ x ∧ x ≤ wrap64 (a - 1))
def rvv (a b : Int) (l : List Int) : Bool := l.all (lk a) && asc l 0 l.length && (decide (3 ≤ a ∧ a ≤ 10) && lk a b)
theorem spec_ring_loop (a b : Int) (l : List Int) (hl : l.length ≤ 9223372036854775806) (d : Nat) : ∀ (k : Nat) (i : Int), 0 ≤ i → i + d = l.length → d < k →
    spec_RingValid.l0 k i a b l = some ((l.drop i.toNat).all (lk a) && asc l i d && (decide (3 ≤ a ∧ a ≤ 10) && lk a b)) := by
  induction d with
  | zero =>
    intro k i h0 h1 hk
    obtain ⟨k, rfl⟩ : ∃ m, k = m + 1 := ⟨k - 1, by omega⟩
    simp only [spec_RingValid.l0, s_in, Option.bind_some]
    rw [if_neg (by omega), List.drop_eq_nil_of_le (by omega), show decide (0 ≤ b ∧ b ≤ wrap64 (a - 1)) = lk a b from rfl]
    generalize decide (3 ≤ a ∧ a ≤ 10) = x
    generalize lk a b = y
    cases x <;> cases y <;> rfl
  | succ d ih =>
    intro k i h0 h1 hk
    obtain ⟨k, rfl⟩ : ∃ m, k = m + 1 := ⟨k - 1, by omega⟩
    rw [rd_at h0 (by omega)]
    simp only [spec_RingValid.l0, s_in, Option.bind_some]
    rw [if_pos (by omega), if_pos h0, w_in (n := i - 1) (by omega) (by omega), w_in (n := i + 1) (by omega) (by omega), ih k (i + 1) (by omega) (by omega) (by omega)]
    simp only [List.all_cons, asc]
    rw [show decide (0 ≤ rd l i ∧ rd l i ≤ wrap64 (a - 1)) = lk a (rd l i) from rfl]
    by_cases hc : lk a (rd l i) = true
    · rw [if_pos hc]
      simp only [hc, Bool.true_and]
      by_cases hi : i > 0
      · have e : decide (i ≤ 0) = false := by simp; omega
        rw [if_pos hi, if_pos (by omega), if_pos (by omega)]
        by_cases h : rd l (i - 1) ≥ rd l i
        · have e2 : decide (rd l (i - 1) < rd l i) = false := by simp; omega
          rw [if_pos h]
          simp [e, e2]
        · have e2 : decide (rd l (i - 1) < rd l i) = true := by simp; omega
          rw [if_neg h]
          simp [e2]
      · have e : decide (i ≤ 0) = true := by simp; omega
        rw [if_neg hi]
        simp [e]
    · rw [if_neg hc]
      simp [hc]
theorem spec_ring {a b : Int} {l : List Int} (hl : l.length ≤ 9223372036854775806) {k : Nat} (hk : l.length < k) : spec_RingValid.f k a b l = some (rvv a b l) := by
  unfold spec_RingValid.f rvv
  rw [spec_ring_loop a b l hl l.length k 0 (by omega) (by omega) hk]
  simp
theorem impl_lk (a x : Int) : impl_RingValid.p a x = some (lk a x) := by
  unfold impl_RingValid.p lk
  rw [i_in]
theorem impl_ring {a b : Int} {l : List Int} (hl : l.length ≤ 9223372036854775806) {k : Nat} (hk : l.length + 1 < k) : impl_RingValid.f k a b l = some (rvv a b l) := by
  unfold impl_RingValid.f rvv
  rw [i_in, impl_lk, allO_total (q := lk a) l (fun x _ => impl_lk a x), impl_asc hl hk]
  simp only [Option.bind_some]
  generalize decide (3 ≤ a ∧ a ≤ 10) = x
  generalize lk a b = y
  generalize l.all (lk a) = z
  generalize asc l 0 l.length = u
  cases x <;> cases y <;> cases z <;> cases u <;> rfl
theorem toRing_ok {a b : Int} {c : List Int} (hl : c.length ≤ 35184372088832) {k : Nat} (hk : c.length < k) : laws_toRing.f k a b c = some (a, b, c) := by
  unfold laws_toRing.f
  rw [toInt_ok hl hk]
  rfl
theorem eqRing_ok {a b : Int} {c : List Int} (hl : c.length ≤ 35184372088832) {k : Nat} (hk : c.length < k) : laws_eqRing.f k a b c a b c = some true := by
  unfold laws_eqRing.f
  rw [if_pos rfl, if_pos rfl, eqInt_ok hl hk]
  rfl
theorem szRing {a b : Int} {c : List Int} (hl : c.length ≤ 9223372036854775807) {m : Int} (hm : 0 ≤ m) (hm2 : m ≤ 1048576) : laws_szRing.f a b c m = some (if m - (c.length : Int) < 0 then -1 else m - (c.length : Int)) := by
  unfold laws_szRing.f laws_szIntS.f
  rw [w_in (n := m - (c.length : Int)) (by omega) (by omega)]
  by_cases h : m - (c.length : Int) < 0
  · rw [if_pos h, if_pos h]
    rfl
  · rw [if_neg h, if_neg h]
    simp only [Option.bind_some]
    rw [if_neg h]
def opn (b : Int) (l : List Int) (x : Int) : Bool := if l.length = 0 then x != b else !(l.contains x)
theorem spec_open {a b : Int} {l : List Int} {x : Int} (hl : l.length ≤ 9223372036854775806) {k : Nat} (hk : l.length < k) : spec_l17Open.f k a b l x = some (opn b l x) := by
  unfold spec_l17Open.f opn
  rw [has_ok hl hk]
  by_cases h : l.length = 0
  · rw [if_pos (by omega), if_pos h]
  · rw [if_neg (by omega), if_neg h]; rfl
theorem impl_open {a b : Int} {l : List Int} {x : Int} (hl : l.length ≤ 9223372036854775806) {k : Nat} (hk : l.length < k) : impl_Ring_open.f k a b l x = some (opn b l x) := by
  unfold impl_Ring_open.f opn
  rw [contains_ok hl hk]
  by_cases h : l.length = 0
  · rw [if_pos (by omega), if_pos h]
  · rw [if_neg (by omega), if_neg h]; rfl
def lks (b : Int) (l : List Int) : List Int → Int → Nat → List Int
  | o, _, 0 => o
  | o, i, d + 1 => if opn b l i = true then lks b l (o ++ [i]) (i + 1) d else lks b l o (i + 1) d
theorem lks_len (b : Int) (l : List Int) : ∀ (d : Nat) (o : List Int) (i : Int), (lks b l o i d).length ≤ o.length + d
  | 0, o, i => by simp [lks]
  | d + 1, o, i => by
    simp only [lks]
    split
    · have := lks_len b l d (o ++ [i]) (i + 1)
      simp at this
      omega
    · have := lks_len b l d o (i + 1)
      omega
theorem spec_links_loop (a b : Int) (l : List Int) (hl : l.length ≤ 9223372036854775806) (hv : rvv a b l = true) (ha : a ≤ 10) (d : Nat) : ∀ (k : Nat) (o : List Int) (i : Int), 0 ≤ i → i + d = a → 2 * d + l.length + 20 < k → o.length ≤ i →
    spec_OpenLinks.l0 k o i a b l = some (lks b l o i d) := by
  induction d with
  | zero =>
    intro k o i h0 h1 hk ho
    obtain ⟨k, rfl⟩ : ∃ q, k = q + 2 := ⟨k - 2, by omega⟩
    simp only [spec_OpenLinks.l0]
    rw [if_neg (by omega)]
    simp [spec_OpenLinks.j1, lks]
  | succ d ih =>
    intro k o i h0 h1 hk ho
    obtain ⟨k, rfl⟩ : ∃ q, k = q + 2 := ⟨k - 2, by omega⟩
    simp only [spec_OpenLinks.l0]
    rw [if_pos (by omega), spec_ring hl (by omega), hv]
    simp only [Option.bind_some, spec_OpenLinks.j1, if_true]
    rw [spec_open hl (by omega), w_in (n := i + 1) (by omega) (by omega)]
    simp only [Option.bind_some, lks]
    by_cases c : opn b l i = true
    · rw [if_pos c, if_pos c, if_pos (by omega)]
      exact ih k _ (i + 1) (by omega) (by omega) (by omega) (by simp; omega)
    · rw [if_neg c, if_neg c]
      exact ih k _ (i + 1) (by omega) (by omega) (by omega) (by omega)
theorem impl_links_loop (a b : Int) (l : List Int) (hl : l.length ≤ 9223372036854775806) (ha : a ≤ 10) (d : Nat) : ∀ (k : Nat) (o : List Int) (i : Int), 0 ≤ i → i + d = a → 2 * d + l.length + 20 < k → o.length ≤ i →
    impl_OpenLinks.l0 k o a i a b l = some (lks b l o i d) := by
  induction d with
  | zero =>
    intro k o i h0 h1 hk ho
    obtain ⟨k, rfl⟩ : ∃ q, k = q + 1 := ⟨k - 1, by omega⟩
    simp only [impl_OpenLinks.l0]
    rw [if_neg (by omega)]
    rfl
  | succ d ih =>
    intro k o i h0 h1 hk ho
    obtain ⟨k, rfl⟩ : ∃ q, k = q + 1 := ⟨k - 1, by omega⟩
    simp only [impl_OpenLinks.l0]
    rw [if_pos (by omega), impl_open hl (by omega), w_in (n := i + 1) (by omega) (by omega)]
    simp only [Option.bind_some, lks]
    by_cases c : opn b l i = true
    · rw [if_pos c, if_pos c, if_pos (by omega)]
      exact ih k _ (i + 1) (by omega) (by omega) (by omega) (by simp; omega)
    · rw [if_neg c, if_neg c]
      exact ih k _ (i + 1) (by omega) (by omega) (by omega) (by omega)
theorem rvv_size {a b : Int} {l : List Int} (h : rvv a b l = true) : 3 ≤ a ∧ a ≤ 10 := by
  unfold rvv at h
  simp only [Bool.and_eq_true, decide_eq_true_eq] at h
  exact h.2.1
def oln (a b : Int) (l : List Int) : List Int := if rvv a b l = true then lks b l [] 0 a.toNat else []
theorem oln_len (a b : Int) (l : List Int) : (oln a b l).length ≤ 10 := by
  unfold oln
  split
  · rename_i h
    have := rvv_size h
    have := lks_len b l a.toNat [] 0
    simp at this
    omega
  · simp
theorem spec_links {a b : Int} {l : List Int} (hl : l.length ≤ 9223372036854775806) {k : Nat} (hk : l.length + 50 < k) : spec_OpenLinks.f k a b l = some (oln a b l) := by
  unfold spec_OpenLinks.f oln
  by_cases h : rvv a b l = true
  · have hs := rvv_size h
    rw [if_pos h]
    exact spec_links_loop a b l hl h hs.2 a.toNat k [] 0 (by omega) (by omega) (by omega) (by simp)
  · rw [if_neg h]
    obtain ⟨k, rfl⟩ : ∃ q, k = q + 2 := ⟨k - 2, by omega⟩
    have e : rvv a b l = false := by simpa using h
    simp only [spec_OpenLinks.l0]
    rw [spec_ring hl (by omega), e]
    simp [spec_OpenLinks.j1]
theorem impl_links {a b : Int} {l : List Int} (hl : l.length ≤ 9223372036854775806) {k : Nat} (hk : l.length + 50 < k) : impl_OpenLinks.f k a b l = some (oln a b l) := by
  unfold impl_OpenLinks.f oln
  rw [impl_ring hl (by omega)]
  simp only [Option.bind_some]
  by_cases h : rvv a b l = true
  · have hs := rvv_size h
    rw [if_pos h, if_pos h]
    exact impl_links_loop a b l hl hs.2 a.toNat k [] 0 (by omega) (by omega) (by omega) (by simp)
  · rw [if_neg h, if_neg h]
theorem markRing_ok {a b : Int} {l : List Int} {m : Int} (hm : 0 ≤ m) (hm2 : m ≤ 1000000000000) (hl : l.length ≤ 1000000000000) {k : Nat} (hk : l.length < k) : laws_markRing.f k a b l m = some (m + l.length, seqF m l.length) := by
  unfold laws_markRing.f
  rw [mark_ok hm hm2 hl hk]
  rfl

theorem FnExactOpenLinks : laws_FnExactOpenLinks.Pure := by
  intro a b c _ _ hc
  refine ⟨c.length + 1000, ?_⟩
  have hm : c.length ≤ 9223372036854775807 := by have := hc.1; simp only [maxLen] at this; omega
  unfold laws_FnExactOpenLinks.f
  rw [szRing hm (by omega) (by omega)]
  simp only [Option.bind_some]
  by_cases h : (1048576 : Int) - (c.length : Int) < 0
  · rw [if_pos h, if_pos (by omega)]
  rw [if_neg h, if_neg h]
  have lo := oln_len a b c
  have K : ∀ k, c.length + 900 ≤ k → laws_toRing.f k a b c = some (a, b, c) ∧ spec_OpenLinks.f k a b c = some (oln a b c) ∧ impl_OpenLinks.f k a b c = some (oln a b c) ∧ laws_eqIntS.f k (oln a b c) (oln a b c) = some true ∧ laws_eqRing.f k a b c a b c = some true ∧ laws_markRing.f k a b c 1 = some (1 + (c.length : Int), seqF 1 c.length) ∧ laws_markIntS.f k (oln a b c) 1 = some (1 + ((oln a b c).length : Int), seqF 1 (oln a b c).length) ∧ laws_heldIntS.f k (seqF 1 (oln a b c).length) 1 = some (1 + ((oln a b c).length : Int)) := fun k hk =>
    ⟨toRing_ok (by omega) (by omega), spec_links (by omega) (by omega), impl_links (by omega) (by omega), eqInt_ok (by omega) (by omega), eqRing_ok (by omega) (by omega), markRing_ok (by omega) (by omega) (by omega) (by omega), mark_ok (by omega) (by omega) (by omega) (by omega), held_ok (by omega) (by omega) (by omega) (by omega)⟩
  obtain ⟨e1, e2, e3, e4, e5, e6, e7, e8⟩ := K (c.length + 1000) (by omega)
  simp only [e1, e2, e3, e4, e5, e6, Option.bind_some, if_true]
  rw [if_neg (by omega)]
  rw [show c.length + 1000 = (c.length + 999) + 1 by omega]
  simp only [laws_FnExactOpenLinks.j0]
  obtain ⟨e1, e2, e3, e4, e5, e6, e7, e8⟩ := K (c.length + 999) (by omega)
  simp only [e1, e3, e4, e7, e8, Option.bind_some, if_true]
  rw [if_neg (by decide), if_neg (by omega), if_neg (by omega)]

end Go.Proofs.Ytfdcglkmacinmaa.Pure
