/- The pure part of FnExactBestOf: both tell the same index, for every list of exchanges. -/
import Derived.Test.YtekbfebjbpnhgaaPFnExactBestOfx5
import Derived.Laws.BitsLemmas
import Derived.OpenShut
namespace Go.Proofs.Ytekbfebjbpnhgaa.Pure
set_option linter.unusedVariables false
set_option linter.unusedSimpArgs false
open Go.RowKit Go.OpenShut Go.Proofs.Ytekbfebjbpnhgaa.PFnExactBestOf Go.Proofs.YtekbfebjbpnhgaaW.PrintWords Go.Proofs.YtekbfebjbpnhgaaW.PrintLast

theorem w_in {n : Int} (h0 : -9223372036854775808 ≤ n) (h1 : n ≤ 9223372036854775807) : wrap64 n = n := by unfold wrap64; omega

theorem allO_total {α : Type} {p : α → Option Bool} {q : α → Bool} : ∀ (l : List α), (∀ x ∈ l, p x = some (q x)) → allO p l = some (l.all q)
  | [], _ => rfl
  | x :: xs, h => by
    have ih := allO_total xs (fun y hy => h y (List.mem_cons_of_mem _ hy))
    simp only [allO, h x (List.mem_cons_self), Option.bind_some, List.all_cons]
    cases q x
    · simp
    · simpa using ih

/-- Is it an exchange? -/
def vx (a b c d : Int) : Bool := decide (-1000000 ≤ a ∧ a ≤ 1000000) && decide (-1000000 ≤ b ∧ b ≤ 1000000) && decide (-1000000 ≤ c ∧ c ≤ 1000000) && decide (-1000000 ≤ d ∧ d ≤ 1000000) && decide (d ≥ a) && decide (c ≥ b) && decide (d - a ≥ c - b)

theorem vx_iff {a b c d : Int} : vx a b c d = true ↔ (-1000000 ≤ a ∧ a ≤ 1000000) ∧ (-1000000 ≤ b ∧ b ≤ 1000000) ∧ (-1000000 ≤ c ∧ c ≤ 1000000) ∧ (-1000000 ≤ d ∧ d ≤ 1000000) ∧ a ≤ d ∧ b ≤ c ∧ c - b ≤ d - a := by
  simp [vx]
  omega

theorem spec_time (a : Int) : spec_l15Time.f a = some (decide (-1000000 ≤ a ∧ a ≤ 1000000)) := by
  unfold spec_l15Time.f spec_l1In.f
  by_cases h : -1000000 ≤ a <;> simp [h]
theorem impl_time (a : Int) : impl_isTime.f a = some (decide (-1000000 ≤ a ∧ a ≤ 1000000)) := by
  unfold impl_isTime.f impl_within.f
  by_cases h : -1000000 ≤ a <;> simp [h]

theorem spec_valid (a b c d : Int) : spec_ExchangeValid.f a b c d = some (vx a b c d) := by
  unfold spec_ExchangeValid.f
  simp only [spec_time, Option.bind_some, decide_eq_true_eq]
  by_cases h1 : -1000000 ≤ a ∧ a ≤ 1000000
  · by_cases h2 : -1000000 ≤ b ∧ b ≤ 1000000
    · by_cases h3 : -1000000 ≤ c ∧ c ≤ 1000000
      · by_cases h4 : -1000000 ≤ d ∧ d ≤ 1000000
        · rw [w_in (n := d - a) (by omega) (by omega), w_in (n := c - b) (by omega) (by omega)]
          by_cases h5 : a ≤ d <;> by_cases h6 : b ≤ c <;> simp [vx, h1, h2, h3, h4, h5, h6]
        · simp [vx, h1, h2, h3, h4]
      · simp [vx, h1, h2, h3]
    · simp [vx, h1, h2]
  · simp [vx, h1]
theorem impl_valid (a b c d : Int) : impl_ExchangeValid.f a b c d = some (vx a b c d) := by
  unfold impl_ExchangeValid.f
  simp only [impl_time, Option.bind_some, decide_eq_true_eq]
  by_cases h1 : -1000000 ≤ a ∧ a ≤ 1000000
  · by_cases h2 : -1000000 ≤ b ∧ b ≤ 1000000
    · by_cases h3 : -1000000 ≤ c ∧ c ≤ 1000000
      · by_cases h4 : -1000000 ≤ d ∧ d ≤ 1000000
        · rw [w_in (n := d - a) (by omega) (by omega), w_in (n := c - b) (by omega) (by omega)]
          by_cases h5 : a ≤ d <;> by_cases h6 : b ≤ c <;> simp [vx, h1, h2, h3, h4, h5, h6]
        · simp [vx, h1, h2, h3, h4]
      · simp [vx, h1, h2, h3]
    · simp [vx, h1, h2]
  · simp [vx, h1]

def tw (a b c d : Int) : Int := if vx a b c d = true then b - a + c - d else 0
def wy (a b c d : Int) : Int := if vx a b c d = true then d - a - (c - b) else -1

theorem tw_bd {a b c d : Int} (h : vx a b c d = true) : tw a b c d = b - a + c - d ∧ wy a b c d = d - a - (c - b) := by
  unfold tw wy; rw [if_pos h, if_pos h]; exact ⟨rfl, rfl⟩

theorem spec_way (a b c d : Int) : spec_WayOf.f a b c d = some (wy a b c d) := by
  unfold spec_WayOf.f wy
  simp only [spec_valid, Option.bind_some]
  by_cases h : vx a b c d = true
  · rw [if_pos h, if_pos h]
    rw [vx_iff] at h
    rw [w_in (n := d - a) (by omega) (by omega), w_in (n := c - b) (by omega) (by omega), w_in (by omega) (by omega)]
  · rw [if_neg h, if_neg h]
theorem impl_way (a b c d : Int) : impl_WayOf.f a b c d = some (wy a b c d) := by
  unfold impl_WayOf.f wy
  simp only [impl_valid, Option.bind_some]
  by_cases h : vx a b c d = true
  · rw [if_pos h, if_pos h]
    rw [vx_iff] at h
    rw [w_in (n := d - a) (by omega) (by omega), w_in (n := c - b) (by omega) (by omega), w_in (by omega) (by omega)]
  · rw [if_neg h, if_neg h]

def cv_laws_toExchangeS (x : S29) : S31 := ⟨x.f0, x.f1, x.f2, x.f3⟩
theorem laws_toExchangeS_rd (l : List S29) (i : Int) (h : i.toNat < l.length) : (l.map cv_laws_toExchangeS)[i.toNat]'(by simpa using h) = cv_laws_toExchangeS (rd_T29 l i) := by
  unfold rd_T29
  rw [List.getD_eq_getElem?_getD, List.getElem?_eq_getElem h, List.getElem_map]
  rfl
theorem laws_toExchangeS_loop (l : List S29) (hl : l.length ≤ 9223372036854775806) (d : Nat) : ∀ (k : Nat) (i : Int) (x : List S31), 0 ≤ i → i + d = l.length → d < k → x.length = l.length → x.take i.toNat = (l.map cv_laws_toExchangeS).take i.toNat →
    laws_toExchangeS.l0 k l x i = some (l.map cv_laws_toExchangeS) := by
  induction d with
  | zero =>
    intro k i x h0 h1 hk hx ht
    obtain ⟨k, rfl⟩ : ∃ m, k = m + 1 := ⟨k - 1, by omega⟩
    simp only [laws_toExchangeS.l0]
    rw [if_neg (by omega)]
    rw [List.take_of_length_le (by omega), List.take_of_length_le (by simp; omega)] at ht
    rw [ht]
  | succ d ih =>
    intro k i x h0 h1 hk hx ht
    obtain ⟨k, rfl⟩ : ∃ m, k = m + 1 := ⟨k - 1, by omega⟩
    simp only [laws_toExchangeS.l0, laws_toExchange.f, Option.bind_some]
    rw [if_pos (by omega), if_pos h0, if_pos (by omega), w_in (by omega) (by omega)]
    refine ih k (i + 1) _ (by omega) (by omega) (by omega) (by simpa using hx) ?_
    have e : (i + 1).toNat = i.toNat + 1 := by omega
    have hi : i.toNat < l.length := by omega
    rw [e, List.take_succ_eq_append_getElem (by simpa [hx] using hi), List.take_succ_eq_append_getElem (by simpa using hi), List.getElem_set_self, List.take_set_of_le (Nat.le_refl _), ht, laws_toExchangeS_rd l i hi]
    rfl
theorem laws_toExchangeS_ok {l : List S29} (hl : l.length ≤ 8796093022208) {k : Nat} (hk : l.length < k) : laws_toExchangeS.f k l = some (l.map cv_laws_toExchangeS) := by
  unfold laws_toExchangeS.f
  rw [if_pos (by omega), if_pos (by omega)]
  exact laws_toExchangeS_loop l (by omega) l.length k 0 _ (by omega) (by omega) hk (by simp) (by simp)

theorem laws_eqExchange_refl (x0 x1 x2 x3 : Int) : laws_eqExchange.f x0 x1 x2 x3 x0 x1 x2 x3 = some true := by
  unfold laws_eqExchange.f
  simp
theorem laws_eqExchangeS_loop (l : List S31) (hl : l.length ≤ 9223372036854775806) (d : Nat) : ∀ (k : Nat) (i : Int), 0 ≤ i → i + d = l.length → d < k → laws_eqExchangeS.l0 k l l i = some true := by
  induction d with
  | zero =>
    intro k i h0 h1 hk
    obtain ⟨k, rfl⟩ : ∃ m, k = m + 1 := ⟨k - 1, by omega⟩
    simp only [laws_eqExchangeS.l0]
    rw [if_neg (by omega)]
  | succ d ih =>
    intro k i h0 h1 hk
    obtain ⟨k, rfl⟩ : ∃ m, k = m + 1 := ⟨k - 1, by omega⟩
    simp only [laws_eqExchangeS.l0, laws_eqExchange_refl, Option.bind_some, if_true]
    rw [if_pos (by omega), if_pos h0, if_pos (by omega), w_in (by omega) (by omega)]
    exact ih k (i + 1) (by omega) (by omega) (by omega)
theorem laws_eqExchangeS_ok {l : List S31} (hl : l.length ≤ 35184372088832) {k : Nat} (hk : l.length < k) : laws_eqExchangeS.f k l l = some true := by
  unfold laws_eqExchangeS.f
  rw [if_pos rfl]
  exact laws_eqExchangeS_loop l (by omega) l.length k 0 (by omega) (by omega) hk

def V (x : S31) : Bool := vx x.f0 x.f1 x.f2 x.f3
def Y (x : S31) : Int := wy x.f0 x.f1 x.f2 x.f3
/-- The first of those with the least way, from i on. -/
def bst (l : List S31) : Int → Int → Nat → Int
  | b, _, 0 => b
  | b, i, d + 1 => bst l (if b < 0 ∨ Y (rd_T31 l i) < Y (rd_T31 l b) then i else b) (i + 1) d
theorem bst_lt (l : List S31) : ∀ (d : Nat) (b i : Int), -1 ≤ b → b < i → 0 ≤ i → -1 ≤ bst l b i d ∧ bst l b i d < i + d
  | 0, b, i, h0, h1, _ => by simp [bst]; omega
  | d + 1, b, i, h0, h1, h2 => by
    simp only [bst]
    split
    · have := bst_lt l d i (i + 1) (by omega) (by omega) (by omega); omega
    · have := bst_lt l d b (i + 1) (by omega) (by omega) (by omega); omega
theorem rd31_drop {l : List S31} {i : Int} (h0 : 0 ≤ i) (h : i.toNat < l.length) : l.drop i.toNat = rd_T31 l i :: l.drop (i + 1).toNat := by
  rw [List.drop_eq_getElem_cons h, show (i + 1).toNat = i.toNat + 1 by omega]
  unfold rd_T31
  rw [List.getD_eq_getElem?_getD, List.getElem?_eq_getElem h]
  rfl
theorem impl_best_loop (l : List S31) (hl : l.length ≤ 9223372036854775806) (d : Nat) : ∀ (k : Nat) (b i : Int), 0 ≤ i → i + d = l.length → d < k → -1 ≤ b → b < i →
    impl_BestOf.l0 k l b l (l.length : Int) i = some (bst l b i d) := by
  induction d with
  | zero =>
    intro k b i h0 h1 hk hb hb2
    obtain ⟨k, rfl⟩ : ∃ m, k = m + 1 := ⟨k - 1, by omega⟩
    simp only [impl_BestOf.l0]
    rw [if_neg (by omega)]
    rfl
  | succ d ih =>
    intro k b i h0 h1 hk hb hb2
    obtain ⟨k, rfl⟩ : ∃ m, k = m + 1 := ⟨k - 1, by omega⟩
    simp only [impl_BestOf.l0, impl_way, Option.bind_some]
    rw [if_pos (by omega), if_pos h0, if_pos (by omega), w_in (by omega) (by omega), ih k i (i + 1) (by omega) (by omega) (by omega) (by omega) (by omega), ih k b (i + 1) (by omega) (by omega) (by omega) (by omega) (by omega)]
    simp only [bst]
    by_cases h : b < 0
    · rw [if_pos h, if_pos (Or.inl h)]
    · rw [if_neg h, if_pos (by omega), if_pos (by omega)]
      by_cases hy : Y (rd_T31 l i) < Y (rd_T31 l b)
      · rw [if_pos (Or.inr hy)]
        exact if_pos hy
      · rw [if_neg (show ¬ (b < 0 ∨ Y (rd_T31 l i) < Y (rd_T31 l b)) from fun hh => hh.elim h hy)]
        exact if_neg hy
theorem spec_best_loop (l : List S31) (hl : l.length ≤ 40) (d : Nat) : ∀ (k : Nat) (b i : Int), 0 ≤ i → i + d = l.length → 2 * d < k → -1 ≤ b → b < i →
    spec_BestOf.l0 k l b i = some (if (l.drop i.toNat).all V = true then bst l b i d else -1) := by
  induction d with
  | zero =>
    intro k b i h0 h1 hk hb hb2
    obtain ⟨k, rfl⟩ : ∃ m, k = m + 1 := ⟨k - 1, by omega⟩
    simp only [spec_BestOf.l0]
    rw [if_neg (by omega), List.drop_eq_nil_of_le (by omega)]
    rfl
  | succ d ih =>
    intro k b i h0 h1 hk hb hb2
    obtain ⟨k, rfl⟩ : ∃ m, k = m + 1 + 1 := ⟨k - 2, by omega⟩
    simp only [spec_BestOf.l0, spec_valid, Option.bind_some]
    rw [if_pos (by omega), if_pos h0, rd31_drop h0 (by omega)]
    by_cases hv : vx (rd_T31 l i).f0 (rd_T31 l i).f1 (rd_T31 l i).f2 (rd_T31 l i).f3 = true
    · rw [if_pos hv]
      have hV : V (rd_T31 l i) = true := hv
      simp only [spec_BestOf.j1, spec_way, Option.bind_some]
      rw [if_neg (by simp; omega), w_in (by omega) (by omega), ih k i (i + 1) (by omega) (by omega) (by omega) (by omega) (by omega), ih k b (i + 1) (by omega) (by omega) (by omega) (by omega) (by omega)]
      simp only [bst, List.all_cons, hV, Bool.true_and]
      by_cases h : b < 0
      · rw [if_pos h, if_pos (Or.inl h)]
      · rw [if_neg h, if_pos h0, if_pos (by omega), if_pos (by omega), if_pos (by omega)]
        by_cases hy : Y (rd_T31 l i) < Y (rd_T31 l b)
        · rw [if_pos (Or.inr hy)]
          exact if_pos hy
        · rw [if_neg (show ¬ (b < 0 ∨ Y (rd_T31 l i) < Y (rd_T31 l b)) from fun hh => hh.elim h hy)]
          exact if_neg hy
    · rw [if_neg hv]
      have hV : V (rd_T31 l i) = false := (Bool.not_eq_true _).mp hv
      simp only [spec_BestOf.j1, if_true, List.all_cons, hV, Bool.false_and, Bool.false_eq_true, if_false]
def bestv (l : List S31) : Int := if l.length ≤ 40 ∧ l.all V = true then bst l (-1) 0 l.length else -1
theorem spec_best {l : List S31} (hl : l.length ≤ 9223372036854775806) {k : Nat} (hk : 100 < k) : spec_BestOf.f k l = some (bestv l) := by
  unfold spec_BestOf.f bestv
  by_cases h : l.length ≤ 40
  · rw [spec_best_loop l h l.length k (-1) 0 (by omega) (by omega) (by omega) (by omega) (by omega)]
    simp [h]
  · rw [if_neg (by omega)]
    obtain ⟨k, rfl⟩ : ∃ m, k = m + 1 + 1 := ⟨k - 2, by omega⟩
    simp only [spec_BestOf.l0, spec_valid, Option.bind_some]
    rw [if_pos (by omega), if_pos (by omega)]
    have e : decide ((l.length : Int) > 40) = true := by simp; omega
    simp only [spec_BestOf.j1, e, if_true]
    split <;> rfl
theorem impl_best {l : List S31} (hl : l.length ≤ 9223372036854775806) {k : Nat} (hk : 100 < k) : impl_BestOf.f k l = some (bestv l) := by
  unfold impl_BestOf.f bestv all_impl_ExchangeValid.f
  obtain ⟨k, rfl⟩ : ∃ m, k = m + 1 := ⟨k - 1, by omega⟩
  by_cases h : l.length ≤ 40
  · rw [if_neg (by omega), allO_total (q := V) l (fun x _ => impl_valid _ _ _ _)]
    simp only [Option.bind_some, impl_BestOf.j0]
    cases hv : l.all V with
    | true =>
      simp only [Bool.not_true, Bool.false_eq_true, if_false, h, and_self, if_true]
      exact impl_best_loop l hl l.length k (-1) 0 (by omega) (by omega) (by omega) (by omega) (by omega)
    | false => simp
  · rw [if_pos (by omega), if_neg (by omega)]
    simp only [impl_BestOf.j0, if_true]

theorem FnExactBestOf : laws_FnExactBestOf.Pure := by
  intro l hl
  refine ⟨l.length + 1000, ?_⟩
  have hm : l.length ≤ 9223372036854775807 := by have := hl.1; simp only [maxLen] at this; omega
  unfold laws_FnExactBestOf.f laws_szExchangeS.f
  rw [w_in (by omega) (by omega)]
  by_cases h : (1048576 : Int) - (l.length : Int) < 0
  · rw [if_pos h]
    simp only [Option.bind_some]
    rw [if_pos (by omega)]
  · rw [if_neg h]
    simp only [Option.bind_some]
    rw [if_neg h]
    have e := laws_toExchangeS_ok (l := l) (by omega) (k := l.length + 1000) (by omega)
    have hlen : (l.map cv_laws_toExchangeS).length = l.length := by simp
    simp only [e, Option.bind_some, spec_best (l := l.map cv_laws_toExchangeS) (by omega) (k := l.length + 1000) (by omega), impl_best (l := l.map cv_laws_toExchangeS) (by omega) (k := l.length + 1000) (by omega), laws_eqExchangeS_ok (l := l.map cv_laws_toExchangeS) (by omega) (k := l.length + 1000) (by omega), if_true]


end Go.Proofs.Ytekbfebjbpnhgaa.Pure
