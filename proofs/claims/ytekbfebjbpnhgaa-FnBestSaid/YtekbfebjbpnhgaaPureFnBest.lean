/- The pure part of FnBest: for every text of at most 2^47 bytes the law answers true. -/
import Derived.Test.YtekbfebjbpnhgaaPFnBestx5
import Derived.Laws.BitsLemmas
import Derived.OpenShut
namespace Go.Proofs.Ytekbfebjbpnhgaa.Pure
set_option linter.unusedVariables false
set_option linter.unusedSimpArgs false
open Go.RowKit Go.OpenShut Go.Proofs.Ytekbfebjbpnhgaa.PFnBest Go.Proofs.YtekbfebjbpnhgaaW.PrintWords Go.Proofs.YtekbfebjbpnhgaaW.PrintLast

theorem w_in {n : Int} (h0 : -9223372036854775808 ≤ n) (h1 : n ≤ 9223372036854775807) : wrap64 n = n := by unfold wrap64; omega

/-- A byte list's reader never fails: what 'pick' answers. -/
theorem b_rd {b : List Int} (hb : ∀ x ∈ b, 0 ≤ x ∧ x ≤ 255) (i : Int) : 0 ≤ rd b i ∧ rd b i ≤ 255 := by
  unfold rd
  rw [List.getD_eq_getElem?_getD]
  cases h : b[i.toNat]? with
  | none => simp
  | some x => exact hb x (List.mem_of_getElem? h)

theorem xor_nn {x y : Int} (hx0 : 0 ≤ x) (hx : x < 4611686018427387904) (hy0 : 0 ≤ y) (hy : y < 4611686018427387904) : 0 ≤ Go.bits .xor .i64 x y := by
  obtain ⟨a, rfl⟩ := Int.eq_ofNat_of_zero_le hx0
  obtain ⟨b, rfl⟩ := Int.eq_ofNat_of_zero_le hy0
  have ha : a < 2 ^ 62 := by simp; omega
  have hb : b < 2 ^ 62 := by simp; omega
  have hc : a ^^^ b < 2 ^ 62 := Nat.xor_lt_two_pow ha hb
  have ha' : a % 2 ^ 64 = a := Nat.mod_eq_of_lt (by simp at ha ⊢; omega)
  have hb' : b % 2 ^ 64 = b := Nat.mod_eq_of_lt (by simp at hb ⊢; omega)
  have key : (BitVec.ofNat 64 a ^^^ BitVec.ofNat 64 b).toNat = a ^^^ b := by rw [BitVec.toNat_xor, BitVec.toNat_ofNat, BitVec.toNat_ofNat, ha', hb']
  have e : Go.bits .xor .i64 (a : Int) (b : Int) = IntKind.i64.wrap (((BitVec.ofNat 64 a ^^^ BitVec.ofNat 64 b).toNat : Nat) : Int) := by
    simp only [Go.bits, BitVec.ofInt_natCast]
    rfl
  rw [e, key, IntKind.wrap_i64]
  generalize a ^^^ b = c at hc
  simp at hc
  omega

theorem tm_bd {x n : Int} (hx : 0 ≤ x) (hn : 0 < n) : 0 ≤ Int.tmod x n ∧ Int.tmod x n < n := by
  rw [Int.tmod_eq_emod_of_nonneg hx]
  exact ⟨Int.emod_nonneg _ (by omega), Int.emod_lt_of_pos _ hn⟩

theorem pick_ok {k : Nat} {b : List Int} {p n : Int} (hb : ∀ x ∈ b, 0 ≤ x ∧ x ≤ 255) (hp0 : 0 ≤ p) (hp : p ≤ 100000000) (hn : 1 ≤ n) (hk : 0 < k) :
    ∃ v, spec_l21Rd_pick.f k b p n = some (v, p + 1) ∧ 0 ≤ v ∧ v < n := by
  obtain ⟨k, rfl⟩ : ∃ m, k = m + 1 := ⟨k - 1, by omega⟩
  have e1 : wrap64 (p + 1) = p + 1 := w_in (by omega) (by omega)
  have e2 : wrap64 (p + 1 - 1) = p := by rw [show p + 1 - 1 = p by omega]; exact w_in (by omega) (by omega)
  unfold spec_l21Rd_pick.f
  rw [if_neg (by omega), e1]
  simp only [spec_l21Rd_pick.j0, e2]
  by_cases h0 : b.length = 0
  · rw [if_pos (by simp [h0])]
    exact ⟨0, rfl, by omega, by omega⟩
  rw [if_neg (by simp; intro h; simp [h] at h0)]
  have hl : 0 < (b.length : Int) := by omega
  by_cases h1 : p < (b.length : Int)
  · rw [if_pos h1, if_pos hp0, if_neg (by omega)]
    have := b_rd hb p
    rw [w_in (n := rd b p) (by omega) (by omega)]
    exact ⟨_, rfl, (tm_bd this.1 (by omega)).1, (tm_bd this.1 (by omega)).2⟩
  rw [if_neg h1, if_neg (by omega)]
  have m1 := tm_bd (x := p) (n := b.length) hp0 hl
  have e3 : wrap64 (p * 7) = p * 7 := w_in (by omega) (by omega)
  have e4 : wrap64 (p * 7 + 3) = p * 7 + 3 := w_in (by omega) (by omega)
  have m2 := tm_bd (x := p * 7 + 3) (n := b.length) (by omega) hl
  rw [e3, e4, if_pos m1.1, if_pos m1.2, if_pos m2.1, if_pos m2.2, if_neg (by omega)]
  have r1 := b_rd hb (Int.tmod p b.length)
  have r2 := b_rd hb (Int.tmod (p * 7 + 3) b.length)
  generalize rd b (Int.tmod p b.length) = u at r1
  generalize rd b (Int.tmod (p * 7 + 3) b.length) = v at r2
  have d1 : 0 ≤ Int.tdiv p b.length ∧ Int.tdiv p b.length ≤ p := by
    rw [Int.tdiv_eq_ediv_of_nonneg hp0]
    exact ⟨Int.ediv_nonneg hp0 (by omega), Int.ediv_le_self _ hp0⟩
  generalize Int.tdiv p b.length = d at d1
  have e5 : wrap64 (wrap64 (wrap64 (wrap64 (wrap64 u * 131) + wrap64 (wrap64 v * 1117)) + wrap64 (p * 29)) + wrap64 (wrap64 d * 53)) = u * 131 + v * 1117 + p * 29 + d * 53 := by
    rw [w_in (n := u) (by omega) (by omega), w_in (n := v) (by omega) (by omega), w_in (n := d) (by omega) (by omega), w_in (n := u * 131) (by omega) (by omega), w_in (n := v * 1117) (by omega) (by omega), w_in (n := p * 29) (by omega) (by omega), w_in (n := d * 53) (by omega) (by omega), w_in (n := u * 131 + v * 1117) (by omega) (by omega), w_in (n := u * 131 + v * 1117 + p * 29) (by omega) (by omega), w_in (by omega) (by omega)]
  rw [e5]
  have hx0 : 0 ≤ u * 131 + v * 1117 + p * 29 + d * 53 := by omega
  have hx1 : u * 131 + v * 1117 + p * 29 + d * 53 < 4611686018427387904 := by omega
  generalize u * 131 + v * 1117 + p * 29 + d * 53 = x at hx0 hx1
  have d2 : 0 ≤ Int.tdiv x 64 ∧ Int.tdiv x 64 < 4611686018427387904 := by
    rw [Int.tdiv_eq_ediv_of_nonneg hx0]
    omega
  rw [w_in (n := Int.tdiv x 64) (by omega) (by omega)]
  have hz := xor_nn hx0 hx1 d2.1 d2.2
  exact ⟨_, rfl, (tm_bd hz (by omega)).1, (tm_bd hz (by omega)).2⟩

theorem num_ok {k : Nat} {b : List Int} {p : Int} {xs : List Int} (hb : ∀ x ∈ b, 0 ≤ x ∧ x ≤ 255) (hp0 : 0 ≤ p) (hp : p ≤ 100000000) (hn : 1 ≤ xs.length) (hk : 0 < k) :
    ∃ v, spec_l21Rd_num.f k b p xs = some (v, p + 1) ∧ v ∈ xs := by
  obtain ⟨i, hi, h0, h1⟩ := pick_ok (n := (xs.length : Int)) hb hp0 hp (by omega) hk
  refine ⟨rd xs i, ?_, ?_⟩
  · unfold spec_l21Rd_num.f
    rw [hi]
    simp only [Option.bind_some]
    rw [if_pos h0, if_pos h1]
  · unfold rd
    rw [List.getD_eq_getElem?_getD, List.getElem?_eq_getElem (by omega)]
    exact List.getElem_mem _

theorem open_ok {l : List Int} (hl : ∀ x ∈ l, (Lit.int .u8 x).wf = true) : ∃ b, spec_l21Open.f l = some (b, 0) ∧ ∀ x ∈ b, 0 ≤ x ∧ x ≤ 255 := by
  have hb : ∀ x ∈ l, 0 ≤ x ∧ x ≤ 255 := fun x hx => bounds_u8 (hl x hx)
  unfold spec_l21Open.f
  by_cases h : (l.length : Int) > 2000
  · rw [if_pos h, if_pos (by omega)]
    exact ⟨_, rfl, fun x hx => hb x (List.mem_of_mem_take hx)⟩
  · rw [if_neg h]
    exact ⟨_, rfl, hb⟩

theorem allO_total {α : Type} {p : α → Option Bool} {q : α → Bool} : ∀ (l : List α), (∀ x ∈ l, p x = some (q x)) → allO p l = some (l.all q)
  | [], _ => rfl
  | x :: xs, h => by
    have ih := allO_total xs (fun y hy => h y (List.mem_cons_of_mem _ hy))
    simp only [allO, h x (List.mem_cons_self), Option.bind_some, List.all_cons]
    cases q x
    · simp
    · simpa using ih

/-- Is it an exchange? -/
def vx (a b c d : Int) : Bool := decide (-1000000 ≤ a ∧ a ≤ 1000000) && decide (-1000000 ≤ b ∧ b ≤ 1000000) && decide (-1000000 ≤ c ∧ c ≤ 1000000) && decide (-1000000 ≤ d ∧ d ≤ 1000000) && decide (d ≥ a) && decide (c ≥ b) && decide (d - a ≥ c - b)

theorem vx_iff {a b c d : Int} : vx a b c d = true ↔ (-1000000 ≤ a ∧ a ≤ 1000000) ∧ (-1000000 ≤ b ∧ b ≤ 1000000) ∧ (-1000000 ≤ c ∧ c ≤ 1000000) ∧ (-1000000 ≤ d ∧ d ≤ 1000000) ∧ a ≤ d ∧ b ≤ c ∧ c - b ≤ d - a := by
  simp [vx]
  omega

theorem spec_time (a : Int) : spec_l15Time.f a = some (decide (-1000000 ≤ a ∧ a ≤ 1000000)) := by
  unfold spec_l15Time.f spec_l1In.f
  by_cases h : -1000000 ≤ a <;> simp [h]
theorem impl_time (a : Int) : impl_isTime.f a = some (decide (-1000000 ≤ a ∧ a ≤ 1000000)) := by
  unfold impl_isTime.f impl_within.f
  by_cases h : -1000000 ≤ a <;> simp [h]

theorem spec_valid (a b c d : Int) : spec_ExchangeValid.f a b c d = some (vx a b c d) := by
  unfold spec_ExchangeValid.f
  simp only [spec_time, Option.bind_some, decide_eq_true_eq]
  by_cases h1 : -1000000 ≤ a ∧ a ≤ 1000000
  · by_cases h2 : -1000000 ≤ b ∧ b ≤ 1000000
    · by_cases h3 : -1000000 ≤ c ∧ c ≤ 1000000
      · by_cases h4 : -1000000 ≤ d ∧ d ≤ 1000000
        · rw [w_in (n := d - a) (by omega) (by omega), w_in (n := c - b) (by omega) (by omega)]
          by_cases h5 : a ≤ d <;> by_cases h6 : b ≤ c <;> simp [vx, h1, h2, h3, h4, h5, h6]
        · simp [vx, h1, h2, h3, h4]
      · simp [vx, h1, h2, h3]
    · simp [vx, h1, h2]
  · simp [vx, h1]
theorem impl_valid (a b c d : Int) : impl_ExchangeValid.f a b c d = some (vx a b c d) := by
  unfold impl_ExchangeValid.f
  simp only [impl_time, Option.bind_some, decide_eq_true_eq]
  by_cases h1 : -1000000 ≤ a ∧ a ≤ 1000000
  · by_cases h2 : -1000000 ≤ b ∧ b ≤ 1000000
    · by_cases h3 : -1000000 ≤ c ∧ c ≤ 1000000
      · by_cases h4 : -1000000 ≤ d ∧ d ≤ 1000000
        · rw [w_in (n := d - a) (by omega) (by omega), w_in (n := c - b) (by omega) (by omega)]
          by_cases h5 : a ≤ d <;> by_cases h6 : b ≤ c <;> simp [vx, h1, h2, h3, h4, h5, h6]
        · simp [vx, h1, h2, h3, h4]
      · simp [vx, h1, h2, h3]
    · simp [vx, h1, h2]
  · simp [vx, h1]

def tw (a b c d : Int) : Int := if vx a b c d = true then b - a + c - d else 0
def wy (a b c d : Int) : Int := if vx a b c d = true then d - a - (c - b) else -1

theorem tw_bd {a b c d : Int} (h : vx a b c d = true) : tw a b c d = b - a + c - d ∧ wy a b c d = d - a - (c - b) := by
  unfold tw wy; rw [if_pos h, if_pos h]; exact ⟨rfl, rfl⟩

theorem spec_way (a b c d : Int) : spec_WayOf.f a b c d = some (wy a b c d) := by
  unfold spec_WayOf.f wy
  simp only [spec_valid, Option.bind_some]
  by_cases h : vx a b c d = true
  · rw [if_pos h, if_pos h]
    rw [vx_iff] at h
    rw [w_in (n := d - a) (by omega) (by omega), w_in (n := c - b) (by omega) (by omega), w_in (by omega) (by omega)]
  · rw [if_neg h, if_neg h]
theorem impl_way (a b c d : Int) : impl_WayOf.f a b c d = some (wy a b c d) := by
  unfold impl_WayOf.f wy
  simp only [impl_valid, Option.bind_some]
  by_cases h : vx a b c d = true
  · rw [if_pos h, if_pos h]
    rw [vx_iff] at h
    rw [w_in (n := d - a) (by omega) (by omega), w_in (n := c - b) (by omega) (by omega), w_in (by omega) (by omega)]
  · rw [if_neg h, if_neg h]

def V (x : S31) : Bool := vx x.f0 x.f1 x.f2 x.f3
def Y (x : S31) : Int := wy x.f0 x.f1 x.f2 x.f3
/-- The first of those with the least way, from i on. -/
def bst (l : List S31) : Int → Int → Nat → Int
  | b, _, 0 => b
  | b, i, d + 1 => bst l (if b < 0 ∨ Y (rd_T31 l i) < Y (rd_T31 l b) then i else b) (i + 1) d
theorem bst_lt (l : List S31) : ∀ (d : Nat) (b i : Int), -1 ≤ b → b < i → 0 ≤ i → -1 ≤ bst l b i d ∧ bst l b i d < i + d
  | 0, b, i, h0, h1, _ => by simp [bst]; omega
  | d + 1, b, i, h0, h1, h2 => by
    simp only [bst]
    split
    · have := bst_lt l d i (i + 1) (by omega) (by omega) (by omega); omega
    · have := bst_lt l d b (i + 1) (by omega) (by omega) (by omega); omega
theorem rd31_drop {l : List S31} {i : Int} (h0 : 0 ≤ i) (h : i.toNat < l.length) : l.drop i.toNat = rd_T31 l i :: l.drop (i + 1).toNat := by
  rw [List.drop_eq_getElem_cons h, show (i + 1).toNat = i.toNat + 1 by omega]
  unfold rd_T31
  rw [List.getD_eq_getElem?_getD, List.getElem?_eq_getElem h]
  rfl
theorem impl_best_loop (l : List S31) (hl : l.length ≤ 9223372036854775806) (d : Nat) : ∀ (k : Nat) (b i : Int), 0 ≤ i → i + d = l.length → d < k → -1 ≤ b → b < i →
    impl_BestOf.l0 k l b l (l.length : Int) i = some (bst l b i d) := by
  induction d with
  | zero =>
    intro k b i h0 h1 hk hb hb2
    obtain ⟨k, rfl⟩ : ∃ m, k = m + 1 := ⟨k - 1, by omega⟩
    simp only [impl_BestOf.l0]
    rw [if_neg (by omega)]
    rfl
  | succ d ih =>
    intro k b i h0 h1 hk hb hb2
    obtain ⟨k, rfl⟩ : ∃ m, k = m + 1 := ⟨k - 1, by omega⟩
    simp only [impl_BestOf.l0, impl_way, Option.bind_some]
    rw [if_pos (by omega), if_pos h0, if_pos (by omega), w_in (by omega) (by omega), ih k i (i + 1) (by omega) (by omega) (by omega) (by omega) (by omega), ih k b (i + 1) (by omega) (by omega) (by omega) (by omega) (by omega)]
    simp only [bst]
    by_cases h : b < 0
    · rw [if_pos h, if_pos (Or.inl h)]
    · rw [if_neg h, if_pos (by omega), if_pos (by omega)]
      by_cases hy : Y (rd_T31 l i) < Y (rd_T31 l b)
      · rw [if_pos (Or.inr hy)]
        exact if_pos hy
      · rw [if_neg (show ¬ (b < 0 ∨ Y (rd_T31 l i) < Y (rd_T31 l b)) from fun hh => hh.elim h hy)]
        exact if_neg hy
theorem spec_best_loop (l : List S31) (hl : l.length ≤ 40) (d : Nat) : ∀ (k : Nat) (b i : Int), 0 ≤ i → i + d = l.length → 2 * d < k → -1 ≤ b → b < i →
    spec_BestOf.l0 k l b i = some (if (l.drop i.toNat).all V = true then bst l b i d else -1) := by
  induction d with
  | zero =>
    intro k b i h0 h1 hk hb hb2
    obtain ⟨k, rfl⟩ : ∃ m, k = m + 1 := ⟨k - 1, by omega⟩
    simp only [spec_BestOf.l0]
    rw [if_neg (by omega), List.drop_eq_nil_of_le (by omega)]
    rfl
  | succ d ih =>
    intro k b i h0 h1 hk hb hb2
    obtain ⟨k, rfl⟩ : ∃ m, k = m + 1 + 1 := ⟨k - 2, by omega⟩
    simp only [spec_BestOf.l0, spec_valid, Option.bind_some]
    rw [if_pos (by omega), if_pos h0, rd31_drop h0 (by omega)]
    by_cases hv : vx (rd_T31 l i).f0 (rd_T31 l i).f1 (rd_T31 l i).f2 (rd_T31 l i).f3 = true
    · rw [if_pos hv]
      have hV : V (rd_T31 l i) = true := hv
      simp only [spec_BestOf.j1, spec_way, Option.bind_some]
      rw [if_neg (by simp; omega), w_in (by omega) (by omega), ih k i (i + 1) (by omega) (by omega) (by omega) (by omega) (by omega), ih k b (i + 1) (by omega) (by omega) (by omega) (by omega) (by omega)]
      simp only [bst, List.all_cons, hV, Bool.true_and]
      by_cases h : b < 0
      · rw [if_pos h, if_pos (Or.inl h)]
      · rw [if_neg h, if_pos h0, if_pos (by omega), if_pos (by omega), if_pos (by omega)]
        by_cases hy : Y (rd_T31 l i) < Y (rd_T31 l b)
        · rw [if_pos (Or.inr hy)]
          exact if_pos hy
        · rw [if_neg (show ¬ (b < 0 ∨ Y (rd_T31 l i) < Y (rd_T31 l b)) from fun hh => hh.elim h hy)]
          exact if_neg hy
    · rw [if_neg hv]
      have hV : V (rd_T31 l i) = false := (Bool.not_eq_true _).mp hv
      simp only [spec_BestOf.j1, if_true, List.all_cons, hV, Bool.false_and, Bool.false_eq_true, if_false]
def bestv (l : List S31) : Int := if l.length ≤ 40 ∧ l.all V = true then bst l (-1) 0 l.length else -1
theorem spec_best {l : List S31} (hl : l.length ≤ 9223372036854775806) {k : Nat} (hk : 100 < k) : spec_BestOf.f k l = some (bestv l) := by
  unfold spec_BestOf.f bestv
  by_cases h : l.length ≤ 40
  · rw [spec_best_loop l h l.length k (-1) 0 (by omega) (by omega) (by omega) (by omega) (by omega)]
    simp [h]
  · rw [if_neg (by omega)]
    obtain ⟨k, rfl⟩ : ∃ m, k = m + 1 + 1 := ⟨k - 2, by omega⟩
    simp only [spec_BestOf.l0, spec_valid, Option.bind_some]
    rw [if_pos (by omega), if_pos (by omega)]
    have e : decide ((l.length : Int) > 40) = true := by simp; omega
    simp only [spec_BestOf.j1, e, if_true]
    split <;> rfl
theorem impl_best {l : List S31} (hl : l.length ≤ 9223372036854775806) {k : Nat} (hk : 100 < k) : impl_BestOf.f k l = some (bestv l) := by
  unfold impl_BestOf.f bestv all_impl_ExchangeValid.f
  obtain ⟨k, rfl⟩ : ∃ m, k = m + 1 := ⟨k - 1, by omega⟩
  by_cases h : l.length ≤ 40
  · rw [if_neg (by omega), allO_total (q := V) l (fun x _ => impl_valid _ _ _ _)]
    simp only [Option.bind_some, impl_BestOf.j0]
    cases hv : l.all V with
    | true =>
      simp only [Bool.not_true, Bool.false_eq_true, if_false, h, and_self, if_true]
      exact impl_best_loop l hl l.length k (-1) 0 (by omega) (by omega) (by omega) (by omega) (by omega)
    | false => simp
  · rw [if_pos (by omega), if_neg (by omega)]
    simp only [impl_BestOf.j0, if_true]

theorem talk_some (k : Nat) (hk : 0 < k) (a b c d e : Int) : ∃ r, spec_TalkTimes.f k a b c d e = some r := by
  obtain ⟨k, rfl⟩ : ∃ m, k = m + 1 := ⟨k - 1, by omega⟩
  have hj : ∀ t, ∃ r, spec_TalkTimes.j0 (k + 1) a b c d e t = some r := fun t => by
    simp only [spec_TalkTimes.j0, spec_valid, Option.bind_some]
    repeat' split
    all_goals exact ⟨_, rfl⟩
  have hin : ∀ x y z, ∃ r, spec_l1In.f x y z = some r := fun x y z => by unfold spec_l1In.f; split <;> exact ⟨_, rfl⟩
  unfold spec_TalkTimes.f
  obtain ⟨r1, e1⟩ := hin b 0 1000
  obtain ⟨r2, e2⟩ := hin c 0 1000
  obtain ⟨r3, e3⟩ := hin d 0 1000
  rw [e1]; simp only [Option.bind_some]
  split
  · rw [e2]; simp only [Option.bind_some]
    split
    · rw [e3]; simp only [Option.bind_some]
      split
      · simp only [spec_time, Option.bind_some]
        split
        · exact hj _
        · exact hj _
      · exact hj _
    · exact hj _
  · exact hj _

theorem bst_best (l : List S31) : ∀ (d : Nat) (b i : Int), 0 ≤ i → (b < 0 → i = 0) → (0 ≤ b → b < i ∧ ∀ j, 0 ≤ j → j < i → Y (rd_T31 l b) ≤ Y (rd_T31 l j) ∧ (Y (rd_T31 l b) = Y (rd_T31 l j) → b ≤ j)) →
    0 ≤ bst l b i d → ∀ j, 0 ≤ j → j < i + d → Y (rd_T31 l (bst l b i d)) ≤ Y (rd_T31 l j) ∧ (Y (rd_T31 l (bst l b i d)) = Y (rd_T31 l j) → bst l b i d ≤ j)
  | 0, b, i, h0, hb, hbest, hr, j, hj0, hj => (hbest hr).2 j hj0 (by omega)
  | d + 1, b, i, h0, hb, hbest, hr, j, hj0, hj => by
    simp only [bst] at hr ⊢
    by_cases hc : b < 0 ∨ Y (rd_T31 l i) < Y (rd_T31 l b)
    · rw [if_pos hc] at hr ⊢
      refine bst_best l d i (i + 1) (by omega) (by omega) (fun _ => ⟨by omega, fun j hj0 hj => ?_⟩) hr j hj0 (by omega)
      by_cases e : j = i
      · subst e; exact ⟨Int.le_refl _, fun _ => Int.le_refl _⟩
      · by_cases hb0 : b < 0
        · have := hb hb0; omega
        · have h1 := (hbest (by omega)).2 j hj0 (by omega)
          have h2 : Y (rd_T31 l i) < Y (rd_T31 l b) := hc.resolve_left hb0
          exact ⟨by omega, fun h3 => by omega⟩
    · rw [if_neg hc] at hr ⊢
      have hb0 : ¬ b < 0 := fun h => hc (Or.inl h)
      have h2 : ¬ Y (rd_T31 l i) < Y (rd_T31 l b) := fun h => hc (Or.inr h)
      have h3 := hbest (by omega)
      refine bst_best l d b (i + 1) (by omega) (by omega) (fun _ => ⟨by omega, fun j hj0 hj => ?_⟩) hr j hj0 (by omega)
      by_cases e : j = i
      · subst e; exact ⟨by omega, fun _ => by omega⟩
      · exact h3.2 j hj0 (by omega)

theorem draw15_some {b : List Int} (hb : ∀ x ∈ b, 0 ≤ x ∧ x ≤ 255) {k : Nat} (hk : 0 < k) {p : Int} (hp0 : 0 ≤ p) (hp : p ≤ 1000000) : ∃ r0 r1 r2 r3 p', spec_l15Draw.f k b p = some (r0, r1, r2, r3, p') ∧ p ≤ p' ∧ p' ≤ p + 10 := by
  unfold spec_l15Draw.f
  obtain ⟨v1, e1, _⟩ := num_ok (k := k) (b := b) (p := p) (xs := [0, 5, -5, 300, -300, 70000]) hb (by omega) (by omega) (by simp) (by omega)
  obtain ⟨v2, e2, _, _⟩ := pick_ok (k := k) (b := b) (p := p + 1) (n := 60) hb (by omega) (by omega) (by omega) (by omega)
  obtain ⟨v3, e3, _, _⟩ := pick_ok (k := k) (b := b) (p := p + 1 + 1) (n := 20) hb (by omega) (by omega) (by omega) (by omega)
  obtain ⟨v4, e4, _, _⟩ := pick_ok (k := k) (b := b) (p := p + 1 + 1 + 1) (n := 60) hb (by omega) (by omega) (by omega) (by omega)
  obtain ⟨v5, e5, _⟩ := num_ok (k := k) (b := b) (p := p + 1 + 1 + 1 + 1) (xs := [0, 100, 5000, -700]) hb (by omega) (by omega) (by simp) (by omega)
  obtain ⟨v6, e6⟩ := talk_some k hk v1 v2 v3 v4 v5
  obtain ⟨v7, e7, _, _⟩ := pick_ok (k := k) (b := b) (p := p + 1 + 1 + 1 + 1 + 1) (n := 45) hb (by omega) (by omega) (by omega) (by omega)
  rw [e1]; simp only [Option.bind_some]
  rw [e2]; simp only [Option.bind_some]
  rw [e3]; simp only [Option.bind_some]
  rw [e4]; simp only [Option.bind_some]
  rw [e5]; simp only [Option.bind_some]
  rw [e6]; simp only [Option.bind_some]
  rw [e7]; simp only [Option.bind_some]
  split
  · exact ⟨_, _, _, _, _, rfl, by omega, by omega⟩
  split
  · obtain ⟨v8, e8, _⟩ := num_ok (k := k) (b := b) (p := p + 1 + 1 + 1 + 1 + 1 + 1) (xs := [wrap64 (v6.2.1 - 1), wrap64 (v6.2.1 + 5000)]) hb (by omega) (by omega) (by simp) (by omega)
    rw [e8]; simp only [Option.bind_some]
    exact ⟨_, _, _, _, _, rfl, by omega, by omega⟩
  split
  · obtain ⟨v8, e8, _⟩ := num_ok (k := k) (b := b) (p := p + 1 + 1 + 1 + 1 + 1 + 1) (xs := [1000001, -1000001]) hb (by omega) (by omega) (by simp) (by omega)
    rw [e8]; simp only [Option.bind_some]
    exact ⟨_, _, _, _, _, rfl, by omega, by omega⟩
  · exact ⟨_, _, _, _, _, rfl, by omega, by omega⟩

theorem draw_best_loop {b : List Int} (hb : ∀ x ∈ b, 0 ≤ x ∧ x ≤ 255) (d : Nat) : ∀ (k : Nat) (x : List S31) (c p : Int), c = d → d + 1 < k → x.length + d ≤ 100 → 0 ≤ p → p + 10 * d ≤ 10000 →
    ∃ l, spec_DrawBestOf.l0 k x c b p = some l ∧ l.length ≤ x.length + d := by
  induction d with
  | zero =>
    intro k x c p hc hk hx hp hp2
    obtain ⟨k, rfl⟩ : ∃ m, k = m + 1 := ⟨k - 1, by omega⟩
    simp only [spec_DrawBestOf.l0]
    rw [if_neg (by omega)]
    exact ⟨_, rfl, by omega⟩
  | succ d ih =>
    intro k x c p hc hk hx hp hp2
    obtain ⟨k, rfl⟩ : ∃ m, k = m + 1 := ⟨k - 1, by omega⟩
    obtain ⟨r0, r1, r2, r3, p', e, h1, h2⟩ := draw15_some hb (k := k) (by omega) (p := p) hp (by omega)
    simp only [spec_DrawBestOf.l0]
    rw [if_pos (by omega), e]
    simp only [Option.bind_some]
    rw [if_pos (by omega), w_in (by omega) (by omega)]
    obtain ⟨l, el, hl⟩ := ih k (x ++ [⟨r0, r1, r2, r3⟩]) (c - 1) p' (by omega) (by omega) (by simp; omega) (by omega) (by omega)
    exact ⟨l, el, by simp at hl; omega⟩

theorem law_loop (l : List S31) (hl : l.length ≤ 1000) (r : Int) (hr0 : 0 ≤ r) (hr : r < l.length) (hbest : ∀ j : Int, 0 ≤ j → j < l.length → Y (rd_T31 l r) ≤ Y (rd_T31 l j) ∧ (Y (rd_T31 l r) = Y (rd_T31 l j) → r ≤ j)) (d : Nat) : ∀ (k : Nat) (i : Int), 0 ≤ i → i + d = l.length → d < k →
    laws_FnBest.l0 k l r l (l.length : Int) i = some true := by
  induction d with
  | zero =>
    intro k i h0 h1 hk
    obtain ⟨k, rfl⟩ : ∃ m, k = m + 1 := ⟨k - 1, by omega⟩
    simp only [laws_FnBest.l0]
    rw [if_neg (by omega)]
  | succ d ih =>
    intro k i h0 h1 hk
    obtain ⟨k, rfl⟩ : ∃ m, k = m + 1 := ⟨k - 1, by omega⟩
    have hb := hbest i h0 (by omega)
    simp only [laws_FnBest.l0, impl_way, Option.bind_some]
    rw [if_pos (by omega), if_pos h0, if_pos (by omega), if_pos hr0, if_pos hr, if_neg (by have := hb.1; unfold Y at this; omega), w_in (by omega) (by omega), ih k (i + 1) (by omega) (by omega) (by omega)]
    by_cases e : Y (rd_T31 l i) = Y (rd_T31 l r)
    · have := hb.2 e.symm
      exact (if_pos e).trans (if_neg (by omega))
    · exact if_neg e

theorem FnBest : laws_FnBest.Pure := by
  intro l0 _ _ hl0
  refine ⟨1001, ?_⟩
  unfold laws_FnBest.f
  by_cases hlen : (l0.length : Int) > 1048576
  · rw [if_pos hlen]
  rw [if_neg hlen]
  obtain ⟨b, e, hb⟩ := open_ok hl0
  obtain ⟨v, e1, hv0, hv1⟩ := pick_ok (k := 1001) (b := b) (p := 0) (n := 6) hb (by omega) (by omega) (by omega) (by omega)
  obtain ⟨l, e2, hl⟩ := draw_best_loop hb v.toNat 1001 [] v (0 + 1) (by omega) (by omega) (by simp; omega) (by omega) (by omega)
  have hl' : l.length ≤ 10 := by simp at hl; omega
  have ed : spec_DrawBestOf.f 1001 l0 = some l := by
    unfold spec_DrawBestOf.f
    rw [e]; simp only [Option.bind_some]
    rw [e1]; simp only [Option.bind_some]
    exact e2
  rw [ed]
  simp only [Option.bind_some]
  rw [spec_best (by omega) (by omega), impl_best (by omega) (by omega)]
  simp only [Option.bind_some, if_true, laws_FnBest.j0]
  rw [spec_best (by omega) (by omega)]
  have hlt := bst_lt l l.length (-1) 0 (by omega) (by omega) (by omega)
  by_cases h : bestv l < 0
  · rw [if_pos (by simpa using h)]
    have : bestv l = -1 := by
      unfold bestv at h ⊢
      split
      · rename_i hh
        rw [if_pos hh] at h
        omega
      · rfl
    rw [this]
    rfl
  · rw [if_neg (by simpa using h)]
    have hv : bestv l = bst l (-1) 0 l.length := by
      unfold bestv at h ⊢
      split
      · rfl
      · rename_i hh
        rw [if_neg hh] at h
        omega
    rw [hv] at h ⊢
    have hbest := bst_best l l.length (-1) 0 (by omega) (by omega) (by omega) (by omega)
    exact law_loop l (by omega) _ (by omega) (by omega) (fun j h0 h1 => hbest j h0 (by omega)) l.length 1000 0 (by omega) (by omega) (by omega)


end Go.Proofs.Ytekbfebjbpnhgaa.Pure
