/- The pure part of FnOpen: for every text of at most 2^47 bytes the law answers true. -/
import Derived.Test.YtcgbkbjldkackaaPFnOpenx3
import Derived.Laws.BitsLemmas
import Derived.OpenShut
namespace Go.Proofs.Ytcgbkbjldkackaa.Pure
set_option linter.unusedVariables false
set_option linter.unusedSimpArgs false
open Go.RowKit Go.OpenShut Go.Proofs.Ytcgbkbjldkackaa.PFnOpen Go.Proofs.YtcgbkbjldkackaaW.PrintWords Go.Proofs.YtcgbkbjldkackaaW.PrintLast

theorem w_in {n : Int} (h0 : -9223372036854775808 ≤ n) (h1 : n ≤ 9223372036854775807) : wrap64 n = n := by unfold wrap64; omega

/-- A byte list's reader never fails: what 'pick' answers. -/
theorem b_rd {b : List Int} (hb : ∀ x ∈ b, 0 ≤ x ∧ x ≤ 255) (i : Int) : 0 ≤ rd b i ∧ rd b i ≤ 255 := by
  unfold rd
  rw [List.getD_eq_getElem?_getD]
  cases h : b[i.toNat]? with
  | none => simp
  | some x => exact hb x (List.mem_of_getElem? h)

theorem xor_nn {x y : Int} (hx0 : 0 ≤ x) (hx : x < 4611686018427387904) (hy0 : 0 ≤ y) (hy : y < 4611686018427387904) : 0 ≤ Go.bits .xor .i64 x y := by
  obtain ⟨a, rfl⟩ := Int.eq_ofNat_of_zero_le hx0
  obtain ⟨b, rfl⟩ := Int.eq_ofNat_of_zero_le hy0
  have ha : a < 2 ^ 62 := by simp; omega
  have hb : b < 2 ^ 62 := by simp; omega
  have hc : a ^^^ b < 2 ^ 62 := Nat.xor_lt_two_pow ha hb
  have ha' : a % 2 ^ 64 = a := Nat.mod_eq_of_lt (by simp at ha ⊢; omega)
  have hb' : b % 2 ^ 64 = b := Nat.mod_eq_of_lt (by simp at hb ⊢; omega)
  have key : (BitVec.ofNat 64 a ^^^ BitVec.ofNat 64 b).toNat = a ^^^ b := by rw [BitVec.toNat_xor, BitVec.toNat_ofNat, BitVec.toNat_ofNat, ha', hb']
  have e : Go.bits .xor .i64 (a : Int) (b : Int) = IntKind.i64.wrap (((BitVec.ofNat 64 a ^^^ BitVec.ofNat 64 b).toNat : Nat) : Int) := by
    simp only [Go.bits, BitVec.ofInt_natCast]
    rfl
  rw [e, key, IntKind.wrap_i64]
  generalize a ^^^ b = c at hc
  simp at hc
  omega

theorem tm_bd {x n : Int} (hx : 0 ≤ x) (hn : 0 < n) : 0 ≤ Int.tmod x n ∧ Int.tmod x n < n := by
  rw [Int.tmod_eq_emod_of_nonneg hx]
  exact ⟨Int.emod_nonneg _ (by omega), Int.emod_lt_of_pos _ hn⟩

theorem pick_ok {k : Nat} {b : List Int} {p n : Int} (hb : ∀ x ∈ b, 0 ≤ x ∧ x ≤ 255) (hp0 : 0 ≤ p) (hp : p ≤ 100000000) (hn : 1 ≤ n) (hk : 0 < k) :
    ∃ v, spec_l21Rd_pick.f k b p n = some (v, p + 1) ∧ 0 ≤ v ∧ v < n := by
  obtain ⟨k, rfl⟩ : ∃ m, k = m + 1 := ⟨k - 1, by omega⟩
  have e1 : wrap64 (p + 1) = p + 1 := w_in (by omega) (by omega)
  have e2 : wrap64 (p + 1 - 1) = p := by rw [show p + 1 - 1 = p by omega]; exact w_in (by omega) (by omega)
  unfold spec_l21Rd_pick.f
  rw [if_neg (by omega), e1]
  simp only [spec_l21Rd_pick.j0, e2]
  by_cases h0 : b.length = 0
  · rw [if_pos (by simp [h0])]
    exact ⟨0, rfl, by omega, by omega⟩
  rw [if_neg (by simp; intro h; simp [h] at h0)]
  have hl : 0 < (b.length : Int) := by omega
  by_cases h1 : p < (b.length : Int)
  · rw [if_pos h1, if_pos hp0, if_neg (by omega)]
    have := b_rd hb p
    rw [w_in (n := rd b p) (by omega) (by omega)]
    exact ⟨_, rfl, (tm_bd this.1 (by omega)).1, (tm_bd this.1 (by omega)).2⟩
  rw [if_neg h1, if_neg (by omega)]
  have m1 := tm_bd (x := p) (n := b.length) hp0 hl
  have e3 : wrap64 (p * 7) = p * 7 := w_in (by omega) (by omega)
  have e4 : wrap64 (p * 7 + 3) = p * 7 + 3 := w_in (by omega) (by omega)
  have m2 := tm_bd (x := p * 7 + 3) (n := b.length) (by omega) hl
  rw [e3, e4, if_pos m1.1, if_pos m1.2, if_pos m2.1, if_pos m2.2, if_neg (by omega)]
  have r1 := b_rd hb (Int.tmod p b.length)
  have r2 := b_rd hb (Int.tmod (p * 7 + 3) b.length)
  generalize rd b (Int.tmod p b.length) = u at r1
  generalize rd b (Int.tmod (p * 7 + 3) b.length) = v at r2
  have d1 : 0 ≤ Int.tdiv p b.length ∧ Int.tdiv p b.length ≤ p := by
    rw [Int.tdiv_eq_ediv_of_nonneg hp0]
    exact ⟨Int.ediv_nonneg hp0 (by omega), Int.ediv_le_self _ hp0⟩
  generalize Int.tdiv p b.length = d at d1
  have e5 : wrap64 (wrap64 (wrap64 (wrap64 (wrap64 u * 131) + wrap64 (wrap64 v * 1117)) + wrap64 (p * 29)) + wrap64 (wrap64 d * 53)) = u * 131 + v * 1117 + p * 29 + d * 53 := by
    rw [w_in (n := u) (by omega) (by omega), w_in (n := v) (by omega) (by omega), w_in (n := d) (by omega) (by omega), w_in (n := u * 131) (by omega) (by omega), w_in (n := v * 1117) (by omega) (by omega), w_in (n := p * 29) (by omega) (by omega), w_in (n := d * 53) (by omega) (by omega), w_in (n := u * 131 + v * 1117) (by omega) (by omega), w_in (n := u * 131 + v * 1117 + p * 29) (by omega) (by omega), w_in (by omega) (by omega)]
  rw [e5]
  have hx0 : 0 ≤ u * 131 + v * 1117 + p * 29 + d * 53 := by omega
  have hx1 : u * 131 + v * 1117 + p * 29 + d * 53 < 4611686018427387904 := by omega
  generalize u * 131 + v * 1117 + p * 29 + d * 53 = x at hx0 hx1
  have d2 : 0 ≤ Int.tdiv x 64 ∧ Int.tdiv x 64 < 4611686018427387904 := by
    rw [Int.tdiv_eq_ediv_of_nonneg hx0]
    omega
  rw [w_in (n := Int.tdiv x 64) (by omega) (by omega)]
  have hz := xor_nn hx0 hx1 d2.1 d2.2
  exact ⟨_, rfl, (tm_bd hz (by omega)).1, (tm_bd hz (by omega)).2⟩

theorem num_ok {k : Nat} {b : List Int} {p : Int} {xs : List Int} (hb : ∀ x ∈ b, 0 ≤ x ∧ x ≤ 255) (hp0 : 0 ≤ p) (hp : p ≤ 100000000) (hn : 1 ≤ xs.length) (hk : 0 < k) :
    ∃ v, spec_l21Rd_num.f k b p xs = some (v, p + 1) ∧ v ∈ xs := by
  obtain ⟨i, hi, h0, h1⟩ := pick_ok (n := (xs.length : Int)) hb hp0 hp (by omega) hk
  refine ⟨rd xs i, ?_, ?_⟩
  · unfold spec_l21Rd_num.f
    rw [hi]
    simp only [Option.bind_some]
    rw [if_pos h0, if_pos h1]
  · unfold rd
    rw [List.getD_eq_getElem?_getD, List.getElem?_eq_getElem (by omega)]
    exact List.getElem_mem _

theorem open_ok {l : List Int} (hl : ∀ x ∈ l, (Lit.int .u8 x).wf = true) : ∃ b, spec_l21Open.f l = some (b, 0) ∧ ∀ x ∈ b, 0 ≤ x ∧ x ≤ 255 := by
  have hb : ∀ x ∈ l, 0 ≤ x ∧ x ≤ 255 := fun x hx => bounds_u8 (hl x hx)
  unfold spec_l21Open.f
  by_cases h : (l.length : Int) > 2000
  · rw [if_pos h, if_pos (by omega)]
    exact ⟨_, rfl, fun x hx => hb x (List.mem_of_mem_take hx)⟩
  · rw [if_neg h]
    exact ⟨_, rfl, hb⟩

theorem allO_total {α : Type} {p : α → Option Bool} {q : α → Bool} : ∀ (l : List α), (∀ x ∈ l, p x = some (q x)) → allO p l = some (l.all q)
  | [], _ => rfl
  | x :: xs, h => by
    have ih := allO_total xs (fun y hy => h y (List.mem_cons_of_mem _ hy))
    simp only [allO, h x (List.mem_cons_self), Option.bind_some, List.all_cons]
    cases q x
    · simp
    · simpa using ih

theorem rd_at {l : List Int} {i : Int} (h0 : 0 ≤ i) (h : i.toNat < l.length) : l.drop i.toNat = rd l i :: l.drop (i + 1).toNat := by
  rw [List.drop_eq_getElem_cons h, show (i + 1).toNat = i.toNat + 1 by omega]
  unfold rd
  rw [List.getD_eq_getElem?_getD, List.getElem?_eq_getElem h]
  rfl
theorem rd_mem {l : List Int} {i : Int} (h0 : 0 ≤ i) (h : i < l.length) : rd l i ∈ l := by
  unfold rd
  rw [List.getD_eq_getElem?_getD, List.getElem?_eq_getElem (by omega)]
  exact List.getElem_mem _

theorem index_loop (l : List Int) (v : Int) (hl : l.length ≤ 9223372036854775806) (d : Nat) : ∀ (k : Nat) (i : Int), 0 ≤ i → i + d = l.length → d < k →
    ∃ r, slices_Index_int_int.l0 k l v (l.length : Int) i = some r ∧ decide (r ≥ 0) = (l.drop i.toNat).contains v := by
  induction d with
  | zero =>
    intro k i h0 h1 hk
    obtain ⟨k, rfl⟩ : ∃ m, k = m + 1 := ⟨k - 1, by omega⟩
    refine ⟨-1, by simp only [slices_Index_int_int.l0]; rw [if_neg (by omega)], ?_⟩
    rw [List.drop_eq_nil_of_le (by omega)]; rfl
  | succ d ih =>
    intro k i h0 h1 hk
    obtain ⟨k, rfl⟩ : ∃ m, k = m + 1 := ⟨k - 1, by omega⟩
    rw [rd_at h0 (by omega)]
    simp only [slices_Index_int_int.l0]
    rw [if_pos (by omega), if_pos h0, if_pos (by omega)]
    by_cases e : v = rd l i
    · exact ⟨i, by rw [if_pos e], by rw [← e]; simp [h0]⟩
    · obtain ⟨r, hr, hd⟩ := ih k (i + 1) (by omega) (by omega) (by omega)
      refine ⟨r, by rw [if_neg e, w_in (by omega) (by omega)]; exact hr, ?_⟩
      rw [hd, List.contains_cons]
      simp [e]
theorem contains_ok {l : List Int} {v : Int} (hl : l.length ≤ 9223372036854775806) {k : Nat} (hk : l.length < k) : slices_Contains_int_int.f k l v = some (l.contains v) := by
  obtain ⟨r, hr, hd⟩ := index_loop l v hl l.length k 0 (by omega) (by omega) hk
  unfold slices_Contains_int_int.f slices_Index_int_int.f
  rw [hr]
  simp only [Option.bind_some]
  rw [hd]; rfl

def bit (x : Int) : Bool := decide (0 ≤ x ∧ x ≤ 1)
/-- Do numbers tell which slots are open? -/
def okd (l : List Int) : Bool := l.all bit && l.contains 1 && decide (l.length ≤ 100)
theorem spec_in (a b c : Int) : spec_l1In.f a b c = some (decide (b ≤ a ∧ a ≤ c)) := by
  unfold spec_l1In.f
  by_cases h : b ≤ a <;> simp [h]
theorem impl_in (a b c : Int) : impl_within.f a b c = some (decide (b ≤ a ∧ a ≤ c)) := by
  unfold impl_within.f
  by_cases h : b ≤ a <;> simp [h]
theorem spec_drain_loop (l : List Int) (hl : l.length ≤ 9223372036854775806) (d : Nat) : ∀ (k : Nat) (i : Int) (b : Bool), 0 ≤ i → i + d = l.length → d < k →
    spec_l13Drain.l0 k l b i = some ((l.drop i.toNat).all bit && (b || (l.drop i.toNat).contains 1) && decide (l.length ≤ 100)) := by
  induction d with
  | zero =>
    intro k i b h0 h1 hk
    obtain ⟨k, rfl⟩ : ∃ m, k = m + 1 := ⟨k - 1, by omega⟩
    simp only [spec_l13Drain.l0]
    rw [if_neg (by omega), List.drop_eq_nil_of_le (by omega)]
    cases b <;> simp
    omega
  | succ d ih =>
    intro k i b h0 h1 hk
    obtain ⟨k, rfl⟩ : ∃ m, k = m + 1 := ⟨k - 1, by omega⟩
    rw [rd_at h0 (by omega)]
    simp only [spec_l13Drain.l0, spec_in, Option.bind_some]
    rw [if_pos (by omega), if_pos h0, w_in (by omega) (by omega), ih k (i + 1) true (by omega) (by omega) (by omega), ih k (i + 1) (rd l i == 1) (by omega) (by omega) (by omega)]
    by_cases e : 0 ≤ rd l i ∧ rd l i ≤ 1
    · rw [if_pos (by simpa using e)]
      have e' : bit (rd l i) = true := by unfold bit; simpa using e
      cases b
      · simp only [Bool.false_eq_true, if_false, List.all_cons, e', List.contains_cons, Bool.true_and, Bool.false_or]
        rw [show ((1 : Int) == rd l i) = (rd l i == 1) from Bool.beq_comm]
      · simp [e']
    · rw [if_neg (by simpa using e)]
      have e' : bit (rd l i) = false := by unfold bit; simpa using e
      simp [e']
theorem spec_drain {l : List Int} (hl : l.length ≤ 9223372036854775806) {k : Nat} (hk : l.length < k) : spec_l13Drain.f k l = some (okd l) := by
  unfold spec_l13Drain.f okd
  rw [spec_drain_loop l hl l.length k 0 false (by omega) (by omega) hk]
  simp
theorem impl_bit (x : Int) : impl_isBit.f x = some (bit x) := by
  unfold impl_isBit.f bit
  by_cases h : x = 0
  · subst h; rfl
  · rw [if_neg h]
    congr 1
    rw [Bool.eq_iff_iff]
    simp
    omega
theorem impl_drain {l : List Int} (hl : l.length ≤ 9223372036854775806) {k : Nat} (hk : l.length < k) : impl_drainOk.f k l = some (okd l) := by
  unfold impl_drainOk.f okd all_impl_isBit.f
  rw [impl_in, contains_ok hl hk, allO_total (q := bit) l (fun x _ => impl_bit x)]
  simp only [Option.bind_some]
  by_cases h1 : 1 ≤ (l.length : Int) ∧ (l.length : Int) ≤ 100
  · rw [if_pos (by simpa using h1)]
    have h2 : l.length ≤ 100 := by omega
    cases l.all bit
    · simp
    · simp [h2]
  · rw [if_neg (by simpa using h1)]
    congr 1
    symm
    by_cases h3 : l.length ≤ 100
    · have : l = [] := by
        apply List.eq_nil_of_length_eq_zero
        omega
      subst this
      rfl
    · simp [h3]
theorem okd_bit {l : List Int} (h : okd l = true) : (∀ x ∈ l, x = 0 ∨ x = 1) ∧ 1 ≤ l.length ∧ l.length ≤ 100 := by
  unfold okd at h
  simp only [Bool.and_eq_true, decide_eq_true_eq, List.all_eq_true] at h
  obtain ⟨⟨h1, h2⟩, h3⟩ := h
  refine ⟨fun x hx => ?_, ?_, h3⟩
  · have := h1 x hx
    simp [bit] at this
    omega
  · cases l with
    | nil => simp at h2
    | cons => simp

/-- How many of d slots from 'at' on are open. -/
def opn (l : List Int) (f : Int) : Int → Nat → Int
  | _, 0 => 0
  | i, d + 1 => rd l (Int.tmod (f + i) l.length) + opn l f (i + 1) d
theorem slot_bd {l : List Int} (h : okd l = true) {j : Int} (hj : 0 ≤ j) : 0 ≤ Int.tmod j l.length ∧ Int.tmod j l.length < l.length ∧ (rd l (Int.tmod j l.length) = 0 ∨ rd l (Int.tmod j l.length) = 1) := by
  obtain ⟨hb, h1, _⟩ := okd_bit h
  have t : 0 ≤ Int.tmod j l.length ∧ Int.tmod j l.length < l.length := by
    rw [Int.tmod_eq_emod_of_nonneg hj]
    exact ⟨Int.emod_nonneg _ (by omega), Int.emod_lt_of_pos _ (by omega)⟩
  exact ⟨t.1, t.2, hb _ (rd_mem t.1 t.2)⟩
theorem opn_bd {l : List Int} (h : okd l = true) {f : Int} (hf : 0 ≤ f) : ∀ (d : Nat) (i : Int), 0 ≤ i → 0 ≤ opn l f i d ∧ opn l f i d ≤ d
  | 0, _, _ => by simp [opn]
  | d + 1, i, hi => by
    have := opn_bd h hf d (i + 1) (by omega)
    have := (slot_bd h (j := f + i) (by omega)).2.2
    simp only [opn]
    omega
theorem opn_split (l : List Int) (f : Int) : ∀ (a : Nat) (i : Int) (b : Nat), opn l f i (a + b) = opn l f i a + opn l f (i + a) b
  | 0, i, b => by simp [opn]
  | a + 1, i, b => by
    rw [show a + 1 + b = (a + b) + 1 by omega]
    simp only [opn]
    rw [opn_split l f a (i + 1) b, show i + 1 + (a : Int) = i + ((a + 1 : Nat) : Int) by push_cast; omega]
    omega
theorem opn_shift (l : List Int) (f c : Int) : ∀ (d : Nat) (i : Int), opn l (f + c) i d = opn l f (c + i) d
  | 0, _ => rfl
  | d + 1, i => by
    simp only [opn]
    rw [opn_shift l f c d (i + 1), show f + c + i = f + (c + i) by omega, show c + (i + 1) = c + i + 1 by omega]
theorem spec_open_loop {l : List Int} (h : okd l = true) {f n : Int} (hf : 0 ≤ f) (hf2 : f ≤ 3000) (hn : n ≤ 3000) (d : Nat) : ∀ (k : Nat) (s i : Int), 0 ≤ i → i + d = n → d < k → 0 ≤ s → s ≤ i →
    spec_OpenSlots.l0 k l f n s i = some (s + opn l f i d) := by
  induction d with
  | zero =>
    intro k s i h0 h1 hk hs hs2
    obtain ⟨k, rfl⟩ : ∃ m, k = m + 1 := ⟨k - 1, by omega⟩
    simp only [spec_OpenSlots.l0]
    rw [if_neg (by omega)]
    simp [opn]
  | succ d ih =>
    intro k s i h0 h1 hk hs hs2
    obtain ⟨k, rfl⟩ : ∃ m, k = m + 1 := ⟨k - 1, by omega⟩
    have b := slot_bd h (j := f + i) (by omega)
    have hl := (okd_bit h).2
    simp only [spec_OpenSlots.l0]
    rw [if_pos (by omega), if_neg (by omega), w_in (n := f + i) (by omega) (by omega), if_pos b.1, if_pos b.2.1, w_in (n := s + _) (by omega) (by omega), w_in (n := i + 1) (by omega) (by omega), ih k _ (i + 1) (by omega) (by omega) (by omega) (by omega) (by omega)]
    simp only [opn]
    congr 1
    omega
theorem impl_open_at {l : List Int} (h : okd l = true) {j : Int} (hj : 0 ≤ j) : impl_isOpen.f l j = some (rd l (Int.tmod j l.length) == 1) := by
  have b := slot_bd h hj
  have hl := (okd_bit h).2
  unfold impl_isOpen.f
  rw [if_neg (by omega), if_pos b.1, if_pos b.2.1]
theorem impl_open_loop {l : List Int} (h : okd l = true) {f n : Int} (hf : 0 ≤ f) (hf2 : f ≤ 3000) (hn : n ≤ 3000) (d : Nat) : ∀ (k : Nat) (s i : Int), 0 ≤ i → i + d = n → d < k → 0 ≤ s → s ≤ i →
    impl_OpenSlots.l0 k l f s n i = some (s + opn l f i d) := by
  induction d with
  | zero =>
    intro k s i h0 h1 hk hs hs2
    obtain ⟨k, rfl⟩ : ∃ m, k = m + 1 := ⟨k - 1, by omega⟩
    simp only [impl_OpenSlots.l0]
    rw [if_neg (by omega)]
    simp [opn]
  | succ d ih =>
    intro k s i h0 h1 hk hs hs2
    obtain ⟨k, rfl⟩ : ∃ m, k = m + 1 := ⟨k - 1, by omega⟩
    have b := slot_bd h (j := f + i) (by omega)
    simp only [impl_OpenSlots.l0]
    rw [if_pos (by omega), w_in (n := f + i) (by omega) (by omega), impl_open_at h (by omega)]
    simp only [Option.bind_some]
    rw [w_in (n := s + 1) (by omega) (by omega), w_in (n := i + 1) (by omega) (by omega), ih k (s + 1) (i + 1) (by omega) (by omega) (by omega) (by omega) (by omega), ih k s (i + 1) (by omega) (by omega) (by omega) (by omega) (by omega)]
    simp only [opn]
    rcases b.2.2 with e | e
    · rw [e, if_neg (by decide)]
      congr 1
      omega
    · rw [e, if_pos (by decide)]
      congr 1
      omega
def osv (l : List Int) (f n : Int) : Int := if okd l = true ∧ (0 ≤ f ∧ f ≤ 3000) ∧ 0 ≤ n ∧ n ≤ 3000 then opn l f 0 n.toNat else -1
theorem spec_open {l : List Int} (hl : l.length ≤ 9223372036854775806) (f n : Int) {k : Nat} (hk : l.length < k) (hk2 : 3002 < k) : spec_OpenSlots.f k l f n = some (osv l f n) := by
  obtain ⟨k, rfl⟩ : ∃ m, k = m + 1 := ⟨k - 1, by omega⟩
  unfold spec_OpenSlots.f osv
  rw [spec_drain hl hk]
  simp only [Option.bind_some, spec_in, spec_OpenSlots.j0]
  by_cases h1 : okd l = true
  · by_cases h2 : 0 ≤ f ∧ f ≤ 3000
    · by_cases h3 : 0 ≤ n ∧ n ≤ 3000
      · simp only [h1, h2, h3, and_self, if_true, decide_true, Bool.not_true, Bool.false_eq_true, if_false]
        rw [spec_open_loop h1 h2.1 h2.2 h3.2 n.toNat k 0 0 (by omega) (by omega) (by omega) (by omega) (by omega)]
        simp
      · simp [h1, h2, h3]
    · simp [h1, h2]
  · simp [h1]
theorem impl_open {l : List Int} (hl : l.length ≤ 9223372036854775806) (f n : Int) {k : Nat} (hk : l.length < k) (hk2 : 3002 < k) : impl_OpenSlots.f k l f n = some (osv l f n) := by
  obtain ⟨k, rfl⟩ : ∃ m, k = m + 1 := ⟨k - 1, by omega⟩
  unfold impl_OpenSlots.f osv
  rw [impl_drain hl hk]
  simp only [Option.bind_some, impl_in, impl_OpenSlots.j0]
  by_cases h1 : okd l = true
  · by_cases h2 : 0 ≤ f ∧ f ≤ 3000
    · by_cases h3 : 0 ≤ n ∧ n ≤ 3000
      · simp only [h1, h2, h3, and_self, if_true, decide_true, Bool.not_true, Bool.false_eq_true, if_false]
        rw [impl_open_loop h1 h2.1 h2.2 h3.2 n.toNat k 0 0 (by omega) (by omega) (by omega) (by omega) (by omega)]
        simp
      · simp [h1, h2, h3]
    · simp [h1, h2]
  · simp [h1]

theorem draw13_loop {b : List Int} (hb : ∀ x ∈ b, 0 ≤ x ∧ x ≤ 255) (d : Nat) : ∀ (k : Nat) (x : List Int) (c p : Int), c = d → d + 1 < k → x.length + d ≤ 1000 → 0 ≤ p → p + d ≤ 1000000 →
    ∃ l p', spec_l13Draw.l0 k x c b p = some (l, p') ∧ l.length ≤ x.length + d + 2 ∧ 0 ≤ p' ∧ p' ≤ p + d + 1 := by
  induction d with
  | zero =>
    intro k x c p hc hk hx hp hp2
    obtain ⟨k, rfl⟩ : ∃ m, k = m + 1 := ⟨k - 1, by omega⟩
    obtain ⟨v, e, _, _⟩ := pick_ok (k := k) (p := p) (n := 45) hb hp (by omega) (by omega) (by omega)
    simp only [spec_l13Draw.l0]
    rw [if_neg (by omega), e]
    simp only [Option.bind_some]
    by_cases h0 : v = 0
    · rw [if_pos h0]; exact ⟨_, _, rfl, by simp, by omega, by omega⟩
    rw [if_neg h0]
    by_cases h1 : v = 1
    · rw [if_pos h1]; exact ⟨_, _, rfl, by simp, by omega, by omega⟩
    rw [if_neg h1]
    by_cases h2 : v = 2
    · rw [if_pos h2, if_pos (by omega)]; exact ⟨_, _, rfl, by simp, by omega, by omega⟩
    · rw [if_neg h2]; exact ⟨_, _, rfl, by omega, by omega, by omega⟩
  | succ d ih =>
    intro k x c p hc hk hx hp hp2
    obtain ⟨k, rfl⟩ : ∃ m, k = m + 1 := ⟨k - 1, by omega⟩
    obtain ⟨v, e, _, _⟩ := pick_ok (k := k) (p := p) (n := 2) hb hp (by omega) (by omega) (by omega)
    simp only [spec_l13Draw.l0]
    rw [if_pos (by omega), e]
    simp only [Option.bind_some]
    rw [if_pos (by omega), w_in (by omega) (by omega)]
    obtain ⟨l, p', e', h1, h2, h3⟩ := ih k (x ++ [v]) (c - 1) (p + 1) (by omega) (by omega) (by simp; omega) (by omega) (by omega)
    exact ⟨l, p', e', by simp at h1; omega, h2, by omega⟩
theorem draw13 {b : List Int} (hb : ∀ x ∈ b, 0 ≤ x ∧ x ≤ 255) {k : Nat} (hk : 20 ≤ k) {p : Int} (hp : 0 ≤ p) (hp2 : p ≤ 1000) :
    ∃ l p', spec_l13Draw.f k b p = some (l, p') ∧ l.length ≤ 20 ∧ 0 ≤ p' ∧ p' ≤ 1100 := by
  obtain ⟨v, e, hv⟩ := num_ok (k := k) (b := b) (p := p) (xs := [0, 3, 9, 1]) hb hp (by omega) (by simp) (by omega)
  have hv' : 0 ≤ v ∧ v ≤ 9 := by simp at hv; omega
  unfold spec_l13Draw.f
  rw [e]
  simp only [Option.bind_some]
  obtain ⟨l, p', e', h1, h2, h3⟩ := draw13_loop hb v.toNat k [1] v (p + 1) (by omega) (by omega) (by simp; omega) (by omega) (by omega)
  exact ⟨l, p', e', by simp at h1; omega, h2, by omega⟩

theorem osv_pos {l : List Int} {f n : Int} (h : 0 ≤ osv l f n) : okd l = true ∧ (0 ≤ f ∧ f ≤ 3000) ∧ 0 ≤ n ∧ n ≤ 3000 := by
  unfold osv at h
  split at h
  · assumption
  · omega
theorem osv_at {l : List Int} {f n : Int} (h : okd l = true) (h1 : 0 ≤ f ∧ f ≤ 3000) (h2 : 0 ≤ n ∧ n ≤ 3000) : osv l f n = opn l f 0 n.toNat := if_pos ⟨h, h1, h2⟩

theorem FnOpen : laws_FnOpen.Pure := by
  intro l0 _ _ hl0
  refine ⟨4001, ?_⟩
  unfold laws_FnOpen.f
  by_cases hlen : (l0.length : Int) > 1048576
  · rw [if_pos hlen]
  rw [if_neg hlen]
  obtain ⟨b, e, hb⟩ := open_ok hl0
  obtain ⟨l, p, e1, hl, hp0, hp⟩ := draw13 (k := 4001) hb (by omega) (p := 0) (by omega) (by omega)
  obtain ⟨f, e2, _⟩ := num_ok (k := 4001) (b := b) (p := p) (xs := [0, 1, 7, 3000, -1]) hb hp0 (by omega) (by simp) (by omega)
  obtain ⟨n, e3, _⟩ := num_ok (k := 4001) (b := b) (p := p + 1) (xs := [5, 0, 20, 1, 100, -1]) hb (by omega) (by omega) (by simp) (by omega)
  have ed : spec_DrawOpenSlots.f 4001 l0 = some (l, f, n) := by
    unfold spec_DrawOpenSlots.f
    rw [e]; simp only [Option.bind_some]
    rw [e1]; simp only [Option.bind_some]
    rw [e2]; simp only [Option.bind_some]
    rw [e3]; simp only [Option.bind_some]
  rw [ed]
  simp only [Option.bind_some]
  have sp : ∀ f n k, 4000 ≤ k → spec_OpenSlots.f k l f n = some (osv l f n) := fun f n k hk => spec_open (by omega) f n (by omega) (by omega)
  have im : ∀ f n k, 4000 ≤ k → impl_OpenSlots.f k l f n = some (osv l f n) := fun f n k hk => impl_open (by omega) f n (by omega) (by omega)
  rw [sp f n 4001 (by omega), im f n 4001 (by omega)]
  simp only [Option.bind_some, if_true, laws_FnOpen.j0]
  rw [sp f n 4000 (by omega), im f _ 4000 (by omega), im _ _ 4000 (by omega)]
  by_cases h : osv l f n < 0
  · rw [if_pos (by simpa using h)]
    have : osv l f n = -1 := by
      unfold osv at h ⊢
      split
      · rename_i hh
        rw [if_pos hh] at h
        have := opn_bd hh.1 hh.2.1.1 n.toNat 0 (by omega)
        omega
      · rfl
    rw [this]
    rfl
  · rw [if_neg (by simpa using h)]
    obtain ⟨h1, h2, h3⟩ := osv_pos (l := l) (f := f) (n := n) (by omega)
    have t : Int.tdiv n 3 = n / 3 := Int.tdiv_eq_ediv_of_nonneg h3.1
    rw [t, w_in (n := n / 3) (by omega) (by omega), w_in (n := f + n / 3) (by omega) (by omega), w_in (n := n - n / 3) (by omega) (by omega)]
    simp only [Option.bind_some]
    have e1 := osv_at h1 h2 (n := n) h3
    have e2 := osv_at h1 h2 (n := n / 3) (by omega)
    have b1 := opn_bd h1 h2.1 n.toNat 0 (by omega)
    have b2 := opn_bd h1 h2.1 (n / 3).toNat 0 (by omega)
    rw [e1, e2]
    by_cases h4 : f + n / 3 ≤ 3000
    · rw [if_pos h4]
      have e3 := osv_at h1 (f := f + n / 3) (by omega) (n := n - n / 3) (by omega)
      have e4 := opn_split l f (n / 3).toNat 0 (n - n / 3).toNat
      rw [show (n / 3).toNat + (n - n / 3).toNat = n.toNat by omega, show (0 : Int) + ((n / 3).toNat : Int) = n / 3 by omega] at e4
      have e5 := opn_shift l f (n / 3) (n - n / 3).toNat 0
      rw [show n / 3 + 0 = n / 3 by omega] at e5
      rw [e3, e5, ← e4, w_in (by omega) (by omega), if_pos rfl]
      congr 1
      simp
      omega
    · rw [if_neg h4, w_in (n := opn l f 0 n.toNat - opn l f 0 (n / 3).toNat) (by omega) (by omega), w_in (by omega) (by omega), if_pos (by omega)]
      congr 1
      simp
      omega


end Go.Proofs.Ytcgbkbjldkackaa.Pure
