/- The pure part of FnExactOpenSlots: both count the same, for every list and all numbers. -/
import Derived.Test.YtcgbkbjldkackaaPFnExactOpenSlotsx2
import Derived.Laws.BitsLemmas
import Derived.OpenShut
namespace Go.Proofs.Ytcgbkbjldkackaa.Pure
set_option linter.unusedVariables false
set_option linter.unusedSimpArgs false
open Go.RowKit Go.OpenShut Go.Proofs.Ytcgbkbjldkackaa.PFnExactOpenSlots Go.Proofs.YtcgbkbjldkackaaW.PrintWords Go.Proofs.YtcgbkbjldkackaaW.PrintLast

theorem w_in {n : Int} (h0 : -9223372036854775808 ≤ n) (h1 : n ≤ 9223372036854775807) : wrap64 n = n := by unfold wrap64; omega

theorem allO_total {α : Type} {p : α → Option Bool} {q : α → Bool} : ∀ (l : List α), (∀ x ∈ l, p x = some (q x)) → allO p l = some (l.all q)
  | [], _ => rfl
  | x :: xs, h => by
    have ih := allO_total xs (fun y hy => h y (List.mem_cons_of_mem _ hy))
    simp only [allO, h x (List.mem_cons_self), Option.bind_some, List.all_cons]
    cases q x
    · simp
    · simpa using ih

theorem rd_at {l : List Int} {i : Int} (h0 : 0 ≤ i) (h : i.toNat < l.length) : l.drop i.toNat = rd l i :: l.drop (i + 1).toNat := by
  rw [List.drop_eq_getElem_cons h, show (i + 1).toNat = i.toNat + 1 by omega]
  unfold rd
  rw [List.getD_eq_getElem?_getD, List.getElem?_eq_getElem h]
  rfl
theorem rd_mem {l : List Int} {i : Int} (h0 : 0 ≤ i) (h : i < l.length) : rd l i ∈ l := by
  unfold rd
  rw [List.getD_eq_getElem?_getD, List.getElem?_eq_getElem (by omega)]
  exact List.getElem_mem _

theorem index_loop (l : List Int) (v : Int) (hl : l.length ≤ 9223372036854775806) (d : Nat) : ∀ (k : Nat) (i : Int), 0 ≤ i → i + d = l.length → d < k →
    ∃ r, slices_Index_int_int.l0 k l v (l.length : Int) i = some r ∧ decide (r ≥ 0) = (l.drop i.toNat).contains v := by
  induction d with
  | zero =>
    intro k i h0 h1 hk
    obtain ⟨k, rfl⟩ : ∃ m, k = m + 1 := ⟨k - 1, by omega⟩
    refine ⟨-1, by simp only [slices_Index_int_int.l0]; rw [if_neg (by omega)], ?_⟩
    rw [List.drop_eq_nil_of_le (by omega)]; rfl
  | succ d ih =>
    intro k i h0 h1 hk
    obtain ⟨k, rfl⟩ : ∃ m, k = m + 1 := ⟨k - 1, by omega⟩
    rw [rd_at h0 (by omega)]
    simp only [slices_Index_int_int.l0]
    rw [if_pos (by omega), if_pos h0, if_pos (by omega)]
    by_cases e : v = rd l i
    · exact ⟨i, by rw [if_pos e], by rw [← e]; simp [h0]⟩
    · obtain ⟨r, hr, hd⟩ := ih k (i + 1) (by omega) (by omega) (by omega)
      refine ⟨r, by rw [if_neg e, w_in (by omega) (by omega)]; exact hr, ?_⟩
      rw [hd, List.contains_cons]
      simp [e]
theorem contains_ok {l : List Int} {v : Int} (hl : l.length ≤ 9223372036854775806) {k : Nat} (hk : l.length < k) : slices_Contains_int_int.f k l v = some (l.contains v) := by
  obtain ⟨r, hr, hd⟩ := index_loop l v hl l.length k 0 (by omega) (by omega) hk
  unfold slices_Contains_int_int.f slices_Index_int_int.f
  rw [hr]
  simp only [Option.bind_some]
  rw [hd]; rfl

def bit (x : Int) : Bool := decide (0 ≤ x ∧ x ≤ 1)
/-- Do numbers tell which slots are open? -/
def okd (l : List Int) : Bool := l.all bit && l.contains 1 && decide (l.length ≤ 100)
theorem spec_in (a b c : Int) : spec_l1In.f a b c = some (decide (b ≤ a ∧ a ≤ c)) := by
  unfold spec_l1In.f
  by_cases h : b ≤ a <;> simp [h]
theorem impl_in (a b c : Int) : impl_within.f a b c = some (decide (b ≤ a ∧ a ≤ c)) := by
  unfold impl_within.f
  by_cases h : b ≤ a <;> simp [h]
theorem spec_drain_loop (l : List Int) (hl : l.length ≤ 9223372036854775806) (d : Nat) : ∀ (k : Nat) (i : Int) (b : Bool), 0 ≤ i → i + d = l.length → d < k →
    spec_l13Drain.l0 k l b i = some ((l.drop i.toNat).all bit && (b || (l.drop i.toNat).contains 1) && decide (l.length ≤ 100)) := by
  induction d with
  | zero =>
    intro k i b h0 h1 hk
    obtain ⟨k, rfl⟩ : ∃ m, k = m + 1 := ⟨k - 1, by omega⟩
    simp only [spec_l13Drain.l0]
    rw [if_neg (by omega), List.drop_eq_nil_of_le (by omega)]
    cases b <;> simp
    omega
  | succ d ih =>
    intro k i b h0 h1 hk
    obtain ⟨k, rfl⟩ : ∃ m, k = m + 1 := ⟨k - 1, by omega⟩
    rw [rd_at h0 (by omega)]
    simp only [spec_l13Drain.l0, spec_in, Option.bind_some]
    rw [if_pos (by omega), if_pos h0, w_in (by omega) (by omega), ih k (i + 1) true (by omega) (by omega) (by omega), ih k (i + 1) (rd l i == 1) (by omega) (by omega) (by omega)]
    by_cases e : 0 ≤ rd l i ∧ rd l i ≤ 1
    · rw [if_pos (by simpa using e)]
      have e' : bit (rd l i) = true := by unfold bit; simpa using e
      cases b
      · simp only [Bool.false_eq_true, if_false, List.all_cons, e', List.contains_cons, Bool.true_and, Bool.false_or]
        rw [show ((1 : Int) == rd l i) = (rd l i == 1) from Bool.beq_comm]
      · simp [e']
    · rw [if_neg (by simpa using e)]
      have e' : bit (rd l i) = false := by unfold bit; simpa using e
      simp [e']
theorem spec_drain {l : List Int} (hl : l.length ≤ 9223372036854775806) {k : Nat} (hk : l.length < k) : spec_l13Drain.f k l = some (okd l) := by
  unfold spec_l13Drain.f okd
  rw [spec_drain_loop l hl l.length k 0 false (by omega) (by omega) hk]
  simp
theorem impl_bit (x : Int) : impl_isBit.f x = some (bit x) := by
  unfold impl_isBit.f bit
  by_cases h : x = 0
  · subst h; rfl
  · rw [if_neg h]
    congr 1
    rw [Bool.eq_iff_iff]
    simp
    omega
theorem impl_drain {l : List Int} (hl : l.length ≤ 9223372036854775806) {k : Nat} (hk : l.length < k) : impl_drainOk.f k l = some (okd l) := by
  unfold impl_drainOk.f okd all_impl_isBit.f
  rw [impl_in, contains_ok hl hk, allO_total (q := bit) l (fun x _ => impl_bit x)]
  simp only [Option.bind_some]
  by_cases h1 : 1 ≤ (l.length : Int) ∧ (l.length : Int) ≤ 100
  · rw [if_pos (by simpa using h1)]
    have h2 : l.length ≤ 100 := by omega
    cases l.all bit
    · simp
    · simp [h2]
  · rw [if_neg (by simpa using h1)]
    congr 1
    symm
    by_cases h3 : l.length ≤ 100
    · have : l = [] := by
        apply List.eq_nil_of_length_eq_zero
        omega
      subst this
      rfl
    · simp [h3]
theorem okd_bit {l : List Int} (h : okd l = true) : (∀ x ∈ l, x = 0 ∨ x = 1) ∧ 1 ≤ l.length ∧ l.length ≤ 100 := by
  unfold okd at h
  simp only [Bool.and_eq_true, decide_eq_true_eq, List.all_eq_true] at h
  obtain ⟨⟨h1, h2⟩, h3⟩ := h
  refine ⟨fun x hx => ?_, ?_, h3⟩
  · have := h1 x hx
    simp [bit] at this
    omega
  · cases l with
    | nil => simp at h2
    | cons => simp

theorem toInt_loop (l : List Int) (hl : l.length ≤ 9223372036854775806) (d : Nat) : ∀ (k : Nat) (i : Int) (x : List Int), 0 ≤ i → i + d = l.length → d < k → x.length = l.length → x.take i.toNat = l.take i.toNat →
    laws_toIntS.l0 k l x i = some l := by
  induction d with
  | zero =>
    intro k i x h0 h1 hk hx ht
    obtain ⟨k, rfl⟩ : ∃ m, k = m + 1 := ⟨k - 1, by omega⟩
    simp only [laws_toIntS.l0]
    rw [if_neg (by omega)]
    rw [List.take_of_length_le (by omega), List.take_of_length_le (by omega)] at ht
    rw [ht]
  | succ d ih =>
    intro k i x h0 h1 hk hx ht
    obtain ⟨k, rfl⟩ : ∃ m, k = m + 1 := ⟨k - 1, by omega⟩
    simp only [laws_toIntS.l0]
    rw [if_pos (by omega), if_pos h0, if_pos (by omega), w_in (by omega) (by omega)]
    refine ih k (i + 1) _ (by omega) (by omega) (by omega) (by simpa using hx) ?_
    have e : (i + 1).toNat = i.toNat + 1 := by omega
    have hi : i.toNat < l.length := by omega
    rw [e, List.take_succ_eq_append_getElem (by simpa [hx] using hi), List.take_succ_eq_append_getElem hi, List.getElem_set_self, List.take_set_of_le (Nat.le_refl _), ht]
    congr 2
    unfold rd
    rw [List.getD_eq_getElem?_getD, List.getElem?_eq_getElem hi]
    rfl
theorem toInt_ok {l : List Int} (hl : l.length ≤ 35184372088832) {k : Nat} (hk : l.length < k) : laws_toIntS.f k l = some l := by
  unfold laws_toIntS.f
  rw [if_pos (by omega), if_pos (by omega)]
  exact toInt_loop l (by omega) l.length k 0 _ (by omega) (by omega) hk (by simp) (by simp)

theorem eqInt_loop (l : List Int) (hl : l.length ≤ 9223372036854775806) (d : Nat) : ∀ (k : Nat) (i : Int), 0 ≤ i → i + d = l.length → d < k → laws_eqIntS.l0 k l l i = some true := by
  induction d with
  | zero =>
    intro k i h0 h1 hk
    obtain ⟨k, rfl⟩ : ∃ m, k = m + 1 := ⟨k - 1, by omega⟩
    simp only [laws_eqIntS.l0]
    rw [if_neg (by omega)]
  | succ d ih =>
    intro k i h0 h1 hk
    obtain ⟨k, rfl⟩ : ∃ m, k = m + 1 := ⟨k - 1, by omega⟩
    simp only [laws_eqIntS.l0]
    rw [if_pos (by omega), if_pos h0, if_pos (by omega), if_pos trivial, w_in (by omega) (by omega)]
    exact ih k (i + 1) (by omega) (by omega) (by omega)
theorem eqInt_ok {l : List Int} (hl : l.length ≤ 35184372088832) {k : Nat} (hk : l.length < k) : laws_eqIntS.f k l l = some true := by
  unfold laws_eqIntS.f
  rw [if_pos rfl]
  exact eqInt_loop l (by omega) l.length k 0 (by omega) (by omega) hk

/-- How many of d slots from 'at' on are open. -/
def opn (l : List Int) (f : Int) : Int → Nat → Int
  | _, 0 => 0
  | i, d + 1 => rd l (Int.tmod (f + i) l.length) + opn l f (i + 1) d
theorem slot_bd {l : List Int} (h : okd l = true) {j : Int} (hj : 0 ≤ j) : 0 ≤ Int.tmod j l.length ∧ Int.tmod j l.length < l.length ∧ (rd l (Int.tmod j l.length) = 0 ∨ rd l (Int.tmod j l.length) = 1) := by
  obtain ⟨hb, h1, _⟩ := okd_bit h
  have t : 0 ≤ Int.tmod j l.length ∧ Int.tmod j l.length < l.length := by
    rw [Int.tmod_eq_emod_of_nonneg hj]
    exact ⟨Int.emod_nonneg _ (by omega), Int.emod_lt_of_pos _ (by omega)⟩
  exact ⟨t.1, t.2, hb _ (rd_mem t.1 t.2)⟩
theorem opn_bd {l : List Int} (h : okd l = true) {f : Int} (hf : 0 ≤ f) : ∀ (d : Nat) (i : Int), 0 ≤ i → 0 ≤ opn l f i d ∧ opn l f i d ≤ d
  | 0, _, _ => by simp [opn]
  | d + 1, i, hi => by
    have := opn_bd h hf d (i + 1) (by omega)
    have := (slot_bd h (j := f + i) (by omega)).2.2
    simp only [opn]
    omega
theorem opn_split (l : List Int) (f : Int) : ∀ (a : Nat) (i : Int) (b : Nat), opn l f i (a + b) = opn l f i a + opn l f (i + a) b
  | 0, i, b => by simp [opn]
  | a + 1, i, b => by
    rw [show a + 1 + b = (a + b) + 1 by omega]
    simp only [opn]
    rw [opn_split l f a (i + 1) b, show i + 1 + (a : Int) = i + ((a + 1 : Nat) : Int) by push_cast; omega]
    omega
theorem opn_shift (l : List Int) (f c : Int) : ∀ (d : Nat) (i : Int), opn l (f + c) i d = opn l f (c + i) d
  | 0, _ => rfl
  | d + 1, i => by
    simp only [opn]
    rw [opn_shift l f c d (i + 1), show f + c + i = f + (c + i) by omega, show c + (i + 1) = c + i + 1 by omega]
theorem spec_open_loop {l : List Int} (h : okd l = true) {f n : Int} (hf : 0 ≤ f) (hf2 : f ≤ 3000) (hn : n ≤ 3000) (d : Nat) : ∀ (k : Nat) (s i : Int), 0 ≤ i → i + d = n → d < k → 0 ≤ s → s ≤ i →
    spec_OpenSlots.l0 k l f n s i = some (s + opn l f i d) := by
  induction d with
  | zero =>
    intro k s i h0 h1 hk hs hs2
    obtain ⟨k, rfl⟩ : ∃ m, k = m + 1 := ⟨k - 1, by omega⟩
    simp only [spec_OpenSlots.l0]
    rw [if_neg (by omega)]
    simp [opn]
  | succ d ih =>
    intro k s i h0 h1 hk hs hs2
    obtain ⟨k, rfl⟩ : ∃ m, k = m + 1 := ⟨k - 1, by omega⟩
    have b := slot_bd h (j := f + i) (by omega)
    have hl := (okd_bit h).2
    simp only [spec_OpenSlots.l0]
    rw [if_pos (by omega), if_neg (by omega), w_in (n := f + i) (by omega) (by omega), if_pos b.1, if_pos b.2.1, w_in (n := s + _) (by omega) (by omega), w_in (n := i + 1) (by omega) (by omega), ih k _ (i + 1) (by omega) (by omega) (by omega) (by omega) (by omega)]
    simp only [opn]
    congr 1
    omega
theorem impl_open_at {l : List Int} (h : okd l = true) {j : Int} (hj : 0 ≤ j) : impl_isOpen.f l j = some (rd l (Int.tmod j l.length) == 1) := by
  have b := slot_bd h hj
  have hl := (okd_bit h).2
  unfold impl_isOpen.f
  rw [if_neg (by omega), if_pos b.1, if_pos b.2.1]
theorem impl_open_loop {l : List Int} (h : okd l = true) {f n : Int} (hf : 0 ≤ f) (hf2 : f ≤ 3000) (hn : n ≤ 3000) (d : Nat) : ∀ (k : Nat) (s i : Int), 0 ≤ i → i + d = n → d < k → 0 ≤ s → s ≤ i →
    impl_OpenSlots.l0 k l f s n i = some (s + opn l f i d) := by
  induction d with
  | zero =>
    intro k s i h0 h1 hk hs hs2
    obtain ⟨k, rfl⟩ : ∃ m, k = m + 1 := ⟨k - 1, by omega⟩
    simp only [impl_OpenSlots.l0]
    rw [if_neg (by omega)]
    simp [opn]
  | succ d ih =>
    intro k s i h0 h1 hk hs hs2
    obtain ⟨k, rfl⟩ : ∃ m, k = m + 1 := ⟨k - 1, by omega⟩
    have b := slot_bd h (j := f + i) (by omega)
    simp only [impl_OpenSlots.l0]
    rw [if_pos (by omega), w_in (n := f + i) (by omega) (by omega), impl_open_at h (by omega)]
    simp only [Option.bind_some]
    rw [w_in (n := s + 1) (by omega) (by omega), w_in (n := i + 1) (by omega) (by omega), ih k (s + 1) (i + 1) (by omega) (by omega) (by omega) (by omega) (by omega), ih k s (i + 1) (by omega) (by omega) (by omega) (by omega) (by omega)]
    simp only [opn]
    rcases b.2.2 with e | e
    · rw [e, if_neg (by decide)]
      congr 1
      omega
    · rw [e, if_pos (by decide)]
      congr 1
      omega
def osv (l : List Int) (f n : Int) : Int := if okd l = true ∧ (0 ≤ f ∧ f ≤ 3000) ∧ 0 ≤ n ∧ n ≤ 3000 then opn l f 0 n.toNat else -1
theorem spec_open {l : List Int} (hl : l.length ≤ 9223372036854775806) (f n : Int) {k : Nat} (hk : l.length < k) (hk2 : 3002 < k) : spec_OpenSlots.f k l f n = some (osv l f n) := by
  obtain ⟨k, rfl⟩ : ∃ m, k = m + 1 := ⟨k - 1, by omega⟩
  unfold spec_OpenSlots.f osv
  rw [spec_drain hl hk]
  simp only [Option.bind_some, spec_in, spec_OpenSlots.j0]
  by_cases h1 : okd l = true
  · by_cases h2 : 0 ≤ f ∧ f ≤ 3000
    · by_cases h3 : 0 ≤ n ∧ n ≤ 3000
      · simp only [h1, h2, h3, and_self, if_true, decide_true, Bool.not_true, Bool.false_eq_true, if_false]
        rw [spec_open_loop h1 h2.1 h2.2 h3.2 n.toNat k 0 0 (by omega) (by omega) (by omega) (by omega) (by omega)]
        simp
      · simp [h1, h2, h3]
    · simp [h1, h2]
  · simp [h1]
theorem impl_open {l : List Int} (hl : l.length ≤ 9223372036854775806) (f n : Int) {k : Nat} (hk : l.length < k) (hk2 : 3002 < k) : impl_OpenSlots.f k l f n = some (osv l f n) := by
  obtain ⟨k, rfl⟩ : ∃ m, k = m + 1 := ⟨k - 1, by omega⟩
  unfold impl_OpenSlots.f osv
  rw [impl_drain hl hk]
  simp only [Option.bind_some, impl_in, impl_OpenSlots.j0]
  by_cases h1 : okd l = true
  · by_cases h2 : 0 ≤ f ∧ f ≤ 3000
    · by_cases h3 : 0 ≤ n ∧ n ≤ 3000
      · simp only [h1, h2, h3, and_self, if_true, decide_true, Bool.not_true, Bool.false_eq_true, if_false]
        rw [impl_open_loop h1 h2.1 h2.2 h3.2 n.toNat k 0 0 (by omega) (by omega) (by omega) (by omega) (by omega)]
        simp
      · simp [h1, h2, h3]
    · simp [h1, h2]
  · simp [h1]

theorem FnExactOpenSlots : laws_FnExactOpenSlots.Pure := by
  intro l f n _ _ _ _ _
  refine ⟨l.length + 4000, ?_⟩
  unfold laws_FnExactOpenSlots.f
  by_cases hlen : (l.length : Int) > 1048576
  · rw [if_pos hlen]
  rw [if_neg hlen]
  simp only [toInt_ok (l := l) (k := l.length + 4000) (by omega) (by omega), eqInt_ok (l := l) (k := l.length + 4000) (by omega) (by omega), spec_open (l := l) (k := l.length + 4000) (by omega) f n (by omega) (by omega), impl_open (l := l) (k := l.length + 4000) (by omega) f n (by omega) (by omega), Option.bind_some, if_true]


end Go.Proofs.Ytcgbkbjldkackaa.Pure
