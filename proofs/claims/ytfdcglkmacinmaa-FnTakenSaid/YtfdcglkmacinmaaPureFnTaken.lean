/- What both sides of FnTaken compute, in plain Lean. -/
import Derived.Test.YtfdcglkmacinmaaPFnTakenx3
import Derived.Laws.BitsLemmas
import Derived.OpenShut
namespace Go.Proofs.Ytfdcglkmacinmaa.Pure
open Go.RowKit Go.Proofs.Ytfdcglkmacinmaa.PFnTaken Go.Proofs.YtfdcglkmacinmaaW.PrintWords Go.Proofs.YtfdcglkmacinmaaW.PrintLast

theorem w_in {n : Int} (h0 : -9223372036854775808 ≤ n) (h1 : n ≤ 9223372036854775807) : wrap64 n = n := by unfold wrap64; omega

theorem bs {α β : Type} {x : Option α} {a : α} {f : α → Option β} (h : x = some a) : x.bind f = f a := by rw [h]; rfl
/-- A byte list's reader never fails: what 'pick' answers. -/
theorem b_rd {b : List Int} (hb : ∀ x ∈ b, 0 ≤ x ∧ x ≤ 255) (i : Int) : 0 ≤ rd b i ∧ rd b i ≤ 255 := by
  unfold rd
  rw [List.getD_eq_getElem?_getD]
  cases h : b[i.toNat]? with
  | none => simp
  | some x => exact hb x (List.mem_of_getElem? h)

theorem xor_nn {x y : Int} (hx0 : 0 ≤ x) (hx : x < 4611686018427387904) (hy0 : 0 ≤ y) (hy : y < 4611686018427387904) : 0 ≤ Go.bits .xor .i64 x y := by
  obtain ⟨a, rfl⟩ := Int.eq_ofNat_of_zero_le hx0
  obtain ⟨b, rfl⟩ := Int.eq_ofNat_of_zero_le hy0
  have ha : a < 2 ^ 62 := by simp; omega
  have hb : b < 2 ^ 62 := by simp; omega
  have hc : a ^^^ b < 2 ^ 62 := Nat.xor_lt_two_pow ha hb
  have ha' : a % 2 ^ 64 = a := Nat.mod_eq_of_lt (by simp at ha ⊢; omega)
  have hb' : b % 2 ^ 64 = b := Nat.mod_eq_of_lt (by simp at hb ⊢; omega)
  have key : (BitVec.ofNat 64 a ^^^ BitVec.ofNat 64 b).toNat = a ^^^ b := by rw [BitVec.toNat_xor, BitVec.toNat_ofNat, BitVec.toNat_ofNat, ha', hb']
  have e : Go.bits .xor .i64 (a : Int) (b : Int) = IntKind.i64.wrap (((BitVec.ofNat 64 a ^^^ BitVec.ofNat 64 b).toNat : Nat) : Int) := by
    simp only [Go.bits, BitVec.ofInt_natCast]
    rfl
  rw [e, key, IntKind.wrap_i64]
  generalize a ^^^ b = c at hc
  simp at hc
  omega

theorem tm_bd {x n : Int} (hx : 0 ≤ x) (hn : 0 < n) : 0 ≤ Int.tmod x n ∧ Int.tmod x n < n := by
  rw [Int.tmod_eq_emod_of_nonneg hx]
  exact ⟨Int.emod_nonneg _ (by omega), Int.emod_lt_of_pos _ hn⟩

theorem pick_ok {k : Nat} {b : List Int} {p n : Int} (hb : ∀ x ∈ b, 0 ≤ x ∧ x ≤ 255) (hp0 : 0 ≤ p) (hp : p ≤ 100000000) (hn : 1 ≤ n) (hk : 0 < k) :
    ∃ v, spec_l21Rd_pick.f k b p n = some (v, p + 1) ∧ 0 ≤ v ∧ v < n := by
  obtain ⟨k, rfl⟩ : ∃ m, k = m + 1 := ⟨k - 1, by omega⟩
  have e1 : wrap64 (p + 1) = p + 1 := w_in (by omega) (by omega)
  have e2 : wrap64 (p + 1 - 1) = p := by rw [show p + 1 - 1 = p by omega]; exact w_in (by omega) (by omega)
  unfold spec_l21Rd_pick.f
  rw [if_neg (by omega), e1]
  simp only [spec_l21Rd_pick.j0, e2]
  by_cases h0 : b.length = 0
  · rw [if_pos (by simp [h0])]
    exact ⟨0, rfl, by omega, by omega⟩
  rw [if_neg (by simp; intro h; simp [h] at h0)]
  have hl : 0 < (b.length : Int) := by omega
  by_cases h1 : p < (b.length : Int)
  · rw [if_pos h1, if_pos hp0, if_neg (by omega)]
    have := b_rd hb p
    rw [w_in (n := rd b p) (by omega) (by omega)]
    exact ⟨_, rfl, (tm_bd this.1 (by omega)).1, (tm_bd this.1 (by omega)).2⟩
  rw [if_neg h1, if_neg (by omega)]
  have m1 := tm_bd (x := p) (n := b.length) hp0 hl
  have e3 : wrap64 (p * 7) = p * 7 := w_in (by omega) (by omega)
  have e4 : wrap64 (p * 7 + 3) = p * 7 + 3 := w_in (by omega) (by omega)
  have m2 := tm_bd (x := p * 7 + 3) (n := b.length) (by omega) hl
  rw [e3, e4, if_pos m1.1, if_pos m1.2, if_pos m2.1, if_pos m2.2, if_neg (by omega)]
  have r1 := b_rd hb (Int.tmod p b.length)
  have r2 := b_rd hb (Int.tmod (p * 7 + 3) b.length)
  generalize rd b (Int.tmod p b.length) = u at r1
  generalize rd b (Int.tmod (p * 7 + 3) b.length) = v at r2
  have d1 : 0 ≤ Int.tdiv p b.length ∧ Int.tdiv p b.length ≤ p := by
    rw [Int.tdiv_eq_ediv_of_nonneg hp0]
    exact ⟨Int.ediv_nonneg hp0 (by omega), Int.ediv_le_self _ hp0⟩
  generalize Int.tdiv p b.length = d at d1
  have e5 : wrap64 (wrap64 (wrap64 (wrap64 (wrap64 u * 131) + wrap64 (wrap64 v * 1117)) + wrap64 (p * 29)) + wrap64 (wrap64 d * 53)) = u * 131 + v * 1117 + p * 29 + d * 53 := by
    rw [w_in (n := u) (by omega) (by omega), w_in (n := v) (by omega) (by omega), w_in (n := d) (by omega) (by omega), w_in (n := u * 131) (by omega) (by omega), w_in (n := v * 1117) (by omega) (by omega), w_in (n := p * 29) (by omega) (by omega), w_in (n := d * 53) (by omega) (by omega), w_in (n := u * 131 + v * 1117) (by omega) (by omega), w_in (n := u * 131 + v * 1117 + p * 29) (by omega) (by omega), w_in (by omega) (by omega)]
  rw [e5]
  have hx0 : 0 ≤ u * 131 + v * 1117 + p * 29 + d * 53 := by omega
  have hx1 : u * 131 + v * 1117 + p * 29 + d * 53 < 4611686018427387904 := by omega
  generalize u * 131 + v * 1117 + p * 29 + d * 53 = x at hx0 hx1
  have d2 : 0 ≤ Int.tdiv x 64 ∧ Int.tdiv x 64 < 4611686018427387904 := by
    rw [Int.tdiv_eq_ediv_of_nonneg hx0]
    omega
  rw [w_in (n := Int.tdiv x 64) (by omega) (by omega)]
  have hz := xor_nn hx0 hx1 d2.1 d2.2
  exact ⟨_, rfl, (tm_bd hz (by omega)).1, (tm_bd hz (by omega)).2⟩

theorem num_ok {k : Nat} {b : List Int} {p : Int} {xs : List Int} (hb : ∀ x ∈ b, 0 ≤ x ∧ x ≤ 255) (hp0 : 0 ≤ p) (hp : p ≤ 100000000) (hn : 1 ≤ xs.length) (hk : 0 < k) :
    ∃ v, spec_l21Rd_num.f k b p xs = some (v, p + 1) ∧ v ∈ xs := by
  obtain ⟨i, hi, h0, h1⟩ := pick_ok (n := (xs.length : Int)) hb hp0 hp (by omega) hk
  refine ⟨rd xs i, ?_, ?_⟩
  · unfold spec_l21Rd_num.f
    rw [hi]
    simp only [Option.bind_some]
    rw [if_pos h0, if_pos h1]
  · unfold rd
    rw [List.getD_eq_getElem?_getD, List.getElem?_eq_getElem (by omega)]
    exact List.getElem_mem _

theorem open_ok {l : List Int} (hl : ∀ x ∈ l, (Lit.int .u8 x).wf = true) : ∃ b, spec_l21Open.f l = some (b, 0) ∧ ∀ x ∈ b, 0 ≤ x ∧ x ≤ 255 := by
  have hb : ∀ x ∈ l, 0 ≤ x ∧ x ≤ 255 := fun x hx => bounds_u8 (hl x hx)
  unfold spec_l21Open.f
  by_cases h : (l.length : Int) > 2000
  · rw [if_pos h, if_pos (by omega)]
    exact ⟨_, rfl, fun x hx => hb x (List.mem_of_mem_take hx)⟩
  · rw [if_neg h]
    exact ⟨_, rfl, hb⟩

theorem allO_total {α : Type} {p : α → Option Bool} {q : α → Bool} : ∀ (l : List α), (∀ x ∈ l, p x = some (q x)) → allO p l = some (l.all q)
  | [], _ => rfl
  | x :: xs, h => by
    have ih := allO_total xs (fun y hy => h y (List.mem_cons_of_mem _ hy))
    simp only [allO, h x (List.mem_cons_self), Option.bind_some, List.all_cons]
    cases q x
    · simp
    · simpa using ih

theorem rd_at {l : List Int} {i : Int} (h0 : 0 ≤ i) (h : i.toNat < l.length) : l.drop i.toNat = rd l i :: l.drop (i + 1).toNat := by
  rw [List.drop_eq_getElem_cons h, show (i + 1).toNat = i.toNat + 1 by omega]
  unfold rd
  rw [List.getD_eq_getElem?_getD, List.getElem?_eq_getElem h]
  rfl
theorem rd_mem {l : List Int} {i : Int} (h0 : 0 ≤ i) (h : i < l.length) : rd l i ∈ l := by
  unfold rd
  rw [List.getD_eq_getElem?_getD, List.getElem?_eq_getElem (by omega)]
  exact List.getElem_mem _

theorem s_in (a b c : Int) : spec_l1In.f a b c = some (decide (b ≤ a ∧ a ≤ c)) := by
  unfold spec_l1In.f
  by_cases h : b ≤ a <;> simp [h]
theorem i_in (a b c : Int) : impl_within.f a b c = some (decide (b ≤ a ∧ a ≤ c)) := by
  unfold impl_within.f
  by_cases h : b ≤ a <;> simp [h]
theorem index_loop (l : List Int) (v : Int) (hl : l.length ≤ 9223372036854775806) (d : Nat) : ∀ (k : Nat) (i : Int), 0 ≤ i → i + d = l.length → d < k →
    ∃ r, slices_Index_int_int.l0 k l v (l.length : Int) i = some r ∧ decide (r ≥ 0) = (l.drop i.toNat).contains v := by
  induction d with
  | zero =>
    intro k i h0 h1 hk
    obtain ⟨k, rfl⟩ : ∃ m, k = m + 1 := ⟨k - 1, by omega⟩
    refine ⟨-1, by simp only [slices_Index_int_int.l0]; rw [if_neg (by omega)], ?_⟩
    rw [List.drop_eq_nil_of_le (by omega)]; rfl
  | succ d ih =>
    intro k i h0 h1 hk
    obtain ⟨k, rfl⟩ : ∃ m, k = m + 1 := ⟨k - 1, by omega⟩
    rw [rd_at h0 (by omega)]
    simp only [slices_Index_int_int.l0]
    rw [if_pos (by omega), if_pos h0, if_pos (by omega)]
    by_cases e : v = rd l i
    · exact ⟨i, by rw [if_pos e], by rw [← e]; simp [h0]⟩
    · obtain ⟨r, hr, hd⟩ := ih k (i + 1) (by omega) (by omega) (by omega)
      refine ⟨r, by rw [if_neg e, w_in (by omega) (by omega)]; exact hr, ?_⟩
      rw [hd, List.contains_cons]
      simp [e]
theorem contains_ok {l : List Int} {v : Int} (hl : l.length ≤ 9223372036854775806) {k : Nat} (hk : l.length < k) : slices_Contains_int_int.f k l v = some (l.contains v) := by
  obtain ⟨r, hr, hd⟩ := index_loop l v hl l.length k 0 (by omega) (by omega) hk
  unfold slices_Contains_int_int.f slices_Index_int_int.f
  rw [hr]
  simp only [Option.bind_some]
  rw [hd]; rfl

def told (x : Int) : Bool := decide (0 ≤ x ∧ x ≤ 999)
theorem spec_seqs_loop (l : List Int) (most : Int) (hl : l.length ≤ 9223372036854775806) (d : Nat) : ∀ (k : Nat) (i : Int), 0 ≤ i → i + d = l.length → d < k →
    spec_l17Seqs.l0 k l most i = some ((l.drop i.toNat).all told && decide ((l.length : Int) ≤ most)) := by
  induction d with
  | zero =>
    intro k i h0 h1 hk
    obtain ⟨k, rfl⟩ : ∃ m, k = m + 1 := ⟨k - 1, by omega⟩
    simp only [spec_l17Seqs.l0]
    rw [if_neg (by omega), List.drop_eq_nil_of_le (by omega)]
    simp
  | succ d ih =>
    intro k i h0 h1 hk
    obtain ⟨k, rfl⟩ : ∃ m, k = m + 1 := ⟨k - 1, by omega⟩
    rw [rd_at h0 (by omega)]
    simp only [spec_l17Seqs.l0, s_in, Option.bind_some]
    rw [if_pos (by omega), if_pos h0, w_in (n := i + 1) (by omega) (by omega), ih k (i + 1) (by omega) (by omega) (by omega)]
    simp only [List.all_cons]
    rw [show decide (0 ≤ rd l i ∧ rd l i ≤ 999) = told (rd l i) from rfl]
    by_cases hc : told (rd l i) = true
    · rw [if_pos hc, hc]; simp
    · rw [if_neg hc]; simp [hc]
theorem spec_seqs {l : List Int} {most : Int} (hl : l.length ≤ 9223372036854775806) {k : Nat} (hk : l.length < k) : spec_l17Seqs.f k l most = some (l.all told && decide ((l.length : Int) ≤ most)) := by
  unfold spec_l17Seqs.f
  rw [spec_seqs_loop l most hl l.length k 0 (by omega) (by omega) hk]
  simp
theorem impl_told (x : Int) : impl_isTold.f x = some (told x) := by
  unfold impl_isTold.f told
  rw [i_in]
  rfl
theorem all_told (l : List Int) : all_impl_isTold.f l = some (l.all told) := by
  unfold all_impl_isTold.f
  exact allO_total (q := told) l (fun x _ => impl_told x)

theorem has_loop (l : List Int) (v : Int) (hl : l.length ≤ 9223372036854775806) (d : Nat) : ∀ (k : Nat) (i : Int), 0 ≤ i → i + d = l.length → d < k →
    spec_l10Has.l0 k l v i = some ((l.drop i.toNat).contains v) := by
  induction d with
  | zero =>
    intro k i h0 h1 hk
    obtain ⟨k, rfl⟩ : ∃ m, k = m + 1 := ⟨k - 1, by omega⟩
    simp only [spec_l10Has.l0]
    rw [if_neg (by omega), List.drop_eq_nil_of_le (by omega)]
    rfl
  | succ d ih =>
    intro k i h0 h1 hk
    obtain ⟨k, rfl⟩ : ∃ m, k = m + 1 := ⟨k - 1, by omega⟩
    rw [rd_at h0 (by omega)]
    simp only [spec_l10Has.l0]
    rw [if_pos (by omega), if_pos h0, w_in (n := i + 1) (by omega) (by omega), ih k (i + 1) (by omega) (by omega) (by omega), List.contains_cons]
    by_cases e : rd l i = v
    · rw [if_pos e, e]; simp
    · rw [if_neg e]
      have : (v == rd l i) = false := by simp; exact fun h => e h.symm
      simp [this]
theorem has_ok {l : List Int} {v : Int} (hl : l.length ≤ 9223372036854775806) {k : Nat} (hk : l.length < k) : spec_l10Has.f k l v = some (l.contains v) := by
  unfold spec_l10Has.f
  rw [has_loop l v hl l.length k 0 (by omega) (by omega) hk]
  simp

/-- Which frames are taken, from i on. -/
def tkf (l : List Int) : List Int → List Int → Int → Nat → List Int
  | o, _, _, 0 => o
  | o, m, i, d + 1 => if m.contains (rd l i) = true then tkf l o m (i + 1) d else tkf l (o ++ [i]) ((m ++ [rd l i]).drop ((m ++ [rd l i]).length - 8)) (i + 1) d
theorem tkf_len (l : List Int) : ∀ (d : Nat) (o m : List Int) (i : Int), (tkf l o m i d).length ≤ o.length + d
  | 0, o, m, i => by simp [tkf]
  | d + 1, o, m, i => by
    simp only [tkf]
    split
    · have := tkf_len l d o m (i + 1); omega
    · refine Nat.le_trans (tkf_len l d _ _ _) ?_
      simp
      omega
theorem spec_taken_loop (l : List Int) (hl : l.length ≤ 60) (d : Nat) : ∀ (k : Nat) (o m : List Int) (i : Int), 0 ≤ i → i + d = l.length → d + 10 < k → m.length ≤ 8 → o.length ≤ i →
    spec_TwinsTaken.l0 k l o m i = some (tkf l o m i d) := by
  induction d with
  | zero =>
    intro k o m i h0 h1 hk hm ho
    obtain ⟨k, rfl⟩ : ∃ q, k = q + 1 := ⟨k - 1, by omega⟩
    simp only [spec_TwinsTaken.l0]
    rw [if_neg (by omega)]
    rfl
  | succ d ih =>
    intro k o m i h0 h1 hk hm ho
    obtain ⟨k, rfl⟩ : ∃ q, k = q + 1 := ⟨k - 1, by omega⟩
    simp only [spec_TwinsTaken.l0]
    rw [if_pos (by omega), if_pos h0, has_ok (by omega) (by omega), w_in (n := i + 1) (by omega) (by omega)]
    simp only [Option.bind_some, tkf]
    by_cases c : m.contains (rd l i) = true
    · rw [if_pos c, if_pos c]
      exact ih k o m (i + 1) (by omega) (by omega) (by omega) hm (by omega)
    · rw [if_neg c, if_neg c, if_pos (by omega), if_pos (by omega)]
      by_cases h8 : ((m ++ [rd l i]).length : Int) > 8
      · rw [if_pos h8, if_pos (by omega)]
        have e : (m ++ [rd l i]).length - 8 = 1 := by simp at h8 ⊢; omega
        rw [e]
        exact ih k _ _ (i + 1) (by omega) (by omega) (by omega) (by simp; omega) (by simp; omega)
      · rw [if_neg h8]
        have e : (m ++ [rd l i]).length - 8 = 0 := by simp at h8 ⊢; omega
        rw [e, List.drop_zero]
        exact ih k _ _ (i + 1) (by omega) (by omega) (by omega) (by simp at h8 ⊢; omega) (by simp; omega)
theorem impl_taken_loop (l : List Int) (hl : l.length ≤ 60) (d : Nat) : ∀ (k : Nat) (o m : List Int) (i : Int), 0 ≤ i → i + d = l.length → d + 10 < k → m.length ≤ 8 → o.length ≤ i →
    impl_TwinsTaken.l0 k o m l (l.length : Int) i = some (tkf l o m i d) := by
  induction d with
  | zero =>
    intro k o m i h0 h1 hk hm ho
    obtain ⟨k, rfl⟩ : ∃ q, k = q + 1 := ⟨k - 1, by omega⟩
    simp only [impl_TwinsTaken.l0]
    rw [if_neg (by omega)]
    rfl
  | succ d ih =>
    intro k o m i h0 h1 hk hm ho
    obtain ⟨k, rfl⟩ : ∃ q, k = q + 1 := ⟨k - 1, by omega⟩
    simp only [impl_TwinsTaken.l0]
    rw [if_pos (by omega), if_pos h0, if_pos (by omega), contains_ok (by omega) (by omega), w_in (n := i + 1) (by omega) (by omega)]
    simp only [Option.bind_some, tkf]
    by_cases c : m.contains (rd l i) = true
    · rw [if_pos c, if_pos c]
      exact ih k o m (i + 1) (by omega) (by omega) (by omega) hm (by omega)
    · rw [if_neg c, if_neg c, if_pos (by omega), if_pos (by omega)]
      have hlen : (m ++ [rd l i]).length = m.length + 1 := by simp
      have e : mx 0 (wrap64 (((m ++ [rd l i]).length : Int) - 8)) = (((m ++ [rd l i]).length - 8 : Nat) : Int) := by
        rw [w_in (by omega) (by omega)]
        unfold mx
        split <;> omega
      rw [e, if_pos (by omega), if_pos (by omega), Int.toNat_natCast]
      exact ih k _ _ (i + 1) (by omega) (by omega) (by omega) (by simp; omega) (by simp; omega)
def tkn (l : List Int) : List Int := if l.length ≤ 60 ∧ l.all told = true then tkf l [] [] 0 l.length else []
theorem tkn_len (l : List Int) : (tkn l).length ≤ 60 := by
  unfold tkn
  split
  · rename_i h
    have := tkf_len l l.length [] [] 0
    simp at this
    omega
  · simp
theorem spec_taken {l : List Int} (hl : l.length ≤ 9223372036854775806) {k : Nat} (hk : l.length + 100 < k) : spec_TwinsTaken.f k l = some (tkn l) := by
  unfold spec_TwinsTaken.f tkn
  simp only [Option.bind_some]
  rw [spec_seqs hl (by omega)]
  simp only [Option.bind_some]
  by_cases h1 : l.all told = true
  · by_cases h2 : l.length ≤ 60
    · have h2' : (l.length : Int) ≤ 60 := by omega
      rw [if_pos (by simp [h1, h2']), if_pos ⟨h2, h1⟩]
      exact spec_taken_loop l h2 l.length k [] [] 0 (by omega) (by omega) (by omega) (by simp) (by simp)
    · rw [if_neg (by simp; omega), if_neg (by omega)]
  · rw [if_neg (by simp [h1]), if_neg (fun h => h1 h.2)]
theorem impl_taken {l : List Int} {k : Nat} (hk : l.length + 100 < k) : impl_TwinsTaken.f k l = some (tkn l) := by
  obtain ⟨k, rfl⟩ : ∃ q, k = q + 1 := ⟨k - 1, by omega⟩
  unfold impl_TwinsTaken.f tkn
  rw [all_told]
  simp only [Option.bind_some, impl_TwinsTaken.j0]
  by_cases h2 : l.length ≤ 60
  · rw [if_neg (by omega)]
    by_cases h1 : l.all told = true
    · rw [if_neg (by simp [h1]), if_pos ⟨h2, h1⟩]
      exact impl_taken_loop l h2 l.length k [] [] 0 (by omega) (by omega) (by omega) (by simp) (by simp)
    · rw [if_pos (by simpa using h1), if_neg (fun h => h1 h.2)]
  · rw [if_pos (by omega), if_pos trivial, if_neg (fun h => h2 h.1)]

theorem wn_loop (l : List Int) (hl : l.length ≤ 9223372036854775806) (d : Nat) : ∀ (k : Nat) (i : Int), 0 ≤ i → i + d = l.length → d < k → laws_wnInts.l0 k l l (l.length : Int) i = some true := by
  induction d with
  | zero =>
    intro k i h0 h1 hk
    obtain ⟨k, rfl⟩ : ∃ m, k = m + 1 := ⟨k - 1, by omega⟩
    simp only [laws_wnInts.l0]
    rw [if_neg (by omega)]
  | succ d ih =>
    intro k i h0 h1 hk
    obtain ⟨k, rfl⟩ : ∃ m, k = m + 1 := ⟨k - 1, by omega⟩
    simp only [laws_wnInts.l0]
    rw [if_pos (by omega), if_pos h0, if_pos (by omega), if_pos (by omega), if_pos trivial, w_in (n := i + 1) (by omega) (by omega)]
    exact ih k (i + 1) (by omega) (by omega) (by omega)
theorem wn_ok {l : List Int} (hl : l.length ≤ 9223372036854775806) {k : Nat} (hk : l.length < k) : laws_wnInts.f k l l = some true := by
  unfold laws_wnInts.f
  rw [if_pos rfl]
  exact wn_loop l hl l.length k 0 (by omega) (by omega) hk
theorem wnhas_loop (l : List Int) (v : Int) (hl : l.length ≤ 9223372036854775806) (d : Nat) : ∀ (k : Nat) (i : Int), 0 ≤ i → i + d = l.length → d < k →
    laws_wnHas.l0 k v l (l.length : Int) i = some ((l.drop i.toNat).contains v) := by
  induction d with
  | zero =>
    intro k i h0 h1 hk
    obtain ⟨k, rfl⟩ : ∃ m, k = m + 1 := ⟨k - 1, by omega⟩
    simp only [laws_wnHas.l0]
    rw [if_neg (by omega), List.drop_eq_nil_of_le (by omega)]
    rfl
  | succ d ih =>
    intro k i h0 h1 hk
    obtain ⟨k, rfl⟩ : ∃ m, k = m + 1 := ⟨k - 1, by omega⟩
    rw [rd_at h0 (by omega)]
    simp only [laws_wnHas.l0]
    rw [if_pos (by omega), if_pos h0, if_pos (by omega), w_in (n := i + 1) (by omega) (by omega), ih k (i + 1) (by omega) (by omega) (by omega), List.contains_cons]
    by_cases e : rd l i = v
    · rw [if_pos e, e]; simp
    · rw [if_neg e]
      have : (v == rd l i) = false := by simp; exact fun h => e h.symm
      simp [this]
theorem wnhas_ok {l : List Int} {v : Int} (hl : l.length ≤ 9223372036854775806) {k : Nat} (hk : l.length < k) : laws_wnHas.f k l v = some (l.contains v) := by
  unfold laws_wnHas.f
  rw [wnhas_loop l v hl l.length k 0 (by omega) (by omega) hk]
  simp
/-- What is kept in mind is the last eight of what was taken. -/
theorem keep8 (o : List Int) (x : Int) (f : Int → Int) (i : Int) (hx : f i = x) : ((o.map f).drop ((o.map f).length - 8) ++ [x]).drop (((o.map f).drop ((o.map f).length - 8) ++ [x]).length - 8) = ((o ++ [i]).map f).drop (((o ++ [i]).map f).length - 8) := by
  subst hx
  rw [List.map_append, List.map_singleton]
  generalize o.map f = y
  generalize f i = x
  simp only [List.length_append, List.length_drop, List.length_singleton]
  by_cases h : y.length ≤ 7
  · rw [show y.length - 8 = 0 by omega, List.drop_zero, show y.length - 0 + 1 - 8 = 0 by omega, show y.length + 1 - 8 = 0 by omega]
  · rw [show y.length - (y.length - 8) + 1 - 8 = 1 by omega, show y.length + 1 - 8 = (y.length - 8) + 1 by omega, List.drop_append_of_le_length (by rw [List.length_drop]; omega), List.drop_drop, List.drop_append_of_le_length (by omega), Nat.add_comm]
/-- What follows is no less than i. -/
theorem tkf_more (l : List Int) : ∀ (d : Nat) (o m : List Int) (i : Int), ∃ R, tkf l o m i d = o ++ R ∧ ∀ x ∈ R, i ≤ x
  | 0, o, m, i => ⟨[], by simp [tkf], by simp⟩
  | d + 1, o, m, i => by
    simp only [tkf]
    split
    · obtain ⟨R, h, hR⟩ := tkf_more l d o m (i + 1)
      exact ⟨R, h, fun x hx => by have := hR x hx; omega⟩
    · obtain ⟨R, h, hR⟩ := tkf_more l d (o ++ [i]) ((m ++ [rd l i]).drop ((m ++ [rd l i]).length - 8)) (i + 1)
      refine ⟨i :: R, by rw [h]; simp, fun x hx => ?_⟩
      rcases List.mem_cons.1 hx with hx | hx
      · omega
      · have := hR x hx; omega
theorem below_part {o R : List Int} {i : Int} (ho : ∀ x ∈ o, x < i) (hR : ∀ x ∈ R, i ≤ x) : (o ++ R).filter (fun x => decide (x < i)) = o := by
  rw [List.filter_append, List.filter_eq_self.mpr (fun x hx => decide_eq_true (ho x hx)), List.filter_eq_nil_iff.mpr (fun x hx => by have := hR x hx; simp; omega), List.append_nil]
/-- At i: the last eight of what was taken ahead of it, and whether it is taken. -/
theorem taken_at (l : List Int) (o : List Int) (i : Int) (d : Nat) (ho : ∀ x ∈ o, x < i) (L : List Int) (hL : L = tkf l o ((o.map (rd l)).drop ((o.map (rd l)).length - 8)) i (d + 1)) :
    ∃ o', (∀ x ∈ o', x < i + 1) ∧ L = tkf l o' ((o'.map (rd l)).drop ((o'.map (rd l)).length - 8)) (i + 1) d ∧ L.filter (fun x => decide (x < i)) = o ∧ L.contains i = !(((o.map (rd l)).drop ((o.map (rd l)).length - 8)).contains (rd l i)) := by
  obtain ⟨R, h, hR⟩ := tkf_more l (d + 1) o ((o.map (rd l)).drop ((o.map (rd l)).length - 8)) i
  have hf : L.filter (fun x => decide (x < i)) = o := by rw [hL, h]; exact below_part ho hR
  simp only [tkf] at hL
  by_cases c : ((o.map (rd l)).drop ((o.map (rd l)).length - 8)).contains (rd l i) = true
  · rw [if_pos c] at hL
    refine ⟨o, fun x hx => by have := ho x hx; omega, hL, hf, ?_⟩
    obtain ⟨R2, h2, hR2⟩ := tkf_more l d o ((o.map (rd l)).drop ((o.map (rd l)).length - 8)) (i + 1)
    rw [c, hL, h2, Bool.not_true, ← Bool.not_eq_true, List.contains_iff_mem, List.mem_append]
    rintro (hx | hx)
    · have := ho i hx; omega
    · have := hR2 i hx; omega
  · rw [if_neg c, keep8 o (rd l i) (rd l) i rfl] at hL
    refine ⟨o ++ [i], fun x hx => ?_, hL, hf, ?_⟩
    · rcases List.mem_append.1 hx with hx | hx
      · have := ho x hx; omega
      · rw [List.mem_singleton.1 hx]; omega
    · obtain ⟨R2, h2, _⟩ := tkf_more l d (o ++ [i]) (((o ++ [i]).map (rd l)).drop (((o ++ [i]).map (rd l)).length - 8)) (i + 1)
      rw [(Bool.not_eq_true _).mp c, hL, h2, Bool.not_false, List.contains_iff_mem]
      simp
theorem tkf_first (l : List Int) (d : Nat) : ∃ R, tkf l [] [] 0 (d + 1) = 0 :: R := by
  simp only [tkf]
  rw [if_neg (by simp)]
  obtain ⟨R, h, _⟩ := tkf_more l d ([] ++ [0]) (([] ++ [rd l 0]).drop (([] ++ [rd l 0]).length - 8)) (0 + 1)
  exact ⟨R, by rw [h]; rfl⟩
theorem tkf_lt (l : List Int) : ∀ (d : Nat) (o m : List Int) (i : Int), 0 ≤ i → (∀ x ∈ o, 0 ≤ x ∧ x < i + d) → ∀ x ∈ tkf l o m i d, 0 ≤ x ∧ x < i + d
  | 0, o, m, i, _, h => fun x hx => by simpa using h x (by simpa [tkf] using hx)
  | d + 1, o, m, i, h0, h => fun x hx => by
    simp only [tkf] at hx
    split at hx
    · have := tkf_lt l d o m (i + 1) (by omega) (fun y hy => by have := h y hy; omega) x hx
      omega
    · have := tkf_lt l d (o ++ [i]) _ (i + 1) (by omega) (fun y hy => by
        rcases List.mem_append.1 hy with hy | hy
        · have := h y hy; omega
        · rw [List.mem_singleton.1 hy]; omega) x hx
      omega
theorem draw17_loop {b : List Int} (hb : ∀ x ∈ b, 0 ≤ x ∧ x ≤ 255) (d : Nat) : ∀ (k : Nat) (x : List Int) (c p : Int), c = d → d + 1 < k → x.length + d ≤ 1000 → 0 ≤ p → p + 4 * d ≤ 1000000 →
    ∃ l p', spec_l17List.l0 k x c b p = some (l, p') ∧ l.length ≤ x.length + d ∧ 0 ≤ p' ∧ p' ≤ p + 4 * d := by
  induction d with
  | zero =>
    intro k x c p hc hk hx hp hp2
    obtain ⟨k, rfl⟩ : ∃ m, k = m + 1 := ⟨k - 1, by omega⟩
    simp only [spec_l17List.l0]
    rw [if_neg (by omega)]
    exact ⟨_, _, rfl, by omega, by omega, by omega⟩
  | succ d ih =>
    intro k x c p hc hk hx hp hp2
    obtain ⟨k, rfl⟩ : ∃ m, k = m + 1 := ⟨k - 1, by omega⟩
    obtain ⟨v, e, _, _⟩ := pick_ok (k := k) (p := p) (n := 12) hb hp (by omega) (by omega) (by omega)
    obtain ⟨v', e', _, _⟩ := pick_ok (k := k) (p := p + 1) (n := 12) hb (by omega) (by omega) (by omega) (by omega)
    obtain ⟨q, e2, hq0, hq1⟩ := pick_ok (k := k) (p := p + 1 + 1) (n := 30) hb (by omega) (by omega) (by omega) (by omega)
    have ht : ∃ t, wrap64 (3 + wrap64 (Int.tdiv q 29)) = t ∧ 3 ≤ t ∧ t ≤ 4 := by
      rw [Int.tdiv_eq_ediv_of_nonneg hq0, w_in (n := q / 29) (by omega) (by omega), w_in (by omega) (by omega)]
      exact ⟨_, rfl, by omega, by omega⟩
    obtain ⟨t, ht, ht3, ht4⟩ := ht
    simp only [spec_l17List.l0]
    rw [if_pos (by omega), bs e]
    dsimp only
    rw [bs e']
    dsimp only
    rw [bs rfl, bs e2]
    dsimp only
    rw [ht, if_pos (by omega), if_pos (by simp; omega)]
    obtain ⟨z, e3, _⟩ := num_ok (k := k) (b := b) (p := p + 1 + 1 + 1) (xs := ([v, v', 999, 1000] : List Int).take t.toNat) hb (by omega) (by omega) (by simp; omega) (by omega)
    rw [bs e3]
    dsimp only
    rw [if_pos (by omega), w_in (n := c - 1) (by omega) (by omega)]
    obtain ⟨l, p', e4, h1, h2, h3⟩ := ih k (x ++ [z]) (c - 1) (p + 1 + 1 + 1 + 1) (by omega) (by omega) (by simp; omega) (by omega) (by omega)
    exact ⟨l, p', e4, by simp at h1; omega, h2, by omega⟩
theorem draw17 {b : List Int} (hb : ∀ x ∈ b, 0 ≤ x ∧ x ≤ 255) {k : Nat} (hk : 100 ≤ k) {p most : Int} (hm : 1 ≤ most ∧ most ≤ 40) (hp : 0 ≤ p) (hp2 : p ≤ 1000) :
    ∃ l p', spec_l17List.f k b p most = some (l, p') ∧ l.length ≤ 40 ∧ 0 ≤ p' ∧ p' ≤ p + 200 := by
  obtain ⟨v, e, h0, h1⟩ := pick_ok (k := k) (p := p) (n := most) hb hp (by omega) (by omega) (by omega)
  unfold spec_l17List.f
  rw [bs e]
  dsimp only
  obtain ⟨l, p', e', h2, h3, h4⟩ := draw17_loop hb v.toNat k [] v (p + 1) (by omega) (by omega) (by simp; omega) (by omega) (by omega)
  exact ⟨l, p', e', by simp at h2; omega, h3, by omega⟩
theorem taken_inner (l L : List Int) (n i : Int) (hL : ∀ x ∈ L, 0 ≤ x ∧ x < l.length) (hLl : L.length ≤ 60) (d : Nat) : ∀ (k : Nat) (o : List Int) (j : Int), 0 ≤ j → j + d = L.length → o.length + d ≤ 1000 →
    laws_FnTaken.l1 (k + d) l L i o n i L (L.length : Int) j = laws_FnTaken.l1 k l L i (o ++ ((L.drop j.toNat).filter (fun x => decide (x < i))).map (rd l)) n i L (L.length : Int) (L.length : Int) := by
  induction d with
  | zero =>
    intro k o j h0 h1 ho
    rw [List.drop_eq_nil_of_le (by omega), show j = (L.length : Int) by omega]
    simp
  | succ d ih =>
    intro k o j h0 h1 ho
    rw [show k + (d + 1) = (k + d) + 1 by omega, rd_at h0 (by omega)]
    have hm := hL (rd L j) (rd_mem h0 (by omega))
    by_cases c : rd L j < i
    · have hs : laws_FnTaken.l1 (k + d + 1) l L i o n i L (L.length : Int) j = laws_FnTaken.l1 (k + d) l L i (o ++ [rd l (rd L j)]) n i L (L.length : Int) (j + 1) := by
        rw [laws_FnTaken.l1]
        rw [if_pos (by omega), if_pos h0, if_pos (by omega), if_pos c, if_pos hm.1, if_pos hm.2, if_pos (by omega), w_in (n := j + 1) (by omega) (by omega)]
      rw [hs, ih k (o ++ [rd l (rd L j)]) (j + 1) (by omega) (by omega) (by simp; omega), List.filter_cons_of_pos (by simpa using c)]
      simp
    · have hs : laws_FnTaken.l1 (k + d + 1) l L i o n i L (L.length : Int) j = laws_FnTaken.l1 (k + d) l L i o n i L (L.length : Int) (j + 1) := by
        rw [laws_FnTaken.l1]
        rw [if_pos (by omega), if_pos h0, if_pos (by omega), if_neg c, w_in (n := j + 1) (by omega) (by omega)]
      rw [hs, ih k o (j + 1) (by omega) (by omega) (by omega), List.filter_cons_of_neg (by simpa using c)]
theorem taken_outer (l L : List Int) (hl : l.length ≤ 60) (hL : ∀ x ∈ L, 0 ≤ x ∧ x < l.length) (hLl : L.length ≤ 60) (h0 : rd L 0 = 0) (hp : 0 < L.length) (d : Nat) : ∀ (k : Nat) (o : List Int) (i : Int), 0 ≤ i → i + d = l.length → (∀ x ∈ o, x < i) →
    L = tkf l o ((o.map (rd l)).drop ((o.map (rd l)).length - 8)) i d → 100 + 70 * d < k → laws_FnTaken.l0 k l L (l.length : Int) i = some true := by
  induction d with
  | zero =>
    intro k o i hi hd ho hk1 hk
    obtain ⟨k, rfl⟩ : ∃ m, k = m + 1 := ⟨k - 1, by omega⟩
    rw [laws_FnTaken.l0]
    rw [if_neg (by omega), if_pos (by omega), h0]
    rfl
  | succ d ih =>
    intro k o i hi hd ho hT hk
    obtain ⟨k, rfl⟩ : ∃ m, k = ((m + 1) + L.length) + 1 := ⟨k - L.length - 2, by omega⟩
    obtain ⟨o', ho', hT', hf, hc⟩ := taken_at l o i d ho L hT
    rw [laws_FnTaken.l0]
    rw [if_pos (by omega), taken_inner l L _ i hL hLl L.length (k + 1) [] 0 (by omega) (by omega) (by simp; omega)]
    rw [show (0 : Int).toNat = 0 from rfl, List.drop_zero, hf, List.nil_append]
    have hol : o.length ≤ 60 := by
      rw [← hf]
      exact Nat.le_trans (List.length_filter_le _ _) hLl
    generalize hy : o.map (rd l) = y at hc
    have hyl : y.length ≤ 60 := by rw [← hy]; simpa using hol
    have e : mx 0 (wrap64 ((y.length : Int) - 8)) = ((y.length - 8 : Nat) : Int) := by
      rw [w_in (by omega) (by omega)]
      unfold mx
      split <;> omega
    rw [laws_FnTaken.l1]
    rw [if_neg (by omega), e, if_pos (by omega), if_pos (by omega), Int.toNat_natCast, bs (wnhas_ok (by omega) (by omega))]
    rw [if_pos hi, if_pos (by omega), bs (wnhas_ok (by rw [List.length_drop]; omega) (by rw [List.length_drop]; omega))]
    rw [hc, if_neg (by simp), w_in (n := i + 1) (by omega) (by omega)]
    exact ih k o' (i + 1) (by omega) (by omega) ho' hT' (by omega)
theorem tkn_some {l : List Int} (h : (tkn l).length ≠ 0) : l.length ≤ 60 ∧ tkn l = tkf l [] [] 0 l.length ∧ l.length ≠ 0 := by
  unfold tkn at h ⊢
  split
  · rename_i c
    refine ⟨c.1, rfl, fun e => ?_⟩
    rw [if_pos c, e] at h
    exact h rfl
  · rename_i c
    rw [if_neg c] at h
    exact absurd rfl h
theorem FnTaken : laws_FnTaken.Pure := by
  intro l0 _ _ hl0
  obtain ⟨k, hk⟩ : ∃ k, 9000 < k := ⟨9001, by omega⟩
  refine ⟨k, ?_⟩
  unfold laws_FnTaken.f
  by_cases hlen : (l0.length : Int) > 1048576
  · rw [if_pos hlen]
  rw [if_neg hlen]
  obtain ⟨b, e, hb⟩ := open_ok hl0
  obtain ⟨l, p, e1, hl, _, _⟩ := draw17 (k := k) hb (by omega) (p := 0) (most := 30) (by omega) (by omega) (by omega)
  have ed : spec_DrawTwinsTaken.f k l0 = some l := by
    unfold spec_DrawTwinsTaken.f
    rw [bs e]
    dsimp only
    rw [bs e1]
  have lo := tkn_len l
  rw [bs ed, bs (impl_taken (by omega)), bs (spec_taken (by omega) (by omega)), bs (wn_ok (by omega) (by omega)), if_pos rfl]
  obtain ⟨k, rfl⟩ : ∃ m, k = m + 1 := ⟨k - 1, by omega⟩
  rw [laws_FnTaken.j0]
  by_cases c : (tkn l).length = 0
  · rw [if_pos (by simp [c]), bs (spec_taken (by omega) (by omega)), bs (wn_ok (by omega) (by omega))]
  · rw [if_neg (by simpa using c)]
    obtain ⟨h1, h2, h3⟩ := tkn_some c
    obtain ⟨R, hR⟩ := tkf_first l (l.length - 1)
    rw [show l.length - 1 + 1 = l.length by omega, ← h2] at hR
    refine taken_outer l (tkn l) h1 (fun x hx => ?_) lo ?_ (by omega) l.length k [] 0 (by omega) (by omega) (by simp) (by simpa using h2) (by omega)
    · rw [h2] at hx
      have := tkf_lt l l.length [] [] 0 (by omega) (by simp) x hx
      omega
    · rw [hR]
      rfl

end Go.Proofs.Ytfdcglkmacinmaa.Pure
