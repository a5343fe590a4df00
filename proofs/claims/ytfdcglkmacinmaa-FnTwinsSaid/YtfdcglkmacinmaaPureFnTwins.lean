/- What both sides of FnTwins compute, in plain Lean. -/
import Derived.Test.YtfdcglkmacinmaaPFnTwinsx4
import Derived.Laws.BitsLemmas
import Derived.OpenShut
namespace Go.Proofs.Ytfdcglkmacinmaa.Pure
open Go.RowKit Go.Proofs.Ytfdcglkmacinmaa.PFnTwins Go.Proofs.YtfdcglkmacinmaaW.PrintWords Go.Proofs.YtfdcglkmacinmaaW.PrintLast

theorem w_in {n : Int} (h0 : -9223372036854775808 ≤ n) (h1 : n ≤ 9223372036854775807) : wrap64 n = n := by unfold wrap64; omega

theorem bs {α β : Type} {x : Option α} {a : α} {f : α → Option β} (h : x = some a) : x.bind f = f a := by rw [h]; rfl
/-- A byte list's reader never fails: what 'pick' answers. -/
theorem b_rd {b : List Int} (hb : ∀ x ∈ b, 0 ≤ x ∧ x ≤ 255) (i : Int) : 0 ≤ rd b i ∧ rd b i ≤ 255 := by
  unfold rd
  rw [List.getD_eq_getElem?_getD]
  cases h : b[i.toNat]? with
  | none => simp
  | some x => exact hb x (List.mem_of_getElem? h)

theorem xor_nn {x y : Int} (hx0 : 0 ≤ x) (hx : x < 4611686018427387904) (hy0 : 0 ≤ y) (hy : y < 4611686018427387904) : 0 ≤ Go.bits .xor .i64 x y := by
  obtain ⟨a, rfl⟩ := Int.eq_ofNat_of_zero_le hx0
  obtain ⟨b, rfl⟩ := Int.eq_ofNat_of_zero_le hy0
  have ha : a < 2 ^ 62 := by simp; omega
  have hb : b < 2 ^ 62 := by simp; omega
  have hc : a ^^^ b < 2 ^ 62 := Nat.xor_lt_two_pow ha hb
  have ha' : a % 2 ^ 64 = a := Nat.mod_eq_of_lt (by simp at ha ⊢; omega)
  have hb' : b % 2 ^ 64 = b := Nat.mod_eq_of_lt (by simp at hb ⊢; omega)
  have key : (BitVec.ofNat 64 a ^^^ BitVec.ofNat 64 b).toNat = a ^^^ b := by rw [BitVec.toNat_xor, BitVec.toNat_ofNat, BitVec.toNat_ofNat, ha', hb']
  have e : Go.bits .xor .i64 (a : Int) (b : Int) = IntKind.i64.wrap (((BitVec.ofNat 64 a ^^^ BitVec.ofNat 64 b).toNat : Nat) : Int) := by
    simp only [Go.bits, BitVec.ofInt_natCast]
    rfl
  rw [e, key, IntKind.wrap_i64]
  generalize a ^^^ b = c at hc
  simp at hc
  omega

theorem tm_bd {x n : Int} (hx : 0 ≤ x) (hn : 0 < n) : 0 ≤ Int.tmod x n ∧ Int.tmod x n < n := by
  rw [Int.tmod_eq_emod_of_nonneg hx]
  exact ⟨Int.emod_nonneg _ (by omega), Int.emod_lt_of_pos _ hn⟩

theorem pick_ok {k : Nat} {b : List Int} {p n : Int} (hb : ∀ x ∈ b, 0 ≤ x ∧ x ≤ 255) (hp0 : 0 ≤ p) (hp : p ≤ 100000000) (hn : 1 ≤ n) (hk : 0 < k) :
    ∃ v, spec_l21Rd_pick.f k b p n = some (v, p + 1) ∧ 0 ≤ v ∧ v < n := by
  obtain ⟨k, rfl⟩ : ∃ m, k = m + 1 := ⟨k - 1, by omega⟩
  have e1 : wrap64 (p + 1) = p + 1 := w_in (by omega) (by omega)
  have e2 : wrap64 (p + 1 - 1) = p := by rw [show p + 1 - 1 = p by omega]; exact w_in (by omega) (by omega)
  unfold spec_l21Rd_pick.f
  rw [if_neg (by omega), e1]
  simp only [spec_l21Rd_pick.j0, e2]
  by_cases h0 : b.length = 0
  · rw [if_pos (by simp [h0])]
    exact ⟨0, rfl, by omega, by omega⟩
  rw [if_neg (by simp; intro h; simp [h] at h0)]
  have hl : 0 < (b.length : Int) := by omega
  by_cases h1 : p < (b.length : Int)
  · rw [if_pos h1, if_pos hp0, if_neg (by omega)]
    have := b_rd hb p
    rw [w_in (n := rd b p) (by omega) (by omega)]
    exact ⟨_, rfl, (tm_bd this.1 (by omega)).1, (tm_bd this.1 (by omega)).2⟩
  rw [if_neg h1, if_neg (by omega)]
  have m1 := tm_bd (x := p) (n := b.length) hp0 hl
  have e3 : wrap64 (p * 7) = p * 7 := w_in (by omega) (by omega)
  have e4 : wrap64 (p * 7 + 3) = p * 7 + 3 := w_in (by omega) (by omega)
  have m2 := tm_bd (x := p * 7 + 3) (n := b.length) (by omega) hl
  rw [e3, e4, if_pos m1.1, if_pos m1.2, if_pos m2.1, if_pos m2.2, if_neg (by omega)]
  have r1 := b_rd hb (Int.tmod p b.length)
  have r2 := b_rd hb (Int.tmod (p * 7 + 3) b.length)
  generalize rd b (Int.tmod p b.length) = u at r1
  generalize rd b (Int.tmod (p * 7 + 3) b.length) = v at r2
  have d1 : 0 ≤ Int.tdiv p b.length ∧ Int.tdiv p b.length ≤ p := by
    rw [Int.tdiv_eq_ediv_of_nonneg hp0]
    exact ⟨Int.ediv_nonneg hp0 (by omega), Int.ediv_le_self _ hp0⟩
  generalize Int.tdiv p b.length = d at d1
  have e5 : wrap64 (wrap64 (wrap64 (wrap64 (wrap64 u * 131) + wrap64 (wrap64 v * 1117)) + wrap64 (p * 29)) + wrap64 (wrap64 d * 53)) = u * 131 + v * 1117 + p * 29 + d * 53 := by
    rw [w_in (n := u) (by omega) (by omega), w_in (n := v) (by omega) (by omega), w_in (n := d) (by omega) (by omega), w_in (n := u * 131) (by omega) (by omega), w_in (n := v * 1117) (by omega) (by omega), w_in (n := p * 29) (by omega) (by omega), w_in (n := d * 53) (by omega) (by omega), w_in (n := u * 131 + v * 1117) (by omega) (by omega), w_in (n := u * 131 + v * 1117 + p * 29) (by omega) (by omega), w_in (by omega) (by omega)]
  rw [e5]
  have hx0 : 0 ≤ u * 131 + v * 1117 + p * 29 + d * 53 := by omega
  have hx1 : u * 131 + v * 1117 + p * 29 + d * 53 < 4611686018427387904 := by omega
  generalize u * 131 + v * 1117 + p * 29 + d * 53 = x at hx0 hx1
  have d2 : 0 ≤ Int.tdiv x 64 ∧ Int.tdiv x 64 < 4611686018427387904 := by
    rw [Int.tdiv_eq_ediv_of_nonneg hx0]
    omega
  rw [w_in (n := Int.tdiv x 64) (by omega) (by omega)]
  have hz := xor_nn hx0 hx1 d2.1 d2.2
  exact ⟨_, rfl, (tm_bd hz (by omega)).1, (tm_bd hz (by omega)).2⟩

theorem num_ok {k : Nat} {b : List Int} {p : Int} {xs : List Int} (hb : ∀ x ∈ b, 0 ≤ x ∧ x ≤ 255) (hp0 : 0 ≤ p) (hp : p ≤ 100000000) (hn : 1 ≤ xs.length) (hk : 0 < k) :
    ∃ v, spec_l21Rd_num.f k b p xs = some (v, p + 1) ∧ v ∈ xs := by
  obtain ⟨i, hi, h0, h1⟩ := pick_ok (n := (xs.length : Int)) hb hp0 hp (by omega) hk
  refine ⟨rd xs i, ?_, ?_⟩
  · unfold spec_l21Rd_num.f
    rw [hi]
    simp only [Option.bind_some]
    rw [if_pos h0, if_pos h1]
  · unfold rd
    rw [List.getD_eq_getElem?_getD, List.getElem?_eq_getElem (by omega)]
    exact List.getElem_mem _

theorem open_ok {l : List Int} (hl : ∀ x ∈ l, (Lit.int .u8 x).wf = true) : ∃ b, spec_l21Open.f l = some (b, 0) ∧ ∀ x ∈ b, 0 ≤ x ∧ x ≤ 255 := by
  have hb : ∀ x ∈ l, 0 ≤ x ∧ x ≤ 255 := fun x hx => bounds_u8 (hl x hx)
  unfold spec_l21Open.f
  by_cases h : (l.length : Int) > 2000
  · rw [if_pos h, if_pos (by omega)]
    exact ⟨_, rfl, fun x hx => hb x (List.mem_of_mem_take hx)⟩
  · rw [if_neg h]
    exact ⟨_, rfl, hb⟩

theorem allO_total {α : Type} {p : α → Option Bool} {q : α → Bool} : ∀ (l : List α), (∀ x ∈ l, p x = some (q x)) → allO p l = some (l.all q)
  | [], _ => rfl
  | x :: xs, h => by
    have ih := allO_total xs (fun y hy => h y (List.mem_cons_of_mem _ hy))
    simp only [allO, h x (List.mem_cons_self), Option.bind_some, List.all_cons]
    cases q x
    · simp
    · simpa using ih

theorem rd_at {l : List Int} {i : Int} (h0 : 0 ≤ i) (h : i.toNat < l.length) : l.drop i.toNat = rd l i :: l.drop (i + 1).toNat := by
  rw [List.drop_eq_getElem_cons h, show (i + 1).toNat = i.toNat + 1 by omega]
  unfold rd
  rw [List.getD_eq_getElem?_getD, List.getElem?_eq_getElem h]
  rfl
theorem rd_mem {l : List Int} {i : Int} (h0 : 0 ≤ i) (h : i < l.length) : rd l i ∈ l := by
  unfold rd
  rw [List.getD_eq_getElem?_getD, List.getElem?_eq_getElem (by omega)]
  exact List.getElem_mem _

theorem s_in (a b c : Int) : spec_l1In.f a b c = some (decide (b ≤ a ∧ a ≤ c)) := by
  unfold spec_l1In.f
  by_cases h : b ≤ a <;> simp [h]
theorem i_in (a b c : Int) : impl_within.f a b c = some (decide (b ≤ a ∧ a ≤ c)) := by
  unfold impl_within.f
  by_cases h : b ≤ a <;> simp [h]
theorem index_loop (l : List Int) (v : Int) (hl : l.length ≤ 9223372036854775806) (d : Nat) : ∀ (k : Nat) (i : Int), 0 ≤ i → i + d = l.length → d < k →
    ∃ r, slices_Index_int_int.l0 k l v (l.length : Int) i = some r ∧ decide (r ≥ 0) = (l.drop i.toNat).contains v := by
  induction d with
  | zero =>
    intro k i h0 h1 hk
    obtain ⟨k, rfl⟩ : ∃ m, k = m + 1 := ⟨k - 1, by omega⟩
    refine ⟨-1, by simp only [slices_Index_int_int.l0]; rw [if_neg (by omega)], ?_⟩
    rw [List.drop_eq_nil_of_le (by omega)]; rfl
  | succ d ih =>
    intro k i h0 h1 hk
    obtain ⟨k, rfl⟩ : ∃ m, k = m + 1 := ⟨k - 1, by omega⟩
    rw [rd_at h0 (by omega)]
    simp only [slices_Index_int_int.l0]
    rw [if_pos (by omega), if_pos h0, if_pos (by omega)]
    by_cases e : v = rd l i
    · exact ⟨i, by rw [if_pos e], by rw [← e]; simp [h0]⟩
    · obtain ⟨r, hr, hd⟩ := ih k (i + 1) (by omega) (by omega) (by omega)
      refine ⟨r, by rw [if_neg e, w_in (by omega) (by omega)]; exact hr, ?_⟩
      rw [hd, List.contains_cons]
      simp [e]
theorem contains_ok {l : List Int} {v : Int} (hl : l.length ≤ 9223372036854775806) {k : Nat} (hk : l.length < k) : slices_Contains_int_int.f k l v = some (l.contains v) := by
  obtain ⟨r, hr, hd⟩ := index_loop l v hl l.length k 0 (by omega) (by omega) hk
  unfold slices_Contains_int_int.f slices_Index_int_int.f
  rw [hr]
  simp only [Option.bind_some]
  rw [hd]; rfl

def told (x : Int) : Bool := decide (0 ≤ x ∧ x ≤ 999)
theorem spec_seqs_loop (l : List Int) (most : Int) (hl : l.length ≤ 9223372036854775806) (d : Nat) : ∀ (k : Nat) (i : Int), 0 ≤ i → i + d = l.length → d < k →
    spec_l17Seqs.l0 k l most i = some ((l.drop i.toNat).all told && decide ((l.length : Int) ≤ most)) := by
  induction d with
  | zero =>
    intro k i h0 h1 hk
    obtain ⟨k, rfl⟩ : ∃ m, k = m + 1 := ⟨k - 1, by omega⟩
    simp only [spec_l17Seqs.l0]
    rw [if_neg (by omega), List.drop_eq_nil_of_le (by omega)]
    simp
  | succ d ih =>
    intro k i h0 h1 hk
    obtain ⟨k, rfl⟩ : ∃ m, k = m + 1 := ⟨k - 1, by omega⟩
    rw [rd_at h0 (by omega)]
    simp only [spec_l17Seqs.l0, s_in, Option.bind_some]
    rw [if_pos (by omega), if_pos h0, w_in (n := i + 1) (by omega) (by omega), ih k (i + 1) (by omega) (by omega) (by omega)]
    simp only [List.all_cons]
    rw [show decide (0 ≤ rd l i ∧ rd l i ≤ 999) = told (rd l i) from rfl]
    by_cases hc : told (rd l i) = true
    · rw [if_pos hc, hc]; simp
    · rw [if_neg hc]; simp [hc]
theorem spec_seqs {l : List Int} {most : Int} (hl : l.length ≤ 9223372036854775806) {k : Nat} (hk : l.length < k) : spec_l17Seqs.f k l most = some (l.all told && decide ((l.length : Int) ≤ most)) := by
  unfold spec_l17Seqs.f
  rw [spec_seqs_loop l most hl l.length k 0 (by omega) (by omega) hk]
  simp
theorem impl_told (x : Int) : impl_isTold.f x = some (told x) := by
  unfold impl_isTold.f told
  rw [i_in]
  rfl
theorem all_told (l : List Int) : all_impl_isTold.f l = some (l.all told) := by
  unfold all_impl_isTold.f
  exact allO_total (q := told) l (fun x _ => impl_told x)

/-- Which frames are taken, from i on. -/
def tkf (l : List Int) : List Int → List Int → Int → Nat → List Int
  | o, _, _, 0 => o
  | o, m, i, d + 1 => if m.contains (rd l i) = true then tkf l o m (i + 1) d else tkf l (o ++ [i]) ((m ++ [rd l i]).drop ((m ++ [rd l i]).length - 8)) (i + 1) d
theorem tkf_len (l : List Int) : ∀ (d : Nat) (o m : List Int) (i : Int), (tkf l o m i d).length ≤ o.length + d
  | 0, o, m, i => by simp [tkf]
  | d + 1, o, m, i => by
    simp only [tkf]
    split
    · have := tkf_len l d o m (i + 1); omega
    · refine Nat.le_trans (tkf_len l d _ _ _) ?_
      simp
      omega
theorem impl_taken_loop (l : List Int) (hl : l.length ≤ 60) (d : Nat) : ∀ (k : Nat) (o m : List Int) (i : Int), 0 ≤ i → i + d = l.length → d + 10 < k → m.length ≤ 8 → o.length ≤ i →
    impl_TwinsTaken.l0 k o m l (l.length : Int) i = some (tkf l o m i d) := by
  induction d with
  | zero =>
    intro k o m i h0 h1 hk hm ho
    obtain ⟨k, rfl⟩ : ∃ q, k = q + 1 := ⟨k - 1, by omega⟩
    simp only [impl_TwinsTaken.l0]
    rw [if_neg (by omega)]
    rfl
  | succ d ih =>
    intro k o m i h0 h1 hk hm ho
    obtain ⟨k, rfl⟩ : ∃ q, k = q + 1 := ⟨k - 1, by omega⟩
    simp only [impl_TwinsTaken.l0]
    rw [if_pos (by omega), if_pos h0, if_pos (by omega), contains_ok (by omega) (by omega), w_in (n := i + 1) (by omega) (by omega)]
    simp only [Option.bind_some, tkf]
    by_cases c : m.contains (rd l i) = true
    · rw [if_pos c, if_pos c]
      exact ih k o m (i + 1) (by omega) (by omega) (by omega) hm (by omega)
    · rw [if_neg c, if_neg c, if_pos (by omega), if_pos (by omega)]
      have hlen : (m ++ [rd l i]).length = m.length + 1 := by simp
      have e : mx 0 (wrap64 (((m ++ [rd l i]).length : Int) - 8)) = (((m ++ [rd l i]).length - 8 : Nat) : Int) := by
        rw [w_in (by omega) (by omega)]
        unfold mx
        split <;> omega
      rw [e, if_pos (by omega), if_pos (by omega), Int.toNat_natCast]
      exact ih k _ _ (i + 1) (by omega) (by omega) (by omega) (by simp; omega) (by simp; omega)
def tkn (l : List Int) : List Int := if l.length ≤ 60 ∧ l.all told = true then tkf l [] [] 0 l.length else []
theorem tkn_len (l : List Int) : (tkn l).length ≤ 60 := by
  unfold tkn
  split
  · rename_i h
    have := tkf_len l l.length [] [] 0
    simp at this
    omega
  · simp
theorem impl_taken {l : List Int} {k : Nat} (hk : l.length + 100 < k) : impl_TwinsTaken.f k l = some (tkn l) := by
  obtain ⟨k, rfl⟩ : ∃ q, k = q + 1 := ⟨k - 1, by omega⟩
  unfold impl_TwinsTaken.f tkn
  rw [all_told]
  simp only [Option.bind_some, impl_TwinsTaken.j0]
  by_cases h2 : l.length ≤ 60
  · rw [if_neg (by omega)]
    by_cases h1 : l.all told = true
    · rw [if_neg (by simp [h1]), if_pos ⟨h2, h1⟩]
      exact impl_taken_loop l h2 l.length k [] [] 0 (by omega) (by omega) (by omega) (by simp) (by simp)
    · rw [if_pos (by simpa using h1), if_neg (fun h => h1 h.2)]
  · rw [if_pos (by omega), if_pos trivial, if_neg (fun h => h2 h.1)]

/-- What has come from the time t on, in d steps. -/
def twf (e l : List Int) (lead : Int) : List Int → Int → Nat → List Int
  | o, _, 0 => o
  | o, t, d + 1 => twf e l lead ((if t < (e.length : Int) then o ++ [rd e t] else o) ++ (if 0 ≤ t - lead ∧ t - lead ≤ (l.length : Int) - 1 then [rd l (t - lead)] else [])) (t + 1) d
theorem twf_len (e l : List Int) (lead : Int) : ∀ (d : Nat) (o : List Int) (t : Int), (twf e l lead o t d).length ≤ o.length + 2 * d
  | 0, o, t => by simp [twf]
  | d + 1, o, t => by
    simp only [twf]
    refine Nat.le_trans (twf_len e l lead d _ _) ?_
    rw [List.length_append]
    split <;> split <;> simp <;> omega
theorem twf_add (e l : List Int) (lead : Int) : ∀ (a : Nat) (o : List Int) (t : Int) (b : Nat), twf e l lead o t (a + b) = twf e l lead (twf e l lead o t a) (t + a) b
  | 0, o, t, b => by simp [twf]
  | a + 1, o, t, b => by
    rw [show a + 1 + b = (a + b) + 1 by omega]
    simp only [twf]
    rw [twf_add e l lead a _ (t + 1) b, show t + 1 + (a : Int) = t + ((a + 1 : Nat) : Int) by push_cast; omega]
theorem twf_rest (e l : List Int) (lead : Int) (he : e.length ≤ 30) (hl : l.length ≤ 30) (h0 : 0 ≤ lead) : ∀ (d : Nat) (o : List Int) (t : Int), lead + 31 ≤ t → twf e l lead o t d = o
  | 0, _, _, _ => rfl
  | d + 1, o, t, ht => by
    simp only [twf]
    rw [if_neg (by omega), if_neg (by omega), List.append_nil]
    exact twf_rest e l lead he hl h0 d o (t + 1) (by omega)
theorem spec_order_loop (e l : List Int) (lead : Int) (h0 : 0 ≤ lead) (h1 : lead ≤ 50) (hl : l.length ≤ 30) (d : Nat) : ∀ (k : Nat) (o : List Int) (t : Int), 0 ≤ t → t + d = 80 → d < k → o.length ≤ 2 * t → spec_TwinOrder.l0 k e l lead o t = some (twf e l lead o t d) := by
  induction d with
  | zero =>
    intro k o t ht hd hk ho
    obtain ⟨k, rfl⟩ : ∃ m, k = m + 1 := ⟨k - 1, by omega⟩
    simp only [spec_TwinOrder.l0]
    rw [if_neg (by omega)]
    rfl
  | succ d ih =>
    intro k o t ht hd hk ho
    obtain ⟨k, rfl⟩ : ∃ m, k = m + 1 := ⟨k - 1, by omega⟩
    simp only [spec_TwinOrder.l0, s_in, Option.bind_some]
    rw [if_pos (by omega), w_in (n := t - lead) (by omega) (by omega), w_in (n := (l.length : Int) - 1) (by omega) (by omega), w_in (n := t + 1) (by omega) (by omega)]
    simp only [twf]
    by_cases he : t < (e.length : Int)
    · simp only [he, ht, if_true]
      rw [if_pos (by omega)]
      by_cases c : 0 ≤ t - lead ∧ t - lead ≤ (l.length : Int) - 1
      · rw [if_pos (by simpa using c), if_pos c, if_pos c.1, if_pos (by omega), if_pos (by simp; omega)]
        exact ih k _ (t + 1) (by omega) (by omega) (by omega) (by simp; omega)
      · rw [if_neg (by simpa using c), if_neg c, List.append_nil]
        exact ih k _ (t + 1) (by omega) (by omega) (by omega) (by simp; omega)
    · simp only [he, if_false]
      by_cases c : 0 ≤ t - lead ∧ t - lead ≤ (l.length : Int) - 1
      · rw [if_pos (by simpa using c), if_pos c, if_pos c.1, if_pos (by omega), if_pos (by omega)]
        exact ih k _ (t + 1) (by omega) (by omega) (by omega) (by simp; omega)
      · rw [if_neg (by simpa using c), if_neg c, List.append_nil]
        exact ih k _ (t + 1) (by omega) (by omega) (by omega) (by omega)
theorem impl_order_loop (e l : List Int) (lead : Int) (h0 : 0 ≤ lead) (h1 : lead ≤ 50) (hl : l.length ≤ 30) (d : Nat) : ∀ (k : Nat) (o : List Int) (t : Int), 0 ≤ t → t + d = lead + 31 → d < k → o.length ≤ 2 * t → impl_TwinOrder.l0 k e l lead o (lead + 31) t = some (twf e l lead o t d) := by
  induction d with
  | zero =>
    intro k o t ht hd hk ho
    obtain ⟨k, rfl⟩ : ∃ m, k = m + 1 := ⟨k - 1, by omega⟩
    simp only [impl_TwinOrder.l0]
    rw [if_neg (by omega)]
    rfl
  | succ d ih =>
    intro k o t ht hd hk ho
    obtain ⟨k, rfl⟩ : ∃ m, k = m + 1 := ⟨k - 1, by omega⟩
    simp only [impl_TwinOrder.l0, i_in, Option.bind_some]
    rw [if_pos (by omega), w_in (n := t - lead) (by omega) (by omega), w_in (n := (l.length : Int) - 1) (by omega) (by omega), w_in (n := t + 1) (by omega) (by omega)]
    simp only [twf]
    by_cases he : t < (e.length : Int)
    · simp only [he, ht, if_true]
      rw [if_pos (by omega)]
      by_cases c : 0 ≤ t - lead ∧ t - lead ≤ (l.length : Int) - 1
      · rw [if_pos (by simpa using c), if_pos c, if_pos c.1, if_pos (by omega), if_pos (by simp; omega)]
        exact ih k _ (t + 1) (by omega) (by omega) (by omega) (by simp; omega)
      · rw [if_neg (by simpa using c), if_neg c, List.append_nil]
        exact ih k _ (t + 1) (by omega) (by omega) (by omega) (by simp; omega)
    · simp only [he, if_false]
      by_cases c : 0 ≤ t - lead ∧ t - lead ≤ (l.length : Int) - 1
      · rw [if_pos (by simpa using c), if_pos c, if_pos c.1, if_pos (by omega), if_pos (by omega)]
        exact ih k _ (t + 1) (by omega) (by omega) (by omega) (by simp; omega)
      · rw [if_neg (by simpa using c), if_neg c, List.append_nil]
        exact ih k _ (t + 1) (by omega) (by omega) (by omega) (by omega)
def ord (e l : List Int) (lead : Int) : List Int := if e.length ≤ 30 ∧ l.length ≤ 30 ∧ e.all told = true ∧ l.all told = true ∧ 0 ≤ lead ∧ lead ≤ 50 then twf e l lead [] 0 80 else []
theorem ord_len (e l : List Int) (lead : Int) : (ord e l lead).length ≤ 160 := by
  unfold ord
  split
  · have := twf_len e l lead 80 [] 0; simpa using this
  · simp
theorem spec_order {e l : List Int} {lead : Int} (he : e.length ≤ 9223372036854775806) (hl : l.length ≤ 9223372036854775806) {k : Nat} (hk : 100 < k) (hke : e.length < k) (hkl : l.length < k) : spec_TwinOrder.f k e l lead = some (ord e l lead) := by
  obtain ⟨k, rfl⟩ : ∃ m, k = m + 1 := ⟨k - 1, by omega⟩
  unfold spec_TwinOrder.f ord
  rw [spec_seqs he hke, spec_seqs hl hkl]
  simp only [Option.bind_some, s_in, spec_TwinOrder.j0]
  by_cases h1 : e.all told = true
  · by_cases h2 : (e.length : Int) ≤ 30
    · by_cases h3 : l.all told = true
      · by_cases h4 : (l.length : Int) ≤ 30
        · by_cases h5 : 0 ≤ lead ∧ lead ≤ 50
          · have h2' : e.length ≤ 30 := by omega
            have h4' : l.length ≤ 30 := by omega
            have := spec_order_loop e l lead h5.1 h5.2 h4' 80 k [] 0 (by omega) (by omega) (by omega) (by simp)
            simp [h1, h2, h3, h4, h5, h2', h4', this]
          · simp [h1, h2, h3, h4, h5]
        · have : ¬ l.length ≤ 30 := by omega
          simp [h1, h2, h3, h4, this]
      · simp [h1, h2, h3]
    · have : ¬ e.length ≤ 30 := by omega
      simp [h1, h2, this]
  · simp [h1]
theorem impl_order {e l : List Int} {lead : Int} {k : Nat} (hk : 100 < k) : impl_TwinOrder.f k e l lead = some (ord e l lead) := by
  obtain ⟨k, rfl⟩ : ∃ m, k = m + 1 := ⟨k - 1, by omega⟩
  unfold impl_TwinOrder.f ord
  rw [all_told, all_told]
  simp only [Option.bind_some, i_in, impl_TwinOrder.j0]
  by_cases h2 : e.length ≤ 30
  · by_cases h4 : l.length ≤ 30
    · rw [if_neg (by omega), if_neg (by omega)]
      by_cases h1 : e.all told = true
      · by_cases h3 : l.all told = true
        · by_cases h5 : 0 ≤ lead ∧ lead ≤ 50
          · have := impl_order_loop e l lead h5.1 h5.2 h4 (lead + 31).toNat k [] 0 (by omega) (by omega) (by omega) (by simp)
            have e1 := twf_add e l lead (lead + 31).toNat [] 0 (81 - (lead + 31).toNat)
            have e2 := twf_rest e l lead h2 h4 h5.1 (81 - (lead + 31).toNat) (twf e l lead [] 0 (lead + 31).toNat) (0 + ((lead + 31).toNat : Int)) (by omega)
            have e3 : (lead + 31).toNat + (81 - (lead + 31).toNat) = 80 + 1 := by omega
            rw [e3, e2, twf_add e l lead 80 [] 0 1] at e1
            have e4 : ∀ o, twf e l lead o (0 + ((80 : Nat) : Int)) 1 = o := fun o => by
              show twf e l lead ((if (0 + ((80 : Nat) : Int)) < (e.length : Int) then o ++ [rd e (0 + ((80 : Nat) : Int))] else o) ++ (if 0 ≤ (0 + ((80 : Nat) : Int)) - lead ∧ (0 + ((80 : Nat) : Int)) - lead ≤ (l.length : Int) - 1 then [rd l ((0 + ((80 : Nat) : Int)) - lead)] else [])) (0 + ((80 : Nat) : Int) + 1) 0 = o
              rw [if_neg (by omega), if_neg (by omega), List.append_nil]
              rfl
            rw [e4] at e1
            rw [w_in (n := lead + 31) (by omega) (by omega), this, ← e1]
            simp [h1, h2, h3, h4, h5]
          · simp [h1, h2, h3, h4, h5]
        · simp [h1, h2, h3, h4]
      · simp [h1, h2, h4]
    · rw [if_neg (by omega), if_pos (by omega)]
      simp [h4]
  · rw [if_pos (by omega)]
    simp [h2]

theorem wn_loop (l : List Int) (hl : l.length ≤ 9223372036854775806) (d : Nat) : ∀ (k : Nat) (i : Int), 0 ≤ i → i + d = l.length → d < k → laws_wnInts.l0 k l l (l.length : Int) i = some true := by
  induction d with
  | zero =>
    intro k i h0 h1 hk
    obtain ⟨k, rfl⟩ : ∃ m, k = m + 1 := ⟨k - 1, by omega⟩
    simp only [laws_wnInts.l0]
    rw [if_neg (by omega)]
  | succ d ih =>
    intro k i h0 h1 hk
    obtain ⟨k, rfl⟩ : ∃ m, k = m + 1 := ⟨k - 1, by omega⟩
    simp only [laws_wnInts.l0]
    rw [if_pos (by omega), if_pos h0, if_pos (by omega), if_pos (by omega), if_pos trivial, w_in (n := i + 1) (by omega) (by omega)]
    exact ih k (i + 1) (by omega) (by omega) (by omega)
theorem wn_ok {l : List Int} (hl : l.length ≤ 9223372036854775806) {k : Nat} (hk : l.length < k) : laws_wnInts.f k l l = some true := by
  unfold laws_wnInts.f
  rw [if_pos rfl]
  exact wn_loop l hl l.length k 0 (by omega) (by omega) hk
theorem wnhas_loop (l : List Int) (v : Int) (hl : l.length ≤ 9223372036854775806) (d : Nat) : ∀ (k : Nat) (i : Int), 0 ≤ i → i + d = l.length → d < k →
    laws_wnHas.l0 k v l (l.length : Int) i = some ((l.drop i.toNat).contains v) := by
  induction d with
  | zero =>
    intro k i h0 h1 hk
    obtain ⟨k, rfl⟩ : ∃ m, k = m + 1 := ⟨k - 1, by omega⟩
    simp only [laws_wnHas.l0]
    rw [if_neg (by omega), List.drop_eq_nil_of_le (by omega)]
    rfl
  | succ d ih =>
    intro k i h0 h1 hk
    obtain ⟨k, rfl⟩ : ∃ m, k = m + 1 := ⟨k - 1, by omega⟩
    rw [rd_at h0 (by omega)]
    simp only [laws_wnHas.l0]
    rw [if_pos (by omega), if_pos h0, if_pos (by omega), w_in (n := i + 1) (by omega) (by omega), ih k (i + 1) (by omega) (by omega) (by omega), List.contains_cons]
    by_cases e : rd l i = v
    · rw [if_pos e, e]; simp
    · rw [if_neg e]
      have : (v == rd l i) = false := by simp; exact fun h => e h.symm
      simp [this]
theorem wnhas_ok {l : List Int} {v : Int} (hl : l.length ≤ 9223372036854775806) {k : Nat} (hk : l.length < k) : laws_wnHas.f k l v = some (l.contains v) := by
  unfold laws_wnHas.f
  rw [wnhas_loop l v hl l.length k 0 (by omega) (by omega) hk]
  simp
theorem wn_gen_loop (a b : List Int) (hl : a.length = b.length) (hm : a.length ≤ 9223372036854775806) (d : Nat) : ∀ (k : Nat) (i : Int), 0 ≤ i → i + d = a.length → d < k → laws_wnInts.l0 k b a (a.length : Int) i = some (decide (a.drop i.toNat = b.drop i.toNat)) := by
  induction d with
  | zero =>
    intro k i h0 h1 hk
    obtain ⟨k, rfl⟩ : ∃ m, k = m + 1 := ⟨k - 1, by omega⟩
    simp only [laws_wnInts.l0]
    rw [if_neg (by omega), List.drop_eq_nil_of_le (by omega), List.drop_eq_nil_of_le (by omega)]
    rfl
  | succ d ih =>
    intro k i h0 h1 hk
    obtain ⟨k, rfl⟩ : ∃ m, k = m + 1 := ⟨k - 1, by omega⟩
    simp only [laws_wnInts.l0]
    rw [if_pos (by omega), if_pos h0, if_pos (by omega), if_pos (by omega), w_in (n := i + 1) (by omega) (by omega), rd_at h0 (by omega), rd_at (l := b) h0 (by omega)]
    by_cases e : rd b i = rd a i
    · rw [if_pos e, ih k (i + 1) (by omega) (by omega) (by omega), e]
      simp
    · rw [if_neg e]
      have : ¬ (rd a i :: a.drop (i + 1).toNat = rd b i :: b.drop (i + 1).toNat) := fun h => e (List.cons.inj h).1.symm
      rw [decide_eq_false this]
theorem wn_gen {a b : List Int} (hm : a.length ≤ 9223372036854775806) {k : Nat} (hk : a.length < k) : laws_wnInts.f k a b = some (decide (a = b)) := by
  unfold laws_wnInts.f
  by_cases h : a.length = b.length
  · rw [if_pos (by omega), wn_gen_loop a b h hm a.length k 0 (by omega) (by omega) hk]
    simp
  · rw [if_neg (by omega), decide_eq_false (fun e => h (by rw [e]))]
/-- What is taken of values that come, m in mind. -/
def pv8 : List Int → List Int → List Int
  | _, [] => []
  | m, x :: xs => if m.contains x = true then pv8 m xs else x :: pv8 ((m ++ [x]).drop ((m ++ [x]).length - 8)) xs
theorem rd_split {l : List Int} {i : Int} (h0 : 0 ≤ i) (h : i.toNat < l.length) : l.drop i.toNat = rd l i :: l.drop (i + 1).toNat := by
  rw [List.drop_eq_getElem_cons h, show (i + 1).toNat = i.toNat + 1 by omega]
  unfold rd
  rw [List.getD_eq_getElem?_getD, List.getElem?_eq_getElem h]
  rfl
theorem tkf_pv (l : List Int) : ∀ (d : Nat) (o m : List Int) (i : Int), 0 ≤ i → i + d = l.length → (tkf l o m i d).map (rd l) = o.map (rd l) ++ pv8 m (l.drop i.toNat)
  | 0, o, m, i, h0, h1 => by
    rw [List.drop_eq_nil_of_le (by omega)]
    simp [tkf, pv8]
  | d + 1, o, m, i, h0, h1 => by
    rw [rd_split h0 (by omega)]
    simp only [tkf, pv8]
    split
    · exact tkf_pv l d o m (i + 1) (by omega) (by omega)
    · rw [tkf_pv l d (o ++ [i]) ((m ++ [rd l i]).drop ((m ++ [rd l i]).length - 8)) (i + 1) (by omega) (by omega)]
      simp
/-- What comes from the time t on, both ways bearing the same. -/
def chl (e : List Int) (lead : Int) : Int → Nat → List Int
  | _, 0 => []
  | t, d + 1 => (if t < (e.length : Int) then [rd e t] else []) ++ ((if 0 ≤ t - lead ∧ t - lead ≤ (e.length : Int) - 1 then [rd e (t - lead)] else []) ++ chl e lead (t + 1) d)
theorem twf_chl (e : List Int) (lead : Int) : ∀ (d : Nat) (o : List Int) (t : Int), twf e e lead o t d = o ++ chl e lead t d
  | 0, o, t => by simp [twf, chl]
  | d + 1, o, t => by
    simp only [twf, chl]
    rw [twf_chl e lead d]
    split <;> simp
def l8 (y : List Int) : List Int := y.drop (y.length - 8)
theorem rd_get {e : List Int} {j : Int} (h : j.toNat < e.length) : rd e j = e[j.toNat] := by
  unfold rd
  rw [List.getD_eq_getElem?_getD, List.getElem?_eq_getElem h]
  rfl
theorem l8_has (e : List Int) (t : Nat) (ht : t ≤ e.length) {j : Int} (h0 : 0 ≤ j) (h1 : j < t) (h2 : (t : Int) - 8 ≤ j) : (l8 (e.take t)).contains (rd e j) = true := by
  rw [List.contains_iff_mem]
  unfold l8
  rw [rd_get (by omega)]
  have hl : (e.take t).length = t := by rw [List.length_take]; omega
  rw [hl]
  have hi : j.toNat - (t - 8) < ((e.take t).drop (t - 8)).length := by rw [List.length_drop, hl]; omega
  have : ((e.take t).drop (t - 8))[j.toNat - (t - 8)] = e[j.toNat]'(by omega) := by
    rw [List.getElem_drop, List.getElem_take]
    congr 1
    omega
  rw [← this]
  exact List.getElem_mem _
theorem l8_not (e : List Int) (t : Nat) {x : Int} (h : (e.take t).contains x = false) : ¬ (l8 (e.take t)).contains x = true := by
  intro h2
  rw [List.contains_iff_mem] at h2
  have := List.mem_of_mem_drop h2
  rw [← Bool.not_eq_true, List.contains_iff_mem] at h
  exact h this
theorem l8_put (e : List Int) (t : Nat) (ht : t < e.length) : (l8 (e.take t) ++ [rd e t]).drop ((l8 (e.take t) ++ [rd e t]).length - 8) = l8 (e.take (t + 1)) := by
  have hr : e.take (t + 1) = e.take t ++ [rd e t] := by
    rw [List.take_succ_eq_append_getElem ht, rd_get (by omega)]
    simp
  unfold l8
  rw [hr]
  generalize e.take t = y
  generalize rd e t = x
  simp only [List.length_append, List.length_drop, List.length_singleton]
  by_cases h : y.length ≤ 7
  · rw [show y.length - 8 = 0 by omega, List.drop_zero, show y.length - 0 + 1 - 8 = 0 by omega, show y.length + 1 - 8 = 0 by omega]
  · rw [show y.length - (y.length - 8) + 1 - 8 = 1 by omega, show y.length + 1 - 8 = (y.length - 8) + 1 by omega, List.drop_append_of_le_length (by rw [List.length_drop]; omega), List.drop_drop, List.drop_append_of_le_length (by omega), Nat.add_comm]
/-- Of frames that go both ways each is taken once, in order. -/
theorem pv_chl (e : List Int) (lead : Int) (h0 : 0 ≤ lead) (h7 : lead ≤ 7) (hd : ∀ t : Nat, t < e.length → (e.take t).contains (rd e t) = false) : ∀ (d t : Nat), e.length ≤ t + d →
    pv8 (l8 (e.take (min t e.length))) (chl e lead t d) = e.drop (min t e.length)
  | 0, t, h => by
    rw [List.drop_eq_nil_of_le (by omega)]
    simp [chl, pv8]
  | d + 1, t, h => by
    have ih := pv_chl e lead h0 h7 hd d (t + 1) (by omega)
    simp only [chl]
    by_cases ht : (t : Int) < (e.length : Int)
    · have ht' : t < e.length := by omega
      rw [if_pos ht, show min t e.length = t by omega]
      simp only [List.cons_append, List.nil_append, pv8]
      rw [if_neg (l8_not e t (hd t ht')), l8_put e t ht']
      rw [show min (t + 1) e.length = t + 1 by omega] at ih
      have hr : e.drop t = rd e t :: e.drop (t + 1) := by
        have := rd_split (l := e) (i := (t : Int)) (by omega) (by omega)
        simpa using this
      rw [hr]
      congr 1
      by_cases c : 0 ≤ (t : Int) - lead ∧ (t : Int) - lead ≤ (e.length : Int) - 1
      · rw [if_pos c]
        simp only [List.cons_append, List.nil_append, pv8]
        rw [if_pos (l8_has e (t + 1) (by omega) (by omega) (by omega) (by omega))]
        exact ih
      · rw [if_neg c, List.nil_append]
        exact ih
    · rw [if_neg ht, List.nil_append, show min t e.length = e.length by omega]
      rw [show min (t + 1) e.length = e.length by omega] at ih
      by_cases c : 0 ≤ (t : Int) - lead ∧ (t : Int) - lead ≤ (e.length : Int) - 1
      · rw [if_pos c]
        simp only [List.cons_append, List.nil_append, pv8]
        rw [if_pos (l8_has e e.length (by omega) (by omega) (by omega) (by omega))]
        exact ih
      · rw [if_neg c, List.nil_append]
        exact ih
theorem tkf_lt (l : List Int) : ∀ (d : Nat) (o m : List Int) (i : Int), 0 ≤ i → (∀ x ∈ o, 0 ≤ x ∧ x < i + d) → ∀ x ∈ tkf l o m i d, 0 ≤ x ∧ x < i + d
  | 0, o, m, i, _, h => fun x hx => by simpa using h x (by simpa [tkf] using hx)
  | d + 1, o, m, i, h0, h => fun x hx => by
    simp only [tkf] at hx
    split at hx
    · have := tkf_lt l d o m (i + 1) (by omega) (fun y hy => by have := h y hy; omega) x hx
      omega
    · have := tkf_lt l d (o ++ [i]) _ (i + 1) (by omega) (fun y hy => by
        rcases List.mem_append.1 hy with hy | hy
        · have := h y hy; omega
        · rw [List.mem_singleton.1 hy]; omega) x hx
      omega
theorem draw17_loop {b : List Int} (hb : ∀ x ∈ b, 0 ≤ x ∧ x ≤ 255) (d : Nat) : ∀ (k : Nat) (x : List Int) (c p : Int), c = d → d + 1 < k → x.length + d ≤ 1000 → 0 ≤ p → p + 4 * d ≤ 1000000 →
    ∃ l p', spec_l17List.l0 k x c b p = some (l, p') ∧ l.length ≤ x.length + d ∧ 0 ≤ p' ∧ p' ≤ p + 4 * d := by
  induction d with
  | zero =>
    intro k x c p hc hk hx hp hp2
    obtain ⟨k, rfl⟩ : ∃ m, k = m + 1 := ⟨k - 1, by omega⟩
    simp only [spec_l17List.l0]
    rw [if_neg (by omega)]
    exact ⟨_, _, rfl, by omega, by omega, by omega⟩
  | succ d ih =>
    intro k x c p hc hk hx hp hp2
    obtain ⟨k, rfl⟩ : ∃ m, k = m + 1 := ⟨k - 1, by omega⟩
    obtain ⟨v, e, _, _⟩ := pick_ok (k := k) (p := p) (n := 12) hb hp (by omega) (by omega) (by omega)
    obtain ⟨v', e', _, _⟩ := pick_ok (k := k) (p := p + 1) (n := 12) hb (by omega) (by omega) (by omega) (by omega)
    obtain ⟨q, e2, hq0, hq1⟩ := pick_ok (k := k) (p := p + 1 + 1) (n := 30) hb (by omega) (by omega) (by omega) (by omega)
    have ht : ∃ t, wrap64 (3 + wrap64 (Int.tdiv q 29)) = t ∧ 3 ≤ t ∧ t ≤ 4 := by
      rw [Int.tdiv_eq_ediv_of_nonneg hq0, w_in (n := q / 29) (by omega) (by omega), w_in (by omega) (by omega)]
      exact ⟨_, rfl, by omega, by omega⟩
    obtain ⟨t, ht, ht3, ht4⟩ := ht
    simp only [spec_l17List.l0]
    rw [if_pos (by omega), bs e]
    dsimp only
    rw [bs e']
    dsimp only
    rw [bs rfl, bs e2]
    dsimp only
    rw [ht, if_pos (by omega), if_pos (by simp; omega)]
    obtain ⟨z, e3, _⟩ := num_ok (k := k) (b := b) (p := p + 1 + 1 + 1) (xs := ([v, v', 999, 1000] : List Int).take t.toNat) hb (by omega) (by omega) (by simp; omega) (by omega)
    rw [bs e3]
    dsimp only
    rw [if_pos (by omega), w_in (n := c - 1) (by omega) (by omega)]
    obtain ⟨l, p', e4, h1, h2, h3⟩ := ih k (x ++ [z]) (c - 1) (p + 1 + 1 + 1 + 1) (by omega) (by omega) (by simp; omega) (by omega) (by omega)
    exact ⟨l, p', e4, by simp at h1; omega, h2, by omega⟩
theorem draw17 {b : List Int} (hb : ∀ x ∈ b, 0 ≤ x ∧ x ≤ 255) {k : Nat} (hk : 100 ≤ k) {p most : Int} (hm : 1 ≤ most ∧ most ≤ 40) (hp : 0 ≤ p) (hp2 : p ≤ 1000) :
    ∃ l p', spec_l17List.f k b p most = some (l, p') ∧ l.length ≤ 40 ∧ 0 ≤ p' ∧ p' ≤ p + 200 := by
  obtain ⟨v, e, h0, h1⟩ := pick_ok (k := k) (p := p) (n := most) hb hp (by omega) (by omega) (by omega)
  unfold spec_l17List.f
  rw [bs e]
  dsimp only
  obtain ⟨l, p', e', h2, h3, h4⟩ := draw17_loop hb v.toNat k [] v (p + 1) (by omega) (by omega) (by simp; omega) (by omega) (by omega)
  exact ⟨l, p', e', by simp at h2; omega, h3, by omega⟩
theorem chl_len (e : List Int) (lead : Int) (h0 : 0 ≤ lead) : ∀ (d t : Nat), (chl e lead t d).length ≤ (e.length - t) + (e.length - (t - lead.toNat))
  | 0, t => by simp [chl]
  | d + 1, t => by
    have ih := chl_len e lead h0 d (t + 1)
    simp only [chl, List.length_append]
    rw [show ((t : Int) + 1) = ((t + 1 : Nat) : Int) by push_cast; rfl]
    have h1 : (if (t : Int) < (e.length : Int) then [rd e t] else []).length = if t < e.length then 1 else 0 := by
      by_cases h : t < e.length
      · rw [if_pos (by omega), if_pos h]; rfl
      · rw [if_neg (by omega), if_neg h]; rfl
    have h2 : (if 0 ≤ (t : Int) - lead ∧ (t : Int) - lead ≤ (e.length : Int) - 1 then [rd e (t - lead)] else []).length = if lead.toNat ≤ t ∧ t - lead.toNat < e.length then 1 else 0 := by
      by_cases h : lead.toNat ≤ t ∧ t - lead.toNat < e.length
      · rw [if_pos (by omega), if_pos h]; rfl
      · rw [if_neg (by omega), if_neg h]; rfl
    rw [h1, h2]
    split <;> split <;> omega
theorem chl_all (e : List Int) (lead : Int) (p : Int → Bool) (hp : e.all p = true) : ∀ (d : Nat) (t : Int), 0 ≤ t → (chl e lead t d).all p = true
  | 0, _, _ => rfl
  | d + 1, t, ht => by
    have ih := chl_all e lead p hp d (t + 1) (by omega)
    have hm : ∀ j : Int, 0 ≤ j → j < e.length → p (rd e j) = true := fun j j0 j1 => List.all_eq_true.mp hp _ (rd_mem j0 j1)
    simp only [chl, List.all_append, ih, Bool.and_true, Bool.and_eq_true]
    refine ⟨?_, ?_⟩
    · split
      · simp [hm t ht (by omega)]
      · rfl
    · split
      · simp [hm (t - lead) (by omega) (by omega)]
      · rfl
theorem twins_got {e : List Int} {lead : Int} (hne : (ord e e lead).length ≠ 0) (h7 : lead ≤ 7) (hd : ∀ t : Nat, t < e.length → (e.take t).contains (rd e t) = false) :
    (tkn (ord e e lead)).map (rd (ord e e lead)) = e ∧ ∀ x ∈ tkn (ord e e lead), 0 ≤ x ∧ x < (ord e e lead).length := by
  have ho : ∃ _ : (e.length ≤ 30 ∧ e.all told = true ∧ 0 ≤ lead), ord e e lead = chl e lead 0 80 := by
    unfold ord at hne ⊢
    split
    · rename_i h
      rw [twf_chl]
      exact ⟨⟨h.1, h.2.2.1, h.2.2.2.2.1⟩, by simp⟩
    · rename_i h
      rw [if_neg h] at hne
      simp at hne
  obtain ⟨⟨h1, h2, h3⟩, ho⟩ := ho
  have hl := chl_len e lead h3 80 0
  have ha := chl_all e lead told h2 80 0 (by omega)
  rw [show ((0 : Nat) : Int) = 0 from rfl] at hl
  rw [← ho] at hl ha
  have hlen : (ord e e lead).length ≤ 60 := by omega
  have ht : tkn (ord e e lead) = tkf (ord e e lead) [] [] 0 (ord e e lead).length := by
    unfold tkn
    rw [if_pos ⟨hlen, ha⟩]
  refine ⟨?_, ?_⟩
  · rw [ht, tkf_pv (ord e e lead) (ord e e lead).length [] [] 0 (by omega) (by omega)]
    have := pv_chl e lead h3 h7 hd 80 0 (by omega)
    rw [show min 0 e.length = 0 by omega] at this
    simp only [List.map_nil, List.nil_append, Int.toNat_zero, List.drop_zero]
    rw [show ((0 : Nat) : Int) = 0 from rfl] at this
    rw [ho]
    simpa [l8] using this
  · rw [ht]
    intro x hx
    have := tkf_lt (ord e e lead) (ord e e lead).length [] [] 0 (by omega) (by simp) x hx
    omega
theorem drawTO_loop {b : List Int} (hb : ∀ x ∈ b, 0 ≤ x ∧ x ≤ 255) (d : Nat) : ∀ (k : Nat) (x : List Int) (c p : Int), c = d → d + 200 < k → x.length + d ≤ 100 → 0 ≤ p → p ≤ 400 →
    ∃ e l a, spec_DrawTwinOrder.l0 k x c b p = some (e, l, a) ∧ e.length ≤ 200 ∧ l.length ≤ 200 := by
  induction d with
  | zero =>
    intro k x c p hc hk hx hp hp2
    obtain ⟨k, rfl⟩ : ∃ m, k = m + 1 := ⟨k - 1, by omega⟩
    obtain ⟨v, e, _, _⟩ := pick_ok (k := k) (p := p) (n := 3) hb hp (by omega) (by omega) (by omega)
    rw [spec_DrawTwinOrder.l0]
    rw [if_neg (by omega), bs e]
    dsimp only
    by_cases h0 : v = 0
    · obtain ⟨l1, p1, e1, h1, h2, h3⟩ := draw17 (k := k) hb (by omega) (p := p + 1) (most := 12) (by omega) (by omega) (by omega)
      obtain ⟨l2, p2, e2, h4, h5, h6⟩ := draw17 (k := k) hb (by omega) (p := p1) (most := 12) (by omega) (by omega) (by omega)
      obtain ⟨a, e3, _⟩ := num_ok (k := k) (b := b) (p := p2) (xs := [0, 3, 50, 51, -1]) hb (by omega) (by omega) (by simp) (by omega)
      rw [if_pos h0, bs e1]
      dsimp only
      rw [bs e2]
      dsimp only
      rw [bs e3]
      exact ⟨_, _, _, rfl, by omega, by omega⟩
    · obtain ⟨a, e3, _⟩ := num_ok (k := k) (b := b) (p := p + 1) (xs := [0, 1, 3, 7, 8, 12]) hb (by omega) (by omega) (by simp) (by omega)
      rw [if_neg h0, bs rfl, if_pos (by simp; omega), bs e3]
      exact ⟨_, _, _, rfl, by omega, by simp; omega⟩
  | succ d ih =>
    intro k x c p hc hk hx hp hp2
    obtain ⟨k, rfl⟩ : ∃ m, k = m + 1 := ⟨k - 1, by omega⟩
    rw [spec_DrawTwinOrder.l0]
    rw [if_pos (by omega), if_pos (by omega), w_in (n := c - 1) (by omega) (by omega)]
    exact ih k _ (c - 1) p (by omega) (by omega) (by simp; omega) hp hp2
theorem drawTO {l0 : List Int} (hl0 : ∀ x ∈ l0, (Lit.int .u8 x).wf = true) {k : Nat} (hk : 300 < k) : ∃ e l a, spec_DrawTwinOrder.f k l0 = some (e, l, a) ∧ e.length ≤ 200 ∧ l.length ≤ 200 := by
  obtain ⟨b, e, hb⟩ := open_ok hl0
  obtain ⟨v, e1, h0, h1⟩ := pick_ok (k := k) (p := 0) (n := 14) hb (by omega) (by omega) (by omega) (by omega)
  unfold spec_DrawTwinOrder.f
  rw [bs e]
  dsimp only
  rw [bs e1]
  dsimp only
  exact drawTO_loop hb v.toNat k [] v (0 + 1) (by omega) (by omega) (by simp; omega) (by omega) (by omega)
theorem twice_loop (e l o : List Int) (a : Int) (he : e.length ≤ 200) (d : Nat) : ∀ (k : Nat) (tw : Bool) (i : Int), 0 ≤ i → i + d = e.length → 300 < k →
    ∃ tw', laws_FnTwins.l0 (k + d) e l a o tw e (e.length : Int) i = laws_FnTwins.l0 k e l a o tw' e (e.length : Int) (e.length : Int) ∧ (tw' = false → tw = false ∧ ∀ t : Nat, i ≤ t → t < e.length → (e.take t).contains (rd e t) = false) := by
  induction d with
  | zero =>
    intro k tw i h0 h1 hk
    refine ⟨tw, by rw [show i = (e.length : Int) by omega]; rfl, fun h => ⟨h, fun t _ _ => by omega⟩⟩
  | succ d ih =>
    intro k tw i h0 h1 hk
    rw [show k + (d + 1) = (k + d) + 1 by omega]
    cases tw with
    | true =>
      obtain ⟨tw', e1, e2⟩ := ih k true (i + 1) (by omega) (by omega) hk
      refine ⟨tw', ?_, fun h => absurd (e2 h).1 (by simp)⟩
      rw [← e1]
      rw [laws_FnTwins.l0]
      rw [if_pos (by omega), if_pos h0, if_pos (by omega), if_pos rfl, w_in (n := i + 1) (by omega) (by omega)]
    | false =>
      obtain ⟨tw', e1, e2⟩ := ih k ((e.take i.toNat).contains (rd e i)) (i + 1) (by omega) (by omega) hk
      refine ⟨tw', ?_, fun h => ⟨rfl, fun t t0 t1 => ?_⟩⟩
      · rw [← e1]
        rw [laws_FnTwins.l0]
        rw [if_pos (by omega), if_pos h0, if_pos (by omega), if_neg (by simp), if_pos (by omega), bs (wnhas_ok (by rw [List.length_take]; omega) (by rw [List.length_take]; omega)), w_in (n := i + 1) (by omega) (by omega)]
      · by_cases c : i = t
        · have := (e2 h).1
          rw [c] at this
          simpa using this
        · exact (e2 h).2 t (by omega) t1
theorem got_loop (e o T : List Int) (hT : ∀ x ∈ T, 0 ≤ x ∧ x < o.length) (hl : T.length ≤ 60) (d : Nat) : ∀ (k : Nat) (g : List Int) (j : Int), 0 ≤ j → j + d = T.length → g.length + d ≤ 1000 →
    laws_FnTwins.l1 (k + d) e o g T (T.length : Int) j = laws_FnTwins.l1 k e o (g ++ (T.drop j.toNat).map (rd o)) T (T.length : Int) (T.length : Int) := by
  induction d with
  | zero =>
    intro k g j h0 h1 hg
    rw [List.drop_eq_nil_of_le (by omega), show j = (T.length : Int) by omega]
    simp
  | succ d ih =>
    intro k g j h0 h1 hg
    rw [show k + (d + 1) = (k + d) + 1 by omega, rd_at h0 (by omega)]
    have hm := hT (rd T j) (rd_mem h0 (by omega))
    have hs : laws_FnTwins.l1 (k + d + 1) e o g T (T.length : Int) j = laws_FnTwins.l1 (k + d) e o (g ++ [rd o (rd T j)]) T (T.length : Int) (j + 1) := by
      rw [laws_FnTwins.l1]
      rw [if_pos (by omega), if_pos h0, if_pos (by omega), if_pos hm.1, if_pos hm.2, if_pos (by omega), w_in (n := j + 1) (by omega) (by omega)]
    rw [hs, ih k _ (j + 1) (by omega) (by omega) (by simp; omega)]
    simp
theorem FnTwins : laws_FnTwins.Pure := by
  intro l0 _ _ hl0
  obtain ⟨k, hk⟩ : ∃ k, 9000 < k := ⟨9001, by omega⟩
  refine ⟨k, ?_⟩
  unfold laws_FnTwins.f
  by_cases hlen : (l0.length : Int) > 1048576
  · rw [if_pos hlen]
  rw [if_neg hlen]
  obtain ⟨e, l, a, ed, he, hl⟩ := drawTO (k := k) hl0 (by omega)
  have lo := ord_len e l a
  rw [bs ed]
  dsimp only
  rw [bs (impl_order (by omega)), bs (spec_order (by omega) (by omega) (by omega) (by omega) (by omega)), bs (wn_ok (by omega) (by omega)), if_pos rfl]
  obtain ⟨k, rfl⟩ : ∃ m, k = (m + 1) + e.length := ⟨k - e.length - 1, by omega⟩
  obtain ⟨tw, e1, h1⟩ := twice_loop e l (ord e l a) a he e.length (k + 1) false 0 (by omega) (by omega) (by omega)
  rw [e1]
  rw [laws_FnTwins.l0]
  rw [if_neg (by omega), bs (wn_gen (by omega) (by omega))]
  obtain ⟨k, rfl⟩ : ∃ m, k = m + 1 := ⟨k - 1, by omega⟩
  have jt : laws_FnTwins.j1 (k + 1) e (ord e l a) true = some true := by
    rw [laws_FnTwins.j1]
    rw [if_pos rfl]
  by_cases c : e = l
  · rw [if_pos (by simpa using c)]
    cases tw with
    | true => rw [if_pos rfl]; exact jt
    | false =>
      rw [if_neg (by simp)]
      by_cases h7 : a > 7
      · rw [if_pos h7]; exact jt
      rw [if_neg h7]
      by_cases hn : (ord e l a).length = 0
      · rw [hn]; exact jt
      have hb : (((ord e l a).length : Int) == 0) = false := by simpa using hn
      rw [hb]
      subst c
      have hd : ∀ t : Nat, t < e.length → (e.take t).contains (rd e t) = false := fun t ht => (h1 rfl).2 t (by omega) ht
      obtain ⟨g1, g2⟩ := twins_got (e := e) (lead := a) hn (by omega) hd
      rw [laws_FnTwins.j1]
      rw [if_neg (by simp), bs (impl_taken (by omega))]
      have tl := tkn_len (ord e e a)
      obtain ⟨k, rfl⟩ : ∃ m, k = (m + 1) + (tkn (ord e e a)).length := ⟨k - (tkn (ord e e a)).length - 1, by omega⟩
      rw [got_loop e (ord e e a) (tkn (ord e e a)) g2 tl (tkn (ord e e a)).length (k + 1) [] 0 (by omega) (by omega) (by simp; omega)]
      rw [show (0 : Int).toNat = 0 from rfl, List.drop_zero, List.nil_append, g1]
      rw [laws_FnTwins.l1]
      rw [if_neg (by omega), bs (wn_ok (by omega) (by omega))]
  · rw [if_neg (by simpa using c)]
    exact jt

end Go.Proofs.Ytfdcglkmacinmaa.Pure
