/- What both sides of FnRoom compute, in plain Lean. -/
import Derived.Test.YtcgbkbjldkackaaPFnRoomx7
import Derived.Laws.BitsLemmas
import Derived.OpenShut
namespace Go.Proofs.Ytcgbkbjldkackaa.Pure
open Go.RowKit Go.Proofs.Ytcgbkbjldkackaa.PFnRoom Go.Proofs.YtcgbkbjldkackaaW.PrintWords Go.Proofs.YtcgbkbjldkackaaW.PrintLast

theorem w_in {n : Int} (h0 : -9223372036854775808 ≤ n) (h1 : n ≤ 9223372036854775807) : wrap64 n = n := by unfold wrap64; omega

theorem bs {α β : Type} {x : Option α} {a : α} {f : α → Option β} (h : x = some a) : x.bind f = f a := by rw [h]; rfl
/-- A byte list's reader never fails: what 'pick' answers. -/
theorem b_rd {b : List Int} (hb : ∀ x ∈ b, 0 ≤ x ∧ x ≤ 255) (i : Int) : 0 ≤ rd b i ∧ rd b i ≤ 255 := by
  unfold rd
  rw [List.getD_eq_getElem?_getD]
  cases h : b[i.toNat]? with
  | none => simp
  | some x => exact hb x (List.mem_of_getElem? h)

theorem xor_nn {x y : Int} (hx0 : 0 ≤ x) (hx : x < 4611686018427387904) (hy0 : 0 ≤ y) (hy : y < 4611686018427387904) : 0 ≤ Go.bits .xor .i64 x y := by
  obtain ⟨a, rfl⟩ := Int.eq_ofNat_of_zero_le hx0
  obtain ⟨b, rfl⟩ := Int.eq_ofNat_of_zero_le hy0
  have ha : a < 2 ^ 62 := by simp; omega
  have hb : b < 2 ^ 62 := by simp; omega
  have hc : a ^^^ b < 2 ^ 62 := Nat.xor_lt_two_pow ha hb
  have ha' : a % 2 ^ 64 = a := Nat.mod_eq_of_lt (by simp at ha ⊢; omega)
  have hb' : b % 2 ^ 64 = b := Nat.mod_eq_of_lt (by simp at hb ⊢; omega)
  have key : (BitVec.ofNat 64 a ^^^ BitVec.ofNat 64 b).toNat = a ^^^ b := by rw [BitVec.toNat_xor, BitVec.toNat_ofNat, BitVec.toNat_ofNat, ha', hb']
  have e : Go.bits .xor .i64 (a : Int) (b : Int) = IntKind.i64.wrap (((BitVec.ofNat 64 a ^^^ BitVec.ofNat 64 b).toNat : Nat) : Int) := by
    simp only [Go.bits, BitVec.ofInt_natCast]
    rfl
  rw [e, key, IntKind.wrap_i64]
  generalize a ^^^ b = c at hc
  simp at hc
  omega

theorem tm_bd {x n : Int} (hx : 0 ≤ x) (hn : 0 < n) : 0 ≤ Int.tmod x n ∧ Int.tmod x n < n := by
  rw [Int.tmod_eq_emod_of_nonneg hx]
  exact ⟨Int.emod_nonneg _ (by omega), Int.emod_lt_of_pos _ hn⟩

theorem pick_ok {k : Nat} {b : List Int} {p n : Int} (hb : ∀ x ∈ b, 0 ≤ x ∧ x ≤ 255) (hp0 : 0 ≤ p) (hp : p ≤ 100000000) (hn : 1 ≤ n) (hk : 0 < k) :
    ∃ v, spec_l21Rd_pick.f k b p n = some (v, p + 1) ∧ 0 ≤ v ∧ v < n := by
  obtain ⟨k, rfl⟩ : ∃ m, k = m + 1 := ⟨k - 1, by omega⟩
  have e1 : wrap64 (p + 1) = p + 1 := w_in (by omega) (by omega)
  have e2 : wrap64 (p + 1 - 1) = p := by rw [show p + 1 - 1 = p by omega]; exact w_in (by omega) (by omega)
  unfold spec_l21Rd_pick.f
  rw [if_neg (by omega), e1]
  simp only [spec_l21Rd_pick.j0, e2]
  by_cases h0 : b.length = 0
  · rw [if_pos (by simp [h0])]
    exact ⟨0, rfl, by omega, by omega⟩
  rw [if_neg (by simp; intro h; simp [h] at h0)]
  have hl : 0 < (b.length : Int) := by omega
  by_cases h1 : p < (b.length : Int)
  · rw [if_pos h1, if_pos hp0, if_neg (by omega)]
    have := b_rd hb p
    rw [w_in (n := rd b p) (by omega) (by omega)]
    exact ⟨_, rfl, (tm_bd this.1 (by omega)).1, (tm_bd this.1 (by omega)).2⟩
  rw [if_neg h1, if_neg (by omega)]
  have m1 := tm_bd (x := p) (n := b.length) hp0 hl
  have e3 : wrap64 (p * 7) = p * 7 := w_in (by omega) (by omega)
  have e4 : wrap64 (p * 7 + 3) = p * 7 + 3 := w_in (by omega) (by omega)
  have m2 := tm_bd (x := p * 7 + 3) (n := b.length) (by omega) hl
  rw [e3, e4, if_pos m1.1, if_pos m1.2, if_pos m2.1, if_pos m2.2, if_neg (by omega)]
  have r1 := b_rd hb (Int.tmod p b.length)
  have r2 := b_rd hb (Int.tmod (p * 7 + 3) b.length)
  generalize rd b (Int.tmod p b.length) = u at r1
  generalize rd b (Int.tmod (p * 7 + 3) b.length) = v at r2
  have d1 : 0 ≤ Int.tdiv p b.length ∧ Int.tdiv p b.length ≤ p := by
    rw [Int.tdiv_eq_ediv_of_nonneg hp0]
    exact ⟨Int.ediv_nonneg hp0 (by omega), Int.ediv_le_self _ hp0⟩
  generalize Int.tdiv p b.length = d at d1
  have e5 : wrap64 (wrap64 (wrap64 (wrap64 (wrap64 u * 131) + wrap64 (wrap64 v * 1117)) + wrap64 (p * 29)) + wrap64 (wrap64 d * 53)) = u * 131 + v * 1117 + p * 29 + d * 53 := by
    rw [w_in (n := u) (by omega) (by omega), w_in (n := v) (by omega) (by omega), w_in (n := d) (by omega) (by omega), w_in (n := u * 131) (by omega) (by omega), w_in (n := v * 1117) (by omega) (by omega), w_in (n := p * 29) (by omega) (by omega), w_in (n := d * 53) (by omega) (by omega), w_in (n := u * 131 + v * 1117) (by omega) (by omega), w_in (n := u * 131 + v * 1117 + p * 29) (by omega) (by omega), w_in (by omega) (by omega)]
  rw [e5]
  have hx0 : 0 ≤ u * 131 + v * 1117 + p * 29 + d * 53 := by omega
  have hx1 : u * 131 + v * 1117 + p * 29 + d * 53 < 4611686018427387904 := by omega
  generalize u * 131 + v * 1117 + p * 29 + d * 53 = x at hx0 hx1
  have d2 : 0 ≤ Int.tdiv x 64 ∧ Int.tdiv x 64 < 4611686018427387904 := by
    rw [Int.tdiv_eq_ediv_of_nonneg hx0]
    omega
  rw [w_in (n := Int.tdiv x 64) (by omega) (by omega)]
  have hz := xor_nn hx0 hx1 d2.1 d2.2
  exact ⟨_, rfl, (tm_bd hz (by omega)).1, (tm_bd hz (by omega)).2⟩

theorem num_ok {k : Nat} {b : List Int} {p : Int} {xs : List Int} (hb : ∀ x ∈ b, 0 ≤ x ∧ x ≤ 255) (hp0 : 0 ≤ p) (hp : p ≤ 100000000) (hn : 1 ≤ xs.length) (hk : 0 < k) :
    ∃ v, spec_l21Rd_num.f k b p xs = some (v, p + 1) ∧ v ∈ xs := by
  obtain ⟨i, hi, h0, h1⟩ := pick_ok (n := (xs.length : Int)) hb hp0 hp (by omega) hk
  refine ⟨rd xs i, ?_, ?_⟩
  · unfold spec_l21Rd_num.f
    rw [hi]
    simp only [Option.bind_some]
    rw [if_pos h0, if_pos h1]
  · unfold rd
    rw [List.getD_eq_getElem?_getD, List.getElem?_eq_getElem (by omega)]
    exact List.getElem_mem _

theorem open_ok {l : List Int} (hl : ∀ x ∈ l, (Lit.int .u8 x).wf = true) : ∃ b, spec_l21Open.f l = some (b, 0) ∧ ∀ x ∈ b, 0 ≤ x ∧ x ≤ 255 := by
  have hb : ∀ x ∈ l, 0 ≤ x ∧ x ≤ 255 := fun x hx => bounds_u8 (hl x hx)
  unfold spec_l21Open.f
  by_cases h : (l.length : Int) > 2000
  · rw [if_pos h, if_pos (by omega)]
    exact ⟨_, rfl, fun x hx => hb x (List.mem_of_mem_take hx)⟩
  · rw [if_neg h]
    exact ⟨_, rfl, hb⟩

theorem allO_total {α : Type} {p : α → Option Bool} {q : α → Bool} : ∀ (l : List α), (∀ x ∈ l, p x = some (q x)) → allO p l = some (l.all q)
  | [], _ => rfl
  | x :: xs, h => by
    have ih := allO_total xs (fun y hy => h y (List.mem_cons_of_mem _ hy))
    simp only [allO, h x (List.mem_cons_self), Option.bind_some, List.all_cons]
    cases q x
    · simp
    · simpa using ih

theorem rd_at {l : List Int} {i : Int} (h0 : 0 ≤ i) (h : i.toNat < l.length) : l.drop i.toNat = rd l i :: l.drop (i + 1).toNat := by
  rw [List.drop_eq_getElem_cons h, show (i + 1).toNat = i.toNat + 1 by omega]
  unfold rd
  rw [List.getD_eq_getElem?_getD, List.getElem?_eq_getElem h]
  rfl
theorem rd_mem {l : List Int} {i : Int} (h0 : 0 ≤ i) (h : i < l.length) : rd l i ∈ l := by
  unfold rd
  rw [List.getD_eq_getElem?_getD, List.getElem?_eq_getElem (by omega)]
  exact List.getElem_mem _

theorem index_loop (l : List Int) (v : Int) (hl : l.length ≤ 9223372036854775806) (d : Nat) : ∀ (k : Nat) (i : Int), 0 ≤ i → i + d = l.length → d < k →
    ∃ r, slices_Index_int_int.l0 k l v (l.length : Int) i = some r ∧ decide (r ≥ 0) = (l.drop i.toNat).contains v := by
  induction d with
  | zero =>
    intro k i h0 h1 hk
    obtain ⟨k, rfl⟩ : ∃ m, k = m + 1 := ⟨k - 1, by omega⟩
    refine ⟨-1, by simp only [slices_Index_int_int.l0]; rw [if_neg (by omega)], ?_⟩
    rw [List.drop_eq_nil_of_le (by omega)]; rfl
  | succ d ih =>
    intro k i h0 h1 hk
    obtain ⟨k, rfl⟩ : ∃ m, k = m + 1 := ⟨k - 1, by omega⟩
    rw [rd_at h0 (by omega)]
    simp only [slices_Index_int_int.l0]
    rw [if_pos (by omega), if_pos h0, if_pos (by omega)]
    by_cases e : v = rd l i
    · exact ⟨i, by rw [if_pos e], by rw [← e]; simp [h0]⟩
    · obtain ⟨r, hr, hd⟩ := ih k (i + 1) (by omega) (by omega) (by omega)
      refine ⟨r, by rw [if_neg e, w_in (by omega) (by omega)]; exact hr, ?_⟩
      rw [hd, List.contains_cons]
      simp [e]
theorem contains_ok {l : List Int} {v : Int} (hl : l.length ≤ 9223372036854775806) {k : Nat} (hk : l.length < k) : slices_Contains_int_int.f k l v = some (l.contains v) := by
  obtain ⟨r, hr, hd⟩ := index_loop l v hl l.length k 0 (by omega) (by omega) hk
  unfold slices_Contains_int_int.f slices_Index_int_int.f
  rw [hr]
  simp only [Option.bind_some]
  rw [hd]; rfl

def bit (x : Int) : Bool := decide (0 ≤ x ∧ x ≤ 1)
/-- Do numbers tell which slots are open? -/
def okd (l : List Int) : Bool := l.all bit && l.contains 1 && decide (l.length ≤ 100)
theorem spec_in (a b c : Int) : spec_l1In.f a b c = some (decide (b ≤ a ∧ a ≤ c)) := by
  unfold spec_l1In.f
  by_cases h : b ≤ a <;> simp [h]
theorem impl_in (a b c : Int) : impl_within.f a b c = some (decide (b ≤ a ∧ a ≤ c)) := by
  unfold impl_within.f
  by_cases h : b ≤ a <;> simp [h]
theorem spec_drain_loop (l : List Int) (hl : l.length ≤ 9223372036854775806) (d : Nat) : ∀ (k : Nat) (i : Int) (b : Bool), 0 ≤ i → i + d = l.length → d < k →
    spec_l13Drain.l0 k l b i = some ((l.drop i.toNat).all bit && (b || (l.drop i.toNat).contains 1) && decide (l.length ≤ 100)) := by
  induction d with
  | zero =>
    intro k i b h0 h1 hk
    obtain ⟨k, rfl⟩ : ∃ m, k = m + 1 := ⟨k - 1, by omega⟩
    simp only [spec_l13Drain.l0]
    rw [if_neg (by omega), List.drop_eq_nil_of_le (by omega)]
    cases b <;> simp
    omega
  | succ d ih =>
    intro k i b h0 h1 hk
    obtain ⟨k, rfl⟩ : ∃ m, k = m + 1 := ⟨k - 1, by omega⟩
    rw [rd_at h0 (by omega)]
    simp only [spec_l13Drain.l0, spec_in, Option.bind_some]
    rw [if_pos (by omega), if_pos h0, w_in (by omega) (by omega), ih k (i + 1) true (by omega) (by omega) (by omega), ih k (i + 1) (rd l i == 1) (by omega) (by omega) (by omega)]
    by_cases e : 0 ≤ rd l i ∧ rd l i ≤ 1
    · rw [if_pos (by simpa using e)]
      have e' : bit (rd l i) = true := by unfold bit; simpa using e
      cases b
      · simp only [Bool.false_eq_true, if_false, List.all_cons, e', List.contains_cons, Bool.true_and, Bool.false_or]
        rw [show ((1 : Int) == rd l i) = (rd l i == 1) from Bool.beq_comm]
      · simp [e']
    · rw [if_neg (by simpa using e)]
      have e' : bit (rd l i) = false := by unfold bit; simpa using e
      simp [e']
theorem spec_drain {l : List Int} (hl : l.length ≤ 9223372036854775806) {k : Nat} (hk : l.length < k) : spec_l13Drain.f k l = some (okd l) := by
  unfold spec_l13Drain.f okd
  rw [spec_drain_loop l hl l.length k 0 false (by omega) (by omega) hk]
  simp
theorem impl_bit (x : Int) : impl_isBit.f x = some (bit x) := by
  unfold impl_isBit.f bit
  by_cases h : x = 0
  · subst h; rfl
  · rw [if_neg h]
    congr 1
    rw [Bool.eq_iff_iff]
    simp
    omega
theorem impl_drain {l : List Int} (hl : l.length ≤ 9223372036854775806) {k : Nat} (hk : l.length < k) : impl_drainOk.f k l = some (okd l) := by
  unfold impl_drainOk.f okd all_impl_isBit.f
  rw [impl_in, contains_ok hl hk, allO_total (q := bit) l (fun x _ => impl_bit x)]
  simp only [Option.bind_some]
  by_cases h1 : 1 ≤ (l.length : Int) ∧ (l.length : Int) ≤ 100
  · rw [if_pos (by simpa using h1)]
    have h2 : l.length ≤ 100 := by omega
    cases l.all bit
    · simp
    · simp [h2]
  · rw [if_neg (by simpa using h1)]
    congr 1
    symm
    by_cases h3 : l.length ≤ 100
    · have : l = [] := by
        apply List.eq_nil_of_length_eq_zero
        omega
      subst this
      rfl
    · simp [h3]
theorem okd_bit {l : List Int} (h : okd l = true) : (∀ x ∈ l, x = 0 ∨ x = 1) ∧ 1 ≤ l.length ∧ l.length ≤ 100 := by
  unfold okd at h
  simp only [Bool.and_eq_true, decide_eq_true_eq, List.all_eq_true] at h
  obtain ⟨⟨h1, h2⟩, h3⟩ := h
  refine ⟨fun x hx => ?_, ?_, h3⟩
  · have := h1 x hx
    simp [bit] at this
    omega
  · cases l with
    | nil => simp at h2
    | cons => simp

theorem slot_bd {l : List Int} (h : okd l = true) {j : Int} (hj : 0 ≤ j) : 0 ≤ Int.tmod j l.length ∧ Int.tmod j l.length < l.length ∧ (rd l (Int.tmod j l.length) = 0 ∨ rd l (Int.tmod j l.length) = 1) := by
  obtain ⟨hb, h1, _⟩ := okd_bit h
  have t : 0 ≤ Int.tmod j l.length ∧ Int.tmod j l.length < l.length := by
    rw [Int.tmod_eq_emod_of_nonneg hj]
    exact ⟨Int.emod_nonneg _ (by omega), Int.emod_lt_of_pos _ (by omega)⟩
  exact ⟨t.1, t.2, hb _ (rd_mem t.1 t.2)⟩
theorem impl_open_at {l : List Int} (h : okd l = true) {j : Int} (hj : 0 ≤ j) : impl_isOpen.f l j = some (rd l (Int.tmod j l.length) == 1) := by
  have b := slot_bd h hj
  have hl := (okd_bit h).2
  unfold impl_isOpen.f
  rw [if_neg (by omega), if_pos b.1, if_pos b.2.1]
def b2i (b : Bool) : Int := if b = true then 1 else 0
theorem b2i_bd (b : Bool) : 0 ≤ b2i b ∧ b2i b ≤ 1 := by cases b <;> simp [b2i]
/-- What stands at n places from lo on. -/
def win (f : Int → Bool) (lo : Int) (n : Nat) : List Bool := (List.range n).map (fun (j : Nat) => f (lo + (j : Int)))
theorem win_head (f : Int → Bool) (lo : Int) (m : Nat) : (win f lo (m + 1)).headD false = f lo := by
  unfold win
  rw [List.range_succ_eq_map]
  simp
theorem win_next (f g : Int → Bool) (lo : Int) (m : Nat) (p : Bool) (h1 : ∀ x, lo < x → x ≤ lo + m → g x = f x) (h2 : g (lo + 1 + m) = p) : win g (lo + 1) (m + 1) = (win f lo (m + 1)).tail ++ [p] := by
  unfold win
  rw [List.range_succ, List.map_append, List.map_singleton, h2, ← List.range_succ, List.range_succ_eq_map, List.map_cons, List.tail_cons, List.map_map]
  congr 1
  refine List.map_congr_left fun j hj => ?_
  have hj := List.mem_range.1 hj
  simp only [Function.comp]
  rw [h1 (lo + 1 + j) (by omega) (by omega)]
  congr 1
  push_cast
  omega
def cc (c : Int) (qg : List Bool) : Int := c + b2i (qg.headD false)
def ww (wt : Int) (qs : List Bool) : Int := wt + b2i (qs.headD false)
def oo (dr : List Int) (sl wt : Int) (qs : List Bool) : Bool := (rd dr (Int.tmod sl dr.length) == 1) && decide (0 < ww wt qs)
def pp (many c snt : Int) (qg : List Bool) : Bool := decide (0 < cc c qg) && decide (snt < many)
/-- Frames sent by credits: d slots more. -/
def rcm (many : Int) (dr : List Int) : Nat → Int → Int → Int → Int → Int → Int → List Bool → List Bool → Int × Int × Int × Int
  | 0, _, _, snt, tkn, mst, sl, _, _ => (snt, tkn, mst, sl)
  | d + 1, c, wt, snt, tkn, mst, sl, qs, qg =>
    if tkn < many then
      rcm many dr d (cc c qg - b2i (pp many c snt qg)) (ww wt qs - b2i (oo dr sl wt qs)) (snt + b2i (pp many c snt qg)) (tkn + b2i (oo dr sl wt qs)) (mx mst (ww wt qs)) (sl + 1) (qs.tail ++ [pp many c snt qg]) (qg.tail ++ [oo dr sl wt qs])
    else (snt, tkn, mst, sl)
def fin13 (many : Int) (r : Int × Int × Int × Int) : Int × Int × Int × Int × Bool := (r.1, r.2.1, r.2.2.1, r.2.2.2, r.2.1 == many)
def arr (A : List Int) (hi : Int) : Prop := (∀ i, rd A i = 0 ∨ rd A i = 1) ∧ ∀ i, hi ≤ i → rd A i = 0
def fA (A : List Int) (x : Int) : Bool := rd A x == 1
theorem arr_b {A : List Int} {hi i : Int} (h : arr A hi) : rd A i = b2i (fA A i) := by
  unfold fA
  rcases h.1 i with e | e <;> rw [e] <;> rfl
theorem rd_set {A : List Int} {j i v : Int} (hj : 0 ≤ j) (hi : 0 ≤ i) (hl : j < A.length) : rd (A.set j.toNat v) i = if i = j then v else rd A i := by
  unfold rd
  rw [List.getD_eq_getElem?_getD, List.getD_eq_getElem?_getD, List.getElem?_set]
  by_cases e : i = j
  · subst e
    rw [if_pos rfl, if_pos (by omega), if_pos rfl]
    rfl
  · rw [if_neg (by omega), if_neg e]
theorem rd_neg {A : List Int} {i : Int} (hi : i < 0) : rd A i = rd A 0 := by
  unfold rd
  rw [show i.toNat = 0 by omega]
  rfl
theorem arr_set {A : List Int} {hi : Int} (h : arr A hi) (h0 : 1 ≤ hi) (hl : hi < A.length) (p : Bool) : arr (if p = true then A.set hi.toNat 1 else A) (hi + 1) := by
  cases p with
  | false => exact ⟨h.1, fun i hi => h.2 i (by omega)⟩
  | true =>
    rw [if_pos rfl]
    refine ⟨fun i => ?_, fun i h2 => ?_⟩
    · by_cases hn : i < 0
      · rw [rd_neg hn, rd_set (by omega) (by omega) hl, if_neg (by omega)]
        exact h.1 0
      · rw [rd_set (by omega) (by omega) hl]
        by_cases e : i = hi
        · rw [if_pos e]; exact .inr rfl
        · rw [if_neg e]; exact h.1 i
    · rw [rd_set (by omega) (by omega) hl, if_neg (by omega)]
      exact h.2 i (by omega)
theorem arr_win {A : List Int} {lo : Int} {m : Nat} (h : arr A (lo + (m + 1 : Nat))) (h0 : 0 ≤ lo) (hl : lo + (m + 1 : Nat) < A.length) (p : Bool) :
    win (fA (if p = true then A.set (lo + (m + 1 : Nat)).toNat 1 else A)) (lo + 1) (m + 1) = (win (fA A) lo (m + 1)).tail ++ [p] := by
  refine win_next _ _ _ _ _ (fun x hx hx2 => ?_) ?_
  · cases p with
    | false => rfl
    | true =>
      unfold fA
      rw [if_pos rfl, rd_set (by omega) (by omega) hl, if_neg (by omega)]
  · unfold fA
    cases p with
    | false =>
      rw [if_neg (by simp), h.2 _ (by omega)]
      rfl
    | true =>
      rw [if_pos rfl, rd_set (by omega) (by omega) hl, if_pos (by omega)]
      rfl
theorem len_set (A : List Int) (j : Nat) (p : Bool) : (if p = true then A.set j 1 else A).length = A.length := by cases p <;> simp
theorem mx_bd {a b n : Int} (h0 : 0 ≤ a) (h1 : 0 ≤ b) (h2 : a ≤ n) (h3 : b ≤ n) : 0 ≤ mx a b ∧ mx a b ≤ n := by
  unfold mx
  split <;> omega
theorem spec_run_loop {dr : List Int} (hdr : okd dr = true) {a1 a2 a4 : Int} {m : Nat} (hm : a1 = (m + 1 : Nat)) (h1 : a1 ≤ 12) (h4 : a4 ≤ 3000) (d : Nat) : ∀ (k : Nat) (c wt : Int) (A B : List Int) (snt tkn mst sl : Int), 3 * d + 2 < k → 0 ≤ sl → sl + d = a4 → 0 ≤ c → c ≤ 100 + sl → 0 ≤ wt → wt ≤ sl → 0 ≤ snt → snt ≤ sl → 0 ≤ tkn → tkn ≤ sl →
    (A.length : Int) = a4 + a1 + 1 → (B.length : Int) = a4 + a1 + 1 → arr A (sl + a1) → arr B (sl + a1) →
    spec_l13Run.l0 k a1 a2 dr a4 c wt A B snt tkn mst sl false = some (fin13 a2 (rcm a2 dr d c wt snt tkn mst sl (win (fA A) sl (m + 1)) (win (fA B) sl (m + 1)))) := by
  induction d with
  | zero =>
    intro k c wt A B snt tkn mst sl hk _ hsl _ _ _ _ _ _ _ _ _ _ _ _
    obtain ⟨k, rfl⟩ : ∃ q, k = q + 1 + 1 := ⟨k - 2, by omega⟩
    rw [spec_l13Run.l0]
    rw [if_neg (by omega)]
    rw [spec_l13Run.j1]
    rw [if_neg (by simp)]
    rfl
  | succ d ih =>
    intro k c wt A B snt tkn mst sl hk h0 hsl c0 c1 w0 w1 s0 s1 t0 t1 lA lB hA hB
    obtain ⟨k, rfl⟩ : ∃ q, k = q + 1 + 1 + 1 := ⟨k - 3, by omega⟩
    rw [spec_l13Run.l0]
    rw [if_pos (by omega)]
    rw [spec_l13Run.j1]
    simp only [rcm]
    by_cases ht : tkn < a2
    · have hdl := (okd_bit hdr).2
      have hb := slot_bd hdr h0
      rw [if_pos (by simpa using ht), if_pos ht, if_pos h0, if_pos (by omega), if_pos (by omega), if_neg (by omega), if_pos hb.1, if_pos hb.2.1]
      have bA := b2i_bd (fA A sl)
      have bB := b2i_bd (fA B sl)
      have eW : wrap64 (wt + rd A sl) = ww wt (win (fA A) sl (m + 1)) := by
        rw [arr_b hA, w_in (by omega) (by omega)]
        unfold ww
        rw [win_head]
      have eC : wrap64 (c + rd B sl) = cc c (win (fA B) sl (m + 1)) := by
        rw [arr_b hB, w_in (by omega) (by omega)]
        unfold cc
        rw [win_head]
      rw [eW, eC]
      have bW : 0 ≤ ww wt (win (fA A) sl (m + 1)) ∧ ww wt (win (fA A) sl (m + 1)) ≤ sl + 1 := by
        unfold ww
        rw [win_head]
        omega
      have bC : 0 ≤ cc c (win (fA B) sl (m + 1)) ∧ cc c (win (fA B) sl (m + 1)) ≤ 100 + sl + 1 := by
        unfold cc
        rw [win_head]
        omega
      have ej : (if rd dr (Int.tmod sl dr.length) = 1 then spec_l13Run.j2 (k + 1) a1 a2 dr a4 (cc c (win (fA B) sl (m + 1))) (ww wt (win (fA A) sl (m + 1))) A B sl (decide (ww wt (win (fA A) sl (m + 1)) > 0)) snt tkn (mx mst (ww wt (win (fA A) sl (m + 1)))) sl false else spec_l13Run.j2 (k + 1) a1 a2 dr a4 (cc c (win (fA B) sl (m + 1))) (ww wt (win (fA A) sl (m + 1))) A B sl false snt tkn (mx mst (ww wt (win (fA A) sl (m + 1)))) sl false) = spec_l13Run.j2 (k + 1) a1 a2 dr a4 (cc c (win (fA B) sl (m + 1))) (ww wt (win (fA A) sl (m + 1))) A B sl (oo dr sl wt (win (fA A) sl (m + 1))) snt tkn (mx mst (ww wt (win (fA A) sl (m + 1)))) sl false := by
        unfold oo
        by_cases e : rd dr (Int.tmod sl dr.length) = 1
        · rw [if_pos e, e]
          rfl
        · rw [if_neg e, beq_eq_false_iff_ne.mpr e, Bool.false_and]
      rw [ej]
      have hO : oo dr sl wt (win (fA A) sl (m + 1)) = true → 0 < ww wt (win (fA A) sl (m + 1)) := fun h => by
        unfold oo at h
        simp only [Bool.and_eq_true, decide_eq_true_eq] at h
        exact h.2
      have hP : pp a2 c snt (win (fA B) sl (m + 1)) = decide (0 < cc c (win (fA B) sl (m + 1)) ∧ snt < a2) := by
        unfold pp
        simp
      have nx := fun (p o : Bool) => ih k (cc c (win (fA B) sl (m + 1)) - b2i p) (ww wt (win (fA A) sl (m + 1)) - b2i o) (if p = true then A.set (sl + a1).toNat 1 else A) (if o = true then B.set (sl + a1).toNat 1 else B) (snt + b2i p) (tkn + b2i o) (mx mst (ww wt (win (fA A) sl (m + 1)))) (sl + 1) (by omega) (by omega) (by omega)
      have wA := fun p => arr_win (lo := sl) (m := m) (by rw [← hm]; exact hA) h0 (by rw [← hm]; omega) p
      have wB := fun p => arr_win (lo := sl) (m := m) (by rw [← hm]; exact hB) h0 (by rw [← hm]; omega) p
      rw [← hm] at wA wB
      have sA := fun p => arr_set hA (by omega) (by omega) p
      have sB := fun p => arr_set hB (by omega) (by omega) p
      generalize oo dr sl wt (win (fA A) sl (m + 1)) = o at hO ⊢
      generalize pp a2 c snt (win (fA B) sl (m + 1)) = p at hP ⊢
      generalize hW : ww wt (win (fA A) sl (m + 1)) = W at *
      generalize hC : cc c (win (fA B) sl (m + 1)) = C at *
      generalize mx mst W = M at *
      have bo := b2i_bd o
      have bp := b2i_bd p
      have eo : o = true → b2i o = 1 := fun h => by rw [h]; rfl
      have ep : p = true → b2i p = 1 := fun h => by rw [h]; rfl
      have hp1 : p = true → 0 < C := fun h => by
        rw [hP] at h
        exact (of_decide_eq_true h).1
      have hO2 : b2i o ≤ W := by
        cases o with
        | true => have := hO rfl; simp [b2i]; omega
        | false => simp [b2i]; omega
      have hP2 : b2i p ≤ C := by
        cases p with
        | true => have := hp1 rfl; simp [b2i]; omega
        | false => simp [b2i]; omega
      have := nx p o (by omega) (by omega) (by omega) (by omega) (by omega) (by omega) (by omega) (by omega) (by rw [len_set]; exact lA) (by rw [len_set]; exact lB) (by rw [show sl + 1 + a1 = sl + a1 + 1 by omega]; exact sA p) (by rw [show sl + 1 + a1 = sl + a1 + 1 by omega]; exact sB o)
      rw [wA p, wB o] at this
      rw [← this]
      rw [spec_l13Run.j2]
      rw [w_in (n := sl + a1) (by omega) (by omega), w_in (n := sl + 1) (by omega) (by omega), w_in (n := W - 1) (by omega) (by omega), w_in (n := C - 1) (by omega) (by omega), w_in (n := snt + 1) (by omega) (by omega), w_in (n := tkn + 1) (by omega) (by omega)]
      by_cases g1 : C > 0
      · by_cases g2 : snt < a2
        · have hp : p = true := by rw [hP]; exact decide_eq_true ⟨g1, g2⟩
          subst hp
          cases o with
          | true =>
            rw [if_pos rfl, if_pos (by omega), if_pos (by omega), bs rfl, if_pos g1, if_pos g2, if_pos (by omega)]
            rfl
          | false =>
            rw [if_neg (by simp), if_pos g1, if_pos g2, if_pos (by omega), if_pos (by omega)]
            simp [b2i]
        · have hp : p = false := by rw [hP]; exact decide_eq_false (fun h => g2 h.2)
          subst hp
          cases o with
          | true =>
            rw [if_pos rfl, if_pos (by omega), if_pos (by omega), bs rfl, if_pos g1, if_neg g2]
            simp [b2i]
          | false =>
            rw [if_neg (by simp), if_pos g1, if_neg g2]
            simp [b2i]
      · have hp : p = false := by rw [hP]; exact decide_eq_false (fun h => g1 h.1)
        subst hp
        cases o with
        | true =>
          rw [if_pos rfl, if_pos (by omega), if_pos (by omega), bs rfl, if_neg g1]
          simp [b2i]
        | false =>
          rw [if_neg (by simp), if_neg g1]
          simp [b2i]
    · rw [if_neg (by simpa using ht), if_neg ht]
      rfl
def fin13t (many : Int) (r : Int × Int × Int × Int) : Int × Int × Int × Int × Bool × Bool := (r.1, r.2.1, r.2.2.1, r.2.2.2, r.2.1 == many, true)
def fS (S : List Int) (a x : Int) : Bool := S.contains (x - a)
theorem set_win {S : List Int} {lo : Int} {m : Nat} (h : ∀ x ∈ S, x < lo) (p : Bool) :
    win (fS (if p = true then S ++ [lo] else S) (m + 1 : Nat)) (lo + 1) (m + 1) = (win (fS S (m + 1 : Nat)) lo (m + 1)).tail ++ [p] := by
  refine win_next _ _ _ _ _ (fun x hx hx2 => ?_) ?_
  · cases p with
    | false => rfl
    | true =>
      unfold fS
      rw [if_pos rfl]
      have : ¬ x - ((m + 1 : Nat) : Int) = lo := by omega
      generalize x - ((m + 1 : Nat) : Int) = y at this ⊢
      rw [Bool.eq_iff_iff]
      simp [this]
  · unfold fS
    rw [show lo + 1 + (m : Int) - ((m + 1 : Nat) : Int) = lo by push_cast; omega]
    cases p with
    | false =>
      rw [if_neg (by simp), Bool.eq_false_iff]
      intro c
      rw [List.contains_iff_mem] at c
      exact absurd (h _ c) (by omega)
    | true => simp
theorem set_lt {S : List Int} {lo : Int} (h : ∀ x ∈ S, x < lo) (p : Bool) : ∀ x ∈ (if p = true then S ++ [lo] else S), x < lo + 1 := by
  intro x hx
  cases p with
  | false => have := h x (by simpa using hx); omega
  | true =>
    rw [if_pos rfl] at hx
    rcases List.mem_append.1 hx with hx | hx
    · have := h x hx; omega
    · rw [List.mem_singleton.1 hx]; omega
theorem set_len {S : List Int} {lo : Int} (h : S.length ≤ lo) (p : Bool) : (if p = true then S ++ [lo] else S).length ≤ lo + 1 := by
  cases p with
  | false => simp; omega
  | true => simp; omega
theorem impl_run_loop {dr : List Int} (hdr : okd dr = true) {a1 a2 a4 : Int} {m : Nat} (hm : a1 = (m + 1 : Nat)) (h1 : a1 ≤ 12) (h4 : a4 ≤ 3000) (d : Nat) : ∀ (k : Nat) (c wt : Int) (S G : List Int) (snt tkn mst sl : Int), 5 * d + 2 < k → 0 ≤ sl → sl + d = a4 → 0 ≤ c → c ≤ 100 + sl → 0 ≤ wt → wt ≤ sl → 0 ≤ snt → snt ≤ sl → 0 ≤ tkn → tkn ≤ sl →
    S.length ≤ sl → G.length ≤ sl → (∀ x ∈ S, x < sl) → (∀ x ∈ G, x < sl) →
    impl_RunCredits.l0 k a1 a2 dr a4 c wt S G snt tkn mst sl false = some (fin13t a2 (rcm a2 dr d c wt snt tkn mst sl (win (fS S a1) sl (m + 1)) (win (fS G a1) sl (m + 1)))) := by
  induction d with
  | zero =>
    intro k c wt S G snt tkn mst sl hk h0 hsl _ _ _ _ _ _ _ _ lS lG _ _
    obtain ⟨k, rfl⟩ : ∃ q, k = q + 1 + 1 := ⟨k - 2, by omega⟩
    have e : impl_RunCredits.j2 (k + 1) a1 a2 dr a4 c wt S G false snt tkn mst sl false = some (fin13t a2 (snt, tkn, mst, sl)) := by
      rw [impl_RunCredits.j2]
      rw [if_neg (by simp)]
      rfl
    rw [impl_RunCredits.l0]
    rw [if_pos (by omega), if_pos (by omega), show decide (sl < a4) = false from decide_eq_false (by omega), e, ite_self]
    rfl
  | succ d ih =>
    intro k c wt S G snt tkn mst sl hk h0 hsl c0 c1 w0 w1 s0 s1 t0 t1 lS lG hS hG
    obtain ⟨k, rfl⟩ : ∃ q, k = q + 1 + 1 + 1 + 1 + 1 := ⟨k - 5, by omega⟩
    rw [impl_RunCredits.l0]
    rw [if_pos (by omega), if_pos (by omega), show decide (sl < a4) = true from decide_eq_true (by omega)]
    simp only [rcm]
    by_cases ht : tkn < a2
    · rw [if_pos ht, if_pos ht]
      rw [impl_RunCredits.j2]
      rw [if_pos rfl, w_in (n := sl - a1) (by omega) (by omega), w_in (n := c + 1) (by omega) (by omega), w_in (n := sl + 1) (by omega) (by omega)]
      have eC : (if G.contains (sl - a1) = true then impl_RunCredits.j3 (k + 1 + 1 + 1) a1 a2 dr a4 (c + 1) wt S G sl snt tkn mst (sl + 1) false else impl_RunCredits.j3 (k + 1 + 1 + 1) a1 a2 dr a4 c wt S G sl snt tkn mst (sl + 1) false) = impl_RunCredits.j3 (k + 1 + 1 + 1) a1 a2 dr a4 (cc c (win (fS G a1) sl (m + 1))) wt S G sl snt tkn mst (sl + 1) false := by
        unfold cc
        rw [win_head]
        unfold fS b2i
        split <;> simp
      rw [eC]
      rw [impl_RunCredits.j3]
      rw [w_in (n := sl - a1) (by omega) (by omega), w_in (n := wt + 1) (by omega) (by omega)]
      have eW : (if S.contains (sl - a1) = true then impl_RunCredits.j4 (k + 1 + 1) a1 a2 dr a4 (cc c (win (fS G a1) sl (m + 1))) (wt + 1) S G sl snt tkn mst (sl + 1) false else impl_RunCredits.j4 (k + 1 + 1) a1 a2 dr a4 (cc c (win (fS G a1) sl (m + 1))) wt S G sl snt tkn mst (sl + 1) false) = impl_RunCredits.j4 (k + 1 + 1) a1 a2 dr a4 (cc c (win (fS G a1) sl (m + 1))) (ww wt (win (fS S a1) sl (m + 1))) S G sl snt tkn mst (sl + 1) false := by
        unfold ww
        rw [win_head]
        unfold fS b2i
        split <;> simp
      rw [eW]
      rw [impl_RunCredits.j4]
      rw [bs (impl_open_at hdr h0)]
      have bW : 0 ≤ ww wt (win (fS S a1) sl (m + 1)) ∧ ww wt (win (fS S a1) sl (m + 1)) ≤ sl + 1 := by
        unfold ww
        have := b2i_bd ((win (fS S a1) sl (m + 1)).headD false)
        omega
      have bC : 0 ≤ cc c (win (fS G a1) sl (m + 1)) ∧ cc c (win (fS G a1) sl (m + 1)) ≤ 100 + sl + 1 := by
        unfold cc
        have := b2i_bd ((win (fS G a1) sl (m + 1)).headD false)
        omega
      have ej : (if (rd dr (Int.tmod sl dr.length) == 1) = true then impl_RunCredits.j5 (k + 1) a1 a2 dr a4 (cc c (win (fS G a1) sl (m + 1))) (ww wt (win (fS S a1) sl (m + 1))) S G sl (decide (ww wt (win (fS S a1) sl (m + 1)) > 0)) snt tkn (mx mst (ww wt (win (fS S a1) sl (m + 1)))) (sl + 1) false else impl_RunCredits.j5 (k + 1) a1 a2 dr a4 (cc c (win (fS G a1) sl (m + 1))) (ww wt (win (fS S a1) sl (m + 1))) S G sl false snt tkn (mx mst (ww wt (win (fS S a1) sl (m + 1)))) (sl + 1) false) = impl_RunCredits.j5 (k + 1) a1 a2 dr a4 (cc c (win (fS G a1) sl (m + 1))) (ww wt (win (fS S a1) sl (m + 1))) S G sl (oo dr sl wt (win (fS S a1) sl (m + 1))) snt tkn (mx mst (ww wt (win (fS S a1) sl (m + 1)))) (sl + 1) false := by
        unfold oo
        cases (rd dr (Int.tmod sl dr.length) == 1)
        · rfl
        · rfl
      rw [ej]
      have hO : oo dr sl wt (win (fS S a1) sl (m + 1)) = true → 0 < ww wt (win (fS S a1) sl (m + 1)) := fun h => by
        unfold oo at h
        simp only [Bool.and_eq_true, decide_eq_true_eq] at h
        exact h.2
      have hP : pp a2 c snt (win (fS G a1) sl (m + 1)) = decide (0 < cc c (win (fS G a1) sl (m + 1)) ∧ snt < a2) := by
        unfold pp
        simp
      have nx := fun (p o : Bool) => ih k (cc c (win (fS G a1) sl (m + 1)) - b2i p) (ww wt (win (fS S a1) sl (m + 1)) - b2i o) (if p = true then S ++ [sl] else S) (if o = true then G ++ [sl] else G) (snt + b2i p) (tkn + b2i o) (mx mst (ww wt (win (fS S a1) sl (m + 1)))) (sl + 1) (by omega) (by omega) (by omega)
      have wS := fun p => set_win (m := m) hS p
      have wG := fun p => set_win (m := m) hG p
      rw [← hm] at wS wG
      generalize oo dr sl wt (win (fS S a1) sl (m + 1)) = o at hO ⊢
      generalize pp a2 c snt (win (fS G a1) sl (m + 1)) = p at hP ⊢
      generalize hW : ww wt (win (fS S a1) sl (m + 1)) = W at *
      generalize hC : cc c (win (fS G a1) sl (m + 1)) = C at *
      generalize mx mst W = M at *
      have bo := b2i_bd o
      have bp := b2i_bd p
      have hp1 : p = true → 0 < C := fun h => by
        rw [hP] at h
        exact (of_decide_eq_true h).1
      have hO2 : b2i o ≤ W := by
        cases o with
        | true => have := hO rfl; simp [b2i]; omega
        | false => simp [b2i]; omega
      have hP2 : b2i p ≤ C := by
        cases p with
        | true => have := hp1 rfl; simp [b2i]; omega
        | false => simp [b2i]; omega
      have := nx p o (by omega) (by omega) (by omega) (by omega) (by omega) (by omega) (by omega) (by omega) (set_len lS p) (set_len lG o) (set_lt hS p) (set_lt hG o)
      rw [wS p, wG o] at this
      rw [← this]
      rw [impl_RunCredits.j5]
      rw [w_in (n := W - 1) (by omega) (by omega), w_in (n := C - 1) (by omega) (by omega), w_in (n := snt + 1) (by omega) (by omega), w_in (n := tkn + 1) (by omega) (by omega)]
      by_cases g1 : C > 0
      · by_cases g2 : snt < a2
        · have hp : p = true := by rw [hP]; exact decide_eq_true ⟨g1, g2⟩
          subst hp
          cases o <;> simp [b2i, g1, g2]
        · have hp : p = false := by rw [hP]; exact decide_eq_false (fun h => g2 h.2)
          subst hp
          cases o <;> simp [b2i, g1, g2]
      · have hp : p = false := by rw [hP]; exact decide_eq_false (fun h => g1 h.1)
        subst hp
        cases o <;> simp [b2i, g1]
    · have e : impl_RunCredits.j2 (k + 1 + 1 + 1 + 1) a1 a2 dr a4 c wt S G false snt tkn mst sl false = some (fin13t a2 (snt, tkn, mst, sl)) := by
        rw [impl_RunCredits.j2]
        rw [if_neg (by simp)]
        rfl
      rw [if_neg ht, if_neg ht, e]
/-- Are these room, delay, frames, drain and slots? -/
def ok13 (a0 a1 a2 : Int) (dr : List Int) (a4 : Int) : Bool := decide (1 ≤ a0 ∧ a0 ≤ 40) && decide (1 ≤ a1 ∧ a1 ≤ 12) && decide (0 ≤ a2 ∧ a2 ≤ 500) && okd dr && decide (0 ≤ a4 ∧ a4 ≤ 3000)
def rc0 (a0 a1 a2 : Int) (dr : List Int) (a4 : Int) : Int × Int × Int × Int := rcm a2 dr a4.toNat a0 0 0 0 0 0 (List.replicate a1.toNat false) (List.replicate a1.toNat false)
def rcv (a0 a1 a2 : Int) (dr : List Int) (a4 : Int) : Int × Int × Int × Int × Bool × Bool := if ok13 a0 a1 a2 dr a4 = true then fin13t a2 (rc0 a0 a1 a2 dr a4) else (0, 0, 0, 0, false, false)
theorem ok13_at {a0 a1 a2 a4 : Int} {dr : List Int} (h : ok13 a0 a1 a2 dr a4 = true) : (1 ≤ a0 ∧ a0 ≤ 40) ∧ (1 ≤ a1 ∧ a1 ≤ 12) ∧ (0 ≤ a2 ∧ a2 ≤ 500) ∧ okd dr = true ∧ 0 ≤ a4 ∧ a4 ≤ 3000 := by
  unfold ok13 at h
  simp only [Bool.and_eq_true, decide_eq_true_eq] at h
  exact ⟨h.1.1.1.1, h.1.1.1.2, h.1.1.2, h.1.2, h.2⟩
theorem rep_win (f : Int → Bool) (n : Nat) (h : ∀ x : Int, 0 ≤ x → x < n → f x = false) : win f 0 n = List.replicate n false := by
  unfold win
  rw [List.eq_replicate_iff]
  refine ⟨by simp, fun b hb => ?_⟩
  obtain ⟨j, hj, rfl⟩ := List.mem_map.1 hb
  have := List.mem_range.1 hj
  exact h _ (by omega) (by omega)
theorem rep_rd (n : Nat) (i : Int) : rd (List.replicate n 0) i = 0 := by
  unfold rd
  rw [List.getD_eq_getElem?_getD, List.getElem?_replicate]
  split <;> rfl
theorem impl_rc {a0 a1 a2 a4 : Int} {dr : List Int} (hl : dr.length ≤ 9223372036854775806) {k : Nat} (hk : dr.length + 16000 < k) : impl_RunCredits.f k a0 a1 a2 dr a4 = some (rcv a0 a1 a2 dr a4) := by
  obtain ⟨k, rfl⟩ : ∃ m, k = m + 1 := ⟨k - 1, by omega⟩
  have jt : impl_RunCredits.j0 (k + 1) a0 a1 a2 dr a4 true = some (0, 0, 0, 0, false, false) := by
    rw [impl_RunCredits.j0]
    rw [if_pos rfl]
  unfold impl_RunCredits.f
  rw [bs (impl_in _ _ _)]
  by_cases h0 : 1 ≤ a0 ∧ a0 ≤ 40
  case neg =>
    rw [if_neg (by simpa using h0), jt]
    unfold rcv ok13
    rw [decide_eq_false h0]
    rfl
  rw [if_pos (by simpa using h0), bs (impl_in _ _ _)]
  by_cases h1 : 1 ≤ a1 ∧ a1 ≤ 12
  case neg =>
    rw [if_neg (by simpa using h1), jt]
    unfold rcv ok13
    rw [decide_eq_false h1, Bool.and_false]
    rfl
  rw [if_pos (by simpa using h1), bs (impl_in _ _ _)]
  by_cases h2 : 0 ≤ a2 ∧ a2 ≤ 500
  case neg =>
    rw [if_neg (by simpa using h2), jt]
    unfold rcv ok13
    rw [decide_eq_false h2, Bool.and_false]
    rfl
  rw [if_pos (by simpa using h2), bs (impl_drain hl (by omega))]
  by_cases h3 : okd dr = true
  case neg =>
    rw [if_neg h3, jt]
    unfold rcv ok13
    rw [(Bool.not_eq_true _).mp h3, Bool.and_false]
    rfl
  rw [if_pos h3, bs (impl_in _ _ _)]
  by_cases h4 : 0 ≤ a4 ∧ a4 ≤ 3000
  case neg =>
    rw [decide_eq_false h4, Bool.not_false, jt]
    unfold rcv ok13
    rw [decide_eq_false h4, Bool.and_false]
    rfl
  rw [decide_eq_true h4, Bool.not_true]
  rw [impl_RunCredits.j0]
  rw [if_neg (by simp)]
  obtain ⟨m, hm⟩ : ∃ m : Nat, a1 = (m + 1 : Nat) := ⟨a1.toNat - 1, by omega⟩
  rw [impl_run_loop h3 hm h1.2 h4.2 a4.toNat k a0 0 [] [] 0 0 0 0 (by omega) (by omega) (by omega) (by omega) (by omega) (by omega) (by omega) (by omega) (by omega) (by omega) (by omega) (by simp) (by simp) (by simp) (by simp)]
  unfold rcv ok13 rc0
  rw [decide_eq_true h0, decide_eq_true h1, decide_eq_true h2, h3, decide_eq_true h4, rep_win _ _ (fun x _ _ => by simp [fS]), show a1.toNat = m + 1 by omega]
  rfl
theorem spec_run {a0 a1 a2 a4 : Int} {dr : List Int} (h0 : 1 ≤ a0 ∧ a0 ≤ 40) (h1 : 1 ≤ a1 ∧ a1 ≤ 12) (h3 : okd dr = true) (h4 : 0 ≤ a4 ∧ a4 ≤ 3000) {k : Nat} (hk : 16000 < k) : spec_l13Run.f k a0 a1 a2 dr a4 = some (fin13 a2 (rc0 a0 a1 a2 dr a4)) := by
  obtain ⟨m, hm⟩ : ∃ m : Nat, a1 = (m + 1 : Nat) := ⟨a1.toNat - 1, by omega⟩
  unfold spec_l13Run.f
  rw [w_in (n := a4 + a1) (by omega) (by omega), w_in (n := a4 + a1 + 1) (by omega) (by omega), if_pos (by omega), if_pos (by omega)]
  have ar : arr (List.replicate (a4 + a1 + 1).toNat 0) (0 + a1) := ⟨fun i => .inl (rep_rd _ _), fun i _ => rep_rd _ _⟩
  rw [spec_run_loop h3 hm h1.2 h4.2 a4.toNat k a0 0 _ _ 0 0 0 0 (by omega) (by omega) (by omega) (by omega) (by omega) (by omega) (by omega) (by omega) (by omega) (by omega) (by omega) (by rw [List.length_replicate]; omega) (by rw [List.length_replicate]; omega) ar ar]
  unfold rc0
  rw [rep_win _ _ (fun x _ _ => by unfold fA; rw [rep_rd]; rfl), show a1.toNat = m + 1 by omega]
theorem spec_fits (a0 a1 a2 : Int) : spec_l13Fits.f a0 a1 a2 = some (decide (1 ≤ a0 ∧ a0 ≤ 40) && decide (1 ≤ a1 ∧ a1 ≤ 12) && decide (0 ≤ a2 ∧ a2 ≤ 500)) := by
  unfold spec_l13Fits.f
  rw [spec_in, spec_in, spec_in]
  generalize decide (1 ≤ a0 ∧ a0 ≤ 40) = x
  generalize decide (1 ≤ a1 ∧ a1 ≤ 12) = y
  generalize decide (0 ≤ a2 ∧ a2 ≤ 500) = z
  cases x <;> cases y <;> cases z <;> rfl
theorem spec_rc {a0 a1 a2 a4 : Int} {dr : List Int} (hl : dr.length ≤ 9223372036854775806) {k : Nat} (hk : dr.length + 16000 < k) : spec_RunCredits.f k a0 a1 a2 dr a4 = some (rcv a0 a1 a2 dr a4) := by
  unfold spec_RunCredits.f spec_l13Fits.f
  rw [spec_in, spec_in, spec_in]
  by_cases h0 : 1 ≤ a0 ∧ a0 ≤ 40
  case neg =>
    unfold rcv ok13
    simp [h0]
  by_cases h1 : 1 ≤ a1 ∧ a1 ≤ 12
  case neg =>
    unfold rcv ok13
    simp [h0, h1]
  by_cases h2 : 0 ≤ a2 ∧ a2 ≤ 500
  case neg =>
    unfold rcv ok13
    simp [h0, h1, h2]
  rw [decide_eq_true h0, decide_eq_true h1, decide_eq_true h2, bs (show _ = some true from rfl), if_pos rfl, bs (spec_drain hl (by omega))]
  by_cases h3 : okd dr = true
  case neg =>
    unfold rcv ok13
    simp [h3]
  rw [if_pos h3, spec_in, bs rfl]
  by_cases h4 : 0 ≤ a4 ∧ a4 ≤ 3000
  case neg =>
    unfold rcv ok13
    simp [h4]
  rw [if_pos rfl]
  rw [bs (spec_run h0 h1 h3 h4 (by omega))]
  unfold rcv ok13
  rw [decide_eq_true h0, decide_eq_true h1, decide_eq_true h2, h3, decide_eq_true h4]
  rfl
def cnt : List Bool → Int
  | [] => 0
  | b :: l => b2i b + cnt l
theorem cnt_nn : ∀ l, 0 ≤ cnt l
  | [] => by simp [cnt]
  | b :: l => by
    have := cnt_nn l
    have := b2i_bd b
    simp only [cnt]
    omega
theorem cnt_app : ∀ l m, cnt (l ++ m) = cnt l + cnt m
  | [], m => by simp [cnt]
  | b :: l, m => by
    rw [List.cons_append]
    simp only [cnt]
    rw [cnt_app l m]
    omega
theorem cnt_one (p : Bool) : cnt [p] = b2i p := by simp [cnt]
theorem cnt_next (l : List Bool) (p : Bool) : cnt (l.tail ++ [p]) = cnt l - b2i (l.headD false) + b2i p := by
  rw [cnt_app, cnt_one]
  cases l with
  | nil => simp [cnt, b2i]
  | cons a l =>
    simp only [cnt, List.tail_cons, List.headD_cons]
    omega
theorem cnt_head (l : List Bool) : b2i (l.headD false) ≤ cnt l := by
  cases l with
  | nil => simp [cnt, b2i]
  | cons a l =>
    have := cnt_nn l
    simp only [cnt, List.headD_cons]
    omega
theorem cnt_rep : ∀ n, cnt (List.replicate n false) = 0
  | 0 => rfl
  | n + 1 => by
    rw [List.replicate_succ]
    simp only [cnt]
    rw [cnt_rep n]
    rfl
/-- What holds at the start and is kept by each slot holds at the end. -/
theorem rcm_inv {many : Int} {dr : List Int} (I : Int → Int → Int → Int → Int → Int → List Bool → List Bool → Prop)
    (step : ∀ c wt snt tkn mst sl qs qg, I c wt snt tkn mst sl qs qg → tkn < many → I (cc c qg - b2i (pp many c snt qg)) (ww wt qs - b2i (oo dr sl wt qs)) (snt + b2i (pp many c snt qg)) (tkn + b2i (oo dr sl wt qs)) (mx mst (ww wt qs)) (sl + 1) (qs.tail ++ [pp many c snt qg]) (qg.tail ++ [oo dr sl wt qs])) :
    ∀ d c wt snt tkn mst sl qs qg, I c wt snt tkn mst sl qs qg → ∃ c' wt' qs' qg', I c' wt' (rcm many dr d c wt snt tkn mst sl qs qg).1 (rcm many dr d c wt snt tkn mst sl qs qg).2.1 (rcm many dr d c wt snt tkn mst sl qs qg).2.2.1 (rcm many dr d c wt snt tkn mst sl qs qg).2.2.2 qs' qg' := by
  intro d
  induction d with
  | zero => exact fun c wt snt tkn mst sl qs qg h => ⟨c, wt, qs, qg, h⟩
  | succ d ih =>
    intro c wt snt tkn mst sl qs qg h
    simp only [rcm]
    by_cases ht : tkn < many
    · rw [if_pos ht]
      exact ih _ _ _ _ _ _ _ _ (step _ _ _ _ _ _ _ _ h ht)
    · rw [if_neg ht]
      exact ⟨c, wt, qs, qg, h⟩
theorem oo_le {dr : List Int} {sl wt : Int} {qs : List Bool} (h : 0 ≤ ww wt qs) : b2i (oo dr sl wt qs) ≤ ww wt qs := by
  unfold oo
  by_cases c : 0 < ww wt qs
  · have := b2i_bd (rd dr (Int.tmod sl dr.length) == 1 && decide (0 < ww wt qs))
    omega
  · rw [decide_eq_false c, Bool.and_false]
    simpa [b2i] using h
theorem pp_le {many c snt : Int} {qg : List Bool} (h : 0 ≤ cc c qg) : b2i (pp many c snt qg) ≤ cc c qg := by
  unfold pp
  by_cases e : 0 < cc c qg
  · have := b2i_bd (decide (0 < cc c qg) && decide (snt < many))
    omega
  · rw [decide_eq_false e, Bool.false_and]
    simpa [b2i] using h
theorem pp_many {many c snt : Int} {qg : List Bool} (h : snt ≤ many) : snt + b2i (pp many c snt qg) ≤ many := by
  unfold pp
  by_cases e : snt < many
  · have := b2i_bd (decide (0 < cc c qg) && decide (snt < many))
    omega
  · rw [decide_eq_false e, Bool.and_false]
    simpa [b2i] using h
/-- No credit and no frame is lost. -/
def roomI (room many c wt snt tkn mst sl : Int) (qs qg : List Bool) : Prop := 0 ≤ c ∧ 0 ≤ wt ∧ c + wt + cnt qs + cnt qg = room ∧ snt = tkn + wt + cnt qs ∧ snt ≤ many ∧ mst ≤ room ∧ 0 ≤ mst ∧ 0 ≤ tkn ∧ 0 ≤ sl
theorem roomI_step {room many : Int} {dr : List Int} {c wt snt tkn mst sl : Int} {qs qg : List Bool} (h : roomI room many c wt snt tkn mst sl qs qg) :
    roomI room many (cc c qg - b2i (pp many c snt qg)) (ww wt qs - b2i (oo dr sl wt qs)) (snt + b2i (pp many c snt qg)) (tkn + b2i (oo dr sl wt qs)) (mx mst (ww wt qs)) (sl + 1) (qs.tail ++ [pp many c snt qg]) (qg.tail ++ [oo dr sl wt qs]) := by
  obtain ⟨h1, h2, h3, h4, h5, h6, h7, h8, h9⟩ := h
  have a1 := cnt_nn qs
  have a2 := cnt_nn qg
  have a3 := b2i_bd (qs.headD false)
  have a4 := b2i_bd (qg.headD false)
  have a5 := cnt_head qs
  have a6 := cnt_head qg
  have w0 : ww wt qs = wt + b2i (qs.headD false) := rfl
  have c0 : cc c qg = c + b2i (qg.headD false) := rfl
  have o1 := oo_le (dr := dr) (sl := sl) (wt := wt) (qs := qs) (by omega)
  have p1 := pp_le (many := many) (snt := snt) (c := c) (qg := qg) (by omega)
  have p2 := pp_many (c := c) (qg := qg) h5
  have o2 := b2i_bd (oo dr sl wt qs)
  have p3 := b2i_bd (pp many c snt qg)
  refine ⟨by omega, by omega, ?_, ?_, p2, ?_, ?_, by omega, by omega⟩
  · rw [cnt_next, cnt_next]
    omega
  · rw [cnt_next]
    omega
  · unfold mx
    split <;> omega
  · unfold mx
    split <;> omega
theorem rcm_room {room many : Int} {dr : List Int} (d : Nat) {c wt snt tkn mst sl : Int} {qs qg : List Bool} (h : roomI room many c wt snt tkn mst sl qs qg) : ∃ c' wt' qs' qg', roomI room many c' wt' (rcm many dr d c wt snt tkn mst sl qs qg).1 (rcm many dr d c wt snt tkn mst sl qs qg).2.1 (rcm many dr d c wt snt tkn mst sl qs qg).2.2.1 (rcm many dr d c wt snt tkn mst sl qs qg).2.2.2 qs' qg' :=
  rcm_inv (roomI room many) (fun _ _ _ _ _ _ _ _ h _ => roomI_step h) d c wt snt tkn mst sl qs qg h
theorem roomI_start {a0 a1 a2 a4 : Int} {dr : List Int} (h : ok13 a0 a1 a2 dr a4 = true) : roomI a0 a2 a0 0 0 0 0 0 (List.replicate a1.toNat false) (List.replicate a1.toNat false) := by
  obtain ⟨h0, h1, h2, h3, h4⟩ := ok13_at h
  refine ⟨by omega, by omega, ?_, ?_, by omega, by omega, by omega, by omega, by omega⟩
  · rw [cnt_rep]; omega
  · rw [cnt_rep]; omega
theorem rc0_room {a0 a1 a2 a4 : Int} {dr : List Int} (h : ok13 a0 a1 a2 dr a4 = true) : ∃ c' wt' qs' qg', roomI a0 a2 c' wt' (rc0 a0 a1 a2 dr a4).1 (rc0 a0 a1 a2 dr a4).2.1 (rc0 a0 a1 a2 dr a4).2.2.1 (rc0 a0 a1 a2 dr a4).2.2.2 qs' qg' := rcm_room _ (roomI_start h)
theorem rc0_bd {a0 a1 a2 a4 : Int} {dr : List Int} (h : ok13 a0 a1 a2 dr a4 = true) : (rc0 a0 a1 a2 dr a4).2.2.1 ≤ a0 ∧ 0 ≤ (rc0 a0 a1 a2 dr a4).2.1 ∧ (rc0 a0 a1 a2 dr a4).2.1 ≤ (rc0 a0 a1 a2 dr a4).1 ∧ (rc0 a0 a1 a2 dr a4).1 ≤ a2 ∧ (rc0 a0 a1 a2 dr a4).1 - (rc0 a0 a1 a2 dr a4).2.1 ≤ a0 := by
  obtain ⟨c, wt, qs, qg, h1, h2, h3, h4, h5, h6, h7, h8, h9⟩ := rc0_room h
  have a1 := cnt_nn qs
  have a2 := cnt_nn qg
  exact ⟨h6, h8, by omega, h5, by omega⟩
/-- Slots are counted. -/
theorem rcm_sl (many : Int) (dr : List Int) : ∀ d c wt snt tkn mst sl qs qg, sl ≤ (rcm many dr d c wt snt tkn mst sl qs qg).2.2.2 ∧ (rcm many dr d c wt snt tkn mst sl qs qg).2.2.2 ≤ sl + d
  | 0, _, _, _, _, _, _, _, _ => by simp [rcm]
  | d + 1, c, wt, snt, tkn, mst, sl, qs, qg => by
    simp only [rcm]
    by_cases ht : tkn < many
    · rw [if_pos ht]
      have := rcm_sl many dr d (cc c qg - b2i (pp many c snt qg)) (ww wt qs - b2i (oo dr sl wt qs)) (snt + b2i (pp many c snt qg)) (tkn + b2i (oo dr sl wt qs)) (mx mst (ww wt qs)) (sl + 1) (qs.tail ++ [pp many c snt qg]) (qg.tail ++ [oo dr sl wt qs])
      omega
    · rw [if_neg ht]
      show sl ≤ sl ∧ sl ≤ sl + _
      omega
theorem draw13_loop {b : List Int} (hb : ∀ x ∈ b, 0 ≤ x ∧ x ≤ 255) (d : Nat) : ∀ (k : Nat) (x : List Int) (c p : Int), c = d → d + 1 < k → x.length + d ≤ 1000 → 0 ≤ p → p + d ≤ 1000000 →
    ∃ l p', spec_l13Draw.l0 k x c b p = some (l, p') ∧ l.length ≤ x.length + d + 2 ∧ 0 ≤ p' ∧ p' ≤ p + d + 1 := by
  induction d with
  | zero =>
    intro k x c p hc hk hx hp hp2
    obtain ⟨k, rfl⟩ : ∃ m, k = m + 1 := ⟨k - 1, by omega⟩
    obtain ⟨v, e, _, _⟩ := pick_ok (k := k) (p := p) (n := 45) hb hp (by omega) (by omega) (by omega)
    simp only [spec_l13Draw.l0]
    rw [if_neg (by omega), e]
    simp only [Option.bind_some]
    by_cases h0 : v = 0
    · rw [if_pos h0]; exact ⟨_, _, rfl, by simp, by omega, by omega⟩
    rw [if_neg h0]
    by_cases h1 : v = 1
    · rw [if_pos h1]; exact ⟨_, _, rfl, by simp, by omega, by omega⟩
    rw [if_neg h1]
    by_cases h2 : v = 2
    · rw [if_pos h2, if_pos (by omega)]; exact ⟨_, _, rfl, by simp, by omega, by omega⟩
    · rw [if_neg h2]; exact ⟨_, _, rfl, by omega, by omega, by omega⟩
  | succ d ih =>
    intro k x c p hc hk hx hp hp2
    obtain ⟨k, rfl⟩ : ∃ m, k = m + 1 := ⟨k - 1, by omega⟩
    obtain ⟨v, e, _, _⟩ := pick_ok (k := k) (p := p) (n := 2) hb hp (by omega) (by omega) (by omega)
    simp only [spec_l13Draw.l0]
    rw [if_pos (by omega), e]
    simp only [Option.bind_some]
    rw [if_pos (by omega), w_in (by omega) (by omega)]
    obtain ⟨l, p', e', h1, h2, h3⟩ := ih k (x ++ [v]) (c - 1) (p + 1) (by omega) (by omega) (by simp; omega) (by omega) (by omega)
    exact ⟨l, p', e', by simp at h1; omega, h2, by omega⟩
theorem draw13 {b : List Int} (hb : ∀ x ∈ b, 0 ≤ x ∧ x ≤ 255) {k : Nat} (hk : 20 ≤ k) {p : Int} (hp : 0 ≤ p) (hp2 : p ≤ 1000) :
    ∃ l p', spec_l13Draw.f k b p = some (l, p') ∧ l.length ≤ 20 ∧ 0 ≤ p' ∧ p' ≤ 1100 := by
  obtain ⟨v, e, hv⟩ := num_ok (k := k) (b := b) (p := p) (xs := [0, 3, 9, 1]) hb hp (by omega) (by simp) (by omega)
  have hv' : 0 ≤ v ∧ v ≤ 9 := by simp at hv; omega
  unfold spec_l13Draw.f
  rw [e]
  simp only [Option.bind_some]
  obtain ⟨l, p', e', h1, h2, h3⟩ := draw13_loop hb v.toNat k [1] v (p + 1) (by omega) (by omega) (by simp; omega) (by omega) (by omega)
  exact ⟨l, p', e', by simp at h1; omega, h2, by omega⟩

theorem drawRC {l0 : List Int} (hl0 : ∀ x ∈ l0, (Lit.int .u8 x).wf = true) {k : Nat} (hk : 20 ≤ k) : ∃ a0 a1 a2 dr a4, spec_DrawRunCredits.f k l0 = some (a0, a1, a2, dr, a4) ∧ dr.length ≤ 20 := by
  obtain ⟨b, e, hb⟩ := open_ok hl0
  obtain ⟨t, e1, ht⟩ := num_ok (k := k) (b := b) (p := 0) (xs := [5, 5, 7]) hb (by omega) (by omega) (by simp) (by omega)
  have ht2 : 1 ≤ t ∧ t ≤ 7 := by
    simp at ht
    omega
  obtain ⟨a0, e2, _⟩ := num_ok (k := k) (b := b) (p := 0 + 1) (xs := ([2, 1, 4, 8, 40, 0, 41] : List Int).take t.toNat) hb (by omega) (by omega) (by rw [List.length_take]; simp; omega) (by omega)
  obtain ⟨a1, e3, _⟩ := num_ok (k := k) (b := b) (p := 0 + 1 + 1) (xs := [1, 2, 3, 12, 5]) hb (by omega) (by omega) (by simp) (by omega)
  obtain ⟨a2, e4, _⟩ := num_ok (k := k) (b := b) (p := 0 + 1 + 1 + 1) (xs := [5, 20, 0, 1, 60, 500]) hb (by omega) (by omega) (by simp) (by omega)
  obtain ⟨dr, p, e5, hl, hp0, hp⟩ := draw13 (k := k) hb hk (p := 0 + 1 + 1 + 1 + 1) (by omega) (by omega)
  obtain ⟨a4, e6, _⟩ := num_ok (k := k) (b := b) (p := p) (xs := [30, 300, 3, 3000, 0, 100, -1]) hb hp0 (by omega) (by simp) (by omega)
  refine ⟨a0, a1, a2, dr, a4, ?_, hl⟩
  unfold spec_DrawRunCredits.f
  rw [bs e]
  dsimp only
  rw [bs (show (some ([2, 1, 4, 8, 40, 0, 41] : List Int)) = some [2, 1, 4, 8, 40, 0, 41] from rfl), bs e1]
  dsimp only
  rw [if_pos (by omega), if_pos (by simp; omega), bs e2]
  dsimp only
  rw [bs e3]
  dsimp only
  rw [bs e4]
  dsimp only
  rw [bs e5]
  dsimp only
  rw [bs e6]
theorem FnRoom : laws_FnRoom.Pure := by
  intro l0 _ _ hl0
  obtain ⟨k, hk⟩ : ∃ k, 17000 < k := ⟨17001, by omega⟩
  refine ⟨k, ?_⟩
  unfold laws_FnRoom.f
  by_cases hlen : (l0.length : Int) > 1048576
  · rw [if_pos hlen]
  rw [if_neg hlen]
  obtain ⟨a0, a1, a2, dr, a4, e, hl⟩ := drawRC hl0 (k := k) (by omega)
  rw [bs e]
  dsimp only
  rw [bs (impl_rc (by omega) (by omega)), bs (spec_rc (by omega) (by omega))]
  unfold rcv
  by_cases h : ok13 a0 a1 a2 dr a4 = true
  · rw [if_pos h]
    have b := rc0_bd h
    have hb := ok13_at h
    generalize rc0 a0 a1 a2 dr a4 = r at b
    obtain ⟨r1, r2, r3, r4⟩ := r
    unfold fin13t
    dsimp only at b ⊢
    rw [if_neg (by simp), if_neg (by simp), if_pos rfl, if_pos b.1, if_pos b.2.2.1, if_pos b.2.2.2.1, w_in (n := r1 - r2) (by omega) (by omega), if_pos b.2.2.2.2, beq_self_eq_true]
  · rw [if_neg h]
    rfl

end Go.Proofs.Ytcgbkbjldkackaa.Pure
