/- What both sides of FnVlanStays compute, in plain Lean. -/
import Derived.Test.YtmkjcoppadegjaaPFnVlanStaysx9
import Derived.Laws.BitsLemmas
import Derived.OpenShut
namespace Go.Proofs.Ytmkjcoppadegjaa.Pure
open Go.RowKit Go.Proofs.Ytmkjcoppadegjaa.PFnVlanStays Go.Proofs.YtmkjcoppadegjaaW.PrintWords Go.Proofs.YtmkjcoppadegjaaW.PrintLast

theorem w_in {n : Int} (h0 : -9223372036854775808 ≤ n) (h1 : n ≤ 9223372036854775807) : wrap64 n = n := by unfold wrap64; omega

theorem bs {α β : Type} {x : Option α} {a : α} {f : α → Option β} (h : x = some a) : x.bind f = f a := by rw [h]; rfl
/-- A byte list's reader never fails: what 'pick' answers. -/
theorem b_rd {b : List Int} (hb : ∀ x ∈ b, 0 ≤ x ∧ x ≤ 255) (i : Int) : 0 ≤ rd b i ∧ rd b i ≤ 255 := by
  unfold rd
  rw [List.getD_eq_getElem?_getD]
  cases h : b[i.toNat]? with
  | none => simp
  | some x => exact hb x (List.mem_of_getElem? h)

theorem xor_nn {x y : Int} (hx0 : 0 ≤ x) (hx : x < 4611686018427387904) (hy0 : 0 ≤ y) (hy : y < 4611686018427387904) : 0 ≤ Go.bits .xor .i64 x y := by
  obtain ⟨a, rfl⟩ := Int.eq_ofNat_of_zero_le hx0
  obtain ⟨b, rfl⟩ := Int.eq_ofNat_of_zero_le hy0
  have ha : a < 2 ^ 62 := by simp; omega
  have hb : b < 2 ^ 62 := by simp; omega
  have hc : a ^^^ b < 2 ^ 62 := Nat.xor_lt_two_pow ha hb
  have ha' : a % 2 ^ 64 = a := Nat.mod_eq_of_lt (by simp at ha ⊢; omega)
  have hb' : b % 2 ^ 64 = b := Nat.mod_eq_of_lt (by simp at hb ⊢; omega)
  have key : (BitVec.ofNat 64 a ^^^ BitVec.ofNat 64 b).toNat = a ^^^ b := by rw [BitVec.toNat_xor, BitVec.toNat_ofNat, BitVec.toNat_ofNat, ha', hb']
  have e : Go.bits .xor .i64 (a : Int) (b : Int) = IntKind.i64.wrap (((BitVec.ofNat 64 a ^^^ BitVec.ofNat 64 b).toNat : Nat) : Int) := by
    simp only [Go.bits, BitVec.ofInt_natCast]
    rfl
  rw [e, key, IntKind.wrap_i64]
  generalize a ^^^ b = c at hc
  simp at hc
  omega

theorem tm_bd {x n : Int} (hx : 0 ≤ x) (hn : 0 < n) : 0 ≤ Int.tmod x n ∧ Int.tmod x n < n := by
  rw [Int.tmod_eq_emod_of_nonneg hx]
  exact ⟨Int.emod_nonneg _ (by omega), Int.emod_lt_of_pos _ hn⟩

theorem pick_ok {k : Nat} {b : List Int} {p n : Int} (hb : ∀ x ∈ b, 0 ≤ x ∧ x ≤ 255) (hp0 : 0 ≤ p) (hp : p ≤ 100000000) (hn : 1 ≤ n) (hk : 0 < k) :
    ∃ v, spec_l21Rd_pick.f k b p n = some (v, p + 1) ∧ 0 ≤ v ∧ v < n := by
  obtain ⟨k, rfl⟩ : ∃ m, k = m + 1 := ⟨k - 1, by omega⟩
  have e1 : wrap64 (p + 1) = p + 1 := w_in (by omega) (by omega)
  have e2 : wrap64 (p + 1 - 1) = p := by rw [show p + 1 - 1 = p by omega]; exact w_in (by omega) (by omega)
  unfold spec_l21Rd_pick.f
  rw [if_neg (by omega), e1]
  simp only [spec_l21Rd_pick.j0, e2]
  by_cases h0 : b.length = 0
  · rw [if_pos (by simp [h0])]
    exact ⟨0, rfl, by omega, by omega⟩
  rw [if_neg (by simp; intro h; simp [h] at h0)]
  have hl : 0 < (b.length : Int) := by omega
  by_cases h1 : p < (b.length : Int)
  · rw [if_pos h1, if_pos hp0, if_neg (by omega)]
    have := b_rd hb p
    rw [w_in (n := rd b p) (by omega) (by omega)]
    exact ⟨_, rfl, (tm_bd this.1 (by omega)).1, (tm_bd this.1 (by omega)).2⟩
  rw [if_neg h1, if_neg (by omega)]
  have m1 := tm_bd (x := p) (n := b.length) hp0 hl
  have e3 : wrap64 (p * 7) = p * 7 := w_in (by omega) (by omega)
  have e4 : wrap64 (p * 7 + 3) = p * 7 + 3 := w_in (by omega) (by omega)
  have m2 := tm_bd (x := p * 7 + 3) (n := b.length) (by omega) hl
  rw [e3, e4, if_pos m1.1, if_pos m1.2, if_pos m2.1, if_pos m2.2, if_neg (by omega)]
  have r1 := b_rd hb (Int.tmod p b.length)
  have r2 := b_rd hb (Int.tmod (p * 7 + 3) b.length)
  generalize rd b (Int.tmod p b.length) = u at r1
  generalize rd b (Int.tmod (p * 7 + 3) b.length) = v at r2
  have d1 : 0 ≤ Int.tdiv p b.length ∧ Int.tdiv p b.length ≤ p := by
    rw [Int.tdiv_eq_ediv_of_nonneg hp0]
    exact ⟨Int.ediv_nonneg hp0 (by omega), Int.ediv_le_self _ hp0⟩
  generalize Int.tdiv p b.length = d at d1
  have e5 : wrap64 (wrap64 (wrap64 (wrap64 (wrap64 u * 131) + wrap64 (wrap64 v * 1117)) + wrap64 (p * 29)) + wrap64 (wrap64 d * 53)) = u * 131 + v * 1117 + p * 29 + d * 53 := by
    rw [w_in (n := u) (by omega) (by omega), w_in (n := v) (by omega) (by omega), w_in (n := d) (by omega) (by omega), w_in (n := u * 131) (by omega) (by omega), w_in (n := v * 1117) (by omega) (by omega), w_in (n := p * 29) (by omega) (by omega), w_in (n := d * 53) (by omega) (by omega), w_in (n := u * 131 + v * 1117) (by omega) (by omega), w_in (n := u * 131 + v * 1117 + p * 29) (by omega) (by omega), w_in (by omega) (by omega)]
  rw [e5]
  have hx0 : 0 ≤ u * 131 + v * 1117 + p * 29 + d * 53 := by omega
  have hx1 : u * 131 + v * 1117 + p * 29 + d * 53 < 4611686018427387904 := by omega
  generalize u * 131 + v * 1117 + p * 29 + d * 53 = x at hx0 hx1
  have d2 : 0 ≤ Int.tdiv x 64 ∧ Int.tdiv x 64 < 4611686018427387904 := by
    rw [Int.tdiv_eq_ediv_of_nonneg hx0]
    omega
  rw [w_in (n := Int.tdiv x 64) (by omega) (by omega)]
  have hz := xor_nn hx0 hx1 d2.1 d2.2
  exact ⟨_, rfl, (tm_bd hz (by omega)).1, (tm_bd hz (by omega)).2⟩

theorem num_ok {k : Nat} {b : List Int} {p : Int} {xs : List Int} (hb : ∀ x ∈ b, 0 ≤ x ∧ x ≤ 255) (hp0 : 0 ≤ p) (hp : p ≤ 100000000) (hn : 1 ≤ xs.length) (hk : 0 < k) :
    ∃ v, spec_l21Rd_num.f k b p xs = some (v, p + 1) ∧ v ∈ xs := by
  obtain ⟨i, hi, h0, h1⟩ := pick_ok (n := (xs.length : Int)) hb hp0 hp (by omega) hk
  refine ⟨rd xs i, ?_, ?_⟩
  · unfold spec_l21Rd_num.f
    rw [hi]
    simp only [Option.bind_some]
    rw [if_pos h0, if_pos h1]
  · unfold rd
    rw [List.getD_eq_getElem?_getD, List.getElem?_eq_getElem (by omega)]
    exact List.getElem_mem _

theorem open_ok {l : List Int} (hl : ∀ x ∈ l, (Lit.int .u8 x).wf = true) : ∃ b, spec_l21Open.f l = some (b, 0) ∧ ∀ x ∈ b, 0 ≤ x ∧ x ≤ 255 := by
  have hb : ∀ x ∈ l, 0 ≤ x ∧ x ≤ 255 := fun x hx => bounds_u8 (hl x hx)
  unfold spec_l21Open.f
  by_cases h : (l.length : Int) > 2000
  · rw [if_pos h, if_pos (by omega)]
    exact ⟨_, rfl, fun x hx => hb x (List.mem_of_mem_take hx)⟩
  · rw [if_neg h]
    exact ⟨_, rfl, hb⟩

theorem allO_total {α : Type} {p : α → Option Bool} {q : α → Bool} : ∀ (l : List α), (∀ x ∈ l, p x = some (q x)) → allO p l = some (l.all q)
  | [], _ => rfl
  | x :: xs, h => by
    have ih := allO_total xs (fun y hy => h y (List.mem_cons_of_mem _ hy))
    simp only [allO, h x (List.mem_cons_self), Option.bind_some, List.all_cons]
    cases q x
    · simp
    · simpa using ih

theorem rd_at {l : List Int} {i : Int} (h0 : 0 ≤ i) (h : i.toNat < l.length) : l.drop i.toNat = rd l i :: l.drop (i + 1).toNat := by
  rw [List.drop_eq_getElem_cons h, show (i + 1).toNat = i.toNat + 1 by omega]
  unfold rd
  rw [List.getD_eq_getElem?_getD, List.getElem?_eq_getElem h]
  rfl
theorem rd_mem {l : List Int} {i : Int} (h0 : 0 ≤ i) (h : i < l.length) : rd l i ∈ l := by
  unfold rd
  rw [List.getD_eq_getElem?_getD, List.getElem?_eq_getElem (by omega)]
  exact List.getElem_mem _

theorem s_in (a b c : Int) : spec_l1In.f a b c = some (decide (b ≤ a ∧ a ≤ c)) := by
  unfold spec_l1In.f
  by_cases h : b ≤ a <;> simp [h]
theorem i_in (a b c : Int) : impl_within.f a b c = some (decide (b ≤ a ∧ a ≤ c)) := by
  unfold impl_within.f
  by_cases h : b ≤ a <;> simp [h]
theorem index_loop (l : List Int) (v : Int) (hl : l.length ≤ 9223372036854775806) (d : Nat) : ∀ (k : Nat) (i : Int), 0 ≤ i → i + d = l.length → d < k →
    ∃ r, slices_Index_int_int.l0 k l v (l.length : Int) i = some r ∧ decide (r ≥ 0) = (l.drop i.toNat).contains v := by
  induction d with
  | zero =>
    intro k i h0 h1 hk
    obtain ⟨k, rfl⟩ : ∃ m, k = m + 1 := ⟨k - 1, by omega⟩
    refine ⟨-1, by simp only [slices_Index_int_int.l0]; rw [if_neg (by omega)], ?_⟩
    rw [List.drop_eq_nil_of_le (by omega)]; rfl
  | succ d ih =>
    intro k i h0 h1 hk
    obtain ⟨k, rfl⟩ : ∃ m, k = m + 1 := ⟨k - 1, by omega⟩
    rw [rd_at h0 (by omega)]
    simp only [slices_Index_int_int.l0]
    rw [if_pos (by omega), if_pos h0, if_pos (by omega)]
    by_cases e : v = rd l i
    · exact ⟨i, by rw [if_pos e], by rw [← e]; simp [h0]⟩
    · obtain ⟨r, hr, hd⟩ := ih k (i + 1) (by omega) (by omega) (by omega)
      refine ⟨r, by rw [if_neg e, w_in (by omega) (by omega)]; exact hr, ?_⟩
      rw [hd, List.contains_cons]
      simp [e]
theorem contains_ok {l : List Int} {v : Int} (hl : l.length ≤ 9223372036854775806) {k : Nat} (hk : l.length < k) : slices_Contains_int_int.f k l v = some (l.contains v) := by
  obtain ⟨r, hr, hd⟩ := index_loop l v hl l.length k 0 (by omega) (by omega) hk
  unfold slices_Contains_int_int.f slices_Index_int_int.f
  rw [hr]
  simp only [Option.bind_some]
  rw [hd]; rfl

/-- Do numbers ascend, from index i on? -/
def asc (l : List Int) : Int → Nat → Bool
  | _, 0 => true
  | i, d + 1 => (decide (i ≤ 0) || decide (rd l (i - 1) < rd l i)) && asc l (i + 1) d
theorem impl_asc_loop (l : List Int) (hl : l.length ≤ 9223372036854775806) (d : Nat) : ∀ (k : Nat) (i : Int), 1 ≤ i → (d = 0 → (l.length : Int) ≤ i) → (0 < d → i + d = l.length) → d < k → impl_ascends.l0 k l i = some (asc l i d) := by
  induction d with
  | zero =>
    intro k i h0 h1 h2 hk
    obtain ⟨k, rfl⟩ : ∃ m, k = m + 1 := ⟨k - 1, by omega⟩
    have := h1 rfl
    simp only [impl_ascends.l0]
    rw [if_neg (by omega)]
    rfl
  | succ d ih =>
    intro k i h0 h1 h2 hk
    obtain ⟨k, rfl⟩ : ∃ m, k = m + 1 := ⟨k - 1, by omega⟩
    have := h2 (by omega)
    simp only [impl_ascends.l0]
    rw [w_in (n := i - 1) (by omega) (by omega), if_pos (by omega), if_pos (by omega), if_pos (by omega), if_pos (by omega), w_in (n := i + 1) (by omega) (by omega), ih k (i + 1) (by omega) (by omega) (by omega) (by omega)]
    simp only [asc]
    have e : decide (i ≤ 0) = false := by simp; omega
    by_cases h : rd l i ≤ rd l (i - 1)
    · rw [if_pos h]
      have e2 : decide (rd l (i - 1) < rd l i) = false := by simp; omega
      simp [e, e2]
    · rw [if_neg h]
      have e2 : decide (rd l (i - 1) < rd l i) = true := by simp; omega
      simp [e2]
theorem impl_asc {l : List Int} (hl : l.length ≤ 9223372036854775806) {k : Nat} (hk : l.length + 1 < k) : impl_ascends.f k l = some (asc l 0 l.length) := by
  unfold impl_ascends.f
  rw [impl_asc_loop l hl (l.length - 1) k 1 (by omega) (by omega) (by omega) (by omega)]
  cases h : l.length with
  | zero => simp [asc]
  | succ n => simp [asc]

theorem has_loop (l : List Int) (v : Int) (hl : l.length ≤ 9223372036854775806) (d : Nat) : ∀ (k : Nat) (i : Int), 0 ≤ i → i + d = l.length → d < k →
    spec_l10Has.l0 k l v i = some ((l.drop i.toNat).contains v) := by
  induction d with
  | zero =>
    intro k i h0 h1 hk
    obtain ⟨k, rfl⟩ : ∃ m, k = m + 1 := ⟨k - 1, by omega⟩
    simp only [spec_l10Has.l0]
    rw [if_neg (by omega), List.drop_eq_nil_of_le (by omega)]
    rfl
  | succ d ih =>
    intro k i h0 h1 hk
    obtain ⟨k, rfl⟩ : ∃ m, k = m + 1 := ⟨k - 1, by omega⟩
    rw [rd_at h0 (by omega)]
    simp only [spec_l10Has.l0]
    rw [if_pos (by omega), if_pos h0, w_in (n := i + 1) (by omega) (by omega), ih k (i + 1) (by omega) (by omega) (by omega), List.contains_cons]
    by_cases e : rd l i = v
    · rw [if_pos e, e]; simp
    · rw [if_neg e]
      have : (v == rd l i) = false := by simp; exact fun h => e h.symm
      simp [this]
theorem has_ok {l : List Int} {v : Int} (hl : l.length ≤ 9223372036854775806) {k : Nat} (hk : l.length < k) : spec_l10Has.f k l v = some (l.contains v) := by
  unfold spec_l10Has.f
  rw [has_loop l v hl l.length k 0 (by omega) (by omega) hk]
  simp

def net (x : Int) : Bool := decide (1 ≤ x ∧ x ≤ 9)
/-- Is a port one? -/
def pv (kd own : Int) (c : List Int) : Bool := net own && (if kd = 1 then decide (c.length = 0) else if kd = 2 then (c.all net && asc c 0 c.length && !c.contains own) else false)
theorem spec_vlan (x : Int) : spec_l10Vlan.f x = some (net x) := by
  unfold spec_l10Vlan.f net
  rw [s_in]
  rfl
theorem impl_net (x : Int) : impl_isNetwork.f x = some (net x) := by
  unfold impl_isNetwork.f net
  rw [i_in]
  rfl
theorem port_loop (kd own : Int) (c : List Int) (hl : c.length ≤ 9223372036854775806) (d : Nat) : ∀ (k : Nat) (i : Int), 0 ≤ i → i + d = c.length → d < k →
    spec_l10Port.l0 k i kd own c = some ((c.drop i.toNat).all net && !(c.drop i.toNat).contains own && asc c i d) := by
  induction d with
  | zero =>
    intro k i h0 h1 hk
    obtain ⟨k, rfl⟩ : ∃ m, k = m + 1 := ⟨k - 1, by omega⟩
    simp only [spec_l10Port.l0]
    rw [if_neg (by omega), List.drop_eq_nil_of_le (by omega)]
    simp [asc]
  | succ d ih =>
    intro k i h0 h1 hk
    obtain ⟨k, rfl⟩ : ∃ m, k = m + 1 := ⟨k - 1, by omega⟩
    rw [rd_at h0 (by omega)]
    simp only [spec_l10Port.l0, spec_vlan, Option.bind_some]
    rw [if_pos (by omega), if_pos h0, w_in (n := i - 1) (by omega) (by omega), w_in (n := i + 1) (by omega) (by omega), ih k (i + 1) (by omega) (by omega) (by omega)]
    simp only [List.all_cons, List.contains_cons, asc]
    by_cases hn : net (rd c i) = true
    · rw [if_pos hn]
      simp only [hn, Bool.true_and]
      by_cases ho : rd c i = own
      · rw [if_pos ho, ho]
        simp
      · have ho' : (own == rd c i) = false := by simp; exact fun h => ho h.symm
        rw [if_neg ho, ho', Bool.false_or]
        by_cases hi : i > 0
        · have e : decide (i ≤ 0) = false := by simp; omega
          rw [if_pos hi, if_pos (by omega), if_pos (by omega)]
          by_cases h : rd c (i - 1) ≥ rd c i
          · have e2 : decide (rd c (i - 1) < rd c i) = false := by simp; omega
            rw [if_pos h]
            simp [e, e2]
          · have e2 : decide (rd c (i - 1) < rd c i) = true := by simp; omega
            rw [if_neg h]
            simp [e2]
        · have e : decide (i ≤ 0) = true := by simp; omega
          rw [if_neg hi]
          simp [e]
    · rw [if_neg hn]
      simp [hn]
theorem spec_port {kd own : Int} {c : List Int} (hl : c.length ≤ 9223372036854775806) {k : Nat} (hk : c.length + 1 < k) : spec_l10Port.f k kd own c = some (pv kd own c) := by
  obtain ⟨k, rfl⟩ : ∃ m, k = m + 1 := ⟨k - 1, by omega⟩
  unfold spec_l10Port.f pv
  simp only [s_in, spec_vlan, Option.bind_some, spec_l10Port.j0, if_true]
  have hloop := port_loop kd own c hl c.length k 0 (by omega) (by omega) (by omega)
  simp only [Int.toNat_zero, List.drop_zero] at hloop
  by_cases h1 : kd = 1
  · subst h1
    rw [if_pos (by decide)]
    by_cases hn : net own = true
    · rw [if_pos hn, if_pos rfl, hn]
      by_cases hc : c.length = 0
      · have : c = [] := List.eq_nil_of_length_eq_zero hc
        subst this
        rw [if_neg (by simp), hloop]
        rfl
      · rw [if_pos (by simp; omega)]
        simp [hc]
    · rw [if_neg hn]
      simp [hn]
  · by_cases h2 : kd = 2
    · subst h2
      rw [if_pos (by decide)]
      by_cases hn : net own = true
      · rw [if_pos hn, if_neg (by decide), if_neg (by decide), hn, hloop]
        simp only [Bool.true_and]
        rw [if_neg (by decide), if_pos trivial]
        cases c.all net <;> cases c.contains own <;> simp
      · rw [if_neg hn]
        simp [hn]
    · rw [if_neg (by simp; omega)]
      simp [h1, h2]
theorem impl_port {kd own : Int} {c : List Int} (hl : c.length ≤ 9223372036854775806) {k : Nat} (hk : c.length + 1 < k) : impl_VPort_valid.f k kd own c = some (pv kd own c) := by
  unfold impl_VPort_valid.f pv all_impl_isNetwork.f
  rw [impl_asc hl hk, contains_ok hl (by omega), allO_total (q := net) c (fun x _ => impl_net x)]
  simp only [impl_net, Option.bind_some]
  by_cases h1 : kd = 1
  · have e : ((c.length : Int) == 0) = decide (c.length = 0) := by
      rw [Bool.eq_iff_iff]
      simp
    rw [if_pos h1, if_pos h1, e]
    cases net own <;> simp
  · rw [if_neg h1, if_neg h1]
    by_cases h2 : kd = 2
    · rw [if_pos h2, if_pos h2]
      cases net own <;> cases c.all net <;> cases asc c 0 c.length <;> simp
    · rw [if_neg h2, if_neg h2]
      simp

theorem rd27_drop {l : List S27} {i : Int} (h0 : 0 ≤ i) (h : i.toNat < l.length) : l.drop i.toNat = rd_T27 l i :: l.drop (i + 1).toNat := by
  rw [List.drop_eq_getElem_cons h, show (i + 1).toNat = i.toNat + 1 by omega]
  unfold rd_T27
  rw [List.getD_eq_getElem?_getD, List.getElem?_eq_getElem h]
  rfl
theorem rd27_mem {l : List S27} {i : Int} (h0 : 0 ≤ i) (h : i.toNat < l.length) : rd_T27 l i ∈ l := by
  have : rd_T27 l i ∈ l.drop i.toNat := by rw [rd27_drop h0 h]; exact List.mem_cons_self
  exact List.mem_of_mem_drop this
theorem rd52_drop {l : List S52} {i : Int} (h0 : 0 ≤ i) (h : i.toNat < l.length) : l.drop i.toNat = rd_T52 l i :: l.drop (i + 1).toNat := by
  rw [List.drop_eq_getElem_cons h, show (i + 1).toNat = i.toNat + 1 by omega]
  unfold rd_T52
  rw [List.getD_eq_getElem?_getD, List.getElem?_eq_getElem h]
  rfl
theorem rd52_mem {l : List S52} {i : Int} (h0 : 0 ≤ i) (h : i.toNat < l.length) : rd_T52 l i ∈ l := by
  have : rd_T52 l i ∈ l.drop i.toNat := by rw [rd52_drop h0 h]; exact List.mem_cons_self
  exact List.mem_of_mem_drop this
/-- The lists inside are short. -/
def short {α : Type} (g : α → List Int) (l : List α) : Prop := ∀ x ∈ l, (g x).length ≤ 1048576
def PV (x : S27) : Bool := pv x.f0 x.f1 x.f2
/-- Are ports fine? -/
def psv (l : List S27) : Bool := l.all PV && decide (1 ≤ l.length ∧ l.length ≤ 6)
theorem spec_ports_loop (l : List S27) (hl : l.length ≤ 1048576) (hx : short S27.f2 l) (d : Nat) : ∀ (k : Nat) (i : Int), 0 ≤ i → i + d = l.length → d + 1048580 < k → spec_VPortsValid.l0 k l i = some ((l.drop i.toNat).all PV && decide (1 ≤ l.length ∧ l.length ≤ 6)) := by
  induction d with
  | zero =>
    intro k i h0 h1 hk
    obtain ⟨k, rfl⟩ : ∃ m, k = m + 1 := ⟨k - 1, by omega⟩
    simp only [spec_VPortsValid.l0, s_in, Option.bind_some]
    rw [if_neg (by omega), List.drop_eq_nil_of_le (by omega)]
    congr 1
    rw [Bool.eq_iff_iff]
    simp
    omega
  | succ d ih =>
    intro k i h0 h1 hk
    obtain ⟨k, rfl⟩ : ∃ m, k = m + 1 := ⟨k - 1, by omega⟩
    have hs := hx _ (rd27_mem (l := l) h0 (by omega))
    rw [rd27_drop h0 (by omega)]
    simp only [spec_VPortsValid.l0]
    rw [if_pos (by omega), if_pos h0, spec_port (by omega) (by omega)]
    simp only [Option.bind_some, List.all_cons]
    rw [w_in (by omega) (by omega), ih k (i + 1) (by omega) (by omega) (by omega)]
    by_cases h : pv (rd_T27 l i).f0 (rd_T27 l i).f1 (rd_T27 l i).f2 = true
    · rw [if_pos h, show PV (rd_T27 l i) = true from h]
      rfl
    · rw [if_neg h, show PV (rd_T27 l i) = false from (Bool.not_eq_true _).mp h]
      rfl
theorem spec_ports {l : List S27} (hl : l.length ≤ 1048576) (hx : short S27.f2 l) {k : Nat} (hk : l.length + 1048580 < k) : spec_VPortsValid.f k l = some (psv l) := by
  unfold spec_VPortsValid.f psv
  rw [spec_ports_loop l hl hx l.length k 0 (by omega) (by omega) hk]
  simp
theorem impl_ports {l : List S27} (hx : short S27.f2 l) {k : Nat} (hk : 1048580 < k) : impl_VPortsValid.f k l = some (psv l) := by
  unfold impl_VPortsValid.f psv impl_portsOk.f all_impl_VPort_valid.f
  rw [i_in, allO_total (q := PV) l (fun x h => by have := hx x h; exact impl_port (by omega) (by omega))]
  simp only [Option.bind_some]
  by_cases h : 1 ≤ l.length ∧ l.length ≤ 6
  · rw [if_pos (by simp; omega)]
    simp [h]
  · rw [if_neg (by simp; omega)]
    simp [h]

def tgo (kd own : Int) (c : List Int) (v : Int) : Int := if pv kd own c = true then (if v = own then 0 else if c.contains v = true then v else -1) else -1
theorem spec_tagout {kd own : Int} {c : List Int} {v : Int} (hl : c.length ≤ 9223372036854775806) {k : Nat} (hk : c.length + 1 < k) : spec_TagOut.f k kd own c v = some (tgo kd own c v) := by
  unfold spec_TagOut.f tgo
  rw [spec_port hl hk, has_ok hl (by omega)]
  simp only [Option.bind_some]
  split
  · split
    · rfl
    · split <;> rfl
  · rfl
theorem impl_tagout {kd own : Int} {c : List Int} {v : Int} (hl : c.length ≤ 9223372036854775806) {k : Nat} (hk : c.length + 1 < k) : impl_TagOut.f k kd own c v = some (tgo kd own c v) := by
  unfold impl_TagOut.f tgo
  rw [impl_port hl hk, contains_ok hl (by omega)]
  simp only [Option.bind_some]
  split
  · split
    · rfl
    · split <;> rfl
  · rfl

def vli (kd own : Int) (c : List Int) (t : Int) : Int := if pv kd own c = true then (if t = 0 then own else if c.contains t = true then t else -1) else -1
theorem spec_vlanin {kd own : Int} {c : List Int} {v : Int} (hl : c.length ≤ 9223372036854775806) {k : Nat} (hk : c.length + 1 < k) : spec_VlanIn.f k kd own c v = some (vli kd own c v) := by
  unfold spec_VlanIn.f vli
  rw [spec_port hl hk, has_ok hl (by omega)]
  simp only [Option.bind_some]
  split
  · split
    · rfl
    · split <;> rfl
  · rfl
theorem impl_vlanin {kd own : Int} {c : List Int} {v : Int} (hl : c.length ≤ 9223372036854775806) {k : Nat} (hk : c.length + 1 < k) : impl_VlanIn.f k kd own c v = some (vli kd own c v) := by
  unfold impl_VlanIn.f vli
  rw [impl_port hl hk, contains_ok hl (by omega)]
  simp only [Option.bind_some]
  split
  · split
    · rfl
    · split <;> rfl
  · rfl

theorem drawPort_loop {b : List Int} (hb : ∀ x ∈ b, 0 ≤ x ∧ x ≤ 255) (own : Int) (d : Nat) : ∀ (k : Nat) (v p : Int) (c : List Int), 1 ≤ v → v + d = 10 → d < k → 0 ≤ p → p + d ≤ 1000000 → c.length + d ≤ 100 →
    ∃ c' p', spec_l10Draw.l0 k v b p 2 own c = some (2, own, c', p') ∧ p ≤ p' ∧ p' ≤ p + d ∧ c'.length ≤ c.length + d := by
  induction d with
  | zero =>
    intro k v p c h0 h1 hk hp hp2 hc
    obtain ⟨k, rfl⟩ : ∃ m, k = m + 1 := ⟨k - 1, by omega⟩
    simp only [spec_l10Draw.l0]
    rw [if_neg (by omega)]
    exact ⟨c, p, rfl, by omega, by omega, by omega⟩
  | succ d ih =>
    intro k v p c h0 h1 hk hp hp2 hc
    obtain ⟨k, rfl⟩ : ∃ m, k = m + 1 := ⟨k - 1, by omega⟩
    simp only [spec_l10Draw.l0]
    rw [if_pos (by omega), w_in (n := v + 1) (by omega) (by omega)]
    by_cases e : v = own
    · rw [if_pos e]
      obtain ⟨c', p', h, h2, h3, h4⟩ := ih k (v + 1) p c (by omega) (by omega) (by omega) hp (by omega) (by omega)
      exact ⟨c', p', h, h2, by omega, by omega⟩
    · rw [if_neg e]
      obtain ⟨q, hq, _, _⟩ := pick_ok (k := k) (n := 3) hb hp (by omega) (by omega) (by omega)
      rw [hq]
      simp only [Option.bind_some]
      by_cases e2 : q = 0
      · rw [if_pos e2, if_pos (by omega)]
        obtain ⟨c', p', h, h2, h3, h4⟩ := ih k (v + 1) (p + 1) (c ++ [v]) (by omega) (by omega) (by omega) (by omega) (by omega) (by simp; omega)
        simp at h4
        exact ⟨c', p', h, by omega, by omega, by omega⟩
      · rw [if_neg e2]
        obtain ⟨c', p', h, h2, h3, h4⟩ := ih k (v + 1) (p + 1) c (by omega) (by omega) (by omega) (by omega) (by omega) (by omega)
        exact ⟨c', p', h, by omega, by omega, by omega⟩
theorem drawPort {b : List Int} (hb : ∀ x ∈ b, 0 ≤ x ∧ x ≤ 255) {k : Nat} (hk : 10 < k) {p : Int} (hp : 0 ≤ p) (hp2 : p ≤ 900000) :
    ∃ kd own c p', spec_l10Draw.f k b p = some (kd, own, c, p') ∧ p ≤ p' ∧ p' ≤ p + 11 ∧ c.length ≤ 9 := by
  unfold spec_l10Draw.f
  obtain ⟨q, hq, _, _⟩ := pick_ok (k := k) (n := 4) hb hp (by omega) (by omega) (by omega)
  rw [hq]
  simp only [Option.bind_some]
  obtain ⟨u, hu, _, _⟩ := pick_ok (k := k) (p := p + 1) (n := 2) hb (by omega) (by omega) (by omega) (by omega)
  rw [hu]
  simp only [Option.bind_some]
  by_cases e : u = 0
  · rw [if_pos e]
    obtain ⟨c', p', h, h2, h3, h4⟩ := drawPort_loop hb (wrap64 (1 + q)) 9 k 1 (p + 1 + 1) [] (by omega) (by omega) (by omega) (by omega) (by omega) (by simp)
    exact ⟨2, _, c', p', h, by omega, by omega, by simpa using h4⟩
  · rw [if_neg e]
    exact ⟨1, _, [], _, rfl, by omega, by omega, by simp⟩
/-- At most n ports, with at most m networks each. -/
def few (n m : Nat) (l : List S27) : Prop := l.length ≤ n ∧ ∀ x ∈ l, x.f2.length ≤ m
theorem few_set {n m : Nat} {l : List S27} (h : few n m l) (i : Nat) {z : S27} (hz : z.f2.length ≤ m) : few n m (l.set i z) := by
  refine ⟨by simpa using h.1, fun x hx => ?_⟩
  rcases List.mem_or_eq_of_mem_set hx with hx | hx
  · exact h.2 x hx
  · rw [hx]; exact hz
theorem few_wide {n m n' m' : Nat} {l : List S27} (h : few n m l) (hn : n ≤ n') (hm : m ≤ m') : few n' m' l := ⟨by have := h.1; omega, fun x hx => by have := h.2 x hx; omega⟩
theorem drawPorts_tail {b : List Int} (hb : ∀ x ∈ b, 0 ≤ x ∧ x ≤ 255) {k : Nat} (hk : 1 < k) {p : Int} (hp : 0 ≤ p) (hp2 : p ≤ 900000) {xs : List S27} (h1 : 1 ≤ xs.length) (hx : few 6 9 xs) :
    ∃ out p', spec_l10Ports.l0 k xs 0 b p = some (out, p') ∧ p ≤ p' ∧ p' ≤ p + 3 ∧ few 7 10 out := by
  obtain ⟨k, rfl⟩ : ∃ m, k = m + 1 := ⟨k - 1, by omega⟩
  simp only [spec_l10Ports.l0]
  rw [if_neg (by omega)]
  obtain ⟨i, hi, i0, i1⟩ := pick_ok (k := k) (n := (xs.length : Int)) hb hp (by omega) (by omega) (by omega)
  rw [hi]
  simp only [Option.bind_some]
  rw [if_pos i0, if_pos i1]
  obtain ⟨u, hu, _, _⟩ := pick_ok (k := k) (p := p + 1) (n := 75) hb (by omega) (by omega) (by omega) (by omega)
  rw [hu]
  simp only [Option.bind_some]
  have hm : (rd_T27 xs i).f2.length ≤ 9 := hx.2 _ (rd27_mem i0 (by omega))
  have hw := few_wide hx (show 6 ≤ 7 by omega) (show 9 ≤ 10 by omega)
  by_cases e0 : u = 0
  · rw [if_pos e0]
    obtain ⟨v, hv, _⟩ := num_ok (k := k) (p := p + 1 + 1) (xs := [0, 3]) hb (by omega) (by omega) (by simp) (by omega)
    rw [hv]
    exact ⟨_, _, rfl, by omega, by omega, few_set hw _ (by simp only; omega)⟩
  rw [if_neg e0]
  by_cases e1 : u = 1
  · rw [if_pos e1]
    obtain ⟨v, hv, _⟩ := num_ok (k := k) (p := p + 1 + 1) (xs := [0, 10]) hb (by omega) (by omega) (by simp) (by omega)
    rw [hv]
    exact ⟨_, _, rfl, by omega, by omega, few_set hw _ (by simp only; omega)⟩
  rw [if_neg e1]
  by_cases e2 : u = 2
  · rw [if_pos e2, if_pos (by omega)]
    exact ⟨_, _, rfl, by omega, by omega, few_set hw _ (by simp only [List.length_append, List.length_singleton]; omega)⟩
  rw [if_neg e2]
  by_cases e3 : u = 3
  · rw [if_pos e3, if_pos (by omega)]
    exact ⟨_, _, rfl, by omega, by omega, few_set hw _ (by simp only [List.length_append, List.length_singleton]; omega)⟩
  rw [if_neg e3]
  by_cases e4 : u = 4
  · rw [if_pos e4]
    obtain ⟨v, hv, hv2⟩ := num_ok (k := k) (p := p + 1 + 1) (xs := [0, 7]) hb (by omega) (by omega) (by simp) (by omega)
    rw [hv]
    simp only [Option.bind_some]
    have hv3 : v = 0 ∨ v = 7 := by simpa using hv2
    rw [if_pos (by omega), if_pos (by omega)]
    refine ⟨_, _, rfl, by omega, by omega, by simp; omega, fun x hx => ?_⟩
    rw [List.eq_of_mem_replicate hx]
    simp [z27]
  · rw [if_neg e4]
    exact ⟨_, _, rfl, by omega, by omega, hw⟩
theorem drawPorts_loop {b : List Int} (hb : ∀ x ∈ b, 0 ≤ x ∧ x ≤ 255) (d : Nat) : ∀ (k : Nat) (p : Int) (xs : List S27), d + 20 < k → 0 ≤ p → p + 20 * d ≤ 800000 → 1 ≤ xs.length + d → few (6 - d) 9 xs → d ≤ 6 →
    ∃ out p', spec_l10Ports.l0 k xs (d : Int) b p = some (out, p') ∧ p ≤ p' ∧ p' ≤ p + 20 * d + 3 ∧ few 7 10 out := by
  induction d with
  | zero =>
    intro k p xs hk hp hp2 h1 hx _
    obtain ⟨out, p', h, h2, h3, h4⟩ := drawPorts_tail hb (k := k) (by omega) hp (by omega) (by omega) (few_wide hx (by omega) (by omega))
    exact ⟨out, p', h, h2, by omega, h4⟩
  | succ d ih =>
    intro k p xs hk hp hp2 h1 hx hd
    obtain ⟨k, rfl⟩ : ∃ m, k = m + 1 := ⟨k - 1, by omega⟩
    simp only [spec_l10Ports.l0]
    obtain ⟨kd, own, c, p1, h, h2, h3, h4⟩ := drawPort hb (k := k) (p := p) (by omega) hp (by omega)
    rw [if_pos (by omega), h]
    simp only [Option.bind_some]
    have hl := hx.1
    rw [if_pos (by omega), w_in (by omega) (by omega), show ((d + 1 : Nat) : Int) - 1 = (d : Int) by omega]
    obtain ⟨out, p', g, g2, g3, g4⟩ := ih k p1 (xs ++ [⟨kd, own, c⟩]) (by omega) (by omega) (by omega) (by simp; omega) ⟨by simp; omega, fun x hx' => by
      rcases List.mem_append.1 hx' with hx' | hx'
      · exact hx.2 x hx'
      · rw [List.mem_singleton.1 hx']; exact h4⟩ (by omega)
    exact ⟨out, p', g, by omega, by omega, g4⟩
theorem drawPorts {b : List Int} (hb : ∀ x ∈ b, 0 ≤ x ∧ x ≤ 255) {k : Nat} (hk : 30 < k) {p : Int} (hp : 0 ≤ p) (hp2 : p ≤ 100000) :
    ∃ out p', spec_l10Ports.f k b p = some (out, p') ∧ p ≤ p' ∧ p' ≤ p + 200 ∧ few 7 10 out := by
  unfold spec_l10Ports.f
  obtain ⟨v, hv, hm⟩ := num_ok (k := k) (p := p) (xs := [3, 4, 2, 6, 1]) hb hp (by omega) (by simp) (by omega)
  rw [hv]
  simp only [Option.bind_some]
  have hv2 : v = 3 ∨ v = 4 ∨ v = 2 ∨ v = 6 ∨ v = 1 := by simpa using hm
  obtain ⟨n, rfl⟩ : ∃ n : Nat, v = n := ⟨v.toNat, by omega⟩
  obtain ⟨out, p', h, h2, h3, h4⟩ := drawPorts_loop hb n k (p + 1) [] (by omega) (by omega) (by omega) (by simp; omega) ⟨by simp, by simp⟩ (by omega)
  exact ⟨out, p', h, by omega, by omega, h4⟩
theorem net_of_pv {kd own : Int} {c : List Int} (h : pv kd own c = true) : net own = true := by
  unfold pv at h
  simp only [Bool.and_eq_true] at h
  exact h.1
theorem pv_mem {kd own : Int} {c : List Int} (h : pv kd own c = true) {x : Int} (hx : c.contains x = true) : net x = true ∧ x ≠ own := by
  unfold pv at h
  simp only [Bool.and_eq_true] at h
  obtain ⟨_, h⟩ := h
  by_cases h1 : kd = 1
  · rw [if_pos h1] at h
    have : c = [] := List.eq_nil_of_length_eq_zero (by simpa using h)
    rw [this] at hx
    simp at hx
  · rw [if_neg h1] at h
    by_cases h2 : kd = 2
    · rw [if_pos h2] at h
      simp only [Bool.and_eq_true] at h
      have hx' : x ∈ c := by simpa using hx
      refine ⟨List.all_eq_true.mp h.1.1 x hx', fun e => ?_⟩
      have := h.2
      rw [e] at hx
      rw [hx] at this
      simp at this
    · rw [if_neg h2] at h
      simp at h
theorem net_bd {x : Int} (h : net x = true) : 1 ≤ x ∧ x ≤ 9 := by simpa [net] using h
/-- A tag that goes out comes in again. -/
theorem tag_back {kd own : Int} {c : List Int} {v : Int} (h : 0 ≤ tgo kd own c v) : vli kd own c (tgo kd own c v) = v ∧ (tgo kd own c v == 0) = (v == own) := by
  unfold tgo at h ⊢
  by_cases hp : pv kd own c = true
  · rw [if_pos hp] at h ⊢
    by_cases e : v = own
    · rw [if_pos e] at h ⊢
      unfold vli
      rw [if_pos hp, if_pos rfl, e]
      simp
    · rw [if_neg e] at h ⊢
      by_cases e2 : c.contains v = true
      · have hv := pv_mem hp e2
        have hb := net_bd hv.1
        rw [if_pos e2] at h ⊢
        unfold vli
        rw [if_pos hp, if_neg (show ¬ v = 0 by omega), if_pos e2]
        refine ⟨rfl, ?_⟩
        have a1 : (v == 0) = false := by simp; omega
        have a2 : (v == own) = false := by simpa using e
        rw [a1, a2]
      · rw [if_neg e2] at h
        omega
  · rw [if_neg hp] at h
    omega
/-- A tag that comes in can go out again. -/
theorem tag_in {kd own : Int} {c : List Int} {t : Int} (h : 0 ≤ vli kd own c t) : tgo kd own c (vli kd own c t) = t ∧ 1 ≤ vli kd own c t ∧ vli kd own c t ≤ 9 := by
  unfold vli at h ⊢
  by_cases hp : pv kd own c = true
  · have ho := net_bd (net_of_pv hp)
    rw [if_pos hp] at h ⊢
    by_cases e : t = 0
    · rw [if_pos e] at h ⊢
      unfold tgo
      rw [if_pos hp, if_pos rfl]
      exact ⟨e.symm, ho⟩
    · rw [if_neg e] at h ⊢
      by_cases e2 : c.contains t = true
      · have hv := pv_mem hp e2
        rw [if_pos e2] at h ⊢
        unfold tgo
        rw [if_pos hp, if_neg hv.2, if_pos e2]
        exact ⟨rfl, net_bd hv.1⟩
      · rw [if_neg e2] at h
        omega
  · rw [if_neg hp] at h
    omega
theorem tgo_neg {kd own : Int} {c : List Int} {v : Int} (h : tgo kd own c v < 0) : tgo kd own c v = -1 := by
  unfold tgo at h ⊢
  by_cases hp : pv kd own c = true
  · rw [if_pos hp] at h ⊢
    by_cases e : v = own
    · rw [if_pos e] at h; omega
    · rw [if_neg e] at h ⊢
      by_cases e2 : c.contains v = true
      · have hb := net_bd (pv_mem hp e2).1
        rw [if_pos e2] at h; omega
      · rw [if_neg e2]
  · rw [if_neg hp]
theorem vli_neg {kd own : Int} {c : List Int} {v : Int} (h : vli kd own c v < 0) : vli kd own c v = -1 := by
  unfold vli at h ⊢
  by_cases hp : pv kd own c = true
  · have ho := net_bd (net_of_pv hp)
    rw [if_pos hp] at h ⊢
    by_cases e : v = 0
    · rw [if_pos e] at h; omega
    · rw [if_neg e] at h ⊢
      by_cases e2 : c.contains v = true
      · have hb := net_bd (pv_mem hp e2).1
        rw [if_pos e2] at h; omega
      · rw [if_neg e2]
  · rw [if_neg hp]
def onv (v : Int) (x : S27) : Bool := decide (0 ≤ tgo x.f0 x.f1 x.f2 v)
/-- The numbers of the ports of network v, from number i on. -/
def ponF (v : Int) : List S27 → Int → List Int
  | [], _ => []
  | x :: xs, i => if onv v x = true then i :: ponF v xs (i + 1) else ponF v xs (i + 1)
theorem ponF_len (v : Int) : ∀ (l : List S27) (i : Int), (ponF v l i).length ≤ l.length
  | [], _ => Nat.le_refl _
  | x :: xs, i => by
    have := ponF_len v xs (i + 1)
    unfold ponF
    split
    · simp only [List.length_cons]; omega
    · simp only [List.length_cons]; omega
theorem ponF_mem (v : Int) : ∀ (l : List S27) (i j : Int), j ∈ ponF v l i ↔ (i ≤ j ∧ j < i + l.length ∧ onv v (rd_T27 l (j - i)) = true)
  | [], i, j => by
    simp only [ponF, List.not_mem_nil, List.length_nil, false_iff]
    omega
  | x :: xs, i, j => by
    have ih := ponF_mem v xs (i + 1) j
    have e1 : ∀ (_ : i < j), rd_T27 (x :: xs) (j - i) = rd_T27 xs (j - (i + 1)) := fun h => by
      unfold rd_T27
      rw [show (j - i).toNat = (j - (i + 1)).toNat + 1 by omega]
      simp
    have e0 : ∀ (_ : j = i), rd_T27 (x :: xs) (j - i) = x := fun h => by
      unfold rd_T27
      rw [show (j - i).toNat = 0 by omega]
      simp
    have el : ((x :: xs).length : Int) = xs.length + 1 := by simp
    rw [el]
    unfold ponF
    by_cases ho : onv v x = true
    · rw [if_pos ho, List.mem_cons, ih]
      constructor
      · rintro (h | ⟨h1, h2, h3⟩)
        · exact ⟨by omega, by omega, by rw [e0 h]; exact ho⟩
        · exact ⟨by omega, by omega, by rw [e1 (by omega)]; exact h3⟩
      · rintro ⟨h1, h2, h3⟩
        by_cases h : j = i
        · exact Or.inl h
        · exact Or.inr ⟨by omega, by omega, by rw [← e1 (by omega)]; exact h3⟩
    · rw [if_neg ho, ih]
      constructor
      · rintro ⟨h1, h2, h3⟩
        exact ⟨by omega, by omega, by rw [e1 (by omega)]; exact h3⟩
      · rintro ⟨h1, h2, h3⟩
        by_cases h : j = i
        · rw [e0 h] at h3; exact absurd h3 ho
        · exact ⟨by omega, by omega, by rw [← e1 (by omega)]; exact h3⟩
theorem ponF_sorted (v : Int) : ∀ (l : List S27) (i : Int), (ponF v l i).Pairwise (· < ·)
  | [], _ => List.Pairwise.nil
  | x :: xs, i => by
    have ih := ponF_sorted v xs (i + 1)
    unfold ponF
    split
    · refine List.Pairwise.cons (fun j hj => ?_) ih
      have := (ponF_mem v xs (i + 1) j).1 hj
      omega
    · exact ih
def vli27 (x : S27) (t : Int) : Int := vli x.f0 x.f1 x.f2 t
def tgo27 (x : S27) (v : Int) : Int := tgo x.f0 x.f1 x.f2 v
theorem impl_on_loop {l : List S27} (v : Int) (hl : l.length ≤ 1048576) (hx : short S27.f2 l) (d : Nat) : ∀ (k : Nat) (i : Int) (acc : List Int), 0 ≤ i → i + d = l.length → d + 1048600 < k → acc.length + d ≤ 2000000 →
    impl_PortsOn.l0 k v acc l (l.length : Int) i = some (acc ++ ponF v (l.drop i.toNat) i) := by
  induction d with
  | zero =>
    intro k i acc h0 h1 hk ha
    obtain ⟨k, rfl⟩ : ∃ m, k = m + 1 := ⟨k - 1, by omega⟩
    simp only [impl_PortsOn.l0]
    rw [if_neg (by omega), List.drop_eq_nil_of_le (by omega)]
    simp [ponF]
  | succ d ih =>
    intro k i acc h0 h1 hk ha
    obtain ⟨k, rfl⟩ : ∃ m, k = m + 1 := ⟨k - 1, by omega⟩
    have hs := hx _ (rd27_mem (l := l) h0 (by omega))
    simp only [impl_PortsOn.l0]
    rw [if_pos (by omega), if_pos h0, if_pos (by omega), impl_tagout (by omega) (by omega), w_in (n := i + 1) (by omega) (by omega), rd27_drop h0 (by omega)]
    simp only [Option.bind_some, ponF]
    by_cases h : tgo (rd_T27 l i).f0 (rd_T27 l i).f1 (rd_T27 l i).f2 v ≥ 0
    · have hon : onv v (rd_T27 l i) = true := decide_eq_true h
      rw [if_pos h, if_pos (by omega), if_pos hon, ih k (i + 1) _ (by omega) (by omega) (by omega) (by simp; omega)]
      simp
    · have hon : ¬ onv v (rd_T27 l i) = true := by rw [show onv v (rd_T27 l i) = false from decide_eq_false h]; decide
      rw [if_neg h, if_neg hon, ih k (i + 1) _ (by omega) (by omega) (by omega) (by omega)]
def pOn (l : List S27) (v : Int) : List Int := if psv l = true then ponF v l 0 else []
theorem impl_on {l : List S27} (v : Int) (hl : l.length ≤ 1048576) (hx : short S27.f2 l) {k : Nat} (hk : 3000000 < k) : impl_PortsOn.f k l v = some (pOn l v) := by
  unfold impl_PortsOn.f pOn
  rw [impl_ports hx (by omega)]
  simp only [Option.bind_some]
  split
  · rw [impl_on_loop v hl hx l.length k 0 [] (by omega) (by omega) (by omega) (by simp; omega)]
    simp
  · rfl
theorem spec_on_loop {l : List S27} (v : Int) (hl : l.length ≤ 1048576) (hx : short S27.f2 l) (hp : psv l = true) (d : Nat) : ∀ (k : Nat) (i : Int) (acc : List Int), 0 ≤ i → i + d = l.length → 2 * d + 2200000 < k → acc.length + d ≤ 2000000 →
    spec_PortsOn.l0 k l v acc i = some (acc ++ ponF v (l.drop i.toNat) i) := by
  induction d with
  | zero =>
    intro k i acc h0 h1 hk ha
    obtain ⟨k, rfl⟩ : ∃ m, k = m + 2 := ⟨k - 2, by omega⟩
    simp only [spec_PortsOn.l0, spec_PortsOn.j1]
    rw [if_neg (by omega), if_neg (by decide), List.drop_eq_nil_of_le (by omega)]
    simp [ponF]
  | succ d ih =>
    intro k i acc h0 h1 hk ha
    obtain ⟨k, rfl⟩ : ∃ m, k = m + 2 := ⟨k - 2, by omega⟩
    have hs := hx _ (rd27_mem (l := l) h0 (by omega))
    simp only [spec_PortsOn.l0]
    rw [if_pos (by omega), spec_ports hl hx (by omega), hp]
    simp only [Option.bind_some, spec_PortsOn.j1]
    rw [if_pos trivial, if_pos h0, if_pos (by omega), spec_tagout (by omega) (by omega), w_in (n := i + 1) (by omega) (by omega), rd27_drop h0 (by omega)]
    simp only [Option.bind_some, ponF]
    by_cases h : tgo (rd_T27 l i).f0 (rd_T27 l i).f1 (rd_T27 l i).f2 v ≥ 0
    · have hon : onv v (rd_T27 l i) = true := decide_eq_true h
      rw [if_pos h, if_pos (by omega), if_pos hon, ih k (i + 1) _ (by omega) (by omega) (by omega) (by simp; omega)]
      simp
    · have hon : ¬ onv v (rd_T27 l i) = true := by rw [show onv v (rd_T27 l i) = false from decide_eq_false h]; decide
      rw [if_neg h, if_neg hon, ih k (i + 1) _ (by omega) (by omega) (by omega) (by omega)]
theorem spec_on {l : List S27} (v : Int) (hl : l.length ≤ 1048576) (hx : short S27.f2 l) {k : Nat} (hk : 5000000 < k) : spec_PortsOn.f k l v = some (pOn l v) := by
  unfold spec_PortsOn.f pOn
  by_cases hp : psv l = true
  · rw [if_pos hp, spec_on_loop v hl hx hp l.length k 0 [] (by omega) (by omega) (by omega) (by simp; omega)]
    simp
  · rw [if_neg hp]
    obtain ⟨k, rfl⟩ : ∃ m, k = m + 2 := ⟨k - 2, by omega⟩
    simp only [spec_PortsOn.l0]
    by_cases h : (0 : Int) < l.length
    · rw [if_pos h, spec_ports hl hx (by omega), (Bool.not_eq_true _).mp hp]
      simp only [Option.bind_some, spec_PortsOn.j1]
      rw [if_neg (by decide)]
    · rw [if_neg h]
      simp only [spec_PortsOn.j1]
      rw [if_neg (by decide)]
/-- Where a frame of network v goes out. -/
def flF (l : List S27) (at_ v : Int) : List Int → List S52
  | [] => []
  | j :: js => if j = at_ then flF l at_ v js else ⟨j, tgo27 (rd_T27 l j) v⟩ :: flF l at_ v js
theorem flF_mem (l : List S27) (at_ v : Int) : ∀ (js : List Int) (x : S52), x ∈ flF l at_ v js ↔ (x.f0 ∈ js ∧ x.f0 ≠ at_ ∧ x.f1 = tgo27 (rd_T27 l x.f0) v)
  | [], x => by simp [flF]
  | j :: js, x => by
    have ih := flF_mem l at_ v js x
    unfold flF
    by_cases h : j = at_
    · rw [if_pos h, ih, List.mem_cons]
      constructor
      · rintro ⟨h1, h2, h3⟩; exact ⟨Or.inr h1, h2, h3⟩
      · rintro ⟨h1 | h1, h2, h3⟩
        · exact absurd (h1.trans h) h2
        · exact ⟨h1, h2, h3⟩
    · rw [if_neg h, List.mem_cons, ih, List.mem_cons]
      constructor
      · rintro (h1 | ⟨h1, h2, h3⟩)
        · subst h1; exact ⟨Or.inl rfl, h, rfl⟩
        · exact ⟨Or.inr h1, h2, h3⟩
      · rintro ⟨h1 | h1, h2, h3⟩
        · refine Or.inl ?_
          cases x
          simp only at h1 h3
          subst h1
          rw [h3]
        · exact Or.inr ⟨h1, h2, h3⟩
theorem flF_len (l : List S27) (at_ v : Int) : ∀ (js : List Int), (flF l at_ v js).length ≤ js.length
  | [] => Nat.le_refl _
  | j :: js => by
    have ih := flF_len l at_ v js
    unfold flF
    split
    · simp only [List.length_cons]; omega
    · simp only [List.length_cons]; omega
theorem flF_none (l : List S27) (at_ v : Int) : ∀ (js : List Int), at_ ∉ js → (flF l at_ v js).length = js.length
  | [], _ => rfl
  | j :: js, h => by
    have ih := flF_none l at_ v js (fun h2 => h (List.mem_cons_of_mem _ h2))
    unfold flF
    rw [if_neg (fun e => h (by rw [e]; exact List.mem_cons_self))]
    simp only [List.length_cons]; omega
theorem flF_one (l : List S27) (at_ v : Int) : ∀ (js : List Int), js.Pairwise (· < ·) → at_ ∈ js → (flF l at_ v js).length + 1 = js.length
  | [], _, h => by simp at h
  | j :: js, hs, h => by
    have hs' := List.pairwise_cons.1 hs
    unfold flF
    by_cases e : j = at_
    · rw [if_pos e, flF_none l at_ v js (fun h2 => by have := hs'.1 _ h2; omega)]
      simp
    · rw [if_neg e]
      have ih := flF_one l at_ v js hs'.2 (by
        rcases List.mem_cons.1 h with h | h
        · exact absurd h.symm e
        · exact h)
      simp only [List.length_cons]; omega
def atok (l : List S27) (at_ : Int) : Bool := psv l && decide (0 ≤ at_ ∧ at_ ≤ (l.length : Int) - 1)
def flood (l : List S27) (at_ tag : Int) : List S52 := if atok l at_ = true then (if vli27 (rd_T27 l at_) tag < 0 then [] else flF l at_ (vli27 (rd_T27 l at_) tag) (ponF (vli27 (rd_T27 l at_) tag) l 0)) else []
theorem impl_flood_loop {l : List S27} (at_ v : Int) (hx : short S27.f2 l) (js : List Int) (hj : ∀ j ∈ js, 0 ≤ j ∧ j < l.length) (hjl : js.length ≤ 1048576) (d : Nat) : ∀ (k : Nat) (i : Int) (acc : List S52), 0 ≤ i → i + d = js.length → d + 1048600 < k → acc.length + d ≤ 2000000 →
    impl_FloodVlan.l0 k l at_ v acc js (js.length : Int) i = some (acc ++ flF l at_ v (js.drop i.toNat)) := by
  induction d with
  | zero =>
    intro k i acc h0 h1 hk ha
    obtain ⟨k, rfl⟩ : ∃ m, k = m + 1 := ⟨k - 1, by omega⟩
    simp only [impl_FloodVlan.l0]
    rw [if_neg (by omega), List.drop_eq_nil_of_le (by omega)]
    simp [flF]
  | succ d ih =>
    intro k i acc h0 h1 hk ha
    obtain ⟨k, rfl⟩ : ∃ m, k = m + 1 := ⟨k - 1, by omega⟩
    have hm := hj _ (rd_mem (l := js) h0 (by omega))
    have hs := hx _ (rd27_mem (l := l) hm.1 (by omega))
    simp only [impl_FloodVlan.l0]
    rw [if_pos (by omega), if_pos h0, if_pos (by omega), w_in (n := i + 1) (by omega) (by omega), rd_at h0 (by omega)]
    simp only [flF]
    by_cases h : rd js i = at_
    · rw [if_pos h, if_pos h, ih k (i + 1) _ (by omega) (by omega) (by omega) (by omega)]
    · rw [if_neg h, if_neg h, if_pos hm.1, if_pos hm.2, impl_tagout (by omega) (by omega)]
      simp only [Option.bind_some]
      rw [if_pos (by omega), ih k (i + 1) _ (by omega) (by omega) (by omega) (by simp; omega)]
      simp [tgo27]
theorem impl_portAt {l : List S27} (at_ : Int) (hl : l.length ≤ 1048576) (hx : short S27.f2 l) {k : Nat} (hk : 1048580 < k) : impl_portAt.f k l at_ = some (atok l at_) := by
  unfold impl_portAt.f atok
  rw [impl_ports hx hk, i_in, w_in (n := (l.length : Int) - 1) (by omega) (by omega)]
  cases psv l <;> simp
theorem ponF_in {v : Int} {l : List S27} : ∀ j ∈ ponF v l 0, 0 ≤ j ∧ j < l.length := fun j hj => by
  have := (ponF_mem v l 0 j).1 hj
  omega
theorem impl_flood {l : List S27} (at_ tag : Int) (hl : l.length ≤ 1048576) (hx : short S27.f2 l) {k : Nat} (hk : 3000000 < k) : impl_FloodVlan.f k l at_ tag = some (flood l at_ tag) := by
  unfold impl_FloodVlan.f flood
  rw [impl_portAt at_ hl hx (by omega)]
  simp only [Option.bind_some]
  by_cases ho : atok l at_ = true
  · rw [if_pos ho, if_pos ho]
    have h2 := ho
    simp only [atok, Bool.and_eq_true, decide_eq_true_eq] at h2
    have hs := hx _ (rd27_mem (l := l) (i := at_) h2.2.1 (by omega))
    rw [if_pos (by omega), if_pos (by omega), impl_vlanin (by omega) (by omega)]
    simp only [Option.bind_some]
    show (if vli27 (rd_T27 l at_) tag < 0 then _ else (impl_PortsOn.f k l (vli27 (rd_T27 l at_) tag)).bind _) = _
    split
    · rfl
    · rw [impl_on _ hl hx hk]
      unfold pOn
      rw [if_pos h2.1]
      simp only [Option.bind_some]
      have hle := ponF_len (vli27 (rd_T27 l at_) tag) l 0
      have hh := impl_flood_loop at_ (vli27 (rd_T27 l at_) tag) hx (ponF (vli27 (rd_T27 l at_) tag) l 0) ponF_in (by omega) (ponF (vli27 (rd_T27 l at_) tag) l 0).length k 0 [] (by omega) (by omega) (by omega) (by simp; omega)
      simpa [vli27] using hh
  · rw [if_neg ho, if_neg ho]
theorem spec_flood_loop {l : List S27} (at_ v : Int) (hx : short S27.f2 l) (js : List Int) (hj : ∀ j ∈ js, 0 ≤ j ∧ j < l.length) (hjl : js.length ≤ 1048576) (d : Nat) : ∀ (k : Nat) (i : Int) (acc : List S52), 0 ≤ i → i + d = js.length → d + 1048600 < k → acc.length + d ≤ 2000000 →
    spec_FloodVlan.l0 k l at_ acc v js i = some (acc ++ flF l at_ v (js.drop i.toNat)) := by
  induction d with
  | zero =>
    intro k i acc h0 h1 hk ha
    obtain ⟨k, rfl⟩ : ∃ m, k = m + 1 := ⟨k - 1, by omega⟩
    simp only [spec_FloodVlan.l0]
    rw [if_neg (by omega), List.drop_eq_nil_of_le (by omega)]
    simp [flF]
  | succ d ih =>
    intro k i acc h0 h1 hk ha
    obtain ⟨k, rfl⟩ : ∃ m, k = m + 1 := ⟨k - 1, by omega⟩
    have hm := hj _ (rd_mem (l := js) h0 (by omega))
    have hs := hx _ (rd27_mem (l := l) hm.1 (by omega))
    simp only [spec_FloodVlan.l0]
    rw [if_pos (by omega), if_pos h0, w_in (n := i + 1) (by omega) (by omega), rd_at h0 (by omega)]
    simp only [flF]
    by_cases h : rd js i = at_
    · rw [if_pos h, if_pos h, ih k (i + 1) _ (by omega) (by omega) (by omega) (by omega)]
    · rw [if_neg h, if_neg h, if_pos hm.1, if_pos hm.2, spec_tagout (by omega) (by omega)]
      simp only [Option.bind_some]
      rw [if_pos (by omega), ih k (i + 1) _ (by omega) (by omega) (by omega) (by simp; omega)]
      simp [tgo27]
theorem spec_flood {l : List S27} (at_ tag : Int) (hl : l.length ≤ 1048576) (hx : short S27.f2 l) {k : Nat} (hk : 5000010 < k) : spec_FloodVlan.f k l at_ tag = some (flood l at_ tag) := by
  obtain ⟨k, rfl⟩ : ∃ m, k = m + 1 := ⟨k - 1, by omega⟩
  unfold spec_FloodVlan.f flood
  rw [spec_ports hl hx (by omega), s_in, w_in (n := (l.length : Int) - 1) (by omega) (by omega)]
  simp only [Option.bind_some]
  by_cases hp : psv l = true
  · by_cases hat : 0 ≤ at_ ∧ at_ ≤ (l.length : Int) - 1
    · have ho : atok l at_ = true := by simp [atok, hp, hat]
      have hs := hx _ (rd27_mem (l := l) (i := at_) hat.1 (by omega))
      rw [if_pos hp, if_pos ho]
      simp only [spec_FloodVlan.j0]
      rw [if_neg (by simp [hat]), if_pos hat.1, if_pos (by omega), spec_vlanin (by omega) (by omega)]
      simp only [Option.bind_some]
      show (if vli27 (rd_T27 l at_) tag < 0 then _ else (spec_PortsOn.f k l (vli27 (rd_T27 l at_) tag)).bind _) = _
      split
      · rfl
      · rw [spec_on _ hl hx (by omega)]
        unfold pOn
        rw [if_pos hp]
        simp only [Option.bind_some]
        have hle := ponF_len (vli27 (rd_T27 l at_) tag) l 0
        have hh := spec_flood_loop at_ (vli27 (rd_T27 l at_) tag) hx (ponF (vli27 (rd_T27 l at_) tag) l 0) ponF_in (by omega) (ponF (vli27 (rd_T27 l at_) tag) l 0).length k 0 [] (by omega) (by omega) (by omega) (by simp; omega)
        simpa [vli27] using hh
    · have ho : ¬ (atok l at_ = true) := by simp only [atok, hp, hat]; decide
      rw [if_pos hp, if_neg ho]
      simp only [spec_FloodVlan.j0]
      rw [if_pos (by simp [hat])]
  · have ho : ¬ (atok l at_ = true) := by simp [atok, hp]
    rw [if_neg hp, if_neg ho]
    simp only [spec_FloodVlan.j0]
    rw [if_pos trivial]
theorem vli_nn {kd own : Int} {c : List Int} {t : Int} (h : 0 ≤ vli kd own c t) : 0 ≤ t := by
  unfold vli at h
  by_cases hp : pv kd own c = true
  · rw [if_pos hp] at h
    by_cases e : t = 0
    · omega
    · rw [if_neg e] at h
      by_cases e2 : c.contains t = true
      · have := net_bd (pv_mem hp e2).1; omega
      · rw [if_neg e2] at h; omega
  · rw [if_neg hp] at h; omega
theorem at_on {x : S27} {t : Int} (h : 0 ≤ vli27 x t) : onv (vli27 x t) x = true ∧ tgo27 x (vli27 x t) = t := by
  have h1 := tag_in h
  have h2 := vli_nn h
  refine ⟨?_, h1.1⟩
  unfold onv
  have : tgo x.f0 x.f1 x.f2 (vli27 x t) = t := h1.1
  rw [this]
  simpa using h2
theorem at_mem {l : List S27} {at_ t : Int} (ho : atok l at_ = true) (h : 0 ≤ vli27 (rd_T27 l at_) t) : at_ ∈ ponF (vli27 (rd_T27 l at_) t) l 0 := by
  simp only [atok, Bool.and_eq_true, decide_eq_true_eq] at ho
  refine (ponF_mem _ _ _ _).2 ⟨by omega, by omega, ?_⟩
  rw [Int.sub_zero]
  exact (at_on h).1
theorem few_short {n m : Nat} {l : List S27} (h : few n m l) (hm : m ≤ 1048576) : short S27.f2 l := fun x hx => Nat.le_trans (h.2 x hx) hm
theorem flood_len (l : List S27) (at_ tag : Int) : (flood l at_ tag).length ≤ l.length := by
  unfold flood
  split
  · split
    · simp
    · exact Nat.le_trans (flF_len _ _ _ _) (ponF_len _ _ _)
  · simp
theorem drawFlood {l : List Int} (hl : ∀ x ∈ l, (Lit.int .u8 x).wf = true) {k : Nat} (hk : 30 < k) : ∃ ps at_ tag, spec_DrawFloodVlan.f k l = some (ps, at_, tag) ∧ few 7 10 ps := by
  unfold spec_DrawFloodVlan.f
  obtain ⟨b, ho, hb⟩ := open_ok hl
  rw [bs ho]
  dsimp only
  obtain ⟨out, p', h, h2, h3, h4⟩ := drawPorts hb hk (p := 0) (by omega) (by omega)
  have hn := h4.1
  rw [bs h]
  dsimp only
  rw [w_in (n := (out.length : Int) + 2) (by omega) (by omega)]
  obtain ⟨i, hi, i0, i1⟩ := pick_ok (k := k) (p := p') (n := (out.length : Int) + 2) hb (by omega) (by omega) (by omega) (by omega)
  rw [bs hi]
  dsimp only
  obtain ⟨j, hj, j0, j1⟩ := pick_ok (k := k) (p := p' + 1) (n := 8) hb (by omega) (by omega) (by omega) (by omega)
  rw [bs hj]
  dsimp only
  obtain ⟨v, hv, _⟩ := num_ok (k := k) (p := p' + 1 + 1) (xs := [0, 1, 2, 0, 3, 4, 9, 10]) hb (by omega) (by omega) (by simp) (by omega)
  rw [bs hv]
  dsimp only
  generalize wrap64 (i - wrap64 (Int.tdiv j 7)) = a
  exact ⟨_, _, _, rfl, h4⟩
theorem atok_open {l : List S27} {a : Int} (h : atok l a = true) : psv l = true ∧ 0 ≤ a ∧ a < l.length := by
  simp only [atok, Bool.and_eq_true, decide_eq_true_eq] at h
  exact ⟨h.1, by omega, by omega⟩
theorem stay_in {l : List S27} {at_ tag : Int} (x : S52) (hx : x ∈ flood l at_ tag) : atok l at_ = true ∧ x.f0 ≠ at_ ∧ 0 ≤ x.f0 ∧ x.f0 < l.length ∧ vli27 (rd_T27 l x.f0) x.f1 = vli27 (rd_T27 l at_) tag := by
  unfold flood at hx
  by_cases ho : atok l at_ = true
  · rw [if_pos ho] at hx
    by_cases hv : vli27 (rd_T27 l at_) tag < 0
    · rw [if_pos hv] at hx; simp at hx
    rw [if_neg hv] at hx
    generalize hve : vli27 (rd_T27 l at_) tag = v at *
    obtain ⟨h1, h2, h3⟩ := (flF_mem l at_ v _ x).1 hx
    have hb := (ponF_mem v l 0 x.f0).1 h1
    rw [Int.sub_zero] at hb
    have hon : 0 ≤ tgo27 (rd_T27 l x.f0) v := by simpa [onv, tgo27] using hb.2.2
    exact ⟨ho, h2, by omega, by omega, by rw [h3]; exact (tag_back hon).1⟩
  · rw [if_neg ho] at hx; simp at hx
theorem flF_sorted (l : List S27) (at_ v : Int) : ∀ (js : List Int), js.Pairwise (· < ·) → (flF l at_ v js).Pairwise (fun x y => x.f0 < y.f0)
  | [], _ => List.Pairwise.nil
  | j :: js, hs => by
    have hs' := List.pairwise_cons.1 hs
    have ih := flF_sorted l at_ v js hs'.2
    unfold flF
    split
    · exact ih
    · refine List.Pairwise.cons (fun y hy => ?_) ih
      exact hs'.1 _ ((flF_mem l at_ v js y).1 hy).1
theorem flood_sorted (l : List S27) (at_ tag : Int) : (flood l at_ tag).Pairwise (fun x y => x.f0 < y.f0) := by
  unfold flood
  split
  · split
    · exact List.Pairwise.nil
    · exact flF_sorted _ _ _ _ (ponF_sorted _ _ _)
  · exact List.Pairwise.nil
theorem rd52_at (l : List S52) {i : Int} (h : i.toNat < l.length) : rd_T52 l i = l[i.toNat] := by
  unfold rd_T52
  rw [List.getD_eq_getElem?_getD, List.getElem?_eq_getElem h]
  rfl
theorem stay_loop {ps : List S27} {at_ tag : Int} (hn : ps.length ≤ 7) (hs : short S27.f2 ps) (d : Nat) : ∀ (k : Nat) (i : Int), 0 ≤ i → i + d = (flood ps at_ tag).length → 2 * d + 1100000 ≤ k →
    laws_FnVlanStays.l0 k ps at_ tag (flood ps at_ tag) (flood ps at_ tag) (flood ps at_ tag) ((flood ps at_ tag).length : Int) i = some true := by
  have hfl := flood_len ps at_ tag
  induction d with
  | zero =>
    intro k i h0 h1 hk
    obtain ⟨k, rfl⟩ : ∃ q, k = q + 1 := ⟨k - 1, by omega⟩
    simp only [laws_FnVlanStays.l0]
    rw [if_neg (by omega)]
  | succ d ih =>
    intro k i h0 h1 hk
    obtain ⟨k, rfl⟩ : ∃ q, k = q + 2 := ⟨k - 2, by omega⟩
    have hi : i.toNat < (flood ps at_ tag).length := by omega
    have hin := rd52_mem h0 hi
    obtain ⟨ho, hne, hx0, hx1, hv⟩ := stay_in _ hin
    have hat := atok_open ho
    have hc1 := hs _ (rd27_mem (l := ps) hx0 (by omega))
    have hc2 := hs _ (rd27_mem (l := ps) hat.2.1 (by omega))
    have hord : i > 0 → (rd_T52 (flood ps at_ tag) (i - 1)).f0 < (rd_T52 (flood ps at_ tag) i).f0 := fun hp => by
      have := List.pairwise_iff_getElem.1 (flood_sorted ps at_ tag) (i - 1).toNat i.toNat (by omega) hi (by omega)
      rw [rd52_at _ hi, rd52_at _ (by omega)]
      exact this
    have hnext : ∀ b, b = false → laws_FnVlanStays.j1 (k + 1) ps at_ tag (flood ps at_ tag) (flood ps at_ tag) (flood ps at_ tag) ((flood ps at_ tag).length : Int) i b = some true := fun b hb => by
      simp only [laws_FnVlanStays.j1]
      rw [hb, if_neg (by decide), w_in (n := i + 1) (by omega) (by omega)]
      exact ih k (i + 1) (by omega) (by omega) (by omega)
    have hne1 : ¬ (!((rd_T52 (flood ps at_ tag) i).f0 == (rd_T52 (flood ps at_ tag) i).f0) || (!((rd_T52 (flood ps at_ tag) i).f1 == (rd_T52 (flood ps at_ tag) i).f1))) = true := by simp
    rw [show k + 2 = (k + 1) + 1 from rfl]
    simp only [laws_FnVlanStays.l0]
    rw [if_pos (by omega), if_pos h0, if_pos (by omega), if_pos (by omega), if_neg hne1, if_neg hne, if_pos hx0, if_pos hx1, impl_vlanin (by omega) (by omega), impl_vlanin (by omega) (by omega)]
    simp only [Option.bind_some]
    rw [if_pos hat.2.1, if_pos hat.2.2, if_pos (show vli (rd_T27 ps (rd_T52 (flood ps at_ tag) i).f0).f0 (rd_T27 ps (rd_T52 (flood ps at_ tag) i).f0).f1 (rd_T27 ps (rd_T52 (flood ps at_ tag) i).f0).f2 (rd_T52 (flood ps at_ tag) i).f1 = vli (rd_T27 ps at_).f0 (rd_T27 ps at_).f1 (rd_T27 ps at_).f2 tag from hv)]
    by_cases hp : i > 0
    · have := hord hp
      rw [if_pos hp, w_in (n := i - 1) (by omega) (by omega), if_pos (by omega), if_pos (by omega)]
      exact hnext _ (decide_eq_false (by omega))
    · rw [if_neg hp]
      exact hnext _ rfl
theorem FnVlanStays : laws_FnVlanStays.Pure := by
  intro l _ _ hl
  obtain ⟨k, hk⟩ : ∃ k : Nat, 6000000 < k := ⟨6000001, by omega⟩
  refine ⟨k, ?_⟩
  unfold laws_FnVlanStays.f
  by_cases hlen : (l.length : Int) > 1048576
  · rw [if_pos hlen]
  rw [if_neg hlen]
  obtain ⟨ps, at_, tag, h, hf⟩ := drawFlood hl (k := k) (by omega)
  have hn := hf.1
  have hs := few_short hf (by omega)
  have hfl := flood_len ps at_ tag
  rw [h]
  simp only [Option.bind_some]
  rw [impl_flood at_ tag (by omega) hs (by omega), spec_flood at_ tag (by omega) hs (by omega)]
  simp only [Option.bind_some, if_true]
  exact stay_loop hn hs (flood ps at_ tag).length k 0 (by omega) (by omega) (by omega)

end Go.Proofs.Ytmkjcoppadegjaa.Pure
