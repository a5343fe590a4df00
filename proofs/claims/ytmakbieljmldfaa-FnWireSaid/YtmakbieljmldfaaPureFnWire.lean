/- What both sides of FnWire compute, in plain Lean. -/
import Derived.Test.YtmakbieljmldfaaPFnWirex4
import Derived.Laws.BitsLemmas
import Derived.OpenShut
namespace Go.Proofs.Ytmakbieljmldfaa.Pure
open Go.RowKit Go.Proofs.Ytmakbieljmldfaa.PFnWire Go.Proofs.YtmakbieljmldfaaW.PrintWords Go.Proofs.YtmakbieljmldfaaW.PrintLast

theorem w_in {n : Int} (h0 : -9223372036854775808 ≤ n) (h1 : n ≤ 9223372036854775807) : wrap64 n = n := by unfold wrap64; omega

/-- A byte list's reader never fails: what 'pick' answers. -/
theorem b_rd {b : List Int} (hb : ∀ x ∈ b, 0 ≤ x ∧ x ≤ 255) (i : Int) : 0 ≤ rd b i ∧ rd b i ≤ 255 := by
  unfold rd
  rw [List.getD_eq_getElem?_getD]
  cases h : b[i.toNat]? with
  | none => simp
  | some x => exact hb x (List.mem_of_getElem? h)

theorem xor_nn {x y : Int} (hx0 : 0 ≤ x) (hx : x < 4611686018427387904) (hy0 : 0 ≤ y) (hy : y < 4611686018427387904) : 0 ≤ Go.bits .xor .i64 x y := by
  obtain ⟨a, rfl⟩ := Int.eq_ofNat_of_zero_le hx0
  obtain ⟨b, rfl⟩ := Int.eq_ofNat_of_zero_le hy0
  have ha : a < 2 ^ 62 := by simp; omega
  have hb : b < 2 ^ 62 := by simp; omega
  have hc : a ^^^ b < 2 ^ 62 := Nat.xor_lt_two_pow ha hb
  have ha' : a % 2 ^ 64 = a := Nat.mod_eq_of_lt (by simp at ha ⊢; omega)
  have hb' : b % 2 ^ 64 = b := Nat.mod_eq_of_lt (by simp at hb ⊢; omega)
  have key : (BitVec.ofNat 64 a ^^^ BitVec.ofNat 64 b).toNat = a ^^^ b := by rw [BitVec.toNat_xor, BitVec.toNat_ofNat, BitVec.toNat_ofNat, ha', hb']
  have e : Go.bits .xor .i64 (a : Int) (b : Int) = IntKind.i64.wrap (((BitVec.ofNat 64 a ^^^ BitVec.ofNat 64 b).toNat : Nat) : Int) := by
    simp only [Go.bits, BitVec.ofInt_natCast]
    rfl
  rw [e, key, IntKind.wrap_i64]
  generalize a ^^^ b = c at hc
  simp at hc
  omega

theorem tm_bd {x n : Int} (hx : 0 ≤ x) (hn : 0 < n) : 0 ≤ Int.tmod x n ∧ Int.tmod x n < n := by
  rw [Int.tmod_eq_emod_of_nonneg hx]
  exact ⟨Int.emod_nonneg _ (by omega), Int.emod_lt_of_pos _ hn⟩

theorem pick_ok {k : Nat} {b : List Int} {p n : Int} (hb : ∀ x ∈ b, 0 ≤ x ∧ x ≤ 255) (hp0 : 0 ≤ p) (hp : p ≤ 100000000) (hn : 1 ≤ n) (hk : 0 < k) :
    ∃ v, spec_l21Rd_pick.f k b p n = some (v, p + 1) ∧ 0 ≤ v ∧ v < n := by
  obtain ⟨k, rfl⟩ : ∃ m, k = m + 1 := ⟨k - 1, by omega⟩
  have e1 : wrap64 (p + 1) = p + 1 := w_in (by omega) (by omega)
  have e2 : wrap64 (p + 1 - 1) = p := by rw [show p + 1 - 1 = p by omega]; exact w_in (by omega) (by omega)
  unfold spec_l21Rd_pick.f
  rw [if_neg (by omega), e1]
  simp only [spec_l21Rd_pick.j0, e2]
  by_cases h0 : b.length = 0
  · rw [if_pos (by simp [h0])]
    exact ⟨0, rfl, by omega, by omega⟩
  rw [if_neg (by simp; intro h; simp [h] at h0)]
  have hl : 0 < (b.length : Int) := by omega
  by_cases h1 : p < (b.length : Int)
  · rw [if_pos h1, if_pos hp0, if_neg (by omega)]
    have := b_rd hb p
    rw [w_in (n := rd b p) (by omega) (by omega)]
    exact ⟨_, rfl, (tm_bd this.1 (by omega)).1, (tm_bd this.1 (by omega)).2⟩
  rw [if_neg h1, if_neg (by omega)]
  have m1 := tm_bd (x := p) (n := b.length) hp0 hl
  have e3 : wrap64 (p * 7) = p * 7 := w_in (by omega) (by omega)
  have e4 : wrap64 (p * 7 + 3) = p * 7 + 3 := w_in (by omega) (by omega)
  have m2 := tm_bd (x := p * 7 + 3) (n := b.length) (by omega) hl
  rw [e3, e4, if_pos m1.1, if_pos m1.2, if_pos m2.1, if_pos m2.2, if_neg (by omega)]
  have r1 := b_rd hb (Int.tmod p b.length)
  have r2 := b_rd hb (Int.tmod (p * 7 + 3) b.length)
  generalize rd b (Int.tmod p b.length) = u at r1
  generalize rd b (Int.tmod (p * 7 + 3) b.length) = v at r2
  have d1 : 0 ≤ Int.tdiv p b.length ∧ Int.tdiv p b.length ≤ p := by
    rw [Int.tdiv_eq_ediv_of_nonneg hp0]
    exact ⟨Int.ediv_nonneg hp0 (by omega), Int.ediv_le_self _ hp0⟩
  generalize Int.tdiv p b.length = d at d1
  have e5 : wrap64 (wrap64 (wrap64 (wrap64 (wrap64 u * 131) + wrap64 (wrap64 v * 1117)) + wrap64 (p * 29)) + wrap64 (wrap64 d * 53)) = u * 131 + v * 1117 + p * 29 + d * 53 := by
    rw [w_in (n := u) (by omega) (by omega), w_in (n := v) (by omega) (by omega), w_in (n := d) (by omega) (by omega), w_in (n := u * 131) (by omega) (by omega), w_in (n := v * 1117) (by omega) (by omega), w_in (n := p * 29) (by omega) (by omega), w_in (n := d * 53) (by omega) (by omega), w_in (n := u * 131 + v * 1117) (by omega) (by omega), w_in (n := u * 131 + v * 1117 + p * 29) (by omega) (by omega), w_in (by omega) (by omega)]
  rw [e5]
  have hx0 : 0 ≤ u * 131 + v * 1117 + p * 29 + d * 53 := by omega
  have hx1 : u * 131 + v * 1117 + p * 29 + d * 53 < 4611686018427387904 := by omega
  generalize u * 131 + v * 1117 + p * 29 + d * 53 = x at hx0 hx1
  have d2 : 0 ≤ Int.tdiv x 64 ∧ Int.tdiv x 64 < 4611686018427387904 := by
    rw [Int.tdiv_eq_ediv_of_nonneg hx0]
    omega
  rw [w_in (n := Int.tdiv x 64) (by omega) (by omega)]
  have hz := xor_nn hx0 hx1 d2.1 d2.2
  exact ⟨_, rfl, (tm_bd hz (by omega)).1, (tm_bd hz (by omega)).2⟩

theorem num_ok {k : Nat} {b : List Int} {p : Int} {xs : List Int} (hb : ∀ x ∈ b, 0 ≤ x ∧ x ≤ 255) (hp0 : 0 ≤ p) (hp : p ≤ 100000000) (hn : 1 ≤ xs.length) (hk : 0 < k) :
    ∃ v, spec_l21Rd_num.f k b p xs = some (v, p + 1) ∧ v ∈ xs := by
  obtain ⟨i, hi, h0, h1⟩ := pick_ok (n := (xs.length : Int)) hb hp0 hp (by omega) hk
  refine ⟨rd xs i, ?_, ?_⟩
  · unfold spec_l21Rd_num.f
    rw [hi]
    simp only [Option.bind_some]
    rw [if_pos h0, if_pos h1]
  · unfold rd
    rw [List.getD_eq_getElem?_getD, List.getElem?_eq_getElem (by omega)]
    exact List.getElem_mem _

theorem open_ok {l : List Int} (hl : ∀ x ∈ l, (Lit.int .u8 x).wf = true) : ∃ b, spec_l21Open.f l = some (b, 0) ∧ ∀ x ∈ b, 0 ≤ x ∧ x ≤ 255 := by
  have hb : ∀ x ∈ l, 0 ≤ x ∧ x ≤ 255 := fun x hx => bounds_u8 (hl x hx)
  unfold spec_l21Open.f
  by_cases h : (l.length : Int) > 2000
  · rw [if_pos h, if_pos (by omega)]
    exact ⟨_, rfl, fun x hx => hb x (List.mem_of_mem_take hx)⟩
  · rw [if_neg h]
    exact ⟨_, rfl, hb⟩

theorem allO_total {α : Type} {p : α → Option Bool} {q : α → Bool} : ∀ (l : List α), (∀ x ∈ l, p x = some (q x)) → allO p l = some (l.all q)
  | [], _ => rfl
  | x :: xs, h => by
    have ih := allO_total xs (fun y hy => h y (List.mem_cons_of_mem _ hy))
    simp only [allO, h x (List.mem_cons_self), Option.bind_some, List.all_cons]
    cases q x
    · simp
    · simpa using ih

theorem rd_at {l : List Int} {i : Int} (h0 : 0 ≤ i) (h : i.toNat < l.length) : l.drop i.toNat = rd l i :: l.drop (i + 1).toNat := by
  rw [List.drop_eq_getElem_cons h, show (i + 1).toNat = i.toNat + 1 by omega]
  unfold rd
  rw [List.getD_eq_getElem?_getD, List.getElem?_eq_getElem h]
  rfl
theorem rd_mem {l : List Int} {i : Int} (h0 : 0 ≤ i) (h : i < l.length) : rd l i ∈ l := by
  unfold rd
  rw [List.getD_eq_getElem?_getD, List.getElem?_eq_getElem (by omega)]
  exact List.getElem_mem _

theorem s_in (a b c : Int) : spec_l1In.f a b c = some (decide (b ≤ a ∧ a ≤ c)) := by
  unfold spec_l1In.f
  by_cases h : b ≤ a <;> simp [h]
theorem i_in (a b c : Int) : impl_within.f a b c = some (decide (b ≤ a ∧ a ≤ c)) := by
  unfold impl_within.f
  by_cases h : b ≤ a <;> simp [h]
theorem wire_l0 (a d0 d1 : Int) : impl_fabric_wire.l0 5 a d0 d1 0 = if d0 = 1 ∧ d1 = 0 then some (wrap64 (wrap64 (4 * a) + 0)) else if d0 = -1 ∧ d1 = 0 then some (wrap64 (wrap64 (4 * a) + 1)) else if d0 = 0 ∧ d1 = 1 then some (wrap64 (wrap64 (4 * a) + 2)) else if d0 = 0 ∧ d1 = -1 then some (wrap64 (wrap64 (4 * a) + 3)) else some (-1) := by
  rfl
def nodes (w h a b : Int) : Bool := decide (1 ≤ w ∧ w ≤ 5) && decide (1 ≤ h ∧ h ≤ 5) && decide (0 ≤ a ∧ a ≤ wrap64 (wrap64 (w * h) - 1)) && decide (0 ≤ b ∧ b ≤ wrap64 (wrap64 (w * h) - 1))
theorem spec_nodes (w h a b : Int) : spec_l16Nodes.f w h a b = some (nodes w h a b) := by
  unfold spec_l16Nodes.f spec_l16Fabric.f nodes
  simp only [s_in, Option.bind_some]
  generalize decide (1 ≤ w ∧ w ≤ 5) = x
  generalize decide (1 ≤ h ∧ h ≤ 5) = y
  generalize decide (0 ≤ a ∧ a ≤ wrap64 (wrap64 (w * h) - 1)) = z
  generalize decide (0 ≤ b ∧ b ≤ wrap64 (wrap64 (w * h) - 1)) = u
  cases x <;> cases y <;> cases z <;> cases u <;> rfl
theorem small {w h n : Int} (h1 : 1 ≤ w ∧ w ≤ 5) (h2 : 1 ≤ h ∧ h ≤ 5) (h3 : 0 ≤ n ∧ n ≤ wrap64 (wrap64 (w * h) - 1)) : 0 ≤ n ∧ n ≤ 24 := by
  have e : 0 ≤ w * h ∧ w * h ≤ 25 := by
    have hh : h = 1 ∨ h = 2 ∨ h = 3 ∨ h = 4 ∨ h = 5 := by omega
    rcases hh with rfl | rfl | rfl | rfl | rfl <;> omega
  rw [w_in (n := w * h) (by omega) (by omega), w_in (n := w * h - 1) (by omega) (by omega)] at h3
  omega
theorem tm {n w : Int} (h0 : 0 ≤ n ∧ n ≤ 24) (hw : 1 ≤ w ∧ w ≤ 5) : (0 ≤ Int.tmod n w ∧ Int.tmod n w ≤ 4) ∧ (0 ≤ Int.tdiv n w ∧ Int.tdiv n w ≤ 24) := by
  rw [Int.tmod_eq_emod_of_nonneg h0.1, Int.tdiv_eq_ediv_of_nonneg h0.1]
  have a := Int.emod_nonneg n (show w ≠ 0 by omega)
  have b := Int.emod_lt_of_pos n (show 0 < w by omega)
  have c := Int.ediv_nonneg h0.1 (show 0 ≤ w by omega)
  have d := Int.ediv_le_self w h0.1
  exact ⟨⟨a, by omega⟩, ⟨c, by omega⟩⟩
theorem wires (a ax ay bx by_ : Int) (hax : 0 ≤ ax ∧ ax ≤ 4) (hay : 0 ≤ ay ∧ ay ≤ 24) (hbx : 0 ≤ bx ∧ bx ≤ 4) (hby : 0 ≤ by_ ∧ by_ ≤ 24) (ha : 0 ≤ a ∧ a ≤ 24) (k : Nat) :
    (if ay = by_ then spec_l16Wire.j0 (k + 3) a ax ay bx by_ (bx == wrap64 (ax + 1)) else spec_l16Wire.j0 (k + 3) a ax ay bx by_ false) = impl_fabric_wire.l0 5 a (wrap64 (bx - ax)) (wrap64 (by_ - ay)) 0 := by
  rw [wire_l0, w_in (n := bx - ax) (by omega) (by omega), w_in (n := by_ - ay) (by omega) (by omega), w_in (n := ax + 1) (by omega) (by omega)]
  simp only [spec_l16Wire.j0, spec_l16Wire.j1, spec_l16Wire.j2]
  rw [w_in (n := 4 * a) (by omega) (by omega), w_in (n := 4 * a + 0) (by omega) (by omega), w_in (n := ax - 1) (by omega) (by omega), w_in (n := ay + 1) (by omega) (by omega), w_in (n := ay - 1) (by omega) (by omega), Int.add_zero]
  by_cases e1 : ay = by_
  · by_cases e2 : bx = ax + 1
    · have q : (bx == ax + 1) = true := beq_iff_eq.mpr e2
      rw [if_pos e1, if_pos q, if_pos (show (bx - ax = 1 ∧ by_ - ay = 0) by omega)]
    · have q : ¬ ((bx == ax + 1) = true) := by simpa using e2
      rw [if_pos e1, if_neg q, if_pos e1, if_neg (show ¬ (bx - ax = 1 ∧ by_ - ay = 0) by omega)]
      by_cases e3 : bx = ax - 1
      · have q : (bx == ax - 1) = true := beq_iff_eq.mpr e3
        rw [if_pos q, if_pos (show (bx - ax = -1 ∧ by_ - ay = 0) by omega)]
      · have q : ¬ ((bx == ax - 1) = true) := by simpa using e3
        rw [if_neg q, if_neg (show ¬ (bx - ax = -1 ∧ by_ - ay = 0) by omega), if_neg (show ¬ (bx - ax = 0 ∧ by_ - ay = 1) by omega), if_neg (show ¬ (bx - ax = 0 ∧ by_ - ay = -1) by omega)]
        by_cases e4 : ax = bx
        · have q : ¬ ((by_ == ay + 1) = true) := by simp; omega
          rw [if_pos e4, if_neg q, if_pos e4, if_neg (show ¬ by_ = ay - 1 by omega)]
        · rw [if_neg e4, if_neg (show ¬ (false = true) by decide), if_neg e4]
  · rw [if_neg e1, if_neg (show ¬ (false = true) by decide), if_neg e1, if_neg (show ¬ (false = true) by decide), if_neg (show ¬ (bx - ax = 1 ∧ by_ - ay = 0) by omega), if_neg (show ¬ (bx - ax = -1 ∧ by_ - ay = 0) by omega)]
    by_cases e4 : ax = bx
    · rw [if_pos e4]
      by_cases e5 : by_ = ay + 1
      · have q : (by_ == ay + 1) = true := beq_iff_eq.mpr e5
        rw [if_pos q, if_pos (show (bx - ax = 0 ∧ by_ - ay = 1) by omega)]
      · have q : ¬ ((by_ == ay + 1) = true) := by simpa using e5
        rw [if_neg q, if_pos e4, if_neg (show ¬ (bx - ax = 0 ∧ by_ - ay = 1) by omega)]
        by_cases e6 : by_ = ay - 1
        · rw [if_pos e6, if_pos (show (bx - ax = 0 ∧ by_ - ay = -1) by omega)]
        · rw [if_neg e6, if_neg (show ¬ (bx - ax = 0 ∧ by_ - ay = -1) by omega)]
    · rw [if_neg e4, if_neg (show ¬ (false = true) by decide), if_neg e4, if_neg (show ¬ (bx - ax = 0 ∧ by_ - ay = 1) by omega), if_neg (show ¬ (bx - ax = 0 ∧ by_ - ay = -1) by omega)]
def nd (w h x : Int) : Bool := decide (1 ≤ w ∧ w ≤ 5) && decide (1 ≤ h ∧ h ≤ 5) && decide (0 ≤ x ∧ x ≤ wrap64 (wrap64 (w * h) - 1))
theorem nd_open {w h x : Int} (k : nd w h x = true) : (1 ≤ w ∧ w ≤ 5) ∧ (1 ≤ h ∧ h ≤ 5) ∧ (0 ≤ x ∧ x ≤ wrap64 (wrap64 (w * h) - 1)) := by
  simp only [nd, Bool.and_eq_true, decide_eq_true_eq] at k
  exact ⟨k.1.1, k.1.2, k.2⟩
theorem spec_nd (w h x : Int) : spec_l16Nodes.f w h x x = some (nd w h x) := by
  rw [spec_nodes]
  unfold nodes nd
  generalize decide (1 ≤ w ∧ w ≤ 5) = a
  generalize decide (1 ≤ h ∧ h ≤ 5) = b
  generalize decide (0 ≤ x ∧ x ≤ wrap64 (wrap64 (w * h) - 1)) = c
  cases a <;> cases b <;> cases c <;> rfl
theorem impl_nd (w h x : Int) : impl_fabric_node.f w h x = some (nd w h x) := by
  unfold impl_fabric_node.f impl_fabric_valid.f nd
  simp only [i_in, Option.bind_some]
  generalize decide (1 ≤ w ∧ w ≤ 5) = a
  generalize decide (1 ≤ h ∧ h ≤ 5) = b
  generalize decide (0 ≤ x ∧ x ≤ wrap64 (wrap64 (w * h) - 1)) = c
  cases a <;> cases b <;> cases c <;> rfl
def wr16 (w a b : Int) : Option Int := impl_fabric_wire.l0 5 a (wrap64 (Int.tmod b w - Int.tmod a w)) (wrap64 (wrap64 (Int.tdiv b w) - wrap64 (Int.tdiv a w))) 0
theorem wr16_some (w a b : Int) : ∃ v, wr16 w a b = some v := by
  unfold wr16
  rw [wire_l0]
  split
  · exact ⟨_, rfl⟩
  · split
    · exact ⟨_, rfl⟩
    · split
      · exact ⟨_, rfl⟩
      · split <;> exact ⟨_, rfl⟩
theorem spec_wire16 {w h a b : Int} (ka : nd w h a = true) (kb : nd w h b = true) {k : Nat} (hk : 3 ≤ k) : spec_l16Wire.f k w a b = wr16 w a b := by
  obtain ⟨k, rfl⟩ : ∃ q, k = q + 3 := ⟨k - 3, by omega⟩
  have oa := nd_open ka
  have ob := nd_open kb
  have ha := small oa.1 oa.2.1 oa.2.2
  have hb := small ob.1 ob.2.1 ob.2.2
  have ta := tm ha oa.1
  have tb := tm hb oa.1
  have hw : ¬ w = 0 := by omega
  unfold spec_l16Wire.f wr16
  rw [if_neg hw, w_in (n := Int.tdiv a w) (by omega) (by omega), w_in (n := Int.tdiv b w) (by omega) (by omega)]
  exact wires a _ _ _ _ ta.1 ta.2 tb.1 tb.2 ha k
theorem impl_wire16 {w h a b : Int} (ka : nd w h a = true) (kb : nd w h b = true) : impl_fabric_wire.f w h a b = wr16 w a b := by
  have oa := nd_open ka
  have hw : ¬ w = 0 := by omega
  unfold impl_fabric_wire.f wr16
  rw [impl_nd, impl_nd, ka, kb]
  simp only [Option.bind_some, if_true]
  rw [if_neg hw]
def ng (w a b : Int) : Bool := match wr16 w a b with | some v => decide (v < 0) | none => false
theorem ng_eq {w a b v : Int} (h : wr16 w a b = some v) : ng w a b = decide (v < 0) := by unfold ng; rw [h]
/-- Is each wire there, from index i on? -/
def prs (w : Int) (l : List Int) : Int → Nat → Bool
  | _, 0 => true
  | i, d + 1 => (decide (i ≤ 0) || !(ng w (rd l (i - 1)) (rd l i))) && prs w l (i + 1) d
theorem rd_all {p : Int → Bool} {l : List Int} (h : l.all p = true) {i : Int} (h0 : 0 ≤ i) (h1 : i < l.length) : p (rd l i) = true := List.all_eq_true.mp h _ (rd_mem h0 h1)
theorem impl_way_loop (w h : Int) (l : List Int) (hl : l.length ≤ 9223372036854775806) (ha : l.all (nd w h) = true) (d : Nat) : ∀ (k : Nat) (i : Int), 1 ≤ i → i + d = l.length → d < k →
    impl_fabric_way.l0 k l i w h = some (prs w l i d) := by
  induction d with
  | zero =>
    intro k i h0 h1 hk
    obtain ⟨k, rfl⟩ : ∃ m, k = m + 1 := ⟨k - 1, by omega⟩
    simp only [impl_fabric_way.l0]
    rw [if_neg (by omega)]
    rfl
  | succ d ih =>
    intro k i h0 h1 hk
    obtain ⟨k, rfl⟩ : ∃ m, k = m + 1 := ⟨k - 1, by omega⟩
    simp only [impl_fabric_way.l0]
    have e : decide (i ≤ 0) = false := by simp; omega
    obtain ⟨v, hv⟩ := wr16_some w (rd l (i - 1)) (rd l i)
    rw [if_pos (by omega), w_in (n := i - 1) (by omega) (by omega), w_in (n := i + 1) (by omega) (by omega), if_pos (by omega), if_pos (by omega), if_pos (by omega), impl_wire16 (rd_all ha (by omega) (by omega)) (rd_all ha (by omega) (by omega)), hv, ih k (i + 1) (by omega) (by omega) (by omega)]
    simp only [Option.bind_some, prs, ng_eq hv, e, Bool.false_or]
    by_cases q : v < 0
    · rw [if_pos q]
      simp [q]
    · rw [if_neg q]
      simp [q]
def wayv (w h : Int) (l : List Int) : Bool := l.all (nd w h) && prs w l 0 l.length && decide (1 ≤ (l.length : Int) ∧ (l.length : Int) ≤ 30)
theorem impl_way {w h : Int} {l : List Int} (hl : l.length ≤ 9223372036854775806) {k : Nat} (hk : l.length + 5 < k) : impl_WayValid.f k w h l = some (wayv w h l) := by
  obtain ⟨k, rfl⟩ : ∃ m, k = m + 1 := ⟨k - 1, by omega⟩
  unfold impl_WayValid.f impl_fabric_way.f all_impl_fabric_node.f wayv
  rw [i_in, allO_total (q := nd w h) l (fun x _ => impl_nd w h x)]
  simp only [Option.bind_some, impl_fabric_way.j0]
  by_cases h1 : 1 ≤ (l.length : Int) ∧ (l.length : Int) ≤ 30
  · rw [if_pos (by simpa using h1)]
    by_cases ha : l.all (nd w h) = true
    · rw [if_neg (by simp only [ha]; decide), impl_way_loop w h l hl ha (l.length - 1) k 1 (by omega) (by omega) (by omega), ha, decide_eq_true h1]
      obtain ⟨n, hn⟩ : ∃ n, l.length = n + 1 := ⟨l.length - 1, by omega⟩
      rw [hn]
      simp [prs]
    · have e : l.all (nd w h) = false := by simpa using ha
      rw [if_pos (by simp only [e]; decide), e]
      rfl
  · rw [if_neg (by simpa using h1), decide_eq_false h1]
    simp
/-- What a wire's number tells: the direction. -/
theorem wr_val {w a b v : Int} (hw : 1 ≤ w ∧ w ≤ 5) (ha : 0 ≤ a ∧ a ≤ 24) (hb : 0 ≤ b ∧ b ≤ 24) (h : wr16 w a b = some v) :
    (v = 4 * a ∧ b % w = a % w + 1 ∧ b / w = a / w) ∨ (v = 4 * a + 1 ∧ b % w = a % w - 1 ∧ b / w = a / w) ∨ (v = 4 * a + 2 ∧ b % w = a % w ∧ b / w = a / w + 1) ∨ (v = 4 * a + 3 ∧ b % w = a % w ∧ b / w = a / w - 1) ∨
    (v = -1 ∧ ¬ (b % w = a % w + 1 ∧ b / w = a / w) ∧ ¬ (b % w = a % w - 1 ∧ b / w = a / w) ∧ ¬ (b % w = a % w ∧ b / w = a / w + 1) ∧ ¬ (b % w = a % w ∧ b / w = a / w - 1)) := by
  have ta := tm ha hw
  have tb := tm hb hw
  unfold wr16 at h
  rw [w_in (n := Int.tdiv a w) (by omega) (by omega), w_in (n := Int.tdiv b w) (by omega) (by omega), w_in (n := Int.tmod b w - Int.tmod a w) (by omega) (by omega), w_in (n := Int.tdiv b w - Int.tdiv a w) (by omega) (by omega), wire_l0] at h
  rw [w_in (n := 4 * a) (by omega) (by omega), w_in (n := 4 * a + 0) (by omega) (by omega), w_in (n := 4 * a + 1) (by omega) (by omega), w_in (n := 4 * a + 2) (by omega) (by omega), w_in (n := 4 * a + 3) (by omega) (by omega)] at h
  rw [Int.tmod_eq_emod_of_nonneg ha.1, Int.tmod_eq_emod_of_nonneg hb.1, Int.tdiv_eq_ediv_of_nonneg ha.1, Int.tdiv_eq_ediv_of_nonneg hb.1] at h
  generalize a % w = p at *
  generalize b % w = q at *
  generalize a / w = r at *
  generalize b / w = s at *
  split at h
  · have := Option.some.inj h; omega
  · split at h
    · have := Option.some.inj h; omega
    · split at h
      · have := Option.some.inj h; omega
      · split at h
        · have := Option.some.inj h; omega
        · have := Option.some.inj h; omega
/-- The neighbour by the number. -/
theorem wr_nb {w a b v : Int} (hw : 1 ≤ w ∧ w ≤ 5) (ha : 0 ≤ a ∧ a ≤ 24) (hb : 0 ≤ b ∧ b ≤ 24) (h : wr16 w a b = some v) (h0 : 0 ≤ v) :
    (v = 4 * a ∧ b = a + 1) ∨ (v = 4 * a + 1 ∧ b = a - 1) ∨ (v = 4 * a + 2 ∧ b = a + w) ∨ (v = 4 * a + 3 ∧ b = a - w) := by
  have hh : w = 1 ∨ w = 2 ∨ w = 3 ∨ w = 4 ∨ w = 5 := by omega
  rcases wr_val hw ha hb h with k | k | k | k | k <;> rcases hh with rfl | rfl | rfl | rfl | rfl <;> omega
/-- There is one back. -/
theorem wr_back {w a b v : Int} (hw : 1 ≤ w ∧ w ≤ 5) (ha : 0 ≤ a ∧ a ≤ 24) (hb : 0 ≤ b ∧ b ≤ 24) (h : wr16 w a b = some v) (h0 : 0 ≤ v) : ∃ u, wr16 w b a = some u ∧ 0 ≤ u ∧ u ≠ v ∧ u / 4 = b ∧ v / 4 = a := by
  obtain ⟨u, hu⟩ := wr16_some w b a
  refine ⟨u, hu, ?_⟩
  have k1 := wr_nb hw ha hb h h0
  have k2 := wr_val hw ha hb h
  have k3 := wr_val hw hb ha hu
  have hu0 : 0 ≤ u := by
    generalize a % w = p at *
    generalize b % w = q at *
    generalize a / w = r at *
    generalize b / w = s at *
    omega
  have k4 := wr_nb hw hb ha hu hu0
  omega
def wv (w h a b : Int) : Int := if nd w h a = true ∧ nd w h b = true then (match wr16 w a b with | some v => v | none => -1) else -1
theorem nodes_nd (w h a b : Int) : nodes w h a b = (nd w h a && nd w h b) := by
  unfold nodes nd
  generalize decide (1 ≤ w ∧ w ≤ 5) = x
  generalize decide (1 ≤ h ∧ h ≤ 5) = y
  generalize decide (0 ≤ a ∧ a ≤ wrap64 (wrap64 (w * h) - 1)) = z
  generalize decide (0 ≤ b ∧ b ≤ wrap64 (wrap64 (w * h) - 1)) = u
  cases x <;> cases y <;> cases z <;> cases u <;> rfl
theorem spec_wv {w h a b : Int} {k : Nat} (hk : 3 ≤ k) : spec_WireOf.f k w h a b = some (wv w h a b) := by
  unfold spec_WireOf.f wv
  rw [spec_nodes, nodes_nd]
  simp only [Option.bind_some]
  by_cases ha : nd w h a = true
  · by_cases hb : nd w h b = true
    · rw [ha, hb, spec_wire16 ha hb hk]
      obtain ⟨v, hv⟩ := wr16_some w a b
      simp [hv]
    · simp [ha, hb]
  · simp [ha]
theorem impl_wv (w h a b : Int) : impl_WireOf.f w h a b = some (wv w h a b) := by
  unfold impl_WireOf.f wv
  by_cases ha : nd w h a = true
  · by_cases hb : nd w h b = true
    · rw [impl_wire16 ha hb]
      obtain ⟨v, hv⟩ := wr16_some w a b
      simp [hv, ha, hb]
    · unfold impl_fabric_wire.f
      rw [impl_nd, impl_nd]
      simp [ha, hb]
  · unfold impl_fabric_wire.f
    rw [impl_nd]
    simp [ha]
theorem bs {α β : Type} {x : Option α} {a : α} {f : α → Option β} (h : x = some a) : x.bind f = f a := by rw [h]; rfl
theorem wh_bd {w h : Int} (hw : 0 ≤ w ∧ w ≤ 6) (hh : 0 ≤ h ∧ h ≤ 6) : 0 ≤ w * h ∧ w * h ≤ 36 := by
  have : h = 0 ∨ h = 1 ∨ h = 2 ∨ h = 3 ∨ h = 4 ∨ h = 5 ∨ h = 6 := by omega
  rcases this with rfl | rfl | rfl | rfl | rfl | rfl | rfl <;> omega
theorem drawSize {b : List Int} (hb : ∀ x ∈ b, 0 ≤ x ∧ x ≤ 255) {k : Nat} (hk : 0 < k) {p : Int} (hp : 0 ≤ p) (hp2 : p ≤ 1000000) :
    ∃ w h, spec_l16Size.f k b p = some (w, h, p + 1 + 1 + 1) ∧ (0 ≤ w ∧ w ≤ 6) ∧ (0 ≤ h ∧ h ≤ 6) := by
  unfold spec_l16Size.f
  obtain ⟨q, hq, _, _⟩ := pick_ok (k := k) (n := 40) hb hp (by omega) (by omega) hk
  rw [bs hq]
  dsimp only
  by_cases e : q = 0
  · rw [if_pos e]
    obtain ⟨w, hw, hm⟩ := num_ok (k := k) (p := p + 1) (xs := [0, 6, 3]) hb (by omega) (by omega) (by simp) hk
    rw [bs hw]
    dsimp only
    obtain ⟨h, hh, hm2⟩ := num_ok (k := k) (p := p + 1 + 1) (xs := [0, 6, 2]) hb (by omega) (by omega) (by simp) hk
    rw [bs hh]
    dsimp only
    have a1 : w = 0 ∨ w = 6 ∨ w = 3 := by simpa using hm
    have a2 : h = 0 ∨ h = 6 ∨ h = 2 := by simpa using hm2
    exact ⟨w, h, rfl, by omega, by omega⟩
  · rw [if_neg e]
    obtain ⟨w, hw, hm⟩ := num_ok (k := k) (p := p + 1) (xs := [3, 2, 4, 5, 1]) hb (by omega) (by omega) (by simp) hk
    rw [bs hw]
    dsimp only
    obtain ⟨h, hh, hm2⟩ := num_ok (k := k) (p := p + 1 + 1) (xs := [3, 2, 2, 5, 1]) hb (by omega) (by omega) (by simp) hk
    rw [bs hh]
    dsimp only
    have a1 : w = 3 ∨ w = 2 ∨ w = 4 ∨ w = 5 ∨ w = 1 := by simpa using hm
    have a2 : h = 3 ∨ h = 2 ∨ h = 2 ∨ h = 5 ∨ h = 1 := by simpa using hm2
    exact ⟨w, h, rfl, by omega, by omega⟩
theorem drawTwo {l : List Int} (hl : ∀ x ∈ l, (Lit.int .u8 x).wf = true) {k : Nat} (hk : 0 < k) : ∃ w h a b, spec_l16Two.f k l = some (w, h, a, b) ∧ (0 ≤ w ∧ w ≤ 6) ∧ (0 ≤ h ∧ h ≤ 6) ∧ (-2 ≤ a ∧ a ≤ 40) ∧ (0 ≤ b ∧ b ≤ 40) := by
  unfold spec_l16Two.f
  obtain ⟨b, ho, hb⟩ := open_ok hl
  rw [bs ho]
  dsimp only
  obtain ⟨w, h, hs, hw, hh⟩ := drawSize hb hk (p := 0) (by omega) (by omega)
  have hwh := wh_bd hw hh
  rw [bs hs]
  dsimp only
  rw [w_in (n := w * h) (by omega) (by omega), w_in (n := w * h + 2) (by omega) (by omega), w_in (n := w * h + 1) (by omega) (by omega)]
  obtain ⟨i, hi, i0, i1⟩ := pick_ok (k := k) (p := 0 + 1 + 1 + 1) (n := w * h + 2) hb (by omega) (by omega) (by omega) hk
  rw [bs hi]
  dsimp only
  obtain ⟨j, hj, j0, j1⟩ := pick_ok (k := k) (p := 0 + 1 + 1 + 1 + 1) (n := 9) hb (by omega) (by omega) (by omega) hk
  rw [bs hj]
  dsimp only
  obtain ⟨m, hm, m0, m1⟩ := pick_ok (k := k) (p := 0 + 1 + 1 + 1 + 1 + 1) (n := w * h + 1) hb (by omega) (by omega) (by omega) hk
  rw [bs hm]
  dsimp only
  have t : 0 ≤ Int.tdiv j 8 ∧ Int.tdiv j 8 ≤ 1 := by rw [Int.tdiv_eq_ediv_of_nonneg j0]; omega
  rw [w_in (n := Int.tdiv j 8) (by omega) (by omega), w_in (n := i - Int.tdiv j 8) (by omega) (by omega)]
  exact ⟨w, h, i - Int.tdiv j 8, m, rfl, hw, hh, by omega, by omega⟩
theorem drawWire {l : List Int} (hlen : l.length ≤ 1048576) (hl : ∀ x ∈ l, (Lit.int .u8 x).wf = true) {k : Nat} (hk : 0 < k) : ∃ w h a b, spec_DrawWireOf.f k l = some (w, h, a, b) ∧ (0 ≤ w ∧ w ≤ 6) ∧ (0 ≤ h ∧ h ≤ 6) ∧ (-2 ≤ a ∧ a ≤ 40) ∧ (-100 ≤ b ∧ b ≤ 100) := by
  unfold spec_DrawWireOf.f
  obtain ⟨w, h, a, b, e, hw, hh, ha, hb⟩ := drawTwo hl hk
  rw [bs e]
  dsimp only
  by_cases he : (l.length : Int) % 2 = 0
  · rw [if_pos he, bs rfl]
    have hm : mx b 0 = b := by unfold mx; split <;> omega
    rw [hm, w_in (n := (l.length : Int) / 2) (by omega) (by omega), w_in (n := (l.length : Int) / 2 + b) (by omega) (by omega)]
    have t := tm_bd (x := (l.length : Int) / 2 + b) (n := 4) (by omega) (by omega)
    generalize Int.tmod ((l.length : Int) / 2 + b) 4 = i at t
    rw [if_pos t.1, if_pos (show i < (([1, -1, w, wrap64 (-w)] : List Int).length : Int) from by simp only [List.length_cons, List.length_nil]; omega)]
    have hr : -6 ≤ rd [1, -1, w, wrap64 (-w)] i ∧ rd [1, -1, w, wrap64 (-w)] i ≤ 6 := by
      rw [w_in (n := -w) (by omega) (by omega)]
      have hi : i = 0 ∨ i = 1 ∨ i = 2 ∨ i = 3 := by omega
      rcases hi with rfl | rfl | rfl | rfl <;> simp [rd] <;> omega
    generalize rd [1, -1, w, wrap64 (-w)] i = z at hr
    rw [w_in (n := a + z) (by omega) (by omega)]
    exact ⟨w, h, a, a + z, rfl, hw, hh, ha, by omega⟩
  · rw [if_neg he]
    exact ⟨w, h, a, b, rfl, hw, hh, ha, by omega⟩
theorem wv_neg {w h a b : Int} (h0 : wv w h a b < 0) : wv w h a b = -1 := by
  unfold wv at h0 ⊢
  by_cases hn : nd w h a = true ∧ nd w h b = true
  · rw [if_pos hn] at h0 ⊢
    have oa := nd_open hn.1
    have ob := nd_open hn.2
    obtain ⟨v, hv⟩ := wr16_some w a b
    have := wr_val oa.1 (small oa.1 oa.2.1 oa.2.2) (small ob.1 ob.2.1 ob.2.2) hv
    have sa := small oa.1 oa.2.1 oa.2.2
    simp only [hv] at h0 ⊢
    omega
  · rw [if_neg hn]
theorem wv_open {w h a b : Int} (h0 : 0 ≤ wv w h a b) : nd w h a = true ∧ nd w h b = true ∧ wr16 w a b = some (wv w h a b) := by
  unfold wv at h0 ⊢
  by_cases hn : nd w h a = true ∧ nd w h b = true
  · rw [if_pos hn] at h0 ⊢
    obtain ⟨v, hv⟩ := wr16_some w a b
    refine ⟨hn.1, hn.2, ?_⟩
    simp only [hv]
  · rw [if_neg hn] at h0; omega
theorem way3 {w h a b : Int} (h0 : 0 ≤ wv w h a b) (h1 : 0 ≤ wv w h b a) : wayv w h [a, b, a] = true := by
  obtain ⟨ha, hb, e1⟩ := wv_open h0
  obtain ⟨_, _, e2⟩ := wv_open h1
  have n1 : ng w a b = false := by rw [ng_eq e1]; exact decide_eq_false (by omega)
  have n2 : ng w b a = false := by rw [ng_eq e2]; exact decide_eq_false (by omega)
  have hp : prs w [a, b, a] 0 3 = (!(ng w a b) && !(ng w b a)) := by simp [prs, rd]
  unfold wayv
  simp only [List.length_cons, List.length_nil]
  rw [hp, n1, n2]
  simp [ha, hb]
theorem wire_loop {w h a b n u : Int} (hw : 0 ≤ w ∧ w ≤ 6) (hh : 0 ≤ h ∧ h ≤ 6) (hn : n = wv w h a b) (hu : u = wv w h b a) (h0 : 0 ≤ n) (d : Nat) : ∀ (k : Nat) (c : Int), 0 ≤ c → c + d = w * h → d + 100 < k →
    laws_FnWire.l0 k w h a b n u (w * h) c = some true := by
  have hwh := wh_bd hw hh
  obtain ⟨ha, hb, e1⟩ := wv_open (hn ▸ h0)
  rw [← hn] at e1
  have oa := nd_open ha
  have ob := nd_open hb
  have sa := small oa.1 oa.2.1 oa.2.2
  have sb := small ob.1 ob.2.1 ob.2.2
  induction d with
  | zero =>
    intro k c hc0 hc hk
    obtain ⟨k, rfl⟩ : ∃ q, k = q + 1 := ⟨k - 1, by omega⟩
    simp only [laws_FnWire.l0]
    obtain ⟨u', eu, u0, une, ub, na⟩ := wr_back oa.1 sa sb e1 h0
    have huv : u = u' := by rw [hu]; unfold wv; rw [if_pos ⟨hb, ha⟩, eu]
    subst huv
    have hk2 := impl_way (w := w) (h := h) (l := [a, b, a]) (by simp) (k := k) (by simp; omega)
    rw [way3 (hn ▸ h0) (hu ▸ u0)] at hk2
    rw [if_neg (by omega), if_pos u0, if_neg une, Int.tdiv_eq_ediv_of_nonneg h0, Int.tdiv_eq_ediv_of_nonneg u0, na, ub, w_in (n := a) (by omega) (by omega), w_in (n := b) (by omega) (by omega), if_pos rfl, if_pos rfl, bs hk2]
  | succ d ih =>
    intro k c hc0 hc hk
    obtain ⟨k, rfl⟩ : ∃ q, k = q + 1 := ⟨k - 1, by omega⟩
    simp only [laws_FnWire.l0]
    rw [if_pos (by omega), w_in (n := c + 1) (by omega) (by omega)]
    by_cases e : c = b
    · rw [if_pos e]
      exact ih k (c + 1) (by omega) (by omega) (by omega)
    · rw [if_neg e, bs (impl_wv w h a c)]
      have hne : ¬ wv w h a c = n := fun e2 => by
        obtain ⟨_, hc, e3⟩ := wv_open (w := w) (h := h) (a := a) (b := c) (by omega)
        have oc := nd_open hc
        have sc := small oc.1 oc.2.1 oc.2.2
        rw [e2] at e3
        have k1 := wr_nb oa.1 sa sb e1 h0
        have k2 := wr_nb oa.1 sa sc e3 h0
        omega
      rw [if_neg hne]
      exact ih k (c + 1) (by omega) (by omega) (by omega)
theorem FnWire : laws_FnWire.Pure := by
  intro l _ _ hl
  refine ⟨1000, ?_⟩
  unfold laws_FnWire.f
  by_cases hlen : (l.length : Int) > 1048576
  · rw [if_pos hlen]
  rw [if_neg hlen]
  obtain ⟨w, h, a, b, e, hw, hh, ha, hb⟩ := drawWire (l := l) (by omega) hl (k := 1000) (by omega)
  have hwh := wh_bd hw hh
  rw [bs e]
  dsimp only
  rw [bs (impl_wv w h a b), bs (spec_wv (by omega)), if_pos rfl]
  show laws_FnWire.j0 (999 + 1) w h a b (wv w h a b) (decide (wv w h a b < 0)) = some true
  simp only [laws_FnWire.j0]
  by_cases h0 : wv w h a b < 0
  · rw [if_pos (decide_eq_true h0), bs (spec_wv (by omega)), if_pos rfl, wv_neg h0]
    rfl
  · rw [if_neg (by rw [decide_eq_false h0]; decide), bs (impl_wv w h b a), w_in (n := w * h) (by omega) (by omega)]
    exact wire_loop hw hh rfl rfl (by omega) (w * h).toNat 999 0 (by omega) (by omega) (by omega)

end Go.Proofs.Ytmakbieljmldfaa.Pure
