/- What both sides of FnWayCut compute, in plain Lean. -/
import Derived.Test.YtmakbieljmldfaaPFnWayCutx5
import Derived.Laws.BitsLemmas
import Derived.OpenShut
namespace Go.Proofs.Ytmakbieljmldfaa.Pure
open Go.RowKit Go.Proofs.Ytmakbieljmldfaa.PFnWayCut Go.Proofs.YtmakbieljmldfaaW.PrintWords Go.Proofs.YtmakbieljmldfaaW.PrintLast

theorem w_in {n : Int} (h0 : -9223372036854775808 ≤ n) (h1 : n ≤ 9223372036854775807) : wrap64 n = n := by unfold wrap64; omega

/-- A byte list's reader never fails: what 'pick' answers. -/
theorem b_rd {b : List Int} (hb : ∀ x ∈ b, 0 ≤ x ∧ x ≤ 255) (i : Int) : 0 ≤ rd b i ∧ rd b i ≤ 255 := by
  unfold rd
  rw [List.getD_eq_getElem?_getD]
  cases h : b[i.toNat]? with
  | none => simp
  | some x => exact hb x (List.mem_of_getElem? h)

theorem xor_nn {x y : Int} (hx0 : 0 ≤ x) (hx : x < 4611686018427387904) (hy0 : 0 ≤ y) (hy : y < 4611686018427387904) : 0 ≤ Go.bits .xor .i64 x y := by
  obtain ⟨a, rfl⟩ := Int.eq_ofNat_of_zero_le hx0
  obtain ⟨b, rfl⟩ := Int.eq_ofNat_of_zero_le hy0
  have ha : a < 2 ^ 62 := by simp; omega
  have hb : b < 2 ^ 62 := by simp; omega
  have hc : a ^^^ b < 2 ^ 62 := Nat.xor_lt_two_pow ha hb
  have ha' : a % 2 ^ 64 = a := Nat.mod_eq_of_lt (by simp at ha ⊢; omega)
  have hb' : b % 2 ^ 64 = b := Nat.mod_eq_of_lt (by simp at hb ⊢; omega)
  have key : (BitVec.ofNat 64 a ^^^ BitVec.ofNat 64 b).toNat = a ^^^ b := by rw [BitVec.toNat_xor, BitVec.toNat_ofNat, BitVec.toNat_ofNat, ha', hb']
  have e : Go.bits .xor .i64 (a : Int) (b : Int) = IntKind.i64.wrap (((BitVec.ofNat 64 a ^^^ BitVec.ofNat 64 b).toNat : Nat) : Int) := by
    simp only [Go.bits, BitVec.ofInt_natCast]
    rfl
  rw [e, key, IntKind.wrap_i64]
  generalize a ^^^ b = c at hc
  simp at hc
  omega

theorem tm_bd {x n : Int} (hx : 0 ≤ x) (hn : 0 < n) : 0 ≤ Int.tmod x n ∧ Int.tmod x n < n := by
  rw [Int.tmod_eq_emod_of_nonneg hx]
  exact ⟨Int.emod_nonneg _ (by omega), Int.emod_lt_of_pos _ hn⟩

theorem pick_ok {k : Nat} {b : List Int} {p n : Int} (hb : ∀ x ∈ b, 0 ≤ x ∧ x ≤ 255) (hp0 : 0 ≤ p) (hp : p ≤ 100000000) (hn : 1 ≤ n) (hk : 0 < k) :
    ∃ v, spec_l21Rd_pick.f k b p n = some (v, p + 1) ∧ 0 ≤ v ∧ v < n := by
  obtain ⟨k, rfl⟩ : ∃ m, k = m + 1 := ⟨k - 1, by omega⟩
  have e1 : wrap64 (p + 1) = p + 1 := w_in (by omega) (by omega)
  have e2 : wrap64 (p + 1 - 1) = p := by rw [show p + 1 - 1 = p by omega]; exact w_in (by omega) (by omega)
  unfold spec_l21Rd_pick.f
  rw [if_neg (by omega), e1]
  simp only [spec_l21Rd_pick.j0, e2]
  by_cases h0 : b.length = 0
  · rw [if_pos (by simp [h0])]
    exact ⟨0, rfl, by omega, by omega⟩
  rw [if_neg (by simp; intro h; simp [h] at h0)]
  have hl : 0 < (b.length : Int) := by omega
  by_cases h1 : p < (b.length : Int)
  · rw [if_pos h1, if_pos hp0, if_neg (by omega)]
    have := b_rd hb p
    rw [w_in (n := rd b p) (by omega) (by omega)]
    exact ⟨_, rfl, (tm_bd this.1 (by omega)).1, (tm_bd this.1 (by omega)).2⟩
  rw [if_neg h1, if_neg (by omega)]
  have m1 := tm_bd (x := p) (n := b.length) hp0 hl
  have e3 : wrap64 (p * 7) = p * 7 := w_in (by omega) (by omega)
  have e4 : wrap64 (p * 7 + 3) = p * 7 + 3 := w_in (by omega) (by omega)
  have m2 := tm_bd (x := p * 7 + 3) (n := b.length) (by omega) hl
  rw [e3, e4, if_pos m1.1, if_pos m1.2, if_pos m2.1, if_pos m2.2, if_neg (by omega)]
  have r1 := b_rd hb (Int.tmod p b.length)
  have r2 := b_rd hb (Int.tmod (p * 7 + 3) b.length)
  generalize rd b (Int.tmod p b.length) = u at r1
  generalize rd b (Int.tmod (p * 7 + 3) b.length) = v at r2
  have d1 : 0 ≤ Int.tdiv p b.length ∧ Int.tdiv p b.length ≤ p := by
    rw [Int.tdiv_eq_ediv_of_nonneg hp0]
    exact ⟨Int.ediv_nonneg hp0 (by omega), Int.ediv_le_self _ hp0⟩
  generalize Int.tdiv p b.length = d at d1
  have e5 : wrap64 (wrap64 (wrap64 (wrap64 (wrap64 u * 131) + wrap64 (wrap64 v * 1117)) + wrap64 (p * 29)) + wrap64 (wrap64 d * 53)) = u * 131 + v * 1117 + p * 29 + d * 53 := by
    rw [w_in (n := u) (by omega) (by omega), w_in (n := v) (by omega) (by omega), w_in (n := d) (by omega) (by omega), w_in (n := u * 131) (by omega) (by omega), w_in (n := v * 1117) (by omega) (by omega), w_in (n := p * 29) (by omega) (by omega), w_in (n := d * 53) (by omega) (by omega), w_in (n := u * 131 + v * 1117) (by omega) (by omega), w_in (n := u * 131 + v * 1117 + p * 29) (by omega) (by omega), w_in (by omega) (by omega)]
  rw [e5]
  have hx0 : 0 ≤ u * 131 + v * 1117 + p * 29 + d * 53 := by omega
  have hx1 : u * 131 + v * 1117 + p * 29 + d * 53 < 4611686018427387904 := by omega
  generalize u * 131 + v * 1117 + p * 29 + d * 53 = x at hx0 hx1
  have d2 : 0 ≤ Int.tdiv x 64 ∧ Int.tdiv x 64 < 4611686018427387904 := by
    rw [Int.tdiv_eq_ediv_of_nonneg hx0]
    omega
  rw [w_in (n := Int.tdiv x 64) (by omega) (by omega)]
  have hz := xor_nn hx0 hx1 d2.1 d2.2
  exact ⟨_, rfl, (tm_bd hz (by omega)).1, (tm_bd hz (by omega)).2⟩

theorem num_ok {k : Nat} {b : List Int} {p : Int} {xs : List Int} (hb : ∀ x ∈ b, 0 ≤ x ∧ x ≤ 255) (hp0 : 0 ≤ p) (hp : p ≤ 100000000) (hn : 1 ≤ xs.length) (hk : 0 < k) :
    ∃ v, spec_l21Rd_num.f k b p xs = some (v, p + 1) ∧ v ∈ xs := by
  obtain ⟨i, hi, h0, h1⟩ := pick_ok (n := (xs.length : Int)) hb hp0 hp (by omega) hk
  refine ⟨rd xs i, ?_, ?_⟩
  · unfold spec_l21Rd_num.f
    rw [hi]
    simp only [Option.bind_some]
    rw [if_pos h0, if_pos h1]
  · unfold rd
    rw [List.getD_eq_getElem?_getD, List.getElem?_eq_getElem (by omega)]
    exact List.getElem_mem _

theorem open_ok {l : List Int} (hl : ∀ x ∈ l, (Lit.int .u8 x).wf = true) : ∃ b, spec_l21Open.f l = some (b, 0) ∧ ∀ x ∈ b, 0 ≤ x ∧ x ≤ 255 := by
  have hb : ∀ x ∈ l, 0 ≤ x ∧ x ≤ 255 := fun x hx => bounds_u8 (hl x hx)
  unfold spec_l21Open.f
  by_cases h : (l.length : Int) > 2000
  · rw [if_pos h, if_pos (by omega)]
    exact ⟨_, rfl, fun x hx => hb x (List.mem_of_mem_take hx)⟩
  · rw [if_neg h]
    exact ⟨_, rfl, hb⟩

theorem allO_total {α : Type} {p : α → Option Bool} {q : α → Bool} : ∀ (l : List α), (∀ x ∈ l, p x = some (q x)) → allO p l = some (l.all q)
  | [], _ => rfl
  | x :: xs, h => by
    have ih := allO_total xs (fun y hy => h y (List.mem_cons_of_mem _ hy))
    simp only [allO, h x (List.mem_cons_self), Option.bind_some, List.all_cons]
    cases q x
    · simp
    · simpa using ih

theorem rd_at {l : List Int} {i : Int} (h0 : 0 ≤ i) (h : i.toNat < l.length) : l.drop i.toNat = rd l i :: l.drop (i + 1).toNat := by
  rw [List.drop_eq_getElem_cons h, show (i + 1).toNat = i.toNat + 1 by omega]
  unfold rd
  rw [List.getD_eq_getElem?_getD, List.getElem?_eq_getElem h]
  rfl
theorem rd_mem {l : List Int} {i : Int} (h0 : 0 ≤ i) (h : i < l.length) : rd l i ∈ l := by
  unfold rd
  rw [List.getD_eq_getElem?_getD, List.getElem?_eq_getElem (by omega)]
  exact List.getElem_mem _

theorem s_in (a b c : Int) : spec_l1In.f a b c = some (decide (b ≤ a ∧ a ≤ c)) := by
  unfold spec_l1In.f
  by_cases h : b ≤ a <;> simp [h]
theorem i_in (a b c : Int) : impl_within.f a b c = some (decide (b ≤ a ∧ a ≤ c)) := by
  unfold impl_within.f
  by_cases h : b ≤ a <;> simp [h]
theorem wire_l0 (a d0 d1 : Int) : impl_fabric_wire.l0 5 a d0 d1 0 = if d0 = 1 ∧ d1 = 0 then some (wrap64 (wrap64 (4 * a) + 0)) else if d0 = -1 ∧ d1 = 0 then some (wrap64 (wrap64 (4 * a) + 1)) else if d0 = 0 ∧ d1 = 1 then some (wrap64 (wrap64 (4 * a) + 2)) else if d0 = 0 ∧ d1 = -1 then some (wrap64 (wrap64 (4 * a) + 3)) else some (-1) := by
  rfl
def nodes (w h a b : Int) : Bool := decide (1 ≤ w ∧ w ≤ 5) && decide (1 ≤ h ∧ h ≤ 5) && decide (0 ≤ a ∧ a ≤ wrap64 (wrap64 (w * h) - 1)) && decide (0 ≤ b ∧ b ≤ wrap64 (wrap64 (w * h) - 1))
theorem spec_nodes (w h a b : Int) : spec_l16Nodes.f w h a b = some (nodes w h a b) := by
  unfold spec_l16Nodes.f spec_l16Fabric.f nodes
  simp only [s_in, Option.bind_some]
  generalize decide (1 ≤ w ∧ w ≤ 5) = x
  generalize decide (1 ≤ h ∧ h ≤ 5) = y
  generalize decide (0 ≤ a ∧ a ≤ wrap64 (wrap64 (w * h) - 1)) = z
  generalize decide (0 ≤ b ∧ b ≤ wrap64 (wrap64 (w * h) - 1)) = u
  cases x <;> cases y <;> cases z <;> cases u <;> rfl
theorem small {w h n : Int} (h1 : 1 ≤ w ∧ w ≤ 5) (h2 : 1 ≤ h ∧ h ≤ 5) (h3 : 0 ≤ n ∧ n ≤ wrap64 (wrap64 (w * h) - 1)) : 0 ≤ n ∧ n ≤ 24 := by
  have e : 0 ≤ w * h ∧ w * h ≤ 25 := by
    have hh : h = 1 ∨ h = 2 ∨ h = 3 ∨ h = 4 ∨ h = 5 := by omega
    rcases hh with rfl | rfl | rfl | rfl | rfl <;> omega
  rw [w_in (n := w * h) (by omega) (by omega), w_in (n := w * h - 1) (by omega) (by omega)] at h3
  omega
theorem tm {n w : Int} (h0 : 0 ≤ n ∧ n ≤ 24) (hw : 1 ≤ w ∧ w ≤ 5) : (0 ≤ Int.tmod n w ∧ Int.tmod n w ≤ 4) ∧ (0 ≤ Int.tdiv n w ∧ Int.tdiv n w ≤ 24) := by
  rw [Int.tmod_eq_emod_of_nonneg h0.1, Int.tdiv_eq_ediv_of_nonneg h0.1]
  have a := Int.emod_nonneg n (show w ≠ 0 by omega)
  have b := Int.emod_lt_of_pos n (show 0 < w by omega)
  have c := Int.ediv_nonneg h0.1 (show 0 ≤ w by omega)
  have d := Int.ediv_le_self w h0.1
  exact ⟨⟨a, by omega⟩, ⟨c, by omega⟩⟩
theorem wires (a ax ay bx by_ : Int) (hax : 0 ≤ ax ∧ ax ≤ 4) (hay : 0 ≤ ay ∧ ay ≤ 24) (hbx : 0 ≤ bx ∧ bx ≤ 4) (hby : 0 ≤ by_ ∧ by_ ≤ 24) (ha : 0 ≤ a ∧ a ≤ 24) (k : Nat) :
    (if ay = by_ then spec_l16Wire.j0 (k + 3) a ax ay bx by_ (bx == wrap64 (ax + 1)) else spec_l16Wire.j0 (k + 3) a ax ay bx by_ false) = impl_fabric_wire.l0 5 a (wrap64 (bx - ax)) (wrap64 (by_ - ay)) 0 := by
  rw [wire_l0, w_in (n := bx - ax) (by omega) (by omega), w_in (n := by_ - ay) (by omega) (by omega), w_in (n := ax + 1) (by omega) (by omega)]
  simp only [spec_l16Wire.j0, spec_l16Wire.j1, spec_l16Wire.j2]
  rw [w_in (n := 4 * a) (by omega) (by omega), w_in (n := 4 * a + 0) (by omega) (by omega), w_in (n := ax - 1) (by omega) (by omega), w_in (n := ay + 1) (by omega) (by omega), w_in (n := ay - 1) (by omega) (by omega), Int.add_zero]
  by_cases e1 : ay = by_
  · by_cases e2 : bx = ax + 1
    · have q : (bx == ax + 1) = true := beq_iff_eq.mpr e2
      rw [if_pos e1, if_pos q, if_pos (show (bx - ax = 1 ∧ by_ - ay = 0) by omega)]
    · have q : ¬ ((bx == ax + 1) = true) := by simpa using e2
      rw [if_pos e1, if_neg q, if_pos e1, if_neg (show ¬ (bx - ax = 1 ∧ by_ - ay = 0) by omega)]
      by_cases e3 : bx = ax - 1
      · have q : (bx == ax - 1) = true := beq_iff_eq.mpr e3
        rw [if_pos q, if_pos (show (bx - ax = -1 ∧ by_ - ay = 0) by omega)]
      · have q : ¬ ((bx == ax - 1) = true) := by simpa using e3
        rw [if_neg q, if_neg (show ¬ (bx - ax = -1 ∧ by_ - ay = 0) by omega), if_neg (show ¬ (bx - ax = 0 ∧ by_ - ay = 1) by omega), if_neg (show ¬ (bx - ax = 0 ∧ by_ - ay = -1) by omega)]
        by_cases e4 : ax = bx
        · have q : ¬ ((by_ == ay + 1) = true) := by simp; omega
          rw [if_pos e4, if_neg q, if_pos e4, if_neg (show ¬ by_ = ay - 1 by omega)]
        · rw [if_neg e4, if_neg (show ¬ (false = true) by decide), if_neg e4]
  · rw [if_neg e1, if_neg (show ¬ (false = true) by decide), if_neg e1, if_neg (show ¬ (false = true) by decide), if_neg (show ¬ (bx - ax = 1 ∧ by_ - ay = 0) by omega), if_neg (show ¬ (bx - ax = -1 ∧ by_ - ay = 0) by omega)]
    by_cases e4 : ax = bx
    · rw [if_pos e4]
      by_cases e5 : by_ = ay + 1
      · have q : (by_ == ay + 1) = true := beq_iff_eq.mpr e5
        rw [if_pos q, if_pos (show (bx - ax = 0 ∧ by_ - ay = 1) by omega)]
      · have q : ¬ ((by_ == ay + 1) = true) := by simpa using e5
        rw [if_neg q, if_pos e4, if_neg (show ¬ (bx - ax = 0 ∧ by_ - ay = 1) by omega)]
        by_cases e6 : by_ = ay - 1
        · rw [if_pos e6, if_pos (show (bx - ax = 0 ∧ by_ - ay = -1) by omega)]
        · rw [if_neg e6, if_neg (show ¬ (bx - ax = 0 ∧ by_ - ay = -1) by omega)]
    · rw [if_neg e4, if_neg (show ¬ (false = true) by decide), if_neg e4, if_neg (show ¬ (bx - ax = 0 ∧ by_ - ay = 1) by omega), if_neg (show ¬ (bx - ax = 0 ∧ by_ - ay = -1) by omega)]
def nd (w h x : Int) : Bool := decide (1 ≤ w ∧ w ≤ 5) && decide (1 ≤ h ∧ h ≤ 5) && decide (0 ≤ x ∧ x ≤ wrap64 (wrap64 (w * h) - 1))
theorem nd_open {w h x : Int} (k : nd w h x = true) : (1 ≤ w ∧ w ≤ 5) ∧ (1 ≤ h ∧ h ≤ 5) ∧ (0 ≤ x ∧ x ≤ wrap64 (wrap64 (w * h) - 1)) := by
  simp only [nd, Bool.and_eq_true, decide_eq_true_eq] at k
  exact ⟨k.1.1, k.1.2, k.2⟩
theorem spec_nd (w h x : Int) : spec_l16Nodes.f w h x x = some (nd w h x) := by
  rw [spec_nodes]
  unfold nodes nd
  generalize decide (1 ≤ w ∧ w ≤ 5) = a
  generalize decide (1 ≤ h ∧ h ≤ 5) = b
  generalize decide (0 ≤ x ∧ x ≤ wrap64 (wrap64 (w * h) - 1)) = c
  cases a <;> cases b <;> cases c <;> rfl
theorem impl_nd (w h x : Int) : impl_fabric_node.f w h x = some (nd w h x) := by
  unfold impl_fabric_node.f impl_fabric_valid.f nd
  simp only [i_in, Option.bind_some]
  generalize decide (1 ≤ w ∧ w ≤ 5) = a
  generalize decide (1 ≤ h ∧ h ≤ 5) = b
  generalize decide (0 ≤ x ∧ x ≤ wrap64 (wrap64 (w * h) - 1)) = c
  cases a <;> cases b <;> cases c <;> rfl
def wr16 (w a b : Int) : Option Int := impl_fabric_wire.l0 5 a (wrap64 (Int.tmod b w - Int.tmod a w)) (wrap64 (wrap64 (Int.tdiv b w) - wrap64 (Int.tdiv a w))) 0
theorem wr16_some (w a b : Int) : ∃ v, wr16 w a b = some v := by
  unfold wr16
  rw [wire_l0]
  split
  · exact ⟨_, rfl⟩
  · split
    · exact ⟨_, rfl⟩
    · split
      · exact ⟨_, rfl⟩
      · split <;> exact ⟨_, rfl⟩
theorem spec_wire16 {w h a b : Int} (ka : nd w h a = true) (kb : nd w h b = true) {k : Nat} (hk : 3 ≤ k) : spec_l16Wire.f k w a b = wr16 w a b := by
  obtain ⟨k, rfl⟩ : ∃ q, k = q + 3 := ⟨k - 3, by omega⟩
  have oa := nd_open ka
  have ob := nd_open kb
  have ha := small oa.1 oa.2.1 oa.2.2
  have hb := small ob.1 ob.2.1 ob.2.2
  have ta := tm ha oa.1
  have tb := tm hb oa.1
  have hw : ¬ w = 0 := by omega
  unfold spec_l16Wire.f wr16
  rw [if_neg hw, w_in (n := Int.tdiv a w) (by omega) (by omega), w_in (n := Int.tdiv b w) (by omega) (by omega)]
  exact wires a _ _ _ _ ta.1 ta.2 tb.1 tb.2 ha k
theorem impl_wire16 {w h a b : Int} (ka : nd w h a = true) (kb : nd w h b = true) : impl_fabric_wire.f w h a b = wr16 w a b := by
  have oa := nd_open ka
  have hw : ¬ w = 0 := by omega
  unfold impl_fabric_wire.f wr16
  rw [impl_nd, impl_nd, ka, kb]
  simp only [Option.bind_some, if_true]
  rw [if_neg hw]
def ng (w a b : Int) : Bool := match wr16 w a b with | some v => decide (v < 0) | none => false
theorem ng_eq {w a b v : Int} (h : wr16 w a b = some v) : ng w a b = decide (v < 0) := by unfold ng; rw [h]
/-- Is each wire there, from index i on? -/
def prs (w : Int) (l : List Int) : Int → Nat → Bool
  | _, 0 => true
  | i, d + 1 => (decide (i ≤ 0) || !(ng w (rd l (i - 1)) (rd l i))) && prs w l (i + 1) d
theorem spec_way_loop (w h : Int) (l : List Int) (hl : l.length ≤ 9223372036854775806) (d : Nat) : ∀ (k : Nat) (i : Int), 0 ≤ i → i + d = l.length → d + 5 < k → (i > 0 → nd w h (rd l (i - 1)) = true) →
    spec_WayValid.l0 k w h l i = some ((l.drop i.toNat).all (nd w h) && prs w l i d && decide (1 ≤ (l.length : Int) ∧ (l.length : Int) ≤ 30)) := by
  induction d with
  | zero =>
    intro k i h0 h1 hk hp
    obtain ⟨k, rfl⟩ : ∃ m, k = m + 1 := ⟨k - 1, by omega⟩
    simp only [spec_WayValid.l0, s_in, Option.bind_some]
    rw [if_neg (by omega), List.drop_eq_nil_of_le (by omega)]
    simp only [List.all_nil, prs, Bool.true_and]
  | succ d ih =>
    intro k i h0 h1 hk hp
    obtain ⟨k, rfl⟩ : ∃ m, k = m + 1 := ⟨k - 1, by omega⟩
    rw [rd_at h0 (by omega)]
    simp only [spec_WayValid.l0, spec_nd, Option.bind_some]
    rw [if_pos (by omega), if_pos h0, w_in (n := i - 1) (by omega) (by omega), w_in (n := i + 1) (by omega) (by omega)]
    simp only [List.all_cons, prs]
    by_cases hc : nd w h (rd l i) = true
    · rw [if_pos hc, ih k (i + 1) (by omega) (by omega) (by omega) (fun _ => by rw [show i + 1 - 1 = i by omega]; exact hc)]
      simp only [hc, Bool.true_and]
      by_cases hi : i > 0
      · have e : decide (i ≤ 0) = false := by simp; omega
        obtain ⟨v, hv⟩ := wr16_some w (rd l (i - 1)) (rd l i)
        rw [if_pos hi, if_pos (by omega), if_pos (by omega), spec_wire16 (hp hi) hc (by omega), hv, ng_eq hv, e]
        simp only [Option.bind_some, Bool.false_or]
        by_cases q : v < 0
        · rw [if_pos q]
          simp [q]
        · rw [if_neg q]
          simp [q]
      · have e : decide (i ≤ 0) = true := by simp; omega
        rw [if_neg hi, e]
        simp
    · rw [if_neg hc]
      simp [hc]
theorem rd_all {p : Int → Bool} {l : List Int} (h : l.all p = true) {i : Int} (h0 : 0 ≤ i) (h1 : i < l.length) : p (rd l i) = true := List.all_eq_true.mp h _ (rd_mem h0 h1)
theorem impl_way_loop (w h : Int) (l : List Int) (hl : l.length ≤ 9223372036854775806) (ha : l.all (nd w h) = true) (d : Nat) : ∀ (k : Nat) (i : Int), 1 ≤ i → i + d = l.length → d < k →
    impl_fabric_way.l0 k l i w h = some (prs w l i d) := by
  induction d with
  | zero =>
    intro k i h0 h1 hk
    obtain ⟨k, rfl⟩ : ∃ m, k = m + 1 := ⟨k - 1, by omega⟩
    simp only [impl_fabric_way.l0]
    rw [if_neg (by omega)]
    rfl
  | succ d ih =>
    intro k i h0 h1 hk
    obtain ⟨k, rfl⟩ : ∃ m, k = m + 1 := ⟨k - 1, by omega⟩
    simp only [impl_fabric_way.l0]
    have e : decide (i ≤ 0) = false := by simp; omega
    obtain ⟨v, hv⟩ := wr16_some w (rd l (i - 1)) (rd l i)
    rw [if_pos (by omega), w_in (n := i - 1) (by omega) (by omega), w_in (n := i + 1) (by omega) (by omega), if_pos (by omega), if_pos (by omega), if_pos (by omega), impl_wire16 (rd_all ha (by omega) (by omega)) (rd_all ha (by omega) (by omega)), hv, ih k (i + 1) (by omega) (by omega) (by omega)]
    simp only [Option.bind_some, prs, ng_eq hv, e, Bool.false_or]
    by_cases q : v < 0
    · rw [if_pos q]
      simp [q]
    · rw [if_neg q]
      simp [q]
def wayv (w h : Int) (l : List Int) : Bool := l.all (nd w h) && prs w l 0 l.length && decide (1 ≤ (l.length : Int) ∧ (l.length : Int) ≤ 30)
theorem spec_way {w h : Int} {l : List Int} (hl : l.length ≤ 9223372036854775806) {k : Nat} (hk : l.length + 5 < k) : spec_WayValid.f k w h l = some (wayv w h l) := by
  unfold spec_WayValid.f wayv
  rw [spec_way_loop w h l hl l.length k 0 (by omega) (by omega) hk (fun h => by omega)]
  simp
theorem impl_way {w h : Int} {l : List Int} (hl : l.length ≤ 9223372036854775806) {k : Nat} (hk : l.length + 5 < k) : impl_WayValid.f k w h l = some (wayv w h l) := by
  obtain ⟨k, rfl⟩ : ∃ m, k = m + 1 := ⟨k - 1, by omega⟩
  unfold impl_WayValid.f impl_fabric_way.f all_impl_fabric_node.f wayv
  rw [i_in, allO_total (q := nd w h) l (fun x _ => impl_nd w h x)]
  simp only [Option.bind_some, impl_fabric_way.j0]
  by_cases h1 : 1 ≤ (l.length : Int) ∧ (l.length : Int) ≤ 30
  · rw [if_pos (by simpa using h1)]
    by_cases ha : l.all (nd w h) = true
    · rw [if_neg (by simp only [ha]; decide), impl_way_loop w h l hl ha (l.length - 1) k 1 (by omega) (by omega) (by omega), ha, decide_eq_true h1]
      obtain ⟨n, hn⟩ : ∃ n, l.length = n + 1 := ⟨l.length - 1, by omega⟩
      rw [hn]
      simp [prs]
    · have e : l.all (nd w h) = false := by simpa using ha
      rw [if_pos (by simp only [e]; decide), e]
      rfl
  · rw [if_neg (by simpa using h1), decide_eq_false h1]
    simp
theorem bs {α β : Type} {x : Option α} {a : α} {f : α → Option β} (h : x = some a) : x.bind f = f a := by rw [h]; rfl
theorem wh_bd {w h : Int} (hw : 0 ≤ w ∧ w ≤ 6) (hh : 0 ≤ h ∧ h ≤ 6) : 0 ≤ w * h ∧ w * h ≤ 36 := by
  have : h = 0 ∨ h = 1 ∨ h = 2 ∨ h = 3 ∨ h = 4 ∨ h = 5 ∨ h = 6 := by omega
  rcases this with rfl | rfl | rfl | rfl | rfl | rfl | rfl <;> omega
theorem drawSize {b : List Int} (hb : ∀ x ∈ b, 0 ≤ x ∧ x ≤ 255) {k : Nat} (hk : 0 < k) {p : Int} (hp : 0 ≤ p) (hp2 : p ≤ 1000000) :
    ∃ w h, spec_l16Size.f k b p = some (w, h, p + 1 + 1 + 1) ∧ (0 ≤ w ∧ w ≤ 6) ∧ (0 ≤ h ∧ h ≤ 6) := by
  unfold spec_l16Size.f
  obtain ⟨q, hq, _, _⟩ := pick_ok (k := k) (n := 40) hb hp (by omega) (by omega) hk
  rw [bs hq]
  dsimp only
  by_cases e : q = 0
  · rw [if_pos e]
    obtain ⟨w, hw, hm⟩ := num_ok (k := k) (p := p + 1) (xs := [0, 6, 3]) hb (by omega) (by omega) (by simp) hk
    rw [bs hw]
    dsimp only
    obtain ⟨h, hh, hm2⟩ := num_ok (k := k) (p := p + 1 + 1) (xs := [0, 6, 2]) hb (by omega) (by omega) (by simp) hk
    rw [bs hh]
    dsimp only
    have a1 : w = 0 ∨ w = 6 ∨ w = 3 := by simpa using hm
    have a2 : h = 0 ∨ h = 6 ∨ h = 2 := by simpa using hm2
    exact ⟨w, h, rfl, by omega, by omega⟩
  · rw [if_neg e]
    obtain ⟨w, hw, hm⟩ := num_ok (k := k) (p := p + 1) (xs := [3, 2, 4, 5, 1]) hb (by omega) (by omega) (by simp) hk
    rw [bs hw]
    dsimp only
    obtain ⟨h, hh, hm2⟩ := num_ok (k := k) (p := p + 1 + 1) (xs := [3, 2, 2, 5, 1]) hb (by omega) (by omega) (by simp) hk
    rw [bs hh]
    dsimp only
    have a1 : w = 3 ∨ w = 2 ∨ w = 4 ∨ w = 5 ∨ w = 1 := by simpa using hm
    have a2 : h = 3 ∨ h = 2 ∨ h = 2 ∨ h = 5 ∨ h = 1 := by simpa using hm2
    exact ⟨w, h, rfl, by omega, by omega⟩
theorem nd_mk {w h x : Int} (hw : 1 ≤ w ∧ w ≤ 5) (hh : 1 ≤ h ∧ h ≤ 5) (hx : 0 ≤ x ∧ x ≤ w * h - 1) : nd w h x = true := by
  have hwh := wh_bd (w := w) (h := h) (by omega) (by omega)
  unfold nd
  rw [w_in (n := w * h) (by omega) (by omega), w_in (n := w * h - 1) (by omega) (by omega)]
  simp only [Bool.and_eq_true, decide_eq_true_eq]
  exact ⟨⟨hw, hh⟩, hx⟩
theorem walk_loop {b : List Int} (hb : ∀ x ∈ b, 0 ≤ x ∧ x ≤ 255) {w h : Int} (hw : 1 ≤ w ∧ w ≤ 5) (hh : 1 ≤ h ∧ h ≤ 5) (d : Nat) : ∀ (k : Nat) (at_ p : Int) (acc : List Int), d + 20 < k → 0 ≤ p → p + d ≤ 1000000 → (0 ≤ at_ ∧ at_ ≤ w * h - 1) → acc.length + d ≤ 1000 → 1 ≤ acc.length →
    ∃ out, spec_l16Walk.l0 k w h at_ acc (d : Int) b p = some (out, p + d) ∧ out.length ≤ acc.length + d ∧ 1 ≤ out.length := by
  have hwh := wh_bd (w := w) (h := h) (by omega) (by omega)
  induction d with
  | zero =>
    intro k at_ p acc hk hp hp2 ha hl h1
    obtain ⟨k, rfl⟩ : ∃ m, k = m + 1 := ⟨k - 1, by omega⟩
    simp only [spec_l16Walk.l0]
    rw [if_neg (by omega)]
    exact ⟨acc, by simp, by omega, h1⟩
  | succ d ih =>
    intro k at_ p acc hk hp hp2 ha hl h1
    obtain ⟨k, rfl⟩ : ∃ m, k = m + 1 := ⟨k - 1, by omega⟩
    simp only [spec_l16Walk.l0]
    obtain ⟨v, hv, hm⟩ := num_ok (k := k) (p := p) (xs := [1, -1, w, wrap64 (-w)]) hb hp (by omega) (by simp) (by omega)
    rw [w_in (n := -w) (by omega) (by omega)] at hm hv
    have hv2 : v = 1 ∨ v = -1 ∨ v = w ∨ v = -w := by simpa using hm
    rw [if_pos (by omega), w_in (n := -w) (by omega) (by omega), bs hv]
    dsimp only
    rw [w_in (n := at_ + v) (by omega) (by omega), s_in, w_in (n := w * h) (by omega) (by omega), w_in (n := w * h - 1) (by omega) (by omega), bs rfl, w_in (n := ((d + 1 : Nat) : Int) - 1) (by omega) (by omega), show ((d + 1 : Nat) : Int) - 1 = (d : Int) by omega, show p + ((d + 1 : Nat) : Int) = p + 1 + (d : Int) by omega]
    by_cases hin : 0 ≤ at_ + v ∧ at_ + v ≤ w * h - 1
    · rw [if_pos (decide_eq_true hin), spec_wire16 (nd_mk hw hh ha) (nd_mk hw hh hin) (by omega)]
      obtain ⟨u, hu⟩ := wr16_some w at_ (at_ + v)
      rw [bs hu]
      by_cases hu0 : u ≥ 0
      · rw [if_pos hu0, if_pos (by omega)]
        obtain ⟨out, e, e1, e2⟩ := ih k (at_ + v) (p + 1) (acc ++ [at_ + v]) (by omega) (by omega) (by omega) hin (by simp; omega) (by simp)
        exact ⟨out, e, by simp at e1; omega, e2⟩
      · rw [if_neg hu0]
        obtain ⟨out, e, e1, e2⟩ := ih k at_ (p + 1) acc (by omega) (by omega) (by omega) ha (by omega) h1
        exact ⟨out, e, by omega, e2⟩
    · rw [if_neg (by rw [decide_eq_false hin]; decide)]
      obtain ⟨out, e, e1, e2⟩ := ih k at_ (p + 1) acc (by omega) (by omega) (by omega) ha (by omega) h1
      exact ⟨out, e, by omega, e2⟩
theorem drawWalk {b : List Int} (hb : ∀ x ∈ b, 0 ≤ x ∧ x ≤ 255) {w h : Int} (hw : 1 ≤ w ∧ w ≤ 5) (hh : 1 ≤ h ∧ h ≤ 5) {k : Nat} (hk : 40 < k) {p : Int} (hp : 0 ≤ p) (hp2 : p ≤ 100000) :
    ∃ out p', spec_l16Walk.f k b p w h = some (out, p') ∧ p ≤ p' ∧ p' ≤ p + 20 ∧ out.length ≤ 10 ∧ 1 ≤ out.length := by
  have hwh := wh_bd (w := w) (h := h) (by omega) (by omega)
  have hwh1 : 1 ≤ w * h := by
    have : h = 1 ∨ h = 2 ∨ h = 3 ∨ h = 4 ∨ h = 5 := by omega
    rcases this with rfl | rfl | rfl | rfl | rfl <;> omega
  unfold spec_l16Walk.f
  rw [w_in (n := w * h) (by omega) (by omega)]
  obtain ⟨a, ha, a0, a1⟩ := pick_ok (k := k) (p := p) (n := w * h) hb hp (by omega) hwh1 (by omega)
  rw [bs ha]
  dsimp only
  obtain ⟨v, hv, hm⟩ := num_ok (k := k) (p := p + 1) (xs := [3, 5, 2, 1, 9]) hb (by omega) (by omega) (by simp) (by omega)
  rw [bs hv]
  dsimp only
  have hv2 : v = 3 ∨ v = 5 ∨ v = 2 ∨ v = 1 ∨ v = 9 := by simpa using hm
  obtain ⟨n, rfl⟩ : ∃ n : Nat, v = n := ⟨v.toNat, by omega⟩
  obtain ⟨out, e, e1, e2⟩ := walk_loop hb hw hh n k a (p + 1 + 1) [a] (by omega) (by omega) (by omega) (by omega) (by simp; omega) (by simp)
  exact ⟨out, _, e, by omega, by omega, by simp at e1; omega, e2⟩
theorem drawWay {l : List Int} (hl : ∀ x ∈ l, (Lit.int .u8 x).wf = true) {k : Nat} (hk : 40 < k) : ∃ w h way, spec_DrawWayValid.f k l = some (w, h, way) ∧ way.length ≤ 10 := by
  unfold spec_DrawWayValid.f
  obtain ⟨b, ho, hb⟩ := open_ok hl
  rw [bs ho]
  dsimp only
  obtain ⟨w, h, hs, hw, hh⟩ := drawSize hb (k := k) (by omega) (p := 0) (by omega) (by omega)
  have hwh := wh_bd hw hh
  rw [bs hs]
  dsimp only
  unfold spec_l16Fabric.f
  rw [s_in, s_in]
  by_cases h1 : 1 ≤ w ∧ w ≤ 5
  · by_cases h2 : 1 ≤ h ∧ h ≤ 5
    · rw [bs rfl, if_pos (decide_eq_true h1), bs rfl, decide_eq_true h2, bs rfl, if_pos rfl]
      obtain ⟨out, p', e, e1, e2, e3, e4⟩ := drawWalk hb h1 h2 hk (p := 0 + 1 + 1 + 1) (by omega) (by omega)
      rw [bs e]
      dsimp only
      obtain ⟨q, hq, _, _⟩ := pick_ok (k := k) (p := p') (n := 4) hb (by omega) (by omega) (by omega) (by omega)
      rw [bs hq]
      dsimp only
      by_cases hq0 : q = 0
      · rw [if_pos hq0]
        obtain ⟨i, hi, i0, i1⟩ := pick_ok (k := k) (p := p' + 1) (n := (out.length : Int)) hb (by omega) (by omega) (by omega) (by omega)
        rw [bs hi]
        dsimp only
        rw [w_in (n := w * h) (by omega) (by omega), w_in (n := w * h + 2) (by omega) (by omega)]
        obtain ⟨j, hj, j0, j1⟩ := pick_ok (k := k) (p := p' + 1 + 1) (n := w * h + 2) hb (by omega) (by omega) (by omega) (by omega)
        rw [bs hj]
        dsimp only
        rw [if_pos i0, if_pos i1]
        exact ⟨w, h, _, rfl, by rw [List.length_set]; exact e3⟩
      · rw [if_neg hq0]
        exact ⟨w, h, out, rfl, e3⟩
    · rw [bs rfl, if_pos (decide_eq_true h1), bs rfl, decide_eq_false h2, bs rfl, if_neg (by decide)]
      exact ⟨w, h, [0], rfl, by simp⟩
  · rw [bs rfl, if_neg (by rw [decide_eq_false h1]; decide), bs rfl, if_neg (by decide)]
    exact ⟨w, h, [0], rfl, by simp⟩
theorem prs_iff (w : Int) (l : List Int) (d : Nat) : ∀ i : Int, (prs w l i d = true) ↔ ∀ j, i ≤ j → j < i + d → 0 < j → ng w (rd l (j - 1)) (rd l j) = false := by
  induction d with
  | zero =>
    intro i
    simp only [prs, true_iff]
    intro j h1 h2
    omega
  | succ d ih =>
    intro i
    simp only [prs, Bool.and_eq_true, Bool.or_eq_true, decide_eq_true_eq, Bool.not_eq_true']
    rw [ih (i + 1)]
    constructor
    · rintro ⟨h1, h2⟩ j j1 j2 j3
      by_cases e : j = i
      · subst e
        rcases h1 with h1 | h1
        · omega
        · exact h1
      · exact h2 j (by omega) (by omega) j3
    · intro h
      refine ⟨?_, fun j j1 j2 j3 => h j (by omega) (by omega) j3⟩
      by_cases e : i ≤ 0
      · exact Or.inl e
      · exact Or.inr (h i (by omega) (by omega) (by omega))
theorem rd_drop (l : List Int) (n : Nat) {j : Int} (hj : 0 ≤ j) : rd (l.drop n) j = rd l (j + n) := by
  unfold rd
  rw [List.getD_eq_getElem?_getD, List.getD_eq_getElem?_getD, List.getElem?_drop, show n + j.toNat = (j + n).toNat by omega]
theorem rd_take (l : List Int) (n : Nat) {j : Int} (hj : j.toNat < n) : rd (l.take n) j = rd l j := by
  unfold rd
  rw [List.getD_eq_getElem?_getD, List.getD_eq_getElem?_getD, List.getElem?_take, if_pos hj]
theorem way_cut {w h : Int} {l : List Int} (hv : wayv w h l = true) {i : Int} (h0 : 0 ≤ i) (h1 : i < l.length) : wayv w h (l.drop i.toNat) = true ∧ wayv w h (l.take (i + 1).toNat) = true := by
  unfold wayv at hv ⊢
  simp only [Bool.and_eq_true, decide_eq_true_eq] at hv ⊢
  obtain ⟨⟨ha, hp⟩, hl⟩ := hv
  rw [prs_iff] at hp
  refine ⟨⟨⟨?_, ?_⟩, ?_⟩, ⟨⟨?_, ?_⟩, ?_⟩⟩
  · exact List.all_eq_true.mpr fun x hx => List.all_eq_true.mp ha x (List.mem_of_mem_drop hx)
  · rw [prs_iff]
    intro j j1 j2 j3
    rw [List.length_drop] at j2
    rw [rd_drop l _ (by omega), rd_drop l _ (by omega), show j - 1 + (i.toNat : Int) = j + (i.toNat : Int) - 1 by omega]
    exact hp _ (by omega) (by omega) (by omega)
  · rw [List.length_drop]; omega
  · exact List.all_eq_true.mpr fun x hx => List.all_eq_true.mp ha x (List.mem_of_mem_take hx)
  · rw [prs_iff]
    intro j j1 j2 j3
    rw [List.length_take] at j2
    rw [rd_take l _ (by omega), rd_take l _ (by omega)]
    exact hp _ (by omega) (by omega) (by omega)
  · rw [List.length_take]; omega
theorem cut_loop {w h : Int} {l : List Int} (hl : l.length ≤ 10) (hv : wayv w h l = true) (d : Nat) : ∀ (k : Nat) (i : Int), 0 ≤ i → i + d = l.length → d + 100 < k → laws_FnWayCut.l0 k w h l (l.length : Int) i = some true := by
  induction d with
  | zero =>
    intro k i h0 h1 hk
    obtain ⟨k, rfl⟩ : ∃ q, k = q + 1 := ⟨k - 1, by omega⟩
    simp only [laws_FnWayCut.l0]
    rw [if_neg (by omega)]
  | succ d ih =>
    intro k i h0 h1 hk
    obtain ⟨k, rfl⟩ : ∃ q, k = q + 1 := ⟨k - 1, by omega⟩
    simp only [laws_FnWayCut.l0]
    have hc := way_cut hv h0 (by omega)
    have e1 := impl_way (w := w) (h := h) (l := l.drop i.toNat) (by rw [List.length_drop]; omega) (k := k) (by rw [List.length_drop]; omega)
    have e2 := impl_way (w := w) (h := h) (l := l.take (i + 1).toNat) (by rw [List.length_take]; omega) (k := k) (by rw [List.length_take]; omega)
    rw [hc.1] at e1
    rw [hc.2] at e2
    rw [if_pos (by omega), if_pos h0, if_pos (by omega), bs e1, if_pos rfl, w_in (n := i + 1) (by omega) (by omega), if_pos (by omega), if_pos (by omega), bs e2, if_pos rfl]
    exact ih k (i + 1) (by omega) (by omega) (by omega)
theorem FnWayCut : laws_FnWayCut.Pure := by
  intro l _ _ hl
  refine ⟨1000, ?_⟩
  unfold laws_FnWayCut.f
  by_cases hlen : (l.length : Int) > 1048576
  · rw [if_pos hlen]
  rw [if_neg hlen]
  obtain ⟨w, h, way, e, hw⟩ := drawWay hl (k := 1000) (by omega)
  rw [bs e]
  dsimp only
  rw [bs (impl_way (by omega) (by omega)), bs (spec_way (by omega) (by omega)), if_neg (by simp)]
  show laws_FnWayCut.j0 (999 + 1) w h way (wayv w h way) (!(wayv w h way)) = some true
  simp only [laws_FnWayCut.j0]
  by_cases hv : wayv w h way = true
  · rw [if_neg (by rw [hv]; decide)]
    exact cut_loop hw hv way.length 999 0 (by omega) (by omega) (by omega)
  · rw [if_pos (by rw [(Bool.not_eq_true _).mp hv]; rfl), bs (spec_way (by omega) (by omega))]
    simp

end Go.Proofs.Ytmakbieljmldfaa.Pure
