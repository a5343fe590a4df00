/- What both sides of FnWaitPairs compute, in plain Lean. -/
import Derived.Test.YtdbokdodjekchaaPFnWaitPairsx13
import Derived.Laws.BitsLemmas
import Derived.OpenShut
namespace Go.Proofs.Ytdbokdodjekchaa.Pure
open Go.RowKit Go.Proofs.Ytdbokdodjekchaa.PFnWaitPairs Go.Proofs.YtdbokdodjekchaaW.PrintWords Go.Proofs.YtdbokdodjekchaaW.PrintLast

theorem w_in {n : Int} (h0 : -9223372036854775808 ≤ n) (h1 : n ≤ 9223372036854775807) : wrap64 n = n := by unfold wrap64; omega

theorem bs {α β : Type} {x : Option α} {a : α} {f : α → Option β} (h : x = some a) : x.bind f = f a := by rw [h]; rfl
/-- A byte list's reader never fails: what 'pick' answers. -/
theorem b_rd {b : List Int} (hb : ∀ x ∈ b, 0 ≤ x ∧ x ≤ 255) (i : Int) : 0 ≤ rd b i ∧ rd b i ≤ 255 := by
  unfold rd
  rw [List.getD_eq_getElem?_getD]
  cases h : b[i.toNat]? with
  | none => simp
  | some x => exact hb x (List.mem_of_getElem? h)

theorem xor_nn {x y : Int} (hx0 : 0 ≤ x) (hx : x < 4611686018427387904) (hy0 : 0 ≤ y) (hy : y < 4611686018427387904) : 0 ≤ Go.bits .xor .i64 x y := by
  obtain ⟨a, rfl⟩ := Int.eq_ofNat_of_zero_le hx0
  obtain ⟨b, rfl⟩ := Int.eq_ofNat_of_zero_le hy0
  have ha : a < 2 ^ 62 := by simp; omega
  have hb : b < 2 ^ 62 := by simp; omega
  have hc : a ^^^ b < 2 ^ 62 := Nat.xor_lt_two_pow ha hb
  have ha' : a % 2 ^ 64 = a := Nat.mod_eq_of_lt (by simp at ha ⊢; omega)
  have hb' : b % 2 ^ 64 = b := Nat.mod_eq_of_lt (by simp at hb ⊢; omega)
  have key : (BitVec.ofNat 64 a ^^^ BitVec.ofNat 64 b).toNat = a ^^^ b := by rw [BitVec.toNat_xor, BitVec.toNat_ofNat, BitVec.toNat_ofNat, ha', hb']
  have e : Go.bits .xor .i64 (a : Int) (b : Int) = IntKind.i64.wrap (((BitVec.ofNat 64 a ^^^ BitVec.ofNat 64 b).toNat : Nat) : Int) := by
    simp only [Go.bits, BitVec.ofInt_natCast]
    rfl
  rw [e, key, IntKind.wrap_i64]
  generalize a ^^^ b = c at hc
  simp at hc
  omega

theorem tm_bd {x n : Int} (hx : 0 ≤ x) (hn : 0 < n) : 0 ≤ Int.tmod x n ∧ Int.tmod x n < n := by
  rw [Int.tmod_eq_emod_of_nonneg hx]
  exact ⟨Int.emod_nonneg _ (by omega), Int.emod_lt_of_pos _ hn⟩

theorem pick_ok {k : Nat} {b : List Int} {p n : Int} (hb : ∀ x ∈ b, 0 ≤ x ∧ x ≤ 255) (hp0 : 0 ≤ p) (hp : p ≤ 100000000) (hn : 1 ≤ n) (hk : 0 < k) :
    ∃ v, spec_l21Rd_pick.f k b p n = some (v, p + 1) ∧ 0 ≤ v ∧ v < n := by
  obtain ⟨k, rfl⟩ : ∃ m, k = m + 1 := ⟨k - 1, by omega⟩
  have e1 : wrap64 (p + 1) = p + 1 := w_in (by omega) (by omega)
  have e2 : wrap64 (p + 1 - 1) = p := by rw [show p + 1 - 1 = p by omega]; exact w_in (by omega) (by omega)
  unfold spec_l21Rd_pick.f
  rw [if_neg (by omega), e1]
  simp only [spec_l21Rd_pick.j0, e2]
  by_cases h0 : b.length = 0
  · rw [if_pos (by simp [h0])]
    exact ⟨0, rfl, by omega, by omega⟩
  rw [if_neg (by simp; intro h; simp [h] at h0)]
  have hl : 0 < (b.length : Int) := by omega
  by_cases h1 : p < (b.length : Int)
  · rw [if_pos h1, if_pos hp0, if_neg (by omega)]
    have := b_rd hb p
    rw [w_in (n := rd b p) (by omega) (by omega)]
    exact ⟨_, rfl, (tm_bd this.1 (by omega)).1, (tm_bd this.1 (by omega)).2⟩
  rw [if_neg h1, if_neg (by omega)]
  have m1 := tm_bd (x := p) (n := b.length) hp0 hl
  have e3 : wrap64 (p * 7) = p * 7 := w_in (by omega) (by omega)
  have e4 : wrap64 (p * 7 + 3) = p * 7 + 3 := w_in (by omega) (by omega)
  have m2 := tm_bd (x := p * 7 + 3) (n := b.length) (by omega) hl
  rw [e3, e4, if_pos m1.1, if_pos m1.2, if_pos m2.1, if_pos m2.2, if_neg (by omega)]
  have r1 := b_rd hb (Int.tmod p b.length)
  have r2 := b_rd hb (Int.tmod (p * 7 + 3) b.length)
  generalize rd b (Int.tmod p b.length) = u at r1
  generalize rd b (Int.tmod (p * 7 + 3) b.length) = v at r2
  have d1 : 0 ≤ Int.tdiv p b.length ∧ Int.tdiv p b.length ≤ p := by
    rw [Int.tdiv_eq_ediv_of_nonneg hp0]
    exact ⟨Int.ediv_nonneg hp0 (by omega), Int.ediv_le_self _ hp0⟩
  generalize Int.tdiv p b.length = d at d1
  have e5 : wrap64 (wrap64 (wrap64 (wrap64 (wrap64 u * 131) + wrap64 (wrap64 v * 1117)) + wrap64 (p * 29)) + wrap64 (wrap64 d * 53)) = u * 131 + v * 1117 + p * 29 + d * 53 := by
    rw [w_in (n := u) (by omega) (by omega), w_in (n := v) (by omega) (by omega), w_in (n := d) (by omega) (by omega), w_in (n := u * 131) (by omega) (by omega), w_in (n := v * 1117) (by omega) (by omega), w_in (n := p * 29) (by omega) (by omega), w_in (n := d * 53) (by omega) (by omega), w_in (n := u * 131 + v * 1117) (by omega) (by omega), w_in (n := u * 131 + v * 1117 + p * 29) (by omega) (by omega), w_in (by omega) (by omega)]
  rw [e5]
  have hx0 : 0 ≤ u * 131 + v * 1117 + p * 29 + d * 53 := by omega
  have hx1 : u * 131 + v * 1117 + p * 29 + d * 53 < 4611686018427387904 := by omega
  generalize u * 131 + v * 1117 + p * 29 + d * 53 = x at hx0 hx1
  have d2 : 0 ≤ Int.tdiv x 64 ∧ Int.tdiv x 64 < 4611686018427387904 := by
    rw [Int.tdiv_eq_ediv_of_nonneg hx0]
    omega
  rw [w_in (n := Int.tdiv x 64) (by omega) (by omega)]
  have hz := xor_nn hx0 hx1 d2.1 d2.2
  exact ⟨_, rfl, (tm_bd hz (by omega)).1, (tm_bd hz (by omega)).2⟩

theorem num_ok {k : Nat} {b : List Int} {p : Int} {xs : List Int} (hb : ∀ x ∈ b, 0 ≤ x ∧ x ≤ 255) (hp0 : 0 ≤ p) (hp : p ≤ 100000000) (hn : 1 ≤ xs.length) (hk : 0 < k) :
    ∃ v, spec_l21Rd_num.f k b p xs = some (v, p + 1) ∧ v ∈ xs := by
  obtain ⟨i, hi, h0, h1⟩ := pick_ok (n := (xs.length : Int)) hb hp0 hp (by omega) hk
  refine ⟨rd xs i, ?_, ?_⟩
  · unfold spec_l21Rd_num.f
    rw [hi]
    simp only [Option.bind_some]
    rw [if_pos h0, if_pos h1]
  · unfold rd
    rw [List.getD_eq_getElem?_getD, List.getElem?_eq_getElem (by omega)]
    exact List.getElem_mem _

theorem open_ok {l : List Int} (hl : ∀ x ∈ l, (Lit.int .u8 x).wf = true) : ∃ b, spec_l21Open.f l = some (b, 0) ∧ ∀ x ∈ b, 0 ≤ x ∧ x ≤ 255 := by
  have hb : ∀ x ∈ l, 0 ≤ x ∧ x ≤ 255 := fun x hx => bounds_u8 (hl x hx)
  unfold spec_l21Open.f
  by_cases h : (l.length : Int) > 2000
  · rw [if_pos h, if_pos (by omega)]
    exact ⟨_, rfl, fun x hx => hb x (List.mem_of_mem_take hx)⟩
  · rw [if_neg h]
    exact ⟨_, rfl, hb⟩

theorem allO_total {α : Type} {p : α → Option Bool} {q : α → Bool} : ∀ (l : List α), (∀ x ∈ l, p x = some (q x)) → allO p l = some (l.all q)
  | [], _ => rfl
  | x :: xs, h => by
    have ih := allO_total xs (fun y hy => h y (List.mem_cons_of_mem _ hy))
    simp only [allO, h x (List.mem_cons_self), Option.bind_some, List.all_cons]
    cases q x
    · simp
    · simpa using ih

theorem rd_at {l : List Int} {i : Int} (h0 : 0 ≤ i) (h : i.toNat < l.length) : l.drop i.toNat = rd l i :: l.drop (i + 1).toNat := by
  rw [List.drop_eq_getElem_cons h, show (i + 1).toNat = i.toNat + 1 by omega]
  unfold rd
  rw [List.getD_eq_getElem?_getD, List.getElem?_eq_getElem h]
  rfl
theorem rd_mem {l : List Int} {i : Int} (h0 : 0 ≤ i) (h : i < l.length) : rd l i ∈ l := by
  unfold rd
  rw [List.getD_eq_getElem?_getD, List.getElem?_eq_getElem (by omega)]
  exact List.getElem_mem _

theorem s_in (a b c : Int) : spec_l1In.f a b c = some (decide (b ≤ a ∧ a ≤ c)) := by
  unfold spec_l1In.f
  by_cases h : b ≤ a <;> simp [h]
theorem i_in (a b c : Int) : impl_within.f a b c = some (decide (b ≤ a ∧ a ≤ c)) := by
  unfold impl_within.f
  by_cases h : b ≤ a <;> simp [h]
theorem wire_l0 (a d0 d1 : Int) : impl_fabric_wire.l0 5 a d0 d1 0 = if d0 = 1 ∧ d1 = 0 then some (wrap64 (wrap64 (4 * a) + 0)) else if d0 = -1 ∧ d1 = 0 then some (wrap64 (wrap64 (4 * a) + 1)) else if d0 = 0 ∧ d1 = 1 then some (wrap64 (wrap64 (4 * a) + 2)) else if d0 = 0 ∧ d1 = -1 then some (wrap64 (wrap64 (4 * a) + 3)) else some (-1) := by
  rfl
def nodes (w h a b : Int) : Bool := decide (1 ≤ w ∧ w ≤ 5) && decide (1 ≤ h ∧ h ≤ 5) && decide (0 ≤ a ∧ a ≤ wrap64 (wrap64 (w * h) - 1)) && decide (0 ≤ b ∧ b ≤ wrap64 (wrap64 (w * h) - 1))
theorem spec_nodes (w h a b : Int) : spec_l16Nodes.f w h a b = some (nodes w h a b) := by
  unfold spec_l16Nodes.f spec_l16Fabric.f nodes
  simp only [s_in, Option.bind_some]
  generalize decide (1 ≤ w ∧ w ≤ 5) = x
  generalize decide (1 ≤ h ∧ h ≤ 5) = y
  generalize decide (0 ≤ a ∧ a ≤ wrap64 (wrap64 (w * h) - 1)) = z
  generalize decide (0 ≤ b ∧ b ≤ wrap64 (wrap64 (w * h) - 1)) = u
  cases x <;> cases y <;> cases z <;> cases u <;> rfl
theorem small {w h n : Int} (h1 : 1 ≤ w ∧ w ≤ 5) (h2 : 1 ≤ h ∧ h ≤ 5) (h3 : 0 ≤ n ∧ n ≤ wrap64 (wrap64 (w * h) - 1)) : 0 ≤ n ∧ n ≤ 24 := by
  have e : 0 ≤ w * h ∧ w * h ≤ 25 := by
    have hh : h = 1 ∨ h = 2 ∨ h = 3 ∨ h = 4 ∨ h = 5 := by omega
    rcases hh with rfl | rfl | rfl | rfl | rfl <;> omega
  rw [w_in (n := w * h) (by omega) (by omega), w_in (n := w * h - 1) (by omega) (by omega)] at h3
  omega
theorem tm {n w : Int} (h0 : 0 ≤ n ∧ n ≤ 24) (hw : 1 ≤ w ∧ w ≤ 5) : (0 ≤ Int.tmod n w ∧ Int.tmod n w ≤ 4) ∧ (0 ≤ Int.tdiv n w ∧ Int.tdiv n w ≤ 24) := by
  rw [Int.tmod_eq_emod_of_nonneg h0.1, Int.tdiv_eq_ediv_of_nonneg h0.1]
  have a := Int.emod_nonneg n (show w ≠ 0 by omega)
  have b := Int.emod_lt_of_pos n (show 0 < w by omega)
  have c := Int.ediv_nonneg h0.1 (show 0 ≤ w by omega)
  have d := Int.ediv_le_self w h0.1
  exact ⟨⟨a, by omega⟩, ⟨c, by omega⟩⟩
theorem wires (a ax ay bx by_ : Int) (hax : 0 ≤ ax ∧ ax ≤ 4) (hay : 0 ≤ ay ∧ ay ≤ 24) (hbx : 0 ≤ bx ∧ bx ≤ 4) (hby : 0 ≤ by_ ∧ by_ ≤ 24) (ha : 0 ≤ a ∧ a ≤ 24) (k : Nat) :
    (if ay = by_ then spec_l16Wire.j0 (k + 3) a ax ay bx by_ (bx == wrap64 (ax + 1)) else spec_l16Wire.j0 (k + 3) a ax ay bx by_ false) = impl_fabric_wire.l0 5 a (wrap64 (bx - ax)) (wrap64 (by_ - ay)) 0 := by
  rw [wire_l0, w_in (n := bx - ax) (by omega) (by omega), w_in (n := by_ - ay) (by omega) (by omega), w_in (n := ax + 1) (by omega) (by omega)]
  simp only [spec_l16Wire.j0, spec_l16Wire.j1, spec_l16Wire.j2]
  rw [w_in (n := 4 * a) (by omega) (by omega), w_in (n := 4 * a + 0) (by omega) (by omega), w_in (n := ax - 1) (by omega) (by omega), w_in (n := ay + 1) (by omega) (by omega), w_in (n := ay - 1) (by omega) (by omega), Int.add_zero]
  by_cases e1 : ay = by_
  · by_cases e2 : bx = ax + 1
    · have q : (bx == ax + 1) = true := beq_iff_eq.mpr e2
      rw [if_pos e1, if_pos q, if_pos (show (bx - ax = 1 ∧ by_ - ay = 0) by omega)]
    · have q : ¬ ((bx == ax + 1) = true) := by simpa using e2
      rw [if_pos e1, if_neg q, if_pos e1, if_neg (show ¬ (bx - ax = 1 ∧ by_ - ay = 0) by omega)]
      by_cases e3 : bx = ax - 1
      · have q : (bx == ax - 1) = true := beq_iff_eq.mpr e3
        rw [if_pos q, if_pos (show (bx - ax = -1 ∧ by_ - ay = 0) by omega)]
      · have q : ¬ ((bx == ax - 1) = true) := by simpa using e3
        rw [if_neg q, if_neg (show ¬ (bx - ax = -1 ∧ by_ - ay = 0) by omega), if_neg (show ¬ (bx - ax = 0 ∧ by_ - ay = 1) by omega), if_neg (show ¬ (bx - ax = 0 ∧ by_ - ay = -1) by omega)]
        by_cases e4 : ax = bx
        · have q : ¬ ((by_ == ay + 1) = true) := by simp; omega
          rw [if_pos e4, if_neg q, if_pos e4, if_neg (show ¬ by_ = ay - 1 by omega)]
        · rw [if_neg e4, if_neg (show ¬ (false = true) by decide), if_neg e4]
  · rw [if_neg e1, if_neg (show ¬ (false = true) by decide), if_neg e1, if_neg (show ¬ (false = true) by decide), if_neg (show ¬ (bx - ax = 1 ∧ by_ - ay = 0) by omega), if_neg (show ¬ (bx - ax = -1 ∧ by_ - ay = 0) by omega)]
    by_cases e4 : ax = bx
    · rw [if_pos e4]
      by_cases e5 : by_ = ay + 1
      · have q : (by_ == ay + 1) = true := beq_iff_eq.mpr e5
        rw [if_pos q, if_pos (show (bx - ax = 0 ∧ by_ - ay = 1) by omega)]
      · have q : ¬ ((by_ == ay + 1) = true) := by simpa using e5
        rw [if_neg q, if_pos e4, if_neg (show ¬ (bx - ax = 0 ∧ by_ - ay = 1) by omega)]
        by_cases e6 : by_ = ay - 1
        · rw [if_pos e6, if_pos (show (bx - ax = 0 ∧ by_ - ay = -1) by omega)]
        · rw [if_neg e6, if_neg (show ¬ (bx - ax = 0 ∧ by_ - ay = -1) by omega)]
    · rw [if_neg e4, if_neg (show ¬ (false = true) by decide), if_neg e4, if_neg (show ¬ (bx - ax = 0 ∧ by_ - ay = 1) by omega), if_neg (show ¬ (bx - ax = 0 ∧ by_ - ay = -1) by omega)]
def nd (w h x : Int) : Bool := decide (1 ≤ w ∧ w ≤ 5) && decide (1 ≤ h ∧ h ≤ 5) && decide (0 ≤ x ∧ x ≤ wrap64 (wrap64 (w * h) - 1))
theorem nd_open {w h x : Int} (k : nd w h x = true) : (1 ≤ w ∧ w ≤ 5) ∧ (1 ≤ h ∧ h ≤ 5) ∧ (0 ≤ x ∧ x ≤ wrap64 (wrap64 (w * h) - 1)) := by
  simp only [nd, Bool.and_eq_true, decide_eq_true_eq] at k
  exact ⟨k.1.1, k.1.2, k.2⟩
theorem spec_nd (w h x : Int) : spec_l16Nodes.f w h x x = some (nd w h x) := by
  rw [spec_nodes]
  unfold nodes nd
  generalize decide (1 ≤ w ∧ w ≤ 5) = a
  generalize decide (1 ≤ h ∧ h ≤ 5) = b
  generalize decide (0 ≤ x ∧ x ≤ wrap64 (wrap64 (w * h) - 1)) = c
  cases a <;> cases b <;> cases c <;> rfl
theorem impl_nd (w h x : Int) : impl_fabric_node.f w h x = some (nd w h x) := by
  unfold impl_fabric_node.f impl_fabric_valid.f nd
  simp only [i_in, Option.bind_some]
  generalize decide (1 ≤ w ∧ w ≤ 5) = a
  generalize decide (1 ≤ h ∧ h ≤ 5) = b
  generalize decide (0 ≤ x ∧ x ≤ wrap64 (wrap64 (w * h) - 1)) = c
  cases a <;> cases b <;> cases c <;> rfl
def wr16 (w a b : Int) : Option Int := impl_fabric_wire.l0 5 a (wrap64 (Int.tmod b w - Int.tmod a w)) (wrap64 (wrap64 (Int.tdiv b w) - wrap64 (Int.tdiv a w))) 0
theorem wr16_some (w a b : Int) : ∃ v, wr16 w a b = some v := by
  unfold wr16
  rw [wire_l0]
  split
  · exact ⟨_, rfl⟩
  · split
    · exact ⟨_, rfl⟩
    · split
      · exact ⟨_, rfl⟩
      · split <;> exact ⟨_, rfl⟩
theorem spec_wire16 {w h a b : Int} (ka : nd w h a = true) (kb : nd w h b = true) {k : Nat} (hk : 3 ≤ k) : spec_l16Wire.f k w a b = wr16 w a b := by
  obtain ⟨k, rfl⟩ : ∃ q, k = q + 3 := ⟨k - 3, by omega⟩
  have oa := nd_open ka
  have ob := nd_open kb
  have ha := small oa.1 oa.2.1 oa.2.2
  have hb := small ob.1 ob.2.1 ob.2.2
  have ta := tm ha oa.1
  have tb := tm hb oa.1
  have hw : ¬ w = 0 := by omega
  unfold spec_l16Wire.f wr16
  rw [if_neg hw, w_in (n := Int.tdiv a w) (by omega) (by omega), w_in (n := Int.tdiv b w) (by omega) (by omega)]
  exact wires a _ _ _ _ ta.1 ta.2 tb.1 tb.2 ha k
theorem impl_wire16 {w h a b : Int} (ka : nd w h a = true) (kb : nd w h b = true) : impl_fabric_wire.f w h a b = wr16 w a b := by
  have oa := nd_open ka
  have hw : ¬ w = 0 := by omega
  unfold impl_fabric_wire.f wr16
  rw [impl_nd, impl_nd, ka, kb]
  simp only [Option.bind_some, if_true]
  rw [if_neg hw]
def ng (w a b : Int) : Bool := match wr16 w a b with | some v => decide (v < 0) | none => false
theorem ng_eq {w a b v : Int} (h : wr16 w a b = some v) : ng w a b = decide (v < 0) := by unfold ng; rw [h]
/-- Is each wire there, from index i on? -/
def prs (w : Int) (l : List Int) : Int → Nat → Bool
  | _, 0 => true
  | i, d + 1 => (decide (i ≤ 0) || !(ng w (rd l (i - 1)) (rd l i))) && prs w l (i + 1) d
theorem spec_way_loop (w h : Int) (l : List Int) (hl : l.length ≤ 9223372036854775806) (d : Nat) : ∀ (k : Nat) (i : Int), 0 ≤ i → i + d = l.length → d + 5 < k → (i > 0 → nd w h (rd l (i - 1)) = true) →
    spec_WayValid.l0 k w h l i = some ((l.drop i.toNat).all (nd w h) && prs w l i d && decide (1 ≤ (l.length : Int) ∧ (l.length : Int) ≤ 30)) := by
  induction d with
  | zero =>
    intro k i h0 h1 hk hp
    obtain ⟨k, rfl⟩ : ∃ m, k = m + 1 := ⟨k - 1, by omega⟩
    simp only [spec_WayValid.l0, s_in, Option.bind_some]
    rw [if_neg (by omega), List.drop_eq_nil_of_le (by omega)]
    simp only [List.all_nil, prs, Bool.true_and]
  | succ d ih =>
    intro k i h0 h1 hk hp
    obtain ⟨k, rfl⟩ : ∃ m, k = m + 1 := ⟨k - 1, by omega⟩
    rw [rd_at h0 (by omega)]
    simp only [spec_WayValid.l0, spec_nd, Option.bind_some]
    rw [if_pos (by omega), if_pos h0, w_in (n := i - 1) (by omega) (by omega), w_in (n := i + 1) (by omega) (by omega)]
    simp only [List.all_cons, prs]
    by_cases hc : nd w h (rd l i) = true
    · rw [if_pos hc, ih k (i + 1) (by omega) (by omega) (by omega) (fun _ => by rw [show i + 1 - 1 = i by omega]; exact hc)]
      simp only [hc, Bool.true_and]
      by_cases hi : i > 0
      · have e : decide (i ≤ 0) = false := by simp; omega
        obtain ⟨v, hv⟩ := wr16_some w (rd l (i - 1)) (rd l i)
        rw [if_pos hi, if_pos (by omega), if_pos (by omega), spec_wire16 (hp hi) hc (by omega), hv, ng_eq hv, e]
        simp only [Option.bind_some, Bool.false_or]
        by_cases q : v < 0
        · rw [if_pos q]
          simp [q]
        · rw [if_neg q]
          simp [q]
      · have e : decide (i ≤ 0) = true := by simp; omega
        rw [if_neg hi, e]
        simp
    · rw [if_neg hc]
      simp [hc]
theorem rd_all {p : Int → Bool} {l : List Int} (h : l.all p = true) {i : Int} (h0 : 0 ≤ i) (h1 : i < l.length) : p (rd l i) = true := List.all_eq_true.mp h _ (rd_mem h0 h1)
theorem impl_way_loop (w h : Int) (l : List Int) (hl : l.length ≤ 9223372036854775806) (ha : l.all (nd w h) = true) (d : Nat) : ∀ (k : Nat) (i : Int), 1 ≤ i → i + d = l.length → d < k →
    impl_fabric_way.l0 k l i w h = some (prs w l i d) := by
  induction d with
  | zero =>
    intro k i h0 h1 hk
    obtain ⟨k, rfl⟩ : ∃ m, k = m + 1 := ⟨k - 1, by omega⟩
    simp only [impl_fabric_way.l0]
    rw [if_neg (by omega)]
    rfl
  | succ d ih =>
    intro k i h0 h1 hk
    obtain ⟨k, rfl⟩ : ∃ m, k = m + 1 := ⟨k - 1, by omega⟩
    simp only [impl_fabric_way.l0]
    have e : decide (i ≤ 0) = false := by simp; omega
    obtain ⟨v, hv⟩ := wr16_some w (rd l (i - 1)) (rd l i)
    rw [if_pos (by omega), w_in (n := i - 1) (by omega) (by omega), w_in (n := i + 1) (by omega) (by omega), if_pos (by omega), if_pos (by omega), if_pos (by omega), impl_wire16 (rd_all ha (by omega) (by omega)) (rd_all ha (by omega) (by omega)), hv, ih k (i + 1) (by omega) (by omega) (by omega)]
    simp only [Option.bind_some, prs, ng_eq hv, e, Bool.false_or]
    by_cases q : v < 0
    · rw [if_pos q]
      simp [q]
    · rw [if_neg q]
      simp [q]
def wayv (w h : Int) (l : List Int) : Bool := l.all (nd w h) && prs w l 0 l.length && decide (1 ≤ (l.length : Int) ∧ (l.length : Int) ≤ 30)
theorem spec_way {w h : Int} {l : List Int} (hl : l.length ≤ 9223372036854775806) {k : Nat} (hk : l.length + 5 < k) : spec_WayValid.f k w h l = some (wayv w h l) := by
  unfold spec_WayValid.f wayv
  rw [spec_way_loop w h l hl l.length k 0 (by omega) (by omega) hk (fun h => by omega)]
  simp
theorem impl_fway {w h : Int} {l : List Int} (hl : l.length ≤ 9223372036854775806) {k : Nat} (hk : l.length + 5 < k) : impl_fabric_way.f k w h l = some (wayv w h l) := by
  obtain ⟨k, rfl⟩ : ∃ m, k = m + 1 := ⟨k - 1, by omega⟩
  unfold impl_fabric_way.f all_impl_fabric_node.f wayv
  rw [i_in, allO_total (q := nd w h) l (fun x _ => impl_nd w h x)]
  simp only [Option.bind_some, impl_fabric_way.j0]
  by_cases h1 : 1 ≤ (l.length : Int) ∧ (l.length : Int) ≤ 30
  · rw [if_pos (by simpa using h1)]
    by_cases ha : l.all (nd w h) = true
    · rw [if_neg (by simp only [ha]; decide), impl_way_loop w h l hl ha (l.length - 1) k 1 (by omega) (by omega) (by omega), ha, decide_eq_true h1]
      obtain ⟨n, hn⟩ : ∃ n, l.length = n + 1 := ⟨l.length - 1, by omega⟩
      rw [hn]
      simp [prs]
    · have e : l.all (nd w h) = false := by simpa using ha
      rw [if_pos (by simp only [e]; decide), e]
      rfl
  · rw [if_neg (by simpa using h1), decide_eq_false h1]
    simp
/-- The wires of a way, from index i on. -/
def wrs (w : Int) (l : List Int) : Int → Nat → List Int
  | _, 0 => []
  | i, d + 1 => (wr16 w (rd l (i - 1)) (rd l i)).getD 0 :: wrs w l (i + 1) d
theorem wrs_len (w : Int) (l : List Int) : ∀ (d : Nat) (i : Int), (wrs w l i d).length = d
  | 0, _ => rfl
  | d + 1, i => by simp [wrs, wrs_len w l d (i + 1)]
theorem wrs_rd (w : Int) (l : List Int) : ∀ (d : Nat) (i : Int) (j : Nat), j < d → rd (wrs w l i d) j = (wr16 w (rd l (i + j - 1)) (rd l (i + j))).getD 0
  | 0, _, _, h => absurd h (Nat.not_lt_zero _)
  | d + 1, i, 0, _ => by
    unfold rd
    simp [wrs, rd]
  | d + 1, i, j + 1, h => by
    have ih := wrs_rd w l d (i + 1) j (by omega)
    have e : rd (wrs w l i (d + 1)) ((j + 1 : Nat) : Int) = rd (wrs w l (i + 1) d) (j : Int) := by
      unfold rd
      simp [wrs, Int.toNat_natCast]
    rw [e, ih, show i + 1 + (j : Int) = i + ((j + 1 : Nat) : Int) by omega]
theorem wr16_get {w a b v : Int} (h : wr16 w a b = some v) : (wr16 w a b).getD 0 = v := by rw [h]; rfl
theorem impl_wires_loop (w h : Int) (l : List Int) (hl : l.length ≤ 30) (ha : l.all (nd w h) = true) (d : Nat) : ∀ (k : Nat) (i : Int) (out : List Int), 1 ≤ i → i + d = l.length → out.length + d ≤ 100 → d < k →
    impl_fabric_wires_1.l0 k l out i w h = some (out ++ wrs w l i d) := by
  induction d with
  | zero =>
    intro k i out h0 h1 ho hk
    obtain ⟨k, rfl⟩ : ∃ m, k = m + 1 := ⟨k - 1, by omega⟩
    rw [impl_fabric_wires_1.l0, if_neg (by omega), wrs, List.append_nil]
  | succ d ih =>
    intro k i out h0 h1 ho hk
    obtain ⟨k, rfl⟩ : ∃ m, k = m + 1 := ⟨k - 1, by omega⟩
    obtain ⟨v, hv⟩ := wr16_some w (rd l (i - 1)) (rd l i)
    rw [impl_fabric_wires_1.l0, if_pos (by omega), w_in (n := i - 1) (by omega) (by omega), w_in (n := i + 1) (by omega) (by omega), if_pos (by omega), if_pos (by omega), if_pos (by omega), impl_wire16 (rd_all ha (by omega) (by omega)) (rd_all ha (by omega) (by omega)), bs hv, if_pos (by omega), ih k (i + 1) _ (by omega) (by omega) (by rw [List.length_append]; simp; omega) (by omega)]
    rw [wrs, wr16_get hv, List.append_assoc]
    rfl
theorem spec_wires_loop (w h : Int) (l : List Int) (hl : l.length ≤ 30) (ha : l.all (nd w h) = true) (d : Nat) : ∀ (k : Nat) (i : Int) (out : List Int), 1 ≤ i → i + d = l.length → out.length + d ≤ 100 → d + 3 < k →
    spec_l16Wires.l0 k w l out i = some (out ++ wrs w l i d) := by
  induction d with
  | zero =>
    intro k i out h0 h1 ho hk
    obtain ⟨k, rfl⟩ : ∃ m, k = m + 1 := ⟨k - 1, by omega⟩
    rw [spec_l16Wires.l0, if_neg (by omega), wrs, List.append_nil]
  | succ d ih =>
    intro k i out h0 h1 ho hk
    obtain ⟨k, rfl⟩ : ∃ m, k = m + 1 := ⟨k - 1, by omega⟩
    obtain ⟨v, hv⟩ := wr16_some w (rd l (i - 1)) (rd l i)
    rw [spec_l16Wires.l0, if_pos (by omega), w_in (n := i - 1) (by omega) (by omega), w_in (n := i + 1) (by omega) (by omega), if_pos (by omega), if_pos (by omega), if_pos (by omega), spec_wire16 (rd_all ha (by omega) (by omega)) (rd_all ha (by omega) (by omega)) (by omega), bs hv, if_pos (by omega), ih k (i + 1) _ (by omega) (by omega) (by rw [List.length_append]; simp; omega) (by omega)]
    rw [wrs, wr16_get hv, List.append_assoc]
    rfl
def wof (w : Int) (l : List Int) : List Int := wrs w l 1 (l.length - 1)
theorem wayv_open {w h : Int} {l : List Int} (k : wayv w h l = true) : l.all (nd w h) = true ∧ prs w l 0 l.length = true ∧ 1 ≤ l.length ∧ l.length ≤ 30 := by
  simp only [wayv, Bool.and_eq_true, decide_eq_true_eq] at k
  exact ⟨k.1.1, k.1.2, by omega, by omega⟩
theorem impl_wof {w h : Int} {l : List Int} (hv : wayv w h l = true) {k : Nat} (hk : 40 < k) : impl_fabric_wires_1.f k l w h = some (wof w l) := by
  obtain ⟨h1, h2, h3, h4⟩ := wayv_open hv
  unfold impl_fabric_wires_1.f
  rw [impl_wires_loop w h l h4 h1 (l.length - 1) k 1 [] (by omega) (by omega) (by simp; omega) (by omega)]
  rfl
theorem spec_wof {w h : Int} {l : List Int} (hv : wayv w h l = true) {k : Nat} (hk : 40 < k) : spec_l16Wires.f k w l = some (wof w l) := by
  obtain ⟨h1, h2, h3, h4⟩ := wayv_open hv
  unfold spec_l16Wires.f
  rw [spec_wires_loop w h l h4 h1 (l.length - 1) k 1 [] (by omega) (by omega) (by simp; omega) (by omega)]
  rfl
theorem prs_at {w : Int} {l : List Int} : ∀ (d : Nat) (i : Int), prs w l i d = true → ∀ j : Nat, j < d → 0 < i + j → ng w (rd l (i + j - 1)) (rd l (i + j)) = false
  | 0, _, _, _, h, _ => absurd h (Nat.not_lt_zero _)
  | d + 1, i, h, 0, _, hp => by
    simp only [prs, Bool.and_eq_true, Bool.or_eq_true, decide_eq_true_eq] at h
    rcases h.1 with q | q
    · omega
    · rw [show i + ((0 : Nat) : Int) = i by omega]
      simpa using q
  | d + 1, i, h, j + 1, hj, hp => by
    simp only [prs, Bool.and_eq_true] at h
    have := prs_at d (i + 1) h.2 j (by omega) (by omega)
    rw [show i + ((j + 1 : Nat) : Int) = i + 1 + (j : Int) by omega]
    exact this
/-- A wire's number tells where it begins, and that it leads elsewhere. -/
theorem wr16_val {w h a b v : Int} (ka : nd w h a = true) (kb : nd w h b = true) (hv : wr16 w a b = some v) (h0 : 0 ≤ v) : 4 * a ≤ v ∧ v ≤ 4 * a + 3 ∧ a ≠ b := by
  have oa := nd_open ka
  have ob := nd_open kb
  have ha := small oa.1 oa.2.1 oa.2.2
  have ta := tm ha oa.1
  unfold wr16 at hv
  rw [wire_l0, w_in (n := 4 * a) (by omega) (by omega), w_in (n := 4 * a + 0) (by omega) (by omega), w_in (n := 4 * a + 1) (by omega) (by omega), w_in (n := 4 * a + 2) (by omega) (by omega), w_in (n := 4 * a + 3) (by omega) (by omega)] at hv
  have hz : wrap64 0 = 0 := w_in (by omega) (by omega)
  by_cases e : a = b
  · subst e
    rw [Int.sub_self, Int.sub_self, hz, if_neg (by omega), if_neg (by omega), if_neg (by omega), if_neg (by omega)] at hv
    injection hv with hv
    omega
  · refine ⟨?_, ?_, e⟩ <;>
    · split at hv
      · injection hv with hv; omega
      · split at hv
        · injection hv with hv; omega
        · split at hv
          · injection hv with hv; omega
          · split at hv
            · injection hv with hv; omega
            · injection hv with hv; omega
theorem wof_at {w h : Int} {l : List Int} (hv : wayv w h l = true) {j : Nat} (hj : j < (wof w l).length) : ∃ v, wr16 w (rd l j) (rd l (j + 1)) = some v ∧ rd (wof w l) j = v ∧ 0 ≤ v ∧ nd w h (rd l j) = true ∧ nd w h (rd l (j + 1)) = true := by
  obtain ⟨h1, h2, h3, h4⟩ := wayv_open hv
  unfold wof at hj ⊢
  rw [wrs_len] at hj
  obtain ⟨v, e⟩ := wr16_some w (rd l j) (rd l (j + 1))
  have hp := prs_at l.length 0 h2 (j + 1) (by omega) (by omega)
  rw [show (0 : Int) + ((j + 1 : Nat) : Int) - 1 = j by omega, show (0 : Int) + ((j + 1 : Nat) : Int) = j + 1 by omega, ng_eq e] at hp
  refine ⟨v, e, ?_, by simpa using hp, rd_all h1 (by omega) (by omega), rd_all h1 (by omega) (by omega)⟩
  rw [wrs_rd w l _ 1 j hj, show (1 : Int) + (j : Int) - 1 = j by omega, show (1 : Int) + (j : Int) = j + 1 by omega]
  exact wr16_get e
theorem nd_lt {w h x : Int} (k : nd w h x = true) : 0 ≤ x ∧ x + 1 ≤ w * h ∧ w * h ≤ 25 := by
  have o := nd_open k
  have e : 0 ≤ w * h ∧ w * h ≤ 25 := by
    have hh : h = 1 ∨ h = 2 ∨ h = 3 ∨ h = 4 ∨ h = 5 := by omega
    rcases hh with e | e | e | e | e <;> rw [e] <;> omega
  have o3 := o.2.2
  rw [w_in (n := w * h) (by omega) (by omega), w_in (n := w * h - 1) (by omega) (by omega)] at o3
  omega
theorem wof_good {w h : Int} {l : List Int} (hv : wayv w h l = true) {N : Nat} (hN : (N : Int) = 4 * (w * h)) : (wof w l).length ≤ 30 ∧ (∀ j : Int, 0 ≤ j → j < (wof w l).length → 0 ≤ rd (wof w l) j ∧ rd (wof w l) j < N) ∧ (∀ j : Int, 1 ≤ j → j < (wof w l).length → rd (wof w l) (j - 1) ≠ rd (wof w l) j) := by
  obtain ⟨h1, h2, h3, h4⟩ := wayv_open hv
  have hlen : (wof w l).length = l.length - 1 := by unfold wof; rw [wrs_len]
  refine ⟨by omega, fun j j0 j1 => ?_, fun j j0 j1 => ?_⟩
  · obtain ⟨n, rfl⟩ : ∃ n : Nat, j = n := ⟨j.toNat, by omega⟩
    obtain ⟨v, e1, e2, e3, e4, e5⟩ := wof_at hv (j := n) (by omega)
    have := wr16_val e4 e5 e1 e3
    have := nd_lt e4
    rw [e2]
    omega
  · obtain ⟨n, rfl⟩ : ∃ n : Nat, j = ((n + 1 : Nat) : Int) := ⟨j.toNat - 1, by omega⟩
    rw [show ((n + 1 : Nat) : Int) - 1 = n by omega]
    obtain ⟨v, e1, e2, e3, e4, e5⟩ := wof_at hv (j := n) (by omega)
    obtain ⟨u, f1, f2, f3, f4, f5⟩ := wof_at hv (j := n + 1) (by omega)
    have a1 := wr16_val e4 e5 e1 e3
    have a2 := wr16_val f4 f5 f1 f3
    rw [e2, f2]
    rw [show ((n : Int) + 1) = ((n + 1 : Nat) : Int) by omega] at a1
    omega
theorem rdl_at {l : List (List Int)} {i : Int} (h0 : 0 ≤ i) (h : i.toNat < l.length) : l.drop i.toNat = rd_L2 l i :: l.drop (i + 1).toNat := by
  rw [List.drop_eq_getElem_cons h, show (i + 1).toNat = i.toNat + 1 by omega]
  unfold rd_L2
  rw [List.getD_eq_getElem?_getD, List.getElem?_eq_getElem h]
  rfl
theorem rdl_mem {l : List (List Int)} {i : Int} (h0 : 0 ≤ i) (h : i < l.length) : rd_L2 l i ∈ l := by
  unfold rd_L2
  rw [List.getD_eq_getElem?_getD, List.getElem?_eq_getElem (by omega)]
  exact List.getElem_mem _
theorem m_loop (w h : Int) (l : List (List Int)) (hl : l.length ≤ 12) (ha : ∀ x ∈ l, wayv w h x = true) (d : Nat) : ∀ (k : Nat) (i : Int) (out : List (List Int)), 0 ≤ i → i + d = l.length → out.length + d ≤ 100 → d + 50 < k →
    impl_fabric_wires_m.l0 k out l (l.length : Int) i w h = some (out ++ (l.drop i.toNat).map (wof w)) := by
  induction d with
  | zero =>
    intro k i out h0 h1 ho hk
    obtain ⟨k, rfl⟩ : ∃ m, k = m + 1 := ⟨k - 1, by omega⟩
    rw [impl_fabric_wires_m.l0, if_neg (by omega), List.drop_eq_nil_of_le (by omega), List.map_nil, List.append_nil]
  | succ d ih =>
    intro k i out h0 h1 ho hk
    obtain ⟨k, rfl⟩ : ∃ m, k = m + 1 := ⟨k - 1, by omega⟩
    rw [impl_fabric_wires_m.l0, if_pos (by omega), if_pos (by omega), if_pos (by omega), bs (impl_wof (ha _ (rdl_mem h0 (by omega))) (by omega)), if_pos (by omega), w_in (n := i + 1) (by omega) (by omega), ih k (i + 1) _ (by omega) (by omega) (by rw [List.length_append]; simp; omega) (by omega), rdl_at h0 (by omega), List.map_cons, List.append_assoc]
    rfl
def fab (w h : Int) : Bool := decide (1 ≤ w ∧ w ≤ 5) && decide (1 ≤ h ∧ h ≤ 5)
def goodw (w h : Int) (l : List (List Int)) : Bool := l.all (wayv w h) && fab w h && decide ((l.length : Int) ≤ 12)
theorem impl_fab (w h : Int) : impl_fabric_valid.f w h = some (fab w h) := by
  unfold impl_fabric_valid.f fab
  simp only [i_in, Option.bind_some]
  generalize decide (1 ≤ w ∧ w ≤ 5) = a
  generalize decide (1 ≤ h ∧ h ≤ 5) = b
  cases a <;> cases b <;> rfl
theorem spec_fab (w h : Int) : spec_l16Fabric.f w h = some (fab w h) := by
  unfold spec_l16Fabric.f fab
  simp only [s_in, Option.bind_some]
  generalize decide (1 ≤ w ∧ w ≤ 5) = a
  generalize decide (1 ≤ h ∧ h ≤ 5) = b
  cases a <;> cases b <;> rfl
theorem impl_wires_ok {w h : Int} {l : List (List Int)} {M : Nat} (hM : ∀ x ∈ l, x.length ≤ M) (hMb : M ≤ 2000000) {k : Nat} (hk : M + 100 < k) : impl_fabric_wires.f k w h l = some (if goodw w h l = true then (l.map (wof w), true) else ([], false)) := by
  unfold impl_fabric_wires.f goodw
  rw [bs (impl_fab w h)]
  have hall : all_impl_fabric_way.f k l w h = some (l.all (wayv w h)) := by
    unfold all_impl_fabric_way.f
    exact allO_total l (fun x hx => impl_fway (by have := hM x hx; omega) (by have := hM x hx; omega))
  cases e1 : fab w h with
  | false => rw [if_neg (by decide), if_neg (by simp)]
  | true =>
    rw [if_pos rfl]
    by_cases e2 : (l.length : Int) > 12
    · rw [if_pos e2, if_neg (by simp; omega)]
    · rw [if_neg e2, bs hall]
      cases e3 : l.all (wayv w h) with
      | false => rw [if_neg (by decide), if_neg (by simp)]
      | true =>
        have hm : impl_fabric_wires_m.f k l w h = some (l.map (wof w)) := by
          unfold impl_fabric_wires_m.f
          rw [m_loop w h l (by omega) (fun x hx => List.all_eq_true.mp e3 x hx) l.length k 0 [] (by omega) (by omega) (by simp; omega) (by omega)]
          rfl
        rw [if_pos rfl, bs hm, if_pos (by simp; omega)]
theorem ways_loop (w h : Int) (l : List (List Int)) {M : Nat} (hM : ∀ x ∈ l, x.length ≤ M) (hMb : M ≤ 2000000) (hl : l.length ≤ 2000000) (d : Nat) : ∀ (k : Nat) (i : Int), 0 ≤ i → i + d = l.length → d + M + 100 < k →
    spec_l16Ways.l0 k w h l i = some ((l.drop i.toNat).all (wayv w h) && fab w h && decide ((l.length : Int) ≤ 12)) := by
  induction d with
  | zero =>
    intro k i h0 h1 hk
    obtain ⟨k, rfl⟩ : ∃ m, k = m + 1 := ⟨k - 1, by omega⟩
    rw [spec_l16Ways.l0, if_neg (by omega), bs (spec_fab w h), List.drop_eq_nil_of_le (by omega)]
    cases fab w h <;> rfl
  | succ d ih =>
    intro k i h0 h1 hk
    obtain ⟨k, rfl⟩ : ∃ m, k = m + 1 := ⟨k - 1, by omega⟩
    have hm := hM _ (rdl_mem (l := l) h0 (by omega))
    rw [spec_l16Ways.l0, if_pos (by omega), if_pos h0, bs (spec_way (by omega) (by omega)), rdl_at h0 (by omega), List.all_cons]
    cases e : wayv w h (rd_L2 l i) with
    | false => rw [if_neg (by decide)]; rfl
    | true => rw [if_pos rfl, w_in (n := i + 1) (by omega) (by omega), ih k (i + 1) (by omega) (by omega) (by omega), Bool.true_and]
theorem ways_ok {w h : Int} {l : List (List Int)} {M : Nat} (hM : ∀ x ∈ l, x.length ≤ M) (hMb : M ≤ 2000000) (hl : l.length ≤ 2000000) {k : Nat} (hk : l.length + M + 100 < k) : spec_l16Ways.f k w h l = some (goodw w h l) := by
  unfold spec_l16Ways.f goodw
  rw [ways_loop w h l hM hMb hl l.length k 0 (by omega) (by omega) (by omega)]
  rfl
/-! two lists of pairs, each in strict order, that hold the same are one -/
theorem strict_ext {α : Type} {lt : α → α → Prop} (hi : ∀ x, ¬ lt x x) (ht : ∀ x y z, lt x y → lt y z → lt x z) : ∀ (l l' : List α), l.Pairwise lt → l'.Pairwise lt → (∀ x, x ∈ l ↔ x ∈ l') → l = l'
  | [], [], _, _, _ => rfl
  | [], y :: l', _, _, h => absurd ((h y).mpr List.mem_cons_self) (by simp)
  | x :: l, [], _, _, h => absurd ((h x).mp List.mem_cons_self) (by simp)
  | x :: l, y :: l', p, p', h => by
    obtain ⟨p1, p2⟩ := List.pairwise_cons.mp p
    obtain ⟨q1, q2⟩ := List.pairwise_cons.mp p'
    have hxy : x = y := by
      rcases List.mem_cons.mp ((h x).mp List.mem_cons_self) with e | hx
      · exact e
      rcases List.mem_cons.mp ((h y).mpr List.mem_cons_self) with e | hy
      · exact e.symm
      exact absurd (ht _ _ _ (p1 y hy) (q1 x hx)) (hi x)
    subst hxy
    rw [strict_ext hi ht l l' p2 q2 (fun z => ⟨fun hz => by
      rcases List.mem_cons.mp ((h z).mp (List.mem_cons_of_mem _ hz)) with e | hz'
      · exact absurd (e ▸ p1 z hz) (hi x)
      · exact hz', fun hz => by
      rcases List.mem_cons.mp ((h z).mpr (List.mem_cons_of_mem _ hz)) with e | hz'
      · exact absurd (e ▸ q1 z hz) (hi x)
      · exact hz'⟩)]
def lt2 (x y : List Int) : Prop := rd x 0 < rd y 0 ∨ rd x 0 = rd y 0 ∧ rd x 1 < rd y 1
theorem lt2_irrefl (x : List Int) : ¬ lt2 x x := by unfold lt2; omega
theorem lt2_trans (x y z : List Int) (h1 : lt2 x y) (h2 : lt2 y z) : lt2 x z := by unfold lt2 at *; omega
theorem le_lt (x y z : List Int) (h1 : le2 x y = true) (h2 : lt2 y z) : lt2 x z := by rw [le2_iff] at h1; unfold lt2 at *; omega
theorem le_ne {x y : List Int} (hx : x.length = 2) (hy : y.length = 2) (h1 : le2 x y = true) (hne : ¬ y = x) : lt2 x y := by
  rw [le2_iff] at h1
  unfold lt2
  by_cases e0 : rd x 0 = rd y 0
  · by_cases e1 : rd x 1 = rd y 1
    · exact absurd (by rw [len2 hx, len2 hy, e0, e1]) hne
    · omega
  · omega
def kpE (d : Array (List Int)) : Nat → Bool := kpOf (fun a b => decide (a = b)) d
theorem kpE_zero (d : Array (List Int)) : kpE d 0 = true := rfl
theorem kpE_succ (d : Array (List Int)) (j : Nat) : kpE d (j + 1) = !decide (d[j + 1]! = d[j]!) := by
  unfold kpE kpOf
  rw [show (j + 1 == 0) = false from by simp]
  rfl
theorem cUp_mem (d : Array (List Int)) : ∀ (m j : Nat), j < m → d[j]! ∈ cUp (kpE d) d m
  | 0, j, h => absurd h (Nat.not_lt_zero _)
  | m + 1, j, h => by
    rw [cUp_succ]
    by_cases hj : j < m
    · exact List.mem_append_left _ (cUp_mem d m j hj)
    · obtain rfl : j = m := by omega
      cases hk : kpE d j with
      | true => exact List.mem_append_right _ (by simp)
      | false =>
        refine List.mem_append_left _ ?_
        cases j with
        | zero => rw [kpE_zero] at hk; exact absurd hk (by decide)
        | succ j =>
          rw [kpE_succ] at hk
          have e : d[j + 1]! = d[j]! := by simpa using hk
          rw [e]
          exact cUp_mem d (j + 1) j (Nat.lt_succ_self _)
theorem mem_cUp {kp : Nat → Bool} {d : Array (List Int)} {m : Nat} {x : List Int} (h : x ∈ cUp kp d m) : ∃ j, j < m ∧ d[j]! = x := by
  unfold cUp at h
  obtain ⟨j, hj, e⟩ := List.mem_map.mp h
  exact ⟨j, List.mem_range.mp (List.mem_filter.mp hj).1, e⟩
theorem cUp_strict (d : Array (List Int)) (h2 : ∀ j, j < d.size → d[j]!.length = 2) (hs : ∀ i j, i < j → j < d.size → le2 d[i]! d[j]! = true) : ∀ m, m ≤ d.size → (cUp (kpE d) d m).Pairwise lt2
  | 0, _ => by unfold cUp; simp
  | m + 1, hm => by
    rw [cUp_succ, List.pairwise_append]
    refine ⟨cUp_strict d h2 hs m (by omega), by cases kpE d m <;> simp, ?_⟩
    intro x hx y hy
    cases hk : kpE d m with
    | false => rw [hk] at hy; simp at hy
    | true =>
      rw [hk] at hy
      obtain rfl : y = d[m]! := by simpa using hy
      obtain ⟨j, hj, rfl⟩ := mem_cUp hx
      cases m with
      | zero => omega
      | succ m =>
        rw [kpE_succ] at hk
        have hne : ¬ d[m + 1]! = d[m]! := by simpa using hk
        have h1 := le_ne (h2 m (by omega)) (h2 (m + 1) (by omega)) (hs m (m + 1) (by omega) (by omega)) hne
        by_cases e : j = m
        · rw [e]; exact h1
        · exact le_lt _ _ _ (hs j m (by omega) (by omega)) h1
theorem toArr_get {l : List (List Int)} {j : Nat} (hj : j < l.length) : l.toArray[j]! = l[j] := by rw [getElem!_pos l.toArray j (by simpa using hj)]; simp
theorem compL_strict {l : List (List Int)} (h2 : ∀ x ∈ l, x.length = 2) (hs : l.Pairwise (fun x y => le2 x y = true)) : (compL l).Pairwise lt2 := by
  unfold compL
  have hl : l.length = l.toArray.size := by simp
  rw [hl]
  refine cUp_strict l.toArray (fun j hj => ?_) (fun i j hij hj => ?_) _ (Nat.le_refl _)
  · rw [toArr_get (by simpa using hj)]; exact h2 _ (List.getElem_mem _)
  · have hj' : j < l.length := by simpa using hj
    rw [toArr_get (show i < l.length by omega), toArr_get hj']
    exact List.pairwise_iff_getElem.mp hs i j (by omega) hj' hij
theorem mem_compL {l : List (List Int)} {x : List Int} : x ∈ compL l ↔ x ∈ l := by
  unfold compL
  constructor
  · intro h
    obtain ⟨j, hj, e⟩ := mem_cUp h
    rw [toArr_get hj] at e
    rw [← e]; exact List.getElem_mem _
  · intro h
    obtain ⟨j, hj, e⟩ := List.mem_iff_getElem.mp h
    have := cUp_mem l.toArray l.length j hj
    rw [toArr_get hj, e] at this
    exact this
theorem sortL_sorted (l : List (List Int)) : (sortL l).Pairwise (fun x y => le2 x y = true) := List.pairwise_mergeSort (fun a b c h1 h2 => le2_trans a b c h1 h2) (fun a b => le2_total a b) l
theorem mem_sortL {l : List (List Int)} {x : List Int} : x ∈ sortL l ↔ x ∈ l := (List.mergeSort_perm l le2).mem_iff
/-- The pairs of a row's neighbours. -/
def adjd (r : List Int) : Int → Nat → List (List Int)
  | _, 0 => []
  | i, d + 1 => [rd r (i - 1), rd r i] :: adjd r (i + 1) d
def adj (r : List Int) : List (List Int) := adjd r 1 (r.length - 1)
theorem adjd_len (r : List Int) : ∀ (d : Nat) (i : Int), (adjd r i d).length = d
  | 0, _ => rfl
  | d + 1, i => by rw [adjd, List.length_cons, adjd_len r d]
theorem adjd_two (r : List Int) : ∀ (d : Nat) (i : Int), ∀ x ∈ adjd r i d, x.length = 2
  | 0, _, x, h => by simp [adjd] at h
  | d + 1, i, x, h => by
    rw [adjd] at h
    rcases List.mem_cons.mp h with e | h
    · rw [e]; rfl
    · exact adjd_two r d _ x h
theorem mem_adjd (r : List Int) : ∀ (d : Nat) (i : Int) (x : List Int), x ∈ adjd r i d ↔ ∃ j : Nat, j < d ∧ x = [rd r (i + j - 1), rd r (i + j)]
  | 0, i, x => by simp [adjd]
  | d + 1, i, x => by
    rw [adjd, List.mem_cons, mem_adjd r d]
    constructor
    · rintro (e | ⟨j, hj, e⟩)
      · exact ⟨0, by omega, by rw [e]; simp⟩
      · exact ⟨j + 1, by omega, by rw [e, show i + 1 + (j : Int) - 1 = i + ((j + 1 : Nat) : Int) - 1 by omega, show i + 1 + (j : Int) = i + ((j + 1 : Nat) : Int) by omega]⟩
    · rintro ⟨j, hj, e⟩
      cases j with
      | zero => left; rw [e]; simp
      | succ j => right; exact ⟨j, by omega, by rw [e, show i + 1 + (j : Int) - 1 = i + ((j + 1 : Nat) : Int) - 1 by omega, show i + 1 + (j : Int) = i + ((j + 1 : Nat) : Int) by omega]⟩
def allP (L : List (List Int)) : List (List Int) := L.flatMap adj
theorem allP_two {L : List (List Int)} {x : List Int} (h : x ∈ allP L) : x.length = 2 := by
  obtain ⟨r, _, hr⟩ := List.mem_flatMap.mp h
  exact adjd_two r _ _ x hr
/-- The pairs that are marked, in the order of their numbers. -/
def specL (N : Nat) (on : List Bool) : Nat → Nat → List (List Int)
  | _, 0 => []
  | c, d + 1 => if rdOf false on c = true then [((c / N : Nat) : Int), ((c % N : Nat) : Int)] :: specL N on (c + 1) d else specL N on (c + 1) d
theorem mem_specL (N : Nat) (on : List Bool) : ∀ (d c : Nat) (x : List Int), x ∈ specL N on c d ↔ ∃ e : Nat, c ≤ e ∧ e < c + d ∧ rdOf false on e = true ∧ x = [((e / N : Nat) : Int), ((e % N : Nat) : Int)]
  | 0, c, x => by simp [specL]; omega
  | d + 1, c, x => by
    rw [specL]
    have ih := mem_specL N on d (c + 1) x
    by_cases h : rdOf false on c = true
    · rw [if_pos h, List.mem_cons, ih]
      constructor
      · rintro (e | ⟨e, h1, h2, h3, h4⟩)
        · exact ⟨c, Nat.le_refl _, by omega, h, e⟩
        · exact ⟨e, by omega, by omega, h3, h4⟩
      · rintro ⟨e, h1, h2, h3, h4⟩
        by_cases he : e = c
        · left; rw [h4, he]
        · right; exact ⟨e, by omega, by omega, h3, h4⟩
    · rw [if_neg h, ih]
      constructor
      · rintro ⟨e, h1, h2, h3, h4⟩; exact ⟨e, by omega, by omega, h3, h4⟩
      · rintro ⟨e, h1, h2, h3, h4⟩
        by_cases he : e = c
        · subst he; exact absurd h3 h
        · exact ⟨e, by omega, by omega, h3, h4⟩
theorem code_lt {N a b : Nat} (h : a < b) : lt2 [((a / N : Nat) : Int), ((a % N : Nat) : Int)] [((b / N : Nat) : Int), ((b % N : Nat) : Int)] := by
  have h1 := Nat.div_add_mod a N
  have h2 := Nat.div_add_mod b N
  have h3 : a / N ≤ b / N := Nat.div_le_div_right (Nat.le_of_lt h)
  show ((a / N : Nat) : Int) < ((b / N : Nat) : Int) ∨ ((a / N : Nat) : Int) = ((b / N : Nat) : Int) ∧ ((a % N : Nat) : Int) < ((b % N : Nat) : Int)
  by_cases e : a / N = b / N
  · right
    refine ⟨by rw [e], ?_⟩
    rw [e] at h1
    omega
  · left; omega
theorem specL_strict (N : Nat) (on : List Bool) : ∀ (d c : Nat), (specL N on c d).Pairwise lt2
  | 0, _ => List.Pairwise.nil
  | d + 1, c => by
    rw [specL]
    split
    · refine List.pairwise_cons.mpr ⟨fun y hy => ?_, specL_strict N on d _⟩
      obtain ⟨e, h1, h2, h3, rfl⟩ := (mem_specL N on d (c + 1) y).mp hy
      exact code_lt (by omega)
    · exact specL_strict N on d _
theorem specL_len (N : Nat) (on : List Bool) : ∀ (d c : Nat), (specL N on c d).length ≤ d
  | 0, _ => Nat.le_refl _
  | d + 1, c => by
    rw [specL]
    have := specL_len N on d (c + 1)
    split
    · rw [List.length_cons]; omega
    · omega
def codeP (N : Nat) (p : List Int) : Nat := (rd p 0).toNat * N + (rd p 1).toNat
def setP (N : Nat) (on : List Bool) (p : List Int) : List Bool := on.set (codeP N p) true
theorem setP_len (N : Nat) (ps : List (List Int)) : ∀ (on : List Bool), (ps.foldl (setP N) on).length = on.length := by
  induction ps with
  | nil => intro on; rfl
  | cons p ps ih => intro on; rw [List.foldl_cons, ih]; simp [setP]
theorem fold_on (N : Nat) : ∀ (ps : List (List Int)) (on : List Bool) (c : Nat), (∀ p ∈ ps, codeP N p < on.length) → (rdOf false (ps.foldl (setP N) on) c = true ↔ (rdOf false on c = true ∨ ∃ p ∈ ps, codeP N p = c))
  | [], on, c, _ => by simp
  | p :: ps, on, c, h => by
    rw [List.foldl_cons, fold_on N ps (setP N on p) c (fun q hq => by have := h q (List.mem_cons_of_mem _ hq); simpa [setP] using this)]
    have h0 := h p List.mem_cons_self
    have e : rdOf false (setP N on p) c = if c = codeP N p then true else rdOf false on c := by
      unfold setP rdOf
      rw [Int.toNat_natCast, List.getD_eq_getElem?_getD, List.getD_eq_getElem?_getD]
      by_cases e : c = codeP N p
      · rw [if_pos e, e, List.getElem?_set_self h0]; rfl
      · rw [if_neg e, List.getElem?_set_ne (fun h => e h.symm)]
    rw [e]
    constructor
    · rintro (h1 | ⟨q, hq, e2⟩)
      · by_cases e3 : c = codeP N p
        · exact .inr ⟨p, List.mem_cons_self, e3.symm⟩
        · rw [if_neg e3] at h1; exact .inl h1
      · exact .inr ⟨q, List.mem_cons_of_mem _ hq, e2⟩
    · rintro (h1 | ⟨q, hq, e2⟩)
      · left; split
        · rfl
        · exact h1
      · rcases List.mem_cons.mp hq with rfl | hq
        · left; rw [if_pos e2.symm]
        · exact .inr ⟨q, hq, e2⟩
theorem rdb_rep' (n c : Nat) : rdOf false (List.replicate n false) c = false := by
  unfold rdOf
  rw [List.getD_eq_getElem?_getD, List.getElem?_replicate]
  split <;> rfl
/-- Sorted and compacted, the pairs are those that are marked. -/
theorem waits_one {L : List (List Int)} {N : Nat} (hN : ∀ p ∈ allP L, 0 ≤ rd p 0 ∧ rd p 0 < N ∧ 0 ≤ rd p 1 ∧ rd p 1 < N) :
    compL (sortL (allP L)) = specL N ((allP L).foldl (setP N) (List.replicate (N * N) false)) 0 (N * N) := by
  have hc : ∀ p ∈ allP L, codeP N p < N * N ∧ codeP N p / N = (rd p 0).toNat ∧ codeP N p % N = (rd p 1).toNat := by
    intro p hp
    obtain ⟨a0, a1, b0, b1⟩ := hN p hp
    have hb : (rd p 1).toNat < N := by omega
    have ha : (rd p 0).toNat < N := by omega
    unfold codeP
    refine ⟨?_, ?_, ?_⟩
    · calc (rd p 0).toNat * N + (rd p 1).toNat < (rd p 0).toNat * N + N := by omega
        _ = ((rd p 0).toNat + 1) * N := by rw [Nat.add_mul, Nat.one_mul]
        _ ≤ N * N := Nat.mul_le_mul_right _ ha
    · rw [Nat.mul_comm, Nat.mul_add_div (by omega), Nat.div_eq_of_lt hb]; rfl
    · rw [Nat.mul_comm, Nat.mul_add_mod, Nat.mod_eq_of_lt hb]
  refine strict_ext lt2_irrefl lt2_trans _ _ (compL_strict (sortL_len (fun x hx => allP_two hx)) (sortL_sorted _)) (specL_strict N _ _ _) (fun x => ?_)
  rw [mem_compL, mem_sortL, mem_specL]
  constructor
  · intro hx
    obtain ⟨c1, c2, c3⟩ := hc x hx
    obtain ⟨a0, a1, b0, b1⟩ := hN x hx
    refine ⟨codeP N x, Nat.zero_le _, by omega, (fold_on N _ _ _ (fun p hp => by rw [List.length_replicate]; exact (hc p hp).1)).mpr (.inr ⟨x, hx, rfl⟩), ?_⟩
    rw [c2, c3, Int.toNat_of_nonneg a0, Int.toNat_of_nonneg b0]
    exact len2 (allP_two hx)
  · rintro ⟨e, h1, h2, h3, rfl⟩
    rcases (fold_on N _ _ _ (fun p hp => by rw [List.length_replicate]; exact (hc p hp).1)).mp h3 with h | ⟨p, hp, rfl⟩
    · rw [rdb_rep'] at h; exact absurd h (by decide)
    · obtain ⟨c1, c2, c3⟩ := hc p hp
      obtain ⟨a0, a1, b0, b1⟩ := hN p hp
      rw [c2, c3, Int.toNat_of_nonneg a0, Int.toNat_of_nonneg b0, ← len2 (allP_two hp)]
      exact hp
def finW (x : List (List Int)) : Option (List (List Int)) := if pairs2 x = true then (if x.length < 4611686018427387904 then some (compL (sortL x)) else none) else none
theorem impl_w1 (r : List Int) (L : List (List Int)) (hr : r.length ≤ 30) (x25 : Int) (d : Nat) : ∀ (k : Nat) (i : Int) (out : List (List Int)), 1 ≤ i → (d = 0 → (r.length : Int) ≤ i) → (0 < d → i + d = r.length) → out.length + d ≤ 100000 →
    impl_WaitsOf.l1 (k + d + 1) out r i L (L.length : Int) x25 = impl_WaitsOf.l0 k (out ++ adjd r i d) L (L.length : Int) (wrap64 (x25 + 1)) := by
  induction d with
  | zero =>
    intro k i out h1 h2 _ _
    have := h2 rfl
    rw [show k + 0 + 1 = k + 1 by omega, impl_WaitsOf.l1, if_neg (by omega), adjd, List.append_nil]
  | succ d ih =>
    intro k i out h1 _ h3 h4
    have := h3 (by omega)
    rw [show k + (d + 1) + 1 = (k + d + 1) + 1 by omega, impl_WaitsOf.l1, if_pos (by omega), w_in (n := i - 1) (by omega) (by omega), if_pos (by omega), if_pos (by omega), if_pos (by omega), if_pos (by omega), w_in (n := i + 1) (by omega) (by omega),
      ih k (i + 1) _ (by omega) (by omega) (by omega) (by rw [List.length_append]; simp; omega), adjd, List.append_assoc]
    rfl
theorem impl_w0 (L : List (List Int)) (hL : ∀ r ∈ L, r.length ≤ 30) (hl : L.length ≤ 12) (d : Nat) : ∀ (k : Nat) (i : Int) (out : List (List Int)), 0 ≤ i → i + d = L.length → out.length + d * 40 ≤ 100000 → d * 40 < k →
    impl_WaitsOf.l0 k out L (L.length : Int) i = finW (out ++ (L.drop i.toNat).flatMap adj) := by
  induction d with
  | zero =>
    intro k i out h0 h1 ho hk
    obtain ⟨k, rfl⟩ : ∃ m, k = m + 1 := ⟨k - 1, by omega⟩
    rw [impl_WaitsOf.l0, if_neg (by omega), List.drop_eq_nil_of_le (by omega), List.flatMap_nil, List.append_nil]
    rfl
  | succ d ih =>
    intro k i out h0 h1 ho hk
    have hr := hL _ (rdl_mem (l := L) h0 (by omega))
    obtain ⟨k, rfl⟩ : ∃ m, k = (m + ((rd_L2 L i).length - 1) + 1) + 1 := ⟨k - 2 - ((rd_L2 L i).length - 1), by omega⟩
    rw [impl_WaitsOf.l0, if_pos (by omega), if_pos (by omega), if_pos (by omega), impl_w1 (rd_L2 L i) L hr i _ k 1 out (by omega) (by omega) (by omega) (by omega), w_in (n := i + 1) (by omega) (by omega),
      ih k (i + 1) _ (by omega) (by omega) (by rw [List.length_append, adjd_len]; omega) (by omega), rdl_at h0 (by omega), List.flatMap_cons, List.append_assoc]
    rfl
theorem finW_ok {L : List (List Int)} (h : (allP L).length ≤ 100000) : finW (allP L) = some (compL (sortL (allP L))) := by
  unfold finW
  rw [if_pos (show pairs2 (allP L) = true from List.all_eq_true.mpr fun x hx => by simp [allP_two hx]), if_pos (by omega)]
theorem allP_len : ∀ (L : List (List Int)), (∀ r ∈ L, r.length ≤ 30) → (allP L).length ≤ 30 * L.length
  | [], _ => by simp [allP]
  | r :: L, h => by
    have := allP_len L (fun x hx => h x (List.mem_cons_of_mem _ hx))
    have h2 := h r List.mem_cons_self
    unfold allP at *
    rw [List.flatMap_cons, List.length_append, adj, adjd_len, List.length_cons]
    omega
theorem spec_w1 (w : Int) (l : List (List Int)) (r : List Int) (N : Nat) (hN : N ≤ 100) (hr : ∀ j : Int, 0 ≤ j → j < r.length → 0 ≤ rd r j ∧ rd r j < N) (hl : r.length ≤ 30) (out : List (List Int)) (x10 : Int) (d : Nat) : ∀ (k : Nat) (i : Int) (on : List Bool), 1 ≤ i → (d = 0 → (r.length : Int) ≤ i) → (0 < d → i + d = r.length) → on.length = N * N →
    spec_WaitsOf.l1 (k + d + 1) w l out (N : Int) on x10 r i = spec_WaitsOf.l0 k w l out (N : Int) ((adjd r i d).foldl (setP N) on) (wrap64 (x10 + 1)) := by
  induction d with
  | zero =>
    intro k i on h1 h2 _ _
    have := h2 rfl
    rw [show k + 0 + 1 = k + 1 by omega, spec_WaitsOf.l1, if_neg (by omega), adjd]
    rfl
  | succ d ih =>
    intro k i on h1 _ h3 h4
    have h5 := h3 (by omega)
    obtain ⟨a0, a1⟩ := hr (i - 1) (by omega) (by omega)
    obtain ⟨b0, b1⟩ := hr i (by omega) (by omega)
    obtain ⟨a, ha⟩ : ∃ a : Nat, rd r (i - 1) = a := ⟨(rd r (i - 1)).toNat, by omega⟩
    obtain ⟨b, hb⟩ : ∃ b : Nat, rd r i = b := ⟨(rd r i).toNat, by omega⟩
    have hlt : a * N + b < N * N := by
      calc a * N + b < a * N + N := by omega
        _ = (a + 1) * N := by rw [Nat.add_mul, Nat.one_mul]
        _ ≤ N * N := Nat.mul_le_mul_right _ (by omega)
    have hNN : N * N ≤ 10000 := by
      calc N * N ≤ 100 * 100 := Nat.mul_le_mul hN hN
        _ = 10000 := rfl
    have hc : codeP N [rd r (i - 1), rd r i] = a * N + b := by
      show (rd r (i - 1)).toNat * N + (rd r i).toNat = _
      rw [ha, hb]
      rfl
    have he : wrap64 (wrap64 (rd r (i - 1) * (N : Int)) + rd r i) = ((a * N + b : Nat) : Int) := by
      rw [ha, hb, show (a : Int) * (N : Int) = ((a * N : Nat) : Int) by rw [Int.natCast_mul], w_in (n := ((a * N : Nat) : Int)) (by omega) (by omega), show ((a * N : Nat) : Int) + (b : Int) = ((a * N + b : Nat) : Int) by omega, w_in (by omega) (by omega)]
    rw [show k + (d + 1) + 1 = (k + d + 1) + 1 by omega, spec_WaitsOf.l1, if_pos (by omega), w_in (n := i - 1) (by omega) (by omega), if_pos (by omega), if_pos (by omega), if_pos (by omega), he, if_pos (by omega), if_pos (by rw [h4]; omega), w_in (n := i + 1) (by omega) (by omega),
      Int.toNat_natCast, ih k (i + 1) _ (by omega) (by omega) (by omega) (by rw [List.length_set]; exact h4), adjd, List.foldl_cons]
    unfold setP
    rw [hc]
theorem spec_w2 (N : Nat) (hN : N ≤ 100) (hN0 : 0 < N) (on : List Bool) (hon : on.length = N * N) (d : Nat) : ∀ (k : Nat) (c : Nat) (out : List (List Int)), c + d = N * N → out.length + d ≤ 100000 → d < k →
    spec_WaitsOf.l2 k out (N : Int) on c = some (out ++ specL N on c d) := by
  have hNN : N * N ≤ 10000 := by
    calc N * N ≤ 100 * 100 := Nat.mul_le_mul hN hN
      _ = 10000 := rfl
  have hw : wrap64 ((N : Int) * (N : Int)) = ((N * N : Nat) : Int) := by rw [← Int.natCast_mul]; exact w_in (by omega) (by omega)
  induction d with
  | zero =>
    intro k c out h1 ho hk
    obtain ⟨k, rfl⟩ : ∃ m, k = m + 1 := ⟨k - 1, by omega⟩
    rw [spec_WaitsOf.l2, hw, if_neg (by omega), specL, List.append_nil]
  | succ d ih =>
    intro k c out h1 ho hk
    obtain ⟨k, rfl⟩ : ∃ m, k = m + 1 := ⟨k - 1, by omega⟩
    have e1 : wrap64 ((c : Int) + 1) = ((c + 1 : Nat) : Int) := by rw [w_in (by omega) (by omega)]; omega
    have hq : c / N ≤ c := Nat.div_le_self c N
    have hq2 : wrap64 ((c / N : Nat) : Int) = ((c / N : Nat) : Int) := by generalize c / N = q at hq; exact w_in (by omega) (by omega)
    rw [spec_WaitsOf.l2, hw, if_pos (by omega), if_pos (by omega), if_pos (by rw [hon]; omega), specL]
    by_cases hb : rdOf false on c = true
    · rw [if_pos hb, if_pos hb, if_neg (by omega), if_pos (by omega), ← Int.ofNat_tdiv, ← Int.ofNat_tmod, hq2, e1, ih k (c + 1) _ (by omega) (by rw [List.length_append]; simp; omega) (by omega), List.append_assoc]
      rfl
    · rw [if_neg hb, if_neg hb, e1, ih k (c + 1) _ (by omega) (by omega) (by omega)]
theorem spec_w0 (w h : Int) (l : List (List Int)) (ha : ∀ x ∈ l, wayv w h x = true) (hl : l.length ≤ 12) (N : Nat) (hNe : (N : Int) = 4 * (w * h)) (hN : N ≤ 100) (hN0 : 0 < N) (d : Nat) : ∀ (k : Nat) (i : Int) (on : List Bool), 0 ≤ i → i + d = l.length → on.length = N * N → d * 40 + 10100 < k →
    spec_WaitsOf.l0 k w l [] (N : Int) on i = some (specL N ((((l.drop i.toNat).map (wof w)).flatMap adj).foldl (setP N) on) 0 (N * N)) := by
  induction d with
  | zero =>
    intro k i on h0 h1 ho hk
    obtain ⟨k, rfl⟩ : ∃ m, k = m + 1 := ⟨k - 1, by omega⟩
    have hNN : N * N ≤ 10000 := by
      calc N * N ≤ 100 * 100 := Nat.mul_le_mul hN hN
        _ = 10000 := rfl
    have := spec_w2 N hN hN0 on ho (N * N) k 0 [] (by omega) (by simp; omega) (by omega)
    rw [spec_WaitsOf.l0, if_neg (by omega), List.drop_eq_nil_of_le (by omega)]
    exact this
  | succ d ih =>
    intro k i on h0 h1 ho hk
    have hv := ha _ (rdl_mem (l := l) h0 (by omega))
    obtain ⟨g1, g2, g3⟩ := wof_good hv hNe
    obtain ⟨k, rfl⟩ : ∃ m, k = (m + ((wof w (rd_L2 l i)).length - 1) + 1) + 1 := ⟨k - 2 - ((wof w (rd_L2 l i)).length - 1), by omega⟩
    rw [spec_WaitsOf.l0, if_pos (by omega), if_pos (by omega), bs (spec_wof hv (by omega)), spec_w1 w l (wof w (rd_L2 l i)) N hN g2 g1 [] i _ k 1 on (by omega) (by omega) (by omega) ho, w_in (n := i + 1) (by omega) (by omega),
      ih k (i + 1) _ (by omega) (by omega) (by rw [setP_len]; exact ho) (by omega), rdl_at h0 (by omega), List.map_cons, List.flatMap_cons, List.foldl_append]
    rfl
def waitsR (w h : Int) (l : List (List Int)) : List (List Int) := if goodw w h l = true then compL (sortL (allP (l.map (wof w)))) else []
theorem good_open {w h : Int} {l : List (List Int)} (g : goodw w h l = true) : (∀ x ∈ l, wayv w h x = true) ∧ (1 ≤ w ∧ w ≤ 5) ∧ (1 ≤ h ∧ h ≤ 5) ∧ l.length ≤ 12 := by
  unfold goodw fab at g
  simp only [Bool.and_eq_true, decide_eq_true_eq, List.all_eq_true] at g
  exact ⟨g.1.1, g.1.2.1, g.1.2.2, by omega⟩
theorem good_N {w h : Int} (hw : 1 ≤ w ∧ w ≤ 5) (hh : 1 ≤ h ∧ h ≤ 5) : ∃ N : Nat, (N : Int) = 4 * (w * h) ∧ N ≤ 100 ∧ 0 < N ∧ wrap64 (wrap64 (4 * w) * h) = (N : Int) := by
  have h1 : 1 ≤ w * h ∧ w * h ≤ 25 := by
    obtain ⟨a, b⟩ := hw
    obtain ⟨c, d⟩ := hh
    have h5 : w = 1 ∨ w = 2 ∨ w = 3 ∨ w = 4 ∨ w = 5 := by omega
    rcases h5 with rfl | rfl | rfl | rfl | rfl <;> omega
  refine ⟨(4 * (w * h)).toNat, by omega, by omega, by omega, ?_⟩
  rw [w_in (n := 4 * w) (by omega) (by omega), Int.mul_assoc, w_in (by omega) (by omega)]
  omega
theorem allP_good {w h : Int} {l : List (List Int)} (g : goodw w h l = true) {N : Nat} (hN : (N : Int) = 4 * (w * h)) : ∀ p ∈ allP (l.map (wof w)), 0 ≤ rd p 0 ∧ rd p 0 < N ∧ 0 ≤ rd p 1 ∧ rd p 1 < N := by
  intro p hp
  obtain ⟨r, hr, hpr⟩ := List.mem_flatMap.mp hp
  obtain ⟨x, hx, rfl⟩ := List.mem_map.mp hr
  obtain ⟨g1, g2, g3⟩ := wof_good ((good_open g).1 x hx) hN
  obtain ⟨j, hj, rfl⟩ := (mem_adjd _ _ _ _).mp hpr
  have e0 : rd [rd (wof w x) (1 + (j : Int) - 1), rd (wof w x) (1 + (j : Int))] 0 = rd (wof w x) (1 + (j : Int) - 1) := rfl
  have e1 : rd [rd (wof w x) (1 + (j : Int) - 1), rd (wof w x) (1 + (j : Int))] 1 = rd (wof w x) (1 + (j : Int)) := rfl
  rw [e0, e1]
  have q0 := g2 (1 + (j : Int) - 1) (by omega) (by omega)
  have q1 := g2 (1 + (j : Int)) (by omega) (by omega)
  exact ⟨q0.1, q0.2, q1.1, q1.2⟩
theorem waitsR_two {w h : Int} {l : List (List Int)} : ∀ x ∈ waitsR w h l, x.length = 2 := by
  intro x hx
  unfold waitsR at hx
  split at hx
  · exact allP_two (mem_sortL.mp (mem_compL.mp hx))
  · simp at hx
theorem waitsR_len (w h : Int) (l : List (List Int)) : (waitsR w h l).length ≤ 10000 := by
  unfold waitsR
  split
  · rename_i g
    obtain ⟨g1, g2, g3, g4⟩ := good_open g
    obtain ⟨N, hN, hN1, hN2, hN3⟩ := good_N g2 g3
    rw [waits_one (allP_good g hN)]
    have := specL_len N ((allP (l.map (wof w))).foldl (setP N) (List.replicate (N * N) false)) (N * N) 0
    have hNN : N * N ≤ 10000 := by
      calc N * N ≤ 100 * 100 := Nat.mul_le_mul hN1 hN1
        _ = 10000 := rfl
    omega
  · simp
theorem impl_waits {w h : Int} {l : List (List Int)} {M : Nat} (hM : ∀ x ∈ l, x.length ≤ M) (hMb : M ≤ 2000000) {k : Nat} (hk : M + 20000 < k) : impl_WaitsOf.f k w h l = some (waitsR w h l) := by
  unfold impl_WaitsOf.f waitsR
  rw [bs (impl_wires_ok hM hMb (by omega))]
  by_cases g : goodw w h l = true
  · obtain ⟨g1, g2, g3, g4⟩ := good_open g
    obtain ⟨N, hN, hN1, hN2, hN3⟩ := good_N g2 g3
    have hL : ∀ r ∈ l.map (wof w), r.length ≤ 30 := fun r hr => by obtain ⟨x, hx, rfl⟩ := List.mem_map.mp hr; exact (wof_good (g1 x hx) hN).1
    have hlen := allP_len (l.map (wof w)) hL
    rw [List.length_map] at hlen
    have h0 := impl_w0 (l.map (wof w)) hL (by rw [List.length_map]; exact g4) l.length k 0 [] (by omega) (by rw [List.length_map]; omega) (by simp; omega) (by omega)
    rw [if_pos g, if_pos g]
    dsimp only
    have e : ([] ++ ((l.map (wof w)).drop (0 : Int).toNat).flatMap adj) = allP (l.map (wof w)) := rfl
    rw [List.length_map] at h0
    rw [if_pos rfl, List.length_map, h0, e]
    exact finW_ok (by omega)
  · rw [if_neg g, if_neg g]
    dsimp only
    rw [if_neg (by decide)]
theorem spec_waits {w h : Int} {l : List (List Int)} {M : Nat} (hM : ∀ x ∈ l, x.length ≤ M) (hMb : M ≤ 2000000) (hl : l.length ≤ 2000000) {k : Nat} (hk : l.length + M + 20000 < k) : spec_WaitsOf.f k w h l = some (waitsR w h l) := by
  unfold spec_WaitsOf.f waitsR
  rw [bs rfl, bs (ways_ok hM hMb hl (by omega))]
  by_cases g : goodw w h l = true
  · obtain ⟨g1, g2, g3, g4⟩ := good_open g
    obtain ⟨N, hN, hN1, hN2, hN3⟩ := good_N g2 g3
    have hNN : N * N ≤ 10000 := by
      calc N * N ≤ 100 * 100 := Nat.mul_le_mul hN1 hN1
        _ = 10000 := rfl
    have hw : wrap64 ((N : Int) * (N : Int)) = ((N * N : Nat) : Int) := by rw [← Int.natCast_mul]; exact w_in (by omega) (by omega)
    have h0 := spec_w0 w h l g1 g4 N hN hN1 hN2 l.length k 0 (List.replicate (N * N) false) (by omega) (by omega) (by simp) (by omega)
    rw [if_pos g, if_pos g, hN3, hw, if_pos (by omega), Int.toNat_natCast, if_pos (by omega), h0, waits_one (allP_good g hN)]
    rfl
  · rw [if_neg g, if_neg g]
theorem wh_bd {w h : Int} (hw : 0 ≤ w ∧ w ≤ 6) (hh : 0 ≤ h ∧ h ≤ 6) : 0 ≤ w * h ∧ w * h ≤ 36 := by
  have : h = 0 ∨ h = 1 ∨ h = 2 ∨ h = 3 ∨ h = 4 ∨ h = 5 ∨ h = 6 := by omega
  rcases this with rfl | rfl | rfl | rfl | rfl | rfl | rfl <;> omega
theorem drawSize {b : List Int} (hb : ∀ x ∈ b, 0 ≤ x ∧ x ≤ 255) {k : Nat} (hk : 0 < k) {p : Int} (hp : 0 ≤ p) (hp2 : p ≤ 1000000) :
    ∃ w h, spec_l16Size.f k b p = some (w, h, p + 1 + 1 + 1) ∧ (0 ≤ w ∧ w ≤ 6) ∧ (0 ≤ h ∧ h ≤ 6) := by
  unfold spec_l16Size.f
  obtain ⟨q, hq, _, _⟩ := pick_ok (k := k) (n := 40) hb hp (by omega) (by omega) hk
  rw [bs hq]
  dsimp only
  by_cases e : q = 0
  · rw [if_pos e]
    obtain ⟨w, hw, hm⟩ := num_ok (k := k) (p := p + 1) (xs := [0, 6, 3]) hb (by omega) (by omega) (by simp) hk
    rw [bs hw]
    dsimp only
    obtain ⟨h, hh, hm2⟩ := num_ok (k := k) (p := p + 1 + 1) (xs := [0, 6, 2]) hb (by omega) (by omega) (by simp) hk
    rw [bs hh]
    dsimp only
    have a1 : w = 0 ∨ w = 6 ∨ w = 3 := by simpa using hm
    have a2 : h = 0 ∨ h = 6 ∨ h = 2 := by simpa using hm2
    exact ⟨w, h, rfl, by omega, by omega⟩
  · rw [if_neg e]
    obtain ⟨w, hw, hm⟩ := num_ok (k := k) (p := p + 1) (xs := [3, 2, 4, 5, 1]) hb (by omega) (by omega) (by simp) hk
    rw [bs hw]
    dsimp only
    obtain ⟨h, hh, hm2⟩ := num_ok (k := k) (p := p + 1 + 1) (xs := [3, 2, 2, 5, 1]) hb (by omega) (by omega) (by simp) hk
    rw [bs hh]
    dsimp only
    have a1 : w = 3 ∨ w = 2 ∨ w = 4 ∨ w = 5 ∨ w = 1 := by simpa using hm
    have a2 : h = 3 ∨ h = 2 ∨ h = 2 ∨ h = 5 ∨ h = 1 := by simpa using hm2
    exact ⟨w, h, rfl, by omega, by omega⟩
theorem nd_mk {w h x : Int} (hw : 1 ≤ w ∧ w ≤ 5) (hh : 1 ≤ h ∧ h ≤ 5) (hx : 0 ≤ x ∧ x ≤ w * h - 1) : nd w h x = true := by
  have hwh := wh_bd (w := w) (h := h) (by omega) (by omega)
  unfold nd
  rw [w_in (n := w * h) (by omega) (by omega), w_in (n := w * h - 1) (by omega) (by omega)]
  simp only [Bool.and_eq_true, decide_eq_true_eq]
  exact ⟨⟨hw, hh⟩, hx⟩
theorem walk_loop {b : List Int} (hb : ∀ x ∈ b, 0 ≤ x ∧ x ≤ 255) {w h : Int} (hw : 1 ≤ w ∧ w ≤ 5) (hh : 1 ≤ h ∧ h ≤ 5) (d : Nat) : ∀ (k : Nat) (at_ p : Int) (acc : List Int), d + 20 < k → 0 ≤ p → p + d ≤ 1000000 → (0 ≤ at_ ∧ at_ ≤ w * h - 1) → acc.length + d ≤ 1000 → 1 ≤ acc.length →
    ∃ out, spec_l16Walk.l0 k w h at_ acc (d : Int) b p = some (out, p + d) ∧ out.length ≤ acc.length + d ∧ 1 ≤ out.length := by
  have hwh := wh_bd (w := w) (h := h) (by omega) (by omega)
  induction d with
  | zero =>
    intro k at_ p acc hk hp hp2 ha hl h1
    obtain ⟨k, rfl⟩ : ∃ m, k = m + 1 := ⟨k - 1, by omega⟩
    simp only [spec_l16Walk.l0]
    rw [if_neg (by omega)]
    exact ⟨acc, by simp, by omega, h1⟩
  | succ d ih =>
    intro k at_ p acc hk hp hp2 ha hl h1
    obtain ⟨k, rfl⟩ : ∃ m, k = m + 1 := ⟨k - 1, by omega⟩
    simp only [spec_l16Walk.l0]
    obtain ⟨v, hv, hm⟩ := num_ok (k := k) (p := p) (xs := [1, -1, w, wrap64 (-w)]) hb hp (by omega) (by simp) (by omega)
    rw [w_in (n := -w) (by omega) (by omega)] at hm hv
    have hv2 : v = 1 ∨ v = -1 ∨ v = w ∨ v = -w := by simpa using hm
    rw [if_pos (by omega), w_in (n := -w) (by omega) (by omega), bs hv]
    dsimp only
    rw [w_in (n := at_ + v) (by omega) (by omega), s_in, w_in (n := w * h) (by omega) (by omega), w_in (n := w * h - 1) (by omega) (by omega), bs rfl, w_in (n := ((d + 1 : Nat) : Int) - 1) (by omega) (by omega), show ((d + 1 : Nat) : Int) - 1 = (d : Int) by omega, show p + ((d + 1 : Nat) : Int) = p + 1 + (d : Int) by omega]
    by_cases hin : 0 ≤ at_ + v ∧ at_ + v ≤ w * h - 1
    · rw [if_pos (decide_eq_true hin), spec_wire16 (nd_mk hw hh ha) (nd_mk hw hh hin) (by omega)]
      obtain ⟨u, hu⟩ := wr16_some w at_ (at_ + v)
      rw [bs hu]
      by_cases hu0 : u ≥ 0
      · rw [if_pos hu0, if_pos (by omega)]
        obtain ⟨out, e, e1, e2⟩ := ih k (at_ + v) (p + 1) (acc ++ [at_ + v]) (by omega) (by omega) (by omega) hin (by simp; omega) (by simp)
        exact ⟨out, e, by simp at e1; omega, e2⟩
      · rw [if_neg hu0]
        obtain ⟨out, e, e1, e2⟩ := ih k at_ (p + 1) acc (by omega) (by omega) (by omega) ha (by omega) h1
        exact ⟨out, e, by omega, e2⟩
    · rw [if_neg (by rw [decide_eq_false hin]; decide)]
      obtain ⟨out, e, e1, e2⟩ := ih k at_ (p + 1) acc (by omega) (by omega) (by omega) ha (by omega) h1
      exact ⟨out, e, by omega, e2⟩
theorem drawWalk {b : List Int} (hb : ∀ x ∈ b, 0 ≤ x ∧ x ≤ 255) {w h : Int} (hw : 1 ≤ w ∧ w ≤ 5) (hh : 1 ≤ h ∧ h ≤ 5) {k : Nat} (hk : 40 < k) {p : Int} (hp : 0 ≤ p) (hp2 : p ≤ 100000) :
    ∃ out p', spec_l16Walk.f k b p w h = some (out, p') ∧ p ≤ p' ∧ p' ≤ p + 20 ∧ out.length ≤ 10 ∧ 1 ≤ out.length := by
  have hwh := wh_bd (w := w) (h := h) (by omega) (by omega)
  have hwh1 : 1 ≤ w * h := by
    have : h = 1 ∨ h = 2 ∨ h = 3 ∨ h = 4 ∨ h = 5 := by omega
    rcases this with rfl | rfl | rfl | rfl | rfl <;> omega
  unfold spec_l16Walk.f
  rw [w_in (n := w * h) (by omega) (by omega)]
  obtain ⟨a, ha, a0, a1⟩ := pick_ok (k := k) (p := p) (n := w * h) hb hp (by omega) hwh1 (by omega)
  rw [bs ha]
  dsimp only
  obtain ⟨v, hv, hm⟩ := num_ok (k := k) (p := p + 1) (xs := [3, 5, 2, 1, 9]) hb (by omega) (by omega) (by simp) (by omega)
  rw [bs hv]
  dsimp only
  have hv2 : v = 3 ∨ v = 5 ∨ v = 2 ∨ v = 1 ∨ v = 9 := by simpa using hm
  obtain ⟨n, rfl⟩ : ∃ n : Nat, v = n := ⟨v.toNat, by omega⟩
  obtain ⟨out, e, e1, e2⟩ := walk_loop hb hw hh n k a (p + 1 + 1) [a] (by omega) (by omega) (by omega) (by omega) (by simp; omega) (by simp)
  exact ⟨out, _, e, by omega, by omega, by simp at e1; omega, e2⟩
def beqO (x y : Option (List Int)) : Bool := match x, y with
  | some a, some b => a == b
  | _, _ => false
theorem beqO_eq {x y : Option (List Int)} (h : beqO x y = true) : ∃ l, x = some l ∧ y = some l := by
  cases x with
  | none => simp [beqO] at h
  | some a =>
    cases y with
    | none => simp [beqO] at h
    | some b =>
      have e : a = b := by simpa [beqO] using h
      exact ⟨a, rfl, by rw [e]⟩
/-- A check of all fabrics and nodes. -/
def allc (c : Nat → Nat → Nat → Nat → Bool) : Bool := (List.range 5).all fun w => (List.range 5).all fun h => (List.range ((w + 1) * (h + 1))).all fun a => (List.range ((w + 1) * (h + 1))).all fun b => c (w + 1) (h + 1) a b
theorem all_get {c : Nat → Nat → Nat → Nat → Bool} (hall : allc c = true) {W H A B : Nat} (hw : 1 ≤ W ∧ W ≤ 5) (hh : 1 ≤ H ∧ H ≤ 5) (ha : A < W * H) (hb : B < W * H) : c W H A B = true := by
  obtain ⟨w, rfl⟩ : ∃ w, W = w + 1 := ⟨W - 1, by omega⟩
  obtain ⟨h, rfl⟩ : ∃ h, H = h + 1 := ⟨H - 1, by omega⟩
  unfold allc at hall
  have h1 := List.all_eq_true.mp hall w (List.mem_range.mpr (by omega))
  have h2 := List.all_eq_true.mp h1 h (List.mem_range.mpr (by omega))
  have h3 := List.all_eq_true.mp h2 A (List.mem_range.mpr ha)
  exact List.all_eq_true.mp h3 B (List.mem_range.mpr hb)
theorem to_fin {w h a b : Int} (ha : nd w h a = true) (hb : nd w h b = true) : ∃ W H A B : Nat, w = W ∧ h = H ∧ a = A ∧ b = B ∧ (1 ≤ W ∧ W ≤ 5) ∧ (1 ≤ H ∧ H ≤ 5) ∧ A < W * H ∧ B < W * H := by
  have oa := nd_open ha
  have ob := nd_open hb
  obtain ⟨W, rfl⟩ : ∃ W : Nat, w = W := ⟨w.toNat, by omega⟩
  obtain ⟨H, rfl⟩ : ∃ H : Nat, h = H := ⟨h.toNat, by omega⟩
  obtain ⟨A, rfl⟩ : ∃ A : Nat, a = A := ⟨a.toNat, by omega⟩
  obtain ⟨B, rfl⟩ : ∃ B : Nat, b = B := ⟨b.toNat, by omega⟩
  have e : ((W * H : Nat) : Int) = (W : Int) * (H : Int) := by simp
  have hb2 : (W : Int) * (H : Int) ≤ 36 ∧ 0 ≤ (W : Int) * (H : Int) := by
    have : H = 1 ∨ H = 2 ∨ H = 3 ∨ H = 4 ∨ H = 5 := by omega
    rcases this with rfl | rfl | rfl | rfl | rfl <;> omega
  have h1 := oa.2.2.2
  have h2 := ob.2.2.2
  rw [← e] at hb2
  rw [← e, w_in (n := ((W * H : Nat) : Int)) (by omega) (by omega), w_in (n := ((W * H : Nat) : Int) - 1) (by omega) (by omega)] at h1 h2
  exact ⟨W, H, A, B, rfl, rfl, rfl, rfl, by omega, by omega, by omega, by omega⟩
/-! the draw of ways -/
def rck (W _H A B : Nat) : Bool := match spec_l16Route.f 40 W A B true, spec_l16Route.f 40 W A B false with
  | some p, some q => decide (p.length ≤ 10) && decide (q.length ≤ 10)
  | _, _ => false
theorem rck_all : allc rck = true := by decide +kernel
theorem upK {α : Type} {f : Nat → Option α} (hm : ∀ k, LeO (f k) (f (k + 1))) {k K : Nat} {v : α} (h : f k = some v) (hk : k ≤ K) : f K = some v := by
  obtain ⟨d, rfl⟩ := Nat.exists_eq_add_of_le hk
  clear hk
  induction d with
  | zero => exact h
  | succ d ih => exact hm _ _ ih
theorem route_tot {w h a b : Int} (hw : 1 ≤ w ∧ w ≤ 5) (hh : 1 ≤ h ∧ h ≤ 5) (ha : 0 ≤ a ∧ a ≤ w * h - 1) (hb : 0 ≤ b ∧ b ≤ w * h - 1) (c : Bool) {k : Nat} (hk : 40 ≤ k) : ∃ out, spec_l16Route.f k w a b c = some out ∧ out.length ≤ 10 := by
  obtain ⟨W, H, A, B, rfl, rfl, rfl, rfl, hW, hH, hA, hB⟩ := to_fin (nd_mk hw hh ha) (nd_mk hw hh hb)
  have hc := all_get rck_all hW hH hA hB
  unfold rck at hc
  cases e1 : spec_l16Route.f 40 W A B true with
  | none => rw [e1] at hc; simp at hc
  | some p =>
    cases e2 : spec_l16Route.f 40 W A B false with
    | none => rw [e1, e2] at hc; simp at hc
    | some q =>
      rw [e1, e2] at hc
      simp only [Bool.and_eq_true, decide_eq_true_eq] at hc
      cases c with
      | true => exact ⟨p, upK (f := fun k => spec_l16Route.f k W A B true) (fun k => spec_l16Route.mono _ _ _ _ k) e1 hk, hc.1⟩
      | false => exact ⟨q, upK (f := fun k => spec_l16Route.f k W A B false) (fun k => spec_l16Route.mono _ _ _ _ k) e2 hk, hc.2⟩
def shortW (l : List (List Int)) : Prop := ∀ x ∈ l, x.length ≤ 10
theorem shortW_snoc {l : List (List Int)} {x : List Int} (h : shortW l) (hx : x.length ≤ 10) : shortW (l ++ [x]) := by
  intro y hy
  rcases List.mem_append.mp hy with hy | hy
  · exact h y hy
  · have e : y = x := by simpa using hy
    rw [e]; exact hx
theorem shortW_lit (w : Int) : shortW (spec_l16Draw.lit w) := by
  intro y hy
  have e : y ∈ [[0, 1, wrap64 (1 + w)], [1, wrap64 (1 + w), w], [wrap64 (1 + w), w, 0], [w, 0, 1]] := hy
  simp only [List.mem_cons, List.not_mem_nil, or_false] at e
  rcases e with rfl | rfl | rfl | rfl <;> simp
theorem lit_len (w : Int) : (spec_l16Draw.lit w).length = 4 := rfl
theorem ways_j2 {b : List Int} (hb : ∀ x ∈ b, 0 ≤ x ∧ x ≤ 255) {w h : Int} {k : Nat} (hk : 3 < k) {p : Int} (hp : 0 ≤ p) (hp2 : p ≤ 100000) {ways : List (List Int)} (hs : shortW ways) (hl : ways.length ≤ 12) (x : Bool) :
    ∃ ways' p', spec_l16Draw.j2 k w h ways x b p = some (w, h, ways', p') ∧ shortW ways' ∧ ways'.length ≤ 14 := by
  obtain ⟨k, rfl⟩ : ∃ m, k = m + 1 := ⟨k - 1, by omega⟩
  obtain ⟨q, hq, _, _⟩ := pick_ok (k := k) (p := p) (n := 25) hb hp (by omega) (by omega) (by omega)
  rw [spec_l16Draw.j2]
  cases x with
  | true =>
    rw [if_pos rfl, bs hq]
    dsimp only
    by_cases e : q = 0
    · rw [if_pos e, lit_len, if_pos (by omega)]
      exact ⟨_, _, rfl, shortW_snoc (shortW_lit w) (by simp), by rw [List.length_append, lit_len]; simp⟩
    · rw [if_neg e]
      exact ⟨_, _, rfl, shortW_lit w, by rw [lit_len]; omega⟩
  | false =>
    rw [if_neg (by decide), bs hq]
    dsimp only
    by_cases e : q = 0
    · rw [if_pos e, if_pos (by omega)]
      exact ⟨_, _, rfl, shortW_snoc hs (by simp), by rw [List.length_append]; simp; omega⟩
    · rw [if_neg e]
      exact ⟨_, _, rfl, hs, by omega⟩
theorem ways_j1f {b : List Int} (hb : ∀ x ∈ b, 0 ≤ x ∧ x ≤ 255) {w h : Int} {k : Nat} (hk : 5 < k) {p : Int} (hp : 0 ≤ p) (hp2 : p ≤ 100000) {ways : List (List Int)} (hs : shortW ways) (hl : ways.length ≤ 12) (x8 x9 : Int) :
    ∃ ways' p', spec_l16Draw.j1 k w h ways x8 x9 false b p = some (w, h, ways', p') ∧ shortW ways' ∧ ways'.length ≤ 14 := by
  obtain ⟨k, rfl⟩ : ∃ m, k = m + 1 := ⟨k - 1, by omega⟩
  rw [spec_l16Draw.j1, if_neg (by decide)]
  split
  · split
    · exact ways_j2 hb (by omega) hp hp2 hs hl _
    · exact ways_j2 hb (by omega) hp hp2 hs hl _
  · exact ways_j2 hb (by omega) hp hp2 hs hl _
theorem ways_l0 {b : List Int} (hb : ∀ x ∈ b, 0 ≤ x ∧ x ≤ 255) {w h : Int} (hw : 0 ≤ w ∧ w ≤ 6) (hh : 0 ≤ h ∧ h ≤ 6) (x8 : Int) (d : Nat) : ∀ (k : Nat) (p : Int) (ways : List (List Int)), 2 * d + 60 < k → 0 ≤ p → p + 40 * d ≤ 90000 → shortW ways → ways.length + d ≤ 12 →
    ∃ ways' p', spec_l16Draw.l0 k w h ways x8 (d : Int) b p = some (w, h, ways', p') ∧ shortW ways' ∧ ways'.length ≤ 14 := by
  induction d with
  | zero =>
    intro k p ways hk hp hp2 hs hl
    obtain ⟨k, rfl⟩ : ∃ m, k = m + 1 := ⟨k - 1, by omega⟩
    rw [spec_l16Draw.l0, if_neg (by omega)]
    exact ways_j1f hb (by omega) hp (by omega) hs (by omega) _ _
  | succ d ih =>
    intro k p ways hk hp hp2 hs hl
    obtain ⟨k, rfl⟩ : ∃ m, k = m + 1 + 1 := ⟨k - 2, by omega⟩
    rw [spec_l16Draw.l0, if_pos (by omega)]
    by_cases hf : (1 ≤ w ∧ w ≤ 5) ∧ (1 ≤ h ∧ h ≤ 5)
    · obtain ⟨h1, h2⟩ := hf
      have hwh := wh_bd hw hh
      have hwh1 : 1 ≤ w * h := by
        have : h = 1 ∨ h = 2 ∨ h = 3 ∨ h = 4 ∨ h = 5 := by omega
        rcases this with rfl | rfl | rfl | rfl | rfl <;> omega
      have hfab : spec_l16Fabric.f w h = some true := by
        unfold spec_l16Fabric.f
        rw [s_in, s_in, bs rfl, if_pos (decide_eq_true h1), bs rfl, decide_eq_true h2]
      obtain ⟨a, ha, a0, a1⟩ := pick_ok (k := k) (p := p) (n := w * h) hb hp (by omega) hwh1 (by omega)
      obtain ⟨c, hc, c0, c1⟩ := pick_ok (k := k) (p := p + 1) (n := w * h) hb (by omega) (by omega) hwh1 (by omega)
      rw [bs hfab, spec_l16Draw.j1, if_pos rfl, w_in (n := w * h) (by omega) (by omega), bs ha]
      dsimp only
      rw [bs hc, w_in (n := ((d + 1 : Nat) : Int) - 1) (by omega) (by omega), show ((d + 1 : Nat) : Int) - 1 = (d : Int) by omega]
      dsimp only
      by_cases e0 : x8 = 0
      · obtain ⟨r, hr, hr2⟩ := route_tot h1 h2 ⟨a0, by omega⟩ ⟨c0, by omega⟩ true (k := k) (by omega)
        rw [if_pos e0, bs hr, if_pos (by omega)]
        exact ih k _ _ (by omega) (by omega) (by omega) (shortW_snoc hs hr2) (by rw [List.length_append]; simp; omega)
      · rw [if_neg e0]
        by_cases e1 : x8 = 1
        · obtain ⟨q, hq, _, _⟩ := pick_ok (k := k) (p := p + 1 + 1) (n := 2) hb (by omega) (by omega) (by omega) (by omega)
          obtain ⟨r, hr, hr2⟩ := route_tot h1 h2 ⟨a0, by omega⟩ ⟨c0, by omega⟩ (q == 0) (k := k) (by omega)
          rw [if_pos e1, bs hq]
          dsimp only
          rw [bs hr, if_pos (by omega)]
          exact ih k _ _ (by omega) (by omega) (by omega) (shortW_snoc hs hr2) (by rw [List.length_append]; simp; omega)
        · obtain ⟨out, p', e, e2, e3, e4, e5⟩ := drawWalk hb h1 h2 (k := k) (by omega) (p := p + 1 + 1) (by omega) (by omega)
          rw [if_neg e1, bs e]
          dsimp only
          rw [if_pos (by omega)]
          exact ih k _ _ (by omega) (by omega) (by omega) (shortW_snoc hs e4) (by rw [List.length_append]; simp; omega)
    · have hfab : spec_l16Fabric.f w h = some false := by
        unfold spec_l16Fabric.f
        rw [s_in, s_in, bs rfl]
        by_cases h1 : 1 ≤ w ∧ w ≤ 5
        · have h2 : ¬ (1 ≤ h ∧ h ≤ 5) := fun h2 => hf ⟨h1, h2⟩
          rw [if_pos (decide_eq_true h1), bs rfl, decide_eq_false h2]
        · rw [if_neg (by rw [decide_eq_false h1]; decide)]
      rw [bs hfab]
      exact ways_j1f hb (by omega) hp (by omega) hs (by omega) _ _
theorem drawAll {b : List Int} (hb : ∀ x ∈ b, 0 ≤ x ∧ x ≤ 255) {k : Nat} (hk : 100 < k) : ∃ w h ways p, spec_l16Draw.f k b 0 = some (w, h, ways, p) ∧ shortW ways ∧ ways.length ≤ 14 ∧ (0 ≤ w ∧ w ≤ 6) ∧ (0 ≤ h ∧ h ≤ 6) := by
  unfold spec_l16Draw.f
  obtain ⟨w, h, hs, hw, hh⟩ := drawSize hb (k := k) (by omega) (p := 0) (by omega) (by omega)
  rw [bs hs]
  dsimp only
  obtain ⟨q, hq, _, _⟩ := pick_ok (k := k) (p := 0 + 1 + 1 + 1) (n := 4) hb (by omega) (by omega) (by omega) (by omega)
  rw [bs hq]
  dsimp only
  obtain ⟨v, hv, hm⟩ := num_ok (k := k) (p := 0 + 1 + 1 + 1 + 1) (xs := [4, 2, 6, 1, 0, 12]) hb (by omega) (by omega) (by simp) (by omega)
  rw [bs hv]
  dsimp only
  have hv2 : v = 4 ∨ v = 2 ∨ v = 6 ∨ v = 1 ∨ v = 0 ∨ v = 12 := by simpa using hm
  obtain ⟨n, rfl⟩ : ∃ n : Nat, v = n := ⟨v.toNat, by omega⟩
  obtain ⟨ways, p', e, e1, e2⟩ := ways_l0 hb hw hh q n k (0 + 1 + 1 + 1 + 1 + 1) [] (by omega) (by omega) (by omega) (fun x hx => by simp at hx) (by simp; omega)
  exact ⟨w, h, ways, p', e, e1, e2, hw, hh⟩
theorem drawWays {l : List Int} (hl : ∀ x ∈ l, (Lit.int .u8 x).wf = true) {k : Nat} (hk : 100 < k) : ∃ w h ways, spec_DrawWaitsOf.f k l = some (w, h, ways) ∧ shortW ways ∧ ways.length ≤ 14 ∧ (0 ≤ w ∧ w ≤ 6) ∧ (0 ≤ h ∧ h ≤ 6) := by
  unfold spec_DrawWaitsOf.f
  obtain ⟨b, ho, hb⟩ := open_ok hl
  rw [bs ho]
  dsimp only
  obtain ⟨w, h, ways, p, e, e1, e2, e3, e4⟩ := drawAll hb hk
  rw [bs e]
  exact ⟨w, h, ways, rfl, e1, e2, e3, e4⟩
theorem wn_loop (l : List Int) (hl : l.length ≤ 9223372036854775806) (d : Nat) : ∀ (k : Nat) (i : Int), 0 ≤ i → i + d = l.length → d < k → laws_wnInts.l0 k l l (l.length : Int) i = some true := by
  induction d with
  | zero =>
    intro k i h0 h1 hk
    obtain ⟨k, rfl⟩ : ∃ m, k = m + 1 := ⟨k - 1, by omega⟩
    simp only [laws_wnInts.l0]
    rw [if_neg (by omega)]
  | succ d ih =>
    intro k i h0 h1 hk
    obtain ⟨k, rfl⟩ : ∃ m, k = m + 1 := ⟨k - 1, by omega⟩
    simp only [laws_wnInts.l0]
    rw [if_pos (by omega), if_pos h0, if_pos (by omega), if_pos (by omega), if_pos trivial, w_in (n := i + 1) (by omega) (by omega)]
    exact ih k (i + 1) (by omega) (by omega) (by omega)
theorem wn_ok {l : List Int} (hl : l.length ≤ 9223372036854775806) {k : Nat} (hk : l.length < k) : laws_wnInts.f k l l = some true := by
  unfold laws_wnInts.f
  rw [if_pos rfl]
  exact wn_loop l hl l.length k 0 (by omega) (by omega) hk
theorem wnp_loop (l : List (List Int)) (hl : l.length ≤ 100000) (h2 : ∀ x ∈ l, x.length = 2) (d : Nat) : ∀ (k : Nat) (i : Int), 0 ≤ i → i + d = l.length → d + 10 < k → laws_wnPairs.l0 k l l (l.length : Int) i = some true := by
  induction d with
  | zero =>
    intro k i h0 h1 hk
    obtain ⟨k, rfl⟩ : ∃ m, k = m + 1 := ⟨k - 1, by omega⟩
    rw [laws_wnPairs.l0, if_neg (by omega)]
  | succ d ih =>
    intro k i h0 h1 hk
    obtain ⟨k, rfl⟩ : ∃ m, k = m + 1 := ⟨k - 1, by omega⟩
    have e := h2 _ (rdl_mem (l := l) h0 (by omega))
    rw [laws_wnPairs.l0, if_pos (by omega), if_pos h0, if_pos (by omega), if_pos (by omega), bs (wn_ok (l := rd_L2 l i) (by omega) (by omega)), if_pos rfl, w_in (n := i + 1) (by omega) (by omega)]
    exact ih k (i + 1) (by omega) (by omega) (by omega)
theorem wnp_ok {l : List (List Int)} (hl : l.length ≤ 100000) (h2 : ∀ x ∈ l, x.length = 2) {k : Nat} (hk : l.length + 10 < k) : laws_wnPairs.f k l l = some true := by
  unfold laws_wnPairs.f
  rw [if_pos rfl]
  exact wnp_loop l hl h2 l.length k 0 (by omega) (by omega) hk
theorem impl_wo {w h a b : Int} (ka : nd w h a = true) (kb : nd w h b = true) : impl_WireOf.f w h a b = wr16 w a b := by
  unfold impl_WireOf.f
  rw [impl_wire16 ka kb]
  obtain ⟨v, hv⟩ := wr16_some w a b
  rw [hv]
  rfl
/-- The walk over one way: found stays found, and is found if the pair lies there. -/
theorem wp2 {w h : Int} {l : List (List Int)} {pr r : List Int} (hpr : pr.length = 2) (hv : wayv w h r = true) (x33 : List (List Int)) (x34 x35 : Int) (x39 : List (List Int)) (x40 x41 : Int) (d : Nat) : ∀ (i : Int) (f : Bool), 2 ≤ i → (d = 0 → (r.length : Int) ≤ i) → (0 < d → i + d = r.length) →
    ∃ f' : Bool, (f = true → f' = true) ∧ ((∃ j : Nat, i ≤ j + 2 ∧ j + 1 < (wof w r).length ∧ pr = [rd (wof w r) (j : Int), rd (wof w r) ((j + 1 : Nat) : Int)]) → f' = true) ∧ ∀ k, laws_FnWaitPairs.l2 (k + d + 1) w h l pr f r i x33 x34 x35 x39 x40 x41 = laws_FnWaitPairs.l1 k w h l pr f' x33 x34 x35 x39 x40 (wrap64 (x41 + 1)) := by
  obtain ⟨v1, v2, v3, v4⟩ := wayv_open hv
  have hlen : (wof w r).length = r.length - 1 := by unfold wof; rw [wrs_len]
  induction d with
  | zero =>
    intro i f h0 h1 _
    have h1 := h1 rfl
    refine ⟨f, id, ?_, fun k => ?_⟩
    · rintro ⟨j, a, b, _⟩
      omega
    · rw [show k + 0 + 1 = k + 1 by omega, laws_FnWaitPairs.l2, if_neg (by omega)]
  | succ d ih =>
    intro i f h0 _ h1
    have h1 := h1 (by omega)
    cases f with
    | true =>
      obtain ⟨f', q1, q2, q3⟩ := ih (i + 1) true (by omega) (by omega) (by omega)
      refine ⟨f', q1, fun _ => q1 rfl, fun k => ?_⟩
      rw [show k + (d + 1) + 1 = (k + d + 1) + 1 by omega, laws_FnWaitPairs.l2, if_pos (by omega), if_pos rfl, w_in (n := i + 1) (by omega) (by omega), q3 k]
    | false =>
      obtain ⟨n, rfl⟩ : ∃ n : Nat, i = ((n + 2 : Nat) : Int) := ⟨i.toNat - 2, by omega⟩
      obtain ⟨v, a1, a2, a3, a4, a5⟩ := wof_at hv (j := n) (by omega)
      obtain ⟨u, b1, b2, b3, b4, b5⟩ := wof_at hv (j := n + 1) (by omega)
      have i1 : ((n + 2 : Nat) : Int) - 2 = (n : Int) := by omega
      have i2 : ((n + 2 : Nat) : Int) - 1 = (n : Int) + 1 := by omega
      have i3 : ((n + 1 : Nat) : Int) + 1 = ((n + 2 : Nat) : Int) := by omega
      have i4 : ((n + 1 : Nat) : Int) = (n : Int) + 1 := by omega
      rw [i3, i4] at b1
      rw [i3] at b5
      rw [i4] at b4
      have st : ∀ k, laws_FnWaitPairs.l2 (k + (d + 1) + 1) w h l pr false r ((n + 2 : Nat) : Int) x33 x34 x35 x39 x40 x41 = laws_FnWaitPairs.l2 (k + d + 1) w h l pr (if v = rd pr 0 then (u == rd pr 1) else false) r (((n + 2 : Nat) : Int) + 1) x33 x34 x35 x39 x40 x41 := by
        intro k
        rw [show k + (d + 1) + 1 = (k + d + 1) + 1 by omega, laws_FnWaitPairs.l2, if_pos (by omega), if_neg (by decide), w_in (n := ((n + 2 : Nat) : Int) - 2) (by omega) (by omega), w_in (n := ((n + 2 : Nat) : Int) - 1) (by omega) (by omega), i1, i2,
          if_pos (by omega), if_pos (by omega), if_pos (by omega), if_pos (by omega), impl_wo a4 a5, bs a1, if_pos (by omega)]
        by_cases e : v = rd pr 0
        · rw [if_pos e, if_pos e, if_pos (by omega), impl_wo b4 b5, bs b1, if_pos (by omega), w_in (n := ((n + 2 : Nat) : Int) + 1) (by omega) (by omega)]
        · rw [if_neg e, if_neg e, w_in (n := ((n + 2 : Nat) : Int) + 1) (by omega) (by omega)]
      obtain ⟨f', q1, q2, q3⟩ := ih (((n + 2 : Nat) : Int) + 1) (if v = rd pr 0 then (u == rd pr 1) else false) (by omega) (by omega) (by omega)
      refine ⟨f', by simp, ?_, fun k => by rw [st k, q3 k]⟩
      rintro ⟨j, c1, c2, c3⟩
      by_cases ej : j = n
      · subst ej
        refine q1 ?_
        have e0 : rd pr 0 = v := by rw [c3]; exact a2
        have e1 : rd pr 1 = u := by rw [c3]; exact b2
        rw [if_pos e0.symm, e1]
        simp
      · exact q2 ⟨j, by omega, c2, c3⟩
/-- The walk over the ways. -/
theorem wp1 {w h : Int} {l : List (List Int)} {pr : List Int} (hpr : pr.length = 2) (hv : ∀ x ∈ l, wayv w h x = true) (hl : l.length ≤ 12) (x33 : List (List Int)) (x34 x35 : Int) (d : Nat) : ∀ (i : Int) (f : Bool), 0 ≤ i → i + d = l.length →
    (f = true ∨ ∃ r ∈ l.drop i.toNat, pr ∈ adj (wof w r)) → ∃ c, ∀ k, laws_FnWaitPairs.l1 (k + c) w h l pr f x33 x34 x35 l (l.length : Int) i = laws_FnWaitPairs.l0 k w h l x33 x34 (wrap64 (x35 + 1)) := by
  induction d with
  | zero =>
    intro i f h0 h1 hh
    refine ⟨1, fun k => ?_⟩
    rw [List.drop_eq_nil_of_le (by omega)] at hh
    have hf : f = true := by
      rcases hh with h | ⟨r, hr, _⟩
      · exact h
      · simp at hr
    rw [laws_FnWaitPairs.l1, if_neg (by omega), if_pos hf]
  | succ d ih =>
    intro i f h0 h1 hh
    have hr := hv _ (rdl_mem (l := l) h0 (by omega))
    obtain ⟨v1, v2, v3, v4⟩ := wayv_open hr
    have hlen : (wof w (rd_L2 l i)).length = (rd_L2 l i).length - 1 := by unfold wof; rw [wrs_len]
    obtain ⟨f', q1, q2, q3⟩ := wp2 (l := l) hpr hr x33 x34 x35 l (l.length : Int) i ((rd_L2 l i).length - 2) 2 f (by omega) (by omega) (by omega)
    have hh2 : f' = true ∨ ∃ r ∈ l.drop (i + 1).toNat, pr ∈ adj (wof w r) := by
      rcases hh with h | ⟨r, hr2, hp⟩
      · exact .inl (q1 h)
      · rw [rdl_at h0 (by omega)] at hr2
        rcases List.mem_cons.mp hr2 with rfl | hr2
        · left
          unfold adj at hp
          obtain ⟨j, j1, j2⟩ := (mem_adjd _ _ _ _).mp hp
          refine q2 ⟨j, by omega, by omega, ?_⟩
          rw [j2, show (1 : Int) + (j : Int) - 1 = (j : Int) by omega, show (1 : Int) + (j : Int) = ((j + 1 : Nat) : Int) by omega]
        · exact .inr ⟨r, hr2, hp⟩
    obtain ⟨c, hc⟩ := ih (i + 1) f' (by omega) (by omega) hh2
    refine ⟨c + ((rd_L2 l i).length - 2) + 1 + 1, fun k => ?_⟩
    rw [show k + (c + ((rd_L2 l i).length - 2) + 1 + 1) = (k + c + ((rd_L2 l i).length - 2) + 1) + 1 by omega, laws_FnWaitPairs.l1, if_pos (by omega), if_pos h0, if_pos (by omega), q3 (k + c), w_in (n := i + 1) (by omega) (by omega), hc k]
theorem wp0 {w h : Int} {l R : List (List Int)} (hv : ∀ x ∈ l, wayv w h x = true) (hl : l.length ≤ 12) (hR : ∀ p ∈ R, p.length = 2 ∧ ∃ r ∈ l, p ∈ adj (wof w r)) (hRl : R.length ≤ 100000) (d : Nat) : ∀ (i : Int), 0 ≤ i → i + d = R.length →
    ∃ K, laws_FnWaitPairs.l0 K w h l R (R.length : Int) i = some true := by
  induction d with
  | zero =>
    intro i h0 h1
    refine ⟨1, ?_⟩
    rw [laws_FnWaitPairs.l0, if_neg (by omega)]
  | succ d ih =>
    intro i h0 h1
    obtain ⟨p2, r, hr, hp⟩ := hR _ (rdl_mem (l := R) h0 (by omega))
    obtain ⟨K, hK⟩ := ih (i + 1) (by omega) (by omega)
    obtain ⟨c, hc⟩ := wp1 p2 hv hl R (R.length : Int) i l.length 0 false (by omega) (by omega) (.inr ⟨r, hr, hp⟩)
    refine ⟨K + c + 1, ?_⟩
    rw [laws_FnWaitPairs.l0, if_pos (by omega), if_pos h0, if_pos (by omega), hc K, w_in (n := i + 1) (by omega) (by omega)]
    exact hK
theorem FnWaitPairs : laws_FnWaitPairs.Pure := by
  intro l _ _ hl
  by_cases hlen : (l.length : Int) > 1048576
  · refine ⟨0, ?_⟩
    unfold laws_FnWaitPairs.f
    rw [if_pos hlen]
  have main : ∃ K w h ways, (∀ k, K ≤ k → spec_DrawWaitsOf.f k l = some (w, h, ways) ∧ impl_WaitsOf.f k w h ways = some (waitsR w h ways) ∧ spec_WaitsOf.f k w h ways = some (waitsR w h ways) ∧ laws_wnPairs.f k (waitsR w h ways) (waitsR w h ways) = some true ∧ laws_FnWaitPairs.l0 k w h ways (waitsR w h ways) ((waitsR w h ways).length : Int) 0 = some true) := by
    obtain ⟨w, h, ways, e0, es, el, _, _⟩ := drawWays hl (k := 101) (by omega)
    have hR : ∃ K, laws_FnWaitPairs.l0 K w h ways (waitsR w h ways) ((waitsR w h ways).length : Int) 0 = some true := by
      by_cases g : goodw w h ways = true
      · obtain ⟨g1, g2, g3, g4⟩ := good_open g
        refine wp0 g1 g4 (fun p hp => ⟨waitsR_two p hp, ?_⟩) (by have := waitsR_len w h ways; omega) (waitsR w h ways).length 0 (by omega) (by omega)
        unfold waitsR at hp
        rw [if_pos g] at hp
        obtain ⟨r, hr, hpr⟩ := List.mem_flatMap.mp (mem_sortL.mp (mem_compL.mp hp))
        obtain ⟨x, hx, rfl⟩ := List.mem_map.mp hr
        exact ⟨x, hx, hpr⟩
      · refine ⟨1, ?_⟩
        unfold waitsR
        rw [if_neg g, laws_FnWaitPairs.l0, if_neg (by simp)]
    obtain ⟨K, hK⟩ := hR
    have hw := waitsR_len w h ways
    refine ⟨K + 200000, w, h, ways, fun k hk => ⟨?_, ?_, ?_, ?_, ?_⟩⟩
    · exact upK (f := fun k => spec_DrawWaitsOf.f k l) (fun k => spec_DrawWaitsOf.mono _ k) e0 (by omega)
    · exact impl_waits (M := 10) es (by omega) (by omega)
    · exact spec_waits (M := 10) es (by omega) (by omega) (by omega)
    · exact wnp_ok (by omega) waitsR_two (by omega)
    · exact upK (f := fun k => laws_FnWaitPairs.l0 k w h ways (waitsR w h ways) ((waitsR w h ways).length : Int) 0) (fun k => (laws_FnWaitPairs.mono_l k).1 _ _ _ _ _ _) hK (by omega)
  obtain ⟨K, w, h, ways, hm⟩ := main
  obtain ⟨m1, m2, m3, m4, m5⟩ := hm K (Nat.le_refl _)
  refine ⟨K, ?_⟩
  unfold laws_FnWaitPairs.f
  rw [if_neg hlen, bs m1]
  dsimp only
  rw [bs m2, bs m3, bs m4, if_pos rfl, m5]

end Go.Proofs.Ytdbokdodjekchaa.Pure
