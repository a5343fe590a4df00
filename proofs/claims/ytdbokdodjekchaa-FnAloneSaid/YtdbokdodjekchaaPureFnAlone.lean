/- What both sides of FnAlone compute, in plain Lean. -/
import Derived.Test.YtdbokdodjekchaaPFnAlonex11
import Derived.Laws.BitsLemmas
import Derived.OpenShut
namespace Go.Proofs.Ytdbokdodjekchaa.Pure
open Go.RowKit Go.Proofs.Ytdbokdodjekchaa.PFnAlone Go.Proofs.YtdbokdodjekchaaW.PrintWords Go.Proofs.YtdbokdodjekchaaW.PrintLast

theorem w_in {n : Int} (h0 : -9223372036854775808 ≤ n) (h1 : n ≤ 9223372036854775807) : wrap64 n = n := by unfold wrap64; omega

theorem bs {α β : Type} {x : Option α} {a : α} {f : α → Option β} (h : x = some a) : x.bind f = f a := by rw [h]; rfl
/-- A byte list's reader never fails: what 'pick' answers. -/
theorem b_rd {b : List Int} (hb : ∀ x ∈ b, 0 ≤ x ∧ x ≤ 255) (i : Int) : 0 ≤ rd b i ∧ rd b i ≤ 255 := by
  unfold rd
  rw [List.getD_eq_getElem?_getD]
  cases h : b[i.toNat]? with
  | none => simp
  | some x => exact hb x (List.mem_of_getElem? h)

theorem xor_nn {x y : Int} (hx0 : 0 ≤ x) (hx : x < 4611686018427387904) (hy0 : 0 ≤ y) (hy : y < 4611686018427387904) : 0 ≤ Go.bits .xor .i64 x y := by
  obtain ⟨a, rfl⟩ := Int.eq_ofNat_of_zero_le hx0
  obtain ⟨b, rfl⟩ := Int.eq_ofNat_of_zero_le hy0
  have ha : a < 2 ^ 62 := by simp; omega
  have hb : b < 2 ^ 62 := by simp; omega
  have hc : a ^^^ b < 2 ^ 62 := Nat.xor_lt_two_pow ha hb
  have ha' : a % 2 ^ 64 = a := Nat.mod_eq_of_lt (by simp at ha ⊢; omega)
  have hb' : b % 2 ^ 64 = b := Nat.mod_eq_of_lt (by simp at hb ⊢; omega)
  have key : (BitVec.ofNat 64 a ^^^ BitVec.ofNat 64 b).toNat = a ^^^ b := by rw [BitVec.toNat_xor, BitVec.toNat_ofNat, BitVec.toNat_ofNat, ha', hb']
  have e : Go.bits .xor .i64 (a : Int) (b : Int) = IntKind.i64.wrap (((BitVec.ofNat 64 a ^^^ BitVec.ofNat 64 b).toNat : Nat) : Int) := by
    simp only [Go.bits, BitVec.ofInt_natCast]
    rfl
  rw [e, key, IntKind.wrap_i64]
  generalize a ^^^ b = c at hc
  simp at hc
  omega

theorem tm_bd {x n : Int} (hx : 0 ≤ x) (hn : 0 < n) : 0 ≤ Int.tmod x n ∧ Int.tmod x n < n := by
  rw [Int.tmod_eq_emod_of_nonneg hx]
  exact ⟨Int.emod_nonneg _ (by omega), Int.emod_lt_of_pos _ hn⟩

theorem pick_ok {k : Nat} {b : List Int} {p n : Int} (hb : ∀ x ∈ b, 0 ≤ x ∧ x ≤ 255) (hp0 : 0 ≤ p) (hp : p ≤ 100000000) (hn : 1 ≤ n) (hk : 0 < k) :
    ∃ v, spec_l21Rd_pick.f k b p n = some (v, p + 1) ∧ 0 ≤ v ∧ v < n := by
  obtain ⟨k, rfl⟩ : ∃ m, k = m + 1 := ⟨k - 1, by omega⟩
  have e1 : wrap64 (p + 1) = p + 1 := w_in (by omega) (by omega)
  have e2 : wrap64 (p + 1 - 1) = p := by rw [show p + 1 - 1 = p by omega]; exact w_in (by omega) (by omega)
  unfold spec_l21Rd_pick.f
  rw [if_neg (by omega), e1]
  simp only [spec_l21Rd_pick.j0, e2]
  by_cases h0 : b.length = 0
  · rw [if_pos (by simp [h0])]
    exact ⟨0, rfl, by omega, by omega⟩
  rw [if_neg (by simp; intro h; simp [h] at h0)]
  have hl : 0 < (b.length : Int) := by omega
  by_cases h1 : p < (b.length : Int)
  · rw [if_pos h1, if_pos hp0, if_neg (by omega)]
    have := b_rd hb p
    rw [w_in (n := rd b p) (by omega) (by omega)]
    exact ⟨_, rfl, (tm_bd this.1 (by omega)).1, (tm_bd this.1 (by omega)).2⟩
  rw [if_neg h1, if_neg (by omega)]
  have m1 := tm_bd (x := p) (n := b.length) hp0 hl
  have e3 : wrap64 (p * 7) = p * 7 := w_in (by omega) (by omega)
  have e4 : wrap64 (p * 7 + 3) = p * 7 + 3 := w_in (by omega) (by omega)
  have m2 := tm_bd (x := p * 7 + 3) (n := b.length) (by omega) hl
  rw [e3, e4, if_pos m1.1, if_pos m1.2, if_pos m2.1, if_pos m2.2, if_neg (by omega)]
  have r1 := b_rd hb (Int.tmod p b.length)
  have r2 := b_rd hb (Int.tmod (p * 7 + 3) b.length)
  generalize rd b (Int.tmod p b.length) = u at r1
  generalize rd b (Int.tmod (p * 7 + 3) b.length) = v at r2
  have d1 : 0 ≤ Int.tdiv p b.length ∧ Int.tdiv p b.length ≤ p := by
    rw [Int.tdiv_eq_ediv_of_nonneg hp0]
    exact ⟨Int.ediv_nonneg hp0 (by omega), Int.ediv_le_self _ hp0⟩
  generalize Int.tdiv p b.length = d at d1
  have e5 : wrap64 (wrap64 (wrap64 (wrap64 (wrap64 u * 131) + wrap64 (wrap64 v * 1117)) + wrap64 (p * 29)) + wrap64 (wrap64 d * 53)) = u * 131 + v * 1117 + p * 29 + d * 53 := by
    rw [w_in (n := u) (by omega) (by omega), w_in (n := v) (by omega) (by omega), w_in (n := d) (by omega) (by omega), w_in (n := u * 131) (by omega) (by omega), w_in (n := v * 1117) (by omega) (by omega), w_in (n := p * 29) (by omega) (by omega), w_in (n := d * 53) (by omega) (by omega), w_in (n := u * 131 + v * 1117) (by omega) (by omega), w_in (n := u * 131 + v * 1117 + p * 29) (by omega) (by omega), w_in (by omega) (by omega)]
  rw [e5]
  have hx0 : 0 ≤ u * 131 + v * 1117 + p * 29 + d * 53 := by omega
  have hx1 : u * 131 + v * 1117 + p * 29 + d * 53 < 4611686018427387904 := by omega
  generalize u * 131 + v * 1117 + p * 29 + d * 53 = x at hx0 hx1
  have d2 : 0 ≤ Int.tdiv x 64 ∧ Int.tdiv x 64 < 4611686018427387904 := by
    rw [Int.tdiv_eq_ediv_of_nonneg hx0]
    omega
  rw [w_in (n := Int.tdiv x 64) (by omega) (by omega)]
  have hz := xor_nn hx0 hx1 d2.1 d2.2
  exact ⟨_, rfl, (tm_bd hz (by omega)).1, (tm_bd hz (by omega)).2⟩

theorem num_ok {k : Nat} {b : List Int} {p : Int} {xs : List Int} (hb : ∀ x ∈ b, 0 ≤ x ∧ x ≤ 255) (hp0 : 0 ≤ p) (hp : p ≤ 100000000) (hn : 1 ≤ xs.length) (hk : 0 < k) :
    ∃ v, spec_l21Rd_num.f k b p xs = some (v, p + 1) ∧ v ∈ xs := by
  obtain ⟨i, hi, h0, h1⟩ := pick_ok (n := (xs.length : Int)) hb hp0 hp (by omega) hk
  refine ⟨rd xs i, ?_, ?_⟩
  · unfold spec_l21Rd_num.f
    rw [hi]
    simp only [Option.bind_some]
    rw [if_pos h0, if_pos h1]
  · unfold rd
    rw [List.getD_eq_getElem?_getD, List.getElem?_eq_getElem (by omega)]
    exact List.getElem_mem _

theorem open_ok {l : List Int} (hl : ∀ x ∈ l, (Lit.int .u8 x).wf = true) : ∃ b, spec_l21Open.f l = some (b, 0) ∧ ∀ x ∈ b, 0 ≤ x ∧ x ≤ 255 := by
  have hb : ∀ x ∈ l, 0 ≤ x ∧ x ≤ 255 := fun x hx => bounds_u8 (hl x hx)
  unfold spec_l21Open.f
  by_cases h : (l.length : Int) > 2000
  · rw [if_pos h, if_pos (by omega)]
    exact ⟨_, rfl, fun x hx => hb x (List.mem_of_mem_take hx)⟩
  · rw [if_neg h]
    exact ⟨_, rfl, hb⟩

theorem allO_total {α : Type} {p : α → Option Bool} {q : α → Bool} : ∀ (l : List α), (∀ x ∈ l, p x = some (q x)) → allO p l = some (l.all q)
  | [], _ => rfl
  | x :: xs, h => by
    have ih := allO_total xs (fun y hy => h y (List.mem_cons_of_mem _ hy))
    simp only [allO, h x (List.mem_cons_self), Option.bind_some, List.all_cons]
    cases q x
    · simp
    · simpa using ih

theorem rd_at {l : List Int} {i : Int} (h0 : 0 ≤ i) (h : i.toNat < l.length) : l.drop i.toNat = rd l i :: l.drop (i + 1).toNat := by
  rw [List.drop_eq_getElem_cons h, show (i + 1).toNat = i.toNat + 1 by omega]
  unfold rd
  rw [List.getD_eq_getElem?_getD, List.getElem?_eq_getElem h]
  rfl
theorem rd_mem {l : List Int} {i : Int} (h0 : 0 ≤ i) (h : i < l.length) : rd l i ∈ l := by
  unfold rd
  rw [List.getD_eq_getElem?_getD, List.getElem?_eq_getElem (by omega)]
  exact List.getElem_mem _

theorem s_in (a b c : Int) : spec_l1In.f a b c = some (decide (b ≤ a ∧ a ≤ c)) := by
  unfold spec_l1In.f
  by_cases h : b ≤ a <;> simp [h]
theorem i_in (a b c : Int) : impl_within.f a b c = some (decide (b ≤ a ∧ a ≤ c)) := by
  unfold impl_within.f
  by_cases h : b ≤ a <;> simp [h]
theorem wire_l0 (a d0 d1 : Int) : impl_fabric_wire.l0 5 a d0 d1 0 = if d0 = 1 ∧ d1 = 0 then some (wrap64 (wrap64 (4 * a) + 0)) else if d0 = -1 ∧ d1 = 0 then some (wrap64 (wrap64 (4 * a) + 1)) else if d0 = 0 ∧ d1 = 1 then some (wrap64 (wrap64 (4 * a) + 2)) else if d0 = 0 ∧ d1 = -1 then some (wrap64 (wrap64 (4 * a) + 3)) else some (-1) := by
  rfl
def nodes (w h a b : Int) : Bool := decide (1 ≤ w ∧ w ≤ 5) && decide (1 ≤ h ∧ h ≤ 5) && decide (0 ≤ a ∧ a ≤ wrap64 (wrap64 (w * h) - 1)) && decide (0 ≤ b ∧ b ≤ wrap64 (wrap64 (w * h) - 1))
theorem spec_nodes (w h a b : Int) : spec_l16Nodes.f w h a b = some (nodes w h a b) := by
  unfold spec_l16Nodes.f spec_l16Fabric.f nodes
  simp only [s_in, Option.bind_some]
  generalize decide (1 ≤ w ∧ w ≤ 5) = x
  generalize decide (1 ≤ h ∧ h ≤ 5) = y
  generalize decide (0 ≤ a ∧ a ≤ wrap64 (wrap64 (w * h) - 1)) = z
  generalize decide (0 ≤ b ∧ b ≤ wrap64 (wrap64 (w * h) - 1)) = u
  cases x <;> cases y <;> cases z <;> cases u <;> rfl
theorem small {w h n : Int} (h1 : 1 ≤ w ∧ w ≤ 5) (h2 : 1 ≤ h ∧ h ≤ 5) (h3 : 0 ≤ n ∧ n ≤ wrap64 (wrap64 (w * h) - 1)) : 0 ≤ n ∧ n ≤ 24 := by
  have e : 0 ≤ w * h ∧ w * h ≤ 25 := by
    have hh : h = 1 ∨ h = 2 ∨ h = 3 ∨ h = 4 ∨ h = 5 := by omega
    rcases hh with rfl | rfl | rfl | rfl | rfl <;> omega
  rw [w_in (n := w * h) (by omega) (by omega), w_in (n := w * h - 1) (by omega) (by omega)] at h3
  omega
theorem tm {n w : Int} (h0 : 0 ≤ n ∧ n ≤ 24) (hw : 1 ≤ w ∧ w ≤ 5) : (0 ≤ Int.tmod n w ∧ Int.tmod n w ≤ 4) ∧ (0 ≤ Int.tdiv n w ∧ Int.tdiv n w ≤ 24) := by
  rw [Int.tmod_eq_emod_of_nonneg h0.1, Int.tdiv_eq_ediv_of_nonneg h0.1]
  have a := Int.emod_nonneg n (show w ≠ 0 by omega)
  have b := Int.emod_lt_of_pos n (show 0 < w by omega)
  have c := Int.ediv_nonneg h0.1 (show 0 ≤ w by omega)
  have d := Int.ediv_le_self w h0.1
  exact ⟨⟨a, by omega⟩, ⟨c, by omega⟩⟩
theorem wires (a ax ay bx by_ : Int) (hax : 0 ≤ ax ∧ ax ≤ 4) (hay : 0 ≤ ay ∧ ay ≤ 24) (hbx : 0 ≤ bx ∧ bx ≤ 4) (hby : 0 ≤ by_ ∧ by_ ≤ 24) (ha : 0 ≤ a ∧ a ≤ 24) (k : Nat) :
    (if ay = by_ then spec_l16Wire.j0 (k + 3) a ax ay bx by_ (bx == wrap64 (ax + 1)) else spec_l16Wire.j0 (k + 3) a ax ay bx by_ false) = impl_fabric_wire.l0 5 a (wrap64 (bx - ax)) (wrap64 (by_ - ay)) 0 := by
  rw [wire_l0, w_in (n := bx - ax) (by omega) (by omega), w_in (n := by_ - ay) (by omega) (by omega), w_in (n := ax + 1) (by omega) (by omega)]
  simp only [spec_l16Wire.j0, spec_l16Wire.j1, spec_l16Wire.j2]
  rw [w_in (n := 4 * a) (by omega) (by omega), w_in (n := 4 * a + 0) (by omega) (by omega), w_in (n := ax - 1) (by omega) (by omega), w_in (n := ay + 1) (by omega) (by omega), w_in (n := ay - 1) (by omega) (by omega), Int.add_zero]
  by_cases e1 : ay = by_
  · by_cases e2 : bx = ax + 1
    · have q : (bx == ax + 1) = true := beq_iff_eq.mpr e2
      rw [if_pos e1, if_pos q, if_pos (show (bx - ax = 1 ∧ by_ - ay = 0) by omega)]
    · have q : ¬ ((bx == ax + 1) = true) := by simpa using e2
      rw [if_pos e1, if_neg q, if_pos e1, if_neg (show ¬ (bx - ax = 1 ∧ by_ - ay = 0) by omega)]
      by_cases e3 : bx = ax - 1
      · have q : (bx == ax - 1) = true := beq_iff_eq.mpr e3
        rw [if_pos q, if_pos (show (bx - ax = -1 ∧ by_ - ay = 0) by omega)]
      · have q : ¬ ((bx == ax - 1) = true) := by simpa using e3
        rw [if_neg q, if_neg (show ¬ (bx - ax = -1 ∧ by_ - ay = 0) by omega), if_neg (show ¬ (bx - ax = 0 ∧ by_ - ay = 1) by omega), if_neg (show ¬ (bx - ax = 0 ∧ by_ - ay = -1) by omega)]
        by_cases e4 : ax = bx
        · have q : ¬ ((by_ == ay + 1) = true) := by simp; omega
          rw [if_pos e4, if_neg q, if_pos e4, if_neg (show ¬ by_ = ay - 1 by omega)]
        · rw [if_neg e4, if_neg (show ¬ (false = true) by decide), if_neg e4]
  · rw [if_neg e1, if_neg (show ¬ (false = true) by decide), if_neg e1, if_neg (show ¬ (false = true) by decide), if_neg (show ¬ (bx - ax = 1 ∧ by_ - ay = 0) by omega), if_neg (show ¬ (bx - ax = -1 ∧ by_ - ay = 0) by omega)]
    by_cases e4 : ax = bx
    · rw [if_pos e4]
      by_cases e5 : by_ = ay + 1
      · have q : (by_ == ay + 1) = true := beq_iff_eq.mpr e5
        rw [if_pos q, if_pos (show (bx - ax = 0 ∧ by_ - ay = 1) by omega)]
      · have q : ¬ ((by_ == ay + 1) = true) := by simpa using e5
        rw [if_neg q, if_pos e4, if_neg (show ¬ (bx - ax = 0 ∧ by_ - ay = 1) by omega)]
        by_cases e6 : by_ = ay - 1
        · rw [if_pos e6, if_pos (show (bx - ax = 0 ∧ by_ - ay = -1) by omega)]
        · rw [if_neg e6, if_neg (show ¬ (bx - ax = 0 ∧ by_ - ay = -1) by omega)]
    · rw [if_neg e4, if_neg (show ¬ (false = true) by decide), if_neg e4, if_neg (show ¬ (bx - ax = 0 ∧ by_ - ay = 1) by omega), if_neg (show ¬ (bx - ax = 0 ∧ by_ - ay = -1) by omega)]
def nd (w h x : Int) : Bool := decide (1 ≤ w ∧ w ≤ 5) && decide (1 ≤ h ∧ h ≤ 5) && decide (0 ≤ x ∧ x ≤ wrap64 (wrap64 (w * h) - 1))
theorem nd_open {w h x : Int} (k : nd w h x = true) : (1 ≤ w ∧ w ≤ 5) ∧ (1 ≤ h ∧ h ≤ 5) ∧ (0 ≤ x ∧ x ≤ wrap64 (wrap64 (w * h) - 1)) := by
  simp only [nd, Bool.and_eq_true, decide_eq_true_eq] at k
  exact ⟨k.1.1, k.1.2, k.2⟩
theorem spec_nd (w h x : Int) : spec_l16Nodes.f w h x x = some (nd w h x) := by
  rw [spec_nodes]
  unfold nodes nd
  generalize decide (1 ≤ w ∧ w ≤ 5) = a
  generalize decide (1 ≤ h ∧ h ≤ 5) = b
  generalize decide (0 ≤ x ∧ x ≤ wrap64 (wrap64 (w * h) - 1)) = c
  cases a <;> cases b <;> cases c <;> rfl
theorem impl_nd (w h x : Int) : impl_fabric_node.f w h x = some (nd w h x) := by
  unfold impl_fabric_node.f impl_fabric_valid.f nd
  simp only [i_in, Option.bind_some]
  generalize decide (1 ≤ w ∧ w ≤ 5) = a
  generalize decide (1 ≤ h ∧ h ≤ 5) = b
  generalize decide (0 ≤ x ∧ x ≤ wrap64 (wrap64 (w * h) - 1)) = c
  cases a <;> cases b <;> cases c <;> rfl
def wr16 (w a b : Int) : Option Int := impl_fabric_wire.l0 5 a (wrap64 (Int.tmod b w - Int.tmod a w)) (wrap64 (wrap64 (Int.tdiv b w) - wrap64 (Int.tdiv a w))) 0
theorem wr16_some (w a b : Int) : ∃ v, wr16 w a b = some v := by
  unfold wr16
  rw [wire_l0]
  split
  · exact ⟨_, rfl⟩
  · split
    · exact ⟨_, rfl⟩
    · split
      · exact ⟨_, rfl⟩
      · split <;> exact ⟨_, rfl⟩
theorem spec_wire16 {w h a b : Int} (ka : nd w h a = true) (kb : nd w h b = true) {k : Nat} (hk : 3 ≤ k) : spec_l16Wire.f k w a b = wr16 w a b := by
  obtain ⟨k, rfl⟩ : ∃ q, k = q + 3 := ⟨k - 3, by omega⟩
  have oa := nd_open ka
  have ob := nd_open kb
  have ha := small oa.1 oa.2.1 oa.2.2
  have hb := small ob.1 ob.2.1 ob.2.2
  have ta := tm ha oa.1
  have tb := tm hb oa.1
  have hw : ¬ w = 0 := by omega
  unfold spec_l16Wire.f wr16
  rw [if_neg hw, w_in (n := Int.tdiv a w) (by omega) (by omega), w_in (n := Int.tdiv b w) (by omega) (by omega)]
  exact wires a _ _ _ _ ta.1 ta.2 tb.1 tb.2 ha k
theorem impl_wire16 {w h a b : Int} (ka : nd w h a = true) (kb : nd w h b = true) : impl_fabric_wire.f w h a b = wr16 w a b := by
  have oa := nd_open ka
  have hw : ¬ w = 0 := by omega
  unfold impl_fabric_wire.f wr16
  rw [impl_nd, impl_nd, ka, kb]
  simp only [Option.bind_some, if_true]
  rw [if_neg hw]
def ng (w a b : Int) : Bool := match wr16 w a b with | some v => decide (v < 0) | none => false
theorem ng_eq {w a b v : Int} (h : wr16 w a b = some v) : ng w a b = decide (v < 0) := by unfold ng; rw [h]
/-- Is each wire there, from index i on? -/
def prs (w : Int) (l : List Int) : Int → Nat → Bool
  | _, 0 => true
  | i, d + 1 => (decide (i ≤ 0) || !(ng w (rd l (i - 1)) (rd l i))) && prs w l (i + 1) d
theorem spec_way_loop (w h : Int) (l : List Int) (hl : l.length ≤ 9223372036854775806) (d : Nat) : ∀ (k : Nat) (i : Int), 0 ≤ i → i + d = l.length → d + 5 < k → (i > 0 → nd w h (rd l (i - 1)) = true) →
    spec_WayValid.l0 k w h l i = some ((l.drop i.toNat).all (nd w h) && prs w l i d && decide (1 ≤ (l.length : Int) ∧ (l.length : Int) ≤ 30)) := by
  induction d with
  | zero =>
    intro k i h0 h1 hk hp
    obtain ⟨k, rfl⟩ : ∃ m, k = m + 1 := ⟨k - 1, by omega⟩
    simp only [spec_WayValid.l0, s_in, Option.bind_some]
    rw [if_neg (by omega), List.drop_eq_nil_of_le (by omega)]
    simp only [List.all_nil, prs, Bool.true_and]
  | succ d ih =>
    intro k i h0 h1 hk hp
    obtain ⟨k, rfl⟩ : ∃ m, k = m + 1 := ⟨k - 1, by omega⟩
    rw [rd_at h0 (by omega)]
    simp only [spec_WayValid.l0, spec_nd, Option.bind_some]
    rw [if_pos (by omega), if_pos h0, w_in (n := i - 1) (by omega) (by omega), w_in (n := i + 1) (by omega) (by omega)]
    simp only [List.all_cons, prs]
    by_cases hc : nd w h (rd l i) = true
    · rw [if_pos hc, ih k (i + 1) (by omega) (by omega) (by omega) (fun _ => by rw [show i + 1 - 1 = i by omega]; exact hc)]
      simp only [hc, Bool.true_and]
      by_cases hi : i > 0
      · have e : decide (i ≤ 0) = false := by simp; omega
        obtain ⟨v, hv⟩ := wr16_some w (rd l (i - 1)) (rd l i)
        rw [if_pos hi, if_pos (by omega), if_pos (by omega), spec_wire16 (hp hi) hc (by omega), hv, ng_eq hv, e]
        simp only [Option.bind_some, Bool.false_or]
        by_cases q : v < 0
        · rw [if_pos q]
          simp [q]
        · rw [if_neg q]
          simp [q]
      · have e : decide (i ≤ 0) = true := by simp; omega
        rw [if_neg hi, e]
        simp
    · rw [if_neg hc]
      simp [hc]
theorem rd_all {p : Int → Bool} {l : List Int} (h : l.all p = true) {i : Int} (h0 : 0 ≤ i) (h1 : i < l.length) : p (rd l i) = true := List.all_eq_true.mp h _ (rd_mem h0 h1)
theorem impl_way_loop (w h : Int) (l : List Int) (hl : l.length ≤ 9223372036854775806) (ha : l.all (nd w h) = true) (d : Nat) : ∀ (k : Nat) (i : Int), 1 ≤ i → i + d = l.length → d < k →
    impl_fabric_way.l0 k l i w h = some (prs w l i d) := by
  induction d with
  | zero =>
    intro k i h0 h1 hk
    obtain ⟨k, rfl⟩ : ∃ m, k = m + 1 := ⟨k - 1, by omega⟩
    simp only [impl_fabric_way.l0]
    rw [if_neg (by omega)]
    rfl
  | succ d ih =>
    intro k i h0 h1 hk
    obtain ⟨k, rfl⟩ : ∃ m, k = m + 1 := ⟨k - 1, by omega⟩
    simp only [impl_fabric_way.l0]
    have e : decide (i ≤ 0) = false := by simp; omega
    obtain ⟨v, hv⟩ := wr16_some w (rd l (i - 1)) (rd l i)
    rw [if_pos (by omega), w_in (n := i - 1) (by omega) (by omega), w_in (n := i + 1) (by omega) (by omega), if_pos (by omega), if_pos (by omega), if_pos (by omega), impl_wire16 (rd_all ha (by omega) (by omega)) (rd_all ha (by omega) (by omega)), hv, ih k (i + 1) (by omega) (by omega) (by omega)]
    simp only [Option.bind_some, prs, ng_eq hv, e, Bool.false_or]
    by_cases q : v < 0
    · rw [if_pos q]
      simp [q]
    · rw [if_neg q]
      simp [q]
def wayv (w h : Int) (l : List Int) : Bool := l.all (nd w h) && prs w l 0 l.length && decide (1 ≤ (l.length : Int) ∧ (l.length : Int) ≤ 30)
theorem spec_way {w h : Int} {l : List Int} (hl : l.length ≤ 9223372036854775806) {k : Nat} (hk : l.length + 5 < k) : spec_WayValid.f k w h l = some (wayv w h l) := by
  unfold spec_WayValid.f wayv
  rw [spec_way_loop w h l hl l.length k 0 (by omega) (by omega) hk (fun h => by omega)]
  simp
theorem impl_fway {w h : Int} {l : List Int} (hl : l.length ≤ 9223372036854775806) {k : Nat} (hk : l.length + 5 < k) : impl_fabric_way.f k w h l = some (wayv w h l) := by
  obtain ⟨k, rfl⟩ : ∃ m, k = m + 1 := ⟨k - 1, by omega⟩
  unfold impl_fabric_way.f all_impl_fabric_node.f wayv
  rw [i_in, allO_total (q := nd w h) l (fun x _ => impl_nd w h x)]
  simp only [Option.bind_some, impl_fabric_way.j0]
  by_cases h1 : 1 ≤ (l.length : Int) ∧ (l.length : Int) ≤ 30
  · rw [if_pos (by simpa using h1)]
    by_cases ha : l.all (nd w h) = true
    · rw [if_neg (by simp only [ha]; decide), impl_way_loop w h l hl ha (l.length - 1) k 1 (by omega) (by omega) (by omega), ha, decide_eq_true h1]
      obtain ⟨n, hn⟩ : ∃ n, l.length = n + 1 := ⟨l.length - 1, by omega⟩
      rw [hn]
      simp [prs]
    · have e : l.all (nd w h) = false := by simpa using ha
      rw [if_pos (by simp only [e]; decide), e]
      rfl
  · rw [if_neg (by simpa using h1), decide_eq_false h1]
    simp
/-- What the wires of the ways are like. -/
def GoodL (L : List (List Int)) (N : Nat) : Prop := L.length ≤ 12 ∧ N ≤ 1000 ∧ ∀ i : Nat, i < L.length → (rd_L2 L i).length ≤ 30 ∧ (∀ j : Int, 0 ≤ j → j < (rd_L2 L i).length → 0 ≤ rd (rd_L2 L i) j ∧ rd (rd_L2 L i) j < N) ∧ (∀ j : Int, 1 ≤ j → j < (rd_L2 L i).length → rd (rd_L2 L i) (j - 1) ≠ rd (rd_L2 L i) j)
def remw (r : List Int) (x : Int) (b : Bool) : Nat := if b = true then 0 else r.length + 1 - x.toNat
/-- How many moves are left at most. -/
def phi : List (List Int) → List Int → List Bool → Nat
  | r :: L, x :: a, b :: d => remw r x b + phi L a d
  | _, _, _ => 0
theorem phi_step : ∀ (L : List (List Int)) (a : List Int) (d : List Bool) (i : Nat), i < L.length → a.length = L.length → d.length = L.length → ∀ (x : Int) (b : Bool), remw (rd_L2 L i) x b + 1 ≤ remw (rd_L2 L i) (rd a i) (rdOf false d i) → phi L (a.set i x) (d.set i b) + 1 ≤ phi L a d
  | [], _, _, _, h, _, _, _, _, _ => absurd h (Nat.not_lt_zero _)
  | _ :: _, [], _, _, _, h, _, _, _, _ => by simp at h
  | _ :: _, _ :: _, [], _, _, _, h, _, _, _ => by simp at h
  | r :: L, y :: a, c :: d, 0, _, _, _, x, b, h => by
    have h' : remw r x b + 1 ≤ remw r y c := h
    simp only [List.set_cons_zero, phi]
    omega
  | r :: L, y :: a, c :: d, i + 1, h0, h1, h2, x, b, h => by
    have ih := phi_step L a d i (by simpa using h0) (by simpa using h1) (by simpa using h2) x b (by
      have e1 : rd_L2 (r :: L) ((i + 1 : Nat) : Int) = rd_L2 L (i : Int) := by unfold rd_L2; simp [Int.toNat_natCast]
      have e2 : rd (y :: a) ((i + 1 : Nat) : Int) = rd a (i : Int) := by unfold rd; simp [Int.toNat_natCast]
      have e3 : rdOf false (c :: d) ((i + 1 : Nat) : Int) = rdOf false d (i : Int) := by unfold rdOf; simp [Int.toNat_natCast]
      rw [e1, e2, e3] at h
      exact h)
    simp only [List.set_cons_succ, phi]
    omega
def RelH (s : List (Int × Bool)) (H : List Bool) : Prop := ∀ x : Int, 0 ≤ x → x < H.length → mget s x = rdOf false H x
theorem rdOf_set {H : List Bool} {y x : Int} (b : Bool) (hy : 0 ≤ y) (hy2 : y < H.length) (hx : 0 ≤ x) : rdOf false (H.set y.toNat b) x = if x = y then b else rdOf false H x := by
  unfold rdOf
  rw [List.getD_eq_getElem?_getD, List.getD_eq_getElem?_getD]
  by_cases e : x = y
  · subst e
    rw [if_pos rfl, List.getElem?_set_self (by omega)]
    rfl
  · rw [if_neg e, List.getElem?_set_ne (by omega)]
theorem rel_set {s : List (Int × Bool)} {H : List Bool} (h : RelH s H) {y : Int} (b : Bool) (hy : 0 ≤ y) (hy2 : y < H.length) : RelH ((y, b) :: s) (H.set y.toNat b) := by
  intro x h0 h1
  rw [List.length_set] at h1
  rw [rdOf_set b hy hy2 h0]
  show (if x = y then b else mget s x) = _
  by_cases e : x = y
  · rw [if_pos e, if_pos e]
  · rw [if_neg e, if_neg e, h x h0 h1]
theorem rel_set2 {s : List (Int × Bool)} {H : List Bool} (h : RelH s H) {y z : Int} (hne : z ≠ y) (hy : 0 ≤ y) (hy2 : y < H.length) (hz : 0 ≤ z) (hz2 : z < H.length) : RelH ((y, true) :: ((z, false) :: s)) ((H.set y.toNat true).set z.toNat false) := by
  have h2 := rel_set (rel_set h false hz hz2) true hy (by simpa using hy2)
  rw [List.set_comm _ _ (by omega : z.toNat ≠ y.toNat)] at h2
  exact h2
def InvW (L : List (List Int)) (N : Nat) (a : List Int) (d H : List Bool) : Prop := a.length = L.length ∧ d.length = L.length ∧ H.length = N ∧ ∀ i : Nat, i < L.length → 0 ≤ rd a i ∧ rd a i ≤ (rd_L2 L i).length
theorem rd_set_i {a : List Int} {i j : Nat} (x : Int) (hi : i < a.length) : rd (a.set i x) j = if j = i then x else rd a j := by
  unfold rd
  rw [List.getD_eq_getElem?_getD, List.getD_eq_getElem?_getD, Int.toNat_natCast]
  by_cases e : j = i
  · subst e
    rw [if_pos rfl, List.getElem?_set_self hi]
    rfl
  · rw [if_neg e, List.getElem?_set_ne (fun h => e h.symm)]
theorem inv_a {L : List (List Int)} {N : Nat} {a : List Int} {d H : List Bool} (I : InvW L N a d H) {i : Nat} (hi : i < L.length) {x : Int} (h0 : 0 ≤ x) (h1 : x ≤ (rd_L2 L i).length) {H' : List Bool} (hH : H'.length = H.length) : InvW L N (a.set i x) d H' := by
  refine ⟨by rw [List.length_set]; exact I.1, I.2.1, by rw [hH]; exact I.2.2.1, fun j hj => ?_⟩
  rw [rd_set_i x (by rw [I.1]; exact hi)]
  by_cases e : j = i
  · subst e; rw [if_pos rfl]; exact ⟨h0, h1⟩
  · rw [if_neg e]; exact I.2.2.2 j hj
theorem inv_d {L : List (List Int)} {N : Nat} {a : List Int} {d H : List Bool} (I : InvW L N a d H) (i : Nat) (b : Bool) {H' : List Bool} (hH : H'.length = H.length) : InvW L N a (d.set i b) H' :=
  ⟨I.1, by rw [List.length_set]; exact I.2.1, by rw [hH]; exact I.2.2.1, I.2.2.2⟩
theorem set_same_b {d : List Bool} {i : Nat} (hi : i < d.length) : d.set i (rdOf false d i) = d := by
  unfold rdOf
  rw [Int.toNat_natCast, List.getD_eq_getElem?_getD, List.getElem?_eq_getElem hi]
  simp
theorem set_same_i {a : List Int} {i : Nat} (hi : i < a.length) : a.set i (rd a i) = a := by
  unfold rd
  rw [Int.toNat_natCast, List.getD_eq_getElem?_getD, List.getElem?_eq_getElem hi]
  simp
def decw (a : List Int) : List Int := a.map fun x => x - 1
theorem decw_len (a : List Int) : (decw a).length = a.length := by simp [decw]
theorem decw_rd {a : List Int} {i : Nat} (hi : i < a.length) : rd (decw a) i = rd a i - 1 := by
  unfold decw rd
  rw [Int.toNat_natCast, List.getD_eq_getElem?_getD, List.getD_eq_getElem?_getD, List.getElem?_map, List.getElem?_eq_getElem hi]
  rfl
theorem decw_set (a : List Int) (i : Nat) (x : Int) : (decw a).set i x = decw (a.set i (x + 1)) := by
  unfold decw
  rw [List.map_set]
  congr 1
  omega
/-- One worm, in one step of all. -/
theorem one_worm {L : List (List Int)} {N : Nat} (G : GoodL L N) {a : List Int} {d H : List Bool} (I : InvW L N a d H) {i : Nat} (hi : i < L.length) {s : List (Int × Bool)} (hR : RelH s H) (hs : s.length + 2 * phi L a d ≤ 1000) (m : Bool) :
    ∃ m' a' d' H' s', InvW L N a' d' H' ∧ RelH s' H' ∧ s'.length + 2 * phi L a' d' ≤ 1000 ∧ phi L a' d' ≤ phi L a d ∧ (m' = true → m = true ∨ phi L a' d' + 1 ≤ phi L a d) ∧
      (∀ k, spec_l16Step.l0 (k + 1) L (decw a) d H m i = spec_l16Step.l0 k L (decw a') d' H' m' ((i : Int) + 1)) ∧
      (∀ k st sk, impl_RunWorms.l1 (k + 1) L a s m L (L.length : Int) i d st sk = impl_RunWorms.l1 k L a' s' m' L (L.length : Int) ((i : Int) + 1) d' st sk) := by
  obtain ⟨g1, g2, g3⟩ := G
  obtain ⟨r1, r2, r3⟩ := g3 i hi
  obtain ⟨x0, x1⟩ := I.2.2.2 i hi
  have la := I.1
  have ld := I.2.1
  have lH := I.2.2.1
  have e1 := Aside0.mk (show wrap64 ((i : Int) + 1) = (i : Int) + 1 from w_in (by omega) (by omega))
  have eW := Aside0.mk (show wrap64 (((rd_L2 L i).length : Int) - 1) = ((rd_L2 L i).length : Int) - 1 from w_in (by omega) (by omega))
  have eX := Aside0.mk (show wrap64 (rd a i - 1) = rd a i - 1 from w_in (by omega) (by omega))
  have eY := Aside0.mk (show wrap64 (rd a i + 1) = rd a i + 1 from w_in (by omega) (by omega))
  have eZ := Aside0.mk (show wrap64 (rd a i - 1 + 1) = rd a i from by rw [show rd a i - 1 + 1 = rd a i by omega]; exact w_in (by omega) (by omega))
  have eD := Aside0.mk (show rd (decw a) i = rd a i - 1 from decw_rd (by omega))
  have eT := Aside0.mk (show ((i : Int)).toNat = i from Int.toNat_natCast i)
  by_cases c1 : rdOf false d i = true
  · refine ⟨m, a, d, H, s, I, hR, hs, Nat.le_refl _, fun h => .inl h, fun k => ?_, fun k st sk => ?_⟩
    · rw [spec_l16Step.l0, if_pos (by omega), if_pos (by omega), if_pos (by omega), if_pos c1, e1.out]
    · rw [impl_RunWorms.l1, if_pos (by omega), if_pos (by omega), if_pos (by omega), if_pos (by omega), if_pos (by omega), if_pos (by omega), if_pos c1, e1.out]
  have c1' : rdOf false d i = false := Bool.eq_false_iff.mpr c1
  by_cases c2 : rd a i = ((rd_L2 L i).length : Int)
  · have hphi : phi L a (d.set i true) + 1 ≤ phi L a d := by
      have := phi_step L a d i hi la ld (rd a i) true (by unfold remw; rw [c1', if_pos rfl, if_neg (by decide)]; omega)
      rwa [set_same_i (by omega)] at this
    by_cases c3 : rd a i > 0
    · obtain ⟨k0, k1⟩ := r2 (rd a i - 1) (by omega) (by omega)
      refine ⟨true, a, d.set i true, H.set (rd (rd_L2 L i) (rd a i - 1)).toNat false, (rd (rd_L2 L i) (rd a i - 1), false) :: s, inv_d I i true (by simp), rel_set hR false k0 (by omega), ?_, by omega, fun _ => .inr hphi, fun k => ?_, fun k st sk => ?_⟩
      · rw [List.length_cons]; omega
      · rw [spec_l16Step.l0, if_pos (by omega), if_pos (by omega), if_pos (by omega), if_neg c1, if_pos (by rw [decw_len]; omega), eW.out, eD.out, if_pos (by omega), if_pos (by omega), if_pos (by omega), if_pos (by omega), if_pos k0, if_pos (by omega), e1.out, eT.out]
      · rw [impl_RunWorms.l1, if_pos (by omega), if_pos (by omega), if_pos (by omega), if_pos (by omega), if_pos (by omega), if_pos (by omega), if_neg c1, if_pos c2, if_pos c3, eX.out, if_pos (by omega), if_pos (by omega), e1.out, eT.out]
    · refine ⟨true, a, d.set i true, H, s, inv_d I i true rfl, hR, by omega, by omega, fun _ => .inr hphi, fun k => ?_, fun k st sk => ?_⟩
      · rw [spec_l16Step.l0, if_pos (by omega), if_pos (by omega), if_pos (by omega), if_neg c1, if_pos (by rw [decw_len]; omega), eW.out, eD.out, if_pos (by omega), if_neg (by omega), e1.out, eT.out]
      · rw [impl_RunWorms.l1, if_pos (by omega), if_pos (by omega), if_pos (by omega), if_pos (by omega), if_pos (by omega), if_pos (by omega), if_neg c1, if_pos c2, if_neg c3, e1.out, eT.out]
  obtain ⟨n0, n1⟩ := r2 (rd a i) (by omega) (by omega)
  have hm := hR (rd (rd_L2 L i) (rd a i)) n0 (by omega)
  by_cases c4 : rdOf false H (rd (rd_L2 L i) (rd a i)) = true
  · refine ⟨m, a, d, H, s, I, hR, hs, Nat.le_refl _, fun h => .inl h, fun k => ?_, fun k st sk => ?_⟩
    · rw [spec_l16Step.l0, if_pos (by omega), if_pos (by omega), if_pos (by omega), if_neg c1, if_pos (by rw [decw_len]; omega), eW.out, eD.out, if_neg (by omega), eZ.out, if_pos (by omega), if_pos (by omega), if_pos n0, if_pos (by omega), if_pos c4, e1.out]
    · rw [impl_RunWorms.l1, if_pos (by omega), if_pos (by omega), if_pos (by omega), if_pos (by omega), if_pos (by omega), if_pos (by omega), if_neg c1, if_neg c2, if_pos (by omega), if_pos (by omega), if_pos (hm.trans c4), e1.out]
  have c4' : ¬ mget s (rd (rd_L2 L i) (rd a i)) = true := by rw [hm]; exact c4
  have hphi : phi L (a.set i (rd a i + 1)) d + 1 ≤ phi L a d := by
    have := phi_step L a d i hi la ld (rd a i + 1) (rdOf false d i) (by unfold remw; rw [c1', if_neg (by decide), if_neg (by decide)]; omega)
    rwa [set_same_b (by omega)] at this
  by_cases c3 : rd a i > 0
  · obtain ⟨k0, k1⟩ := r2 (rd a i - 1) (by omega) (by omega)
    have hne := r3 (rd a i) (by omega) (by omega)
    refine ⟨true, a.set i (rd a i + 1), d, (H.set (rd (rd_L2 L i) (rd a i)).toNat true).set (rd (rd_L2 L i) (rd a i - 1)).toNat false, (rd (rd_L2 L i) (rd a i), true) :: ((rd (rd_L2 L i) (rd a i - 1), false) :: s), inv_a I hi (by omega) (by omega) (by simp), rel_set2 hR hne n0 (by omega) k0 (by omega), ?_, by omega, fun _ => .inr hphi, fun k => ?_, fun k st sk => ?_⟩
    · rw [List.length_cons, List.length_cons]; omega
    · rw [spec_l16Step.l0, if_pos (by omega), if_pos (by omega), if_pos (by omega), if_neg c1, if_pos (by rw [decw_len]; omega), eW.out, eD.out, if_neg (by omega), eZ.out, if_pos (by omega), if_pos (by omega), if_pos n0, if_pos (by omega), if_neg c4]
      rw [bs rfl, if_pos (by omega), if_pos (by omega), if_pos (by omega), if_pos k0, if_pos (by omega), e1.out, eT.out, decw_set]
    · rw [impl_RunWorms.l1, if_pos (by omega), if_pos (by omega), if_pos (by omega), if_pos (by omega), if_pos (by omega), if_pos (by omega), if_neg c1, if_neg c2, if_pos (by omega), if_pos (by omega), if_neg c4', if_pos c3, eX.out, if_pos (by omega), if_pos (by omega), e1.out, eT.out, eY.out]
  · refine ⟨true, a.set i (rd a i + 1), d, H.set (rd (rd_L2 L i) (rd a i)).toNat true, (rd (rd_L2 L i) (rd a i), true) :: s, inv_a I hi (by omega) (by omega) (by simp), rel_set hR true n0 (by omega), ?_, by omega, fun _ => .inr hphi, fun k => ?_, fun k st sk => ?_⟩
    · rw [List.length_cons]; omega
    · rw [spec_l16Step.l0, if_pos (by omega), if_pos (by omega), if_pos (by omega), if_neg c1, if_pos (by rw [decw_len]; omega), eW.out, eD.out, if_neg (by omega), eZ.out, if_pos (by omega), if_pos (by omega), if_pos n0, if_pos (by omega), if_neg c4]
      rw [bs rfl, if_neg (by omega), e1.out, eT.out, decw_set]
    · rw [impl_RunWorms.l1, if_pos (by omega), if_pos (by omega), if_pos (by omega), if_pos (by omega), if_pos (by omega), if_pos (by omega), if_neg c1, if_neg c2, if_pos (by omega), if_pos (by omega), if_neg c4', if_neg c3, e1.out, eT.out, eY.out]
theorem rdb_at {l : List Bool} {i : Int} (h0 : 0 ≤ i) (h : i.toNat < l.length) : l.drop i.toNat = rdOf false l i :: l.drop (i + 1).toNat := by
  rw [List.drop_eq_getElem_cons h, show (i + 1).toNat = i.toNat + 1 by omega]
  unfold rdOf
  rw [List.getD_eq_getElem?_getD, List.getElem?_eq_getElem h]
  rfl
theorem idxb_loop (l : List Bool) (hl : l.length ≤ 1000000) (d : Nat) : ∀ (k : Nat) (i : Int), 0 ≤ i → i + d = l.length → d < k →
    ∃ r, slices_Index_bool_bool.l0 k l false (l.length : Int) i = some r ∧ decide (r ≥ 0) = (l.drop i.toNat).contains false := by
  induction d with
  | zero =>
    intro k i h0 h1 hk
    obtain ⟨k, rfl⟩ : ∃ m, k = m + 1 := ⟨k - 1, by omega⟩
    refine ⟨-1, by simp only [slices_Index_bool_bool.l0]; rw [if_neg (by omega)], ?_⟩
    rw [List.drop_eq_nil_of_le (by omega)]; rfl
  | succ d ih =>
    intro k i h0 h1 hk
    obtain ⟨k, rfl⟩ : ∃ m, k = m + 1 := ⟨k - 1, by omega⟩
    rw [rdb_at h0 (by omega)]
    simp only [slices_Index_bool_bool.l0]
    rw [if_pos (by omega), if_pos h0, if_pos (by omega)]
    cases e : rdOf false l i with
    | false => exact ⟨i, by rw [if_pos (by decide)], by simp [h0]⟩
    | true =>
      obtain ⟨r, hr, hd⟩ := ih k (i + 1) (by omega) (by omega) (by omega)
      refine ⟨r, by rw [if_neg (by decide), w_in (by omega) (by omega)]; exact hr, ?_⟩
      rw [hd, List.contains_cons]
      simp
theorem containsb_ok {l : List Bool} (hl : l.length ≤ 1000000) {k : Nat} (hk : l.length < k) : slices_Contains_bool_bool.f k l false = some (l.contains false) := by
  obtain ⟨r, hr, hd⟩ := idxb_loop l hl l.length k 0 (by omega) (by omega) hk
  unfold slices_Contains_bool_bool.f slices_Index_bool_bool.f
  rw [hr]
  simp only [Option.bind_some]
  rw [hd]; rfl
theorem left_loop (l : List Bool) (hl : l.length ≤ 1000000) (d : Nat) : ∀ (k : Nat) (i : Int), 0 ≤ i → i + d = l.length → d < k → spec_l16Left.l0 k l i = some ((l.drop i.toNat).contains false) := by
  induction d with
  | zero =>
    intro k i h0 h1 hk
    obtain ⟨k, rfl⟩ : ∃ m, k = m + 1 := ⟨k - 1, by omega⟩
    simp only [spec_l16Left.l0]
    rw [if_neg (by omega), List.drop_eq_nil_of_le (by omega)]; rfl
  | succ d ih =>
    intro k i h0 h1 hk
    obtain ⟨k, rfl⟩ : ∃ m, k = m + 1 := ⟨k - 1, by omega⟩
    rw [rdb_at h0 (by omega)]
    simp only [spec_l16Left.l0]
    rw [if_pos (by omega), if_pos h0]
    cases e : rdOf false l i with
    | false => rw [if_neg (by decide)]; simp
    | true => rw [if_pos rfl, w_in (by omega) (by omega), ih k (i + 1) (by omega) (by omega) (by omega)]; simp
theorem left_ok {l : List Bool} (hl : l.length ≤ 1000000) {k : Nat} (hk : l.length < k) : spec_l16Left.f k l = some (l.contains false) := by
  unfold spec_l16Left.f
  rw [left_loop l hl l.length k 0 (by omega) (by omega) hk]; rfl
/-- One step of all worms. -/
theorem all_worms {L : List (List Int)} {N : Nat} (G : GoodL L N) (r : Nat) : ∀ (i : Nat) (a : List Int) (d H : List Bool) (s : List (Int × Bool)) (m : Bool), i + r = L.length → InvW L N a d H → RelH s H → s.length + 2 * phi L a d ≤ 1000 →
    ∃ m' a' d' H' s', InvW L N a' d' H' ∧ RelH s' H' ∧ s'.length + 2 * phi L a' d' ≤ 1000 ∧ phi L a' d' ≤ phi L a d ∧ (m' = true → m = true ∨ phi L a' d' + 1 ≤ phi L a d) ∧
      (∀ k, r < k → spec_l16Step.l0 k L (decw a) d H m i = some (m', decw a', d', H')) ∧
      (∀ k st sk, impl_RunWorms.l1 (k + r + 1) L a s m L (L.length : Int) i d st sk = if m' = true then impl_RunWorms.l0 k L a' s' d' st sk else some (d', st, true, true)) := by
  induction r with
  | zero =>
    intro i a d H s m hi I hR hs
    refine ⟨m, a, d, H, s, I, hR, hs, Nat.le_refl _, fun h => .inl h, fun k hk => ?_, fun k st sk => ?_⟩
    · obtain ⟨k, rfl⟩ : ∃ q, k = q + 1 := ⟨k - 1, by omega⟩
      rw [spec_l16Step.l0, if_neg (by omega)]
    · rw [show k + 0 + 1 = k + 1 by omega, impl_RunWorms.l1, if_pos (by omega), if_neg (by omega)]
  | succ r ih =>
    intro i a d H s m hi I hR hs
    obtain ⟨m1, a1, d1, H1, s1, I1, R1, b1, p1, q1, e1, f1⟩ := one_worm G I (show i < L.length by omega) hR hs m
    obtain ⟨m2, a2, d2, H2, s2, I2, R2, b2, p2, q2, e2, f2⟩ := ih (i + 1) a1 d1 H1 s1 m1 (by omega) I1 R1 b1
    refine ⟨m2, a2, d2, H2, s2, I2, R2, b2, by omega, fun h => ?_, fun k hk => ?_, fun k st sk => ?_⟩
    · rcases q2 h with h1 | h1
      · rcases q1 h1 with h2 | h2
        · exact .inl h2
        · exact .inr (by omega)
      · exact .inr (by omega)
    · obtain ⟨k, rfl⟩ : ∃ q, k = q + 1 := ⟨k - 1, by omega⟩
      rw [e1 k]
      exact e2 k (by omega)
    · rw [show k + (r + 1) + 1 = (k + r + 1) + 1 by omega, f1]
      exact f2 k st sk
/-- All steps. -/
theorem rounds {L : List (List Int)} {N : Nat} (G : GoodL L N) (p : Nat) : ∀ (a : List Int) (d H : List Bool) (s : List (Int × Bool)) (st : Int) (sk : Bool), phi L a d < p → InvW L N a d H → RelH s H → s.length + 2 * phi L a d ≤ 1000 →
    ∃ q : List Bool × Int × Bool, q.1.length = L.length ∧ ∀ k, p * 40 < k → impl_RunWorms.l0 k L a s d st sk = some (q.1, q.2.1, q.2.2, true) ∧ spec_RunWorms.l1 k L (decw a) H d st sk = some (q.1, q.2.1, q.2.2, true) := by
  have gl := G.1
  induction p with
  | zero => intro a d H s st sk hp; omega
  | succ p ih =>
    intro a d H s st sk hp I hR hs
    have ld := I.2.1
    cases hc : d.contains false with
    | false =>
      refine ⟨(d, st, sk), ld, fun k hk => ?_⟩
      obtain ⟨k, rfl⟩ : ∃ q, k = q + 1 := ⟨k - 1, by omega⟩
      refine ⟨?_, ?_⟩
      · rw [impl_RunWorms.l0, bs (containsb_ok (l := d) (by omega) (by omega)), hc, if_neg (by decide)]
      · rw [spec_RunWorms.l1, bs (left_ok (l := d) (by omega) (by omega)), hc, if_neg (by decide)]
    | true =>
      obtain ⟨m, a', d', H', s', I', R', b', p', q', e', f'⟩ := all_worms G L.length 0 a d H s false (by omega) I hR hs
      have e0 : ∀ k, L.length < k → spec_l16Step.f k L (decw a) d H = some (m, decw a', d', H') := fun k hk => e' k hk
      cases m with
      | false =>
        refine ⟨(d', wrap64 (st + 1), true), I'.2.1, fun k hk => ?_⟩
        obtain ⟨k, rfl⟩ : ∃ q, k = q + 1 := ⟨k - 1, by omega⟩
        refine ⟨?_, ?_⟩
        · rw [impl_RunWorms.l0, bs (containsb_ok (l := d) (by omega) (by omega)), hc, if_pos rfl]
          obtain ⟨j, rfl⟩ : ∃ j, k = j + L.length + 1 := ⟨k - L.length - 1, by omega⟩
          have := f' j (wrap64 (st + 1)) sk
          rw [if_neg (by decide)] at this
          exact this
        · rw [spec_RunWorms.l1, bs (left_ok (l := d) (by omega) (by omega)), hc, if_pos rfl, bs (e0 k (by omega))]
          dsimp only
          rw [if_neg (by decide)]
      | true =>
        have hlt : phi L a' d' < p := by
          rcases q' rfl with h | h
          · exact absurd h (by decide)
          · omega
        obtain ⟨q, lq, hq⟩ := ih a' d' H' s' (wrap64 (st + 1)) sk hlt I' R' b'
        refine ⟨q, lq, fun k hk => ?_⟩
        obtain ⟨k, rfl⟩ : ∃ q, k = q + 1 := ⟨k - 1, by omega⟩
        refine ⟨?_, ?_⟩
        · rw [impl_RunWorms.l0, bs (containsb_ok (l := d) (by omega) (by omega)), hc, if_pos rfl]
          obtain ⟨j, rfl⟩ : ∃ j, k = j + L.length + 1 := ⟨k - L.length - 1, by omega⟩
          have := f' j (wrap64 (st + 1)) sk
          rw [if_pos rfl] at this
          exact this.trans (hq j (by omega)).1
        · rw [spec_RunWorms.l1, bs (left_ok (l := d) (by omega) (by omega)), hc, if_pos rfl, bs (e0 k (by omega))]
          dsimp only
          rw [if_pos rfl]
          exact (hq k (by omega)).2
/-- The wires of a way, from index i on. -/
def wrs (w : Int) (l : List Int) : Int → Nat → List Int
  | _, 0 => []
  | i, d + 1 => (wr16 w (rd l (i - 1)) (rd l i)).getD 0 :: wrs w l (i + 1) d
theorem wrs_len (w : Int) (l : List Int) : ∀ (d : Nat) (i : Int), (wrs w l i d).length = d
  | 0, _ => rfl
  | d + 1, i => by simp [wrs, wrs_len w l d (i + 1)]
theorem wrs_rd (w : Int) (l : List Int) : ∀ (d : Nat) (i : Int) (j : Nat), j < d → rd (wrs w l i d) j = (wr16 w (rd l (i + j - 1)) (rd l (i + j))).getD 0
  | 0, _, _, h => absurd h (Nat.not_lt_zero _)
  | d + 1, i, 0, _ => by
    unfold rd
    simp [wrs, rd]
  | d + 1, i, j + 1, h => by
    have ih := wrs_rd w l d (i + 1) j (by omega)
    have e : rd (wrs w l i (d + 1)) ((j + 1 : Nat) : Int) = rd (wrs w l (i + 1) d) (j : Int) := by
      unfold rd
      simp [wrs, Int.toNat_natCast]
    rw [e, ih, show i + 1 + (j : Int) = i + ((j + 1 : Nat) : Int) by omega]
theorem wr16_get {w a b v : Int} (h : wr16 w a b = some v) : (wr16 w a b).getD 0 = v := by rw [h]; rfl
theorem impl_wires_loop (w h : Int) (l : List Int) (hl : l.length ≤ 30) (ha : l.all (nd w h) = true) (d : Nat) : ∀ (k : Nat) (i : Int) (out : List Int), 1 ≤ i → i + d = l.length → out.length + d ≤ 100 → d < k →
    impl_fabric_wires_1.l0 k l out i w h = some (out ++ wrs w l i d) := by
  induction d with
  | zero =>
    intro k i out h0 h1 ho hk
    obtain ⟨k, rfl⟩ : ∃ m, k = m + 1 := ⟨k - 1, by omega⟩
    rw [impl_fabric_wires_1.l0, if_neg (by omega), wrs, List.append_nil]
  | succ d ih =>
    intro k i out h0 h1 ho hk
    obtain ⟨k, rfl⟩ : ∃ m, k = m + 1 := ⟨k - 1, by omega⟩
    obtain ⟨v, hv⟩ := wr16_some w (rd l (i - 1)) (rd l i)
    rw [impl_fabric_wires_1.l0, if_pos (by omega), w_in (n := i - 1) (by omega) (by omega), w_in (n := i + 1) (by omega) (by omega), if_pos (by omega), if_pos (by omega), if_pos (by omega), impl_wire16 (rd_all ha (by omega) (by omega)) (rd_all ha (by omega) (by omega)), bs hv, if_pos (by omega), ih k (i + 1) _ (by omega) (by omega) (by rw [List.length_append]; simp; omega) (by omega)]
    rw [wrs, wr16_get hv, List.append_assoc]
    rfl
theorem spec_wires_loop (w h : Int) (l : List Int) (hl : l.length ≤ 30) (ha : l.all (nd w h) = true) (d : Nat) : ∀ (k : Nat) (i : Int) (out : List Int), 1 ≤ i → i + d = l.length → out.length + d ≤ 100 → d + 3 < k →
    spec_l16Wires.l0 k w l out i = some (out ++ wrs w l i d) := by
  induction d with
  | zero =>
    intro k i out h0 h1 ho hk
    obtain ⟨k, rfl⟩ : ∃ m, k = m + 1 := ⟨k - 1, by omega⟩
    rw [spec_l16Wires.l0, if_neg (by omega), wrs, List.append_nil]
  | succ d ih =>
    intro k i out h0 h1 ho hk
    obtain ⟨k, rfl⟩ : ∃ m, k = m + 1 := ⟨k - 1, by omega⟩
    obtain ⟨v, hv⟩ := wr16_some w (rd l (i - 1)) (rd l i)
    rw [spec_l16Wires.l0, if_pos (by omega), w_in (n := i - 1) (by omega) (by omega), w_in (n := i + 1) (by omega) (by omega), if_pos (by omega), if_pos (by omega), if_pos (by omega), spec_wire16 (rd_all ha (by omega) (by omega)) (rd_all ha (by omega) (by omega)) (by omega), bs hv, if_pos (by omega), ih k (i + 1) _ (by omega) (by omega) (by rw [List.length_append]; simp; omega) (by omega)]
    rw [wrs, wr16_get hv, List.append_assoc]
    rfl
def wof (w : Int) (l : List Int) : List Int := wrs w l 1 (l.length - 1)
theorem wayv_open {w h : Int} {l : List Int} (k : wayv w h l = true) : l.all (nd w h) = true ∧ prs w l 0 l.length = true ∧ 1 ≤ l.length ∧ l.length ≤ 30 := by
  simp only [wayv, Bool.and_eq_true, decide_eq_true_eq] at k
  exact ⟨k.1.1, k.1.2, by omega, by omega⟩
theorem impl_wof {w h : Int} {l : List Int} (hv : wayv w h l = true) {k : Nat} (hk : 40 < k) : impl_fabric_wires_1.f k l w h = some (wof w l) := by
  obtain ⟨h1, h2, h3, h4⟩ := wayv_open hv
  unfold impl_fabric_wires_1.f
  rw [impl_wires_loop w h l h4 h1 (l.length - 1) k 1 [] (by omega) (by omega) (by simp; omega) (by omega)]
  rfl
theorem spec_wof {w h : Int} {l : List Int} (hv : wayv w h l = true) {k : Nat} (hk : 40 < k) : spec_l16Wires.f k w l = some (wof w l) := by
  obtain ⟨h1, h2, h3, h4⟩ := wayv_open hv
  unfold spec_l16Wires.f
  rw [spec_wires_loop w h l h4 h1 (l.length - 1) k 1 [] (by omega) (by omega) (by simp; omega) (by omega)]
  rfl
theorem prs_at {w : Int} {l : List Int} : ∀ (d : Nat) (i : Int), prs w l i d = true → ∀ j : Nat, j < d → 0 < i + j → ng w (rd l (i + j - 1)) (rd l (i + j)) = false
  | 0, _, _, _, h, _ => absurd h (Nat.not_lt_zero _)
  | d + 1, i, h, 0, _, hp => by
    simp only [prs, Bool.and_eq_true, Bool.or_eq_true, decide_eq_true_eq] at h
    rcases h.1 with q | q
    · omega
    · rw [show i + ((0 : Nat) : Int) = i by omega]
      simpa using q
  | d + 1, i, h, j + 1, hj, hp => by
    simp only [prs, Bool.and_eq_true] at h
    have := prs_at d (i + 1) h.2 j (by omega) (by omega)
    rw [show i + ((j + 1 : Nat) : Int) = i + 1 + (j : Int) by omega]
    exact this
/-- A wire's number tells where it begins, and that it leads elsewhere. -/
theorem wr16_val {w h a b v : Int} (ka : nd w h a = true) (kb : nd w h b = true) (hv : wr16 w a b = some v) (h0 : 0 ≤ v) : 4 * a ≤ v ∧ v ≤ 4 * a + 3 ∧ a ≠ b := by
  have oa := nd_open ka
  have ob := nd_open kb
  have ha := small oa.1 oa.2.1 oa.2.2
  have ta := tm ha oa.1
  unfold wr16 at hv
  rw [wire_l0, w_in (n := 4 * a) (by omega) (by omega), w_in (n := 4 * a + 0) (by omega) (by omega), w_in (n := 4 * a + 1) (by omega) (by omega), w_in (n := 4 * a + 2) (by omega) (by omega), w_in (n := 4 * a + 3) (by omega) (by omega)] at hv
  have hz : wrap64 0 = 0 := w_in (by omega) (by omega)
  by_cases e : a = b
  · subst e
    rw [Int.sub_self, Int.sub_self, hz, if_neg (by omega), if_neg (by omega), if_neg (by omega), if_neg (by omega)] at hv
    injection hv with hv
    omega
  · refine ⟨?_, ?_, e⟩ <;>
    · split at hv
      · injection hv with hv; omega
      · split at hv
        · injection hv with hv; omega
        · split at hv
          · injection hv with hv; omega
          · split at hv
            · injection hv with hv; omega
            · injection hv with hv; omega
theorem wof_at {w h : Int} {l : List Int} (hv : wayv w h l = true) {j : Nat} (hj : j < (wof w l).length) : ∃ v, wr16 w (rd l j) (rd l (j + 1)) = some v ∧ rd (wof w l) j = v ∧ 0 ≤ v ∧ nd w h (rd l j) = true ∧ nd w h (rd l (j + 1)) = true := by
  obtain ⟨h1, h2, h3, h4⟩ := wayv_open hv
  unfold wof at hj ⊢
  rw [wrs_len] at hj
  obtain ⟨v, e⟩ := wr16_some w (rd l j) (rd l (j + 1))
  have hp := prs_at l.length 0 h2 (j + 1) (by omega) (by omega)
  rw [show (0 : Int) + ((j + 1 : Nat) : Int) - 1 = j by omega, show (0 : Int) + ((j + 1 : Nat) : Int) = j + 1 by omega, ng_eq e] at hp
  refine ⟨v, e, ?_, by simpa using hp, rd_all h1 (by omega) (by omega), rd_all h1 (by omega) (by omega)⟩
  rw [wrs_rd w l _ 1 j hj, show (1 : Int) + (j : Int) - 1 = j by omega, show (1 : Int) + (j : Int) = j + 1 by omega]
  exact wr16_get e
theorem nd_lt {w h x : Int} (k : nd w h x = true) : 0 ≤ x ∧ x + 1 ≤ w * h ∧ w * h ≤ 25 := by
  have o := nd_open k
  have e : 0 ≤ w * h ∧ w * h ≤ 25 := by
    have hh : h = 1 ∨ h = 2 ∨ h = 3 ∨ h = 4 ∨ h = 5 := by omega
    rcases hh with e | e | e | e | e <;> rw [e] <;> omega
  have o3 := o.2.2
  rw [w_in (n := w * h) (by omega) (by omega), w_in (n := w * h - 1) (by omega) (by omega)] at o3
  omega
theorem wof_good {w h : Int} {l : List Int} (hv : wayv w h l = true) {N : Nat} (hN : (N : Int) = 4 * (w * h)) : (wof w l).length ≤ 30 ∧ (∀ j : Int, 0 ≤ j → j < (wof w l).length → 0 ≤ rd (wof w l) j ∧ rd (wof w l) j < N) ∧ (∀ j : Int, 1 ≤ j → j < (wof w l).length → rd (wof w l) (j - 1) ≠ rd (wof w l) j) := by
  obtain ⟨h1, h2, h3, h4⟩ := wayv_open hv
  have hlen : (wof w l).length = l.length - 1 := by unfold wof; rw [wrs_len]
  refine ⟨by omega, fun j j0 j1 => ?_, fun j j0 j1 => ?_⟩
  · obtain ⟨n, rfl⟩ : ∃ n : Nat, j = n := ⟨j.toNat, by omega⟩
    obtain ⟨v, e1, e2, e3, e4, e5⟩ := wof_at hv (j := n) (by omega)
    have := wr16_val e4 e5 e1 e3
    have := nd_lt e4
    rw [e2]
    omega
  · obtain ⟨n, rfl⟩ : ∃ n : Nat, j = ((n + 1 : Nat) : Int) := ⟨j.toNat - 1, by omega⟩
    rw [show ((n + 1 : Nat) : Int) - 1 = n by omega]
    obtain ⟨v, e1, e2, e3, e4, e5⟩ := wof_at hv (j := n) (by omega)
    obtain ⟨u, f1, f2, f3, f4, f5⟩ := wof_at hv (j := n + 1) (by omega)
    have a1 := wr16_val e4 e5 e1 e3
    have a2 := wr16_val f4 f5 f1 f3
    rw [e2, f2]
    rw [show ((n : Int) + 1) = ((n + 1 : Nat) : Int) by omega] at a1
    omega
theorem rdl_at {l : List (List Int)} {i : Int} (h0 : 0 ≤ i) (h : i.toNat < l.length) : l.drop i.toNat = rd_L2 l i :: l.drop (i + 1).toNat := by
  rw [List.drop_eq_getElem_cons h, show (i + 1).toNat = i.toNat + 1 by omega]
  unfold rd_L2
  rw [List.getD_eq_getElem?_getD, List.getElem?_eq_getElem h]
  rfl
theorem rdl_mem {l : List (List Int)} {i : Int} (h0 : 0 ≤ i) (h : i < l.length) : rd_L2 l i ∈ l := by
  unfold rd_L2
  rw [List.getD_eq_getElem?_getD, List.getElem?_eq_getElem (by omega)]
  exact List.getElem_mem _
theorem m_loop (w h : Int) (l : List (List Int)) (hl : l.length ≤ 12) (ha : ∀ x ∈ l, wayv w h x = true) (d : Nat) : ∀ (k : Nat) (i : Int) (out : List (List Int)), 0 ≤ i → i + d = l.length → out.length + d ≤ 100 → d + 50 < k →
    impl_fabric_wires_m.l0 k out l (l.length : Int) i w h = some (out ++ (l.drop i.toNat).map (wof w)) := by
  induction d with
  | zero =>
    intro k i out h0 h1 ho hk
    obtain ⟨k, rfl⟩ : ∃ m, k = m + 1 := ⟨k - 1, by omega⟩
    rw [impl_fabric_wires_m.l0, if_neg (by omega), List.drop_eq_nil_of_le (by omega), List.map_nil, List.append_nil]
  | succ d ih =>
    intro k i out h0 h1 ho hk
    obtain ⟨k, rfl⟩ : ∃ m, k = m + 1 := ⟨k - 1, by omega⟩
    rw [impl_fabric_wires_m.l0, if_pos (by omega), if_pos (by omega), if_pos (by omega), bs (impl_wof (ha _ (rdl_mem h0 (by omega))) (by omega)), if_pos (by omega), w_in (n := i + 1) (by omega) (by omega), ih k (i + 1) _ (by omega) (by omega) (by rw [List.length_append]; simp; omega) (by omega), rdl_at h0 (by omega), List.map_cons, List.append_assoc]
    rfl
def fab (w h : Int) : Bool := decide (1 ≤ w ∧ w ≤ 5) && decide (1 ≤ h ∧ h ≤ 5)
def goodw (w h : Int) (l : List (List Int)) : Bool := l.all (wayv w h) && fab w h && decide ((l.length : Int) ≤ 12)
theorem impl_fab (w h : Int) : impl_fabric_valid.f w h = some (fab w h) := by
  unfold impl_fabric_valid.f fab
  simp only [i_in, Option.bind_some]
  generalize decide (1 ≤ w ∧ w ≤ 5) = a
  generalize decide (1 ≤ h ∧ h ≤ 5) = b
  cases a <;> cases b <;> rfl
theorem spec_fab (w h : Int) : spec_l16Fabric.f w h = some (fab w h) := by
  unfold spec_l16Fabric.f fab
  simp only [s_in, Option.bind_some]
  generalize decide (1 ≤ w ∧ w ≤ 5) = a
  generalize decide (1 ≤ h ∧ h ≤ 5) = b
  cases a <;> cases b <;> rfl
theorem impl_wires_ok {w h : Int} {l : List (List Int)} {M : Nat} (hM : ∀ x ∈ l, x.length ≤ M) (hMb : M ≤ 2000000) {k : Nat} (hk : M + 100 < k) : impl_fabric_wires.f k w h l = some (if goodw w h l = true then (l.map (wof w), true) else ([], false)) := by
  unfold impl_fabric_wires.f goodw
  rw [bs (impl_fab w h)]
  have hall : all_impl_fabric_way.f k l w h = some (l.all (wayv w h)) := by
    unfold all_impl_fabric_way.f
    exact allO_total l (fun x hx => impl_fway (by have := hM x hx; omega) (by have := hM x hx; omega))
  cases e1 : fab w h with
  | false => rw [if_neg (by decide), if_neg (by simp)]
  | true =>
    rw [if_pos rfl]
    by_cases e2 : (l.length : Int) > 12
    · rw [if_pos e2, if_neg (by simp; omega)]
    · rw [if_neg e2, bs hall]
      cases e3 : l.all (wayv w h) with
      | false => rw [if_neg (by decide), if_neg (by simp)]
      | true =>
        have hm : impl_fabric_wires_m.f k l w h = some (l.map (wof w)) := by
          unfold impl_fabric_wires_m.f
          rw [m_loop w h l (by omega) (fun x hx => List.all_eq_true.mp e3 x hx) l.length k 0 [] (by omega) (by omega) (by simp; omega) (by omega)]
          rfl
        rw [if_pos rfl, bs hm, if_pos (by simp; omega)]
theorem ways_loop (w h : Int) (l : List (List Int)) {M : Nat} (hM : ∀ x ∈ l, x.length ≤ M) (hMb : M ≤ 2000000) (hl : l.length ≤ 2000000) (d : Nat) : ∀ (k : Nat) (i : Int), 0 ≤ i → i + d = l.length → d + M + 100 < k →
    spec_l16Ways.l0 k w h l i = some ((l.drop i.toNat).all (wayv w h) && fab w h && decide ((l.length : Int) ≤ 12)) := by
  induction d with
  | zero =>
    intro k i h0 h1 hk
    obtain ⟨k, rfl⟩ : ∃ m, k = m + 1 := ⟨k - 1, by omega⟩
    rw [spec_l16Ways.l0, if_neg (by omega), bs (spec_fab w h), List.drop_eq_nil_of_le (by omega)]
    cases fab w h <;> rfl
  | succ d ih =>
    intro k i h0 h1 hk
    obtain ⟨k, rfl⟩ : ∃ m, k = m + 1 := ⟨k - 1, by omega⟩
    have hm := hM _ (rdl_mem (l := l) h0 (by omega))
    rw [spec_l16Ways.l0, if_pos (by omega), if_pos h0, bs (spec_way (by omega) (by omega)), rdl_at h0 (by omega), List.all_cons]
    cases e : wayv w h (rd_L2 l i) with
    | false => rw [if_neg (by decide)]; rfl
    | true => rw [if_pos rfl, w_in (n := i + 1) (by omega) (by omega), ih k (i + 1) (by omega) (by omega) (by omega), Bool.true_and]
theorem ways_ok {w h : Int} {l : List (List Int)} {M : Nat} (hM : ∀ x ∈ l, x.length ≤ M) (hMb : M ≤ 2000000) (hl : l.length ≤ 2000000) {k : Nat} (hk : l.length + M + 100 < k) : spec_l16Ways.f k w h l = some (goodw w h l) := by
  unfold spec_l16Ways.f goodw
  rw [ways_loop w h l hM hMb hl l.length k 0 (by omega) (by omega) (by omega)]
  rfl
theorem spec_top (w h : Int) (l : List (List Int)) (hl : l.length ≤ 12) (ha : ∀ x ∈ l, wayv w h x = true) (d : Nat) : ∀ (k : Nat) (i : Int) (out : List (List Int)) (at_ : List Int), 0 ≤ i → i + d = l.length → out.length + d ≤ 100 → at_.length + d ≤ 100 → 50 < k →
    spec_RunWorms.l0 (k + d + 1) w h l out at_ i = spec_RunWorms.l0 (k + 1) w h l (out ++ (l.drop i.toNat).map (wof w)) (at_ ++ List.replicate d (-1)) (l.length : Int) := by
  induction d with
  | zero =>
    intro k i out at_ h0 h1 ho hat hk
    rw [List.drop_eq_nil_of_le (by omega), List.map_nil, List.append_nil, List.replicate_zero, List.append_nil, show i = (l.length : Int) by omega]
  | succ d ih =>
    intro k i out at_ h0 h1 ho hat hk
    rw [show k + (d + 1) + 1 = (k + d + 1) + 1 by omega, spec_RunWorms.l0, if_pos (by omega), if_pos (by omega), bs (spec_wof (ha _ (rdl_mem h0 (by omega))) (by omega)), if_pos (by omega), if_pos (by omega), w_in (n := i + 1) (by omega) (by omega), ih k (i + 1) _ _ (by omega) (by omega) (by rw [List.length_append]; simp; omega) (by rw [List.length_append]; simp; omega) hk, rdl_at h0 (by omega), List.map_cons, List.append_assoc, List.append_assoc, List.replicate_succ]
    rfl
theorem phi_le : ∀ (L : List (List Int)) (a : List Int) (d : List Bool), (∀ r ∈ L, r.length ≤ 30) → phi L a d ≤ 31 * L.length
  | [], _, _, _ => Nat.zero_le _
  | _ :: _, [], _, _ => Nat.zero_le _
  | _ :: _, _ :: _, [], _ => Nat.zero_le _
  | r :: L, x :: a, b :: d, h => by
    have ih := phi_le L a d (fun q hq => h q (List.mem_cons_of_mem _ hq))
    have hr := h r List.mem_cons_self
    have : remw r x b ≤ 31 := by
      unfold remw
      by_cases e : b = true
      · rw [if_pos e]; omega
      · rw [if_neg e]; omega
    simp only [phi, List.length_cons]
    omega
theorem rd_rep (n : Nat) (i : Int) : rd (List.replicate n 0) i = 0 := by
  unfold rd
  rw [List.getD_eq_getElem?_getD, List.getElem?_replicate]
  split <;> rfl
theorem rdb_rep (n : Nat) (i : Int) : rdOf false (List.replicate n false) i = false := by
  unfold rdOf
  rw [List.getD_eq_getElem?_getD, List.getElem?_replicate]
  split <;> rfl
theorem map_rd {w : Int} {l : List (List Int)} {i : Nat} (hi : i < l.length) : rd_L2 (l.map (wof w)) i = wof w (rd_L2 l i) := by
  unfold rd_L2
  rw [Int.toNat_natCast, List.getD_eq_getElem?_getD, List.getD_eq_getElem?_getD, List.getElem?_map, List.getElem?_eq_getElem hi]
  rfl
theorem both_ok (w h : Int) (l : List (List Int)) {M : Nat} (hM : ∀ x ∈ l, x.length ≤ M) (hMb : M ≤ 2000000) (hl : l.length ≤ 2000000) :
    ∃ q : List Bool × Int × Bool × Bool, q.1.length ≤ 12 ∧ ∀ k, l.length + M + 20000 < k → impl_RunWorms.f k w h l = some q ∧ spec_RunWorms.f k w h l = some q := by
  cases hg : goodw w h l with
  | false =>
    refine ⟨([], 0, false, false), by simp, fun k hk => ⟨?_, ?_⟩⟩
    · unfold impl_RunWorms.f
      rw [bs (impl_wires_ok hM hMb (by omega)), hg]
      rw [if_neg (show ¬ (false = true) by decide)]
      rw [if_neg (show ¬ (false = true) by decide)]
    · unfold spec_RunWorms.f
      rw [bs (ways_ok hM hMb hl (by omega)), hg, if_neg (by decide)]
  | true =>
    have hg' := hg
    simp only [goodw, fab, Bool.and_eq_true, decide_eq_true_eq] at hg'
    obtain ⟨⟨ha, hw, hh⟩, hl12⟩ := hg'
    have hway : ∀ x ∈ l, wayv w h x = true := fun x hx => List.all_eq_true.mp ha x hx
    have e : 1 ≤ w * h ∧ w * h ≤ 25 ∧ 4 * w * h = 4 * (w * h) := by
      have hc : h = 1 ∨ h = 2 ∨ h = 3 ∨ h = 4 ∨ h = 5 := by omega
      rcases hc with e | e | e | e | e <;> rw [e] <;> omega
    obtain ⟨N, hN⟩ : ∃ N : Nat, (N : Int) = 4 * (w * h) := ⟨(4 * (w * h)).toNat, by omega⟩
    have hwr : wrap64 (wrap64 (4 * w) * h) = (N : Int) := by
      rw [w_in (n := 4 * w) (by omega) (by omega), w_in (n := 4 * w * h) (by omega) (by omega)]
      omega
    obtain ⟨L, hL⟩ : ∃ L, L = l.map (wof w) := ⟨_, rfl⟩
    have lL : L.length = l.length := by rw [hL]; simp
    have G : GoodL L N := by
      refine ⟨by omega, by omega, fun i hi => ?_⟩
      rw [hL, map_rd (by omega)]
      exact wof_good (hway _ (rdl_mem (by omega) (by omega))) hN
    have hrow : ∀ r ∈ L, r.length ≤ 30 := by
      intro r hr
      rw [hL] at hr
      obtain ⟨x, hx, rfl⟩ := List.mem_map.mp hr
      exact (wof_good (hway x hx) hN).1
    have hwf : wfAll L = true := by
      refine List.all_eq_true.mpr fun r hr => List.all_eq_true.mpr fun y hy => ?_
      rw [hL] at hr
      obtain ⟨x, hx, rfl⟩ := List.mem_map.mp hr
      obtain ⟨j, hj, rfl⟩ := List.mem_iff_getElem.mp hy
      have hb := (wof_good (hway x hx) hN).2.1 (j : Int) (by omega) (by omega)
      have er : rd (wof w x) (j : Int) = (wof w x)[j] := by
        unfold rd
        rw [Int.toNat_natCast, List.getD_eq_getElem?_getD, List.getElem?_eq_getElem hj]
        rfl
      rw [er] at hb
      rw [← w_in (n := (wof w x)[j]) (by omega) (by omega)]
      exact RowKit.wrap64_wf _
    have hphi := phi_le L (List.replicate L.length 0) (List.replicate L.length false) hrow
    obtain ⟨q, lq, hq⟩ := rounds G 380 (List.replicate L.length 0) (List.replicate L.length false) (List.replicate N false) [] 0 false (by omega)
      ⟨by simp, by simp, by simp, fun i hi => by rw [rd_rep]; omega⟩ (fun x h0 h1 => by rw [rdb_rep]; rfl) (by simp; omega)
    have ed : decw (List.replicate L.length 0) = List.replicate L.length (-1) := by
      unfold decw
      rw [List.map_replicate]
      rfl
    rw [ed] at hq
    refine ⟨(q.1, q.2.1, q.2.2, true), by rw [lq]; omega, fun k hk => ⟨?_, ?_⟩⟩
    · unfold impl_RunWorms.f
      rw [bs (impl_wires_ok hM hMb (by omega)), hg, if_pos rfl]
      dsimp only
      rw [← hL, if_pos rfl, if_pos hwf, if_pos (by omega), Int.toNat_natCast, if_pos (by omega), if_pos (by omega)]
      exact (hq k (by omega)).1
    · unfold spec_RunWorms.f
      rw [bs (ways_ok hM hMb hl (by omega)), hg, if_pos rfl]
      obtain ⟨j, rfl⟩ : ∃ j, k = j + l.length + 1 := ⟨k - l.length - 1, by omega⟩
      rw [spec_top w h l (by omega) hway l.length j 0 [] [] (by omega) (by omega) (by simp; omega) (by simp; omega) (by omega), spec_RunWorms.l0, if_neg (by omega), if_pos (by omega), Int.toNat_natCast, if_pos (by omega), hwr, if_pos (by omega), Int.toNat_natCast, if_pos (by omega)]
      have := (hq j (by omega)).2
      rw [hL, List.length_map] at this
      exact this
theorem wh_bd {w h : Int} (hw : 0 ≤ w ∧ w ≤ 6) (hh : 0 ≤ h ∧ h ≤ 6) : 0 ≤ w * h ∧ w * h ≤ 36 := by
  have : h = 0 ∨ h = 1 ∨ h = 2 ∨ h = 3 ∨ h = 4 ∨ h = 5 ∨ h = 6 := by omega
  rcases this with rfl | rfl | rfl | rfl | rfl | rfl | rfl <;> omega
theorem drawSize {b : List Int} (hb : ∀ x ∈ b, 0 ≤ x ∧ x ≤ 255) {k : Nat} (hk : 0 < k) {p : Int} (hp : 0 ≤ p) (hp2 : p ≤ 1000000) :
    ∃ w h, spec_l16Size.f k b p = some (w, h, p + 1 + 1 + 1) ∧ (0 ≤ w ∧ w ≤ 6) ∧ (0 ≤ h ∧ h ≤ 6) := by
  unfold spec_l16Size.f
  obtain ⟨q, hq, _, _⟩ := pick_ok (k := k) (n := 40) hb hp (by omega) (by omega) hk
  rw [bs hq]
  dsimp only
  by_cases e : q = 0
  · rw [if_pos e]
    obtain ⟨w, hw, hm⟩ := num_ok (k := k) (p := p + 1) (xs := [0, 6, 3]) hb (by omega) (by omega) (by simp) hk
    rw [bs hw]
    dsimp only
    obtain ⟨h, hh, hm2⟩ := num_ok (k := k) (p := p + 1 + 1) (xs := [0, 6, 2]) hb (by omega) (by omega) (by simp) hk
    rw [bs hh]
    dsimp only
    have a1 : w = 0 ∨ w = 6 ∨ w = 3 := by simpa using hm
    have a2 : h = 0 ∨ h = 6 ∨ h = 2 := by simpa using hm2
    exact ⟨w, h, rfl, by omega, by omega⟩
  · rw [if_neg e]
    obtain ⟨w, hw, hm⟩ := num_ok (k := k) (p := p + 1) (xs := [3, 2, 4, 5, 1]) hb (by omega) (by omega) (by simp) hk
    rw [bs hw]
    dsimp only
    obtain ⟨h, hh, hm2⟩ := num_ok (k := k) (p := p + 1 + 1) (xs := [3, 2, 2, 5, 1]) hb (by omega) (by omega) (by simp) hk
    rw [bs hh]
    dsimp only
    have a1 : w = 3 ∨ w = 2 ∨ w = 4 ∨ w = 5 ∨ w = 1 := by simpa using hm
    have a2 : h = 3 ∨ h = 2 ∨ h = 2 ∨ h = 5 ∨ h = 1 := by simpa using hm2
    exact ⟨w, h, rfl, by omega, by omega⟩
theorem nd_mk {w h x : Int} (hw : 1 ≤ w ∧ w ≤ 5) (hh : 1 ≤ h ∧ h ≤ 5) (hx : 0 ≤ x ∧ x ≤ w * h - 1) : nd w h x = true := by
  have hwh := wh_bd (w := w) (h := h) (by omega) (by omega)
  unfold nd
  rw [w_in (n := w * h) (by omega) (by omega), w_in (n := w * h - 1) (by omega) (by omega)]
  simp only [Bool.and_eq_true, decide_eq_true_eq]
  exact ⟨⟨hw, hh⟩, hx⟩
theorem walk_loop {b : List Int} (hb : ∀ x ∈ b, 0 ≤ x ∧ x ≤ 255) {w h : Int} (hw : 1 ≤ w ∧ w ≤ 5) (hh : 1 ≤ h ∧ h ≤ 5) (d : Nat) : ∀ (k : Nat) (at_ p : Int) (acc : List Int), d + 20 < k → 0 ≤ p → p + d ≤ 1000000 → (0 ≤ at_ ∧ at_ ≤ w * h - 1) → acc.length + d ≤ 1000 → 1 ≤ acc.length →
    ∃ out, spec_l16Walk.l0 k w h at_ acc (d : Int) b p = some (out, p + d) ∧ out.length ≤ acc.length + d ∧ 1 ≤ out.length := by
  have hwh := wh_bd (w := w) (h := h) (by omega) (by omega)
  induction d with
  | zero =>
    intro k at_ p acc hk hp hp2 ha hl h1
    obtain ⟨k, rfl⟩ : ∃ m, k = m + 1 := ⟨k - 1, by omega⟩
    simp only [spec_l16Walk.l0]
    rw [if_neg (by omega)]
    exact ⟨acc, by simp, by omega, h1⟩
  | succ d ih =>
    intro k at_ p acc hk hp hp2 ha hl h1
    obtain ⟨k, rfl⟩ : ∃ m, k = m + 1 := ⟨k - 1, by omega⟩
    simp only [spec_l16Walk.l0]
    obtain ⟨v, hv, hm⟩ := num_ok (k := k) (p := p) (xs := [1, -1, w, wrap64 (-w)]) hb hp (by omega) (by simp) (by omega)
    rw [w_in (n := -w) (by omega) (by omega)] at hm hv
    have hv2 : v = 1 ∨ v = -1 ∨ v = w ∨ v = -w := by simpa using hm
    rw [if_pos (by omega), w_in (n := -w) (by omega) (by omega), bs hv]
    dsimp only
    rw [w_in (n := at_ + v) (by omega) (by omega), s_in, w_in (n := w * h) (by omega) (by omega), w_in (n := w * h - 1) (by omega) (by omega), bs rfl, w_in (n := ((d + 1 : Nat) : Int) - 1) (by omega) (by omega), show ((d + 1 : Nat) : Int) - 1 = (d : Int) by omega, show p + ((d + 1 : Nat) : Int) = p + 1 + (d : Int) by omega]
    by_cases hin : 0 ≤ at_ + v ∧ at_ + v ≤ w * h - 1
    · rw [if_pos (decide_eq_true hin), spec_wire16 (nd_mk hw hh ha) (nd_mk hw hh hin) (by omega)]
      obtain ⟨u, hu⟩ := wr16_some w at_ (at_ + v)
      rw [bs hu]
      by_cases hu0 : u ≥ 0
      · rw [if_pos hu0, if_pos (by omega)]
        obtain ⟨out, e, e1, e2⟩ := ih k (at_ + v) (p + 1) (acc ++ [at_ + v]) (by omega) (by omega) (by omega) hin (by simp; omega) (by simp)
        exact ⟨out, e, by simp at e1; omega, e2⟩
      · rw [if_neg hu0]
        obtain ⟨out, e, e1, e2⟩ := ih k at_ (p + 1) acc (by omega) (by omega) (by omega) ha (by omega) h1
        exact ⟨out, e, by omega, e2⟩
    · rw [if_neg (by rw [decide_eq_false hin]; decide)]
      obtain ⟨out, e, e1, e2⟩ := ih k at_ (p + 1) acc (by omega) (by omega) (by omega) ha (by omega) h1
      exact ⟨out, e, by omega, e2⟩
theorem drawWalk {b : List Int} (hb : ∀ x ∈ b, 0 ≤ x ∧ x ≤ 255) {w h : Int} (hw : 1 ≤ w ∧ w ≤ 5) (hh : 1 ≤ h ∧ h ≤ 5) {k : Nat} (hk : 40 < k) {p : Int} (hp : 0 ≤ p) (hp2 : p ≤ 100000) :
    ∃ out p', spec_l16Walk.f k b p w h = some (out, p') ∧ p ≤ p' ∧ p' ≤ p + 20 ∧ out.length ≤ 10 ∧ 1 ≤ out.length := by
  have hwh := wh_bd (w := w) (h := h) (by omega) (by omega)
  have hwh1 : 1 ≤ w * h := by
    have : h = 1 ∨ h = 2 ∨ h = 3 ∨ h = 4 ∨ h = 5 := by omega
    rcases this with rfl | rfl | rfl | rfl | rfl <;> omega
  unfold spec_l16Walk.f
  rw [w_in (n := w * h) (by omega) (by omega)]
  obtain ⟨a, ha, a0, a1⟩ := pick_ok (k := k) (p := p) (n := w * h) hb hp (by omega) hwh1 (by omega)
  rw [bs ha]
  dsimp only
  obtain ⟨v, hv, hm⟩ := num_ok (k := k) (p := p + 1) (xs := [3, 5, 2, 1, 9]) hb (by omega) (by omega) (by simp) (by omega)
  rw [bs hv]
  dsimp only
  have hv2 : v = 3 ∨ v = 5 ∨ v = 2 ∨ v = 1 ∨ v = 9 := by simpa using hm
  obtain ⟨n, rfl⟩ : ∃ n : Nat, v = n := ⟨v.toNat, by omega⟩
  obtain ⟨out, e, e1, e2⟩ := walk_loop hb hw hh n k a (p + 1 + 1) [a] (by omega) (by omega) (by omega) (by omega) (by simp; omega) (by simp)
  exact ⟨out, _, e, by omega, by omega, by simp at e1; omega, e2⟩
theorem drawWay {l : List Int} (hl : ∀ x ∈ l, (Lit.int .u8 x).wf = true) {k : Nat} (hk : 40 < k) : ∃ w h way, spec_DrawWayValid.f k l = some (w, h, way) ∧ way.length ≤ 10 := by
  unfold spec_DrawWayValid.f
  obtain ⟨b, ho, hb⟩ := open_ok hl
  rw [bs ho]
  dsimp only
  obtain ⟨w, h, hs, hw, hh⟩ := drawSize hb (k := k) (by omega) (p := 0) (by omega) (by omega)
  have hwh := wh_bd hw hh
  rw [bs hs]
  dsimp only
  unfold spec_l16Fabric.f
  rw [s_in, s_in]
  by_cases h1 : 1 ≤ w ∧ w ≤ 5
  · by_cases h2 : 1 ≤ h ∧ h ≤ 5
    · rw [bs rfl, if_pos (decide_eq_true h1), bs rfl, decide_eq_true h2, bs rfl, if_pos rfl]
      obtain ⟨out, p', e, e1, e2, e3, e4⟩ := drawWalk hb h1 h2 hk (p := 0 + 1 + 1 + 1) (by omega) (by omega)
      rw [bs e]
      dsimp only
      obtain ⟨q, hq, _, _⟩ := pick_ok (k := k) (p := p') (n := 4) hb (by omega) (by omega) (by omega) (by omega)
      rw [bs hq]
      dsimp only
      by_cases hq0 : q = 0
      · rw [if_pos hq0]
        obtain ⟨i, hi, i0, i1⟩ := pick_ok (k := k) (p := p' + 1) (n := (out.length : Int)) hb (by omega) (by omega) (by omega) (by omega)
        rw [bs hi]
        dsimp only
        rw [w_in (n := w * h) (by omega) (by omega), w_in (n := w * h + 2) (by omega) (by omega)]
        obtain ⟨j, hj, j0, j1⟩ := pick_ok (k := k) (p := p' + 1 + 1) (n := w * h + 2) hb (by omega) (by omega) (by omega) (by omega)
        rw [bs hj]
        dsimp only
        rw [if_pos i0, if_pos i1]
        exact ⟨w, h, _, rfl, by rw [List.length_set]; exact e3⟩
      · rw [if_neg hq0]
        exact ⟨w, h, out, rfl, e3⟩
    · rw [bs rfl, if_pos (decide_eq_true h1), bs rfl, decide_eq_false h2, bs rfl, if_neg (by decide)]
      exact ⟨w, h, [0], rfl, by simp⟩
  · rw [bs rfl, if_neg (by rw [decide_eq_false h1]; decide), bs rfl, if_neg (by decide)]
    exact ⟨w, h, [0], rfl, by simp⟩
theorem goodw_one (w h : Int) (x : List Int) : goodw w h [x] = wayv w h x := by
  cases hv : wayv w h x with
  | false => simp [goodw, hv]
  | true =>
    obtain ⟨h1, _, h3, _⟩ := wayv_open hv
    have o := nd_open (rd_all h1 (i := 0) (by omega) (by omega))
    have hf : fab w h = true := by
      unfold fab
      rw [decide_eq_true o.1, decide_eq_true o.2.1]
      rfl
    simp [goodw, hv, hf]
theorem alone_fin (row : List Int) (a : List Int) (s : List (Int × Bool)) (st : Int) (hs : s.length ≤ 1000) {k : Nat} (hk : 5 < k) : impl_RunWorms.l1 k [row] a s true [row] (([row] : List (List Int)).length : Int) 1 [true] st false = some ([true], st, false, true) := by
  obtain ⟨k, rfl⟩ : ∃ q, k = q + 1 + 1 := ⟨k - 2, by omega⟩
  rw [impl_RunWorms.l1, if_pos (by omega), if_neg (by simp), if_pos rfl, impl_RunWorms.l0, bs (containsb_ok (l := [true]) (by simp) (by simp; omega)), if_neg (by decide)]
theorem alone_loop (row : List Int) (hl : row.length ≤ 30) (r : Nat) : ∀ (i : Nat) (s : List (Int × Bool)) (k : Nat), i + r = row.length → s.length + 2 * r ≤ 200 → r * 3 + 20 < k →
    ∃ d st sk, impl_RunWorms.l0 k [row] [(i : Int)] s [false] (i : Int) false = some (d, st, sk, true) ∧ (sk = true ∨ d = [true] ∧ st = (row.length : Int) + 1) := by
  induction r with
  | zero =>
    intro i s k hi hs hk
    obtain ⟨k, rfl⟩ : ∃ q, k = q + 1 + 1 := ⟨k - 2, by omega⟩
    have e1 := Aside0.mk (show wrap64 ((i : Int) + 1) = (i : Int) + 1 from w_in (by omega) (by omega))
    have e2 := Aside0.mk (show wrap64 ((i : Int) - 1) = (i : Int) - 1 from w_in (by omega) (by omega))
    have e3 := Aside0.mk (show wrap64 ((0 : Int) + 1) = 1 from w_in (by omega) (by omega))
    have hrd : rd [(i : Int)] 0 = (i : Int) := rfl
    have hrow : rd_L2 [row] 0 = row := rfl
    have hb : rdOf false [false] 0 = false := rfl
    refine ⟨[true], (i : Int) + 1, false, ?_, .inr ⟨rfl, by omega⟩⟩
    rw [impl_RunWorms.l0, bs (containsb_ok (l := [false]) (by simp) (by simp; omega)), if_pos (by rfl), impl_RunWorms.l1, if_pos (by omega), if_pos (by simp), if_pos (by omega), if_pos (by simp), if_pos (by simp), if_pos (by simp), hb, if_neg (by decide), hrd, hrow, if_pos (by omega), e1.out, e3.out]
    by_cases c : (i : Int) > 0
    · rw [if_pos c, e2.out, if_pos (by omega), if_pos (by omega)]
      exact alone_fin row _ _ _ (by rw [List.length_cons]; omega) (by omega)
    · rw [if_neg c]
      exact alone_fin row _ _ _ (by omega) (by omega)
  | succ r ih =>
    intro i s k hi hs hk
    obtain ⟨k, rfl⟩ : ∃ q, k = q + 1 + 1 + 1 := ⟨k - 3, by omega⟩
    have e1 := Aside0.mk (show wrap64 ((i : Int) + 1) = (i : Int) + 1 from w_in (by omega) (by omega))
    have e2 := Aside0.mk (show wrap64 ((i : Int) - 1) = (i : Int) - 1 from w_in (by omega) (by omega))
    have e3 := Aside0.mk (show wrap64 ((0 : Int) + 1) = 1 from w_in (by omega) (by omega))
    have hrd : rd [(i : Int)] 0 = (i : Int) := rfl
    have hrow : rd_L2 [row] 0 = row := rfl
    have hb : rdOf false [false] 0 = false := rfl
    have ec : ((i + 1 : Nat) : Int) = (i : Int) + 1 := by omega
    rw [impl_RunWorms.l0, bs (containsb_ok (l := [false]) (by simp) (by simp)), if_pos (by rfl), impl_RunWorms.l1, if_pos (by omega), if_pos (by simp), if_pos (by omega), if_pos (by simp), if_pos (by simp), if_pos (by simp), hb, if_neg (by decide), hrd, hrow, if_neg (by omega), if_pos (by omega), if_pos (by omega), e1.out, e3.out]
    by_cases c : mget s (rd row (i : Int)) = true
    · rw [if_pos c, impl_RunWorms.l1, if_pos (by omega), if_neg (by simp), if_neg (by decide)]
      exact ⟨[false], _, true, rfl, .inl rfl⟩
    · rw [if_neg c]
      have next : ∀ s' : List (Int × Bool), s'.length + 2 * r ≤ 200 → ∃ d st sk, impl_RunWorms.l1 (k + 1) [row] ([(i : Int)].set (0 : Int).toNat ((i : Int) + 1)) s' true [row] (([row] : List (List Int)).length : Int) 1 [false] ((i : Int) + 1) false = some (d, st, sk, true) ∧ (sk = true ∨ d = [true] ∧ st = (row.length : Int) + 1) := by
        intro s' hs'
        obtain ⟨d, st, sk, h1, h2⟩ := ih (i + 1) s' k (by omega) hs' (by omega)
        refine ⟨d, st, sk, ?_, h2⟩
        rw [ec] at h1
        rw [impl_RunWorms.l1, if_pos (by omega), if_neg (by simp), if_pos rfl]
        exact h1
      by_cases c3 : (i : Int) > 0
      · rw [if_pos c3, e2.out, if_pos (by omega), if_pos (by omega)]
        exact next _ (by rw [List.length_cons, List.length_cons]; omega)
      · rw [if_neg c3]
        exact next _ (by rw [List.length_cons]; omega)
theorem impl_one {w h : Int} {way : List Int} (hv : wayv w h way = true) {k : Nat} (hk : 200 < k) : impl_RunWorms.f k w h [way] = impl_RunWorms.l0 k [wof w way] [0] [] [false] 0 false := by
  obtain ⟨h1, h2, h3, h4⟩ := wayv_open hv
  have hN : ((4 * (w * h)).toNat : Int) = 4 * (w * h) := by
    have := nd_lt (rd_all h1 (i := 0) (by omega) (by omega))
    omega
  have hwf : wfAll [wof w way] = true := by
    refine List.all_eq_true.mpr fun r hr => List.all_eq_true.mpr fun y hy => ?_
    obtain rfl : r = wof w way := by simpa using hr
    obtain ⟨j, hj, rfl⟩ := List.mem_iff_getElem.mp hy
    have hb := (wof_good hv hN).2.1 (j : Int) (by omega) (by omega)
    have hq := nd_lt (rd_all h1 (i := 0) (by omega) (by omega))
    have er : rd (wof w way) (j : Int) = (wof w way)[j] := by
      unfold rd
      rw [Int.toNat_natCast, List.getD_eq_getElem?_getD, List.getElem?_eq_getElem hj]
      rfl
    rw [er] at hb
    rw [← w_in (n := (wof w way)[j]) (by omega) (by omega)]
    exact RowKit.wrap64_wf _
  unfold impl_RunWorms.f
  rw [bs (impl_wires_ok (M := way.length) (fun x hx => by rw [List.mem_singleton.mp hx]; omega) (by omega) (by omega)), goodw_one, hv, if_pos rfl]
  dsimp only
  rw [show [way].map (wof w) = [wof w way] from rfl, if_pos rfl, if_pos hwf, if_pos (by simp), if_pos (by simp), if_pos (by simp)]
  rfl
theorem FnAlone : laws_FnAlone.Pure := by
  intro l0 _ _ hb
  obtain ⟨k, hk⟩ : ∃ k, 20200 < k := ⟨_, Nat.lt_succ_self _⟩
  obtain ⟨w, h, way, hd0, hlen⟩ := drawWay hb (k := k) (by omega)
  obtain ⟨q, lq, hq⟩ := both_ok w h [way] (M := way.length) (fun x hx => by rw [List.mem_singleton.mp hx]; omega) (by omega) (by simp)
  have s1 := (hq k (by simp; omega)).1
  have s2 := (hq k (by simp; omega)).2
  have wv : impl_WayValid.f k w h way = some (wayv w h way) := by
    unfold impl_WayValid.f
    rw [bs (impl_fway (by omega) (by omega))]
  refine ⟨k, ?_⟩
  unfold laws_FnAlone.f
  by_cases c0 : (l0.length : Int) > 1048576
  · rw [if_pos c0]
  rw [if_neg c0, bs hd0]
  dsimp only
  rw [bs s1, bs s2, if_neg (by simp), if_pos rfl, if_neg (by simp)]
  cases hv : wayv w h way with
  | false =>
    have e : impl_RunWorms.f k w h [way] = some ([], 0, false, false) := by
      unfold impl_RunWorms.f
      rw [bs (impl_wires_ok (M := way.length) (fun x hx => by rw [List.mem_singleton.mp hx]; omega) (by omega) (by omega)), goodw_one, hv]
      rw [if_neg (show ¬ (false = true) by decide)]
      rw [if_neg (show ¬ (false = true) by decide)]
    obtain rfl : q = ([], 0, false, false) := Option.some.inj (s1.symm.trans e)
    rw [if_neg (by decide), if_pos (by decide), bs wv, hv]
    rfl
  | true =>
    obtain ⟨h1, h2, h3, h4⟩ := wayv_open hv
    have lw : (wof w way).length = way.length - 1 := by unfold wof; rw [wrs_len]
    obtain ⟨d, st, sk, e, he⟩ := alone_loop (wof w way) (by omega) (wof w way).length 0 [] k (by omega) (by simp; omega) (by omega)
    obtain rfl : q = (d, st, sk, true) := Option.some.inj (s1.symm.trans ((impl_one hv (by omega)).trans e))
    rw [if_pos rfl]
    dsimp only
    rcases he with rfl | ⟨rfl, rfl⟩
    · rw [if_pos rfl]
    · by_cases c : sk = true
      · rw [if_pos c]
      · rw [if_neg c, if_pos (by simp), if_pos (show rdOf false [true] 0 = true from rfl)]
        have e2 : ((wof w way).length : Int) + 1 = (way.length : Int) := by omega
        rw [e2]
        simp

end Go.Proofs.Ytdbokdodjekchaa.Pure
