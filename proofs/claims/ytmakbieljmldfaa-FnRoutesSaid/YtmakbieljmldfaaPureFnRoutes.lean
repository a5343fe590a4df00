/- What both sides of FnRoutes compute, in plain Lean. -/
import Derived.Test.YtmakbieljmldfaaPFnRoutesx5
import Derived.Laws.BitsLemmas
import Derived.OpenShut
namespace Go.Proofs.Ytmakbieljmldfaa.Pure
open Go.RowKit Go.Proofs.Ytmakbieljmldfaa.PFnRoutes Go.Proofs.YtmakbieljmldfaaW.PrintWords Go.Proofs.YtmakbieljmldfaaW.PrintLast

theorem w_in {n : Int} (h0 : -9223372036854775808 ≤ n) (h1 : n ≤ 9223372036854775807) : wrap64 n = n := by unfold wrap64; omega

/-- A byte list's reader never fails: what 'pick' answers. -/
theorem b_rd {b : List Int} (hb : ∀ x ∈ b, 0 ≤ x ∧ x ≤ 255) (i : Int) : 0 ≤ rd b i ∧ rd b i ≤ 255 := by
  unfold rd
  rw [List.getD_eq_getElem?_getD]
  cases h : b[i.toNat]? with
  | none => simp
  | some x => exact hb x (List.mem_of_getElem? h)

theorem xor_nn {x y : Int} (hx0 : 0 ≤ x) (hx : x < 4611686018427387904) (hy0 : 0 ≤ y) (hy : y < 4611686018427387904) : 0 ≤ Go.bits .xor .i64 x y := by
  obtain ⟨a, rfl⟩ := Int.eq_ofNat_of_zero_le hx0
  obtain ⟨b, rfl⟩ := Int.eq_ofNat_of_zero_le hy0
  have ha : a < 2 ^ 62 := by simp; omega
  have hb : b < 2 ^ 62 := by simp; omega
  have hc : a ^^^ b < 2 ^ 62 := Nat.xor_lt_two_pow ha hb
  have ha' : a % 2 ^ 64 = a := Nat.mod_eq_of_lt (by simp at ha ⊢; omega)
  have hb' : b % 2 ^ 64 = b := Nat.mod_eq_of_lt (by simp at hb ⊢; omega)
  have key : (BitVec.ofNat 64 a ^^^ BitVec.ofNat 64 b).toNat = a ^^^ b := by rw [BitVec.toNat_xor, BitVec.toNat_ofNat, BitVec.toNat_ofNat, ha', hb']
  have e : Go.bits .xor .i64 (a : Int) (b : Int) = IntKind.i64.wrap (((BitVec.ofNat 64 a ^^^ BitVec.ofNat 64 b).toNat : Nat) : Int) := by
    simp only [Go.bits, BitVec.ofInt_natCast]
    rfl
  rw [e, key, IntKind.wrap_i64]
  generalize a ^^^ b = c at hc
  simp at hc
  omega

theorem tm_bd {x n : Int} (hx : 0 ≤ x) (hn : 0 < n) : 0 ≤ Int.tmod x n ∧ Int.tmod x n < n := by
  rw [Int.tmod_eq_emod_of_nonneg hx]
  exact ⟨Int.emod_nonneg _ (by omega), Int.emod_lt_of_pos _ hn⟩

theorem pick_ok {k : Nat} {b : List Int} {p n : Int} (hb : ∀ x ∈ b, 0 ≤ x ∧ x ≤ 255) (hp0 : 0 ≤ p) (hp : p ≤ 100000000) (hn : 1 ≤ n) (hk : 0 < k) :
    ∃ v, spec_l21Rd_pick.f k b p n = some (v, p + 1) ∧ 0 ≤ v ∧ v < n := by
  obtain ⟨k, rfl⟩ : ∃ m, k = m + 1 := ⟨k - 1, by omega⟩
  have e1 : wrap64 (p + 1) = p + 1 := w_in (by omega) (by omega)
  have e2 : wrap64 (p + 1 - 1) = p := by rw [show p + 1 - 1 = p by omega]; exact w_in (by omega) (by omega)
  unfold spec_l21Rd_pick.f
  rw [if_neg (by omega), e1]
  simp only [spec_l21Rd_pick.j0, e2]
  by_cases h0 : b.length = 0
  · rw [if_pos (by simp [h0])]
    exact ⟨0, rfl, by omega, by omega⟩
  rw [if_neg (by simp; intro h; simp [h] at h0)]
  have hl : 0 < (b.length : Int) := by omega
  by_cases h1 : p < (b.length : Int)
  · rw [if_pos h1, if_pos hp0, if_neg (by omega)]
    have := b_rd hb p
    rw [w_in (n := rd b p) (by omega) (by omega)]
    exact ⟨_, rfl, (tm_bd this.1 (by omega)).1, (tm_bd this.1 (by omega)).2⟩
  rw [if_neg h1, if_neg (by omega)]
  have m1 := tm_bd (x := p) (n := b.length) hp0 hl
  have e3 : wrap64 (p * 7) = p * 7 := w_in (by omega) (by omega)
  have e4 : wrap64 (p * 7 + 3) = p * 7 + 3 := w_in (by omega) (by omega)
  have m2 := tm_bd (x := p * 7 + 3) (n := b.length) (by omega) hl
  rw [e3, e4, if_pos m1.1, if_pos m1.2, if_pos m2.1, if_pos m2.2, if_neg (by omega)]
  have r1 := b_rd hb (Int.tmod p b.length)
  have r2 := b_rd hb (Int.tmod (p * 7 + 3) b.length)
  generalize rd b (Int.tmod p b.length) = u at r1
  generalize rd b (Int.tmod (p * 7 + 3) b.length) = v at r2
  have d1 : 0 ≤ Int.tdiv p b.length ∧ Int.tdiv p b.length ≤ p := by
    rw [Int.tdiv_eq_ediv_of_nonneg hp0]
    exact ⟨Int.ediv_nonneg hp0 (by omega), Int.ediv_le_self _ hp0⟩
  generalize Int.tdiv p b.length = d at d1
  have e5 : wrap64 (wrap64 (wrap64 (wrap64 (wrap64 u * 131) + wrap64 (wrap64 v * 1117)) + wrap64 (p * 29)) + wrap64 (wrap64 d * 53)) = u * 131 + v * 1117 + p * 29 + d * 53 := by
    rw [w_in (n := u) (by omega) (by omega), w_in (n := v) (by omega) (by omega), w_in (n := d) (by omega) (by omega), w_in (n := u * 131) (by omega) (by omega), w_in (n := v * 1117) (by omega) (by omega), w_in (n := p * 29) (by omega) (by omega), w_in (n := d * 53) (by omega) (by omega), w_in (n := u * 131 + v * 1117) (by omega) (by omega), w_in (n := u * 131 + v * 1117 + p * 29) (by omega) (by omega), w_in (by omega) (by omega)]
  rw [e5]
  have hx0 : 0 ≤ u * 131 + v * 1117 + p * 29 + d * 53 := by omega
  have hx1 : u * 131 + v * 1117 + p * 29 + d * 53 < 4611686018427387904 := by omega
  generalize u * 131 + v * 1117 + p * 29 + d * 53 = x at hx0 hx1
  have d2 : 0 ≤ Int.tdiv x 64 ∧ Int.tdiv x 64 < 4611686018427387904 := by
    rw [Int.tdiv_eq_ediv_of_nonneg hx0]
    omega
  rw [w_in (n := Int.tdiv x 64) (by omega) (by omega)]
  have hz := xor_nn hx0 hx1 d2.1 d2.2
  exact ⟨_, rfl, (tm_bd hz (by omega)).1, (tm_bd hz (by omega)).2⟩

theorem num_ok {k : Nat} {b : List Int} {p : Int} {xs : List Int} (hb : ∀ x ∈ b, 0 ≤ x ∧ x ≤ 255) (hp0 : 0 ≤ p) (hp : p ≤ 100000000) (hn : 1 ≤ xs.length) (hk : 0 < k) :
    ∃ v, spec_l21Rd_num.f k b p xs = some (v, p + 1) ∧ v ∈ xs := by
  obtain ⟨i, hi, h0, h1⟩ := pick_ok (n := (xs.length : Int)) hb hp0 hp (by omega) hk
  refine ⟨rd xs i, ?_, ?_⟩
  · unfold spec_l21Rd_num.f
    rw [hi]
    simp only [Option.bind_some]
    rw [if_pos h0, if_pos h1]
  · unfold rd
    rw [List.getD_eq_getElem?_getD, List.getElem?_eq_getElem (by omega)]
    exact List.getElem_mem _

theorem open_ok {l : List Int} (hl : ∀ x ∈ l, (Lit.int .u8 x).wf = true) : ∃ b, spec_l21Open.f l = some (b, 0) ∧ ∀ x ∈ b, 0 ≤ x ∧ x ≤ 255 := by
  have hb : ∀ x ∈ l, 0 ≤ x ∧ x ≤ 255 := fun x hx => bounds_u8 (hl x hx)
  unfold spec_l21Open.f
  by_cases h : (l.length : Int) > 2000
  · rw [if_pos h, if_pos (by omega)]
    exact ⟨_, rfl, fun x hx => hb x (List.mem_of_mem_take hx)⟩
  · rw [if_neg h]
    exact ⟨_, rfl, hb⟩

theorem rd_at {l : List Int} {i : Int} (h0 : 0 ≤ i) (h : i.toNat < l.length) : l.drop i.toNat = rd l i :: l.drop (i + 1).toNat := by
  rw [List.drop_eq_getElem_cons h, show (i + 1).toNat = i.toNat + 1 by omega]
  unfold rd
  rw [List.getD_eq_getElem?_getD, List.getElem?_eq_getElem h]
  rfl
theorem rd_mem {l : List Int} {i : Int} (h0 : 0 ≤ i) (h : i < l.length) : rd l i ∈ l := by
  unfold rd
  rw [List.getD_eq_getElem?_getD, List.getElem?_eq_getElem (by omega)]
  exact List.getElem_mem _

theorem s_in (a b c : Int) : spec_l1In.f a b c = some (decide (b ≤ a ∧ a ≤ c)) := by
  unfold spec_l1In.f
  by_cases h : b ≤ a <;> simp [h]
theorem i_in (a b c : Int) : impl_within.f a b c = some (decide (b ≤ a ∧ a ≤ c)) := by
  unfold impl_within.f
  by_cases h : b ≤ a <;> simp [h]
def nodes (w h a b : Int) : Bool := decide (1 ≤ w ∧ w ≤ 5) && decide (1 ≤ h ∧ h ≤ 5) && decide (0 ≤ a ∧ a ≤ wrap64 (wrap64 (w * h) - 1)) && decide (0 ≤ b ∧ b ≤ wrap64 (wrap64 (w * h) - 1))
theorem spec_nodes (w h a b : Int) : spec_l16Nodes.f w h a b = some (nodes w h a b) := by
  unfold spec_l16Nodes.f spec_l16Fabric.f nodes
  simp only [s_in, Option.bind_some]
  generalize decide (1 ≤ w ∧ w ≤ 5) = x
  generalize decide (1 ≤ h ∧ h ≤ 5) = y
  generalize decide (0 ≤ a ∧ a ≤ wrap64 (wrap64 (w * h) - 1)) = z
  generalize decide (0 ≤ b ∧ b ≤ wrap64 (wrap64 (w * h) - 1)) = u
  cases x <;> cases y <;> cases z <;> cases u <;> rfl
def nd (w h x : Int) : Bool := decide (1 ≤ w ∧ w ≤ 5) && decide (1 ≤ h ∧ h ≤ 5) && decide (0 ≤ x ∧ x ≤ wrap64 (wrap64 (w * h) - 1))
theorem nd_open {w h x : Int} (k : nd w h x = true) : (1 ≤ w ∧ w ≤ 5) ∧ (1 ≤ h ∧ h ≤ 5) ∧ (0 ≤ x ∧ x ≤ wrap64 (wrap64 (w * h) - 1)) := by
  simp only [nd, Bool.and_eq_true, decide_eq_true_eq] at k
  exact ⟨k.1.1, k.1.2, k.2⟩
theorem impl_nd (w h x : Int) : impl_fabric_node.f w h x = some (nd w h x) := by
  unfold impl_fabric_node.f impl_fabric_valid.f nd
  simp only [i_in, Option.bind_some]
  generalize decide (1 ≤ w ∧ w ≤ 5) = a
  generalize decide (1 ≤ h ∧ h ≤ 5) = b
  generalize decide (0 ≤ x ∧ x ≤ wrap64 (wrap64 (w * h) - 1)) = c
  cases a <;> cases b <;> cases c <;> rfl
def beqO (x y : Option (List Int)) : Bool := match x, y with
  | some a, some b => a == b
  | _, _ => false
theorem beqO_eq {x y : Option (List Int)} (h : beqO x y = true) : ∃ l, x = some l ∧ y = some l := by
  cases x with
  | none => simp [beqO] at h
  | some a =>
    cases y with
    | none => simp [beqO] at h
    | some b =>
      have e : a = b := by simpa [beqO] using h
      exact ⟨a, rfl, by rw [e]⟩
/-- A check of all fabrics and nodes. -/
def allc (c : Nat → Nat → Nat → Nat → Bool) : Bool := (List.range 5).all fun w => (List.range 5).all fun h => (List.range ((w + 1) * (h + 1))).all fun a => (List.range ((w + 1) * (h + 1))).all fun b => c (w + 1) (h + 1) a b
theorem all_get {c : Nat → Nat → Nat → Nat → Bool} (hall : allc c = true) {W H A B : Nat} (hw : 1 ≤ W ∧ W ≤ 5) (hh : 1 ≤ H ∧ H ≤ 5) (ha : A < W * H) (hb : B < W * H) : c W H A B = true := by
  obtain ⟨w, rfl⟩ : ∃ w, W = w + 1 := ⟨W - 1, by omega⟩
  obtain ⟨h, rfl⟩ : ∃ h, H = h + 1 := ⟨H - 1, by omega⟩
  unfold allc at hall
  have h1 := List.all_eq_true.mp hall w (List.mem_range.mpr (by omega))
  have h2 := List.all_eq_true.mp h1 h (List.mem_range.mpr (by omega))
  have h3 := List.all_eq_true.mp h2 A (List.mem_range.mpr ha)
  exact List.all_eq_true.mp h3 B (List.mem_range.mpr hb)
theorem to_fin {w h a b : Int} (ha : nd w h a = true) (hb : nd w h b = true) : ∃ W H A B : Nat, w = W ∧ h = H ∧ a = A ∧ b = B ∧ (1 ≤ W ∧ W ≤ 5) ∧ (1 ≤ H ∧ H ≤ 5) ∧ A < W * H ∧ B < W * H := by
  have oa := nd_open ha
  have ob := nd_open hb
  obtain ⟨W, rfl⟩ : ∃ W : Nat, w = W := ⟨w.toNat, by omega⟩
  obtain ⟨H, rfl⟩ : ∃ H : Nat, h = H := ⟨h.toNat, by omega⟩
  obtain ⟨A, rfl⟩ : ∃ A : Nat, a = A := ⟨a.toNat, by omega⟩
  obtain ⟨B, rfl⟩ : ∃ B : Nat, b = B := ⟨b.toNat, by omega⟩
  have e : ((W * H : Nat) : Int) = (W : Int) * (H : Int) := by simp
  have hb2 : (W : Int) * (H : Int) ≤ 36 ∧ 0 ≤ (W : Int) * (H : Int) := by
    have : H = 1 ∨ H = 2 ∨ H = 3 ∨ H = 4 ∨ H = 5 := by omega
    rcases this with rfl | rfl | rfl | rfl | rfl <;> omega
  have h1 := oa.2.2.2
  have h2 := ob.2.2.2
  rw [← e] at hb2
  rw [← e, w_in (n := ((W * H : Nat) : Int)) (by omega) (by omega), w_in (n := ((W * H : Nat) : Int) - 1) (by omega) (by omega)] at h1 h2
  exact ⟨W, H, A, B, rfl, rfl, rfl, rfl, by omega, by omega, by omega, by omega⟩
theorem nodes_nd2 (w h a b : Int) : nodes w h a b = (nd w h a && nd w h b) := by
  unfold nodes nd
  generalize decide (1 ≤ w ∧ w ≤ 5) = x
  generalize decide (1 ≤ h ∧ h ≤ 5) = y
  generalize decide (0 ≤ a ∧ a ≤ wrap64 (wrap64 (w * h) - 1)) = z
  generalize decide (0 ≤ b ∧ b ≤ wrap64 (wrap64 (w * h) - 1)) = u
  cases x <;> cases y <;> cases z <;> cases u <;> rfl
theorem route_bad {w h a b : Int} (hn : ¬ (nd w h a = true ∧ nd w h b = true)) (c : Bool) : impl_fabric_route.f w h a b c = some [] := by
  unfold impl_fabric_route.f
  rw [impl_nd, impl_nd]
  simp only [Option.bind_some]
  by_cases ha : nd w h a = true
  · rw [if_pos ha]
    by_cases hb : nd w h b = true
    · exact absurd ⟨ha, hb⟩ hn
    · rw [if_neg hb]
  · rw [if_neg ha]
theorem nodes_bad {w h a b : Int} (hn : ¬ (nd w h a = true ∧ nd w h b = true)) : nodes w h a b = false := by
  rw [nodes_nd2]
  cases ha : nd w h a
  · rfl
  · cases hb : nd w h b
    · rfl
    · exact absurd ⟨ha, hb⟩ hn
theorem bs {α β : Type} {x : Option α} {a : α} {f : α → Option β} (h : x = some a) : x.bind f = f a := by rw [h]; rfl
theorem wh_bd {w h : Int} (hw : 0 ≤ w ∧ w ≤ 6) (hh : 0 ≤ h ∧ h ≤ 6) : 0 ≤ w * h ∧ w * h ≤ 36 := by
  have : h = 0 ∨ h = 1 ∨ h = 2 ∨ h = 3 ∨ h = 4 ∨ h = 5 ∨ h = 6 := by omega
  rcases this with rfl | rfl | rfl | rfl | rfl | rfl | rfl <;> omega
theorem drawSize {b : List Int} (hb : ∀ x ∈ b, 0 ≤ x ∧ x ≤ 255) {k : Nat} (hk : 0 < k) {p : Int} (hp : 0 ≤ p) (hp2 : p ≤ 1000000) :
    ∃ w h, spec_l16Size.f k b p = some (w, h, p + 1 + 1 + 1) ∧ (0 ≤ w ∧ w ≤ 6) ∧ (0 ≤ h ∧ h ≤ 6) := by
  unfold spec_l16Size.f
  obtain ⟨q, hq, _, _⟩ := pick_ok (k := k) (n := 40) hb hp (by omega) (by omega) hk
  rw [bs hq]
  dsimp only
  by_cases e : q = 0
  · rw [if_pos e]
    obtain ⟨w, hw, hm⟩ := num_ok (k := k) (p := p + 1) (xs := [0, 6, 3]) hb (by omega) (by omega) (by simp) hk
    rw [bs hw]
    dsimp only
    obtain ⟨h, hh, hm2⟩ := num_ok (k := k) (p := p + 1 + 1) (xs := [0, 6, 2]) hb (by omega) (by omega) (by simp) hk
    rw [bs hh]
    dsimp only
    have a1 : w = 0 ∨ w = 6 ∨ w = 3 := by simpa using hm
    have a2 : h = 0 ∨ h = 6 ∨ h = 2 := by simpa using hm2
    exact ⟨w, h, rfl, by omega, by omega⟩
  · rw [if_neg e]
    obtain ⟨w, hw, hm⟩ := num_ok (k := k) (p := p + 1) (xs := [3, 2, 4, 5, 1]) hb (by omega) (by omega) (by simp) hk
    rw [bs hw]
    dsimp only
    obtain ⟨h, hh, hm2⟩ := num_ok (k := k) (p := p + 1 + 1) (xs := [3, 2, 2, 5, 1]) hb (by omega) (by omega) (by simp) hk
    rw [bs hh]
    dsimp only
    have a1 : w = 3 ∨ w = 2 ∨ w = 4 ∨ w = 5 ∨ w = 1 := by simpa using hm
    have a2 : h = 3 ∨ h = 2 ∨ h = 2 ∨ h = 5 ∨ h = 1 := by simpa using hm2
    exact ⟨w, h, rfl, by omega, by omega⟩
theorem drawTwo {l : List Int} (hl : ∀ x ∈ l, (Lit.int .u8 x).wf = true) {k : Nat} (hk : 0 < k) : ∃ w h a b, spec_l16Two.f k l = some (w, h, a, b) ∧ (0 ≤ w ∧ w ≤ 6) ∧ (0 ≤ h ∧ h ≤ 6) ∧ (-2 ≤ a ∧ a ≤ 40) ∧ (0 ≤ b ∧ b ≤ 40) := by
  unfold spec_l16Two.f
  obtain ⟨b, ho, hb⟩ := open_ok hl
  rw [bs ho]
  dsimp only
  obtain ⟨w, h, hs, hw, hh⟩ := drawSize hb hk (p := 0) (by omega) (by omega)
  have hwh := wh_bd hw hh
  rw [bs hs]
  dsimp only
  rw [w_in (n := w * h) (by omega) (by omega), w_in (n := w * h + 2) (by omega) (by omega), w_in (n := w * h + 1) (by omega) (by omega)]
  obtain ⟨i, hi, i0, i1⟩ := pick_ok (k := k) (p := 0 + 1 + 1 + 1) (n := w * h + 2) hb (by omega) (by omega) (by omega) hk
  rw [bs hi]
  dsimp only
  obtain ⟨j, hj, j0, j1⟩ := pick_ok (k := k) (p := 0 + 1 + 1 + 1 + 1) (n := 9) hb (by omega) (by omega) (by omega) hk
  rw [bs hj]
  dsimp only
  obtain ⟨m, hm, m0, m1⟩ := pick_ok (k := k) (p := 0 + 1 + 1 + 1 + 1 + 1) (n := w * h + 1) hb (by omega) (by omega) (by omega) hk
  rw [bs hm]
  dsimp only
  have t : 0 ≤ Int.tdiv j 8 ∧ Int.tdiv j 8 ≤ 1 := by rw [Int.tdiv_eq_ediv_of_nonneg j0]; omega
  rw [w_in (n := Int.tdiv j 8) (by omega) (by omega), w_in (n := i - Int.tdiv j 8) (by omega) (by omega)]
  exact ⟨w, h, i - Int.tdiv j 8, m, rfl, hw, hh, by omega, by omega⟩
theorem wn_loop (l : List Int) (hl : l.length ≤ 9223372036854775806) (d : Nat) : ∀ (k : Nat) (i : Int), 0 ≤ i → i + d = l.length → d < k → laws_wnInts.l0 k l l (l.length : Int) i = some true := by
  induction d with
  | zero =>
    intro k i h0 h1 hk
    obtain ⟨k, rfl⟩ : ∃ m, k = m + 1 := ⟨k - 1, by omega⟩
    simp only [laws_wnInts.l0]
    rw [if_neg (by omega)]
  | succ d ih =>
    intro k i h0 h1 hk
    obtain ⟨k, rfl⟩ : ∃ m, k = m + 1 := ⟨k - 1, by omega⟩
    simp only [laws_wnInts.l0]
    rw [if_pos (by omega), if_pos h0, if_pos (by omega), if_pos (by omega), if_pos trivial, w_in (n := i + 1) (by omega) (by omega)]
    exact ih k (i + 1) (by omega) (by omega) (by omega)
theorem wn_ok {l : List Int} (hl : l.length ≤ 9223372036854775806) {k : Nat} (hk : l.length < k) : laws_wnInts.f k l l = some true := by
  unfold laws_wnInts.f
  rw [if_pos rfl]
  exact wn_loop l hl l.length k 0 (by omega) (by omega) hk
def chk (W H A B : Nat) : Bool := beqO (spec_RouteXY.f 200 W H A B) (impl_RouteXY.f W H A B) && beqO (spec_RouteYX.f 200 W H A B) (impl_RouteYX.f W H A B) && (match impl_RouteXY.f W H A B, impl_RouteYX.f W H A B with
  | some p, some q => decide (p.length ≤ 100) && decide (q.length ≤ 100) && decide (0 < p.length) && decide (laws_FnRoutes.j0 200 W H A B p q false = some true)
  | _, _ => false)
theorem chk_all : allc chk = true := by decide +kernel
theorem both {w h a b : Int} (hn : nd w h a = true ∧ nd w h b = true) : ∃ p q, spec_RouteXY.f 200 w h a b = some p ∧ impl_RouteXY.f w h a b = some p ∧ spec_RouteYX.f 200 w h a b = some q ∧ impl_RouteYX.f w h a b = some q ∧ p.length ≤ 100 ∧ q.length ≤ 100 ∧ 0 < p.length ∧ laws_FnRoutes.j0 200 w h a b p q false = some true := by
  obtain ⟨W, H, A, B, rfl, rfl, rfl, rfl, hW, hH, hA, hB⟩ := to_fin hn.1 hn.2
  have hc := all_get chk_all hW hH hA hB
  unfold chk at hc
  simp only [Bool.and_eq_true] at hc
  obtain ⟨p, e1, e2⟩ := beqO_eq hc.1.1
  obtain ⟨q, e3, e4⟩ := beqO_eq hc.1.2
  have h2 := hc.2
  rw [e2, e4] at h2
  simp only [Bool.and_eq_true, decide_eq_true_eq] at h2
  exact ⟨p, q, e1, e2, e3, e4, h2.1.1.1, h2.1.1.2, h2.1.2, h2.2⟩
theorem sbad {w h a b : Int} (hn : ¬ (nd w h a = true ∧ nd w h b = true)) (k : Nat) : spec_RouteXY.f k w h a b = some [] ∧ spec_RouteYX.f k w h a b = some [] ∧ impl_RouteXY.f w h a b = some [] ∧ impl_RouteYX.f w h a b = some [] := by
  refine ⟨?_, ?_, ?_, ?_⟩
  · unfold spec_RouteXY.f
    rw [spec_nodes, nodes_bad hn]
    rfl
  · unfold spec_RouteYX.f
    rw [spec_nodes, nodes_bad hn]
    rfl
  · unfold impl_RouteXY.f
    rw [route_bad hn]
    rfl
  · unfold impl_RouteYX.f
    rw [route_bad hn]
    rfl
theorem FnRoutes : laws_FnRoutes.Pure := by
  intro l _ _ hl
  refine ⟨200, ?_⟩
  unfold laws_FnRoutes.f
  by_cases hlen : (l.length : Int) > 1048576
  · rw [if_pos hlen]
  rw [if_neg hlen]
  obtain ⟨w, h, a, b, e, _, _, _, _⟩ := drawTwo hl (k := 200) (by omega)
  unfold spec_DrawRouteXY.f
  rw [bs e]
  dsimp only [Option.bind_some]
  by_cases hn : nd w h a = true ∧ nd w h b = true
  · obtain ⟨p, q, e1, e2, e3, e4, h1, h2, h3, h4⟩ := both hn
    have e5 : laws_wnInts.f 200 p p = some true := wn_ok (by omega) (by omega)
    have e6 : laws_wnInts.f 200 q q = some true := wn_ok (by omega) (by omega)
    rw [bs e2, bs e4, bs e1, bs e5, if_pos rfl, bs e3, bs e6, if_pos rfl]
    have hne : ((p.length : Int) == 0) = false := by simp; intro h; rw [h] at h3; simp at h3
    rw [hne]
    exact h4
  · obtain ⟨e1, e3, e2, e4⟩ := sbad hn 200
    obtain ⟨f1, f3, _, _⟩ := sbad hn 199
    have e5 : laws_wnInts.f 200 [] [] = some true := wn_ok (by simp) (by simp)
    have e6 : laws_wnInts.f 199 [] [] = some true := wn_ok (by simp) (by simp)
    rw [bs e2, bs e4, bs e1, bs e5, if_pos rfl, bs e3, bs e5, if_pos rfl]
    show laws_FnRoutes.j0 (199 + 1) w h a b [] [] true = some true
    simp only [laws_FnRoutes.j0]
    rw [if_pos trivial, bs f1, bs e6, if_pos rfl, bs f3, bs e6, if_pos rfl]
    rfl

end Go.Proofs.Ytmakbieljmldfaa.Pure
