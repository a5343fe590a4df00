/- What both sides of FnExactHasRound compute, in plain Lean. -/
import Derived.Test.YtdbokdodjekchaaPFnExactHasRoundx12
import Derived.Laws.BitsLemmas
import Derived.OpenShut
namespace Go.Proofs.Ytdbokdodjekchaa.Pure
open Go.RowKit Go.Proofs.Ytdbokdodjekchaa.PFnExactHasRound Go.Proofs.YtdbokdodjekchaaW.PrintWords Go.Proofs.YtdbokdodjekchaaW.PrintLast

theorem w_in {n : Int} (h0 : -9223372036854775808 ≤ n) (h1 : n ≤ 9223372036854775807) : wrap64 n = n := by unfold wrap64; omega

theorem bs {α β : Type} {x : Option α} {a : α} {f : α → Option β} (h : x = some a) : x.bind f = f a := by rw [h]; rfl
theorem allO_total {α : Type} {p : α → Option Bool} {q : α → Bool} : ∀ (l : List α), (∀ x ∈ l, p x = some (q x)) → allO p l = some (l.all q)
  | [], _ => rfl
  | x :: xs, h => by
    have ih := allO_total xs (fun y hy => h y (List.mem_cons_of_mem _ hy))
    simp only [allO, h x (List.mem_cons_self), Option.bind_some, List.all_cons]
    cases q x
    · simp
    · simpa using ih

theorem rd_at {l : List Int} {i : Int} (h0 : 0 ≤ i) (h : i.toNat < l.length) : l.drop i.toNat = rd l i :: l.drop (i + 1).toNat := by
  rw [List.drop_eq_getElem_cons h, show (i + 1).toNat = i.toNat + 1 by omega]
  unfold rd
  rw [List.getD_eq_getElem?_getD, List.getElem?_eq_getElem h]
  rfl
theorem rd_mem {l : List Int} {i : Int} (h0 : 0 ≤ i) (h : i < l.length) : rd l i ∈ l := by
  unfold rd
  rw [List.getD_eq_getElem?_getD, List.getElem?_eq_getElem (by omega)]
  exact List.getElem_mem _

theorem s_in (a b c : Int) : spec_l1In.f a b c = some (decide (b ≤ a ∧ a ≤ c)) := by
  unfold spec_l1In.f
  by_cases h : b ≤ a <;> simp [h]
theorem i_in (a b c : Int) : impl_within.f a b c = some (decide (b ≤ a ∧ a ≤ c)) := by
  unfold impl_within.f
  by_cases h : b ≤ a <;> simp [h]
theorem toInt_loop (l : List Int) (hl : l.length ≤ 9223372036854775806) (d : Nat) : ∀ (k : Nat) (i : Int) (x : List Int), 0 ≤ i → i + d = l.length → d < k → x.length = l.length → x.take i.toNat = l.take i.toNat →
    laws_toIntS.l0 k l x i = some l := by
  induction d with
  | zero =>
    intro k i x h0 h1 hk hx ht
    obtain ⟨k, rfl⟩ : ∃ m, k = m + 1 := ⟨k - 1, by omega⟩
    simp only [laws_toIntS.l0]
    rw [if_neg (by omega)]
    rw [List.take_of_length_le (by omega), List.take_of_length_le (by omega)] at ht
    rw [ht]
  | succ d ih =>
    intro k i x h0 h1 hk hx ht
    obtain ⟨k, rfl⟩ : ∃ m, k = m + 1 := ⟨k - 1, by omega⟩
    simp only [laws_toIntS.l0]
    rw [if_pos (by omega), if_pos h0, if_pos (by omega), w_in (by omega) (by omega)]
    refine ih k (i + 1) _ (by omega) (by omega) (by omega) (by simpa using hx) ?_
    have e : (i + 1).toNat = i.toNat + 1 := by omega
    have hi : i.toNat < l.length := by omega
    rw [e, List.take_succ_eq_append_getElem (by simpa [hx] using hi), List.take_succ_eq_append_getElem hi, List.getElem_set_self, List.take_set_of_le (Nat.le_refl _), ht]
    congr 2
    unfold rd
    rw [List.getD_eq_getElem?_getD, List.getElem?_eq_getElem hi]
    rfl
theorem toInt_ok {l : List Int} (hl : l.length ≤ 35184372088832) {k : Nat} (hk : l.length < k) : laws_toIntS.f k l = some l := by
  unfold laws_toIntS.f
  rw [if_pos (by omega), if_pos (by omega)]
  exact toInt_loop l (by omega) l.length k 0 _ (by omega) (by omega) hk (by simp) (by simp)

theorem eqInt_loop (l : List Int) (hl : l.length ≤ 9223372036854775806) (d : Nat) : ∀ (k : Nat) (i : Int), 0 ≤ i → i + d = l.length → d < k → laws_eqIntS.l0 k l l i = some true := by
  induction d with
  | zero =>
    intro k i h0 h1 hk
    obtain ⟨k, rfl⟩ : ∃ m, k = m + 1 := ⟨k - 1, by omega⟩
    simp only [laws_eqIntS.l0]
    rw [if_neg (by omega)]
  | succ d ih =>
    intro k i h0 h1 hk
    obtain ⟨k, rfl⟩ : ∃ m, k = m + 1 := ⟨k - 1, by omega⟩
    simp only [laws_eqIntS.l0]
    rw [if_pos (by omega), if_pos h0, if_pos (by omega), if_pos trivial, w_in (by omega) (by omega)]
    exact ih k (i + 1) (by omega) (by omega) (by omega)
theorem eqInt_ok {l : List Int} (hl : l.length ≤ 35184372088832) {k : Nat} (hk : l.length < k) : laws_eqIntS.f k l l = some true := by
  unfold laws_eqIntS.f
  rw [if_pos rfl]
  exact eqInt_loop l (by omega) l.length k 0 (by omega) (by omega) hk

theorem wire_l0 (a d0 d1 : Int) : impl_fabric_wire.l0 5 a d0 d1 0 = if d0 = 1 ∧ d1 = 0 then some (wrap64 (wrap64 (4 * a) + 0)) else if d0 = -1 ∧ d1 = 0 then some (wrap64 (wrap64 (4 * a) + 1)) else if d0 = 0 ∧ d1 = 1 then some (wrap64 (wrap64 (4 * a) + 2)) else if d0 = 0 ∧ d1 = -1 then some (wrap64 (wrap64 (4 * a) + 3)) else some (-1) := by
  rfl
def nodes (w h a b : Int) : Bool := decide (1 ≤ w ∧ w ≤ 5) && decide (1 ≤ h ∧ h ≤ 5) && decide (0 ≤ a ∧ a ≤ wrap64 (wrap64 (w * h) - 1)) && decide (0 ≤ b ∧ b ≤ wrap64 (wrap64 (w * h) - 1))
theorem spec_nodes (w h a b : Int) : spec_l16Nodes.f w h a b = some (nodes w h a b) := by
  unfold spec_l16Nodes.f spec_l16Fabric.f nodes
  simp only [s_in, Option.bind_some]
  generalize decide (1 ≤ w ∧ w ≤ 5) = x
  generalize decide (1 ≤ h ∧ h ≤ 5) = y
  generalize decide (0 ≤ a ∧ a ≤ wrap64 (wrap64 (w * h) - 1)) = z
  generalize decide (0 ≤ b ∧ b ≤ wrap64 (wrap64 (w * h) - 1)) = u
  cases x <;> cases y <;> cases z <;> cases u <;> rfl
theorem small {w h n : Int} (h1 : 1 ≤ w ∧ w ≤ 5) (h2 : 1 ≤ h ∧ h ≤ 5) (h3 : 0 ≤ n ∧ n ≤ wrap64 (wrap64 (w * h) - 1)) : 0 ≤ n ∧ n ≤ 24 := by
  have e : 0 ≤ w * h ∧ w * h ≤ 25 := by
    have hh : h = 1 ∨ h = 2 ∨ h = 3 ∨ h = 4 ∨ h = 5 := by omega
    rcases hh with rfl | rfl | rfl | rfl | rfl <;> omega
  rw [w_in (n := w * h) (by omega) (by omega), w_in (n := w * h - 1) (by omega) (by omega)] at h3
  omega
theorem tm {n w : Int} (h0 : 0 ≤ n ∧ n ≤ 24) (hw : 1 ≤ w ∧ w ≤ 5) : (0 ≤ Int.tmod n w ∧ Int.tmod n w ≤ 4) ∧ (0 ≤ Int.tdiv n w ∧ Int.tdiv n w ≤ 24) := by
  rw [Int.tmod_eq_emod_of_nonneg h0.1, Int.tdiv_eq_ediv_of_nonneg h0.1]
  have a := Int.emod_nonneg n (show w ≠ 0 by omega)
  have b := Int.emod_lt_of_pos n (show 0 < w by omega)
  have c := Int.ediv_nonneg h0.1 (show 0 ≤ w by omega)
  have d := Int.ediv_le_self w h0.1
  exact ⟨⟨a, by omega⟩, ⟨c, by omega⟩⟩
theorem wires (a ax ay bx by_ : Int) (hax : 0 ≤ ax ∧ ax ≤ 4) (hay : 0 ≤ ay ∧ ay ≤ 24) (hbx : 0 ≤ bx ∧ bx ≤ 4) (hby : 0 ≤ by_ ∧ by_ ≤ 24) (ha : 0 ≤ a ∧ a ≤ 24) (k : Nat) :
    (if ay = by_ then spec_l16Wire.j0 (k + 3) a ax ay bx by_ (bx == wrap64 (ax + 1)) else spec_l16Wire.j0 (k + 3) a ax ay bx by_ false) = impl_fabric_wire.l0 5 a (wrap64 (bx - ax)) (wrap64 (by_ - ay)) 0 := by
  rw [wire_l0, w_in (n := bx - ax) (by omega) (by omega), w_in (n := by_ - ay) (by omega) (by omega), w_in (n := ax + 1) (by omega) (by omega)]
  simp only [spec_l16Wire.j0, spec_l16Wire.j1, spec_l16Wire.j2]
  rw [w_in (n := 4 * a) (by omega) (by omega), w_in (n := 4 * a + 0) (by omega) (by omega), w_in (n := ax - 1) (by omega) (by omega), w_in (n := ay + 1) (by omega) (by omega), w_in (n := ay - 1) (by omega) (by omega), Int.add_zero]
  by_cases e1 : ay = by_
  · by_cases e2 : bx = ax + 1
    · have q : (bx == ax + 1) = true := beq_iff_eq.mpr e2
      rw [if_pos e1, if_pos q, if_pos (show (bx - ax = 1 ∧ by_ - ay = 0) by omega)]
    · have q : ¬ ((bx == ax + 1) = true) := by simpa using e2
      rw [if_pos e1, if_neg q, if_pos e1, if_neg (show ¬ (bx - ax = 1 ∧ by_ - ay = 0) by omega)]
      by_cases e3 : bx = ax - 1
      · have q : (bx == ax - 1) = true := beq_iff_eq.mpr e3
        rw [if_pos q, if_pos (show (bx - ax = -1 ∧ by_ - ay = 0) by omega)]
      · have q : ¬ ((bx == ax - 1) = true) := by simpa using e3
        rw [if_neg q, if_neg (show ¬ (bx - ax = -1 ∧ by_ - ay = 0) by omega), if_neg (show ¬ (bx - ax = 0 ∧ by_ - ay = 1) by omega), if_neg (show ¬ (bx - ax = 0 ∧ by_ - ay = -1) by omega)]
        by_cases e4 : ax = bx
        · have q : ¬ ((by_ == ay + 1) = true) := by simp; omega
          rw [if_pos e4, if_neg q, if_pos e4, if_neg (show ¬ by_ = ay - 1 by omega)]
        · rw [if_neg e4, if_neg (show ¬ (false = true) by decide), if_neg e4]
  · rw [if_neg e1, if_neg (show ¬ (false = true) by decide), if_neg e1, if_neg (show ¬ (false = true) by decide), if_neg (show ¬ (bx - ax = 1 ∧ by_ - ay = 0) by omega), if_neg (show ¬ (bx - ax = -1 ∧ by_ - ay = 0) by omega)]
    by_cases e4 : ax = bx
    · rw [if_pos e4]
      by_cases e5 : by_ = ay + 1
      · have q : (by_ == ay + 1) = true := beq_iff_eq.mpr e5
        rw [if_pos q, if_pos (show (bx - ax = 0 ∧ by_ - ay = 1) by omega)]
      · have q : ¬ ((by_ == ay + 1) = true) := by simpa using e5
        rw [if_neg q, if_pos e4, if_neg (show ¬ (bx - ax = 0 ∧ by_ - ay = 1) by omega)]
        by_cases e6 : by_ = ay - 1
        · rw [if_pos e6, if_pos (show (bx - ax = 0 ∧ by_ - ay = -1) by omega)]
        · rw [if_neg e6, if_neg (show ¬ (bx - ax = 0 ∧ by_ - ay = -1) by omega)]
    · rw [if_neg e4, if_neg (show ¬ (false = true) by decide), if_neg e4, if_neg (show ¬ (bx - ax = 0 ∧ by_ - ay = 1) by omega), if_neg (show ¬ (bx - ax = 0 ∧ by_ - ay = -1) by omega)]
def nd (w h x : Int) : Bool := decide (1 ≤ w ∧ w ≤ 5) && decide (1 ≤ h ∧ h ≤ 5) && decide (0 ≤ x ∧ x ≤ wrap64 (wrap64 (w * h) - 1))
theorem nd_open {w h x : Int} (k : nd w h x = true) : (1 ≤ w ∧ w ≤ 5) ∧ (1 ≤ h ∧ h ≤ 5) ∧ (0 ≤ x ∧ x ≤ wrap64 (wrap64 (w * h) - 1)) := by
  simp only [nd, Bool.and_eq_true, decide_eq_true_eq] at k
  exact ⟨k.1.1, k.1.2, k.2⟩
theorem spec_nd (w h x : Int) : spec_l16Nodes.f w h x x = some (nd w h x) := by
  rw [spec_nodes]
  unfold nodes nd
  generalize decide (1 ≤ w ∧ w ≤ 5) = a
  generalize decide (1 ≤ h ∧ h ≤ 5) = b
  generalize decide (0 ≤ x ∧ x ≤ wrap64 (wrap64 (w * h) - 1)) = c
  cases a <;> cases b <;> cases c <;> rfl
theorem impl_nd (w h x : Int) : impl_fabric_node.f w h x = some (nd w h x) := by
  unfold impl_fabric_node.f impl_fabric_valid.f nd
  simp only [i_in, Option.bind_some]
  generalize decide (1 ≤ w ∧ w ≤ 5) = a
  generalize decide (1 ≤ h ∧ h ≤ 5) = b
  generalize decide (0 ≤ x ∧ x ≤ wrap64 (wrap64 (w * h) - 1)) = c
  cases a <;> cases b <;> cases c <;> rfl
def wr16 (w a b : Int) : Option Int := impl_fabric_wire.l0 5 a (wrap64 (Int.tmod b w - Int.tmod a w)) (wrap64 (wrap64 (Int.tdiv b w) - wrap64 (Int.tdiv a w))) 0
theorem wr16_some (w a b : Int) : ∃ v, wr16 w a b = some v := by
  unfold wr16
  rw [wire_l0]
  split
  · exact ⟨_, rfl⟩
  · split
    · exact ⟨_, rfl⟩
    · split
      · exact ⟨_, rfl⟩
      · split <;> exact ⟨_, rfl⟩
theorem spec_wire16 {w h a b : Int} (ka : nd w h a = true) (kb : nd w h b = true) {k : Nat} (hk : 3 ≤ k) : spec_l16Wire.f k w a b = wr16 w a b := by
  obtain ⟨k, rfl⟩ : ∃ q, k = q + 3 := ⟨k - 3, by omega⟩
  have oa := nd_open ka
  have ob := nd_open kb
  have ha := small oa.1 oa.2.1 oa.2.2
  have hb := small ob.1 ob.2.1 ob.2.2
  have ta := tm ha oa.1
  have tb := tm hb oa.1
  have hw : ¬ w = 0 := by omega
  unfold spec_l16Wire.f wr16
  rw [if_neg hw, w_in (n := Int.tdiv a w) (by omega) (by omega), w_in (n := Int.tdiv b w) (by omega) (by omega)]
  exact wires a _ _ _ _ ta.1 ta.2 tb.1 tb.2 ha k
theorem impl_wire16 {w h a b : Int} (ka : nd w h a = true) (kb : nd w h b = true) : impl_fabric_wire.f w h a b = wr16 w a b := by
  have oa := nd_open ka
  have hw : ¬ w = 0 := by omega
  unfold impl_fabric_wire.f wr16
  rw [impl_nd, impl_nd, ka, kb]
  simp only [Option.bind_some, if_true]
  rw [if_neg hw]
def ng (w a b : Int) : Bool := match wr16 w a b with | some v => decide (v < 0) | none => false
theorem ng_eq {w a b v : Int} (h : wr16 w a b = some v) : ng w a b = decide (v < 0) := by unfold ng; rw [h]
/-- Is each wire there, from index i on? -/
def prs (w : Int) (l : List Int) : Int → Nat → Bool
  | _, 0 => true
  | i, d + 1 => (decide (i ≤ 0) || !(ng w (rd l (i - 1)) (rd l i))) && prs w l (i + 1) d
theorem spec_way_loop (w h : Int) (l : List Int) (hl : l.length ≤ 9223372036854775806) (d : Nat) : ∀ (k : Nat) (i : Int), 0 ≤ i → i + d = l.length → d + 5 < k → (i > 0 → nd w h (rd l (i - 1)) = true) →
    spec_WayValid.l0 k w h l i = some ((l.drop i.toNat).all (nd w h) && prs w l i d && decide (1 ≤ (l.length : Int) ∧ (l.length : Int) ≤ 30)) := by
  induction d with
  | zero =>
    intro k i h0 h1 hk hp
    obtain ⟨k, rfl⟩ : ∃ m, k = m + 1 := ⟨k - 1, by omega⟩
    simp only [spec_WayValid.l0, s_in, Option.bind_some]
    rw [if_neg (by omega), List.drop_eq_nil_of_le (by omega)]
    simp only [List.all_nil, prs, Bool.true_and]
  | succ d ih =>
    intro k i h0 h1 hk hp
    obtain ⟨k, rfl⟩ : ∃ m, k = m + 1 := ⟨k - 1, by omega⟩
    rw [rd_at h0 (by omega)]
    simp only [spec_WayValid.l0, spec_nd, Option.bind_some]
    rw [if_pos (by omega), if_pos h0, w_in (n := i - 1) (by omega) (by omega), w_in (n := i + 1) (by omega) (by omega)]
    simp only [List.all_cons, prs]
    by_cases hc : nd w h (rd l i) = true
    · rw [if_pos hc, ih k (i + 1) (by omega) (by omega) (by omega) (fun _ => by rw [show i + 1 - 1 = i by omega]; exact hc)]
      simp only [hc, Bool.true_and]
      by_cases hi : i > 0
      · have e : decide (i ≤ 0) = false := by simp; omega
        obtain ⟨v, hv⟩ := wr16_some w (rd l (i - 1)) (rd l i)
        rw [if_pos hi, if_pos (by omega), if_pos (by omega), spec_wire16 (hp hi) hc (by omega), hv, ng_eq hv, e]
        simp only [Option.bind_some, Bool.false_or]
        by_cases q : v < 0
        · rw [if_pos q]
          simp [q]
        · rw [if_neg q]
          simp [q]
      · have e : decide (i ≤ 0) = true := by simp; omega
        rw [if_neg hi, e]
        simp
    · rw [if_neg hc]
      simp [hc]
theorem rd_all {p : Int → Bool} {l : List Int} (h : l.all p = true) {i : Int} (h0 : 0 ≤ i) (h1 : i < l.length) : p (rd l i) = true := List.all_eq_true.mp h _ (rd_mem h0 h1)
theorem impl_way_loop (w h : Int) (l : List Int) (hl : l.length ≤ 9223372036854775806) (ha : l.all (nd w h) = true) (d : Nat) : ∀ (k : Nat) (i : Int), 1 ≤ i → i + d = l.length → d < k →
    impl_fabric_way.l0 k l i w h = some (prs w l i d) := by
  induction d with
  | zero =>
    intro k i h0 h1 hk
    obtain ⟨k, rfl⟩ : ∃ m, k = m + 1 := ⟨k - 1, by omega⟩
    simp only [impl_fabric_way.l0]
    rw [if_neg (by omega)]
    rfl
  | succ d ih =>
    intro k i h0 h1 hk
    obtain ⟨k, rfl⟩ : ∃ m, k = m + 1 := ⟨k - 1, by omega⟩
    simp only [impl_fabric_way.l0]
    have e : decide (i ≤ 0) = false := by simp; omega
    obtain ⟨v, hv⟩ := wr16_some w (rd l (i - 1)) (rd l i)
    rw [if_pos (by omega), w_in (n := i - 1) (by omega) (by omega), w_in (n := i + 1) (by omega) (by omega), if_pos (by omega), if_pos (by omega), if_pos (by omega), impl_wire16 (rd_all ha (by omega) (by omega)) (rd_all ha (by omega) (by omega)), hv, ih k (i + 1) (by omega) (by omega) (by omega)]
    simp only [Option.bind_some, prs, ng_eq hv, e, Bool.false_or]
    by_cases q : v < 0
    · rw [if_pos q]
      simp [q]
    · rw [if_neg q]
      simp [q]
def wayv (w h : Int) (l : List Int) : Bool := l.all (nd w h) && prs w l 0 l.length && decide (1 ≤ (l.length : Int) ∧ (l.length : Int) ≤ 30)
theorem spec_way {w h : Int} {l : List Int} (hl : l.length ≤ 9223372036854775806) {k : Nat} (hk : l.length + 5 < k) : spec_WayValid.f k w h l = some (wayv w h l) := by
  unfold spec_WayValid.f wayv
  rw [spec_way_loop w h l hl l.length k 0 (by omega) (by omega) hk (fun h => by omega)]
  simp
theorem impl_fway {w h : Int} {l : List Int} (hl : l.length ≤ 9223372036854775806) {k : Nat} (hk : l.length + 5 < k) : impl_fabric_way.f k w h l = some (wayv w h l) := by
  obtain ⟨k, rfl⟩ : ∃ m, k = m + 1 := ⟨k - 1, by omega⟩
  unfold impl_fabric_way.f all_impl_fabric_node.f wayv
  rw [i_in, allO_total (q := nd w h) l (fun x _ => impl_nd w h x)]
  simp only [Option.bind_some, impl_fabric_way.j0]
  by_cases h1 : 1 ≤ (l.length : Int) ∧ (l.length : Int) ≤ 30
  · rw [if_pos (by simpa using h1)]
    by_cases ha : l.all (nd w h) = true
    · rw [if_neg (by simp only [ha]; decide), impl_way_loop w h l hl ha (l.length - 1) k 1 (by omega) (by omega) (by omega), ha, decide_eq_true h1]
      obtain ⟨n, hn⟩ : ∃ n, l.length = n + 1 := ⟨l.length - 1, by omega⟩
      rw [hn]
      simp [prs]
    · have e : l.all (nd w h) = false := by simpa using ha
      rw [if_pos (by simp only [e]; decide), e]
      rfl
  · rw [if_neg (by simpa using h1), decide_eq_false h1]
    simp
/-- The wires of a way, from index i on. -/
def wrs (w : Int) (l : List Int) : Int → Nat → List Int
  | _, 0 => []
  | i, d + 1 => (wr16 w (rd l (i - 1)) (rd l i)).getD 0 :: wrs w l (i + 1) d
theorem wrs_len (w : Int) (l : List Int) : ∀ (d : Nat) (i : Int), (wrs w l i d).length = d
  | 0, _ => rfl
  | d + 1, i => by simp [wrs, wrs_len w l d (i + 1)]
theorem wrs_rd (w : Int) (l : List Int) : ∀ (d : Nat) (i : Int) (j : Nat), j < d → rd (wrs w l i d) j = (wr16 w (rd l (i + j - 1)) (rd l (i + j))).getD 0
  | 0, _, _, h => absurd h (Nat.not_lt_zero _)
  | d + 1, i, 0, _ => by
    unfold rd
    simp [wrs, rd]
  | d + 1, i, j + 1, h => by
    have ih := wrs_rd w l d (i + 1) j (by omega)
    have e : rd (wrs w l i (d + 1)) ((j + 1 : Nat) : Int) = rd (wrs w l (i + 1) d) (j : Int) := by
      unfold rd
      simp [wrs, Int.toNat_natCast]
    rw [e, ih, show i + 1 + (j : Int) = i + ((j + 1 : Nat) : Int) by omega]
theorem wr16_get {w a b v : Int} (h : wr16 w a b = some v) : (wr16 w a b).getD 0 = v := by rw [h]; rfl
theorem impl_wires_loop (w h : Int) (l : List Int) (hl : l.length ≤ 30) (ha : l.all (nd w h) = true) (d : Nat) : ∀ (k : Nat) (i : Int) (out : List Int), 1 ≤ i → i + d = l.length → out.length + d ≤ 100 → d < k →
    impl_fabric_wires_1.l0 k l out i w h = some (out ++ wrs w l i d) := by
  induction d with
  | zero =>
    intro k i out h0 h1 ho hk
    obtain ⟨k, rfl⟩ : ∃ m, k = m + 1 := ⟨k - 1, by omega⟩
    rw [impl_fabric_wires_1.l0, if_neg (by omega), wrs, List.append_nil]
  | succ d ih =>
    intro k i out h0 h1 ho hk
    obtain ⟨k, rfl⟩ : ∃ m, k = m + 1 := ⟨k - 1, by omega⟩
    obtain ⟨v, hv⟩ := wr16_some w (rd l (i - 1)) (rd l i)
    rw [impl_fabric_wires_1.l0, if_pos (by omega), w_in (n := i - 1) (by omega) (by omega), w_in (n := i + 1) (by omega) (by omega), if_pos (by omega), if_pos (by omega), if_pos (by omega), impl_wire16 (rd_all ha (by omega) (by omega)) (rd_all ha (by omega) (by omega)), bs hv, if_pos (by omega), ih k (i + 1) _ (by omega) (by omega) (by rw [List.length_append]; simp; omega) (by omega)]
    rw [wrs, wr16_get hv, List.append_assoc]
    rfl
theorem spec_wires_loop (w h : Int) (l : List Int) (hl : l.length ≤ 30) (ha : l.all (nd w h) = true) (d : Nat) : ∀ (k : Nat) (i : Int) (out : List Int), 1 ≤ i → i + d = l.length → out.length + d ≤ 100 → d + 3 < k →
    spec_l16Wires.l0 k w l out i = some (out ++ wrs w l i d) := by
  induction d with
  | zero =>
    intro k i out h0 h1 ho hk
    obtain ⟨k, rfl⟩ : ∃ m, k = m + 1 := ⟨k - 1, by omega⟩
    rw [spec_l16Wires.l0, if_neg (by omega), wrs, List.append_nil]
  | succ d ih =>
    intro k i out h0 h1 ho hk
    obtain ⟨k, rfl⟩ : ∃ m, k = m + 1 := ⟨k - 1, by omega⟩
    obtain ⟨v, hv⟩ := wr16_some w (rd l (i - 1)) (rd l i)
    rw [spec_l16Wires.l0, if_pos (by omega), w_in (n := i - 1) (by omega) (by omega), w_in (n := i + 1) (by omega) (by omega), if_pos (by omega), if_pos (by omega), if_pos (by omega), spec_wire16 (rd_all ha (by omega) (by omega)) (rd_all ha (by omega) (by omega)) (by omega), bs hv, if_pos (by omega), ih k (i + 1) _ (by omega) (by omega) (by rw [List.length_append]; simp; omega) (by omega)]
    rw [wrs, wr16_get hv, List.append_assoc]
    rfl
def wof (w : Int) (l : List Int) : List Int := wrs w l 1 (l.length - 1)
theorem wayv_open {w h : Int} {l : List Int} (k : wayv w h l = true) : l.all (nd w h) = true ∧ prs w l 0 l.length = true ∧ 1 ≤ l.length ∧ l.length ≤ 30 := by
  simp only [wayv, Bool.and_eq_true, decide_eq_true_eq] at k
  exact ⟨k.1.1, k.1.2, by omega, by omega⟩
theorem impl_wof {w h : Int} {l : List Int} (hv : wayv w h l = true) {k : Nat} (hk : 40 < k) : impl_fabric_wires_1.f k l w h = some (wof w l) := by
  obtain ⟨h1, h2, h3, h4⟩ := wayv_open hv
  unfold impl_fabric_wires_1.f
  rw [impl_wires_loop w h l h4 h1 (l.length - 1) k 1 [] (by omega) (by omega) (by simp; omega) (by omega)]
  rfl
theorem spec_wof {w h : Int} {l : List Int} (hv : wayv w h l = true) {k : Nat} (hk : 40 < k) : spec_l16Wires.f k w l = some (wof w l) := by
  obtain ⟨h1, h2, h3, h4⟩ := wayv_open hv
  unfold spec_l16Wires.f
  rw [spec_wires_loop w h l h4 h1 (l.length - 1) k 1 [] (by omega) (by omega) (by simp; omega) (by omega)]
  rfl
theorem prs_at {w : Int} {l : List Int} : ∀ (d : Nat) (i : Int), prs w l i d = true → ∀ j : Nat, j < d → 0 < i + j → ng w (rd l (i + j - 1)) (rd l (i + j)) = false
  | 0, _, _, _, h, _ => absurd h (Nat.not_lt_zero _)
  | d + 1, i, h, 0, _, hp => by
    simp only [prs, Bool.and_eq_true, Bool.or_eq_true, decide_eq_true_eq] at h
    rcases h.1 with q | q
    · omega
    · rw [show i + ((0 : Nat) : Int) = i by omega]
      simpa using q
  | d + 1, i, h, j + 1, hj, hp => by
    simp only [prs, Bool.and_eq_true] at h
    have := prs_at d (i + 1) h.2 j (by omega) (by omega)
    rw [show i + ((j + 1 : Nat) : Int) = i + 1 + (j : Int) by omega]
    exact this
/-- A wire's number tells where it begins, and that it leads elsewhere. -/
theorem wr16_val {w h a b v : Int} (ka : nd w h a = true) (kb : nd w h b = true) (hv : wr16 w a b = some v) (h0 : 0 ≤ v) : 4 * a ≤ v ∧ v ≤ 4 * a + 3 ∧ a ≠ b := by
  have oa := nd_open ka
  have ob := nd_open kb
  have ha := small oa.1 oa.2.1 oa.2.2
  have ta := tm ha oa.1
  unfold wr16 at hv
  rw [wire_l0, w_in (n := 4 * a) (by omega) (by omega), w_in (n := 4 * a + 0) (by omega) (by omega), w_in (n := 4 * a + 1) (by omega) (by omega), w_in (n := 4 * a + 2) (by omega) (by omega), w_in (n := 4 * a + 3) (by omega) (by omega)] at hv
  have hz : wrap64 0 = 0 := w_in (by omega) (by omega)
  by_cases e : a = b
  · subst e
    rw [Int.sub_self, Int.sub_self, hz, if_neg (by omega), if_neg (by omega), if_neg (by omega), if_neg (by omega)] at hv
    injection hv with hv
    omega
  · refine ⟨?_, ?_, e⟩ <;>
    · split at hv
      · injection hv with hv; omega
      · split at hv
        · injection hv with hv; omega
        · split at hv
          · injection hv with hv; omega
          · split at hv
            · injection hv with hv; omega
            · injection hv with hv; omega
theorem wof_at {w h : Int} {l : List Int} (hv : wayv w h l = true) {j : Nat} (hj : j < (wof w l).length) : ∃ v, wr16 w (rd l j) (rd l (j + 1)) = some v ∧ rd (wof w l) j = v ∧ 0 ≤ v ∧ nd w h (rd l j) = true ∧ nd w h (rd l (j + 1)) = true := by
  obtain ⟨h1, h2, h3, h4⟩ := wayv_open hv
  unfold wof at hj ⊢
  rw [wrs_len] at hj
  obtain ⟨v, e⟩ := wr16_some w (rd l j) (rd l (j + 1))
  have hp := prs_at l.length 0 h2 (j + 1) (by omega) (by omega)
  rw [show (0 : Int) + ((j + 1 : Nat) : Int) - 1 = j by omega, show (0 : Int) + ((j + 1 : Nat) : Int) = j + 1 by omega, ng_eq e] at hp
  refine ⟨v, e, ?_, by simpa using hp, rd_all h1 (by omega) (by omega), rd_all h1 (by omega) (by omega)⟩
  rw [wrs_rd w l _ 1 j hj, show (1 : Int) + (j : Int) - 1 = j by omega, show (1 : Int) + (j : Int) = j + 1 by omega]
  exact wr16_get e
theorem nd_lt {w h x : Int} (k : nd w h x = true) : 0 ≤ x ∧ x + 1 ≤ w * h ∧ w * h ≤ 25 := by
  have o := nd_open k
  have e : 0 ≤ w * h ∧ w * h ≤ 25 := by
    have hh : h = 1 ∨ h = 2 ∨ h = 3 ∨ h = 4 ∨ h = 5 := by omega
    rcases hh with e | e | e | e | e <;> rw [e] <;> omega
  have o3 := o.2.2
  rw [w_in (n := w * h) (by omega) (by omega), w_in (n := w * h - 1) (by omega) (by omega)] at o3
  omega
theorem wof_good {w h : Int} {l : List Int} (hv : wayv w h l = true) {N : Nat} (hN : (N : Int) = 4 * (w * h)) : (wof w l).length ≤ 30 ∧ (∀ j : Int, 0 ≤ j → j < (wof w l).length → 0 ≤ rd (wof w l) j ∧ rd (wof w l) j < N) ∧ (∀ j : Int, 1 ≤ j → j < (wof w l).length → rd (wof w l) (j - 1) ≠ rd (wof w l) j) := by
  obtain ⟨h1, h2, h3, h4⟩ := wayv_open hv
  have hlen : (wof w l).length = l.length - 1 := by unfold wof; rw [wrs_len]
  refine ⟨by omega, fun j j0 j1 => ?_, fun j j0 j1 => ?_⟩
  · obtain ⟨n, rfl⟩ : ∃ n : Nat, j = n := ⟨j.toNat, by omega⟩
    obtain ⟨v, e1, e2, e3, e4, e5⟩ := wof_at hv (j := n) (by omega)
    have := wr16_val e4 e5 e1 e3
    have := nd_lt e4
    rw [e2]
    omega
  · obtain ⟨n, rfl⟩ : ∃ n : Nat, j = ((n + 1 : Nat) : Int) := ⟨j.toNat - 1, by omega⟩
    rw [show ((n + 1 : Nat) : Int) - 1 = n by omega]
    obtain ⟨v, e1, e2, e3, e4, e5⟩ := wof_at hv (j := n) (by omega)
    obtain ⟨u, f1, f2, f3, f4, f5⟩ := wof_at hv (j := n + 1) (by omega)
    have a1 := wr16_val e4 e5 e1 e3
    have a2 := wr16_val f4 f5 f1 f3
    rw [e2, f2]
    rw [show ((n : Int) + 1) = ((n + 1 : Nat) : Int) by omega] at a1
    omega
theorem rdl_at {l : List (List Int)} {i : Int} (h0 : 0 ≤ i) (h : i.toNat < l.length) : l.drop i.toNat = rd_L2 l i :: l.drop (i + 1).toNat := by
  rw [List.drop_eq_getElem_cons h, show (i + 1).toNat = i.toNat + 1 by omega]
  unfold rd_L2
  rw [List.getD_eq_getElem?_getD, List.getElem?_eq_getElem h]
  rfl
theorem rdl_mem {l : List (List Int)} {i : Int} (h0 : 0 ≤ i) (h : i < l.length) : rd_L2 l i ∈ l := by
  unfold rd_L2
  rw [List.getD_eq_getElem?_getD, List.getElem?_eq_getElem (by omega)]
  exact List.getElem_mem _
theorem m_loop (w h : Int) (l : List (List Int)) (hl : l.length ≤ 12) (ha : ∀ x ∈ l, wayv w h x = true) (d : Nat) : ∀ (k : Nat) (i : Int) (out : List (List Int)), 0 ≤ i → i + d = l.length → out.length + d ≤ 100 → d + 50 < k →
    impl_fabric_wires_m.l0 k out l (l.length : Int) i w h = some (out ++ (l.drop i.toNat).map (wof w)) := by
  induction d with
  | zero =>
    intro k i out h0 h1 ho hk
    obtain ⟨k, rfl⟩ : ∃ m, k = m + 1 := ⟨k - 1, by omega⟩
    rw [impl_fabric_wires_m.l0, if_neg (by omega), List.drop_eq_nil_of_le (by omega), List.map_nil, List.append_nil]
  | succ d ih =>
    intro k i out h0 h1 ho hk
    obtain ⟨k, rfl⟩ : ∃ m, k = m + 1 := ⟨k - 1, by omega⟩
    rw [impl_fabric_wires_m.l0, if_pos (by omega), if_pos (by omega), if_pos (by omega), bs (impl_wof (ha _ (rdl_mem h0 (by omega))) (by omega)), if_pos (by omega), w_in (n := i + 1) (by omega) (by omega), ih k (i + 1) _ (by omega) (by omega) (by rw [List.length_append]; simp; omega) (by omega), rdl_at h0 (by omega), List.map_cons, List.append_assoc]
    rfl
def fab (w h : Int) : Bool := decide (1 ≤ w ∧ w ≤ 5) && decide (1 ≤ h ∧ h ≤ 5)
def goodw (w h : Int) (l : List (List Int)) : Bool := l.all (wayv w h) && fab w h && decide ((l.length : Int) ≤ 12)
theorem impl_fab (w h : Int) : impl_fabric_valid.f w h = some (fab w h) := by
  unfold impl_fabric_valid.f fab
  simp only [i_in, Option.bind_some]
  generalize decide (1 ≤ w ∧ w ≤ 5) = a
  generalize decide (1 ≤ h ∧ h ≤ 5) = b
  cases a <;> cases b <;> rfl
theorem spec_fab (w h : Int) : spec_l16Fabric.f w h = some (fab w h) := by
  unfold spec_l16Fabric.f fab
  simp only [s_in, Option.bind_some]
  generalize decide (1 ≤ w ∧ w ≤ 5) = a
  generalize decide (1 ≤ h ∧ h ≤ 5) = b
  cases a <;> cases b <;> rfl
theorem impl_wires_ok {w h : Int} {l : List (List Int)} {M : Nat} (hM : ∀ x ∈ l, x.length ≤ M) (hMb : M ≤ 2000000) {k : Nat} (hk : M + 100 < k) : impl_fabric_wires.f k w h l = some (if goodw w h l = true then (l.map (wof w), true) else ([], false)) := by
  unfold impl_fabric_wires.f goodw
  rw [bs (impl_fab w h)]
  have hall : all_impl_fabric_way.f k l w h = some (l.all (wayv w h)) := by
    unfold all_impl_fabric_way.f
    exact allO_total l (fun x hx => impl_fway (by have := hM x hx; omega) (by have := hM x hx; omega))
  cases e1 : fab w h with
  | false => rw [if_neg (by decide), if_neg (by simp)]
  | true =>
    rw [if_pos rfl]
    by_cases e2 : (l.length : Int) > 12
    · rw [if_pos e2, if_neg (by simp; omega)]
    · rw [if_neg e2, bs hall]
      cases e3 : l.all (wayv w h) with
      | false => rw [if_neg (by decide), if_neg (by simp)]
      | true =>
        have hm : impl_fabric_wires_m.f k l w h = some (l.map (wof w)) := by
          unfold impl_fabric_wires_m.f
          rw [m_loop w h l (by omega) (fun x hx => List.all_eq_true.mp e3 x hx) l.length k 0 [] (by omega) (by omega) (by simp; omega) (by omega)]
          rfl
        rw [if_pos rfl, bs hm, if_pos (by simp; omega)]
theorem ways_loop (w h : Int) (l : List (List Int)) {M : Nat} (hM : ∀ x ∈ l, x.length ≤ M) (hMb : M ≤ 2000000) (hl : l.length ≤ 2000000) (d : Nat) : ∀ (k : Nat) (i : Int), 0 ≤ i → i + d = l.length → d + M + 100 < k →
    spec_l16Ways.l0 k w h l i = some ((l.drop i.toNat).all (wayv w h) && fab w h && decide ((l.length : Int) ≤ 12)) := by
  induction d with
  | zero =>
    intro k i h0 h1 hk
    obtain ⟨k, rfl⟩ : ∃ m, k = m + 1 := ⟨k - 1, by omega⟩
    rw [spec_l16Ways.l0, if_neg (by omega), bs (spec_fab w h), List.drop_eq_nil_of_le (by omega)]
    cases fab w h <;> rfl
  | succ d ih =>
    intro k i h0 h1 hk
    obtain ⟨k, rfl⟩ : ∃ m, k = m + 1 := ⟨k - 1, by omega⟩
    have hm := hM _ (rdl_mem (l := l) h0 (by omega))
    rw [spec_l16Ways.l0, if_pos (by omega), if_pos h0, bs (spec_way (by omega) (by omega)), rdl_at h0 (by omega), List.all_cons]
    cases e : wayv w h (rd_L2 l i) with
    | false => rw [if_neg (by decide)]; rfl
    | true => rw [if_pos rfl, w_in (n := i + 1) (by omega) (by omega), ih k (i + 1) (by omega) (by omega) (by omega), Bool.true_and]
theorem ways_ok {w h : Int} {l : List (List Int)} {M : Nat} (hM : ∀ x ∈ l, x.length ≤ M) (hMb : M ≤ 2000000) (hl : l.length ≤ 2000000) {k : Nat} (hk : l.length + M + 100 < k) : spec_l16Ways.f k w h l = some (goodw w h l) := by
  unfold spec_l16Ways.f goodw
  rw [ways_loop w h l hM hMb hl l.length k 0 (by omega) (by omega) (by omega)]
  rfl
def tot (l : List (List Int)) : Nat := (l.map List.length).sum
theorem tot_cons (x : List Int) (l : List (List Int)) : tot (x :: l) = x.length + tot l := by simp [tot]
theorem tot_mem : ∀ {l : List (List Int)} {x : List Int}, x ∈ l → x.length ≤ tot l
  | y :: l, x, h => by
    rw [tot_cons]
    rcases List.mem_cons.mp h with e | h
    · rw [e]; omega
    · have := tot_mem h; omega
theorem szInt_ok {l : List Int} {x : Int} (hl : l.length ≤ 9223372036854775807) (h0 : 0 ≤ x) (h1 : x ≤ 1048576) : laws_szIntS.f l x = some (if x < (l.length : Int) then -1 else x - (l.length : Int)) := by
  unfold laws_szIntS.f
  rw [w_in (by omega) (by omega)]
  by_cases c : x < (l.length : Int)
  · rw [if_pos c, if_pos (by omega)]
  · rw [if_neg c, if_neg (by omega)]
theorem szSS_loop (l : List (List Int)) (hl : l.length ≤ 9223372036854775806) (hr : ∀ x ∈ l, x.length ≤ 9223372036854775807) (d : Nat) : ∀ (k : Nat) (i x : Int), 0 ≤ i → i + d = l.length → d < k → 0 ≤ x → x ≤ 1048576 →
    ∃ r, laws_szIntSS.l0 k l x i = some r ∧ (0 ≤ r → (tot (l.drop i.toNat) : Int) ≤ x) := by
  induction d with
  | zero =>
    intro k i x h0 h1 hk hx0 hx1
    obtain ⟨k, rfl⟩ : ∃ m, k = m + 1 := ⟨k - 1, by omega⟩
    refine ⟨x, by rw [laws_szIntSS.l0, if_neg (by omega)], fun _ => ?_⟩
    rw [List.drop_eq_nil_of_le (by omega)]
    simpa [tot] using hx0
  | succ d ih =>
    intro k i x h0 h1 hk hx0 hx1
    obtain ⟨k, rfl⟩ : ∃ m, k = m + 1 := ⟨k - 1, by omega⟩
    rw [laws_szIntSS.l0, if_pos (by omega), if_pos h0, bs (szInt_ok (hr _ (rdl_mem h0 (by omega))) hx0 hx1), rdl_at h0 (by omega), tot_cons]
    by_cases c : x < ((rd_L2 l i).length : Int)
    · rw [if_pos c, if_pos (by omega)]
      exact ⟨-1, rfl, fun h => absurd h (by omega)⟩
    · rw [if_neg c, if_neg (by omega), w_in (n := i + 1) (by omega) (by omega)]
      obtain ⟨r, hr1, hr2⟩ := ih k (i + 1) (x - ((rd_L2 l i).length : Int)) (by omega) (by omega) (by omega) (by omega) (by omega)
      exact ⟨r, hr1, fun h => by have := hr2 h; omega⟩
theorem toSS_loop (l : List (List Int)) (hl : l.length ≤ 9223372036854775806) {M : Nat} (hM : ∀ x ∈ l, x.length ≤ M) (hMb : M ≤ 2000000) (d : Nat) : ∀ (k : Nat) (i : Int) (x : List (List Int)), 0 ≤ i → i + d = l.length → d + M + 1 < k → x.length = l.length → x.take i.toNat = l.take i.toNat →
    laws_toIntSS.l0 k l x i = some l := by
  induction d with
  | zero =>
    intro k i x h0 h1 hk hx ht
    obtain ⟨k, rfl⟩ : ∃ m, k = m + 1 := ⟨k - 1, by omega⟩
    rw [laws_toIntSS.l0, if_neg (by omega)]
    rw [List.take_of_length_le (by omega), List.take_of_length_le (by omega)] at ht
    rw [ht]
  | succ d ih =>
    intro k i x h0 h1 hk hx ht
    obtain ⟨k, rfl⟩ : ∃ m, k = m + 1 := ⟨k - 1, by omega⟩
    have hm := hM _ (rdl_mem (l := l) h0 (by omega))
    rw [laws_toIntSS.l0, if_pos (by omega), if_pos h0, bs (toInt_ok (by omega) (by omega)), if_pos (by omega), w_in (by omega) (by omega)]
    refine ih k (i + 1) _ (by omega) (by omega) (by omega) (by simpa using hx) ?_
    have e : (i + 1).toNat = i.toNat + 1 := by omega
    have hi : i.toNat < l.length := by omega
    rw [e, List.take_succ_eq_append_getElem (by simpa [hx] using hi), List.take_succ_eq_append_getElem hi, List.getElem_set_self, List.take_set_of_le (Nat.le_refl _), ht]
    congr 2
    unfold rd_L2
    rw [List.getD_eq_getElem?_getD, List.getElem?_eq_getElem hi]
    rfl
theorem toSS_ok {l : List (List Int)} (hl : l.length ≤ 2000000) {M : Nat} (hM : ∀ x ∈ l, x.length ≤ M) (hMb : M ≤ 2000000) {k : Nat} (hk : l.length + M + 1 < k) : laws_toIntSS.f k l = some l := by
  unfold laws_toIntSS.f
  rw [if_pos (by omega), if_pos (by omega)]
  exact toSS_loop l (by omega) hM hMb l.length k 0 _ (by omega) (by omega) hk (by simp) (by simp)
theorem eqSS_loop (l : List (List Int)) (hl : l.length ≤ 9223372036854775806) {M : Nat} (hM : ∀ x ∈ l, x.length ≤ M) (hMb : M ≤ 2000000) (d : Nat) : ∀ (k : Nat) (i : Int), 0 ≤ i → i + d = l.length → d + M + 1 < k → laws_eqIntSS.l0 k l l i = some true := by
  induction d with
  | zero =>
    intro k i h0 h1 hk
    obtain ⟨k, rfl⟩ : ∃ m, k = m + 1 := ⟨k - 1, by omega⟩
    rw [laws_eqIntSS.l0, if_neg (by omega)]
  | succ d ih =>
    intro k i h0 h1 hk
    obtain ⟨k, rfl⟩ : ∃ m, k = m + 1 := ⟨k - 1, by omega⟩
    have hm := hM _ (rdl_mem (l := l) h0 (by omega))
    rw [laws_eqIntSS.l0, if_pos (by omega), if_pos h0, if_pos (by omega), bs (eqInt_ok (by omega) (by omega)), if_pos rfl, w_in (by omega) (by omega)]
    exact ih k (i + 1) (by omega) (by omega) (by omega)
theorem eqSS_ok {l : List (List Int)} (hl : l.length ≤ 2000000) {M : Nat} (hM : ∀ x ∈ l, x.length ≤ M) (hMb : M ≤ 2000000) {k : Nat} (hk : l.length + M + 1 < k) : laws_eqIntSS.f k l l = some true := by
  unfold laws_eqIntSS.f
  rw [if_pos rfl]
  exact eqSS_loop l (by omega) hM hMb l.length k 0 (by omega) (by omega) hk
/-! two lists of pairs, each in strict order, that hold the same are one -/
theorem strict_ext {α : Type} {lt : α → α → Prop} (hi : ∀ x, ¬ lt x x) (ht : ∀ x y z, lt x y → lt y z → lt x z) : ∀ (l l' : List α), l.Pairwise lt → l'.Pairwise lt → (∀ x, x ∈ l ↔ x ∈ l') → l = l'
  | [], [], _, _, _ => rfl
  | [], y :: l', _, _, h => absurd ((h y).mpr List.mem_cons_self) (by simp)
  | x :: l, [], _, _, h => absurd ((h x).mp List.mem_cons_self) (by simp)
  | x :: l, y :: l', p, p', h => by
    obtain ⟨p1, p2⟩ := List.pairwise_cons.mp p
    obtain ⟨q1, q2⟩ := List.pairwise_cons.mp p'
    have hxy : x = y := by
      rcases List.mem_cons.mp ((h x).mp List.mem_cons_self) with e | hx
      · exact e
      rcases List.mem_cons.mp ((h y).mpr List.mem_cons_self) with e | hy
      · exact e.symm
      exact absurd (ht _ _ _ (p1 y hy) (q1 x hx)) (hi x)
    subst hxy
    rw [strict_ext hi ht l l' p2 q2 (fun z => ⟨fun hz => by
      rcases List.mem_cons.mp ((h z).mp (List.mem_cons_of_mem _ hz)) with e | hz'
      · exact absurd (e ▸ p1 z hz) (hi x)
      · exact hz', fun hz => by
      rcases List.mem_cons.mp ((h z).mpr (List.mem_cons_of_mem _ hz)) with e | hz'
      · exact absurd (e ▸ q1 z hz) (hi x)
      · exact hz'⟩)]
def lt2 (x y : List Int) : Prop := rd x 0 < rd y 0 ∨ rd x 0 = rd y 0 ∧ rd x 1 < rd y 1
theorem lt2_irrefl (x : List Int) : ¬ lt2 x x := by unfold lt2; omega
theorem lt2_trans (x y z : List Int) (h1 : lt2 x y) (h2 : lt2 y z) : lt2 x z := by unfold lt2 at *; omega
theorem le_lt (x y z : List Int) (h1 : le2 x y = true) (h2 : lt2 y z) : lt2 x z := by rw [le2_iff] at h1; unfold lt2 at *; omega
theorem le_ne {x y : List Int} (hx : x.length = 2) (hy : y.length = 2) (h1 : le2 x y = true) (hne : ¬ y = x) : lt2 x y := by
  rw [le2_iff] at h1
  unfold lt2
  by_cases e0 : rd x 0 = rd y 0
  · by_cases e1 : rd x 1 = rd y 1
    · exact absurd (by rw [len2 hx, len2 hy, e0, e1]) hne
    · omega
  · omega
def kpE (d : Array (List Int)) : Nat → Bool := kpOf (fun a b => decide (a = b)) d
theorem kpE_zero (d : Array (List Int)) : kpE d 0 = true := rfl
theorem kpE_succ (d : Array (List Int)) (j : Nat) : kpE d (j + 1) = !decide (d[j + 1]! = d[j]!) := by
  unfold kpE kpOf
  rw [show (j + 1 == 0) = false from by simp]
  rfl
theorem cUp_mem (d : Array (List Int)) : ∀ (m j : Nat), j < m → d[j]! ∈ cUp (kpE d) d m
  | 0, j, h => absurd h (Nat.not_lt_zero _)
  | m + 1, j, h => by
    rw [cUp_succ]
    by_cases hj : j < m
    · exact List.mem_append_left _ (cUp_mem d m j hj)
    · obtain rfl : j = m := by omega
      cases hk : kpE d j with
      | true => exact List.mem_append_right _ (by simp)
      | false =>
        refine List.mem_append_left _ ?_
        cases j with
        | zero => rw [kpE_zero] at hk; exact absurd hk (by decide)
        | succ j =>
          rw [kpE_succ] at hk
          have e : d[j + 1]! = d[j]! := by simpa using hk
          rw [e]
          exact cUp_mem d (j + 1) j (Nat.lt_succ_self _)
theorem mem_cUp {kp : Nat → Bool} {d : Array (List Int)} {m : Nat} {x : List Int} (h : x ∈ cUp kp d m) : ∃ j, j < m ∧ d[j]! = x := by
  unfold cUp at h
  obtain ⟨j, hj, e⟩ := List.mem_map.mp h
  exact ⟨j, List.mem_range.mp (List.mem_filter.mp hj).1, e⟩
theorem cUp_strict (d : Array (List Int)) (h2 : ∀ j, j < d.size → d[j]!.length = 2) (hs : ∀ i j, i < j → j < d.size → le2 d[i]! d[j]! = true) : ∀ m, m ≤ d.size → (cUp (kpE d) d m).Pairwise lt2
  | 0, _ => by unfold cUp; simp
  | m + 1, hm => by
    rw [cUp_succ, List.pairwise_append]
    refine ⟨cUp_strict d h2 hs m (by omega), by cases kpE d m <;> simp, ?_⟩
    intro x hx y hy
    cases hk : kpE d m with
    | false => rw [hk] at hy; simp at hy
    | true =>
      rw [hk] at hy
      obtain rfl : y = d[m]! := by simpa using hy
      obtain ⟨j, hj, rfl⟩ := mem_cUp hx
      cases m with
      | zero => omega
      | succ m =>
        rw [kpE_succ] at hk
        have hne : ¬ d[m + 1]! = d[m]! := by simpa using hk
        have h1 := le_ne (h2 m (by omega)) (h2 (m + 1) (by omega)) (hs m (m + 1) (by omega) (by omega)) hne
        by_cases e : j = m
        · rw [e]; exact h1
        · exact le_lt _ _ _ (hs j m (by omega) (by omega)) h1
theorem toArr_get {l : List (List Int)} {j : Nat} (hj : j < l.length) : l.toArray[j]! = l[j] := by rw [getElem!_pos l.toArray j (by simpa using hj)]; simp
theorem compL_strict {l : List (List Int)} (h2 : ∀ x ∈ l, x.length = 2) (hs : l.Pairwise (fun x y => le2 x y = true)) : (compL l).Pairwise lt2 := by
  unfold compL
  have hl : l.length = l.toArray.size := by simp
  rw [hl]
  refine cUp_strict l.toArray (fun j hj => ?_) (fun i j hij hj => ?_) _ (Nat.le_refl _)
  · rw [toArr_get (by simpa using hj)]; exact h2 _ (List.getElem_mem _)
  · have hj' : j < l.length := by simpa using hj
    rw [toArr_get (show i < l.length by omega), toArr_get hj']
    exact List.pairwise_iff_getElem.mp hs i j (by omega) hj' hij
theorem mem_compL {l : List (List Int)} {x : List Int} : x ∈ compL l ↔ x ∈ l := by
  unfold compL
  constructor
  · intro h
    obtain ⟨j, hj, e⟩ := mem_cUp h
    rw [toArr_get hj] at e
    rw [← e]; exact List.getElem_mem _
  · intro h
    obtain ⟨j, hj, e⟩ := List.mem_iff_getElem.mp h
    have := cUp_mem l.toArray l.length j hj
    rw [toArr_get hj, e] at this
    exact this
theorem sortL_sorted (l : List (List Int)) : (sortL l).Pairwise (fun x y => le2 x y = true) := List.pairwise_mergeSort (fun a b c h1 h2 => le2_trans a b c h1 h2) (fun a b => le2_total a b) l
theorem mem_sortL {l : List (List Int)} {x : List Int} : x ∈ sortL l ↔ x ∈ l := (List.mergeSort_perm l le2).mem_iff
/-- The pairs of a row's neighbours. -/
def adjd (r : List Int) : Int → Nat → List (List Int)
  | _, 0 => []
  | i, d + 1 => [rd r (i - 1), rd r i] :: adjd r (i + 1) d
def adj (r : List Int) : List (List Int) := adjd r 1 (r.length - 1)
theorem adjd_len (r : List Int) : ∀ (d : Nat) (i : Int), (adjd r i d).length = d
  | 0, _ => rfl
  | d + 1, i => by rw [adjd, List.length_cons, adjd_len r d]
theorem adjd_two (r : List Int) : ∀ (d : Nat) (i : Int), ∀ x ∈ adjd r i d, x.length = 2
  | 0, _, x, h => by simp [adjd] at h
  | d + 1, i, x, h => by
    rw [adjd] at h
    rcases List.mem_cons.mp h with e | h
    · rw [e]; rfl
    · exact adjd_two r d _ x h
theorem mem_adjd (r : List Int) : ∀ (d : Nat) (i : Int) (x : List Int), x ∈ adjd r i d ↔ ∃ j : Nat, j < d ∧ x = [rd r (i + j - 1), rd r (i + j)]
  | 0, i, x => by simp [adjd]
  | d + 1, i, x => by
    rw [adjd, List.mem_cons, mem_adjd r d]
    constructor
    · rintro (e | ⟨j, hj, e⟩)
      · exact ⟨0, by omega, by rw [e]; simp⟩
      · exact ⟨j + 1, by omega, by rw [e, show i + 1 + (j : Int) - 1 = i + ((j + 1 : Nat) : Int) - 1 by omega, show i + 1 + (j : Int) = i + ((j + 1 : Nat) : Int) by omega]⟩
    · rintro ⟨j, hj, e⟩
      cases j with
      | zero => left; rw [e]; simp
      | succ j => right; exact ⟨j, by omega, by rw [e, show i + 1 + (j : Int) - 1 = i + ((j + 1 : Nat) : Int) - 1 by omega, show i + 1 + (j : Int) = i + ((j + 1 : Nat) : Int) by omega]⟩
def allP (L : List (List Int)) : List (List Int) := L.flatMap adj
theorem allP_two {L : List (List Int)} {x : List Int} (h : x ∈ allP L) : x.length = 2 := by
  obtain ⟨r, _, hr⟩ := List.mem_flatMap.mp h
  exact adjd_two r _ _ x hr
/-- The pairs that are marked, in the order of their numbers. -/
def specL (N : Nat) (on : List Bool) : Nat → Nat → List (List Int)
  | _, 0 => []
  | c, d + 1 => if rdOf false on c = true then [((c / N : Nat) : Int), ((c % N : Nat) : Int)] :: specL N on (c + 1) d else specL N on (c + 1) d
theorem mem_specL (N : Nat) (on : List Bool) : ∀ (d c : Nat) (x : List Int), x ∈ specL N on c d ↔ ∃ e : Nat, c ≤ e ∧ e < c + d ∧ rdOf false on e = true ∧ x = [((e / N : Nat) : Int), ((e % N : Nat) : Int)]
  | 0, c, x => by simp [specL]; omega
  | d + 1, c, x => by
    rw [specL]
    have ih := mem_specL N on d (c + 1) x
    by_cases h : rdOf false on c = true
    · rw [if_pos h, List.mem_cons, ih]
      constructor
      · rintro (e | ⟨e, h1, h2, h3, h4⟩)
        · exact ⟨c, Nat.le_refl _, by omega, h, e⟩
        · exact ⟨e, by omega, by omega, h3, h4⟩
      · rintro ⟨e, h1, h2, h3, h4⟩
        by_cases he : e = c
        · left; rw [h4, he]
        · right; exact ⟨e, by omega, by omega, h3, h4⟩
    · rw [if_neg h, ih]
      constructor
      · rintro ⟨e, h1, h2, h3, h4⟩; exact ⟨e, by omega, by omega, h3, h4⟩
      · rintro ⟨e, h1, h2, h3, h4⟩
        by_cases he : e = c
        · subst he; exact absurd h3 h
        · exact ⟨e, by omega, by omega, h3, h4⟩
theorem code_lt {N a b : Nat} (h : a < b) : lt2 [((a / N : Nat) : Int), ((a % N : Nat) : Int)] [((b / N : Nat) : Int), ((b % N : Nat) : Int)] := by
  have h1 := Nat.div_add_mod a N
  have h2 := Nat.div_add_mod b N
  have h3 : a / N ≤ b / N := Nat.div_le_div_right (Nat.le_of_lt h)
  show ((a / N : Nat) : Int) < ((b / N : Nat) : Int) ∨ ((a / N : Nat) : Int) = ((b / N : Nat) : Int) ∧ ((a % N : Nat) : Int) < ((b % N : Nat) : Int)
  by_cases e : a / N = b / N
  · right
    refine ⟨by rw [e], ?_⟩
    rw [e] at h1
    omega
  · left; omega
theorem specL_strict (N : Nat) (on : List Bool) : ∀ (d c : Nat), (specL N on c d).Pairwise lt2
  | 0, _ => List.Pairwise.nil
  | d + 1, c => by
    rw [specL]
    split
    · refine List.pairwise_cons.mpr ⟨fun y hy => ?_, specL_strict N on d _⟩
      obtain ⟨e, h1, h2, h3, rfl⟩ := (mem_specL N on d (c + 1) y).mp hy
      exact code_lt (by omega)
    · exact specL_strict N on d _
theorem specL_len (N : Nat) (on : List Bool) : ∀ (d c : Nat), (specL N on c d).length ≤ d
  | 0, _ => Nat.le_refl _
  | d + 1, c => by
    rw [specL]
    have := specL_len N on d (c + 1)
    split
    · rw [List.length_cons]; omega
    · omega
def codeP (N : Nat) (p : List Int) : Nat := (rd p 0).toNat * N + (rd p 1).toNat
def setP (N : Nat) (on : List Bool) (p : List Int) : List Bool := on.set (codeP N p) true
theorem setP_len (N : Nat) (ps : List (List Int)) : ∀ (on : List Bool), (ps.foldl (setP N) on).length = on.length := by
  induction ps with
  | nil => intro on; rfl
  | cons p ps ih => intro on; rw [List.foldl_cons, ih]; simp [setP]
theorem fold_on (N : Nat) : ∀ (ps : List (List Int)) (on : List Bool) (c : Nat), (∀ p ∈ ps, codeP N p < on.length) → (rdOf false (ps.foldl (setP N) on) c = true ↔ (rdOf false on c = true ∨ ∃ p ∈ ps, codeP N p = c))
  | [], on, c, _ => by simp
  | p :: ps, on, c, h => by
    rw [List.foldl_cons, fold_on N ps (setP N on p) c (fun q hq => by have := h q (List.mem_cons_of_mem _ hq); simpa [setP] using this)]
    have h0 := h p List.mem_cons_self
    have e : rdOf false (setP N on p) c = if c = codeP N p then true else rdOf false on c := by
      unfold setP rdOf
      rw [Int.toNat_natCast, List.getD_eq_getElem?_getD, List.getD_eq_getElem?_getD]
      by_cases e : c = codeP N p
      · rw [if_pos e, e, List.getElem?_set_self h0]; rfl
      · rw [if_neg e, List.getElem?_set_ne (fun h => e h.symm)]
    rw [e]
    constructor
    · rintro (h1 | ⟨q, hq, e2⟩)
      · by_cases e3 : c = codeP N p
        · exact .inr ⟨p, List.mem_cons_self, e3.symm⟩
        · rw [if_neg e3] at h1; exact .inl h1
      · exact .inr ⟨q, List.mem_cons_of_mem _ hq, e2⟩
    · rintro (h1 | ⟨q, hq, e2⟩)
      · left; split
        · rfl
        · exact h1
      · rcases List.mem_cons.mp hq with rfl | hq
        · left; rw [if_pos e2.symm]
        · exact .inr ⟨q, hq, e2⟩
theorem rdb_rep' (n c : Nat) : rdOf false (List.replicate n false) c = false := by
  unfold rdOf
  rw [List.getD_eq_getElem?_getD, List.getElem?_replicate]
  split <;> rfl
/-- Sorted and compacted, the pairs are those that are marked. -/
theorem waits_one {L : List (List Int)} {N : Nat} (hN : ∀ p ∈ allP L, 0 ≤ rd p 0 ∧ rd p 0 < N ∧ 0 ≤ rd p 1 ∧ rd p 1 < N) :
    compL (sortL (allP L)) = specL N ((allP L).foldl (setP N) (List.replicate (N * N) false)) 0 (N * N) := by
  have hc : ∀ p ∈ allP L, codeP N p < N * N ∧ codeP N p / N = (rd p 0).toNat ∧ codeP N p % N = (rd p 1).toNat := by
    intro p hp
    obtain ⟨a0, a1, b0, b1⟩ := hN p hp
    have hb : (rd p 1).toNat < N := by omega
    have ha : (rd p 0).toNat < N := by omega
    unfold codeP
    refine ⟨?_, ?_, ?_⟩
    · calc (rd p 0).toNat * N + (rd p 1).toNat < (rd p 0).toNat * N + N := by omega
        _ = ((rd p 0).toNat + 1) * N := by rw [Nat.add_mul, Nat.one_mul]
        _ ≤ N * N := Nat.mul_le_mul_right _ ha
    · rw [Nat.mul_comm, Nat.mul_add_div (by omega), Nat.div_eq_of_lt hb]; rfl
    · rw [Nat.mul_comm, Nat.mul_add_mod, Nat.mod_eq_of_lt hb]
  refine strict_ext lt2_irrefl lt2_trans _ _ (compL_strict (sortL_len (fun x hx => allP_two hx)) (sortL_sorted _)) (specL_strict N _ _ _) (fun x => ?_)
  rw [mem_compL, mem_sortL, mem_specL]
  constructor
  · intro hx
    obtain ⟨c1, c2, c3⟩ := hc x hx
    obtain ⟨a0, a1, b0, b1⟩ := hN x hx
    refine ⟨codeP N x, Nat.zero_le _, by omega, (fold_on N _ _ _ (fun p hp => by rw [List.length_replicate]; exact (hc p hp).1)).mpr (.inr ⟨x, hx, rfl⟩), ?_⟩
    rw [c2, c3, Int.toNat_of_nonneg a0, Int.toNat_of_nonneg b0]
    exact len2 (allP_two hx)
  · rintro ⟨e, h1, h2, h3, rfl⟩
    rcases (fold_on N _ _ _ (fun p hp => by rw [List.length_replicate]; exact (hc p hp).1)).mp h3 with h | ⟨p, hp, rfl⟩
    · rw [rdb_rep'] at h; exact absurd h (by decide)
    · obtain ⟨c1, c2, c3⟩ := hc p hp
      obtain ⟨a0, a1, b0, b1⟩ := hN p hp
      rw [c2, c3, Int.toNat_of_nonneg a0, Int.toNat_of_nonneg b0, ← len2 (allP_two hp)]
      exact hp
def finW (x : List (List Int)) : Option (List (List Int)) := if pairs2 x = true then (if x.length < 4611686018427387904 then some (compL (sortL x)) else none) else none
theorem impl_w1 (r : List Int) (L : List (List Int)) (hr : r.length ≤ 30) (x25 : Int) (d : Nat) : ∀ (k : Nat) (i : Int) (out : List (List Int)), 1 ≤ i → (d = 0 → (r.length : Int) ≤ i) → (0 < d → i + d = r.length) → out.length + d ≤ 100000 →
    impl_WaitsOf.l1 (k + d + 1) out r i L (L.length : Int) x25 = impl_WaitsOf.l0 k (out ++ adjd r i d) L (L.length : Int) (wrap64 (x25 + 1)) := by
  induction d with
  | zero =>
    intro k i out h1 h2 _ _
    have := h2 rfl
    rw [show k + 0 + 1 = k + 1 by omega, impl_WaitsOf.l1, if_neg (by omega), adjd, List.append_nil]
  | succ d ih =>
    intro k i out h1 _ h3 h4
    have := h3 (by omega)
    rw [show k + (d + 1) + 1 = (k + d + 1) + 1 by omega, impl_WaitsOf.l1, if_pos (by omega), w_in (n := i - 1) (by omega) (by omega), if_pos (by omega), if_pos (by omega), if_pos (by omega), if_pos (by omega), w_in (n := i + 1) (by omega) (by omega),
      ih k (i + 1) _ (by omega) (by omega) (by omega) (by rw [List.length_append]; simp; omega), adjd, List.append_assoc]
    rfl
theorem impl_w0 (L : List (List Int)) (hL : ∀ r ∈ L, r.length ≤ 30) (hl : L.length ≤ 12) (d : Nat) : ∀ (k : Nat) (i : Int) (out : List (List Int)), 0 ≤ i → i + d = L.length → out.length + d * 40 ≤ 100000 → d * 40 < k →
    impl_WaitsOf.l0 k out L (L.length : Int) i = finW (out ++ (L.drop i.toNat).flatMap adj) := by
  induction d with
  | zero =>
    intro k i out h0 h1 ho hk
    obtain ⟨k, rfl⟩ : ∃ m, k = m + 1 := ⟨k - 1, by omega⟩
    rw [impl_WaitsOf.l0, if_neg (by omega), List.drop_eq_nil_of_le (by omega), List.flatMap_nil, List.append_nil]
    rfl
  | succ d ih =>
    intro k i out h0 h1 ho hk
    have hr := hL _ (rdl_mem (l := L) h0 (by omega))
    obtain ⟨k, rfl⟩ : ∃ m, k = (m + ((rd_L2 L i).length - 1) + 1) + 1 := ⟨k - 2 - ((rd_L2 L i).length - 1), by omega⟩
    rw [impl_WaitsOf.l0, if_pos (by omega), if_pos (by omega), if_pos (by omega), impl_w1 (rd_L2 L i) L hr i _ k 1 out (by omega) (by omega) (by omega) (by omega), w_in (n := i + 1) (by omega) (by omega),
      ih k (i + 1) _ (by omega) (by omega) (by rw [List.length_append, adjd_len]; omega) (by omega), rdl_at h0 (by omega), List.flatMap_cons, List.append_assoc]
    rfl
theorem finW_ok {L : List (List Int)} (h : (allP L).length ≤ 100000) : finW (allP L) = some (compL (sortL (allP L))) := by
  unfold finW
  rw [if_pos (show pairs2 (allP L) = true from List.all_eq_true.mpr fun x hx => by simp [allP_two hx]), if_pos (by omega)]
theorem allP_len : ∀ (L : List (List Int)), (∀ r ∈ L, r.length ≤ 30) → (allP L).length ≤ 30 * L.length
  | [], _ => by simp [allP]
  | r :: L, h => by
    have := allP_len L (fun x hx => h x (List.mem_cons_of_mem _ hx))
    have h2 := h r List.mem_cons_self
    unfold allP at *
    rw [List.flatMap_cons, List.length_append, adj, adjd_len, List.length_cons]
    omega
theorem spec_w1 (w : Int) (l : List (List Int)) (r : List Int) (N : Nat) (hN : N ≤ 100) (hr : ∀ j : Int, 0 ≤ j → j < r.length → 0 ≤ rd r j ∧ rd r j < N) (hl : r.length ≤ 30) (out : List (List Int)) (x10 : Int) (d : Nat) : ∀ (k : Nat) (i : Int) (on : List Bool), 1 ≤ i → (d = 0 → (r.length : Int) ≤ i) → (0 < d → i + d = r.length) → on.length = N * N →
    spec_WaitsOf.l1 (k + d + 1) w l out (N : Int) on x10 r i = spec_WaitsOf.l0 k w l out (N : Int) ((adjd r i d).foldl (setP N) on) (wrap64 (x10 + 1)) := by
  induction d with
  | zero =>
    intro k i on h1 h2 _ _
    have := h2 rfl
    rw [show k + 0 + 1 = k + 1 by omega, spec_WaitsOf.l1, if_neg (by omega), adjd]
    rfl
  | succ d ih =>
    intro k i on h1 _ h3 h4
    have h5 := h3 (by omega)
    obtain ⟨a0, a1⟩ := hr (i - 1) (by omega) (by omega)
    obtain ⟨b0, b1⟩ := hr i (by omega) (by omega)
    obtain ⟨a, ha⟩ : ∃ a : Nat, rd r (i - 1) = a := ⟨(rd r (i - 1)).toNat, by omega⟩
    obtain ⟨b, hb⟩ : ∃ b : Nat, rd r i = b := ⟨(rd r i).toNat, by omega⟩
    have hlt : a * N + b < N * N := by
      calc a * N + b < a * N + N := by omega
        _ = (a + 1) * N := by rw [Nat.add_mul, Nat.one_mul]
        _ ≤ N * N := Nat.mul_le_mul_right _ (by omega)
    have hNN : N * N ≤ 10000 := by
      calc N * N ≤ 100 * 100 := Nat.mul_le_mul hN hN
        _ = 10000 := rfl
    have hc : codeP N [rd r (i - 1), rd r i] = a * N + b := by
      show (rd r (i - 1)).toNat * N + (rd r i).toNat = _
      rw [ha, hb]
      rfl
    have he : wrap64 (wrap64 (rd r (i - 1) * (N : Int)) + rd r i) = ((a * N + b : Nat) : Int) := by
      rw [ha, hb, show (a : Int) * (N : Int) = ((a * N : Nat) : Int) by rw [Int.natCast_mul], w_in (n := ((a * N : Nat) : Int)) (by omega) (by omega), show ((a * N : Nat) : Int) + (b : Int) = ((a * N + b : Nat) : Int) by omega, w_in (by omega) (by omega)]
    rw [show k + (d + 1) + 1 = (k + d + 1) + 1 by omega, spec_WaitsOf.l1, if_pos (by omega), w_in (n := i - 1) (by omega) (by omega), if_pos (by omega), if_pos (by omega), if_pos (by omega), he, if_pos (by omega), if_pos (by rw [h4]; omega), w_in (n := i + 1) (by omega) (by omega),
      Int.toNat_natCast, ih k (i + 1) _ (by omega) (by omega) (by omega) (by rw [List.length_set]; exact h4), adjd, List.foldl_cons]
    unfold setP
    rw [hc]
theorem spec_w2 (N : Nat) (hN : N ≤ 100) (hN0 : 0 < N) (on : List Bool) (hon : on.length = N * N) (d : Nat) : ∀ (k : Nat) (c : Nat) (out : List (List Int)), c + d = N * N → out.length + d ≤ 100000 → d < k →
    spec_WaitsOf.l2 k out (N : Int) on c = some (out ++ specL N on c d) := by
  have hNN : N * N ≤ 10000 := by
    calc N * N ≤ 100 * 100 := Nat.mul_le_mul hN hN
      _ = 10000 := rfl
  have hw : wrap64 ((N : Int) * (N : Int)) = ((N * N : Nat) : Int) := by rw [← Int.natCast_mul]; exact w_in (by omega) (by omega)
  induction d with
  | zero =>
    intro k c out h1 ho hk
    obtain ⟨k, rfl⟩ : ∃ m, k = m + 1 := ⟨k - 1, by omega⟩
    rw [spec_WaitsOf.l2, hw, if_neg (by omega), specL, List.append_nil]
  | succ d ih =>
    intro k c out h1 ho hk
    obtain ⟨k, rfl⟩ : ∃ m, k = m + 1 := ⟨k - 1, by omega⟩
    have e1 : wrap64 ((c : Int) + 1) = ((c + 1 : Nat) : Int) := by rw [w_in (by omega) (by omega)]; omega
    have hq : c / N ≤ c := Nat.div_le_self c N
    have hq2 : wrap64 ((c / N : Nat) : Int) = ((c / N : Nat) : Int) := by generalize c / N = q at hq; exact w_in (by omega) (by omega)
    rw [spec_WaitsOf.l2, hw, if_pos (by omega), if_pos (by omega), if_pos (by rw [hon]; omega), specL]
    by_cases hb : rdOf false on c = true
    · rw [if_pos hb, if_pos hb, if_neg (by omega), if_pos (by omega), ← Int.ofNat_tdiv, ← Int.ofNat_tmod, hq2, e1, ih k (c + 1) _ (by omega) (by rw [List.length_append]; simp; omega) (by omega), List.append_assoc]
      rfl
    · rw [if_neg hb, if_neg hb, e1, ih k (c + 1) _ (by omega) (by omega) (by omega)]
theorem spec_w0 (w h : Int) (l : List (List Int)) (ha : ∀ x ∈ l, wayv w h x = true) (hl : l.length ≤ 12) (N : Nat) (hNe : (N : Int) = 4 * (w * h)) (hN : N ≤ 100) (hN0 : 0 < N) (d : Nat) : ∀ (k : Nat) (i : Int) (on : List Bool), 0 ≤ i → i + d = l.length → on.length = N * N → d * 40 + 10100 < k →
    spec_WaitsOf.l0 k w l [] (N : Int) on i = some (specL N ((((l.drop i.toNat).map (wof w)).flatMap adj).foldl (setP N) on) 0 (N * N)) := by
  induction d with
  | zero =>
    intro k i on h0 h1 ho hk
    obtain ⟨k, rfl⟩ : ∃ m, k = m + 1 := ⟨k - 1, by omega⟩
    have hNN : N * N ≤ 10000 := by
      calc N * N ≤ 100 * 100 := Nat.mul_le_mul hN hN
        _ = 10000 := rfl
    have := spec_w2 N hN hN0 on ho (N * N) k 0 [] (by omega) (by simp; omega) (by omega)
    rw [spec_WaitsOf.l0, if_neg (by omega), List.drop_eq_nil_of_le (by omega)]
    exact this
  | succ d ih =>
    intro k i on h0 h1 ho hk
    have hv := ha _ (rdl_mem (l := l) h0 (by omega))
    obtain ⟨g1, g2, g3⟩ := wof_good hv hNe
    obtain ⟨k, rfl⟩ : ∃ m, k = (m + ((wof w (rd_L2 l i)).length - 1) + 1) + 1 := ⟨k - 2 - ((wof w (rd_L2 l i)).length - 1), by omega⟩
    rw [spec_WaitsOf.l0, if_pos (by omega), if_pos (by omega), bs (spec_wof hv (by omega)), spec_w1 w l (wof w (rd_L2 l i)) N hN g2 g1 [] i _ k 1 on (by omega) (by omega) (by omega) ho, w_in (n := i + 1) (by omega) (by omega),
      ih k (i + 1) _ (by omega) (by omega) (by rw [setP_len]; exact ho) (by omega), rdl_at h0 (by omega), List.map_cons, List.flatMap_cons, List.foldl_append]
    rfl
def waitsR (w h : Int) (l : List (List Int)) : List (List Int) := if goodw w h l = true then compL (sortL (allP (l.map (wof w)))) else []
theorem good_open {w h : Int} {l : List (List Int)} (g : goodw w h l = true) : (∀ x ∈ l, wayv w h x = true) ∧ (1 ≤ w ∧ w ≤ 5) ∧ (1 ≤ h ∧ h ≤ 5) ∧ l.length ≤ 12 := by
  unfold goodw fab at g
  simp only [Bool.and_eq_true, decide_eq_true_eq, List.all_eq_true] at g
  exact ⟨g.1.1, g.1.2.1, g.1.2.2, by omega⟩
theorem good_N {w h : Int} (hw : 1 ≤ w ∧ w ≤ 5) (hh : 1 ≤ h ∧ h ≤ 5) : ∃ N : Nat, (N : Int) = 4 * (w * h) ∧ N ≤ 100 ∧ 0 < N ∧ wrap64 (wrap64 (4 * w) * h) = (N : Int) := by
  have h1 : 1 ≤ w * h ∧ w * h ≤ 25 := by
    obtain ⟨a, b⟩ := hw
    obtain ⟨c, d⟩ := hh
    have h5 : w = 1 ∨ w = 2 ∨ w = 3 ∨ w = 4 ∨ w = 5 := by omega
    rcases h5 with rfl | rfl | rfl | rfl | rfl <;> omega
  refine ⟨(4 * (w * h)).toNat, by omega, by omega, by omega, ?_⟩
  rw [w_in (n := 4 * w) (by omega) (by omega), Int.mul_assoc, w_in (by omega) (by omega)]
  omega
theorem allP_good {w h : Int} {l : List (List Int)} (g : goodw w h l = true) {N : Nat} (hN : (N : Int) = 4 * (w * h)) : ∀ p ∈ allP (l.map (wof w)), 0 ≤ rd p 0 ∧ rd p 0 < N ∧ 0 ≤ rd p 1 ∧ rd p 1 < N := by
  intro p hp
  obtain ⟨r, hr, hpr⟩ := List.mem_flatMap.mp hp
  obtain ⟨x, hx, rfl⟩ := List.mem_map.mp hr
  obtain ⟨g1, g2, g3⟩ := wof_good ((good_open g).1 x hx) hN
  obtain ⟨j, hj, rfl⟩ := (mem_adjd _ _ _ _).mp hpr
  have e0 : rd [rd (wof w x) (1 + (j : Int) - 1), rd (wof w x) (1 + (j : Int))] 0 = rd (wof w x) (1 + (j : Int) - 1) := rfl
  have e1 : rd [rd (wof w x) (1 + (j : Int) - 1), rd (wof w x) (1 + (j : Int))] 1 = rd (wof w x) (1 + (j : Int)) := rfl
  rw [e0, e1]
  have q0 := g2 (1 + (j : Int) - 1) (by omega) (by omega)
  have q1 := g2 (1 + (j : Int)) (by omega) (by omega)
  exact ⟨q0.1, q0.2, q1.1, q1.2⟩
theorem waitsR_two {w h : Int} {l : List (List Int)} : ∀ x ∈ waitsR w h l, x.length = 2 := by
  intro x hx
  unfold waitsR at hx
  split at hx
  · exact allP_two (mem_sortL.mp (mem_compL.mp hx))
  · simp at hx
theorem waitsR_len (w h : Int) (l : List (List Int)) : (waitsR w h l).length ≤ 10000 := by
  unfold waitsR
  split
  · rename_i g
    obtain ⟨g1, g2, g3, g4⟩ := good_open g
    obtain ⟨N, hN, hN1, hN2, hN3⟩ := good_N g2 g3
    rw [waits_one (allP_good g hN)]
    have := specL_len N ((allP (l.map (wof w))).foldl (setP N) (List.replicate (N * N) false)) (N * N) 0
    have hNN : N * N ≤ 10000 := by
      calc N * N ≤ 100 * 100 := Nat.mul_le_mul hN1 hN1
        _ = 10000 := rfl
    omega
  · simp
theorem impl_waits {w h : Int} {l : List (List Int)} {M : Nat} (hM : ∀ x ∈ l, x.length ≤ M) (hMb : M ≤ 2000000) {k : Nat} (hk : M + 20000 < k) : impl_WaitsOf.f k w h l = some (waitsR w h l) := by
  unfold impl_WaitsOf.f waitsR
  rw [bs (impl_wires_ok hM hMb (by omega))]
  by_cases g : goodw w h l = true
  · obtain ⟨g1, g2, g3, g4⟩ := good_open g
    obtain ⟨N, hN, hN1, hN2, hN3⟩ := good_N g2 g3
    have hL : ∀ r ∈ l.map (wof w), r.length ≤ 30 := fun r hr => by obtain ⟨x, hx, rfl⟩ := List.mem_map.mp hr; exact (wof_good (g1 x hx) hN).1
    have hlen := allP_len (l.map (wof w)) hL
    rw [List.length_map] at hlen
    have h0 := impl_w0 (l.map (wof w)) hL (by rw [List.length_map]; exact g4) l.length k 0 [] (by omega) (by rw [List.length_map]; omega) (by simp; omega) (by omega)
    rw [if_pos g, if_pos g]
    dsimp only
    have e : ([] ++ ((l.map (wof w)).drop (0 : Int).toNat).flatMap adj) = allP (l.map (wof w)) := rfl
    rw [List.length_map] at h0
    rw [if_pos rfl, List.length_map, h0, e]
    exact finW_ok (by omega)
  · rw [if_neg g, if_neg g]
    dsimp only
    rw [if_neg (by decide)]
theorem spec_waits {w h : Int} {l : List (List Int)} {M : Nat} (hM : ∀ x ∈ l, x.length ≤ M) (hMb : M ≤ 2000000) (hl : l.length ≤ 2000000) {k : Nat} (hk : l.length + M + 20000 < k) : spec_WaitsOf.f k w h l = some (waitsR w h l) := by
  unfold spec_WaitsOf.f waitsR
  rw [bs rfl, bs (ways_ok hM hMb hl (by omega))]
  by_cases g : goodw w h l = true
  · obtain ⟨g1, g2, g3, g4⟩ := good_open g
    obtain ⟨N, hN, hN1, hN2, hN3⟩ := good_N g2 g3
    have hNN : N * N ≤ 10000 := by
      calc N * N ≤ 100 * 100 := Nat.mul_le_mul hN1 hN1
        _ = 10000 := rfl
    have hw : wrap64 ((N : Int) * (N : Int)) = ((N * N : Nat) : Int) := by rw [← Int.natCast_mul]; exact w_in (by omega) (by omega)
    have h0 := spec_w0 w h l g1 g4 N hN hN1 hN2 l.length k 0 (List.replicate (N * N) false) (by omega) (by omega) (by simp) (by omega)
    rw [if_pos g, if_pos g, hN3, hw, if_pos (by omega), Int.toNat_natCast, if_pos (by omega), h0, waits_one (allP_good g hN)]
    rfl
  · rw [if_neg g, if_neg g]
/-- What answers at some number of rounds answers alike at any greater one. -/
theorem up {α : Type} {f : Nat → Option α} (hm : ∀ k, LeO (f k) (f (k + 1))) {k K : Nat} {v : α} (h : f k = some v) (hk : k ≤ K) : f K = some v := by
  obtain ⟨d, rfl⟩ := Nat.exists_eq_add_of_le hk
  clear hk
  induction d with
  | zero => exact h
  | succ d ih => exact hm _ _ ih
/-! waiting, step by step -/
def rch (ps : List (List Int)) : Nat → Int → Int → Prop
  | 0, x, y => y ∈ nxt ps x
  | n + 1, x, y => ∃ z, z ∈ nxt ps x ∧ rch ps n z y
def Reach (ps : List (List Int)) (x y : Int) : Prop := ∃ n, rch ps n x y
theorem reach_one {ps : List (List Int)} {x y : Int} (h : y ∈ nxt ps x) : Reach ps x y := ⟨0, h⟩
theorem reach_cons {ps : List (List Int)} {x y z : Int} (h : y ∈ nxt ps x) (h2 : Reach ps y z) : Reach ps x z := by
  obtain ⟨n, h2⟩ := h2
  exact ⟨n + 1, y, h, h2⟩
theorem reach_snoc {ps : List (List Int)} {y z : Int} (h2 : z ∈ nxt ps y) : ∀ (n : Nat) (x : Int), rch ps n x y → Reach ps x z
  | 0, _, h => reach_cons h (reach_one h2)
  | n + 1, _, h => by
    obtain ⟨u, hu, h⟩ := h
    exact reach_cons hu (reach_snoc h2 n u h)
theorem mem_nxt {ps : List (List Int)} {x y : Int} : y ∈ nxt ps x ↔ ∃ p ∈ ps, rd p 0 = x ∧ rd p 1 = y := by
  unfold nxt
  constructor
  · intro h
    obtain ⟨p, hp, e⟩ := List.mem_map.mp h
    obtain ⟨h1, h2⟩ := List.mem_filter.mp hp
    exact ⟨p, h1, by simpa using h2, e⟩
  · rintro ⟨p, hp, e0, e1⟩
    exact List.mem_map.mpr ⟨p, List.mem_filter.mpr ⟨hp, by simpa using e0⟩, e1⟩
theorem drop1 (n : Int) (r : List Int) : (n :: r).drop (1 : Int).toNat = r := rfl
theorem rd0 (n : Int) (r : List Int) : rd (n :: r) 0 = n := rfl
theorem bfs_true {ps : List (List Int)} {s : Int} : ∀ (k : Nat) (seen : List (Int × Bool)) (todo : List Int), impl_HasRound.l2 k ps s seen todo = some true → ∃ t ∈ todo, t = s ∨ Reach ps t s
  | 0, _, _, h => by simp [impl_HasRound.l2] at h
  | k + 1, seen, [], h => by rw [impl_HasRound.l2, if_neg (by simp)] at h; simp at h
  | k + 1, seen, n :: r, h => by
    rw [impl_HasRound.l2, if_pos (by simp)] at h
    rw [rd0, drop1] at h
    by_cases c1 : (Lit.int .i64 n).wf = true
    · rw [if_pos c1] at h
      by_cases c2 : n = s
      · exact ⟨n, List.mem_cons_self, .inl c2⟩
      · rw [if_neg c2] at h
        by_cases c3 : hget seen n = true
        · rw [if_pos c3] at h
          obtain ⟨t, ht, h2⟩ := bfs_true k _ _ h
          exact ⟨t, List.mem_cons_of_mem _ ht, h2⟩
        · rw [if_neg c3] at h
          by_cases c4 : r.length + (nxt ps n).length < 17592186044416 ∧ seen.length < 17592186044416
          · rw [if_pos c4] at h
            obtain ⟨t, ht, h2⟩ := bfs_true k _ _ h
            rcases List.mem_append.mp ht with ht | ht
            · exact ⟨t, List.mem_cons_of_mem _ ht, h2⟩
            · refine ⟨n, List.mem_cons_self, .inr ?_⟩
              rcases h2 with rfl | h2
              · exact reach_one ht
              · exact reach_cons ht h2
          · rw [if_neg c4] at h; simp at h
    · rw [if_neg c1] at h; simp at h
theorem hget_cons (n : Int) (seen : List (Int × Bool)) (x : Int) : hget ((n, true) :: seen) x = if x = n then true else hget seen x := rfl
theorem bfs_false {ps : List (List Int)} {s : Int} : ∀ (k : Nat) (seen : List (Int × Bool)) (todo : List Int), (∀ v, hget seen v = true → v ≠ s ∧ ∀ y ∈ nxt ps v, hget seen y = true ∨ y ∈ todo) → impl_HasRound.l2 k ps s seen todo = some false →
    ∃ S : Int → Prop, (∀ t ∈ todo, S t) ∧ (∀ v, hget seen v = true → S v) ∧ ∀ v, S v → v ≠ s ∧ ∀ y ∈ nxt ps v, S y
  | 0, _, _, _, h => by simp [impl_HasRound.l2] at h
  | k + 1, seen, [], hi, _ => ⟨fun v => hget seen v = true, fun t ht => by simp at ht, fun _ h => h, fun v hv => ⟨(hi v hv).1, fun y hy => by
      rcases (hi v hv).2 y hy with h | h
      · exact h
      · simp at h⟩⟩
  | k + 1, seen, n :: r, hi, h => by
    rw [impl_HasRound.l2, if_pos (by simp)] at h
    rw [rd0, drop1] at h
    by_cases c1 : (Lit.int .i64 n).wf = true
    · rw [if_pos c1] at h
      by_cases c2 : n = s
      · rw [if_pos c2] at h; simp at h
      · rw [if_neg c2] at h
        by_cases c3 : hget seen n = true
        · rw [if_pos c3] at h
          obtain ⟨S, s1, s2, s3⟩ := bfs_false k seen r (fun v hv => ⟨(hi v hv).1, fun y hy => by
            rcases (hi v hv).2 y hy with h1 | h1
            · exact .inl h1
            · rcases List.mem_cons.mp h1 with rfl | h1
              · exact .inl c3
              · exact .inr h1⟩) h
          refine ⟨S, fun t ht => ?_, s2, s3⟩
          rcases List.mem_cons.mp ht with rfl | ht
          · exact s2 _ c3
          · exact s1 t ht
        · rw [if_neg c3] at h
          by_cases c4 : r.length + (nxt ps n).length < 17592186044416 ∧ seen.length < 17592186044416
          · rw [if_pos c4] at h
            obtain ⟨S, s1, s2, s3⟩ := bfs_false k ((n, true) :: seen) (r ++ nxt ps n) (fun v hv => by
              rw [hget_cons] at hv
              by_cases e : v = n
              · subst e
                exact ⟨c2, fun y hy => .inr (List.mem_append_right _ hy)⟩
              · rw [if_neg e] at hv
                refine ⟨(hi v hv).1, fun y hy => ?_⟩
                rw [hget_cons]
                rcases (hi v hv).2 y hy with h1 | h1
                · left; split
                  · rfl
                  · exact h1
                · rcases List.mem_cons.mp h1 with rfl | h1
                  · left; rw [if_pos rfl]
                  · exact .inr (List.mem_append_left _ h1)) h
            refine ⟨S, fun t ht => ?_, fun v hv => s2 v (by rw [hget_cons]; split; rfl; exact hv), s3⟩
            rcases List.mem_cons.mp ht with rfl | ht
            · exact s2 _ (by rw [hget_cons, if_pos rfl])
            · exact s1 t (List.mem_append_left _ ht)
          · rw [if_neg c4] at h; simp at h
    · rw [if_neg c1] at h; simp at h
theorem closed_reach {ps : List (List Int)} {S : Int → Prop} (hS : ∀ v, S v → ∀ y ∈ nxt ps v, S y) : ∀ (n : Nat) (x y : Int), S x → rch ps n x y → S y
  | 0, x, y, h, hr => hS x h y hr
  | n + 1, x, y, h, hr => by
    obtain ⟨z, hz, hr⟩ := hr
    exact closed_reach hS n z y (hS x h z hz) hr
theorem bfs_iff {ps : List (List Int)} {s : Int} {k : Nat} {b : Bool} (h : impl_HasRound.l2 k ps s [] (nxt ps s) = some b) : b = true ↔ Reach ps s s := by
  constructor
  · rintro rfl
    obtain ⟨t, ht, h2⟩ := bfs_true k _ _ h
    rcases h2 with rfl | h2
    · exact reach_one ht
    · exact reach_cons ht h2
  · intro hr
    cases b with
    | true => rfl
    | false =>
      obtain ⟨S, s1, _, s3⟩ := bfs_false k [] (nxt ps s) (fun v hv => by simp [hget] at hv) h
      obtain ⟨n, hr⟩ := hr
      have : S s := by
        cases n with
        | zero => exact s1 s hr
        | succ n =>
          obtain ⟨z, hz, hr⟩ := hr
          exact closed_reach (fun v hv y hy => (s3 v hv).2 y hy) n z s (s1 z hz) hr
      exact absurd rfl (s3 s this).1
def unseen (ps : List (List Int)) (seen : List (Int × Bool)) : Nat := (ps.filter fun p => !hget seen (rd p 0)).length
theorem unseen_add {seen : List (Int × Bool)} {n : Int} (h : hget seen n = false) : ∀ (ps : List (List Int)), unseen ps ((n, true) :: seen) + (nxt ps n).length = unseen ps seen
  | [] => rfl
  | p :: ps => by
    have ih := unseen_add h ps
    unfold unseen at *
    have e : nxt (p :: ps) n = (if rd p 0 = n then [rd p 1] else []) ++ nxt ps n := by
      unfold nxt
      by_cases e : rd p 0 = n <;> simp [e]
    rw [e, List.length_append, List.filter_cons, List.filter_cons]
    by_cases e2 : rd p 0 = n
    · have h1 : (!hget ((n, true) :: seen) (rd p 0)) = false := by rw [hget_cons, if_pos e2]; rfl
      have h2 : (!hget seen (rd p 0)) = true := by rw [e2, h]; rfl
      rw [if_neg (by rw [h1]; decide), if_pos h2, if_pos e2, List.length_cons, List.length_cons, List.length_nil]
      omega
    · have h1 : (!hget ((n, true) :: seen) (rd p 0)) = (!hget seen (rd p 0)) := by rw [hget_cons, if_neg e2]
      rw [h1, if_neg e2]
      split
      · rw [List.length_cons, List.length_cons, List.length_nil]; omega
      · rw [List.length_nil]; omega
theorem bfs_some {ps : List (List Int)} {s : Int} (hw : ∀ p ∈ ps, (Lit.int .i64 (rd p 1)).wf = true) (hp : ps.length ≤ 100000) : ∀ (m : Nat) (seen : List (Int × Bool)) (todo : List Int), todo.length + unseen ps seen ≤ m → (∀ t ∈ todo, (Lit.int .i64 t).wf = true) → seen.length + m ≤ 1000000 → ∃ k b, impl_HasRound.l2 k ps s seen todo = some b
  | _, seen, [], _, _, _ => ⟨1, false, by rw [impl_HasRound.l2, if_neg (by simp)]⟩
  | 0, _, n :: r, hm, _, _ => by simp at hm
  | m + 1, seen, n :: r, hm, ht, hs => by
    have hn := ht n List.mem_cons_self
    rw [List.length_cons] at hm
    have step : ∀ k, impl_HasRound.l2 (k + 1) ps s seen (n :: r) = if n = s then some true else (if hget seen n = true then (impl_HasRound.l2 k ps s seen r) else (if r.length + (nxt ps n).length < 17592186044416 ∧ seen.length < 17592186044416 then (impl_HasRound.l2 k ps s ((n, true) :: seen) (r ++ nxt ps n)) else none)) := by
      intro k
      rw [impl_HasRound.l2, if_pos (by simp), rd0, drop1, if_pos hn]
    by_cases c2 : n = s
    · exact ⟨1, true, by rw [step, if_pos c2]⟩
    by_cases c3 : hget seen n = true
    · obtain ⟨k, b, hk⟩ := bfs_some hw hp m seen r (by omega) (fun t h => ht t (List.mem_cons_of_mem _ h)) (by omega)
      exact ⟨k + 1, b, by rw [step, if_neg c2, if_pos c3, hk]⟩
    · have hu := unseen_add (Bool.eq_false_iff.mpr c3) ps
      have hl := nxt_len ps n
      obtain ⟨k, b, hk⟩ := bfs_some hw hp m ((n, true) :: seen) (r ++ nxt ps n) (by rw [List.length_append]; omega) (fun t h => by
        rcases List.mem_append.mp h with h | h
        · exact ht t (List.mem_cons_of_mem _ h)
        · obtain ⟨p, hp1, _, e⟩ := mem_nxt.mp h
          rw [← e]; exact hw p hp1) (by rw [List.length_cons]; omega)
      exact ⟨k + 1, b, by rw [step, if_neg c2, if_neg c3, if_pos ⟨by omega, by omega⟩, hk]⟩
/-- What the program answers, with rounds enough. -/
theorem go_some {ps : List (List Int)} (hw : ∀ p ∈ ps, (Lit.int .i64 (rd p 1)).wf = true) (hp : ps.length ≤ 100000) : ∀ (l : List (List Int)), ∃ k r, impl_HasRound.go k ps l = some r ∧ (r = true ↔ ∃ p ∈ l, Reach ps (rd p 0) (rd p 0))
  | [] => ⟨0, false, rfl, by simp⟩
  | p :: l => by
    obtain ⟨k1, r1, h1, e1⟩ := go_some hw hp l
    have hu : unseen ps [] ≤ ps.length := List.length_filter_le _ _
    obtain ⟨k2, b, h2⟩ := bfs_some (s := rd p 0) hw hp ((nxt ps (rd p 0)).length + unseen ps []) [] (nxt ps (rd p 0)) (Nat.le_refl _) (fun t h => by obtain ⟨q, hq, _, e⟩ := mem_nxt.mp h; rw [← e]; exact hw q hq) (by have := nxt_len ps (rd p 0); simp; omega)
    have e2 := bfs_iff h2
    have h3 := up (fun k => impl_HasRound.mono_l k ps (rd p 0) [] (nxt ps (rd p 0))) h2 (Nat.le_add_left k2 k1)
    have h4 := up (fun k => impl_HasRound.mono_go k ps l) h1 (Nat.le_add_right k1 k2)
    refine ⟨k1 + k2, b || r1, by rw [impl_HasRound.go, bs h3, bs h4], ?_⟩
    rw [Bool.or_eq_true, e1, e2]
    constructor
    · rintro (h | ⟨q, hq, h⟩)
      · exact ⟨p, List.mem_cons_self, h⟩
      · exact ⟨q, List.mem_cons_of_mem _ hq, h⟩
    · rintro ⟨q, hq, h⟩
      rcases List.mem_cons.mp hq with rfl | hq
      · exact .inl h
      · exact .inr ⟨q, hq, h⟩
/-! the other side: what leads nowhere is struck till nothing is -/
def sup (L : List (List Int)) (p : List Int) : Bool := L.any fun q => rd q 0 == rd p 1
def Sup (L : List (List Int)) : Prop := ∃ S : List Int → Prop, (∃ p ∈ L, S p) ∧ ∀ p ∈ L, S p → ∃ q ∈ L, S q ∧ rd q 0 = rd p 1
theorem s2_ex (L : List (List Int)) (h2 : ∀ x ∈ L, x.length = 2) (hl : L.length ≤ 10000) (x8 : List (List Int)) (h8 : x8.length ≤ 10000) (x9 : Int) (h9 : 0 ≤ x9) (h9l : x9 < L.length) (v : Bool) (d : Nat) : ∀ (i : Int) (b : Bool), 0 ≤ i → i + d = L.length →
    (∃ k, spec_HasRound.l1 k L (if (b || (L.drop i.toNat).any (fun q => rd q 0 == rd (rd_L2 L x9) 1)) = true then x8 ++ [rd_L2 L x9] else x8) (wrap64 (x9 + 1)) = some v) → ∃ k, spec_HasRound.l2 k L x8 x9 b i = some v := by
  have l9 := h2 _ (rdl_mem (l := L) h9 h9l)
  induction d with
  | zero =>
    intro i b h0 h1 hk
    obtain ⟨k, hk⟩ := hk
    rw [List.drop_eq_nil_of_le (by omega), List.any_nil, Bool.or_false] at hk
    refine ⟨k + 1, ?_⟩
    rw [spec_HasRound.l2, if_neg (by omega)]
    by_cases hb : b = true
    · rw [if_pos hb] at hk ⊢
      rw [if_pos h9, if_pos h9l, if_pos (by omega)]
      exact hk
    · rw [if_neg hb] at hk ⊢
      exact hk
  | succ d ih =>
    intro i b h0 h1 hk
    have li := h2 _ (rdl_mem (l := L) h0 (by omega))
    rw [rdl_at h0 (by omega), List.any_cons] at hk
    cases b with
    | true =>
      obtain ⟨k, hk⟩ := ih (i + 1) true (by omega) (by omega) (by simpa using hk)
      exact ⟨k + 1, by rw [spec_HasRound.l2, if_pos (by omega), if_pos rfl, w_in (by omega) (by omega)]; exact hk⟩
    | false =>
      obtain ⟨k, hk⟩ := ih (i + 1) (rd (rd_L2 L i) 0 == rd (rd_L2 L x9) 1) (by omega) (by omega) (by simpa using hk)
      exact ⟨k + 1, by rw [spec_HasRound.l2, if_pos (by omega), if_neg (by decide), if_pos h0, if_pos (by omega), if_pos h9, if_pos h9l, if_pos (by omega), w_in (n := i + 1) (by omega) (by omega)]; exact hk⟩
theorem s1_ex (L : List (List Int)) (h2 : ∀ x ∈ L, x.length = 2) (hl : L.length ≤ 10000) (v : Bool) (d : Nat) : ∀ (i : Int) (x8 : List (List Int)), 0 ≤ i → i + d = L.length → x8.length + d ≤ 10000 →
    (∃ k, (if ((x8 ++ (L.drop i.toNat).filter (sup L)).length : Int) = (L.length : Int) then some (decide (((x8 ++ (L.drop i.toNat).filter (sup L)).length : Int) > 0)) else spec_HasRound.l0 k (x8 ++ (L.drop i.toNat).filter (sup L))) = some v) → ∃ k, spec_HasRound.l1 k L x8 i = some v := by
  induction d with
  | zero =>
    intro i x8 h0 h1 ho hk
    obtain ⟨k, hk⟩ := hk
    rw [List.drop_eq_nil_of_le (by omega), List.filter_nil, List.append_nil] at hk
    exact ⟨k + 1, by rw [spec_HasRound.l1, if_neg (by omega)]; exact hk⟩
  | succ d ih =>
    intro i x8 h0 h1 ho hk
    rw [rdl_at h0 (by omega), List.filter_cons] at hk
    have hs : (false || (L.drop (0 : Int).toNat).any (fun q => rd q 0 == rd (rd_L2 L i) 1)) = sup L (rd_L2 L i) := rfl
    have key : ∃ k, spec_HasRound.l1 k L (if (false || (L.drop (0 : Int).toNat).any (fun q => rd q 0 == rd (rd_L2 L i) 1)) = true then x8 ++ [rd_L2 L i] else x8) (wrap64 (i + 1)) = some v := by
      rw [hs, w_in (by omega) (by omega)]
      by_cases c : sup L (rd_L2 L i) = true
      · rw [if_pos c]
        rw [if_pos c] at hk
        refine ih (i + 1) (x8 ++ [rd_L2 L i]) (by omega) (by omega) (by rw [List.length_append]; simp; omega) ?_
        rw [List.append_assoc]
        exact hk
      · rw [if_neg c]
        rw [if_neg c] at hk
        exact ih (i + 1) x8 (by omega) (by omega) (by omega) hk
    obtain ⟨k, hk⟩ := s2_ex L h2 hl x8 (by omega) i h0 (by omega) v L.length 0 false (by omega) (by omega) key
    exact ⟨k + 1, by rw [spec_HasRound.l1, if_pos (by omega)]; exact hk⟩
theorem filter_all {α : Type} {p : α → Bool} : ∀ {l : List α}, (l.filter p).length = l.length → ∀ x ∈ l, p x = true
  | y :: l, h, x, hx => by
    rw [List.filter_cons] at h
    have hle := List.length_filter_le p l
    by_cases c : p y = true
    · rw [if_pos c, List.length_cons, List.length_cons] at h
      rcases List.mem_cons.mp hx with rfl | hx
      · exact c
      · exact filter_all (by omega) x hx
    · rw [if_neg c, List.length_cons] at h
      omega
theorem sup_iff {L : List (List Int)} {p : List Int} : sup L p = true ↔ ∃ q ∈ L, rd q 0 = rd p 1 := by
  unfold sup
  rw [List.any_eq_true]
  constructor
  · rintro ⟨q, hq, e⟩; exact ⟨q, hq, by simpa using e⟩
  · rintro ⟨q, hq, e⟩; exact ⟨q, hq, by simpa using e⟩
theorem Sup_prune (L : List (List Int)) : Sup (L.filter (sup L)) ↔ Sup L := by
  constructor
  · rintro ⟨S, ⟨p, hp, hs⟩, h⟩
    refine ⟨fun x => x ∈ L.filter (sup L) ∧ S x, ⟨p, (List.mem_filter.mp hp).1, hp, hs⟩, fun x hx hsx => ?_⟩
    obtain ⟨q, hq, hsq, e⟩ := h x hsx.1 hsx.2
    exact ⟨q, (List.mem_filter.mp hq).1, ⟨hq, hsq⟩, e⟩
  · rintro ⟨S, ⟨p, hp, hs⟩, h⟩
    have hm : ∀ x ∈ L, S x → x ∈ L.filter (sup L) := fun x hx hsx => by
      obtain ⟨q, hq, _, e⟩ := h x hx hsx
      exact List.mem_filter.mpr ⟨hx, sup_iff.mpr ⟨q, hq, e⟩⟩
    refine ⟨S, ⟨p, hm p hp hs, hs⟩, fun x hx hsx => ?_⟩
    obtain ⟨q, hq, hsq, e⟩ := h x (List.mem_filter.mp hx).1 hsx
    exact ⟨q, hm q hq hsq, hsq, e⟩
theorem s0_ex : ∀ (n : Nat) (L : List (List Int)), L.length ≤ n → (∀ x ∈ L, x.length = 2) → L.length ≤ 10000 → ∃ v, (v = true ↔ Sup L) ∧ ∃ k, spec_HasRound.l0 k L = some v := by
  intro n
  induction n with
  | zero =>
    intro L hn h2 hl
    obtain rfl : L = [] := List.eq_nil_of_length_eq_zero (by omega)
    exact ⟨false, ⟨fun h => absurd h (by decide), fun ⟨S, ⟨p, hp, _⟩, _⟩ => by simp at hp⟩, 2, rfl⟩
  | succ n ih =>
    intro L hn h2 hl
    have main : ∀ v, (∃ k, (if ((L.filter (sup L)).length : Int) = (L.length : Int) then some (decide (((L.filter (sup L)).length : Int) > 0)) else spec_HasRound.l0 k (L.filter (sup L))) = some v) → ∃ k, spec_HasRound.l0 k L = some v := by
      intro v hk
      obtain ⟨k, hk⟩ := s1_ex L h2 hl v L.length 0 [] (by omega) (by omega) (by simp; exact hl) hk
      exact ⟨k + 1, by rw [spec_HasRound.l0]; exact hk⟩
    have hle := List.length_filter_le (sup L) L
    by_cases c : (L.filter (sup L)).length = L.length
    · have hall := filter_all c
      refine ⟨decide (((L.filter (sup L)).length : Int) > 0), ?_, main _ ⟨0, by rw [if_pos (by omega)]⟩⟩
      rw [c]
      constructor
      · intro h
        have hpos : 0 < L.length := by have := of_decide_eq_true h; omega
        refine ⟨fun _ => True, ⟨L[0], List.getElem_mem _, trivial⟩, fun p hp _ => ?_⟩
        obtain ⟨q, hq, e⟩ := sup_iff.mp (hall p hp)
        exact ⟨q, hq, trivial, e⟩
      · rintro ⟨S, ⟨p, hp, _⟩, _⟩
        have := List.length_pos_of_mem hp
        exact decide_eq_true (by omega)
    · obtain ⟨v, hv, k, hk⟩ := ih (L.filter (sup L)) (by omega) (fun x hx => h2 x (List.mem_filter.mp hx).1) (by omega)
      exact ⟨v, hv.trans (Sup_prune L), main v ⟨k, by rw [if_neg (by omega)]; exact hk⟩⟩
/-! where something is left waiting goes round -/
theorem round_sup {ps : List (List Int)} {x : Int} (h : Reach ps x x) : Sup ps := by
  refine ⟨fun p => Reach ps (rd p 1) x ∨ rd p 1 = x, ?_, ?_⟩
  · obtain ⟨n, h⟩ := h
    cases n with
    | zero =>
      obtain ⟨p, hp, e0, e1⟩ := mem_nxt.mp h
      exact ⟨p, hp, .inr e1⟩
    | succ n =>
      obtain ⟨z, hz, h⟩ := h
      obtain ⟨p, hp, e0, e1⟩ := mem_nxt.mp hz
      exact ⟨p, hp, .inl ⟨n, by rw [e1]; exact h⟩⟩
  · have hr : ∀ y, (Reach ps y x ∨ y = x) → Reach ps y x := by
      rintro y (h1 | rfl)
      · exact h1
      · exact h
    intro p hp hs
    obtain ⟨n, h1⟩ := hr _ hs
    cases n with
    | zero =>
      obtain ⟨q, hq, e0, e1⟩ := mem_nxt.mp h1
      exact ⟨q, hq, .inr e1, e0⟩
    | succ n =>
      obtain ⟨z, hz, h1⟩ := h1
      obtain ⟨q, hq, e0, e1⟩ := mem_nxt.mp hz
      exact ⟨q, hq, .inl ⟨n, by rw [e1]; exact h1⟩, e0⟩
theorem filter_lt {α : Type} {p q : α → Bool} (hpq : ∀ x, p x = true → q x = true) {y : α} (hy1 : q y = true) (hy2 : p y = false) : ∀ {l : List α}, y ∈ l → (l.filter p).length < (l.filter q).length
  | z :: l, h => by
    have hle : (l.filter p).length ≤ (l.filter q).length := by
      clear h
      induction l with
      | nil => simp
      | cons a l ih =>
        rw [List.filter_cons, List.filter_cons]
        by_cases c : p a = true
        · rw [if_pos c, if_pos (hpq a c), List.length_cons, List.length_cons]; omega
        · rw [if_neg c]
          split
          · rw [List.length_cons]; omega
          · exact ih
    rw [List.filter_cons, List.filter_cons]
    rcases List.mem_cons.mp h with rfl | h
    · rw [if_neg (by rw [hy2]; decide), if_pos hy1, List.length_cons]; omega
    · have ih := filter_lt hpq hy1 hy2 h
      by_cases c : p z = true
      · rw [if_pos c, if_pos (hpq z c), List.length_cons, List.length_cons]; omega
      · rw [if_neg c]
        split
        · rw [List.length_cons]; omega
        · exact ih
open Classical in
/-- How many of the places that are waited for lie ahead of y. -/
noncomputable def fan (ps : List (List Int)) (y : Int) : Nat := (ps.filter fun p => decide (Reach ps y (rd p 1))).length
open Classical in
theorem sup_round {ps : List (List Int)} (h : Sup ps) : ∃ x, Reach ps x x ∧ ∃ p ∈ ps, rd p 0 = x := by
  obtain ⟨S, hex, hS⟩ := h
  have main : ∀ (n : Nat), ∀ p ∈ ps, S p → fan ps (rd p 1) < n → ∃ x, Reach ps x x ∧ ∃ q ∈ ps, rd q 0 = x := by
    intro n
    induction n with
    | zero => intro p _ _ h; omega
    | succ n ih =>
      intro p hp hs hn
      obtain ⟨q, hq, hsq, e⟩ := hS p hp hs
      have hstep : rd q 1 ∈ nxt ps (rd p 1) := mem_nxt.mpr ⟨q, hq, e, rfl⟩
      by_cases hc : Reach ps (rd q 1) (rd q 1)
      · refine ⟨rd q 1, hc, ?_⟩
        obtain ⟨m, hc⟩ := hc
        cases m with
        | zero => obtain ⟨p', hp', e0, _⟩ := mem_nxt.mp hc; exact ⟨p', hp', e0⟩
        | succ m => obtain ⟨z, hz, _⟩ := hc; obtain ⟨p', hp', e0, _⟩ := mem_nxt.mp hz; exact ⟨p', hp', e0⟩
      · have hlt : fan ps (rd q 1) < fan ps (rd p 1) := by
          unfold fan
          exact filter_lt (p := fun x => decide (Reach ps (rd q 1) (rd x 1))) (q := fun x => decide (Reach ps (rd p 1) (rd x 1))) (y := q) (fun x hx => decide_eq_true (reach_cons hstep (of_decide_eq_true hx))) (decide_eq_true (reach_one hstep)) (decide_eq_false hc) hq
        exact ih q hq hsq (by omega)
  obtain ⟨p, hp, hs⟩ := hex
  exact main _ p hp hs (Nat.lt_succ_self _)
theorem sup_iff_round {ps : List (List Int)} : Sup ps ↔ ∃ p ∈ ps, Reach ps (rd p 0) (rd p 0) := by
  constructor
  · intro h
    obtain ⟨x, hx, p, hp, rfl⟩ := sup_round h
    exact ⟨p, hp, hx⟩
  · rintro ⟨p, _, h⟩
    exact round_sup h
theorem wf_small {x : Int} (h0 : 0 ≤ x) (h1 : x < 100) : (Lit.int .i64 x).wf = true := by
  have h : ∀ n : Nat, n < 100 → (Lit.int .i64 (n : Int)).wf = true := by decide +kernel
  obtain ⟨n, rfl⟩ : ∃ n : Nat, x = n := ⟨x.toNat, by omega⟩
  exact h n (by omega)
theorem waitsR_small {w h : Int} {l : List (List Int)} : ∀ p ∈ waitsR w h l, p.length = 2 ∧ 0 ≤ rd p 0 ∧ rd p 0 < 100 ∧ 0 ≤ rd p 1 ∧ rd p 1 < 100 := by
  intro p hp
  refine ⟨waitsR_two p hp, ?_⟩
  unfold waitsR at hp
  split at hp
  · rename_i g
    obtain ⟨g1, g2, g3, g4⟩ := good_open g
    obtain ⟨N, hN, hN1, hN2, hN3⟩ := good_N g2 g3
    have := allP_good g hN p (mem_sortL.mp (mem_compL.mp hp))
    omega
  · simp at hp
theorem waitsR_ok {w h : Int} {l : List (List Int)} : okR (waitsR w h l) = true := by
  unfold okR hwfAll
  simp only [Bool.and_eq_true, List.all_eq_true, decide_eq_true_eq, beq_iff_eq]
  refine ⟨⟨fun p hp => (waitsR_small p hp).1, fun p hp x hx => ?_⟩, by have := waitsR_len w h l; omega⟩
  obtain ⟨h2, a0, a1, b0, b1⟩ := waitsR_small p hp
  rw [len2 h2] at hx
  rcases List.mem_cons.mp hx with rfl | hx
  · exact wf_small a0 a1
  · rcases List.mem_cons.mp hx with rfl | hx
    · exact wf_small b0 b1
    · simp at hx
/-- Both sides tell alike whether waiting goes round. -/
theorem round_both {w h : Int} {l : List (List Int)} {M : Nat} (hM : ∀ x ∈ l, x.length ≤ M) (hMb : M ≤ 2000000) (hl : l.length ≤ 2000000) : ∃ K r, (r = true ↔ ∃ p ∈ waitsR w h l, Reach (waitsR w h l) (rd p 0) (rd p 0)) ∧ ∀ k, K ≤ k → impl_HasRound.f k w h l = some r ∧ spec_HasRound.f k w h l = some r := by
  have hs := waitsR_small (w := w) (h := h) (l := l)
  obtain ⟨k1, r, h1, e1⟩ := go_some (ps := waitsR w h l) (fun p hp => wf_small (hs p hp).2.2.2.1 (hs p hp).2.2.2.2) (by have := waitsR_len w h l; omega) (waitsR w h l)
  obtain ⟨v, e2, k2, h2⟩ := s0_ex _ (waitsR w h l) (Nat.le_refl _) waitsR_two (waitsR_len w h l)
  have hv : v = r := by
    rw [sup_iff_round] at e2
    have := e2.trans e1.symm
    cases v <;> cases r <;> simp_all
  subst hv
  refine ⟨l.length + M + 20001 + k1 + k2, v, e1, fun k hk => ⟨?_, ?_⟩⟩
  · unfold impl_HasRound.f
    rw [bs (impl_waits hM hMb (by omega)), if_pos waitsR_ok]
    exact up (fun k => impl_HasRound.mono_go k _ _) h1 (by omega)
  · unfold spec_HasRound.f
    rw [bs (spec_waits hM hMb hl (by omega))]
    exact up (fun k => (spec_HasRound.mono_l k).1 _) h2 (by omega)

theorem FnExactHasRound : laws_FnExactHasRound.Pure := by
  intro w h l _ _ hl
  have hl1 := hl.1
  have hl2 : ∀ x ∈ l, x.length ≤ 9223372036854775807 := fun x hx => by have := (hl.2 x hx).1; simp only [maxLen] at this; omega
  simp only [maxLen] at hl1
  by_cases c0 : wrap64 (1048576 - (l.length : Int)) < 0
  · refine ⟨0, ?_⟩
    unfold laws_FnExactHasRound.f laws_szIntSS.f
    rw [if_pos c0, bs rfl, if_pos (by omega)]
  have c0' := c0
  rw [w_in (by omega) (by omega)] at c0'
  obtain ⟨r, hr, hrt⟩ := szSS_loop l (by omega) hl2 l.length (l.length + 1) 0 (1048576 - (l.length : Int)) (by omega) (by omega) (by omega) (by omega) (by omega)
  by_cases c1 : r < 0
  · refine ⟨l.length + 1, ?_⟩
    unfold laws_FnExactHasRound.f laws_szIntSS.f
    rw [if_neg c0, w_in (by omega) (by omega), bs hr, if_pos c1]
  have ht := hrt (by omega)
  rw [Int.toNat_zero, List.drop_zero] at ht
  have lb : l.length ≤ 2000000 := by omega
  have tb : tot l ≤ 2000000 := by omega
  have hM : ∀ x ∈ l, x.length ≤ tot l := fun x hx => tot_mem hx
  obtain ⟨K, v, _, hv⟩ := round_both (w := w) (h := h) hM tb lb
  obtain ⟨k, hk⟩ : ∃ k, l.length + tot l + 100000 + K < k := ⟨_, Nat.lt_succ_self _⟩
  obtain ⟨v1, v2⟩ := hv k (by omega)
  have t1 : laws_toIntSS.f k l = some l := toSS_ok lb hM tb (by omega)
  obtain ⟨r', hr', _⟩ := szSS_loop l (by omega) hl2 l.length k 0 (1048576 - (l.length : Int)) (by omega) (by omega) (by omega) (by omega) (by omega)
  refine ⟨k, ?_⟩
  unfold laws_FnExactHasRound.f laws_szIntSS.f
  rw [if_neg c0, w_in (by omega) (by omega), bs hr']
  by_cases c2 : r' < 0
  · rw [if_pos c2]
  rw [if_neg c2, bs t1, bs v2, bs t1, bs v1, if_neg (by simp), bs t1, bs (eqSS_ok lb hM tb (by omega)), if_pos rfl]

end Go.Proofs.Ytdbokdodjekchaa.Pure
