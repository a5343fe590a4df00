/- What both sides of FnExactWayValid compute, in plain Lean. -/
import Derived.Test.YtmakbieljmldfaaPFnExactWayValidx4
import Derived.Laws.BitsLemmas
import Derived.OpenShut
namespace Go.Proofs.Ytmakbieljmldfaa.Pure
set_option linter.unusedVariables false
set_option linter.unusedSimpArgs false
open Go.RowKit Go.OpenShut Go.Proofs.Ytmakbieljmldfaa.PFnExactWayValid Go.Proofs.YtmakbieljmldfaaW.PrintWords Go.Proofs.YtmakbieljmldfaaW.PrintLast

theorem w_in {n : Int} (h0 : -9223372036854775808 ≤ n) (h1 : n ≤ 9223372036854775807) : wrap64 n = n := by unfold wrap64; omega

theorem allO_total {α : Type} {p : α → Option Bool} {q : α → Bool} : ∀ (l : List α), (∀ x ∈ l, p x = some (q x)) → allO p l = some (l.all q)
  | [], _ => rfl
  | x :: xs, h => by
    have ih := allO_total xs (fun y hy => h y (List.mem_cons_of_mem _ hy))
    simp only [allO, h x (List.mem_cons_self), Option.bind_some, List.all_cons]
    cases q x
    · simp
    · simpa using ih

theorem rd_at {l : List Int} {i : Int} (h0 : 0 ≤ i) (h : i.toNat < l.length) : l.drop i.toNat = rd l i :: l.drop (i + 1).toNat := by
  rw [List.drop_eq_getElem_cons h, show (i + 1).toNat = i.toNat + 1 by omega]
  unfold rd
  rw [List.getD_eq_getElem?_getD, List.getElem?_eq_getElem h]
  rfl
theorem rd_mem {l : List Int} {i : Int} (h0 : 0 ≤ i) (h : i < l.length) : rd l i ∈ l := by
  unfold rd
  rw [List.getD_eq_getElem?_getD, List.getElem?_eq_getElem (by omega)]
  exact List.getElem_mem _

theorem s_in (a b c : Int) : spec_l1In.f a b c = some (decide (b ≤ a ∧ a ≤ c)) := by
  unfold spec_l1In.f
  by_cases h : b ≤ a <;> simp [h]
theorem i_in (a b c : Int) : impl_within.f a b c = some (decide (b ≤ a ∧ a ≤ c)) := by
  unfold impl_within.f
  by_cases h : b ≤ a <;> simp [h]
theorem toInt_loop (l : List Int) (hl : l.length ≤ 9223372036854775806) (d : Nat) : ∀ (k : Nat) (i : Int) (x : List Int), 0 ≤ i → i + d = l.length → d < k → x.length = l.length → x.take i.toNat = l.take i.toNat →
    laws_toIntS.l0 k l x i = some l := by
  induction d with
  | zero =>
    intro k i x h0 h1 hk hx ht
    obtain ⟨k, rfl⟩ : ∃ m, k = m + 1 := ⟨k - 1, by omega⟩
    simp only [laws_toIntS.l0]
    rw [if_neg (by omega)]
    rw [List.take_of_length_le (by omega), List.take_of_length_le (by omega)] at ht
    rw [ht]
  | succ d ih =>
    intro k i x h0 h1 hk hx ht
    obtain ⟨k, rfl⟩ : ∃ m, k = m + 1 := ⟨k - 1, by omega⟩
    simp only [laws_toIntS.l0]
    rw [if_pos (by omega), if_pos h0, if_pos (by omega), w_in (by omega) (by omega)]
    refine ih k (i + 1) _ (by omega) (by omega) (by omega) (by simpa using hx) ?_
    have e : (i + 1).toNat = i.toNat + 1 := by omega
    have hi : i.toNat < l.length := by omega
    rw [e, List.take_succ_eq_append_getElem (by simpa [hx] using hi), List.take_succ_eq_append_getElem hi, List.getElem_set_self, List.take_set_of_le (Nat.le_refl _), ht]
    congr 2
    unfold rd
    rw [List.getD_eq_getElem?_getD, List.getElem?_eq_getElem hi]
    rfl
theorem toInt_ok {l : List Int} (hl : l.length ≤ 35184372088832) {k : Nat} (hk : l.length < k) : laws_toIntS.f k l = some l := by
  unfold laws_toIntS.f
  rw [if_pos (by omega), if_pos (by omega)]
  exact toInt_loop l (by omega) l.length k 0 _ (by omega) (by omega) hk (by simp) (by simp)

theorem eqInt_loop (l : List Int) (hl : l.length ≤ 9223372036854775806) (d : Nat) : ∀ (k : Nat) (i : Int), 0 ≤ i → i + d = l.length → d < k → laws_eqIntS.l0 k l l i = some true := by
  induction d with
  | zero =>
    intro k i h0 h1 hk
    obtain ⟨k, rfl⟩ : ∃ m, k = m + 1 := ⟨k - 1, by omega⟩
    simp only [laws_eqIntS.l0]
    rw [if_neg (by omega)]
  | succ d ih =>
    intro k i h0 h1 hk
    obtain ⟨k, rfl⟩ : ∃ m, k = m + 1 := ⟨k - 1, by omega⟩
    simp only [laws_eqIntS.l0]
    rw [if_pos (by omega), if_pos h0, if_pos (by omega), if_pos trivial, w_in (by omega) (by omega)]
    exact ih k (i + 1) (by omega) (by omega) (by omega)
theorem eqInt_ok {l : List Int} (hl : l.length ≤ 35184372088832) {k : Nat} (hk : l.length < k) : laws_eqIntS.f k l l = some true := by
  unfold laws_eqIntS.f
  rw [if_pos rfl]
  exact eqInt_loop l (by omega) l.length k 0 (by omega) (by omega) hk

theorem wire_l0 (a d0 d1 : Int) : impl_fabric_wire.l0 5 a d0 d1 0 = if d0 = 1 ∧ d1 = 0 then some (wrap64 (wrap64 (4 * a) + 0)) else if d0 = -1 ∧ d1 = 0 then some (wrap64 (wrap64 (4 * a) + 1)) else if d0 = 0 ∧ d1 = 1 then some (wrap64 (wrap64 (4 * a) + 2)) else if d0 = 0 ∧ d1 = -1 then some (wrap64 (wrap64 (4 * a) + 3)) else some (-1) := by
  rfl
def nodes (w h a b : Int) : Bool := decide (1 ≤ w ∧ w ≤ 5) && decide (1 ≤ h ∧ h ≤ 5) && decide (0 ≤ a ∧ a ≤ wrap64 (wrap64 (w * h) - 1)) && decide (0 ≤ b ∧ b ≤ wrap64 (wrap64 (w * h) - 1))
theorem spec_nodes (w h a b : Int) : spec_l16Nodes.f w h a b = some (nodes w h a b) := by
  unfold spec_l16Nodes.f spec_l16Fabric.f nodes
  simp only [s_in, Option.bind_some]
  generalize decide (1 ≤ w ∧ w ≤ 5) = x
  generalize decide (1 ≤ h ∧ h ≤ 5) = y
  generalize decide (0 ≤ a ∧ a ≤ wrap64 (wrap64 (w * h) - 1)) = z
  generalize decide (0 ≤ b ∧ b ≤ wrap64 (wrap64 (w * h) - 1)) = u
  cases x <;> cases y <;> cases z <;> cases u <;> rfl
theorem small {w h n : Int} (h1 : 1 ≤ w ∧ w ≤ 5) (h2 : 1 ≤ h ∧ h ≤ 5) (h3 : 0 ≤ n ∧ n ≤ wrap64 (wrap64 (w * h) - 1)) : 0 ≤ n ∧ n ≤ 24 := by
  have e : 0 ≤ w * h ∧ w * h ≤ 25 := by
    have hh : h = 1 ∨ h = 2 ∨ h = 3 ∨ h = 4 ∨ h = 5 := by omega
    rcases hh with rfl | rfl | rfl | rfl | rfl <;> omega
  rw [w_in (n := w * h) (by omega) (by omega), w_in (n := w * h - 1) (by omega) (by omega)] at h3
  omega
theorem tm {n w : Int} (h0 : 0 ≤ n ∧ n ≤ 24) (hw : 1 ≤ w ∧ w ≤ 5) : (0 ≤ Int.tmod n w ∧ Int.tmod n w ≤ 4) ∧ (0 ≤ Int.tdiv n w ∧ Int.tdiv n w ≤ 24) := by
  rw [Int.tmod_eq_emod_of_nonneg h0.1, Int.tdiv_eq_ediv_of_nonneg h0.1]
  have a := Int.emod_nonneg n (show w ≠ 0 by omega)
  have b := Int.emod_lt_of_pos n (show 0 < w by omega)
  have c := Int.ediv_nonneg h0.1 (show 0 ≤ w by omega)
  have d := Int.ediv_le_self w h0.1
  exact ⟨⟨a, by omega⟩, ⟨c, by omega⟩⟩
theorem wires (a ax ay bx by_ : Int) (hax : 0 ≤ ax ∧ ax ≤ 4) (hay : 0 ≤ ay ∧ ay ≤ 24) (hbx : 0 ≤ bx ∧ bx ≤ 4) (hby : 0 ≤ by_ ∧ by_ ≤ 24) (ha : 0 ≤ a ∧ a ≤ 24) (k : Nat) :
    (if ay = by_ then spec_l16Wire.j0 (k + 3) a ax ay bx by_ (bx == wrap64 (ax + 1)) else spec_l16Wire.j0 (k + 3) a ax ay bx by_ false) = impl_fabric_wire.l0 5 a (wrap64 (bx - ax)) (wrap64 (by_ - ay)) 0 := by
  rw [wire_l0, w_in (n := bx - ax) (by omega) (by omega), w_in (n := by_ - ay) (by omega) (by omega), w_in (n := ax + 1) (by omega) (by omega)]
  simp only [spec_l16Wire.j0, spec_l16Wire.j1, spec_l16Wire.j2]
  rw [w_in (n := 4 * a) (by omega) (by omega), w_in (n := 4 * a + 0) (by omega) (by omega), w_in (n := ax - 1) (by omega) (by omega), w_in (n := ay + 1) (by omega) (by omega), w_in (n := ay - 1) (by omega) (by omega), Int.add_zero]
  by_cases e1 : ay = by_
  · by_cases e2 : bx = ax + 1
    · have q : (bx == ax + 1) = true := beq_iff_eq.mpr e2
      rw [if_pos e1, if_pos q, if_pos (show (bx - ax = 1 ∧ by_ - ay = 0) by omega)]
    · have q : ¬ ((bx == ax + 1) = true) := by simpa using e2
      rw [if_pos e1, if_neg q, if_pos e1, if_neg (show ¬ (bx - ax = 1 ∧ by_ - ay = 0) by omega)]
      by_cases e3 : bx = ax - 1
      · have q : (bx == ax - 1) = true := beq_iff_eq.mpr e3
        rw [if_pos q, if_pos (show (bx - ax = -1 ∧ by_ - ay = 0) by omega)]
      · have q : ¬ ((bx == ax - 1) = true) := by simpa using e3
        rw [if_neg q, if_neg (show ¬ (bx - ax = -1 ∧ by_ - ay = 0) by omega), if_neg (show ¬ (bx - ax = 0 ∧ by_ - ay = 1) by omega), if_neg (show ¬ (bx - ax = 0 ∧ by_ - ay = -1) by omega)]
        by_cases e4 : ax = bx
        · have q : ¬ ((by_ == ay + 1) = true) := by simp; omega
          rw [if_pos e4, if_neg q, if_pos e4, if_neg (show ¬ by_ = ay - 1 by omega)]
        · rw [if_neg e4, if_neg (show ¬ (false = true) by decide), if_neg e4]
  · rw [if_neg e1, if_neg (show ¬ (false = true) by decide), if_neg e1, if_neg (show ¬ (false = true) by decide), if_neg (show ¬ (bx - ax = 1 ∧ by_ - ay = 0) by omega), if_neg (show ¬ (bx - ax = -1 ∧ by_ - ay = 0) by omega)]
    by_cases e4 : ax = bx
    · rw [if_pos e4]
      by_cases e5 : by_ = ay + 1
      · have q : (by_ == ay + 1) = true := beq_iff_eq.mpr e5
        rw [if_pos q, if_pos (show (bx - ax = 0 ∧ by_ - ay = 1) by omega)]
      · have q : ¬ ((by_ == ay + 1) = true) := by simpa using e5
        rw [if_neg q, if_pos e4, if_neg (show ¬ (bx - ax = 0 ∧ by_ - ay = 1) by omega)]
        by_cases e6 : by_ = ay - 1
        · rw [if_pos e6, if_pos (show (bx - ax = 0 ∧ by_ - ay = -1) by omega)]
        · rw [if_neg e6, if_neg (show ¬ (bx - ax = 0 ∧ by_ - ay = -1) by omega)]
    · rw [if_neg e4, if_neg (show ¬ (false = true) by decide), if_neg e4, if_neg (show ¬ (bx - ax = 0 ∧ by_ - ay = 1) by omega), if_neg (show ¬ (bx - ax = 0 ∧ by_ - ay = -1) by omega)]
def nd (w h x : Int) : Bool := decide (1 ≤ w ∧ w ≤ 5) && decide (1 ≤ h ∧ h ≤ 5) && decide (0 ≤ x ∧ x ≤ wrap64 (wrap64 (w * h) - 1))
theorem nd_open {w h x : Int} (k : nd w h x = true) : (1 ≤ w ∧ w ≤ 5) ∧ (1 ≤ h ∧ h ≤ 5) ∧ (0 ≤ x ∧ x ≤ wrap64 (wrap64 (w * h) - 1)) := by
  simp only [nd, Bool.and_eq_true, decide_eq_true_eq] at k
  exact ⟨k.1.1, k.1.2, k.2⟩
theorem spec_nd (w h x : Int) : spec_l16Nodes.f w h x x = some (nd w h x) := by
  rw [spec_nodes]
  unfold nodes nd
  generalize decide (1 ≤ w ∧ w ≤ 5) = a
  generalize decide (1 ≤ h ∧ h ≤ 5) = b
  generalize decide (0 ≤ x ∧ x ≤ wrap64 (wrap64 (w * h) - 1)) = c
  cases a <;> cases b <;> cases c <;> rfl
theorem impl_nd (w h x : Int) : impl_fabric_node.f w h x = some (nd w h x) := by
  unfold impl_fabric_node.f impl_fabric_valid.f nd
  simp only [i_in, Option.bind_some]
  generalize decide (1 ≤ w ∧ w ≤ 5) = a
  generalize decide (1 ≤ h ∧ h ≤ 5) = b
  generalize decide (0 ≤ x ∧ x ≤ wrap64 (wrap64 (w * h) - 1)) = c
  cases a <;> cases b <;> cases c <;> rfl
def wr16 (w a b : Int) : Option Int := impl_fabric_wire.l0 5 a (wrap64 (Int.tmod b w - Int.tmod a w)) (wrap64 (wrap64 (Int.tdiv b w) - wrap64 (Int.tdiv a w))) 0
theorem wr16_some (w a b : Int) : ∃ v, wr16 w a b = some v := by
  unfold wr16
  rw [wire_l0]
  split
  · exact ⟨_, rfl⟩
  · split
    · exact ⟨_, rfl⟩
    · split
      · exact ⟨_, rfl⟩
      · split <;> exact ⟨_, rfl⟩
theorem spec_wire16 {w h a b : Int} (ka : nd w h a = true) (kb : nd w h b = true) {k : Nat} (hk : 3 ≤ k) : spec_l16Wire.f k w a b = wr16 w a b := by
  obtain ⟨k, rfl⟩ : ∃ q, k = q + 3 := ⟨k - 3, by omega⟩
  have oa := nd_open ka
  have ob := nd_open kb
  have ha := small oa.1 oa.2.1 oa.2.2
  have hb := small ob.1 ob.2.1 ob.2.2
  have ta := tm ha oa.1
  have tb := tm hb oa.1
  have hw : ¬ w = 0 := by omega
  unfold spec_l16Wire.f wr16
  rw [if_neg hw, w_in (n := Int.tdiv a w) (by omega) (by omega), w_in (n := Int.tdiv b w) (by omega) (by omega)]
  exact wires a _ _ _ _ ta.1 ta.2 tb.1 tb.2 ha k
theorem impl_wire16 {w h a b : Int} (ka : nd w h a = true) (kb : nd w h b = true) : impl_fabric_wire.f w h a b = wr16 w a b := by
  have oa := nd_open ka
  have hw : ¬ w = 0 := by omega
  unfold impl_fabric_wire.f wr16
  rw [impl_nd, impl_nd, ka, kb]
  simp only [Option.bind_some, if_true]
  rw [if_neg hw]
def ng (w a b : Int) : Bool := match wr16 w a b with | some v => decide (v < 0) | none => false
theorem ng_eq {w a b v : Int} (h : wr16 w a b = some v) : ng w a b = decide (v < 0) := by unfold ng; rw [h]
/-- Is each wire there, from index i on? -/
def prs (w : Int) (l : List Int) : Int → Nat → Bool
  | _, 0 => true
  | i, d + 1 => (decide (i ≤ 0) || !(ng w (rd l (i - 1)) (rd l i))) && prs w l (i + 1) d
theorem spec_way_loop (w h : Int) (l : List Int) (hl : l.length ≤ 9223372036854775806) (d : Nat) : ∀ (k : Nat) (i : Int), 0 ≤ i → i + d = l.length → d + 5 < k → (i > 0 → nd w h (rd l (i - 1)) = true) →
    spec_WayValid.l0 k w h l i = some ((l.drop i.toNat).all (nd w h) && prs w l i d && decide (1 ≤ (l.length : Int) ∧ (l.length : Int) ≤ 30)) := by
  induction d with
  | zero =>
    intro k i h0 h1 hk hp
    obtain ⟨k, rfl⟩ : ∃ m, k = m + 1 := ⟨k - 1, by omega⟩
    simp only [spec_WayValid.l0, s_in, Option.bind_some]
    rw [if_neg (by omega), List.drop_eq_nil_of_le (by omega)]
    simp only [List.all_nil, prs, Bool.true_and]
  | succ d ih =>
    intro k i h0 h1 hk hp
    obtain ⟨k, rfl⟩ : ∃ m, k = m + 1 := ⟨k - 1, by omega⟩
    rw [rd_at h0 (by omega)]
    simp only [spec_WayValid.l0, spec_nd, Option.bind_some]
    rw [if_pos (by omega), if_pos h0, w_in (n := i - 1) (by omega) (by omega), w_in (n := i + 1) (by omega) (by omega)]
    simp only [List.all_cons, prs]
    by_cases hc : nd w h (rd l i) = true
    · rw [if_pos hc, ih k (i + 1) (by omega) (by omega) (by omega) (fun _ => by rw [show i + 1 - 1 = i by omega]; exact hc)]
      simp only [hc, Bool.true_and]
      by_cases hi : i > 0
      · have e : decide (i ≤ 0) = false := by simp; omega
        obtain ⟨v, hv⟩ := wr16_some w (rd l (i - 1)) (rd l i)
        rw [if_pos hi, if_pos (by omega), if_pos (by omega), spec_wire16 (hp hi) hc (by omega), hv, ng_eq hv, e]
        simp only [Option.bind_some, Bool.false_or]
        by_cases q : v < 0
        · rw [if_pos q]
          simp [q]
        · rw [if_neg q]
          simp [q]
      · have e : decide (i ≤ 0) = true := by simp; omega
        rw [if_neg hi, e]
        simp
    · rw [if_neg hc]
      simp [hc]
theorem rd_all {p : Int → Bool} {l : List Int} (h : l.all p = true) {i : Int} (h0 : 0 ≤ i) (h1 : i < l.length) : p (rd l i) = true := List.all_eq_true.mp h _ (rd_mem h0 h1)
theorem impl_way_loop (w h : Int) (l : List Int) (hl : l.length ≤ 9223372036854775806) (ha : l.all (nd w h) = true) (d : Nat) : ∀ (k : Nat) (i : Int), 1 ≤ i → i + d = l.length → d < k →
    impl_fabric_way.l0 k l i w h = some (prs w l i d) := by
  induction d with
  | zero =>
    intro k i h0 h1 hk
    obtain ⟨k, rfl⟩ : ∃ m, k = m + 1 := ⟨k - 1, by omega⟩
    simp only [impl_fabric_way.l0]
    rw [if_neg (by omega)]
    rfl
  | succ d ih =>
    intro k i h0 h1 hk
    obtain ⟨k, rfl⟩ : ∃ m, k = m + 1 := ⟨k - 1, by omega⟩
    simp only [impl_fabric_way.l0]
    have e : decide (i ≤ 0) = false := by simp; omega
    obtain ⟨v, hv⟩ := wr16_some w (rd l (i - 1)) (rd l i)
    rw [if_pos (by omega), w_in (n := i - 1) (by omega) (by omega), w_in (n := i + 1) (by omega) (by omega), if_pos (by omega), if_pos (by omega), if_pos (by omega), impl_wire16 (rd_all ha (by omega) (by omega)) (rd_all ha (by omega) (by omega)), hv, ih k (i + 1) (by omega) (by omega) (by omega)]
    simp only [Option.bind_some, prs, ng_eq hv, e, Bool.false_or]
    by_cases q : v < 0
    · rw [if_pos q]
      simp [q]
    · rw [if_neg q]
      simp [q]
def wayv (w h : Int) (l : List Int) : Bool := l.all (nd w h) && prs w l 0 l.length && decide (1 ≤ (l.length : Int) ∧ (l.length : Int) ≤ 30)
theorem spec_way {w h : Int} {l : List Int} (hl : l.length ≤ 9223372036854775806) {k : Nat} (hk : l.length + 5 < k) : spec_WayValid.f k w h l = some (wayv w h l) := by
  unfold spec_WayValid.f wayv
  rw [spec_way_loop w h l hl l.length k 0 (by omega) (by omega) hk (fun h => by omega)]
  simp
theorem impl_way {w h : Int} {l : List Int} (hl : l.length ≤ 9223372036854775806) {k : Nat} (hk : l.length + 5 < k) : impl_WayValid.f k w h l = some (wayv w h l) := by
  obtain ⟨k, rfl⟩ : ∃ m, k = m + 1 := ⟨k - 1, by omega⟩
  unfold impl_WayValid.f impl_fabric_way.f all_impl_fabric_node.f wayv
  rw [i_in, allO_total (q := nd w h) l (fun x _ => impl_nd w h x)]
  simp only [Option.bind_some, impl_fabric_way.j0]
  by_cases h1 : 1 ≤ (l.length : Int) ∧ (l.length : Int) ≤ 30
  · rw [if_pos (by simpa using h1)]
    by_cases ha : l.all (nd w h) = true
    · rw [if_neg (by simp only [ha]; decide), impl_way_loop w h l hl ha (l.length - 1) k 1 (by omega) (by omega) (by omega), ha, decide_eq_true h1]
      obtain ⟨n, hn⟩ : ∃ n, l.length = n + 1 := ⟨l.length - 1, by omega⟩
      rw [hn]
      simp [prs]
    · have e : l.all (nd w h) = false := by simpa using ha
      rw [if_pos (by simp only [e]; decide), e]
      rfl
  · rw [if_neg (by simpa using h1), decide_eq_false h1]
    simp

theorem FnExactWayValid : laws_FnExactWayValid.Pure := by
  intro w h l _ _ _ _ _
  refine ⟨l.length + 10, ?_⟩
  unfold laws_FnExactWayValid.f
  by_cases hlen : (l.length : Int) > 1048576
  · rw [if_pos hlen]
  rw [if_neg hlen]
  simp only [toInt_ok (l := l) (k := l.length + 10) (by omega) (by omega), eqInt_ok (l := l) (k := l.length + 10) (by omega) (by omega), spec_way (l := l) (k := l.length + 10) (by omega) (by omega), impl_way (l := l) (k := l.length + 10) (by omega) (by omega), Option.bind_some, if_true, bne_self_eq_false, Bool.false_eq_true, if_false]

end Go.Proofs.Ytmakbieljmldfaa.Pure
