/- What both sides of FnExactRouteYX compute, in plain Lean. -/
import Derived.Test.YtmakbieljmldfaaPFnExactRouteYXx2
import Derived.Laws.BitsLemmas
import Derived.OpenShut
namespace Go.Proofs.Ytmakbieljmldfaa.Pure
open Go.RowKit Go.Proofs.Ytmakbieljmldfaa.PFnExactRouteYX Go.Proofs.YtmakbieljmldfaaW.PrintWords Go.Proofs.YtmakbieljmldfaaW.PrintLast

theorem w_in {n : Int} (h0 : -9223372036854775808 ≤ n) (h1 : n ≤ 9223372036854775807) : wrap64 n = n := by unfold wrap64; omega

theorem bs {α β : Type} {x : Option α} {a : α} {f : α → Option β} (h : x = some a) : x.bind f = f a := by rw [h]; rfl
theorem rd_at {l : List Int} {i : Int} (h0 : 0 ≤ i) (h : i.toNat < l.length) : l.drop i.toNat = rd l i :: l.drop (i + 1).toNat := by
  rw [List.drop_eq_getElem_cons h, show (i + 1).toNat = i.toNat + 1 by omega]
  unfold rd
  rw [List.getD_eq_getElem?_getD, List.getElem?_eq_getElem h]
  rfl
theorem rd_mem {l : List Int} {i : Int} (h0 : 0 ≤ i) (h : i < l.length) : rd l i ∈ l := by
  unfold rd
  rw [List.getD_eq_getElem?_getD, List.getElem?_eq_getElem (by omega)]
  exact List.getElem_mem _

theorem s_in (a b c : Int) : spec_l1In.f a b c = some (decide (b ≤ a ∧ a ≤ c)) := by
  unfold spec_l1In.f
  by_cases h : b ≤ a <;> simp [h]
theorem i_in (a b c : Int) : impl_within.f a b c = some (decide (b ≤ a ∧ a ≤ c)) := by
  unfold impl_within.f
  by_cases h : b ≤ a <;> simp [h]
theorem eqInt_loop (l : List Int) (hl : l.length ≤ 9223372036854775806) (d : Nat) : ∀ (k : Nat) (i : Int), 0 ≤ i → i + d = l.length → d < k → laws_eqIntS.l0 k l l i = some true := by
  induction d with
  | zero =>
    intro k i h0 h1 hk
    obtain ⟨k, rfl⟩ : ∃ m, k = m + 1 := ⟨k - 1, by omega⟩
    simp only [laws_eqIntS.l0]
    rw [if_neg (by omega)]
  | succ d ih =>
    intro k i h0 h1 hk
    obtain ⟨k, rfl⟩ : ∃ m, k = m + 1 := ⟨k - 1, by omega⟩
    simp only [laws_eqIntS.l0]
    rw [if_pos (by omega), if_pos h0, if_pos (by omega), if_pos trivial, w_in (by omega) (by omega)]
    exact ih k (i + 1) (by omega) (by omega) (by omega)
theorem eqInt_ok {l : List Int} (hl : l.length ≤ 35184372088832) {k : Nat} (hk : l.length < k) : laws_eqIntS.f k l l = some true := by
  unfold laws_eqIntS.f
  rw [if_pos rfl]
  exact eqInt_loop l (by omega) l.length k 0 (by omega) (by omega) hk

/-- m, m + 1, .. -/
def seqF (m : Int) (n : Nat) : List Int := (List.range n).map fun (i : Nat) => m + (i : Int)
theorem seqF_len (m : Int) (n : Nat) : (seqF m n).length = n := by simp [seqF]
theorem seqF_succ (m : Int) (n : Nat) : seqF m (n + 1) = seqF m n ++ [m + n] := by simp [seqF, List.range_succ]
theorem seqF_rd (m : Int) (n : Nat) (i : Int) (h0 : 0 ≤ i) (h : i < n) : rd (seqF m n) i = m + i := by
  unfold rd seqF
  rw [List.getD_eq_getElem?_getD, List.getElem?_map, List.getElem?_range (by omega)]
  simp
  omega
theorem mark_loop (m : Int) (hm : 0 ≤ m) (hm2 : m ≤ 1000000000000) (d : Nat) : ∀ (k : Nat) (i : Int) (x : List Int), 0 ≤ i → i + d = x.length → x.length ≤ 1000000000000 → d < k → x.take i.toNat = seqF m i.toNat →
    laws_markIntS.l0 k x (m + i) i = some (m + x.length, seqF m x.length) := by
  induction d with
  | zero =>
    intro k i x h0 h1 hl hk ht
    obtain ⟨k, rfl⟩ : ∃ q, k = q + 1 := ⟨k - 1, by omega⟩
    simp only [laws_markIntS.l0]
    rw [if_neg (by omega)]
    rw [List.take_of_length_le (by omega)] at ht
    have e : i.toNat = x.length := by omega
    rw [e] at ht
    have e2 : i = x.length := by omega
    rw [← ht, ← e2]
  | succ d ih =>
    intro k i x h0 h1 hl hk ht
    obtain ⟨k, rfl⟩ : ∃ q, k = q + 1 := ⟨k - 1, by omega⟩
    simp only [laws_markIntS.l0]
    rw [if_pos (by omega), if_pos h0, w_in (n := i + 1) (by omega) (by omega), w_in (n := m + i + 1) (by omega) (by omega)]
    have e : (i + 1).toNat = i.toNat + 1 := by omega
    have hi : i.toNat < x.length := by omega
    have := ih k (i + 1) (x.set i.toNat (m + i)) (by omega) (by simp; omega) (by simpa using hl) (by omega) (by
      rw [e, List.take_succ_eq_append_getElem (by simpa using hi), List.getElem_set_self, List.take_set_of_le (Nat.le_refl _), ht, seqF_succ]
      congr 2
      omega)
    rw [show m + (i + 1) = m + i + 1 by omega] at this
    simpa using this
theorem mark_ok {l : List Int} {m : Int} (hm : 0 ≤ m) (hm2 : m ≤ 1000000000000) (hl : l.length ≤ 1000000000000) {k : Nat} (hk : l.length < k) : laws_markIntS.f k l m = some (m + l.length, seqF m l.length) := by
  unfold laws_markIntS.f
  have := mark_loop m hm hm2 l.length k 0 l (by omega) (by omega) hl hk (by simp [seqF])
  simpa using this
theorem held_loop (m : Int) (n : Nat) (hm : 0 ≤ m) (hm2 : m ≤ 1000000000000) (hl : n ≤ 1000000000000) (d : Nat) : ∀ (k : Nat) (i : Int), 0 ≤ i → i + d = n → d < k →
    laws_heldIntS.l0 k (seqF m n) (m + i) i = some (m + n) := by
  induction d with
  | zero =>
    intro k i h0 h1 hk
    obtain ⟨k, rfl⟩ : ∃ q, k = q + 1 := ⟨k - 1, by omega⟩
    simp only [laws_heldIntS.l0]
    rw [if_neg (by rw [seqF_len]; omega), show i = (n : Int) by omega]
  | succ d ih =>
    intro k i h0 h1 hk
    obtain ⟨k, rfl⟩ : ∃ q, k = q + 1 := ⟨k - 1, by omega⟩
    simp only [laws_heldIntS.l0]
    rw [if_pos (by rw [seqF_len]; omega), if_pos h0, if_pos (seqF_rd m n i h0 (by omega)), w_in (n := i + 1) (by omega) (by omega), w_in (n := m + i + 1) (by omega) (by omega), show m + i + 1 = m + (i + 1) by omega]
    exact ih k (i + 1) (by omega) (by omega) (by omega)
theorem held_ok {m : Int} {n : Nat} (hm : 0 ≤ m) (hm2 : m ≤ 1000000000000) (hl : n ≤ 1000000000000) {k : Nat} (hk : n < k) : laws_heldIntS.f k (seqF m n) m = some (m + n) := by
  unfold laws_heldIntS.f
  have := held_loop m n hm hm2 hl n k 0 (by omega) (by omega) hk
  simpa using this

def nodes (w h a b : Int) : Bool := decide (1 ≤ w ∧ w ≤ 5) && decide (1 ≤ h ∧ h ≤ 5) && decide (0 ≤ a ∧ a ≤ wrap64 (wrap64 (w * h) - 1)) && decide (0 ≤ b ∧ b ≤ wrap64 (wrap64 (w * h) - 1))
theorem spec_nodes (w h a b : Int) : spec_l16Nodes.f w h a b = some (nodes w h a b) := by
  unfold spec_l16Nodes.f spec_l16Fabric.f nodes
  simp only [s_in, Option.bind_some]
  generalize decide (1 ≤ w ∧ w ≤ 5) = x
  generalize decide (1 ≤ h ∧ h ≤ 5) = y
  generalize decide (0 ≤ a ∧ a ≤ wrap64 (wrap64 (w * h) - 1)) = z
  generalize decide (0 ≤ b ∧ b ≤ wrap64 (wrap64 (w * h) - 1)) = u
  cases x <;> cases y <;> cases z <;> cases u <;> rfl
def nd (w h x : Int) : Bool := decide (1 ≤ w ∧ w ≤ 5) && decide (1 ≤ h ∧ h ≤ 5) && decide (0 ≤ x ∧ x ≤ wrap64 (wrap64 (w * h) - 1))
theorem nd_open {w h x : Int} (k : nd w h x = true) : (1 ≤ w ∧ w ≤ 5) ∧ (1 ≤ h ∧ h ≤ 5) ∧ (0 ≤ x ∧ x ≤ wrap64 (wrap64 (w * h) - 1)) := by
  simp only [nd, Bool.and_eq_true, decide_eq_true_eq] at k
  exact ⟨k.1.1, k.1.2, k.2⟩
theorem impl_nd (w h x : Int) : impl_fabric_node.f w h x = some (nd w h x) := by
  unfold impl_fabric_node.f impl_fabric_valid.f nd
  simp only [i_in, Option.bind_some]
  generalize decide (1 ≤ w ∧ w ≤ 5) = a
  generalize decide (1 ≤ h ∧ h ≤ 5) = b
  generalize decide (0 ≤ x ∧ x ≤ wrap64 (wrap64 (w * h) - 1)) = c
  cases a <;> cases b <;> cases c <;> rfl
def beqO (x y : Option (List Int)) : Bool := match x, y with
  | some a, some b => a == b
  | _, _ => false
theorem beqO_eq {x y : Option (List Int)} (h : beqO x y = true) : ∃ l, x = some l ∧ y = some l := by
  cases x with
  | none => simp [beqO] at h
  | some a =>
    cases y with
    | none => simp [beqO] at h
    | some b =>
      have e : a = b := by simpa [beqO] using h
      exact ⟨a, rfl, by rw [e]⟩
/-- A check of all fabrics and nodes. -/
def allc (c : Nat → Nat → Nat → Nat → Bool) : Bool := (List.range 5).all fun w => (List.range 5).all fun h => (List.range ((w + 1) * (h + 1))).all fun a => (List.range ((w + 1) * (h + 1))).all fun b => c (w + 1) (h + 1) a b
theorem all_get {c : Nat → Nat → Nat → Nat → Bool} (hall : allc c = true) {W H A B : Nat} (hw : 1 ≤ W ∧ W ≤ 5) (hh : 1 ≤ H ∧ H ≤ 5) (ha : A < W * H) (hb : B < W * H) : c W H A B = true := by
  obtain ⟨w, rfl⟩ : ∃ w, W = w + 1 := ⟨W - 1, by omega⟩
  obtain ⟨h, rfl⟩ : ∃ h, H = h + 1 := ⟨H - 1, by omega⟩
  unfold allc at hall
  have h1 := List.all_eq_true.mp hall w (List.mem_range.mpr (by omega))
  have h2 := List.all_eq_true.mp h1 h (List.mem_range.mpr (by omega))
  have h3 := List.all_eq_true.mp h2 A (List.mem_range.mpr ha)
  exact List.all_eq_true.mp h3 B (List.mem_range.mpr hb)
theorem to_fin {w h a b : Int} (ha : nd w h a = true) (hb : nd w h b = true) : ∃ W H A B : Nat, w = W ∧ h = H ∧ a = A ∧ b = B ∧ (1 ≤ W ∧ W ≤ 5) ∧ (1 ≤ H ∧ H ≤ 5) ∧ A < W * H ∧ B < W * H := by
  have oa := nd_open ha
  have ob := nd_open hb
  obtain ⟨W, rfl⟩ : ∃ W : Nat, w = W := ⟨w.toNat, by omega⟩
  obtain ⟨H, rfl⟩ : ∃ H : Nat, h = H := ⟨h.toNat, by omega⟩
  obtain ⟨A, rfl⟩ : ∃ A : Nat, a = A := ⟨a.toNat, by omega⟩
  obtain ⟨B, rfl⟩ : ∃ B : Nat, b = B := ⟨b.toNat, by omega⟩
  have e : ((W * H : Nat) : Int) = (W : Int) * (H : Int) := by simp
  have hb2 : (W : Int) * (H : Int) ≤ 36 ∧ 0 ≤ (W : Int) * (H : Int) := by
    have : H = 1 ∨ H = 2 ∨ H = 3 ∨ H = 4 ∨ H = 5 := by omega
    rcases this with rfl | rfl | rfl | rfl | rfl <;> omega
  have h1 := oa.2.2.2
  have h2 := ob.2.2.2
  rw [← e] at hb2
  rw [← e, w_in (n := ((W * H : Nat) : Int)) (by omega) (by omega), w_in (n := ((W * H : Nat) : Int) - 1) (by omega) (by omega)] at h1 h2
  exact ⟨W, H, A, B, rfl, rfl, rfl, rfl, by omega, by omega, by omega, by omega⟩
theorem nodes_nd2 (w h a b : Int) : nodes w h a b = (nd w h a && nd w h b) := by
  unfold nodes nd
  generalize decide (1 ≤ w ∧ w ≤ 5) = x
  generalize decide (1 ≤ h ∧ h ≤ 5) = y
  generalize decide (0 ≤ a ∧ a ≤ wrap64 (wrap64 (w * h) - 1)) = z
  generalize decide (0 ≤ b ∧ b ≤ wrap64 (wrap64 (w * h) - 1)) = u
  cases x <;> cases y <;> cases z <;> cases u <;> rfl
theorem route_bad {w h a b : Int} (hn : ¬ (nd w h a = true ∧ nd w h b = true)) (c : Bool) : impl_fabric_route.f w h a b c = some [] := by
  unfold impl_fabric_route.f
  rw [impl_nd, impl_nd]
  simp only [Option.bind_some]
  by_cases ha : nd w h a = true
  · rw [if_pos ha]
    by_cases hb : nd w h b = true
    · exact absurd ⟨ha, hb⟩ hn
    · rw [if_neg hb]
  · rw [if_neg ha]
theorem nodes_bad {w h a b : Int} (hn : ¬ (nd w h a = true ∧ nd w h b = true)) : nodes w h a b = false := by
  rw [nodes_nd2]
  cases ha : nd w h a
  · rfl
  · cases hb : nd w h b
    · rfl
    · exact absurd ⟨ha, hb⟩ hn
def chk (W H A B : Nat) : Bool := beqO (spec_RouteYX.f 200 W H A B) (impl_RouteYX.f W H A B) && (match impl_RouteYX.f W H A B with | some l => decide (l.length ≤ 100) | none => false)
theorem chk_all : allc chk = true := by decide +kernel
theorem both {w h a b : Int} : ∃ l, spec_RouteYX.f 200 w h a b = some l ∧ impl_RouteYX.f w h a b = some l ∧ l.length ≤ 100 := by
  by_cases hn : nd w h a = true ∧ nd w h b = true
  · obtain ⟨W, H, A, B, rfl, rfl, rfl, rfl, hW, hH, hA, hB⟩ := to_fin hn.1 hn.2
    have hc := all_get chk_all hW hH hA hB
    unfold chk at hc
    simp only [Bool.and_eq_true] at hc
    obtain ⟨l, e1, e2⟩ := beqO_eq hc.1
    refine ⟨l, e1, e2, ?_⟩
    have h2 := hc.2
    rw [e2] at h2
    simpa using h2
  · refine ⟨[], ?_, ?_, by simp⟩
    · unfold spec_RouteYX.f
      rw [spec_nodes, nodes_bad hn]
      rfl
    · unfold impl_RouteYX.f
      rw [route_bad hn]
      rfl
theorem FnExactRouteYX : laws_FnExactRouteYX.Pure := by
  intro w h a b _ _ _ _
  refine ⟨200, ?_⟩
  unfold laws_FnExactRouteYX.f
  obtain ⟨l, e1, e2, hl⟩ := both (w := w) (h := h) (a := a) (b := b)
  have e3 : laws_eqIntS.f 200 l l = some true := eqInt_ok (by omega) (by omega)
  have e4 : laws_markIntS.f 200 l 1 = some (1 + (l.length : Int), seqF 1 l.length) := mark_ok (by omega) (by omega) (by omega) (by omega)
  have e5 : laws_heldIntS.f 200 (seqF 1 l.length) 1 = some (1 + (l.length : Int)) := held_ok (by omega) (by omega) (by omega) (by omega)
  rw [bs e1, bs e2, bs e3, if_pos rfl, bs e4, bs e5, if_neg (by omega), if_pos rfl, bs e2, bs e3, if_pos rfl, bs e5, if_neg (by omega), if_pos rfl]

end Go.Proofs.Ytmakbieljmldfaa.Pure
