/- The pure part of FnExactVlanIn: both tell the same network, for every port and number. -/
import Derived.Test.YtmkjcoppadegjaaPFnExactVlanInx4
import Derived.Laws.BitsLemmas
import Derived.OpenShut
namespace Go.Proofs.Ytmkjcoppadegjaa.Pure
set_option linter.unusedVariables false
set_option linter.unusedSimpArgs false
open Go.RowKit Go.OpenShut Go.Proofs.Ytmkjcoppadegjaa.PFnExactVlanIn Go.Proofs.YtmkjcoppadegjaaW.PrintWords Go.Proofs.YtmkjcoppadegjaaW.PrintLast

theorem w_in {n : Int} (h0 : -9223372036854775808 ≤ n) (h1 : n ≤ 9223372036854775807) : wrap64 n = n := by unfold wrap64; omega

theorem allO_total {α : Type} {p : α → Option Bool} {q : α → Bool} : ∀ (l : List α), (∀ x ∈ l, p x = some (q x)) → allO p l = some (l.all q)
  | [], _ => rfl
  | x :: xs, h => by
    have ih := allO_total xs (fun y hy => h y (List.mem_cons_of_mem _ hy))
    simp only [allO, h x (List.mem_cons_self), Option.bind_some, List.all_cons]
    cases q x
    · simp
    · simpa using ih

theorem rd_at {l : List Int} {i : Int} (h0 : 0 ≤ i) (h : i.toNat < l.length) : l.drop i.toNat = rd l i :: l.drop (i + 1).toNat := by
  rw [List.drop_eq_getElem_cons h, show (i + 1).toNat = i.toNat + 1 by omega]
  unfold rd
  rw [List.getD_eq_getElem?_getD, List.getElem?_eq_getElem h]
  rfl
theorem rd_mem {l : List Int} {i : Int} (h0 : 0 ≤ i) (h : i < l.length) : rd l i ∈ l := by
  unfold rd
  rw [List.getD_eq_getElem?_getD, List.getElem?_eq_getElem (by omega)]
  exact List.getElem_mem _

theorem s_in (a b c : Int) : spec_l1In.f a b c = some (decide (b ≤ a ∧ a ≤ c)) := by
  unfold spec_l1In.f
  by_cases h : b ≤ a <;> simp [h]
theorem i_in (a b c : Int) : impl_within.f a b c = some (decide (b ≤ a ∧ a ≤ c)) := by
  unfold impl_within.f
  by_cases h : b ≤ a <;> simp [h]
theorem index_loop (l : List Int) (v : Int) (hl : l.length ≤ 9223372036854775806) (d : Nat) : ∀ (k : Nat) (i : Int), 0 ≤ i → i + d = l.length → d < k →
    ∃ r, slices_Index_int_int.l0 k l v (l.length : Int) i = some r ∧ decide (r ≥ 0) = (l.drop i.toNat).contains v := by
  induction d with
  | zero =>
    intro k i h0 h1 hk
    obtain ⟨k, rfl⟩ : ∃ m, k = m + 1 := ⟨k - 1, by omega⟩
    refine ⟨-1, by simp only [slices_Index_int_int.l0]; rw [if_neg (by omega)], ?_⟩
    rw [List.drop_eq_nil_of_le (by omega)]; rfl
  | succ d ih =>
    intro k i h0 h1 hk
    obtain ⟨k, rfl⟩ : ∃ m, k = m + 1 := ⟨k - 1, by omega⟩
    rw [rd_at h0 (by omega)]
    simp only [slices_Index_int_int.l0]
    rw [if_pos (by omega), if_pos h0, if_pos (by omega)]
    by_cases e : v = rd l i
    · exact ⟨i, by rw [if_pos e], by rw [← e]; simp [h0]⟩
    · obtain ⟨r, hr, hd⟩ := ih k (i + 1) (by omega) (by omega) (by omega)
      refine ⟨r, by rw [if_neg e, w_in (by omega) (by omega)]; exact hr, ?_⟩
      rw [hd, List.contains_cons]
      simp [e]
theorem contains_ok {l : List Int} {v : Int} (hl : l.length ≤ 9223372036854775806) {k : Nat} (hk : l.length < k) : slices_Contains_int_int.f k l v = some (l.contains v) := by
  obtain ⟨r, hr, hd⟩ := index_loop l v hl l.length k 0 (by omega) (by omega) hk
  unfold slices_Contains_int_int.f slices_Index_int_int.f
  rw [hr]
  simp only [Option.bind_some]
  rw [hd]; rfl

/-- Do numbers ascend, from index i on? -/
def asc (l : List Int) : Int → Nat → Bool
  | _, 0 => true
  | i, d + 1 => (decide (i ≤ 0) || decide (rd l (i - 1) < rd l i)) && asc l (i + 1) d
theorem impl_asc_loop (l : List Int) (hl : l.length ≤ 9223372036854775806) (d : Nat) : ∀ (k : Nat) (i : Int), 1 ≤ i → (d = 0 → (l.length : Int) ≤ i) → (0 < d → i + d = l.length) → d < k → impl_ascends.l0 k l i = some (asc l i d) := by
  induction d with
  | zero =>
    intro k i h0 h1 h2 hk
    obtain ⟨k, rfl⟩ : ∃ m, k = m + 1 := ⟨k - 1, by omega⟩
    have := h1 rfl
    simp only [impl_ascends.l0]
    rw [if_neg (by omega)]
    rfl
  | succ d ih =>
    intro k i h0 h1 h2 hk
    obtain ⟨k, rfl⟩ : ∃ m, k = m + 1 := ⟨k - 1, by omega⟩
    have := h2 (by omega)
    simp only [impl_ascends.l0]
    rw [w_in (n := i - 1) (by omega) (by omega), if_pos (by omega), if_pos (by omega), if_pos (by omega), if_pos (by omega), w_in (n := i + 1) (by omega) (by omega), ih k (i + 1) (by omega) (by omega) (by omega) (by omega)]
    simp only [asc]
    have e : decide (i ≤ 0) = false := by simp; omega
    by_cases h : rd l i ≤ rd l (i - 1)
    · rw [if_pos h]
      have e2 : decide (rd l (i - 1) < rd l i) = false := by simp; omega
      simp [e, e2]
    · rw [if_neg h]
      have e2 : decide (rd l (i - 1) < rd l i) = true := by simp; omega
      simp [e2]
theorem impl_asc {l : List Int} (hl : l.length ≤ 9223372036854775806) {k : Nat} (hk : l.length + 1 < k) : impl_ascends.f k l = some (asc l 0 l.length) := by
  unfold impl_ascends.f
  rw [impl_asc_loop l hl (l.length - 1) k 1 (by omega) (by omega) (by omega) (by omega)]
  cases h : l.length with
  | zero => simp [asc]
  | succ n => simp [asc]

theorem toInt_loop (l : List Int) (hl : l.length ≤ 9223372036854775806) (d : Nat) : ∀ (k : Nat) (i : Int) (x : List Int), 0 ≤ i → i + d = l.length → d < k → x.length = l.length → x.take i.toNat = l.take i.toNat →
    laws_toIntS.l0 k l x i = some l := by
  induction d with
  | zero =>
    intro k i x h0 h1 hk hx ht
    obtain ⟨k, rfl⟩ : ∃ m, k = m + 1 := ⟨k - 1, by omega⟩
    simp only [laws_toIntS.l0]
    rw [if_neg (by omega)]
    rw [List.take_of_length_le (by omega), List.take_of_length_le (by omega)] at ht
    rw [ht]
  | succ d ih =>
    intro k i x h0 h1 hk hx ht
    obtain ⟨k, rfl⟩ : ∃ m, k = m + 1 := ⟨k - 1, by omega⟩
    simp only [laws_toIntS.l0]
    rw [if_pos (by omega), if_pos h0, if_pos (by omega), w_in (by omega) (by omega)]
    refine ih k (i + 1) _ (by omega) (by omega) (by omega) (by simpa using hx) ?_
    have e : (i + 1).toNat = i.toNat + 1 := by omega
    have hi : i.toNat < l.length := by omega
    rw [e, List.take_succ_eq_append_getElem (by simpa [hx] using hi), List.take_succ_eq_append_getElem hi, List.getElem_set_self, List.take_set_of_le (Nat.le_refl _), ht]
    congr 2
    unfold rd
    rw [List.getD_eq_getElem?_getD, List.getElem?_eq_getElem hi]
    rfl
theorem toInt_ok {l : List Int} (hl : l.length ≤ 35184372088832) {k : Nat} (hk : l.length < k) : laws_toIntS.f k l = some l := by
  unfold laws_toIntS.f
  rw [if_pos (by omega), if_pos (by omega)]
  exact toInt_loop l (by omega) l.length k 0 _ (by omega) (by omega) hk (by simp) (by simp)

theorem eqInt_loop (l : List Int) (hl : l.length ≤ 9223372036854775806) (d : Nat) : ∀ (k : Nat) (i : Int), 0 ≤ i → i + d = l.length → d < k → laws_eqIntS.l0 k l l i = some true := by
  induction d with
  | zero =>
    intro k i h0 h1 hk
    obtain ⟨k, rfl⟩ : ∃ m, k = m + 1 := ⟨k - 1, by omega⟩
    simp only [laws_eqIntS.l0]
    rw [if_neg (by omega)]
  | succ d ih =>
    intro k i h0 h1 hk
    obtain ⟨k, rfl⟩ : ∃ m, k = m + 1 := ⟨k - 1, by omega⟩
    simp only [laws_eqIntS.l0]
    rw [if_pos (by omega), if_pos h0, if_pos (by omega), if_pos trivial, w_in (by omega) (by omega)]
    exact ih k (i + 1) (by omega) (by omega) (by omega)
theorem eqInt_ok {l : List Int} (hl : l.length ≤ 35184372088832) {k : Nat} (hk : l.length < k) : laws_eqIntS.f k l l = some true := by
  unfold laws_eqIntS.f
  rw [if_pos rfl]
  exact eqInt_loop l (by omega) l.length k 0 (by omega) (by omega) hk

theorem has_loop (l : List Int) (v : Int) (hl : l.length ≤ 9223372036854775806) (d : Nat) : ∀ (k : Nat) (i : Int), 0 ≤ i → i + d = l.length → d < k →
    spec_l10Has.l0 k l v i = some ((l.drop i.toNat).contains v) := by
  induction d with
  | zero =>
    intro k i h0 h1 hk
    obtain ⟨k, rfl⟩ : ∃ m, k = m + 1 := ⟨k - 1, by omega⟩
    simp only [spec_l10Has.l0]
    rw [if_neg (by omega), List.drop_eq_nil_of_le (by omega)]
    rfl
  | succ d ih =>
    intro k i h0 h1 hk
    obtain ⟨k, rfl⟩ : ∃ m, k = m + 1 := ⟨k - 1, by omega⟩
    rw [rd_at h0 (by omega)]
    simp only [spec_l10Has.l0]
    rw [if_pos (by omega), if_pos h0, w_in (n := i + 1) (by omega) (by omega), ih k (i + 1) (by omega) (by omega) (by omega), List.contains_cons]
    by_cases e : rd l i = v
    · rw [if_pos e, e]; simp
    · rw [if_neg e]
      have : (v == rd l i) = false := by simp; exact fun h => e h.symm
      simp [this]
theorem has_ok {l : List Int} {v : Int} (hl : l.length ≤ 9223372036854775806) {k : Nat} (hk : l.length < k) : spec_l10Has.f k l v = some (l.contains v) := by
  unfold spec_l10Has.f
  rw [has_loop l v hl l.length k 0 (by omega) (by omega) hk]
  simp

def net (x : Int) : Bool := decide (1 ≤ x ∧ x ≤ 9)
/-- Is a port one? -/
def pv (kd own : Int) (c : List Int) : Bool := net own && (if kd = 1 then decide (c.length = 0) else if kd = 2 then (c.all net && asc c 0 c.length && !c.contains own) else false)
theorem spec_vlan (x : Int) : spec_l10Vlan.f x = some (net x) := by
  unfold spec_l10Vlan.f net
  rw [s_in]
  rfl
theorem impl_net (x : Int) : impl_isNetwork.f x = some (net x) := by
  unfold impl_isNetwork.f net
  rw [i_in]
  rfl
theorem port_loop (kd own : Int) (c : List Int) (hl : c.length ≤ 9223372036854775806) (d : Nat) : ∀ (k : Nat) (i : Int), 0 ≤ i → i + d = c.length → d < k →
    spec_l10Port.l0 k i kd own c = some ((c.drop i.toNat).all net && !(c.drop i.toNat).contains own && asc c i d) := by
  induction d with
  | zero =>
    intro k i h0 h1 hk
    obtain ⟨k, rfl⟩ : ∃ m, k = m + 1 := ⟨k - 1, by omega⟩
    simp only [spec_l10Port.l0]
    rw [if_neg (by omega), List.drop_eq_nil_of_le (by omega)]
    simp [asc]
  | succ d ih =>
    intro k i h0 h1 hk
    obtain ⟨k, rfl⟩ : ∃ m, k = m + 1 := ⟨k - 1, by omega⟩
    rw [rd_at h0 (by omega)]
    simp only [spec_l10Port.l0, spec_vlan, Option.bind_some]
    rw [if_pos (by omega), if_pos h0, w_in (n := i - 1) (by omega) (by omega), w_in (n := i + 1) (by omega) (by omega), ih k (i + 1) (by omega) (by omega) (by omega)]
    simp only [List.all_cons, List.contains_cons, asc]
    by_cases hn : net (rd c i) = true
    · rw [if_pos hn]
      simp only [hn, Bool.true_and]
      by_cases ho : rd c i = own
      · rw [if_pos ho, ho]
        simp
      · have ho' : (own == rd c i) = false := by simp; exact fun h => ho h.symm
        rw [if_neg ho, ho', Bool.false_or]
        by_cases hi : i > 0
        · have e : decide (i ≤ 0) = false := by simp; omega
          rw [if_pos hi, if_pos (by omega), if_pos (by omega)]
          by_cases h : rd c (i - 1) ≥ rd c i
          · have e2 : decide (rd c (i - 1) < rd c i) = false := by simp; omega
            rw [if_pos h]
            simp [e, e2]
          · have e2 : decide (rd c (i - 1) < rd c i) = true := by simp; omega
            rw [if_neg h]
            simp [e2]
        · have e : decide (i ≤ 0) = true := by simp; omega
          rw [if_neg hi]
          simp [e]
    · rw [if_neg hn]
      simp [hn]
theorem spec_port {kd own : Int} {c : List Int} (hl : c.length ≤ 9223372036854775806) {k : Nat} (hk : c.length + 1 < k) : spec_l10Port.f k kd own c = some (pv kd own c) := by
  obtain ⟨k, rfl⟩ : ∃ m, k = m + 1 := ⟨k - 1, by omega⟩
  unfold spec_l10Port.f pv
  simp only [s_in, spec_vlan, Option.bind_some, spec_l10Port.j0, if_true]
  have hloop := port_loop kd own c hl c.length k 0 (by omega) (by omega) (by omega)
  simp only [Int.toNat_zero, List.drop_zero] at hloop
  by_cases h1 : kd = 1
  · subst h1
    rw [if_pos (by decide)]
    by_cases hn : net own = true
    · rw [if_pos hn, if_pos rfl, hn]
      by_cases hc : c.length = 0
      · have : c = [] := List.eq_nil_of_length_eq_zero hc
        subst this
        rw [if_neg (by simp), hloop]
        rfl
      · rw [if_pos (by simp; omega)]
        simp [hc]
    · rw [if_neg hn]
      simp [hn]
  · by_cases h2 : kd = 2
    · subst h2
      rw [if_pos (by decide)]
      by_cases hn : net own = true
      · rw [if_pos hn, if_neg (by decide), if_neg (by decide), hn, hloop]
        simp only [Bool.true_and]
        rw [if_neg (by decide), if_pos trivial]
        cases c.all net <;> cases c.contains own <;> simp
      · rw [if_neg hn]
        simp [hn]
    · rw [if_neg (by simp; omega)]
      simp [h1, h2]
theorem impl_port {kd own : Int} {c : List Int} (hl : c.length ≤ 9223372036854775806) {k : Nat} (hk : c.length + 1 < k) : impl_VPort_valid.f k kd own c = some (pv kd own c) := by
  unfold impl_VPort_valid.f pv all_impl_isNetwork.f
  rw [impl_asc hl hk, contains_ok hl (by omega), allO_total (q := net) c (fun x _ => impl_net x)]
  simp only [impl_net, Option.bind_some]
  by_cases h1 : kd = 1
  · have e : ((c.length : Int) == 0) = decide (c.length = 0) := by
      rw [Bool.eq_iff_iff]
      simp
    rw [if_pos h1, if_pos h1, e]
    cases net own <;> simp
  · rw [if_neg h1, if_neg h1]
    by_cases h2 : kd = 2
    · rw [if_pos h2, if_pos h2]
      cases net own <;> cases c.all net <;> cases asc c 0 c.length <;> simp
    · rw [if_neg h2, if_neg h2]
      simp

theorem toPort_ok {kd own : Int} {c : List Int} (hl : c.length ≤ 35184372088832) {k : Nat} (hk : c.length < k) : laws_toVPort.f k kd own c = some (kd, own, c) := by
  unfold laws_toVPort.f
  rw [toInt_ok hl hk]
  rfl
theorem eqPort_ok {kd own : Int} {c : List Int} (hl : c.length ≤ 35184372088832) {k : Nat} (hk : c.length < k) : laws_eqVPort.f k kd own c kd own c = some true := by
  unfold laws_eqVPort.f
  rw [if_pos rfl, if_pos rfl, eqInt_ok hl hk]
  rfl
theorem szPort {kd own : Int} {c : List Int} (hl : c.length ≤ 9223372036854775807) {m : Int} (hm : 0 ≤ m) (hm2 : m ≤ 1048576) : laws_szVPort.f kd own c m = some (if m - (c.length : Int) < 0 then -1 else m - (c.length : Int)) := by
  unfold laws_szVPort.f laws_szIntS.f
  rw [w_in (n := m - (c.length : Int)) (by omega) (by omega)]
  by_cases h : m - (c.length : Int) < 0
  · rw [if_pos h, if_pos h]
    rfl
  · rw [if_neg h, if_neg h]
    simp only [Option.bind_some]
    rw [if_neg h]

def vli (kd own : Int) (c : List Int) (t : Int) : Int := if pv kd own c = true then (if t = 0 then own else if c.contains t = true then t else -1) else -1
theorem spec_vlanin {kd own : Int} {c : List Int} {v : Int} (hl : c.length ≤ 9223372036854775806) {k : Nat} (hk : c.length + 1 < k) : spec_VlanIn.f k kd own c v = some (vli kd own c v) := by
  unfold spec_VlanIn.f vli
  rw [spec_port hl hk, has_ok hl (by omega)]
  simp only [Option.bind_some]
  split
  · split
    · rfl
    · split <;> rfl
  · rfl
theorem impl_vlanin {kd own : Int} {c : List Int} {v : Int} (hl : c.length ≤ 9223372036854775806) {k : Nat} (hk : c.length + 1 < k) : impl_VlanIn.f k kd own c v = some (vli kd own c v) := by
  unfold impl_VlanIn.f vli
  rw [impl_port hl hk, contains_ok hl (by omega)]
  simp only [Option.bind_some]
  split
  · split
    · rfl
    · split <;> rfl
  · rfl

theorem FnExactVlanIn : laws_FnExactVlanIn.Pure := by
  intro kd own c v _ _ hc _
  refine ⟨c.length + 10, ?_⟩
  have hm : c.length ≤ 9223372036854775807 := by have := hc.1; simp only [maxLen] at this; omega
  unfold laws_FnExactVlanIn.f
  rw [szPort hm (by omega) (by omega)]
  simp only [Option.bind_some]
  by_cases h : (1048576 : Int) - (c.length : Int) < 0
  · rw [if_pos h, if_pos (by omega)]
  · rw [if_neg h, if_neg h, toPort_ok (by omega) (by omega)]
    simp only [Option.bind_some]
    rw [spec_vlanin (by omega) (by omega), impl_vlanin (by omega) (by omega), eqPort_ok (by omega) (by omega)]
    simp only [Option.bind_some, if_true]


end Go.Proofs.Ytmkjcoppadegjaa.Pure
