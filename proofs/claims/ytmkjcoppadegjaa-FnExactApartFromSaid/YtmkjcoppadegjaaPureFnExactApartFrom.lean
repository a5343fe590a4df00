/- What both sides of FnExactApartFrom compute, in plain Lean. -/
import Derived.Test.YtmkjcoppadegjaaPFnExactApartFromx8
import Derived.Laws.BitsLemmas
import Derived.OpenShut
namespace Go.Proofs.Ytmkjcoppadegjaa.Pure
open Go.RowKit Go.Proofs.Ytmkjcoppadegjaa.PFnExactApartFrom Go.Proofs.YtmkjcoppadegjaaW.PrintWords Go.Proofs.YtmkjcoppadegjaaW.PrintLast

theorem w_in {n : Int} (h0 : -9223372036854775808 ≤ n) (h1 : n ≤ 9223372036854775807) : wrap64 n = n := by unfold wrap64; omega

theorem bs {α β : Type} {x : Option α} {a : α} {f : α → Option β} (h : x = some a) : x.bind f = f a := by rw [h]; rfl
theorem allO_total {α : Type} {p : α → Option Bool} {q : α → Bool} : ∀ (l : List α), (∀ x ∈ l, p x = some (q x)) → allO p l = some (l.all q)
  | [], _ => rfl
  | x :: xs, h => by
    have ih := allO_total xs (fun y hy => h y (List.mem_cons_of_mem _ hy))
    simp only [allO, h x (List.mem_cons_self), Option.bind_some, List.all_cons]
    cases q x
    · simp
    · simpa using ih

theorem rd_at {l : List Int} {i : Int} (h0 : 0 ≤ i) (h : i.toNat < l.length) : l.drop i.toNat = rd l i :: l.drop (i + 1).toNat := by
  rw [List.drop_eq_getElem_cons h, show (i + 1).toNat = i.toNat + 1 by omega]
  unfold rd
  rw [List.getD_eq_getElem?_getD, List.getElem?_eq_getElem h]
  rfl
theorem rd_mem {l : List Int} {i : Int} (h0 : 0 ≤ i) (h : i < l.length) : rd l i ∈ l := by
  unfold rd
  rw [List.getD_eq_getElem?_getD, List.getElem?_eq_getElem (by omega)]
  exact List.getElem_mem _

theorem s_in (a b c : Int) : spec_l1In.f a b c = some (decide (b ≤ a ∧ a ≤ c)) := by
  unfold spec_l1In.f
  by_cases h : b ≤ a <;> simp [h]
theorem i_in (a b c : Int) : impl_within.f a b c = some (decide (b ≤ a ∧ a ≤ c)) := by
  unfold impl_within.f
  by_cases h : b ≤ a <;> simp [h]
theorem index_loop (l : List Int) (v : Int) (hl : l.length ≤ 9223372036854775806) (d : Nat) : ∀ (k : Nat) (i : Int), 0 ≤ i → i + d = l.length → d < k →
    ∃ r, slices_Index_int_int.l0 k l v (l.length : Int) i = some r ∧ decide (r ≥ 0) = (l.drop i.toNat).contains v := by
  induction d with
  | zero =>
    intro k i h0 h1 hk
    obtain ⟨k, rfl⟩ : ∃ m, k = m + 1 := ⟨k - 1, by omega⟩
    refine ⟨-1, by simp only [slices_Index_int_int.l0]; rw [if_neg (by omega)], ?_⟩
    rw [List.drop_eq_nil_of_le (by omega)]; rfl
  | succ d ih =>
    intro k i h0 h1 hk
    obtain ⟨k, rfl⟩ : ∃ m, k = m + 1 := ⟨k - 1, by omega⟩
    rw [rd_at h0 (by omega)]
    simp only [slices_Index_int_int.l0]
    rw [if_pos (by omega), if_pos h0, if_pos (by omega)]
    by_cases e : v = rd l i
    · exact ⟨i, by rw [if_pos e], by rw [← e]; simp [h0]⟩
    · obtain ⟨r, hr, hd⟩ := ih k (i + 1) (by omega) (by omega) (by omega)
      refine ⟨r, by rw [if_neg e, w_in (by omega) (by omega)]; exact hr, ?_⟩
      rw [hd, List.contains_cons]
      simp [e]
theorem contains_ok {l : List Int} {v : Int} (hl : l.length ≤ 9223372036854775806) {k : Nat} (hk : l.length < k) : slices_Contains_int_int.f k l v = some (l.contains v) := by
  obtain ⟨r, hr, hd⟩ := index_loop l v hl l.length k 0 (by omega) (by omega) hk
  unfold slices_Contains_int_int.f slices_Index_int_int.f
  rw [hr]
  simp only [Option.bind_some]
  rw [hd]; rfl

/-- Do numbers ascend, from index i on? -/
def asc (l : List Int) : Int → Nat → Bool
  | _, 0 => true
  | i, d + 1 => (decide (i ≤ 0) || decide (rd l (i - 1) < rd l i)) && asc l (i + 1) d
theorem impl_asc_loop (l : List Int) (hl : l.length ≤ 9223372036854775806) (d : Nat) : ∀ (k : Nat) (i : Int), 1 ≤ i → (d = 0 → (l.length : Int) ≤ i) → (0 < d → i + d = l.length) → d < k → impl_ascends.l0 k l i = some (asc l i d) := by
  induction d with
  | zero =>
    intro k i h0 h1 h2 hk
    obtain ⟨k, rfl⟩ : ∃ m, k = m + 1 := ⟨k - 1, by omega⟩
    have := h1 rfl
    simp only [impl_ascends.l0]
    rw [if_neg (by omega)]
    rfl
  | succ d ih =>
    intro k i h0 h1 h2 hk
    obtain ⟨k, rfl⟩ : ∃ m, k = m + 1 := ⟨k - 1, by omega⟩
    have := h2 (by omega)
    simp only [impl_ascends.l0]
    rw [w_in (n := i - 1) (by omega) (by omega), if_pos (by omega), if_pos (by omega), if_pos (by omega), if_pos (by omega), w_in (n := i + 1) (by omega) (by omega), ih k (i + 1) (by omega) (by omega) (by omega) (by omega)]
    simp only [asc]
    have e : decide (i ≤ 0) = false := by simp; omega
    by_cases h : rd l i ≤ rd l (i - 1)
    · rw [if_pos h]
      have e2 : decide (rd l (i - 1) < rd l i) = false := by simp; omega
      simp [e, e2]
    · rw [if_neg h]
      have e2 : decide (rd l (i - 1) < rd l i) = true := by simp; omega
      simp [e2]
theorem impl_asc {l : List Int} (hl : l.length ≤ 9223372036854775806) {k : Nat} (hk : l.length + 1 < k) : impl_ascends.f k l = some (asc l 0 l.length) := by
  unfold impl_ascends.f
  rw [impl_asc_loop l hl (l.length - 1) k 1 (by omega) (by omega) (by omega) (by omega)]
  cases h : l.length with
  | zero => simp [asc]
  | succ n => simp [asc]

theorem toInt_loop (l : List Int) (hl : l.length ≤ 9223372036854775806) (d : Nat) : ∀ (k : Nat) (i : Int) (x : List Int), 0 ≤ i → i + d = l.length → d < k → x.length = l.length → x.take i.toNat = l.take i.toNat →
    laws_toIntS.l0 k l x i = some l := by
  induction d with
  | zero =>
    intro k i x h0 h1 hk hx ht
    obtain ⟨k, rfl⟩ : ∃ m, k = m + 1 := ⟨k - 1, by omega⟩
    simp only [laws_toIntS.l0]
    rw [if_neg (by omega)]
    rw [List.take_of_length_le (by omega), List.take_of_length_le (by omega)] at ht
    rw [ht]
  | succ d ih =>
    intro k i x h0 h1 hk hx ht
    obtain ⟨k, rfl⟩ : ∃ m, k = m + 1 := ⟨k - 1, by omega⟩
    simp only [laws_toIntS.l0]
    rw [if_pos (by omega), if_pos h0, if_pos (by omega), w_in (by omega) (by omega)]
    refine ih k (i + 1) _ (by omega) (by omega) (by omega) (by simpa using hx) ?_
    have e : (i + 1).toNat = i.toNat + 1 := by omega
    have hi : i.toNat < l.length := by omega
    rw [e, List.take_succ_eq_append_getElem (by simpa [hx] using hi), List.take_succ_eq_append_getElem hi, List.getElem_set_self, List.take_set_of_le (Nat.le_refl _), ht]
    congr 2
    unfold rd
    rw [List.getD_eq_getElem?_getD, List.getElem?_eq_getElem hi]
    rfl
theorem toInt_ok {l : List Int} (hl : l.length ≤ 35184372088832) {k : Nat} (hk : l.length < k) : laws_toIntS.f k l = some l := by
  unfold laws_toIntS.f
  rw [if_pos (by omega), if_pos (by omega)]
  exact toInt_loop l (by omega) l.length k 0 _ (by omega) (by omega) hk (by simp) (by simp)

theorem eqInt_loop (l : List Int) (hl : l.length ≤ 9223372036854775806) (d : Nat) : ∀ (k : Nat) (i : Int), 0 ≤ i → i + d = l.length → d < k → laws_eqIntS.l0 k l l i = some true := by
  induction d with
  | zero =>
    intro k i h0 h1 hk
    obtain ⟨k, rfl⟩ : ∃ m, k = m + 1 := ⟨k - 1, by omega⟩
    simp only [laws_eqIntS.l0]
    rw [if_neg (by omega)]
  | succ d ih =>
    intro k i h0 h1 hk
    obtain ⟨k, rfl⟩ : ∃ m, k = m + 1 := ⟨k - 1, by omega⟩
    simp only [laws_eqIntS.l0]
    rw [if_pos (by omega), if_pos h0, if_pos (by omega), if_pos trivial, w_in (by omega) (by omega)]
    exact ih k (i + 1) (by omega) (by omega) (by omega)
theorem eqInt_ok {l : List Int} (hl : l.length ≤ 35184372088832) {k : Nat} (hk : l.length < k) : laws_eqIntS.f k l l = some true := by
  unfold laws_eqIntS.f
  rw [if_pos rfl]
  exact eqInt_loop l (by omega) l.length k 0 (by omega) (by omega) hk

/-- m, m + 1, .. -/
def seqF (m : Int) (n : Nat) : List Int := (List.range n).map fun (i : Nat) => m + (i : Int)
theorem seqF_len (m : Int) (n : Nat) : (seqF m n).length = n := by simp [seqF]
theorem seqF_succ (m : Int) (n : Nat) : seqF m (n + 1) = seqF m n ++ [m + n] := by simp [seqF, List.range_succ]
theorem seqF_rd (m : Int) (n : Nat) (i : Int) (h0 : 0 ≤ i) (h : i < n) : rd (seqF m n) i = m + i := by
  unfold rd seqF
  rw [List.getD_eq_getElem?_getD, List.getElem?_map, List.getElem?_range (by omega)]
  simp
  omega
theorem mark_loop (m : Int) (hm : 0 ≤ m) (hm2 : m ≤ 1000000000000000) (d : Nat) : ∀ (k : Nat) (i : Int) (x : List Int), 0 ≤ i → i + d = x.length → x.length ≤ 1000000000000000 → d < k → x.take i.toNat = seqF m i.toNat →
    laws_markIntS.l0 k x (m + i) i = some (m + x.length, seqF m x.length) := by
  induction d with
  | zero =>
    intro k i x h0 h1 hl hk ht
    obtain ⟨k, rfl⟩ : ∃ q, k = q + 1 := ⟨k - 1, by omega⟩
    simp only [laws_markIntS.l0]
    rw [if_neg (by omega)]
    rw [List.take_of_length_le (by omega)] at ht
    have e : i.toNat = x.length := by omega
    rw [e] at ht
    have e2 : i = x.length := by omega
    rw [← ht, ← e2]
  | succ d ih =>
    intro k i x h0 h1 hl hk ht
    obtain ⟨k, rfl⟩ : ∃ q, k = q + 1 := ⟨k - 1, by omega⟩
    simp only [laws_markIntS.l0]
    rw [if_pos (by omega), if_pos h0, w_in (n := i + 1) (by omega) (by omega), w_in (n := m + i + 1) (by omega) (by omega)]
    have e : (i + 1).toNat = i.toNat + 1 := by omega
    have hi : i.toNat < x.length := by omega
    have := ih k (i + 1) (x.set i.toNat (m + i)) (by omega) (by simp; omega) (by simpa using hl) (by omega) (by
      rw [e, List.take_succ_eq_append_getElem (by simpa using hi), List.getElem_set_self, List.take_set_of_le (Nat.le_refl _), ht, seqF_succ]
      congr 2
      omega)
    rw [show m + (i + 1) = m + i + 1 by omega] at this
    simpa using this
theorem mark_ok {l : List Int} {m : Int} (hm : 0 ≤ m) (hm2 : m ≤ 1000000000000000) (hl : l.length ≤ 1000000000000000) {k : Nat} (hk : l.length < k) : laws_markIntS.f k l m = some (m + l.length, seqF m l.length) := by
  unfold laws_markIntS.f
  have := mark_loop m hm hm2 l.length k 0 l (by omega) (by omega) hl hk (by simp [seqF])
  simpa using this
theorem held_loop (m : Int) (n : Nat) (hm : 0 ≤ m) (hm2 : m ≤ 1000000000000000) (hl : n ≤ 1000000000000000) (d : Nat) : ∀ (k : Nat) (i : Int), 0 ≤ i → i + d = n → d < k →
    laws_heldIntS.l0 k (seqF m n) (m + i) i = some (m + n) := by
  induction d with
  | zero =>
    intro k i h0 h1 hk
    obtain ⟨k, rfl⟩ : ∃ q, k = q + 1 := ⟨k - 1, by omega⟩
    simp only [laws_heldIntS.l0]
    rw [if_neg (by rw [seqF_len]; omega), show i = (n : Int) by omega]
  | succ d ih =>
    intro k i h0 h1 hk
    obtain ⟨k, rfl⟩ : ∃ q, k = q + 1 := ⟨k - 1, by omega⟩
    simp only [laws_heldIntS.l0]
    rw [if_pos (by rw [seqF_len]; omega), if_pos h0, if_pos (seqF_rd m n i h0 (by omega)), w_in (n := i + 1) (by omega) (by omega), w_in (n := m + i + 1) (by omega) (by omega), show m + i + 1 = m + (i + 1) by omega]
    exact ih k (i + 1) (by omega) (by omega) (by omega)
theorem held_ok {m : Int} {n : Nat} (hm : 0 ≤ m) (hm2 : m ≤ 1000000000000000) (hl : n ≤ 1000000000000000) {k : Nat} (hk : n < k) : laws_heldIntS.f k (seqF m n) m = some (m + n) := by
  unfold laws_heldIntS.f
  have := held_loop m n hm hm2 hl n k 0 (by omega) (by omega) hk
  simpa using this

theorem has_loop (l : List Int) (v : Int) (hl : l.length ≤ 9223372036854775806) (d : Nat) : ∀ (k : Nat) (i : Int), 0 ≤ i → i + d = l.length → d < k →
    spec_l10Has.l0 k l v i = some ((l.drop i.toNat).contains v) := by
  induction d with
  | zero =>
    intro k i h0 h1 hk
    obtain ⟨k, rfl⟩ : ∃ m, k = m + 1 := ⟨k - 1, by omega⟩
    simp only [spec_l10Has.l0]
    rw [if_neg (by omega), List.drop_eq_nil_of_le (by omega)]
    rfl
  | succ d ih =>
    intro k i h0 h1 hk
    obtain ⟨k, rfl⟩ : ∃ m, k = m + 1 := ⟨k - 1, by omega⟩
    rw [rd_at h0 (by omega)]
    simp only [spec_l10Has.l0]
    rw [if_pos (by omega), if_pos h0, w_in (n := i + 1) (by omega) (by omega), ih k (i + 1) (by omega) (by omega) (by omega), List.contains_cons]
    by_cases e : rd l i = v
    · rw [if_pos e, e]; simp
    · rw [if_neg e]
      have : (v == rd l i) = false := by simp; exact fun h => e h.symm
      simp [this]
theorem has_ok {l : List Int} {v : Int} (hl : l.length ≤ 9223372036854775806) {k : Nat} (hk : l.length < k) : spec_l10Has.f k l v = some (l.contains v) := by
  unfold spec_l10Has.f
  rw [has_loop l v hl l.length k 0 (by omega) (by omega) hk]
  simp

def net (x : Int) : Bool := decide (1 ≤ x ∧ x ≤ 9)
/-- Is a port one? -/
def pv (kd own : Int) (c : List Int) : Bool := net own && (if kd = 1 then decide (c.length = 0) else if kd = 2 then (c.all net && asc c 0 c.length && !c.contains own) else false)
theorem spec_vlan (x : Int) : spec_l10Vlan.f x = some (net x) := by
  unfold spec_l10Vlan.f net
  rw [s_in]
  rfl
theorem impl_net (x : Int) : impl_isNetwork.f x = some (net x) := by
  unfold impl_isNetwork.f net
  rw [i_in]
  rfl
theorem port_loop (kd own : Int) (c : List Int) (hl : c.length ≤ 9223372036854775806) (d : Nat) : ∀ (k : Nat) (i : Int), 0 ≤ i → i + d = c.length → d < k →
    spec_l10Port.l0 k i kd own c = some ((c.drop i.toNat).all net && !(c.drop i.toNat).contains own && asc c i d) := by
  induction d with
  | zero =>
    intro k i h0 h1 hk
    obtain ⟨k, rfl⟩ : ∃ m, k = m + 1 := ⟨k - 1, by omega⟩
    simp only [spec_l10Port.l0]
    rw [if_neg (by omega), List.drop_eq_nil_of_le (by omega)]
    simp [asc]
  | succ d ih =>
    intro k i h0 h1 hk
    obtain ⟨k, rfl⟩ : ∃ m, k = m + 1 := ⟨k - 1, by omega⟩
    rw [rd_at h0 (by omega)]
    simp only [spec_l10Port.l0, spec_vlan, Option.bind_some]
    rw [if_pos (by omega), if_pos h0, w_in (n := i - 1) (by omega) (by omega), w_in (n := i + 1) (by omega) (by omega), ih k (i + 1) (by omega) (by omega) (by omega)]
    simp only [List.all_cons, List.contains_cons, asc]
    by_cases hn : net (rd c i) = true
    · rw [if_pos hn]
      simp only [hn, Bool.true_and]
      by_cases ho : rd c i = own
      · rw [if_pos ho, ho]
        simp
      · have ho' : (own == rd c i) = false := by simp; exact fun h => ho h.symm
        rw [if_neg ho, ho', Bool.false_or]
        by_cases hi : i > 0
        · have e : decide (i ≤ 0) = false := by simp; omega
          rw [if_pos hi, if_pos (by omega), if_pos (by omega)]
          by_cases h : rd c (i - 1) ≥ rd c i
          · have e2 : decide (rd c (i - 1) < rd c i) = false := by simp; omega
            rw [if_pos h]
            simp [e, e2]
          · have e2 : decide (rd c (i - 1) < rd c i) = true := by simp; omega
            rw [if_neg h]
            simp [e2]
        · have e : decide (i ≤ 0) = true := by simp; omega
          rw [if_neg hi]
          simp [e]
    · rw [if_neg hn]
      simp [hn]
theorem spec_port {kd own : Int} {c : List Int} (hl : c.length ≤ 9223372036854775806) {k : Nat} (hk : c.length + 1 < k) : spec_l10Port.f k kd own c = some (pv kd own c) := by
  obtain ⟨k, rfl⟩ : ∃ m, k = m + 1 := ⟨k - 1, by omega⟩
  unfold spec_l10Port.f pv
  simp only [s_in, spec_vlan, Option.bind_some, spec_l10Port.j0, if_true]
  have hloop := port_loop kd own c hl c.length k 0 (by omega) (by omega) (by omega)
  simp only [Int.toNat_zero, List.drop_zero] at hloop
  by_cases h1 : kd = 1
  · subst h1
    rw [if_pos (by decide)]
    by_cases hn : net own = true
    · rw [if_pos hn, if_pos rfl, hn]
      by_cases hc : c.length = 0
      · have : c = [] := List.eq_nil_of_length_eq_zero hc
        subst this
        rw [if_neg (by simp), hloop]
        rfl
      · rw [if_pos (by simp; omega)]
        simp [hc]
    · rw [if_neg hn]
      simp [hn]
  · by_cases h2 : kd = 2
    · subst h2
      rw [if_pos (by decide)]
      by_cases hn : net own = true
      · rw [if_pos hn, if_neg (by decide), if_neg (by decide), hn, hloop]
        simp only [Bool.true_and]
        rw [if_neg (by decide), if_pos trivial]
        cases c.all net <;> cases c.contains own <;> simp
      · rw [if_neg hn]
        simp [hn]
    · rw [if_neg (by simp; omega)]
      simp [h1, h2]
theorem impl_port {kd own : Int} {c : List Int} (hl : c.length ≤ 9223372036854775806) {k : Nat} (hk : c.length + 1 < k) : impl_VPort_valid.f k kd own c = some (pv kd own c) := by
  unfold impl_VPort_valid.f pv all_impl_isNetwork.f
  rw [impl_asc hl hk, contains_ok hl (by omega), allO_total (q := net) c (fun x _ => impl_net x)]
  simp only [impl_net, Option.bind_some]
  by_cases h1 : kd = 1
  · have e : ((c.length : Int) == 0) = decide (c.length = 0) := by
      rw [Bool.eq_iff_iff]
      simp
    rw [if_pos h1, if_pos h1, e]
    cases net own <;> simp
  · rw [if_neg h1, if_neg h1]
    by_cases h2 : kd = 2
    · rw [if_pos h2, if_pos h2]
      cases net own <;> cases c.all net <;> cases asc c 0 c.length <;> simp
    · rw [if_neg h2, if_neg h2]
      simp

theorem toPort_ok {kd own : Int} {c : List Int} (hl : c.length ≤ 35184372088832) {k : Nat} (hk : c.length < k) : laws_toVPort.f k kd own c = some (kd, own, c) := by
  unfold laws_toVPort.f
  rw [toInt_ok hl hk]
  rfl
theorem eqPort_ok {kd own : Int} {c : List Int} (hl : c.length ≤ 35184372088832) {k : Nat} (hk : c.length < k) : laws_eqVPort.f k kd own c kd own c = some true := by
  unfold laws_eqVPort.f
  rw [if_pos rfl, if_pos rfl, eqInt_ok hl hk]
  rfl
theorem szPort {kd own : Int} {c : List Int} (hl : c.length ≤ 9223372036854775807) {m : Int} (hm : 0 ≤ m) (hm2 : m ≤ 1048576) : laws_szVPort.f kd own c m = some (if m - (c.length : Int) < 0 then -1 else m - (c.length : Int)) := by
  unfold laws_szVPort.f laws_szIntS.f
  rw [w_in (n := m - (c.length : Int)) (by omega) (by omega)]
  by_cases h : m - (c.length : Int) < 0
  · rw [if_pos h, if_pos h]
    rfl
  · rw [if_neg h, if_neg h]
    simp only [Option.bind_some]
    rw [if_neg h]

def cvp (x : S24) : S27 := ⟨x.f0, x.f1, x.f2⟩
/-- The lists inside are short. -/
def short {α : Type} (g : α → List Int) (l : List α) : Prop := ∀ x ∈ l, (g x).length ≤ 1048576
theorem rd24_drop {l : List S24} {i : Int} (h0 : 0 ≤ i) (h : i.toNat < l.length) : l.drop i.toNat = rd_T24 l i :: l.drop (i + 1).toNat := by
  rw [List.drop_eq_getElem_cons h, show (i + 1).toNat = i.toNat + 1 by omega]
  unfold rd_T24
  rw [List.getD_eq_getElem?_getD, List.getElem?_eq_getElem h]
  rfl
theorem rd27_drop {l : List S27} {i : Int} (h0 : 0 ≤ i) (h : i.toNat < l.length) : l.drop i.toNat = rd_T27 l i :: l.drop (i + 1).toNat := by
  rw [List.drop_eq_getElem_cons h, show (i + 1).toNat = i.toNat + 1 by omega]
  unfold rd_T27
  rw [List.getD_eq_getElem?_getD, List.getElem?_eq_getElem h]
  rfl
theorem rd24_mem {l : List S24} {i : Int} (h0 : 0 ≤ i) (h : i.toNat < l.length) : rd_T24 l i ∈ l := by
  have : rd_T24 l i ∈ l.drop i.toNat := by rw [rd24_drop h0 h]; exact List.mem_cons_self
  exact List.mem_of_mem_drop this
theorem rd27_mem {l : List S27} {i : Int} (h0 : 0 ≤ i) (h : i.toNat < l.length) : rd_T27 l i ∈ l := by
  have : rd_T27 l i ∈ l.drop i.toNat := by rw [rd27_drop h0 h]; exact List.mem_cons_self
  exact List.mem_of_mem_drop this
theorem szPorts_loop (l : List S24) (hl : l.length ≤ 1048576) (hx : ∀ x ∈ l, x.f2.length ≤ 9223372036854775807) (d : Nat) : ∀ (k : Nat) (i m : Int), 0 ≤ i → i + d = l.length → d < k → 0 ≤ m → m ≤ 1048576 →
    ∃ v, laws_szVPortS.l0 k l m i = some v ∧ (v < 0 ∨ short S24.f2 (l.drop i.toNat)) := by
  induction d with
  | zero =>
    intro k i m h0 h1 hk hm hm2
    obtain ⟨k, rfl⟩ : ∃ q, k = q + 1 := ⟨k - 1, by omega⟩
    simp only [laws_szVPortS.l0]
    rw [if_neg (by omega)]
    refine ⟨m, rfl, Or.inr fun x hx => ?_⟩
    rw [List.drop_eq_nil_of_le (by omega)] at hx
    simp at hx
  | succ d ih =>
    intro k i m h0 h1 hk hm hm2
    obtain ⟨k, rfl⟩ : ∃ q, k = q + 1 := ⟨k - 1, by omega⟩
    simp only [laws_szVPortS.l0]
    rw [if_pos (by omega), if_pos h0, szPort (hx _ (rd24_mem h0 (by omega))) hm hm2]
    simp only [Option.bind_some]
    by_cases hs : m - ((rd_T24 l i).f2.length : Int) < 0
    · rw [if_pos hs, if_pos (by omega)]
      exact ⟨-1, rfl, Or.inl (by omega)⟩
    · rw [if_neg hs, if_neg hs, w_in (n := i + 1) (by omega) (by omega)]
      obtain ⟨v, e, hv⟩ := ih k (i + 1) (m - ((rd_T24 l i).f2.length : Int)) (by omega) (by omega) (by omega) (by omega) (by omega)
      refine ⟨v, e, hv.imp id fun h x hx => ?_⟩
      rw [rd24_drop h0 (by omega)] at hx
      rcases List.mem_cons.1 hx with hx | hx
      · subst hx; omega
      · exact h x hx
theorem szPorts (l : List S24) (hl : l.length ≤ 9223372036854775807) (hx : ∀ x ∈ l, x.f2.length ≤ 9223372036854775807) {k : Nat} (hk : 1048577 < k) : ∃ v, laws_szVPortS.f k l 1048576 = some v ∧ (v < 0 ∨ (l.length ≤ 1048576 ∧ short S24.f2 l)) := by
  unfold laws_szVPortS.f
  rw [w_in (n := 1048576 - (l.length : Int)) (by omega) (by omega)]
  by_cases h : (1048576 : Int) - (l.length : Int) < 0
  · rw [if_pos h]
    exact ⟨-1, rfl, Or.inl (by omega)⟩
  · rw [if_neg h]
    obtain ⟨v, e, hv⟩ := szPorts_loop l (by omega) hx l.length k 0 (1048576 - (l.length : Int)) (by omega) (by omega) (by omega) (by omega) (by omega)
    exact ⟨v, e, hv.imp id fun h => ⟨by omega, by simpa using h⟩⟩
theorem toPorts_loop (l : List S24) (hl : l.length ≤ 1048576) (hx : short S24.f2 l) (d : Nat) : ∀ (k : Nat) (i : Int) (x : List S27), 0 ≤ i → i + d = l.length → d + 1048580 < k → x.length = l.length → x.take i.toNat = (l.map cvp).take i.toNat →
    laws_toVPortS.l0 k l x i = some (l.map cvp) := by
  induction d with
  | zero =>
    intro k i x h0 h1 hk hlx ht
    obtain ⟨k, rfl⟩ : ∃ m, k = m + 1 := ⟨k - 1, by omega⟩
    simp only [laws_toVPortS.l0]
    rw [if_neg (by omega)]
    rw [List.take_of_length_le (by omega), List.take_of_length_le (by simp; omega)] at ht
    rw [ht]
  | succ d ih =>
    intro k i x h0 h1 hk hlx ht
    obtain ⟨k, rfl⟩ : ∃ m, k = m + 1 := ⟨k - 1, by omega⟩
    have hs := hx _ (rd24_mem (l := l) h0 (by omega))
    simp only [laws_toVPortS.l0]
    rw [if_pos (by omega), if_pos h0, toPort_ok (by omega) (by omega)]
    simp only [Option.bind_some]
    rw [if_pos (by omega), w_in (by omega) (by omega)]
    refine ih k (i + 1) _ (by omega) (by omega) (by omega) (by simpa using hlx) ?_
    have e : (i + 1).toNat = i.toNat + 1 := by omega
    have hi : i.toNat < l.length := by omega
    have hrd : (l.map cvp)[i.toNat]'(by simpa using hi) = cvp (rd_T24 l i) := by
      unfold rd_T24
      rw [List.getD_eq_getElem?_getD, List.getElem?_eq_getElem hi, List.getElem_map]
      rfl
    rw [e, List.take_succ_eq_append_getElem (by simpa [hlx] using hi), List.take_succ_eq_append_getElem (by simpa using hi), List.getElem_set_self, List.take_set_of_le (Nat.le_refl _), ht, hrd]
    rfl
theorem toPorts_ok {l : List S24} (hl : l.length ≤ 1048576) (hx : short S24.f2 l) {k : Nat} (hk : l.length + 1048580 < k) : laws_toVPortS.f k l = some (l.map cvp) := by
  unfold laws_toVPortS.f
  rw [if_pos (by omega), if_pos (by omega)]
  exact toPorts_loop l hl hx l.length k 0 _ (by omega) (by omega) hk (by simp) (by simp)
theorem short_map {l : List S24} (hx : short S24.f2 l) : short S27.f2 (l.map cvp) := by
  intro x h
  obtain ⟨y, hy, rfl⟩ := List.mem_map.1 h
  exact hx y hy
theorem eqPorts_loop (l : List S27) (hl : l.length ≤ 1048576) (hx : short S27.f2 l) (d : Nat) : ∀ (k : Nat) (i : Int), 0 ≤ i → i + d = l.length → d + 1048580 < k → laws_eqVPortS.l0 k l l i = some true := by
  induction d with
  | zero =>
    intro k i h0 h1 hk
    obtain ⟨k, rfl⟩ : ∃ m, k = m + 1 := ⟨k - 1, by omega⟩
    simp only [laws_eqVPortS.l0]
    rw [if_neg (by omega)]
  | succ d ih =>
    intro k i h0 h1 hk
    obtain ⟨k, rfl⟩ : ∃ m, k = m + 1 := ⟨k - 1, by omega⟩
    have hs := hx _ (rd27_mem (l := l) h0 (by omega))
    simp only [laws_eqVPortS.l0]
    rw [if_pos (by omega), if_pos h0, if_pos (by omega), eqPort_ok (by omega) (by omega)]
    simp only [Option.bind_some, if_true]
    rw [w_in (by omega) (by omega)]
    exact ih k (i + 1) (by omega) (by omega) (by omega)
theorem eqPorts_ok {l : List S27} (hl : l.length ≤ 1048576) (hx : short S27.f2 l) {k : Nat} (hk : l.length + 1048580 < k) : laws_eqVPortS.f k l l = some true := by
  unfold laws_eqVPortS.f
  rw [if_pos rfl]
  exact eqPorts_loop l hl hx l.length k 0 (by omega) (by omega) hk
def PV (x : S27) : Bool := pv x.f0 x.f1 x.f2
/-- Are ports fine? -/
def psv (l : List S27) : Bool := l.all PV && decide (1 ≤ l.length ∧ l.length ≤ 6)
theorem spec_ports_loop (l : List S27) (hl : l.length ≤ 1048576) (hx : short S27.f2 l) (d : Nat) : ∀ (k : Nat) (i : Int), 0 ≤ i → i + d = l.length → d + 1048580 < k → spec_VPortsValid.l0 k l i = some ((l.drop i.toNat).all PV && decide (1 ≤ l.length ∧ l.length ≤ 6)) := by
  induction d with
  | zero =>
    intro k i h0 h1 hk
    obtain ⟨k, rfl⟩ : ∃ m, k = m + 1 := ⟨k - 1, by omega⟩
    simp only [spec_VPortsValid.l0, s_in, Option.bind_some]
    rw [if_neg (by omega), List.drop_eq_nil_of_le (by omega)]
    congr 1
    rw [Bool.eq_iff_iff]
    simp
    omega
  | succ d ih =>
    intro k i h0 h1 hk
    obtain ⟨k, rfl⟩ : ∃ m, k = m + 1 := ⟨k - 1, by omega⟩
    have hs := hx _ (rd27_mem (l := l) h0 (by omega))
    rw [rd27_drop h0 (by omega)]
    simp only [spec_VPortsValid.l0]
    rw [if_pos (by omega), if_pos h0, spec_port (by omega) (by omega)]
    simp only [Option.bind_some, List.all_cons]
    rw [w_in (by omega) (by omega), ih k (i + 1) (by omega) (by omega) (by omega)]
    by_cases h : pv (rd_T27 l i).f0 (rd_T27 l i).f1 (rd_T27 l i).f2 = true
    · rw [if_pos h, show PV (rd_T27 l i) = true from h]
      rfl
    · rw [if_neg h, show PV (rd_T27 l i) = false from (Bool.not_eq_true _).mp h]
      rfl
theorem spec_ports {l : List S27} (hl : l.length ≤ 1048576) (hx : short S27.f2 l) {k : Nat} (hk : l.length + 1048580 < k) : spec_VPortsValid.f k l = some (psv l) := by
  unfold spec_VPortsValid.f psv
  rw [spec_ports_loop l hl hx l.length k 0 (by omega) (by omega) hk]
  simp
theorem impl_ports {l : List S27} (hx : short S27.f2 l) {k : Nat} (hk : 1048580 < k) : impl_VPortsValid.f k l = some (psv l) := by
  unfold impl_VPortsValid.f psv impl_portsOk.f all_impl_VPort_valid.f
  rw [i_in, allO_total (q := PV) l (fun x h => by have := hx x h; exact impl_port (by omega) (by omega))]
  simp only [Option.bind_some]
  by_cases h : 1 ≤ l.length ∧ l.length ≤ 6
  · rw [if_pos (by simp; omega)]
    simp [h]
  · rw [if_neg (by simp; omega)]
    simp [h]

def tgo (kd own : Int) (c : List Int) (v : Int) : Int := if pv kd own c = true then (if v = own then 0 else if c.contains v = true then v else -1) else -1
theorem spec_tagout {kd own : Int} {c : List Int} {v : Int} (hl : c.length ≤ 9223372036854775806) {k : Nat} (hk : c.length + 1 < k) : spec_TagOut.f k kd own c v = some (tgo kd own c v) := by
  unfold spec_TagOut.f tgo
  rw [spec_port hl hk, has_ok hl (by omega)]
  simp only [Option.bind_some]
  split
  · split
    · rfl
    · split <;> rfl
  · rfl
theorem impl_tagout {kd own : Int} {c : List Int} {v : Int} (hl : c.length ≤ 9223372036854775806) {k : Nat} (hk : c.length + 1 < k) : impl_TagOut.f k kd own c v = some (tgo kd own c v) := by
  unfold impl_TagOut.f tgo
  rw [impl_port hl hk, contains_ok hl (by omega)]
  simp only [Option.bind_some]
  split
  · split
    · rfl
    · split <;> rfl
  · rfl

def onv (v : Int) (x : S27) : Bool := decide (0 ≤ tgo x.f0 x.f1 x.f2 v)
def atok (l : List S27) (at_ : Int) : Bool := psv l && decide (0 ≤ at_ ∧ at_ ≤ (l.length : Int) - 1)
theorem impl_portAt {l : List S27} (at_ : Int) (hl : l.length ≤ 1048576) (hx : short S27.f2 l) {k : Nat} (hk : 1048580 < k) : impl_portAt.f k l at_ = some (atok l at_) := by
  unfold impl_portAt.f atok
  rw [impl_ports hx hk, i_in, w_in (n := (l.length : Int) - 1) (by omega) (by omega)]
  cases psv l <;> simp
/-- The networks, from v on, that two ports share. -/
def meetF (x y : S27) : Nat → Int → List Int
  | 0, _ => []
  | d + 1, v => if onv v x = true ∧ onv v y = true then v :: meetF x y d (v + 1) else meetF x y d (v + 1)
theorem meetF_comm (x y : S27) : ∀ (d : Nat) (v : Int), meetF x y d v = meetF y x d v
  | 0, _ => rfl
  | d + 1, v => by
    have ih := meetF_comm x y d (v + 1)
    unfold meetF
    rw [ih]
    by_cases h : onv v x = true ∧ onv v y = true
    · rw [if_pos h, if_pos h.symm]
    · rw [if_neg h, if_neg (fun h2 => h h2.symm)]
theorem meetF_mem (x y : S27) : ∀ (d : Nat) (v u : Int), u ∈ meetF x y d v ↔ (v ≤ u ∧ u < v + d ∧ onv u x = true ∧ onv u y = true)
  | 0, v, u => by
    simp only [meetF, List.not_mem_nil, false_iff]
    omega
  | d + 1, v, u => by
    have ih := meetF_mem x y d (v + 1) u
    unfold meetF
    by_cases h : onv v x = true ∧ onv v y = true
    · rw [if_pos h, List.mem_cons, ih]
      constructor
      · rintro (e | ⟨h1, h2, h3⟩)
        · subst e; exact ⟨by omega, by omega, h⟩
        · exact ⟨by omega, by omega, h3⟩
      · rintro ⟨h1, h2, h3⟩
        by_cases e : u = v
        · exact Or.inl e
        · exact Or.inr ⟨by omega, by omega, h3⟩
    · rw [if_neg h, ih]
      constructor
      · rintro ⟨h1, h2, h3⟩; exact ⟨by omega, by omega, h3⟩
      · rintro ⟨h1, h2, h3⟩
        by_cases e : u = v
        · subst e; exact absurd h3 h
        · exact ⟨by omega, by omega, h3⟩
theorem meetF_len (x y : S27) : ∀ (d : Nat) (v : Int), (meetF x y d v).length ≤ d
  | 0, _ => Nat.le_refl _
  | d + 1, v => by
    have ih := meetF_len x y d (v + 1)
    unfold meetF
    split
    · simp only [List.length_cons]; omega
    · omega
theorem spec_meet_loop {l : List S27} {a b : Int} (ha : 0 ≤ a ∧ a < l.length) (hb : 0 ≤ b ∧ b < l.length) (hx : short S27.f2 l) (d : Nat) : ∀ (k : Nat) (v : Int) (acc : List Int), 1 ≤ v → v + d = 10 → d + 1048600 < k → acc.length + d ≤ 1000 →
    spec_MeetIn.l0 k l a b acc v = some (acc ++ meetF (rd_T27 l a) (rd_T27 l b) d v) := by
  have hsa := hx _ (rd27_mem (l := l) ha.1 (by omega))
  have hsb := hx _ (rd27_mem (l := l) hb.1 (by omega))
  induction d with
  | zero =>
    intro k v acc h0 h1 hk hl
    obtain ⟨k, rfl⟩ : ∃ m, k = m + 1 := ⟨k - 1, by omega⟩
    simp only [spec_MeetIn.l0]
    rw [if_neg (by omega)]
    simp [meetF]
  | succ d ih =>
    intro k v acc h0 h1 hk hl
    obtain ⟨k, rfl⟩ : ∃ m, k = m + 1 := ⟨k - 1, by omega⟩
    simp only [spec_MeetIn.l0, meetF]
    rw [if_pos (by omega), if_pos ha.1, if_pos ha.2, spec_tagout (by omega) (by omega), w_in (n := v + 1) (by omega) (by omega)]
    simp only [Option.bind_some]
    by_cases hA : tgo (rd_T27 l a).f0 (rd_T27 l a).f1 (rd_T27 l a).f2 v ≥ 0
    · have oA : onv v (rd_T27 l a) = true := decide_eq_true hA
      rw [if_pos hA, if_pos hb.1, if_pos hb.2, spec_tagout (by omega) (by omega)]
      simp only [Option.bind_some]
      by_cases hB : tgo (rd_T27 l b).f0 (rd_T27 l b).f1 (rd_T27 l b).f2 v ≥ 0
      · have oB : onv v (rd_T27 l b) = true := decide_eq_true hB
        rw [if_pos hB, if_pos (by omega), if_pos ⟨oA, oB⟩, ih k (v + 1) _ (by omega) (by omega) (by omega) (by simp; omega)]
        simp
      · have oB : onv v (rd_T27 l b) = false := decide_eq_false hB
        rw [if_neg hB, if_neg (by rw [oB]; simp), ih k (v + 1) _ (by omega) (by omega) (by omega) (by omega)]
    · have oA : onv v (rd_T27 l a) = false := decide_eq_false hA
      rw [if_neg hA, if_neg (by rw [oA]; simp), ih k (v + 1) _ (by omega) (by omega) (by omega) (by omega)]
theorem impl_meet_ok {x y : S27} (hx : x.f2.length ≤ 1048576) (hy : y.f2.length ≤ 1048576) (d : Nat) : ∀ (k : Nat) (v : Int) (acc : List Int), 1 ≤ v → v + d = 10 → d + 1048600 < k → acc.length + d ≤ 1000 →
    impl_meet.l0 k acc v x.f0 x.f1 x.f2 y.f0 y.f1 y.f2 = some (acc ++ meetF x y d v) := by
  induction d with
  | zero =>
    intro k v acc h0 h1 hk hl
    obtain ⟨k, rfl⟩ : ∃ m, k = m + 1 := ⟨k - 1, by omega⟩
    simp only [impl_meet.l0]
    rw [if_neg (by omega)]
    simp [meetF]
  | succ d ih =>
    intro k v acc h0 h1 hk hl
    obtain ⟨k, rfl⟩ : ∃ m, k = m + 1 := ⟨k - 1, by omega⟩
    simp only [impl_meet.l0, meetF]
    rw [if_pos (by omega), impl_tagout (by omega) (by omega), w_in (n := v + 1) (by omega) (by omega)]
    simp only [Option.bind_some]
    by_cases hA : tgo x.f0 x.f1 x.f2 v ≥ 0
    · have oA : onv v x = true := decide_eq_true hA
      rw [if_pos hA, impl_tagout (by omega) (by omega)]
      simp only [Option.bind_some]
      by_cases hB : tgo y.f0 y.f1 y.f2 v ≥ 0
      · have oB : onv v y = true := decide_eq_true hB
        rw [if_pos hB, if_pos (by omega), if_pos ⟨oA, oB⟩, ih k (v + 1) _ (by omega) (by omega) (by omega) (by simp; omega)]
        simp
      · have oB : onv v y = false := decide_eq_false hB
        rw [if_neg hB, if_neg (by rw [oB]; simp), ih k (v + 1) _ (by omega) (by omega) (by omega) (by omega)]
    · have oA : onv v x = false := decide_eq_false hA
      rw [if_neg hA, if_neg (by rw [oA]; simp), ih k (v + 1) _ (by omega) (by omega) (by omega) (by omega)]
def meet (x y : S27) : List Int := meetF x y 9 1
theorem impl_meet {x y : S27} (hx : x.f2.length ≤ 1048576) (hy : y.f2.length ≤ 1048576) {k : Nat} (hk : 1048620 < k) : impl_meet.f k x.f0 x.f1 x.f2 y.f0 y.f1 y.f2 = some (meet x y) := by
  unfold impl_meet.f meet
  rw [impl_meet_ok hx hy 9 k 1 [] (by omega) (by omega) (by omega) (by simp)]
  simp
def meetin (l : List S27) (a b : Int) : List Int := if atok l a = true ∧ atok l b = true then meet (rd_T27 l a) (rd_T27 l b) else []
theorem atok_open {l : List S27} {a : Int} (h : atok l a = true) : psv l = true ∧ 0 ≤ a ∧ a < l.length := by
  simp only [atok, Bool.and_eq_true, decide_eq_true_eq] at h
  exact ⟨h.1, by omega, by omega⟩
theorem spec_meet {l : List S27} (a b : Int) (hl : l.length ≤ 1048576) (hx : short S27.f2 l) {k : Nat} (hk : 2200000 < k) : spec_MeetIn.f k l a b = some (meetin l a b) := by
  obtain ⟨k, rfl⟩ : ∃ m, k = m + 1 := ⟨k - 1, by omega⟩
  have hbad : spec_MeetIn.j0 (k + 1) l a b [] true = some [] := by
    simp only [spec_MeetIn.j0]
    rw [if_pos trivial]
  unfold spec_MeetIn.f meetin
  rw [spec_ports hl hx (by omega), s_in, s_in, w_in (n := (l.length : Int) - 1) (by omega) (by omega)]
  simp only [Option.bind_some]
  by_cases hp : psv l = true
  · rw [if_pos hp]
    by_cases ha : 0 ≤ a ∧ a ≤ (l.length : Int) - 1
    · have oa : atok l a = true := by simp [atok, hp, ha]
      rw [if_pos (decide_eq_true ha)]
      by_cases hb : 0 ≤ b ∧ b ≤ (l.length : Int) - 1
      · have ob : atok l b = true := by simp [atok, hp, hb]
        rw [decide_eq_true hb, if_pos ⟨oa, ob⟩]
        simp only [spec_MeetIn.j0, Bool.not_true]
        rw [if_neg (by decide), spec_meet_loop ⟨ha.1, by omega⟩ ⟨hb.1, by omega⟩ hx 9 k 1 [] (by omega) (by omega) (by omega) (by simp)]
        simp [meet]
      · have ob : atok l b = false := by simp only [atok, hp, decide_eq_false hb]; rfl
        rw [decide_eq_false hb, if_neg (by rw [ob]; simp)]
        exact hbad
    · have oa : atok l a = false := by simp only [atok, hp, decide_eq_false ha]; rfl
      rw [decide_eq_false ha, if_neg (by decide), if_neg (by rw [oa]; simp)]
      exact hbad
  · have oa : atok l a = false := by simp [atok, hp]
    rw [if_neg hp, if_neg (by rw [oa]; simp)]
    exact hbad
/-- The ports to which no frame comes from one. -/
def apF (z : S27) (at_ : Int) : List S27 → Int → List Int
  | [], _ => []
  | x :: xs, i => if i = at_ then apF z at_ xs (i + 1) else if (meet x z).length = 0 then i :: apF z at_ xs (i + 1) else apF z at_ xs (i + 1)
theorem apF_len (z : S27) (at_ : Int) : ∀ (l : List S27) (i : Int), (apF z at_ l i).length ≤ l.length
  | [], _ => Nat.le_refl _
  | x :: xs, i => by
    have := apF_len z at_ xs (i + 1)
    unfold apF
    split
    · simp only [List.length_cons]; omega
    · split
      · simp only [List.length_cons]; omega
      · simp only [List.length_cons]; omega
theorem apF_mem (z : S27) (at_ : Int) : ∀ (l : List S27) (i j : Int), j ∈ apF z at_ l i ↔ (i ≤ j ∧ j < i + l.length ∧ j ≠ at_ ∧ (meet (rd_T27 l (j - i)) z).length = 0)
  | [], i, j => by
    simp only [apF, List.not_mem_nil, List.length_nil, false_iff]
    omega
  | x :: xs, i, j => by
    have ih := apF_mem z at_ xs (i + 1) j
    have e1 : ∀ (_ : i < j), rd_T27 (x :: xs) (j - i) = rd_T27 xs (j - (i + 1)) := fun h => by
      unfold rd_T27
      rw [show (j - i).toNat = (j - (i + 1)).toNat + 1 by omega]
      simp
    have e0 : ∀ (_ : j = i), rd_T27 (x :: xs) (j - i) = x := fun h => by
      unfold rd_T27
      rw [show (j - i).toNat = 0 by omega]
      simp
    have el : ((x :: xs).length : Int) = xs.length + 1 := by simp
    rw [el]
    unfold apF
    by_cases hi : i = at_
    · rw [if_pos hi, ih]
      constructor
      · rintro ⟨h1, h2, h3, h4⟩
        exact ⟨by omega, by omega, h3, by rw [e1 (by omega)]; exact h4⟩
      · rintro ⟨h1, h2, h3, h4⟩
        exact ⟨by omega, by omega, h3, by rw [← e1 (by omega)]; exact h4⟩
    · rw [if_neg hi]
      by_cases ho : (meet x z).length = 0
      · rw [if_pos ho, List.mem_cons, ih]
        constructor
        · rintro (h | ⟨h1, h2, h3, h4⟩)
          · exact ⟨by omega, by omega, by omega, by rw [e0 h]; exact ho⟩
          · exact ⟨by omega, by omega, h3, by rw [e1 (by omega)]; exact h4⟩
        · rintro ⟨h1, h2, h3, h4⟩
          by_cases h : j = i
          · exact Or.inl h
          · exact Or.inr ⟨by omega, by omega, h3, by rw [← e1 (by omega)]; exact h4⟩
      · rw [if_neg ho, ih]
        constructor
        · rintro ⟨h1, h2, h3, h4⟩
          exact ⟨by omega, by omega, h3, by rw [e1 (by omega)]; exact h4⟩
        · rintro ⟨h1, h2, h3, h4⟩
          by_cases h : j = i
          · rw [e0 h] at h4; exact absurd h4 ho
          · exact ⟨by omega, by omega, h3, by rw [← e1 (by omega)]; exact h4⟩
def apart (l : List S27) (at_ : Int) : List Int := if atok l at_ = true then apF (rd_T27 l at_) at_ l 0 else []
theorem apart_len (l : List S27) (at_ : Int) : (apart l at_).length ≤ l.length := by
  unfold apart
  split
  · exact apF_len _ _ _ _
  · simp
theorem impl_apart_loop {l : List S27} {at_ : Int} (hat : 0 ≤ at_ ∧ at_ < l.length) (hl : l.length ≤ 1048576) (hx : short S27.f2 l) (d : Nat) : ∀ (k : Nat) (i : Int) (acc : List Int), 0 ≤ i → i + d = l.length → d + 1048640 < k → acc.length + d ≤ 2000000 →
    impl_ApartFrom.l0 k l at_ acc l (l.length : Int) i = some (acc ++ apF (rd_T27 l at_) at_ (l.drop i.toNat) i) := by
  have hsa := hx _ (rd27_mem (l := l) hat.1 (by omega))
  induction d with
  | zero =>
    intro k i acc h0 h1 hk ha
    obtain ⟨k, rfl⟩ : ∃ m, k = m + 1 := ⟨k - 1, by omega⟩
    simp only [impl_ApartFrom.l0]
    rw [if_neg (by omega), List.drop_eq_nil_of_le (by omega)]
    simp [apF]
  | succ d ih =>
    intro k i acc h0 h1 hk ha
    obtain ⟨k, rfl⟩ : ∃ m, k = m + 1 := ⟨k - 1, by omega⟩
    have hs := hx _ (rd27_mem (l := l) h0 (by omega))
    simp only [impl_ApartFrom.l0]
    rw [if_pos (by omega), if_pos h0, if_pos (by omega), if_pos hat.1, if_pos hat.2, impl_meet hs hsa (by omega), w_in (n := i + 1) (by omega) (by omega), rd27_drop h0 (by omega)]
    simp only [Option.bind_some, apF]
    by_cases h : i = at_
    · rw [if_pos h, if_pos h, ih k (i + 1) _ (by omega) (by omega) (by omega) (by omega)]
    · rw [if_neg h, if_neg h]
      by_cases h2 : (meet (rd_T27 l i) (rd_T27 l at_)).length = 0
      · rw [if_pos (by omega), if_pos (by omega), if_pos h2, ih k (i + 1) _ (by omega) (by omega) (by omega) (by simp; omega)]
        simp
      · rw [if_neg (by omega), if_neg h2, ih k (i + 1) _ (by omega) (by omega) (by omega) (by omega)]
theorem impl_apart {l : List S27} (at_ : Int) (hl : l.length ≤ 1048576) (hx : short S27.f2 l) {k : Nat} (hk : 3000000 < k) : impl_ApartFrom.f k l at_ = some (apart l at_) := by
  unfold impl_ApartFrom.f apart
  rw [impl_portAt at_ hl hx (by omega)]
  simp only [Option.bind_some]
  by_cases ho : atok l at_ = true
  · rw [if_pos ho, if_pos ho]
    have h2 := atok_open ho
    rw [impl_apart_loop h2.2 hl hx l.length k 0 [] (by omega) (by omega) (by omega) (by simp; omega)]
    simp
  · rw [if_neg ho, if_neg ho]
theorem spec_apart_loop {l : List S27} {at_ : Int} (ho : atok l at_ = true) (hl : l.length ≤ 1048576) (hx : short S27.f2 l) (d : Nat) : ∀ (k : Nat) (i : Int) (acc : List Int), 0 ≤ i → i + d = l.length → 2 * d + 2300000 < k → acc.length + d ≤ 2000000 →
    spec_ApartFrom.l0 k l at_ acc i = some (acc ++ apF (rd_T27 l at_) at_ (l.drop i.toNat) i) := by
  have hat := atok_open ho
  induction d with
  | zero =>
    intro k i acc h0 h1 hk ha
    obtain ⟨k, rfl⟩ : ∃ m, k = m + 2 := ⟨k - 2, by omega⟩
    simp only [spec_ApartFrom.l0, spec_ApartFrom.j1]
    rw [if_neg (by omega), if_neg (by decide), List.drop_eq_nil_of_le (by omega)]
    simp [apF]
  | succ d ih =>
    intro k i acc h0 h1 hk ha
    obtain ⟨k, rfl⟩ : ∃ m, k = m + 2 := ⟨k - 2, by omega⟩
    have oi : atok l i = true := by simp only [atok, hat.1, Bool.true_and, decide_eq_true_eq]; omega
    have hin : decide (0 ≤ at_ ∧ at_ ≤ (l.length : Int) - 1) = true := decide_eq_true (by omega)
    simp only [spec_ApartFrom.l0]
    rw [if_pos (by omega), spec_ports hl hx (by omega), hat.1, s_in, w_in (n := (l.length : Int) - 1) (by omega) (by omega), hin]
    simp only [Option.bind_some, if_true, spec_ApartFrom.j1]
    have em : meetin l at_ i = meet (rd_T27 l i) (rd_T27 l at_) := by
      unfold meetin
      rw [if_pos ⟨ho, oi⟩]
      exact meetF_comm _ _ _ _
    rw [spec_meet at_ i hl hx (by omega), em, w_in (n := i + 1) (by omega) (by omega), rd27_drop h0 (by omega)]
    simp only [Option.bind_some, apF]
    by_cases h : i = at_
    · rw [if_pos h, if_pos h, ih k (i + 1) _ (by omega) (by omega) (by omega) (by omega)]
    · rw [if_neg h, if_neg h]
      by_cases h2 : (meet (rd_T27 l i) (rd_T27 l at_)).length = 0
      · rw [if_pos (by omega), if_pos (by omega), if_pos h2, ih k (i + 1) _ (by omega) (by omega) (by omega) (by simp; omega)]
        simp
      · rw [if_neg (by omega), if_neg h2, ih k (i + 1) _ (by omega) (by omega) (by omega) (by omega)]
theorem spec_apart {l : List S27} (at_ : Int) (hl : l.length ≤ 1048576) (hx : short S27.f2 l) {k : Nat} (hk : 5000000 < k) : spec_ApartFrom.f k l at_ = some (apart l at_) := by
  unfold spec_ApartFrom.f apart
  by_cases ho : atok l at_ = true
  · rw [if_pos ho, spec_apart_loop ho hl hx l.length k 0 [] (by omega) (by omega) (by omega) (by simp; omega)]
    simp
  · rw [if_neg ho]
    obtain ⟨k, rfl⟩ : ∃ m, k = m + 2 := ⟨k - 2, by omega⟩
    simp only [spec_ApartFrom.l0]
    have hbad : spec_ApartFrom.j1 (k + 1) l at_ [] 0 false = some [] := by
      simp only [spec_ApartFrom.j1]
      rw [if_neg (by decide)]
    by_cases h : (0 : Int) < l.length
    · rw [if_pos h, spec_ports hl hx (by omega), s_in, w_in (n := (l.length : Int) - 1) (by omega) (by omega)]
      simp only [Option.bind_some]
      by_cases hp : psv l = true
      · rw [if_pos hp]
        have : ¬ (0 ≤ at_ ∧ at_ ≤ (l.length : Int) - 1) := fun h3 => ho (by simp [atok, hp, h3])
        rw [decide_eq_false this]
        exact hbad
      · rw [if_neg hp]; exact hbad
    · rw [if_neg h]; exact hbad
theorem mv_ok {k : Nat} (hk : 1048577 < k) : ∀ (l : List S27) (m : Int), short S27.f2 l → 0 ≤ m → m + (l.length : Int) * 1048578 ≤ 100000000000000 → ∃ v, laws_markVPortS.g k l m = some v ∧ 0 ≤ v
  | [], m, _, hm, _ => ⟨m, rfl, hm⟩
  | x :: xs, m, hs, hm, hb => by
    have hx := hs x List.mem_cons_self
    simp only [List.length_cons] at hb
    obtain ⟨v, h, h0⟩ := mv_ok hk xs (m + 2 + (x.f2.length : Int)) (fun y hy => hs y (List.mem_cons_of_mem _ hy)) (by omega) (by omega)
    refine ⟨v, ?_, h0⟩
    unfold laws_markVPortS.g
    rw [w_in (n := m + 1) (by omega) (by omega), w_in (n := m + 1 + 1) (by omega) (by omega), show m + 1 + 1 = m + 2 by omega, mark_ok (by omega) (by omega) (by omega) (by omega)]
    exact h
theorem markV_ok {l : List S27} (hl : l.length ≤ 1048576) (hs : short S27.f2 l) {k : Nat} (hk : 1048577 < k) : ∃ v, laws_markVPortS.f k l 1 = some v ∧ 0 ≤ v := by
  unfold laws_markVPortS.f
  rw [if_pos (by omega)]
  exact mv_ok hk l 1 hs (by omega) (by omega)

theorem FnExactApartFrom : laws_FnExactApartFrom.Pure := by
  intro l a hl _
  have hm : l.length ≤ 9223372036854775807 := by have := hl.1; simp only [maxLen] at this; omega
  have hm2 : ∀ x ∈ l, x.f2.length ≤ 9223372036854775807 := fun x hx => by have := (hl.2 x hx).2.2.1; simp only [maxLen] at this; omega
  obtain ⟨k, hk⟩ : ∃ k : Nat, 9000000 < k := ⟨9000001, by omega⟩
  refine ⟨k + 1, ?_⟩
  unfold laws_FnExactApartFrom.f
  obtain ⟨v, e, hv⟩ := szPorts l hm hm2 (k := k + 1) (by omega)
  rw [bs e]
  rcases hv with hv | ⟨h1, h2⟩
  · rw [if_pos hv]
  by_cases hv : v < 0
  · rw [if_pos hv]
  rw [if_neg hv]
  have hlen : (l.map cvp).length = l.length := by simp
  have hsh := short_map h2
  have hL : (l.map cvp).length ≤ 1048576 := by omega
  obtain ⟨R, hR⟩ : ∃ R, R = apart (l.map cvp) a := ⟨_, rfl⟩
  have hRl : R.length ≤ 1048576 := by rw [hR]; exact Nat.le_trans (apart_len _ _) hL
  have K : ∀ q, 8000000 < q → laws_toVPortS.f q l = some (l.map cvp) ∧ spec_ApartFrom.f q (l.map cvp) a = some R ∧ impl_ApartFrom.f q (l.map cvp) a = some R ∧ laws_eqIntS.f q R R = some true ∧ laws_eqVPortS.f q (l.map cvp) (l.map cvp) = some true ∧ (∃ u, laws_markVPortS.f q (l.map cvp) 1 = some u ∧ 0 ≤ u) ∧ laws_markIntS.f q R 1 = some (1 + (R.length : Int), seqF 1 R.length) ∧ laws_heldIntS.f q (seqF 1 R.length) 1 = some (1 + (R.length : Int)) := fun q hq =>
    ⟨toPorts_ok h1 h2 (by omega), by rw [hR]; exact spec_apart a hL hsh (by omega), by rw [hR]; exact impl_apart a hL hsh (by omega), eqInt_ok (by omega) (by omega), eqPorts_ok hL hsh (by omega), markV_ok hL hsh (by omega), mark_ok (by omega) (by omega) (by omega) (by omega), held_ok (by omega) (by omega) (by omega) (by omega)⟩
  clear hR e hv
  generalize l.map cvp = P at *
  obtain ⟨e1, e2, e3, e4, e5, ⟨u, e6, hu⟩, e7, e8⟩ := K (k + 1) (by omega)
  rw [bs e1, bs e2, bs e1, bs e3, bs e4, if_pos rfl, bs e1, bs e5, if_pos rfl, bs e6, if_neg (by omega), bs e4]
  simp only [laws_FnExactApartFrom.j0, Bool.not_true]
  obtain ⟨e1, e2, e3, e4, e5, e6, e7, e8⟩ := K k (by omega)
  rw [if_neg (by decide), bs e7, bs e8, if_neg (by omega), if_pos rfl, bs e1, bs e3, bs e4, if_pos rfl, bs e8, if_neg (by omega), if_pos rfl]

end Go.Proofs.Ytmkjcoppadegjaa.Pure
