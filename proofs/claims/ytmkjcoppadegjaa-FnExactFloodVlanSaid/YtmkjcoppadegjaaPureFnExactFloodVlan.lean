/- What both sides of FnExactFloodVlan compute, in plain Lean. -/
import Derived.Test.YtmkjcoppadegjaaPFnExactFloodVlanx9
import Derived.Laws.BitsLemmas
import Derived.OpenShut
namespace Go.Proofs.Ytmkjcoppadegjaa.Pure
open Go.RowKit Go.Proofs.Ytmkjcoppadegjaa.PFnExactFloodVlan Go.Proofs.YtmkjcoppadegjaaW.PrintWords Go.Proofs.YtmkjcoppadegjaaW.PrintLast

theorem w_in {n : Int} (h0 : -9223372036854775808 ≤ n) (h1 : n ≤ 9223372036854775807) : wrap64 n = n := by unfold wrap64; omega

theorem bs {α β : Type} {x : Option α} {a : α} {f : α → Option β} (h : x = some a) : x.bind f = f a := by rw [h]; rfl
theorem allO_total {α : Type} {p : α → Option Bool} {q : α → Bool} : ∀ (l : List α), (∀ x ∈ l, p x = some (q x)) → allO p l = some (l.all q)
  | [], _ => rfl
  | x :: xs, h => by
    have ih := allO_total xs (fun y hy => h y (List.mem_cons_of_mem _ hy))
    simp only [allO, h x (List.mem_cons_self), Option.bind_some, List.all_cons]
    cases q x
    · simp
    · simpa using ih

theorem rd_at {l : List Int} {i : Int} (h0 : 0 ≤ i) (h : i.toNat < l.length) : l.drop i.toNat = rd l i :: l.drop (i + 1).toNat := by
  rw [List.drop_eq_getElem_cons h, show (i + 1).toNat = i.toNat + 1 by omega]
  unfold rd
  rw [List.getD_eq_getElem?_getD, List.getElem?_eq_getElem h]
  rfl
theorem rd_mem {l : List Int} {i : Int} (h0 : 0 ≤ i) (h : i < l.length) : rd l i ∈ l := by
  unfold rd
  rw [List.getD_eq_getElem?_getD, List.getElem?_eq_getElem (by omega)]
  exact List.getElem_mem _

theorem s_in (a b c : Int) : spec_l1In.f a b c = some (decide (b ≤ a ∧ a ≤ c)) := by
  unfold spec_l1In.f
  by_cases h : b ≤ a <;> simp [h]
theorem i_in (a b c : Int) : impl_within.f a b c = some (decide (b ≤ a ∧ a ≤ c)) := by
  unfold impl_within.f
  by_cases h : b ≤ a <;> simp [h]
theorem index_loop (l : List Int) (v : Int) (hl : l.length ≤ 9223372036854775806) (d : Nat) : ∀ (k : Nat) (i : Int), 0 ≤ i → i + d = l.length → d < k →
    ∃ r, slices_Index_int_int.l0 k l v (l.length : Int) i = some r ∧ decide (r ≥ 0) = (l.drop i.toNat).contains v := by
  induction d with
  | zero =>
    intro k i h0 h1 hk
    obtain ⟨k, rfl⟩ : ∃ m, k = m + 1 := ⟨k - 1, by omega⟩
    refine ⟨-1, by simp only [slices_Index_int_int.l0]; rw [if_neg (by omega)], ?_⟩
    rw [List.drop_eq_nil_of_le (by omega)]; rfl
  | succ d ih =>
    intro k i h0 h1 hk
    obtain ⟨k, rfl⟩ : ∃ m, k = m + 1 := ⟨k - 1, by omega⟩
    rw [rd_at h0 (by omega)]
    simp only [slices_Index_int_int.l0]
    rw [if_pos (by omega), if_pos h0, if_pos (by omega)]
    by_cases e : v = rd l i
    · exact ⟨i, by rw [if_pos e], by rw [← e]; simp [h0]⟩
    · obtain ⟨r, hr, hd⟩ := ih k (i + 1) (by omega) (by omega) (by omega)
      refine ⟨r, by rw [if_neg e, w_in (by omega) (by omega)]; exact hr, ?_⟩
      rw [hd, List.contains_cons]
      simp [e]
theorem contains_ok {l : List Int} {v : Int} (hl : l.length ≤ 9223372036854775806) {k : Nat} (hk : l.length < k) : slices_Contains_int_int.f k l v = some (l.contains v) := by
  obtain ⟨r, hr, hd⟩ := index_loop l v hl l.length k 0 (by omega) (by omega) hk
  unfold slices_Contains_int_int.f slices_Index_int_int.f
  rw [hr]
  simp only [Option.bind_some]
  rw [hd]; rfl

/-- Do numbers ascend, from index i on? -/
def asc (l : List Int) : Int → Nat → Bool
  | _, 0 => true
  | i, d + 1 => (decide (i ≤ 0) || decide (rd l (i - 1) < rd l i)) && asc l (i + 1) d
theorem impl_asc_loop (l : List Int) (hl : l.length ≤ 9223372036854775806) (d : Nat) : ∀ (k : Nat) (i : Int), 1 ≤ i → (d = 0 → (l.length : Int) ≤ i) → (0 < d → i + d = l.length) → d < k → impl_ascends.l0 k l i = some (asc l i d) := by
  induction d with
  | zero =>
    intro k i h0 h1 h2 hk
    obtain ⟨k, rfl⟩ : ∃ m, k = m + 1 := ⟨k - 1, by omega⟩
    have := h1 rfl
    simp only [impl_ascends.l0]
    rw [if_neg (by omega)]
    rfl
  | succ d ih =>
    intro k i h0 h1 h2 hk
    obtain ⟨k, rfl⟩ : ∃ m, k = m + 1 := ⟨k - 1, by omega⟩
    have := h2 (by omega)
    simp only [impl_ascends.l0]
    rw [w_in (n := i - 1) (by omega) (by omega), if_pos (by omega), if_pos (by omega), if_pos (by omega), if_pos (by omega), w_in (n := i + 1) (by omega) (by omega), ih k (i + 1) (by omega) (by omega) (by omega) (by omega)]
    simp only [asc]
    have e : decide (i ≤ 0) = false := by simp; omega
    by_cases h : rd l i ≤ rd l (i - 1)
    · rw [if_pos h]
      have e2 : decide (rd l (i - 1) < rd l i) = false := by simp; omega
      simp [e, e2]
    · rw [if_neg h]
      have e2 : decide (rd l (i - 1) < rd l i) = true := by simp; omega
      simp [e2]
theorem impl_asc {l : List Int} (hl : l.length ≤ 9223372036854775806) {k : Nat} (hk : l.length + 1 < k) : impl_ascends.f k l = some (asc l 0 l.length) := by
  unfold impl_ascends.f
  rw [impl_asc_loop l hl (l.length - 1) k 1 (by omega) (by omega) (by omega) (by omega)]
  cases h : l.length with
  | zero => simp [asc]
  | succ n => simp [asc]

theorem toInt_loop (l : List Int) (hl : l.length ≤ 9223372036854775806) (d : Nat) : ∀ (k : Nat) (i : Int) (x : List Int), 0 ≤ i → i + d = l.length → d < k → x.length = l.length → x.take i.toNat = l.take i.toNat →
    laws_toIntS.l0 k l x i = some l := by
  induction d with
  | zero =>
    intro k i x h0 h1 hk hx ht
    obtain ⟨k, rfl⟩ : ∃ m, k = m + 1 := ⟨k - 1, by omega⟩
    simp only [laws_toIntS.l0]
    rw [if_neg (by omega)]
    rw [List.take_of_length_le (by omega), List.take_of_length_le (by omega)] at ht
    rw [ht]
  | succ d ih =>
    intro k i x h0 h1 hk hx ht
    obtain ⟨k, rfl⟩ : ∃ m, k = m + 1 := ⟨k - 1, by omega⟩
    simp only [laws_toIntS.l0]
    rw [if_pos (by omega), if_pos h0, if_pos (by omega), w_in (by omega) (by omega)]
    refine ih k (i + 1) _ (by omega) (by omega) (by omega) (by simpa using hx) ?_
    have e : (i + 1).toNat = i.toNat + 1 := by omega
    have hi : i.toNat < l.length := by omega
    rw [e, List.take_succ_eq_append_getElem (by simpa [hx] using hi), List.take_succ_eq_append_getElem hi, List.getElem_set_self, List.take_set_of_le (Nat.le_refl _), ht]
    congr 2
    unfold rd
    rw [List.getD_eq_getElem?_getD, List.getElem?_eq_getElem hi]
    rfl
theorem toInt_ok {l : List Int} (hl : l.length ≤ 35184372088832) {k : Nat} (hk : l.length < k) : laws_toIntS.f k l = some l := by
  unfold laws_toIntS.f
  rw [if_pos (by omega), if_pos (by omega)]
  exact toInt_loop l (by omega) l.length k 0 _ (by omega) (by omega) hk (by simp) (by simp)

theorem eqInt_loop (l : List Int) (hl : l.length ≤ 9223372036854775806) (d : Nat) : ∀ (k : Nat) (i : Int), 0 ≤ i → i + d = l.length → d < k → laws_eqIntS.l0 k l l i = some true := by
  induction d with
  | zero =>
    intro k i h0 h1 hk
    obtain ⟨k, rfl⟩ : ∃ m, k = m + 1 := ⟨k - 1, by omega⟩
    simp only [laws_eqIntS.l0]
    rw [if_neg (by omega)]
  | succ d ih =>
    intro k i h0 h1 hk
    obtain ⟨k, rfl⟩ : ∃ m, k = m + 1 := ⟨k - 1, by omega⟩
    simp only [laws_eqIntS.l0]
    rw [if_pos (by omega), if_pos h0, if_pos (by omega), if_pos trivial, w_in (by omega) (by omega)]
    exact ih k (i + 1) (by omega) (by omega) (by omega)
theorem eqInt_ok {l : List Int} (hl : l.length ≤ 35184372088832) {k : Nat} (hk : l.length < k) : laws_eqIntS.f k l l = some true := by
  unfold laws_eqIntS.f
  rw [if_pos rfl]
  exact eqInt_loop l (by omega) l.length k 0 (by omega) (by omega) hk

/-- m, m + 1, .. -/
def seqF (m : Int) (n : Nat) : List Int := (List.range n).map fun (i : Nat) => m + (i : Int)
theorem seqF_len (m : Int) (n : Nat) : (seqF m n).length = n := by simp [seqF]
theorem seqF_succ (m : Int) (n : Nat) : seqF m (n + 1) = seqF m n ++ [m + n] := by simp [seqF, List.range_succ]
theorem seqF_rd (m : Int) (n : Nat) (i : Int) (h0 : 0 ≤ i) (h : i < n) : rd (seqF m n) i = m + i := by
  unfold rd seqF
  rw [List.getD_eq_getElem?_getD, List.getElem?_map, List.getElem?_range (by omega)]
  simp
  omega
theorem mark_loop (m : Int) (hm : 0 ≤ m) (hm2 : m ≤ 1000000000000000) (d : Nat) : ∀ (k : Nat) (i : Int) (x : List Int), 0 ≤ i → i + d = x.length → x.length ≤ 1000000000000000 → d < k → x.take i.toNat = seqF m i.toNat →
    laws_markIntS.l0 k x (m + i) i = some (m + x.length, seqF m x.length) := by
  induction d with
  | zero =>
    intro k i x h0 h1 hl hk ht
    obtain ⟨k, rfl⟩ : ∃ q, k = q + 1 := ⟨k - 1, by omega⟩
    simp only [laws_markIntS.l0]
    rw [if_neg (by omega)]
    rw [List.take_of_length_le (by omega)] at ht
    have e : i.toNat = x.length := by omega
    rw [e] at ht
    have e2 : i = x.length := by omega
    rw [← ht, ← e2]
  | succ d ih =>
    intro k i x h0 h1 hl hk ht
    obtain ⟨k, rfl⟩ : ∃ q, k = q + 1 := ⟨k - 1, by omega⟩
    simp only [laws_markIntS.l0]
    rw [if_pos (by omega), if_pos h0, w_in (n := i + 1) (by omega) (by omega), w_in (n := m + i + 1) (by omega) (by omega)]
    have e : (i + 1).toNat = i.toNat + 1 := by omega
    have hi : i.toNat < x.length := by omega
    have := ih k (i + 1) (x.set i.toNat (m + i)) (by omega) (by simp; omega) (by simpa using hl) (by omega) (by
      rw [e, List.take_succ_eq_append_getElem (by simpa using hi), List.getElem_set_self, List.take_set_of_le (Nat.le_refl _), ht, seqF_succ]
      congr 2
      omega)
    rw [show m + (i + 1) = m + i + 1 by omega] at this
    simpa using this
theorem mark_ok {l : List Int} {m : Int} (hm : 0 ≤ m) (hm2 : m ≤ 1000000000000000) (hl : l.length ≤ 1000000000000000) {k : Nat} (hk : l.length < k) : laws_markIntS.f k l m = some (m + l.length, seqF m l.length) := by
  unfold laws_markIntS.f
  have := mark_loop m hm hm2 l.length k 0 l (by omega) (by omega) hl hk (by simp [seqF])
  simpa using this
theorem has_loop (l : List Int) (v : Int) (hl : l.length ≤ 9223372036854775806) (d : Nat) : ∀ (k : Nat) (i : Int), 0 ≤ i → i + d = l.length → d < k →
    spec_l10Has.l0 k l v i = some ((l.drop i.toNat).contains v) := by
  induction d with
  | zero =>
    intro k i h0 h1 hk
    obtain ⟨k, rfl⟩ : ∃ m, k = m + 1 := ⟨k - 1, by omega⟩
    simp only [spec_l10Has.l0]
    rw [if_neg (by omega), List.drop_eq_nil_of_le (by omega)]
    rfl
  | succ d ih =>
    intro k i h0 h1 hk
    obtain ⟨k, rfl⟩ : ∃ m, k = m + 1 := ⟨k - 1, by omega⟩
    rw [rd_at h0 (by omega)]
    simp only [spec_l10Has.l0]
    rw [if_pos (by omega), if_pos h0, w_in (n := i + 1) (by omega) (by omega), ih k (i + 1) (by omega) (by omega) (by omega), List.contains_cons]
    by_cases e : rd l i = v
    · rw [if_pos e, e]; simp
    · rw [if_neg e]
      have : (v == rd l i) = false := by simp; exact fun h => e h.symm
      simp [this]
theorem has_ok {l : List Int} {v : Int} (hl : l.length ≤ 9223372036854775806) {k : Nat} (hk : l.length < k) : spec_l10Has.f k l v = some (l.contains v) := by
  unfold spec_l10Has.f
  rw [has_loop l v hl l.length k 0 (by omega) (by omega) hk]
  simp

def net (x : Int) : Bool := decide (1 ≤ x ∧ x ≤ 9)
/-- Is a port one? -/
def pv (kd own : Int) (c : List Int) : Bool := net own && (if kd = 1 then decide (c.length = 0) else if kd = 2 then (c.all net && asc c 0 c.length && !c.contains own) else false)
theorem spec_vlan (x : Int) : spec_l10Vlan.f x = some (net x) := by
  unfold spec_l10Vlan.f net
  rw [s_in]
  rfl
theorem impl_net (x : Int) : impl_isNetwork.f x = some (net x) := by
  unfold impl_isNetwork.f net
  rw [i_in]
  rfl
theorem port_loop (kd own : Int) (c : List Int) (hl : c.length ≤ 9223372036854775806) (d : Nat) : ∀ (k : Nat) (i : Int), 0 ≤ i → i + d = c.length → d < k →
    spec_l10Port.l0 k i kd own c = some ((c.drop i.toNat).all net && !(c.drop i.toNat).contains own && asc c i d) := by
  induction d with
  | zero =>
    intro k i h0 h1 hk
    obtain ⟨k, rfl⟩ : ∃ m, k = m + 1 := ⟨k - 1, by omega⟩
    simp only [spec_l10Port.l0]
    rw [if_neg (by omega), List.drop_eq_nil_of_le (by omega)]
    simp [asc]
  | succ d ih =>
    intro k i h0 h1 hk
    obtain ⟨k, rfl⟩ : ∃ m, k = m + 1 := ⟨k - 1, by omega⟩
    rw [rd_at h0 (by omega)]
    simp only [spec_l10Port.l0, spec_vlan, Option.bind_some]
    rw [if_pos (by omega), if_pos h0, w_in (n := i - 1) (by omega) (by omega), w_in (n := i + 1) (by omega) (by omega), ih k (i + 1) (by omega) (by omega) (by omega)]
    simp only [List.all_cons, List.contains_cons, asc]
    by_cases hn : net (rd c i) = true
    · rw [if_pos hn]
      simp only [hn, Bool.true_and]
      by_cases ho : rd c i = own
      · rw [if_pos ho, ho]
        simp
      · have ho' : (own == rd c i) = false := by simp; exact fun h => ho h.symm
        rw [if_neg ho, ho', Bool.false_or]
        by_cases hi : i > 0
        · have e : decide (i ≤ 0) = false := by simp; omega
          rw [if_pos hi, if_pos (by omega), if_pos (by omega)]
          by_cases h : rd c (i - 1) ≥ rd c i
          · have e2 : decide (rd c (i - 1) < rd c i) = false := by simp; omega
            rw [if_pos h]
            simp [e, e2]
          · have e2 : decide (rd c (i - 1) < rd c i) = true := by simp; omega
            rw [if_neg h]
            simp [e2]
        · have e : decide (i ≤ 0) = true := by simp; omega
          rw [if_neg hi]
          simp [e]
    · rw [if_neg hn]
      simp [hn]
theorem spec_port {kd own : Int} {c : List Int} (hl : c.length ≤ 9223372036854775806) {k : Nat} (hk : c.length + 1 < k) : spec_l10Port.f k kd own c = some (pv kd own c) := by
  obtain ⟨k, rfl⟩ : ∃ m, k = m + 1 := ⟨k - 1, by omega⟩
  unfold spec_l10Port.f pv
  simp only [s_in, spec_vlan, Option.bind_some, spec_l10Port.j0, if_true]
  have hloop := port_loop kd own c hl c.length k 0 (by omega) (by omega) (by omega)
  simp only [Int.toNat_zero, List.drop_zero] at hloop
  by_cases h1 : kd = 1
  · subst h1
    rw [if_pos (by decide)]
    by_cases hn : net own = true
    · rw [if_pos hn, if_pos rfl, hn]
      by_cases hc : c.length = 0
      · have : c = [] := List.eq_nil_of_length_eq_zero hc
        subst this
        rw [if_neg (by simp), hloop]
        rfl
      · rw [if_pos (by simp; omega)]
        simp [hc]
    · rw [if_neg hn]
      simp [hn]
  · by_cases h2 : kd = 2
    · subst h2
      rw [if_pos (by decide)]
      by_cases hn : net own = true
      · rw [if_pos hn, if_neg (by decide), if_neg (by decide), hn, hloop]
        simp only [Bool.true_and]
        rw [if_neg (by decide), if_pos trivial]
        cases c.all net <;> cases c.contains own <;> simp
      · rw [if_neg hn]
        simp [hn]
    · rw [if_neg (by simp; omega)]
      simp [h1, h2]
theorem impl_port {kd own : Int} {c : List Int} (hl : c.length ≤ 9223372036854775806) {k : Nat} (hk : c.length + 1 < k) : impl_VPort_valid.f k kd own c = some (pv kd own c) := by
  unfold impl_VPort_valid.f pv all_impl_isNetwork.f
  rw [impl_asc hl hk, contains_ok hl (by omega), allO_total (q := net) c (fun x _ => impl_net x)]
  simp only [impl_net, Option.bind_some]
  by_cases h1 : kd = 1
  · have e : ((c.length : Int) == 0) = decide (c.length = 0) := by
      rw [Bool.eq_iff_iff]
      simp
    rw [if_pos h1, if_pos h1, e]
    cases net own <;> simp
  · rw [if_neg h1, if_neg h1]
    by_cases h2 : kd = 2
    · rw [if_pos h2, if_pos h2]
      cases net own <;> cases c.all net <;> cases asc c 0 c.length <;> simp
    · rw [if_neg h2, if_neg h2]
      simp

theorem toPort_ok {kd own : Int} {c : List Int} (hl : c.length ≤ 35184372088832) {k : Nat} (hk : c.length < k) : laws_toVPort.f k kd own c = some (kd, own, c) := by
  unfold laws_toVPort.f
  rw [toInt_ok hl hk]
  rfl
theorem eqPort_ok {kd own : Int} {c : List Int} (hl : c.length ≤ 35184372088832) {k : Nat} (hk : c.length < k) : laws_eqVPort.f k kd own c kd own c = some true := by
  unfold laws_eqVPort.f
  rw [if_pos rfl, if_pos rfl, eqInt_ok hl hk]
  rfl
theorem szPort {kd own : Int} {c : List Int} (hl : c.length ≤ 9223372036854775807) {m : Int} (hm : 0 ≤ m) (hm2 : m ≤ 1048576) : laws_szVPort.f kd own c m = some (if m - (c.length : Int) < 0 then -1 else m - (c.length : Int)) := by
  unfold laws_szVPort.f laws_szIntS.f
  rw [w_in (n := m - (c.length : Int)) (by omega) (by omega)]
  by_cases h : m - (c.length : Int) < 0
  · rw [if_pos h, if_pos h]
    rfl
  · rw [if_neg h, if_neg h]
    simp only [Option.bind_some]
    rw [if_neg h]

def cvp (x : S24) : S27 := ⟨x.f0, x.f1, x.f2⟩
/-- The lists inside are short. -/
def short {α : Type} (g : α → List Int) (l : List α) : Prop := ∀ x ∈ l, (g x).length ≤ 1048576
theorem rd24_drop {l : List S24} {i : Int} (h0 : 0 ≤ i) (h : i.toNat < l.length) : l.drop i.toNat = rd_T24 l i :: l.drop (i + 1).toNat := by
  rw [List.drop_eq_getElem_cons h, show (i + 1).toNat = i.toNat + 1 by omega]
  unfold rd_T24
  rw [List.getD_eq_getElem?_getD, List.getElem?_eq_getElem h]
  rfl
theorem rd27_drop {l : List S27} {i : Int} (h0 : 0 ≤ i) (h : i.toNat < l.length) : l.drop i.toNat = rd_T27 l i :: l.drop (i + 1).toNat := by
  rw [List.drop_eq_getElem_cons h, show (i + 1).toNat = i.toNat + 1 by omega]
  unfold rd_T27
  rw [List.getD_eq_getElem?_getD, List.getElem?_eq_getElem h]
  rfl
theorem rd24_mem {l : List S24} {i : Int} (h0 : 0 ≤ i) (h : i.toNat < l.length) : rd_T24 l i ∈ l := by
  have : rd_T24 l i ∈ l.drop i.toNat := by rw [rd24_drop h0 h]; exact List.mem_cons_self
  exact List.mem_of_mem_drop this
theorem rd27_mem {l : List S27} {i : Int} (h0 : 0 ≤ i) (h : i.toNat < l.length) : rd_T27 l i ∈ l := by
  have : rd_T27 l i ∈ l.drop i.toNat := by rw [rd27_drop h0 h]; exact List.mem_cons_self
  exact List.mem_of_mem_drop this
theorem szPorts_loop (l : List S24) (hl : l.length ≤ 1048576) (hx : ∀ x ∈ l, x.f2.length ≤ 9223372036854775807) (d : Nat) : ∀ (k : Nat) (i m : Int), 0 ≤ i → i + d = l.length → d < k → 0 ≤ m → m ≤ 1048576 →
    ∃ v, laws_szVPortS.l0 k l m i = some v ∧ (v < 0 ∨ short S24.f2 (l.drop i.toNat)) := by
  induction d with
  | zero =>
    intro k i m h0 h1 hk hm hm2
    obtain ⟨k, rfl⟩ : ∃ q, k = q + 1 := ⟨k - 1, by omega⟩
    simp only [laws_szVPortS.l0]
    rw [if_neg (by omega)]
    refine ⟨m, rfl, Or.inr fun x hx => ?_⟩
    rw [List.drop_eq_nil_of_le (by omega)] at hx
    simp at hx
  | succ d ih =>
    intro k i m h0 h1 hk hm hm2
    obtain ⟨k, rfl⟩ : ∃ q, k = q + 1 := ⟨k - 1, by omega⟩
    simp only [laws_szVPortS.l0]
    rw [if_pos (by omega), if_pos h0, szPort (hx _ (rd24_mem h0 (by omega))) hm hm2]
    simp only [Option.bind_some]
    by_cases hs : m - ((rd_T24 l i).f2.length : Int) < 0
    · rw [if_pos hs, if_pos (by omega)]
      exact ⟨-1, rfl, Or.inl (by omega)⟩
    · rw [if_neg hs, if_neg hs, w_in (n := i + 1) (by omega) (by omega)]
      obtain ⟨v, e, hv⟩ := ih k (i + 1) (m - ((rd_T24 l i).f2.length : Int)) (by omega) (by omega) (by omega) (by omega) (by omega)
      refine ⟨v, e, hv.imp id fun h x hx => ?_⟩
      rw [rd24_drop h0 (by omega)] at hx
      rcases List.mem_cons.1 hx with hx | hx
      · subst hx; omega
      · exact h x hx
theorem szPorts (l : List S24) (hl : l.length ≤ 9223372036854775807) (hx : ∀ x ∈ l, x.f2.length ≤ 9223372036854775807) {k : Nat} (hk : 1048577 < k) : ∃ v, laws_szVPortS.f k l 1048576 = some v ∧ (v < 0 ∨ (l.length ≤ 1048576 ∧ short S24.f2 l)) := by
  unfold laws_szVPortS.f
  rw [w_in (n := 1048576 - (l.length : Int)) (by omega) (by omega)]
  by_cases h : (1048576 : Int) - (l.length : Int) < 0
  · rw [if_pos h]
    exact ⟨-1, rfl, Or.inl (by omega)⟩
  · rw [if_neg h]
    obtain ⟨v, e, hv⟩ := szPorts_loop l (by omega) hx l.length k 0 (1048576 - (l.length : Int)) (by omega) (by omega) (by omega) (by omega) (by omega)
    exact ⟨v, e, hv.imp id fun h => ⟨by omega, by simpa using h⟩⟩
theorem toPorts_loop (l : List S24) (hl : l.length ≤ 1048576) (hx : short S24.f2 l) (d : Nat) : ∀ (k : Nat) (i : Int) (x : List S27), 0 ≤ i → i + d = l.length → d + 1048580 < k → x.length = l.length → x.take i.toNat = (l.map cvp).take i.toNat →
    laws_toVPortS.l0 k l x i = some (l.map cvp) := by
  induction d with
  | zero =>
    intro k i x h0 h1 hk hlx ht
    obtain ⟨k, rfl⟩ : ∃ m, k = m + 1 := ⟨k - 1, by omega⟩
    simp only [laws_toVPortS.l0]
    rw [if_neg (by omega)]
    rw [List.take_of_length_le (by omega), List.take_of_length_le (by simp; omega)] at ht
    rw [ht]
  | succ d ih =>
    intro k i x h0 h1 hk hlx ht
    obtain ⟨k, rfl⟩ : ∃ m, k = m + 1 := ⟨k - 1, by omega⟩
    have hs := hx _ (rd24_mem (l := l) h0 (by omega))
    simp only [laws_toVPortS.l0]
    rw [if_pos (by omega), if_pos h0, toPort_ok (by omega) (by omega)]
    simp only [Option.bind_some]
    rw [if_pos (by omega), w_in (by omega) (by omega)]
    refine ih k (i + 1) _ (by omega) (by omega) (by omega) (by simpa using hlx) ?_
    have e : (i + 1).toNat = i.toNat + 1 := by omega
    have hi : i.toNat < l.length := by omega
    have hrd : (l.map cvp)[i.toNat]'(by simpa using hi) = cvp (rd_T24 l i) := by
      unfold rd_T24
      rw [List.getD_eq_getElem?_getD, List.getElem?_eq_getElem hi, List.getElem_map]
      rfl
    rw [e, List.take_succ_eq_append_getElem (by simpa [hlx] using hi), List.take_succ_eq_append_getElem (by simpa using hi), List.getElem_set_self, List.take_set_of_le (Nat.le_refl _), ht, hrd]
    rfl
theorem toPorts_ok {l : List S24} (hl : l.length ≤ 1048576) (hx : short S24.f2 l) {k : Nat} (hk : l.length + 1048580 < k) : laws_toVPortS.f k l = some (l.map cvp) := by
  unfold laws_toVPortS.f
  rw [if_pos (by omega), if_pos (by omega)]
  exact toPorts_loop l hl hx l.length k 0 _ (by omega) (by omega) hk (by simp) (by simp)
theorem short_map {l : List S24} (hx : short S24.f2 l) : short S27.f2 (l.map cvp) := by
  intro x h
  obtain ⟨y, hy, rfl⟩ := List.mem_map.1 h
  exact hx y hy
theorem eqPorts_loop (l : List S27) (hl : l.length ≤ 1048576) (hx : short S27.f2 l) (d : Nat) : ∀ (k : Nat) (i : Int), 0 ≤ i → i + d = l.length → d + 1048580 < k → laws_eqVPortS.l0 k l l i = some true := by
  induction d with
  | zero =>
    intro k i h0 h1 hk
    obtain ⟨k, rfl⟩ : ∃ m, k = m + 1 := ⟨k - 1, by omega⟩
    simp only [laws_eqVPortS.l0]
    rw [if_neg (by omega)]
  | succ d ih =>
    intro k i h0 h1 hk
    obtain ⟨k, rfl⟩ : ∃ m, k = m + 1 := ⟨k - 1, by omega⟩
    have hs := hx _ (rd27_mem (l := l) h0 (by omega))
    simp only [laws_eqVPortS.l0]
    rw [if_pos (by omega), if_pos h0, if_pos (by omega), eqPort_ok (by omega) (by omega)]
    simp only [Option.bind_some, if_true]
    rw [w_in (by omega) (by omega)]
    exact ih k (i + 1) (by omega) (by omega) (by omega)
theorem eqPorts_ok {l : List S27} (hl : l.length ≤ 1048576) (hx : short S27.f2 l) {k : Nat} (hk : l.length + 1048580 < k) : laws_eqVPortS.f k l l = some true := by
  unfold laws_eqVPortS.f
  rw [if_pos rfl]
  exact eqPorts_loop l hl hx l.length k 0 (by omega) (by omega) hk
def PV (x : S27) : Bool := pv x.f0 x.f1 x.f2
/-- Are ports fine? -/
def psv (l : List S27) : Bool := l.all PV && decide (1 ≤ l.length ∧ l.length ≤ 6)
theorem spec_ports_loop (l : List S27) (hl : l.length ≤ 1048576) (hx : short S27.f2 l) (d : Nat) : ∀ (k : Nat) (i : Int), 0 ≤ i → i + d = l.length → d + 1048580 < k → spec_VPortsValid.l0 k l i = some ((l.drop i.toNat).all PV && decide (1 ≤ l.length ∧ l.length ≤ 6)) := by
  induction d with
  | zero =>
    intro k i h0 h1 hk
    obtain ⟨k, rfl⟩ : ∃ m, k = m + 1 := ⟨k - 1, by omega⟩
    simp only [spec_VPortsValid.l0, s_in, Option.bind_some]
    rw [if_neg (by omega), List.drop_eq_nil_of_le (by omega)]
    congr 1
    rw [Bool.eq_iff_iff]
    simp
    omega
  | succ d ih =>
    intro k i h0 h1 hk
    obtain ⟨k, rfl⟩ : ∃ m, k = m + 1 := ⟨k - 1, by omega⟩
    have hs := hx _ (rd27_mem (l := l) h0 (by omega))
    rw [rd27_drop h0 (by omega)]
    simp only [spec_VPortsValid.l0]
    rw [if_pos (by omega), if_pos h0, spec_port (by omega) (by omega)]
    simp only [Option.bind_some, List.all_cons]
    rw [w_in (by omega) (by omega), ih k (i + 1) (by omega) (by omega) (by omega)]
    by_cases h : pv (rd_T27 l i).f0 (rd_T27 l i).f1 (rd_T27 l i).f2 = true
    · rw [if_pos h, show PV (rd_T27 l i) = true from h]
      rfl
    · rw [if_neg h, show PV (rd_T27 l i) = false from (Bool.not_eq_true _).mp h]
      rfl
theorem spec_ports {l : List S27} (hl : l.length ≤ 1048576) (hx : short S27.f2 l) {k : Nat} (hk : l.length + 1048580 < k) : spec_VPortsValid.f k l = some (psv l) := by
  unfold spec_VPortsValid.f psv
  rw [spec_ports_loop l hl hx l.length k 0 (by omega) (by omega) hk]
  simp
theorem impl_ports {l : List S27} (hx : short S27.f2 l) {k : Nat} (hk : 1048580 < k) : impl_VPortsValid.f k l = some (psv l) := by
  unfold impl_VPortsValid.f psv impl_portsOk.f all_impl_VPort_valid.f
  rw [i_in, allO_total (q := PV) l (fun x h => by have := hx x h; exact impl_port (by omega) (by omega))]
  simp only [Option.bind_some]
  by_cases h : 1 ≤ l.length ∧ l.length ≤ 6
  · rw [if_pos (by simp; omega)]
    simp [h]
  · rw [if_neg (by simp; omega)]
    simp [h]

theorem rd52_drop {l : List S52} {i : Int} (h0 : 0 ≤ i) (h : i.toNat < l.length) : l.drop i.toNat = rd_T52 l i :: l.drop (i + 1).toNat := by
  rw [List.drop_eq_getElem_cons h, show (i + 1).toNat = i.toNat + 1 by omega]
  unfold rd_T52
  rw [List.getD_eq_getElem?_getD, List.getElem?_eq_getElem h]
  rfl
theorem rd52_mem {l : List S52} {i : Int} (h0 : 0 ≤ i) (h : i.toNat < l.length) : rd_T52 l i ∈ l := by
  have : rd_T52 l i ∈ l.drop i.toNat := by rw [rd52_drop h0 h]; exact List.mem_cons_self
  exact List.mem_of_mem_drop this
def tgo (kd own : Int) (c : List Int) (v : Int) : Int := if pv kd own c = true then (if v = own then 0 else if c.contains v = true then v else -1) else -1
theorem spec_tagout {kd own : Int} {c : List Int} {v : Int} (hl : c.length ≤ 9223372036854775806) {k : Nat} (hk : c.length + 1 < k) : spec_TagOut.f k kd own c v = some (tgo kd own c v) := by
  unfold spec_TagOut.f tgo
  rw [spec_port hl hk, has_ok hl (by omega)]
  simp only [Option.bind_some]
  split
  · split
    · rfl
    · split <;> rfl
  · rfl
theorem impl_tagout {kd own : Int} {c : List Int} {v : Int} (hl : c.length ≤ 9223372036854775806) {k : Nat} (hk : c.length + 1 < k) : impl_TagOut.f k kd own c v = some (tgo kd own c v) := by
  unfold impl_TagOut.f tgo
  rw [impl_port hl hk, contains_ok hl (by omega)]
  simp only [Option.bind_some]
  split
  · split
    · rfl
    · split <;> rfl
  · rfl

def vli (kd own : Int) (c : List Int) (t : Int) : Int := if pv kd own c = true then (if t = 0 then own else if c.contains t = true then t else -1) else -1
theorem spec_vlanin {kd own : Int} {c : List Int} {v : Int} (hl : c.length ≤ 9223372036854775806) {k : Nat} (hk : c.length + 1 < k) : spec_VlanIn.f k kd own c v = some (vli kd own c v) := by
  unfold spec_VlanIn.f vli
  rw [spec_port hl hk, has_ok hl (by omega)]
  simp only [Option.bind_some]
  split
  · split
    · rfl
    · split <;> rfl
  · rfl
theorem impl_vlanin {kd own : Int} {c : List Int} {v : Int} (hl : c.length ≤ 9223372036854775806) {k : Nat} (hk : c.length + 1 < k) : impl_VlanIn.f k kd own c v = some (vli kd own c v) := by
  unfold impl_VlanIn.f vli
  rw [impl_port hl hk, contains_ok hl (by omega)]
  simp only [Option.bind_some]
  split
  · split
    · rfl
    · split <;> rfl
  · rfl

theorem net_of_pv {kd own : Int} {c : List Int} (h : pv kd own c = true) : net own = true := by
  unfold pv at h
  simp only [Bool.and_eq_true] at h
  exact h.1
theorem pv_mem {kd own : Int} {c : List Int} (h : pv kd own c = true) {x : Int} (hx : c.contains x = true) : net x = true ∧ x ≠ own := by
  unfold pv at h
  simp only [Bool.and_eq_true] at h
  obtain ⟨_, h⟩ := h
  by_cases h1 : kd = 1
  · rw [if_pos h1] at h
    have : c = [] := List.eq_nil_of_length_eq_zero (by simpa using h)
    rw [this] at hx
    simp at hx
  · rw [if_neg h1] at h
    by_cases h2 : kd = 2
    · rw [if_pos h2] at h
      simp only [Bool.and_eq_true] at h
      have hx' : x ∈ c := by simpa using hx
      refine ⟨List.all_eq_true.mp h.1.1 x hx', fun e => ?_⟩
      have := h.2
      rw [e] at hx
      rw [hx] at this
      simp at this
    · rw [if_neg h2] at h
      simp at h
theorem net_bd {x : Int} (h : net x = true) : 1 ≤ x ∧ x ≤ 9 := by simpa [net] using h
/-- A tag that goes out comes in again. -/
theorem tag_back {kd own : Int} {c : List Int} {v : Int} (h : 0 ≤ tgo kd own c v) : vli kd own c (tgo kd own c v) = v ∧ (tgo kd own c v == 0) = (v == own) := by
  unfold tgo at h ⊢
  by_cases hp : pv kd own c = true
  · rw [if_pos hp] at h ⊢
    by_cases e : v = own
    · rw [if_pos e] at h ⊢
      unfold vli
      rw [if_pos hp, if_pos rfl, e]
      simp
    · rw [if_neg e] at h ⊢
      by_cases e2 : c.contains v = true
      · have hv := pv_mem hp e2
        have hb := net_bd hv.1
        rw [if_pos e2] at h ⊢
        unfold vli
        rw [if_pos hp, if_neg (show ¬ v = 0 by omega), if_pos e2]
        refine ⟨rfl, ?_⟩
        have a1 : (v == 0) = false := by simp; omega
        have a2 : (v == own) = false := by simpa using e
        rw [a1, a2]
      · rw [if_neg e2] at h
        omega
  · rw [if_neg hp] at h
    omega
/-- A tag that comes in can go out again. -/
theorem tag_in {kd own : Int} {c : List Int} {t : Int} (h : 0 ≤ vli kd own c t) : tgo kd own c (vli kd own c t) = t ∧ 1 ≤ vli kd own c t ∧ vli kd own c t ≤ 9 := by
  unfold vli at h ⊢
  by_cases hp : pv kd own c = true
  · have ho := net_bd (net_of_pv hp)
    rw [if_pos hp] at h ⊢
    by_cases e : t = 0
    · rw [if_pos e] at h ⊢
      unfold tgo
      rw [if_pos hp, if_pos rfl]
      exact ⟨e.symm, ho⟩
    · rw [if_neg e] at h ⊢
      by_cases e2 : c.contains t = true
      · have hv := pv_mem hp e2
        rw [if_pos e2] at h ⊢
        unfold tgo
        rw [if_pos hp, if_neg hv.2, if_pos e2]
        exact ⟨rfl, net_bd hv.1⟩
      · rw [if_neg e2] at h
        omega
  · rw [if_neg hp] at h
    omega
theorem tgo_neg {kd own : Int} {c : List Int} {v : Int} (h : tgo kd own c v < 0) : tgo kd own c v = -1 := by
  unfold tgo at h ⊢
  by_cases hp : pv kd own c = true
  · rw [if_pos hp] at h ⊢
    by_cases e : v = own
    · rw [if_pos e] at h; omega
    · rw [if_neg e] at h ⊢
      by_cases e2 : c.contains v = true
      · have hb := net_bd (pv_mem hp e2).1
        rw [if_pos e2] at h; omega
      · rw [if_neg e2]
  · rw [if_neg hp]
theorem vli_neg {kd own : Int} {c : List Int} {v : Int} (h : vli kd own c v < 0) : vli kd own c v = -1 := by
  unfold vli at h ⊢
  by_cases hp : pv kd own c = true
  · have ho := net_bd (net_of_pv hp)
    rw [if_pos hp] at h ⊢
    by_cases e : v = 0
    · rw [if_pos e] at h; omega
    · rw [if_neg e] at h ⊢
      by_cases e2 : c.contains v = true
      · have hb := net_bd (pv_mem hp e2).1
        rw [if_pos e2] at h; omega
      · rw [if_neg e2]
  · rw [if_neg hp]
def onv (v : Int) (x : S27) : Bool := decide (0 ≤ tgo x.f0 x.f1 x.f2 v)
/-- The numbers of the ports of network v, from number i on. -/
def ponF (v : Int) : List S27 → Int → List Int
  | [], _ => []
  | x :: xs, i => if onv v x = true then i :: ponF v xs (i + 1) else ponF v xs (i + 1)
theorem ponF_len (v : Int) : ∀ (l : List S27) (i : Int), (ponF v l i).length ≤ l.length
  | [], _ => Nat.le_refl _
  | x :: xs, i => by
    have := ponF_len v xs (i + 1)
    unfold ponF
    split
    · simp only [List.length_cons]; omega
    · simp only [List.length_cons]; omega
theorem ponF_mem (v : Int) : ∀ (l : List S27) (i j : Int), j ∈ ponF v l i ↔ (i ≤ j ∧ j < i + l.length ∧ onv v (rd_T27 l (j - i)) = true)
  | [], i, j => by
    simp only [ponF, List.not_mem_nil, List.length_nil, false_iff]
    omega
  | x :: xs, i, j => by
    have ih := ponF_mem v xs (i + 1) j
    have e1 : ∀ (_ : i < j), rd_T27 (x :: xs) (j - i) = rd_T27 xs (j - (i + 1)) := fun h => by
      unfold rd_T27
      rw [show (j - i).toNat = (j - (i + 1)).toNat + 1 by omega]
      simp
    have e0 : ∀ (_ : j = i), rd_T27 (x :: xs) (j - i) = x := fun h => by
      unfold rd_T27
      rw [show (j - i).toNat = 0 by omega]
      simp
    have el : ((x :: xs).length : Int) = xs.length + 1 := by simp
    rw [el]
    unfold ponF
    by_cases ho : onv v x = true
    · rw [if_pos ho, List.mem_cons, ih]
      constructor
      · rintro (h | ⟨h1, h2, h3⟩)
        · exact ⟨by omega, by omega, by rw [e0 h]; exact ho⟩
        · exact ⟨by omega, by omega, by rw [e1 (by omega)]; exact h3⟩
      · rintro ⟨h1, h2, h3⟩
        by_cases h : j = i
        · exact Or.inl h
        · exact Or.inr ⟨by omega, by omega, by rw [← e1 (by omega)]; exact h3⟩
    · rw [if_neg ho, ih]
      constructor
      · rintro ⟨h1, h2, h3⟩
        exact ⟨by omega, by omega, by rw [e1 (by omega)]; exact h3⟩
      · rintro ⟨h1, h2, h3⟩
        by_cases h : j = i
        · rw [e0 h] at h3; exact absurd h3 ho
        · exact ⟨by omega, by omega, by rw [← e1 (by omega)]; exact h3⟩
theorem ponF_sorted (v : Int) : ∀ (l : List S27) (i : Int), (ponF v l i).Pairwise (· < ·)
  | [], _ => List.Pairwise.nil
  | x :: xs, i => by
    have ih := ponF_sorted v xs (i + 1)
    unfold ponF
    split
    · refine List.Pairwise.cons (fun j hj => ?_) ih
      have := (ponF_mem v xs (i + 1) j).1 hj
      omega
    · exact ih
def vli27 (x : S27) (t : Int) : Int := vli x.f0 x.f1 x.f2 t
def tgo27 (x : S27) (v : Int) : Int := tgo x.f0 x.f1 x.f2 v
theorem impl_on_loop {l : List S27} (v : Int) (hl : l.length ≤ 1048576) (hx : short S27.f2 l) (d : Nat) : ∀ (k : Nat) (i : Int) (acc : List Int), 0 ≤ i → i + d = l.length → d + 1048600 < k → acc.length + d ≤ 2000000 →
    impl_PortsOn.l0 k v acc l (l.length : Int) i = some (acc ++ ponF v (l.drop i.toNat) i) := by
  induction d with
  | zero =>
    intro k i acc h0 h1 hk ha
    obtain ⟨k, rfl⟩ : ∃ m, k = m + 1 := ⟨k - 1, by omega⟩
    simp only [impl_PortsOn.l0]
    rw [if_neg (by omega), List.drop_eq_nil_of_le (by omega)]
    simp [ponF]
  | succ d ih =>
    intro k i acc h0 h1 hk ha
    obtain ⟨k, rfl⟩ : ∃ m, k = m + 1 := ⟨k - 1, by omega⟩
    have hs := hx _ (rd27_mem (l := l) h0 (by omega))
    simp only [impl_PortsOn.l0]
    rw [if_pos (by omega), if_pos h0, if_pos (by omega), impl_tagout (by omega) (by omega), w_in (n := i + 1) (by omega) (by omega), rd27_drop h0 (by omega)]
    simp only [Option.bind_some, ponF]
    by_cases h : tgo (rd_T27 l i).f0 (rd_T27 l i).f1 (rd_T27 l i).f2 v ≥ 0
    · have hon : onv v (rd_T27 l i) = true := decide_eq_true h
      rw [if_pos h, if_pos (by omega), if_pos hon, ih k (i + 1) _ (by omega) (by omega) (by omega) (by simp; omega)]
      simp
    · have hon : ¬ onv v (rd_T27 l i) = true := by rw [show onv v (rd_T27 l i) = false from decide_eq_false h]; decide
      rw [if_neg h, if_neg hon, ih k (i + 1) _ (by omega) (by omega) (by omega) (by omega)]
def pOn (l : List S27) (v : Int) : List Int := if psv l = true then ponF v l 0 else []
theorem impl_on {l : List S27} (v : Int) (hl : l.length ≤ 1048576) (hx : short S27.f2 l) {k : Nat} (hk : 3000000 < k) : impl_PortsOn.f k l v = some (pOn l v) := by
  unfold impl_PortsOn.f pOn
  rw [impl_ports hx (by omega)]
  simp only [Option.bind_some]
  split
  · rw [impl_on_loop v hl hx l.length k 0 [] (by omega) (by omega) (by omega) (by simp; omega)]
    simp
  · rfl
theorem spec_on_loop {l : List S27} (v : Int) (hl : l.length ≤ 1048576) (hx : short S27.f2 l) (hp : psv l = true) (d : Nat) : ∀ (k : Nat) (i : Int) (acc : List Int), 0 ≤ i → i + d = l.length → 2 * d + 2200000 < k → acc.length + d ≤ 2000000 →
    spec_PortsOn.l0 k l v acc i = some (acc ++ ponF v (l.drop i.toNat) i) := by
  induction d with
  | zero =>
    intro k i acc h0 h1 hk ha
    obtain ⟨k, rfl⟩ : ∃ m, k = m + 2 := ⟨k - 2, by omega⟩
    simp only [spec_PortsOn.l0, spec_PortsOn.j1]
    rw [if_neg (by omega), if_neg (by decide), List.drop_eq_nil_of_le (by omega)]
    simp [ponF]
  | succ d ih =>
    intro k i acc h0 h1 hk ha
    obtain ⟨k, rfl⟩ : ∃ m, k = m + 2 := ⟨k - 2, by omega⟩
    have hs := hx _ (rd27_mem (l := l) h0 (by omega))
    simp only [spec_PortsOn.l0]
    rw [if_pos (by omega), spec_ports hl hx (by omega), hp]
    simp only [Option.bind_some, spec_PortsOn.j1]
    rw [if_pos trivial, if_pos h0, if_pos (by omega), spec_tagout (by omega) (by omega), w_in (n := i + 1) (by omega) (by omega), rd27_drop h0 (by omega)]
    simp only [Option.bind_some, ponF]
    by_cases h : tgo (rd_T27 l i).f0 (rd_T27 l i).f1 (rd_T27 l i).f2 v ≥ 0
    · have hon : onv v (rd_T27 l i) = true := decide_eq_true h
      rw [if_pos h, if_pos (by omega), if_pos hon, ih k (i + 1) _ (by omega) (by omega) (by omega) (by simp; omega)]
      simp
    · have hon : ¬ onv v (rd_T27 l i) = true := by rw [show onv v (rd_T27 l i) = false from decide_eq_false h]; decide
      rw [if_neg h, if_neg hon, ih k (i + 1) _ (by omega) (by omega) (by omega) (by omega)]
theorem spec_on {l : List S27} (v : Int) (hl : l.length ≤ 1048576) (hx : short S27.f2 l) {k : Nat} (hk : 5000000 < k) : spec_PortsOn.f k l v = some (pOn l v) := by
  unfold spec_PortsOn.f pOn
  by_cases hp : psv l = true
  · rw [if_pos hp, spec_on_loop v hl hx hp l.length k 0 [] (by omega) (by omega) (by omega) (by simp; omega)]
    simp
  · rw [if_neg hp]
    obtain ⟨k, rfl⟩ : ∃ m, k = m + 2 := ⟨k - 2, by omega⟩
    simp only [spec_PortsOn.l0]
    by_cases h : (0 : Int) < l.length
    · rw [if_pos h, spec_ports hl hx (by omega), (Bool.not_eq_true _).mp hp]
      simp only [Option.bind_some, spec_PortsOn.j1]
      rw [if_neg (by decide)]
    · rw [if_neg h]
      simp only [spec_PortsOn.j1]
      rw [if_neg (by decide)]
/-- Where a frame of network v goes out. -/
def flF (l : List S27) (at_ v : Int) : List Int → List S52
  | [] => []
  | j :: js => if j = at_ then flF l at_ v js else ⟨j, tgo27 (rd_T27 l j) v⟩ :: flF l at_ v js
theorem flF_mem (l : List S27) (at_ v : Int) : ∀ (js : List Int) (x : S52), x ∈ flF l at_ v js ↔ (x.f0 ∈ js ∧ x.f0 ≠ at_ ∧ x.f1 = tgo27 (rd_T27 l x.f0) v)
  | [], x => by simp [flF]
  | j :: js, x => by
    have ih := flF_mem l at_ v js x
    unfold flF
    by_cases h : j = at_
    · rw [if_pos h, ih, List.mem_cons]
      constructor
      · rintro ⟨h1, h2, h3⟩; exact ⟨Or.inr h1, h2, h3⟩
      · rintro ⟨h1 | h1, h2, h3⟩
        · exact absurd (h1.trans h) h2
        · exact ⟨h1, h2, h3⟩
    · rw [if_neg h, List.mem_cons, ih, List.mem_cons]
      constructor
      · rintro (h1 | ⟨h1, h2, h3⟩)
        · subst h1; exact ⟨Or.inl rfl, h, rfl⟩
        · exact ⟨Or.inr h1, h2, h3⟩
      · rintro ⟨h1 | h1, h2, h3⟩
        · refine Or.inl ?_
          cases x
          simp only at h1 h3
          subst h1
          rw [h3]
        · exact Or.inr ⟨h1, h2, h3⟩
theorem flF_len (l : List S27) (at_ v : Int) : ∀ (js : List Int), (flF l at_ v js).length ≤ js.length
  | [] => Nat.le_refl _
  | j :: js => by
    have ih := flF_len l at_ v js
    unfold flF
    split
    · simp only [List.length_cons]; omega
    · simp only [List.length_cons]; omega
theorem flF_none (l : List S27) (at_ v : Int) : ∀ (js : List Int), at_ ∉ js → (flF l at_ v js).length = js.length
  | [], _ => rfl
  | j :: js, h => by
    have ih := flF_none l at_ v js (fun h2 => h (List.mem_cons_of_mem _ h2))
    unfold flF
    rw [if_neg (fun e => h (by rw [e]; exact List.mem_cons_self))]
    simp only [List.length_cons]; omega
theorem flF_one (l : List S27) (at_ v : Int) : ∀ (js : List Int), js.Pairwise (· < ·) → at_ ∈ js → (flF l at_ v js).length + 1 = js.length
  | [], _, h => by simp at h
  | j :: js, hs, h => by
    have hs' := List.pairwise_cons.1 hs
    unfold flF
    by_cases e : j = at_
    · rw [if_pos e, flF_none l at_ v js (fun h2 => by have := hs'.1 _ h2; omega)]
      simp
    · rw [if_neg e]
      have ih := flF_one l at_ v js hs'.2 (by
        rcases List.mem_cons.1 h with h | h
        · exact absurd h.symm e
        · exact h)
      simp only [List.length_cons]; omega
def atok (l : List S27) (at_ : Int) : Bool := psv l && decide (0 ≤ at_ ∧ at_ ≤ (l.length : Int) - 1)
def flood (l : List S27) (at_ tag : Int) : List S52 := if atok l at_ = true then (if vli27 (rd_T27 l at_) tag < 0 then [] else flF l at_ (vli27 (rd_T27 l at_) tag) (ponF (vli27 (rd_T27 l at_) tag) l 0)) else []
theorem impl_flood_loop {l : List S27} (at_ v : Int) (hx : short S27.f2 l) (js : List Int) (hj : ∀ j ∈ js, 0 ≤ j ∧ j < l.length) (hjl : js.length ≤ 1048576) (d : Nat) : ∀ (k : Nat) (i : Int) (acc : List S52), 0 ≤ i → i + d = js.length → d + 1048600 < k → acc.length + d ≤ 2000000 →
    impl_FloodVlan.l0 k l at_ v acc js (js.length : Int) i = some (acc ++ flF l at_ v (js.drop i.toNat)) := by
  induction d with
  | zero =>
    intro k i acc h0 h1 hk ha
    obtain ⟨k, rfl⟩ : ∃ m, k = m + 1 := ⟨k - 1, by omega⟩
    simp only [impl_FloodVlan.l0]
    rw [if_neg (by omega), List.drop_eq_nil_of_le (by omega)]
    simp [flF]
  | succ d ih =>
    intro k i acc h0 h1 hk ha
    obtain ⟨k, rfl⟩ : ∃ m, k = m + 1 := ⟨k - 1, by omega⟩
    have hm := hj _ (rd_mem (l := js) h0 (by omega))
    have hs := hx _ (rd27_mem (l := l) hm.1 (by omega))
    simp only [impl_FloodVlan.l0]
    rw [if_pos (by omega), if_pos h0, if_pos (by omega), w_in (n := i + 1) (by omega) (by omega), rd_at h0 (by omega)]
    simp only [flF]
    by_cases h : rd js i = at_
    · rw [if_pos h, if_pos h, ih k (i + 1) _ (by omega) (by omega) (by omega) (by omega)]
    · rw [if_neg h, if_neg h, if_pos hm.1, if_pos hm.2, impl_tagout (by omega) (by omega)]
      simp only [Option.bind_some]
      rw [if_pos (by omega), ih k (i + 1) _ (by omega) (by omega) (by omega) (by simp; omega)]
      simp [tgo27]
theorem impl_portAt {l : List S27} (at_ : Int) (hl : l.length ≤ 1048576) (hx : short S27.f2 l) {k : Nat} (hk : 1048580 < k) : impl_portAt.f k l at_ = some (atok l at_) := by
  unfold impl_portAt.f atok
  rw [impl_ports hx hk, i_in, w_in (n := (l.length : Int) - 1) (by omega) (by omega)]
  cases psv l <;> simp
theorem ponF_in {v : Int} {l : List S27} : ∀ j ∈ ponF v l 0, 0 ≤ j ∧ j < l.length := fun j hj => by
  have := (ponF_mem v l 0 j).1 hj
  omega
theorem impl_flood {l : List S27} (at_ tag : Int) (hl : l.length ≤ 1048576) (hx : short S27.f2 l) {k : Nat} (hk : 3000000 < k) : impl_FloodVlan.f k l at_ tag = some (flood l at_ tag) := by
  unfold impl_FloodVlan.f flood
  rw [impl_portAt at_ hl hx (by omega)]
  simp only [Option.bind_some]
  by_cases ho : atok l at_ = true
  · rw [if_pos ho, if_pos ho]
    have h2 := ho
    simp only [atok, Bool.and_eq_true, decide_eq_true_eq] at h2
    have hs := hx _ (rd27_mem (l := l) (i := at_) h2.2.1 (by omega))
    rw [if_pos (by omega), if_pos (by omega), impl_vlanin (by omega) (by omega)]
    simp only [Option.bind_some]
    show (if vli27 (rd_T27 l at_) tag < 0 then _ else (impl_PortsOn.f k l (vli27 (rd_T27 l at_) tag)).bind _) = _
    split
    · rfl
    · rw [impl_on _ hl hx hk]
      unfold pOn
      rw [if_pos h2.1]
      simp only [Option.bind_some]
      have hle := ponF_len (vli27 (rd_T27 l at_) tag) l 0
      have hh := impl_flood_loop at_ (vli27 (rd_T27 l at_) tag) hx (ponF (vli27 (rd_T27 l at_) tag) l 0) ponF_in (by omega) (ponF (vli27 (rd_T27 l at_) tag) l 0).length k 0 [] (by omega) (by omega) (by omega) (by simp; omega)
      simpa [vli27] using hh
  · rw [if_neg ho, if_neg ho]
theorem spec_flood_loop {l : List S27} (at_ v : Int) (hx : short S27.f2 l) (js : List Int) (hj : ∀ j ∈ js, 0 ≤ j ∧ j < l.length) (hjl : js.length ≤ 1048576) (d : Nat) : ∀ (k : Nat) (i : Int) (acc : List S52), 0 ≤ i → i + d = js.length → d + 1048600 < k → acc.length + d ≤ 2000000 →
    spec_FloodVlan.l0 k l at_ acc v js i = some (acc ++ flF l at_ v (js.drop i.toNat)) := by
  induction d with
  | zero =>
    intro k i acc h0 h1 hk ha
    obtain ⟨k, rfl⟩ : ∃ m, k = m + 1 := ⟨k - 1, by omega⟩
    simp only [spec_FloodVlan.l0]
    rw [if_neg (by omega), List.drop_eq_nil_of_le (by omega)]
    simp [flF]
  | succ d ih =>
    intro k i acc h0 h1 hk ha
    obtain ⟨k, rfl⟩ : ∃ m, k = m + 1 := ⟨k - 1, by omega⟩
    have hm := hj _ (rd_mem (l := js) h0 (by omega))
    have hs := hx _ (rd27_mem (l := l) hm.1 (by omega))
    simp only [spec_FloodVlan.l0]
    rw [if_pos (by omega), if_pos h0, w_in (n := i + 1) (by omega) (by omega), rd_at h0 (by omega)]
    simp only [flF]
    by_cases h : rd js i = at_
    · rw [if_pos h, if_pos h, ih k (i + 1) _ (by omega) (by omega) (by omega) (by omega)]
    · rw [if_neg h, if_neg h, if_pos hm.1, if_pos hm.2, spec_tagout (by omega) (by omega)]
      simp only [Option.bind_some]
      rw [if_pos (by omega), ih k (i + 1) _ (by omega) (by omega) (by omega) (by simp; omega)]
      simp [tgo27]
theorem spec_flood {l : List S27} (at_ tag : Int) (hl : l.length ≤ 1048576) (hx : short S27.f2 l) {k : Nat} (hk : 5000010 < k) : spec_FloodVlan.f k l at_ tag = some (flood l at_ tag) := by
  obtain ⟨k, rfl⟩ : ∃ m, k = m + 1 := ⟨k - 1, by omega⟩
  unfold spec_FloodVlan.f flood
  rw [spec_ports hl hx (by omega), s_in, w_in (n := (l.length : Int) - 1) (by omega) (by omega)]
  simp only [Option.bind_some]
  by_cases hp : psv l = true
  · by_cases hat : 0 ≤ at_ ∧ at_ ≤ (l.length : Int) - 1
    · have ho : atok l at_ = true := by simp [atok, hp, hat]
      have hs := hx _ (rd27_mem (l := l) (i := at_) hat.1 (by omega))
      rw [if_pos hp, if_pos ho]
      simp only [spec_FloodVlan.j0]
      rw [if_neg (by simp [hat]), if_pos hat.1, if_pos (by omega), spec_vlanin (by omega) (by omega)]
      simp only [Option.bind_some]
      show (if vli27 (rd_T27 l at_) tag < 0 then _ else (spec_PortsOn.f k l (vli27 (rd_T27 l at_) tag)).bind _) = _
      split
      · rfl
      · rw [spec_on _ hl hx (by omega)]
        unfold pOn
        rw [if_pos hp]
        simp only [Option.bind_some]
        have hle := ponF_len (vli27 (rd_T27 l at_) tag) l 0
        have hh := spec_flood_loop at_ (vli27 (rd_T27 l at_) tag) hx (ponF (vli27 (rd_T27 l at_) tag) l 0) ponF_in (by omega) (ponF (vli27 (rd_T27 l at_) tag) l 0).length k 0 [] (by omega) (by omega) (by omega) (by simp; omega)
        simpa [vli27] using hh
    · have ho : ¬ (atok l at_ = true) := by simp only [atok, hp, hat]; decide
      rw [if_pos hp, if_neg ho]
      simp only [spec_FloodVlan.j0]
      rw [if_pos (by simp [hat])]
  · have ho : ¬ (atok l at_ = true) := by simp [atok, hp]
    rw [if_neg hp, if_neg ho]
    simp only [spec_FloodVlan.j0]
    rw [if_pos trivial]
theorem vli_nn {kd own : Int} {c : List Int} {t : Int} (h : 0 ≤ vli kd own c t) : 0 ≤ t := by
  unfold vli at h
  by_cases hp : pv kd own c = true
  · rw [if_pos hp] at h
    by_cases e : t = 0
    · omega
    · rw [if_neg e] at h
      by_cases e2 : c.contains t = true
      · have := net_bd (pv_mem hp e2).1; omega
      · rw [if_neg e2] at h; omega
  · rw [if_neg hp] at h; omega
theorem at_on {x : S27} {t : Int} (h : 0 ≤ vli27 x t) : onv (vli27 x t) x = true ∧ tgo27 x (vli27 x t) = t := by
  have h1 := tag_in h
  have h2 := vli_nn h
  refine ⟨?_, h1.1⟩
  unfold onv
  have : tgo x.f0 x.f1 x.f2 (vli27 x t) = t := h1.1
  rw [this]
  simpa using h2
theorem at_mem {l : List S27} {at_ t : Int} (ho : atok l at_ = true) (h : 0 ≤ vli27 (rd_T27 l at_) t) : at_ ∈ ponF (vli27 (rd_T27 l at_) t) l 0 := by
  simp only [atok, Bool.and_eq_true, decide_eq_true_eq] at ho
  refine (ponF_mem _ _ _ _).2 ⟨by omega, by omega, ?_⟩
  rw [Int.sub_zero]
  exact (at_on h).1
theorem flood_len (l : List S27) (at_ tag : Int) : (flood l at_ tag).length ≤ l.length := by
  unfold flood
  split
  · split
    · simp
    · exact Nat.le_trans (flF_len _ _ _ _) (ponF_len _ _ _)
  · simp
theorem eqV_loop (l : List S52) (hl : l.length ≤ 1048576) (d : Nat) : ∀ (k : Nat) (i : Int), 0 ≤ i → i + d = l.length → d < k → laws_eqVOutS.l0 k l l i = some true := by
  induction d with
  | zero =>
    intro k i h0 h1 hk
    obtain ⟨k, rfl⟩ : ∃ m, k = m + 1 := ⟨k - 1, by omega⟩
    simp only [laws_eqVOutS.l0]
    rw [if_neg (by omega)]
  | succ d ih =>
    intro k i h0 h1 hk
    obtain ⟨k, rfl⟩ : ∃ m, k = m + 1 := ⟨k - 1, by omega⟩
    simp only [laws_eqVOutS.l0]
    rw [if_pos (by omega), if_pos h0, if_pos (by omega)]
    unfold laws_eqVOut.f
    rw [if_pos rfl, if_pos rfl, bs rfl, if_pos rfl, w_in (by omega) (by omega)]
    exact ih k (i + 1) (by omega) (by omega) (by omega)
theorem eqV_ok {l : List S52} (hl : l.length ≤ 1048576) {k : Nat} (hk : l.length < k) : laws_eqVOutS.f k l l = some true := by
  unfold laws_eqVOutS.f
  rw [if_pos rfl]
  exact eqV_loop l hl l.length k 0 (by omega) (by omega) hk
def seqV (m : Int) (n : Nat) : List S52 := (List.range n).map fun (i : Nat) => ⟨m + 2 * (i : Int), m + 2 * (i : Int) + 1⟩
theorem seqV_len (m : Int) (n : Nat) : (seqV m n).length = n := by simp [seqV]
theorem seqV_succ (m : Int) (n : Nat) : seqV m (n + 1) = seqV m n ++ [⟨m + 2 * (n : Int), m + 2 * (n : Int) + 1⟩] := by simp [seqV, List.range_succ]
theorem seqV_rd (m : Int) (n : Nat) (i : Int) (h0 : 0 ≤ i) (h : i < n) : rd_T52 (seqV m n) i = ⟨m + 2 * i, m + 2 * i + 1⟩ := by
  unfold rd_T52 seqV
  rw [List.getD_eq_getElem?_getD, List.getElem?_map, List.getElem?_range (by omega)]
  simp
  omega
theorem rd52_set {x : List S52} {i : Int} {a : S52} (h : i.toNat < x.length) : rd_T52 (x.set i.toNat a) i = a := by
  unfold rd_T52
  rw [List.getD_eq_getElem?_getD, List.getElem?_set_self h]
  rfl
theorem markV_loop (m : Int) (hm : 0 ≤ m) (hm2 : m ≤ 1000000000000) (d : Nat) : ∀ (k : Nat) (i : Int) (x : List S52), 0 ≤ i → i + d = x.length → x.length ≤ 1000000000000 → d < k → x.take i.toNat = seqV m i.toNat →
    laws_markVOutS.l0 k x (m + 2 * i) i = some (m + 2 * (x.length : Int), seqV m x.length) := by
  induction d with
  | zero =>
    intro k i x h0 h1 hl hk ht
    obtain ⟨k, rfl⟩ : ∃ q, k = q + 1 := ⟨k - 1, by omega⟩
    simp only [laws_markVOutS.l0]
    rw [if_neg (by omega)]
    rw [List.take_of_length_le (by omega)] at ht
    have e : i.toNat = x.length := by omega
    rw [e] at ht
    have e2 : i = x.length := by omega
    rw [← ht, ← e2]
  | succ d ih =>
    intro k i x h0 h1 hl hk ht
    obtain ⟨k, rfl⟩ : ∃ q, k = q + 1 := ⟨k - 1, by omega⟩
    simp only [laws_markVOutS.l0]
    have hi : i.toNat < x.length := by omega
    rw [if_pos (by omega), if_pos h0, bs rfl]
    try dsimp only
    rw [rd52_set hi, List.set_set, w_in (n := i + 1) (by omega) (by omega), w_in (n := m + 2 * i + 1) (by omega) (by omega), w_in (n := m + 2 * i + 1 + 1) (by omega) (by omega)]
    have e : (i + 1).toNat = i.toNat + 1 := by omega
    have := ih k (i + 1) (x.set i.toNat ⟨m + 2 * i, m + 2 * i + 1⟩) (by omega) (by simp; omega) (by simpa using hl) (by omega) (by
      rw [e, List.take_succ_eq_append_getElem (by simpa using hi), List.getElem_set_self, List.take_set_of_le (Nat.le_refl _), ht, seqV_succ]
      congr 2
      congr 1 <;> omega)
    rw [show m + 2 * (i + 1) = m + 2 * i + 1 + 1 by omega] at this
    simpa using this
theorem markVO_ok {l : List S52} {m : Int} (hm : 0 ≤ m) (hm2 : m ≤ 1000000000000) (hl : l.length ≤ 1000000000000) {k : Nat} (hk : l.length < k) : laws_markVOutS.f k l m = some (m + 2 * (l.length : Int), seqV m l.length) := by
  unfold laws_markVOutS.f
  have := markV_loop m hm hm2 l.length k 0 l (by omega) (by omega) hl hk (by simp [seqV])
  simpa using this
theorem heldV_loop (m : Int) (n : Nat) (hm : 0 ≤ m) (hm2 : m ≤ 1000000000000) (hl : n ≤ 1000000000000) (d : Nat) : ∀ (k : Nat) (i : Int), 0 ≤ i → i + d = n → d < k →
    laws_heldVOutS.l0 k (seqV m n) (m + 2 * i) i = some (m + 2 * (n : Int)) := by
  induction d with
  | zero =>
    intro k i h0 h1 hk
    obtain ⟨k, rfl⟩ : ∃ q, k = q + 1 := ⟨k - 1, by omega⟩
    simp only [laws_heldVOutS.l0]
    rw [if_neg (by rw [seqV_len]; omega), show i = (n : Int) by omega]
  | succ d ih =>
    intro k i h0 h1 hk
    obtain ⟨k, rfl⟩ : ∃ q, k = q + 1 := ⟨k - 1, by omega⟩
    simp only [laws_heldVOutS.l0]
    rw [if_pos (by rw [seqV_len]; omega), if_pos h0, seqV_rd m n i h0 (by omega)]
    try dsimp only
    rw [if_pos rfl, w_in (n := m + 2 * i + 1) (by omega) (by omega), if_pos rfl, w_in (n := m + 2 * i + 1 + 1) (by omega) (by omega), w_in (n := i + 1) (by omega) (by omega), show m + 2 * i + 1 + 1 = m + 2 * (i + 1) by omega]
    exact ih k (i + 1) (by omega) (by omega) (by omega)
theorem heldVO_ok {m : Int} {n : Nat} (hm : 0 ≤ m) (hm2 : m ≤ 1000000000000) (hl : n ≤ 1000000000000) {k : Nat} (hk : n < k) : laws_heldVOutS.f k (seqV m n) m = some (m + 2 * (n : Int)) := by
  unfold laws_heldVOutS.f
  have := heldV_loop m n hm hm2 hl n k 0 (by omega) (by omega) hk
  simpa using this
theorem mv_ok {k : Nat} (hk : 1048577 < k) : ∀ (l : List S27) (m : Int), short S27.f2 l → 0 ≤ m → m + (l.length : Int) * 1048578 ≤ 100000000000000 → ∃ v, laws_markVPortS.g k l m = some v ∧ 0 ≤ v
  | [], m, _, hm, _ => ⟨m, rfl, hm⟩
  | x :: xs, m, hs, hm, hb => by
    have hx := hs x List.mem_cons_self
    simp only [List.length_cons] at hb
    obtain ⟨v, h, h0⟩ := mv_ok hk xs (m + 2 + (x.f2.length : Int)) (fun y hy => hs y (List.mem_cons_of_mem _ hy)) (by omega) (by omega)
    refine ⟨v, ?_, h0⟩
    unfold laws_markVPortS.g
    rw [w_in (n := m + 1) (by omega) (by omega), w_in (n := m + 1 + 1) (by omega) (by omega), show m + 1 + 1 = m + 2 by omega, mark_ok (by omega) (by omega) (by omega) (by omega)]
    exact h
theorem markV_ok {l : List S27} (hl : l.length ≤ 1048576) (hs : short S27.f2 l) {k : Nat} (hk : 1048577 < k) : ∃ v, laws_markVPortS.f k l 1 = some v ∧ 0 ≤ v := by
  unfold laws_markVPortS.f
  rw [if_pos (by omega)]
  exact mv_ok hk l 1 hs (by omega) (by omega)

theorem FnExactFloodVlan : laws_FnExactFloodVlan.Pure := by
  intro l a b hl _ _
  have hm : l.length ≤ 9223372036854775807 := by have := hl.1; simp only [maxLen] at this; omega
  have hm2 : ∀ x ∈ l, x.f2.length ≤ 9223372036854775807 := fun x hx => by have := (hl.2 x hx).2.2.1; simp only [maxLen] at this; omega
  obtain ⟨k, hk⟩ : ∃ k : Nat, 9000000 < k := ⟨9000001, by omega⟩
  refine ⟨k + 1, ?_⟩
  unfold laws_FnExactFloodVlan.f
  obtain ⟨v, e, hv⟩ := szPorts l hm hm2 (k := k + 1) (by omega)
  rw [bs e]
  rcases hv with hv | ⟨h1, h2⟩
  · rw [if_pos hv]
  by_cases hv : v < 0
  · rw [if_pos hv]
  rw [if_neg hv]
  have hlen : (l.map cvp).length = l.length := by simp
  have hsh := short_map h2
  have hL : (l.map cvp).length ≤ 1048576 := by omega
  obtain ⟨R, hR⟩ : ∃ R, R = flood (l.map cvp) a b := ⟨_, rfl⟩
  have hRl : R.length ≤ 1048576 := by rw [hR]; exact Nat.le_trans (flood_len _ _ _) hL
  have K : ∀ q, 8000000 < q → laws_toVPortS.f q l = some (l.map cvp) ∧ spec_FloodVlan.f q (l.map cvp) a b = some R ∧ impl_FloodVlan.f q (l.map cvp) a b = some R ∧ laws_eqVOutS.f q R R = some true ∧ laws_eqVPortS.f q (l.map cvp) (l.map cvp) = some true ∧ (∃ u, laws_markVPortS.f q (l.map cvp) 1 = some u ∧ 0 ≤ u) ∧ laws_markVOutS.f q R 1 = some (1 + 2 * (R.length : Int), seqV 1 R.length) ∧ laws_heldVOutS.f q (seqV 1 R.length) 1 = some (1 + 2 * (R.length : Int)) := fun q hq =>
    ⟨toPorts_ok h1 h2 (by omega), by rw [hR]; exact spec_flood a b hL hsh (by omega), by rw [hR]; exact impl_flood a b hL hsh (by omega), eqV_ok (by omega) (by omega), eqPorts_ok hL hsh (by omega), markV_ok hL hsh (by omega), markVO_ok (by omega) (by omega) (by omega) (by omega), heldVO_ok (by omega) (by omega) (by omega) (by omega)⟩
  clear hR e hv
  generalize l.map cvp = P at *
  obtain ⟨e1, e2, e3, e4, e5, ⟨u, e6, hu⟩, e7, e8⟩ := K (k + 1) (by omega)
  rw [bs e1, bs e2, bs e1, bs e3, bs e4, if_pos rfl, bs e1, bs e5, if_pos rfl, bs e6, if_neg (by omega), bs e4]
  simp only [laws_FnExactFloodVlan.j0, Bool.not_true]
  obtain ⟨e1, e2, e3, e4, e5, e6, e7, e8⟩ := K k (by omega)
  rw [if_neg (by decide), bs e7, bs e8, if_neg (by omega), if_pos rfl, bs e1, bs e3, bs e4, if_pos rfl, bs e8, if_neg (by omega), if_pos rfl]

end Go.Proofs.Ytmkjcoppadegjaa.Pure
