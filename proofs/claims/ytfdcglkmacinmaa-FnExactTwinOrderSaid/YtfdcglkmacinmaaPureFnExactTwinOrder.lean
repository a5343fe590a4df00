/- The pure part of FnExactTwinOrder: both tell the same order, for all lists and every lead. -/
import Derived.Test.YtfdcglkmacinmaaPFnExactTwinOrderx3
import Derived.Laws.BitsLemmas
import Derived.OpenShut
namespace Go.Proofs.Ytfdcglkmacinmaa.Pure
set_option linter.unusedVariables false
set_option linter.unusedSimpArgs false
open Go.RowKit Go.OpenShut Go.Proofs.Ytfdcglkmacinmaa.PFnExactTwinOrder Go.Proofs.YtfdcglkmacinmaaW.PrintWords Go.Proofs.YtfdcglkmacinmaaW.PrintLast

theorem w_in {n : Int} (h0 : -9223372036854775808 ≤ n) (h1 : n ≤ 9223372036854775807) : wrap64 n = n := by unfold wrap64; omega

theorem allO_total {α : Type} {p : α → Option Bool} {q : α → Bool} : ∀ (l : List α), (∀ x ∈ l, p x = some (q x)) → allO p l = some (l.all q)
  | [], _ => rfl
  | x :: xs, h => by
    have ih := allO_total xs (fun y hy => h y (List.mem_cons_of_mem _ hy))
    simp only [allO, h x (List.mem_cons_self), Option.bind_some, List.all_cons]
    cases q x
    · simp
    · simpa using ih

theorem rd_at {l : List Int} {i : Int} (h0 : 0 ≤ i) (h : i.toNat < l.length) : l.drop i.toNat = rd l i :: l.drop (i + 1).toNat := by
  rw [List.drop_eq_getElem_cons h, show (i + 1).toNat = i.toNat + 1 by omega]
  unfold rd
  rw [List.getD_eq_getElem?_getD, List.getElem?_eq_getElem h]
  rfl
theorem rd_mem {l : List Int} {i : Int} (h0 : 0 ≤ i) (h : i < l.length) : rd l i ∈ l := by
  unfold rd
  rw [List.getD_eq_getElem?_getD, List.getElem?_eq_getElem (by omega)]
  exact List.getElem_mem _

theorem s_in (a b c : Int) : spec_l1In.f a b c = some (decide (b ≤ a ∧ a ≤ c)) := by
  unfold spec_l1In.f
  by_cases h : b ≤ a <;> simp [h]
theorem i_in (a b c : Int) : impl_within.f a b c = some (decide (b ≤ a ∧ a ≤ c)) := by
  unfold impl_within.f
  by_cases h : b ≤ a <;> simp [h]
theorem toInt_loop (l : List Int) (hl : l.length ≤ 9223372036854775806) (d : Nat) : ∀ (k : Nat) (i : Int) (x : List Int), 0 ≤ i → i + d = l.length → d < k → x.length = l.length → x.take i.toNat = l.take i.toNat →
    laws_toIntS.l0 k l x i = some l := by
  induction d with
  | zero =>
    intro k i x h0 h1 hk hx ht
    obtain ⟨k, rfl⟩ : ∃ m, k = m + 1 := ⟨k - 1, by omega⟩
    simp only [laws_toIntS.l0]
    rw [if_neg (by omega)]
    rw [List.take_of_length_le (by omega), List.take_of_length_le (by omega)] at ht
    rw [ht]
  | succ d ih =>
    intro k i x h0 h1 hk hx ht
    obtain ⟨k, rfl⟩ : ∃ m, k = m + 1 := ⟨k - 1, by omega⟩
    simp only [laws_toIntS.l0]
    rw [if_pos (by omega), if_pos h0, if_pos (by omega), w_in (by omega) (by omega)]
    refine ih k (i + 1) _ (by omega) (by omega) (by omega) (by simpa using hx) ?_
    have e : (i + 1).toNat = i.toNat + 1 := by omega
    have hi : i.toNat < l.length := by omega
    rw [e, List.take_succ_eq_append_getElem (by simpa [hx] using hi), List.take_succ_eq_append_getElem hi, List.getElem_set_self, List.take_set_of_le (Nat.le_refl _), ht]
    congr 2
    unfold rd
    rw [List.getD_eq_getElem?_getD, List.getElem?_eq_getElem hi]
    rfl
theorem toInt_ok {l : List Int} (hl : l.length ≤ 35184372088832) {k : Nat} (hk : l.length < k) : laws_toIntS.f k l = some l := by
  unfold laws_toIntS.f
  rw [if_pos (by omega), if_pos (by omega)]
  exact toInt_loop l (by omega) l.length k 0 _ (by omega) (by omega) hk (by simp) (by simp)

theorem eqInt_loop (l : List Int) (hl : l.length ≤ 9223372036854775806) (d : Nat) : ∀ (k : Nat) (i : Int), 0 ≤ i → i + d = l.length → d < k → laws_eqIntS.l0 k l l i = some true := by
  induction d with
  | zero =>
    intro k i h0 h1 hk
    obtain ⟨k, rfl⟩ : ∃ m, k = m + 1 := ⟨k - 1, by omega⟩
    simp only [laws_eqIntS.l0]
    rw [if_neg (by omega)]
  | succ d ih =>
    intro k i h0 h1 hk
    obtain ⟨k, rfl⟩ : ∃ m, k = m + 1 := ⟨k - 1, by omega⟩
    simp only [laws_eqIntS.l0]
    rw [if_pos (by omega), if_pos h0, if_pos (by omega), if_pos trivial, w_in (by omega) (by omega)]
    exact ih k (i + 1) (by omega) (by omega) (by omega)
theorem eqInt_ok {l : List Int} (hl : l.length ≤ 35184372088832) {k : Nat} (hk : l.length < k) : laws_eqIntS.f k l l = some true := by
  unfold laws_eqIntS.f
  rw [if_pos rfl]
  exact eqInt_loop l (by omega) l.length k 0 (by omega) (by omega) hk

/-- m, m + 1, .. -/
def seqF (m : Int) (n : Nat) : List Int := (List.range n).map fun (i : Nat) => m + (i : Int)
theorem seqF_len (m : Int) (n : Nat) : (seqF m n).length = n := by simp [seqF]
theorem seqF_succ (m : Int) (n : Nat) : seqF m (n + 1) = seqF m n ++ [m + n] := by simp [seqF, List.range_succ]
theorem seqF_rd (m : Int) (n : Nat) (i : Int) (h0 : 0 ≤ i) (h : i < n) : rd (seqF m n) i = m + i := by
  unfold rd seqF
  rw [List.getD_eq_getElem?_getD, List.getElem?_map, List.getElem?_range (by omega)]
  simp
  omega
theorem mark_loop (m : Int) (hm : 0 ≤ m) (hm2 : m ≤ 1000000000000) (d : Nat) : ∀ (k : Nat) (i : Int) (x : List Int), 0 ≤ i → i + d = x.length → x.length ≤ 1000000000000 → d < k → x.take i.toNat = seqF m i.toNat →
    laws_markIntS.l0 k x (m + i) i = some (m + x.length, seqF m x.length) := by
  induction d with
  | zero =>
    intro k i x h0 h1 hl hk ht
    obtain ⟨k, rfl⟩ : ∃ q, k = q + 1 := ⟨k - 1, by omega⟩
    simp only [laws_markIntS.l0]
    rw [if_neg (by omega)]
    rw [List.take_of_length_le (by omega)] at ht
    have e : i.toNat = x.length := by omega
    rw [e] at ht
    have e2 : i = x.length := by omega
    rw [← ht, ← e2]
  | succ d ih =>
    intro k i x h0 h1 hl hk ht
    obtain ⟨k, rfl⟩ : ∃ q, k = q + 1 := ⟨k - 1, by omega⟩
    simp only [laws_markIntS.l0]
    rw [if_pos (by omega), if_pos h0, w_in (n := i + 1) (by omega) (by omega), w_in (n := m + i + 1) (by omega) (by omega)]
    have e : (i + 1).toNat = i.toNat + 1 := by omega
    have hi : i.toNat < x.length := by omega
    have := ih k (i + 1) (x.set i.toNat (m + i)) (by omega) (by simp; omega) (by simpa using hl) (by omega) (by
      rw [e, List.take_succ_eq_append_getElem (by simpa using hi), List.getElem_set_self, List.take_set_of_le (Nat.le_refl _), ht, seqF_succ]
      congr 2
      omega)
    rw [show m + (i + 1) = m + i + 1 by omega] at this
    simpa using this
theorem mark_ok {l : List Int} {m : Int} (hm : 0 ≤ m) (hm2 : m ≤ 1000000000000) (hl : l.length ≤ 1000000000000) {k : Nat} (hk : l.length < k) : laws_markIntS.f k l m = some (m + l.length, seqF m l.length) := by
  unfold laws_markIntS.f
  have := mark_loop m hm hm2 l.length k 0 l (by omega) (by omega) hl hk (by simp [seqF])
  simpa using this
theorem held_loop (m : Int) (n : Nat) (hm : 0 ≤ m) (hm2 : m ≤ 1000000000000) (hl : n ≤ 1000000000000) (d : Nat) : ∀ (k : Nat) (i : Int), 0 ≤ i → i + d = n → d < k →
    laws_heldIntS.l0 k (seqF m n) (m + i) i = some (m + n) := by
  induction d with
  | zero =>
    intro k i h0 h1 hk
    obtain ⟨k, rfl⟩ : ∃ q, k = q + 1 := ⟨k - 1, by omega⟩
    simp only [laws_heldIntS.l0]
    rw [if_neg (by rw [seqF_len]; omega), show i = (n : Int) by omega]
  | succ d ih =>
    intro k i h0 h1 hk
    obtain ⟨k, rfl⟩ : ∃ q, k = q + 1 := ⟨k - 1, by omega⟩
    simp only [laws_heldIntS.l0]
    rw [if_pos (by rw [seqF_len]; omega), if_pos h0, if_pos (seqF_rd m n i h0 (by omega)), w_in (n := i + 1) (by omega) (by omega), w_in (n := m + i + 1) (by omega) (by omega), show m + i + 1 = m + (i + 1) by omega]
    exact ih k (i + 1) (by omega) (by omega) (by omega)
theorem held_ok {m : Int} {n : Nat} (hm : 0 ≤ m) (hm2 : m ≤ 1000000000000) (hl : n ≤ 1000000000000) {k : Nat} (hk : n < k) : laws_heldIntS.f k (seqF m n) m = some (m + n) := by
  unfold laws_heldIntS.f
  have := held_loop m n hm hm2 hl n k 0 (by omega) (by omega) hk
  simpa using this

def told (x : Int) : Bool := decide (0 ≤ x ∧ x ≤ 999)
theorem spec_seqs_loop (l : List Int) (most : Int) (hl : l.length ≤ 9223372036854775806) (d : Nat) : ∀ (k : Nat) (i : Int), 0 ≤ i → i + d = l.length → d < k →
    spec_l17Seqs.l0 k l most i = some ((l.drop i.toNat).all told && decide ((l.length : Int) ≤ most)) := by
  induction d with
  | zero =>
    intro k i h0 h1 hk
    obtain ⟨k, rfl⟩ : ∃ m, k = m + 1 := ⟨k - 1, by omega⟩
    simp only [spec_l17Seqs.l0]
    rw [if_neg (by omega), List.drop_eq_nil_of_le (by omega)]
    simp
  | succ d ih =>
    intro k i h0 h1 hk
    obtain ⟨k, rfl⟩ : ∃ m, k = m + 1 := ⟨k - 1, by omega⟩
    rw [rd_at h0 (by omega)]
    simp only [spec_l17Seqs.l0, s_in, Option.bind_some]
    rw [if_pos (by omega), if_pos h0, w_in (n := i + 1) (by omega) (by omega), ih k (i + 1) (by omega) (by omega) (by omega)]
    simp only [List.all_cons]
    rw [show decide (0 ≤ rd l i ∧ rd l i ≤ 999) = told (rd l i) from rfl]
    by_cases hc : told (rd l i) = true
    · rw [if_pos hc, hc]; simp
    · rw [if_neg hc]; simp [hc]
theorem spec_seqs {l : List Int} {most : Int} (hl : l.length ≤ 9223372036854775806) {k : Nat} (hk : l.length < k) : spec_l17Seqs.f k l most = some (l.all told && decide ((l.length : Int) ≤ most)) := by
  unfold spec_l17Seqs.f
  rw [spec_seqs_loop l most hl l.length k 0 (by omega) (by omega) hk]
  simp
theorem impl_told (x : Int) : impl_isTold.f x = some (told x) := by
  unfold impl_isTold.f told
  rw [i_in]
  rfl
theorem all_told (l : List Int) : all_impl_isTold.f l = some (l.all told) := by
  unfold all_impl_isTold.f
  exact allO_total (q := told) l (fun x _ => impl_told x)

/-- What has come from the time t on, in d steps. -/
def twf (e l : List Int) (lead : Int) : List Int → Int → Nat → List Int
  | o, _, 0 => o
  | o, t, d + 1 => twf e l lead ((if t < (e.length : Int) then o ++ [rd e t] else o) ++ (if 0 ≤ t - lead ∧ t - lead ≤ (l.length : Int) - 1 then [rd l (t - lead)] else [])) (t + 1) d
theorem twf_len (e l : List Int) (lead : Int) : ∀ (d : Nat) (o : List Int) (t : Int), (twf e l lead o t d).length ≤ o.length + 2 * d
  | 0, o, t => by simp [twf]
  | d + 1, o, t => by
    simp only [twf]
    refine Nat.le_trans (twf_len e l lead d _ _) ?_
    rw [List.length_append]
    split <;> split <;> simp <;> omega
theorem twf_add (e l : List Int) (lead : Int) : ∀ (a : Nat) (o : List Int) (t : Int) (b : Nat), twf e l lead o t (a + b) = twf e l lead (twf e l lead o t a) (t + a) b
  | 0, o, t, b => by simp [twf]
  | a + 1, o, t, b => by
    rw [show a + 1 + b = (a + b) + 1 by omega]
    simp only [twf]
    rw [twf_add e l lead a _ (t + 1) b, show t + 1 + (a : Int) = t + ((a + 1 : Nat) : Int) by push_cast; omega]
theorem twf_rest (e l : List Int) (lead : Int) (he : e.length ≤ 30) (hl : l.length ≤ 30) (h0 : 0 ≤ lead) : ∀ (d : Nat) (o : List Int) (t : Int), lead + 31 ≤ t → twf e l lead o t d = o
  | 0, _, _, _ => rfl
  | d + 1, o, t, ht => by
    simp only [twf]
    rw [if_neg (by omega), if_neg (by omega), List.append_nil]
    exact twf_rest e l lead he hl h0 d o (t + 1) (by omega)
theorem spec_order_loop (e l : List Int) (lead : Int) (h0 : 0 ≤ lead) (h1 : lead ≤ 50) (hl : l.length ≤ 30) (d : Nat) : ∀ (k : Nat) (o : List Int) (t : Int), 0 ≤ t → t + d = 80 → d < k → o.length ≤ 2 * t → spec_TwinOrder.l0 k e l lead o t = some (twf e l lead o t d) := by
  induction d with
  | zero =>
    intro k o t ht hd hk ho
    obtain ⟨k, rfl⟩ : ∃ m, k = m + 1 := ⟨k - 1, by omega⟩
    simp only [spec_TwinOrder.l0]
    rw [if_neg (by omega)]
    rfl
  | succ d ih =>
    intro k o t ht hd hk ho
    obtain ⟨k, rfl⟩ : ∃ m, k = m + 1 := ⟨k - 1, by omega⟩
    simp only [spec_TwinOrder.l0, s_in, Option.bind_some]
    rw [if_pos (by omega), w_in (n := t - lead) (by omega) (by omega), w_in (n := (l.length : Int) - 1) (by omega) (by omega), w_in (n := t + 1) (by omega) (by omega)]
    simp only [twf]
    by_cases he : t < (e.length : Int)
    · simp only [he, ht, if_true]
      rw [if_pos (by omega)]
      by_cases c : 0 ≤ t - lead ∧ t - lead ≤ (l.length : Int) - 1
      · rw [if_pos (by simpa using c), if_pos c, if_pos c.1, if_pos (by omega), if_pos (by simp; omega)]
        exact ih k _ (t + 1) (by omega) (by omega) (by omega) (by simp; omega)
      · rw [if_neg (by simpa using c), if_neg c, List.append_nil]
        exact ih k _ (t + 1) (by omega) (by omega) (by omega) (by simp; omega)
    · simp only [he, if_false]
      by_cases c : 0 ≤ t - lead ∧ t - lead ≤ (l.length : Int) - 1
      · rw [if_pos (by simpa using c), if_pos c, if_pos c.1, if_pos (by omega), if_pos (by omega)]
        exact ih k _ (t + 1) (by omega) (by omega) (by omega) (by simp; omega)
      · rw [if_neg (by simpa using c), if_neg c, List.append_nil]
        exact ih k _ (t + 1) (by omega) (by omega) (by omega) (by omega)
theorem impl_order_loop (e l : List Int) (lead : Int) (h0 : 0 ≤ lead) (h1 : lead ≤ 50) (hl : l.length ≤ 30) (d : Nat) : ∀ (k : Nat) (o : List Int) (t : Int), 0 ≤ t → t + d = lead + 31 → d < k → o.length ≤ 2 * t → impl_TwinOrder.l0 k e l lead o (lead + 31) t = some (twf e l lead o t d) := by
  induction d with
  | zero =>
    intro k o t ht hd hk ho
    obtain ⟨k, rfl⟩ : ∃ m, k = m + 1 := ⟨k - 1, by omega⟩
    simp only [impl_TwinOrder.l0]
    rw [if_neg (by omega)]
    rfl
  | succ d ih =>
    intro k o t ht hd hk ho
    obtain ⟨k, rfl⟩ : ∃ m, k = m + 1 := ⟨k - 1, by omega⟩
    simp only [impl_TwinOrder.l0, i_in, Option.bind_some]
    rw [if_pos (by omega), w_in (n := t - lead) (by omega) (by omega), w_in (n := (l.length : Int) - 1) (by omega) (by omega), w_in (n := t + 1) (by omega) (by omega)]
    simp only [twf]
    by_cases he : t < (e.length : Int)
    · simp only [he, ht, if_true]
      rw [if_pos (by omega)]
      by_cases c : 0 ≤ t - lead ∧ t - lead ≤ (l.length : Int) - 1
      · rw [if_pos (by simpa using c), if_pos c, if_pos c.1, if_pos (by omega), if_pos (by simp; omega)]
        exact ih k _ (t + 1) (by omega) (by omega) (by omega) (by simp; omega)
      · rw [if_neg (by simpa using c), if_neg c, List.append_nil]
        exact ih k _ (t + 1) (by omega) (by omega) (by omega) (by simp; omega)
    · simp only [he, if_false]
      by_cases c : 0 ≤ t - lead ∧ t - lead ≤ (l.length : Int) - 1
      · rw [if_pos (by simpa using c), if_pos c, if_pos c.1, if_pos (by omega), if_pos (by omega)]
        exact ih k _ (t + 1) (by omega) (by omega) (by omega) (by simp; omega)
      · rw [if_neg (by simpa using c), if_neg c, List.append_nil]
        exact ih k _ (t + 1) (by omega) (by omega) (by omega) (by omega)
def ord (e l : List Int) (lead : Int) : List Int := if e.length ≤ 30 ∧ l.length ≤ 30 ∧ e.all told = true ∧ l.all told = true ∧ 0 ≤ lead ∧ lead ≤ 50 then twf e l lead [] 0 80 else []
theorem ord_len (e l : List Int) (lead : Int) : (ord e l lead).length ≤ 160 := by
  unfold ord
  split
  · have := twf_len e l lead 80 [] 0; simpa using this
  · simp
theorem spec_order {e l : List Int} {lead : Int} (he : e.length ≤ 9223372036854775806) (hl : l.length ≤ 9223372036854775806) {k : Nat} (hk : 100 < k) (hke : e.length < k) (hkl : l.length < k) : spec_TwinOrder.f k e l lead = some (ord e l lead) := by
  obtain ⟨k, rfl⟩ : ∃ m, k = m + 1 := ⟨k - 1, by omega⟩
  unfold spec_TwinOrder.f ord
  rw [spec_seqs he hke, spec_seqs hl hkl]
  simp only [Option.bind_some, s_in, spec_TwinOrder.j0]
  by_cases h1 : e.all told = true
  · by_cases h2 : (e.length : Int) ≤ 30
    · by_cases h3 : l.all told = true
      · by_cases h4 : (l.length : Int) ≤ 30
        · by_cases h5 : 0 ≤ lead ∧ lead ≤ 50
          · have h2' : e.length ≤ 30 := by omega
            have h4' : l.length ≤ 30 := by omega
            have := spec_order_loop e l lead h5.1 h5.2 h4' 80 k [] 0 (by omega) (by omega) (by omega) (by simp)
            simp [h1, h2, h3, h4, h5, h2', h4', this]
          · simp [h1, h2, h3, h4, h5]
        · have : ¬ l.length ≤ 30 := by omega
          simp [h1, h2, h3, h4, this]
      · simp [h1, h2, h3]
    · have : ¬ e.length ≤ 30 := by omega
      simp [h1, h2, this]
  · simp [h1]
theorem impl_order {e l : List Int} {lead : Int} {k : Nat} (hk : 100 < k) : impl_TwinOrder.f k e l lead = some (ord e l lead) := by
  obtain ⟨k, rfl⟩ : ∃ m, k = m + 1 := ⟨k - 1, by omega⟩
  unfold impl_TwinOrder.f ord
  rw [all_told, all_told]
  simp only [Option.bind_some, i_in, impl_TwinOrder.j0]
  by_cases h2 : e.length ≤ 30
  · by_cases h4 : l.length ≤ 30
    · rw [if_neg (by omega), if_neg (by omega)]
      by_cases h1 : e.all told = true
      · by_cases h3 : l.all told = true
        · by_cases h5 : 0 ≤ lead ∧ lead ≤ 50
          · have := impl_order_loop e l lead h5.1 h5.2 h4 (lead + 31).toNat k [] 0 (by omega) (by omega) (by omega) (by simp)
            have e1 := twf_add e l lead (lead + 31).toNat [] 0 (81 - (lead + 31).toNat)
            have e2 := twf_rest e l lead h2 h4 h5.1 (81 - (lead + 31).toNat) (twf e l lead [] 0 (lead + 31).toNat) (0 + ((lead + 31).toNat : Int)) (by omega)
            have e3 : (lead + 31).toNat + (81 - (lead + 31).toNat) = 80 + 1 := by omega
            rw [e3, e2, twf_add e l lead 80 [] 0 1] at e1
            have e4 : ∀ o, twf e l lead o (0 + ((80 : Nat) : Int)) 1 = o := fun o => by
              show twf e l lead ((if (0 + ((80 : Nat) : Int)) < (e.length : Int) then o ++ [rd e (0 + ((80 : Nat) : Int))] else o) ++ (if 0 ≤ (0 + ((80 : Nat) : Int)) - lead ∧ (0 + ((80 : Nat) : Int)) - lead ≤ (l.length : Int) - 1 then [rd l ((0 + ((80 : Nat) : Int)) - lead)] else [])) (0 + ((80 : Nat) : Int) + 1) 0 = o
              rw [if_neg (by omega), if_neg (by omega), List.append_nil]
              rfl
            rw [e4] at e1
            rw [w_in (n := lead + 31) (by omega) (by omega), this, ← e1]
            simp [h1, h2, h3, h4, h5]
          · simp [h1, h2, h3, h4, h5]
        · simp [h1, h2, h3, h4]
      · simp [h1, h2, h4]
    · rw [if_neg (by omega), if_pos (by omega)]
      simp [h4]
  · rw [if_pos (by omega)]
    simp [h2]

theorem FnExactTwinOrder : laws_FnExactTwinOrder.Pure := by
  intro l0 l1 a _ _ _ _ _ _ _
  refine ⟨l0.length + l1.length + 1000, ?_⟩
  unfold laws_FnExactTwinOrder.f
  by_cases h0 : (l0.length : Int) > 1048576
  · rw [if_pos h0]
  by_cases h1 : (l1.length : Int) > 1048576
  · rw [if_neg h0, if_pos h1]
  rw [if_neg h0, if_neg h1]
  have lo := ord_len l0 l1 a
  have K : ∀ k, l0.length + l1.length + 900 ≤ k → laws_toIntS.f k l0 = some l0 ∧ laws_toIntS.f k l1 = some l1 ∧ spec_TwinOrder.f k l0 l1 a = some (ord l0 l1 a) ∧ impl_TwinOrder.f k l0 l1 a = some (ord l0 l1 a) ∧ laws_eqIntS.f k (ord l0 l1 a) (ord l0 l1 a) = some true ∧ laws_eqIntS.f k l0 l0 = some true ∧ laws_eqIntS.f k l1 l1 = some true ∧ laws_markIntS.f k (ord l0 l1 a) 1 = some (1 + ((ord l0 l1 a).length : Int), seqF 1 (ord l0 l1 a).length) ∧ laws_heldIntS.f k (seqF 1 (ord l0 l1 a).length) 1 = some (1 + ((ord l0 l1 a).length : Int)) := fun k hk =>
    ⟨toInt_ok (by omega) (by omega), toInt_ok (by omega) (by omega), spec_order (by omega) (by omega) (by omega) (by omega) (by omega), impl_order (by omega), eqInt_ok (by omega) (by omega), eqInt_ok (by omega) (by omega), eqInt_ok (by omega) (by omega), mark_ok (by omega) (by omega) (by omega) (by omega), held_ok (by omega) (by omega) (by omega) (by omega)⟩
  obtain ⟨e1, e2, e3, e4, e5, e6, e7, e8, e9⟩ := K (l0.length + l1.length + 1000) (by omega)
  simp only [e1, e2, e3, e4, e5, e6, e7, Option.bind_some, if_true]
  rw [mark_ok (l := l0) (m := 1) (by omega) (by omega) (by omega) (by omega)]
  simp only [Option.bind_some]
  rw [mark_ok (l := l1) (m := 1 + (l0.length : Int)) (by omega) (by omega) (by omega) (by omega)]
  simp only [Option.bind_some]
  rw [if_neg (by omega)]
  rw [show l0.length + l1.length + 1000 = (l0.length + l1.length + 999) + 1 by omega]
  simp only [laws_FnExactTwinOrder.j0]
  obtain ⟨e1, e2, e3, e4, e5, e6, e7, e8, e9⟩ := K (l0.length + l1.length + 999) (by omega)
  simp only [e1, e2, e4, e5, e8, e9, Option.bind_some, if_true]
  rw [if_neg (by decide), if_neg (by omega), if_neg (by omega)]


end Go.Proofs.Ytfdcglkmacinmaa.Pure
