/- What both sides of FnExactTwinsTaken compute, in plain Lean. -/
import Derived.Test.YtfdcglkmacinmaaPFnExactTwinsTakenx3
import Derived.Laws.BitsLemmas
import Derived.OpenShut
namespace Go.Proofs.Ytfdcglkmacinmaa.Pure
set_option linter.unusedVariables false
set_option linter.unusedSimpArgs false
open Go.RowKit Go.OpenShut Go.Proofs.Ytfdcglkmacinmaa.PFnExactTwinsTaken Go.Proofs.YtfdcglkmacinmaaW.PrintWords Go.Proofs.YtfdcglkmacinmaaW.PrintLast

theorem w_in {n : Int} (h0 : -9223372036854775808 ≤ n) (h1 : n ≤ 9223372036854775807) : wrap64 n = n := by unfold wrap64; omega

theorem allO_total {α : Type} {p : α → Option Bool} {q : α → Bool} : ∀ (l : List α), (∀ x ∈ l, p x = some (q x)) → allO p l = some (l.all q)
  | [], _ => rfl
  | x :: xs, h => by
    have ih := allO_total xs (fun y hy => h y (List.mem_cons_of_mem _ hy))
    simp only [allO, h x (List.mem_cons_self), Option.bind_some, List.all_cons]
    cases q x
    · simp
    · simpa using ih

theorem rd_at {l : List Int} {i : Int} (h0 : 0 ≤ i) (h : i.toNat < l.length) : l.drop i.toNat = rd l i :: l.drop (i + 1).toNat := by
  rw [List.drop_eq_getElem_cons h, show (i + 1).toNat = i.toNat + 1 by omega]
  unfold rd
  rw [List.getD_eq_getElem?_getD, List.getElem?_eq_getElem h]
  rfl
theorem rd_mem {l : List Int} {i : Int} (h0 : 0 ≤ i) (h : i < l.length) : rd l i ∈ l := by
  unfold rd
  rw [List.getD_eq_getElem?_getD, List.getElem?_eq_getElem (by omega)]
  exact List.getElem_mem _

theorem s_in (a b c : Int) : spec_l1In.f a b c = some (decide (b ≤ a ∧ a ≤ c)) := by
  unfold spec_l1In.f
  by_cases h : b ≤ a <;> simp [h]
theorem i_in (a b c : Int) : impl_within.f a b c = some (decide (b ≤ a ∧ a ≤ c)) := by
  unfold impl_within.f
  by_cases h : b ≤ a <;> simp [h]
theorem index_loop (l : List Int) (v : Int) (hl : l.length ≤ 9223372036854775806) (d : Nat) : ∀ (k : Nat) (i : Int), 0 ≤ i → i + d = l.length → d < k →
    ∃ r, slices_Index_int_int.l0 k l v (l.length : Int) i = some r ∧ decide (r ≥ 0) = (l.drop i.toNat).contains v := by
  induction d with
  | zero =>
    intro k i h0 h1 hk
    obtain ⟨k, rfl⟩ : ∃ m, k = m + 1 := ⟨k - 1, by omega⟩
    refine ⟨-1, by simp only [slices_Index_int_int.l0]; rw [if_neg (by omega)], ?_⟩
    rw [List.drop_eq_nil_of_le (by omega)]; rfl
  | succ d ih =>
    intro k i h0 h1 hk
    obtain ⟨k, rfl⟩ : ∃ m, k = m + 1 := ⟨k - 1, by omega⟩
    rw [rd_at h0 (by omega)]
    simp only [slices_Index_int_int.l0]
    rw [if_pos (by omega), if_pos h0, if_pos (by omega)]
    by_cases e : v = rd l i
    · exact ⟨i, by rw [if_pos e], by rw [← e]; simp [h0]⟩
    · obtain ⟨r, hr, hd⟩ := ih k (i + 1) (by omega) (by omega) (by omega)
      refine ⟨r, by rw [if_neg e, w_in (by omega) (by omega)]; exact hr, ?_⟩
      rw [hd, List.contains_cons]
      simp [e]
theorem contains_ok {l : List Int} {v : Int} (hl : l.length ≤ 9223372036854775806) {k : Nat} (hk : l.length < k) : slices_Contains_int_int.f k l v = some (l.contains v) := by
  obtain ⟨r, hr, hd⟩ := index_loop l v hl l.length k 0 (by omega) (by omega) hk
  unfold slices_Contains_int_int.f slices_Index_int_int.f
  rw [hr]
  simp only [Option.bind_some]
  rw [hd]; rfl

theorem toInt_loop (l : List Int) (hl : l.length ≤ 9223372036854775806) (d : Nat) : ∀ (k : Nat) (i : Int) (x : List Int), 0 ≤ i → i + d = l.length → d < k → x.length = l.length → x.take i.toNat = l.take i.toNat →
    laws_toIntS.l0 k l x i = some l := by
  induction d with
  | zero =>
    intro k i x h0 h1 hk hx ht
    obtain ⟨k, rfl⟩ : ∃ m, k = m + 1 := ⟨k - 1, by omega⟩
    simp only [laws_toIntS.l0]
    rw [if_neg (by omega)]
    rw [List.take_of_length_le (by omega), List.take_of_length_le (by omega)] at ht
    rw [ht]
  | succ d ih =>
    intro k i x h0 h1 hk hx ht
    obtain ⟨k, rfl⟩ : ∃ m, k = m + 1 := ⟨k - 1, by omega⟩
    simp only [laws_toIntS.l0]
    rw [if_pos (by omega), if_pos h0, if_pos (by omega), w_in (by omega) (by omega)]
    refine ih k (i + 1) _ (by omega) (by omega) (by omega) (by simpa using hx) ?_
    have e : (i + 1).toNat = i.toNat + 1 := by omega
    have hi : i.toNat < l.length := by omega
    rw [e, List.take_succ_eq_append_getElem (by simpa [hx] using hi), List.take_succ_eq_append_getElem hi, List.getElem_set_self, List.take_set_of_le (Nat.le_refl _), ht]
    congr 2
    unfold rd
    rw [List.getD_eq_getElem?_getD, List.getElem?_eq_getElem hi]
    rfl
theorem toInt_ok {l : List Int} (hl : l.length ≤ 35184372088832) {k : Nat} (hk : l.length < k) : laws_toIntS.f k l = some l := by
  unfold laws_toIntS.f
  rw [if_pos (by omega), if_pos (by omega)]
  exact toInt_loop l (by omega) l.length k 0 _ (by omega) (by omega) hk (by simp) (by simp)

theorem eqInt_loop (l : List Int) (hl : l.length ≤ 9223372036854775806) (d : Nat) : ∀ (k : Nat) (i : Int), 0 ≤ i → i + d = l.length → d < k → laws_eqIntS.l0 k l l i = some true := by
  induction d with
  | zero =>
    intro k i h0 h1 hk
    obtain ⟨k, rfl⟩ : ∃ m, k = m + 1 := ⟨k - 1, by omega⟩
    simp only [laws_eqIntS.l0]
    rw [if_neg (by omega)]
  | succ d ih =>
    intro k i h0 h1 hk
    obtain ⟨k, rfl⟩ : ∃ m, k = m + 1 := ⟨k - 1, by omega⟩
    simp only [laws_eqIntS.l0]
    rw [if_pos (by omega), if_pos h0, if_pos (by omega), if_pos trivial, w_in (by omega) (by omega)]
    exact ih k (i + 1) (by omega) (by omega) (by omega)
theorem eqInt_ok {l : List Int} (hl : l.length ≤ 35184372088832) {k : Nat} (hk : l.length < k) : laws_eqIntS.f k l l = some true := by
  unfold laws_eqIntS.f
  rw [if_pos rfl]
  exact eqInt_loop l (by omega) l.length k 0 (by omega) (by omega) hk

/-- m, m + 1, .. -/
def seqF (m : Int) (n : Nat) : List Int := (List.range n).map fun (i : Nat) => m + (i : Int)
theorem seqF_len (m : Int) (n : Nat) : (seqF m n).length = n := by simp [seqF]
theorem seqF_succ (m : Int) (n : Nat) : seqF m (n + 1) = seqF m n ++ [m + n] := by simp [seqF, List.range_succ]
theorem seqF_rd (m : Int) (n : Nat) (i : Int) (h0 : 0 ≤ i) (h : i < n) : rd (seqF m n) i = m + i := by
  unfold rd seqF
  rw [List.getD_eq_getElem?_getD, List.getElem?_map, List.getElem?_range (by omega)]
  simp
  omega
theorem mark_loop (m : Int) (hm : 0 ≤ m) (hm2 : m ≤ 1000000000000) (d : Nat) : ∀ (k : Nat) (i : Int) (x : List Int), 0 ≤ i → i + d = x.length → x.length ≤ 1000000000000 → d < k → x.take i.toNat = seqF m i.toNat →
    laws_markIntS.l0 k x (m + i) i = some (m + x.length, seqF m x.length) := by
  induction d with
  | zero =>
    intro k i x h0 h1 hl hk ht
    obtain ⟨k, rfl⟩ : ∃ q, k = q + 1 := ⟨k - 1, by omega⟩
    simp only [laws_markIntS.l0]
    rw [if_neg (by omega)]
    rw [List.take_of_length_le (by omega)] at ht
    have e : i.toNat = x.length := by omega
    rw [e] at ht
    have e2 : i = x.length := by omega
    rw [← ht, ← e2]
  | succ d ih =>
    intro k i x h0 h1 hl hk ht
    obtain ⟨k, rfl⟩ : ∃ q, k = q + 1 := ⟨k - 1, by omega⟩
    simp only [laws_markIntS.l0]
    rw [if_pos (by omega), if_pos h0, w_in (n := i + 1) (by omega) (by omega), w_in (n := m + i + 1) (by omega) (by omega)]
    have e : (i + 1).toNat = i.toNat + 1 := by omega
    have hi : i.toNat < x.length := by omega
    have := ih k (i + 1) (x.set i.toNat (m + i)) (by omega) (by simp; omega) (by simpa using hl) (by omega) (by
      rw [e, List.take_succ_eq_append_getElem (by simpa using hi), List.getElem_set_self, List.take_set_of_le (Nat.le_refl _), ht, seqF_succ]
      congr 2
      omega)
    rw [show m + (i + 1) = m + i + 1 by omega] at this
    simpa using this
theorem mark_ok {l : List Int} {m : Int} (hm : 0 ≤ m) (hm2 : m ≤ 1000000000000) (hl : l.length ≤ 1000000000000) {k : Nat} (hk : l.length < k) : laws_markIntS.f k l m = some (m + l.length, seqF m l.length) := by
  unfold laws_markIntS.f
  have := mark_loop m hm hm2 l.length k 0 l (by omega) (by omega) hl hk (by simp [seqF])
  simpa using this
theorem held_loop (m : Int) (n : Nat) (hm : 0 ≤ m) (hm2 : m ≤ 1000000000000) (hl : n ≤ 1000000000000) (d : Nat) : ∀ (k : Nat) (i : Int), 0 ≤ i → i + d = n → d < k →
    laws_heldIntS.l0 k (seqF m n) (m + i) i = some (m + n) := by
  induction d with
  | zero =>
    intro k i h0 h1 hk
    obtain ⟨k, rfl⟩ : ∃ q, k = q + 1 := ⟨k - 1, by omega⟩
    simp only [laws_heldIntS.l0]
    rw [if_neg (by rw [seqF_len]; omega), show i = (n : Int) by omega]
  | succ d ih =>
    intro k i h0 h1 hk
    obtain ⟨k, rfl⟩ : ∃ q, k = q + 1 := ⟨k - 1, by omega⟩
    simp only [laws_heldIntS.l0]
    rw [if_pos (by rw [seqF_len]; omega), if_pos h0, if_pos (seqF_rd m n i h0 (by omega)), w_in (n := i + 1) (by omega) (by omega), w_in (n := m + i + 1) (by omega) (by omega), show m + i + 1 = m + (i + 1) by omega]
    exact ih k (i + 1) (by omega) (by omega) (by omega)
theorem held_ok {m : Int} {n : Nat} (hm : 0 ≤ m) (hm2 : m ≤ 1000000000000) (hl : n ≤ 1000000000000) {k : Nat} (hk : n < k) : laws_heldIntS.f k (seqF m n) m = some (m + n) := by
  unfold laws_heldIntS.f
  have := held_loop m n hm hm2 hl n k 0 (by omega) (by omega) hk
  simpa using this

def told (x : Int) : Bool := decide (0 ≤ x ∧ x ≤ 999)
theorem spec_seqs_loop (l : List Int) (most : Int) (hl : l.length ≤ 9223372036854775806) (d : Nat) : ∀ (k : Nat) (i : Int), 0 ≤ i → i + d = l.length → d < k →
    spec_l17Seqs.l0 k l most i = some ((l.drop i.toNat).all told && decide ((l.length : Int) ≤ most)) := by
  induction d with
  | zero =>
    intro k i h0 h1 hk
    obtain ⟨k, rfl⟩ : ∃ m, k = m + 1 := ⟨k - 1, by omega⟩
    simp only [spec_l17Seqs.l0]
    rw [if_neg (by omega), List.drop_eq_nil_of_le (by omega)]
    simp
  | succ d ih =>
    intro k i h0 h1 hk
    obtain ⟨k, rfl⟩ : ∃ m, k = m + 1 := ⟨k - 1, by omega⟩
    rw [rd_at h0 (by omega)]
    simp only [spec_l17Seqs.l0, s_in, Option.bind_some]
    rw [if_pos (by omega), if_pos h0, w_in (n := i + 1) (by omega) (by omega), ih k (i + 1) (by omega) (by omega) (by omega)]
    simp only [List.all_cons]
    rw [show decide (0 ≤ rd l i ∧ rd l i ≤ 999) = told (rd l i) from rfl]
    by_cases hc : told (rd l i) = true
    · rw [if_pos hc, hc]; simp
    · rw [if_neg hc]; simp [hc]
theorem spec_seqs {l : List Int} {most : Int} (hl : l.length ≤ 9223372036854775806) {k : Nat} (hk : l.length < k) : spec_l17Seqs.f k l most = some (l.all told && decide ((l.length : Int) ≤ most)) := by
  unfold spec_l17Seqs.f
  rw [spec_seqs_loop l most hl l.length k 0 (by omega) (by omega) hk]
  simp
theorem impl_told (x : Int) : impl_isTold.f x = some (told x) := by
  unfold impl_isTold.f told
  rw [i_in]
  rfl
theorem all_told (l : List Int) : all_impl_isTold.f l = some (l.all told) := by
  unfold all_impl_isTold.f
  exact allO_total (q := told) l (fun x _ => impl_told x)

theorem has_loop (l : List Int) (v : Int) (hl : l.length ≤ 9223372036854775806) (d : Nat) : ∀ (k : Nat) (i : Int), 0 ≤ i → i + d = l.length → d < k →
    spec_l10Has.l0 k l v i = some ((l.drop i.toNat).contains v) := by
  induction d with
  | zero =>
    intro k i h0 h1 hk
    obtain ⟨k, rfl⟩ : ∃ m, k = m + 1 := ⟨k - 1, by omega⟩
    simp only [spec_l10Has.l0]
    rw [if_neg (by omega), List.drop_eq_nil_of_le (by omega)]
    rfl
  | succ d ih =>
    intro k i h0 h1 hk
    obtain ⟨k, rfl⟩ : ∃ m, k = m + 1 := ⟨k - 1, by omega⟩
    rw [rd_at h0 (by omega)]
    simp only [spec_l10Has.l0]
    rw [if_pos (by omega), if_pos h0, w_in (n := i + 1) (by omega) (by omega), ih k (i + 1) (by omega) (by omega) (by omega), List.contains_cons]
    by_cases e : rd l i = v
    · rw [if_pos e, e]; simp
    · rw [if_neg e]
      have : (v == rd l i) = false := by simp; exact fun h => e h.symm
      simp [this]
theorem has_ok {l : List Int} {v : Int} (hl : l.length ≤ 9223372036854775806) {k : Nat} (hk : l.length < k) : spec_l10Has.f k l v = some (l.contains v) := by
  unfold spec_l10Has.f
  rw [has_loop l v hl l.length k 0 (by omega) (by omega) hk]
  simp

/-- Which frames are taken, from i on. -/
def tkf (l : List Int) : List Int → List Int → Int → Nat → List Int
  | o, _, _, 0 => o
  | o, m, i, d + 1 => if m.contains (rd l i) = true then tkf l o m (i + 1) d else tkf l (o ++ [i]) ((m ++ [rd l i]).drop ((m ++ [rd l i]).length - 8)) (i + 1) d
theorem tkf_len (l : List Int) : ∀ (d : Nat) (o m : List Int) (i : Int), (tkf l o m i d).length ≤ o.length + d
  | 0, o, m, i => by simp [tkf]
  | d + 1, o, m, i => by
    simp only [tkf]
    split
    · have := tkf_len l d o m (i + 1); omega
    · refine Nat.le_trans (tkf_len l d _ _ _) ?_
      simp
      omega
theorem spec_taken_loop (l : List Int) (hl : l.length ≤ 60) (d : Nat) : ∀ (k : Nat) (o m : List Int) (i : Int), 0 ≤ i → i + d = l.length → d + 10 < k → m.length ≤ 8 → o.length ≤ i →
    spec_TwinsTaken.l0 k l o m i = some (tkf l o m i d) := by
  induction d with
  | zero =>
    intro k o m i h0 h1 hk hm ho
    obtain ⟨k, rfl⟩ : ∃ q, k = q + 1 := ⟨k - 1, by omega⟩
    simp only [spec_TwinsTaken.l0]
    rw [if_neg (by omega)]
    rfl
  | succ d ih =>
    intro k o m i h0 h1 hk hm ho
    obtain ⟨k, rfl⟩ : ∃ q, k = q + 1 := ⟨k - 1, by omega⟩
    simp only [spec_TwinsTaken.l0]
    rw [if_pos (by omega), if_pos h0, has_ok (by omega) (by omega), w_in (n := i + 1) (by omega) (by omega)]
    simp only [Option.bind_some, tkf]
    by_cases c : m.contains (rd l i) = true
    · rw [if_pos c, if_pos c]
      exact ih k o m (i + 1) (by omega) (by omega) (by omega) hm (by omega)
    · rw [if_neg c, if_neg c, if_pos (by omega), if_pos (by omega)]
      by_cases h8 : ((m ++ [rd l i]).length : Int) > 8
      · rw [if_pos h8, if_pos (by omega)]
        have e : (m ++ [rd l i]).length - 8 = 1 := by simp at h8 ⊢; omega
        rw [e]
        exact ih k _ _ (i + 1) (by omega) (by omega) (by omega) (by simp; omega) (by simp; omega)
      · rw [if_neg h8]
        have e : (m ++ [rd l i]).length - 8 = 0 := by simp at h8 ⊢; omega
        rw [e, List.drop_zero]
        exact ih k _ _ (i + 1) (by omega) (by omega) (by omega) (by simp at h8 ⊢; omega) (by simp; omega)
theorem impl_taken_loop (l : List Int) (hl : l.length ≤ 60) (d : Nat) : ∀ (k : Nat) (o m : List Int) (i : Int), 0 ≤ i → i + d = l.length → d + 10 < k → m.length ≤ 8 → o.length ≤ i →
    impl_TwinsTaken.l0 k o m l (l.length : Int) i = some (tkf l o m i d) := by
  induction d with
  | zero =>
    intro k o m i h0 h1 hk hm ho
    obtain ⟨k, rfl⟩ : ∃ q, k = q + 1 := ⟨k - 1, by omega⟩
    simp only [impl_TwinsTaken.l0]
    rw [if_neg (by omega)]
    rfl
  | succ d ih =>
    intro k o m i h0 h1 hk hm ho
    obtain ⟨k, rfl⟩ : ∃ q, k = q + 1 := ⟨k - 1, by omega⟩
    simp only [impl_TwinsTaken.l0]
    rw [if_pos (by omega), if_pos h0, if_pos (by omega), contains_ok (by omega) (by omega), w_in (n := i + 1) (by omega) (by omega)]
    simp only [Option.bind_some, tkf]
    by_cases c : m.contains (rd l i) = true
    · rw [if_pos c, if_pos c]
      exact ih k o m (i + 1) (by omega) (by omega) (by omega) hm (by omega)
    · rw [if_neg c, if_neg c, if_pos (by omega), if_pos (by omega)]
      have hlen : (m ++ [rd l i]).length = m.length + 1 := by simp
      have e : mx 0 (wrap64 (((m ++ [rd l i]).length : Int) - 8)) = (((m ++ [rd l i]).length - 8 : Nat) : Int) := by
        rw [w_in (by omega) (by omega)]
        unfold mx
        split <;> omega
      rw [e, if_pos (by omega), if_pos (by omega), Int.toNat_natCast]
      exact ih k _ _ (i + 1) (by omega) (by omega) (by omega) (by simp; omega) (by simp; omega)
def tkn (l : List Int) : List Int := if l.length ≤ 60 ∧ l.all told = true then tkf l [] [] 0 l.length else []
theorem tkn_len (l : List Int) : (tkn l).length ≤ 60 := by
  unfold tkn
  split
  · rename_i h
    have := tkf_len l l.length [] [] 0
    simp at this
    omega
  · simp
theorem spec_taken {l : List Int} (hl : l.length ≤ 9223372036854775806) {k : Nat} (hk : l.length + 100 < k) : spec_TwinsTaken.f k l = some (tkn l) := by
  unfold spec_TwinsTaken.f tkn
  simp only [Option.bind_some]
  rw [spec_seqs hl (by omega)]
  simp only [Option.bind_some]
  by_cases h1 : l.all told = true
  · by_cases h2 : l.length ≤ 60
    · have h2' : (l.length : Int) ≤ 60 := by omega
      rw [if_pos (by simp [h1, h2']), if_pos ⟨h2, h1⟩]
      exact spec_taken_loop l h2 l.length k [] [] 0 (by omega) (by omega) (by omega) (by simp) (by simp)
    · rw [if_neg (by simp; omega), if_neg (by omega)]
  · rw [if_neg (by simp [h1]), if_neg (fun h => h1 h.2)]
theorem impl_taken {l : List Int} {k : Nat} (hk : l.length + 100 < k) : impl_TwinsTaken.f k l = some (tkn l) := by
  obtain ⟨k, rfl⟩ : ∃ q, k = q + 1 := ⟨k - 1, by omega⟩
  unfold impl_TwinsTaken.f tkn
  rw [all_told]
  simp only [Option.bind_some, impl_TwinsTaken.j0]
  by_cases h2 : l.length ≤ 60
  · rw [if_neg (by omega)]
    by_cases h1 : l.all told = true
    · rw [if_neg (by simp [h1]), if_pos ⟨h2, h1⟩]
      exact impl_taken_loop l h2 l.length k [] [] 0 (by omega) (by omega) (by omega) (by simp) (by simp)
    · rw [if_pos (by simpa using h1), if_neg (fun h => h1 h.2)]
  · rw [if_pos (by omega), if_pos trivial, if_neg (fun h => h2 h.1)]

theorem FnExactTwinsTaken : laws_FnExactTwinsTaken.Pure := by
  intro l _ _ _
  refine ⟨l.length + 1000, ?_⟩
  unfold laws_FnExactTwinsTaken.f
  by_cases h0 : (l.length : Int) > 1048576
  · rw [if_pos h0]
  rw [if_neg h0]
  have lo := tkn_len l
  have K : ∀ k, l.length + 900 ≤ k → laws_toIntS.f k l = some l ∧ spec_TwinsTaken.f k l = some (tkn l) ∧ impl_TwinsTaken.f k l = some (tkn l) ∧ laws_eqIntS.f k (tkn l) (tkn l) = some true ∧ laws_eqIntS.f k l l = some true ∧ laws_markIntS.f k (tkn l) 1 = some (1 + ((tkn l).length : Int), seqF 1 (tkn l).length) ∧ laws_heldIntS.f k (seqF 1 (tkn l).length) 1 = some (1 + ((tkn l).length : Int)) := fun k hk =>
    ⟨toInt_ok (by omega) (by omega), spec_taken (by omega) (by omega), impl_taken (by omega), eqInt_ok (by omega) (by omega), eqInt_ok (by omega) (by omega), mark_ok (by omega) (by omega) (by omega) (by omega), held_ok (by omega) (by omega) (by omega) (by omega)⟩
  obtain ⟨e1, e2, e3, e4, e5, e6, e7⟩ := K (l.length + 1000) (by omega)
  simp only [e1, e2, e3, e4, e5, Option.bind_some, if_true]
  rw [mark_ok (l := l) (m := 1) (by omega) (by omega) (by omega) (by omega)]
  simp only [Option.bind_some]
  rw [if_neg (by omega)]
  rw [show l.length + 1000 = (l.length + 999) + 1 by omega]
  simp only [laws_FnExactTwinsTaken.j0]
  obtain ⟨e1, e2, e3, e4, e5, e6, e7⟩ := K (l.length + 999) (by omega)
  simp only [e1, e3, e4, e6, e7, Option.bind_some, if_true]
  rw [if_neg (by decide), if_neg (by omega), if_neg (by omega)]


end Go.Proofs.Ytfdcglkmacinmaa.Pure
