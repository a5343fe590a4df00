/- What both sides of FnExactStrictOrder compute, in plain Lean. -/
import Derived.Test.YtnjghnpfapoecaaPFnExactStrictOrderx5
import Derived.Laws.BitsLemmas
import Derived.OpenShut
namespace Go.Proofs.Ytnjghnpfapoecaa.Pure
open Go.RowKit Go.Proofs.Ytnjghnpfapoecaa.PFnExactStrictOrder Go.Proofs.YtnjghnpfapoecaaW.PrintWords Go.Proofs.YtnjghnpfapoecaaW.PrintLast

theorem w_in {n : Int} (h0 : -9223372036854775808 ≤ n) (h1 : n ≤ 9223372036854775807) : wrap64 n = n := by unfold wrap64; omega

theorem bs {α β : Type} {x : Option α} {a : α} {f : α → Option β} (h : x = some a) : x.bind f = f a := by rw [h]; rfl
theorem allO_total {α : Type} {p : α → Option Bool} {q : α → Bool} : ∀ (l : List α), (∀ x ∈ l, p x = some (q x)) → allO p l = some (l.all q)
  | [], _ => rfl
  | x :: xs, h => by
    have ih := allO_total xs (fun y hy => h y (List.mem_cons_of_mem _ hy))
    simp only [allO, h x (List.mem_cons_self), Option.bind_some, List.all_cons]
    cases q x
    · simp
    · simpa using ih

theorem rd_at {l : List Int} {i : Int} (h0 : 0 ≤ i) (h : i.toNat < l.length) : l.drop i.toNat = rd l i :: l.drop (i + 1).toNat := by
  rw [List.drop_eq_getElem_cons h, show (i + 1).toNat = i.toNat + 1 by omega]
  unfold rd
  rw [List.getD_eq_getElem?_getD, List.getElem?_eq_getElem h]
  rfl
theorem rd_mem {l : List Int} {i : Int} (h0 : 0 ≤ i) (h : i < l.length) : rd l i ∈ l := by
  unfold rd
  rw [List.getD_eq_getElem?_getD, List.getElem?_eq_getElem (by omega)]
  exact List.getElem_mem _

theorem s_in (a b c : Int) : spec_l1In.f a b c = some (decide (b ≤ a ∧ a ≤ c)) := by
  unfold spec_l1In.f
  by_cases h : b ≤ a <;> simp [h]
theorem i_in (a b c : Int) : impl_within.f a b c = some (decide (b ≤ a ∧ a ≤ c)) := by
  unfold impl_within.f
  by_cases h : b ≤ a <;> simp [h]
theorem toInt_loop (l : List Int) (hl : l.length ≤ 9223372036854775806) (d : Nat) : ∀ (k : Nat) (i : Int) (x : List Int), 0 ≤ i → i + d = l.length → d < k → x.length = l.length → x.take i.toNat = l.take i.toNat →
    laws_toIntS.l0 k l x i = some l := by
  induction d with
  | zero =>
    intro k i x h0 h1 hk hx ht
    obtain ⟨k, rfl⟩ : ∃ m, k = m + 1 := ⟨k - 1, by omega⟩
    simp only [laws_toIntS.l0]
    rw [if_neg (by omega)]
    rw [List.take_of_length_le (by omega), List.take_of_length_le (by omega)] at ht
    rw [ht]
  | succ d ih =>
    intro k i x h0 h1 hk hx ht
    obtain ⟨k, rfl⟩ : ∃ m, k = m + 1 := ⟨k - 1, by omega⟩
    simp only [laws_toIntS.l0]
    rw [if_pos (by omega), if_pos h0, if_pos (by omega), w_in (by omega) (by omega)]
    refine ih k (i + 1) _ (by omega) (by omega) (by omega) (by simpa using hx) ?_
    have e : (i + 1).toNat = i.toNat + 1 := by omega
    have hi : i.toNat < l.length := by omega
    rw [e, List.take_succ_eq_append_getElem (by simpa [hx] using hi), List.take_succ_eq_append_getElem hi, List.getElem_set_self, List.take_set_of_le (Nat.le_refl _), ht]
    congr 2
    unfold rd
    rw [List.getD_eq_getElem?_getD, List.getElem?_eq_getElem hi]
    rfl
theorem toInt_ok {l : List Int} (hl : l.length ≤ 35184372088832) {k : Nat} (hk : l.length < k) : laws_toIntS.f k l = some l := by
  unfold laws_toIntS.f
  rw [if_pos (by omega), if_pos (by omega)]
  exact toInt_loop l (by omega) l.length k 0 _ (by omega) (by omega) hk (by simp) (by simp)

theorem eqInt_loop (l : List Int) (hl : l.length ≤ 9223372036854775806) (d : Nat) : ∀ (k : Nat) (i : Int), 0 ≤ i → i + d = l.length → d < k → laws_eqIntS.l0 k l l i = some true := by
  induction d with
  | zero =>
    intro k i h0 h1 hk
    obtain ⟨k, rfl⟩ : ∃ m, k = m + 1 := ⟨k - 1, by omega⟩
    simp only [laws_eqIntS.l0]
    rw [if_neg (by omega)]
  | succ d ih =>
    intro k i h0 h1 hk
    obtain ⟨k, rfl⟩ : ∃ m, k = m + 1 := ⟨k - 1, by omega⟩
    simp only [laws_eqIntS.l0]
    rw [if_pos (by omega), if_pos h0, if_pos (by omega), if_pos trivial, w_in (by omega) (by omega)]
    exact ih k (i + 1) (by omega) (by omega) (by omega)
theorem eqInt_ok {l : List Int} (hl : l.length ≤ 35184372088832) {k : Nat} (hk : l.length < k) : laws_eqIntS.f k l l = some true := by
  unfold laws_eqIntS.f
  rw [if_pos rfl]
  exact eqInt_loop l (by omega) l.length k 0 (by omega) (by omega) hk

/-- m, m + 1, .. -/
def seqF (m : Int) (n : Nat) : List Int := (List.range n).map fun (i : Nat) => m + (i : Int)
theorem seqF_len (m : Int) (n : Nat) : (seqF m n).length = n := by simp [seqF]
theorem seqF_succ (m : Int) (n : Nat) : seqF m (n + 1) = seqF m n ++ [m + n] := by simp [seqF, List.range_succ]
theorem seqF_rd (m : Int) (n : Nat) (i : Int) (h0 : 0 ≤ i) (h : i < n) : rd (seqF m n) i = m + i := by
  unfold rd seqF
  rw [List.getD_eq_getElem?_getD, List.getElem?_map, List.getElem?_range (by omega)]
  simp
  omega
theorem mark_loop (m : Int) (hm : 0 ≤ m) (hm2 : m ≤ 1000000000000) (d : Nat) : ∀ (k : Nat) (i : Int) (x : List Int), 0 ≤ i → i + d = x.length → x.length ≤ 1000000000000 → d < k → x.take i.toNat = seqF m i.toNat →
    laws_markIntS.l0 k x (m + i) i = some (m + x.length, seqF m x.length) := by
  induction d with
  | zero =>
    intro k i x h0 h1 hl hk ht
    obtain ⟨k, rfl⟩ : ∃ q, k = q + 1 := ⟨k - 1, by omega⟩
    simp only [laws_markIntS.l0]
    rw [if_neg (by omega)]
    rw [List.take_of_length_le (by omega)] at ht
    have e : i.toNat = x.length := by omega
    rw [e] at ht
    have e2 : i = x.length := by omega
    rw [← ht, ← e2]
  | succ d ih =>
    intro k i x h0 h1 hl hk ht
    obtain ⟨k, rfl⟩ : ∃ q, k = q + 1 := ⟨k - 1, by omega⟩
    simp only [laws_markIntS.l0]
    rw [if_pos (by omega), if_pos h0, w_in (n := i + 1) (by omega) (by omega), w_in (n := m + i + 1) (by omega) (by omega)]
    have e : (i + 1).toNat = i.toNat + 1 := by omega
    have hi : i.toNat < x.length := by omega
    have := ih k (i + 1) (x.set i.toNat (m + i)) (by omega) (by simp; omega) (by simpa using hl) (by omega) (by
      rw [e, List.take_succ_eq_append_getElem (by simpa using hi), List.getElem_set_self, List.take_set_of_le (Nat.le_refl _), ht, seqF_succ]
      congr 2
      omega)
    rw [show m + (i + 1) = m + i + 1 by omega] at this
    simpa using this
theorem mark_ok {l : List Int} {m : Int} (hm : 0 ≤ m) (hm2 : m ≤ 1000000000000) (hl : l.length ≤ 1000000000000) {k : Nat} (hk : l.length < k) : laws_markIntS.f k l m = some (m + l.length, seqF m l.length) := by
  unfold laws_markIntS.f
  have := mark_loop m hm hm2 l.length k 0 l (by omega) (by omega) hl hk (by simp [seqF])
  simpa using this
theorem held_loop (m : Int) (n : Nat) (hm : 0 ≤ m) (hm2 : m ≤ 1000000000000) (hl : n ≤ 1000000000000) (d : Nat) : ∀ (k : Nat) (i : Int), 0 ≤ i → i + d = n → d < k →
    laws_heldIntS.l0 k (seqF m n) (m + i) i = some (m + n) := by
  induction d with
  | zero =>
    intro k i h0 h1 hk
    obtain ⟨k, rfl⟩ : ∃ q, k = q + 1 := ⟨k - 1, by omega⟩
    simp only [laws_heldIntS.l0]
    rw [if_neg (by rw [seqF_len]; omega), show i = (n : Int) by omega]
  | succ d ih =>
    intro k i h0 h1 hk
    obtain ⟨k, rfl⟩ : ∃ q, k = q + 1 := ⟨k - 1, by omega⟩
    simp only [laws_heldIntS.l0]
    rw [if_pos (by rw [seqF_len]; omega), if_pos h0, if_pos (seqF_rd m n i h0 (by omega)), w_in (n := i + 1) (by omega) (by omega), w_in (n := m + i + 1) (by omega) (by omega), show m + i + 1 = m + (i + 1) by omega]
    exact ih k (i + 1) (by omega) (by omega) (by omega)
theorem held_ok {m : Int} {n : Nat} (hm : 0 ≤ m) (hm2 : m ≤ 1000000000000) (hl : n ≤ 1000000000000) {k : Nat} (hk : n < k) : laws_heldIntS.f k (seqF m n) m = some (m + n) := by
  unfold laws_heldIntS.f
  have := held_loop m n hm hm2 hl n k 0 (by omega) (by omega) hk
  simpa using this

/-- A job's class is one of m, and it has a size. -/
def jok (m : Int) (x : S41) : Bool := decide (0 ≤ x.f0 ∧ x.f0 ≤ m - 1) && decide (1 ≤ x.f1 ∧ x.f1 ≤ 9)
def wbit (x : Int) : Bool := decide (1 ≤ x ∧ x ≤ 9)
/-- Are these weights and jobs? -/
def jv (W : List Int) (J : List S41) : Bool := decide (1 ≤ W.length ∧ W.length ≤ 4) && W.all wbit && decide (J.length ≤ 60) && J.all (jok (W.length : Int))
theorem impl_jv {W : List Int} {J : List S41} (hW : W.length ≤ 1000000000000) : impl_JobsValid.f W J = some (jv W J) := by
  unfold impl_JobsValid.f impl_weightsOk.f all_impl_weightsOk_1.f
  have e1 : allO (fun x => impl_weightsOk_1.f x) W = some (W.all wbit) := allO_total (q := wbit) W (fun x _ => by
    unfold impl_weightsOk_1.f wbit
    rw [i_in, bs rfl])
  have e2 : allO (impl_JobsValid.p (W.length : Int)) J = some (J.all (jok (W.length : Int))) := allO_total (q := jok (W.length : Int)) J (fun x _ => by
    unfold impl_JobsValid.p jok
    rw [w_in (n := (W.length : Int) - 1) (by omega) (by omega), i_in, bs rfl, i_in]
    generalize decide (0 ≤ x.f0 ∧ x.f0 ≤ (W.length : Int) - 1) = b
    cases b <;> simp)
  rw [i_in, e1, e2]
  unfold jv
  have e3 : decide ((1 : Int) ≤ (W.length : Int) ∧ (W.length : Int) ≤ 4) = decide (1 ≤ W.length ∧ W.length ≤ 4) := by
    rw [Bool.eq_iff_iff]
    simp only [decide_eq_true_eq]
    omega
  rw [e3]
  generalize decide (1 ≤ W.length ∧ W.length ≤ 4) = b1
  generalize W.all wbit = b2
  by_cases h : J.length ≤ 60
  · have h2 : (J.length : Int) ≤ 60 := by omega
    rw [decide_eq_true h]
    simp only [h2, if_true]
    cases b1 <;> cases b2 <;> simp
  · have h2 : ¬ (J.length : Int) ≤ 60 := by omega
    rw [decide_eq_false h]
    simp only [h2, if_false]
    cases b1 <;> cases b2 <;> simp
theorem spec_w_loop {W : List Int} (hW : W.length ≤ 1000000000000) (d : Nat) : ∀ (k : Nat) (i : Int), 0 ≤ i → i + d = W.length → d < k → spec_l12Weights.l0 k W i = some ((W.drop i.toNat).all wbit && decide (1 ≤ W.length ∧ W.length ≤ 4)) := by
  induction d with
  | zero =>
    intro k i h0 h1 hk
    obtain ⟨k, rfl⟩ : ∃ q, k = q + 1 := ⟨k - 1, by omega⟩
    simp only [spec_l12Weights.l0]
    rw [if_neg (by omega), s_in, bs rfl, List.drop_of_length_le (by omega)]
    congr 1
    rw [Bool.eq_iff_iff]
    simp
    omega
  | succ d ih =>
    intro k i h0 h1 hk
    obtain ⟨k, rfl⟩ : ∃ q, k = q + 1 := ⟨k - 1, by omega⟩
    simp only [spec_l12Weights.l0]
    rw [if_pos (by omega), if_pos h0, s_in, bs rfl, w_in (by omega) (by omega), ih k (i + 1) (by omega) (by omega) (by omega), rd_at h0 (by omega), List.all_cons]
    unfold wbit
    generalize decide (1 ≤ rd W i ∧ rd W i ≤ 9) = b
    cases b <;> simp
theorem dropT {J : List S41} {i : Int} (h0 : 0 ≤ i) (h : i < J.length) : J.drop i.toNat = rd_T41 J i :: J.drop (i + 1).toNat := by
  rw [List.drop_eq_getElem_cons (show i.toNat < J.length by omega), show (i + 1).toNat = i.toNat + 1 by omega]
  unfold rd_T41
  rw [List.getD_eq_getElem?_getD, List.getElem?_eq_getElem (by omega)]
  rfl
theorem spec_jv_loop {W : List Int} {J : List S41} (hW : W.length ≤ 1000000000000) (hJ : J.length ≤ 1000000000000) (d : Nat) : ∀ (k : Nat) (i : Int), 0 ≤ i → i + d = J.length → d + W.length + 1 < k → spec_JobsValid.l0 k W J i = some ((J.drop i.toNat).all (jok (W.length : Int)) && (W.all wbit && decide (1 ≤ W.length ∧ W.length ≤ 4) && decide (J.length ≤ 60))) := by
  induction d with
  | zero =>
    intro k i h0 h1 hk
    obtain ⟨k, rfl⟩ : ∃ q, k = q + 1 := ⟨k - 1, by omega⟩
    simp only [spec_JobsValid.l0]
    have e := spec_w_loop hW W.length k 0 (by omega) (by omega) (by omega)
    rw [if_neg (by omega), show spec_l12Weights.f k W = _ from e, bs rfl, List.drop_of_length_le (show J.length ≤ i.toNat by omega), show (0 : Int).toNat = 0 from rfl, List.drop_zero]
    generalize (W.all wbit && decide (1 ≤ W.length ∧ W.length ≤ 4)) = b
    cases b <;> simp <;> omega
  | succ d ih =>
    intro k i h0 h1 hk
    obtain ⟨k, rfl⟩ : ∃ q, k = q + 1 := ⟨k - 1, by omega⟩
    simp only [spec_JobsValid.l0]
    rw [if_pos (by omega), if_pos h0, w_in (n := (W.length : Int) - 1) (by omega) (by omega), s_in, bs rfl, s_in, w_in (by omega) (by omega), ih k (i + 1) (by omega) (by omega) (by omega), dropT h0 (by omega), List.all_cons, bs rfl]
    generalize (W.all wbit && decide (1 ≤ W.length ∧ W.length ≤ 4) && decide (J.length ≤ 60)) = b3
    generalize (J.drop (i + 1).toNat).all (jok (W.length : Int)) = b4
    unfold jok
    generalize decide (0 ≤ (rd_T41 J i).f0 ∧ (rd_T41 J i).f0 ≤ (W.length : Int) - 1) = b1
    generalize decide (1 ≤ (rd_T41 J i).f1 ∧ (rd_T41 J i).f1 ≤ 9) = b2
    cases b1 <;> cases b2 <;> cases b3 <;> cases b4 <;> rfl
theorem spec_jv {W : List Int} {J : List S41} (hW : W.length ≤ 1000000000000) (hJ : J.length ≤ 1000000000000) {k : Nat} (hk : J.length + W.length + 1 < k) : spec_JobsValid.f k W J = some (jv W J) := by
  have e := spec_jv_loop hW hJ J.length k 0 (by omega) (by omega) (by omega)
  rw [show spec_JobsValid.f k W J = _ from e]
  unfold jv
  rw [show (0 : Int).toNat = 0 from rfl, List.drop_zero]
  generalize J.all (jok (W.length : Int)) = b1
  generalize W.all wbit = b2
  generalize decide (1 ≤ W.length ∧ W.length ≤ 4) = b3
  generalize decide (J.length ≤ 60) = b4
  cases b1 <;> cases b2 <;> cases b3 <;> cases b4 <;> rfl
theorem jv_at {W : List Int} {J : List S41} (h : jv W J = true) : 1 ≤ W.length ∧ W.length ≤ 4 ∧ (∀ x ∈ W, 1 ≤ x ∧ x ≤ 9) ∧ J.length ≤ 60 ∧ ∀ x ∈ J, (0 ≤ x.f0 ∧ x.f0 < (W.length : Int)) ∧ 1 ≤ x.f1 ∧ x.f1 ≤ 9 := by
  unfold jv jok at h
  simp only [Bool.and_eq_true, decide_eq_true_eq, List.all_eq_true, wbit] at h
  obtain ⟨⟨⟨h1, h2⟩, h3⟩, h4⟩ := h
  refine ⟨h1.1, h1.2, fun x hx => h2 x hx, h3, fun x hx => ?_⟩
  have := h4 x hx
  omega
/-- Which jobs of a class are left, from place i on. -/
def flt : List S41 → List Bool → Int → Int → List Int
  | x :: J, d :: D, c, i => if x.f0 = c ∧ d = false then i :: flt J D c (i + 1) else flt J D c (i + 1)
  | [], _, _, _ => []
  | _ :: _, [], _, _ => []
def cntF : List Bool → Nat
  | [] => 0
  | b :: l => (if b = false then 1 else 0) + cntF l
theorem cntF_rep : ∀ n, cntF (List.replicate n false) = n
  | 0 => rfl
  | n + 1 => by
    rw [List.replicate_succ]
    simp only [cntF]
    rw [cntF_rep n]
    simp
    omega
theorem cntF_set : ∀ (D : List Bool) (j : Nat), D[j]? = some false → cntF (D.set j true) + 1 = cntF D
  | [], _, h => by simp at h
  | b :: D, 0, h => by
    simp at h
    subst h
    simp only [List.set_cons_zero, cntF]
    simp
    omega
  | b :: D, j + 1, h => by
    have := cntF_set D j (by simpa using h)
    simp only [List.set_cons_succ, cntF]
    omega
theorem flt_hit : ∀ (J : List S41) (D : List Bool) (c i t : Int) (r : List Int), flt J D c i = t :: r → i ≤ t ∧ t < i + (J.length : Int) ∧ (∃ x, J[(t - i).toNat]? = some x ∧ x.f0 = c) ∧ D[(t - i).toNat]? = some false ∧ flt J (D.set (t - i).toNat true) c i = r ∧ ∀ c', c' ≠ c → flt J (D.set (t - i).toNat true) c' i = flt J D c' i
  | [], _, c, i, t, r, h => by simp [flt] at h
  | x :: J, [], c, i, t, r, h => by simp [flt] at h
  | x :: J, d :: D, c, i, t, r, h => by
    simp only [flt] at h
    by_cases hc : x.f0 = c ∧ d = false
    · rw [if_pos hc] at h
      injection h with h1 h2
      subst h1
      obtain ⟨hx, rfl⟩ := hc
      rw [show (i - i).toNat = 0 by omega]
      refine ⟨by omega, by rw [List.length_cons]; push_cast; omega, ⟨x, rfl, hx⟩, rfl, ?_, fun c' hc' => ?_⟩
      · simp only [List.set_cons_zero, flt]
        rw [if_neg (by simp), h2]
      · simp only [List.set_cons_zero, flt]
        rw [if_neg (by simp), if_neg (by rw [hx]; exact fun h => hc' h.1.symm)]
    · rw [if_neg hc] at h
      obtain ⟨g1, g2, g3, g4, g5, g6⟩ := flt_hit J D c (i + 1) t r h
      have e : (t - i).toNat = (t - (i + 1)).toNat + 1 := by omega
      rw [e]
      refine ⟨by omega, by rw [List.length_cons]; push_cast; omega, ?_, ?_, ?_, fun c' hc' => ?_⟩
      · simpa using g3
      · simpa using g4
      · simp only [List.set_cons_succ, flt]
        rw [if_neg hc, g5]
      · simp only [List.set_cons_succ, flt]
        rw [g6 c' hc']
theorem flt_some : ∀ (J : List S41) (D : List Bool) (m i : Int), D.length = J.length → (∀ x ∈ J, 0 ≤ x.f0 ∧ x.f0 < m) → 0 < cntF D → ∃ c, 0 ≤ c ∧ c < m ∧ flt J D c i ≠ []
  | [], [], _, _, _, _, h => by simp [cntF] at h
  | [], _ :: _, _, _, hl, _, _ => by simp at hl
  | _ :: _, [], _, _, hl, _, _ => by simp at hl
  | x :: J, d :: D, m, i, hl, hx, h => by
    by_cases hd : d = false
    · have := hx x (by simp)
      refine ⟨x.f0, this.1, this.2, ?_⟩
      unfold flt
      rw [if_pos ⟨rfl, hd⟩]
      simp
    · simp only [cntF] at h
      rw [if_neg hd] at h
      obtain ⟨c, h0, h1, h2⟩ := flt_some J D m (i + 1) (by simpa using hl) (fun y hy => hx y (by simp [hy])) (by omega)
      refine ⟨c, h0, h1, ?_⟩
      simp only [flt]
      rw [if_neg (fun h => hd h.2)]
      exact h2
theorem gd_set {α : Type} {A : List α} {z v : α} {i j : Int} (hj : 0 ≤ j) (hi : 0 ≤ i) (hl : j < A.length) : (A.set j.toNat v).getD i.toNat z = if i = j then v else A.getD i.toNat z := by
  rw [List.getD_eq_getElem?_getD, List.getD_eq_getElem?_getD, List.getElem?_set]
  by_cases e : i = j
  · subst e
    rw [if_pos rfl, if_pos (by omega), if_pos rfl]
    rfl
  · rw [if_neg (by omega), if_neg e]
theorem rdT_get {J : List S41} {t : Int} {x : S41} (h : J[t.toNat]? = some x) : rd_T41 J t = x := by
  unfold rd_T41
  rw [List.getD_eq_getElem?_getD, h]
  rfl
theorem flt_snoc : ∀ (J : List S41) (D : List Bool) (x : S41) (c i : Int), D.length = J.length → flt (J ++ [x]) (D ++ [false]) c i = flt J D c i ++ (if x.f0 = c then [i + (J.length : Int)] else [])
  | [], [], x, c, i, _ => by
    simp only [List.nil_append, flt]
    by_cases h : x.f0 = c
    · rw [if_pos ⟨h, trivial⟩, if_pos h]
      simp
    · rw [if_neg (fun e => h e.1), if_neg h]
  | [], _ :: _, _, _, _, h => by simp at h
  | _ :: _, [], _, _, _, h => by simp at h
  | y :: J, d :: D, x, c, i, h => by
    rw [List.cons_append, List.cons_append]
    simp only [flt]
    rw [flt_snoc J D x c (i + 1) (by simpa using h), show i + 1 + (J.length : Int) = i + (((y :: J).length : Nat) : Int) by rw [List.length_cons]; push_cast; omega]
    split <;> rfl
theorem flt_len : ∀ (J : List S41) (D : List Bool) (c i : Int), (flt J D c i).length ≤ J.length
  | [], _, _, _ => by simp [flt]
  | _ :: _, [], _, _ => by simp [flt]
  | x :: J, d :: D, c, i => by
    have := flt_len J D c (i + 1)
    simp only [flt]
    split <;> simp <;> omega
theorem by_loop {W : List Int} {J : List S41} (hJ : J.length ≤ 1000000000000) (hx : ∀ x ∈ J, 0 ≤ x.f0 ∧ x.f0 < (W.length : Int)) (d : Nat) : ∀ (i : Int) (L : List (List Int)), 0 ≤ i → i + d = J.length → L.length = W.length → (∀ c, 0 ≤ c → c < (W.length : Int) → rd_L3 L c = flt (J.take i.toNat) (List.replicate i.toNat false) c 0) →
    ∃ R : List (List Int), R.length = W.length ∧ (∀ c, 0 ≤ c → c < (W.length : Int) → rd_L3 R c = flt J (List.replicate J.length false) c 0) ∧ ∀ k, d < k → impl_byClass.l0 k L J (J.length : Int) i = some R := by
  induction d with
  | zero =>
    intro i L h0 h1 hl hc
    refine ⟨L, hl, fun c c0 c1 => ?_, fun k hk => ?_⟩
    · have := hc c c0 c1
      rw [List.take_of_length_le (by omega), show i.toNat = J.length by omega] at this
      exact this
    · obtain ⟨k, rfl⟩ : ∃ q, k = q + 1 := ⟨k - 1, by omega⟩
      simp only [impl_byClass.l0]
      rw [if_neg (by omega)]
  | succ d ih =>
    intro i L h0 h1 hl hc
    have hi : i.toNat < J.length := by omega
    have hm := hx _ (List.getElem_mem hi)
    have ex : rd_T41 J i = J[i.toNat] := rdT_get (List.getElem?_eq_getElem hi)
    have et : J.take (i + 1).toNat = J.take i.toNat ++ [J[i.toNat]] := by
      rw [show (i + 1).toNat = i.toNat + 1 by omega, List.take_succ_eq_append_getElem hi]
    have ed : List.replicate (i + 1).toNat false = List.replicate i.toNat false ++ [false] := by
      rw [show (i + 1).toNat = i.toNat + 1 by omega, List.replicate_succ']
    have eL := hc _ hm.1 hm.2
    obtain ⟨R, r1, r2, r3⟩ := ih (i + 1) (L.set (J[i.toNat].f0).toNat (rd_L3 L (J[i.toNat].f0) ++ [i])) (by omega) (by omega) (by simpa using hl) (fun c c0 c1 => by
      rw [et, ed, flt_snoc _ _ _ _ _ (by rw [List.length_replicate, List.length_take]; omega), show (0 : Int) + ((J.take i.toNat).length : Int) = i by rw [List.length_take]; omega]
      unfold rd_L3
      rw [gd_set hm.1 c0 (by omega)]
      by_cases e : c = J[i.toNat].f0
      · rw [if_pos e, if_pos e.symm, ← e, show L.getD c.toNat [] = rd_L3 L c from rfl, hc c c0 c1]
      · rw [if_neg e, if_neg (fun h => e h.symm), List.append_nil]
        exact hc c c0 c1)
    refine ⟨R, r1, r2, fun k hk => ?_⟩
    obtain ⟨k, rfl⟩ : ∃ q, k = q + 1 := ⟨k - 1, by omega⟩
    have hfl := flt_len (J.take i.toNat) (List.replicate i.toNat false) (J[i.toNat].f0) 0
    rw [← eL, List.length_take] at hfl
    simp only [impl_byClass.l0]
    rw [ex, if_pos (by omega), if_pos h0, if_pos (by omega), if_pos hm.1, if_pos (by omega), if_pos (by omega), w_in (by omega) (by omega)]
    exact r3 k (by omega)
theorem by_ok {W : List Int} {J : List S41} (hv : jv W J = true) : ∃ R : List (List Int), R.length = W.length ∧ (∀ c, 0 ≤ c → c < (W.length : Int) → rd_L3 R c = flt J (List.replicate J.length false) c 0) ∧ ∀ k, J.length < k → impl_byClass.f k W J = some R := by
  obtain ⟨v1, v2, v3, v4, v5⟩ := jv_at hv
  obtain ⟨R, r1, r2, r3⟩ := by_loop (W := W) (J := J) (by omega) (fun x hx => (v5 x hx).1) J.length 0 (List.replicate W.length []) (by omega) (by omega) (by simp) (fun c c0 c1 => by
    rw [show (0 : Int).toNat = 0 from rfl, List.take_zero]
    unfold rd_L3 flt
    rw [List.getD_eq_getElem?_getD, List.getElem?_replicate]
    split <;> rfl)
  refine ⟨R, r1, r2, fun k hk => ?_⟩
  unfold impl_byClass.f
  rw [if_pos (by omega), if_pos (by omega), show ((W.length : Int)).toNat = W.length by omega]
  exact r3 k hk
/-- The jobs of d classes from c on, class by class. -/
def cat (J : List S41) (c : Int) : Nat → List Int
  | 0 => []
  | d + 1 => flt J (List.replicate J.length false) c 0 ++ cat J (c + 1) d
theorem cat_len (J : List S41) : ∀ (d : Nat) (c : Int), (cat J c d).length ≤ J.length * d
  | 0, _ => by simp [cat]
  | d + 1, c => by
    have h1 := cat_len J d (c + 1)
    have h2 := flt_len J (List.replicate J.length false) c 0
    simp only [cat, List.length_append]
    rw [Nat.mul_add, Nat.mul_one]
    omega
theorem ss_loop {W : List Int} {J : List S41} (hJ : J.length ≤ 60) (c : Int) (d : Nat) : ∀ (k : Nat) (i : Int) (x : List Int) (r : List Int) (K : Nat), 0 ≤ i → i + d = J.length → x.length + d ≤ 1000 →
    (∀ k', K ≤ k' → spec_StrictOrder.l0 k' W J (x ++ flt (J.drop i.toNat) (List.replicate d false) c i) (wrap64 (c + 1)) = some r) → K + d < k → spec_StrictOrder.l1 k W J x c i = some r := by
  induction d with
  | zero =>
    intro k i x r K h0 h1 hx hr hk
    obtain ⟨k, rfl⟩ : ∃ q, k = q + 1 := ⟨k - 1, by omega⟩
    have := hr k (by omega)
    rw [List.drop_of_length_le (by omega)] at this
    simp only [flt, List.append_nil] at this
    simp only [spec_StrictOrder.l1]
    rw [if_neg (by omega)]
    exact this
  | succ d ih =>
    intro k i x r K h0 h1 hx hr hk
    obtain ⟨k, rfl⟩ : ∃ q, k = q + 1 := ⟨k - 1, by omega⟩
    rw [dropT h0 (by omega), List.replicate_succ] at hr
    simp only [flt] at hr
    simp only [spec_StrictOrder.l1]
    rw [if_pos (by omega), if_pos h0, w_in (n := i + 1) (by omega) (by omega)]
    by_cases e : (rd_T41 J i).f0 = c
    · rw [if_pos e, if_pos (by omega)]
      refine ih k (i + 1) (x ++ [i]) r K (by omega) (by omega) (by simp; omega) (fun k' hk' => ?_) (by omega)
      have := hr k' hk'
      rw [if_pos ⟨e, trivial⟩] at this
      rw [List.append_assoc]
      exact this
    · rw [if_neg e]
      refine ih k (i + 1) x r K (by omega) (by omega) (by omega) (fun k' hk' => ?_) (by omega)
      have := hr k' hk'
      rw [if_neg (fun h => e h.1)] at this
      exact this
theorem ss_classes {W : List Int} {J : List S41} (hv : jv W J = true) (d : Nat) : ∀ (k : Nat) (c : Int) (x : List Int), 0 ≤ c → c + d = W.length → (x.length : Int) ≤ 60 * c → (d + 1) * 80 + 200 < k → spec_StrictOrder.l0 k W J x c = some (x ++ cat J c d) := by
  obtain ⟨v1, v2, v3, v4, v5⟩ := jv_at hv
  induction d with
  | zero =>
    intro k c x h0 h1 hx hk
    obtain ⟨k, rfl⟩ : ∃ q, k = q + 1 + 1 := ⟨k - 2, by omega⟩
    simp only [spec_StrictOrder.l0]
    rw [if_neg (by omega)]
    simp only [spec_StrictOrder.j1]
    rw [if_neg (by simp)]
    simp [cat]
  | succ d ih =>
    intro k c x h0 h1 hx hk
    obtain ⟨k, rfl⟩ : ∃ q, k = q + 1 + 1 := ⟨k - 2, by omega⟩
    simp only [spec_StrictOrder.l0]
    rw [if_pos (by omega), bs (spec_jv (by omega) (by omega) (by omega)), hv]
    simp only [spec_StrictOrder.j1]
    rw [if_pos trivial]
    obtain ⟨K, hK⟩ : ∃ K, K = (d + 1) * 80 + 201 := ⟨_, rfl⟩
    refine ss_loop (W := W) v4 c J.length k 0 x (x ++ cat J c (d + 1)) K (by omega) (by omega) (by omega) (fun k' hk' => ?_) (by omega)
    have hfl := flt_len J (List.replicate J.length false) c 0
    have q1 : c + 1 + (d : Int) = W.length := by push_cast at h1; omega
    have q2 : ((x ++ flt J (List.replicate J.length false) c 0).length : Int) ≤ 60 * (c + 1) := by
      rw [List.length_append]
      push_cast
      omega
    have q3 : (d + 1) * 80 + 200 < k' := Nat.lt_of_lt_of_le (by rw [hK]; exact Nat.lt_succ_self _) hk'
    rw [w_in (n := c + 1) (by omega) (by omega), show (0 : Int).toNat = 0 from rfl, List.drop_zero, ih k' (c + 1) (x ++ flt J (List.replicate J.length false) c 0) (by omega) q1 q2 q3, List.append_assoc]
    rfl
theorem cc_rows {R : List (List Int)} {J : List S41} (hJ : J.length ≤ 60) (hR : R.length ≤ 4) (hr : ∀ c, 0 ≤ c → c < (R.length : Int) → rd_L3 R c = flt J (List.replicate J.length false) c 0) (d : Nat) : ∀ (k : Nat) (i : Int) (x : List Int), 0 ≤ i → i + d = R.length → (x.length : Int) ≤ 60 * i → d < k →
    slices_Concat_int_int.l1 k x R (R.length : Int) i = some (x ++ cat J i d) := by
  induction d with
  | zero =>
    intro k i x h0 h1 hx hk
    obtain ⟨k, rfl⟩ : ∃ q, k = q + 1 := ⟨k - 1, by omega⟩
    simp only [slices_Concat_int_int.l1]
    rw [if_neg (by omega)]
    simp [cat]
  | succ d ih =>
    intro k i x h0 h1 hx hk
    obtain ⟨k, rfl⟩ : ∃ q, k = q + 1 := ⟨k - 1, by omega⟩
    have hfl := flt_len J (List.replicate J.length false) i 0
    simp only [slices_Concat_int_int.l1]
    rw [hr i h0 (by omega), if_pos (by omega), if_pos h0, if_pos (by omega), if_pos (by omega), w_in (n := i + 1) (by omega) (by omega), ih k (i + 1) (x ++ flt J (List.replicate J.length false) i 0) (by omega) (by push_cast at h1 ⊢; omega) (by rw [List.length_append]; push_cast; omega) (by omega), List.append_assoc]
    rfl
theorem cc_sums {R : List (List Int)} {J : List S41} (hJ : J.length ≤ 60) (hR : R.length ≤ 4) (hr : ∀ c, 0 ≤ c → c < (R.length : Int) → rd_L3 R c = flt J (List.replicate J.length false) c 0) (d : Nat) : ∀ (k : Nat) (i s : Int), 0 ≤ i → i + d = R.length → 0 ≤ s → s ≤ 60 * i → d + 10 < k →
    slices_Concat_int_int.l0 k R s R (R.length : Int) i = some (cat J 0 R.length) := by
  induction d with
  | zero =>
    intro k i s h0 h1 hs hs2 hk
    obtain ⟨k, rfl⟩ : ∃ q, k = q + 1 := ⟨k - 1, by omega⟩
    simp only [slices_Concat_int_int.l0]
    have eg : growNil50.f s = some [] := by
      unfold growNil50.f
      rw [if_pos hs, if_pos (by omega)]
    rw [if_neg (by omega), bs eg, cc_rows hJ hR hr R.length k 0 [] (by omega) (by omega) (by simp) (by omega)]
    rfl
  | succ d ih =>
    intro k i s h0 h1 hs hs2 hk
    obtain ⟨k, rfl⟩ : ∃ q, k = q + 1 := ⟨k - 1, by omega⟩
    have hfl := flt_len J (List.replicate J.length false) i 0
    simp only [slices_Concat_int_int.l0]
    rw [hr i h0 (by omega)]
    generalize (flt J (List.replicate J.length false) i 0).length = q at hfl
    rw [if_pos (by omega), if_pos h0, if_pos (by omega), w_in (n := s + (q : Int)) (by omega) (by omega), if_neg (by omega), w_in (n := i + 1) (by omega) (by omega)]
    exact ih k (i + 1) _ (by omega) (by push_cast at h1 ⊢; omega) (by omega) (by omega) (by omega)
theorem strict_ok {W : List Int} {J : List S41} (hW : W.length ≤ 1000000000000) (hJ : J.length ≤ 1000000000000) : ∃ r : List Int, r.length ≤ 240 ∧ (jv W J = true → r = cat J 0 W.length) ∧ (jv W J = false → r = []) ∧ ∀ k, J.length + W.length + 1000 < k → spec_StrictOrder.f k W J = some r ∧ impl_StrictOrder.f k W J = some r := by
  by_cases hv : jv W J = true
  · obtain ⟨v1, v2, v3, v4, v5⟩ := jv_at hv
    obtain ⟨R, r1, r2, r3⟩ := by_ok hv
    have hc := cat_len J W.length 0
    have hc2 : J.length * W.length ≤ 60 * 4 := Nat.mul_le_mul v4 v2
    refine ⟨cat J 0 W.length, by omega, fun _ => rfl, fun h => by rw [hv] at h; exact absurd h (by simp), fun k hk => ?_⟩
    constructor
    · have := ss_classes hv W.length k 0 [] (by omega) (by omega) (by simp) (by omega)
      rw [List.nil_append] at this
      exact this
    · unfold impl_StrictOrder.f slices_Concat_int_int.f
      have := cc_sums (R := R) (J := J) v4 (by omega) (fun c c0 c1 => r2 c c0 (by omega)) R.length k 0 0 (by omega) (by omega) (by omega) (by omega) (by omega)
      rw [bs (impl_jv hW), if_pos hv, bs (r3 k (by omega)), bs this, r1]
  · have hv' : jv W J = false := by simpa using hv
    refine ⟨[], by simp, fun h => absurd h hv, fun _ => rfl, fun k hk => ⟨?_, ?_⟩⟩
    · obtain ⟨k, rfl⟩ : ∃ q, k = q + 1 + 1 := ⟨k - 2, by omega⟩
      unfold spec_StrictOrder.f
      simp only [spec_StrictOrder.l0]
      by_cases hw : (0 : Int) < (W.length : Int)
      · rw [if_pos hw, bs (spec_jv hW hJ (by omega)), hv']
        simp only [spec_StrictOrder.j1]
        rw [if_neg (by simp)]
      · rw [if_neg hw]
        simp only [spec_StrictOrder.j1]
        rw [if_neg (by simp)]
    · unfold impl_StrictOrder.f
      rw [bs (impl_jv hW), if_neg hv]
def cv_laws_toJobS (x : S52) : S41 := ⟨x.f0, x.f1⟩
theorem laws_toJobS_rd (l : List S52) (i : Int) (h : i.toNat < l.length) : (l.map cv_laws_toJobS)[i.toNat]'(by simpa using h) = cv_laws_toJobS (rd_T52 l i) := by
  unfold rd_T52
  rw [List.getD_eq_getElem?_getD, List.getElem?_eq_getElem h, List.getElem_map]
  rfl
theorem laws_toJobS_loop (l : List S52) (hl : l.length ≤ 9223372036854775806) (d : Nat) : ∀ (k : Nat) (i : Int) (x : List S41), 0 ≤ i → i + d = l.length → d < k → x.length = l.length → x.take i.toNat = (l.map cv_laws_toJobS).take i.toNat →
    laws_toJobS.l0 k l x i = some (l.map cv_laws_toJobS) := by
  induction d with
  | zero =>
    intro k i x h0 h1 hk hx ht
    obtain ⟨k, rfl⟩ : ∃ m, k = m + 1 := ⟨k - 1, by omega⟩
    simp only [laws_toJobS.l0]
    rw [if_neg (by omega)]
    rw [List.take_of_length_le (by omega), List.take_of_length_le (by simp; omega)] at ht
    rw [ht]
  | succ d ih =>
    intro k i x h0 h1 hk hx ht
    obtain ⟨k, rfl⟩ : ∃ m, k = m + 1 := ⟨k - 1, by omega⟩
    simp only [laws_toJobS.l0, laws_toJob.f, Option.bind_some]
    rw [if_pos (by omega), if_pos h0, if_pos (by omega), w_in (by omega) (by omega)]
    refine ih k (i + 1) _ (by omega) (by omega) (by omega) (by simpa using hx) ?_
    have e : (i + 1).toNat = i.toNat + 1 := by omega
    have hi : i.toNat < l.length := by omega
    rw [e, List.take_succ_eq_append_getElem (by simpa [hx] using hi), List.take_succ_eq_append_getElem (by simpa using hi), List.getElem_set_self, List.take_set_of_le (Nat.le_refl _), ht, laws_toJobS_rd l i hi]
    rfl
theorem laws_toJobS_ok {l : List S52} (hl : l.length ≤ 17592186044416) {k : Nat} (hk : l.length < k) : laws_toJobS.f k l = some (l.map cv_laws_toJobS) := by
  unfold laws_toJobS.f
  rw [if_pos (by omega), if_pos (by omega)]
  exact laws_toJobS_loop l (by omega) l.length k 0 _ (by omega) (by omega) hk (by simp) (by simp)

theorem laws_eqJob_refl (x0 x1 : Int) : laws_eqJob.f x0 x1 x0 x1 = some true := by
  unfold laws_eqJob.f
  simp
theorem laws_eqJobS_loop (l : List S41) (hl : l.length ≤ 9223372036854775806) (d : Nat) : ∀ (k : Nat) (i : Int), 0 ≤ i → i + d = l.length → d < k → laws_eqJobS.l0 k l l i = some true := by
  induction d with
  | zero =>
    intro k i h0 h1 hk
    obtain ⟨k, rfl⟩ : ∃ m, k = m + 1 := ⟨k - 1, by omega⟩
    simp only [laws_eqJobS.l0]
    rw [if_neg (by omega)]
  | succ d ih =>
    intro k i h0 h1 hk
    obtain ⟨k, rfl⟩ : ∃ m, k = m + 1 := ⟨k - 1, by omega⟩
    simp only [laws_eqJobS.l0, laws_eqJob_refl, Option.bind_some, if_true]
    rw [if_pos (by omega), if_pos h0, if_pos (by omega), w_in (by omega) (by omega)]
    exact ih k (i + 1) (by omega) (by omega) (by omega)
theorem laws_eqJobS_ok {l : List S41} (hl : l.length ≤ 35184372088832) {k : Nat} (hk : l.length < k) : laws_eqJobS.f k l l = some true := by
  unfold laws_eqJobS.f
  rw [if_pos rfl]
  exact laws_eqJobS_loop l (by omega) l.length k 0 (by omega) (by omega) hk

theorem markJob_loop (d : Nat) : ∀ (k : Nat) (x : List S41) (m i : Int), 0 ≤ i → i + d = x.length → x.length ≤ 1000000000000 → d < k → 0 ≤ m → m + 2 * d ≤ 4000000000000 → ∃ y, laws_markJobS.l0 k x m i = some (m + 2 * d, y) := by
  induction d with
  | zero =>
    intro k x m i h0 h1 hl hk hm hm2
    obtain ⟨k, rfl⟩ : ∃ q, k = q + 1 := ⟨k - 1, by omega⟩
    simp only [laws_markJobS.l0]
    rw [if_neg (by omega)]
    exact ⟨x, by simp⟩
  | succ d ih =>
    intro k x m i h0 h1 hl hk hm hm2
    obtain ⟨k, rfl⟩ : ∃ q, k = q + 1 := ⟨k - 1, by omega⟩
    simp only [laws_markJobS.l0]
    rw [if_pos (by omega), if_pos h0, bs rfl, w_in (n := m + 1) (by omega) (by omega), w_in (n := m + 1 + 1) (by omega) (by omega), w_in (n := i + 1) (by omega) (by omega)]
    obtain ⟨y, hy⟩ := ih k ((x.set i.toNat ⟨m, (rd_T41 x i).f1⟩).set i.toNat ⟨(rd_T41 (x.set i.toNat ⟨m, (rd_T41 x i).f1⟩) i).f0, m + 1⟩) (m + 1 + 1) (i + 1) (by omega) (by simp; omega) (by simpa using hl) (by omega) (by omega) (by push_cast at hm2 ⊢; omega)
    rw [hy]
    exact ⟨y, by congr 2; push_cast; omega⟩
theorem markJob_ok {l : List S41} {m : Int} (hm : 0 ≤ m) (hm2 : m ≤ 1000000000000) (hl : l.length ≤ 1000000000000) {k : Nat} (hk : l.length < k) : ∃ y, laws_markJobS.f k l m = some (m + 2 * l.length, y) := markJob_loop l.length k l m 0 (by omega) (by omega) hl hk hm (by omega)
theorem FnExactStrictOrder : laws_FnExactStrictOrder.Pure := by
  intro W l1 _ _
  obtain ⟨k, hk⟩ : ∃ k, W.length + l1.length + 2000 < k := ⟨_, Nat.lt_succ_self _⟩
  obtain ⟨q, rfl⟩ : ∃ q, k = q + 1 := ⟨k - 1, by omega⟩
  refine ⟨q + 1, ?_⟩
  unfold laws_FnExactStrictOrder.f laws_szJobS.f
  by_cases h0 : (W.length : Int) > 1048576
  · rw [if_pos h0]
  rw [if_neg h0]
  by_cases h1 : wrap64 (1048576 - (l1.length : Int)) < 0
  · rw [if_pos h1, bs rfl, if_pos (by omega)]
  rw [if_neg h1, bs rfl, if_neg h1]
  rename_i hw hl
  have hl1 : l1.length ≤ 1048576 := by
    have := hl.1
    simp only [maxLen] at this
    rw [w_in (by omega) (by omega)] at h1
    omega
  obtain ⟨J, hJ⟩ : ∃ J, J = l1.map cv_laws_toJobS := ⟨_, rfl⟩
  have lJ : J.length = l1.length := by rw [hJ]; simp
  obtain ⟨r, hr, _, _, fr⟩ := strict_ok (W := W) (J := J) (by omega) (by omega)
  obtain ⟨s1, s2⟩ := fr (q + 1) (by omega)
  obtain ⟨_, s3⟩ := fr q (by omega)
  have t1 := fun k (hk : l1.length < k) => laws_toJobS_ok (l := l1) (by omega) hk
  rw [← hJ] at t1
  have lr : r.length ≤ 1048576 := by omega
  rw [bs (toInt_ok (by omega) (by omega)), bs (t1 _ (by omega)), bs s1, bs (toInt_ok (by omega) (by omega)), bs (t1 _ (by omega)), bs s2, bs (eqInt_ok (by omega) (by omega)), if_pos rfl, bs (toInt_ok (by omega) (by omega)), bs (eqInt_ok (by omega) (by omega)), if_pos rfl, bs (t1 _ (by omega)), bs (laws_eqJobS_ok (l := J) (by omega) (by omega)), if_pos rfl, bs (mark_ok (l := W) (m := 1) (by omega) (by omega) (by omega) (by omega))]
  dsimp only
  obtain ⟨y, hy⟩ := markJob_ok (l := J) (m := 1 + (W.length : Int)) (by omega) (by omega) (by omega) (k := q + 1) (by omega)
  rw [bs hy]
  dsimp only
  rw [if_neg (by omega), bs (eqInt_ok (by omega) (by omega))]
  rw [laws_FnExactStrictOrder.j0]
  rw [if_neg (by simp), bs (mark_ok (l := r) (m := 1) (by omega) (by omega) (by omega) (by omega))]
  dsimp only
  rw [bs (held_ok (m := 1) (n := r.length) (by omega) (by omega) (by omega) (by omega)), if_neg (by omega), if_pos rfl, bs (toInt_ok (by omega) (by omega)), bs (t1 _ (by omega)), bs s3, bs (eqInt_ok (by omega) (by omega)), if_pos rfl, bs (held_ok (m := 1) (n := r.length) (by omega) (by omega) (by omega) (by omega)), if_neg (by omega), if_pos rfl]

end Go.Proofs.Ytnjghnpfapoecaa.Pure
