/- What both sides of FnExactShapePulses compute, in plain Lean. -/
import Derived.Test.YtnjghnpfapoecaaPFnExactShapePulsesx4
import Derived.Laws.BitsLemmas
import Derived.OpenShut
namespace Go.Proofs.Ytnjghnpfapoecaa.Pure
open Go.RowKit Go.Proofs.Ytnjghnpfapoecaa.PFnExactShapePulses Go.Proofs.YtnjghnpfapoecaaW.PrintWords Go.Proofs.YtnjghnpfapoecaaW.PrintLast

theorem w_in {n : Int} (h0 : -9223372036854775808 ≤ n) (h1 : n ≤ 9223372036854775807) : wrap64 n = n := by unfold wrap64; omega

theorem bs {α β : Type} {x : Option α} {a : α} {f : α → Option β} (h : x = some a) : x.bind f = f a := by rw [h]; rfl
theorem rd_at {l : List Int} {i : Int} (h0 : 0 ≤ i) (h : i.toNat < l.length) : l.drop i.toNat = rd l i :: l.drop (i + 1).toNat := by
  rw [List.drop_eq_getElem_cons h, show (i + 1).toNat = i.toNat + 1 by omega]
  unfold rd
  rw [List.getD_eq_getElem?_getD, List.getElem?_eq_getElem h]
  rfl
theorem rd_mem {l : List Int} {i : Int} (h0 : 0 ≤ i) (h : i < l.length) : rd l i ∈ l := by
  unfold rd
  rw [List.getD_eq_getElem?_getD, List.getElem?_eq_getElem (by omega)]
  exact List.getElem_mem _

theorem s_in (a b c : Int) : spec_l1In.f a b c = some (decide (b ≤ a ∧ a ≤ c)) := by
  unfold spec_l1In.f
  by_cases h : b ≤ a <;> simp [h]
theorem i_in (a b c : Int) : impl_within.f a b c = some (decide (b ≤ a ∧ a ≤ c)) := by
  unfold impl_within.f
  by_cases h : b ≤ a <;> simp [h]
theorem eqInt_loop (l : List Int) (hl : l.length ≤ 9223372036854775806) (d : Nat) : ∀ (k : Nat) (i : Int), 0 ≤ i → i + d = l.length → d < k → laws_eqIntS.l0 k l l i = some true := by
  induction d with
  | zero =>
    intro k i h0 h1 hk
    obtain ⟨k, rfl⟩ : ∃ m, k = m + 1 := ⟨k - 1, by omega⟩
    simp only [laws_eqIntS.l0]
    rw [if_neg (by omega)]
  | succ d ih =>
    intro k i h0 h1 hk
    obtain ⟨k, rfl⟩ : ∃ m, k = m + 1 := ⟨k - 1, by omega⟩
    simp only [laws_eqIntS.l0]
    rw [if_pos (by omega), if_pos h0, if_pos (by omega), if_pos trivial, w_in (by omega) (by omega)]
    exact ih k (i + 1) (by omega) (by omega) (by omega)
theorem eqInt_ok {l : List Int} (hl : l.length ≤ 35184372088832) {k : Nat} (hk : l.length < k) : laws_eqIntS.f k l l = some true := by
  unfold laws_eqIntS.f
  rw [if_pos rfl]
  exact eqInt_loop l (by omega) l.length k 0 (by omega) (by omega) hk

/-- m, m + 1, .. -/
def seqF (m : Int) (n : Nat) : List Int := (List.range n).map fun (i : Nat) => m + (i : Int)
theorem seqF_len (m : Int) (n : Nat) : (seqF m n).length = n := by simp [seqF]
theorem seqF_succ (m : Int) (n : Nat) : seqF m (n + 1) = seqF m n ++ [m + n] := by simp [seqF, List.range_succ]
theorem seqF_rd (m : Int) (n : Nat) (i : Int) (h0 : 0 ≤ i) (h : i < n) : rd (seqF m n) i = m + i := by
  unfold rd seqF
  rw [List.getD_eq_getElem?_getD, List.getElem?_map, List.getElem?_range (by omega)]
  simp
  omega
theorem mark_loop (m : Int) (hm : 0 ≤ m) (hm2 : m ≤ 1000000000000) (d : Nat) : ∀ (k : Nat) (i : Int) (x : List Int), 0 ≤ i → i + d = x.length → x.length ≤ 1000000000000 → d < k → x.take i.toNat = seqF m i.toNat →
    laws_markIntS.l0 k x (m + i) i = some (m + x.length, seqF m x.length) := by
  induction d with
  | zero =>
    intro k i x h0 h1 hl hk ht
    obtain ⟨k, rfl⟩ : ∃ q, k = q + 1 := ⟨k - 1, by omega⟩
    simp only [laws_markIntS.l0]
    rw [if_neg (by omega)]
    rw [List.take_of_length_le (by omega)] at ht
    have e : i.toNat = x.length := by omega
    rw [e] at ht
    have e2 : i = x.length := by omega
    rw [← ht, ← e2]
  | succ d ih =>
    intro k i x h0 h1 hl hk ht
    obtain ⟨k, rfl⟩ : ∃ q, k = q + 1 := ⟨k - 1, by omega⟩
    simp only [laws_markIntS.l0]
    rw [if_pos (by omega), if_pos h0, w_in (n := i + 1) (by omega) (by omega), w_in (n := m + i + 1) (by omega) (by omega)]
    have e : (i + 1).toNat = i.toNat + 1 := by omega
    have hi : i.toNat < x.length := by omega
    have := ih k (i + 1) (x.set i.toNat (m + i)) (by omega) (by simp; omega) (by simpa using hl) (by omega) (by
      rw [e, List.take_succ_eq_append_getElem (by simpa using hi), List.getElem_set_self, List.take_set_of_le (Nat.le_refl _), ht, seqF_succ]
      congr 2
      omega)
    rw [show m + (i + 1) = m + i + 1 by omega] at this
    simpa using this
theorem mark_ok {l : List Int} {m : Int} (hm : 0 ≤ m) (hm2 : m ≤ 1000000000000) (hl : l.length ≤ 1000000000000) {k : Nat} (hk : l.length < k) : laws_markIntS.f k l m = some (m + l.length, seqF m l.length) := by
  unfold laws_markIntS.f
  have := mark_loop m hm hm2 l.length k 0 l (by omega) (by omega) hl hk (by simp [seqF])
  simpa using this
theorem held_loop (m : Int) (n : Nat) (hm : 0 ≤ m) (hm2 : m ≤ 1000000000000) (hl : n ≤ 1000000000000) (d : Nat) : ∀ (k : Nat) (i : Int), 0 ≤ i → i + d = n → d < k →
    laws_heldIntS.l0 k (seqF m n) (m + i) i = some (m + n) := by
  induction d with
  | zero =>
    intro k i h0 h1 hk
    obtain ⟨k, rfl⟩ : ∃ q, k = q + 1 := ⟨k - 1, by omega⟩
    simp only [laws_heldIntS.l0]
    rw [if_neg (by rw [seqF_len]; omega), show i = (n : Int) by omega]
  | succ d ih =>
    intro k i h0 h1 hk
    obtain ⟨k, rfl⟩ : ∃ q, k = q + 1 := ⟨k - 1, by omega⟩
    simp only [laws_heldIntS.l0]
    rw [if_pos (by rw [seqF_len]; omega), if_pos h0, if_pos (seqF_rd m n i h0 (by omega)), w_in (n := i + 1) (by omega) (by omega), w_in (n := m + i + 1) (by omega) (by omega), show m + i + 1 = m + (i + 1) by omega]
    exact ih k (i + 1) (by omega) (by omega) (by omega)
theorem held_ok {m : Int} {n : Nat} (hm : 0 ≤ m) (hm2 : m ≤ 1000000000000) (hl : n ≤ 1000000000000) {k : Nat} (hk : n < k) : laws_heldIntS.f k (seqF m n) m = some (m + n) := by
  unfold laws_heldIntS.f
  have := held_loop m n hm hm2 hl n k 0 (by omega) (by omega) hk
  simpa using this

/-- Frames in the order of their times. -/
def goodP (l : List S66) (i : Int) : Prop := l.length ≤ 60 ∧ ∀ j, i ≤ j → j < (l.length : Int) → (0 ≤ (rd_T66 l j).f0 ∧ (rd_T66 l j).f0 ≤ 2000) ∧ 1 ≤ (rd_T66 l j).f1 ∧ (rd_T66 l j).f1 ≤ 50
theorem pv_loop (l : List S66) (hl : l.length ≤ 1000000000000) (d : Nat) : ∀ (i : Int), 0 ≤ i → i + d = l.length →
    ∃ r : Bool, (r = true → goodP l i) ∧ ∀ k, d < k → impl_PulsesValid.l0 k l l (l.length : Int) i = some r ∧ spec_PulsesValid.l0 k l i = some r := by
  induction d with
  | zero =>
    intro i h0 h1
    refine ⟨decide ((l.length : Int) ≤ 60), fun h => ⟨by have := of_decide_eq_true h; omega, fun j hj hj2 => by omega⟩, fun k hk => ?_⟩
    obtain ⟨k, rfl⟩ : ∃ m, k = m + 1 := ⟨k - 1, by omega⟩
    simp only [spec_PulsesValid.l0, impl_PulsesValid.l0]
    rw [if_neg (by omega), if_neg (by omega)]
    exact ⟨rfl, rfl⟩
  | succ d ih =>
    intro i h0 h1
    obtain ⟨r, g, hr⟩ := ih (i + 1) (by omega) (by omega)
    have hi : i < (l.length : Int) := by omega
    have stop : ∀ (hc : ∀ k, impl_PulsesValid.l0 (k + 1) l l (l.length : Int) i = some false ∧ spec_PulsesValid.l0 (k + 1) l i = some false), ∃ r : Bool, (r = true → goodP l i) ∧ ∀ k, d + 1 < k → impl_PulsesValid.l0 k l l (l.length : Int) i = some r ∧ spec_PulsesValid.l0 k l i = some r := fun hc => by
      refine ⟨false, by simp, fun k hk => ?_⟩
      obtain ⟨k, rfl⟩ : ∃ m, k = m + 1 := ⟨k - 1, by omega⟩
      exact hc k
    by_cases c1 : 0 ≤ (rd_T66 l i).f0 ∧ (rd_T66 l i).f0 ≤ 2000
    case neg =>
      refine stop fun k => ?_
      simp only [spec_PulsesValid.l0, impl_PulsesValid.l0, s_in, i_in, Option.bind_some]
      constructor
      · rw [if_pos hi, if_pos h0, if_pos hi, if_neg (by simpa using c1)]
      · rw [if_pos hi, if_pos h0, if_neg (by simpa using c1)]
    by_cases c2 : 1 ≤ (rd_T66 l i).f1 ∧ (rd_T66 l i).f1 ≤ 50
    case neg =>
      refine stop fun k => ?_
      simp only [spec_PulsesValid.l0, impl_PulsesValid.l0, s_in, i_in, Option.bind_some]
      constructor
      · rw [if_pos hi, if_pos h0, if_pos hi, if_pos (by simpa using c1), if_neg (by simpa using c2)]
      · rw [if_pos hi, if_pos h0, if_pos (by simpa using c1), if_neg (by simpa using c2)]
    by_cases c3 : 0 < i ∧ (rd_T66 l i).f0 < (rd_T66 l (i - 1)).f0
    · refine stop fun k => ?_
      simp only [spec_PulsesValid.l0, impl_PulsesValid.l0, s_in, i_in, Option.bind_some]
      rw [w_in (n := i - 1) (by omega) (by omega)]
      constructor
      · rw [if_pos hi, if_pos h0, if_pos hi, if_pos (by simpa using c1), if_pos (by simpa using c2), if_pos c3.1, if_pos (by omega), if_pos (by omega), if_pos c3.2]
      · rw [if_pos hi, if_pos h0, if_pos (by simpa using c1), if_pos (by simpa using c2), if_pos c3.1, if_pos (by omega), if_pos (by omega), if_pos c3.2]
    · refine ⟨r, fun h => ⟨(g h).1, fun j hj hj2 => ?_⟩, fun k hk => ?_⟩
      · by_cases e : j = i
        · rw [e]
          exact ⟨c1, c2⟩
        · exact (g h).2 j (by omega) hj2
      · obtain ⟨k, rfl⟩ : ∃ m, k = m + 1 := ⟨k - 1, by omega⟩
        obtain ⟨e1, e2⟩ := hr k (by omega)
        simp only [spec_PulsesValid.l0, impl_PulsesValid.l0, s_in, i_in, Option.bind_some]
        rw [w_in (n := i - 1) (by omega) (by omega), w_in (n := i + 1) (by omega) (by omega), e1, e2]
        constructor
        · rw [if_pos hi, if_pos h0, if_pos hi, if_pos (by simpa using c1), if_pos (by simpa using c2)]
          by_cases c4 : i > 0
          · rw [if_pos c4, if_pos (by omega), if_pos (by omega), if_neg (fun h => c3 ⟨c4, h⟩)]
          · rw [if_neg c4]
        · rw [if_pos hi, if_pos h0, if_pos (by simpa using c1), if_pos (by simpa using c2)]
          by_cases c4 : i > 0
          · rw [if_pos c4, if_pos (by omega), if_pos (by omega), if_neg (fun h => c3 ⟨c4, h⟩)]
          · rw [if_neg c4]
theorem pv_ok (l : List S66) (hl : l.length ≤ 1000000000000) : ∃ r : Bool, (r = true → goodP l 0) ∧ ∀ k, l.length < k → impl_PulsesValid.f k l = some r ∧ spec_PulsesValid.f k l = some r := pv_loop l hl l.length 0 (by omega) (by omega)
theorem prod_bd {a x m n : Int} (ha : 0 ≤ a) (ha2 : a ≤ m) (hx : 0 ≤ x) (hx2 : x ≤ n) : 0 ≤ a * x ∧ a * x ≤ m * n := ⟨Int.mul_nonneg ha hx, Int.mul_le_mul ha2 hx2 hx (by omega)⟩
theorem mn_le (a b : Int) : mn a b ≤ a ∧ mn a b ≤ b ∧ (mn a b = a ∨ mn a b = b) := by
  unfold mn
  split
  · exact ⟨by omega, by omega, .inr rfl⟩
  · exact ⟨by omega, by omega, .inl rfl⟩
/-- Slot by slot till there are as many tokens: n slots. -/
theorem wait_loop {a0 a1 : Int} (h0 : 1 ≤ a0 ∧ a0 ≤ 20) (h1 : 1 ≤ a1 ∧ a1 ≤ 100) {l : List S66} {i : Int} (i0 : 0 ≤ i) (i1 : i < (l.length : Int)) (hs : 1 ≤ (rd_T66 l i).f1 ∧ (rd_T66 l i).f1 ≤ a1) {x : List Int} (hx : x.length ≤ 100) (n : Nat) : ∀ (k : Nat) (tok t : Int) (r : List Int), 0 ≤ tok → tok ≤ a1 → 0 ≤ t → t + n ≤ 100000 → (rd_T66 l i).f1 ≤ tok + a0 * n → (n = 0 ∨ tok + a0 * (n : Int) - a0 < (rd_T66 l i).f1) →
    spec_ShapePulses.l1 k a0 a1 l (x ++ [t + n]) (mn a1 (tok + a0 * n) - (rd_T66 l i).f1) (t + n) (wrap64 (i + 1)) = some r → spec_ShapePulses.l2 (k + n + 1) a0 a1 l x tok i t = some r := by
  induction n with
  | zero =>
    intro k tok t r t0 t1 p0 p1 hge _ h
    have e : mn a1 (tok + a0 * ((0 : Nat) : Int)) = tok := by
      rw [show ((0 : Nat) : Int) = 0 from rfl, Int.mul_zero, Int.add_zero]
      unfold mn
      split <;> omega
    rw [show ((0 : Nat) : Int) = 0 from rfl, Int.mul_zero] at hge
    rw [e, show t + ((0 : Nat) : Int) = t by omega] at h
    simp only [spec_ShapePulses.l2]
    rw [if_pos i0, if_pos i1, if_neg (by omega), if_pos (by omega), w_in (n := tok - (rd_T66 l i).f1) (by omega) (by omega)]
    exact h
  | succ n ih =>
    intro k tok t r t0 t1 p0 p1 hge hlt h
    have en : a0 * ((n + 1 : Nat) : Int) = a0 * (n : Int) + a0 := by
      push_cast
      rw [Int.mul_add, Int.mul_one]
    have pn : 0 ≤ a0 * (n : Int) := Int.mul_nonneg (by omega) (by omega)
    have hlt := hlt.resolve_left (by omega)
    rw [en] at hge hlt h
    rw [show k + (n + 1) + 1 = (k + n + 1) + 1 by omega]
    simp only [spec_ShapePulses.l2]
    rw [if_pos i0, if_pos i1, if_pos (by omega), w_in (n := tok + a0) (by omega) (by omega), w_in (n := t + 1) (by omega) (by omega)]
    have hm := mn_le a1 (tok + a0)
    have push : t + ((n + 1 : Nat) : Int) = t + 1 + (n : Int) := by push_cast; omega
    rw [push] at h
    have key : mn a1 (mn a1 (tok + a0) + a0 * (n : Int)) = mn a1 (tok + (a0 * (n : Int) + a0)) ∧ (rd_T66 l i).f1 ≤ mn a1 (tok + a0) + a0 * (n : Int) ∧ (n = 0 ∨ mn a1 (tok + a0) + a0 * (n : Int) - a0 < (rd_T66 l i).f1) := by
      by_cases hn : n = 0
      · subst hn
        rw [show a0 * ((0 : Nat) : Int) = 0 by rw [show ((0 : Nat) : Int) = 0 from rfl, Int.mul_zero]] at *
        refine ⟨?_, ?_, .inl rfl⟩
        · rw [Int.add_zero, Int.zero_add]
          unfold mn
          by_cases c : tok + a0 < a1
          · rw [if_pos c, if_pos c]
          · rw [if_neg c, if_neg (by omega)]
        · unfold mn
          split <;> omega
      · have : a0 ≤ a0 * (n : Int) := by
          have := Int.mul_le_mul_of_nonneg_left (show (1 : Int) ≤ (n : Int) by omega) (show 0 ≤ a0 by omega)
          rwa [Int.mul_one] at this
        have e2 : mn a1 (tok + a0) = tok + a0 := by
          unfold mn
          rw [if_pos (by omega)]
        rw [e2, show tok + a0 + a0 * (n : Int) = tok + (a0 * (n : Int) + a0) by omega]
        exact ⟨rfl, by omega, .inr (by omega)⟩
    refine ih k (mn a1 (tok + a0)) (t + 1) r (by omega) hm.1 (by omega) (by push_cast at p1; omega) key.2.1 key.2.2 ?_
    rw [key.1]
    exact h
theorem ceil_at {a lack : Int} (ha : 1 ≤ a) (hl : 0 < lack) : ∃ n : Nat, (lack + a - 1) / a = (n : Int) ∧ lack ≤ a * (n : Int) ∧ a * (n : Int) - a < lack ∧ (n : Int) ≤ lack + a - 1 ∧ 1 ≤ n := by
  have e := Int.mul_ediv_add_emod (lack + a - 1) a
  have r0 := Int.emod_nonneg (lack + a - 1) (b := a) (by omega)
  have r1 := Int.emod_lt_of_pos (lack + a - 1) (b := a) (by omega)
  have q0 : 0 ≤ (lack + a - 1) / a := Int.ediv_nonneg (by omega) (by omega)
  have q1 : (lack + a - 1) / a ≤ lack + a - 1 := Int.ediv_le_self _ (by omega)
  refine ⟨((lack + a - 1) / a).toNat, by omega, ?_⟩
  rw [show ((((lack + a - 1) / a).toNat : Nat) : Int) = (lack + a - 1) / a by omega]
  generalize (lack + a - 1) / a = q at *
  generalize (lack + a - 1) % a = s at *
  refine ⟨by omega, by omega, q1, ?_⟩
  have : q ≠ 0 := by
    intro h
    rw [h, Int.mul_zero] at e
    omega
  omega
/-- One frame. -/
theorem shape_loop {a0 a1 : Int} (h0 : 1 ≤ a0 ∧ a0 ≤ 20) (h1 : 1 ≤ a1 ∧ a1 ≤ 100) {l : List S66} (hg : goodP l 0) (d : Nat) : ∀ (i tok at_ : Int) (x : List Int), 0 ≤ i → i + d = l.length → 0 ≤ tok → tok ≤ a1 → 0 ≤ at_ → at_ ≤ 2000 + 80 * i → (x.length : Int) ≤ i → (∀ j, i ≤ j → j < (l.length : Int) → (rd_T66 l j).f1 ≤ a1) →
    ∃ r : List Int, r.length ≤ 60 ∧ ∀ k, 100 * d < k → impl_ShapePulses.l0 k a0 a1 x l (l.length : Int) i a0 a1 tok at_ = some r ∧ spec_ShapePulses.l1 k a0 a1 l x tok at_ i = some r := by
  induction d with
  | zero =>
    intro i tok at_ x i0 hi t0 t1 p0 p1 hx hs
    refine ⟨x, by have := hg.1; omega, fun k hk => ?_⟩
    obtain ⟨k, rfl⟩ : ∃ q, k = q + 1 := ⟨k - 1, by omega⟩
    simp only [impl_ShapePulses.l0, spec_ShapePulses.l1]
    rw [if_neg (by omega), if_neg (by omega)]
    exact ⟨rfl, rfl⟩
  | succ d ih =>
    intro i tok at_ x i0 hi t0 t1 p0 p1 hx hs
    have i1 : i < (l.length : Int) := by omega
    have hl := hg.1
    have gj := hg.2 i (by omega) i1
    have hz := hs i (by omega) i1
    obtain ⟨z, hzz⟩ : ∃ z, z = rd_T66 l i := ⟨_, rfl⟩
    rw [← hzz] at gj hz
    obtain ⟨u, hu⟩ : ∃ u, u = mx z.f0 at_ := ⟨_, rfl⟩
    have hu2 : at_ ≤ u ∧ u ≤ 2000 + 80 * i := by
      rw [hu]
      unfold mx
      split <;> omega
    have eu : mx at_ z.f0 = u := by
      rw [hu]
      unfold mx
      split <;> split <;> omega
    have pb := prod_bd (a := a0) (x := u - at_) (m := 20) (n := 10000) (by omega) (by omega) (by omega) (by omega)
    obtain ⟨v, hv⟩ : ∃ v, v = mn a1 (tok + a0 * (u - at_)) := ⟨_, rfl⟩
    have hv2 : 0 ≤ v ∧ v ≤ a1 := by
      have := mn_le a1 (tok + a0 * (u - at_))
      omega
    have ev : mn a1 (wrap64 (tok + wrap64 (a0 * wrap64 (u - at_)))) = v := by
      rw [w_in (n := u - at_) (by omega) (by omega), w_in (n := a0 * (u - at_)) (by omega) (by omega), w_in (by omega) (by omega), hv]
    have hsz : 1 ≤ (rd_T66 l i).f1 ∧ (rd_T66 l i).f1 ≤ a1 := by rw [← hzz]; omega
    by_cases hlack : z.f1 - v > 0
    · obtain ⟨n, n1, n2, n3, n4, n5⟩ := ceil_at (a := a0) (lack := z.f1 - v) (by omega) hlack
      have pn := prod_bd (a := a0) (x := (n : Int)) (m := 20) (n := 100) (by omega) (by omega) (by omega) (by omega)
      have mv := mn_le a1 (v + a0 * (n : Int))
      obtain ⟨r, hr, fr⟩ := ih (i + 1) (mn a1 (v + a0 * (n : Int)) - z.f1) (u + n) (x ++ [u + n]) (by omega) (by omega) (by omega) (by omega) (by omega) (by omega) (by simp; omega) (fun j hj hj2 => hs j (by omega) hj2)
      refine ⟨r, hr, fun k hk => ?_⟩
      obtain ⟨k, rfl⟩ : ∃ q, k = q + n + 1 + 1 := ⟨k - n - 2, by omega⟩
      constructor
      · obtain ⟨e1, _⟩ := fr (k + n + 1) (by omega)
        simp only [impl_ShapePulses.l0, impl_bucket_until.f]
        rw [if_pos i1, if_pos i0, if_pos i1, ← hzz, if_neg (by omega), Option.bind_some, ← hu]
        dsimp only
        rw [ev, w_in (n := z.f1 - v) (by omega) (by omega), if_pos hlack, if_neg (by omega), w_in (n := z.f1 - v + a0) (by omega) (by omega), w_in (n := z.f1 - v + a0 - 1) (by omega) (by omega), Int.tdiv_eq_ediv_of_nonneg (by omega), n1, w_in (n := (n : Int)) (by omega) (by omega), w_in (n := u + (n : Int)) (by omega) (by omega), Option.bind_some]
        dsimp only
        rw [show u + (n : Int) - u = (n : Int) by omega, w_in (n := (n : Int)) (by omega) (by omega), w_in (n := a0 * (n : Int)) (by omega) (by omega), w_in (n := v + a0 * (n : Int)) (by omega) (by omega), w_in (n := mn a1 (v + a0 * (n : Int)) - z.f1) (by omega) (by omega), if_pos (by omega), w_in (n := i + 1) (by omega) (by omega)]
        exact e1
      · obtain ⟨_, e2⟩ := fr k (by omega)
        simp only [spec_ShapePulses.l1]
        rw [if_pos i1, if_pos i0, ← hzz, eu, ev]
        refine wait_loop h0 h1 i0 i1 hsz (by omega) n k v u r (by omega) (by omega) (by omega) (by omega) (by rw [← hzz]; omega) (.inr (by rw [← hzz]; omega)) ?_
        rw [← hzz, w_in (n := i + 1) (by omega) (by omega)]
        exact e2
    · obtain ⟨r, hr, fr⟩ := ih (i + 1) (v - z.f1) u (x ++ [u]) (by omega) (by omega) (by omega) (by omega) (by omega) (by omega) (by simp; omega) (fun j hj hj2 => hs j (by omega) hj2)
      refine ⟨r, hr, fun k hk => ?_⟩
      obtain ⟨k, rfl⟩ : ∃ q, k = q + 1 + 1 := ⟨k - 2, by omega⟩
      constructor
      · obtain ⟨e1, _⟩ := fr (k + 1) (by omega)
        simp only [impl_ShapePulses.l0, impl_bucket_until.f]
        rw [if_pos i1, if_pos i0, if_pos i1, ← hzz, if_neg (by omega), Option.bind_some, ← hu]
        dsimp only
        rw [ev, w_in (n := z.f1 - v) (by omega) (by omega), if_neg hlack, w_in (n := v - z.f1) (by omega) (by omega), if_pos (by omega), w_in (n := i + 1) (by omega) (by omega)]
        exact e1
      · obtain ⟨_, e2⟩ := fr k (by omega)
        simp only [spec_ShapePulses.l1]
        rw [if_pos i1, if_pos i0, ← hzz, eu, ev]
        refine wait_loop h0 h1 i0 i1 hsz (by omega) 0 k v u r (by omega) (by omega) (by omega) (by omega) (by rw [← hzz]; simp; omega) (.inl rfl) ?_
        have em : mn a1 (v + a0 * ((0 : Nat) : Int)) = v := by
          rw [show ((0 : Nat) : Int) = 0 from rfl, Int.mul_zero, Int.add_zero]
          unfold mn
          split <;> omega
        rw [← hzz, em, show u + ((0 : Nat) : Int) = u by omega, w_in (n := i + 1) (by omega) (by omega)]
        exact e2
/-- A frame larger than the bucket ends it. -/
theorem shape_big {a0 a1 : Int} (h0 : 1 ≤ a0 ∧ a0 ≤ 20) (h1 : 1 ≤ a1 ∧ a1 ≤ 100) {l : List S66} (hg : goodP l 0) (d : Nat) : ∀ (k : Nat) (i tok at_ : Int) (x : List Int), 0 ≤ i → i + d = l.length → 0 ≤ tok → tok ≤ a1 → 0 ≤ at_ → at_ ≤ 2000 + 80 * i → (x.length : Int) ≤ i → (∃ j, i ≤ j ∧ j < (l.length : Int) ∧ a1 < (rd_T66 l j).f1) → d < k →
    impl_ShapePulses.l0 k a0 a1 x l (l.length : Int) i a0 a1 tok at_ = some [] := by
  induction d with
  | zero =>
    intro k i tok at_ x i0 hi _ _ _ _ _ ⟨j, j0, j1, _⟩ _
    omega
  | succ d ih =>
    intro k i tok at_ x i0 hi t0 t1 p0 p1 hx ⟨j, j0, j1, j2⟩ hk
    obtain ⟨k, rfl⟩ : ∃ q, k = q + 1 := ⟨k - 1, by omega⟩
    have i1 : i < (l.length : Int) := by omega
    have hl := hg.1
    have gj := hg.2 i (by omega) i1
    obtain ⟨z, hzz⟩ : ∃ z, z = rd_T66 l i := ⟨_, rfl⟩
    rw [← hzz] at gj
    simp only [impl_ShapePulses.l0, impl_bucket_until.f]
    rw [if_pos i1, if_pos i0, if_pos i1, ← hzz]
    by_cases hz : z.f1 > a1
    · rw [if_pos hz]
    rw [if_neg hz]
    have hne : j ≠ i := fun e => by rw [e, ← hzz] at j2; omega
    obtain ⟨u, hu⟩ : ∃ u, u = mx z.f0 at_ := ⟨_, rfl⟩
    have hu2 : at_ ≤ u ∧ u ≤ 2000 + 80 * i := by
      rw [hu]
      unfold mx
      split <;> omega
    have pb := prod_bd (a := a0) (x := u - at_) (m := 20) (n := 10000) (by omega) (by omega) (by omega) (by omega)
    obtain ⟨v, hv⟩ : ∃ v, v = mn a1 (tok + a0 * (u - at_)) := ⟨_, rfl⟩
    have hv2 : 0 ≤ v ∧ v ≤ a1 := by
      have := mn_le a1 (tok + a0 * (u - at_))
      omega
    have ev : mn a1 (wrap64 (tok + wrap64 (a0 * wrap64 (u - at_)))) = v := by
      rw [w_in (n := u - at_) (by omega) (by omega), w_in (n := a0 * (u - at_)) (by omega) (by omega), w_in (by omega) (by omega), hv]
    rw [Option.bind_some, ← hu]
    dsimp only
    rw [ev, w_in (n := z.f1 - v) (by omega) (by omega), w_in (n := i + 1) (by omega) (by omega)]
    by_cases hlack : z.f1 - v > 0
    · obtain ⟨n, n1, n2, n3, n4, n5⟩ := ceil_at (a := a0) (lack := z.f1 - v) (by omega) hlack
      have pn := prod_bd (a := a0) (x := (n : Int)) (m := 20) (n := 100) (by omega) (by omega) (by omega) (by omega)
      have mv := mn_le a1 (v + a0 * (n : Int))
      rw [if_pos hlack, if_neg (by omega), w_in (n := z.f1 - v + a0) (by omega) (by omega), w_in (n := z.f1 - v + a0 - 1) (by omega) (by omega), Int.tdiv_eq_ediv_of_nonneg (by omega), n1, w_in (n := (n : Int)) (by omega) (by omega), w_in (n := u + (n : Int)) (by omega) (by omega), Option.bind_some]
      dsimp only
      rw [show u + (n : Int) - u = (n : Int) by omega, w_in (n := (n : Int)) (by omega) (by omega), w_in (n := a0 * (n : Int)) (by omega) (by omega), w_in (n := v + a0 * (n : Int)) (by omega) (by omega), w_in (n := mn a1 (v + a0 * (n : Int)) - z.f1) (by omega) (by omega), if_pos (by omega)]
      exact ih k (i + 1) _ _ _ (by omega) (by omega) (by omega) (by omega) (by omega) (by omega) (by simp; omega) ⟨j, by omega, j1, j2⟩ (by omega)
    · rw [if_neg hlack, w_in (n := v - z.f1) (by omega) (by omega), if_pos (by omega)]
      exact ih k (i + 1) _ _ _ (by omega) (by omega) (by omega) (by omega) (by omega) (by omega) (by simp; omega) ⟨j, by omega, j1, j2⟩ (by omega)
/-- The reference looks at all sizes first. -/
theorem spec_sizes (a0 a1 : Int) (l : List S66) (hl : l.length ≤ 1000000000000) (d : Nat) : ∀ (k : Nat) (i : Int), 0 ≤ i → i + d = l.length → d < k →
    ((∃ j, i ≤ j ∧ j < (l.length : Int) ∧ a1 < (rd_T66 l j).f1) → spec_ShapePulses.l0 k a0 a1 l [] i = some []) ∧ ((∀ j, i ≤ j → j < (l.length : Int) → (rd_T66 l j).f1 ≤ a1) → spec_ShapePulses.l0 k a0 a1 l [] i = (spec_l14Fits.f (k - d - 1) a0 a1 l).bind fun t => if t = true then spec_ShapePulses.l1 (k - d - 1) a0 a1 l [] a1 0 0 else some []) := by
  induction d with
  | zero =>
    intro k i i0 hi hk
    obtain ⟨k, rfl⟩ : ∃ q, k = q + 1 := ⟨k - 1, by omega⟩
    refine ⟨fun ⟨j, j0, j1, _⟩ => by omega, fun _ => ?_⟩
    simp only [spec_ShapePulses.l0]
    rw [if_neg (by omega), show k + 1 - 0 - 1 = k by omega]
  | succ d ih =>
    intro k i i0 hi hk
    obtain ⟨k, rfl⟩ : ∃ q, k = q + 1 := ⟨k - 1, by omega⟩
    obtain ⟨g1, g2⟩ := ih k (i + 1) (by omega) (by omega) (by omega)
    simp only [spec_ShapePulses.l0]
    rw [if_pos (by omega), if_pos i0, w_in (n := i + 1) (by omega) (by omega)]
    by_cases hz : (rd_T66 l i).f1 > a1
    · rw [if_pos hz]
      exact ⟨fun _ => rfl, fun h => by have := h i (by omega) (by omega); omega⟩
    · rw [if_neg hz]
      refine ⟨fun ⟨j, j0, j1, j2⟩ => g1 ⟨j, ?_, j1, j2⟩, fun h => ?_⟩
      · have : j ≠ i := fun e => by rw [e] at j2; omega
        omega
      · rw [g2 (fun j j0 j1 => h j (by omega) j1), show k + 1 - (d + 1) - 1 = k - d - 1 by omega]
theorem shape_ok (a0 a1 : Int) (l : List S66) (hl : l.length ≤ 1000000000000) : ∃ r : List Int, r.length ≤ 60 ∧ ∀ k, 2 * l.length + 7000 < k → spec_ShapePulses.f k a0 a1 l = some r ∧ impl_ShapePulses.f k a0 a1 l = some r := by
  obtain ⟨p, hp, fp⟩ := pv_ok l hl
  have fits : ∀ k, l.length < k → spec_l14Fits.f k a0 a1 l = some (decide (1 ≤ a0 ∧ a0 ≤ 20) && decide (1 ≤ a1 ∧ a1 ≤ 100) && p) := fun k hk => by
    unfold spec_l14Fits.f
    rw [s_in, bs rfl, s_in, bs rfl, (fp k hk).2]
    generalize decide (1 ≤ a0 ∧ a0 ≤ 20) = b1
    generalize decide (1 ≤ a1 ∧ a1 ≤ 100) = b2
    cases b1 <;> cases b2 <;> cases p <;> rfl
  have nb : ∀ k, l.length < k → impl_newBucket.f k a0 a1 l = some (a0, a1, a1, 0, decide (1 ≤ a0 ∧ a0 ≤ 20) && decide (1 ≤ a1 ∧ a1 ≤ 100) && p) := fun k hk => by
    unfold impl_newBucket.f
    rw [(fp k hk).1, bs rfl, i_in, bs rfl, i_in, bs rfl]
    generalize decide (1 ≤ a0 ∧ a0 ≤ 20) = b1
    generalize decide (1 ≤ a1 ∧ a1 ≤ 100) = b2
    cases b1 <;> cases b2 <;> cases p <;> rfl
  by_cases hf : (decide (1 ≤ a0 ∧ a0 ≤ 20) && decide (1 ≤ a1 ∧ a1 ≤ 100) && p) = true
  · rw [hf] at fits nb
    simp only [Bool.and_eq_true, decide_eq_true_eq] at hf
    obtain ⟨⟨h0, h1⟩, h2⟩ := hf
    have hg := hp h2
    by_cases hb : ∃ j, 0 ≤ j ∧ j < (l.length : Int) ∧ a1 < (rd_T66 l j).f1
    · refine ⟨[], by simp, fun k hk => ⟨(spec_sizes a0 a1 l hl l.length k 0 (by omega) (by omega) (by omega)).1 hb, ?_⟩⟩
      unfold impl_ShapePulses.f
      rw [nb k (by omega), bs rfl]
      dsimp only
      rw [if_pos rfl]
      exact shape_big h0 h1 hg l.length k 0 a1 0 [] (by omega) (by omega) (by omega) (by omega) (by omega) (by omega) (by simp) hb (by omega)
    · have hs : ∀ j, 0 ≤ j → j < (l.length : Int) → (rd_T66 l j).f1 ≤ a1 := fun j j0 j1 => by
        by_cases c : (rd_T66 l j).f1 ≤ a1
        · exact c
        · exact absurd ⟨j, j0, j1, by omega⟩ hb
      have h60 := hg.1
      obtain ⟨r, hr, fr⟩ := shape_loop h0 h1 hg l.length 0 a1 0 [] (by omega) (by omega) (by omega) (by omega) (by omega) (by omega) (by simp) hs
      refine ⟨r, hr, fun k hk => ⟨?_, ?_⟩⟩
      · have := (spec_sizes a0 a1 l hl l.length k 0 (by omega) (by omega) (by omega)).2 hs
        unfold spec_ShapePulses.f
        rw [this, fits _ (by omega), bs rfl, if_pos rfl]
        exact (fr _ (by omega)).2
      · unfold impl_ShapePulses.f
        rw [nb k (by omega), bs rfl]
        dsimp only
        rw [if_pos rfl]
        exact (fr k (by omega)).1
  · have hf' : (decide (1 ≤ a0 ∧ a0 ≤ 20) && decide (1 ≤ a1 ∧ a1 ≤ 100) && p) = false := by simpa using hf
    rw [hf'] at fits nb
    refine ⟨[], by simp, fun k hk => ⟨?_, ?_⟩⟩
    · obtain ⟨g1, g2⟩ := spec_sizes a0 a1 l hl l.length k 0 (by omega) (by omega) (by omega)
      by_cases hb : ∃ j, 0 ≤ j ∧ j < (l.length : Int) ∧ a1 < (rd_T66 l j).f1
      · exact g1 hb
      · have := g2 (fun j j0 j1 => by
          by_cases c : (rd_T66 l j).f1 ≤ a1
          · exact c
          · exact absurd ⟨j, j0, j1, by omega⟩ hb)
        unfold spec_ShapePulses.f
        rw [this, fits _ (by omega), bs rfl, if_neg (by simp)]
    · unfold impl_ShapePulses.f
      rw [nb k (by omega), bs rfl]
      dsimp only
      rw [if_neg (by simp)]
def cv_laws_toPulseS (x : S69) : S66 := ⟨x.f0, x.f1⟩
theorem laws_toPulseS_rd (l : List S69) (i : Int) (h : i.toNat < l.length) : (l.map cv_laws_toPulseS)[i.toNat]'(by simpa using h) = cv_laws_toPulseS (rd_T69 l i) := by
  unfold rd_T69
  rw [List.getD_eq_getElem?_getD, List.getElem?_eq_getElem h, List.getElem_map]
  rfl
theorem laws_toPulseS_loop (l : List S69) (hl : l.length ≤ 9223372036854775806) (d : Nat) : ∀ (k : Nat) (i : Int) (x : List S66), 0 ≤ i → i + d = l.length → d < k → x.length = l.length → x.take i.toNat = (l.map cv_laws_toPulseS).take i.toNat →
    laws_toPulseS.l0 k l x i = some (l.map cv_laws_toPulseS) := by
  induction d with
  | zero =>
    intro k i x h0 h1 hk hx ht
    obtain ⟨k, rfl⟩ : ∃ m, k = m + 1 := ⟨k - 1, by omega⟩
    simp only [laws_toPulseS.l0]
    rw [if_neg (by omega)]
    rw [List.take_of_length_le (by omega), List.take_of_length_le (by simp; omega)] at ht
    rw [ht]
  | succ d ih =>
    intro k i x h0 h1 hk hx ht
    obtain ⟨k, rfl⟩ : ∃ m, k = m + 1 := ⟨k - 1, by omega⟩
    simp only [laws_toPulseS.l0, laws_toPulse.f, Option.bind_some]
    rw [if_pos (by omega), if_pos h0, if_pos (by omega), w_in (by omega) (by omega)]
    refine ih k (i + 1) _ (by omega) (by omega) (by omega) (by simpa using hx) ?_
    have e : (i + 1).toNat = i.toNat + 1 := by omega
    have hi : i.toNat < l.length := by omega
    rw [e, List.take_succ_eq_append_getElem (by simpa [hx] using hi), List.take_succ_eq_append_getElem (by simpa using hi), List.getElem_set_self, List.take_set_of_le (Nat.le_refl _), ht, laws_toPulseS_rd l i hi]
    rfl
theorem laws_toPulseS_ok {l : List S69} (hl : l.length ≤ 17592186044416) {k : Nat} (hk : l.length < k) : laws_toPulseS.f k l = some (l.map cv_laws_toPulseS) := by
  unfold laws_toPulseS.f
  rw [if_pos (by omega), if_pos (by omega)]
  exact laws_toPulseS_loop l (by omega) l.length k 0 _ (by omega) (by omega) hk (by simp) (by simp)

theorem laws_eqPulse_refl (x0 x1 : Int) : laws_eqPulse.f x0 x1 x0 x1 = some true := by
  unfold laws_eqPulse.f
  simp
theorem laws_eqPulseS_loop (l : List S66) (hl : l.length ≤ 9223372036854775806) (d : Nat) : ∀ (k : Nat) (i : Int), 0 ≤ i → i + d = l.length → d < k → laws_eqPulseS.l0 k l l i = some true := by
  induction d with
  | zero =>
    intro k i h0 h1 hk
    obtain ⟨k, rfl⟩ : ∃ m, k = m + 1 := ⟨k - 1, by omega⟩
    simp only [laws_eqPulseS.l0]
    rw [if_neg (by omega)]
  | succ d ih =>
    intro k i h0 h1 hk
    obtain ⟨k, rfl⟩ : ∃ m, k = m + 1 := ⟨k - 1, by omega⟩
    simp only [laws_eqPulseS.l0, laws_eqPulse_refl, Option.bind_some, if_true]
    rw [if_pos (by omega), if_pos h0, if_pos (by omega), w_in (by omega) (by omega)]
    exact ih k (i + 1) (by omega) (by omega) (by omega)
theorem laws_eqPulseS_ok {l : List S66} (hl : l.length ≤ 35184372088832) {k : Nat} (hk : l.length < k) : laws_eqPulseS.f k l l = some true := by
  unfold laws_eqPulseS.f
  rw [if_pos rfl]
  exact laws_eqPulseS_loop l (by omega) l.length k 0 (by omega) (by omega) hk

theorem markPulse_loop (d : Nat) : ∀ (k : Nat) (x : List S66) (m i : Int), 0 ≤ i → i + d = x.length → x.length ≤ 1000000000000 → d < k → 0 ≤ m → m + 2 * d ≤ 4000000000000 → ∃ y, laws_markPulseS.l0 k x m i = some (m + 2 * d, y) := by
  induction d with
  | zero =>
    intro k x m i h0 h1 hl hk hm hm2
    obtain ⟨k, rfl⟩ : ∃ q, k = q + 1 := ⟨k - 1, by omega⟩
    simp only [laws_markPulseS.l0]
    rw [if_neg (by omega)]
    exact ⟨x, by simp⟩
  | succ d ih =>
    intro k x m i h0 h1 hl hk hm hm2
    obtain ⟨k, rfl⟩ : ∃ q, k = q + 1 := ⟨k - 1, by omega⟩
    simp only [laws_markPulseS.l0]
    rw [if_pos (by omega), if_pos h0, bs rfl, w_in (n := m + 1) (by omega) (by omega), w_in (n := m + 1 + 1) (by omega) (by omega), w_in (n := i + 1) (by omega) (by omega)]
    obtain ⟨y, hy⟩ := ih k ((x.set i.toNat ⟨m, (rd_T66 x i).f1⟩).set i.toNat ⟨(rd_T66 (x.set i.toNat ⟨m, (rd_T66 x i).f1⟩) i).f0, m + 1⟩) (m + 1 + 1) (i + 1) (by omega) (by simp; omega) (by simpa using hl) (by omega) (by omega) (by push_cast at hm2 ⊢; omega)
    rw [hy]
    exact ⟨y, by congr 2; push_cast; omega⟩
theorem markPulse_ok {l : List S66} {m : Int} (hm : 0 ≤ m) (hm2 : m ≤ 1000000000000) (hl : l.length ≤ 1000000000000) {k : Nat} (hk : l.length < k) : ∃ y, laws_markPulseS.f k l m = some (m + 2 * l.length, y) := markPulse_loop l.length k l m 0 (by omega) (by omega) hl hk hm (by omega)
theorem FnExactShapePulses : laws_FnExactShapePulses.Pure := by
  intro a0 a1 l2 _ _ hl
  obtain ⟨k, hk⟩ : ∃ k, 2 * l2.length + 9000 < k := ⟨_, Nat.lt_succ_self _⟩
  obtain ⟨q, rfl⟩ : ∃ q, k = q + 1 := ⟨k - 1, by omega⟩
  refine ⟨q + 1, ?_⟩
  unfold laws_FnExactShapePulses.f laws_szPulseS.f
  by_cases h1 : wrap64 (1048576 - (l2.length : Int)) < 0
  · rw [if_pos h1, bs rfl, if_pos (by omega)]
  rw [if_neg h1, bs rfl, if_neg h1]
  have hl1 : l2.length ≤ 1048576 := by
    have := hl.1
    simp only [maxLen] at this
    rw [w_in (by omega) (by omega)] at h1
    omega
  obtain ⟨J, hJ⟩ : ∃ J, J = l2.map cv_laws_toPulseS := ⟨_, rfl⟩
  have lJ : J.length = l2.length := by rw [hJ]; simp
  obtain ⟨r, hr, fr⟩ := shape_ok a0 a1 J (by omega)
  obtain ⟨s1, s2⟩ := fr (q + 1) (by omega)
  obtain ⟨_, s3⟩ := fr q (by omega)
  have t1 := fun k (hk : l2.length < k) => laws_toPulseS_ok (l := l2) (by omega) hk
  rw [← hJ] at t1
  rw [bs (t1 _ (by omega)), bs s1, bs (t1 _ (by omega)), bs s2, bs (eqInt_ok (by omega) (by omega)), if_pos rfl, bs (t1 _ (by omega)), bs (laws_eqPulseS_ok (l := J) (by omega) (by omega)), if_pos rfl]
  obtain ⟨y, hy⟩ := markPulse_ok (l := J) (m := 1) (by omega) (by omega) (by omega) (k := q + 1) (by omega)
  rw [bs hy]
  dsimp only
  rw [if_neg (by omega), bs (eqInt_ok (by omega) (by omega))]
  rw [laws_FnExactShapePulses.j0]
  rw [if_neg (by simp), bs (mark_ok (l := r) (m := 1) (by omega) (by omega) (by omega) (by omega))]
  dsimp only
  rw [bs (held_ok (m := 1) (n := r.length) (by omega) (by omega) (by omega) (by omega)), if_neg (by omega), if_pos rfl, bs (t1 _ (by omega)), bs s3, bs (eqInt_ok (by omega) (by omega)), if_pos rfl, bs (held_ok (m := 1) (n := r.length) (by omega) (by omega) (by omega) (by omega)), if_neg (by omega), if_pos rfl]

end Go.Proofs.Ytnjghnpfapoecaa.Pure
