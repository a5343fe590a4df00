/- What both sides of FnFairAlone compute, in plain Lean. -/
import Derived.Test.YtnjghnpfapoecaaPFnFairAlonex7
import Derived.Laws.BitsLemmas
import Derived.OpenShut
namespace Go.Proofs.Ytnjghnpfapoecaa.Pure
open Go.RowKit Go.Proofs.Ytnjghnpfapoecaa.PFnFairAlone Go.Proofs.YtnjghnpfapoecaaW.PrintWords Go.Proofs.YtnjghnpfapoecaaW.PrintLast

theorem w_in {n : Int} (h0 : -9223372036854775808 ≤ n) (h1 : n ≤ 9223372036854775807) : wrap64 n = n := by unfold wrap64; omega

theorem bs {α β : Type} {x : Option α} {a : α} {f : α → Option β} (h : x = some a) : x.bind f = f a := by rw [h]; rfl
/-- A byte list's reader never fails: what 'pick' answers. -/
theorem b_rd {b : List Int} (hb : ∀ x ∈ b, 0 ≤ x ∧ x ≤ 255) (i : Int) : 0 ≤ rd b i ∧ rd b i ≤ 255 := by
  unfold rd
  rw [List.getD_eq_getElem?_getD]
  cases h : b[i.toNat]? with
  | none => simp
  | some x => exact hb x (List.mem_of_getElem? h)

theorem xor_nn {x y : Int} (hx0 : 0 ≤ x) (hx : x < 4611686018427387904) (hy0 : 0 ≤ y) (hy : y < 4611686018427387904) : 0 ≤ Go.bits .xor .i64 x y := by
  obtain ⟨a, rfl⟩ := Int.eq_ofNat_of_zero_le hx0
  obtain ⟨b, rfl⟩ := Int.eq_ofNat_of_zero_le hy0
  have ha : a < 2 ^ 62 := by simp; omega
  have hb : b < 2 ^ 62 := by simp; omega
  have hc : a ^^^ b < 2 ^ 62 := Nat.xor_lt_two_pow ha hb
  have ha' : a % 2 ^ 64 = a := Nat.mod_eq_of_lt (by simp at ha ⊢; omega)
  have hb' : b % 2 ^ 64 = b := Nat.mod_eq_of_lt (by simp at hb ⊢; omega)
  have key : (BitVec.ofNat 64 a ^^^ BitVec.ofNat 64 b).toNat = a ^^^ b := by rw [BitVec.toNat_xor, BitVec.toNat_ofNat, BitVec.toNat_ofNat, ha', hb']
  have e : Go.bits .xor .i64 (a : Int) (b : Int) = IntKind.i64.wrap (((BitVec.ofNat 64 a ^^^ BitVec.ofNat 64 b).toNat : Nat) : Int) := by
    simp only [Go.bits, BitVec.ofInt_natCast]
    rfl
  rw [e, key, IntKind.wrap_i64]
  generalize a ^^^ b = c at hc
  simp at hc
  omega

theorem tm_bd {x n : Int} (hx : 0 ≤ x) (hn : 0 < n) : 0 ≤ Int.tmod x n ∧ Int.tmod x n < n := by
  rw [Int.tmod_eq_emod_of_nonneg hx]
  exact ⟨Int.emod_nonneg _ (by omega), Int.emod_lt_of_pos _ hn⟩

theorem pick_ok {k : Nat} {b : List Int} {p n : Int} (hb : ∀ x ∈ b, 0 ≤ x ∧ x ≤ 255) (hp0 : 0 ≤ p) (hp : p ≤ 100000000) (hn : 1 ≤ n) (hk : 0 < k) :
    ∃ v, spec_l21Rd_pick.f k b p n = some (v, p + 1) ∧ 0 ≤ v ∧ v < n := by
  obtain ⟨k, rfl⟩ : ∃ m, k = m + 1 := ⟨k - 1, by omega⟩
  have e1 : wrap64 (p + 1) = p + 1 := w_in (by omega) (by omega)
  have e2 : wrap64 (p + 1 - 1) = p := by rw [show p + 1 - 1 = p by omega]; exact w_in (by omega) (by omega)
  unfold spec_l21Rd_pick.f
  rw [if_neg (by omega), e1]
  simp only [spec_l21Rd_pick.j0, e2]
  by_cases h0 : b.length = 0
  · rw [if_pos (by simp [h0])]
    exact ⟨0, rfl, by omega, by omega⟩
  rw [if_neg (by simp; intro h; simp [h] at h0)]
  have hl : 0 < (b.length : Int) := by omega
  by_cases h1 : p < (b.length : Int)
  · rw [if_pos h1, if_pos hp0, if_neg (by omega)]
    have := b_rd hb p
    rw [w_in (n := rd b p) (by omega) (by omega)]
    exact ⟨_, rfl, (tm_bd this.1 (by omega)).1, (tm_bd this.1 (by omega)).2⟩
  rw [if_neg h1, if_neg (by omega)]
  have m1 := tm_bd (x := p) (n := b.length) hp0 hl
  have e3 : wrap64 (p * 7) = p * 7 := w_in (by omega) (by omega)
  have e4 : wrap64 (p * 7 + 3) = p * 7 + 3 := w_in (by omega) (by omega)
  have m2 := tm_bd (x := p * 7 + 3) (n := b.length) (by omega) hl
  rw [e3, e4, if_pos m1.1, if_pos m1.2, if_pos m2.1, if_pos m2.2, if_neg (by omega)]
  have r1 := b_rd hb (Int.tmod p b.length)
  have r2 := b_rd hb (Int.tmod (p * 7 + 3) b.length)
  generalize rd b (Int.tmod p b.length) = u at r1
  generalize rd b (Int.tmod (p * 7 + 3) b.length) = v at r2
  have d1 : 0 ≤ Int.tdiv p b.length ∧ Int.tdiv p b.length ≤ p := by
    rw [Int.tdiv_eq_ediv_of_nonneg hp0]
    exact ⟨Int.ediv_nonneg hp0 (by omega), Int.ediv_le_self _ hp0⟩
  generalize Int.tdiv p b.length = d at d1
  have e5 : wrap64 (wrap64 (wrap64 (wrap64 (wrap64 u * 131) + wrap64 (wrap64 v * 1117)) + wrap64 (p * 29)) + wrap64 (wrap64 d * 53)) = u * 131 + v * 1117 + p * 29 + d * 53 := by
    rw [w_in (n := u) (by omega) (by omega), w_in (n := v) (by omega) (by omega), w_in (n := d) (by omega) (by omega), w_in (n := u * 131) (by omega) (by omega), w_in (n := v * 1117) (by omega) (by omega), w_in (n := p * 29) (by omega) (by omega), w_in (n := d * 53) (by omega) (by omega), w_in (n := u * 131 + v * 1117) (by omega) (by omega), w_in (n := u * 131 + v * 1117 + p * 29) (by omega) (by omega), w_in (by omega) (by omega)]
  rw [e5]
  have hx0 : 0 ≤ u * 131 + v * 1117 + p * 29 + d * 53 := by omega
  have hx1 : u * 131 + v * 1117 + p * 29 + d * 53 < 4611686018427387904 := by omega
  generalize u * 131 + v * 1117 + p * 29 + d * 53 = x at hx0 hx1
  have d2 : 0 ≤ Int.tdiv x 64 ∧ Int.tdiv x 64 < 4611686018427387904 := by
    rw [Int.tdiv_eq_ediv_of_nonneg hx0]
    omega
  rw [w_in (n := Int.tdiv x 64) (by omega) (by omega)]
  have hz := xor_nn hx0 hx1 d2.1 d2.2
  exact ⟨_, rfl, (tm_bd hz (by omega)).1, (tm_bd hz (by omega)).2⟩

theorem num_ok {k : Nat} {b : List Int} {p : Int} {xs : List Int} (hb : ∀ x ∈ b, 0 ≤ x ∧ x ≤ 255) (hp0 : 0 ≤ p) (hp : p ≤ 100000000) (hn : 1 ≤ xs.length) (hk : 0 < k) :
    ∃ v, spec_l21Rd_num.f k b p xs = some (v, p + 1) ∧ v ∈ xs := by
  obtain ⟨i, hi, h0, h1⟩ := pick_ok (n := (xs.length : Int)) hb hp0 hp (by omega) hk
  refine ⟨rd xs i, ?_, ?_⟩
  · unfold spec_l21Rd_num.f
    rw [hi]
    simp only [Option.bind_some]
    rw [if_pos h0, if_pos h1]
  · unfold rd
    rw [List.getD_eq_getElem?_getD, List.getElem?_eq_getElem (by omega)]
    exact List.getElem_mem _

theorem open_ok {l : List Int} (hl : ∀ x ∈ l, (Lit.int .u8 x).wf = true) : ∃ b, spec_l21Open.f l = some (b, 0) ∧ ∀ x ∈ b, 0 ≤ x ∧ x ≤ 255 := by
  have hb : ∀ x ∈ l, 0 ≤ x ∧ x ≤ 255 := fun x hx => bounds_u8 (hl x hx)
  unfold spec_l21Open.f
  by_cases h : (l.length : Int) > 2000
  · rw [if_pos h, if_pos (by omega)]
    exact ⟨_, rfl, fun x hx => hb x (List.mem_of_mem_take hx)⟩
  · rw [if_neg h]
    exact ⟨_, rfl, hb⟩

theorem allO_total {α : Type} {p : α → Option Bool} {q : α → Bool} : ∀ (l : List α), (∀ x ∈ l, p x = some (q x)) → allO p l = some (l.all q)
  | [], _ => rfl
  | x :: xs, h => by
    have ih := allO_total xs (fun y hy => h y (List.mem_cons_of_mem _ hy))
    simp only [allO, h x (List.mem_cons_self), Option.bind_some, List.all_cons]
    cases q x
    · simp
    · simpa using ih

theorem rd_at {l : List Int} {i : Int} (h0 : 0 ≤ i) (h : i.toNat < l.length) : l.drop i.toNat = rd l i :: l.drop (i + 1).toNat := by
  rw [List.drop_eq_getElem_cons h, show (i + 1).toNat = i.toNat + 1 by omega]
  unfold rd
  rw [List.getD_eq_getElem?_getD, List.getElem?_eq_getElem h]
  rfl
theorem rd_mem {l : List Int} {i : Int} (h0 : 0 ≤ i) (h : i < l.length) : rd l i ∈ l := by
  unfold rd
  rw [List.getD_eq_getElem?_getD, List.getElem?_eq_getElem (by omega)]
  exact List.getElem_mem _

theorem s_in (a b c : Int) : spec_l1In.f a b c = some (decide (b ≤ a ∧ a ≤ c)) := by
  unfold spec_l1In.f
  by_cases h : b ≤ a <;> simp [h]
theorem i_in (a b c : Int) : impl_within.f a b c = some (decide (b ≤ a ∧ a ≤ c)) := by
  unfold impl_within.f
  by_cases h : b ≤ a <;> simp [h]
/-- A job's class is one of m, and it has a size. -/
def jok (m : Int) (x : S41) : Bool := decide (0 ≤ x.f0 ∧ x.f0 ≤ m - 1) && decide (1 ≤ x.f1 ∧ x.f1 ≤ 9)
def wbit (x : Int) : Bool := decide (1 ≤ x ∧ x ≤ 9)
/-- Are these weights and jobs? -/
def jv (W : List Int) (J : List S41) : Bool := decide (1 ≤ W.length ∧ W.length ≤ 4) && W.all wbit && decide (J.length ≤ 60) && J.all (jok (W.length : Int))
theorem impl_jv {W : List Int} {J : List S41} (hW : W.length ≤ 1000000000000) : impl_JobsValid.f W J = some (jv W J) := by
  unfold impl_JobsValid.f impl_weightsOk.f all_impl_weightsOk_1.f
  have e1 : allO (fun x => impl_weightsOk_1.f x) W = some (W.all wbit) := allO_total (q := wbit) W (fun x _ => by
    unfold impl_weightsOk_1.f wbit
    rw [i_in, bs rfl])
  have e2 : allO (impl_JobsValid.p (W.length : Int)) J = some (J.all (jok (W.length : Int))) := allO_total (q := jok (W.length : Int)) J (fun x _ => by
    unfold impl_JobsValid.p jok
    rw [w_in (n := (W.length : Int) - 1) (by omega) (by omega), i_in, bs rfl, i_in]
    generalize decide (0 ≤ x.f0 ∧ x.f0 ≤ (W.length : Int) - 1) = b
    cases b <;> simp)
  rw [i_in, e1, e2]
  unfold jv
  have e3 : decide ((1 : Int) ≤ (W.length : Int) ∧ (W.length : Int) ≤ 4) = decide (1 ≤ W.length ∧ W.length ≤ 4) := by
    rw [Bool.eq_iff_iff]
    simp only [decide_eq_true_eq]
    omega
  rw [e3]
  generalize decide (1 ≤ W.length ∧ W.length ≤ 4) = b1
  generalize W.all wbit = b2
  by_cases h : J.length ≤ 60
  · have h2 : (J.length : Int) ≤ 60 := by omega
    rw [decide_eq_true h]
    simp only [h2, if_true]
    cases b1 <;> cases b2 <;> simp
  · have h2 : ¬ (J.length : Int) ≤ 60 := by omega
    rw [decide_eq_false h]
    simp only [h2, if_false]
    cases b1 <;> cases b2 <;> simp
theorem spec_w_loop {W : List Int} (hW : W.length ≤ 1000000000000) (d : Nat) : ∀ (k : Nat) (i : Int), 0 ≤ i → i + d = W.length → d < k → spec_l12Weights.l0 k W i = some ((W.drop i.toNat).all wbit && decide (1 ≤ W.length ∧ W.length ≤ 4)) := by
  induction d with
  | zero =>
    intro k i h0 h1 hk
    obtain ⟨k, rfl⟩ : ∃ q, k = q + 1 := ⟨k - 1, by omega⟩
    simp only [spec_l12Weights.l0]
    rw [if_neg (by omega), s_in, bs rfl, List.drop_of_length_le (by omega)]
    congr 1
    rw [Bool.eq_iff_iff]
    simp
    omega
  | succ d ih =>
    intro k i h0 h1 hk
    obtain ⟨k, rfl⟩ : ∃ q, k = q + 1 := ⟨k - 1, by omega⟩
    simp only [spec_l12Weights.l0]
    rw [if_pos (by omega), if_pos h0, s_in, bs rfl, w_in (by omega) (by omega), ih k (i + 1) (by omega) (by omega) (by omega), rd_at h0 (by omega), List.all_cons]
    unfold wbit
    generalize decide (1 ≤ rd W i ∧ rd W i ≤ 9) = b
    cases b <;> simp
theorem dropT {J : List S41} {i : Int} (h0 : 0 ≤ i) (h : i < J.length) : J.drop i.toNat = rd_T41 J i :: J.drop (i + 1).toNat := by
  rw [List.drop_eq_getElem_cons (show i.toNat < J.length by omega), show (i + 1).toNat = i.toNat + 1 by omega]
  unfold rd_T41
  rw [List.getD_eq_getElem?_getD, List.getElem?_eq_getElem (by omega)]
  rfl
theorem spec_jv_loop {W : List Int} {J : List S41} (hW : W.length ≤ 1000000000000) (hJ : J.length ≤ 1000000000000) (d : Nat) : ∀ (k : Nat) (i : Int), 0 ≤ i → i + d = J.length → d + W.length + 1 < k → spec_JobsValid.l0 k W J i = some ((J.drop i.toNat).all (jok (W.length : Int)) && (W.all wbit && decide (1 ≤ W.length ∧ W.length ≤ 4) && decide (J.length ≤ 60))) := by
  induction d with
  | zero =>
    intro k i h0 h1 hk
    obtain ⟨k, rfl⟩ : ∃ q, k = q + 1 := ⟨k - 1, by omega⟩
    simp only [spec_JobsValid.l0]
    have e := spec_w_loop hW W.length k 0 (by omega) (by omega) (by omega)
    rw [if_neg (by omega), show spec_l12Weights.f k W = _ from e, bs rfl, List.drop_of_length_le (show J.length ≤ i.toNat by omega), show (0 : Int).toNat = 0 from rfl, List.drop_zero]
    generalize (W.all wbit && decide (1 ≤ W.length ∧ W.length ≤ 4)) = b
    cases b <;> simp <;> omega
  | succ d ih =>
    intro k i h0 h1 hk
    obtain ⟨k, rfl⟩ : ∃ q, k = q + 1 := ⟨k - 1, by omega⟩
    simp only [spec_JobsValid.l0]
    rw [if_pos (by omega), if_pos h0, w_in (n := (W.length : Int) - 1) (by omega) (by omega), s_in, bs rfl, s_in, w_in (by omega) (by omega), ih k (i + 1) (by omega) (by omega) (by omega), dropT h0 (by omega), List.all_cons, bs rfl]
    generalize (W.all wbit && decide (1 ≤ W.length ∧ W.length ≤ 4) && decide (J.length ≤ 60)) = b3
    generalize (J.drop (i + 1).toNat).all (jok (W.length : Int)) = b4
    unfold jok
    generalize decide (0 ≤ (rd_T41 J i).f0 ∧ (rd_T41 J i).f0 ≤ (W.length : Int) - 1) = b1
    generalize decide (1 ≤ (rd_T41 J i).f1 ∧ (rd_T41 J i).f1 ≤ 9) = b2
    cases b1 <;> cases b2 <;> cases b3 <;> cases b4 <;> rfl
theorem spec_jv {W : List Int} {J : List S41} (hW : W.length ≤ 1000000000000) (hJ : J.length ≤ 1000000000000) {k : Nat} (hk : J.length + W.length + 1 < k) : spec_JobsValid.f k W J = some (jv W J) := by
  have e := spec_jv_loop hW hJ J.length k 0 (by omega) (by omega) (by omega)
  rw [show spec_JobsValid.f k W J = _ from e]
  unfold jv
  rw [show (0 : Int).toNat = 0 from rfl, List.drop_zero]
  generalize J.all (jok (W.length : Int)) = b1
  generalize W.all wbit = b2
  generalize decide (1 ≤ W.length ∧ W.length ≤ 4) = b3
  generalize decide (J.length ≤ 60) = b4
  cases b1 <;> cases b2 <;> cases b3 <;> cases b4 <;> rfl
theorem jv_at {W : List Int} {J : List S41} (h : jv W J = true) : 1 ≤ W.length ∧ W.length ≤ 4 ∧ (∀ x ∈ W, 1 ≤ x ∧ x ≤ 9) ∧ J.length ≤ 60 ∧ ∀ x ∈ J, (0 ≤ x.f0 ∧ x.f0 < (W.length : Int)) ∧ 1 ≤ x.f1 ∧ x.f1 ≤ 9 := by
  unfold jv jok at h
  simp only [Bool.and_eq_true, decide_eq_true_eq, List.all_eq_true, wbit] at h
  obtain ⟨⟨⟨h1, h2⟩, h3⟩, h4⟩ := h
  refine ⟨h1.1, h1.2, fun x hx => h2 x hx, h3, fun x hx => ?_⟩
  have := h4 x hx
  omega
/-- Which jobs of a class are left, from place i on. -/
def flt : List S41 → List Bool → Int → Int → List Int
  | x :: J, d :: D, c, i => if x.f0 = c ∧ d = false then i :: flt J D c (i + 1) else flt J D c (i + 1)
  | [], _, _, _ => []
  | _ :: _, [], _, _ => []
def cntF : List Bool → Nat
  | [] => 0
  | b :: l => (if b = false then 1 else 0) + cntF l
theorem cntF_rep : ∀ n, cntF (List.replicate n false) = n
  | 0 => rfl
  | n + 1 => by
    rw [List.replicate_succ]
    simp only [cntF]
    rw [cntF_rep n]
    simp
    omega
theorem cntF_set : ∀ (D : List Bool) (j : Nat), D[j]? = some false → cntF (D.set j true) + 1 = cntF D
  | [], _, h => by simp at h
  | b :: D, 0, h => by
    simp at h
    subst h
    simp only [List.set_cons_zero, cntF]
    simp
    omega
  | b :: D, j + 1, h => by
    have := cntF_set D j (by simpa using h)
    simp only [List.set_cons_succ, cntF]
    omega
theorem flt_hit : ∀ (J : List S41) (D : List Bool) (c i t : Int) (r : List Int), flt J D c i = t :: r → i ≤ t ∧ t < i + (J.length : Int) ∧ (∃ x, J[(t - i).toNat]? = some x ∧ x.f0 = c) ∧ D[(t - i).toNat]? = some false ∧ flt J (D.set (t - i).toNat true) c i = r ∧ ∀ c', c' ≠ c → flt J (D.set (t - i).toNat true) c' i = flt J D c' i
  | [], _, c, i, t, r, h => by simp [flt] at h
  | x :: J, [], c, i, t, r, h => by simp [flt] at h
  | x :: J, d :: D, c, i, t, r, h => by
    simp only [flt] at h
    by_cases hc : x.f0 = c ∧ d = false
    · rw [if_pos hc] at h
      injection h with h1 h2
      subst h1
      obtain ⟨hx, rfl⟩ := hc
      rw [show (i - i).toNat = 0 by omega]
      refine ⟨by omega, by rw [List.length_cons]; push_cast; omega, ⟨x, rfl, hx⟩, rfl, ?_, fun c' hc' => ?_⟩
      · simp only [List.set_cons_zero, flt]
        rw [if_neg (by simp), h2]
      · simp only [List.set_cons_zero, flt]
        rw [if_neg (by simp), if_neg (by rw [hx]; exact fun h => hc' h.1.symm)]
    · rw [if_neg hc] at h
      obtain ⟨g1, g2, g3, g4, g5, g6⟩ := flt_hit J D c (i + 1) t r h
      have e : (t - i).toNat = (t - (i + 1)).toNat + 1 := by omega
      rw [e]
      refine ⟨by omega, by rw [List.length_cons]; push_cast; omega, ?_, ?_, ?_, fun c' hc' => ?_⟩
      · simpa using g3
      · simpa using g4
      · simp only [List.set_cons_succ, flt]
        rw [if_neg hc, g5]
      · simp only [List.set_cons_succ, flt]
        rw [g6 c' hc']
theorem flt_some : ∀ (J : List S41) (D : List Bool) (m i : Int), D.length = J.length → (∀ x ∈ J, 0 ≤ x.f0 ∧ x.f0 < m) → 0 < cntF D → ∃ c, 0 ≤ c ∧ c < m ∧ flt J D c i ≠ []
  | [], [], _, _, _, _, h => by simp [cntF] at h
  | [], _ :: _, _, _, hl, _, _ => by simp at hl
  | _ :: _, [], _, _, hl, _, _ => by simp at hl
  | x :: J, d :: D, m, i, hl, hx, h => by
    by_cases hd : d = false
    · have := hx x (by simp)
      refine ⟨x.f0, this.1, this.2, ?_⟩
      unfold flt
      rw [if_pos ⟨rfl, hd⟩]
      simp
    · simp only [cntF] at h
      rw [if_neg hd] at h
      obtain ⟨c, h0, h1, h2⟩ := flt_some J D m (i + 1) (by simpa using hl) (fun y hy => hx y (by simp [hy])) (by omega)
      refine ⟨c, h0, h1, ?_⟩
      simp only [flt]
      rw [if_neg (fun h => hd h.2)]
      exact h2
theorem gd_set {α : Type} {A : List α} {z v : α} {i j : Int} (hj : 0 ≤ j) (hi : 0 ≤ i) (hl : j < A.length) : (A.set j.toNat v).getD i.toNat z = if i = j then v else A.getD i.toNat z := by
  rw [List.getD_eq_getElem?_getD, List.getD_eq_getElem?_getD, List.getElem?_set]
  by_cases e : i = j
  · subst e
    rw [if_pos rfl, if_pos (by omega), if_pos rfl]
    rfl
  · rw [if_neg (by omega), if_neg e]
theorem next_at {J : List S41} {D : List Bool} (hl : D.length = J.length) (hJ : J.length ≤ 1000000000000) (c : Int) (d : Nat) : ∀ (k : Nat) (i : Int), 0 ≤ i → i + d = J.length → d < k → spec_l12Next.l0 k J D c i = some ((flt (J.drop i.toNat) (D.drop i.toNat) c i).headD (-1)) := by
  induction d with
  | zero =>
    intro k i h0 h1 hk
    obtain ⟨k, rfl⟩ : ∃ q, k = q + 1 := ⟨k - 1, by omega⟩
    simp only [spec_l12Next.l0]
    rw [if_neg (by omega), List.drop_of_length_le (by omega)]
    rfl
  | succ d ih =>
    intro k i h0 h1 hk
    obtain ⟨k, rfl⟩ : ∃ q, k = q + 1 := ⟨k - 1, by omega⟩
    have e2 : D.drop i.toNat = rdOf false D i :: D.drop (i + 1).toNat := by
      rw [List.drop_eq_getElem_cons (show i.toNat < D.length by omega), show (i + 1).toNat = i.toNat + 1 by omega]
      unfold rdOf
      rw [List.getD_eq_getElem?_getD, List.getElem?_eq_getElem (by omega)]
      rfl
    simp only [spec_l12Next.l0]
    rw [if_pos (by omega), if_pos h0, if_pos (show i < (D.length : Int) by omega), w_in (by omega) (by omega), ih k (i + 1) (by omega) (by omega) (by omega), dropT h0 (by omega), e2]
    simp only [flt]
    by_cases c1 : (rd_T41 J i).f0 = c
    · rw [if_pos c1]
      by_cases c2 : rdOf false D i = true
      · rw [if_pos c2, if_neg (by rw [c2]; simp)]
      · rw [if_neg c2, if_pos ⟨c1, by simpa using c2⟩]
        rfl
    · rw [if_neg c1, if_neg (fun h => c1 h.1)]
theorem next_ok {J : List S41} {D : List Bool} (hl : D.length = J.length) (hJ : J.length ≤ 1000000000000) (c : Int) {k : Nat} (hk : J.length < k) : spec_l12Next.f k J D c = some ((flt J D c 0).headD (-1)) := by
  have := next_at hl hJ c J.length k 0 (by omega) (by omega) hk
  rw [show (0 : Int).toNat = 0 from rfl, List.drop_zero, List.drop_zero] at this
  exact this
theorem rdT_get {J : List S41} {t : Int} {x : S41} (h : J[t.toNat]? = some x) : rd_T41 J t = x := by
  unfold rd_T41
  rw [List.getD_eq_getElem?_getD, h]
  rfl
/-- What both sides have in mind while jobs are done in turn. -/
def St (W : List Int) (J : List S41) (L : List (List Int)) (D : List Bool) (C out : List Int) : Prop :=
  L.length = W.length ∧ C.length = W.length ∧ D.length = J.length ∧ (∀ c, 0 ≤ c → c < (W.length : Int) → rd_L1 L c = flt J D c 0) ∧ out.length + cntF D = J.length
def low (W C : List Int) : Prop := ∀ c, 0 ≤ c → c < (W.length : Int) → 0 ≤ rd C c ∧ rd C c ≤ 8
def lowBut (W C : List Int) (a : Int) : Prop := (∀ c, 0 ≤ c → c < (W.length : Int) → c ≠ a → 0 ≤ rd C c ∧ rd C c ≤ 8) ∧ 0 ≤ rd C a ∧ rd C a ≤ 89
theorem tmod_cls {c m : Int} (h0 : 0 ≤ c) (h1 : c < m) : Int.tmod (c + 1) m = if c + 1 = m then 0 else c + 1 := by
  rw [Int.tmod_eq_emod_of_nonneg (by omega)]
  by_cases h : c + 1 = m
  · rw [if_pos h, h, Int.emod_self]
  · rw [if_neg h]
    exact Int.emod_eq_of_lt (by omega) (by omega)
def P1 (W : List Int) (J : List S41) (q : Nat) (c : Int) : Prop := ∀ L D C out, St W J L D C out → low W C → cntF D ≤ q → (cntF D < q ∨ ∃ c', c ≤ c' ∧ c' < (W.length : Int) ∧ flt J D c' 0 ≠ []) →
  ∃ r : List Int, r.length = J.length ∧ ∀ k : Nat, 12 * (q : Int) + 2 * ((W.length : Int) - c) + 1 + cntF D + J.length + 5 ≤ k → spec_FairOrder.l1 k W J out D C c = some r ∧ impl_FairOrder.l0 k W J L C out (if c = W.length then 0 else c) = some r
theorem fair_drain {W : List Int} {J : List S41} (hv : jv W J = true) {c : Int} (h0 : 0 ≤ c) (h1 : c < (W.length : Int)) {q : Nat} (next : P1 W J q (c + 1)) (u : Nat) : ∀ L D C out, cntF D = u → St W J L D C out → lowBut W C c → cntF D ≤ q → (cntF D < q ∨ ∃ t rs, flt J D c 0 = t :: rs ∧ (rd_T41 J t).f1 ≤ rd C c) →
    ∃ r : List Int, r.length = J.length ∧ ∀ k : Nat, 12 * (q : Int) + 2 * ((W.length : Int) - c) + cntF D + J.length + 5 ≤ k → spec_FairOrder.l2 k W J out D C c ((flt J D c 0).headD (-1)) = some r ∧ impl_FairOrder.l1 k W J L C out c = some r := by
  obtain ⟨v1, v2, v3, v4, v5⟩ := jv_at hv
  induction u with
  | zero =>
    intro L D C out hu hs hc hq hor
    have hs0 := hs
    obtain ⟨s1, s2, s3, s4, s5⟩ := hs
    have el := s4 c h0 h1
    cases hf : flt J D c 0 with
    | cons t rs =>
      have := cntF_set D _ (flt_hit J D c 0 t rs hf).2.2.2.1
      omega
    | nil =>
      rw [hf] at el
      have lo : low W (C.set c.toNat 0) := fun a ha hb => by
        unfold rd
        rw [gd_set h0 ha (by omega)]
        by_cases e : a = c
        · rw [if_pos e]; omega
        · rw [if_neg e]; exact hc.1 a ha hb e
      obtain ⟨r, hl, hr⟩ := next L D (C.set c.toNat 0) out ⟨s1, by simpa using s2, s3, s4, s5⟩ lo hq (.inl (by
        rcases hor with h | ⟨t, rs, h, _⟩
        · exact h
        · rw [hf] at h; simp at h))
      refine ⟨r, hl, fun k hk => ?_⟩
      obtain ⟨k, rfl⟩ : ∃ m, k = m + 1 := ⟨k - 1, by omega⟩
      obtain ⟨r1, r2⟩ := hr k (by push_cast at hk ⊢; omega)
      constructor
      · rw [show ([] : List Int).headD (-1) = -1 from rfl]
        simp only [spec_FairOrder.l2]
        rw [if_neg (by omega), if_pos (by omega), if_pos h0, if_pos (by omega), w_in (by omega) (by omega)]
        exact r1
      · simp only [impl_FairOrder.l1]
        rw [el, if_pos h0, if_pos (by omega), if_neg (by simp), if_pos (by simp), if_pos (by omega), if_neg (by omega), w_in (by omega) (by omega), tmod_cls h0 h1]
        exact r2
  | succ u ih =>
    intro L D C out hu hs hc hq hor
    have hs0 := hs
    obtain ⟨s1, s2, s3, s4, s5⟩ := hs
    have el := s4 c h0 h1
    cases hf : flt J D c 0 with
    | nil =>
      rw [hf] at el
      have lo : low W (C.set c.toNat 0) := fun a ha hb => by
        unfold rd
        rw [gd_set h0 ha (by omega)]
        by_cases e : a = c
        · rw [if_pos e]; omega
        · rw [if_neg e]; exact hc.1 a ha hb e
      obtain ⟨r, hl, hr⟩ := next L D (C.set c.toNat 0) out ⟨s1, by simpa using s2, s3, s4, s5⟩ lo hq (.inl (by
        rcases hor with h | ⟨t, rs, h, _⟩
        · exact h
        · rw [hf] at h; simp at h))
      refine ⟨r, hl, fun k hk => ?_⟩
      obtain ⟨k, rfl⟩ : ∃ m, k = m + 1 := ⟨k - 1, by omega⟩
      obtain ⟨r1, r2⟩ := hr k (by push_cast at hk ⊢; omega)
      constructor
      · rw [show ([] : List Int).headD (-1) = -1 from rfl]
        simp only [spec_FairOrder.l2]
        rw [if_neg (by omega), if_pos (by omega), if_pos h0, if_pos (by omega), w_in (by omega) (by omega)]
        exact r1
      · simp only [impl_FairOrder.l1]
        rw [el, if_pos h0, if_pos (by omega), if_neg (by simp), if_pos (by simp), if_pos (by omega), if_neg (by omega), w_in (by omega) (by omega), tmod_cls h0 h1]
        exact r2
    | cons t rs =>
      obtain ⟨f1, f2, ⟨x, f3, f3'⟩, f4, f5, f6⟩ := flt_hit J D c 0 t rs hf
      rw [show (t - 0).toNat = t.toNat by omega] at f3 f4 f5 f6
      have ex := rdT_get f3
      have hx := v5 x (List.mem_of_getElem? f3)
      have cF := cntF_set D _ f4
      rw [hf] at el
      have er : rd (t :: rs) 0 = t := rfl
      have hcb := hc.2
      by_cases hz : x.f1 ≤ rd C c
      · have lb : lowBut W (C.set c.toNat (rd C c - x.f1)) c := by
          refine ⟨fun a ha hb hne => ?_, ?_⟩
          · unfold rd
            rw [gd_set h0 ha (by omega), if_neg hne]
            exact hc.1 a ha hb hne
          · have : rd (C.set c.toNat (rd C c - x.f1)) c = rd C c - x.f1 := by
              rw [show rd (C.set c.toNat (rd C c - x.f1)) c = (C.set c.toNat (rd C c - x.f1)).getD c.toNat 0 from rfl, gd_set h0 h0 (by omega), if_pos rfl]
            have := hc.2
            omega
        have st : St W J (L.set c.toNat rs) (D.set t.toNat true) (C.set c.toNat (rd C c - x.f1)) (out ++ [t]) := by
          refine ⟨by simpa using s1, by simpa using s2, by simpa using s3, fun a ha hb => ?_, ?_⟩
          · unfold rd_L1
            rw [gd_set h0 ha (by omega)]
            by_cases e : a = c
            · rw [if_pos e, e, f5]
            · rw [if_neg e, f6 a e]
              exact s4 a ha hb
          · rw [List.length_append, List.length_singleton]
            omega
        obtain ⟨r, hl, hr⟩ := ih (L.set c.toNat rs) (D.set t.toNat true) (C.set c.toNat (rd C c - x.f1)) (out ++ [t]) (by omega) st lb (by omega) (.inl (by omega))
        rw [f5] at hr
        refine ⟨r, hl, fun k hk => ?_⟩
        obtain ⟨k, rfl⟩ : ∃ m, k = m + 1 := ⟨k - 1, by omega⟩
        obtain ⟨r1, r2⟩ := hr k (by push_cast at hk ⊢; omega)
        constructor
        · rw [show (t :: rs).headD (-1) = t from rfl]
          simp only [spec_FairOrder.l2]
          rw [if_pos (by omega), if_pos (by omega), if_pos (by omega), if_pos h0, if_pos (by omega), ex, if_pos hz, if_pos (by omega), bs rfl, if_pos (by omega), bs (next_ok (by simpa using s3) (by omega) c (by omega)), w_in (n := rd C c - x.f1) (by omega) (by omega), f5]
          exact r1
        · simp only [impl_FairOrder.l1]
          rw [el, er, if_pos h0, if_pos (by omega), if_pos (by simp <;> omega), if_pos (by simp <;> omega), if_pos (by omega), if_pos (by omega), if_pos (by omega), ex, if_pos hz, if_pos (by simp <;> omega), if_pos (by omega), w_in (n := rd C c - x.f1) (by omega) (by omega)]
          exact r2
      · have lo : low W C := fun a ha hb => by
          by_cases e : a = c
          · rw [e]
            have := hc.2
            omega
          · exact hc.1 a ha hb e
        obtain ⟨r, hl, hr⟩ := next L D C out hs0 lo hq (.inl (by
          rcases hor with h | ⟨t', rs', h, h2⟩
          · exact h
          · rw [hf] at h
            injection h with h3 h4
            rw [← h3, ex] at h2
            omega))
        refine ⟨r, hl, fun k hk => ?_⟩
        obtain ⟨k, rfl⟩ : ∃ m, k = m + 1 := ⟨k - 1, by omega⟩
        obtain ⟨r1, r2⟩ := hr k (by push_cast at hk ⊢; omega)
        constructor
        · rw [show (t :: rs).headD (-1) = t from rfl]
          simp only [spec_FairOrder.l2]
          rw [if_pos (by omega), if_pos (by omega), if_pos (by omega), if_pos h0, if_pos (by omega), ex, if_neg hz, if_neg (by omega), w_in (by omega) (by omega)]
          exact r1
        · simp only [impl_FairOrder.l1]
          rw [el, er, if_pos h0, if_pos (by omega), if_pos (by simp), if_pos (by simp), if_pos (by omega), if_pos (by omega), if_pos (by omega), ex, if_neg hz, if_neg (by simp <;> omega), if_neg (by omega), w_in (by omega) (by omega), tmod_cls h0 h1]
          exact r2
theorem rdW {W : List Int} (h : ∀ x ∈ W, 1 ≤ x ∧ x ≤ 9) {c : Int} (h0 : 0 ≤ c) (h1 : c < (W.length : Int)) : 1 ≤ rd W c ∧ rd W c ≤ 9 := by
  unfold rd
  rw [List.getD_eq_getElem?_getD, List.getElem?_eq_getElem (by omega)]
  exact h _ (List.getElem_mem _)
/-- One class's turn, and those behind it. -/
theorem fair_pass {W : List Int} {J : List S41} (hv : jv W J = true) {q : Nat} (again : ∀ L D C out, St W J L D C out → low W C → cntF D < q → ∃ r : List Int, r.length = J.length ∧ ∀ k : Nat, 13 * (cntF D : Int) + 12 + J.length + 5 ≤ k → spec_FairOrder.l0 k W J out D C = some r ∧ impl_FairOrder.l0 k W J L C out 0 = some r) (d : Nat) :
    ∀ c : Int, 0 ≤ c → c + d = (W.length : Int) → P1 W J q c := by
  obtain ⟨v1, v2, v3, v4, v5⟩ := jv_at hv
  induction d with
  | zero =>
    intro c h0 h1 L D C out hs lo hq hor
    obtain ⟨r, hl, hr⟩ := again L D C out hs lo (by
      rcases hor with h | ⟨c', h, h2, _⟩
      · exact h
      · omega)
    have hlt : cntF D < q := by
      rcases hor with h | ⟨c', h, h2, _⟩
      · exact h
      · omega
    refine ⟨r, hl, fun k hk => ?_⟩
    obtain ⟨k, rfl⟩ : ∃ m, k = m + 1 := ⟨k - 1, by omega⟩
    obtain ⟨r1, _⟩ := hr k (by push_cast at hk ⊢; omega)
    obtain ⟨_, r2⟩ := hr (k + 1) (by push_cast at hk ⊢; omega)
    constructor
    · simp only [spec_FairOrder.l1]
      rw [if_neg (by omega)]
      exact r1
    · rw [if_pos (by omega)]
      exact r2
  | succ d ih =>
    intro c h0 h1 L D C out hs lo hq hor
    have next := ih (c + 1) (by omega) (by push_cast at h1 ⊢; omega)
    have hc1 : c < (W.length : Int) := by omega
    have hs0 := hs
    obtain ⟨s1, s2, s3, s4, s5⟩ := hs
    have el := s4 c h0 hc1
    have wb := rdW v3 h0 hc1
    have cb := lo c h0 hc1
    cases hf : flt J D c 0 with
    | nil =>
      rw [hf] at el
      obtain ⟨r, hl, hr⟩ := next L D C out hs0 lo hq (by
        rcases hor with h | ⟨c', h, h2, h3⟩
        · exact .inl h
        · refine .inr ⟨c', ?_, h2, h3⟩
          have : c' ≠ c := fun e => by rw [e] at h3; exact h3 hf
          omega)
      refine ⟨r, hl, fun k hk => ?_⟩
      obtain ⟨k, rfl⟩ : ∃ m, k = m + 1 := ⟨k - 1, by omega⟩
      obtain ⟨r1, r2⟩ := hr k (by push_cast at hk ⊢; omega)
      constructor
      · simp only [spec_FairOrder.l1]
        rw [if_pos hc1, bs (next_ok s3 (by omega) c (by omega)), hf, show ([] : List Int).headD (-1) = -1 from rfl, if_pos (by omega), w_in (by omega) (by omega)]
        exact r1
      · rw [if_neg (by omega)]
        simp only [impl_FairOrder.l0]
        by_cases hn : (out.length : Int) < (J.length : Int)
        · rw [if_pos hn, if_pos h0, if_pos (by omega), el, if_pos (by simp), if_neg (by omega), w_in (by omega) (by omega), tmod_cls h0 hc1]
          exact r2
        · rw [if_neg hn]
          obtain ⟨k, rfl⟩ : ∃ m, k = m + 1 := ⟨k - 1, by omega⟩
          simp only [impl_FairOrder.l0] at r2
          rw [if_neg hn] at r2
          exact r2
    | cons t rs =>
      rw [hf] at el
      obtain ⟨f1, f2, ⟨x, f3, f3'⟩, f4, f5, f6⟩ := flt_hit J D c 0 t rs hf
      rw [show (t - 0).toNat = t.toNat by omega] at f3 f4 f5 f6
      have ex := rdT_get f3
      have hx := v5 x (List.mem_of_getElem? f3)
      have cF := cntF_set D _ f4
      have eC : rd (C.set c.toNat (rd C c + 9 * rd W c)) c = rd C c + 9 * rd W c := by
        rw [show rd (C.set c.toNat (rd C c + 9 * rd W c)) c = (C.set c.toNat (rd C c + 9 * rd W c)).getD c.toNat 0 from rfl, gd_set h0 h0 (by omega), if_pos rfl]
      have lb : lowBut W (C.set c.toNat (rd C c + 9 * rd W c)) c := by
        refine ⟨fun a ha hb hne => ?_, ?_⟩
        · unfold rd
          rw [gd_set h0 ha (by omega), if_neg hne]
          exact lo a ha hb
        · omega
      obtain ⟨r, hl, hr⟩ := fair_drain hv h0 hc1 next (cntF D) L D (C.set c.toNat (rd C c + 9 * rd W c)) out rfl ⟨s1, by simpa using s2, s3, s4, s5⟩ lb hq (.inr ⟨t, rs, hf, by rw [ex, eC]; omega⟩)
      refine ⟨r, hl, fun k hk => ?_⟩
      obtain ⟨k, rfl⟩ : ∃ m, k = m + 1 := ⟨k - 1, by omega⟩
      obtain ⟨r1, r2⟩ := hr k (by push_cast at hk ⊢; omega)
      rw [hf] at r1
      constructor
      · simp only [spec_FairOrder.l1]
        rw [if_pos hc1, bs (next_ok s3 (by omega) c (by omega)), hf]
        rw [show (t :: rs).headD (-1) = t from rfl] at r1 ⊢
        rw [if_neg (by omega), if_pos h0, if_pos (by omega), w_in (n := 9 * rd W c) (by omega) (by omega), w_in (n := rd C c + 9 * rd W c) (by omega) (by omega)]
        exact r1
      · rw [if_neg (by omega)]
        simp only [impl_FairOrder.l0]
        rw [if_pos (by omega), if_pos h0, if_pos (by omega), el, if_neg (by simp <;> omega), if_pos (by omega), if_pos hc1, w_in (n := 9 * rd W c) (by omega) (by omega), w_in (n := rd C c + 9 * rd W c) (by omega) (by omega)]
        exact r2
theorem fair_all {W : List Int} {J : List S41} (hv : jv W J = true) (u : Nat) : ∀ L D C out, cntF D ≤ u → St W J L D C out → low W C → ∃ r : List Int, r.length = J.length ∧ ∀ k : Nat, 13 * (cntF D : Int) + 12 + J.length + 5 ≤ k → spec_FairOrder.l0 k W J out D C = some r ∧ impl_FairOrder.l0 k W J L C out 0 = some r := by
  obtain ⟨v1, v2, v3, v4, v5⟩ := jv_at hv
  induction u with
  | zero =>
    intro L D C out hu hs lo
    obtain ⟨s1, s2, s3, s4, s5⟩ := hs
    refine ⟨out, by omega, fun k hk => ?_⟩
    obtain ⟨k, rfl⟩ : ∃ m, k = m + 1 := ⟨k - 1, by omega⟩
    constructor
    · simp only [spec_FairOrder.l0]
      rw [if_neg (by omega)]
    · simp only [impl_FairOrder.l0]
      rw [if_neg (by omega)]
  | succ u ih =>
    intro L D C out hu hs lo
    by_cases hz : cntF D = 0
    · exact ih L D C out (by omega) hs lo
    have again := fun L' D' C' out' hs' lo' (h : cntF D' < cntF D) => ih L' D' C' out' (by omega) hs' lo'
    have hs0 := hs
    obtain ⟨s1, s2, s3, s4, s5⟩ := hs
    obtain ⟨c, c0, c1, c2⟩ := flt_some J D (W.length : Int) 0 s3 (fun x hx => (v5 x hx).1) (by omega)
    obtain ⟨r, hl, hr⟩ := fair_pass hv (q := cntF D) again W.length 0 (by omega) (by omega) L D C out hs0 lo (Nat.le_refl _) (.inr ⟨c, c0, c1, c2⟩)
    refine ⟨r, hl, fun k hk => ?_⟩
    obtain ⟨k, rfl⟩ : ∃ m, k = m + 1 := ⟨k - 1, by omega⟩
    obtain ⟨r1, _⟩ := hr k (by push_cast at hk ⊢; omega)
    obtain ⟨_, r2⟩ := hr (k + 1) (by push_cast at hk ⊢; omega)
    constructor
    · simp only [spec_FairOrder.l0]
      rw [if_pos (by omega)]
      exact r1
    · rw [if_neg (by omega)] at r2
      exact r2
theorem flt_snoc : ∀ (J : List S41) (D : List Bool) (x : S41) (c i : Int), D.length = J.length → flt (J ++ [x]) (D ++ [false]) c i = flt J D c i ++ (if x.f0 = c then [i + (J.length : Int)] else [])
  | [], [], x, c, i, _ => by
    simp only [List.nil_append, flt]
    by_cases h : x.f0 = c
    · rw [if_pos ⟨h, trivial⟩, if_pos h]
      simp
    · rw [if_neg (fun e => h e.1), if_neg h]
  | [], _ :: _, _, _, _, h => by simp at h
  | _ :: _, [], _, _, _, h => by simp at h
  | y :: J, d :: D, x, c, i, h => by
    rw [List.cons_append, List.cons_append]
    simp only [flt]
    rw [flt_snoc J D x c (i + 1) (by simpa using h), show i + 1 + (J.length : Int) = i + (((y :: J).length : Nat) : Int) by rw [List.length_cons]; push_cast; omega]
    split <;> rfl
theorem flt_len : ∀ (J : List S41) (D : List Bool) (c i : Int), (flt J D c i).length ≤ J.length
  | [], _, _, _ => by simp [flt]
  | _ :: _, [], _, _ => by simp [flt]
  | x :: J, d :: D, c, i => by
    have := flt_len J D c (i + 1)
    simp only [flt]
    split <;> simp <;> omega
theorem by_loop {W : List Int} {J : List S41} (hJ : J.length ≤ 1000000000000) (hx : ∀ x ∈ J, 0 ≤ x.f0 ∧ x.f0 < (W.length : Int)) (d : Nat) : ∀ (i : Int) (L : List (List Int)), 0 ≤ i → i + d = J.length → L.length = W.length → (∀ c, 0 ≤ c → c < (W.length : Int) → rd_L1 L c = flt (J.take i.toNat) (List.replicate i.toNat false) c 0) →
    ∃ R : List (List Int), R.length = W.length ∧ (∀ c, 0 ≤ c → c < (W.length : Int) → rd_L1 R c = flt J (List.replicate J.length false) c 0) ∧ ∀ k, d < k → impl_byClass.l0 k L J (J.length : Int) i = some R := by
  induction d with
  | zero =>
    intro i L h0 h1 hl hc
    refine ⟨L, hl, fun c c0 c1 => ?_, fun k hk => ?_⟩
    · have := hc c c0 c1
      rw [List.take_of_length_le (by omega), show i.toNat = J.length by omega] at this
      exact this
    · obtain ⟨k, rfl⟩ : ∃ q, k = q + 1 := ⟨k - 1, by omega⟩
      simp only [impl_byClass.l0]
      rw [if_neg (by omega)]
  | succ d ih =>
    intro i L h0 h1 hl hc
    have hi : i.toNat < J.length := by omega
    have hm := hx _ (List.getElem_mem hi)
    have ex : rd_T41 J i = J[i.toNat] := rdT_get (List.getElem?_eq_getElem hi)
    have et : J.take (i + 1).toNat = J.take i.toNat ++ [J[i.toNat]] := by
      rw [show (i + 1).toNat = i.toNat + 1 by omega, List.take_succ_eq_append_getElem hi]
    have ed : List.replicate (i + 1).toNat false = List.replicate i.toNat false ++ [false] := by
      rw [show (i + 1).toNat = i.toNat + 1 by omega, List.replicate_succ']
    have eL := hc _ hm.1 hm.2
    obtain ⟨R, r1, r2, r3⟩ := ih (i + 1) (L.set (J[i.toNat].f0).toNat (rd_L1 L (J[i.toNat].f0) ++ [i])) (by omega) (by omega) (by simpa using hl) (fun c c0 c1 => by
      rw [et, ed, flt_snoc _ _ _ _ _ (by rw [List.length_replicate, List.length_take]; omega), show (0 : Int) + ((J.take i.toNat).length : Int) = i by rw [List.length_take]; omega]
      unfold rd_L1
      rw [gd_set hm.1 c0 (by omega)]
      by_cases e : c = J[i.toNat].f0
      · rw [if_pos e, if_pos e.symm, ← e, show L.getD c.toNat [] = rd_L1 L c from rfl, hc c c0 c1]
      · rw [if_neg e, if_neg (fun h => e h.symm), List.append_nil]
        exact hc c c0 c1)
    refine ⟨R, r1, r2, fun k hk => ?_⟩
    obtain ⟨k, rfl⟩ : ∃ q, k = q + 1 := ⟨k - 1, by omega⟩
    have hfl := flt_len (J.take i.toNat) (List.replicate i.toNat false) (J[i.toNat].f0) 0
    rw [← eL, List.length_take] at hfl
    simp only [impl_byClass.l0]
    rw [ex, if_pos (by omega), if_pos h0, if_pos (by omega), if_pos hm.1, if_pos (by omega), if_pos (by omega), w_in (by omega) (by omega)]
    exact r3 k (by omega)
theorem by_ok {W : List Int} {J : List S41} (hv : jv W J = true) : ∃ R : List (List Int), R.length = W.length ∧ (∀ c, 0 ≤ c → c < (W.length : Int) → rd_L1 R c = flt J (List.replicate J.length false) c 0) ∧ ∀ k, J.length < k → impl_byClass.f k W J = some R := by
  obtain ⟨v1, v2, v3, v4, v5⟩ := jv_at hv
  obtain ⟨R, r1, r2, r3⟩ := by_loop (W := W) (J := J) (by omega) (fun x hx => (v5 x hx).1) J.length 0 (List.replicate W.length []) (by omega) (by omega) (by simp) (fun c c0 c1 => by
    rw [show (0 : Int).toNat = 0 from rfl, List.take_zero]
    unfold rd_L1 flt
    rw [List.getD_eq_getElem?_getD, List.getElem?_replicate]
    split <;> rfl)
  refine ⟨R, r1, r2, fun k hk => ?_⟩
  unfold impl_byClass.f
  rw [if_pos (by omega), if_pos (by omega), show ((W.length : Int)).toNat = W.length by omega]
  exact r3 k hk
theorem rep0 (n : Nat) (i : Int) : rd (List.replicate n 0) i = 0 := by
  unfold rd
  rw [List.getD_eq_getElem?_getD, List.getElem?_replicate]
  split <;> rfl
theorem fair_ok {W : List Int} {J : List S41} (hW : W.length ≤ 1000000000000) (hJ : J.length ≤ 1000000000000) : ∃ r : List Int, r.length ≤ J.length ∧ ∀ k, J.length + W.length + 1000 < k → spec_FairOrder.f k W J = some r ∧ impl_FairOrder.f k W J = some r := by
  by_cases hv : jv W J = true
  · obtain ⟨v1, v2, v3, v4, v5⟩ := jv_at hv
    obtain ⟨R, r1, r2, r3⟩ := by_ok hv
    obtain ⟨r, hl, hr⟩ := fair_all hv J.length R (List.replicate J.length false) (List.replicate W.length 0) [] (by rw [cntF_rep]; omega) ⟨r1, by simp, by simp, r2, by rw [cntF_rep]; simp⟩ (fun c _ _ => by rw [rep0]; omega)
    rw [cntF_rep] at hr
    refine ⟨r, by omega, fun k hk => ?_⟩
    obtain ⟨s1, s2⟩ := hr k (by omega)
    constructor
    · unfold spec_FairOrder.f
      rw [bs rfl, bs (spec_jv hW hJ (by omega)), if_pos hv, if_pos (by omega), if_pos (by omega), if_pos (by omega), if_pos (by omega), show ((J.length : Int)).toNat = J.length by omega, show ((W.length : Int)).toNat = W.length by omega]
      exact s1
    · unfold impl_FairOrder.f
      rw [bs (impl_jv hW), if_pos hv, bs (r3 k (by omega)), if_pos (by omega), if_pos (by omega), show ((W.length : Int)).toNat = W.length by omega]
      exact s2
  · refine ⟨[], by simp, fun k hk => ⟨?_, ?_⟩⟩
    · unfold spec_FairOrder.f
      rw [bs rfl, bs (spec_jv hW hJ (by omega)), if_neg hv]
    · unfold impl_FairOrder.f
      rw [bs (impl_jv hW), if_neg hv]
/-- The jobs of d classes from c on, class by class. -/
def cat (J : List S41) (c : Int) : Nat → List Int
  | 0 => []
  | d + 1 => flt J (List.replicate J.length false) c 0 ++ cat J (c + 1) d
theorem cat_len (J : List S41) : ∀ (d : Nat) (c : Int), (cat J c d).length ≤ J.length * d
  | 0, _ => by simp [cat]
  | d + 1, c => by
    have h1 := cat_len J d (c + 1)
    have h2 := flt_len J (List.replicate J.length false) c 0
    simp only [cat, List.length_append]
    rw [Nat.mul_add, Nat.mul_one]
    omega
theorem cc_rows {R : List (List Int)} {J : List S41} (hJ : J.length ≤ 60) (hR : R.length ≤ 4) (hr : ∀ c, 0 ≤ c → c < (R.length : Int) → rd_L1 R c = flt J (List.replicate J.length false) c 0) (d : Nat) : ∀ (k : Nat) (i : Int) (x : List Int), 0 ≤ i → i + d = R.length → (x.length : Int) ≤ 60 * i → d < k →
    slices_Concat_int_int.l1 k x R (R.length : Int) i = some (x ++ cat J i d) := by
  induction d with
  | zero =>
    intro k i x h0 h1 hx hk
    obtain ⟨k, rfl⟩ : ∃ q, k = q + 1 := ⟨k - 1, by omega⟩
    simp only [slices_Concat_int_int.l1]
    rw [if_neg (by omega)]
    simp [cat]
  | succ d ih =>
    intro k i x h0 h1 hx hk
    obtain ⟨k, rfl⟩ : ∃ q, k = q + 1 := ⟨k - 1, by omega⟩
    have hfl := flt_len J (List.replicate J.length false) i 0
    simp only [slices_Concat_int_int.l1]
    rw [hr i h0 (by omega), if_pos (by omega), if_pos h0, if_pos (by omega), if_pos (by omega), w_in (n := i + 1) (by omega) (by omega), ih k (i + 1) (x ++ flt J (List.replicate J.length false) i 0) (by omega) (by push_cast at h1 ⊢; omega) (by rw [List.length_append]; push_cast; omega) (by omega), List.append_assoc]
    rfl
theorem cc_sums {R : List (List Int)} {J : List S41} (hJ : J.length ≤ 60) (hR : R.length ≤ 4) (hr : ∀ c, 0 ≤ c → c < (R.length : Int) → rd_L1 R c = flt J (List.replicate J.length false) c 0) (d : Nat) : ∀ (k : Nat) (i s : Int), 0 ≤ i → i + d = R.length → 0 ≤ s → s ≤ 60 * i → d + 10 < k →
    slices_Concat_int_int.l0 k R s R (R.length : Int) i = some (cat J 0 R.length) := by
  induction d with
  | zero =>
    intro k i s h0 h1 hs hs2 hk
    obtain ⟨k, rfl⟩ : ∃ q, k = q + 1 := ⟨k - 1, by omega⟩
    simp only [slices_Concat_int_int.l0]
    have eg : growNil50.f s = some [] := by
      unfold growNil50.f
      rw [if_pos hs, if_pos (by omega)]
    rw [if_neg (by omega), bs eg, cc_rows hJ hR hr R.length k 0 [] (by omega) (by omega) (by simp) (by omega)]
    rfl
  | succ d ih =>
    intro k i s h0 h1 hs hs2 hk
    obtain ⟨k, rfl⟩ : ∃ q, k = q + 1 := ⟨k - 1, by omega⟩
    have hfl := flt_len J (List.replicate J.length false) i 0
    simp only [slices_Concat_int_int.l0]
    rw [hr i h0 (by omega)]
    generalize (flt J (List.replicate J.length false) i 0).length = q at hfl
    rw [if_pos (by omega), if_pos h0, if_pos (by omega), w_in (n := s + (q : Int)) (by omega) (by omega), if_neg (by omega), w_in (n := i + 1) (by omega) (by omega)]
    exact ih k (i + 1) _ (by omega) (by push_cast at h1 ⊢; omega) (by omega) (by omega) (by omega)
theorem strict_impl {W : List Int} {J : List S41} (hW : W.length ≤ 1000000000000) : ∃ r : List Int, r.length ≤ 240 ∧ (jv W J = true → r = cat J 0 W.length) ∧ (jv W J = false → r = []) ∧ ∀ k, J.length + W.length + 1000 < k → impl_StrictOrder.f k W J = some r := by
  by_cases hv : jv W J = true
  · obtain ⟨v1, v2, v3, v4, v5⟩ := jv_at hv
    obtain ⟨R, r1, r2, r3⟩ := by_ok hv
    have hc := cat_len J W.length 0
    have hc2 : J.length * W.length ≤ 60 * 4 := Nat.mul_le_mul v4 v2
    refine ⟨cat J 0 W.length, by omega, fun _ => rfl, fun h => by rw [hv] at h; exact absurd h (by simp), fun k hk => ?_⟩
    unfold impl_StrictOrder.f slices_Concat_int_int.f
    have := cc_sums (R := R) (J := J) v4 (by omega) (fun c c0 c1 => r2 c c0 (by omega)) R.length k 0 0 (by omega) (by omega) (by omega) (by omega) (by omega)
    rw [bs (impl_jv hW), if_pos hv, bs (r3 k (by omega)), bs this, r1]
  · refine ⟨[], by simp, fun h => absurd h hv, fun _ => rfl, fun k hk => ?_⟩
    unfold impl_StrictOrder.f
    rw [bs (impl_jv hW), if_neg hv]
def nxc (m c : Int) : Int := if c + 1 = m then 0 else c + 1
theorem nxc_bd {m c : Int} (h0 : 0 ≤ c) (h1 : c < m) : 0 ≤ nxc m c ∧ nxc m c < m := by
  unfold nxc
  split <;> omega
/-- What holds at the start and is kept by each step holds at the end. -/
theorem fair_part {W : List Int} {J : List S41} (hv : jv W J = true) (I : Bool → Int → List Bool → List Int → List Int → Prop)
    (skip : ∀ c D C out, 0 ≤ c → c < (W.length : Int) → low W C → I false c D C out → flt J D c 0 = [] → I false (nxc W.length c) D C out)
    (enter : ∀ c D C out t rs, 0 ≤ c → c < (W.length : Int) → C.length = W.length → low W C → I false c D C out → flt J D c 0 = t :: rs → I true c D (C.set c.toNat (rd C c + 9 * rd W c)) out)
    (take : ∀ c D C out t rs x, 0 ≤ c → c < (W.length : Int) → C.length = W.length → D.length = J.length → lowBut W C c → I true c D C out → flt J D c 0 = t :: rs → J[t.toNat]? = some x → x.f1 ≤ rd C c → I true c (D.set t.toNat true) (C.set c.toNat (rd C c - x.f1)) (out ++ [t]))
    (stay : ∀ c D C out t rs x, 0 ≤ c → c < (W.length : Int) → low W C → I true c D C out → flt J D c 0 = t :: rs → J[t.toNat]? = some x → ¬ x.f1 ≤ rd C c → I false (nxc W.length c) D C out)
    (over : ∀ c D C out, 0 ≤ c → c < (W.length : Int) → C.length = W.length → lowBut W C c → I true c D C out → flt J D c 0 = [] → I false (nxc W.length c) D (C.set c.toNat 0) out) (r : List Int) :
    ∀ k, (∀ L D C out c, 0 ≤ c → c < (W.length : Int) → St W J L D C out → low W C → I false c D C out → impl_FairOrder.l0 k W J L C out c = some r → ∃ c' D' C', I false c' D' C' r ∧ cntF D' = 0 ∧ D'.length = J.length) ∧
      (∀ L D C out c, 0 ≤ c → c < (W.length : Int) → St W J L D C out → lowBut W C c → I true c D C out → impl_FairOrder.l1 k W J L C out c = some r → ∃ c' D' C', I false c' D' C' r ∧ cntF D' = 0 ∧ D'.length = J.length) := by
  obtain ⟨v1, v2, v3, v4, v5⟩ := jv_at hv
  intro k
  induction k with
  | zero => exact ⟨fun _ _ _ _ _ _ _ _ _ _ h => by simp [impl_FairOrder.l0] at h, fun _ _ _ _ _ _ _ _ _ _ h => by simp [impl_FairOrder.l1] at h⟩
  | succ k ih =>
    obtain ⟨ih0, ih1⟩ := ih
    constructor
    · intro L D C out c h0 h1 hs lo hi h
      have hs0 := hs
      obtain ⟨s1, s2, s3, s4, s5⟩ := hs
      have el := s4 c h0 h1
      have wb := rdW v3 h0 h1
      have cb := lo c h0 h1
      simp only [impl_FairOrder.l0] at h
      by_cases hn : (out.length : Int) < (J.length : Int)
      · rw [if_pos hn, if_pos h0, if_pos (by omega), el] at h
        cases hf : flt J D c 0 with
        | nil =>
          rw [hf, if_pos (by simp), if_neg (by omega), w_in (by omega) (by omega), tmod_cls h0 h1] at h
          have nb := nxc_bd h0 h1
          exact ih0 L D C out _ nb.1 nb.2 hs0 lo (skip c D C out h0 h1 lo hi hf) h
        | cons t rs =>
          rw [hf, if_neg (by simp <;> omega), if_pos (by omega), if_pos h1, w_in (n := 9 * rd W c) (by omega) (by omega), w_in (n := rd C c + 9 * rd W c) (by omega) (by omega)] at h
          have eC : rd (C.set c.toNat (rd C c + 9 * rd W c)) c = rd C c + 9 * rd W c := by
            rw [show rd (C.set c.toNat (rd C c + 9 * rd W c)) c = (C.set c.toNat (rd C c + 9 * rd W c)).getD c.toNat 0 from rfl, gd_set h0 h0 (by omega), if_pos rfl]
          have lb : lowBut W (C.set c.toNat (rd C c + 9 * rd W c)) c := by
            refine ⟨fun a ha hb hne => ?_, ?_⟩
            · unfold rd
              rw [gd_set h0 ha (by omega), if_neg hne]
              exact lo a ha hb
            · omega
          exact ih1 L D _ out c h0 h1 ⟨s1, by simpa using s2, s3, s4, s5⟩ lb (enter c D C out t rs h0 h1 s2 lo hi hf) h
      · rw [if_neg hn] at h
        obtain rfl := Option.some.inj h
        exact ⟨c, D, C, hi, by omega, s3⟩
    · intro L D C out c h0 h1 hs lo hi h
      have hs0 := hs
      obtain ⟨s1, s2, s3, s4, s5⟩ := hs
      have el := s4 c h0 h1
      have nb := nxc_bd h0 h1
      have hcb := lo.2
      simp only [impl_FairOrder.l1] at h
      rw [if_pos h0, if_pos (by omega), el] at h
      cases hf : flt J D c 0 with
      | nil =>
        rw [hf, if_neg (by simp), if_pos (by simp), if_pos (by omega), if_neg (by omega), w_in (by omega) (by omega), tmod_cls h0 h1] at h
        have lo' : low W (C.set c.toNat 0) := fun a ha hb => by
          unfold rd
          rw [gd_set h0 ha (by omega)]
          by_cases e : a = c
          · rw [if_pos e]; omega
          · rw [if_neg e]; exact lo.1 a ha hb e
        exact ih0 L D _ out _ nb.1 nb.2 ⟨s1, by simpa using s2, s3, s4, s5⟩ lo' (over c D C out h0 h1 s2 lo hi hf) h
      | cons t rs =>
        obtain ⟨f1, f2, ⟨x, f3, f3'⟩, f4, f5, f6⟩ := flt_hit J D c 0 t rs hf
        rw [show (t - 0).toNat = t.toNat by omega] at f3 f4 f5 f6
        have ex := rdT_get f3
        have hx := v5 x (List.mem_of_getElem? f3)
        have cF := cntF_set D _ f4
        have er : rd (t :: rs) 0 = t := rfl
        rw [hf, er, if_pos (by simp <;> omega), if_pos (by simp <;> omega), if_pos (by omega), if_pos (by omega), if_pos (by omega), ex] at h
        by_cases hz : x.f1 ≤ rd C c
        · rw [if_pos hz, if_pos (by simp <;> omega), if_pos (by omega), w_in (n := rd C c - x.f1) (by omega) (by omega)] at h
          have eC : rd (C.set c.toNat (rd C c - x.f1)) c = rd C c - x.f1 := by
            rw [show rd (C.set c.toNat (rd C c - x.f1)) c = (C.set c.toNat (rd C c - x.f1)).getD c.toNat 0 from rfl, gd_set h0 h0 (by omega), if_pos rfl]
          have lb : lowBut W (C.set c.toNat (rd C c - x.f1)) c := by
            refine ⟨fun a ha hb hne => ?_, ?_⟩
            · unfold rd
              rw [gd_set h0 ha (by omega), if_neg hne]
              exact lo.1 a ha hb hne
            · omega
          have st : St W J (L.set c.toNat rs) (D.set t.toNat true) (C.set c.toNat (rd C c - x.f1)) (out ++ [t]) := by
            refine ⟨by simpa using s1, by simpa using s2, by simpa using s3, fun a ha hb => ?_, ?_⟩
            · unfold rd_L1
              rw [gd_set h0 ha (by omega)]
              by_cases e : a = c
              · rw [if_pos e, e, f5]
              · rw [if_neg e, f6 a e]
                exact s4 a ha hb
            · rw [List.length_append, List.length_singleton]
              omega
          exact ih1 _ _ _ _ c h0 h1 st lb (take c D C out t rs x h0 h1 s2 s3 lo hi hf f3 hz) h
        · rw [if_neg hz, if_neg (by simp <;> omega), if_neg (by omega), w_in (by omega) (by omega), tmod_cls h0 h1] at h
          have lo' : low W C := fun a ha hb => by
            by_cases e : a = c
            · rw [e]
              omega
            · exact lo.1 a ha hb e
          exact ih0 L D C out _ nb.1 nb.2 hs0 lo' (stay c D C out t rs x h0 h1 lo' hi hf f3 hz) h
theorem fair_ends {W : List Int} {J : List S41} (hv : jv W J = true) (I : Bool → Int → List Bool → List Int → List Int → Prop)
    (start : I false 0 (List.replicate J.length false) (List.replicate W.length 0) [])
    (skip : ∀ c D C out, 0 ≤ c → c < (W.length : Int) → low W C → I false c D C out → flt J D c 0 = [] → I false (nxc W.length c) D C out)
    (enter : ∀ c D C out t rs, 0 ≤ c → c < (W.length : Int) → C.length = W.length → low W C → I false c D C out → flt J D c 0 = t :: rs → I true c D (C.set c.toNat (rd C c + 9 * rd W c)) out)
    (take : ∀ c D C out t rs x, 0 ≤ c → c < (W.length : Int) → C.length = W.length → D.length = J.length → lowBut W C c → I true c D C out → flt J D c 0 = t :: rs → J[t.toNat]? = some x → x.f1 ≤ rd C c → I true c (D.set t.toNat true) (C.set c.toNat (rd C c - x.f1)) (out ++ [t]))
    (stay : ∀ c D C out t rs x, 0 ≤ c → c < (W.length : Int) → low W C → I true c D C out → flt J D c 0 = t :: rs → J[t.toNat]? = some x → ¬ x.f1 ≤ rd C c → I false (nxc W.length c) D C out)
    (over : ∀ c D C out, 0 ≤ c → c < (W.length : Int) → C.length = W.length → lowBut W C c → I true c D C out → flt J D c 0 = [] → I false (nxc W.length c) D (C.set c.toNat 0) out) {r : List Int} {k : Nat} (hk : J.length < k) (h : impl_FairOrder.f k W J = some r) :
    ∃ c' D' C', I false c' D' C' r ∧ cntF D' = 0 ∧ D'.length = J.length := by
  obtain ⟨v1, v2, v3, v4, v5⟩ := jv_at hv
  obtain ⟨R, r1, r2, r3⟩ := by_ok hv
  unfold impl_FairOrder.f at h
  rw [bs (impl_jv (by omega)), if_pos hv, bs (r3 k hk), if_pos (by omega), if_pos (by omega), show ((W.length : Int)).toNat = W.length by omega] at h
  exact (fair_part hv I skip enter take stay over r k).1 R (List.replicate J.length false) (List.replicate W.length 0) [] 0 (by omega) (by omega) ⟨r1, by simp, by simp, r2, by rw [cntF_rep]; simp⟩ (fun c _ _ => by rw [rep0]; omega) start h
theorem flt_none : ∀ (J : List S41) (D : List Bool) (c i : Int), cntF D = 0 → flt J D c i = []
  | [], _, _, _, _ => by simp [flt]
  | _ :: _, [], _, _, _ => by simp [flt]
  | x :: J, d :: D, c, i, h => by
    simp only [cntF] at h
    have hd : ¬ d = false := by
      intro e
      rw [if_pos e] at h
      omega
    simp only [flt]
    rw [if_neg (fun e => hd e.2)]
    exact flt_none J D c (i + 1) (by omega)
theorem wn_loop (l : List Int) (hl : l.length ≤ 1000000000000) (d : Nat) : ∀ (k : Nat) (i : Int), 0 ≤ i → i + d = l.length → d < k → laws_wnInts.l0 k l l (l.length : Int) i = some true := by
  induction d with
  | zero =>
    intro k i h0 h1 hk
    obtain ⟨k, rfl⟩ : ∃ q, k = q + 1 := ⟨k - 1, by omega⟩
    simp only [laws_wnInts.l0]
    rw [if_neg (by omega)]
  | succ d ih =>
    intro k i h0 h1 hk
    obtain ⟨k, rfl⟩ : ∃ q, k = q + 1 := ⟨k - 1, by omega⟩
    simp only [laws_wnInts.l0]
    rw [if_pos (by omega), if_pos h0, if_pos (by omega), if_pos (by omega), if_pos trivial, w_in (by omega) (by omega)]
    exact ih k (i + 1) (by omega) (by omega) (by omega)
theorem wn_ok {l : List Int} (hl : l.length ≤ 1000000000000) {k : Nat} (hk : l.length < k) : laws_wnInts.f k l l = some true := by
  unfold laws_wnInts.f
  rw [if_pos rfl]
  exact wn_loop l hl l.length k 0 (by omega) (by omega) hk
theorem dj_jobs {b : List Int} (hb : ∀ x ∈ b, 0 ≤ x ∧ x ≤ 255) {W : List Int} (hW : 1 ≤ W.length ∧ W.length ≤ 10) (d : Nat) : ∀ (k : Nat) (J : List S41) (c p : Int), c = d → d + 5 < k → J.length + d ≤ 1000 → 0 ≤ p → p + 2 * d ≤ 1000000 →
    ∃ W' J' p', spec_l12Jobs.l1 k W J c b p = some (W', J', p') ∧ W'.length ≤ 10 ∧ J'.length ≤ J.length + d + 1 := by
  induction d with
  | zero =>
    intro k J c p hc hk hJ hp hp2
    obtain ⟨k, rfl⟩ : ∃ m, k = m + 1 := ⟨k - 1, by omega⟩
    obtain ⟨v, e, _, _⟩ := pick_ok (k := k) (p := p) (n := 60) hb hp (by omega) (by omega) (by omega)
    obtain ⟨u, e2, _⟩ := num_ok (k := k) (b := b) (p := p + 1) (xs := [0, 10]) hb (by omega) (by omega) (by simp) (by omega)
    obtain ⟨u5, e5, hu5⟩ := num_ok (k := k) (b := b) (p := p + 1) (xs := [0, 5]) hb (by omega) (by omega) (by simp) (by omega)
    have hu : 0 ≤ u5 ∧ u5 ≤ 5 := by
      simp at hu5
      omega
    simp only [spec_l12Jobs.l1]
    rw [if_neg (by omega), bs e]
    dsimp only
    by_cases h0 : v = 0
    · rw [if_pos h0, bs e2]
      dsimp only
      rw [if_pos (by omega)]
      exact ⟨_, _, _, rfl, by simp; omega, by omega⟩
    rw [if_neg h0]
    by_cases h1 : v = 1
    · rw [if_pos h1, if_pos (by omega)]
      exact ⟨_, _, _, rfl, by omega, by simp⟩
    rw [if_neg h1]
    by_cases h2 : v = 2
    · rw [if_pos h2, bs e2]
      dsimp only
      rw [if_pos (by omega)]
      exact ⟨_, _, _, rfl, by omega, by simp⟩
    rw [if_neg h2]
    by_cases h3 : v = 3
    · rw [if_pos h3, bs (show (some ([1, 1, 1, 1, 1] : List Int)) = some [1, 1, 1, 1, 1] from rfl), bs e5]
      dsimp only
      rw [if_pos (by omega), if_pos (by simp; omega)]
      exact ⟨_, _, _, rfl, by rw [List.length_take]; simp; omega, by omega⟩
    · rw [if_neg h3]
      exact ⟨_, _, _, rfl, by omega, by omega⟩
  | succ d ih =>
    intro k J c p hc hk hJ hp hp2
    obtain ⟨k, rfl⟩ : ∃ m, k = m + 1 := ⟨k - 1, by omega⟩
    obtain ⟨v, e, hv0, hv1⟩ := pick_ok (k := k) (p := p) (n := (W.length : Int)) hb hp (by omega) (by omega) (by omega)
    obtain ⟨u, e2, hu0, hu1⟩ := pick_ok (k := k) (p := p + 1) (n := 9) hb (by omega) (by omega) (by omega) (by omega)
    simp only [spec_l12Jobs.l1]
    rw [if_pos (by omega), bs e]
    dsimp only
    rw [bs e2]
    dsimp only
    rw [if_pos (by omega), w_in (n := 1 + u) (by omega) (by omega), w_in (n := c - 1) (by omega) (by omega)]
    obtain ⟨W', J', p', e', h1, h2⟩ := ih k (J ++ [⟨v, 1 + u⟩]) (c - 1) (p + 1 + 1) (by omega) (by omega) (by simp; omega) (by omega) (by push_cast at hp2 ⊢; omega)
    exact ⟨W', J', p', e', h1, by simp at h2; omega⟩
theorem dj_weights {b : List Int} (hb : ∀ x ∈ b, 0 ≤ x ∧ x ≤ 255) (d : Nat) : ∀ (k : Nat) (W : List Int) (c p : Int), c = d → d + 50 < k → 1 ≤ W.length + d → W.length + d ≤ 10 → 0 ≤ p → p + d ≤ 1000 →
    ∃ W' J' p', spec_l12Jobs.l0 k W c b p = some (W', J', p') ∧ W'.length ≤ 10 ∧ J'.length ≤ 31 := by
  induction d with
  | zero =>
    intro k W c p hc hk hW hW2 hp hp2
    obtain ⟨k, rfl⟩ : ∃ m, k = m + 1 := ⟨k - 1, by omega⟩
    obtain ⟨v, e, hv⟩ := num_ok (k := k) (b := b) (p := p) (xs := [8, 14, 4, 30, 0, 1]) hb hp (by omega) (by simp) (by omega)
    have hv' : 0 ≤ v ∧ v ≤ 30 := by
      simp at hv
      omega
    simp only [spec_l12Jobs.l0]
    rw [if_neg (by omega), bs e]
    dsimp only
    obtain ⟨W', J', p', e', h1, h2⟩ := dj_jobs hb (W := W) (by omega) v.toNat k [] v (p + 1) (by omega) (by omega) (by simp; omega) (by omega) (by omega)
    exact ⟨W', J', p', e', h1, by simp at h2; omega⟩
  | succ d ih =>
    intro k W c p hc hk hW hW2 hp hp2
    obtain ⟨k, rfl⟩ : ∃ m, k = m + 1 := ⟨k - 1, by omega⟩
    obtain ⟨v, e, _⟩ := num_ok (k := k) (b := b) (p := p) (xs := [1, 2, 1, 3, 9]) hb hp (by omega) (by simp) (by omega)
    simp only [spec_l12Jobs.l0]
    rw [if_pos (by omega), bs e]
    dsimp only
    rw [if_pos (by omega), w_in (n := c - 1) (by omega) (by omega)]
    exact ih k (W ++ [v]) (c - 1) (p + 1) (by omega) (by omega) (by simp; omega) (by simp; omega) (by omega) (by omega)
theorem drawFair {l0 : List Int} (hl0 : ∀ x ∈ l0, (Lit.int .u8 x).wf = true) {k : Nat} (hk : 100 ≤ k) : ∃ W J, spec_DrawFairOrder.f k l0 = some (W, J) ∧ W.length ≤ 10 ∧ J.length ≤ 31 := by
  obtain ⟨b, e, hb⟩ := open_ok hl0
  obtain ⟨v, e1, hv⟩ := num_ok (k := k) (b := b) (p := 0) (xs := [2, 3, 4, 1]) hb (by omega) (by omega) (by simp) (by omega)
  have hv' : 1 ≤ v ∧ v ≤ 4 := by
    simp at hv
    omega
  obtain ⟨W, J, p, e2, h1, h2⟩ := dj_weights hb v.toNat k [] v (0 + 1) (by omega) (by omega) (by simp; omega) (by simp; omega) (by omega) (by omega)
  refine ⟨W, J, ?_, h1, h2⟩
  unfold spec_DrawFairOrder.f spec_l12Jobs.f
  rw [bs e]
  dsimp only
  rw [bs e1]
  dsimp only
  rw [bs e2]
theorem flt_other : ∀ (J : List S41) (D : List Bool) (c c' i : Int), (∀ x ∈ J, x.f0 = c') → c ≠ c' → flt J D c i = []
  | [], _, _, _, _, _, _ => by simp [flt]
  | _ :: _, [], _, _, _, _, _ => by simp [flt]
  | x :: J, d :: D, c, c', i, h, hne => by
    simp only [flt]
    rw [if_neg (fun e => hne (by rw [← e.1]; exact h x (by simp)))]
    exact flt_other J D c c' (i + 1) (fun y hy => h y (by simp [hy])) hne
theorem cat_other (J : List S41) (c' : Int) (h : ∀ x ∈ J, x.f0 = c') : ∀ (d : Nat) (c : Int), (c' < c ∨ c + d ≤ c') → cat J c d = []
  | 0, _, _ => rfl
  | d + 1, c, hc => by
    simp only [cat]
    rw [flt_other J _ c c' 0 h (by omega), cat_other J c' h d (c + 1) (by omega)]
    rfl
theorem cat_one (J : List S41) (c' : Int) (h : ∀ x ∈ J, x.f0 = c') : ∀ (d : Nat) (c : Int), c ≤ c' → c' < c + d → cat J c d = flt J (List.replicate J.length false) c' 0
  | 0, _, _, _ => by omega
  | d + 1, c, h0, h1 => by
    simp only [cat]
    by_cases e : c = c'
    · subst e
      rw [cat_other J c h d (c + 1) (by omega), List.append_nil]
    · rw [flt_other J _ c c' 0 h e, cat_one J c' h d (c + 1) (by omega) (by push_cast at h1; omega)]
      rfl
theorem alone_fair {W : List Int} {J : List S41} (hv : jv W J = true) (c' : Int) (h : ∀ x ∈ J, x.f0 = c') {r : List Int} {k : Nat} (hk : J.length < k) (hf : impl_FairOrder.f k W J = some r) : r = flt J (List.replicate J.length false) c' 0 := by
  have keep : ∀ c (D : List Bool) (out : List Int) t rs, out ++ flt J D c' 0 = flt J (List.replicate J.length false) c' 0 → flt J D c 0 = t :: rs → (out ++ [t]) ++ flt J (D.set t.toNat true) c' 0 = flt J (List.replicate J.length false) c' 0 := fun c D out t rs hi hc => by
    obtain ⟨f1, f2, ⟨x, f3, f3'⟩, f4, f5, f6⟩ := flt_hit J D c 0 t rs hc
    rw [show (t - 0).toNat = t.toNat by omega] at f3 f4 f5 f6
    have : c = c' := by rw [← f3']; exact h x (List.mem_of_getElem? f3)
    subst this
    rw [f5, ← hi, hc, List.append_assoc]
    rfl
  obtain ⟨c, D, C, hi, hz, hl⟩ := fair_ends hv (fun _ _ D _ out => out ++ flt J D c' 0 = flt J (List.replicate J.length false) c' 0) (by simp) (fun _ _ _ _ _ _ _ hi _ => hi) (fun _ _ _ _ _ _ _ _ _ _ hi _ => hi) (fun c D C out t rs x _ _ _ _ _ hi hc _ _ => keep c D out t rs hi hc) (fun _ _ _ _ _ _ _ _ _ _ hi _ _ _ => hi) (fun _ _ _ _ _ _ _ _ hi _ => hi) hk hf
  rw [← hi, flt_none J D c' 0 hz, List.append_nil]
theorem alone_loop {l0 W : List Int} {J : List S41} (hW : 1 ≤ W.length ∧ W.length ≤ 10) (hJ : J.length ≤ 31) (d : Nat) : ∀ (k : Nat) (i : Int) (x : List S41), 0 ≤ i → i + d = J.length → x.length ≤ i → (∀ y ∈ x, y.f0 = (l0.length : Int) % (W.length : Int)) → d + 2000 < k → laws_FnFairAlone.l0 k l0 W x J (J.length : Int) i = some true := by
  induction d with
  | zero =>
    intro k i x h0 h1 hx hc hk
    obtain ⟨k, rfl⟩ : ∃ m, k = m + 1 := ⟨k - 1, by omega⟩
    simp only [laws_FnFairAlone.l0]
    obtain ⟨r, hr, fr⟩ := fair_ok (W := W) (J := x) (by omega) (by omega)
    obtain ⟨s, hs, s1, s2, sr⟩ := strict_impl (W := W) (J := x) (by omega)
    obtain ⟨e1, e2⟩ := fr k (by omega)
    have e4 := sr k (by omega)
    have ers : s = r := by
      by_cases hv : jv W x = true
      · obtain ⟨v1, v2, v3, v4, v5⟩ := jv_at hv
        have m0 : 0 ≤ (l0.length : Int) % (W.length : Int) := Int.emod_nonneg _ (by omega)
        have m1 : (l0.length : Int) % (W.length : Int) < (W.length : Int) := Int.emod_lt_of_pos _ (by omega)
        rw [s1 hv, cat_one x _ hc W.length 0 m0 (by omega), alone_fair hv _ hc (by omega) e2]
      · have hv' : jv W x = false := by simpa using hv
        rw [s2 hv']
        unfold impl_FairOrder.f at e2
        rw [bs (impl_jv (by omega)), if_neg hv] at e2
        exact Option.some.inj e2
    subst ers
    rw [if_neg (by omega), bs e2, bs e4, bs e1, bs (wn_ok (by omega) (by omega)), if_pos rfl, bs (wn_ok (by omega) (by omega))]
  | succ d ih =>
    intro k i x h0 h1 hx hc hk
    obtain ⟨k, rfl⟩ : ∃ m, k = m + 1 := ⟨k - 1, by omega⟩
    simp only [laws_FnFairAlone.l0]
    rw [if_pos (by omega), if_pos h0, if_pos (by omega), if_neg (by omega), w_in (n := i + 1) (by omega) (by omega)]
    by_cases e : (rd_T41 J i).f0 = (l0.length : Int) % (W.length : Int)
    · rw [if_pos e, if_pos (by omega)]
      exact ih k (i + 1) _ (by omega) (by omega) (by simp; omega) (fun y hy => by
        rcases List.mem_append.1 hy with hy | hy
        · exact hc y hy
        · rw [List.mem_singleton.1 hy]; exact e) (by omega)
    · rw [if_neg e]
      exact ih k (i + 1) x (by omega) (by omega) (by omega) hc (by omega)
theorem FnFairAlone : laws_FnFairAlone.Pure := by
  intro l0 _ _ hl0
  obtain ⟨k, hk⟩ : ∃ k, 5000 < k := ⟨5001, by omega⟩
  refine ⟨k, ?_⟩
  unfold laws_FnFairAlone.f
  by_cases hlen : (l0.length : Int) > 1048576
  · rw [if_pos hlen]
  rw [if_neg hlen]
  obtain ⟨W, J, e, hW, hJ⟩ := drawFair hl0 (k := k) (by omega)
  rw [bs e]
  dsimp only
  by_cases h0 : (W.length : Int) = 0
  · have hv : ¬ jv W J = true := fun hv => by
      have := jv_at hv
      omega
    have ef : impl_FairOrder.f k W J = some [] := by
      unfold impl_FairOrder.f
      rw [bs (impl_jv (by omega)), if_neg hv]
    rw [if_pos h0, bs ef]
    rfl
  · rw [if_neg h0]
    exact alone_loop (by omega) hJ J.length k 0 [] (by omega) (by omega) (by simp) (by simp) (by omega)

end Go.Proofs.Ytnjghnpfapoecaa.Pure
