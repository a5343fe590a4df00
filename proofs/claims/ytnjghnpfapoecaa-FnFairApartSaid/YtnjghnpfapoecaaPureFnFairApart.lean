/- What both sides of FnFairApart compute, in plain Lean. -/
import Derived.Test.YtnjghnpfapoecaaPFnFairApartx7
import Derived.Laws.BitsLemmas
import Derived.OpenShut
namespace Go.Proofs.Ytnjghnpfapoecaa.Pure
open Go.RowKit Go.Proofs.Ytnjghnpfapoecaa.PFnFairApart Go.Proofs.YtnjghnpfapoecaaW.PrintWords Go.Proofs.YtnjghnpfapoecaaW.PrintLast

theorem w_in {n : Int} (h0 : -9223372036854775808 ≤ n) (h1 : n ≤ 9223372036854775807) : wrap64 n = n := by unfold wrap64; omega

theorem bs {α β : Type} {x : Option α} {a : α} {f : α → Option β} (h : x = some a) : x.bind f = f a := by rw [h]; rfl
/-- A byte list's reader never fails: what 'pick' answers. -/
theorem b_rd {b : List Int} (hb : ∀ x ∈ b, 0 ≤ x ∧ x ≤ 255) (i : Int) : 0 ≤ rd b i ∧ rd b i ≤ 255 := by
  unfold rd
  rw [List.getD_eq_getElem?_getD]
  cases h : b[i.toNat]? with
  | none => simp
  | some x => exact hb x (List.mem_of_getElem? h)

theorem xor_nn {x y : Int} (hx0 : 0 ≤ x) (hx : x < 4611686018427387904) (hy0 : 0 ≤ y) (hy : y < 4611686018427387904) : 0 ≤ Go.bits .xor .i64 x y := by
  obtain ⟨a, rfl⟩ := Int.eq_ofNat_of_zero_le hx0
  obtain ⟨b, rfl⟩ := Int.eq_ofNat_of_zero_le hy0
  have ha : a < 2 ^ 62 := by simp; omega
  have hb : b < 2 ^ 62 := by simp; omega
  have hc : a ^^^ b < 2 ^ 62 := Nat.xor_lt_two_pow ha hb
  have ha' : a % 2 ^ 64 = a := Nat.mod_eq_of_lt (by simp at ha ⊢; omega)
  have hb' : b % 2 ^ 64 = b := Nat.mod_eq_of_lt (by simp at hb ⊢; omega)
  have key : (BitVec.ofNat 64 a ^^^ BitVec.ofNat 64 b).toNat = a ^^^ b := by rw [BitVec.toNat_xor, BitVec.toNat_ofNat, BitVec.toNat_ofNat, ha', hb']
  have e : Go.bits .xor .i64 (a : Int) (b : Int) = IntKind.i64.wrap (((BitVec.ofNat 64 a ^^^ BitVec.ofNat 64 b).toNat : Nat) : Int) := by
    simp only [Go.bits, BitVec.ofInt_natCast]
    rfl
  rw [e, key, IntKind.wrap_i64]
  generalize a ^^^ b = c at hc
  simp at hc
  omega

theorem tm_bd {x n : Int} (hx : 0 ≤ x) (hn : 0 < n) : 0 ≤ Int.tmod x n ∧ Int.tmod x n < n := by
  rw [Int.tmod_eq_emod_of_nonneg hx]
  exact ⟨Int.emod_nonneg _ (by omega), Int.emod_lt_of_pos _ hn⟩

theorem pick_ok {k : Nat} {b : List Int} {p n : Int} (hb : ∀ x ∈ b, 0 ≤ x ∧ x ≤ 255) (hp0 : 0 ≤ p) (hp : p ≤ 100000000) (hn : 1 ≤ n) (hk : 0 < k) :
    ∃ v, spec_l21Rd_pick.f k b p n = some (v, p + 1) ∧ 0 ≤ v ∧ v < n := by
  obtain ⟨k, rfl⟩ : ∃ m, k = m + 1 := ⟨k - 1, by omega⟩
  have e1 : wrap64 (p + 1) = p + 1 := w_in (by omega) (by omega)
  have e2 : wrap64 (p + 1 - 1) = p := by rw [show p + 1 - 1 = p by omega]; exact w_in (by omega) (by omega)
  unfold spec_l21Rd_pick.f
  rw [if_neg (by omega), e1]
  simp only [spec_l21Rd_pick.j0, e2]
  by_cases h0 : b.length = 0
  · rw [if_pos (by simp [h0])]
    exact ⟨0, rfl, by omega, by omega⟩
  rw [if_neg (by simp; intro h; simp [h] at h0)]
  have hl : 0 < (b.length : Int) := by omega
  by_cases h1 : p < (b.length : Int)
  · rw [if_pos h1, if_pos hp0, if_neg (by omega)]
    have := b_rd hb p
    rw [w_in (n := rd b p) (by omega) (by omega)]
    exact ⟨_, rfl, (tm_bd this.1 (by omega)).1, (tm_bd this.1 (by omega)).2⟩
  rw [if_neg h1, if_neg (by omega)]
  have m1 := tm_bd (x := p) (n := b.length) hp0 hl
  have e3 : wrap64 (p * 7) = p * 7 := w_in (by omega) (by omega)
  have e4 : wrap64 (p * 7 + 3) = p * 7 + 3 := w_in (by omega) (by omega)
  have m2 := tm_bd (x := p * 7 + 3) (n := b.length) (by omega) hl
  rw [e3, e4, if_pos m1.1, if_pos m1.2, if_pos m2.1, if_pos m2.2, if_neg (by omega)]
  have r1 := b_rd hb (Int.tmod p b.length)
  have r2 := b_rd hb (Int.tmod (p * 7 + 3) b.length)
  generalize rd b (Int.tmod p b.length) = u at r1
  generalize rd b (Int.tmod (p * 7 + 3) b.length) = v at r2
  have d1 : 0 ≤ Int.tdiv p b.length ∧ Int.tdiv p b.length ≤ p := by
    rw [Int.tdiv_eq_ediv_of_nonneg hp0]
    exact ⟨Int.ediv_nonneg hp0 (by omega), Int.ediv_le_self _ hp0⟩
  generalize Int.tdiv p b.length = d at d1
  have e5 : wrap64 (wrap64 (wrap64 (wrap64 (wrap64 u * 131) + wrap64 (wrap64 v * 1117)) + wrap64 (p * 29)) + wrap64 (wrap64 d * 53)) = u * 131 + v * 1117 + p * 29 + d * 53 := by
    rw [w_in (n := u) (by omega) (by omega), w_in (n := v) (by omega) (by omega), w_in (n := d) (by omega) (by omega), w_in (n := u * 131) (by omega) (by omega), w_in (n := v * 1117) (by omega) (by omega), w_in (n := p * 29) (by omega) (by omega), w_in (n := d * 53) (by omega) (by omega), w_in (n := u * 131 + v * 1117) (by omega) (by omega), w_in (n := u * 131 + v * 1117 + p * 29) (by omega) (by omega), w_in (by omega) (by omega)]
  rw [e5]
  have hx0 : 0 ≤ u * 131 + v * 1117 + p * 29 + d * 53 := by omega
  have hx1 : u * 131 + v * 1117 + p * 29 + d * 53 < 4611686018427387904 := by omega
  generalize u * 131 + v * 1117 + p * 29 + d * 53 = x at hx0 hx1
  have d2 : 0 ≤ Int.tdiv x 64 ∧ Int.tdiv x 64 < 4611686018427387904 := by
    rw [Int.tdiv_eq_ediv_of_nonneg hx0]
    omega
  rw [w_in (n := Int.tdiv x 64) (by omega) (by omega)]
  have hz := xor_nn hx0 hx1 d2.1 d2.2
  exact ⟨_, rfl, (tm_bd hz (by omega)).1, (tm_bd hz (by omega)).2⟩

theorem num_ok {k : Nat} {b : List Int} {p : Int} {xs : List Int} (hb : ∀ x ∈ b, 0 ≤ x ∧ x ≤ 255) (hp0 : 0 ≤ p) (hp : p ≤ 100000000) (hn : 1 ≤ xs.length) (hk : 0 < k) :
    ∃ v, spec_l21Rd_num.f k b p xs = some (v, p + 1) ∧ v ∈ xs := by
  obtain ⟨i, hi, h0, h1⟩ := pick_ok (n := (xs.length : Int)) hb hp0 hp (by omega) hk
  refine ⟨rd xs i, ?_, ?_⟩
  · unfold spec_l21Rd_num.f
    rw [hi]
    simp only [Option.bind_some]
    rw [if_pos h0, if_pos h1]
  · unfold rd
    rw [List.getD_eq_getElem?_getD, List.getElem?_eq_getElem (by omega)]
    exact List.getElem_mem _

theorem open_ok {l : List Int} (hl : ∀ x ∈ l, (Lit.int .u8 x).wf = true) : ∃ b, spec_l21Open.f l = some (b, 0) ∧ ∀ x ∈ b, 0 ≤ x ∧ x ≤ 255 := by
  have hb : ∀ x ∈ l, 0 ≤ x ∧ x ≤ 255 := fun x hx => bounds_u8 (hl x hx)
  unfold spec_l21Open.f
  by_cases h : (l.length : Int) > 2000
  · rw [if_pos h, if_pos (by omega)]
    exact ⟨_, rfl, fun x hx => hb x (List.mem_of_mem_take hx)⟩
  · rw [if_neg h]
    exact ⟨_, rfl, hb⟩

theorem allO_total {α : Type} {p : α → Option Bool} {q : α → Bool} : ∀ (l : List α), (∀ x ∈ l, p x = some (q x)) → allO p l = some (l.all q)
  | [], _ => rfl
  | x :: xs, h => by
    have ih := allO_total xs (fun y hy => h y (List.mem_cons_of_mem _ hy))
    simp only [allO, h x (List.mem_cons_self), Option.bind_some, List.all_cons]
    cases q x
    · simp
    · simpa using ih

theorem rd_at {l : List Int} {i : Int} (h0 : 0 ≤ i) (h : i.toNat < l.length) : l.drop i.toNat = rd l i :: l.drop (i + 1).toNat := by
  rw [List.drop_eq_getElem_cons h, show (i + 1).toNat = i.toNat + 1 by omega]
  unfold rd
  rw [List.getD_eq_getElem?_getD, List.getElem?_eq_getElem h]
  rfl
theorem rd_mem {l : List Int} {i : Int} (h0 : 0 ≤ i) (h : i < l.length) : rd l i ∈ l := by
  unfold rd
  rw [List.getD_eq_getElem?_getD, List.getElem?_eq_getElem (by omega)]
  exact List.getElem_mem _

theorem s_in (a b c : Int) : spec_l1In.f a b c = some (decide (b ≤ a ∧ a ≤ c)) := by
  unfold spec_l1In.f
  by_cases h : b ≤ a <;> simp [h]
theorem i_in (a b c : Int) : impl_within.f a b c = some (decide (b ≤ a ∧ a ≤ c)) := by
  unfold impl_within.f
  by_cases h : b ≤ a <;> simp [h]
/-- A job's class is one of m, and it has a size. -/
def jok (m : Int) (x : S41) : Bool := decide (0 ≤ x.f0 ∧ x.f0 ≤ m - 1) && decide (1 ≤ x.f1 ∧ x.f1 ≤ 9)
def wbit (x : Int) : Bool := decide (1 ≤ x ∧ x ≤ 9)
/-- Are these weights and jobs? -/
def jv (W : List Int) (J : List S41) : Bool := decide (1 ≤ W.length ∧ W.length ≤ 4) && W.all wbit && decide (J.length ≤ 60) && J.all (jok (W.length : Int))
theorem impl_jv {W : List Int} {J : List S41} (hW : W.length ≤ 1000000000000) : impl_JobsValid.f W J = some (jv W J) := by
  unfold impl_JobsValid.f impl_weightsOk.f all_impl_weightsOk_1.f
  have e1 : allO (fun x => impl_weightsOk_1.f x) W = some (W.all wbit) := allO_total (q := wbit) W (fun x _ => by
    unfold impl_weightsOk_1.f wbit
    rw [i_in, bs rfl])
  have e2 : allO (impl_JobsValid.p (W.length : Int)) J = some (J.all (jok (W.length : Int))) := allO_total (q := jok (W.length : Int)) J (fun x _ => by
    unfold impl_JobsValid.p jok
    rw [w_in (n := (W.length : Int) - 1) (by omega) (by omega), i_in, bs rfl, i_in]
    generalize decide (0 ≤ x.f0 ∧ x.f0 ≤ (W.length : Int) - 1) = b
    cases b <;> simp)
  rw [i_in, e1, e2]
  unfold jv
  have e3 : decide ((1 : Int) ≤ (W.length : Int) ∧ (W.length : Int) ≤ 4) = decide (1 ≤ W.length ∧ W.length ≤ 4) := by
    rw [Bool.eq_iff_iff]
    simp only [decide_eq_true_eq]
    omega
  rw [e3]
  generalize decide (1 ≤ W.length ∧ W.length ≤ 4) = b1
  generalize W.all wbit = b2
  by_cases h : J.length ≤ 60
  · have h2 : (J.length : Int) ≤ 60 := by omega
    rw [decide_eq_true h]
    simp only [h2, if_true]
    cases b1 <;> cases b2 <;> simp
  · have h2 : ¬ (J.length : Int) ≤ 60 := by omega
    rw [decide_eq_false h]
    simp only [h2, if_false]
    cases b1 <;> cases b2 <;> simp
theorem spec_w_loop {W : List Int} (hW : W.length ≤ 1000000000000) (d : Nat) : ∀ (k : Nat) (i : Int), 0 ≤ i → i + d = W.length → d < k → spec_l12Weights.l0 k W i = some ((W.drop i.toNat).all wbit && decide (1 ≤ W.length ∧ W.length ≤ 4)) := by
  induction d with
  | zero =>
    intro k i h0 h1 hk
    obtain ⟨k, rfl⟩ : ∃ q, k = q + 1 := ⟨k - 1, by omega⟩
    simp only [spec_l12Weights.l0]
    rw [if_neg (by omega), s_in, bs rfl, List.drop_of_length_le (by omega)]
    congr 1
    rw [Bool.eq_iff_iff]
    simp
    omega
  | succ d ih =>
    intro k i h0 h1 hk
    obtain ⟨k, rfl⟩ : ∃ q, k = q + 1 := ⟨k - 1, by omega⟩
    simp only [spec_l12Weights.l0]
    rw [if_pos (by omega), if_pos h0, s_in, bs rfl, w_in (by omega) (by omega), ih k (i + 1) (by omega) (by omega) (by omega), rd_at h0 (by omega), List.all_cons]
    unfold wbit
    generalize decide (1 ≤ rd W i ∧ rd W i ≤ 9) = b
    cases b <;> simp
theorem dropT {J : List S41} {i : Int} (h0 : 0 ≤ i) (h : i < J.length) : J.drop i.toNat = rd_T41 J i :: J.drop (i + 1).toNat := by
  rw [List.drop_eq_getElem_cons (show i.toNat < J.length by omega), show (i + 1).toNat = i.toNat + 1 by omega]
  unfold rd_T41
  rw [List.getD_eq_getElem?_getD, List.getElem?_eq_getElem (by omega)]
  rfl
theorem spec_jv_loop {W : List Int} {J : List S41} (hW : W.length ≤ 1000000000000) (hJ : J.length ≤ 1000000000000) (d : Nat) : ∀ (k : Nat) (i : Int), 0 ≤ i → i + d = J.length → d + W.length + 1 < k → spec_JobsValid.l0 k W J i = some ((J.drop i.toNat).all (jok (W.length : Int)) && (W.all wbit && decide (1 ≤ W.length ∧ W.length ≤ 4) && decide (J.length ≤ 60))) := by
  induction d with
  | zero =>
    intro k i h0 h1 hk
    obtain ⟨k, rfl⟩ : ∃ q, k = q + 1 := ⟨k - 1, by omega⟩
    simp only [spec_JobsValid.l0]
    have e := spec_w_loop hW W.length k 0 (by omega) (by omega) (by omega)
    rw [if_neg (by omega), show spec_l12Weights.f k W = _ from e, bs rfl, List.drop_of_length_le (show J.length ≤ i.toNat by omega), show (0 : Int).toNat = 0 from rfl, List.drop_zero]
    generalize (W.all wbit && decide (1 ≤ W.length ∧ W.length ≤ 4)) = b
    cases b <;> simp <;> omega
  | succ d ih =>
    intro k i h0 h1 hk
    obtain ⟨k, rfl⟩ : ∃ q, k = q + 1 := ⟨k - 1, by omega⟩
    simp only [spec_JobsValid.l0]
    rw [if_pos (by omega), if_pos h0, w_in (n := (W.length : Int) - 1) (by omega) (by omega), s_in, bs rfl, s_in, w_in (by omega) (by omega), ih k (i + 1) (by omega) (by omega) (by omega), dropT h0 (by omega), List.all_cons, bs rfl]
    generalize (W.all wbit && decide (1 ≤ W.length ∧ W.length ≤ 4) && decide (J.length ≤ 60)) = b3
    generalize (J.drop (i + 1).toNat).all (jok (W.length : Int)) = b4
    unfold jok
    generalize decide (0 ≤ (rd_T41 J i).f0 ∧ (rd_T41 J i).f0 ≤ (W.length : Int) - 1) = b1
    generalize decide (1 ≤ (rd_T41 J i).f1 ∧ (rd_T41 J i).f1 ≤ 9) = b2
    cases b1 <;> cases b2 <;> cases b3 <;> cases b4 <;> rfl
theorem spec_jv {W : List Int} {J : List S41} (hW : W.length ≤ 1000000000000) (hJ : J.length ≤ 1000000000000) {k : Nat} (hk : J.length + W.length + 1 < k) : spec_JobsValid.f k W J = some (jv W J) := by
  have e := spec_jv_loop hW hJ J.length k 0 (by omega) (by omega) (by omega)
  rw [show spec_JobsValid.f k W J = _ from e]
  unfold jv
  rw [show (0 : Int).toNat = 0 from rfl, List.drop_zero]
  generalize J.all (jok (W.length : Int)) = b1
  generalize W.all wbit = b2
  generalize decide (1 ≤ W.length ∧ W.length ≤ 4) = b3
  generalize decide (J.length ≤ 60) = b4
  cases b1 <;> cases b2 <;> cases b3 <;> cases b4 <;> rfl
theorem jv_at {W : List Int} {J : List S41} (h : jv W J = true) : 1 ≤ W.length ∧ W.length ≤ 4 ∧ (∀ x ∈ W, 1 ≤ x ∧ x ≤ 9) ∧ J.length ≤ 60 ∧ ∀ x ∈ J, (0 ≤ x.f0 ∧ x.f0 < (W.length : Int)) ∧ 1 ≤ x.f1 ∧ x.f1 ≤ 9 := by
  unfold jv jok at h
  simp only [Bool.and_eq_true, decide_eq_true_eq, List.all_eq_true, wbit] at h
  obtain ⟨⟨⟨h1, h2⟩, h3⟩, h4⟩ := h
  refine ⟨h1.1, h1.2, fun x hx => h2 x hx, h3, fun x hx => ?_⟩
  have := h4 x hx
  omega
/-- Which jobs of a class are left, from place i on. -/
def flt : List S41 → List Bool → Int → Int → List Int
  | x :: J, d :: D, c, i => if x.f0 = c ∧ d = false then i :: flt J D c (i + 1) else flt J D c (i + 1)
  | [], _, _, _ => []
  | _ :: _, [], _, _ => []
def cntF : List Bool → Nat
  | [] => 0
  | b :: l => (if b = false then 1 else 0) + cntF l
theorem cntF_rep : ∀ n, cntF (List.replicate n false) = n
  | 0 => rfl
  | n + 1 => by
    rw [List.replicate_succ]
    simp only [cntF]
    rw [cntF_rep n]
    simp
    omega
theorem cntF_set : ∀ (D : List Bool) (j : Nat), D[j]? = some false → cntF (D.set j true) + 1 = cntF D
  | [], _, h => by simp at h
  | b :: D, 0, h => by
    simp at h
    subst h
    simp only [List.set_cons_zero, cntF]
    simp
    omega
  | b :: D, j + 1, h => by
    have := cntF_set D j (by simpa using h)
    simp only [List.set_cons_succ, cntF]
    omega
theorem flt_hit : ∀ (J : List S41) (D : List Bool) (c i t : Int) (r : List Int), flt J D c i = t :: r → i ≤ t ∧ t < i + (J.length : Int) ∧ (∃ x, J[(t - i).toNat]? = some x ∧ x.f0 = c) ∧ D[(t - i).toNat]? = some false ∧ flt J (D.set (t - i).toNat true) c i = r ∧ ∀ c', c' ≠ c → flt J (D.set (t - i).toNat true) c' i = flt J D c' i
  | [], _, c, i, t, r, h => by simp [flt] at h
  | x :: J, [], c, i, t, r, h => by simp [flt] at h
  | x :: J, d :: D, c, i, t, r, h => by
    simp only [flt] at h
    by_cases hc : x.f0 = c ∧ d = false
    · rw [if_pos hc] at h
      injection h with h1 h2
      subst h1
      obtain ⟨hx, rfl⟩ := hc
      rw [show (i - i).toNat = 0 by omega]
      refine ⟨by omega, by rw [List.length_cons]; push_cast; omega, ⟨x, rfl, hx⟩, rfl, ?_, fun c' hc' => ?_⟩
      · simp only [List.set_cons_zero, flt]
        rw [if_neg (by simp), h2]
      · simp only [List.set_cons_zero, flt]
        rw [if_neg (by simp), if_neg (by rw [hx]; exact fun h => hc' h.1.symm)]
    · rw [if_neg hc] at h
      obtain ⟨g1, g2, g3, g4, g5, g6⟩ := flt_hit J D c (i + 1) t r h
      have e : (t - i).toNat = (t - (i + 1)).toNat + 1 := by omega
      rw [e]
      refine ⟨by omega, by rw [List.length_cons]; push_cast; omega, ?_, ?_, ?_, fun c' hc' => ?_⟩
      · simpa using g3
      · simpa using g4
      · simp only [List.set_cons_succ, flt]
        rw [if_neg hc, g5]
      · simp only [List.set_cons_succ, flt]
        rw [g6 c' hc']
theorem flt_some : ∀ (J : List S41) (D : List Bool) (m i : Int), D.length = J.length → (∀ x ∈ J, 0 ≤ x.f0 ∧ x.f0 < m) → 0 < cntF D → ∃ c, 0 ≤ c ∧ c < m ∧ flt J D c i ≠ []
  | [], [], _, _, _, _, h => by simp [cntF] at h
  | [], _ :: _, _, _, hl, _, _ => by simp at hl
  | _ :: _, [], _, _, hl, _, _ => by simp at hl
  | x :: J, d :: D, m, i, hl, hx, h => by
    by_cases hd : d = false
    · have := hx x (by simp)
      refine ⟨x.f0, this.1, this.2, ?_⟩
      unfold flt
      rw [if_pos ⟨rfl, hd⟩]
      simp
    · simp only [cntF] at h
      rw [if_neg hd] at h
      obtain ⟨c, h0, h1, h2⟩ := flt_some J D m (i + 1) (by simpa using hl) (fun y hy => hx y (by simp [hy])) (by omega)
      refine ⟨c, h0, h1, ?_⟩
      simp only [flt]
      rw [if_neg (fun h => hd h.2)]
      exact h2
theorem gd_set {α : Type} {A : List α} {z v : α} {i j : Int} (hj : 0 ≤ j) (hi : 0 ≤ i) (hl : j < A.length) : (A.set j.toNat v).getD i.toNat z = if i = j then v else A.getD i.toNat z := by
  rw [List.getD_eq_getElem?_getD, List.getD_eq_getElem?_getD, List.getElem?_set]
  by_cases e : i = j
  · subst e
    rw [if_pos rfl, if_pos (by omega), if_pos rfl]
    rfl
  · rw [if_neg (by omega), if_neg e]
theorem next_at {J : List S41} {D : List Bool} (hl : D.length = J.length) (hJ : J.length ≤ 1000000000000) (c : Int) (d : Nat) : ∀ (k : Nat) (i : Int), 0 ≤ i → i + d = J.length → d < k → spec_l12Next.l0 k J D c i = some ((flt (J.drop i.toNat) (D.drop i.toNat) c i).headD (-1)) := by
  induction d with
  | zero =>
    intro k i h0 h1 hk
    obtain ⟨k, rfl⟩ : ∃ q, k = q + 1 := ⟨k - 1, by omega⟩
    simp only [spec_l12Next.l0]
    rw [if_neg (by omega), List.drop_of_length_le (by omega)]
    rfl
  | succ d ih =>
    intro k i h0 h1 hk
    obtain ⟨k, rfl⟩ : ∃ q, k = q + 1 := ⟨k - 1, by omega⟩
    have e2 : D.drop i.toNat = rdOf false D i :: D.drop (i + 1).toNat := by
      rw [List.drop_eq_getElem_cons (show i.toNat < D.length by omega), show (i + 1).toNat = i.toNat + 1 by omega]
      unfold rdOf
      rw [List.getD_eq_getElem?_getD, List.getElem?_eq_getElem (by omega)]
      rfl
    simp only [spec_l12Next.l0]
    rw [if_pos (by omega), if_pos h0, if_pos (show i < (D.length : Int) by omega), w_in (by omega) (by omega), ih k (i + 1) (by omega) (by omega) (by omega), dropT h0 (by omega), e2]
    simp only [flt]
    by_cases c1 : (rd_T41 J i).f0 = c
    · rw [if_pos c1]
      by_cases c2 : rdOf false D i = true
      · rw [if_pos c2, if_neg (by rw [c2]; simp)]
      · rw [if_neg c2, if_pos ⟨c1, by simpa using c2⟩]
        rfl
    · rw [if_neg c1, if_neg (fun h => c1 h.1)]
theorem next_ok {J : List S41} {D : List Bool} (hl : D.length = J.length) (hJ : J.length ≤ 1000000000000) (c : Int) {k : Nat} (hk : J.length < k) : spec_l12Next.f k J D c = some ((flt J D c 0).headD (-1)) := by
  have := next_at hl hJ c J.length k 0 (by omega) (by omega) hk
  rw [show (0 : Int).toNat = 0 from rfl, List.drop_zero, List.drop_zero] at this
  exact this
theorem rdT_get {J : List S41} {t : Int} {x : S41} (h : J[t.toNat]? = some x) : rd_T41 J t = x := by
  unfold rd_T41
  rw [List.getD_eq_getElem?_getD, h]
  rfl
/-- What both sides have in mind while jobs are done in turn. -/
def St (W : List Int) (J : List S41) (L : List (List Int)) (D : List Bool) (C out : List Int) : Prop :=
  L.length = W.length ∧ C.length = W.length ∧ D.length = J.length ∧ (∀ c, 0 ≤ c → c < (W.length : Int) → rd_L3 L c = flt J D c 0) ∧ out.length + cntF D = J.length
def low (W C : List Int) : Prop := ∀ c, 0 ≤ c → c < (W.length : Int) → 0 ≤ rd C c ∧ rd C c ≤ 8
def lowBut (W C : List Int) (a : Int) : Prop := (∀ c, 0 ≤ c → c < (W.length : Int) → c ≠ a → 0 ≤ rd C c ∧ rd C c ≤ 8) ∧ 0 ≤ rd C a ∧ rd C a ≤ 89
theorem tmod_cls {c m : Int} (h0 : 0 ≤ c) (h1 : c < m) : Int.tmod (c + 1) m = if c + 1 = m then 0 else c + 1 := by
  rw [Int.tmod_eq_emod_of_nonneg (by omega)]
  by_cases h : c + 1 = m
  · rw [if_pos h, h, Int.emod_self]
  · rw [if_neg h]
    exact Int.emod_eq_of_lt (by omega) (by omega)
def P1 (W : List Int) (J : List S41) (q : Nat) (c : Int) : Prop := ∀ L D C out, St W J L D C out → low W C → cntF D ≤ q → (cntF D < q ∨ ∃ c', c ≤ c' ∧ c' < (W.length : Int) ∧ flt J D c' 0 ≠ []) →
  ∃ r : List Int, r.length = J.length ∧ ∀ k : Nat, 12 * (q : Int) + 2 * ((W.length : Int) - c) + 1 + cntF D + J.length + 5 ≤ k → spec_FairOrder.l1 k W J out D C c = some r ∧ impl_FairOrder.l0 k W J L C out (if c = W.length then 0 else c) = some r
theorem fair_drain {W : List Int} {J : List S41} (hv : jv W J = true) {c : Int} (h0 : 0 ≤ c) (h1 : c < (W.length : Int)) {q : Nat} (next : P1 W J q (c + 1)) (u : Nat) : ∀ L D C out, cntF D = u → St W J L D C out → lowBut W C c → cntF D ≤ q → (cntF D < q ∨ ∃ t rs, flt J D c 0 = t :: rs ∧ (rd_T41 J t).f1 ≤ rd C c) →
    ∃ r : List Int, r.length = J.length ∧ ∀ k : Nat, 12 * (q : Int) + 2 * ((W.length : Int) - c) + cntF D + J.length + 5 ≤ k → spec_FairOrder.l2 k W J out D C c ((flt J D c 0).headD (-1)) = some r ∧ impl_FairOrder.l1 k W J L C out c = some r := by
  obtain ⟨v1, v2, v3, v4, v5⟩ := jv_at hv
  induction u with
  | zero =>
    intro L D C out hu hs hc hq hor
    have hs0 := hs
    obtain ⟨s1, s2, s3, s4, s5⟩ := hs
    have el := s4 c h0 h1
    cases hf : flt J D c 0 with
    | cons t rs =>
      have := cntF_set D _ (flt_hit J D c 0 t rs hf).2.2.2.1
      omega
    | nil =>
      rw [hf] at el
      have lo : low W (C.set c.toNat 0) := fun a ha hb => by
        unfold rd
        rw [gd_set h0 ha (by omega)]
        by_cases e : a = c
        · rw [if_pos e]; omega
        · rw [if_neg e]; exact hc.1 a ha hb e
      obtain ⟨r, hl, hr⟩ := next L D (C.set c.toNat 0) out ⟨s1, by simpa using s2, s3, s4, s5⟩ lo hq (.inl (by
        rcases hor with h | ⟨t, rs, h, _⟩
        · exact h
        · rw [hf] at h; simp at h))
      refine ⟨r, hl, fun k hk => ?_⟩
      obtain ⟨k, rfl⟩ : ∃ m, k = m + 1 := ⟨k - 1, by omega⟩
      obtain ⟨r1, r2⟩ := hr k (by push_cast at hk ⊢; omega)
      constructor
      · rw [show ([] : List Int).headD (-1) = -1 from rfl]
        simp only [spec_FairOrder.l2]
        rw [if_neg (by omega), if_pos (by omega), if_pos h0, if_pos (by omega), w_in (by omega) (by omega)]
        exact r1
      · simp only [impl_FairOrder.l1]
        rw [el, if_pos h0, if_pos (by omega), if_neg (by simp), if_pos (by simp), if_pos (by omega), if_neg (by omega), w_in (by omega) (by omega), tmod_cls h0 h1]
        exact r2
  | succ u ih =>
    intro L D C out hu hs hc hq hor
    have hs0 := hs
    obtain ⟨s1, s2, s3, s4, s5⟩ := hs
    have el := s4 c h0 h1
    cases hf : flt J D c 0 with
    | nil =>
      rw [hf] at el
      have lo : low W (C.set c.toNat 0) := fun a ha hb => by
        unfold rd
        rw [gd_set h0 ha (by omega)]
        by_cases e : a = c
        · rw [if_pos e]; omega
        · rw [if_neg e]; exact hc.1 a ha hb e
      obtain ⟨r, hl, hr⟩ := next L D (C.set c.toNat 0) out ⟨s1, by simpa using s2, s3, s4, s5⟩ lo hq (.inl (by
        rcases hor with h | ⟨t, rs, h, _⟩
        · exact h
        · rw [hf] at h; simp at h))
      refine ⟨r, hl, fun k hk => ?_⟩
      obtain ⟨k, rfl⟩ : ∃ m, k = m + 1 := ⟨k - 1, by omega⟩
      obtain ⟨r1, r2⟩ := hr k (by push_cast at hk ⊢; omega)
      constructor
      · rw [show ([] : List Int).headD (-1) = -1 from rfl]
        simp only [spec_FairOrder.l2]
        rw [if_neg (by omega), if_pos (by omega), if_pos h0, if_pos (by omega), w_in (by omega) (by omega)]
        exact r1
      · simp only [impl_FairOrder.l1]
        rw [el, if_pos h0, if_pos (by omega), if_neg (by simp), if_pos (by simp), if_pos (by omega), if_neg (by omega), w_in (by omega) (by omega), tmod_cls h0 h1]
        exact r2
    | cons t rs =>
      obtain ⟨f1, f2, ⟨x, f3, f3'⟩, f4, f5, f6⟩ := flt_hit J D c 0 t rs hf
      rw [show (t - 0).toNat = t.toNat by omega] at f3 f4 f5 f6
      have ex := rdT_get f3
      have hx := v5 x (List.mem_of_getElem? f3)
      have cF := cntF_set D _ f4
      rw [hf] at el
      have er : rd (t :: rs) 0 = t := rfl
      have hcb := hc.2
      by_cases hz : x.f1 ≤ rd C c
      · have lb : lowBut W (C.set c.toNat (rd C c - x.f1)) c := by
          refine ⟨fun a ha hb hne => ?_, ?_⟩
          · unfold rd
            rw [gd_set h0 ha (by omega), if_neg hne]
            exact hc.1 a ha hb hne
          · have : rd (C.set c.toNat (rd C c - x.f1)) c = rd C c - x.f1 := by
              rw [show rd (C.set c.toNat (rd C c - x.f1)) c = (C.set c.toNat (rd C c - x.f1)).getD c.toNat 0 from rfl, gd_set h0 h0 (by omega), if_pos rfl]
            have := hc.2
            omega
        have st : St W J (L.set c.toNat rs) (D.set t.toNat true) (C.set c.toNat (rd C c - x.f1)) (out ++ [t]) := by
          refine ⟨by simpa using s1, by simpa using s2, by simpa using s3, fun a ha hb => ?_, ?_⟩
          · unfold rd_L3
            rw [gd_set h0 ha (by omega)]
            by_cases e : a = c
            · rw [if_pos e, e, f5]
            · rw [if_neg e, f6 a e]
              exact s4 a ha hb
          · rw [List.length_append, List.length_singleton]
            omega
        obtain ⟨r, hl, hr⟩ := ih (L.set c.toNat rs) (D.set t.toNat true) (C.set c.toNat (rd C c - x.f1)) (out ++ [t]) (by omega) st lb (by omega) (.inl (by omega))
        rw [f5] at hr
        refine ⟨r, hl, fun k hk => ?_⟩
        obtain ⟨k, rfl⟩ : ∃ m, k = m + 1 := ⟨k - 1, by omega⟩
        obtain ⟨r1, r2⟩ := hr k (by push_cast at hk ⊢; omega)
        constructor
        · rw [show (t :: rs).headD (-1) = t from rfl]
          simp only [spec_FairOrder.l2]
          rw [if_pos (by omega), if_pos (by omega), if_pos (by omega), if_pos h0, if_pos (by omega), ex, if_pos hz, if_pos (by omega), bs rfl, if_pos (by omega), bs (next_ok (by simpa using s3) (by omega) c (by omega)), w_in (n := rd C c - x.f1) (by omega) (by omega), f5]
          exact r1
        · simp only [impl_FairOrder.l1]
          rw [el, er, if_pos h0, if_pos (by omega), if_pos (by simp <;> omega), if_pos (by simp <;> omega), if_pos (by omega), if_pos (by omega), if_pos (by omega), ex, if_pos hz, if_pos (by simp <;> omega), if_pos (by omega), w_in (n := rd C c - x.f1) (by omega) (by omega)]
          exact r2
      · have lo : low W C := fun a ha hb => by
          by_cases e : a = c
          · rw [e]
            have := hc.2
            omega
          · exact hc.1 a ha hb e
        obtain ⟨r, hl, hr⟩ := next L D C out hs0 lo hq (.inl (by
          rcases hor with h | ⟨t', rs', h, h2⟩
          · exact h
          · rw [hf] at h
            injection h with h3 h4
            rw [← h3, ex] at h2
            omega))
        refine ⟨r, hl, fun k hk => ?_⟩
        obtain ⟨k, rfl⟩ : ∃ m, k = m + 1 := ⟨k - 1, by omega⟩
        obtain ⟨r1, r2⟩ := hr k (by push_cast at hk ⊢; omega)
        constructor
        · rw [show (t :: rs).headD (-1) = t from rfl]
          simp only [spec_FairOrder.l2]
          rw [if_pos (by omega), if_pos (by omega), if_pos (by omega), if_pos h0, if_pos (by omega), ex, if_neg hz, if_neg (by omega), w_in (by omega) (by omega)]
          exact r1
        · simp only [impl_FairOrder.l1]
          rw [el, er, if_pos h0, if_pos (by omega), if_pos (by simp), if_pos (by simp), if_pos (by omega), if_pos (by omega), if_pos (by omega), ex, if_neg hz, if_neg (by simp <;> omega), if_neg (by omega), w_in (by omega) (by omega), tmod_cls h0 h1]
          exact r2
theorem rdW {W : List Int} (h : ∀ x ∈ W, 1 ≤ x ∧ x ≤ 9) {c : Int} (h0 : 0 ≤ c) (h1 : c < (W.length : Int)) : 1 ≤ rd W c ∧ rd W c ≤ 9 := by
  unfold rd
  rw [List.getD_eq_getElem?_getD, List.getElem?_eq_getElem (by omega)]
  exact h _ (List.getElem_mem _)
/-- One class's turn, and those behind it. -/
theorem fair_pass {W : List Int} {J : List S41} (hv : jv W J = true) {q : Nat} (again : ∀ L D C out, St W J L D C out → low W C → cntF D < q → ∃ r : List Int, r.length = J.length ∧ ∀ k : Nat, 13 * (cntF D : Int) + 12 + J.length + 5 ≤ k → spec_FairOrder.l0 k W J out D C = some r ∧ impl_FairOrder.l0 k W J L C out 0 = some r) (d : Nat) :
    ∀ c : Int, 0 ≤ c → c + d = (W.length : Int) → P1 W J q c := by
  obtain ⟨v1, v2, v3, v4, v5⟩ := jv_at hv
  induction d with
  | zero =>
    intro c h0 h1 L D C out hs lo hq hor
    obtain ⟨r, hl, hr⟩ := again L D C out hs lo (by
      rcases hor with h | ⟨c', h, h2, _⟩
      · exact h
      · omega)
    have hlt : cntF D < q := by
      rcases hor with h | ⟨c', h, h2, _⟩
      · exact h
      · omega
    refine ⟨r, hl, fun k hk => ?_⟩
    obtain ⟨k, rfl⟩ : ∃ m, k = m + 1 := ⟨k - 1, by omega⟩
    obtain ⟨r1, _⟩ := hr k (by push_cast at hk ⊢; omega)
    obtain ⟨_, r2⟩ := hr (k + 1) (by push_cast at hk ⊢; omega)
    constructor
    · simp only [spec_FairOrder.l1]
      rw [if_neg (by omega)]
      exact r1
    · rw [if_pos (by omega)]
      exact r2
  | succ d ih =>
    intro c h0 h1 L D C out hs lo hq hor
    have next := ih (c + 1) (by omega) (by push_cast at h1 ⊢; omega)
    have hc1 : c < (W.length : Int) := by omega
    have hs0 := hs
    obtain ⟨s1, s2, s3, s4, s5⟩ := hs
    have el := s4 c h0 hc1
    have wb := rdW v3 h0 hc1
    have cb := lo c h0 hc1
    cases hf : flt J D c 0 with
    | nil =>
      rw [hf] at el
      obtain ⟨r, hl, hr⟩ := next L D C out hs0 lo hq (by
        rcases hor with h | ⟨c', h, h2, h3⟩
        · exact .inl h
        · refine .inr ⟨c', ?_, h2, h3⟩
          have : c' ≠ c := fun e => by rw [e] at h3; exact h3 hf
          omega)
      refine ⟨r, hl, fun k hk => ?_⟩
      obtain ⟨k, rfl⟩ : ∃ m, k = m + 1 := ⟨k - 1, by omega⟩
      obtain ⟨r1, r2⟩ := hr k (by push_cast at hk ⊢; omega)
      constructor
      · simp only [spec_FairOrder.l1]
        rw [if_pos hc1, bs (next_ok s3 (by omega) c (by omega)), hf, show ([] : List Int).headD (-1) = -1 from rfl, if_pos (by omega), w_in (by omega) (by omega)]
        exact r1
      · rw [if_neg (by omega)]
        simp only [impl_FairOrder.l0]
        by_cases hn : (out.length : Int) < (J.length : Int)
        · rw [if_pos hn, if_pos h0, if_pos (by omega), el, if_pos (by simp), if_neg (by omega), w_in (by omega) (by omega), tmod_cls h0 hc1]
          exact r2
        · rw [if_neg hn]
          obtain ⟨k, rfl⟩ : ∃ m, k = m + 1 := ⟨k - 1, by omega⟩
          simp only [impl_FairOrder.l0] at r2
          rw [if_neg hn] at r2
          exact r2
    | cons t rs =>
      rw [hf] at el
      obtain ⟨f1, f2, ⟨x, f3, f3'⟩, f4, f5, f6⟩ := flt_hit J D c 0 t rs hf
      rw [show (t - 0).toNat = t.toNat by omega] at f3 f4 f5 f6
      have ex := rdT_get f3
      have hx := v5 x (List.mem_of_getElem? f3)
      have cF := cntF_set D _ f4
      have eC : rd (C.set c.toNat (rd C c + 9 * rd W c)) c = rd C c + 9 * rd W c := by
        rw [show rd (C.set c.toNat (rd C c + 9 * rd W c)) c = (C.set c.toNat (rd C c + 9 * rd W c)).getD c.toNat 0 from rfl, gd_set h0 h0 (by omega), if_pos rfl]
      have lb : lowBut W (C.set c.toNat (rd C c + 9 * rd W c)) c := by
        refine ⟨fun a ha hb hne => ?_, ?_⟩
        · unfold rd
          rw [gd_set h0 ha (by omega), if_neg hne]
          exact lo a ha hb
        · omega
      obtain ⟨r, hl, hr⟩ := fair_drain hv h0 hc1 next (cntF D) L D (C.set c.toNat (rd C c + 9 * rd W c)) out rfl ⟨s1, by simpa using s2, s3, s4, s5⟩ lb hq (.inr ⟨t, rs, hf, by rw [ex, eC]; omega⟩)
      refine ⟨r, hl, fun k hk => ?_⟩
      obtain ⟨k, rfl⟩ : ∃ m, k = m + 1 := ⟨k - 1, by omega⟩
      obtain ⟨r1, r2⟩ := hr k (by push_cast at hk ⊢; omega)
      rw [hf] at r1
      constructor
      · simp only [spec_FairOrder.l1]
        rw [if_pos hc1, bs (next_ok s3 (by omega) c (by omega)), hf]
        rw [show (t :: rs).headD (-1) = t from rfl] at r1 ⊢
        rw [if_neg (by omega), if_pos h0, if_pos (by omega), w_in (n := 9 * rd W c) (by omega) (by omega), w_in (n := rd C c + 9 * rd W c) (by omega) (by omega)]
        exact r1
      · rw [if_neg (by omega)]
        simp only [impl_FairOrder.l0]
        rw [if_pos (by omega), if_pos h0, if_pos (by omega), el, if_neg (by simp <;> omega), if_pos (by omega), if_pos hc1, w_in (n := 9 * rd W c) (by omega) (by omega), w_in (n := rd C c + 9 * rd W c) (by omega) (by omega)]
        exact r2
theorem fair_all {W : List Int} {J : List S41} (hv : jv W J = true) (u : Nat) : ∀ L D C out, cntF D ≤ u → St W J L D C out → low W C → ∃ r : List Int, r.length = J.length ∧ ∀ k : Nat, 13 * (cntF D : Int) + 12 + J.length + 5 ≤ k → spec_FairOrder.l0 k W J out D C = some r ∧ impl_FairOrder.l0 k W J L C out 0 = some r := by
  obtain ⟨v1, v2, v3, v4, v5⟩ := jv_at hv
  induction u with
  | zero =>
    intro L D C out hu hs lo
    obtain ⟨s1, s2, s3, s4, s5⟩ := hs
    refine ⟨out, by omega, fun k hk => ?_⟩
    obtain ⟨k, rfl⟩ : ∃ m, k = m + 1 := ⟨k - 1, by omega⟩
    constructor
    · simp only [spec_FairOrder.l0]
      rw [if_neg (by omega)]
    · simp only [impl_FairOrder.l0]
      rw [if_neg (by omega)]
  | succ u ih =>
    intro L D C out hu hs lo
    by_cases hz : cntF D = 0
    · exact ih L D C out (by omega) hs lo
    have again := fun L' D' C' out' hs' lo' (h : cntF D' < cntF D) => ih L' D' C' out' (by omega) hs' lo'
    have hs0 := hs
    obtain ⟨s1, s2, s3, s4, s5⟩ := hs
    obtain ⟨c, c0, c1, c2⟩ := flt_some J D (W.length : Int) 0 s3 (fun x hx => (v5 x hx).1) (by omega)
    obtain ⟨r, hl, hr⟩ := fair_pass hv (q := cntF D) again W.length 0 (by omega) (by omega) L D C out hs0 lo (Nat.le_refl _) (.inr ⟨c, c0, c1, c2⟩)
    refine ⟨r, hl, fun k hk => ?_⟩
    obtain ⟨k, rfl⟩ : ∃ m, k = m + 1 := ⟨k - 1, by omega⟩
    obtain ⟨r1, _⟩ := hr k (by push_cast at hk ⊢; omega)
    obtain ⟨_, r2⟩ := hr (k + 1) (by push_cast at hk ⊢; omega)
    constructor
    · simp only [spec_FairOrder.l0]
      rw [if_pos (by omega)]
      exact r1
    · rw [if_neg (by omega)] at r2
      exact r2
theorem flt_snoc : ∀ (J : List S41) (D : List Bool) (x : S41) (c i : Int), D.length = J.length → flt (J ++ [x]) (D ++ [false]) c i = flt J D c i ++ (if x.f0 = c then [i + (J.length : Int)] else [])
  | [], [], x, c, i, _ => by
    simp only [List.nil_append, flt]
    by_cases h : x.f0 = c
    · rw [if_pos ⟨h, trivial⟩, if_pos h]
      simp
    · rw [if_neg (fun e => h e.1), if_neg h]
  | [], _ :: _, _, _, _, h => by simp at h
  | _ :: _, [], _, _, _, h => by simp at h
  | y :: J, d :: D, x, c, i, h => by
    rw [List.cons_append, List.cons_append]
    simp only [flt]
    rw [flt_snoc J D x c (i + 1) (by simpa using h), show i + 1 + (J.length : Int) = i + (((y :: J).length : Nat) : Int) by rw [List.length_cons]; push_cast; omega]
    split <;> rfl
theorem flt_len : ∀ (J : List S41) (D : List Bool) (c i : Int), (flt J D c i).length ≤ J.length
  | [], _, _, _ => by simp [flt]
  | _ :: _, [], _, _ => by simp [flt]
  | x :: J, d :: D, c, i => by
    have := flt_len J D c (i + 1)
    simp only [flt]
    split <;> simp <;> omega
theorem by_loop {W : List Int} {J : List S41} (hJ : J.length ≤ 1000000000000) (hx : ∀ x ∈ J, 0 ≤ x.f0 ∧ x.f0 < (W.length : Int)) (d : Nat) : ∀ (i : Int) (L : List (List Int)), 0 ≤ i → i + d = J.length → L.length = W.length → (∀ c, 0 ≤ c → c < (W.length : Int) → rd_L3 L c = flt (J.take i.toNat) (List.replicate i.toNat false) c 0) →
    ∃ R : List (List Int), R.length = W.length ∧ (∀ c, 0 ≤ c → c < (W.length : Int) → rd_L3 R c = flt J (List.replicate J.length false) c 0) ∧ ∀ k, d < k → impl_byClass.l0 k L J (J.length : Int) i = some R := by
  induction d with
  | zero =>
    intro i L h0 h1 hl hc
    refine ⟨L, hl, fun c c0 c1 => ?_, fun k hk => ?_⟩
    · have := hc c c0 c1
      rw [List.take_of_length_le (by omega), show i.toNat = J.length by omega] at this
      exact this
    · obtain ⟨k, rfl⟩ : ∃ q, k = q + 1 := ⟨k - 1, by omega⟩
      simp only [impl_byClass.l0]
      rw [if_neg (by omega)]
  | succ d ih =>
    intro i L h0 h1 hl hc
    have hi : i.toNat < J.length := by omega
    have hm := hx _ (List.getElem_mem hi)
    have ex : rd_T41 J i = J[i.toNat] := rdT_get (List.getElem?_eq_getElem hi)
    have et : J.take (i + 1).toNat = J.take i.toNat ++ [J[i.toNat]] := by
      rw [show (i + 1).toNat = i.toNat + 1 by omega, List.take_succ_eq_append_getElem hi]
    have ed : List.replicate (i + 1).toNat false = List.replicate i.toNat false ++ [false] := by
      rw [show (i + 1).toNat = i.toNat + 1 by omega, List.replicate_succ']
    have eL := hc _ hm.1 hm.2
    obtain ⟨R, r1, r2, r3⟩ := ih (i + 1) (L.set (J[i.toNat].f0).toNat (rd_L3 L (J[i.toNat].f0) ++ [i])) (by omega) (by omega) (by simpa using hl) (fun c c0 c1 => by
      rw [et, ed, flt_snoc _ _ _ _ _ (by rw [List.length_replicate, List.length_take]; omega), show (0 : Int) + ((J.take i.toNat).length : Int) = i by rw [List.length_take]; omega]
      unfold rd_L3
      rw [gd_set hm.1 c0 (by omega)]
      by_cases e : c = J[i.toNat].f0
      · rw [if_pos e, if_pos e.symm, ← e, show L.getD c.toNat [] = rd_L3 L c from rfl, hc c c0 c1]
      · rw [if_neg e, if_neg (fun h => e h.symm), List.append_nil]
        exact hc c c0 c1)
    refine ⟨R, r1, r2, fun k hk => ?_⟩
    obtain ⟨k, rfl⟩ : ∃ q, k = q + 1 := ⟨k - 1, by omega⟩
    have hfl := flt_len (J.take i.toNat) (List.replicate i.toNat false) (J[i.toNat].f0) 0
    rw [← eL, List.length_take] at hfl
    simp only [impl_byClass.l0]
    rw [ex, if_pos (by omega), if_pos h0, if_pos (by omega), if_pos hm.1, if_pos (by omega), if_pos (by omega), w_in (by omega) (by omega)]
    exact r3 k (by omega)
theorem by_ok {W : List Int} {J : List S41} (hv : jv W J = true) : ∃ R : List (List Int), R.length = W.length ∧ (∀ c, 0 ≤ c → c < (W.length : Int) → rd_L3 R c = flt J (List.replicate J.length false) c 0) ∧ ∀ k, J.length < k → impl_byClass.f k W J = some R := by
  obtain ⟨v1, v2, v3, v4, v5⟩ := jv_at hv
  obtain ⟨R, r1, r2, r3⟩ := by_loop (W := W) (J := J) (by omega) (fun x hx => (v5 x hx).1) J.length 0 (List.replicate W.length []) (by omega) (by omega) (by simp) (fun c c0 c1 => by
    rw [show (0 : Int).toNat = 0 from rfl, List.take_zero]
    unfold rd_L3 flt
    rw [List.getD_eq_getElem?_getD, List.getElem?_replicate]
    split <;> rfl)
  refine ⟨R, r1, r2, fun k hk => ?_⟩
  unfold impl_byClass.f
  rw [if_pos (by omega), if_pos (by omega), show ((W.length : Int)).toNat = W.length by omega]
  exact r3 k hk
theorem rep0 (n : Nat) (i : Int) : rd (List.replicate n 0) i = 0 := by
  unfold rd
  rw [List.getD_eq_getElem?_getD, List.getElem?_replicate]
  split <;> rfl
theorem fair_ok {W : List Int} {J : List S41} (hW : W.length ≤ 1000000000000) (hJ : J.length ≤ 1000000000000) : ∃ r : List Int, r.length ≤ J.length ∧ ∀ k, J.length + W.length + 1000 < k → spec_FairOrder.f k W J = some r ∧ impl_FairOrder.f k W J = some r := by
  by_cases hv : jv W J = true
  · obtain ⟨v1, v2, v3, v4, v5⟩ := jv_at hv
    obtain ⟨R, r1, r2, r3⟩ := by_ok hv
    obtain ⟨r, hl, hr⟩ := fair_all hv J.length R (List.replicate J.length false) (List.replicate W.length 0) [] (by rw [cntF_rep]; omega) ⟨r1, by simp, by simp, r2, by rw [cntF_rep]; simp⟩ (fun c _ _ => by rw [rep0]; omega)
    rw [cntF_rep] at hr
    refine ⟨r, by omega, fun k hk => ?_⟩
    obtain ⟨s1, s2⟩ := hr k (by omega)
    constructor
    · unfold spec_FairOrder.f
      rw [bs rfl, bs (spec_jv hW hJ (by omega)), if_pos hv, if_pos (by omega), if_pos (by omega), if_pos (by omega), if_pos (by omega), show ((J.length : Int)).toNat = J.length by omega, show ((W.length : Int)).toNat = W.length by omega]
      exact s1
    · unfold impl_FairOrder.f
      rw [bs (impl_jv hW), if_pos hv, bs (r3 k (by omega)), if_pos (by omega), if_pos (by omega), show ((W.length : Int)).toNat = W.length by omega]
      exact s2
  · refine ⟨[], by simp, fun k hk => ⟨?_, ?_⟩⟩
    · unfold spec_FairOrder.f
      rw [bs rfl, bs (spec_jv hW hJ (by omega)), if_neg hv]
    · unfold impl_FairOrder.f
      rw [bs (impl_jv hW), if_neg hv]
def nxc (m c : Int) : Int := if c + 1 = m then 0 else c + 1
theorem nxc_bd {m c : Int} (h0 : 0 ≤ c) (h1 : c < m) : 0 ≤ nxc m c ∧ nxc m c < m := by
  unfold nxc
  split <;> omega
/-- What holds at the start and is kept by each step holds at the end. -/
theorem fair_part {W : List Int} {J : List S41} (hv : jv W J = true) (I : Bool → Int → List Bool → List Int → List Int → Prop)
    (skip : ∀ c D C out, 0 ≤ c → c < (W.length : Int) → low W C → I false c D C out → flt J D c 0 = [] → I false (nxc W.length c) D C out)
    (enter : ∀ c D C out t rs, 0 ≤ c → c < (W.length : Int) → C.length = W.length → low W C → I false c D C out → flt J D c 0 = t :: rs → I true c D (C.set c.toNat (rd C c + 9 * rd W c)) out)
    (take : ∀ c D C out t rs x, 0 ≤ c → c < (W.length : Int) → C.length = W.length → D.length = J.length → lowBut W C c → I true c D C out → flt J D c 0 = t :: rs → J[t.toNat]? = some x → x.f1 ≤ rd C c → I true c (D.set t.toNat true) (C.set c.toNat (rd C c - x.f1)) (out ++ [t]))
    (stay : ∀ c D C out t rs x, 0 ≤ c → c < (W.length : Int) → low W C → I true c D C out → flt J D c 0 = t :: rs → J[t.toNat]? = some x → ¬ x.f1 ≤ rd C c → I false (nxc W.length c) D C out)
    (over : ∀ c D C out, 0 ≤ c → c < (W.length : Int) → C.length = W.length → lowBut W C c → I true c D C out → flt J D c 0 = [] → I false (nxc W.length c) D (C.set c.toNat 0) out) (r : List Int) :
    ∀ k, (∀ L D C out c, 0 ≤ c → c < (W.length : Int) → St W J L D C out → low W C → I false c D C out → impl_FairOrder.l0 k W J L C out c = some r → ∃ c' D' C', I false c' D' C' r ∧ cntF D' = 0 ∧ D'.length = J.length) ∧
      (∀ L D C out c, 0 ≤ c → c < (W.length : Int) → St W J L D C out → lowBut W C c → I true c D C out → impl_FairOrder.l1 k W J L C out c = some r → ∃ c' D' C', I false c' D' C' r ∧ cntF D' = 0 ∧ D'.length = J.length) := by
  obtain ⟨v1, v2, v3, v4, v5⟩ := jv_at hv
  intro k
  induction k with
  | zero => exact ⟨fun _ _ _ _ _ _ _ _ _ _ h => by simp [impl_FairOrder.l0] at h, fun _ _ _ _ _ _ _ _ _ _ h => by simp [impl_FairOrder.l1] at h⟩
  | succ k ih =>
    obtain ⟨ih0, ih1⟩ := ih
    constructor
    · intro L D C out c h0 h1 hs lo hi h
      have hs0 := hs
      obtain ⟨s1, s2, s3, s4, s5⟩ := hs
      have el := s4 c h0 h1
      have wb := rdW v3 h0 h1
      have cb := lo c h0 h1
      simp only [impl_FairOrder.l0] at h
      by_cases hn : (out.length : Int) < (J.length : Int)
      · rw [if_pos hn, if_pos h0, if_pos (by omega), el] at h
        cases hf : flt J D c 0 with
        | nil =>
          rw [hf, if_pos (by simp), if_neg (by omega), w_in (by omega) (by omega), tmod_cls h0 h1] at h
          have nb := nxc_bd h0 h1
          exact ih0 L D C out _ nb.1 nb.2 hs0 lo (skip c D C out h0 h1 lo hi hf) h
        | cons t rs =>
          rw [hf, if_neg (by simp <;> omega), if_pos (by omega), if_pos h1, w_in (n := 9 * rd W c) (by omega) (by omega), w_in (n := rd C c + 9 * rd W c) (by omega) (by omega)] at h
          have eC : rd (C.set c.toNat (rd C c + 9 * rd W c)) c = rd C c + 9 * rd W c := by
            rw [show rd (C.set c.toNat (rd C c + 9 * rd W c)) c = (C.set c.toNat (rd C c + 9 * rd W c)).getD c.toNat 0 from rfl, gd_set h0 h0 (by omega), if_pos rfl]
          have lb : lowBut W (C.set c.toNat (rd C c + 9 * rd W c)) c := by
            refine ⟨fun a ha hb hne => ?_, ?_⟩
            · unfold rd
              rw [gd_set h0 ha (by omega), if_neg hne]
              exact lo a ha hb
            · omega
          exact ih1 L D _ out c h0 h1 ⟨s1, by simpa using s2, s3, s4, s5⟩ lb (enter c D C out t rs h0 h1 s2 lo hi hf) h
      · rw [if_neg hn] at h
        obtain rfl := Option.some.inj h
        exact ⟨c, D, C, hi, by omega, s3⟩
    · intro L D C out c h0 h1 hs lo hi h
      have hs0 := hs
      obtain ⟨s1, s2, s3, s4, s5⟩ := hs
      have el := s4 c h0 h1
      have nb := nxc_bd h0 h1
      have hcb := lo.2
      simp only [impl_FairOrder.l1] at h
      rw [if_pos h0, if_pos (by omega), el] at h
      cases hf : flt J D c 0 with
      | nil =>
        rw [hf, if_neg (by simp), if_pos (by simp), if_pos (by omega), if_neg (by omega), w_in (by omega) (by omega), tmod_cls h0 h1] at h
        have lo' : low W (C.set c.toNat 0) := fun a ha hb => by
          unfold rd
          rw [gd_set h0 ha (by omega)]
          by_cases e : a = c
          · rw [if_pos e]; omega
          · rw [if_neg e]; exact lo.1 a ha hb e
        exact ih0 L D _ out _ nb.1 nb.2 ⟨s1, by simpa using s2, s3, s4, s5⟩ lo' (over c D C out h0 h1 s2 lo hi hf) h
      | cons t rs =>
        obtain ⟨f1, f2, ⟨x, f3, f3'⟩, f4, f5, f6⟩ := flt_hit J D c 0 t rs hf
        rw [show (t - 0).toNat = t.toNat by omega] at f3 f4 f5 f6
        have ex := rdT_get f3
        have hx := v5 x (List.mem_of_getElem? f3)
        have cF := cntF_set D _ f4
        have er : rd (t :: rs) 0 = t := rfl
        rw [hf, er, if_pos (by simp <;> omega), if_pos (by simp <;> omega), if_pos (by omega), if_pos (by omega), if_pos (by omega), ex] at h
        by_cases hz : x.f1 ≤ rd C c
        · rw [if_pos hz, if_pos (by simp <;> omega), if_pos (by omega), w_in (n := rd C c - x.f1) (by omega) (by omega)] at h
          have eC : rd (C.set c.toNat (rd C c - x.f1)) c = rd C c - x.f1 := by
            rw [show rd (C.set c.toNat (rd C c - x.f1)) c = (C.set c.toNat (rd C c - x.f1)).getD c.toNat 0 from rfl, gd_set h0 h0 (by omega), if_pos rfl]
          have lb : lowBut W (C.set c.toNat (rd C c - x.f1)) c := by
            refine ⟨fun a ha hb hne => ?_, ?_⟩
            · unfold rd
              rw [gd_set h0 ha (by omega), if_neg hne]
              exact lo.1 a ha hb hne
            · omega
          have st : St W J (L.set c.toNat rs) (D.set t.toNat true) (C.set c.toNat (rd C c - x.f1)) (out ++ [t]) := by
            refine ⟨by simpa using s1, by simpa using s2, by simpa using s3, fun a ha hb => ?_, ?_⟩
            · unfold rd_L3
              rw [gd_set h0 ha (by omega)]
              by_cases e : a = c
              · rw [if_pos e, e, f5]
              · rw [if_neg e, f6 a e]
                exact s4 a ha hb
            · rw [List.length_append, List.length_singleton]
              omega
          exact ih1 _ _ _ _ c h0 h1 st lb (take c D C out t rs x h0 h1 s2 s3 lo hi hf f3 hz) h
        · rw [if_neg hz, if_neg (by simp <;> omega), if_neg (by omega), w_in (by omega) (by omega), tmod_cls h0 h1] at h
          have lo' : low W C := fun a ha hb => by
            by_cases e : a = c
            · rw [e]
              omega
            · exact lo.1 a ha hb e
          exact ih0 L D C out _ nb.1 nb.2 hs0 lo' (stay c D C out t rs x h0 h1 lo' hi hf f3 hz) h
theorem fair_ends {W : List Int} {J : List S41} (hv : jv W J = true) (I : Bool → Int → List Bool → List Int → List Int → Prop)
    (start : I false 0 (List.replicate J.length false) (List.replicate W.length 0) [])
    (skip : ∀ c D C out, 0 ≤ c → c < (W.length : Int) → low W C → I false c D C out → flt J D c 0 = [] → I false (nxc W.length c) D C out)
    (enter : ∀ c D C out t rs, 0 ≤ c → c < (W.length : Int) → C.length = W.length → low W C → I false c D C out → flt J D c 0 = t :: rs → I true c D (C.set c.toNat (rd C c + 9 * rd W c)) out)
    (take : ∀ c D C out t rs x, 0 ≤ c → c < (W.length : Int) → C.length = W.length → D.length = J.length → lowBut W C c → I true c D C out → flt J D c 0 = t :: rs → J[t.toNat]? = some x → x.f1 ≤ rd C c → I true c (D.set t.toNat true) (C.set c.toNat (rd C c - x.f1)) (out ++ [t]))
    (stay : ∀ c D C out t rs x, 0 ≤ c → c < (W.length : Int) → low W C → I true c D C out → flt J D c 0 = t :: rs → J[t.toNat]? = some x → ¬ x.f1 ≤ rd C c → I false (nxc W.length c) D C out)
    (over : ∀ c D C out, 0 ≤ c → c < (W.length : Int) → C.length = W.length → lowBut W C c → I true c D C out → flt J D c 0 = [] → I false (nxc W.length c) D (C.set c.toNat 0) out) {r : List Int} {k : Nat} (hk : J.length < k) (h : impl_FairOrder.f k W J = some r) :
    ∃ c' D' C', I false c' D' C' r ∧ cntF D' = 0 ∧ D'.length = J.length := by
  obtain ⟨v1, v2, v3, v4, v5⟩ := jv_at hv
  obtain ⟨R, r1, r2, r3⟩ := by_ok hv
  unfold impl_FairOrder.f at h
  rw [bs (impl_jv (by omega)), if_pos hv, bs (r3 k hk), if_pos (by omega), if_pos (by omega), show ((W.length : Int)).toNat = W.length by omega] at h
  exact (fair_part hv I skip enter take stay over r k).1 R (List.replicate J.length false) (List.replicate W.length 0) [] 0 (by omega) (by omega) ⟨r1, by simp, by simp, r2, by rw [cntF_rep]; simp⟩ (fun c _ _ => by rw [rep0]; omega) start h
theorem flt_none : ∀ (J : List S41) (D : List Bool) (c i : Int), cntF D = 0 → flt J D c i = []
  | [], _, _, _, _ => by simp [flt]
  | _ :: _, [], _, _, _ => by simp [flt]
  | x :: J, d :: D, c, i, h => by
    simp only [cntF] at h
    have hd : ¬ d = false := by
      intro e
      rw [if_pos e] at h
      omega
    simp only [flt]
    rw [if_neg (fun e => hd e.2)]
    exact flt_none J D c (i + 1) (by omega)
theorem wn_loop (l : List Int) (hl : l.length ≤ 1000000000000) (d : Nat) : ∀ (k : Nat) (i : Int), 0 ≤ i → i + d = l.length → d < k → laws_wnInts.l0 k l l (l.length : Int) i = some true := by
  induction d with
  | zero =>
    intro k i h0 h1 hk
    obtain ⟨k, rfl⟩ : ∃ q, k = q + 1 := ⟨k - 1, by omega⟩
    simp only [laws_wnInts.l0]
    rw [if_neg (by omega)]
  | succ d ih =>
    intro k i h0 h1 hk
    obtain ⟨k, rfl⟩ : ∃ q, k = q + 1 := ⟨k - 1, by omega⟩
    simp only [laws_wnInts.l0]
    rw [if_pos (by omega), if_pos h0, if_pos (by omega), if_pos (by omega), if_pos trivial, w_in (by omega) (by omega)]
    exact ih k (i + 1) (by omega) (by omega) (by omega)
theorem wn_ok {l : List Int} (hl : l.length ≤ 1000000000000) {k : Nat} (hk : l.length < k) : laws_wnInts.f k l l = some true := by
  unfold laws_wnInts.f
  rw [if_pos rfl]
  exact wn_loop l hl l.length k 0 (by omega) (by omega) hk
theorem dj_jobs {b : List Int} (hb : ∀ x ∈ b, 0 ≤ x ∧ x ≤ 255) {W : List Int} (hW : 1 ≤ W.length ∧ W.length ≤ 10) (d : Nat) : ∀ (k : Nat) (J : List S41) (c p : Int), c = d → d + 5 < k → J.length + d ≤ 1000 → 0 ≤ p → p + 2 * d ≤ 1000000 →
    ∃ W' J' p', spec_l12Jobs.l1 k W J c b p = some (W', J', p') ∧ W'.length ≤ 10 ∧ J'.length ≤ J.length + d + 1 := by
  induction d with
  | zero =>
    intro k J c p hc hk hJ hp hp2
    obtain ⟨k, rfl⟩ : ∃ m, k = m + 1 := ⟨k - 1, by omega⟩
    obtain ⟨v, e, _, _⟩ := pick_ok (k := k) (p := p) (n := 60) hb hp (by omega) (by omega) (by omega)
    obtain ⟨u, e2, _⟩ := num_ok (k := k) (b := b) (p := p + 1) (xs := [0, 10]) hb (by omega) (by omega) (by simp) (by omega)
    obtain ⟨u5, e5, hu5⟩ := num_ok (k := k) (b := b) (p := p + 1) (xs := [0, 5]) hb (by omega) (by omega) (by simp) (by omega)
    have hu : 0 ≤ u5 ∧ u5 ≤ 5 := by
      simp at hu5
      omega
    simp only [spec_l12Jobs.l1]
    rw [if_neg (by omega), bs e]
    dsimp only
    by_cases h0 : v = 0
    · rw [if_pos h0, bs e2]
      dsimp only
      rw [if_pos (by omega)]
      exact ⟨_, _, _, rfl, by simp; omega, by omega⟩
    rw [if_neg h0]
    by_cases h1 : v = 1
    · rw [if_pos h1, if_pos (by omega)]
      exact ⟨_, _, _, rfl, by omega, by simp⟩
    rw [if_neg h1]
    by_cases h2 : v = 2
    · rw [if_pos h2, bs e2]
      dsimp only
      rw [if_pos (by omega)]
      exact ⟨_, _, _, rfl, by omega, by simp⟩
    rw [if_neg h2]
    by_cases h3 : v = 3
    · rw [if_pos h3, bs (show (some ([1, 1, 1, 1, 1] : List Int)) = some [1, 1, 1, 1, 1] from rfl), bs e5]
      dsimp only
      rw [if_pos (by omega), if_pos (by simp; omega)]
      exact ⟨_, _, _, rfl, by rw [List.length_take]; simp; omega, by omega⟩
    · rw [if_neg h3]
      exact ⟨_, _, _, rfl, by omega, by omega⟩
  | succ d ih =>
    intro k J c p hc hk hJ hp hp2
    obtain ⟨k, rfl⟩ : ∃ m, k = m + 1 := ⟨k - 1, by omega⟩
    obtain ⟨v, e, hv0, hv1⟩ := pick_ok (k := k) (p := p) (n := (W.length : Int)) hb hp (by omega) (by omega) (by omega)
    obtain ⟨u, e2, hu0, hu1⟩ := pick_ok (k := k) (p := p + 1) (n := 9) hb (by omega) (by omega) (by omega) (by omega)
    simp only [spec_l12Jobs.l1]
    rw [if_pos (by omega), bs e]
    dsimp only
    rw [bs e2]
    dsimp only
    rw [if_pos (by omega), w_in (n := 1 + u) (by omega) (by omega), w_in (n := c - 1) (by omega) (by omega)]
    obtain ⟨W', J', p', e', h1, h2⟩ := ih k (J ++ [⟨v, 1 + u⟩]) (c - 1) (p + 1 + 1) (by omega) (by omega) (by simp; omega) (by omega) (by push_cast at hp2 ⊢; omega)
    exact ⟨W', J', p', e', h1, by simp at h2; omega⟩
theorem dj_weights {b : List Int} (hb : ∀ x ∈ b, 0 ≤ x ∧ x ≤ 255) (d : Nat) : ∀ (k : Nat) (W : List Int) (c p : Int), c = d → d + 50 < k → 1 ≤ W.length + d → W.length + d ≤ 10 → 0 ≤ p → p + d ≤ 1000 →
    ∃ W' J' p', spec_l12Jobs.l0 k W c b p = some (W', J', p') ∧ W'.length ≤ 10 ∧ J'.length ≤ 31 := by
  induction d with
  | zero =>
    intro k W c p hc hk hW hW2 hp hp2
    obtain ⟨k, rfl⟩ : ∃ m, k = m + 1 := ⟨k - 1, by omega⟩
    obtain ⟨v, e, hv⟩ := num_ok (k := k) (b := b) (p := p) (xs := [8, 14, 4, 30, 0, 1]) hb hp (by omega) (by simp) (by omega)
    have hv' : 0 ≤ v ∧ v ≤ 30 := by
      simp at hv
      omega
    simp only [spec_l12Jobs.l0]
    rw [if_neg (by omega), bs e]
    dsimp only
    obtain ⟨W', J', p', e', h1, h2⟩ := dj_jobs hb (W := W) (by omega) v.toNat k [] v (p + 1) (by omega) (by omega) (by simp; omega) (by omega) (by omega)
    exact ⟨W', J', p', e', h1, by simp at h2; omega⟩
  | succ d ih =>
    intro k W c p hc hk hW hW2 hp hp2
    obtain ⟨k, rfl⟩ : ∃ m, k = m + 1 := ⟨k - 1, by omega⟩
    obtain ⟨v, e, _⟩ := num_ok (k := k) (b := b) (p := p) (xs := [1, 2, 1, 3, 9]) hb hp (by omega) (by simp) (by omega)
    simp only [spec_l12Jobs.l0]
    rw [if_pos (by omega), bs e]
    dsimp only
    rw [if_pos (by omega), w_in (n := c - 1) (by omega) (by omega)]
    exact ih k (W ++ [v]) (c - 1) (p + 1) (by omega) (by omega) (by simp; omega) (by simp; omega) (by omega) (by omega)
theorem drawFair {l0 : List Int} (hl0 : ∀ x ∈ l0, (Lit.int .u8 x).wf = true) {k : Nat} (hk : 100 ≤ k) : ∃ W J, spec_DrawFairOrder.f k l0 = some (W, J) ∧ W.length ≤ 10 ∧ J.length ≤ 31 := by
  obtain ⟨b, e, hb⟩ := open_ok hl0
  obtain ⟨v, e1, hv⟩ := num_ok (k := k) (b := b) (p := 0) (xs := [2, 3, 4, 1]) hb (by omega) (by omega) (by simp) (by omega)
  have hv' : 1 ≤ v ∧ v ≤ 4 := by
    simp at hv
    omega
  obtain ⟨W, J, p, e2, h1, h2⟩ := dj_weights hb v.toNat k [] v (0 + 1) (by omega) (by omega) (by simp; omega) (by simp; omega) (by omega) (by omega)
  refine ⟨W, J, ?_, h1, h2⟩
  unfold spec_DrawFairOrder.f spec_l12Jobs.f
  rw [bs e]
  dsimp only
  rw [bs e1]
  dsimp only
  rw [bs e2]
/-- How much of class a is done. -/
def sv (J : List S41) : List Int → Int → Int
  | [], _ => 0
  | t :: l, a => (if (rd_T41 J t).f0 = a then (rd_T41 J t).f1 else 0) + sv J l a
theorem sv_app (J : List S41) (a : Int) : ∀ l m, sv J (l ++ m) a = sv J l a + sv J m a
  | [], m => by simp [sv]
  | t :: l, m => by
    rw [List.cons_append]
    simp only [sv]
    rw [sv_app J a l m]
    omega
theorem sz_bd {W : List Int} {J : List S41} (hv : jv W J = true) (t : Int) : 0 ≤ (rd_T41 J t).f1 ∧ (rd_T41 J t).f1 ≤ 9 := by
  obtain ⟨v1, v2, v3, v4, v5⟩ := jv_at hv
  unfold rd_T41
  rw [List.getD_eq_getElem?_getD]
  cases h : J[t.toNat]? with
  | none => exact ⟨by decide, by decide⟩
  | some x =>
    have := v5 x (List.mem_of_getElem? h)
    simp only [Option.getD_some]
    omega
theorem sv_bd {W : List Int} {J : List S41} (hv : jv W J = true) (a : Int) : ∀ l, 0 ≤ sv J l a ∧ sv J l a ≤ 9 * (l.length : Int)
  | [] => by simp [sv]
  | t :: l => by
    have h1 := sv_bd hv a l
    have h2 := sz_bd hv t
    simp only [sv, List.length_cons]
    push_cast
    split <;> omega
def tot (J : List S41) (a : Int) : Int := sv J (flt J (List.replicate J.length false) a 0) a
/-- No class is more than a turn and a frame ahead of one that has jobs left. -/
def Phi (W : List Int) (J : List S41) (p : List Int) : Prop := ∀ a b, 0 ≤ a → a < (W.length : Int) → 0 ≤ b → b < (W.length : Int) → sv J p b < tot J b → sv J p a * rd W b - sv J p b * rd W a ≤ 9 * rd W a * rd W b + 8 * rd W a
def vv (md : Bool) (c R a : Int) : Int := if a < c ∨ (md = true ∧ a = c) then R + 1 else R
def inv12 (W : List Int) (J : List S41) (md : Bool) (c : Int) (D : List Bool) (C out : List Int) : Prop :=
  (∃ R, 0 ≤ R ∧ ∀ a, 0 ≤ a → a < (W.length : Int) → sv J out a ≤ 9 * rd W a * vv md c R a ∧ (flt J D a 0 ≠ [] ∨ (md = true ∧ a = c) → sv J out a + rd C a = 9 * rd W a * vv md c R a)) ∧
  (md = true → rd C c ≤ 9 * rd W c + 8) ∧
  (∀ a, 0 ≤ a → a < (W.length : Int) → sv J out a + sv J (flt J D a 0) a = tot J a) ∧
  (out.Nodup ∧ ∀ t ∈ out, 0 ≤ t ∧ t < (J.length : Int) ∧ D[t.toNat]? = some true) ∧
  ∀ i, i ≤ out.length → Phi W J (out.take i)
theorem nine (w : Int) (V : Int) : 9 * w * (V + 1) = 9 * w * V + 9 * w := by rw [Int.mul_add, Int.mul_one]
theorem phi_num {A B R sa sb : Int} (hA : 1 ≤ A ∧ A ≤ 9) (hB : 1 ≤ B ∧ B ≤ 9) (h1 : sa ≤ 9 * A * (R + 1)) (h2 : 9 * B * R - 8 ≤ sb) : sa * B - sb * A ≤ 9 * A * B + 8 * A := by
  have cA : A = 1 ∨ A = 2 ∨ A = 3 ∨ A = 4 ∨ A = 5 ∨ A = 6 ∨ A = 7 ∨ A = 8 ∨ A = 9 := by omega
  have cB : B = 1 ∨ B = 2 ∨ B = 3 ∨ B = 4 ∨ B = 5 ∨ B = 6 ∨ B = 7 ∨ B = 8 ∨ B = 9 := by omega
  clear hA hB
  rcases cA with rfl | rfl | rfl | rfl | rfl | rfl | rfl | rfl | rfl <;> rcases cB with rfl | rfl | rfl | rfl | rfl | rfl | rfl | rfl | rfl <;> omega
theorem phi_of {W : List Int} {J : List S41} (hv : jv W J = true) {md : Bool} {c : Int} {D : List Bool} {C out : List Int} (hC : ∀ a, 0 ≤ a → a < (W.length : Int) → ¬ (md = true ∧ a = c) → rd C a ≤ 8)
    (h1 : ∃ R, 0 ≤ R ∧ ∀ a, 0 ≤ a → a < (W.length : Int) → sv J out a ≤ 9 * rd W a * vv md c R a ∧ (flt J D a 0 ≠ [] ∨ (md = true ∧ a = c) → sv J out a + rd C a = 9 * rd W a * vv md c R a))
    (h2 : md = true → rd C c ≤ 9 * rd W c + 8) (h3 : ∀ a, 0 ≤ a → a < (W.length : Int) → sv J out a + sv J (flt J D a 0) a = tot J a) : Phi W J out := by
  obtain ⟨v1, v2, v3, v4, v5⟩ := jv_at hv
  intro a b a0 a1 b0 b1 hlt
  obtain ⟨R, hR, h⟩ := h1
  have hb3 := h3 b b0 b1
  have hne : flt J D b 0 ≠ [] := fun e => by
    rw [e] at hb3
    simp only [sv] at hb3
    omega
  have hb := (h b b0 b1).2 (.inl hne)
  have ha := (h a a0 a1).1
  have wa := rdW v3 a0 a1
  have wb := rdW v3 b0 b1
  refine phi_num (R := R) wa wb ?_ ?_
  · have e := nine (rd W a) R
    unfold vv at ha
    split at ha <;> omega
  · have e := nine (rd W b) R
    unfold vv at hb
    by_cases hc : md = true ∧ b = c
    · have := h2 hc.1
      rw [if_pos (.inr hc)] at hb
      rw [← hc.2] at this
      omega
    · have := hC b b0 b1 hc
      split at hb <;> omega
theorem vv_next {m c R a : Int} (md : Bool) (_h0 : 0 ≤ c) (_h1 : c < m) (a0 : 0 ≤ a) (a1 : a < m) : vv false (nxc m c) (if c + 1 = m then R + 1 else R) a = if a = c then R + 1 else vv md c R a := by
  unfold vv nxc
  by_cases e : c + 1 = m
  · rw [if_pos e, if_pos e]
    by_cases ea : a = c
    · rw [if_pos ea, if_neg (by simp; omega)]
    · rw [if_neg ea, if_neg (by simp; omega), if_pos (by omega)]
  · rw [if_neg e, if_neg e]
    by_cases ea : a = c
    · rw [if_pos ea, if_pos (by omega)]
    · rw [if_neg ea]
      by_cases hl : a < c
      · rw [if_pos (by omega), if_pos (by omega)]
      · rw [if_neg (by simp; omega), if_neg (by simp [ea, hl])]
theorem apart_ends {W : List Int} {J : List S41} (hv : jv W J = true) {r : List Int} {k : Nat} (hk : J.length < k) (hf : impl_FairOrder.f k W J = some r) :
    (∀ a, 0 ≤ a → a < (W.length : Int) → sv J r a = tot J a) ∧ (r.Nodup ∧ ∀ t ∈ r, 0 ≤ t ∧ t < (J.length : Int)) ∧ ∀ i, i ≤ r.length → Phi W J (r.take i) := by
  obtain ⟨v1, v2, v3, v4, v5⟩ := jv_at hv
  suffices H : ∃ c' D' C', inv12 W J false c' D' C' r ∧ cntF D' = 0 ∧ D'.length = J.length by
    obtain ⟨c, D, C, ⟨g1, g2, g3, g4, g5⟩, hz, hl⟩ := H
    refine ⟨fun a a0 a1 => ?_, ⟨g4.1, fun t ht => ⟨(g4.2 t ht).1, (g4.2 t ht).2.1⟩⟩, g5⟩
    have := g3 a a0 a1
    rw [flt_none J D a 0 hz] at this
    simpa [sv] using this
  refine fair_ends hv (inv12 W J) ?start ?skip ?enter ?take ?stay ?over hk hf
  case start =>
    have e0 : ∀ a, sv J [] a = 0 := fun _ => rfl
    have p1 : ∃ R, 0 ≤ R ∧ ∀ a, 0 ≤ a → a < (W.length : Int) → sv J [] a ≤ 9 * rd W a * vv false 0 R a ∧ (flt J (List.replicate J.length false) a 0 ≠ [] ∨ (false = true ∧ a = 0) → sv J [] a + rd (List.replicate W.length 0) a = 9 * rd W a * vv false 0 R a) := by
      refine ⟨0, by omega, fun a a0 a1 => ?_⟩
      have : vv false 0 0 a = 0 := by
        unfold vv
        rw [if_neg (by simp; omega)]
      rw [this, rep0, Int.mul_zero, e0]
      exact ⟨by omega, fun _ => by omega⟩
    have p3 : ∀ a, 0 ≤ a → a < (W.length : Int) → sv J [] a + sv J (flt J (List.replicate J.length false) a 0) a = tot J a := fun a _ _ => by
      rw [e0]
      unfold tot
      omega
    refine ⟨p1, by simp, p3, ⟨List.Pairwise.nil, by simp⟩, fun i hi => ?_⟩
    rw [List.take_nil]
    exact phi_of hv (md := false) (c := 0) (C := List.replicate W.length 0) (fun a _ _ _ => by rw [rep0]; omega) p1 (by simp) p3
  case skip =>
    rintro c D C out h0 h1 lo ⟨⟨R, hR, g1⟩, g2, g3, g4, g5⟩ hn
    refine ⟨⟨if c + 1 = W.length then R + 1 else R, by split <;> omega, fun a a0 a1 => ?_⟩, by simp, g3, g4, g5⟩
    have e := vv_next (R := R) false h0 h1 a0 a1
    rw [e]
    obtain ⟨q1, q2⟩ := g1 a a0 a1
    by_cases ea : a = c
    · have wb := rdW v3 a0 a1
      have e9 := nine (rd W a) R
      rw [if_pos ea]
      have : vv false c R a = R := by
        unfold vv
        rw [if_neg (by simp; omega)]
      rw [this] at q1
      refine ⟨by omega, fun h => ?_⟩
      rcases h with h | h
      · rw [ea] at h
        exact absurd hn h
      · exact absurd h.1 (by simp)
    · rw [if_neg ea]
      exact ⟨q1, fun h => q2 (h.elim .inl (fun h => absurd h.1 (by simp)))⟩
  case enter =>
    rintro c D C out t rs h0 h1 hC lo ⟨⟨R, hR, g1⟩, g2, g3, g4, g5⟩ hf
    have eC : ∀ a, 0 ≤ a → rd (C.set c.toNat (rd C c + 9 * rd W c)) a = if a = c then rd C c + 9 * rd W c else rd C a := fun a ha => by
      rw [show rd (C.set c.toNat (rd C c + 9 * rd W c)) a = (C.set c.toNat (rd C c + 9 * rd W c)).getD a.toNat 0 from rfl, gd_set h0 ha (by omega)]
      rfl
    have cb := lo c h0 h1
    have wb := rdW v3 h0 h1
    refine ⟨⟨R, hR, fun a a0 a1 => ?_⟩, fun _ => by rw [eC c h0, if_pos rfl]; omega, g3, g4, g5⟩
    obtain ⟨q1, q2⟩ := g1 a a0 a1
    rw [eC a a0]
    by_cases ea : a = c
    · have e9 := nine (rd W a) R
      have x1 : vv false c R a = R := by
        unfold vv
        rw [if_neg (by simp; omega)]
      have x2 : vv true c R a = R + 1 := by
        unfold vv
        rw [if_pos (.inr ⟨rfl, ea⟩)]
      rw [x1] at q1 q2
      have q2 := q2 (.inl (by rw [ea, hf]; simp))
      rw [x2, if_pos ea]
      rw [ea] at *
      exact ⟨by omega, fun _ => by omega⟩
    · have x1 : vv true c R a = vv false c R a := by
        unfold vv
        simp [ea]
      rw [x1, if_neg ea]
      exact ⟨q1, fun h => q2 (h.elim .inl (fun h => absurd h.2 ea))⟩
  case take =>
    rintro c D C out t rs x h0 h1 hC hD lo ⟨⟨R, hR, g1⟩, g2, g3, g4, g5⟩ hf hx hz
    have eC : ∀ a, 0 ≤ a → rd (C.set c.toNat (rd C c - x.f1)) a = if a = c then rd C c - x.f1 else rd C a := fun a ha => by
      rw [show rd (C.set c.toNat (rd C c - x.f1)) a = (C.set c.toNat (rd C c - x.f1)).getD a.toNat 0 from rfl, gd_set h0 ha (by omega)]
      rfl
    obtain ⟨f1, f2, ⟨x', f3, f3'⟩, f4, f5, f6⟩ := flt_hit J D c 0 t rs hf
    rw [show (t - 0).toNat = t.toNat by omega] at f3 f4 f5 f6
    rw [hx] at f3
    obtain rfl := Option.some.inj f3
    have ex := rdT_get hx
    have hxs := v5 x (List.mem_of_getElem? hx)
    have wb := rdW v3 h0 h1
    have gc := g2 rfl
    have s1 : ∀ a, sv J (out ++ [t]) a = sv J out a + (if a = c then x.f1 else 0) := fun a => by
      rw [sv_app]
      simp only [sv]
      rw [ex, f3']
      by_cases e : a = c
      · rw [if_pos e, if_pos e.symm]
        omega
      · rw [if_neg e, if_neg (fun h => e h.symm)]
        omega
    have p1 : ∃ R, 0 ≤ R ∧ ∀ a, 0 ≤ a → a < (W.length : Int) → sv J (out ++ [t]) a ≤ 9 * rd W a * vv true c R a ∧ (flt J (D.set t.toNat true) a 0 ≠ [] ∨ (true = true ∧ a = c) → sv J (out ++ [t]) a + rd (C.set c.toNat (rd C c - x.f1)) a = 9 * rd W a * vv true c R a) := by
      refine ⟨R, hR, fun a a0 a1 => ?_⟩
      obtain ⟨q1, q2⟩ := g1 a a0 a1
      rw [s1, eC a a0]
      by_cases ea : a = c
      · have q2 := q2 (.inr ⟨rfl, ea⟩)
        rw [if_pos ea, if_pos ea]
        rw [ea] at *
        exact ⟨by omega, fun _ => by omega⟩
      · rw [if_neg ea, if_neg ea, f6 a ea]
        exact ⟨by omega, fun h => by have := q2 (h.elim .inl (fun h => absurd h.2 ea)); omega⟩
    have p2 : (true = true) → rd (C.set c.toNat (rd C c - x.f1)) c ≤ 9 * rd W c + 8 := fun _ => by
      rw [eC c h0, if_pos rfl]
      omega
    have p3 : ∀ a, 0 ≤ a → a < (W.length : Int) → sv J (out ++ [t]) a + sv J (flt J (D.set t.toNat true) a 0) a = tot J a := fun a a0 a1 => by
      have := g3 a a0 a1
      rw [s1]
      by_cases ea : a = c
      · rw [ea] at this ⊢
        rw [if_pos rfl, f5]
        rw [hf] at this
        simp only [sv] at this
        rw [ex, if_pos f3'] at this
        omega
      · rw [if_neg ea, f6 a ea]
        omega
    refine ⟨p1, p2, p3, ⟨?_, fun s hs => ?_⟩, fun i hi => ?_⟩
    · rw [List.nodup_append]
      refine ⟨g4.1, by simp, fun s hs s' hs' e => ?_⟩
      rw [List.mem_singleton.1 hs'] at e
      have := (g4.2 s hs).2.2
      rw [e, f4] at this
      exact absurd (Option.some.inj this) (by simp)
    · rcases List.mem_append.1 hs with hs | hs
      · obtain ⟨u1, u2, u3⟩ := g4.2 s hs
        refine ⟨u1, u2, ?_⟩
        rw [List.getElem?_set]
        split
        · rename_i e
          rw [← e] at u3
          rw [if_pos (by omega)]
        · exact u3
      · rw [List.mem_singleton.1 hs]
        refine ⟨f1, by omega, ?_⟩
        rw [List.getElem?_set, if_pos rfl, if_pos (by omega)]
    · by_cases hi2 : i ≤ out.length
      · rw [List.take_append_of_le_length hi2]
        exact g5 i hi2
      · rw [List.take_of_length_le (by simp at hi ⊢; omega)]
        exact phi_of hv (fun a a0 a1 ha => by
          rw [eC a a0]
          have hne : ¬ a = c := fun e => ha ⟨rfl, e⟩
          rw [if_neg hne]
          exact (lo.1 a a0 a1 hne).2) p1 p2 p3
  case stay =>
    rintro c D C out t rs x h0 h1 lo ⟨⟨R, hR, g1⟩, g2, g3, g4, g5⟩ hf hx hz
    refine ⟨⟨if c + 1 = W.length then R + 1 else R, by split <;> omega, fun a a0 a1 => ?_⟩, by simp, g3, g4, g5⟩
    have e := vv_next (R := R) true h0 h1 a0 a1
    rw [e]
    obtain ⟨q1, q2⟩ := g1 a a0 a1
    by_cases ea : a = c
    · have : vv true c R a = R + 1 := by
        unfold vv
        rw [if_pos (.inr ⟨rfl, ea⟩)]
      rw [if_pos ea]
      rw [this] at q1 q2
      exact ⟨q1, fun _ => q2 (.inr ⟨rfl, ea⟩)⟩
    · rw [if_neg ea]
      exact ⟨q1, fun h => q2 (h.elim .inl (fun h => absurd h.1 (by simp)))⟩
  case over =>
    rintro c D C out h0 h1 hC lo ⟨⟨R, hR, g1⟩, g2, g3, g4, g5⟩ hn
    have eC : ∀ a, 0 ≤ a → rd (C.set c.toNat 0) a = if a = c then 0 else rd C a := fun a ha => by
      rw [show rd (C.set c.toNat 0) a = (C.set c.toNat 0).getD a.toNat 0 from rfl, gd_set h0 ha (by omega)]
      rfl
    refine ⟨⟨if c + 1 = W.length then R + 1 else R, by split <;> omega, fun a a0 a1 => ?_⟩, by simp, g3, g4, g5⟩
    have e := vv_next (R := R) true h0 h1 a0 a1
    rw [e, eC a a0]
    obtain ⟨q1, q2⟩ := g1 a a0 a1
    by_cases ea : a = c
    · have : vv true c R a = R + 1 := by
        unfold vv
        rw [if_pos (.inr ⟨rfl, ea⟩)]
      rw [if_pos ea]
      rw [this] at q1 q2
      refine ⟨q1, fun h => ?_⟩
      rcases h with h | h
      · rw [ea] at h
        exact absurd hn h
      · exact absurd h.1 (by simp)
    · rw [if_neg ea, if_neg ea]
      exact ⟨q1, fun h => q2 (h.elim .inl (fun h => absurd h.1 (by simp)))⟩
theorem sb_loop {W : List Int} {J : List S41} (hv : jv W J = true) {l : List Int} (hl : l.length ≤ 60) (hn : l.Nodup) (hb : ∀ t ∈ l, 0 ≤ t ∧ t < (J.length : Int)) (d : Nat) : ∀ (i : Int) (x : List Int), 0 ≤ i → i + d = l.length → x.length = W.length → (∀ a, 0 ≤ a → a < (W.length : Int) → rd x a = sv J (l.take i.toNat) a) →
    ∃ R : List Int, R.length = W.length ∧ (∀ a, 0 ≤ a → a < (W.length : Int) → rd R a = sv J l a) ∧ ∀ k, d < k → impl_ServedBy.l0 k J x (l.take i.toNat) l (l.length : Int) i = some R := by
  obtain ⟨v1, v2, v3, v4, v5⟩ := jv_at hv
  induction d with
  | zero =>
    intro i x h0 h1 hx hr
    rw [List.take_of_length_le (by omega)] at hr ⊢
    refine ⟨x, hx, hr, fun k hk => ?_⟩
    obtain ⟨k, rfl⟩ : ∃ q, k = q + 1 := ⟨k - 1, by omega⟩
    simp only [impl_ServedBy.l0]
    rw [if_pos (by omega), if_neg (by omega)]
  | succ d ih =>
    intro i x h0 h1 hx hr
    have hi : i.toNat < l.length := by omega
    have eg : rd l i = l[i.toNat] := by
      unfold rd
      rw [List.getD_eq_getElem?_getD, List.getElem?_eq_getElem hi]
      rfl
    have hm := hb _ (List.getElem_mem hi)
    have et : l.take (i + 1).toNat = l.take i.toNat ++ [l[i.toNat]] := by
      rw [show (i + 1).toNat = i.toNat + 1 by omega, List.take_succ_eq_append_getElem hi]
    have hnc : ¬ (l.take i.toNat).contains l[i.toNat] = true := by
      intro h
      rw [List.contains_iff_mem] at h
      have hp : List.Pairwise (· ≠ ·) (l.take i.toNat ++ l.drop i.toNat) := by
        rw [List.take_append_drop]
        exact hn
      have h9 : l.drop i.toNat = l[i.toNat] :: l.drop (i.toNat + 1) := List.drop_eq_getElem_cons hi
      have h8 : l[i.toNat] ∈ l.drop i.toNat := by
        rw [h9]
        exact List.mem_cons_self
      exact (List.pairwise_append.1 hp).2.2 _ h l[i.toNat] h8 rfl
    have hjx : l[i.toNat].toNat < J.length := by omega
    have hcl := v5 _ (List.getElem_mem hjx)
    have ex : rd_T41 J l[i.toNat] = J[l[i.toNat].toNat] := rdT_get (List.getElem?_eq_getElem hjx)
    generalize hz : J[l[i.toNat].toNat] = z at *
    generalize hq : l[i.toNat] = q at *
    have hs := sv_bd hv z.f0 (l.take i.toNat)
    have hlt : (l.take i.toNat).length ≤ 60 := by
      rw [List.length_take]
      omega
    have er := hr z.f0 hcl.1.1 hcl.1.2
    obtain ⟨R, r1, r2, r3⟩ := ih (i + 1) (x.set z.f0.toNat (rd x z.f0 + z.f1)) (by omega) (by push_cast at h1 ⊢; omega) (by simpa using hx) (fun a a0 a1 => by
      rw [et, sv_app]
      simp only [sv]
      rw [ex, show rd (x.set z.f0.toNat (rd x z.f0 + z.f1)) a = (x.set z.f0.toNat (rd x z.f0 + z.f1)).getD a.toNat 0 from rfl, gd_set hcl.1.1 a0 (by omega)]
      by_cases e : a = z.f0
      · rw [if_pos e, if_pos e.symm, e, er]
        omega
      · rw [if_neg e, if_neg (fun h => e h.symm), show x.getD a.toNat 0 = rd x a from rfl, hr a a0 a1]
        omega)
    refine ⟨R, r1, r2, fun k hk => ?_⟩
    obtain ⟨k, rfl⟩ : ∃ q, k = q + 1 := ⟨k - 1, by omega⟩
    have := r3 k (by omega)
    rw [et] at this
    simp only [impl_ServedBy.l0]
    rw [if_pos (by omega), if_pos (by omega), if_pos h0, if_pos (by omega), eg, w_in (n := (J.length : Int) - 1) (by omega) (by omega), i_in, bs rfl, if_pos (by simp; omega), if_neg hnc, if_pos hm.1, if_pos hm.2, ex, if_pos hcl.1.1, if_pos (by omega), w_in (n := rd x z.f0 + z.f1) (by omega) (by omega), w_in (n := i + 1) (by omega) (by omega)]
    exact this
theorem sb_ok {W : List Int} {J : List S41} (hv : jv W J = true) {l : List Int} (hl : l.length ≤ 60) (hn : l.Nodup) (hb : ∀ t ∈ l, 0 ≤ t ∧ t < (J.length : Int)) : ∃ R : List Int, R.length = W.length ∧ (∀ a, 0 ≤ a → a < (W.length : Int) → rd R a = sv J l a) ∧ ∀ k, 60 < k → impl_ServedBy.f k W J l = some R := by
  obtain ⟨v1, v2, v3, v4, v5⟩ := jv_at hv
  obtain ⟨R, r1, r2, r3⟩ := sb_loop hv hl hn hb l.length 0 (List.replicate W.length 0) (by omega) (by omega) (by simp) (fun a _ _ => by rw [rep0]; rfl)
  refine ⟨R, r1, r2, fun k hk => ?_⟩
  unfold impl_ServedBy.f
  rw [bs (impl_jv (by omega)), if_pos hv, if_pos (by omega), if_pos (by omega), show ((W.length : Int)).toNat = W.length by omega]
  exact r3 k (by omega)
theorem w_ok {W : List Int} {J : List S41} (hv : jv W J = true) : impl_weightsOk.f W = some true := by
  obtain ⟨v1, v2, v3, v4, v5⟩ := jv_at hv
  unfold impl_weightsOk.f all_impl_weightsOk_1.f
  have e1 : allO (fun x => impl_weightsOk_1.f x) W = some (W.all wbit) := allO_total (q := wbit) W (fun x _ => by
    unfold impl_weightsOk_1.f wbit
    rw [i_in, bs rfl])
  have e2 : W.all wbit = true := by
    rw [List.all_eq_true]
    intro x hx
    unfold wbit
    exact decide_eq_true (v3 x hx)
  rw [i_in, bs rfl, if_pos (by simp; omega), e1, e2]
  rfl
theorem nine_bd {A B : Int} (hA : 1 ≤ A ∧ A ≤ 9) (hB : 1 ≤ B ∧ B ≤ 9) : 0 ≤ 9 * A * B ∧ 9 * A * B ≤ 729 := by
  have cB : B = 1 ∨ B = 2 ∨ B = 3 ∨ B = 4 ∨ B = 5 ∨ B = 6 ∨ B = 7 ∨ B = 8 ∨ B = 9 := by omega
  clear hB
  rcases cB with rfl | rfl | rfl | rfl | rfl | rfl | rfl | rfl | rfl <;> omega
theorem mul_bd {s B : Int} (hs : 0 ≤ s ∧ s ≤ 540) (hB : 1 ≤ B ∧ B ≤ 9) : 0 ≤ s * B ∧ s * B ≤ 4860 := by
  have cB : B = 1 ∨ B = 2 ∨ B = 3 ∨ B = 4 ∨ B = 5 ∨ B = 6 ∨ B = 7 ∨ B = 8 ∨ B = 9 := by omega
  clear hB
  rcases cB with rfl | rfl | rfl | rfl | rfl | rfl | rfl | rfl | rfl <;> omega
theorem ab_ok {W : List Int} {J : List S41} (hv : jv W J = true) {a b : Int} (a0 : 0 ≤ a) (a1 : a < (W.length : Int)) (b0 : 0 ≤ b) (b1 : b < (W.length : Int)) : impl_ApartBound.f W a b = some (9 * rd W a * rd W b + 8 * rd W a) := by
  obtain ⟨v1, v2, v3, v4, v5⟩ := jv_at hv
  have wa := rdW v3 a0 a1
  have wb := rdW v3 b0 b1
  have hp := nine_bd wa wb
  unfold impl_ApartBound.f
  rw [bs (w_ok hv), if_pos rfl, w_in (n := (W.length : Int) - 1) (by omega) (by omega), i_in, bs rfl, if_pos (by simp; omega), i_in, bs rfl, if_pos (by simp; omega), if_pos a0, if_pos a1, if_pos b0, if_pos b1, w_in (n := 9 * rd W a) (by omega) (by omega), w_in (n := 8 * rd W a) (by omega) (by omega)]
  generalize 9 * rd W a * rd W b = z at *
  rw [w_in (n := z) (by omega) (by omega), w_in (by omega) (by omega)]
theorem fa_b {W : List Int} {J : List S41} (hv : jv W J = true) {o all now : List Int} {a i : Int} (a0 : 0 ≤ a) (a1 : a < (W.length : Int)) (hall : all.length = W.length) (hnow : now.length = W.length) {p : List Int} (hp : p.length ≤ 60) (ha : ∀ b, 0 ≤ b → b < (W.length : Int) → rd all b = tot J b) (hw : ∀ b, 0 ≤ b → b < (W.length : Int) → rd now b = sv J p b) (phi : Phi W J p)
    {K : Nat} (next : ∀ k', K ≤ k' → laws_FnFairApart.l1 k' W J o all now (o.length : Int) i (W.length : Int) (a + 1) = some true) (d : Nat) : ∀ (k : Nat) (b : Int), 0 ≤ b → b + d = W.length → K + d < k → laws_FnFairApart.l2 k W J o all now a (o.length : Int) i (W.length : Int) a (W.length : Int) b = some true := by
  obtain ⟨v1, v2, v3, v4, v5⟩ := jv_at hv
  induction d with
  | zero =>
    intro k b b0 hb hk
    obtain ⟨k, rfl⟩ : ∃ q, k = q + 1 := ⟨k - 1, by omega⟩
    simp only [laws_FnFairApart.l2]
    rw [if_neg (by omega), w_in (n := a + 1) (by omega) (by omega)]
    exact next k (by omega)
  | succ d ih =>
    intro k b b0 hb hk
    obtain ⟨k, rfl⟩ : ∃ q, k = q + 1 := ⟨k - 1, by omega⟩
    have b1 : b < (W.length : Int) := by omega
    have nx := ih k (b + 1) (by omega) (by push_cast at hb ⊢; omega) (by omega)
    simp only [laws_FnFairApart.l2]
    rw [if_pos b1, if_pos b0, if_pos (by omega), if_pos (by omega), w_in (n := b + 1) (by omega) (by omega), ha b b0 b1, hw b b0 b1, hw a a0 a1]
    by_cases hlt : sv J p b < tot J b
    · have hph := phi a b a0 a1 b0 b1 hlt
      have wa := rdW v3 a0 a1
      have wb := rdW v3 b0 b1
      have sa := sv_bd hv a p
      have sb := sv_bd hv b p
      have m1 := mul_bd (s := sv J p a) (B := rd W b) (by omega) wb
      have m2 := mul_bd (s := sv J p b) (B := rd W a) (by omega) wa
      rw [if_pos hlt, if_pos a0, if_pos (by omega), if_pos b1, if_pos a1, bs (ab_ok hv a0 a1 b0 b1)]
      generalize sv J p a * rd W b = z1 at *
      generalize sv J p b * rd W a = z2 at *
      rw [w_in (n := z1) (by omega) (by omega), w_in (n := z2) (by omega) (by omega), w_in (n := z1 - z2) (by omega) (by omega), if_neg (by omega)]
      exact nx
    · rw [if_neg hlt]
      exact nx
theorem fa_a {W : List Int} {J : List S41} (hv : jv W J = true) {o all now : List Int} {i : Int} (i0 : 0 ≤ i) (i1 : i < (o.length : Int)) (ho : o.length ≤ 60) (hall : all.length = W.length) (hnow : now.length = W.length) {p : List Int} (hp : p.length ≤ 60) (ha : ∀ b, 0 ≤ b → b < (W.length : Int) → rd all b = tot J b) (hw : ∀ b, 0 ≤ b → b < (W.length : Int) → rd now b = sv J p b) (phi : Phi W J p)
    {K : Nat} (next : ∀ k', K ≤ k' → laws_FnFairApart.l0 k' W J o all (o.length : Int) (i + 1) = some true) (d : Nat) : ∀ (k : Nat) (a : Int), 0 ≤ a → a + d = W.length → K + 10 * d < k → laws_FnFairApart.l1 k W J o all now (o.length : Int) i (W.length : Int) a = some true := by
  obtain ⟨v1, v2, v3, v4, v5⟩ := jv_at hv
  induction d with
  | zero =>
    intro k a a0 h1 hk
    obtain ⟨k, rfl⟩ : ∃ q, k = q + 1 := ⟨k - 1, by omega⟩
    simp only [laws_FnFairApart.l1]
    rw [if_neg (by omega), w_in (n := i + 1) (by omega) (by omega)]
    exact next k (by omega)
  | succ d ih =>
    intro k a a0 h1 hk
    obtain ⟨k, rfl⟩ : ∃ q, k = q + 1 := ⟨k - 1, by omega⟩
    simp only [laws_FnFairApart.l1]
    rw [if_pos (by omega)]
    exact fa_b hv a0 (by omega) hall hnow hp ha hw phi (K := K + 10 * d + 1) (fun k' hk' => ih k' (a + 1) (by omega) (by push_cast at h1 ⊢; omega) (by omega)) W.length k 0 (by omega) (by omega) (by omega)
theorem fa_i {W : List Int} {J : List S41} (hv : jv W J = true) {o all : List Int} (ho : o.length ≤ 60) (hn : o.Nodup) (hb : ∀ t ∈ o, 0 ≤ t ∧ t < (J.length : Int)) (hall : all.length = W.length) (ha : ∀ b, 0 ≤ b → b < (W.length : Int) → rd all b = tot J b) (phi : ∀ i, i ≤ o.length → Phi W J (o.take i)) (d : Nat) : ∀ (k : Nat) (i : Int), 0 ≤ i → i + d = o.length → 100 + 60 * d < k → laws_FnFairApart.l0 k W J o all (o.length : Int) i = some true := by
  obtain ⟨v1, v2, v3, v4, v5⟩ := jv_at hv
  induction d with
  | zero =>
    intro k i i0 h1 hk
    obtain ⟨k, rfl⟩ : ∃ q, k = q + 1 := ⟨k - 1, by omega⟩
    simp only [laws_FnFairApart.l0]
    rw [if_neg (by omega)]
  | succ d ih =>
    intro k i i0 h1 hk
    obtain ⟨k, rfl⟩ : ∃ q, k = q + 1 := ⟨k - 1, by omega⟩
    have hlt : (o.take i.toNat).length ≤ 60 := by
      rw [List.length_take]
      omega
    obtain ⟨now, n1, n2, n3⟩ := sb_ok hv hlt (hn.sublist (List.take_sublist _ _)) (fun t ht => hb t (List.mem_of_mem_take ht))
    simp only [laws_FnFairApart.l0]
    rw [if_pos (by omega), if_pos i0, if_pos (by omega), bs (n3 k (by omega))]
    exact fa_a hv i0 (by omega) ho hall n1 hlt ha n2 (phi _ (by omega)) (K := 100 + 60 * d + 1) (fun k' hk' => ih k' (i + 1) (by omega) (by push_cast at h1 ⊢; omega) (by omega)) W.length k 0 (by omega) (by omega) (by omega)
theorem fa_none {W : List Int} {J : List S41} (all : List Int) {k : Nat} (hk : 0 < k) : laws_FnFairApart.l0 k W J [] all 0 0 = some true := by
  obtain ⟨k, rfl⟩ : ∃ q, k = q + 1 := ⟨k - 1, by omega⟩
  simp only [laws_FnFairApart.l0]
  rw [if_neg (by omega)]
theorem FnFairApart : laws_FnFairApart.Pure := by
  intro l0 _ _ hl0
  obtain ⟨k, hk⟩ : ∃ k, 5000 < k := ⟨5001, by omega⟩
  refine ⟨k, ?_⟩
  unfold laws_FnFairApart.f
  by_cases hlen : (l0.length : Int) > 1048576
  · rw [if_pos hlen]
  rw [if_neg hlen]
  obtain ⟨W, J, e, hW, hJ⟩ := drawFair hl0 (k := k) (by omega)
  obtain ⟨r, hr, fr⟩ := fair_ok (W := W) (J := J) (by omega) (by omega)
  obtain ⟨e1, e2⟩ := fr k (by omega)
  rw [bs e]
  dsimp only
  rw [bs e2, bs e1, bs (wn_ok (by omega) (by omega)), if_pos rfl]
  by_cases hv : jv W J = true
  · obtain ⟨h1, ⟨h2, h3⟩, h4⟩ := apart_ends hv (by omega) e2
    obtain ⟨all, a1, a2, a3⟩ := sb_ok hv (l := r) (by omega) h2 h3
    rw [bs (a3 k (by omega))]
    exact fa_i hv (by omega) h2 h3 a1 (fun b b0 b1 => by rw [a2 b b0 b1, h1 b b0 b1]) h4 r.length k 0 (by omega) (by omega) (by omega)
  · have er : r = [] := by
      unfold impl_FairOrder.f at e2
      rw [bs (impl_jv (by omega)), if_neg hv] at e2
      exact (Option.some.inj e2).symm
    subst er
    have es : impl_ServedBy.f k W J [] = some [] := by
      unfold impl_ServedBy.f
      rw [bs (impl_jv (by omega)), if_neg hv]
    rw [bs es]
    exact fa_none [] (by omega)

end Go.Proofs.Ytnjghnpfapoecaa.Pure
