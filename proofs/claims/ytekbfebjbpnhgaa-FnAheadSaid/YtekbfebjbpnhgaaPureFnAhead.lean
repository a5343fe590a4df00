/- The pure part of FnAhead: for every text of at most 2^47 bytes the law answers true. -/
import Derived.Test.YtekbfebjbpnhgaaPFnAheadx4
import Derived.Laws.BitsLemmas
import Derived.OpenShut
namespace Go.Proofs.Ytekbfebjbpnhgaa.Pure
set_option linter.unusedVariables false
set_option linter.unusedSimpArgs false
open Go.RowKit Go.OpenShut Go.Proofs.Ytekbfebjbpnhgaa.PFnAhead Go.Proofs.YtekbfebjbpnhgaaW.PrintWords Go.Proofs.YtekbfebjbpnhgaaW.PrintLast

theorem w_in {n : Int} (h0 : -9223372036854775808 ≤ n) (h1 : n ≤ 9223372036854775807) : wrap64 n = n := by unfold wrap64; omega

/-- A byte list's reader never fails: what 'pick' answers. -/
theorem b_rd {b : List Int} (hb : ∀ x ∈ b, 0 ≤ x ∧ x ≤ 255) (i : Int) : 0 ≤ rd b i ∧ rd b i ≤ 255 := by
  unfold rd
  rw [List.getD_eq_getElem?_getD]
  cases h : b[i.toNat]? with
  | none => simp
  | some x => exact hb x (List.mem_of_getElem? h)

theorem xor_nn {x y : Int} (hx0 : 0 ≤ x) (hx : x < 4611686018427387904) (hy0 : 0 ≤ y) (hy : y < 4611686018427387904) : 0 ≤ Go.bits .xor .i64 x y := by
  obtain ⟨a, rfl⟩ := Int.eq_ofNat_of_zero_le hx0
  obtain ⟨b, rfl⟩ := Int.eq_ofNat_of_zero_le hy0
  have ha : a < 2 ^ 62 := by simp; omega
  have hb : b < 2 ^ 62 := by simp; omega
  have hc : a ^^^ b < 2 ^ 62 := Nat.xor_lt_two_pow ha hb
  have ha' : a % 2 ^ 64 = a := Nat.mod_eq_of_lt (by simp at ha ⊢; omega)
  have hb' : b % 2 ^ 64 = b := Nat.mod_eq_of_lt (by simp at hb ⊢; omega)
  have key : (BitVec.ofNat 64 a ^^^ BitVec.ofNat 64 b).toNat = a ^^^ b := by rw [BitVec.toNat_xor, BitVec.toNat_ofNat, BitVec.toNat_ofNat, ha', hb']
  have e : Go.bits .xor .i64 (a : Int) (b : Int) = IntKind.i64.wrap (((BitVec.ofNat 64 a ^^^ BitVec.ofNat 64 b).toNat : Nat) : Int) := by
    simp only [Go.bits, BitVec.ofInt_natCast]
    rfl
  rw [e, key, IntKind.wrap_i64]
  generalize a ^^^ b = c at hc
  simp at hc
  omega

theorem tm_bd {x n : Int} (hx : 0 ≤ x) (hn : 0 < n) : 0 ≤ Int.tmod x n ∧ Int.tmod x n < n := by
  rw [Int.tmod_eq_emod_of_nonneg hx]
  exact ⟨Int.emod_nonneg _ (by omega), Int.emod_lt_of_pos _ hn⟩

theorem pick_ok {k : Nat} {b : List Int} {p n : Int} (hb : ∀ x ∈ b, 0 ≤ x ∧ x ≤ 255) (hp0 : 0 ≤ p) (hp : p ≤ 100000000) (hn : 1 ≤ n) (hk : 0 < k) :
    ∃ v, spec_l21Rd_pick.f k b p n = some (v, p + 1) ∧ 0 ≤ v ∧ v < n := by
  obtain ⟨k, rfl⟩ : ∃ m, k = m + 1 := ⟨k - 1, by omega⟩
  have e1 : wrap64 (p + 1) = p + 1 := w_in (by omega) (by omega)
  have e2 : wrap64 (p + 1 - 1) = p := by rw [show p + 1 - 1 = p by omega]; exact w_in (by omega) (by omega)
  unfold spec_l21Rd_pick.f
  rw [if_neg (by omega), e1]
  simp only [spec_l21Rd_pick.j0, e2]
  by_cases h0 : b.length = 0
  · rw [if_pos (by simp [h0])]
    exact ⟨0, rfl, by omega, by omega⟩
  rw [if_neg (by simp; intro h; simp [h] at h0)]
  have hl : 0 < (b.length : Int) := by omega
  by_cases h1 : p < (b.length : Int)
  · rw [if_pos h1, if_pos hp0, if_neg (by omega)]
    have := b_rd hb p
    rw [w_in (n := rd b p) (by omega) (by omega)]
    exact ⟨_, rfl, (tm_bd this.1 (by omega)).1, (tm_bd this.1 (by omega)).2⟩
  rw [if_neg h1, if_neg (by omega)]
  have m1 := tm_bd (x := p) (n := b.length) hp0 hl
  have e3 : wrap64 (p * 7) = p * 7 := w_in (by omega) (by omega)
  have e4 : wrap64 (p * 7 + 3) = p * 7 + 3 := w_in (by omega) (by omega)
  have m2 := tm_bd (x := p * 7 + 3) (n := b.length) (by omega) hl
  rw [e3, e4, if_pos m1.1, if_pos m1.2, if_pos m2.1, if_pos m2.2, if_neg (by omega)]
  have r1 := b_rd hb (Int.tmod p b.length)
  have r2 := b_rd hb (Int.tmod (p * 7 + 3) b.length)
  generalize rd b (Int.tmod p b.length) = u at r1
  generalize rd b (Int.tmod (p * 7 + 3) b.length) = v at r2
  have d1 : 0 ≤ Int.tdiv p b.length ∧ Int.tdiv p b.length ≤ p := by
    rw [Int.tdiv_eq_ediv_of_nonneg hp0]
    exact ⟨Int.ediv_nonneg hp0 (by omega), Int.ediv_le_self _ hp0⟩
  generalize Int.tdiv p b.length = d at d1
  have e5 : wrap64 (wrap64 (wrap64 (wrap64 (wrap64 u * 131) + wrap64 (wrap64 v * 1117)) + wrap64 (p * 29)) + wrap64 (wrap64 d * 53)) = u * 131 + v * 1117 + p * 29 + d * 53 := by
    rw [w_in (n := u) (by omega) (by omega), w_in (n := v) (by omega) (by omega), w_in (n := d) (by omega) (by omega), w_in (n := u * 131) (by omega) (by omega), w_in (n := v * 1117) (by omega) (by omega), w_in (n := p * 29) (by omega) (by omega), w_in (n := d * 53) (by omega) (by omega), w_in (n := u * 131 + v * 1117) (by omega) (by omega), w_in (n := u * 131 + v * 1117 + p * 29) (by omega) (by omega), w_in (by omega) (by omega)]
  rw [e5]
  have hx0 : 0 ≤ u * 131 + v * 1117 + p * 29 + d * 53 := by omega
  have hx1 : u * 131 + v * 1117 + p * 29 + d * 53 < 4611686018427387904 := by omega
  generalize u * 131 + v * 1117 + p * 29 + d * 53 = x at hx0 hx1
  have d2 : 0 ≤ Int.tdiv x 64 ∧ Int.tdiv x 64 < 4611686018427387904 := by
    rw [Int.tdiv_eq_ediv_of_nonneg hx0]
    omega
  rw [w_in (n := Int.tdiv x 64) (by omega) (by omega)]
  have hz := xor_nn hx0 hx1 d2.1 d2.2
  exact ⟨_, rfl, (tm_bd hz (by omega)).1, (tm_bd hz (by omega)).2⟩

theorem num_ok {k : Nat} {b : List Int} {p : Int} {xs : List Int} (hb : ∀ x ∈ b, 0 ≤ x ∧ x ≤ 255) (hp0 : 0 ≤ p) (hp : p ≤ 100000000) (hn : 1 ≤ xs.length) (hk : 0 < k) :
    ∃ v, spec_l21Rd_num.f k b p xs = some (v, p + 1) ∧ v ∈ xs := by
  obtain ⟨i, hi, h0, h1⟩ := pick_ok (n := (xs.length : Int)) hb hp0 hp (by omega) hk
  refine ⟨rd xs i, ?_, ?_⟩
  · unfold spec_l21Rd_num.f
    rw [hi]
    simp only [Option.bind_some]
    rw [if_pos h0, if_pos h1]
  · unfold rd
    rw [List.getD_eq_getElem?_getD, List.getElem?_eq_getElem (by omega)]
    exact List.getElem_mem _

theorem open_ok {l : List Int} (hl : ∀ x ∈ l, (Lit.int .u8 x).wf = true) : ∃ b, spec_l21Open.f l = some (b, 0) ∧ ∀ x ∈ b, 0 ≤ x ∧ x ≤ 255 := by
  have hb : ∀ x ∈ l, 0 ≤ x ∧ x ≤ 255 := fun x hx => bounds_u8 (hl x hx)
  unfold spec_l21Open.f
  by_cases h : (l.length : Int) > 2000
  · rw [if_pos h, if_pos (by omega)]
    exact ⟨_, rfl, fun x hx => hb x (List.mem_of_mem_take hx)⟩
  · rw [if_neg h]
    exact ⟨_, rfl, hb⟩

/-- Is it an exchange? -/
def vx (a b c d : Int) : Bool := decide (-1000000 ≤ a ∧ a ≤ 1000000) && decide (-1000000 ≤ b ∧ b ≤ 1000000) && decide (-1000000 ≤ c ∧ c ≤ 1000000) && decide (-1000000 ≤ d ∧ d ≤ 1000000) && decide (d ≥ a) && decide (c ≥ b) && decide (d - a ≥ c - b)

theorem vx_iff {a b c d : Int} : vx a b c d = true ↔ (-1000000 ≤ a ∧ a ≤ 1000000) ∧ (-1000000 ≤ b ∧ b ≤ 1000000) ∧ (-1000000 ≤ c ∧ c ≤ 1000000) ∧ (-1000000 ≤ d ∧ d ≤ 1000000) ∧ a ≤ d ∧ b ≤ c ∧ c - b ≤ d - a := by
  simp [vx]
  omega

theorem spec_time (a : Int) : spec_l15Time.f a = some (decide (-1000000 ≤ a ∧ a ≤ 1000000)) := by
  unfold spec_l15Time.f spec_l1In.f
  by_cases h : -1000000 ≤ a <;> simp [h]
theorem impl_time (a : Int) : impl_isTime.f a = some (decide (-1000000 ≤ a ∧ a ≤ 1000000)) := by
  unfold impl_isTime.f impl_within.f
  by_cases h : -1000000 ≤ a <;> simp [h]

theorem spec_valid (a b c d : Int) : spec_ExchangeValid.f a b c d = some (vx a b c d) := by
  unfold spec_ExchangeValid.f
  simp only [spec_time, Option.bind_some, decide_eq_true_eq]
  by_cases h1 : -1000000 ≤ a ∧ a ≤ 1000000
  · by_cases h2 : -1000000 ≤ b ∧ b ≤ 1000000
    · by_cases h3 : -1000000 ≤ c ∧ c ≤ 1000000
      · by_cases h4 : -1000000 ≤ d ∧ d ≤ 1000000
        · rw [w_in (n := d - a) (by omega) (by omega), w_in (n := c - b) (by omega) (by omega)]
          by_cases h5 : a ≤ d <;> by_cases h6 : b ≤ c <;> simp [vx, h1, h2, h3, h4, h5, h6]
        · simp [vx, h1, h2, h3, h4]
      · simp [vx, h1, h2, h3]
    · simp [vx, h1, h2]
  · simp [vx, h1]
theorem impl_valid (a b c d : Int) : impl_ExchangeValid.f a b c d = some (vx a b c d) := by
  unfold impl_ExchangeValid.f
  simp only [impl_time, Option.bind_some, decide_eq_true_eq]
  by_cases h1 : -1000000 ≤ a ∧ a ≤ 1000000
  · by_cases h2 : -1000000 ≤ b ∧ b ≤ 1000000
    · by_cases h3 : -1000000 ≤ c ∧ c ≤ 1000000
      · by_cases h4 : -1000000 ≤ d ∧ d ≤ 1000000
        · rw [w_in (n := d - a) (by omega) (by omega), w_in (n := c - b) (by omega) (by omega)]
          by_cases h5 : a ≤ d <;> by_cases h6 : b ≤ c <;> simp [vx, h1, h2, h3, h4, h5, h6]
        · simp [vx, h1, h2, h3, h4]
      · simp [vx, h1, h2, h3]
    · simp [vx, h1, h2]
  · simp [vx, h1]

def tw (a b c d : Int) : Int := if vx a b c d = true then b - a + c - d else 0
def wy (a b c d : Int) : Int := if vx a b c d = true then d - a - (c - b) else -1

theorem tw_bd {a b c d : Int} (h : vx a b c d = true) : tw a b c d = b - a + c - d ∧ wy a b c d = d - a - (c - b) := by
  unfold tw wy; rw [if_pos h, if_pos h]; exact ⟨rfl, rfl⟩

theorem impl_twice (a b c d : Int) : impl_TwiceAhead.f a b c d = some (tw a b c d) := by
  unfold impl_TwiceAhead.f tw
  simp only [impl_valid, Option.bind_some]
  by_cases h : vx a b c d = true
  · rw [if_pos h, if_pos h]
    rw [vx_iff] at h
    rw [w_in (n := b - a) (by omega) (by omega), w_in (n := b - a + c) (by omega) (by omega), w_in (by omega) (by omega)]
  · rw [if_neg h, if_neg h]
theorem impl_way (a b c d : Int) : impl_WayOf.f a b c d = some (wy a b c d) := by
  unfold impl_WayOf.f wy
  simp only [impl_valid, Option.bind_some]
  by_cases h : vx a b c d = true
  · rw [if_pos h, if_pos h]
    rw [vx_iff] at h
    rw [w_in (n := d - a) (by omega) (by omega), w_in (n := c - b) (by omega) (by omega), w_in (by omega) (by omega)]
  · rw [if_neg h, if_neg h]

theorem impl_span (a b c d : Int) : impl_SpanOf.f a b c d = some (if vx a b c d = true then (tw a b c d - wy a b c d, tw a b c d + wy a b c d, true) else (0, 0, false)) := by
  unfold impl_SpanOf.f
  simp only [impl_valid, impl_twice, impl_way, Option.bind_some]
  by_cases h : vx a b c d = true
  · rw [if_pos h, if_pos h]
    obtain ⟨e1, e2⟩ := tw_bd h
    rw [e1, e2]
    rw [vx_iff] at h
    rw [w_in (n := b - a + c - d - (d - a - (c - b))) (by omega) (by omega), w_in (n := b - a + c - d + (d - a - (c - b))) (by omega) (by omega)]
  · rw [if_neg h, if_neg h]

def tOk (a t h b s : Int) : Prop := (0 ≤ t ∧ t ≤ 1000) ∧ (0 ≤ h ∧ h ≤ 1000) ∧ (0 ≤ b ∧ b ≤ 1000) ∧ (-1000000 ≤ a ∧ a ≤ 1000000) ∧ (-1000000 ≤ s ∧ s ≤ 1000000) ∧ vx s (s + t + a) (s + t + a + h) (s + t + h + b) = true
instance (a t h b s : Int) : Decidable (tOk a t h b s) := by unfold tOk; infer_instance
/-- What TalkTimes answers. -/
def tt (a t h b s : Int) : Int × Int × Int × Int × Bool := if tOk a t h b s then (s, s + t + a, s + t + a + h, s + t + h + b, true) else (0, 0, 0, 0, false)
theorem s_in (a b c : Int) : spec_l1In.f a b c = some (decide (b ≤ a ∧ a ≤ c)) := by
  unfold spec_l1In.f
  by_cases h : b ≤ a <;> simp [h]
theorem i_in (a b c : Int) : impl_within.f a b c = some (decide (b ≤ a ∧ a ≤ c)) := by
  unfold impl_within.f
  by_cases h : b ≤ a <;> simp [h]
theorem spec_talk (a t h b s : Int) {k : Nat} (hk : 0 < k) : spec_TalkTimes.f k a t h b s = some (tt a t h b s) := by
  obtain ⟨k, rfl⟩ : ∃ m, k = m + 1 := ⟨k - 1, by omega⟩
  unfold spec_TalkTimes.f tt tOk
  simp only [s_in, spec_time, Option.bind_some, spec_TalkTimes.j0, if_true, decide_eq_true_eq]
  by_cases h1 : 0 ≤ t ∧ t ≤ 1000
  · by_cases h2 : 0 ≤ h ∧ h ≤ 1000
    · by_cases h3 : 0 ≤ b ∧ b ≤ 1000
      · by_cases h4 : -1000000 ≤ a ∧ a ≤ 1000000
        · by_cases h5 : -1000000 ≤ s ∧ s ≤ 1000000
          · rw [w_in (n := s + t) (by omega) (by omega), w_in (n := s + t + a) (by omega) (by omega), w_in (n := s + t + a + h) (by omega) (by omega), w_in (n := s + t + h) (by omega) (by omega), w_in (n := s + t + h + b) (by omega) (by omega)]
            simp only [spec_valid, Option.bind_some]
            by_cases h6 : vx s (s + t + a) (s + t + a + h) (s + t + h + b) = true <;> simp [h1, h2, h3, h4, h5, h6]
          · simp [h1, h2, h3, h4, h5]
        · simp [h1, h2, h3, h4]
      · simp [h1, h2, h3]
    · simp [h1, h2]
  · simp [h1]
theorem impl_talk (a t h b s : Int) {k : Nat} (hk : 5 < k) : impl_TalkTimes.f k a t h b s = some (tt a t h b s) := by
  obtain ⟨k, rfl⟩ : ∃ m, k = m + 1 + 1 + 1 + 1 + 1 := ⟨k - 5, by omega⟩
  unfold impl_TalkTimes.f tt tOk
  have e1 : wrap64 (0 + 1) = 1 := w_in (n := 0 + 1) (by omega) (by omega)
  have e2 : wrap64 (1 + 1) = 2 := w_in (n := 1 + 1) (by omega) (by omega)
  have e3 : wrap64 (2 + 1) = 3 := w_in (n := 2 + 1) (by omega) (by omega)
  simp only [impl_TalkTimes.l0, i_in, impl_time, Option.bind_some, impl_TalkTimes.j1, if_true, decide_eq_true_eq, e1, e2, e3]
  simp only [Int.reduceLT, Int.reduceEq, if_true, if_false]
  by_cases h1 : 0 ≤ t ∧ t ≤ 1000
  · by_cases h2 : 0 ≤ h ∧ h ≤ 1000
    · by_cases h3 : 0 ≤ b ∧ b ≤ 1000
      · by_cases h4 : -1000000 ≤ a ∧ a ≤ 1000000
        · by_cases h5 : -1000000 ≤ s ∧ s ≤ 1000000
          · rw [w_in (n := s + t) (by omega) (by omega), w_in (n := s + t + a) (by omega) (by omega), w_in (n := s + t + a + h) (by omega) (by omega), w_in (n := s + t + h) (by omega) (by omega), w_in (n := s + t + h + b) (by omega) (by omega)]
            simp only [impl_valid, Option.bind_some]
            by_cases h6 : vx s (s + t + a) (s + t + a + h) (s + t + h + b) = true <;> simp [h1, h2, h3, h4, h5, h6]
          · simp [h1, h2, h3, h4, h5]
        · simp [h1, h2, h3, h4]
      · simp [h1, h2, h3]
    · simp [h1, h2]
  · simp [h1]

theorem draw_talk {l : List Int} (hl : ∀ x ∈ l, (Lit.int .u8 x).wf = true) {k : Nat} (hk : 0 < k) : ∃ a t h b s, spec_DrawTalkTimes.f k l = some (a, t, h, b, s) := by
  obtain ⟨c, e, hb⟩ := open_ok hl
  obtain ⟨v1, e1, _, _⟩ := pick_ok (k := k) (b := c) (p := 0) (n := 256) hb (by omega) (by omega) (by omega) hk
  obtain ⟨v2, e2, _⟩ := num_ok (k := k) (b := c) (p := 0 + 1) (xs := [0, 5, -5, 300, 1000000, -1000001, v1]) hb (by omega) (by omega) (by simp) hk
  obtain ⟨v3, e3, _, _⟩ := pick_ok (k := k) (b := c) (p := 0 + 1 + 1) (n := 256) hb (by omega) (by omega) (by omega) hk
  obtain ⟨v4, e4, _⟩ := num_ok (k := k) (b := c) (p := 0 + 1 + 1 + 1) (xs := [3, 0, 1000, 1001, v3]) hb (by omega) (by omega) (by simp) hk
  obtain ⟨v5, e5, _⟩ := num_ok (k := k) (b := c) (p := 0 + 1 + 1 + 1 + 1) (xs := [1, 0, 1000, -1]) hb (by omega) (by omega) (by simp) hk
  obtain ⟨v6, e6, _, _⟩ := pick_ok (k := k) (b := c) (p := 0 + 1 + 1 + 1 + 1 + 1) (n := 256) hb (by omega) (by omega) (by omega) hk
  obtain ⟨v7, e7, _⟩ := num_ok (k := k) (b := c) (p := 0 + 1 + 1 + 1 + 1 + 1 + 1) (xs := [4, 0, 1000, 1001, v6]) hb (by omega) (by omega) (by simp) hk
  obtain ⟨v8, e8, _⟩ := num_ok (k := k) (b := c) (p := 0 + 1 + 1 + 1 + 1 + 1 + 1 + 1) (xs := [0, 77, 1000000, -1000000]) hb (by omega) (by omega) (by simp) hk
  refine ⟨v2, v4, v5, v7, v8, ?_⟩
  unfold spec_DrawTalkTimes.f
  rw [e]; simp only [Option.bind_some]
  rw [e1]; simp only [Option.bind_some]
  rw [e2]; simp only [Option.bind_some]
  rw [e3]; simp only [Option.bind_some]
  rw [e4]; simp only [Option.bind_some]
  rw [e5]; simp only [Option.bind_some]
  rw [e6]; simp only [Option.bind_some]
  rw [e7]; simp only [Option.bind_some]
  rw [e8]; simp only [Option.bind_some]

theorem FnAhead : laws_FnAhead.Pure := by
  intro l _ _ hl
  refine ⟨7, ?_⟩
  unfold laws_FnAhead.f
  by_cases hlen : (l.length : Int) > 1048576
  · rw [if_pos hlen]
  rw [if_neg hlen]
  obtain ⟨a, t, h, b, s, ed⟩ := draw_talk hl (k := 7) (by omega)
  rw [ed]
  simp only [Option.bind_some]
  rw [spec_talk _ _ _ _ _ (by omega), impl_talk _ _ _ _ _ (by omega)]
  simp only [Option.bind_some]
  rw [if_neg (by simp), if_neg (by simp)]
  simp only [laws_FnAhead.j0, impl_span, impl_twice, impl_way, impl_valid, Option.bind_some]
  by_cases hok : tOk a t h b s
  · have e : tt a t h b s = (s, s + t + a, s + t + a + h, s + t + h + b, true) := if_pos hok
    rw [e]
    rw [if_neg (by simp)]
    obtain ⟨h1, h2, h3, h4, h5, h6⟩ := hok
    obtain ⟨e1, e2⟩ := tw_bd h6
    dsimp only
    rw [if_pos h6]
    dsimp only
    rw [if_pos rfl, e1, e2, w_in (n := 2 * a) (by omega) (by omega), w_in (n := t + b) (by omega) (by omega), w_in (n := 2 * a + t) (by omega) (by omega), w_in (n := 2 * a + t - b) (by omega) (by omega)]
    unfold impl_SpanHas.f impl_Span_valid.f
    simp only [i_in, Option.bind_some]
    rw [if_pos (by simp; omega)]
    simp only [Option.bind_some]
    rw [if_pos (by simp; omega)]
    simp only [Option.bind_some]
    rw [if_pos (by simp; omega), if_pos (by omega), if_pos (by omega), h6]
  · have e : tt a t h b s = (0, 0, 0, 0, false) := if_neg hok
    rw [e]
    simp


end Go.Proofs.Ytekbfebjbpnhgaa.Pure
