/- What both sides of FnExactAliveAt compute, in plain Lean. -/
import Derived.Test.YtfdcglkmacinmaaPFnExactAliveAtx2
import Derived.Laws.BitsLemmas
import Derived.OpenShut
namespace Go.Proofs.Ytfdcglkmacinmaa.Pure
set_option linter.unusedVariables false
set_option linter.unusedSimpArgs false
open Go.RowKit Go.OpenShut Go.Proofs.Ytfdcglkmacinmaa.PFnExactAliveAt Go.Proofs.YtfdcglkmacinmaaW.PrintWords Go.Proofs.YtfdcglkmacinmaaW.PrintLast

theorem w_in {n : Int} (h0 : -9223372036854775808 ≤ n) (h1 : n ≤ 9223372036854775807) : wrap64 n = n := by unfold wrap64; omega

theorem allO_total {α : Type} {p : α → Option Bool} {q : α → Bool} : ∀ (l : List α), (∀ x ∈ l, p x = some (q x)) → allO p l = some (l.all q)
  | [], _ => rfl
  | x :: xs, h => by
    have ih := allO_total xs (fun y hy => h y (List.mem_cons_of_mem _ hy))
    simp only [allO, h x (List.mem_cons_self), Option.bind_some, List.all_cons]
    cases q x
    · simp
    · simpa using ih

theorem rd_at {l : List Int} {i : Int} (h0 : 0 ≤ i) (h : i.toNat < l.length) : l.drop i.toNat = rd l i :: l.drop (i + 1).toNat := by
  rw [List.drop_eq_getElem_cons h, show (i + 1).toNat = i.toNat + 1 by omega]
  unfold rd
  rw [List.getD_eq_getElem?_getD, List.getElem?_eq_getElem h]
  rfl
theorem rd_mem {l : List Int} {i : Int} (h0 : 0 ≤ i) (h : i < l.length) : rd l i ∈ l := by
  unfold rd
  rw [List.getD_eq_getElem?_getD, List.getElem?_eq_getElem (by omega)]
  exact List.getElem_mem _

theorem s_in (a b c : Int) : spec_l1In.f a b c = some (decide (b ≤ a ∧ a ≤ c)) := by
  unfold spec_l1In.f
  by_cases h : b ≤ a <;> simp [h]
theorem i_in (a b c : Int) : impl_within.f a b c = some (decide (b ≤ a ∧ a ≤ c)) := by
  unfold impl_within.f
  by_cases h : b ≤ a <;> simp [h]
/-- Do numbers ascend, from index i on? -/
def asc (l : List Int) : Int → Nat → Bool
  | _, 0 => true
  | i, d + 1 => (decide (i ≤ 0) || decide (rd l (i - 1) < rd l i)) && asc l (i + 1) d
theorem impl_asc_loop (l : List Int) (hl : l.length ≤ 9223372036854775806) (d : Nat) : ∀ (k : Nat) (i : Int), 1 ≤ i → (d = 0 → (l.length : Int) ≤ i) → (0 < d → i + d = l.length) → d < k → impl_ascends.l0 k l i = some (asc l i d) := by
  induction d with
  | zero =>
    intro k i h0 h1 h2 hk
    obtain ⟨k, rfl⟩ : ∃ m, k = m + 1 := ⟨k - 1, by omega⟩
    have := h1 rfl
    simp only [impl_ascends.l0]
    rw [if_neg (by omega)]
    rfl
  | succ d ih =>
    intro k i h0 h1 h2 hk
    obtain ⟨k, rfl⟩ : ∃ m, k = m + 1 := ⟨k - 1, by omega⟩
    have := h2 (by omega)
    simp only [impl_ascends.l0]
    rw [w_in (n := i - 1) (by omega) (by omega), if_pos (by omega), if_pos (by omega), if_pos (by omega), if_pos (by omega), w_in (n := i + 1) (by omega) (by omega), ih k (i + 1) (by omega) (by omega) (by omega) (by omega)]
    simp only [asc]
    have e : decide (i ≤ 0) = false := by simp; omega
    by_cases h : rd l i ≤ rd l (i - 1)
    · rw [if_pos h]
      have e2 : decide (rd l (i - 1) < rd l i) = false := by simp; omega
      simp [e, e2]
    · rw [if_neg h]
      have e2 : decide (rd l (i - 1) < rd l i) = true := by simp; omega
      simp [e2]
theorem impl_asc {l : List Int} (hl : l.length ≤ 9223372036854775806) {k : Nat} (hk : l.length + 1 < k) : impl_ascends.f k l = some (asc l 0 l.length) := by
  unfold impl_ascends.f
  rw [impl_asc_loop l hl (l.length - 1) k 1 (by omega) (by omega) (by omega) (by omega)]
  cases h : l.length with
  | zero => simp [asc]
  | succ n => simp [asc]

theorem toInt_loop (l : List Int) (hl : l.length ≤ 9223372036854775806) (d : Nat) : ∀ (k : Nat) (i : Int) (x : List Int), 0 ≤ i → i + d = l.length → d < k → x.length = l.length → x.take i.toNat = l.take i.toNat →
    laws_toIntS.l0 k l x i = some l := by
  induction d with
  | zero =>
    intro k i x h0 h1 hk hx ht
    obtain ⟨k, rfl⟩ : ∃ m, k = m + 1 := ⟨k - 1, by omega⟩
    simp only [laws_toIntS.l0]
    rw [if_neg (by omega)]
    rw [List.take_of_length_le (by omega), List.take_of_length_le (by omega)] at ht
    rw [ht]
  | succ d ih =>
    intro k i x h0 h1 hk hx ht
    obtain ⟨k, rfl⟩ : ∃ m, k = m + 1 := ⟨k - 1, by omega⟩
    simp only [laws_toIntS.l0]
    rw [if_pos (by omega), if_pos h0, if_pos (by omega), w_in (by omega) (by omega)]
    refine ih k (i + 1) _ (by omega) (by omega) (by omega) (by simpa using hx) ?_
    have e : (i + 1).toNat = i.toNat + 1 := by omega
    have hi : i.toNat < l.length := by omega
    rw [e, List.take_succ_eq_append_getElem (by simpa [hx] using hi), List.take_succ_eq_append_getElem hi, List.getElem_set_self, List.take_set_of_le (Nat.le_refl _), ht]
    congr 2
    unfold rd
    rw [List.getD_eq_getElem?_getD, List.getElem?_eq_getElem hi]
    rfl
theorem toInt_ok {l : List Int} (hl : l.length ≤ 35184372088832) {k : Nat} (hk : l.length < k) : laws_toIntS.f k l = some l := by
  unfold laws_toIntS.f
  rw [if_pos (by omega), if_pos (by omega)]
  exact toInt_loop l (by omega) l.length k 0 _ (by omega) (by omega) hk (by simp) (by simp)

theorem eqInt_loop (l : List Int) (hl : l.length ≤ 9223372036854775806) (d : Nat) : ∀ (k : Nat) (i : Int), 0 ≤ i → i + d = l.length → d < k → laws_eqIntS.l0 k l l i = some true := by
  induction d with
  | zero =>
    intro k i h0 h1 hk
    obtain ⟨k, rfl⟩ : ∃ m, k = m + 1 := ⟨k - 1, by omega⟩
    simp only [laws_eqIntS.l0]
    rw [if_neg (by omega)]
  | succ d ih =>
    intro k i h0 h1 hk
    obtain ⟨k, rfl⟩ : ∃ m, k = m + 1 := ⟨k - 1, by omega⟩
    simp only [laws_eqIntS.l0]
    rw [if_pos (by omega), if_pos h0, if_pos (by omega), if_pos trivial, w_in (by omega) (by omega)]
    exact ih k (i + 1) (by omega) (by omega) (by omega)
theorem eqInt_ok {l : List Int} (hl : l.length ≤ 35184372088832) {k : Nat} (hk : l.length < k) : laws_eqIntS.f k l l = some true := by
  unfold laws_eqIntS.f
  rw [if_pos rfl]
  exact eqInt_loop l (by omega) l.length k 0 (by omega) (by omega) hk

def clk (x : Int) : Bool := decide (0 ≤ x ∧ x ≤ 2000)
def hvv (l : List Int) : Bool := l.all clk && asc l 0 l.length && decide (l.length ≤ 60)
theorem spec_hellos_loop (l : List Int) (hl : l.length ≤ 9223372036854775806) (d : Nat) : ∀ (k : Nat) (i : Int), 0 ≤ i → i + d = l.length → d < k →
    spec_HellosValid.l0 k l i = some ((l.drop i.toNat).all clk && asc l i d && decide (l.length ≤ 60)) := by
  induction d with
  | zero =>
    intro k i h0 h1 hk
    obtain ⟨k, rfl⟩ : ∃ m, k = m + 1 := ⟨k - 1, by omega⟩
    simp only [spec_HellosValid.l0]
    rw [if_neg (by omega), List.drop_eq_nil_of_le (by omega)]
    simp [asc]
    omega
  | succ d ih =>
    intro k i h0 h1 hk
    obtain ⟨k, rfl⟩ : ∃ m, k = m + 1 := ⟨k - 1, by omega⟩
    rw [rd_at h0 (by omega)]
    simp only [spec_HellosValid.l0, s_in, Option.bind_some]
    rw [if_pos (by omega), if_pos h0, w_in (n := i - 1) (by omega) (by omega), w_in (n := i + 1) (by omega) (by omega), ih k (i + 1) (by omega) (by omega) (by omega)]
    simp only [List.all_cons, asc]
    rw [show decide (0 ≤ rd l i ∧ rd l i ≤ 2000) = clk (rd l i) from rfl]
    by_cases hc : clk (rd l i) = true
    · rw [if_pos hc]
      simp only [hc, Bool.true_and]
      by_cases hi : i > 0
      · have e : decide (i ≤ 0) = false := by simp; omega
        rw [if_pos hi, if_pos (by omega), if_pos (by omega)]
        by_cases h : rd l (i - 1) ≥ rd l i
        · have e2 : decide (rd l (i - 1) < rd l i) = false := by simp; omega
          rw [if_pos h]
          simp [e, e2]
        · have e2 : decide (rd l (i - 1) < rd l i) = true := by simp; omega
          rw [if_neg h]
          simp [e2]
      · have e : decide (i ≤ 0) = true := by simp; omega
        rw [if_neg hi]
        simp [e]
    · rw [if_neg hc]
      simp [hc]
theorem spec_hellos {l : List Int} (hl : l.length ≤ 9223372036854775806) {k : Nat} (hk : l.length < k) : spec_HellosValid.f k l = some (hvv l) := by
  unfold spec_HellosValid.f hvv
  rw [spec_hellos_loop l hl l.length k 0 (by omega) (by omega) hk]
  simp
theorem impl_clk (x : Int) : impl_isClock.f x = some (clk x) := by
  unfold impl_isClock.f clk
  rw [i_in]
  rfl
theorem impl_hellos {l : List Int} (hl : l.length ≤ 9223372036854775806) {k : Nat} (hk : l.length + 1 < k) : impl_HellosValid.f k l = some (hvv l) := by
  unfold impl_HellosValid.f all_impl_isClock.f hvv
  rw [allO_total (q := clk) l (fun x _ => impl_clk x), impl_asc hl hk]
  by_cases h : l.length ≤ 60
  · rw [if_pos (by omega)]
    simp only [Option.bind_some]
    cases l.all clk <;> simp [h]
  · rw [if_neg (by omega)]
    simp [h]

theorem anyO_total {α : Type} {p : α → Option Bool} (hp : ∀ x, ∃ b, p x = some b) : ∀ l : List α, ∃ b, anyO p l = some b
  | [] => ⟨false, rfl⟩
  | x :: xs => by
    obtain ⟨b, hb⟩ := hp x
    obtain ⟨c, hc⟩ := anyO_total hp xs
    cases b with
    | true => exact ⟨true, by simp [anyO, hb]⟩
    | false => exact ⟨c, by simp [anyO, hb, hc]⟩
theorem spec_alive_loop (l : List Int) (a t : Int) (hl : l.length ≤ 9223372036854775806) (d : Nat) : ∀ (k : Nat) (i : Int), 0 ≤ i → i + d = l.length → d < k →
    spec_l18Alive.l0 k l a t i = anyO (impl_heard.p a t) (l.drop i.toNat) := by
  induction d with
  | zero =>
    intro k i h0 h1 hk
    obtain ⟨k, rfl⟩ : ∃ m, k = m + 1 := ⟨k - 1, by omega⟩
    simp only [spec_l18Alive.l0]
    rw [if_neg (by omega), List.drop_eq_nil_of_le (by omega)]
    rfl
  | succ d ih =>
    intro k i h0 h1 hk
    obtain ⟨k, rfl⟩ : ∃ m, k = m + 1 := ⟨k - 1, by omega⟩
    rw [rd_at h0 (by omega)]
    simp only [spec_l18Alive.l0]
    rw [if_pos (by omega), if_pos h0, w_in (n := i + 1) (by omega) (by omega), ih k (i + 1) (by omega) (by omega) (by omega)]
    simp only [anyO, impl_heard.p, Option.bind_some]
    by_cases c1 : rd l i ≤ t
    · by_cases c2 : t < wrap64 (rd l i + a)
      · simp [c1, c2]
      · simp [c1, c2]
    · simp [c1]
def fitsv (l : List Int) (a t : Int) : Bool := hvv l && decide (1 ≤ a ∧ a ≤ 50) && decide (0 ≤ t ∧ t ≤ 2000)
theorem spec_fits {l : List Int} {a t : Int} (hl : l.length ≤ 9223372036854775806) {k : Nat} (hk : l.length < k) : spec_l18Fits.f k l a t = some (fitsv l a t) := by
  unfold spec_l18Fits.f fitsv
  rw [spec_hellos hl hk]
  simp only [Option.bind_some, s_in]
  generalize decide (1 ≤ a ∧ a ≤ 50) = x
  generalize hvv l = y
  generalize decide (0 ≤ t ∧ t ≤ 2000) = z
  cases x <;> cases y <;> cases z <;> rfl
theorem impl_fits {l : List Int} {a t : Int} (hl : l.length ≤ 9223372036854775806) {k : Nat} (hk : l.length + 1 < k) : impl_watch.f k l a t = some (fitsv l a t) := by
  unfold impl_watch.f fitsv
  rw [impl_hellos hl hk]
  simp only [Option.bind_some, i_in, impl_clk, clk]
  generalize decide (1 ≤ a ∧ a ≤ 50) = x
  generalize hvv l = y
  generalize decide (0 ≤ t ∧ t ≤ 2000) = z
  cases x <;> cases y <;> cases z <;> rfl
theorem heard_some (l : List Int) (a t : Int) : ∃ b, anyO (impl_heard.p a t) l = some b := anyO_total (fun x => ⟨_, rfl⟩) l
theorem spec_alive {l : List Int} {a t : Int} (hl : l.length ≤ 9223372036854775806) {k : Nat} (hk : l.length + 1 < k) {b : Bool} (hb : anyO (impl_heard.p a t) l = some b) : spec_AliveAt.f k l a t = some (fitsv l a t && b) := by
  unfold spec_AliveAt.f spec_l18Alive.f
  rw [spec_fits hl (by omega), spec_alive_loop l a t hl l.length k 0 (by omega) (by omega) (by omega)]
  simp only [Int.toNat_zero, List.drop_zero, hb, Option.bind_some]
  cases fitsv l a t <;> rfl
theorem impl_alive {l : List Int} {a t : Int} (hl : l.length ≤ 9223372036854775806) {k : Nat} (hk : l.length + 1 < k) {b : Bool} (hb : anyO (impl_heard.p a t) l = some b) : impl_AliveAt.f k l a t = some (fitsv l a t && b) := by
  unfold impl_AliveAt.f impl_heard.f
  rw [impl_fits hl (by omega)]
  simp only [hb, Option.bind_some]
  cases fitsv l a t <;> rfl

theorem FnExactAliveAt : laws_FnExactAliveAt.Pure := by
  intro l a t _ _ _ _ _
  refine ⟨l.length + 10, ?_⟩
  unfold laws_FnExactAliveAt.f
  obtain ⟨b, hb⟩ := heard_some l a t
  by_cases hlen : (l.length : Int) > 1048576
  · rw [if_pos hlen]
  rw [if_neg hlen]
  simp only [toInt_ok (l := l) (k := l.length + 10) (by omega) (by omega), eqInt_ok (l := l) (k := l.length + 10) (by omega) (by omega), spec_alive (l := l) (k := l.length + 10) (by omega) (by omega) hb, impl_alive (l := l) (k := l.length + 10) (by omega) (by omega) hb, Option.bind_some, if_true, bne_self_eq_false, Bool.false_eq_true, if_false]

end Go.Proofs.Ytfdcglkmacinmaa.Pure
