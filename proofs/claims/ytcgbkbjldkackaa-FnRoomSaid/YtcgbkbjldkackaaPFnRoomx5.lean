/- What the Go functions that this law reaches answer, function by function; conditions: those that each contract names. Made for this claim by a program of this session (wip/myprint) over the kit's print. -/
import Derived.Test.YtcgbkbjldkackaaPFnRoomx0
import Derived.Test.YtcgbkbjldkackaaPFnRoomx3
import Derived.Test.YtcgbkbjldkackaaPFnRoomx4
namespace Go.Proofs.Ytcgbkbjldkackaa.PFnRoom
open Go.RowKit Go.Proofs.YtcgbkbjldkackaaW.PrintWords Go.Proofs.YtcgbkbjldkackaaW.PrintLast Go.Proofs.YtcgbkbjldkackaaW.PrintMore
attribute [local go_sem] max2_int min2_int max_two min_two max_three min_three max_four min_four   -- for this text's walks alone
set_option linter.unusedVariables false
set_option linter.unusedSimpArgs false

/-! ### impl_RunCredits: function 24 -/
/-- Block B is a map from whole numbers to bools; those of s are true. -/
def bset (w : World) (P : Program) (k e : TypeId) (B : Nat) (s : List Int) : Prop := ∃ D : DataW Unit, w.ownsMap P k (plainElem P e) B s.length D ∧ ∀ x : Int, D.atKey (.int .i64 x) (.lit (.bool false)) = .lit (.bool (s.contains x))
theorem bset_lt {w : World} {P : Program} {k e : TypeId} {B : Nat} {s : List Int} (h : bset w P k e B s) : B < w.heap.size := by
  obtain ⟨D, h1, _⟩ := h
  exact h1.lt
theorem bset_kept {w w' : World} {P : Program} {k e : TypeId} {B : Nat} {s : List Int} {row : Option Nat} (h : bset w P k e B s) (hg : w.grownBy w' row) (hne : some B ≠ row) : bset w' P k e B s := by
  obtain ⟨D, h1, h2⟩ := h
  exact ⟨D, h1.kept hg hne, h2⟩
theorem bset_below {w w' : World} {P : Program} {k e : TypeId} {B : Nat} {s : List Int} (h : bset w P k e B s) (hb : Below w.heap.size w w') : bset w' P k e B s := by
  obtain ⟨D, h1, h2⟩ := h
  have hl := h1.lt
  obtain ⟨es, clock, hh, F, hs, hD⟩ := h1
  exact ⟨D, ⟨es, clock, (hb.block B hl).trans hh, F, hs, hD⟩, h2⟩
theorem bset_set {w : World} {P : Program} {k e : TypeId} {B : Nat} {s : List Int} (h : bset w P k e B s) {g i : Nat} (ha : B ≠ g) (u : Value) : bset (w.setCell ⟨g, i, none⟩ u) P k e B s := by
  obtain ⟨D, h1, h2⟩ := h
  exact ⟨D, h1.setCell ha u, h2⟩
theorem bset_drewN {w : World} {P : Program} {k e : TypeId} {B : Nat} {s : List Int} (h : bset w P k e B s) (m : Nat) : bset (w.drewN m) P k e B s := h
theorem bset_drew {w : World} {P : Program} {k e : TypeId} {B : Nat} {s : List Int} (h : bset w P k e B s) : bset w.drew P k e B s := h
theorem bool_inv {P : Program} {e : TypeId} (he : P.underlying e = some .bool) {v : Value} {x : Bool} {ps : List MemPlace} (h : plainElem (H := Unit) P e v = some (.lit (.bool x), ps)) : v = .bool x := by
  unfold plainElem at h
  rw [he] at h
  cases v <;> simp at h
  rw [h.1]
theorem bset_look {w : World} {P : Program} {t k e : TypeId} {B : Nat} {s : List Int} (h : bset w P k e B s) (K : Go.Maps.Keyed P k) (ht : P.underlying t = some (.map k e)) (hk : P.underlying k = some (.int .i64)) (he : P.underlying e = some .bool)
    (hz : (zeroValue e).run P w = .ok (.bool false) w) (x : Int) (hw : (Lit.int .i64 x).wf = true) : (Instr.lookup t (.map (some B)) (.int .i64 x) false).run P w = .ok (.bool (s.contains x)) w := by
  obtain ⟨D, h1, h2⟩ := h
  obtain ⟨v, ps, hrun, hv⟩ := h1.lookup K ht hz (plainElem_bool he false) (Go.Maps.keyOf_int_mk hk hw)
  rw [h2 x] at hv
  rw [hrun, bool_inv he hv]
theorem bset_store {w : World} {P : Program} {t k e : TypeId} {B : Nat} {s : List Int} (h : bset w P k e B s) (K : Go.Maps.Keyed P k) (ht : P.underlying t = some (.map k e)) (hk : P.underlying k = some (.int .i64)) (he : P.underlying e = some .bool)
    (hn : s.length < maxLen) (x : Int) (hw : (Lit.int .i64 x).wf = true) : ∃ w', (Instr.mapUpdate t (.map (some B)) (.int .i64 x) (.bool true)).run P w = .ok () w' ∧ bset w' P k e B (s ++ [x]) ∧ w.grownBy w' (some B) := by
  obtain ⟨D, h1, h2⟩ := h
  obtain ⟨w', hrun, hown, hg⟩ := h1.update K ht hn (Go.Maps.keyOf_int_mk hk hw) (plainElem_bool he true)
  refine ⟨w', hrun, ⟨_, by rw [List.length_append]; exact hown, fun y => ?_⟩, hg⟩
  by_cases e : y = x
  · subst e
    rw [Go.Maps.atKey_put_same h1.isMap (by exact trivial)]
    simp
  · rw [Go.Maps.atKey_put_other (by intro h; exact e (by injection h)), h2 y]
    simp [e]
theorem wpList_lookup_bset {P : Program} (w : World) {ops : Array Oper} {rest : List Oper} {o : Oper} {a : Act} {Q : Exit → Act → World → Prop}
    (hg : o.guard = none) (m x : Operand) (t : TypeId) (hop : o.op = Op.lookup t m x false)
    (k e : TypeId) (K : Go.Maps.Keyed P k) (ht : P.underlying t = some (.map k e)) (hk : P.underlying k = some (.int .i64)) (he : P.underlying e = some .bool) (hz : (zeroValue e).run P w = .ok (.bool false) w) (B : Nat) (s : List Int)
    (hm : a.eval m = .map (some B)) (hown : bset w P k e B s) (key : Int) (hx : a.eval x = .int .i64 key) (hw : (Lit.int .i64 key).wf = true)
    (hK : wpList P ops Q rest (a.put o.dst (.bool (s.contains key))) w) :
    wpList P ops Q (o :: rest) a w := by
  refine wpList_plain hg fun K' hK' => ?_
  have hrun := bset_look hown K ht hk he hz key hw
  unfold Oper.wp
  simp [execOp, hop, hm, hx, hrun, Result.andThen]
  exact hK' _ _ (by simpa using hK)
theorem wpList_mapUpdate_bset {P : Program} (w : World) {ops : Array Oper} {rest : List Oper} {o : Oper} {a : Act} {Q : Exit → Act → World → Prop}
    (hg : o.guard = none) (m x v : Operand) (t : TypeId) (hop : o.op = Op.mapUpdate t m x v)
    (k e : TypeId) (K : Go.Maps.Keyed P k) (ht : P.underlying t = some (.map k e)) (hk : P.underlying k = some (.int .i64)) (he : P.underlying e = some .bool) (B : Nat) (s : List Int)
    (hm : a.eval m = .map (some B)) (hown : bset w P k e B s) (hn : s.length < maxLen) (key : Int) (hx : a.eval x = .int .i64 key) (hv : a.eval v = .bool true) (hw : (Lit.int .i64 key).wf = true)
    (hK : ∀ w', bset w' P k e B (s ++ [key]) → w.grownBy w' (some B) → wpList P ops Q rest (a.put o.dst undef) w') :
    wpList P ops Q (o :: rest) a w := by
  refine wpList_plain hg fun K' hK' => ?_
  obtain ⟨w', hrun, r1, r2⟩ := bset_store hown K ht hk he hn key hw
  unfold Oper.wp
  simp [execOp, hop, hm, hx, hv, hrun, Result.andThen]
  exact hK' _ _ (hK w' r1 r2)
theorem map_event {P : Program} {ops : Array Oper} {rest : List Oper} {o : Oper} {a : Act} {Q : Exit → Act → World → Prop} {W : World} {t k e : TypeId} (hgd : o.guard = none) (hop : o.op = Op.makeMap t none)
    (h : ∀ g, g = W.heap.size → ∀ w1, bset w1 P k e g [] → Below W.heap.size W w1 → wpList P ops Q rest (a.put o.dst (.map (some g))) w1) : wpList P ops Q (o :: rest) a W :=
  Kd.event_run hgd (by simp [execOp, hop, run_makeMap]) (h _ rfl _ ⟨.map [], World.ownsMap_made _ _ _ _, fun _ => rfl⟩ (below_alloc (Below.refl _ _) _))
mutual
def impl_RunCredits.j0 : Nat → Int → Int → Int → List Int → Int → Bool → Option (Int × Int × Int × Int × Bool × Bool)
  | 0, _, _, _, _, _, _ => none
  | k + 1, x0, x1, x2, x3, x4, x40 => if x40 = true then (some (0, 0, 0, 0, false, false)) else (impl_RunCredits.l0 k x1 x2 x3 x4 x0 0 [] [] 0 0 0 0 false)
def impl_RunCredits.l0 : Nat → Int → Int → List Int → Int → Int → Int → List Int → List Int → Int → Int → Int → Int → Bool → Option (Int × Int × Int × Int × Bool × Bool)
  | 0, _, _, _, _, _, _, _, _, _, _, _, _, _ => none
  | k + 1, x1, x2, x3, x4, x13, x14, x15, x16, x150000, x150001, x150002, x150003, x150004 => if x15.length < 17592186044416 then (if x16.length < 17592186044416 then (if x150001 < x2 then (impl_RunCredits.j2 k x1 x2 x3 x4 x13 x14 x15 x16 (decide (x150003 < x4)) x150000 x150001 x150002 x150003 x150004) else (impl_RunCredits.j2 k x1 x2 x3 x4 x13 x14 x15 x16 false x150000 x150001 x150002 x150003 x150004)) else (none)) else (none)
def impl_RunCredits.j2 : Nat → Int → Int → List Int → Int → Int → Int → List Int → List Int → Bool → Int → Int → Int → Int → Bool → Option (Int × Int × Int × Int × Bool × Bool)
  | 0, _, _, _, _, _, _, _, _, _, _, _, _, _, _ => none
  | k + 1, x1, x2, x3, x4, x13, x14, x15, x16, x54, x150000, x150001, x150002, x150003, x150004 => if x54 = true then (if x16.contains (wrap64 (x150003 - x1)) = true then (impl_RunCredits.j3 k x1 x2 x3 x4 (wrap64 (x13 + 1)) x14 x15 x16 x150003 x150000 x150001 x150002 (wrap64 (x150003 + 1)) x150004) else (impl_RunCredits.j3 k x1 x2 x3 x4 x13 x14 x15 x16 x150003 x150000 x150001 x150002 (wrap64 (x150003 + 1)) x150004)) else (some (x150000, x150001, x150002, x150003, (x150001 == x2), true))
def impl_RunCredits.j3 : Nat → Int → Int → List Int → Int → Int → Int → List Int → List Int → Int → Int → Int → Int → Int → Bool → Option (Int × Int × Int × Int × Bool × Bool)
  | 0, _, _, _, _, _, _, _, _, _, _, _, _, _, _ => none
  | k + 1, x1, x2, x3, x4, x13, x14, x15, x16, x17, x150000, x150001, x150002, x150003, x150004 => if x15.contains (wrap64 (x17 - x1)) = true then (impl_RunCredits.j4 k x1 x2 x3 x4 x13 (wrap64 (x14 + 1)) x15 x16 x17 x150000 x150001 x150002 x150003 x150004) else (impl_RunCredits.j4 k x1 x2 x3 x4 x13 x14 x15 x16 x17 x150000 x150001 x150002 x150003 x150004)
def impl_RunCredits.j4 : Nat → Int → Int → List Int → Int → Int → Int → List Int → List Int → Int → Int → Int → Int → Int → Bool → Option (Int × Int × Int × Int × Bool × Bool)
  | 0, _, _, _, _, _, _, _, _, _, _, _, _, _, _ => none
  | k + 1, x1, x2, x3, x4, x13, x14, x15, x16, x17, x150000, x150001, x150002, x150003, x150004 => (impl_isOpen.f x3 x17).bind fun t150 => (if t150 = true then (impl_RunCredits.j5 k x1 x2 x3 x4 x13 x14 x15 x16 x17 (decide (x14 > 0)) x150000 x150001 (mx x150002 x14) x150003 x150004) else (impl_RunCredits.j5 k x1 x2 x3 x4 x13 x14 x15 x16 x17 false x150000 x150001 (mx x150002 x14) x150003 x150004))
def impl_RunCredits.j5 : Nat → Int → Int → List Int → Int → Int → Int → List Int → List Int → Int → Bool → Int → Int → Int → Int → Bool → Option (Int × Int × Int × Int × Bool × Bool)
  | 0, _, _, _, _, _, _, _, _, _, _, _, _, _, _, _ => none
  | k + 1, x1, x2, x3, x4, x13, x14, x15, x16, x17, x86, x150000, x150001, x150002, x150003, x150004 => if x86 = true then (if x13 > 0 then (if x150000 < x2 then (impl_RunCredits.l0 k x1 x2 x3 x4 (wrap64 (x13 - 1)) (wrap64 (x14 - 1)) (x15 ++ [x17]) (x16 ++ [x17]) (wrap64 (x150000 + 1)) (wrap64 (x150001 + 1)) x150002 x150003 x150004) else (impl_RunCredits.l0 k x1 x2 x3 x4 x13 (wrap64 (x14 - 1)) x15 (x16 ++ [x17]) x150000 (wrap64 (x150001 + 1)) x150002 x150003 x150004)) else (impl_RunCredits.l0 k x1 x2 x3 x4 x13 (wrap64 (x14 - 1)) x15 (x16 ++ [x17]) x150000 (wrap64 (x150001 + 1)) x150002 x150003 x150004)) else (if x13 > 0 then (if x150000 < x2 then (impl_RunCredits.l0 k x1 x2 x3 x4 (wrap64 (x13 - 1)) x14 (x15 ++ [x17]) x16 (wrap64 (x150000 + 1)) x150001 x150002 x150003 x150004) else (impl_RunCredits.l0 k x1 x2 x3 x4 x13 x14 x15 x16 x150000 x150001 x150002 x150003 x150004)) else (impl_RunCredits.l0 k x1 x2 x3 x4 x13 x14 x15 x16 x150000 x150001 x150002 x150003 x150004))
end
def impl_RunCredits.f (k : Nat) (a0 : Int) (a1 : Int) (a2 : Int) (l3 : List Int) (a4 : Int) : Option (Int × Int × Int × Int × Bool × Bool) := (impl_within.f a0 1 40).bind fun t144 => (if t144 = true then ((impl_within.f a1 1 12).bind fun t145 => (if t145 = true then ((impl_within.f a2 0 500).bind fun t146 => (if t146 = true then ((impl_drainOk.f k l3).bind fun t147 => (if t147 = true then ((impl_within.f a4 0 3000).bind fun t148 => (impl_RunCredits.j0 k a0 a1 a2 l3 a4 (!t148))) else (impl_RunCredits.j0 k a0 a1 a2 l3 a4 true))) else (impl_RunCredits.j0 k a0 a1 a2 l3 a4 true))) else (impl_RunCredits.j0 k a0 a1 a2 l3 a4 true))) else (impl_RunCredits.j0 k a0 a1 a2 l3 a4 true))
theorem impl_RunCredits.mono_l : ∀ k, (∀ y0 y1 y2 y3 y4 y5, LeO (impl_RunCredits.j0 k y0 y1 y2 y3 y4 y5) (impl_RunCredits.j0 (k + 1) y0 y1 y2 y3 y4 y5)) ∧ (∀ y0 y1 y2 y3 y4 y5 y6 y7 y8 y9 y10 y11 y12, LeO (impl_RunCredits.l0 k y0 y1 y2 y3 y4 y5 y6 y7 y8 y9 y10 y11 y12) (impl_RunCredits.l0 (k + 1) y0 y1 y2 y3 y4 y5 y6 y7 y8 y9 y10 y11 y12)) ∧ (∀ y0 y1 y2 y3 y4 y5 y6 y7 y8 y9 y10 y11 y12 y13, LeO (impl_RunCredits.j2 k y0 y1 y2 y3 y4 y5 y6 y7 y8 y9 y10 y11 y12 y13) (impl_RunCredits.j2 (k + 1) y0 y1 y2 y3 y4 y5 y6 y7 y8 y9 y10 y11 y12 y13)) ∧ (∀ y0 y1 y2 y3 y4 y5 y6 y7 y8 y9 y10 y11 y12 y13, LeO (impl_RunCredits.j3 k y0 y1 y2 y3 y4 y5 y6 y7 y8 y9 y10 y11 y12 y13) (impl_RunCredits.j3 (k + 1) y0 y1 y2 y3 y4 y5 y6 y7 y8 y9 y10 y11 y12 y13)) ∧ (∀ y0 y1 y2 y3 y4 y5 y6 y7 y8 y9 y10 y11 y12 y13, LeO (impl_RunCredits.j4 k y0 y1 y2 y3 y4 y5 y6 y7 y8 y9 y10 y11 y12 y13) (impl_RunCredits.j4 (k + 1) y0 y1 y2 y3 y4 y5 y6 y7 y8 y9 y10 y11 y12 y13)) ∧ (∀ y0 y1 y2 y3 y4 y5 y6 y7 y8 y9 y10 y11 y12 y13 y14, LeO (impl_RunCredits.j5 k y0 y1 y2 y3 y4 y5 y6 y7 y8 y9 y10 y11 y12 y13 y14) (impl_RunCredits.j5 (k + 1) y0 y1 y2 y3 y4 y5 y6 y7 y8 y9 y10 y11 y12 y13 y14))
  | 0 => ⟨fun _ _ _ _ _ _ r h => by simp [impl_RunCredits.j0] at h, fun _ _ _ _ _ _ _ _ _ _ _ _ _ r h => by simp [impl_RunCredits.l0] at h, fun _ _ _ _ _ _ _ _ _ _ _ _ _ _ r h => by simp [impl_RunCredits.j2] at h, fun _ _ _ _ _ _ _ _ _ _ _ _ _ _ r h => by simp [impl_RunCredits.j3] at h, fun _ _ _ _ _ _ _ _ _ _ _ _ _ _ r h => by simp [impl_RunCredits.j4] at h, fun _ _ _ _ _ _ _ _ _ _ _ _ _ _ _ r h => by simp [impl_RunCredits.j5] at h⟩
  | k + 1 => by
    obtain ⟨ih0, ih1, ih2, ih3, ih4, ih5⟩ := impl_RunCredits.mono_l k
    refine ⟨?_, ?_, ?_, ?_, ?_, ?_⟩
    · intro y0 y1 y2 y3 y4 y5
      unfold impl_RunCredits.j0
      repeat' first
      | (with_reducible exact ih0 _ _ _ _ _ _)
      | (with_reducible exact ih1 _ _ _ _ _ _ _ _ _ _ _ _ _)
      | (with_reducible exact ih2 _ _ _ _ _ _ _ _ _ _ _ _ _ _)
      | (with_reducible exact ih3 _ _ _ _ _ _ _ _ _ _ _ _ _ _)
      | (with_reducible exact ih4 _ _ _ _ _ _ _ _ _ _ _ _ _ _)
      | (with_reducible exact ih5 _ _ _ _ _ _ _ _ _ _ _ _ _ _ _)
      | (with_reducible exact impl_drainOk.mono _ _)
      | (with_reducible exact LeO.refl _)
      | (with_reducible exact LeO.none _)
      | (with_reducible refine LeO.ite ?_ ?_)
      | (with_reducible refine LeO.bind ?_ (fun _ => ?_))
      | exact ih0 _ _ _ _ _ _
      | exact ih1 _ _ _ _ _ _ _ _ _ _ _ _ _
      | exact ih2 _ _ _ _ _ _ _ _ _ _ _ _ _ _
      | exact ih3 _ _ _ _ _ _ _ _ _ _ _ _ _ _
      | exact ih4 _ _ _ _ _ _ _ _ _ _ _ _ _ _
      | exact ih5 _ _ _ _ _ _ _ _ _ _ _ _ _ _ _
      | exact impl_drainOk.mono _ _
      | exact LeO.none _
      | refine LeO.ite ?_ ?_
      | refine LeO.bind ?_ (fun _ => ?_)
    · intro y0 y1 y2 y3 y4 y5 y6 y7 y8 y9 y10 y11 y12
      unfold impl_RunCredits.l0
      repeat' first
      | (with_reducible exact ih0 _ _ _ _ _ _)
      | (with_reducible exact ih1 _ _ _ _ _ _ _ _ _ _ _ _ _)
      | (with_reducible exact ih2 _ _ _ _ _ _ _ _ _ _ _ _ _ _)
      | (with_reducible exact ih3 _ _ _ _ _ _ _ _ _ _ _ _ _ _)
      | (with_reducible exact ih4 _ _ _ _ _ _ _ _ _ _ _ _ _ _)
      | (with_reducible exact ih5 _ _ _ _ _ _ _ _ _ _ _ _ _ _ _)
      | (with_reducible exact impl_drainOk.mono _ _)
      | (with_reducible exact LeO.refl _)
      | (with_reducible exact LeO.none _)
      | (with_reducible refine LeO.ite ?_ ?_)
      | (with_reducible refine LeO.bind ?_ (fun _ => ?_))
      | exact ih0 _ _ _ _ _ _
      | exact ih1 _ _ _ _ _ _ _ _ _ _ _ _ _
      | exact ih2 _ _ _ _ _ _ _ _ _ _ _ _ _ _
      | exact ih3 _ _ _ _ _ _ _ _ _ _ _ _ _ _
      | exact ih4 _ _ _ _ _ _ _ _ _ _ _ _ _ _
      | exact ih5 _ _ _ _ _ _ _ _ _ _ _ _ _ _ _
      | exact impl_drainOk.mono _ _
      | exact LeO.none _
      | refine LeO.ite ?_ ?_
      | refine LeO.bind ?_ (fun _ => ?_)
    · intro y0 y1 y2 y3 y4 y5 y6 y7 y8 y9 y10 y11 y12 y13
      unfold impl_RunCredits.j2
      repeat' first
      | (with_reducible exact ih0 _ _ _ _ _ _)
      | (with_reducible exact ih1 _ _ _ _ _ _ _ _ _ _ _ _ _)
      | (with_reducible exact ih2 _ _ _ _ _ _ _ _ _ _ _ _ _ _)
      | (with_reducible exact ih3 _ _ _ _ _ _ _ _ _ _ _ _ _ _)
      | (with_reducible exact ih4 _ _ _ _ _ _ _ _ _ _ _ _ _ _)
      | (with_reducible exact ih5 _ _ _ _ _ _ _ _ _ _ _ _ _ _ _)
      | (with_reducible exact impl_drainOk.mono _ _)
      | (with_reducible exact LeO.refl _)
      | (with_reducible exact LeO.none _)
      | (with_reducible refine LeO.ite ?_ ?_)
      | (with_reducible refine LeO.bind ?_ (fun _ => ?_))
      | exact ih0 _ _ _ _ _ _
      | exact ih1 _ _ _ _ _ _ _ _ _ _ _ _ _
      | exact ih2 _ _ _ _ _ _ _ _ _ _ _ _ _ _
      | exact ih3 _ _ _ _ _ _ _ _ _ _ _ _ _ _
      | exact ih4 _ _ _ _ _ _ _ _ _ _ _ _ _ _
      | exact ih5 _ _ _ _ _ _ _ _ _ _ _ _ _ _ _
      | exact impl_drainOk.mono _ _
      | exact LeO.none _
      | refine LeO.ite ?_ ?_
      | refine LeO.bind ?_ (fun _ => ?_)
    · intro y0 y1 y2 y3 y4 y5 y6 y7 y8 y9 y10 y11 y12 y13
      unfold impl_RunCredits.j3
      repeat' first
      | (with_reducible exact ih0 _ _ _ _ _ _)
      | (with_reducible exact ih1 _ _ _ _ _ _ _ _ _ _ _ _ _)
      | (with_reducible exact ih2 _ _ _ _ _ _ _ _ _ _ _ _ _ _)
      | (with_reducible exact ih3 _ _ _ _ _ _ _ _ _ _ _ _ _ _)
      | (with_reducible exact ih4 _ _ _ _ _ _ _ _ _ _ _ _ _ _)
      | (with_reducible exact ih5 _ _ _ _ _ _ _ _ _ _ _ _ _ _ _)
      | (with_reducible exact impl_drainOk.mono _ _)
      | (with_reducible exact LeO.refl _)
      | (with_reducible exact LeO.none _)
      | (with_reducible refine LeO.ite ?_ ?_)
      | (with_reducible refine LeO.bind ?_ (fun _ => ?_))
      | exact ih0 _ _ _ _ _ _
      | exact ih1 _ _ _ _ _ _ _ _ _ _ _ _ _
      | exact ih2 _ _ _ _ _ _ _ _ _ _ _ _ _ _
      | exact ih3 _ _ _ _ _ _ _ _ _ _ _ _ _ _
      | exact ih4 _ _ _ _ _ _ _ _ _ _ _ _ _ _
      | exact ih5 _ _ _ _ _ _ _ _ _ _ _ _ _ _ _
      | exact impl_drainOk.mono _ _
      | exact LeO.none _
      | refine LeO.ite ?_ ?_
      | refine LeO.bind ?_ (fun _ => ?_)
    · intro y0 y1 y2 y3 y4 y5 y6 y7 y8 y9 y10 y11 y12 y13
      unfold impl_RunCredits.j4
      repeat' first
      | (with_reducible exact ih0 _ _ _ _ _ _)
      | (with_reducible exact ih1 _ _ _ _ _ _ _ _ _ _ _ _ _)
      | (with_reducible exact ih2 _ _ _ _ _ _ _ _ _ _ _ _ _ _)
      | (with_reducible exact ih3 _ _ _ _ _ _ _ _ _ _ _ _ _ _)
      | (with_reducible exact ih4 _ _ _ _ _ _ _ _ _ _ _ _ _ _)
      | (with_reducible exact ih5 _ _ _ _ _ _ _ _ _ _ _ _ _ _ _)
      | (with_reducible exact impl_drainOk.mono _ _)
      | (with_reducible exact LeO.refl _)
      | (with_reducible exact LeO.none _)
      | (with_reducible refine LeO.ite ?_ ?_)
      | (with_reducible refine LeO.bind ?_ (fun _ => ?_))
      | exact ih0 _ _ _ _ _ _
      | exact ih1 _ _ _ _ _ _ _ _ _ _ _ _ _
      | exact ih2 _ _ _ _ _ _ _ _ _ _ _ _ _ _
      | exact ih3 _ _ _ _ _ _ _ _ _ _ _ _ _ _
      | exact ih4 _ _ _ _ _ _ _ _ _ _ _ _ _ _
      | exact ih5 _ _ _ _ _ _ _ _ _ _ _ _ _ _ _
      | exact impl_drainOk.mono _ _
      | exact LeO.none _
      | refine LeO.ite ?_ ?_
      | refine LeO.bind ?_ (fun _ => ?_)
    · intro y0 y1 y2 y3 y4 y5 y6 y7 y8 y9 y10 y11 y12 y13 y14
      unfold impl_RunCredits.j5
      repeat' first
      | (with_reducible exact ih0 _ _ _ _ _ _)
      | (with_reducible exact ih1 _ _ _ _ _ _ _ _ _ _ _ _ _)
      | (with_reducible exact ih2 _ _ _ _ _ _ _ _ _ _ _ _ _ _)
      | (with_reducible exact ih3 _ _ _ _ _ _ _ _ _ _ _ _ _ _)
      | (with_reducible exact ih4 _ _ _ _ _ _ _ _ _ _ _ _ _ _)
      | (with_reducible exact ih5 _ _ _ _ _ _ _ _ _ _ _ _ _ _ _)
      | (with_reducible exact impl_drainOk.mono _ _)
      | (with_reducible exact LeO.refl _)
      | (with_reducible exact LeO.none _)
      | (with_reducible refine LeO.ite ?_ ?_)
      | (with_reducible refine LeO.bind ?_ (fun _ => ?_))
      | exact ih0 _ _ _ _ _ _
      | exact ih1 _ _ _ _ _ _ _ _ _ _ _ _ _
      | exact ih2 _ _ _ _ _ _ _ _ _ _ _ _ _ _
      | exact ih3 _ _ _ _ _ _ _ _ _ _ _ _ _ _
      | exact ih4 _ _ _ _ _ _ _ _ _ _ _ _ _ _
      | exact ih5 _ _ _ _ _ _ _ _ _ _ _ _ _ _ _
      | exact impl_drainOk.mono _ _
      | exact LeO.none _
      | refine LeO.ite ?_ ?_
      | refine LeO.bind ?_ (fun _ => ?_)
theorem impl_RunCredits.mono : ∀ a0 a1 a2 a3 a4 k, LeO (impl_RunCredits.f k a0 a1 a2 a3 a4) (impl_RunCredits.f (k + 1) a0 a1 a2 a3 a4) := by
  intro a0 a1 a2 a3 a4 k
  obtain ⟨ih0, ih1, ih2, ih3, ih4, ih5⟩ := impl_RunCredits.mono_l k
  unfold impl_RunCredits.f
  repeat' first
      | (with_reducible exact ih0 _ _ _ _ _ _)
      | (with_reducible exact ih1 _ _ _ _ _ _ _ _ _ _ _ _ _)
      | (with_reducible exact ih2 _ _ _ _ _ _ _ _ _ _ _ _ _ _)
      | (with_reducible exact ih3 _ _ _ _ _ _ _ _ _ _ _ _ _ _)
      | (with_reducible exact ih4 _ _ _ _ _ _ _ _ _ _ _ _ _ _)
      | (with_reducible exact ih5 _ _ _ _ _ _ _ _ _ _ _ _ _ _ _)
      | (with_reducible exact impl_drainOk.mono _ _)
      | (with_reducible exact LeO.refl _)
      | (with_reducible exact LeO.none _)
      | (with_reducible refine LeO.ite ?_ ?_)
      | (with_reducible refine LeO.bind ?_ (fun _ => ?_))
      | exact ih0 _ _ _ _ _ _
      | exact ih1 _ _ _ _ _ _ _ _ _ _ _ _ _
      | exact ih2 _ _ _ _ _ _ _ _ _ _ _ _ _ _
      | exact ih3 _ _ _ _ _ _ _ _ _ _ _ _ _ _
      | exact ih4 _ _ _ _ _ _ _ _ _ _ _ _ _ _
      | exact ih5 _ _ _ _ _ _ _ _ _ _ _ _ _ _ _
      | exact impl_drainOk.mono _ _
      | exact LeO.none _
      | refine LeO.ite ?_ ?_
      | refine LeO.bind ?_ (fun _ => ?_)
set_option maxHeartbeats 8000000 in
set_option maxRecDepth 100000 in
theorem impl_RunCredits.calls (k : Nat) (a0 : Int) (a1 : Int) (a2 : Int) (A3 : Option Addr) (c3 : Nat) (l3 : List Int) (a4 : Int) (r1 : Int) (r2 : Int) (r3 : Int) (r4 : Int) (r5 : Bool) (r6 : Bool) (w : World) (hr3 : Kd.C (Kd.int .i64) w A3 l3.length l3) (hc3 : l3.length ≤ c3) (h : impl_RunCredits.f k a0 a1 a2 l3 a4 = some (r1, r2, r3, r4, r5, r6)) :
    Calls Try.prog 24 #[.int .i64 a0, .int .i64 a1, .int .i64 a2, .slice A3 l3.length c3, .int .i64 a4] w fun e w' => e = .returned (.tuple #[.agg #[.int .i64 r1, .int .i64 r2, .int .i64 r3, .int .i64 r4, .bool r5], .bool r6]) ∧ Below w.heap.size w w' := by
  have hu37 := Try.underlying37
  have HR3 := Aside0.mk hr3
  have HC3 := Aside0.mk hc3
  clear hr3 hc3
  have HB := Aside0.mk (Below.refl w.heap.size w)
  have H : ((impl_within.f a0 1 40).bind fun t144 => (if t144 = true then ((impl_within.f a1 1 12).bind fun t145 => (if t145 = true then ((impl_within.f a2 0 500).bind fun t146 => (if t146 = true then ((impl_drainOk.f k l3).bind fun t147 => (if t147 = true then ((impl_within.f a4 0 3000).bind fun t148 => (impl_RunCredits.j0 k a0 a1 a2 l3 a4 (!t148))) else (impl_RunCredits.j0 k a0 a1 a2 l3 a4 true))) else (impl_RunCredits.j0 k a0 a1 a2 l3 a4 true))) else (impl_RunCredits.j0 k a0 a1 a2 l3 a4 true))) else (impl_RunCredits.j0 k a0 a1 a2 l3 a4 true))) = some (r1, r2, r3, r4, r5, r6) := h
  clear h
  have HC6 := Aside0.mk H
  clear H
  go_enter Try.func24, Try.ntmps24
  go_upto_region 1 with (first | ((with_reducible refine gate_dst (N := 10) rfl ?_); refine box_event ?hg (N := 10) ?hd (cs := #[.int .i64 0, .int .i64 0, .int .i64 0, .int .i64 0, .bool false]) (t := 37) ?hr ?_; (case hd => rfl); (case hg => rfl); (case hr => first | (go_simp; done) | (go_simp; rfl)); intro gb143 hg w7 hbox hb; have n0_ := Aside0.mk (below_step (by repeat (first | (with_reducible first | exact HB.out | apply below_alloc | apply pw_below_drewN | apply below_drew1) | exact HB.out)) hb); have n1_ := Aside0.mk (hbox); have n2_ := Aside0.mk ((by rw [hg]; exact (below_size (by repeat (first | (with_reducible first | exact HB.out | apply below_alloc | apply pw_below_drewN | apply below_drew1) | exact HB.out))) : w.heap.size ≤ gb143)); have n3_ := Aside0.mk ((by rw [hg]; exact (below_size (by repeat (first | (with_reducible first | exact HB.out | apply below_alloc | apply pw_below_drewN | apply below_drew1) | exact HB.out))) : w.heap.size ≤ gb143)); clear HB; have HB := n0_; have BK143 := n1_; have GW143 := n2_; have GE143 := n3_; clear n0_ n1_ n2_ n3_; clear hb hbox hg))
  (try simp only [Act.put, List.setIfInBounds_toArray, List.set_cons_zero, List.set_cons_succ])
  go_cut [40] (fun v40 wc => ∃ (kq : Nat) (x40_5 : Bool), v40 = .bool x40_5 ∧ Aside0 (impl_RunCredits.j0 kq a0 a1 a2 l3 a4 x40_5 = some (r1, r2, r3, r4, r5, r6)) ∧ Aside0 (kq ≤ k) ∧ Aside0 (wc.heap[gb143]? = some (.cells #[.int .i64 0, .int .i64 0, .int .i64 0, .int .i64 0, .bool false] 37 (0, 0))) ∧ Aside0 (Below w.heap.size w wc))
  case first =>
    have H := HC6.out
    clear HC6
    replace H := Option.bind_eq_some_iff.mp H
    obtain ⟨t144, A80, H⟩ := H
    replace H : (if t144 = true then ((impl_within.f a1 1 12).bind fun t145 => (if t145 = true then ((impl_within.f a2 0 500).bind fun t146 => (if t146 = true then ((impl_drainOk.f k l3).bind fun t147 => (if t147 = true then ((impl_within.f a4 0 3000).bind fun t148 => (impl_RunCredits.j0 k a0 a1 a2 l3 a4 (!t148))) else (impl_RunCredits.j0 k a0 a1 a2 l3 a4 true))) else (impl_RunCredits.j0 k a0 a1 a2 l3 a4 true))) else (impl_RunCredits.j0 k a0 a1 a2 l3 a4 true))) else (impl_RunCredits.j0 k a0 a1 a2 l3 a4 true)) = some (r1, r2, r3, r4, r5, r6) := H
    have A8 := Aside0.mk A80
    clear A80
    by_cases c9 : t144 = true
    · subst c9
      have H1 : ((impl_within.f a1 1 12).bind fun t145 => (if t145 = true then ((impl_within.f a2 0 500).bind fun t146 => (if t146 = true then ((impl_drainOk.f k l3).bind fun t147 => (if t147 = true then ((impl_within.f a4 0 3000).bind fun t148 => (impl_RunCredits.j0 k a0 a1 a2 l3 a4 (!t148))) else (impl_RunCredits.j0 k a0 a1 a2 l3 a4 true))) else (impl_RunCredits.j0 k a0 a1 a2 l3 a4 true))) else (impl_RunCredits.j0 k a0 a1 a2 l3 a4 true))) = some (r1, r2, r3, r4, r5, r6) := by rw [if_pos rfl] at H; exact H
      clear H
      have H := H1
      clear H1
      replace H := Option.bind_eq_some_iff.mp H
      obtain ⟨t145, A100, H⟩ := H
      replace H : (if t145 = true then ((impl_within.f a2 0 500).bind fun t146 => (if t146 = true then ((impl_drainOk.f k l3).bind fun t147 => (if t147 = true then ((impl_within.f a4 0 3000).bind fun t148 => (impl_RunCredits.j0 k a0 a1 a2 l3 a4 (!t148))) else (impl_RunCredits.j0 k a0 a1 a2 l3 a4 true))) else (impl_RunCredits.j0 k a0 a1 a2 l3 a4 true))) else (impl_RunCredits.j0 k a0 a1 a2 l3 a4 true)) = some (r1, r2, r3, r4, r5, r6) := H
      have A10 := Aside0.mk A100
      clear A100
      by_cases c11 : t145 = true
      · subst c11
        have H1 : ((impl_within.f a2 0 500).bind fun t146 => (if t146 = true then ((impl_drainOk.f k l3).bind fun t147 => (if t147 = true then ((impl_within.f a4 0 3000).bind fun t148 => (impl_RunCredits.j0 k a0 a1 a2 l3 a4 (!t148))) else (impl_RunCredits.j0 k a0 a1 a2 l3 a4 true))) else (impl_RunCredits.j0 k a0 a1 a2 l3 a4 true))) = some (r1, r2, r3, r4, r5, r6) := by rw [if_pos rfl] at H; exact H
        clear H
        have H := H1
        clear H1
        replace H := Option.bind_eq_some_iff.mp H
        obtain ⟨t146, A120, H⟩ := H
        replace H : (if t146 = true then ((impl_drainOk.f k l3).bind fun t147 => (if t147 = true then ((impl_within.f a4 0 3000).bind fun t148 => (impl_RunCredits.j0 k a0 a1 a2 l3 a4 (!t148))) else (impl_RunCredits.j0 k a0 a1 a2 l3 a4 true))) else (impl_RunCredits.j0 k a0 a1 a2 l3 a4 true)) = some (r1, r2, r3, r4, r5, r6) := H
        have A12 := Aside0.mk A120
        clear A120
        by_cases c13 : t146 = true
        · subst c13
          have H1 : ((impl_drainOk.f k l3).bind fun t147 => (if t147 = true then ((impl_within.f a4 0 3000).bind fun t148 => (impl_RunCredits.j0 k a0 a1 a2 l3 a4 (!t148))) else (impl_RunCredits.j0 k a0 a1 a2 l3 a4 true))) = some (r1, r2, r3, r4, r5, r6) := by rw [if_pos rfl] at H; exact H
          clear H
          have H := H1
          clear H1
          replace H := Option.bind_eq_some_iff.mp H
          obtain ⟨t147, A140, H⟩ := H
          replace H : (if t147 = true then ((impl_within.f a4 0 3000).bind fun t148 => (impl_RunCredits.j0 k a0 a1 a2 l3 a4 (!t148))) else (impl_RunCredits.j0 k a0 a1 a2 l3 a4 true)) = some (r1, r2, r3, r4, r5, r6) := H
          have A14 := Aside0.mk A140
          clear A140
          by_cases c15 : t147 = true
          · subst c15
            have H1 : ((impl_within.f a4 0 3000).bind fun t148 => (impl_RunCredits.j0 k a0 a1 a2 l3 a4 (!t148))) = some (r1, r2, r3, r4, r5, r6) := by rw [if_pos rfl] at H; exact H
            clear H
            have H := H1
            clear H1
            replace H := Option.bind_eq_some_iff.mp H
            obtain ⟨t148, A160, H⟩ := H
            replace H : (impl_RunCredits.j0 k a0 a1 a2 l3 a4 (!t148)) = some (r1, r2, r3, r4, r5, r6) := H
            have A16 := Aside0.mk A160
            clear A160
            have H' := Aside0.mk H
            clear H
            go_wp2_with (first | ((with_reducible refine gate_callee (f := 29) rfl ?_); refine goesL_ (some 19) rfl rfl Try.func29 (by kernel_rfl) rfl #[.int .i64 a0, .int .i64 1, .int .i64 40] rfl (by (try simp only [List.map_toArray, List.map_cons, List.map_nil]); first | done | rfl | (simp only [List.length_drop, List.length_take]; rfl)) ?_; (with_reducible refine (impl_within.calls a0 1 40 true _ A8.out).mono ?_); rintro e w' ⟨rfl, ⟨nd, rfl⟩⟩; refine ⟨_, rfl, ?_⟩) | (go_at_call 29; (with_reducible refine (impl_within.calls a1 1 12 true _ A10.out).mono ?_); rintro e w' ⟨rfl, ⟨nd, rfl⟩⟩) | (go_at_call 29; (with_reducible refine (impl_within.calls a2 0 500 true _ A12.out).mono ?_); rintro e w' ⟨rfl, ⟨nd, rfl⟩⟩) | (go_at_call 33; (with_reducible refine (impl_drainOk.calls k _ _ l3 true _ ?side1 ?side2 A14.out).mono ?_); (case side1 => repeat (first | exact (Kd.C_below HR3.out (by repeat (first | (with_reducible first | exact HB.out | apply below_alloc | apply pw_below_drewN | apply below_drew1 | refine below_set ?_ GE143.out) | exact HB.out))) | (with_reducible refine Kd.C_alloc ?_ _) | (with_reducible refine Kd.C_drewN ?_ _) | (with_reducible refine Kd.C_drew ?_))); (case side2 => exact HC3.out); rintro e w17 ⟨rfl, hb⟩; have n0_ := Aside0.mk (blk_below (g := gb143) (o := .cells #[.int .i64 0, .int .i64 0, .int .i64 0, .int .i64 0, .bool false] 37 (0, 0)) (by (with_reducible repeat (first | refine blk_drewN ?_ _ | refine blk_drew ?_ | refine blk_alloc ?_ _)); exact BK143.out) hb); have n1_ := Aside0.mk (below_step (by repeat (first | (with_reducible first | exact HB.out | apply below_alloc | apply pw_below_drewN | apply below_drew1 | refine below_set ?_ GE143.out) | exact HB.out)) hb); clear BK143; clear HB; have BK143 := n0_; have HB := n1_; clear n0_ n1_; (try clear hb); (try clear hb2); (try clear hk); (try clear hi)) | (go_at_call 29; (with_reducible refine (impl_within.calls a4 0 3000 t148 _ A16.out).mono ?_); rintro e w' ⟨rfl, ⟨nd, rfl⟩⟩))
            go_meet
            case rel => exact ⟨_, (!t148), (by first | rfl | (simp; done) | (simp [*]; done)), H', ⟨by first | omega | exact Nat.le_refl _⟩, ⟨by (with_reducible repeat (first | refine blk_drewN ?_ _ | refine blk_drew ?_ | refine blk_alloc ?_ _)); exact BK143.out⟩, ⟨by repeat (first | (with_reducible first | exact HB.out | apply below_alloc | apply pw_below_drewN | apply below_drew1 | refine below_set ?_ GE143.out) | exact HB.out)⟩⟩
          · replace c15 := Bool.eq_false_iff.mpr c15
            subst c15
            have H1 : (impl_RunCredits.j0 k a0 a1 a2 l3 a4 true) = some (r1, r2, r3, r4, r5, r6) := by rw [if_neg (show ¬ (false = true) by decide)] at H; exact H
            clear H
            have H := H1
            clear H1
            have H' := Aside0.mk H
            clear H
            go_wp2_with (first | ((with_reducible refine gate_callee (f := 29) rfl ?_); refine goesL_ (some 19) rfl rfl Try.func29 (by kernel_rfl) rfl #[.int .i64 a0, .int .i64 1, .int .i64 40] rfl (by (try simp only [List.map_toArray, List.map_cons, List.map_nil]); first | done | rfl | (simp only [List.length_drop, List.length_take]; rfl)) ?_; (with_reducible refine (impl_within.calls a0 1 40 true _ A8.out).mono ?_); rintro e w' ⟨rfl, ⟨nd, rfl⟩⟩; refine ⟨_, rfl, ?_⟩) | (go_at_call 29; (with_reducible refine (impl_within.calls a1 1 12 true _ A10.out).mono ?_); rintro e w' ⟨rfl, ⟨nd, rfl⟩⟩) | (go_at_call 29; (with_reducible refine (impl_within.calls a2 0 500 true _ A12.out).mono ?_); rintro e w' ⟨rfl, ⟨nd, rfl⟩⟩) | (go_at_call 33; (with_reducible refine (impl_drainOk.calls k _ _ l3 false _ ?side1 ?side2 A14.out).mono ?_); (case side1 => repeat (first | exact (Kd.C_below HR3.out (by repeat (first | (with_reducible first | exact HB.out | apply below_alloc | apply pw_below_drewN | apply below_drew1 | refine below_set ?_ GE143.out) | exact HB.out))) | (with_reducible refine Kd.C_alloc ?_ _) | (with_reducible refine Kd.C_drewN ?_ _) | (with_reducible refine Kd.C_drew ?_))); (case side2 => exact HC3.out); rintro e w18 ⟨rfl, hb⟩; have n0_ := Aside0.mk (blk_below (g := gb143) (o := .cells #[.int .i64 0, .int .i64 0, .int .i64 0, .int .i64 0, .bool false] 37 (0, 0)) (by (with_reducible repeat (first | refine blk_drewN ?_ _ | refine blk_drew ?_ | refine blk_alloc ?_ _)); exact BK143.out) hb); have n1_ := Aside0.mk (below_step (by repeat (first | (with_reducible first | exact HB.out | apply below_alloc | apply pw_below_drewN | apply below_drew1 | refine below_set ?_ GE143.out) | exact HB.out)) hb); clear BK143; clear HB; have BK143 := n0_; have HB := n1_; clear n0_ n1_; (try clear hb); (try clear hb2); (try clear hk); (try clear hi)))
            go_meet
            case rel => exact ⟨_, (true), (by first | rfl | (simp; done) | (simp [*]; done)), H', ⟨by first | omega | exact Nat.le_refl _⟩, ⟨by (with_reducible repeat (first | refine blk_drewN ?_ _ | refine blk_drew ?_ | refine blk_alloc ?_ _)); exact BK143.out⟩, ⟨by repeat (first | (with_reducible first | exact HB.out | apply below_alloc | apply pw_below_drewN | apply below_drew1 | refine below_set ?_ GE143.out) | exact HB.out)⟩⟩
        · replace c13 := Bool.eq_false_iff.mpr c13
          subst c13
          have H1 : (impl_RunCredits.j0 k a0 a1 a2 l3 a4 true) = some (r1, r2, r3, r4, r5, r6) := by rw [if_neg (show ¬ (false = true) by decide)] at H; exact H
          clear H
          have H := H1
          clear H1
          have H' := Aside0.mk H
          clear H
          go_wp2_with (first | ((with_reducible refine gate_callee (f := 29) rfl ?_); refine goesL_ (some 19) rfl rfl Try.func29 (by kernel_rfl) rfl #[.int .i64 a0, .int .i64 1, .int .i64 40] rfl (by (try simp only [List.map_toArray, List.map_cons, List.map_nil]); first | done | rfl | (simp only [List.length_drop, List.length_take]; rfl)) ?_; (with_reducible refine (impl_within.calls a0 1 40 true _ A8.out).mono ?_); rintro e w' ⟨rfl, ⟨nd, rfl⟩⟩; refine ⟨_, rfl, ?_⟩) | (go_at_call 29; (with_reducible refine (impl_within.calls a1 1 12 true _ A10.out).mono ?_); rintro e w' ⟨rfl, ⟨nd, rfl⟩⟩) | (go_at_call 29; (with_reducible refine (impl_within.calls a2 0 500 false _ A12.out).mono ?_); rintro e w' ⟨rfl, ⟨nd, rfl⟩⟩))
          go_meet
          case rel => exact ⟨_, (true), (by first | rfl | (simp; done) | (simp [*]; done)), H', ⟨by first | omega | exact Nat.le_refl _⟩, ⟨by (with_reducible repeat (first | refine blk_drewN ?_ _ | refine blk_drew ?_ | refine blk_alloc ?_ _)); exact BK143.out⟩, ⟨by repeat (first | (with_reducible first | exact HB.out | apply below_alloc | apply pw_below_drewN | apply below_drew1 | refine below_set ?_ GE143.out) | exact HB.out)⟩⟩
      · replace c11 := Bool.eq_false_iff.mpr c11
        subst c11
        have H1 : (impl_RunCredits.j0 k a0 a1 a2 l3 a4 true) = some (r1, r2, r3, r4, r5, r6) := by rw [if_neg (show ¬ (false = true) by decide)] at H; exact H
        clear H
        have H := H1
        clear H1
        have H' := Aside0.mk H
        clear H
        go_wp2_with (first | ((with_reducible refine gate_callee (f := 29) rfl ?_); refine goesL_ (some 19) rfl rfl Try.func29 (by kernel_rfl) rfl #[.int .i64 a0, .int .i64 1, .int .i64 40] rfl (by (try simp only [List.map_toArray, List.map_cons, List.map_nil]); first | done | rfl | (simp only [List.length_drop, List.length_take]; rfl)) ?_; (with_reducible refine (impl_within.calls a0 1 40 true _ A8.out).mono ?_); rintro e w' ⟨rfl, ⟨nd, rfl⟩⟩; refine ⟨_, rfl, ?_⟩) | (go_at_call 29; (with_reducible refine (impl_within.calls a1 1 12 false _ A10.out).mono ?_); rintro e w' ⟨rfl, ⟨nd, rfl⟩⟩))
        go_meet
        case rel => exact ⟨_, (true), (by first | rfl | (simp; done) | (simp [*]; done)), H', ⟨by first | omega | exact Nat.le_refl _⟩, ⟨by (with_reducible repeat (first | refine blk_drewN ?_ _ | refine blk_drew ?_ | refine blk_alloc ?_ _)); exact BK143.out⟩, ⟨by repeat (first | (with_reducible first | exact HB.out | apply below_alloc | apply pw_below_drewN | apply below_drew1 | refine below_set ?_ GE143.out) | exact HB.out)⟩⟩
    · replace c9 := Bool.eq_false_iff.mpr c9
      subst c9
      have H1 : (impl_RunCredits.j0 k a0 a1 a2 l3 a4 true) = some (r1, r2, r3, r4, r5, r6) := by rw [if_neg (show ¬ (false = true) by decide)] at H; exact H
      clear H
      have H := H1
      clear H1
      have H' := Aside0.mk H
      clear H
      go_wp2_with (first | ((with_reducible refine gate_callee (f := 29) rfl ?_); refine goesL_ (some 19) rfl rfl Try.func29 (by kernel_rfl) rfl #[.int .i64 a0, .int .i64 1, .int .i64 40] rfl (by (try simp only [List.map_toArray, List.map_cons, List.map_nil]); first | done | rfl | (simp only [List.length_drop, List.length_take]; rfl)) ?_; (with_reducible refine (impl_within.calls a0 1 40 false _ A8.out).mono ?_); rintro e w' ⟨rfl, ⟨nd, rfl⟩⟩; refine ⟨_, rfl, ?_⟩))
      go_meet
      case rel => exact ⟨_, (true), (by first | rfl | (simp; done) | (simp [*]; done)), H', ⟨by first | omega | exact Nat.le_refl _⟩, ⟨by (with_reducible repeat (first | refine blk_drewN ?_ _ | refine blk_drew ?_ | refine blk_alloc ?_ _)); exact BK143.out⟩, ⟨by repeat (first | (with_reducible first | exact HB.out | apply below_alloc | apply pw_below_drewN | apply below_drew1 | refine below_set ?_ GE143.out) | exact HB.out)⟩⟩
  case rest =>
    clear HC6
    try clear c1
    try clear c2
    try clear p2
    try clear c3
    try clear c9
    try clear c11
    try clear c13
    try clear c15
    obtain ⟨kq, x40_5, rfl, HA, HJ5, BK143, HB⟩ := hcut
    cases kq with
    | zero => exact absurd HA.out (by simp [impl_RunCredits.j0])
    | succ kj5 =>
      have H := HA.out
      clear HA
      simp only [impl_RunCredits.j0] at H
      by_cases c19 : x40_5 = true
      · subst c19
        have H1 : (some (0, 0, 0, 0, false, false)) = some (r1, r2, r3, r4, r5, r6) := by rw [if_pos rfl] at H; exact H
        clear H
        have H := H1
        clear H1
        simp only [Option.some.injEq, Prod.mk.injEq] at H
        obtain ⟨rfl, rfl, rfl, rfl, rfl, rfl⟩ := H
        have hcz20_0 : wc.cell? ⟨gb143, 0, none⟩ = some (.int .i64 0) := (blk_cell BK143.out 0).trans rfl
        have hcz20_1 : wc.cell? ⟨gb143, 1, none⟩ = some (.int .i64 0) := (blk_cell BK143.out 1).trans rfl
        have hcz20_2 : wc.cell? ⟨gb143, 2, none⟩ = some (.int .i64 0) := (blk_cell BK143.out 2).trans rfl
        have hcz20_3 : wc.cell? ⟨gb143, 3, none⟩ = some (.int .i64 0) := (blk_cell BK143.out 3).trans rfl
        have hcz20_4 : wc.cell? ⟨gb143, 4, none⟩ = some (.bool false) := (blk_cell BK143.out 4).trans rfl
        have hfz20_0 := blk_frozen BK143.out 0
        have hfz20_1 := blk_frozen BK143.out 1
        have hfz20_2 := blk_frozen BK143.out 2
        have hfz20_3 := blk_frozen BK143.out 3
        have hfz20_4 := blk_frozen BK143.out 4
        go_wp2
        refine bodyPost_ret (results_ct rfl _ _ gb143 37 #[.int .i64 0, .int .i64 0, .int .i64 0, .int .i64 0, .bool false] (0, 0) _ rfl (by (with_reducible repeat (first | refine blk_drewN ?_ _ | refine blk_drew ?_ | refine blk_alloc ?_ _)); refine blk_put (cs := #[.int .i64 0, .int .i64 0, .int .i64 0, .int .i64 0, .bool false]) ?_ 4 _ rfl; (with_reducible repeat (first | refine blk_drewN ?_ _ | refine blk_drew ?_ | refine blk_alloc ?_ _)); refine blk_put (cs := #[.int .i64 0, .int .i64 0, .int .i64 0, .int .i64 0, .bool false]) ?_ 3 _ rfl; (with_reducible repeat (first | refine blk_drewN ?_ _ | refine blk_drew ?_ | refine blk_alloc ?_ _)); refine blk_put (cs := #[.int .i64 0, .int .i64 0, .int .i64 0, .int .i64 0, .bool false]) ?_ 2 _ rfl; (with_reducible repeat (first | refine blk_drewN ?_ _ | refine blk_drew ?_ | refine blk_alloc ?_ _)); refine blk_put (cs := #[.int .i64 0, .int .i64 0, .int .i64 0, .int .i64 0, .bool false]) ?_ 1 _ rfl; (with_reducible repeat (first | refine blk_drewN ?_ _ | refine blk_drew ?_ | refine blk_alloc ?_ _)); refine blk_put (cs := #[.int .i64 0, .int .i64 0, .int .i64 0, .int .i64 0, .bool false]) ?_ 0 _ rfl; (with_reducible repeat (first | refine blk_drewN ?_ _ | refine blk_drew ?_ | refine blk_alloc ?_ _)); exact BK143.out) Try.underlying37 rfl (by kernel_rfl)) rfl ?_
        exact ⟨by first | rfl | (simp [errW_none, errW_some] <;> rfl) | (simp [*, errW_none, errW_some] <;> rfl), by repeat (first | (with_reducible first | exact HB.out | apply below_alloc | apply pw_below_drewN | apply below_drew1 | refine below_set ?_ GE143.out) | exact HB.out)⟩
      · replace c19 := Bool.eq_false_iff.mpr c19
        subst c19
        have H1 : (impl_RunCredits.l0 kj5 a1 a2 l3 a4 a0 0 [] [] 0 0 0 0 false) = some (r1, r2, r3, r4, r5, r6) := by rw [if_neg (show ¬ (false = true) by decide)] at H; exact H
        clear H
        have H := H1
        clear H1
        have H' := Aside0.mk H
        clear H
        go_wp2_with (first | ((with_reducible refine gate_dst (N := 12) rfl ?_); refine box_event ?hg (N := 12) ?hd (cs := #[.int .i64 0, .int .i64 0, .int .i64 0, .int .i64 0, .bool false]) (t := 37) ?hr ?_; (case hd => rfl); (case hg => rfl); (case hr => first | (go_simp; done) | (go_simp; rfl)); intro gb149 hg w21 hbox hb; have n0_ := Aside0.mk (blk_below (g := gb143) (o := .cells #[.int .i64 0, .int .i64 0, .int .i64 0, .int .i64 0, .bool false] 37 (0, 0)) (by (with_reducible repeat (first | refine blk_drewN ?_ _ | refine blk_drew ?_ | refine blk_alloc ?_ _)); exact BK143.out) hb); have n1_ := Aside0.mk (below_step (by repeat (first | (with_reducible first | exact HB.out | apply below_alloc | apply pw_below_drewN | apply below_drew1 | refine below_set ?_ GE143.out) | exact HB.out)) hb); have n2_ := Aside0.mk (hbox); have n3_ := Aside0.mk ((by rw [hg]; exact (below_size (by repeat (first | (with_reducible first | exact HB.out | apply below_alloc | apply pw_below_drewN | apply below_drew1 | refine below_set ?_ GE143.out) | exact HB.out))) : w.heap.size ≤ gb149)); have n4_ := Aside0.mk ((by rw [hg]; exact (below_size (by repeat (first | (with_reducible first | exact HB.out | apply below_alloc | apply pw_below_drewN | apply below_drew1 | refine below_set ?_ GE143.out) | exact HB.out))) : w.heap.size ≤ gb149)); have n5_ := Aside0.mk ((by rw [hg]; exact Nat.ne_of_lt (blk_lt (g := gb143) (o := .cells #[.int .i64 0, .int .i64 0, .int .i64 0, .int .i64 0, .bool false] 37 (0, 0)) (by (with_reducible repeat (first | refine blk_drewN ?_ _ | refine blk_drew ?_ | refine blk_alloc ?_ _)); exact BK143.out)) : gb143 ≠ gb149)); have n6_ := Aside0.mk ((by rw [hg]; exact Nat.ne_of_gt (blk_lt (g := gb143) (o := .cells #[.int .i64 0, .int .i64 0, .int .i64 0, .int .i64 0, .bool false] 37 (0, 0)) (by (with_reducible repeat (first | refine blk_drewN ?_ _ | refine blk_drew ?_ | refine blk_alloc ?_ _)); exact BK143.out)) : gb149 ≠ gb143)); clear BK143; clear HB; have BK143 := n0_; have HB := n1_; have BK149 := n2_; have GW149 := n3_; have GE149 := n4_; have NB143_149 := n5_; have NB149_143 := n6_; clear n0_ n1_ n2_ n3_ n4_ n5_ n6_; clear hb hbox hg) | ((with_reducible refine gate_dst (N := 43) rfl ?_); refine map_event (t := 53) (k := 3) (e := 4) ?hg ?ho ?_; (case hg => rfl); (case ho => rfl); intro gb15 hg wm15 hm hb; have n0_ := Aside0.mk (blk_below (g := gb143) (o := .cells #[.int .i64 0, .int .i64 0, .int .i64 0, .int .i64 0, .bool false] 37 (0, 0)) (by (with_reducible repeat (first | refine blk_drewN ?_ _ | refine blk_drew ?_ | refine blk_alloc ?_ _)); exact BK143.out) hb); have n1_ := Aside0.mk (blk_below (g := gb149) (o := .cells #[.int .i64 0, .int .i64 0, .int .i64 0, .int .i64 0, .bool false] 37 (0, 0)) (by (with_reducible repeat (first | refine blk_drewN ?_ _ | refine blk_drew ?_ | refine blk_alloc ?_ _)); exact BK149.out) hb); have n2_ := Aside0.mk (below_step (by repeat (first | (with_reducible first | exact HB.out | apply below_alloc | apply pw_below_drewN | apply below_drew1 | refine below_set ?_ GE143.out | refine below_set ?_ GE149.out) | exact HB.out)) hb); have HM15 := Aside0.mk hm; have NE15_143 := Aside0.mk ((by rw [hg]; exact Nat.ne_of_gt (blk_lt (g := gb143) (o := .cells #[.int .i64 0, .int .i64 0, .int .i64 0, .int .i64 0, .bool false] 37 (0, 0)) (by (with_reducible repeat (first | refine blk_drewN ?_ _ | refine blk_drew ?_ | refine blk_alloc ?_ _)); exact BK143.out))) : gb15 ≠ gb143); have NE15_149 := Aside0.mk ((by rw [hg]; exact Nat.ne_of_gt (blk_lt (g := gb149) (o := .cells #[.int .i64 0, .int .i64 0, .int .i64 0, .int .i64 0, .bool false] 37 (0, 0)) (by (with_reducible repeat (first | refine blk_drewN ?_ _ | refine blk_drew ?_ | refine blk_alloc ?_ _)); exact BK149.out))) : gb15 ≠ gb149); have GE15 := Aside0.mk ((by rw [hg]; exact below_size (by repeat (first | (with_reducible first | exact HB.out | apply below_alloc | apply pw_below_drewN | apply below_drew1 | refine below_set ?_ GE143.out | refine below_set ?_ GE149.out) | exact HB.out))) : w.heap.size ≤ gb15); clear BK143 BK149 HB; have BK143 := n0_; have BK149 := n1_; have HB := n2_; clear n0_ n1_ n2_; clear hb hm hg) | ((with_reducible refine gate_dst (N := 44) rfl ?_); refine map_event (t := 53) (k := 3) (e := 4) ?hg ?ho ?_; (case hg => rfl); (case ho => rfl); intro gb16 hg wm16 hm hb; have n0_ := Aside0.mk (blk_below (g := gb143) (o := .cells #[.int .i64 0, .int .i64 0, .int .i64 0, .int .i64 0, .bool false] 37 (0, 0)) (by (with_reducible repeat (first | refine blk_drewN ?_ _ | refine blk_drew ?_ | refine blk_alloc ?_ _)); exact BK143.out) hb); have n1_ := Aside0.mk (blk_below (g := gb149) (o := .cells #[.int .i64 0, .int .i64 0, .int .i64 0, .int .i64 0, .bool false] 37 (0, 0)) (by (with_reducible repeat (first | refine blk_drewN ?_ _ | refine blk_drew ?_ | refine blk_alloc ?_ _)); exact BK149.out) hb); have n2_ := Aside0.mk (below_step (by repeat (first | (with_reducible first | exact HB.out | apply below_alloc | apply pw_below_drewN | apply below_drew1 | refine below_set ?_ GE143.out | refine below_set ?_ GE149.out) | exact HB.out)) hb); have HM16 := Aside0.mk hm; have NE16_143 := Aside0.mk ((by rw [hg]; exact Nat.ne_of_gt (blk_lt (g := gb143) (o := .cells #[.int .i64 0, .int .i64 0, .int .i64 0, .int .i64 0, .bool false] 37 (0, 0)) (by (with_reducible repeat (first | refine blk_drewN ?_ _ | refine blk_drew ?_ | refine blk_alloc ?_ _)); exact BK143.out))) : gb16 ≠ gb143); have NE16_149 := Aside0.mk ((by rw [hg]; exact Nat.ne_of_gt (blk_lt (g := gb149) (o := .cells #[.int .i64 0, .int .i64 0, .int .i64 0, .int .i64 0, .bool false] 37 (0, 0)) (by (with_reducible repeat (first | refine blk_drewN ?_ _ | refine blk_drew ?_ | refine blk_alloc ?_ _)); exact BK149.out))) : gb16 ≠ gb149); have GE16 := Aside0.mk ((by rw [hg]; exact below_size (by repeat (first | (with_reducible first | exact HB.out | apply below_alloc | apply pw_below_drewN | apply below_drew1 | refine below_set ?_ GE143.out | refine below_set ?_ GE149.out) | exact HB.out))) : w.heap.size ≤ gb16); have NE15_16 := Aside0.mk ((by rw [hg]; exact Nat.ne_of_lt (bset_lt (by (with_reducible repeat (first | refine bset_drewN ?_ _ | refine bset_drew ?_)); exact HM15.out))) : gb15 ≠ gb16); have n3_ := Aside0.mk (bset_below (by (with_reducible repeat (first | refine bset_drewN ?_ _ | refine bset_drew ?_)); exact HM15.out) hb); clear HM15; have HM15 := n3_; clear n3_; clear BK143 BK149 HB; have BK143 := n0_; have BK149 := n1_; have HB := n2_; clear n0_ n1_ n2_; clear hb hm hg))
        go_loopg [13, 14] kj5 (fun kq v13 v14 w' => ∃ (x13_2 : Int) (x14_2 : Int) (x15_2 : List Int) (x16_2 : List Int) (x150000_2 : Int) (x150001_2 : Int) (x150002_2 : Int) (x150003_2 : Int), v13 = .int .i64 x13_2 ∧ v14 = .int .i64 x14_2 ∧ Aside0 (impl_RunCredits.l0 kq a1 a2 l3 a4 x13_2 x14_2 x15_2 x16_2 x150000_2 x150001_2 x150002_2 x150003_2 false = some (r1, r2, r3, r4, r5, r6)) ∧ Aside0 (kq ≤ kj5) ∧ Aside0 (w'.heap[gb143]? = some (.cells #[.int .i64 0, .int .i64 0, .int .i64 0, .int .i64 0, .bool false] 37 (0, 0))) ∧ Aside0 (w'.heap[gb149]? = some (.cells #[.int .i64 x150000_2, .int .i64 x150001_2, .int .i64 x150002_2, .int .i64 x150003_2, .bool false] 37 (0, 0))) ∧ Aside0 (Below w.heap.size w w') ∧ Aside0 (bset w' Try.prog 3 4 gb15 x15_2) ∧ Aside0 (bset w' Try.prog 3 4 gb16 x16_2) ∧ Aside0 ((Lit.int .i64 x150003_2).wf = true))
        case atStart => exact ⟨(a0), (0), ([]), ([]), (0), (0), (0), (0), (by first | rfl | (simp; done) | (simp [*]; done)), (by first | rfl | (simp; done) | (simp [*]; done)), H', ⟨Nat.le_refl _⟩, ⟨by (with_reducible repeat (first | refine blk_drewN ?_ _ | refine blk_drew ?_ | refine blk_alloc ?_ _)); exact BK143.out⟩, ⟨by (with_reducible repeat (first | refine blk_drewN ?_ _ | refine blk_drew ?_ | refine blk_alloc ?_ _)); exact BK149.out⟩, ⟨by repeat (first | (with_reducible first | exact HB.out | apply below_alloc | apply pw_below_drewN | apply below_drew1 | refine below_set ?_ GE143.out | refine below_set ?_ GE149.out) | exact HB.out)⟩, ⟨(by (with_reducible repeat (first | refine bset_drewN ?_ _ | refine bset_drew ?_)); exact HM15.out)⟩, ⟨(by (with_reducible repeat (first | refine bset_drewN ?_ _ | refine bset_drew ?_)); exact HM16.out)⟩, ⟨by decide⟩⟩
        case round =>
          clear H'
          try clear c1
          try clear c2
          try clear p2
          try clear c3
          try clear c9
          try clear c11
          try clear c13
          try clear c15
          try clear c19
          try clear hcz20_0
          try clear hcz20_1
          try clear hcz20_2
          try clear hcz20_3
          try clear hcz20_4
          try clear hfz20_0
          try clear hfz20_1
          try clear hfz20_2
          try clear hfz20_3
          try clear hfz20_4
          try clear p2
          obtain ⟨x13_2, x14_2, x15_2, x16_2, x150000_2, x150001_2, x150002_2, x150003_2, rfl, rfl, HA, HK2, BK143, BK149, HB, HM15, HM16, WF3⟩ := hrel
          cases gk with
          | zero => exact absurd HA.out (by simp [impl_RunCredits.l0])
          | succ k2 =>
            have H := HA.out
            clear HA
            simp only [impl_RunCredits.l0] at H
            have LM15 : x15_2.length < 17592186044416 := by
              by_cases c : x15_2.length < 17592186044416
              · exact c
              · rw [if_neg c] at H
                exact absurd H (by simp)
            rw [if_pos LM15] at H
            replace LM15 := Aside0.mk LM15
            have LM16 : x16_2.length < 17592186044416 := by
              by_cases c : x16_2.length < 17592186044416
              · exact c
              · rw [if_neg c] at H
                exact absurd H (by simp)
            rw [if_pos LM16] at H
            replace LM16 := Aside0.mk LM16
            have HC22 := Aside0.mk H
            clear H
            go_upto_region 6 with (fail)
            go_cut [54] (fun v54 wc => ∃ (kq : Nat) (x54_21 : Bool), v54 = .bool x54_21 ∧ Aside0 (impl_RunCredits.j2 kq a1 a2 l3 a4 x13_2 x14_2 x15_2 x16_2 x54_21 x150000_2 x150001_2 x150002_2 x150003_2 false = some (r1, r2, r3, r4, r5, r6)) ∧ Aside0 (kq ≤ k2) ∧ Aside0 (wc.heap[gb143]? = some (.cells #[.int .i64 0, .int .i64 0, .int .i64 0, .int .i64 0, .bool false] 37 (0, 0))) ∧ Aside0 (wc.heap[gb149]? = some (.cells #[.int .i64 x150000_2, .int .i64 x150001_2, .int .i64 x150002_2, .int .i64 x150003_2, .bool false] 37 (0, 0))) ∧ Aside0 (Below w.heap.size w wc) ∧ Aside0 (bset wc Try.prog 3 4 gb15 x15_2) ∧ Aside0 (bset wc Try.prog 3 4 gb16 x16_2))
            case first =>
              have H := HC22.out
              clear HC22
              by_cases c23 : x150001_2 < a2
              · rw [if_pos c23] at H
                have c23b0 : decide (x150001_2 < a2) = true := decide_eq_true c23
                clear c23
                (first | rw [c23b0] | (simp only [i64_w, i32_w]; rw [c23b0]) | skip)
                have H' := Aside0.mk H
                clear H
                have hnb24 := NB149_143.out
                have hnc24 := NB143_149.out
                have hcz25_0 : wr.cell? ⟨gb149, 0, none⟩ = some (.int .i64 x150000_2) := (blk_cell BK149.out 0).trans rfl
                have hcz25_1 : wr.cell? ⟨gb149, 1, none⟩ = some (.int .i64 x150001_2) := (blk_cell BK149.out 1).trans rfl
                have hcz25_2 : wr.cell? ⟨gb149, 2, none⟩ = some (.int .i64 x150002_2) := (blk_cell BK149.out 2).trans rfl
                have hcz25_3 : wr.cell? ⟨gb149, 3, none⟩ = some (.int .i64 x150003_2) := (blk_cell BK149.out 3).trans rfl
                have hcz25_4 : wr.cell? ⟨gb149, 4, none⟩ = some (.bool false) := (blk_cell BK149.out 4).trans rfl
                have hfz25_0 := blk_frozen BK149.out 0
                have hfz25_1 := blk_frozen BK149.out 1
                have hfz25_2 := blk_frozen BK149.out 2
                have hfz25_3 := blk_frozen BK149.out 3
                have hfz25_4 := blk_frozen BK149.out 4
                go_wp2
                go_meet
                case rel => exact ⟨_, (decide (x150003_2 < a4)), (by first | rfl | (simp; done) | (simp [*]; done)), H', ⟨by have := HJ5.out; have := HK2.out; first | omega | exact Nat.le_refl _⟩, ⟨by (with_reducible repeat (first | refine blk_drewN ?_ _ | refine blk_drew ?_ | refine blk_alloc ?_ _)); exact BK143.out⟩, ⟨by (with_reducible repeat (first | refine blk_drewN ?_ _ | refine blk_drew ?_ | refine blk_alloc ?_ _)); exact BK149.out⟩, ⟨by repeat (first | (with_reducible first | exact HB.out | apply below_alloc | apply pw_below_drewN | apply below_drew1 | refine below_set ?_ GE143.out | refine below_set ?_ GE149.out) | exact HB.out)⟩, ⟨(by (with_reducible repeat (first | refine bset_drewN ?_ _ | refine bset_drew ?_ | refine bset_set ?_ NE15_149.out _ | refine bset_set ?_ NE15_143.out _)); exact HM15.out)⟩, ⟨(by (with_reducible repeat (first | refine bset_drewN ?_ _ | refine bset_drew ?_ | refine bset_set ?_ NE16_149.out _ | refine bset_set ?_ NE16_143.out _)); exact HM16.out)⟩⟩
              · rw [if_neg c23] at H
                have c23b0 : decide (x150001_2 < a2) = false := decide_eq_false c23
                clear c23
                (first | rw [c23b0] | (simp only [i64_w, i32_w]; rw [c23b0]) | skip)
                have H' := Aside0.mk H
                clear H
                have hnb26 := NB149_143.out
                have hnc26 := NB143_149.out
                have hcz27_0 : wr.cell? ⟨gb149, 0, none⟩ = some (.int .i64 x150000_2) := (blk_cell BK149.out 0).trans rfl
                have hcz27_1 : wr.cell? ⟨gb149, 1, none⟩ = some (.int .i64 x150001_2) := (blk_cell BK149.out 1).trans rfl
                have hcz27_2 : wr.cell? ⟨gb149, 2, none⟩ = some (.int .i64 x150002_2) := (blk_cell BK149.out 2).trans rfl
                have hcz27_3 : wr.cell? ⟨gb149, 3, none⟩ = some (.int .i64 x150003_2) := (blk_cell BK149.out 3).trans rfl
                have hcz27_4 : wr.cell? ⟨gb149, 4, none⟩ = some (.bool false) := (blk_cell BK149.out 4).trans rfl
                have hfz27_0 := blk_frozen BK149.out 0
                have hfz27_1 := blk_frozen BK149.out 1
                have hfz27_2 := blk_frozen BK149.out 2
                have hfz27_3 := blk_frozen BK149.out 3
                have hfz27_4 := blk_frozen BK149.out 4
                go_wp2
                go_meet
                case rel => exact ⟨_, (false), (by first | rfl | (simp; done) | (simp [*]; done)), H', ⟨by have := HJ5.out; have := HK2.out; first | omega | exact Nat.le_refl _⟩, ⟨by (with_reducible repeat (first | refine blk_drewN ?_ _ | refine blk_drew ?_ | refine blk_alloc ?_ _)); exact BK143.out⟩, ⟨by (with_reducible repeat (first | refine blk_drewN ?_ _ | refine blk_drew ?_ | refine blk_alloc ?_ _)); exact BK149.out⟩, ⟨by repeat (first | (with_reducible first | exact HB.out | apply below_alloc | apply pw_below_drewN | apply below_drew1 | refine below_set ?_ GE143.out | refine below_set ?_ GE149.out) | exact HB.out)⟩, ⟨(by (with_reducible repeat (first | refine bset_drewN ?_ _ | refine bset_drew ?_ | refine bset_set ?_ NE15_149.out _ | refine bset_set ?_ NE15_143.out _)); exact HM15.out)⟩, ⟨(by (with_reducible repeat (first | refine bset_drewN ?_ _ | refine bset_drew ?_ | refine bset_set ?_ NE16_149.out _ | refine bset_set ?_ NE16_143.out _)); exact HM16.out)⟩⟩
            case rest =>
              clear HC22
              try clear c1
              try clear c2
              try clear p2
              try clear c3
              try clear c9
              try clear c11
              try clear c13
              try clear c15
              try clear c19
              try clear c23
              try clear c23b0
              try clear c24
              try clear c26
              try clear hcz20_0
              try clear hcz20_1
              try clear hcz20_2
              try clear hcz20_3
              try clear hcz20_4
              try clear hcz25_0
              try clear hcz25_1
              try clear hcz25_2
              try clear hcz25_3
              try clear hcz25_4
              try clear hcz27_0
              try clear hcz27_1
              try clear hcz27_2
              try clear hcz27_3
              try clear hcz27_4
              try clear hfz20_0
              try clear hfz20_1
              try clear hfz20_2
              try clear hfz20_3
              try clear hfz20_4
              try clear hfz25_0
              try clear hfz25_1
              try clear hfz25_2
              try clear hfz25_3
              try clear hfz25_4
              try clear hfz27_0
              try clear hfz27_1
              try clear hfz27_2
              try clear hfz27_3
              try clear hfz27_4
              try clear p2
              obtain ⟨kq, x54_21, rfl, HA, HJ21, BK143, BK149, HB, HM15, HM16⟩ := hcut
              cases kq with
              | zero => exact absurd HA.out (by simp [impl_RunCredits.j2])
              | succ kj21 =>
                have H := HA.out
                clear HA
                simp only [impl_RunCredits.j2] at H
                by_cases c28 : x54_21 = true
                · subst c28
                  have H1 : (if x16_2.contains (wrap64 (x150003_2 - a1)) = true then (impl_RunCredits.j3 kj21 a1 a2 l3 a4 (wrap64 (x13_2 + 1)) x14_2 x15_2 x16_2 x150003_2 x150000_2 x150001_2 x150002_2 (wrap64 (x150003_2 + 1)) false) else (impl_RunCredits.j3 kj21 a1 a2 l3 a4 x13_2 x14_2 x15_2 x16_2 x150003_2 x150000_2 x150001_2 x150002_2 (wrap64 (x150003_2 + 1)) false)) = some (r1, r2, r3, r4, r5, r6) := by rw [if_pos rfl] at H; exact H
                  clear H
                  have H := H1
                  clear H1
                  have HC29 := Aside0.mk H
                  clear H
                  have hnb30 := NB149_143.out
                  have hnc30 := NB143_149.out
                  have hcz31_0 : wc.cell? ⟨gb149, 0, none⟩ = some (.int .i64 x150000_2) := (blk_cell BK149.out 0).trans rfl
                  have hcz31_1 : wc.cell? ⟨gb149, 1, none⟩ = some (.int .i64 x150001_2) := (blk_cell BK149.out 1).trans rfl
                  have hcz31_2 : wc.cell? ⟨gb149, 2, none⟩ = some (.int .i64 x150002_2) := (blk_cell BK149.out 2).trans rfl
                  have hcz31_3 : wc.cell? ⟨gb149, 3, none⟩ = some (.int .i64 x150003_2) := (blk_cell BK149.out 3).trans rfl
                  have hcz31_4 : wc.cell? ⟨gb149, 4, none⟩ = some (.bool false) := (blk_cell BK149.out 4).trans rfl
                  have hfz31_0 := blk_frozen BK149.out 0
                  have hfz31_1 := blk_frozen BK149.out 1
                  have hfz31_2 := blk_frozen BK149.out 2
                  have hfz31_3 := blk_frozen BK149.out 3
                  have hfz31_4 := blk_frozen BK149.out 4
                  go_upto_if 65 with ((at_lookup); refine wpList_lookup_bset _ rfl _ _ 53 rfl 3 4 (Go.Maps.int_keyed Try.underlying3) Try.underlying53 Try.underlying3 Try.underlying4 (by kernel_rfl) gb16 x16_2 rfl (by (with_reducible repeat (first | refine bset_drewN ?_ _ | refine bset_drew ?_ | refine bset_set ?_ NE16_149.out _ | refine bset_set ?_ NE16_143.out _)); exact HM16.out) (wrap64 (x150003_2 - a1)) (by first | rfl | exact congrArg (Value.int IntKind.i64) (i64_w _)) (RowKit.wrap64_wf _) ?_)
                  (try simp only [Act.put, List.setIfInBounds_toArray, List.set_cons_zero, List.set_cons_succ])
                  go_cut [13] (fun v13 wc => ∃ (kq : Nat) (x13_28 : Int), v13 = .int .i64 x13_28 ∧ Aside0 (impl_RunCredits.j3 kq a1 a2 l3 a4 x13_28 x14_2 x15_2 x16_2 x150003_2 x150000_2 x150001_2 x150002_2 (wrap64 (x150003_2 + 1)) false = some (r1, r2, r3, r4, r5, r6)) ∧ Aside0 (kq ≤ kj21) ∧ Aside0 (wc.heap[gb143]? = some (.cells #[.int .i64 0, .int .i64 0, .int .i64 0, .int .i64 0, .bool false] 37 (0, 0))) ∧ Aside0 (wc.heap[gb149]? = some (.cells #[.int .i64 x150000_2, .int .i64 x150001_2, .int .i64 x150002_2, .int .i64 (wrap64 (x150003_2 + 1)), .bool false] 37 (0, 0))) ∧ Aside0 (Below w.heap.size w wc) ∧ Aside0 (bset wc Try.prog 3 4 gb15 x15_2) ∧ Aside0 (bset wc Try.prog 3 4 gb16 x16_2))
                  case first =>
                    have H := HC29.out
                    clear HC29
                    by_cases c32 : x16_2.contains (wrap64 (x150003_2 - a1)) = true
                    · rw [if_pos c32] at H
                      have c32b0 := c32
                      clear c32
                      (first | rw [c32b0] | (simp only [i64_w, i32_w]; rw [c32b0]) | skip)
                      have H' := Aside0.mk H
                      clear H
                      go_wp2
                      go_meet
                      case rel => exact ⟨_, (wrap64 (x13_2 + 1)), (by first | rfl | (simp; done) | (simp [*]; done)), H', ⟨by have := HJ5.out; have := HK2.out; have := HJ21.out; first | omega | exact Nat.le_refl _⟩, ⟨by (with_reducible repeat (first | refine blk_drewN ?_ _ | refine blk_drew ?_ | refine blk_alloc ?_ _)); refine blk_far ?_ NB143_149.out _; (with_reducible repeat (first | refine blk_drewN ?_ _ | refine blk_drew ?_ | refine blk_alloc ?_ _)); exact BK143.out⟩, ⟨by (with_reducible repeat (first | refine blk_drewN ?_ _ | refine blk_drew ?_ | refine blk_alloc ?_ _)); refine blk_put (cs := #[.int .i64 x150000_2, .int .i64 x150001_2, .int .i64 x150002_2, .int .i64 x150003_2, .bool false]) ?_ 3 _ rfl; (with_reducible repeat (first | refine blk_drewN ?_ _ | refine blk_drew ?_ | refine blk_alloc ?_ _)); exact BK149.out⟩, ⟨by repeat (first | (with_reducible first | exact HB.out | apply below_alloc | apply pw_below_drewN | apply below_drew1 | refine below_set ?_ GE143.out | refine below_set ?_ GE149.out) | exact HB.out)⟩, ⟨(by (with_reducible repeat (first | refine bset_drewN ?_ _ | refine bset_drew ?_ | refine bset_set ?_ NE15_149.out _ | refine bset_set ?_ NE15_143.out _)); exact HM15.out)⟩, ⟨(by (with_reducible repeat (first | refine bset_drewN ?_ _ | refine bset_drew ?_ | refine bset_set ?_ NE16_149.out _ | refine bset_set ?_ NE16_143.out _)); exact HM16.out)⟩⟩
                    · rw [if_neg c32] at H
                      have c32b0 := Bool.eq_false_iff.mpr c32
                      (first | rw [c32b0] | (simp only [i64_w, i32_w]; rw [c32b0]) | skip)
                      have H' := Aside0.mk H
                      clear H
                      go_wp2
                      go_meet
                      case rel => exact ⟨_, (x13_2), (by first | rfl | (simp; done) | (simp [*]; done)), H', ⟨by have := HJ5.out; have := HK2.out; have := HJ21.out; first | omega | exact Nat.le_refl _⟩, ⟨by (with_reducible repeat (first | refine blk_drewN ?_ _ | refine blk_drew ?_ | refine blk_alloc ?_ _)); refine blk_far ?_ NB143_149.out _; (with_reducible repeat (first | refine blk_drewN ?_ _ | refine blk_drew ?_ | refine blk_alloc ?_ _)); exact BK143.out⟩, ⟨by (with_reducible repeat (first | refine blk_drewN ?_ _ | refine blk_drew ?_ | refine blk_alloc ?_ _)); refine blk_put (cs := #[.int .i64 x150000_2, .int .i64 x150001_2, .int .i64 x150002_2, .int .i64 x150003_2, .bool false]) ?_ 3 _ rfl; (with_reducible repeat (first | refine blk_drewN ?_ _ | refine blk_drew ?_ | refine blk_alloc ?_ _)); exact BK149.out⟩, ⟨by repeat (first | (with_reducible first | exact HB.out | apply below_alloc | apply pw_below_drewN | apply below_drew1 | refine below_set ?_ GE143.out | refine below_set ?_ GE149.out) | exact HB.out)⟩, ⟨(by (with_reducible repeat (first | refine bset_drewN ?_ _ | refine bset_drew ?_ | refine bset_set ?_ NE15_149.out _ | refine bset_set ?_ NE15_143.out _)); exact HM15.out)⟩, ⟨(by (with_reducible repeat (first | refine bset_drewN ?_ _ | refine bset_drew ?_ | refine bset_set ?_ NE16_149.out _ | refine bset_set ?_ NE16_143.out _)); exact HM16.out)⟩⟩
                  case rest =>
                    clear HC29
                    try clear c1
                    try clear c2
                    try clear p2
                    try clear c3
                    try clear p6
                    try clear c9
                    try clear c11
                    try clear c13
                    try clear c15
                    try clear c19
                    try clear c23
                    try clear c23b0
                    try clear c24
                    try clear c26
                    try clear c28
                    try clear c29
                    try clear c30
                    try clear c32
                    try clear c32b0
                    try clear c32b1
                    try clear hcz20_0
                    try clear hcz20_1
                    try clear hcz20_2
                    try clear hcz20_3
                    try clear hcz20_4
                    try clear hcz25_0
                    try clear hcz25_1
                    try clear hcz25_2
                    try clear hcz25_3
                    try clear hcz25_4
                    try clear hcz27_0
                    try clear hcz27_1
                    try clear hcz27_2
                    try clear hcz27_3
                    try clear hcz27_4
                    try clear hcz31_0
                    try clear hcz31_1
                    try clear hcz31_2
                    try clear hcz31_3
                    try clear hcz31_4
                    try clear hfz20_0
                    try clear hfz20_1
                    try clear hfz20_2
                    try clear hfz20_3
                    try clear hfz20_4
                    try clear hfz25_0
                    try clear hfz25_1
                    try clear hfz25_2
                    try clear hfz25_3
                    try clear hfz25_4
                    try clear hfz27_0
                    try clear hfz27_1
                    try clear hfz27_2
                    try clear hfz27_3
                    try clear hfz27_4
                    try clear hfz31_0
                    try clear hfz31_1
                    try clear hfz31_2
                    try clear hfz31_3
                    try clear hfz31_4
                    try clear p2
                    obtain ⟨kq, x13_28, rfl, HA, HJ28, BK143, BK149, HB, HM15, HM16⟩ := hcut
                    cases kq with
                    | zero => exact absurd HA.out (by simp [impl_RunCredits.j3])
                    | succ kj28 =>
                      have H := HA.out
                      clear HA
                      simp only [impl_RunCredits.j3] at H
                      have HC33 := Aside0.mk H
                      clear H
                      go_upto_if 72 with ((at_lookup); refine wpList_lookup_bset _ rfl _ _ 53 rfl 3 4 (Go.Maps.int_keyed Try.underlying3) Try.underlying53 Try.underlying3 Try.underlying4 (by kernel_rfl) gb15 x15_2 rfl (by (with_reducible repeat (first | refine bset_drewN ?_ _ | refine bset_drew ?_ | refine bset_set ?_ NE15_149.out _ | refine bset_set ?_ NE15_143.out _)); exact HM15.out) (wrap64 (x150003_2 - a1)) (by first | rfl | exact congrArg (Value.int IntKind.i64) (i64_w _)) (RowKit.wrap64_wf _) ?_)
                      (try simp only [Act.put, List.setIfInBounds_toArray, List.set_cons_zero, List.set_cons_succ])
                      go_cut [14] (fun v14 wc => ∃ (kq : Nat) (x14_32 : Int), v14 = .int .i64 x14_32 ∧ Aside0 (impl_RunCredits.j4 kq a1 a2 l3 a4 x13_28 x14_32 x15_2 x16_2 x150003_2 x150000_2 x150001_2 x150002_2 (wrap64 (x150003_2 + 1)) false = some (r1, r2, r3, r4, r5, r6)) ∧ Aside0 (kq ≤ kj28) ∧ Aside0 (wc.heap[gb143]? = some (.cells #[.int .i64 0, .int .i64 0, .int .i64 0, .int .i64 0, .bool false] 37 (0, 0))) ∧ Aside0 (wc.heap[gb149]? = some (.cells #[.int .i64 x150000_2, .int .i64 x150001_2, .int .i64 x150002_2, .int .i64 (wrap64 (x150003_2 + 1)), .bool false] 37 (0, 0))) ∧ Aside0 (Below w.heap.size w wc) ∧ Aside0 (bset wc Try.prog 3 4 gb15 x15_2) ∧ Aside0 (bset wc Try.prog 3 4 gb16 x16_2))
                      case first =>
                        have H := HC33.out
                        clear HC33
                        by_cases c34 : x15_2.contains (wrap64 (x150003_2 - a1)) = true
                        · rw [if_pos c34] at H
                          have c34b0 := c34
                          clear c34
                          (first | rw [c34b0] | (simp only [i64_w, i32_w]; rw [c34b0]) | skip)
                          have H' := Aside0.mk H
                          clear H
                          go_wp2
                          go_meet
                          case rel => exact ⟨_, (wrap64 (x14_2 + 1)), (by first | rfl | (simp; done) | (simp [*]; done)), H', ⟨by have := HJ5.out; have := HK2.out; have := HJ21.out; have := HJ28.out; first | omega | exact Nat.le_refl _⟩, ⟨by (with_reducible repeat (first | refine blk_drewN ?_ _ | refine blk_drew ?_ | refine blk_alloc ?_ _)); exact BK143.out⟩, ⟨by (with_reducible repeat (first | refine blk_drewN ?_ _ | refine blk_drew ?_ | refine blk_alloc ?_ _)); exact BK149.out⟩, ⟨by repeat (first | (with_reducible first | exact HB.out | apply below_alloc | apply pw_below_drewN | apply below_drew1 | refine below_set ?_ GE143.out | refine below_set ?_ GE149.out) | exact HB.out)⟩, ⟨(by (with_reducible repeat (first | refine bset_drewN ?_ _ | refine bset_drew ?_ | refine bset_set ?_ NE15_149.out _ | refine bset_set ?_ NE15_143.out _)); exact HM15.out)⟩, ⟨(by (with_reducible repeat (first | refine bset_drewN ?_ _ | refine bset_drew ?_ | refine bset_set ?_ NE16_149.out _ | refine bset_set ?_ NE16_143.out _)); exact HM16.out)⟩⟩
                        · rw [if_neg c34] at H
                          have c34b0 := Bool.eq_false_iff.mpr c34
                          (first | rw [c34b0] | (simp only [i64_w, i32_w]; rw [c34b0]) | skip)
                          have H' := Aside0.mk H
                          clear H
                          go_wp2
                          go_meet
                          case rel => exact ⟨_, (x14_2), (by first | rfl | (simp; done) | (simp [*]; done)), H', ⟨by have := HJ5.out; have := HK2.out; have := HJ21.out; have := HJ28.out; first | omega | exact Nat.le_refl _⟩, ⟨by (with_reducible repeat (first | refine blk_drewN ?_ _ | refine blk_drew ?_ | refine blk_alloc ?_ _)); exact BK143.out⟩, ⟨by (with_reducible repeat (first | refine blk_drewN ?_ _ | refine blk_drew ?_ | refine blk_alloc ?_ _)); exact BK149.out⟩, ⟨by repeat (first | (with_reducible first | exact HB.out | apply below_alloc | apply pw_below_drewN | apply below_drew1 | refine below_set ?_ GE143.out | refine below_set ?_ GE149.out) | exact HB.out)⟩, ⟨(by (with_reducible repeat (first | refine bset_drewN ?_ _ | refine bset_drew ?_ | refine bset_set ?_ NE15_149.out _ | refine bset_set ?_ NE15_143.out _)); exact HM15.out)⟩, ⟨(by (with_reducible repeat (first | refine bset_drewN ?_ _ | refine bset_drew ?_ | refine bset_set ?_ NE16_149.out _ | refine bset_set ?_ NE16_143.out _)); exact HM16.out)⟩⟩
                      case rest =>
                        clear HC33
                        try clear c1
                        try clear c2
                        try clear p2
                        try clear c3
                        try clear p6
                        try clear c9
                        try clear c11
                        try clear c13
                        try clear c15
                        try clear c19
                        try clear c23
                        try clear c23b0
                        try clear c24
                        try clear c26
                        try clear c28
                        try clear c29
                        try clear c30
                        try clear c32
                        try clear c32b0
                        try clear c32b1
                        try clear c34
                        try clear c34b0
                        try clear c34b1
                        try clear hcz20_0
                        try clear hcz20_1
                        try clear hcz20_2
                        try clear hcz20_3
                        try clear hcz20_4
                        try clear hcz25_0
                        try clear hcz25_1
                        try clear hcz25_2
                        try clear hcz25_3
                        try clear hcz25_4
                        try clear hcz27_0
                        try clear hcz27_1
                        try clear hcz27_2
                        try clear hcz27_3
                        try clear hcz27_4
                        try clear hcz31_0
                        try clear hcz31_1
                        try clear hcz31_2
                        try clear hcz31_3
                        try clear hcz31_4
                        try clear hfz20_0
                        try clear hfz20_1
                        try clear hfz20_2
                        try clear hfz20_3
                        try clear hfz20_4
                        try clear hfz25_0
                        try clear hfz25_1
                        try clear hfz25_2
                        try clear hfz25_3
                        try clear hfz25_4
                        try clear hfz27_0
                        try clear hfz27_1
                        try clear hfz27_2
                        try clear hfz27_3
                        try clear hfz27_4
                        try clear hfz31_0
                        try clear hfz31_1
                        try clear hfz31_2
                        try clear hfz31_3
                        try clear hfz31_4
                        try clear p2
                        try clear p6
                        obtain ⟨kq, x14_32, rfl, HA, HJ32, BK143, BK149, HB, HM15, HM16⟩ := hcut
                        cases kq with
                        | zero => exact absurd HA.out (by simp [impl_RunCredits.j4])
                        | succ kj32 =>
                          have H := HA.out
                          clear HA
                          simp only [impl_RunCredits.j4] at H
                          obtain ⟨ji35, hji35⟩ : ∃ j_ : Int, (mx x150002_2 x14_32) = j_ := ⟨_, rfl⟩
                          replace H : ((impl_isOpen.f l3 x150003_2).bind fun t150 => (if t150 = true then (impl_RunCredits.j5 kj32 a1 a2 l3 a4 x13_28 x14_32 x15_2 x16_2 x150003_2 (decide (x14_32 > 0)) x150000_2 x150001_2 ji35 (wrap64 (x150003_2 + 1)) false) else (impl_RunCredits.j5 kj32 a1 a2 l3 a4 x13_28 x14_32 x15_2 x16_2 x150003_2 false x150000_2 x150001_2 ji35 (wrap64 (x150003_2 + 1)) false))) = some (r1, r2, r3, r4, r5, r6) := by first | (rw [hji35] at H; exact H) | (simp only [hji35] at H ⊢; exact H)
                          have hji35_ : (if x150002_2 < x14_32 then x14_32 else x150002_2) = ji35 := hji35
                          have HC36 := Aside0.mk H
                          clear H
                          have hnb37 := NB149_143.out
                          have hnc37 := NB143_149.out
                          have hcz38_0 : wc.cell? ⟨gb149, 0, none⟩ = some (.int .i64 x150000_2) := (blk_cell BK149.out 0).trans rfl
                          have hcz38_1 : wc.cell? ⟨gb149, 1, none⟩ = some (.int .i64 x150001_2) := (blk_cell BK149.out 1).trans rfl
                          have hcz38_2 : wc.cell? ⟨gb149, 2, none⟩ = some (.int .i64 x150002_2) := (blk_cell BK149.out 2).trans rfl
                          have hcz38_3 : wc.cell? ⟨gb149, 3, none⟩ = some (.int .i64 (wrap64 (x150003_2 + 1))) := (blk_cell BK149.out 3).trans rfl
                          have hcz38_4 : wc.cell? ⟨gb149, 4, none⟩ = some (.bool false) := (blk_cell BK149.out 4).trans rfl
                          have hfz38_0 := blk_frozen BK149.out 0
                          have hfz38_1 := blk_frozen BK149.out 1
                          have hfz38_2 := blk_frozen BK149.out 2
                          have hfz38_3 := blk_frozen BK149.out 3
                          have hfz38_4 := blk_frozen BK149.out 4
                          go_upto_region 14 with (fail)
                          go_cut [86] (fun v86 wc => ∃ (kq : Nat) (x86_35 : Bool), v86 = .bool x86_35 ∧ Aside0 (impl_RunCredits.j5 kq a1 a2 l3 a4 x13_28 x14_32 x15_2 x16_2 x150003_2 x86_35 x150000_2 x150001_2 ji35 (wrap64 (x150003_2 + 1)) false = some (r1, r2, r3, r4, r5, r6)) ∧ Aside0 (kq ≤ kj32) ∧ Aside0 (wc.heap[gb143]? = some (.cells #[.int .i64 0, .int .i64 0, .int .i64 0, .int .i64 0, .bool false] 37 (0, 0))) ∧ Aside0 (wc.heap[gb149]? = some (.cells #[.int .i64 x150000_2, .int .i64 x150001_2, .int .i64 ji35, .int .i64 (wrap64 (x150003_2 + 1)), .bool false] 37 (0, 0))) ∧ Aside0 (Below w.heap.size w wc) ∧ Aside0 (bset wc Try.prog 3 4 gb15 x15_2) ∧ Aside0 (bset wc Try.prog 3 4 gb16 x16_2))
                          case first =>
                            have H := HC36.out
                            clear HC36
                            replace H := Option.bind_eq_some_iff.mp H
                            obtain ⟨t150, A390, H⟩ := H
                            replace H : (if t150 = true then (impl_RunCredits.j5 kj32 a1 a2 l3 a4 x13_28 x14_32 x15_2 x16_2 x150003_2 (decide (x14_32 > 0)) x150000_2 x150001_2 ji35 (wrap64 (x150003_2 + 1)) false) else (impl_RunCredits.j5 kj32 a1 a2 l3 a4 x13_28 x14_32 x15_2 x16_2 x150003_2 false x150000_2 x150001_2 ji35 (wrap64 (x150003_2 + 1)) false)) = some (r1, r2, r3, r4, r5, r6) := H
                            have A39 := Aside0.mk A390
                            clear A390
                            by_cases c40 : t150 = true
                            · subst c40
                              have H1 : (impl_RunCredits.j5 kj32 a1 a2 l3 a4 x13_28 x14_32 x15_2 x16_2 x150003_2 (decide (x14_32 > 0)) x150000_2 x150001_2 ji35 (wrap64 (x150003_2 + 1)) false) = some (r1, r2, r3, r4, r5, r6) := by rw [if_pos rfl] at H; exact H
                              clear H
                              have H := H1
                              clear H1
                              have H' := Aside0.mk H
                              clear H
                              go_wp2_with (first | ((with_reducible refine gate_callee (f := 34) rfl ?_); refine goesL_ (some 82) rfl rfl Try.func34 (by kernel_rfl) rfl #[.slice A3 l3.length c3, .int .i64 x150003_2] rfl (by (try simp only [List.map_toArray, List.map_cons, List.map_nil]); first | done | rfl | (simp only [List.length_drop, List.length_take]; rfl)) ?_; (with_reducible refine (impl_isOpen.calls _ _ l3 x150003_2 true _ ?side1 ?side2 A39.out).mono ?_); (case side1 => exact Kd.C_below HR3.out (by repeat (first | (with_reducible first | exact HB.out | apply below_alloc | apply pw_below_drewN | apply below_drew1 | refine below_set ?_ GE143.out | refine below_set ?_ GE149.out) | exact HB.out))); (case side2 => exact HC3.out); rintro e w' ⟨rfl, ⟨nd, rfl⟩⟩; refine ⟨_, rfl, ?_⟩))
                              go_meet
                              case rel => exact ⟨_, (decide (x14_32 > 0)), (by first | rfl | (simp; done) | (simp [*]; done)), H', ⟨by have := HJ5.out; have := HK2.out; have := HJ21.out; have := HJ28.out; have := HJ32.out; first | omega | exact Nat.le_refl _⟩, ⟨by (with_reducible repeat (first | refine blk_drewN ?_ _ | refine blk_drew ?_ | refine blk_alloc ?_ _)); refine blk_far ?_ NB143_149.out _; (with_reducible repeat (first | refine blk_drewN ?_ _ | refine blk_drew ?_ | refine blk_alloc ?_ _)); exact BK143.out⟩, ⟨by (with_reducible repeat (first | refine blk_drewN ?_ _ | refine blk_drew ?_ | refine blk_alloc ?_ _)); refine blk_put (cs := #[.int .i64 x150000_2, .int .i64 x150001_2, .int .i64 x150002_2, .int .i64 (wrap64 (x150003_2 + 1)), .bool false]) ?_ 2 _ rfl; (with_reducible repeat (first | refine blk_drewN ?_ _ | refine blk_drew ?_ | refine blk_alloc ?_ _)); exact BK149.out⟩, ⟨by repeat (first | (with_reducible first | exact HB.out | apply below_alloc | apply pw_below_drewN | apply below_drew1 | refine below_set ?_ GE143.out | refine below_set ?_ GE149.out) | exact HB.out)⟩, ⟨(by (with_reducible repeat (first | refine bset_drewN ?_ _ | refine bset_drew ?_ | refine bset_set ?_ NE15_149.out _ | refine bset_set ?_ NE15_143.out _)); exact HM15.out)⟩, ⟨(by (with_reducible repeat (first | refine bset_drewN ?_ _ | refine bset_drew ?_ | refine bset_set ?_ NE16_149.out _ | refine bset_set ?_ NE16_143.out _)); exact HM16.out)⟩⟩
                            · replace c40 := Bool.eq_false_iff.mpr c40
                              subst c40
                              have H1 : (impl_RunCredits.j5 kj32 a1 a2 l3 a4 x13_28 x14_32 x15_2 x16_2 x150003_2 false x150000_2 x150001_2 ji35 (wrap64 (x150003_2 + 1)) false) = some (r1, r2, r3, r4, r5, r6) := by rw [if_neg (show ¬ (false = true) by decide)] at H; exact H
                              clear H
                              have H := H1
                              clear H1
                              have H' := Aside0.mk H
                              clear H
                              go_wp2_with (first | ((with_reducible refine gate_callee (f := 34) rfl ?_); refine goesL_ (some 82) rfl rfl Try.func34 (by kernel_rfl) rfl #[.slice A3 l3.length c3, .int .i64 x150003_2] rfl (by (try simp only [List.map_toArray, List.map_cons, List.map_nil]); first | done | rfl | (simp only [List.length_drop, List.length_take]; rfl)) ?_; (with_reducible refine (impl_isOpen.calls _ _ l3 x150003_2 false _ ?side1 ?side2 A39.out).mono ?_); (case side1 => exact Kd.C_below HR3.out (by repeat (first | (with_reducible first | exact HB.out | apply below_alloc | apply pw_below_drewN | apply below_drew1 | refine below_set ?_ GE143.out | refine below_set ?_ GE149.out) | exact HB.out))); (case side2 => exact HC3.out); rintro e w' ⟨rfl, ⟨nd, rfl⟩⟩; refine ⟨_, rfl, ?_⟩))
                              go_meet
                              case rel => exact ⟨_, (false), (by first | rfl | (simp; done) | (simp [*]; done)), H', ⟨by have := HJ5.out; have := HK2.out; have := HJ21.out; have := HJ28.out; have := HJ32.out; first | omega | exact Nat.le_refl _⟩, ⟨by (with_reducible repeat (first | refine blk_drewN ?_ _ | refine blk_drew ?_ | refine blk_alloc ?_ _)); refine blk_far ?_ NB143_149.out _; (with_reducible repeat (first | refine blk_drewN ?_ _ | refine blk_drew ?_ | refine blk_alloc ?_ _)); exact BK143.out⟩, ⟨by (with_reducible repeat (first | refine blk_drewN ?_ _ | refine blk_drew ?_ | refine blk_alloc ?_ _)); refine blk_put (cs := #[.int .i64 x150000_2, .int .i64 x150001_2, .int .i64 x150002_2, .int .i64 (wrap64 (x150003_2 + 1)), .bool false]) ?_ 2 _ rfl; (with_reducible repeat (first | refine blk_drewN ?_ _ | refine blk_drew ?_ | refine blk_alloc ?_ _)); exact BK149.out⟩, ⟨by repeat (first | (with_reducible first | exact HB.out | apply below_alloc | apply pw_below_drewN | apply below_drew1 | refine below_set ?_ GE143.out | refine below_set ?_ GE149.out) | exact HB.out)⟩, ⟨(by (with_reducible repeat (first | refine bset_drewN ?_ _ | refine bset_drew ?_ | refine bset_set ?_ NE15_149.out _ | refine bset_set ?_ NE15_143.out _)); exact HM15.out)⟩, ⟨(by (with_reducible repeat (first | refine bset_drewN ?_ _ | refine bset_drew ?_ | refine bset_set ?_ NE16_149.out _ | refine bset_set ?_ NE16_143.out _)); exact HM16.out)⟩⟩
                          case rest =>
                            clear HC36
                            try clear c1
                            try clear c2
                            try clear p2
                            try clear c3
                            try clear c4
                            try clear p6
                            try clear c9
                            try clear c11
                            try clear c13
                            try clear c15
                            try clear c19
                            try clear c23
                            try clear c23b0
                            try clear c24
                            try clear c26
                            try clear c28
                            try clear c29
                            try clear c30
                            try clear c32
                            try clear c32b0
                            try clear c32b1
                            try clear c34
                            try clear c34b0
                            try clear c34b1
                            try clear c37
                            try clear c40
                            try clear hcz20_0
                            try clear hcz20_1
                            try clear hcz20_2
                            try clear hcz20_3
                            try clear hcz20_4
                            try clear hcz25_0
                            try clear hcz25_1
                            try clear hcz25_2
                            try clear hcz25_3
                            try clear hcz25_4
                            try clear hcz27_0
                            try clear hcz27_1
                            try clear hcz27_2
                            try clear hcz27_3
                            try clear hcz27_4
                            try clear hcz31_0
                            try clear hcz31_1
                            try clear hcz31_2
                            try clear hcz31_3
                            try clear hcz31_4
                            try clear hcz38_0
                            try clear hcz38_1
                            try clear hcz38_2
                            try clear hcz38_3
                            try clear hcz38_4
                            try clear hfz20_0
                            try clear hfz20_1
                            try clear hfz20_2
                            try clear hfz20_3
                            try clear hfz20_4
                            try clear hfz25_0
                            try clear hfz25_1
                            try clear hfz25_2
                            try clear hfz25_3
                            try clear hfz25_4
                            try clear hfz27_0
                            try clear hfz27_1
                            try clear hfz27_2
                            try clear hfz27_3
                            try clear hfz27_4
                            try clear hfz31_0
                            try clear hfz31_1
                            try clear hfz31_2
                            try clear hfz31_3
                            try clear hfz31_4
                            try clear hfz38_0
                            try clear hfz38_1
                            try clear hfz38_2
                            try clear hfz38_3
                            try clear hfz38_4
                            try clear p2
                            try clear p6
                            obtain ⟨kq, x86_35, rfl, HA, HJ35, BK143, BK149, HB, HM15, HM16⟩ := hcut
                            cases kq with
                            | zero => exact absurd HA.out (by simp [impl_RunCredits.j5])
                            | succ kj35 =>
                              have H := HA.out
                              clear HA
                              simp only [impl_RunCredits.j5] at H
                              by_cases c41 : x86_35 = true
                              · subst c41
                                have H1 : (if x13_28 > 0 then (if x150000_2 < a2 then (impl_RunCredits.l0 kj35 a1 a2 l3 a4 (wrap64 (x13_28 - 1)) (wrap64 (x14_32 - 1)) (x15_2 ++ [x150003_2]) (x16_2 ++ [x150003_2]) (wrap64 (x150000_2 + 1)) (wrap64 (x150001_2 + 1)) ji35 (wrap64 (x150003_2 + 1)) false) else (impl_RunCredits.l0 kj35 a1 a2 l3 a4 x13_28 (wrap64 (x14_32 - 1)) x15_2 (x16_2 ++ [x150003_2]) x150000_2 (wrap64 (x150001_2 + 1)) ji35 (wrap64 (x150003_2 + 1)) false)) else (impl_RunCredits.l0 kj35 a1 a2 l3 a4 x13_28 (wrap64 (x14_32 - 1)) x15_2 (x16_2 ++ [x150003_2]) x150000_2 (wrap64 (x150001_2 + 1)) ji35 (wrap64 (x150003_2 + 1)) false)) = some (r1, r2, r3, r4, r5, r6) := by rw [if_pos rfl] at H; exact H
                                clear H
                                have H := H1
                                clear H1
                                by_cases c42 : x13_28 > 0
                                · rw [if_pos c42] at H
                                  have c42b0 : decide (0 < x13_28) = true := decide_eq_true c42
                                  clear c42
                                  by_cases c43 : x150000_2 < a2
                                  · rw [if_pos c43] at H
                                    have c43b0 : decide (x150000_2 < a2) = true := decide_eq_true c43
                                    clear c43
                                    have H' := Aside0.mk H
                                    clear H
                                    have hnb44 := NB149_143.out
                                    have hnc44 := NB143_149.out
                                    have hcz45_0 : wc.cell? ⟨gb149, 0, none⟩ = some (.int .i64 x150000_2) := (blk_cell BK149.out 0).trans rfl
                                    have hcz45_1 : wc.cell? ⟨gb149, 1, none⟩ = some (.int .i64 x150001_2) := (blk_cell BK149.out 1).trans rfl
                                    have hcz45_2 : wc.cell? ⟨gb149, 2, none⟩ = some (.int .i64 ji35) := (blk_cell BK149.out 2).trans rfl
                                    have hcz45_3 : wc.cell? ⟨gb149, 3, none⟩ = some (.int .i64 (wrap64 (x150003_2 + 1))) := (blk_cell BK149.out 3).trans rfl
                                    have hcz45_4 : wc.cell? ⟨gb149, 4, none⟩ = some (.bool false) := (blk_cell BK149.out 4).trans rfl
                                    have hfz45_0 := blk_frozen BK149.out 0
                                    have hfz45_1 := blk_frozen BK149.out 1
                                    have hfz45_2 := blk_frozen BK149.out 2
                                    have hfz45_3 := blk_frozen BK149.out 3
                                    have hfz45_4 := blk_frozen BK149.out 4
                                    go_wp2_with (first | ((at_mapUpdate); refine wpList_mapUpdate_bset _ rfl (.tmp 93) (.tmp 94) _ 53 rfl 3 4 (Go.Maps.int_keyed Try.underlying3) Try.underlying53 Try.underlying3 Try.underlying4 gb16 x16_2 rfl (by (with_reducible repeat (first | refine bset_drewN ?_ _ | refine bset_drew ?_ | refine bset_set ?_ NE16_149.out _ | refine bset_set ?_ NE16_143.out _)); exact HM16.out) (by have := LM16.out; unfold maxLen; omega) x150003_2 rfl rfl WF3.out ?_; intro wm16 hm hg; have n0_ := Aside0.mk (show wm16.heap[gb143]? = some (.cells #[.int .i64 0, .int .i64 0, .int .i64 0, .int .i64 0, .bool false] 37 (0, 0)) from blk_grown (by (with_reducible repeat (first | refine blk_drewN ?_ _ | refine blk_drew ?_ | refine blk_alloc ?_ _)); refine blk_far ?_ NB143_149.out _; (with_reducible repeat (first | refine blk_drewN ?_ _ | refine blk_drew ?_ | refine blk_alloc ?_ _)); exact BK143.out) hg (fun e_ => NE16_143.out (Option.some.inj e_).symm)); have n1_ := Aside0.mk (show wm16.heap[gb149]? = some (.cells #[.int .i64 x150000_2, .int .i64 (wrap64 (x150001_2 + 1)), .int .i64 ji35, .int .i64 (wrap64 (x150003_2 + 1)), .bool false] 37 (0, 0)) from blk_grown (by (with_reducible repeat (first | refine blk_drewN ?_ _ | refine blk_drew ?_ | refine blk_alloc ?_ _)); refine blk_put (cs := #[.int .i64 x150000_2, .int .i64 x150001_2, .int .i64 ji35, .int .i64 (wrap64 (x150003_2 + 1)), .bool false]) ?_ 1 _ rfl; (with_reducible repeat (first | refine blk_drewN ?_ _ | refine blk_drew ?_ | refine blk_alloc ?_ _)); exact BK149.out) hg (fun e_ => NE16_149.out (Option.some.inj e_).symm)); have n2_ := Aside0.mk (pw_below_grown (by repeat (first | (with_reducible first | exact HB.out | apply below_alloc | apply pw_below_drewN | apply below_drew1 | refine below_set ?_ GE143.out | refine below_set ?_ GE149.out) | exact HB.out)) _ (below_size (by repeat (first | (with_reducible first | exact HB.out | apply below_alloc | apply pw_below_drewN | apply below_drew1 | refine below_set ?_ GE143.out | refine below_set ?_ GE149.out) | exact HB.out))) hg (fun k_ e_ => by cases e_; exact GE16.out)); have n3_ := Aside0.mk (show bset wm16 Try.prog 3 4 gb15 x15_2 from bset_kept (by (with_reducible repeat (first | refine bset_drewN ?_ _ | refine bset_drew ?_ | refine bset_set ?_ NE15_149.out _ | refine bset_set ?_ NE15_143.out _)); exact HM15.out) hg (fun e_ => NE15_16.out (Option.some.inj e_))); have n4_ := Aside0.mk hm; clear BK143 BK149 HB HM15 HM16; have BK143 := n0_; have BK149 := n1_; have HB := n2_; have HM15 := n3_; have HM16 := n4_; clear n0_ n1_ n2_ n3_ n4_ hm hg; have kz0 := (blk_cell BK149.out 0).trans (show _ = some (.int .i64 x150000_2) from rfl); have kf0 := blk_frozen BK149.out 0; have kz1 := (blk_cell BK149.out 1).trans (show _ = some (.int .i64 (wrap64 (x150001_2 + 1))) from rfl); have kf1 := blk_frozen BK149.out 1; have kz2 := (blk_cell BK149.out 2).trans (show _ = some (.int .i64 ji35) from rfl); have kf2 := blk_frozen BK149.out 2; have kz3 := (blk_cell BK149.out 3).trans (show _ = some (.int .i64 (wrap64 (x150003_2 + 1))) from rfl); have kf3 := blk_frozen BK149.out 3; have kz4 := (blk_cell BK149.out 4).trans (show _ = some (.bool false) from rfl); have kf4 := blk_frozen BK149.out 4) | ((at_mapUpdate); refine wpList_mapUpdate_bset _ rfl (.tmp 109) (.tmp 110) _ 53 rfl 3 4 (Go.Maps.int_keyed Try.underlying3) Try.underlying53 Try.underlying3 Try.underlying4 gb15 x15_2 rfl (by (with_reducible repeat (first | refine bset_drewN ?_ _ | refine bset_drew ?_ | refine bset_set ?_ NE15_149.out _ | refine bset_set ?_ NE15_143.out _)); exact HM15.out) (by have := LM15.out; unfold maxLen; omega) x150003_2 rfl rfl WF3.out ?_; intro wm15 hm hg; have n0_ := Aside0.mk (show wm15.heap[gb143]? = some (.cells #[.int .i64 0, .int .i64 0, .int .i64 0, .int .i64 0, .bool false] 37 (0, 0)) from blk_grown (by (with_reducible repeat (first | refine blk_drewN ?_ _ | refine blk_drew ?_ | refine blk_alloc ?_ _)); refine blk_far ?_ NB143_149.out _; (with_reducible repeat (first | refine blk_drewN ?_ _ | refine blk_drew ?_ | refine blk_alloc ?_ _)); exact BK143.out) hg (fun e_ => NE15_143.out (Option.some.inj e_).symm)); have n1_ := Aside0.mk (show wm15.heap[gb149]? = some (.cells #[.int .i64 (wrap64 (x150000_2 + 1)), .int .i64 (wrap64 (x150001_2 + 1)), .int .i64 ji35, .int .i64 (wrap64 (x150003_2 + 1)), .bool false] 37 (0, 0)) from blk_grown (by (with_reducible repeat (first | refine blk_drewN ?_ _ | refine blk_drew ?_ | refine blk_alloc ?_ _)); refine blk_put (cs := #[.int .i64 x150000_2, .int .i64 (wrap64 (x150001_2 + 1)), .int .i64 ji35, .int .i64 (wrap64 (x150003_2 + 1)), .bool false]) ?_ 0 _ rfl; (with_reducible repeat (first | refine blk_drewN ?_ _ | refine blk_drew ?_ | refine blk_alloc ?_ _)); exact BK149.out) hg (fun e_ => NE15_149.out (Option.some.inj e_).symm)); have n2_ := Aside0.mk (pw_below_grown (by repeat (first | (with_reducible first | exact HB.out | apply below_alloc | apply pw_below_drewN | apply below_drew1 | refine below_set ?_ GE143.out | refine below_set ?_ GE149.out) | exact HB.out)) _ (below_size (by repeat (first | (with_reducible first | exact HB.out | apply below_alloc | apply pw_below_drewN | apply below_drew1 | refine below_set ?_ GE143.out | refine below_set ?_ GE149.out) | exact HB.out))) hg (fun k_ e_ => by cases e_; exact GE15.out)); have n3_ := Aside0.mk (show bset wm15 Try.prog 3 4 gb16 (x16_2 ++ [x150003_2]) from bset_kept (by (with_reducible repeat (first | refine bset_drewN ?_ _ | refine bset_drew ?_ | refine bset_set ?_ NE16_149.out _ | refine bset_set ?_ NE16_143.out _)); exact HM16.out) hg (fun e_ => NE15_16.out ((Option.some.inj e_).symm))); have n4_ := Aside0.mk hm; clear BK143 BK149 HB HM15 HM16; have BK143 := n0_; have BK149 := n1_; have HB := n2_; have HM16 := n3_; have HM15 := n4_; clear n0_ n1_ n2_ n3_ n4_ hm hg))
                                    go_roundg kj35
                                    case measure => have := HJ5.out; have := HK2.out; have := HJ21.out; have := HJ28.out; have := HJ32.out; have := HJ35.out; omega
                                    case rel => exact ⟨(wrap64 (x13_28 - 1)), (wrap64 (x14_32 - 1)), (x15_2 ++ [x150003_2]), (x16_2 ++ [x150003_2]), (wrap64 (x150000_2 + 1)), (wrap64 (x150001_2 + 1)), (ji35), ((wrap64 (x150003_2 + 1))), (by first | rfl | (simp; done) | (simp [*]; done)), (by first | rfl | (simp; done) | (simp [*]; done)), H', ⟨by have := HJ5.out; have := HK2.out; have := HJ21.out; have := HJ28.out; have := HJ32.out; have := HJ35.out; omega⟩, ⟨by (with_reducible repeat (first | refine blk_drewN ?_ _ | refine blk_drew ?_ | refine blk_alloc ?_ _)); exact BK143.out⟩, ⟨by (with_reducible repeat (first | refine blk_drewN ?_ _ | refine blk_drew ?_ | refine blk_alloc ?_ _)); exact BK149.out⟩, ⟨by repeat (first | (with_reducible first | exact HB.out | apply below_alloc | apply pw_below_drewN | apply below_drew1 | refine below_set ?_ GE143.out | refine below_set ?_ GE149.out) | exact HB.out)⟩, ⟨(by (with_reducible repeat (first | refine bset_drewN ?_ _ | refine bset_drew ?_ | refine bset_set ?_ NE15_149.out _ | refine bset_set ?_ NE15_143.out _)); exact HM15.out)⟩, ⟨(by (with_reducible repeat (first | refine bset_drewN ?_ _ | refine bset_drew ?_ | refine bset_set ?_ NE16_149.out _ | refine bset_set ?_ NE16_143.out _)); exact HM16.out)⟩, ⟨RowKit.wrap64_wf _⟩⟩
                                  · rw [if_neg c43] at H
                                    have c43b0 : decide (x150000_2 < a2) = false := decide_eq_false c43
                                    clear c43
                                    have H' := Aside0.mk H
                                    clear H
                                    have hnb46 := NB149_143.out
                                    have hnc46 := NB143_149.out
                                    have hcz47_0 : wc.cell? ⟨gb149, 0, none⟩ = some (.int .i64 x150000_2) := (blk_cell BK149.out 0).trans rfl
                                    have hcz47_1 : wc.cell? ⟨gb149, 1, none⟩ = some (.int .i64 x150001_2) := (blk_cell BK149.out 1).trans rfl
                                    have hcz47_2 : wc.cell? ⟨gb149, 2, none⟩ = some (.int .i64 ji35) := (blk_cell BK149.out 2).trans rfl
                                    have hcz47_3 : wc.cell? ⟨gb149, 3, none⟩ = some (.int .i64 (wrap64 (x150003_2 + 1))) := (blk_cell BK149.out 3).trans rfl
                                    have hcz47_4 : wc.cell? ⟨gb149, 4, none⟩ = some (.bool false) := (blk_cell BK149.out 4).trans rfl
                                    have hfz47_0 := blk_frozen BK149.out 0
                                    have hfz47_1 := blk_frozen BK149.out 1
                                    have hfz47_2 := blk_frozen BK149.out 2
                                    have hfz47_3 := blk_frozen BK149.out 3
                                    have hfz47_4 := blk_frozen BK149.out 4
                                    go_wp2_with (first | ((at_mapUpdate); refine wpList_mapUpdate_bset _ rfl (.tmp 93) (.tmp 94) _ 53 rfl 3 4 (Go.Maps.int_keyed Try.underlying3) Try.underlying53 Try.underlying3 Try.underlying4 gb16 x16_2 rfl (by (with_reducible repeat (first | refine bset_drewN ?_ _ | refine bset_drew ?_ | refine bset_set ?_ NE16_149.out _ | refine bset_set ?_ NE16_143.out _)); exact HM16.out) (by have := LM16.out; unfold maxLen; omega) x150003_2 rfl rfl WF3.out ?_; intro wm16 hm hg; have n0_ := Aside0.mk (show wm16.heap[gb143]? = some (.cells #[.int .i64 0, .int .i64 0, .int .i64 0, .int .i64 0, .bool false] 37 (0, 0)) from blk_grown (by (with_reducible repeat (first | refine blk_drewN ?_ _ | refine blk_drew ?_ | refine blk_alloc ?_ _)); refine blk_far ?_ NB143_149.out _; (with_reducible repeat (first | refine blk_drewN ?_ _ | refine blk_drew ?_ | refine blk_alloc ?_ _)); exact BK143.out) hg (fun e_ => NE16_143.out (Option.some.inj e_).symm)); have n1_ := Aside0.mk (show wm16.heap[gb149]? = some (.cells #[.int .i64 x150000_2, .int .i64 (wrap64 (x150001_2 + 1)), .int .i64 ji35, .int .i64 (wrap64 (x150003_2 + 1)), .bool false] 37 (0, 0)) from blk_grown (by (with_reducible repeat (first | refine blk_drewN ?_ _ | refine blk_drew ?_ | refine blk_alloc ?_ _)); refine blk_put (cs := #[.int .i64 x150000_2, .int .i64 x150001_2, .int .i64 ji35, .int .i64 (wrap64 (x150003_2 + 1)), .bool false]) ?_ 1 _ rfl; (with_reducible repeat (first | refine blk_drewN ?_ _ | refine blk_drew ?_ | refine blk_alloc ?_ _)); exact BK149.out) hg (fun e_ => NE16_149.out (Option.some.inj e_).symm)); have n2_ := Aside0.mk (pw_below_grown (by repeat (first | (with_reducible first | exact HB.out | apply below_alloc | apply pw_below_drewN | apply below_drew1 | refine below_set ?_ GE143.out | refine below_set ?_ GE149.out) | exact HB.out)) _ (below_size (by repeat (first | (with_reducible first | exact HB.out | apply below_alloc | apply pw_below_drewN | apply below_drew1 | refine below_set ?_ GE143.out | refine below_set ?_ GE149.out) | exact HB.out))) hg (fun k_ e_ => by cases e_; exact GE16.out)); have n3_ := Aside0.mk (show bset wm16 Try.prog 3 4 gb15 x15_2 from bset_kept (by (with_reducible repeat (first | refine bset_drewN ?_ _ | refine bset_drew ?_ | refine bset_set ?_ NE15_149.out _ | refine bset_set ?_ NE15_143.out _)); exact HM15.out) hg (fun e_ => NE15_16.out (Option.some.inj e_))); have n4_ := Aside0.mk hm; clear BK143 BK149 HB HM15 HM16; have BK143 := n0_; have BK149 := n1_; have HB := n2_; have HM15 := n3_; have HM16 := n4_; clear n0_ n1_ n2_ n3_ n4_ hm hg; have kz0 := (blk_cell BK149.out 0).trans (show _ = some (.int .i64 x150000_2) from rfl); have kf0 := blk_frozen BK149.out 0; have kz1 := (blk_cell BK149.out 1).trans (show _ = some (.int .i64 (wrap64 (x150001_2 + 1))) from rfl); have kf1 := blk_frozen BK149.out 1; have kz2 := (blk_cell BK149.out 2).trans (show _ = some (.int .i64 ji35) from rfl); have kf2 := blk_frozen BK149.out 2; have kz3 := (blk_cell BK149.out 3).trans (show _ = some (.int .i64 (wrap64 (x150003_2 + 1))) from rfl); have kf3 := blk_frozen BK149.out 3; have kz4 := (blk_cell BK149.out 4).trans (show _ = some (.bool false) from rfl); have kf4 := blk_frozen BK149.out 4))
                                    go_roundg kj35
                                    case measure => have := HJ5.out; have := HK2.out; have := HJ21.out; have := HJ28.out; have := HJ32.out; have := HJ35.out; omega
                                    case rel => exact ⟨(x13_28), (wrap64 (x14_32 - 1)), (x15_2), (x16_2 ++ [x150003_2]), (x150000_2), (wrap64 (x150001_2 + 1)), (ji35), ((wrap64 (x150003_2 + 1))), (by first | rfl | (simp; done) | (simp [*]; done)), (by first | rfl | (simp; done) | (simp [*]; done)), H', ⟨by have := HJ5.out; have := HK2.out; have := HJ21.out; have := HJ28.out; have := HJ32.out; have := HJ35.out; omega⟩, ⟨by (with_reducible repeat (first | refine blk_drewN ?_ _ | refine blk_drew ?_ | refine blk_alloc ?_ _)); exact BK143.out⟩, ⟨by (with_reducible repeat (first | refine blk_drewN ?_ _ | refine blk_drew ?_ | refine blk_alloc ?_ _)); exact BK149.out⟩, ⟨by repeat (first | (with_reducible first | exact HB.out | apply below_alloc | apply pw_below_drewN | apply below_drew1 | refine below_set ?_ GE143.out | refine below_set ?_ GE149.out) | exact HB.out)⟩, ⟨(by (with_reducible repeat (first | refine bset_drewN ?_ _ | refine bset_drew ?_ | refine bset_set ?_ NE15_149.out _ | refine bset_set ?_ NE15_143.out _)); exact HM15.out)⟩, ⟨(by (with_reducible repeat (first | refine bset_drewN ?_ _ | refine bset_drew ?_ | refine bset_set ?_ NE16_149.out _ | refine bset_set ?_ NE16_143.out _)); exact HM16.out)⟩, ⟨RowKit.wrap64_wf _⟩⟩
                                · rw [if_neg c42] at H
                                  have c42b0 : decide (0 < x13_28) = false := decide_eq_false c42
                                  clear c42
                                  have H' := Aside0.mk H
                                  clear H
                                  have hnb48 := NB149_143.out
                                  have hnc48 := NB143_149.out
                                  have hcz49_0 : wc.cell? ⟨gb149, 0, none⟩ = some (.int .i64 x150000_2) := (blk_cell BK149.out 0).trans rfl
                                  have hcz49_1 : wc.cell? ⟨gb149, 1, none⟩ = some (.int .i64 x150001_2) := (blk_cell BK149.out 1).trans rfl
                                  have hcz49_2 : wc.cell? ⟨gb149, 2, none⟩ = some (.int .i64 ji35) := (blk_cell BK149.out 2).trans rfl
                                  have hcz49_3 : wc.cell? ⟨gb149, 3, none⟩ = some (.int .i64 (wrap64 (x150003_2 + 1))) := (blk_cell BK149.out 3).trans rfl
                                  have hcz49_4 : wc.cell? ⟨gb149, 4, none⟩ = some (.bool false) := (blk_cell BK149.out 4).trans rfl
                                  have hfz49_0 := blk_frozen BK149.out 0
                                  have hfz49_1 := blk_frozen BK149.out 1
                                  have hfz49_2 := blk_frozen BK149.out 2
                                  have hfz49_3 := blk_frozen BK149.out 3
                                  have hfz49_4 := blk_frozen BK149.out 4
                                  go_wp2_with (first | ((at_mapUpdate); refine wpList_mapUpdate_bset _ rfl (.tmp 93) (.tmp 94) _ 53 rfl 3 4 (Go.Maps.int_keyed Try.underlying3) Try.underlying53 Try.underlying3 Try.underlying4 gb16 x16_2 rfl (by (with_reducible repeat (first | refine bset_drewN ?_ _ | refine bset_drew ?_ | refine bset_set ?_ NE16_149.out _ | refine bset_set ?_ NE16_143.out _)); exact HM16.out) (by have := LM16.out; unfold maxLen; omega) x150003_2 rfl rfl WF3.out ?_; intro wm16 hm hg; have n0_ := Aside0.mk (show wm16.heap[gb143]? = some (.cells #[.int .i64 0, .int .i64 0, .int .i64 0, .int .i64 0, .bool false] 37 (0, 0)) from blk_grown (by (with_reducible repeat (first | refine blk_drewN ?_ _ | refine blk_drew ?_ | refine blk_alloc ?_ _)); refine blk_far ?_ NB143_149.out _; (with_reducible repeat (first | refine blk_drewN ?_ _ | refine blk_drew ?_ | refine blk_alloc ?_ _)); exact BK143.out) hg (fun e_ => NE16_143.out (Option.some.inj e_).symm)); have n1_ := Aside0.mk (show wm16.heap[gb149]? = some (.cells #[.int .i64 x150000_2, .int .i64 (wrap64 (x150001_2 + 1)), .int .i64 ji35, .int .i64 (wrap64 (x150003_2 + 1)), .bool false] 37 (0, 0)) from blk_grown (by (with_reducible repeat (first | refine blk_drewN ?_ _ | refine blk_drew ?_ | refine blk_alloc ?_ _)); refine blk_put (cs := #[.int .i64 x150000_2, .int .i64 x150001_2, .int .i64 ji35, .int .i64 (wrap64 (x150003_2 + 1)), .bool false]) ?_ 1 _ rfl; (with_reducible repeat (first | refine blk_drewN ?_ _ | refine blk_drew ?_ | refine blk_alloc ?_ _)); exact BK149.out) hg (fun e_ => NE16_149.out (Option.some.inj e_).symm)); have n2_ := Aside0.mk (pw_below_grown (by repeat (first | (with_reducible first | exact HB.out | apply below_alloc | apply pw_below_drewN | apply below_drew1 | refine below_set ?_ GE143.out | refine below_set ?_ GE149.out) | exact HB.out)) _ (below_size (by repeat (first | (with_reducible first | exact HB.out | apply below_alloc | apply pw_below_drewN | apply below_drew1 | refine below_set ?_ GE143.out | refine below_set ?_ GE149.out) | exact HB.out))) hg (fun k_ e_ => by cases e_; exact GE16.out)); have n3_ := Aside0.mk (show bset wm16 Try.prog 3 4 gb15 x15_2 from bset_kept (by (with_reducible repeat (first | refine bset_drewN ?_ _ | refine bset_drew ?_ | refine bset_set ?_ NE15_149.out _ | refine bset_set ?_ NE15_143.out _)); exact HM15.out) hg (fun e_ => NE15_16.out (Option.some.inj e_))); have n4_ := Aside0.mk hm; clear BK143 BK149 HB HM15 HM16; have BK143 := n0_; have BK149 := n1_; have HB := n2_; have HM15 := n3_; have HM16 := n4_; clear n0_ n1_ n2_ n3_ n4_ hm hg; have kz0 := (blk_cell BK149.out 0).trans (show _ = some (.int .i64 x150000_2) from rfl); have kf0 := blk_frozen BK149.out 0; have kz1 := (blk_cell BK149.out 1).trans (show _ = some (.int .i64 (wrap64 (x150001_2 + 1))) from rfl); have kf1 := blk_frozen BK149.out 1; have kz2 := (blk_cell BK149.out 2).trans (show _ = some (.int .i64 ji35) from rfl); have kf2 := blk_frozen BK149.out 2; have kz3 := (blk_cell BK149.out 3).trans (show _ = some (.int .i64 (wrap64 (x150003_2 + 1))) from rfl); have kf3 := blk_frozen BK149.out 3; have kz4 := (blk_cell BK149.out 4).trans (show _ = some (.bool false) from rfl); have kf4 := blk_frozen BK149.out 4))
                                  go_roundg kj35
                                  case measure => have := HJ5.out; have := HK2.out; have := HJ21.out; have := HJ28.out; have := HJ32.out; have := HJ35.out; omega
                                  case rel => exact ⟨(x13_28), (wrap64 (x14_32 - 1)), (x15_2), (x16_2 ++ [x150003_2]), (x150000_2), (wrap64 (x150001_2 + 1)), (ji35), ((wrap64 (x150003_2 + 1))), (by first | rfl | (simp; done) | (simp [*]; done)), (by first | rfl | (simp; done) | (simp [*]; done)), H', ⟨by have := HJ5.out; have := HK2.out; have := HJ21.out; have := HJ28.out; have := HJ32.out; have := HJ35.out; omega⟩, ⟨by (with_reducible repeat (first | refine blk_drewN ?_ _ | refine blk_drew ?_ | refine blk_alloc ?_ _)); exact BK143.out⟩, ⟨by (with_reducible repeat (first | refine blk_drewN ?_ _ | refine blk_drew ?_ | refine blk_alloc ?_ _)); exact BK149.out⟩, ⟨by repeat (first | (with_reducible first | exact HB.out | apply below_alloc | apply pw_below_drewN | apply below_drew1 | refine below_set ?_ GE143.out | refine below_set ?_ GE149.out) | exact HB.out)⟩, ⟨(by (with_reducible repeat (first | refine bset_drewN ?_ _ | refine bset_drew ?_ | refine bset_set ?_ NE15_149.out _ | refine bset_set ?_ NE15_143.out _)); exact HM15.out)⟩, ⟨(by (with_reducible repeat (first | refine bset_drewN ?_ _ | refine bset_drew ?_ | refine bset_set ?_ NE16_149.out _ | refine bset_set ?_ NE16_143.out _)); exact HM16.out)⟩, ⟨RowKit.wrap64_wf _⟩⟩
                              · replace c41 := Bool.eq_false_iff.mpr c41
                                subst c41
                                have H1 : (if x13_28 > 0 then (if x150000_2 < a2 then (impl_RunCredits.l0 kj35 a1 a2 l3 a4 (wrap64 (x13_28 - 1)) x14_32 (x15_2 ++ [x150003_2]) x16_2 (wrap64 (x150000_2 + 1)) x150001_2 ji35 (wrap64 (x150003_2 + 1)) false) else (impl_RunCredits.l0 kj35 a1 a2 l3 a4 x13_28 x14_32 x15_2 x16_2 x150000_2 x150001_2 ji35 (wrap64 (x150003_2 + 1)) false)) else (impl_RunCredits.l0 kj35 a1 a2 l3 a4 x13_28 x14_32 x15_2 x16_2 x150000_2 x150001_2 ji35 (wrap64 (x150003_2 + 1)) false)) = some (r1, r2, r3, r4, r5, r6) := by rw [if_neg (show ¬ (false = true) by decide)] at H; exact H
                                clear H
                                have H := H1
                                clear H1
                                by_cases c50 : x13_28 > 0
                                · rw [if_pos c50] at H
                                  have c50b0 : decide (0 < x13_28) = true := decide_eq_true c50
                                  clear c50
                                  by_cases c51 : x150000_2 < a2
                                  · rw [if_pos c51] at H
                                    have c51b0 : decide (x150000_2 < a2) = true := decide_eq_true c51
                                    clear c51
                                    have H' := Aside0.mk H
                                    clear H
                                    have hnb52 := NB149_143.out
                                    have hnc52 := NB143_149.out
                                    have hcz53_0 : wc.cell? ⟨gb149, 0, none⟩ = some (.int .i64 x150000_2) := (blk_cell BK149.out 0).trans rfl
                                    have hcz53_1 : wc.cell? ⟨gb149, 1, none⟩ = some (.int .i64 x150001_2) := (blk_cell BK149.out 1).trans rfl
                                    have hcz53_2 : wc.cell? ⟨gb149, 2, none⟩ = some (.int .i64 ji35) := (blk_cell BK149.out 2).trans rfl
                                    have hcz53_3 : wc.cell? ⟨gb149, 3, none⟩ = some (.int .i64 (wrap64 (x150003_2 + 1))) := (blk_cell BK149.out 3).trans rfl
                                    have hcz53_4 : wc.cell? ⟨gb149, 4, none⟩ = some (.bool false) := (blk_cell BK149.out 4).trans rfl
                                    have hfz53_0 := blk_frozen BK149.out 0
                                    have hfz53_1 := blk_frozen BK149.out 1
                                    have hfz53_2 := blk_frozen BK149.out 2
                                    have hfz53_3 := blk_frozen BK149.out 3
                                    have hfz53_4 := blk_frozen BK149.out 4
                                    go_wp2_with (first | ((at_mapUpdate); refine wpList_mapUpdate_bset _ rfl (.tmp 109) (.tmp 110) _ 53 rfl 3 4 (Go.Maps.int_keyed Try.underlying3) Try.underlying53 Try.underlying3 Try.underlying4 gb15 x15_2 rfl (by (with_reducible repeat (first | refine bset_drewN ?_ _ | refine bset_drew ?_ | refine bset_set ?_ NE15_149.out _ | refine bset_set ?_ NE15_143.out _)); exact HM15.out) (by have := LM15.out; unfold maxLen; omega) x150003_2 rfl rfl WF3.out ?_; intro wm15 hm hg; have n0_ := Aside0.mk (show wm15.heap[gb143]? = some (.cells #[.int .i64 0, .int .i64 0, .int .i64 0, .int .i64 0, .bool false] 37 (0, 0)) from blk_grown (by (with_reducible repeat (first | refine blk_drewN ?_ _ | refine blk_drew ?_ | refine blk_alloc ?_ _)); refine blk_far ?_ NB143_149.out _; (with_reducible repeat (first | refine blk_drewN ?_ _ | refine blk_drew ?_ | refine blk_alloc ?_ _)); exact BK143.out) hg (fun e_ => NE15_143.out (Option.some.inj e_).symm)); have n1_ := Aside0.mk (show wm15.heap[gb149]? = some (.cells #[.int .i64 (wrap64 (x150000_2 + 1)), .int .i64 x150001_2, .int .i64 ji35, .int .i64 (wrap64 (x150003_2 + 1)), .bool false] 37 (0, 0)) from blk_grown (by (with_reducible repeat (first | refine blk_drewN ?_ _ | refine blk_drew ?_ | refine blk_alloc ?_ _)); refine blk_put (cs := #[.int .i64 x150000_2, .int .i64 x150001_2, .int .i64 ji35, .int .i64 (wrap64 (x150003_2 + 1)), .bool false]) ?_ 0 _ rfl; (with_reducible repeat (first | refine blk_drewN ?_ _ | refine blk_drew ?_ | refine blk_alloc ?_ _)); exact BK149.out) hg (fun e_ => NE15_149.out (Option.some.inj e_).symm)); have n2_ := Aside0.mk (pw_below_grown (by repeat (first | (with_reducible first | exact HB.out | apply below_alloc | apply pw_below_drewN | apply below_drew1 | refine below_set ?_ GE143.out | refine below_set ?_ GE149.out) | exact HB.out)) _ (below_size (by repeat (first | (with_reducible first | exact HB.out | apply below_alloc | apply pw_below_drewN | apply below_drew1 | refine below_set ?_ GE143.out | refine below_set ?_ GE149.out) | exact HB.out))) hg (fun k_ e_ => by cases e_; exact GE15.out)); have n3_ := Aside0.mk (show bset wm15 Try.prog 3 4 gb16 x16_2 from bset_kept (by (with_reducible repeat (first | refine bset_drewN ?_ _ | refine bset_drew ?_ | refine bset_set ?_ NE16_149.out _ | refine bset_set ?_ NE16_143.out _)); exact HM16.out) hg (fun e_ => NE15_16.out ((Option.some.inj e_).symm))); have n4_ := Aside0.mk hm; clear BK143 BK149 HB HM15 HM16; have BK143 := n0_; have BK149 := n1_; have HB := n2_; have HM16 := n3_; have HM15 := n4_; clear n0_ n1_ n2_ n3_ n4_ hm hg))
                                    go_roundg kj35
                                    case measure => have := HJ5.out; have := HK2.out; have := HJ21.out; have := HJ28.out; have := HJ32.out; have := HJ35.out; omega
                                    case rel => exact ⟨(wrap64 (x13_28 - 1)), (x14_32), (x15_2 ++ [x150003_2]), (x16_2), (wrap64 (x150000_2 + 1)), (x150001_2), (ji35), ((wrap64 (x150003_2 + 1))), (by first | rfl | (simp; done) | (simp [*]; done)), (by first | rfl | (simp; done) | (simp [*]; done)), H', ⟨by have := HJ5.out; have := HK2.out; have := HJ21.out; have := HJ28.out; have := HJ32.out; have := HJ35.out; omega⟩, ⟨by (with_reducible repeat (first | refine blk_drewN ?_ _ | refine blk_drew ?_ | refine blk_alloc ?_ _)); exact BK143.out⟩, ⟨by (with_reducible repeat (first | refine blk_drewN ?_ _ | refine blk_drew ?_ | refine blk_alloc ?_ _)); exact BK149.out⟩, ⟨by repeat (first | (with_reducible first | exact HB.out | apply below_alloc | apply pw_below_drewN | apply below_drew1 | refine below_set ?_ GE143.out | refine below_set ?_ GE149.out) | exact HB.out)⟩, ⟨(by (with_reducible repeat (first | refine bset_drewN ?_ _ | refine bset_drew ?_ | refine bset_set ?_ NE15_149.out _ | refine bset_set ?_ NE15_143.out _)); exact HM15.out)⟩, ⟨(by (with_reducible repeat (first | refine bset_drewN ?_ _ | refine bset_drew ?_ | refine bset_set ?_ NE16_149.out _ | refine bset_set ?_ NE16_143.out _)); exact HM16.out)⟩, ⟨RowKit.wrap64_wf _⟩⟩
                                  · rw [if_neg c51] at H
                                    have c51b0 : decide (x150000_2 < a2) = false := decide_eq_false c51
                                    clear c51
                                    have H' := Aside0.mk H
                                    clear H
                                    have hnb54 := NB149_143.out
                                    have hnc54 := NB143_149.out
                                    have hcz55_0 : wc.cell? ⟨gb149, 0, none⟩ = some (.int .i64 x150000_2) := (blk_cell BK149.out 0).trans rfl
                                    have hcz55_1 : wc.cell? ⟨gb149, 1, none⟩ = some (.int .i64 x150001_2) := (blk_cell BK149.out 1).trans rfl
                                    have hcz55_2 : wc.cell? ⟨gb149, 2, none⟩ = some (.int .i64 ji35) := (blk_cell BK149.out 2).trans rfl
                                    have hcz55_3 : wc.cell? ⟨gb149, 3, none⟩ = some (.int .i64 (wrap64 (x150003_2 + 1))) := (blk_cell BK149.out 3).trans rfl
                                    have hcz55_4 : wc.cell? ⟨gb149, 4, none⟩ = some (.bool false) := (blk_cell BK149.out 4).trans rfl
                                    have hfz55_0 := blk_frozen BK149.out 0
                                    have hfz55_1 := blk_frozen BK149.out 1
                                    have hfz55_2 := blk_frozen BK149.out 2
                                    have hfz55_3 := blk_frozen BK149.out 3
                                    have hfz55_4 := blk_frozen BK149.out 4
                                    go_wp2
                                    go_roundg kj35
                                    case measure => have := HJ5.out; have := HK2.out; have := HJ21.out; have := HJ28.out; have := HJ32.out; have := HJ35.out; omega
                                    case rel => exact ⟨(x13_28), (x14_32), (x15_2), (x16_2), (x150000_2), (x150001_2), (ji35), ((wrap64 (x150003_2 + 1))), (by first | rfl | (simp; done) | (simp [*]; done)), (by first | rfl | (simp; done) | (simp [*]; done)), H', ⟨by have := HJ5.out; have := HK2.out; have := HJ21.out; have := HJ28.out; have := HJ32.out; have := HJ35.out; omega⟩, ⟨by (with_reducible repeat (first | refine blk_drewN ?_ _ | refine blk_drew ?_ | refine blk_alloc ?_ _)); exact BK143.out⟩, ⟨by (with_reducible repeat (first | refine blk_drewN ?_ _ | refine blk_drew ?_ | refine blk_alloc ?_ _)); exact BK149.out⟩, ⟨by repeat (first | (with_reducible first | exact HB.out | apply below_alloc | apply pw_below_drewN | apply below_drew1 | refine below_set ?_ GE143.out | refine below_set ?_ GE149.out) | exact HB.out)⟩, ⟨(by (with_reducible repeat (first | refine bset_drewN ?_ _ | refine bset_drew ?_ | refine bset_set ?_ NE15_149.out _ | refine bset_set ?_ NE15_143.out _)); exact HM15.out)⟩, ⟨(by (with_reducible repeat (first | refine bset_drewN ?_ _ | refine bset_drew ?_ | refine bset_set ?_ NE16_149.out _ | refine bset_set ?_ NE16_143.out _)); exact HM16.out)⟩, ⟨RowKit.wrap64_wf _⟩⟩
                                · rw [if_neg c50] at H
                                  have c50b0 : decide (0 < x13_28) = false := decide_eq_false c50
                                  clear c50
                                  have H' := Aside0.mk H
                                  clear H
                                  go_wp2
                                  go_roundg kj35
                                  case measure => have := HJ5.out; have := HK2.out; have := HJ21.out; have := HJ28.out; have := HJ32.out; have := HJ35.out; omega
                                  case rel => exact ⟨(x13_28), (x14_32), (x15_2), (x16_2), (x150000_2), (x150001_2), (ji35), ((wrap64 (x150003_2 + 1))), (by first | rfl | (simp; done) | (simp [*]; done)), (by first | rfl | (simp; done) | (simp [*]; done)), H', ⟨by have := HJ5.out; have := HK2.out; have := HJ21.out; have := HJ28.out; have := HJ32.out; have := HJ35.out; omega⟩, ⟨by (with_reducible repeat (first | refine blk_drewN ?_ _ | refine blk_drew ?_ | refine blk_alloc ?_ _)); exact BK143.out⟩, ⟨by (with_reducible repeat (first | refine blk_drewN ?_ _ | refine blk_drew ?_ | refine blk_alloc ?_ _)); exact BK149.out⟩, ⟨by repeat (first | (with_reducible first | exact HB.out | apply below_alloc | apply pw_below_drewN | apply below_drew1 | refine below_set ?_ GE143.out | refine below_set ?_ GE149.out) | exact HB.out)⟩, ⟨(by (with_reducible repeat (first | refine bset_drewN ?_ _ | refine bset_drew ?_ | refine bset_set ?_ NE15_149.out _ | refine bset_set ?_ NE15_143.out _)); exact HM15.out)⟩, ⟨(by (with_reducible repeat (first | refine bset_drewN ?_ _ | refine bset_drew ?_ | refine bset_set ?_ NE16_149.out _ | refine bset_set ?_ NE16_143.out _)); exact HM16.out)⟩, ⟨RowKit.wrap64_wf _⟩⟩
                · replace c28 := Bool.eq_false_iff.mpr c28
                  subst c28
                  have H1 : (some (x150000_2, x150001_2, x150002_2, x150003_2, (x150001_2 == a2), true)) = some (r1, r2, r3, r4, r5, r6) := by rw [if_neg (show ¬ (false = true) by decide)] at H; exact H
                  clear H
                  have H := H1
                  clear H1
                  simp only [Option.some.injEq, Prod.mk.injEq] at H
                  obtain ⟨rfl, rfl, rfl, rfl, rfl, rfl⟩ := H
                  have hnb56 := NB149_143.out
                  have hnc56 := NB143_149.out
                  have hcz57_0 : wc.cell? ⟨gb149, 0, none⟩ = some (.int .i64 x150000_2) := (blk_cell BK149.out 0).trans rfl
                  have hcz57_1 : wc.cell? ⟨gb149, 1, none⟩ = some (.int .i64 x150001_2) := (blk_cell BK149.out 1).trans rfl
                  have hcz57_2 : wc.cell? ⟨gb149, 2, none⟩ = some (.int .i64 x150002_2) := (blk_cell BK149.out 2).trans rfl
                  have hcz57_3 : wc.cell? ⟨gb149, 3, none⟩ = some (.int .i64 x150003_2) := (blk_cell BK149.out 3).trans rfl
                  have hcz57_4 : wc.cell? ⟨gb149, 4, none⟩ = some (.bool false) := (blk_cell BK149.out 4).trans rfl
                  have hfz57_0 := blk_frozen BK149.out 0
                  have hfz57_1 := blk_frozen BK149.out 1
                  have hfz57_2 := blk_frozen BK149.out 2
                  have hfz57_3 := blk_frozen BK149.out 3
                  have hfz57_4 := blk_frozen BK149.out 4
                  have hcz58_0 : wc.cell? ⟨gb143, 0, none⟩ = some (.int .i64 0) := (blk_cell BK143.out 0).trans rfl
                  have hcz58_1 : wc.cell? ⟨gb143, 1, none⟩ = some (.int .i64 0) := (blk_cell BK143.out 1).trans rfl
                  have hcz58_2 : wc.cell? ⟨gb143, 2, none⟩ = some (.int .i64 0) := (blk_cell BK143.out 2).trans rfl
                  have hcz58_3 : wc.cell? ⟨gb143, 3, none⟩ = some (.int .i64 0) := (blk_cell BK143.out 3).trans rfl
                  have hcz58_4 : wc.cell? ⟨gb143, 4, none⟩ = some (.bool false) := (blk_cell BK143.out 4).trans rfl
                  have hfz58_0 := blk_frozen BK143.out 0
                  have hfz58_1 := blk_frozen BK143.out 1
                  have hfz58_2 := blk_frozen BK143.out 2
                  have hfz58_3 := blk_frozen BK143.out 3
                  have hfz58_4 := blk_frozen BK143.out 4
                  go_wp2
                  refine bodyPost_ret (results_ct rfl _ _ gb143 37 #[.int .i64 x150000_2, .int .i64 x150001_2, .int .i64 x150002_2, .int .i64 x150003_2, .bool (x150001_2 == a2)] (0, 0) _ rfl (by (with_reducible repeat (first | refine blk_drewN ?_ _ | refine blk_drew ?_ | refine blk_alloc ?_ _)); refine blk_put (cs := #[.int .i64 x150000_2, .int .i64 x150001_2, .int .i64 x150002_2, .int .i64 x150003_2, .bool false]) ?_ 4 _ rfl; (with_reducible repeat (first | refine blk_drewN ?_ _ | refine blk_drew ?_ | refine blk_alloc ?_ _)); refine blk_put (cs := #[.int .i64 x150000_2, .int .i64 x150001_2, .int .i64 x150002_2, .int .i64 0, .bool false]) ?_ 3 _ rfl; (with_reducible repeat (first | refine blk_drewN ?_ _ | refine blk_drew ?_ | refine blk_alloc ?_ _)); refine blk_put (cs := #[.int .i64 x150000_2, .int .i64 x150001_2, .int .i64 0, .int .i64 0, .bool false]) ?_ 2 _ rfl; (with_reducible repeat (first | refine blk_drewN ?_ _ | refine blk_drew ?_ | refine blk_alloc ?_ _)); refine blk_put (cs := #[.int .i64 x150000_2, .int .i64 0, .int .i64 0, .int .i64 0, .bool false]) ?_ 1 _ rfl; (with_reducible repeat (first | refine blk_drewN ?_ _ | refine blk_drew ?_ | refine blk_alloc ?_ _)); refine blk_put (cs := #[.int .i64 0, .int .i64 0, .int .i64 0, .int .i64 0, .bool false]) ?_ 0 _ rfl; (with_reducible repeat (first | refine blk_drewN ?_ _ | refine blk_drew ?_ | refine blk_alloc ?_ _)); refine blk_far ?_ NB143_149.out _; (with_reducible repeat (first | refine blk_drewN ?_ _ | refine blk_drew ?_ | refine blk_alloc ?_ _)); exact BK143.out) Try.underlying37 rfl (by kernel_rfl)) rfl ?_
                  exact ⟨by first | rfl | (simp [errW_none, errW_some] <;> rfl) | (simp [*, errW_none, errW_some] <;> rfl), by repeat (first | (with_reducible first | exact HB.out | apply below_alloc | apply pw_below_drewN | apply below_drew1 | refine below_set ?_ GE143.out | refine below_set ?_ GE149.out) | exact HB.out)⟩


end Go.Proofs.Ytcgbkbjldkackaa.PFnRoom
