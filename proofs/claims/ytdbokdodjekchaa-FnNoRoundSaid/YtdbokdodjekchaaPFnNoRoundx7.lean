/- What the Go functions that this law reaches answer, function by function; conditions: those that each contract names. Made for this claim by a program of this session (wip/myprint) over the kit's print. -/
import Derived.Test.YtdbokdodjekchaaPFnNoRoundx0
import Derived.Test.YtdbokdodjekchaaPFnNoRoundx6
namespace Go.Proofs.Ytdbokdodjekchaa.PFnNoRound
open Go.RowKit Go.Proofs.YtdbokdodjekchaaW.PrintWords Go.Proofs.YtdbokdodjekchaaW.PrintLast Go.Proofs.YtdbokdodjekchaaW.PrintMore
attribute [local go_sem] max2_int min2_int max_two min_two max_three min_three max_four min_four   -- for this text's walks alone
set_option linter.unusedVariables false
set_option linter.unusedSimpArgs false
/-! ### impl_RunWorms: function 16 -/
/-- What a list of stores (the last one first) tells of a key. -/
def mget : List (Int × Bool) → Int → Bool
 | [], _ => false
 | p :: s, x => if x = p.1 then p.2 else mget s x
/-- Block B is a map from whole numbers to bools, made and stored to as s tells (the last store first). -/
def bmap (w : World) (P : Program) (k e : TypeId) (B : Nat) (s : List (Int × Bool)) : Prop := ∃ D : DataW Unit, w.ownsMap P k (plainElem P e) B s.length D ∧ ∀ x : Int, D.atKey (.int .i64 x) (.lit (.bool false)) = .lit (.bool (mget s x))
theorem bmap_lt {w : World} {P : Program} {k e : TypeId} {B : Nat} {s : List (Int × Bool)} (h : bmap w P k e B s) : B < w.heap.size := by
 obtain ⟨D, h1, _⟩ := h
 exact h1.lt
theorem bmap_kept {w w' : World} {P : Program} {k e : TypeId} {B : Nat} {s : List (Int × Bool)} {row : Option Nat} (h : bmap w P k e B s) (hg : w.grownBy w' row) (hne : some B ≠ row) : bmap w' P k e B s := by
 obtain ⟨D, h1, h2⟩ := h
 exact ⟨D, h1.kept hg hne, h2⟩
theorem bmap_below {w w' : World} {P : Program} {k e : TypeId} {B : Nat} {s : List (Int × Bool)} (h : bmap w P k e B s) (hb : Below w.heap.size w w') : bmap w' P k e B s := by
 obtain ⟨D, h1, h2⟩ := h
 have hl := h1.lt
 obtain ⟨es, clock, hh, F, hs, hD⟩ := h1
 exact ⟨D, ⟨es, clock, (hb.block B hl).trans hh, F, hs, hD⟩, h2⟩
theorem bmap_set {w : World} {P : Program} {k e : TypeId} {B : Nat} {s : List (Int × Bool)} (h : bmap w P k e B s) {g i : Nat} (ha : B ≠ g) (u : Value) : bmap (w.setCell ⟨g, i, none⟩ u) P k e B s := by
 obtain ⟨D, h1, h2⟩ := h
 exact ⟨D, h1.setCell ha u, h2⟩
theorem bmap_drewN {w : World} {P : Program} {k e : TypeId} {B : Nat} {s : List (Int × Bool)} (h : bmap w P k e B s) (m : Nat) : bmap (w.drewN m) P k e B s := h
theorem bmap_drew {w : World} {P : Program} {k e : TypeId} {B : Nat} {s : List (Int × Bool)} (h : bmap w P k e B s) : bmap w.drew P k e B s := h
theorem bool_inv {P : Program} {e : TypeId} (he : P.underlying e = some .bool) {v : Value} {x : Bool} {ps : List MemPlace} (h : plainElem (H := Unit) P e v = some (.lit (.bool x), ps)) : v = .bool x := by
 unfold plainElem at h
 rw [he] at h
 cases v <;> simp at h
 rw [h.1]
theorem bmap_look {w : World} {P : Program} {t k e : TypeId} {B : Nat} {s : List (Int × Bool)} (h : bmap w P k e B s) (K : Go.Maps.Keyed P k) (ht : P.underlying t = some (.map k e)) (hk : P.underlying k = some (.int .i64)) (he : P.underlying e = some .bool)
  (hz : (zeroValue e).run P w = .ok (.bool false) w) (x : Int) (hw : (Lit.int .i64 x).wf = true) : (Instr.lookup t (.map (some B)) (.int .i64 x) false).run P w = .ok (.bool (mget s x)) w := by
 obtain ⟨D, h1, h2⟩ := h
 obtain ⟨v, ps, hrun, hv⟩ := h1.lookup K ht hz (plainElem_bool he false) (Go.Maps.keyOf_int_mk hk hw)
 rw [h2 x] at hv
 rw [hrun, bool_inv he hv]
theorem bmap_store {w : World} {P : Program} {t k e : TypeId} {B : Nat} {s : List (Int × Bool)} (h : bmap w P k e B s) (K : Go.Maps.Keyed P k) (ht : P.underlying t = some (.map k e)) (hk : P.underlying k = some (.int .i64)) (he : P.underlying e = some .bool)
  (hn : s.length < maxLen) (x : Int) (b : Bool) (hw : (Lit.int .i64 x).wf = true) : ∃ w', (Instr.mapUpdate t (.map (some B)) (.int .i64 x) (.bool b)).run P w = .ok () w' ∧ bmap w' P k e B ((x, b) :: s) ∧ w.grownBy w' (some B) := by
 obtain ⟨D, h1, h2⟩ := h
 obtain ⟨w', hrun, hown, hg⟩ := h1.update K ht hn (Go.Maps.keyOf_int_mk hk hw) (plainElem_bool he b)
 refine ⟨w', hrun, ⟨_, by rw [List.length_cons]; exact hown, fun y => ?_⟩, hg⟩
 by_cases e : y = x
 ·
  subst e
  rw [Go.Maps.atKey_put_same h1.isMap (by exact trivial)]
  simp [mget]
 ·
  rw [Go.Maps.atKey_put_other (by intro h; exact e (by injection h)), h2 y]
  simp [mget, e]
theorem wpList_lookup_bmap {P : Program} (w : World) {ops : Array Oper} {rest : List Oper} {o : Oper} {a : Act} {Q : Exit → Act → World → Prop}
  (hg : o.guard = none) (m x : Operand) (t : TypeId) (hop : o.op = Op.lookup t m x false)
  (k e : TypeId) (K : Go.Maps.Keyed P k) (ht : P.underlying t = some (.map k e)) (hk : P.underlying k = some (.int .i64)) (he : P.underlying e = some .bool) (hz : (zeroValue e).run P w = .ok (.bool false) w) (B : Nat) (s : List (Int × Bool))
  (hm : a.eval m = .map (some B)) (hown : bmap w P k e B s) (key : Int) (hx : a.eval x = .int .i64 key) (hw : (Lit.int .i64 key).wf = true) (b : Bool) (hb : mget s key = b)
  (hK : wpList P ops Q rest (a.put o.dst (.bool b)) w) :
  wpList P ops Q (o :: rest) a w := by
 refine wpList_plain hg fun K' hK' => ?_
 have hrun := bmap_look hown K ht hk he hz key hw
 rw [hb] at hrun
 unfold Oper.wp
 simp [execOp, hop, hm, hx, hrun, Result.andThen]
 exact hK' _ _ (by simpa using hK)
theorem wpList_mapUpdate_bmap {P : Program} (w : World) {ops : Array Oper} {rest : List Oper} {o : Oper} {a : Act} {Q : Exit → Act → World → Prop}
  (hg : o.guard = none) (m x v : Operand) (t : TypeId) (hop : o.op = Op.mapUpdate t m x v)
  (k e : TypeId) (K : Go.Maps.Keyed P k) (ht : P.underlying t = some (.map k e)) (hk : P.underlying k = some (.int .i64)) (he : P.underlying e = some .bool) (B : Nat) (s : List (Int × Bool))
  (hm : a.eval m = .map (some B)) (hown : bmap w P k e B s) (hn : s.length < maxLen) (key : Int) (b : Bool) (hx : a.eval x = .int .i64 key) (hv : a.eval v = .bool b) (hw : (Lit.int .i64 key).wf = true)
  (hK : ∀ w', bmap w' P k e B ((key, b) :: s) → w.grownBy w' (some B) → wpList P ops Q rest (a.put o.dst undef) w') :
  wpList P ops Q (o :: rest) a w := by
 refine wpList_plain hg fun K' hK' => ?_
 obtain ⟨w', hrun, r1, r2⟩ := bmap_store hown K ht hk he hn key b hw
 unfold Oper.wp
 simp [execOp, hop, hm, hx, hv, hrun, Result.andThen]
 exact hK' _ _ (hK w' r1 r2)
theorem map_event {P : Program} {ops : Array Oper} {rest : List Oper} {o : Oper} {a : Act} {Q : Exit → Act → World → Prop} {W : World} {t k e : TypeId} (hgd : o.guard = none) (hop : o.op = Op.makeMap t none)
  (h : ∀ g, g = W.heap.size → ∀ w1, bmap w1 P k e g [] → Below W.heap.size W w1 → wpList P ops Q rest (a.put o.dst (.map (some g))) w1) : wpList P ops Q (o :: rest) a W :=
 Kd.event_run hgd (by simp [execOp, hop, run_makeMap]) (h _ rfl _ ⟨.map [], World.ownsMap_made _ _ _ _, fun _ => rfl⟩ (below_alloc (Below.refl _ _) _))
theorem bmap_ne {w : World} {P : Program} {k e : TypeId} {B g : Nat} {s : List (Int × Bool)} {cs : Array Value} {t : TypeId} {fr : Nat × Nat} (h : bmap w P k e B s) (hb : w.heap[g]? = some (.cells cs t fr)) : B ≠ g := by
 obtain ⟨D, ⟨es, clock, hh, F, hs, hD⟩, h2⟩ := h
 rintro rfl
 rw [hb] at hh
 simp at hh
theorem R_map_grown {α : Type} {d : Kd α} {e base : Nat} {ok : Nat → Prop} {w w1 : World} {v : Value} {xs : List α} (h : d.R e w base ok v xs) {P : Program} {k e2 : TypeId} {B : Nat} {s : List (Int × Bool)} (hm : bmap w P k e2 B s) (hg : w.grownBy w1 (some B)) : d.R e w1 base ok v xs := by
 refine Kd.R_mono (Kd.R_grown (Kd.R_bound h) hg (fun k_ hk e_ => ?_)) (fun _ hk => hk.1)
 obtain ⟨_, _, _, q, _, cells, hc⟩ := hk
 exact bmap_ne hm hc (Option.some.inj e_).symm
theorem S_map_grown {α : Type} {d : Kd α} {e base : Nat} {ok : Nat → Prop} {w w1 : World} {v : Value} {xs : List α} (h : Kd.S d e w base ok v xs) {P : Program} {k e2 : TypeId} {B : Nat} {s : List (Int × Bool)} (hm : bmap w P k e2 B s) (hg : w.grownBy w1 (some B)) : Kd.S d e w1 base ok v xs := by
 refine Kd.S_mono (Kd.S_grown (Kd.S_bound h) hg (fun k_ hk e_ => ?_)) (fun _ hk => hk.1)
 obtain ⟨_, _, _, q, _, cells, hc⟩ := hk
 exact bmap_ne hm hc (Option.some.inj e_).symm
theorem blk_map_grown {w w1 : World} {g : Nat} {cs : Array Value} {t : TypeId} {fr : Nat × Nat} (h : w.heap[g]? = some (.cells cs t fr)) {P : Program} {k e2 : TypeId} {B : Nat} {s : List (Int × Bool)} (hm : bmap w P k e2 B s) (hg : w.grownBy w1 (some B)) : w1.heap[g]? = some (.cells cs t fr) :=
 blk_grown h hg (fun e => bmap_ne hm h (Option.some.inj e).symm)
theorem cell_map_grown {w w1 : World} {p : Addr} {v : Value} (h : w.cell? p = some v) {P : Program} {k e2 : TypeId} {B : Nat} {s : List (Int × Bool)} (hm : bmap w P k e2 B s) (hg : w.grownBy w1 (some B)) : w1.cell? p = some v := by
 have hlt := bC w _ h
 have hne : p.block ≠ B := by
  obtain ⟨D, ⟨es, clock, hh, F, hs, hD⟩, h2⟩ := hm
  intro e
  unfold World.cell? at h
  rw [e, hh] at h
  simp at h
 have hb := hg.block p.block hlt (fun e => hne (Option.some.inj e))
 unfold World.cell? at h ⊢
 rw [hb]
 exact h
def wfAll (l : List (List Int)) : Bool := l.all fun r => r.all fun x => (Lit.int .i64 x).wf
theorem wfAll_rd {l : List (List Int)} (h : wfAll l = true) (i j : Int) : (Lit.int .i64 (rd (rd_L2 l i) j)).wf = true := by
 unfold rd rd_L2
 simp only [List.getD_eq_getElem?_getD]
 cases h1 : l[i.toNat]? with
 | none => simp; rfl
 | some r =>
  have h2 := List.all_eq_true.mp h r (List.mem_of_getElem? h1)
  simp only [Option.getD_some]
  cases h3 : r[j.toNat]? with
  | none => simp only [Option.getD_none]; rfl
  | some x => exact List.all_eq_true.mp h2 x (List.mem_of_getElem? h3)
mutual
def impl_RunWorms.l0 : Nat → List (List Int) → List Int → List (Int × Bool) → List Bool → Int → Bool → Option (List Bool × Int × Bool × Bool)
 | 0, _, _, _, _, _, _ => none
 | k + 1, x8, x11, x12, x145000, x145001, x145002 => (slices_Contains_bool_bool.f k x145000 false).bind fun t148 => (if t148 = true then (impl_RunWorms.l1 k x8 x11 x12 false x8 (x8.length : Int) 0 x145000 (wrap64 (x145001 + 1)) x145002) else (some (x145000, x145001, x145002, true)))
def impl_RunWorms.l1 : Nat → List (List Int) → List Int → List (Int × Bool) → Bool → List (List Int) → Int → Int → List Bool → Int → Bool → Option (List Bool × Int × Bool × Bool)
 | 0, _, _, _, _, _, _, _, _, _, _ => none
 | k + 1, x8, x11, x12, x13, x43, x44, x45, x145000, x145001, x145002 => if x12.length < 17592186044416 then (if x45 < x44 then (if 0 ≤ x45 then (if x45 < (x43.length : Int) then (if x45 < (x11.length : Int) then (if x45 < (x145000.length : Int) then (if rdOf false x145000 x45 = true then (impl_RunWorms.l1 k x8 x11 x12 x13 x43 x44 (wrap64 (x45 + 1)) x145000 x145001 x145002) else (if (rd x11 x45) = ((rd_L2 x43 x45).length : Int) then (if (rd x11 x45) > 0 then (if 0 ≤ (wrap64 ((rd x11 x45) - 1)) then (if (wrap64 ((rd x11 x45) - 1)) < ((rd_L2 x43 x45).length : Int) then (impl_RunWorms.l1 k x8 x11 (((rd (rd_L2 x43 x45) (wrap64 ((rd x11 x45) - 1))), false) :: x12) true x43 x44 (wrap64 (x45 + 1)) (x145000.set (x45 : Int).toNat true) x145001 x145002) else (none)) else (none)) else (impl_RunWorms.l1 k x8 x11 x12 true x43 x44 (wrap64 (x45 + 1)) (x145000.set (x45 : Int).toNat true) x145001 x145002)) else (if 0 ≤ (rd x11 x45) then (if (rd x11 x45) < ((rd_L2 x43 x45).length : Int) then (if mget x12 (rd (rd_L2 x43 x45) (rd x11 x45)) = true then (impl_RunWorms.l1 k x8 x11 x12 x13 x43 x44 (wrap64 (x45 + 1)) x145000 x145001 x145002) else (if (rd x11 x45) > 0 then (if 0 ≤ (wrap64 ((rd x11 x45) - 1)) then (if (wrap64 ((rd x11 x45) - 1)) < ((rd_L2 x43 x45).length : Int) then (impl_RunWorms.l1 k x8 (x11.set (x45 : Int).toNat (wrap64 ((rd x11 x45) + 1))) (((rd (rd_L2 x43 x45) (rd x11 x45)), true) :: (((rd (rd_L2 x43 x45) (wrap64 ((rd x11 x45) - 1))), false) :: x12)) true x43 x44 (wrap64 (x45 + 1)) x145000 x145001 x145002) else (none)) else (none)) else (impl_RunWorms.l1 k x8 (x11.set (x45 : Int).toNat (wrap64 ((rd x11 x45) + 1))) (((rd (rd_L2 x43 x45) (rd x11 x45)), true) :: x12) true x43 x44 (wrap64 (x45 + 1)) x145000 x145001 x145002))) else (none)) else (none)))) else (none)) else (none)) else (none)) else (none)) else (if x13 = true then (impl_RunWorms.l0 k x8 x11 x12 x145000 x145001 x145002) else (some (x145000, x145001, true, true)))) else (none)
end
def impl_RunWorms.f (k : Nat) (a0 : Int) (a1 : Int) (l2 : List (List Int)) : Option (List Bool × Int × Bool × Bool) := (impl_fabric_wires.f k a0 a1 l2).bind fun bt137 => (if bt137.2 = true then (if wfAll bt137.1 = true then (if 0 ≤ (bt137.1.length : Int) then (if ((bt137.1.length : Int) : Int).toNat ≤ 281474976710656 then (if ((bt137.1.length : Int) : Int).toNat ≤ 35184372088832 then (impl_RunWorms.l0 k bt137.1 (List.replicate ((bt137.1.length : Int) : Int).toNat 0) [] (List.replicate ((bt137.1.length : Int) : Int).toNat false) 0 false) else (none)) else (none)) else (none)) else (none)) else (some (([] : List Bool), 0, false, false)))
theorem impl_RunWorms.mono_l : ∀ k, (∀ y0 y1 y2 y3 y4 y5, LeO (impl_RunWorms.l0 k y0 y1 y2 y3 y4 y5) (impl_RunWorms.l0 (k + 1) y0 y1 y2 y3 y4 y5)) ∧ (∀ y0 y1 y2 y3 y4 y5 y6 y7 y8 y9, LeO (impl_RunWorms.l1 k y0 y1 y2 y3 y4 y5 y6 y7 y8 y9) (impl_RunWorms.l1 (k + 1) y0 y1 y2 y3 y4 y5 y6 y7 y8 y9))
 | 0 => ⟨fun _ _ _ _ _ _ r h => by simp [impl_RunWorms.l0] at h, fun _ _ _ _ _ _ _ _ _ _ r h => by simp [impl_RunWorms.l1] at h⟩
 | k + 1 => by
  obtain ⟨ih0, ih1⟩ := impl_RunWorms.mono_l k
  refine ⟨?_, ?_⟩
  ·
   intro y0 y1 y2 y3 y4 y5
   unfold impl_RunWorms.l0
   repeat' first
   | (with_reducible exact ih0 _ _ _ _ _ _)
   | (with_reducible exact ih1 _ _ _ _ _ _ _ _ _ _)
   | (with_reducible exact impl_fabric_wires.mono _ _ _ _)
   | (with_reducible exact slices_Contains_bool_bool.mono _ _ _)
   | (with_reducible exact LeO.refl _)
   | (with_reducible exact LeO.none _)
   | (with_reducible refine LeO.ite ?_ ?_)
   | (with_reducible refine LeO.bind ?_ (fun _ => ?_))
   | exact ih0 _ _ _ _ _ _
   | exact ih1 _ _ _ _ _ _ _ _ _ _
   | exact impl_fabric_wires.mono _ _ _ _
   | exact slices_Contains_bool_bool.mono _ _ _
   | exact LeO.none _
   | refine LeO.ite ?_ ?_
   | refine LeO.bind ?_ (fun _ => ?_)
  ·
   intro y0 y1 y2 y3 y4 y5 y6 y7 y8 y9
   unfold impl_RunWorms.l1
   repeat' first
   | (with_reducible exact ih0 _ _ _ _ _ _)
   | (with_reducible exact ih1 _ _ _ _ _ _ _ _ _ _)
   | (with_reducible exact impl_fabric_wires.mono _ _ _ _)
   | (with_reducible exact slices_Contains_bool_bool.mono _ _ _)
   | (with_reducible exact LeO.refl _)
   | (with_reducible exact LeO.none _)
   | (with_reducible refine LeO.ite ?_ ?_)
   | (with_reducible refine LeO.bind ?_ (fun _ => ?_))
   | exact ih0 _ _ _ _ _ _
   | exact ih1 _ _ _ _ _ _ _ _ _ _
   | exact impl_fabric_wires.mono _ _ _ _
   | exact slices_Contains_bool_bool.mono _ _ _
   | exact LeO.none _
   | refine LeO.ite ?_ ?_
   | refine LeO.bind ?_ (fun _ => ?_)
theorem impl_RunWorms.mono : ∀ a0 a1 a2 k, LeO (impl_RunWorms.f k a0 a1 a2) (impl_RunWorms.f (k + 1) a0 a1 a2) := by
 intro a0 a1 a2 k
 obtain ⟨ih0, ih1⟩ := impl_RunWorms.mono_l k
 unfold impl_RunWorms.f
 repeat' first
   | (with_reducible exact ih0 _ _ _ _ _ _)
   | (with_reducible exact ih1 _ _ _ _ _ _ _ _ _ _)
   | (with_reducible exact impl_fabric_wires.mono _ _ _ _)
   | (with_reducible exact slices_Contains_bool_bool.mono _ _ _)
   | (with_reducible exact LeO.refl _)
   | (with_reducible exact LeO.none _)
   | (with_reducible refine LeO.ite ?_ ?_)
   | (with_reducible refine LeO.bind ?_ (fun _ => ?_))
   | exact ih0 _ _ _ _ _ _
   | exact ih1 _ _ _ _ _ _ _ _ _ _
   | exact impl_fabric_wires.mono _ _ _ _
   | exact slices_Contains_bool_bool.mono _ _ _
   | exact LeO.none _
   | refine LeO.ite ?_ ?_
   | refine LeO.bind ?_ (fun _ => ?_)
set_option maxHeartbeats 8000000 in
set_option maxRecDepth 100000 in
theorem impl_RunWorms.calls (k : Nat) (a0 : Int) (a1 : Int) (A2 : Option Addr) (c2 : Nat) (l2 : List (List Int)) (r1 : List Bool) (r2 : Int) (r3 : Bool) (r4 : Bool) (w : World) (hr2 : Kd.C (Kd.slice 3 (Kd.int .i64)) w A2 l2.length l2) (hc2 : l2.length ≤ c2) (h : impl_RunWorms.f k a0 a1 l2 = some (r1, r2, r3, r4)) :
  Calls Try.prog 16 #[.int .i64 a0, .int .i64 a1, .slice A2 l2.length c2] w fun e w' => ∃ v0_ : Value, e = .returned (.tuple #[.agg #[v0_, .int .i64 r2, .bool r3], .bool r4]) ∧ Kd.R Kd.bool 4 w' w.heap.size (fun _ => True) v0_ r1 ∧ Below w.heap.size w w' := by
 have hu33 := Try.underlying33
 have hu50 := Try.underlying50
 have HR2 := aM hr2
 have HC2 := aM hc2
 clear hr2 hc2
 have HB := aM (Below.refl w.heap.size w)
 have H : ((impl_fabric_wires.f k a0 a1 l2).bind fun bt137 => (if bt137.2 = true then (if wfAll bt137.1 = true then (if 0 ≤ (bt137.1.length : Int) then (if ((bt137.1.length : Int) : Int).toNat ≤ 281474976710656 then (if ((bt137.1.length : Int) : Int).toNat ≤ 35184372088832 then (impl_RunWorms.l0 k bt137.1 (List.replicate ((bt137.1.length : Int) : Int).toNat 0) [] (List.replicate ((bt137.1.length : Int) : Int).toNat false) 0 false) else (none)) else (none)) else (none)) else (none)) else (some (([] : List Bool), 0, false, false)))) = some (r1, r2, r3, r4) := h
 clear h
 replace H := bE H
 obtain ⟨⟨t137, t140⟩, A40, H⟩ := H
 replace H : (if t140 = true then (if wfAll t137 = true then (if 0 ≤ (t137.length : Int) then (if ((t137.length : Int) : Int).toNat ≤ 281474976710656 then (if ((t137.length : Int) : Int).toNat ≤ 35184372088832 then (impl_RunWorms.l0 k t137 (List.replicate ((t137.length : Int) : Int).toNat 0) [] (List.replicate ((t137.length : Int) : Int).toNat false) 0 false) else (none)) else (none)) else (none)) else (none)) else (some (([] : List Bool), 0, false, false))) = some (r1, r2, r3, r4) := H
 have A4 := aM A40
 clear A40
 by_cases c5 : t140 = true
 ·
  subst c5
  have H1 : (if wfAll t137 = true then (if 0 ≤ (t137.length : Int) then (if ((t137.length : Int) : Int).toNat ≤ 281474976710656 then (if ((t137.length : Int) : Int).toNat ≤ 35184372088832 then (impl_RunWorms.l0 k t137 (List.replicate ((t137.length : Int) : Int).toNat 0) [] (List.replicate ((t137.length : Int) : Int).toNat false) 0 false) else (none)) else (none)) else (none)) else (none)) = some (r1, r2, r3, r4) := by rw [if_pos rfl] at H; exact H
  clear H
  have H := H1
  clear H1
  have WFA : wfAll t137 = true := by
   by_cases c : wfAll t137 = true
   ·
    exact c
   ·
    rw [if_neg c] at H
    exact absurd H (by simp)
  rw [if_pos WFA] at H
  replace WFA := aM WFA
  by_cases c6 : 0 ≤ (t137.length : Int)
  ·
   rw [if_pos c6] at H
   have c6b0 := eq_true c6
   have c6b1 : decide (0 ≤ (t137.length : Int)) = true := decide_eq_true c6
   clear c6
   by_cases c7 : ((t137.length : Int) : Int).toNat ≤ 281474976710656
   ·
    rw [if_pos c7] at H
    have c7b0 := eq_true c7
    have c7b1 : decide (((t137.length : Int) : Int).toNat ≤ 281474976710656) = true := decide_eq_true c7
    clear c7
    obtain ⟨y141, hy141⟩ : ∃ y_ : List Bool, y_ = (List.replicate ((t137.length : Int) : Int).toNat false) := ⟨_, rfl⟩
    replace H : (if ((t137.length : Int) : Int).toNat ≤ 35184372088832 then (impl_RunWorms.l0 k t137 (List.replicate ((t137.length : Int) : Int).toNat 0) [] y141 0 false) else (none)) = some (r1, r2, r3, r4) := by first | (rw [hy141]; with_reducible exact H) | (have H2_ := (Option.bind_some _ _).symm.trans H; rw [hy141]; with_reducible exact H2_) | (have H2_ := (Option.bind_some _ _).symm.trans H; with_reducible exact H2_) | with_reducible exact H | (rw [hy141]; exact H) | exact H
    have Ny141 := aM hy141
    clear hy141
    by_cases c8 : ((t137.length : Int) : Int).toNat ≤ 35184372088832
    ·
     rw [if_pos c8] at H
     have c8b0 := eq_true c8
     have c8b1 : decide (((t137.length : Int) : Int).toNat ≤ 35184372088832) = true := decide_eq_true c8
     clear c8
     obtain ⟨y145, hy145⟩ : ∃ y_ : List Int, y_ = (List.replicate ((t137.length : Int) : Int).toNat 0) := ⟨_, rfl⟩
     replace H : (impl_RunWorms.l0 k t137 y145 [] y141 0 false) = some (r1, r2, r3, r4) := by first | (rw [hy145]; with_reducible exact H) | (have H2_ := (Option.bind_some _ _).symm.trans H; rw [hy145]; with_reducible exact H2_) | (have H2_ := (Option.bind_some _ _).symm.trans H; with_reducible exact H2_) | with_reducible exact H | (rw [hy145]; exact H) | exact H
     have Ny145 := aM hy145
     clear hy145
     have H' := aM H
     clear H
     go_enter Try.func16, Try.ntmps16
     go_wp2_with (first | ((with_reducible refine gate_dst (N := 6) rfl ?_); refine box_event ?hg (N := 6) ?hd (cs := #[.slice none 0 0, .int .i64 0, .bool false]) (t := 33) ?hr ?_; (case hd => rfl); (case hg => rfl); (case hr => first | (go_simp; done) | (go_simp; rfl)); intro gb136 hg w9 hbox hb; have n0_ := aM (below_step (by repeat (first | (with_reducible first | exact HB.out | apply below_alloc | apply bN | apply bD) | exact HB.out)) hb); have n1_ := aM (hbox); have n2_ := aM ((by rw [hg]; exact (below_size (by repeat (first | (with_reducible first | exact HB.out | apply below_alloc | apply bN | apply bD) | exact HB.out))) : w.heap.size ≤ gb136)); have n3_ := aM ((by rw [hg]; exact (below_size (by repeat (first | (with_reducible first | exact HB.out | apply below_alloc | apply bN | apply bD) | exact HB.out))) : w.heap.size ≤ gb136)); clear HB; have HB := n0_; have BK136 := n1_; have GW136 := n2_; have GE136 := n3_; clear n0_ n1_ n2_ n3_; clear hb hbox hg) | ((with_reducible refine gate_callee (f := 34) rfl ?_); refine goesL_ (some 22) rfl rfl Try.func34 (by kernel_rfl) rfl #[.agg #[.int .i64 a0, .int .i64 a1], .slice A2 l2.length c2] rfl (by (try simp only [mA, mB, mC]); first | done | rfl | (simp only [mE, mD]; rfl)) ?_; (with_reducible refine (impl_fabric_wires.calls k a0 a1 _ _ l2 t137 true _ ?side1 ?side2 A4.out).mono ?_); (case side1 => repeat (first | exact (Kd.C_below HR2.out HB.out) | (with_reducible refine Kd.C_alloc ?_ _) | (with_reducible refine Kd.C_drewN ?_ _) | (with_reducible refine Kd.C_drew ?_))); (case side2 => exact HC2.out); rintro e w10 ⟨v138, rfl, ho0, hb⟩; refine ⟨_, rfl, ?_⟩; have n0_ := aM (Kd.S_lower ho0 (below_size (by repeat (first | (with_reducible first | exact HB.out | apply below_alloc | apply bN | apply bD | refine below_set ?_ GE136.out) | exact HB.out)))); have n1_ := aM (blk_below (g := gb136) (o := .cells #[.slice none 0 0, .int .i64 0, .bool false] 33 (0, 0)) (by (with_reducible repeat (first | refine blk_drewN ?_ _ | refine blk_drew ?_ | refine blk_alloc ?_ _)); exact BK136.out) hb); have n2_ := aM (below_step (by repeat (first | (with_reducible first | exact HB.out | apply below_alloc | apply bN | apply bD | refine below_set ?_ GE136.out) | exact HB.out)) hb); clear BK136; clear HB; have HO139 := n0_; have BK136 := n1_; have HB := n2_; clear n0_ n1_ n2_; (try clear hb); (try clear hb2); (try clear hk); (try clear hi); (try clear ho0); obtain ⟨Ao11, co11, eo11⟩ := Kd.S_slice HO139.out; subst eo11) | ((with_reducible refine gate_dst (N := 30) rfl ?_); refine Kd.R_make Kd.bool _ 4 rfl (N := 30) rfl 31 _ _ rfl (t137.length : Int) rfl rfl Try.underlying31 (.bool false) 1 info4 rfl (by decide) (by omega) false (ok := fun _ => True) (okp := fun _ => True) rfl (fun _ hk => hk) trivial (of_decide_eq_true (by assumption)) (Nat.le_trans (Nat.mul_le_mul_right _ (of_decide_eq_true (by assumption) : (t137.length : Int).toNat ≤ 281474976710656)) (by omega)) (Below.refl _ _) (Nat.le_refl _) ?_; intro v142 w12 ho13 hb hg_ hnew_; clear hg_ hnew_; (first | rw [← Ny141.out] at ho13 | (simp only [Int.reduceToNat] at ho13; rw [← Ny141.out] at ho13)); have n0_ := aM (Kd.S_below (by (with_reducible repeat (first | apply Kd.S_alloc | apply Kd.S_drewN | apply Kd.S_drew)); exact HO139.out) hb); have n1_ := aM (Kd.R_lower ho13 (below_size (by repeat (first | (with_reducible first | exact HB.out | apply below_alloc | apply bN | apply bD | refine below_set ?_ GE136.out) | exact HB.out)))); have n2_ := aM (blk_below (g := gb136) (o := .cells #[.slice none 0 0, .int .i64 0, .bool false] 33 (0, 0)) (by (with_reducible repeat (first | refine blk_drewN ?_ _ | refine blk_drew ?_ | refine blk_alloc ?_ _)); exact BK136.out) hb); have n3_ := aM (below_step (by repeat (first | (with_reducible first | exact HB.out | apply below_alloc | apply bN | apply bD | refine below_set ?_ GE136.out) | exact HB.out)) hb); clear HO139; clear BK136; clear HB; have HO139 := n0_; have HO143 := n1_; have BK136 := n2_; have HB := n3_; clear n0_ n1_ n2_ n3_; clear hb ho13; obtain ⟨Ao14, co14, eo14⟩ := Kd.R_slice HO143.out; subst eo14) | ((with_reducible refine gate_dst (N := 10) rfl ?_); refine box_event ?hg (N := 10) ?hd (cs := #[.slice none 0 0, .int .i64 0, .bool false]) (t := 33) ?hr ?_; (case hd => rfl); (case hg => rfl); (case hr => first | (go_simp; done) | (go_simp; rfl)); intro gb144 hg w15 hbox hb; have n0_ := aM (Kd.S_below (by (with_reducible repeat (first | apply Kd.S_alloc | apply Kd.S_drewN | apply Kd.S_drew)); exact HO139.out) hb); have n1_ := aM (Kd.R_below (by (with_reducible repeat (first | apply Kd.R_alloc | apply Kd.R_drewN | apply Kd.R_drew)); exact HO143.out) hb); have n2_ := aM (blk_below (g := gb136) (o := .cells #[.slice none 0 0, .int .i64 0, .bool false] 33 (0, 0)) (by (with_reducible repeat (first | refine blk_drewN ?_ _ | refine blk_drew ?_ | refine blk_alloc ?_ _)); exact BK136.out) hb); have n3_ := aM (below_step (by repeat (first | (with_reducible first | exact HB.out | apply below_alloc | apply bN | apply bD | refine below_set ?_ GE136.out) | exact HB.out)) hb); have n4_ := aM (hbox); have n5_ := aM ((by rw [hg]; exact (below_size (by repeat (first | (with_reducible first | exact HB.out | apply below_alloc | apply bN | apply bD | refine below_set ?_ GE136.out) | exact HB.out))) : w.heap.size ≤ gb144)); have n6_ := aM ((by rw [hg]; exact (below_size (by repeat (first | (with_reducible first | exact HB.out | apply below_alloc | apply bN | apply bD | refine below_set ?_ GE136.out) | exact HB.out))) : w.heap.size ≤ gb144)); have n7_ := aM ((by rw [hg]; exact Nat.ne_of_lt (blk_lt (g := gb136) (o := .cells #[.slice none 0 0, .int .i64 0, .bool false] 33 (0, 0)) (by (with_reducible repeat (first | refine blk_drewN ?_ _ | refine blk_drew ?_ | refine blk_alloc ?_ _)); exact BK136.out)) : gb136 ≠ gb144)); have n8_ := aM ((by rw [hg]; exact Nat.ne_of_gt (blk_lt (g := gb136) (o := .cells #[.slice none 0 0, .int .i64 0, .bool false] 33 (0, 0)) (by (with_reducible repeat (first | refine blk_drewN ?_ _ | refine blk_drew ?_ | refine blk_alloc ?_ _)); exact BK136.out)) : gb144 ≠ gb136)); clear HO139; clear HO143; clear BK136; clear HB; have HO139 := n0_; have HO143 := n1_; have BK136 := n2_; have HB := n3_; have BK144 := n4_; have GW144 := n5_; have GE144 := n6_; have NB136_144 := n7_; have NB144_136 := n8_; clear n0_ n1_ n2_ n3_ n4_ n5_ n6_ n7_ n8_; clear hb hbox hg; have hnb16 := NB144_136.out; have hnc16 := NB136_144.out; have hcz17_0 : w15.cell? ⟨gb144, 0, none⟩ = some (.slice none 0 0) := (blk_cell BK144.out 0).trans rfl; have hcz17_1 : w15.cell? ⟨gb144, 1, none⟩ = some (.int .i64 0) := (blk_cell BK144.out 1).trans rfl; have hcz17_2 : w15.cell? ⟨gb144, 2, none⟩ = some (.bool false) := (blk_cell BK144.out 2).trans rfl; have hfz17_0 := blk_frozen BK144.out 0; have hfz17_1 := blk_frozen BK144.out 1; have hfz17_2 := blk_frozen BK144.out 2) | ((with_reducible refine gate_dst (N := 34) rfl ?_); refine Kd.R_make (Kd.int .i64) _ 3 rfl (N := 34) rfl 28 _ _ rfl (t137.length : Int) rfl rfl Try.underlying28 (.int .i64 0) 8 info3 rfl (by decide) (by omega) 0 (ok := fun _ => True) (okp := fun _ => True) rfl (fun _ hk => hk) trivial (of_decide_eq_true (by assumption)) (Nat.le_trans (Nat.mul_le_mul_right _ (of_decide_eq_true (by assumption) : (t137.length : Int).toNat ≤ 35184372088832)) (by omega)) (Below.refl _ _) (Nat.le_refl _) ?_; intro v146 w18 ho19 hb hg_ hnew_; clear hg_ hnew_; (first | rw [← Ny145.out] at ho19 | (simp only [Int.reduceToNat] at ho19; rw [← Ny145.out] at ho19)); have n0_ := aM (Kd.S_elder' (by (with_reducible repeat (first | apply Kd.S_alloc | apply Kd.S_drewN | apply Kd.S_drew)); exact (Kd.S_mono (Kd.S_far (p := ⟨gb144, 2, none⟩) (Kd.S_far (p := ⟨gb144, 1, none⟩) (Kd.S_far (p := ⟨gb144, 0, none⟩) (Kd.S_types HO139.out BK144.out (by decide)) (fun _ hk => hk.2) (.slice Ao14 y141.length co14)) (fun _ hk => hk.2) (.int .i64 0)) (fun _ hk => hk.2) (.bool false)) (fun _ h_ => h_.1))) (Kd.R_base ho19) hb); have n1_ := aM (Kd.R_below (by (with_reducible repeat (first | apply Kd.R_alloc | apply Kd.R_drewN | apply Kd.R_drew)); exact (Kd.R_mono (Kd.R_far (p := ⟨gb144, 2, none⟩) (Kd.R_far (p := ⟨gb144, 1, none⟩) (Kd.R_far (p := ⟨gb144, 0, none⟩) (Kd.R_types HO143.out BK144.out (by decide)) (fun _ hk => hk.2) (.slice Ao14 y141.length co14)) (fun _ hk => hk.2) (.int .i64 0)) (fun _ hk => hk.2) (.bool false)) (fun _ h_ => h_.1))) hb); have n2_ := aM (Kd.R_lower ho19 (below_size (by repeat (first | (with_reducible first | exact HB.out | apply below_alloc | apply bN | apply bD | refine below_set ?_ GE136.out | refine below_set ?_ GE144.out) | exact HB.out)))); have n3_ := aM (blk_below (g := gb136) (o := .cells #[.slice none 0 0, .int .i64 0, .bool false] 33 (0, 0)) (by (with_reducible repeat (first | refine blk_drewN ?_ _ | refine blk_drew ?_ | refine blk_alloc ?_ _)); refine blk_far ?_ NB136_144.out _; (with_reducible repeat (first | refine blk_drewN ?_ _ | refine blk_drew ?_ | refine blk_alloc ?_ _)); refine blk_far ?_ NB136_144.out _; (with_reducible repeat (first | refine blk_drewN ?_ _ | refine blk_drew ?_ | refine blk_alloc ?_ _)); refine blk_far ?_ NB136_144.out _; (with_reducible repeat (first | refine blk_drewN ?_ _ | refine blk_drew ?_ | refine blk_alloc ?_ _)); exact BK136.out) hb); have n4_ := aM (blk_below (g := gb144) (o := .cells #[.slice Ao14 y141.length co14, .int .i64 0, .bool false] 33 (0, 0)) (by (with_reducible repeat (first | refine blk_drewN ?_ _ | refine blk_drew ?_ | refine blk_alloc ?_ _)); refine blk_put (cs := #[.slice Ao14 y141.length co14, .int .i64 0, .bool false]) ?_ 2 _ rfl; (with_reducible repeat (first | refine blk_drewN ?_ _ | refine blk_drew ?_ | refine blk_alloc ?_ _)); refine blk_put (cs := #[.slice Ao14 y141.length co14, .int .i64 0, .bool false]) ?_ 1 _ rfl; (with_reducible repeat (first | refine blk_drewN ?_ _ | refine blk_drew ?_ | refine blk_alloc ?_ _)); refine blk_put (cs := #[.slice none 0 0, .int .i64 0, .bool false]) ?_ 0 _ rfl; (with_reducible repeat (first | refine blk_drewN ?_ _ | refine blk_drew ?_ | refine blk_alloc ?_ _)); exact BK144.out) hb); have n5_ := aM (below_step (by repeat (first | (with_reducible first | exact HB.out | apply below_alloc | apply bN | apply bD | refine below_set ?_ GE136.out | refine below_set ?_ GE144.out) | exact HB.out)) hb); clear HO139; clear HO143; clear BK136; clear BK144; clear HB; have HO139 := n0_; have HO143 := n1_; have HO147 := n2_; have BK136 := n3_; have BK144 := n4_; have HB := n5_; clear n0_ n1_ n2_ n3_ n4_ n5_; clear hb ho19) | ((with_reducible refine gate_dst (N := 35) rfl ?_); refine map_event (t := 58) (k := 3) (e := 4) ?hg ?ho ?_; (case hg => rfl); (case ho => rfl); intro gb12 hg wm8 hm hb; have n0_ := aM (Kd.S_below (by (with_reducible repeat (first | apply Kd.S_alloc | apply Kd.S_drewN | apply Kd.S_drew)); exact HO139.out) hb); have n1_ := aM (Kd.R_below (by (with_reducible repeat (first | apply Kd.R_alloc | apply Kd.R_drewN | apply Kd.R_drew)); exact HO143.out) hb); have n2_ := aM (Kd.R_below (by (with_reducible repeat (first | apply Kd.R_alloc | apply Kd.R_drewN | apply Kd.R_drew)); exact HO147.out) hb); have n3_ := aM (blk_below (g := gb136) (o := .cells #[.slice none 0 0, .int .i64 0, .bool false] 33 (0, 0)) (by (with_reducible repeat (first | refine blk_drewN ?_ _ | refine blk_drew ?_ | refine blk_alloc ?_ _)); exact BK136.out) hb); have n4_ := aM (blk_below (g := gb144) (o := .cells #[.slice Ao14 y141.length co14, .int .i64 0, .bool false] 33 (0, 0)) (by (with_reducible repeat (first | refine blk_drewN ?_ _ | refine blk_drew ?_ | refine blk_alloc ?_ _)); exact BK144.out) hb); have n5_ := aM (below_step (by repeat (first | (with_reducible first | exact HB.out | apply below_alloc | apply bN | apply bD | refine below_set ?_ GE136.out | refine below_set ?_ GE144.out) | exact HB.out)) hb); have HM12 := aM hm; have GE12 := aM ((by rw [hg]; exact below_size (by repeat (first | (with_reducible first | exact HB.out | apply below_alloc | apply bN | apply bD | refine below_set ?_ GE136.out | refine below_set ?_ GE144.out) | exact HB.out))) : w.heap.size ≤ gb12); clear HO139; clear HO143; clear HO147; clear BK136; clear BK144; clear HB; have HO139 := n0_; have HO143 := n1_; have HO147 := n2_; have BK136 := n3_; have BK144 := n4_; have HB := n5_; clear n0_ n1_ n2_ n3_ n4_ n5_; clear hb hm hg))
     go_loopg [] k (fun kq w' => ∃ (x11_1 : List Int) (x12_1 : List (Int × Bool)) (x145000_1 : List Bool) (x145001_1 : Int) (x145002_1 : Bool) (u145000 : Value), Aside0 (impl_RunWorms.l0 kq t137 x11_1 x12_1 x145000_1 x145001_1 x145002_1 = some (r1, r2, r3, r4)) ∧ Aside0 (kq ≤ k) ∧ Aside0 (Kd.S (Kd.slice 3 (Kd.int .i64)) 28 w' w.heap.size (fun k_ => some k_ ≠ (v146 : Value).ownBlock) (.slice Ao11 t137.length co11) t137) ∧ Aside0 (Kd.R (Kd.int .i64) 3 w' w.heap.size (fun _ => True) v146 x11_1) ∧ Aside0 (Kd.R Kd.bool 4 w' w.heap.size (fun _ => True) u145000 x145000_1) ∧ Aside0 (w'.heap[gb136]? = some (.cells #[(.slice none 0 0), .int .i64 0, .bool false] 33 (0, 0))) ∧ Aside0 (w'.heap[gb144]? = some (.cells #[u145000, .int .i64 x145001_1, .bool x145002_1] 33 (0, 0))) ∧ Aside0 (Below w.heap.size w w') ∧ Aside0 (bmap w' Try.prog 3 4 gb12 x12_1))
     case atStart => exact ⟨(y145), ([]), (y141), (0), (false), (.slice Ao14 y141.length co14), H', ⟨Nat.le_refl _⟩, ⟨by (with_reducible repeat (first | apply Kd.S_alloc | apply Kd.S_drewN | apply Kd.S_drew)); exact Kd.S_mono HO139.out (fun _ hk => hk.2)⟩, ⟨by (with_reducible repeat (first | apply Kd.R_alloc | apply Kd.R_drewN | apply Kd.R_drew)); exact HO147.out⟩, ⟨by (with_reducible repeat (first | apply Kd.R_alloc | apply Kd.R_drewN | apply Kd.R_drew)); exact HO143.out⟩, ⟨by (with_reducible repeat (first | refine blk_drewN ?_ _ | refine blk_drew ?_ | refine blk_alloc ?_ _)); exact BK136.out⟩, ⟨by (with_reducible repeat (first | refine blk_drewN ?_ _ | refine blk_drew ?_ | refine blk_alloc ?_ _)); exact BK144.out⟩, ⟨by repeat (first | (with_reducible first | exact HB.out | apply below_alloc | apply bN | apply bD | refine below_set ?_ GE136.out | refine below_set ?_ GE144.out) | exact HB.out)⟩, ⟨by (with_reducible repeat (first | refine bmap_drewN ?_ _ | refine bmap_drew ?_)); exact HM12.out⟩⟩
     case round =>
      clear H'
      try clear c1
      try clear c2
      try clear p2
      try clear c3
      try clear c5
      try clear c6
      try clear c6b0
      try clear c6b1
      try clear c7
      try clear c7b0
      try clear c7b1
      try clear c8
      try clear c8b0
      try clear c8b1
      try clear c16
      try clear hcz17_0
      try clear hcz17_1
      try clear hcz17_2
      try clear hfz17_0
      try clear hfz17_1
      try clear hfz17_2
      obtain ⟨x11_1, x12_1, x145000_1, x145001_1, x145002_1, u145000, HA, HK1, HO_8, HO_11, HO_145000, BK136, BK144, HB, HM12⟩ := hrel
      cases gk with
      | zero => exact absurd HA.out (by simp [impl_RunWorms.l0])
      | succ k1 =>
       have H := HA.out
       clear HA
       simp only [impl_RunWorms.l0] at H
       replace H := bE H
       obtain ⟨t148, A200, H⟩ := H
       replace H : (if t148 = true then (impl_RunWorms.l1 k1 t137 x11_1 x12_1 false t137 (t137.length : Int) 0 x145000_1 (wrap64 (x145001_1 + 1)) x145002_1) else (some (x145000_1, x145001_1, x145002_1, true))) = some (r1, r2, r3, r4) := H
       have A20 := aM A200
       clear A200
       by_cases c21 : t148 = true
       ·
        subst c21
        have H1 : (impl_RunWorms.l1 k1 t137 x11_1 x12_1 false t137 (t137.length : Int) 0 x145000_1 (wrap64 (x145001_1 + 1)) x145002_1) = some (r1, r2, r3, r4) := by rw [if_pos rfl] at H; exact H
        clear H
        have H := H1
        clear H1
        have H' := aM H
        clear H
        have hnb22 := NB144_136.out
        have hnc22 := NB136_144.out
        have hcz23_0 : wr.cell? ⟨gb144, 0, none⟩ = some (u145000) := (blk_cell BK144.out 0).trans rfl
        have hcz23_1 : wr.cell? ⟨gb144, 1, none⟩ = some (.int .i64 x145001_1) := (blk_cell BK144.out 1).trans rfl
        have hcz23_2 : wr.cell? ⟨gb144, 2, none⟩ = some (.bool x145002_1) := (blk_cell BK144.out 2).trans rfl
        have hfz23_0 := blk_frozen BK144.out 0
        have hfz23_1 := blk_frozen BK144.out 1
        have hfz23_2 := blk_frozen BK144.out 2
        obtain ⟨Ao24, co24, eo24⟩ := Kd.R_slice HO_145000.out
        subst eo24
        go_wp2_with (first | ((with_reducible refine gate_callee (f := 43) rfl ?_); refine goesL_ (some 38) rfl rfl Try.func43 (by kernel_rfl) rfl #[.slice Ao24 x145000_1.length co24, .bool false] rfl (by (try simp only [mA, mB, mC]); first | done | rfl | (simp only [mE, mD]; rfl)) ?_; (with_reducible refine (slices_Contains_bool_bool.calls k1 _ _ x145000_1 false true _ ?side1 ?side2 A20.out).mono ?_); (case side1 => repeat (first | exact (Kd.R_reads' HO_145000.out).2.2 | (with_reducible refine Kd.C_alloc ?_ _) | (with_reducible refine Kd.C_drewN ?_ _) | (with_reducible refine Kd.C_drew ?_))); (case side2 => exact (Kd.R_reads' HO_145000.out).2.1); rintro e w' ⟨rfl, ⟨nd, rfl⟩⟩; refine ⟨_, rfl, ?_⟩; (try (rw [drewN_self wr]; generalize hq_ : World.drewN wr _ = wr; have n0_ : Aside0 (Kd.R (Kd.int .i64) 3 wr w.heap.size (fun _ => True) v146 x11_1) := ⟨by rw [← hq_]; exact (by (with_reducible repeat (first | apply Kd.R_alloc | apply Kd.R_drewN | apply Kd.R_drew)); exact HO_11.out)⟩; have n1_ : Aside0 (Kd.R Kd.bool 4 wr w.heap.size (fun _ => True) (.slice Ao24 x145000_1.length co24) x145000_1) := ⟨by rw [← hq_]; exact (by (with_reducible repeat (first | apply Kd.R_alloc | apply Kd.R_drewN | apply Kd.R_drew)); exact HO_145000.out)⟩; have n2_ : Aside0 (Kd.S (Kd.slice 3 (Kd.int .i64)) 28 wr w.heap.size (fun k_ => some k_ ≠ (v146 : Value).ownBlock) (.slice Ao11 t137.length co11) t137) := ⟨by rw [← hq_]; exact (by (with_reducible repeat (first | apply Kd.S_alloc | apply Kd.S_drewN | apply Kd.S_drew)); exact HO_8.out)⟩; have n3_ : Aside0 (wr.heap[gb136]? = some (.cells #[.slice none 0 0, .int .i64 0, .bool false] 33 (0, 0))) := ⟨by rw [← hq_]; exact (by (with_reducible repeat (first | refine blk_drewN ?_ _ | refine blk_drew ?_ | refine blk_alloc ?_ _)); exact BK136.out)⟩; have n4_ : Aside0 (wr.heap[gb144]? = some (.cells #[.slice Ao24 x145000_1.length co24, .int .i64 x145001_1, .bool x145002_1] 33 (0, 0))) := ⟨by rw [← hq_]; exact (by (with_reducible repeat (first | refine blk_drewN ?_ _ | refine blk_drew ?_ | refine blk_alloc ?_ _)); exact BK144.out)⟩; have n5_ : Aside0 (Below w.heap.size w wr) := ⟨by rw [← hq_]; exact (by repeat (first | (with_reducible first | exact HB.out | apply below_alloc | apply bN | apply bD | refine below_set ?_ GE136.out | refine below_set ?_ GE144.out) | exact HB.out))⟩; have n9_ : Aside0 (bmap wr Try.prog 3 4 gb12 x12_1) := ⟨by rw [← hq_]; exact (by (with_reducible repeat (first | refine bmap_drewN ?_ _ | refine bmap_drew ?_)); exact HM12.out)⟩; clear HM12 HO_11 HO_145000 HO_8 BK136 BK144 HB hq_; have HM12 := n9_; clear n9_; have HO_11 := n0_; have HO_145000 := n1_; have HO_8 := n2_; have BK136 := n3_; have BK144 := n4_; have HB := n5_; clear n0_ n1_ n2_ n3_ n4_ n5_; have hcy_0 : wr.cell? ⟨gb144, 0, none⟩ = some (.slice Ao24 x145000_1.length co24) := (blk_cell BK144.out 0).trans rfl; have hfy_0 := blk_frozen BK144.out 0; have hcy_1 : wr.cell? ⟨gb144, 1, none⟩ = some (.int .i64 x145001_1) := (blk_cell BK144.out 1).trans rfl; have hfy_1 := blk_frozen BK144.out 1; have hcy_2 : wr.cell? ⟨gb144, 2, none⟩ = some (.bool x145002_1) := (blk_cell BK144.out 2).trans rfl; have hfy_2 := blk_frozen BK144.out 2))))
        go_loopg [13, 45] k1 (fun kq v13 v45 w' => ∃ (x11_2 : List Int) (x12_2 : List (Int × Bool)) (x13_2 : Bool) (x45_2 : Int) (x145000_2 : List Bool) (u145000 : Value), v13 = .bool x13_2 ∧ v45 = .int .i64 x45_2 ∧ Aside0 (impl_RunWorms.l1 kq t137 x11_2 x12_2 x13_2 t137 (t137.length : Int) x45_2 x145000_2 (wrap64 (x145001_1 + 1)) x145002_1 = some (r1, r2, r3, r4)) ∧ Aside0 (kq ≤ k1) ∧ Aside0 (Kd.S (Kd.slice 3 (Kd.int .i64)) 28 w' w.heap.size (fun k_ => some k_ ≠ (v146 : Value).ownBlock) (.slice Ao11 t137.length co11) t137) ∧ Aside0 (Kd.R (Kd.int .i64) 3 w' w.heap.size (fun _ => True) v146 x11_2) ∧ Aside0 (Kd.S (Kd.slice 3 (Kd.int .i64)) 28 w' w.heap.size (fun k_ => some k_ ≠ (v146 : Value).ownBlock) (.slice Ao11 t137.length co11) t137) ∧ Aside0 (Kd.R Kd.bool 4 w' w.heap.size (fun _ => True) u145000 x145000_2) ∧ Aside0 (w'.heap[gb136]? = some (.cells #[(.slice none 0 0), .int .i64 0, .bool false] 33 (0, 0))) ∧ Aside0 (w'.heap[gb144]? = some (.cells #[u145000, .int .i64 (wrap64 (x145001_1 + 1)), .bool x145002_1] 33 (0, 0))) ∧ Aside0 (Below w.heap.size w w') ∧ Aside0 (bmap w' Try.prog 3 4 gb12 x12_2))
        case atStart => exact ⟨(x11_1), (x12_1), (false), (0), (x145000_1), (.slice Ao24 x145000_1.length co24), (by first | rfl | (simp; done) | (simp [*]; done)), (by first | rfl | (simp; done) | (simp [*]; done)), H', ⟨Nat.le_refl _⟩, ⟨by (with_reducible repeat (first | apply Kd.S_alloc | apply Kd.S_drewN | apply Kd.S_drew)); exact Kd.S_mono (Kd.S_far (p := ⟨gb144, 1, none⟩) (Kd.S_types HO_8.out BK144.out (by decide)) (fun _ hk => hk.2) (.int .i64 (wrap64 (x145001_1 + 1)))) (fun _ hk => hk.1)⟩, ⟨by (with_reducible repeat (first | apply Kd.R_alloc | apply Kd.R_drewN | apply Kd.R_drew)); exact Kd.R_mono (Kd.R_far (p := ⟨gb144, 1, none⟩) (Kd.R_types HO_11.out BK144.out (by decide)) (fun _ hk => hk.2) (.int .i64 (wrap64 (x145001_1 + 1)))) (fun _ hk => trivial)⟩, ⟨by (with_reducible repeat (first | apply Kd.S_alloc | apply Kd.S_drewN | apply Kd.S_drew)); exact Kd.S_mono (Kd.S_far (p := ⟨gb144, 1, none⟩) (Kd.S_types HO_8.out BK144.out (by decide)) (fun _ hk => hk.2) (.int .i64 (wrap64 (x145001_1 + 1)))) (fun _ hk => hk.1)⟩, ⟨by (with_reducible repeat (first | apply Kd.R_alloc | apply Kd.R_drewN | apply Kd.R_drew)); exact Kd.R_mono (Kd.R_far (p := ⟨gb144, 1, none⟩) (Kd.R_types HO_145000.out BK144.out (by decide)) (fun _ hk => hk.2) (.int .i64 (wrap64 (x145001_1 + 1)))) (fun _ hk => trivial)⟩, ⟨by (with_reducible repeat (first | refine blk_drewN ?_ _ | refine blk_drew ?_ | refine blk_alloc ?_ _)); refine blk_far ?_ NB136_144.out _; (with_reducible repeat (first | refine blk_drewN ?_ _ | refine blk_drew ?_ | refine blk_alloc ?_ _)); exact BK136.out⟩, ⟨by (with_reducible repeat (first | refine blk_drewN ?_ _ | refine blk_drew ?_ | refine blk_alloc ?_ _)); refine blk_put (cs := #[.slice Ao24 x145000_1.length co24, .int .i64 x145001_1, .bool x145002_1]) ?_ 1 _ rfl; (with_reducible repeat (first | refine blk_drewN ?_ _ | refine blk_drew ?_ | refine blk_alloc ?_ _)); exact BK144.out⟩, ⟨by repeat (first | (with_reducible first | exact HB.out | apply below_alloc | apply bN | apply bD | refine below_set ?_ GE136.out | refine below_set ?_ GE144.out) | exact HB.out)⟩, ⟨by (with_reducible repeat (first | refine bmap_drewN ?_ _ | refine bmap_drew ?_)); refine bmap_set ?_ (bmap_ne HM12.out BK144.out) _; (with_reducible repeat (first | refine bmap_drewN ?_ _ | refine bmap_drew ?_)); exact HM12.out⟩⟩
        case round =>
         clear H'
         try clear c1
         try clear c2
         try clear p2
         try clear c3
         try clear c4
         try clear c5
         try clear c6
         try clear c6b0
         try clear c6b1
         try clear p6
         try clear c7
         try clear c7b0
         try clear c7b1
         try clear c8
         try clear c8b0
         try clear c8b1
         try clear c16
         try clear c21
         try clear c22
         try clear hcz17_0
         try clear hcz17_1
         try clear hcz17_2
         try clear hcz23_0
         try clear hcz23_1
         try clear hcz23_2
         try clear hfz17_0
         try clear hfz17_1
         try clear hfz17_2
         try clear hfz23_0
         try clear hfz23_1
         try clear hfz23_2
         try clear p2
         obtain ⟨x11_2, x12_2, x13_2, x45_2, x145000_2, u145000, rfl, rfl, HA, HK2, HO_8, HO_11, HO_43, HO_145000, BK136, BK144, HB, HM12⟩ := hrel
         cases gk with
         | zero => exact absurd HA.out (by simp [impl_RunWorms.l1])
         | succ k2 =>
          have H := HA.out
          clear HA
          simp only [impl_RunWorms.l1] at H
          have LM12 : x12_2.length < 17592186044416 := by
           by_cases c : x12_2.length < 17592186044416
           ·
            exact c
           ·
            rw [if_neg c] at H
            exact absurd H (by simp)
          rw [if_pos LM12] at H
          replace LM12 := aM LM12
          by_cases c25 : x45_2 < (t137.length : Int)
          ·
           rw [if_pos c25] at H
           have c25b0 : decide (x45_2 < (t137.length : Int)) = true := decide_eq_true c25
           clear c25
           by_cases c26 : 0 ≤ x45_2
           ·
            rw [if_pos c26] at H
            have c26b0 : decide (0 ≤ x45_2) = true := decide_eq_true c26
            clear c26
            by_cases c27 : x45_2 < (t137.length : Int)
            ·
             rw [if_pos c27] at H
             have c27b0 : decide (x45_2 < (t137.length : Int)) = true := decide_eq_true c27
             clear c27
             by_cases c28 : x45_2 < (x11_2.length : Int)
             ·
              rw [if_pos c28] at H
              have c28b0 : decide (x45_2 < (x11_2.length : Int)) = true := decide_eq_true c28
              clear c28
              by_cases c29 : x45_2 < (x145000_2.length : Int)
              ·
               rw [if_pos c29] at H
               have c29b0 : decide (x45_2 < (x145000_2.length : Int)) = true := decide_eq_true c29
               clear c29
               obtain ⟨bq30, hbq30⟩ : ∃ b_ : Bool, b_ = (rdOf false x145000_2 x45_2) := ⟨_, rfl⟩
               replace H : (if bq30 = true then (impl_RunWorms.l1 k2 t137 x11_2 x12_2 x13_2 t137 (t137.length : Int) (wrap64 (x45_2 + 1)) x145000_2 (wrap64 (x145001_1 + 1)) x145002_1) else (if (rd x11_2 x45_2) = ((rd_L2 t137 x45_2).length : Int) then (if (rd x11_2 x45_2) > 0 then (if 0 ≤ (wrap64 ((rd x11_2 x45_2) - 1)) then (if (wrap64 ((rd x11_2 x45_2) - 1)) < ((rd_L2 t137 x45_2).length : Int) then (impl_RunWorms.l1 k2 t137 x11_2 (((rd (rd_L2 t137 x45_2) (wrap64 ((rd x11_2 x45_2) - 1))), false) :: x12_2) true t137 (t137.length : Int) (wrap64 (x45_2 + 1)) (x145000_2.set (x45_2 : Int).toNat true) (wrap64 (x145001_1 + 1)) x145002_1) else (none)) else (none)) else (impl_RunWorms.l1 k2 t137 x11_2 x12_2 true t137 (t137.length : Int) (wrap64 (x45_2 + 1)) (x145000_2.set (x45_2 : Int).toNat true) (wrap64 (x145001_1 + 1)) x145002_1)) else (if 0 ≤ (rd x11_2 x45_2) then (if (rd x11_2 x45_2) < ((rd_L2 t137 x45_2).length : Int) then (if mget x12_2 (rd (rd_L2 t137 x45_2) (rd x11_2 x45_2)) = true then (impl_RunWorms.l1 k2 t137 x11_2 x12_2 x13_2 t137 (t137.length : Int) (wrap64 (x45_2 + 1)) x145000_2 (wrap64 (x145001_1 + 1)) x145002_1) else (if (rd x11_2 x45_2) > 0 then (if 0 ≤ (wrap64 ((rd x11_2 x45_2) - 1)) then (if (wrap64 ((rd x11_2 x45_2) - 1)) < ((rd_L2 t137 x45_2).length : Int) then (impl_RunWorms.l1 k2 t137 (x11_2.set (x45_2 : Int).toNat (wrap64 ((rd x11_2 x45_2) + 1))) (((rd (rd_L2 t137 x45_2) (rd x11_2 x45_2)), true) :: (((rd (rd_L2 t137 x45_2) (wrap64 ((rd x11_2 x45_2) - 1))), false) :: x12_2)) true t137 (t137.length : Int) (wrap64 (x45_2 + 1)) x145000_2 (wrap64 (x145001_1 + 1)) x145002_1) else (none)) else (none)) else (impl_RunWorms.l1 k2 t137 (x11_2.set (x45_2 : Int).toNat (wrap64 ((rd x11_2 x45_2) + 1))) (((rd (rd_L2 t137 x45_2) (rd x11_2 x45_2)), true) :: x12_2) true t137 (t137.length : Int) (wrap64 (x45_2 + 1)) x145000_2 (wrap64 (x145001_1 + 1)) x145002_1))) else (none)) else (none)))) = some (r1, r2, r3, r4) := by rw [← hbq30] at H; exact H
               have Nbq30 := aM hbq30
               clear hbq30
               by_cases c31 : bq30 = true
               ·
                subst c31
                have H1 : (impl_RunWorms.l1 k2 t137 x11_2 x12_2 x13_2 t137 (t137.length : Int) (wrap64 (x45_2 + 1)) x145000_2 (wrap64 (x145001_1 + 1)) x145002_1) = some (r1, r2, r3, r4) := by rw [if_pos rfl] at H; exact H
                clear H
                have H := H1
                clear H1
                have H' := aM H
                clear H
                have p149 : 0 ≤ (x45_2 : Int) := of_decide_eq_true (by assumption)
                have q149 : x45_2 < (t137.length : Int) := of_decide_eq_true (by assumption)
                obtain ⟨ad149, A149_0, c149_0, e149, hx149_0, hl149_0, hi149_0⟩ := at_L2 (Kd.S_reads' HO_43.out).2.2 x45_2 p149 q149
                cases e149
                obtain ⟨ce149, hce149, hMe149, hcc149⟩ := Kd.S_get HO_43.out [] x45_2 p149 (by first | exact q149 | exact of_decide_eq_true (by assumption) | (have e_ := (Kd.S_reads' HO_43.out).1; omega))
                obtain ⟨ve149_0, rfl, ge149_0⟩ := hMe149
                have hv149_0 := hcc149 0 _ rfl
                rw [Nat.add_zero, show ((Kd.slice 3 (Kd.int .i64))).sz = 1 from rfl, Nat.mul_one] at hv149_0
                replace hv149_0 := Option.some.inj (hv149_0.symm.trans hx149_0)
                rw [hv149_0] at ge149_0
                have HL149_0 := aM (show Kd.R (Kd.int .i64) 3 _ _ _ _ (rd_L2 t137 x45_2) from ge149_0)
                clear hv149_0 ge149_0
                clear hcc149 hce149
                have HR149_0 := aM hi149_0
                have HC149_0 := aM hl149_0
                clear hi149_0 hl149_0
                replace p149 := eq_true p149
                replace q149 := eq_true q149
                obtain ⟨Ao32, co32, eo32⟩ := Kd.R_slice HO_11.out
                subst eo32
                have p150 : 0 ≤ (x45_2 : Int) := of_decide_eq_true (by assumption)
                have q150 : x45_2 < (x11_2.length : Int) := of_decide_eq_true (by assumption)
                obtain ⟨ad150, e150, hx150_0⟩ := Kd.at_int (Kd.R_reads' HO_11.out).2.2 x45_2 p150 q150
                cases e150
                replace p150 := eq_true p150
                replace q150 := eq_true q150
                have hnb33 := NB144_136.out
                have hnc33 := NB136_144.out
                have hcz34_0 : wr.cell? ⟨gb144, 0, none⟩ = some (u145000) := (blk_cell BK144.out 0).trans rfl
                have hcz34_1 : wr.cell? ⟨gb144, 1, none⟩ = some (.int .i64 (wrap64 (x145001_1 + 1))) := (blk_cell BK144.out 1).trans rfl
                have hcz34_2 : wr.cell? ⟨gb144, 2, none⟩ = some (.bool x145002_1) := (blk_cell BK144.out 2).trans rfl
                have hfz34_0 := blk_frozen BK144.out 0
                have hfz34_1 := blk_frozen BK144.out 1
                have hfz34_2 := blk_frozen BK144.out 2
                obtain ⟨Ao35, co35, eo35⟩ := Kd.R_slice HO_145000.out
                subst eo35
                have p151 : 0 ≤ (x45_2 : Int) := of_decide_eq_true (by assumption)
                have q151 : x45_2 < (x145000_2.length : Int) := of_decide_eq_true (by assumption)
                obtain ⟨ad151, e151, hx151_0⟩ := Kd.at_bool (Kd.R_reads' HO_145000.out).2.2 x45_2 p151 q151
                (try rw [← Nbq30.out] at hx151_0)
                cases e151
                replace p151 := eq_true p151
                replace q151 := eq_true q151
                go_wp2
                go_roundg k2
                case measure => have := HK1.out; have := HK2.out; omega
                case rel => exact ⟨(x11_2), (x12_2), (x13_2), (wrap64 (x45_2 + 1)), (x145000_2), (.slice (some ad151) x145000_2.length co35), (by first | rfl | (simp; done) | (simp [*]; done)), (by first | rfl | (simp; done) | (simp [*]; done)), H', ⟨by have := HK1.out; have := HK2.out; omega⟩, ⟨by (with_reducible repeat (first | apply Kd.S_alloc | apply Kd.S_drewN | apply Kd.S_drew)); exact HO_8.out⟩, ⟨by (with_reducible repeat (first | apply Kd.R_alloc | apply Kd.R_drewN | apply Kd.R_drew)); exact HO_11.out⟩, ⟨by (with_reducible repeat (first | apply Kd.S_alloc | apply Kd.S_drewN | apply Kd.S_drew)); exact HO_43.out⟩, ⟨by (with_reducible repeat (first | apply Kd.R_alloc | apply Kd.R_drewN | apply Kd.R_drew)); exact HO_145000.out⟩, ⟨by (with_reducible repeat (first | refine blk_drewN ?_ _ | refine blk_drew ?_ | refine blk_alloc ?_ _)); exact BK136.out⟩, ⟨by (with_reducible repeat (first | refine blk_drewN ?_ _ | refine blk_drew ?_ | refine blk_alloc ?_ _)); exact BK144.out⟩, ⟨by repeat (first | (with_reducible first | exact HB.out | apply below_alloc | apply bN | apply bD | refine below_set ?_ GE136.out | refine below_set ?_ GE144.out) | exact HB.out)⟩, ⟨by (with_reducible repeat (first | refine bmap_drewN ?_ _ | refine bmap_drew ?_)); exact HM12.out⟩⟩
               ·
                replace c31 := Bool.eq_false_iff.mpr c31
                subst c31
                have H1 : (if (rd x11_2 x45_2) = ((rd_L2 t137 x45_2).length : Int) then (if (rd x11_2 x45_2) > 0 then (if 0 ≤ (wrap64 ((rd x11_2 x45_2) - 1)) then (if (wrap64 ((rd x11_2 x45_2) - 1)) < ((rd_L2 t137 x45_2).length : Int) then (impl_RunWorms.l1 k2 t137 x11_2 (((rd (rd_L2 t137 x45_2) (wrap64 ((rd x11_2 x45_2) - 1))), false) :: x12_2) true t137 (t137.length : Int) (wrap64 (x45_2 + 1)) (x145000_2.set (x45_2 : Int).toNat true) (wrap64 (x145001_1 + 1)) x145002_1) else (none)) else (none)) else (impl_RunWorms.l1 k2 t137 x11_2 x12_2 true t137 (t137.length : Int) (wrap64 (x45_2 + 1)) (x145000_2.set (x45_2 : Int).toNat true) (wrap64 (x145001_1 + 1)) x145002_1)) else (if 0 ≤ (rd x11_2 x45_2) then (if (rd x11_2 x45_2) < ((rd_L2 t137 x45_2).length : Int) then (if mget x12_2 (rd (rd_L2 t137 x45_2) (rd x11_2 x45_2)) = true then (impl_RunWorms.l1 k2 t137 x11_2 x12_2 x13_2 t137 (t137.length : Int) (wrap64 (x45_2 + 1)) x145000_2 (wrap64 (x145001_1 + 1)) x145002_1) else (if (rd x11_2 x45_2) > 0 then (if 0 ≤ (wrap64 ((rd x11_2 x45_2) - 1)) then (if (wrap64 ((rd x11_2 x45_2) - 1)) < ((rd_L2 t137 x45_2).length : Int) then (impl_RunWorms.l1 k2 t137 (x11_2.set (x45_2 : Int).toNat (wrap64 ((rd x11_2 x45_2) + 1))) (((rd (rd_L2 t137 x45_2) (rd x11_2 x45_2)), true) :: (((rd (rd_L2 t137 x45_2) (wrap64 ((rd x11_2 x45_2) - 1))), false) :: x12_2)) true t137 (t137.length : Int) (wrap64 (x45_2 + 1)) x145000_2 (wrap64 (x145001_1 + 1)) x145002_1) else (none)) else (none)) else (impl_RunWorms.l1 k2 t137 (x11_2.set (x45_2 : Int).toNat (wrap64 ((rd x11_2 x45_2) + 1))) (((rd (rd_L2 t137 x45_2) (rd x11_2 x45_2)), true) :: x12_2) true t137 (t137.length : Int) (wrap64 (x45_2 + 1)) x145000_2 (wrap64 (x145001_1 + 1)) x145002_1))) else (none)) else (none))) = some (r1, r2, r3, r4) := by rw [if_neg (show ¬ (false = true) by decide)] at H; exact H
                clear H
                have H := H1
                clear H1
                by_cases c36 : (rd x11_2 x45_2) = ((rd_L2 t137 x45_2).length : Int)
                ·
                 rw [if_pos c36] at H
                 have c36b0 : ((rd x11_2 x45_2) == ((rd_L2 t137 x45_2).length : Int)) = true := beq_iff_eq.mpr c36
                 have c36b1 : ((rd x11_2 x45_2) != ((rd_L2 t137 x45_2).length : Int)) = false := bne_eq_false_iff_eq.mpr c36
                 clear c36
                 by_cases c37 : (rd x11_2 x45_2) > 0
                 ·
                  rw [if_pos c37] at H
                  have c37b0 : decide (0 < (rd x11_2 x45_2)) = true := decide_eq_true c37
                  clear c37
                  obtain ⟨ji38, hji38⟩ : ∃ j_ : Int, (wrap64 ((rd x11_2 x45_2) - 1)) = j_ := ⟨_, rfl⟩
                  replace H : (if 0 ≤ (ji38) then (if (ji38) < ((rd_L2 t137 x45_2).length : Int) then (impl_RunWorms.l1 k2 t137 x11_2 (((rd (rd_L2 t137 x45_2) (ji38)), false) :: x12_2) true t137 (t137.length : Int) (wrap64 (x45_2 + 1)) (x145000_2.set (x45_2 : Int).toNat true) (wrap64 (x145001_1 + 1)) x145002_1) else (none)) else (none)) = some (r1, r2, r3, r4) := by first | (rw [hji38] at H; exact H) | (simp only [hji38] at H ⊢; exact H)
                  have hji38w : (IntKind.i64.wrap ((rd x11_2 x45_2) - 1)) = ji38 := (i64_w _).trans hji38
                  by_cases c39 : 0 ≤ (ji38)
                  ·
                   rw [if_pos c39] at H
                   have c39b0 : decide (0 ≤ (ji38)) = true := decide_eq_true c39
                   clear c39
                   by_cases c40 : (ji38) < ((rd_L2 t137 x45_2).length : Int)
                   ·
                    rw [if_pos c40] at H
                    have c40b0 : decide ((ji38) < ((rd_L2 t137 x45_2).length : Int)) = true := decide_eq_true c40
                    clear c40
                    obtain ⟨y153, hy153⟩ : ∃ y_ : List Bool, y_ = (x145000_2.set (x45_2 : Int).toNat true) := ⟨_, rfl⟩
                    replace H : (impl_RunWorms.l1 k2 t137 x11_2 (((rd (rd_L2 t137 x45_2) (ji38)), false) :: x12_2) true t137 (t137.length : Int) (wrap64 (x45_2 + 1)) y153 (wrap64 (x145001_1 + 1)) x145002_1) = some (r1, r2, r3, r4) := by first | (rw [hy153]; with_reducible exact H) | (have H2_ := (Option.bind_some _ _).symm.trans H; rw [hy153]; with_reducible exact H2_) | (have H2_ := (Option.bind_some _ _).symm.trans H; with_reducible exact H2_) | with_reducible exact H | (rw [hy153]; exact H) | exact H
                    have Ny153 := aM hy153
                    clear hy153
                    have H' := aM H
                    clear H
                    have p149 : 0 ≤ (x45_2 : Int) := of_decide_eq_true (by assumption)
                    have q149 : x45_2 < (t137.length : Int) := of_decide_eq_true (by assumption)
                    obtain ⟨ad149, A149_0, c149_0, e149, hx149_0, hl149_0, hi149_0⟩ := at_L2 (Kd.S_reads' HO_43.out).2.2 x45_2 p149 q149
                    cases e149
                    obtain ⟨ce149, hce149, hMe149, hcc149⟩ := Kd.S_get HO_43.out [] x45_2 p149 (by first | exact q149 | exact of_decide_eq_true (by assumption) | (have e_ := (Kd.S_reads' HO_43.out).1; omega))
                    obtain ⟨ve149_0, rfl, ge149_0⟩ := hMe149
                    have hv149_0 := hcc149 0 _ rfl
                    rw [Nat.add_zero, show ((Kd.slice 3 (Kd.int .i64))).sz = 1 from rfl, Nat.mul_one] at hv149_0
                    replace hv149_0 := Option.some.inj (hv149_0.symm.trans hx149_0)
                    rw [hv149_0] at ge149_0
                    have HL149_0 := aM (show Kd.R (Kd.int .i64) 3 _ _ _ _ (rd_L2 t137 x45_2) from ge149_0)
                    clear hv149_0 ge149_0
                    clear hcc149 hce149
                    have HR149_0 := aM hi149_0
                    have HC149_0 := aM hl149_0
                    clear hi149_0 hl149_0
                    replace p149 := eq_true p149
                    replace q149 := eq_true q149
                    obtain ⟨Ao42, co42, eo42⟩ := Kd.R_slice HO_11.out
                    subst eo42
                    have p150 : 0 ≤ (x45_2 : Int) := of_decide_eq_true (by assumption)
                    have q150 : x45_2 < (x11_2.length : Int) := of_decide_eq_true (by assumption)
                    obtain ⟨ad150, e150, hx150_0⟩ := Kd.at_int (Kd.R_reads' HO_11.out).2.2 x45_2 p150 q150
                    cases e150
                    replace p150 := eq_true p150
                    replace q150 := eq_true q150
                    have hnb43 := NB144_136.out
                    have hnc43 := NB136_144.out
                    have hcz44_0 : wr.cell? ⟨gb144, 0, none⟩ = some (u145000) := (blk_cell BK144.out 0).trans rfl
                    have hcz44_1 : wr.cell? ⟨gb144, 1, none⟩ = some (.int .i64 (wrap64 (x145001_1 + 1))) := (blk_cell BK144.out 1).trans rfl
                    have hcz44_2 : wr.cell? ⟨gb144, 2, none⟩ = some (.bool x145002_1) := (blk_cell BK144.out 2).trans rfl
                    have hfz44_0 := blk_frozen BK144.out 0
                    have hfz44_1 := blk_frozen BK144.out 1
                    have hfz44_2 := blk_frozen BK144.out 2
                    obtain ⟨Ao45, co45, eo45⟩ := Kd.R_slice HO_145000.out
                    subst eo45
                    have p151 : 0 ≤ (x45_2 : Int) := of_decide_eq_true (by assumption)
                    have q151 : x45_2 < (x145000_2.length : Int) := of_decide_eq_true (by assumption)
                    obtain ⟨ad151, e151, hx151_0⟩ := Kd.at_bool (Kd.R_reads' HO_145000.out).2.2 x45_2 p151 q151
                    (try rw [← Nbq30.out] at hx151_0)
                    cases e151
                    replace p151 := eq_true p151
                    replace q151 := eq_true q151
                    have p152 : 0 ≤ ((ji38) : Int) := of_decide_eq_true (by assumption)
                    have q152 : (ji38) < ((rd_L2 t137 x45_2).length : Int) := of_decide_eq_true (by assumption)
                    obtain ⟨ad152, e152, hx152_0⟩ := Kd.at_int (by repeat (first | (with_reducible exact HR149_0.out) | (with_reducible refine Kd.C_alloc ?_ _) | (with_reducible refine Kd.C_drewN ?_ _) | (with_reducible refine Kd.C_drew ?_) | exact HR149_0.out)) (ji38) p152 q152
                    cases e152
                    replace p152 := eq_true p152
                    replace q152 := eq_true q152
                    go_wp2_with (first | ((at_mapUpdate); refine wpList_mapUpdate_bmap _ rfl (.tmp 86) (.tmp 91) _ 58 rfl 3 4 (Go.Maps.int_keyed Try.underlying3) Try.underlying58 Try.underlying3 Try.underlying4 gb12 x12_2 rfl HM12.out (by have := LM12.out; (try simp only [List.length_cons]); unfold maxLen; omega) (rd (rd_L2 t137 x45_2) (ji38)) false rfl rfl (wfAll_rd WFA.out x45_2 (ji38)) ?_; intro wm1 hm hg; have n0_ := aM (S_map_grown HO_8.out HM12.out hg); have n1_ := aM (S_map_grown HO_43.out HM12.out hg); have n2_ := aM (R_map_grown HO_11.out HM12.out hg); have n3_ := aM (R_map_grown HO_145000.out HM12.out hg); have n4_ := aM (R_map_grown HL149_0.out HM12.out hg); have n5_ := aM (blk_map_grown BK136.out HM12.out hg); have n6_ := aM (blk_map_grown BK144.out HM12.out hg); have n7_ := aM (pw_below_grown HB.out _ (below_size HB.out) hg (fun k_ e_ => by cases e_; exact GE12.out)); have n8_ := cell_map_grown hx149_0 HM12.out hg; have n9_ := cell_map_grown hx150_0 HM12.out hg; have n10_ := cell_map_grown hcz44_0 HM12.out hg; have n11_ := cell_map_grown hcz44_1 HM12.out hg; have n12_ := cell_map_grown hcz44_2 HM12.out hg; have n13_ := cell_map_grown hx151_0 HM12.out hg; have n14_ := cell_map_grown hx152_0 HM12.out hg; have n15_ := aM hm; clear HO_8; clear HO_43; clear HO_11; clear HO_145000; clear HL149_0; clear BK136; clear BK144; clear HB; clear hx149_0; clear hx150_0; clear hcz44_0; clear hcz44_1; clear hcz44_2; clear hx151_0; clear hx152_0; clear HM12; have HO_8 := n0_; have HO_43 := n1_; have HO_11 := n2_; have HO_145000 := n3_; have HL149_0 := n4_; have BK136 := n5_; have BK144 := n6_; have HB := n7_; have hx149_0 := n8_; have hx150_0 := n9_; have hcz44_0 := n10_; have hcz44_1 := n11_; have hcz44_2 := n12_; have hx151_0 := n13_; have hx152_0 := n14_; have HM12 := n15_; clear n0_ n1_ n2_ n3_ n4_ n5_ n6_ n7_ n8_ n9_ n10_ n11_ n12_ n13_ n14_ n15_; clear hm hg; have p41 : 0 ≤ (x45_2 : Int) := of_decide_eq_true (by assumption); have q41 : (x45_2 : Int) < ((x145000_2.length : Int) : Int) := of_decide_eq_true (by assumption); obtain ⟨go41, co41, eo41, gb41, gl41, cl41, HG41⟩ := Kd.R_form HO_145000.out (by omega); (first | cases eo41 | (injection eo41 with ea_ en_ ec_; (first | subst ea_ | (injection ea_ with ea_; subst ea_)); subst ec_; clear en_)); have GB41 := aM gb41; have GG41 := aM HG41; clear gb41 gl41 HG41; (first | simp only [add_plain] at hx151_0 | skip); obtain ⟨hx41_0, hf41_0⟩ := Kd.R_celln false HO_145000.out (x45_2 : Int) p41 q41; replace p41 := eq_true p41; replace q41 := eq_true q41; have HP46 := Kd.R_putg HO_145000.out (x45_2 : Int) true) | ((with_reducible refine gate_store (t := 4) (p := 95) rfl ?_); refine store_event (t := 4) (p := 95) (v := ?vo_w47) (w1 := (wm1.setCell ⟨go41, (x45_2 : Int).toNat, none⟩ (.bool true))) ?hg ?ho ?hn ?hr ?_; (case ho => rfl); (case hg => rfl); (case hn => rfl); (case hr => first | (go_simp; done) | (go_simp; rfl)); intro w47 hw; have hg : wm1.grownBy w47 (some go41) := (by rw [hw]; exact HP46.2); have hp_ : Kd.R Kd.bool 4 w47 w.heap.size (fun _ => True) (.slice (some ⟨go41, 0, none⟩) x145000_2.length co45) y153 := (by rw [hw, Ny153.out]; exact HP46.1); clear HP46; have n0_ := aM (Kd.S_over' (v := (.slice (some ⟨go41, 0, none⟩) x145000_2.length co45)) (by (with_reducible repeat (first | apply Kd.S_alloc | apply Kd.S_drewN | apply Kd.S_drew)); exact HO_8.out) (Kd.R_typed HO_145000.out) (by decide) hg); have n1_ := aM (Kd.R_over' (v := (.slice (some ⟨go41, 0, none⟩) x145000_2.length co45)) (by (with_reducible repeat (first | apply Kd.R_alloc | apply Kd.R_drewN | apply Kd.R_drew)); exact HO_11.out) (Kd.R_typed HO_145000.out) (by decide) hg); have n2_ := aM (Kd.S_over' (v := (.slice (some ⟨go41, 0, none⟩) x145000_2.length co45)) (by (with_reducible repeat (first | apply Kd.S_alloc | apply Kd.S_drewN | apply Kd.S_drew)); exact HO_43.out) (Kd.R_typed HO_145000.out) (by decide) hg); have n3_ := aM (hp_); have n4_ := aM (blk_grown (g := gb136) (o := .cells #[.slice none 0 0, .int .i64 0, .bool false] 33 (0, 0)) (by (with_reducible repeat (first | refine blk_drewN ?_ _ | refine blk_drew ?_ | refine blk_alloc ?_ _)); exact BK136.out) hg (Kd.R_ne HO_145000.out BK136.out (by decide))); have n5_ := aM (blk_grown (g := gb144) (o := .cells #[.slice (some ⟨go41, 0, none⟩) x145000_2.length co45, .int .i64 (wrap64 (x145001_1 + 1)), .bool x145002_1] 33 (0, 0)) (by (with_reducible repeat (first | refine blk_drewN ?_ _ | refine blk_drew ?_ | refine blk_alloc ?_ _)); exact BK144.out) hg (Kd.R_ne HO_145000.out BK144.out (by decide))); have n6_ := aM (Kd.R_over' (v := (.slice (some ⟨go41, 0, none⟩) x145000_2.length co45)) (by (with_reducible repeat (first | apply Kd.R_alloc | apply Kd.R_drewN | apply Kd.R_drew)); exact HL149_0.out) (Kd.R_typed HO_145000.out) (by decide) hg); have n7_ := aM ((by rw [hw]; exact below_set (HB.out) GB41.out : Below w.heap.size w w47)); have n9_ := aM (bmap_kept HM12.out hg (fun e_ => bmap_ne HM12.out GG41.out (Option.some.inj e_))); clear HO_8; clear HO_11; clear HO_43; clear HO_145000; clear BK136; clear BK144; clear HL149_0; clear HB; have HO_8 := n0_; have HO_11 := n1_; have HO_43 := n2_; have HO_145000 := n3_; have BK136 := n4_; have BK144 := n5_; have HL149_0 := n6_; have HB := n7_; clear HM12; have HM12 := n9_; clear n9_; clear n0_ n1_ n2_ n3_ n4_ n5_ n6_ n7_; clear hg hw hp_))
                    go_roundg k2
                    case measure => have := HK1.out; have := HK2.out; omega
                    case rel => exact ⟨(x11_2), (((rd (rd_L2 t137 x45_2) (ji38)), false) :: x12_2), (true), (wrap64 (x45_2 + 1)), (y153), (.slice (some ⟨go41, 0, none⟩) x145000_2.length co45), (by first | rfl | (simp; done) | (simp [*]; done)), (by first | rfl | (simp; done) | (simp [*]; done)), H', ⟨by have := HK1.out; have := HK2.out; omega⟩, ⟨by (with_reducible repeat (first | apply Kd.S_alloc | apply Kd.S_drewN | apply Kd.S_drew)); exact HO_8.out⟩, ⟨by (with_reducible repeat (first | apply Kd.R_alloc | apply Kd.R_drewN | apply Kd.R_drew)); exact HO_11.out⟩, ⟨by (with_reducible repeat (first | apply Kd.S_alloc | apply Kd.S_drewN | apply Kd.S_drew)); exact HO_43.out⟩, ⟨by (with_reducible repeat (first | apply Kd.R_alloc | apply Kd.R_drewN | apply Kd.R_drew)); exact HO_145000.out⟩, ⟨by (with_reducible repeat (first | refine blk_drewN ?_ _ | refine blk_drew ?_ | refine blk_alloc ?_ _)); exact BK136.out⟩, ⟨by (with_reducible repeat (first | refine blk_drewN ?_ _ | refine blk_drew ?_ | refine blk_alloc ?_ _)); exact BK144.out⟩, ⟨by repeat (first | (with_reducible first | exact HB.out | apply below_alloc | apply bN | apply bD | refine below_set ?_ GE136.out | refine below_set ?_ GE144.out) | exact HB.out)⟩, ⟨by (with_reducible repeat (first | refine bmap_drewN ?_ _ | refine bmap_drew ?_)); exact HM12.out⟩⟩
                   ·
                    rw [if_neg c40] at H
                    exact absurd H (by simp)
                  ·
                   rw [if_neg c39] at H
                   exact absurd H (by simp)
                 ·
                  rw [if_neg c37] at H
                  have c37b0 : decide (0 < (rd x11_2 x45_2)) = false := decide_eq_false c37
                  clear c37
                  obtain ⟨y154, hy154⟩ : ∃ y_ : List Bool, y_ = (x145000_2.set (x45_2 : Int).toNat true) := ⟨_, rfl⟩
                  replace H : (impl_RunWorms.l1 k2 t137 x11_2 x12_2 true t137 (t137.length : Int) (wrap64 (x45_2 + 1)) y154 (wrap64 (x145001_1 + 1)) x145002_1) = some (r1, r2, r3, r4) := by first | (rw [hy154]; with_reducible exact H) | (have H2_ := (Option.bind_some _ _).symm.trans H; rw [hy154]; with_reducible exact H2_) | (have H2_ := (Option.bind_some _ _).symm.trans H; with_reducible exact H2_) | with_reducible exact H | (rw [hy154]; exact H) | exact H
                  have Ny154 := aM hy154
                  clear hy154
                  have H' := aM H
                  clear H
                  have p149 : 0 ≤ (x45_2 : Int) := of_decide_eq_true (by assumption)
                  have q149 : x45_2 < (t137.length : Int) := of_decide_eq_true (by assumption)
                  obtain ⟨ad149, A149_0, c149_0, e149, hx149_0, hl149_0, hi149_0⟩ := at_L2 (Kd.S_reads' HO_43.out).2.2 x45_2 p149 q149
                  cases e149
                  obtain ⟨ce149, hce149, hMe149, hcc149⟩ := Kd.S_get HO_43.out [] x45_2 p149 (by first | exact q149 | exact of_decide_eq_true (by assumption) | (have e_ := (Kd.S_reads' HO_43.out).1; omega))
                  obtain ⟨ve149_0, rfl, ge149_0⟩ := hMe149
                  have hv149_0 := hcc149 0 _ rfl
                  rw [Nat.add_zero, show ((Kd.slice 3 (Kd.int .i64))).sz = 1 from rfl, Nat.mul_one] at hv149_0
                  replace hv149_0 := Option.some.inj (hv149_0.symm.trans hx149_0)
                  rw [hv149_0] at ge149_0
                  have HL149_0 := aM (show Kd.R (Kd.int .i64) 3 _ _ _ _ (rd_L2 t137 x45_2) from ge149_0)
                  clear hv149_0 ge149_0
                  clear hcc149 hce149
                  have HR149_0 := aM hi149_0
                  have HC149_0 := aM hl149_0
                  clear hi149_0 hl149_0
                  replace p149 := eq_true p149
                  replace q149 := eq_true q149
                  obtain ⟨Ao49, co49, eo49⟩ := Kd.R_slice HO_11.out
                  subst eo49
                  have p150 : 0 ≤ (x45_2 : Int) := of_decide_eq_true (by assumption)
                  have q150 : x45_2 < (x11_2.length : Int) := of_decide_eq_true (by assumption)
                  obtain ⟨ad150, e150, hx150_0⟩ := Kd.at_int (Kd.R_reads' HO_11.out).2.2 x45_2 p150 q150
                  cases e150
                  replace p150 := eq_true p150
                  replace q150 := eq_true q150
                  have hnb50 := NB144_136.out
                  have hnc50 := NB136_144.out
                  have hcz51_0 : wr.cell? ⟨gb144, 0, none⟩ = some (u145000) := (blk_cell BK144.out 0).trans rfl
                  have hcz51_1 : wr.cell? ⟨gb144, 1, none⟩ = some (.int .i64 (wrap64 (x145001_1 + 1))) := (blk_cell BK144.out 1).trans rfl
                  have hcz51_2 : wr.cell? ⟨gb144, 2, none⟩ = some (.bool x145002_1) := (blk_cell BK144.out 2).trans rfl
                  have hfz51_0 := blk_frozen BK144.out 0
                  have hfz51_1 := blk_frozen BK144.out 1
                  have hfz51_2 := blk_frozen BK144.out 2
                  obtain ⟨Ao52, co52, eo52⟩ := Kd.R_slice HO_145000.out
                  subst eo52
                  have p151 : 0 ≤ (x45_2 : Int) := of_decide_eq_true (by assumption)
                  have q151 : x45_2 < (x145000_2.length : Int) := of_decide_eq_true (by assumption)
                  obtain ⟨ad151, e151, hx151_0⟩ := Kd.at_bool (Kd.R_reads' HO_145000.out).2.2 x45_2 p151 q151
                  (try rw [← Nbq30.out] at hx151_0)
                  cases e151
                  replace p151 := eq_true p151
                  replace q151 := eq_true q151
                  have p48 : 0 ≤ (x45_2 : Int) := of_decide_eq_true (by assumption)
                  have q48 : (x45_2 : Int) < ((x145000_2.length : Int) : Int) := of_decide_eq_true (by assumption)
                  obtain ⟨go48, co48, eo48, gb48, gl48, cl48, HG48⟩ := Kd.R_form HO_145000.out (by omega)
                  (first | cases eo48 | (injection eo48 with ea_ en_ ec_; (first | subst ea_ | (injection ea_ with ea_; subst ea_)); subst ec_; clear en_))
                  have GB48 := aM gb48
                  have GG48 := aM HG48
                  clear gb48 gl48 HG48
                  (first | simp only [add_plain] at hx151_0 | skip)
                  obtain ⟨hx48_0, hf48_0⟩ := Kd.R_celln false HO_145000.out (x45_2 : Int) p48 q48
                  replace p48 := eq_true p48
                  replace q48 := eq_true q48
                  have HP53 := Kd.R_putg HO_145000.out (x45_2 : Int) true
                  go_wp2_with (first | ((with_reducible refine gate_store (t := 4) (p := 95) rfl ?_); refine store_event (t := 4) (p := 95) (v := ?vo_w54) (w1 := (wr.setCell ⟨go48, (x45_2 : Int).toNat, none⟩ (.bool true))) ?hg ?ho ?hn ?hr ?_; (case ho => rfl); (case hg => rfl); (case hn => rfl); (case hr => first | (go_simp; done) | (go_simp; rfl)); intro w54 hw; have hg : wr.grownBy w54 (some go48) := (by rw [hw]; exact HP53.2); have hp_ : Kd.R Kd.bool 4 w54 w.heap.size (fun _ => True) (.slice (some ⟨go48, 0, none⟩) x145000_2.length co52) y154 := (by rw [hw, Ny154.out]; exact HP53.1); clear HP53; have n0_ := aM (Kd.S_over' (v := (.slice (some ⟨go48, 0, none⟩) x145000_2.length co52)) (by (with_reducible repeat (first | apply Kd.S_alloc | apply Kd.S_drewN | apply Kd.S_drew)); exact HO_8.out) (Kd.R_typed HO_145000.out) (by decide) hg); have n1_ := aM (Kd.R_over' (v := (.slice (some ⟨go48, 0, none⟩) x145000_2.length co52)) (by (with_reducible repeat (first | apply Kd.R_alloc | apply Kd.R_drewN | apply Kd.R_drew)); exact HO_11.out) (Kd.R_typed HO_145000.out) (by decide) hg); have n2_ := aM (Kd.S_over' (v := (.slice (some ⟨go48, 0, none⟩) x145000_2.length co52)) (by (with_reducible repeat (first | apply Kd.S_alloc | apply Kd.S_drewN | apply Kd.S_drew)); exact HO_43.out) (Kd.R_typed HO_145000.out) (by decide) hg); have n3_ := aM (hp_); have n4_ := aM (blk_grown (g := gb136) (o := .cells #[.slice none 0 0, .int .i64 0, .bool false] 33 (0, 0)) (by (with_reducible repeat (first | refine blk_drewN ?_ _ | refine blk_drew ?_ | refine blk_alloc ?_ _)); exact BK136.out) hg (Kd.R_ne HO_145000.out BK136.out (by decide))); have n5_ := aM (blk_grown (g := gb144) (o := .cells #[.slice (some ⟨go48, 0, none⟩) x145000_2.length co52, .int .i64 (wrap64 (x145001_1 + 1)), .bool x145002_1] 33 (0, 0)) (by (with_reducible repeat (first | refine blk_drewN ?_ _ | refine blk_drew ?_ | refine blk_alloc ?_ _)); exact BK144.out) hg (Kd.R_ne HO_145000.out BK144.out (by decide))); have n6_ := aM (Kd.R_over' (v := (.slice (some ⟨go48, 0, none⟩) x145000_2.length co52)) (by (with_reducible repeat (first | apply Kd.R_alloc | apply Kd.R_drewN | apply Kd.R_drew)); exact HL149_0.out) (Kd.R_typed HO_145000.out) (by decide) hg); have n7_ := aM ((by rw [hw]; exact below_set (HB.out) GB48.out : Below w.heap.size w w54)); have n9_ := aM (bmap_kept HM12.out hg (fun e_ => bmap_ne HM12.out GG48.out (Option.some.inj e_))); clear HO_8; clear HO_11; clear HO_43; clear HO_145000; clear BK136; clear BK144; clear HL149_0; clear HB; have HO_8 := n0_; have HO_11 := n1_; have HO_43 := n2_; have HO_145000 := n3_; have BK136 := n4_; have BK144 := n5_; have HL149_0 := n6_; have HB := n7_; clear HM12; have HM12 := n9_; clear n9_; clear n0_ n1_ n2_ n3_ n4_ n5_ n6_ n7_; clear hg hw hp_))
                  go_roundg k2
                  case measure => have := HK1.out; have := HK2.out; omega
                  case rel => exact ⟨(x11_2), (x12_2), (true), (wrap64 (x45_2 + 1)), (y154), (.slice (some ⟨go48, 0, none⟩) x145000_2.length co52), (by first | rfl | (simp; done) | (simp [*]; done)), (by first | rfl | (simp; done) | (simp [*]; done)), H', ⟨by have := HK1.out; have := HK2.out; omega⟩, ⟨by (with_reducible repeat (first | apply Kd.S_alloc | apply Kd.S_drewN | apply Kd.S_drew)); exact HO_8.out⟩, ⟨by (with_reducible repeat (first | apply Kd.R_alloc | apply Kd.R_drewN | apply Kd.R_drew)); exact HO_11.out⟩, ⟨by (with_reducible repeat (first | apply Kd.S_alloc | apply Kd.S_drewN | apply Kd.S_drew)); exact HO_43.out⟩, ⟨by (with_reducible repeat (first | apply Kd.R_alloc | apply Kd.R_drewN | apply Kd.R_drew)); exact HO_145000.out⟩, ⟨by (with_reducible repeat (first | refine blk_drewN ?_ _ | refine blk_drew ?_ | refine blk_alloc ?_ _)); exact BK136.out⟩, ⟨by (with_reducible repeat (first | refine blk_drewN ?_ _ | refine blk_drew ?_ | refine blk_alloc ?_ _)); exact BK144.out⟩, ⟨by repeat (first | (with_reducible first | exact HB.out | apply below_alloc | apply bN | apply bD | refine below_set ?_ GE136.out | refine below_set ?_ GE144.out) | exact HB.out)⟩, ⟨by (with_reducible repeat (first | refine bmap_drewN ?_ _ | refine bmap_drew ?_)); exact HM12.out⟩⟩
                ·
                 rw [if_neg c36] at H
                 have c36b0 : ((rd x11_2 x45_2) == ((rd_L2 t137 x45_2).length : Int)) = false := beq_eq_false_iff_ne.mpr c36
                 have c36b1 : ((rd x11_2 x45_2) != ((rd_L2 t137 x45_2).length : Int)) = true := bne_iff_ne.mpr c36
                 by_cases c55 : 0 ≤ (rd x11_2 x45_2)
                 ·
                  rw [if_pos c55] at H
                  have c55b0 : decide (0 ≤ (rd x11_2 x45_2)) = true := decide_eq_true c55
                  clear c55
                  by_cases c56 : (rd x11_2 x45_2) < ((rd_L2 t137 x45_2).length : Int)
                  ·
                   rw [if_pos c56] at H
                   have c56b0 : decide ((rd x11_2 x45_2) < ((rd_L2 t137 x45_2).length : Int)) = true := decide_eq_true c56
                   clear c56
                   by_cases c57 : mget x12_2 (rd (rd_L2 t137 x45_2) (rd x11_2 x45_2)) = true
                   ·
                    rw [if_pos c57] at H
                    have c57b0 := aM c57
                    clear c57
                    have H' := aM H
                    clear H
                    have p149 : 0 ≤ (x45_2 : Int) := of_decide_eq_true (by assumption)
                    have q149 : x45_2 < (t137.length : Int) := of_decide_eq_true (by assumption)
                    obtain ⟨ad149, A149_0, c149_0, e149, hx149_0, hl149_0, hi149_0⟩ := at_L2 (Kd.S_reads' HO_43.out).2.2 x45_2 p149 q149
                    cases e149
                    obtain ⟨ce149, hce149, hMe149, hcc149⟩ := Kd.S_get HO_43.out [] x45_2 p149 (by first | exact q149 | exact of_decide_eq_true (by assumption) | (have e_ := (Kd.S_reads' HO_43.out).1; omega))
                    obtain ⟨ve149_0, rfl, ge149_0⟩ := hMe149
                    have hv149_0 := hcc149 0 _ rfl
                    rw [Nat.add_zero, show ((Kd.slice 3 (Kd.int .i64))).sz = 1 from rfl, Nat.mul_one] at hv149_0
                    replace hv149_0 := Option.some.inj (hv149_0.symm.trans hx149_0)
                    rw [hv149_0] at ge149_0
                    have HL149_0 := aM (show Kd.R (Kd.int .i64) 3 _ _ _ _ (rd_L2 t137 x45_2) from ge149_0)
                    clear hv149_0 ge149_0
                    clear hcc149 hce149
                    have HR149_0 := aM hi149_0
                    have HC149_0 := aM hl149_0
                    clear hi149_0 hl149_0
                    replace p149 := eq_true p149
                    replace q149 := eq_true q149
                    obtain ⟨Ao58, co58, eo58⟩ := Kd.R_slice HO_11.out
                    subst eo58
                    have p150 : 0 ≤ (x45_2 : Int) := of_decide_eq_true (by assumption)
                    have q150 : x45_2 < (x11_2.length : Int) := of_decide_eq_true (by assumption)
                    obtain ⟨ad150, e150, hx150_0⟩ := Kd.at_int (Kd.R_reads' HO_11.out).2.2 x45_2 p150 q150
                    cases e150
                    replace p150 := eq_true p150
                    replace q150 := eq_true q150
                    have hnb59 := NB144_136.out
                    have hnc59 := NB136_144.out
                    have hcz60_0 : wr.cell? ⟨gb144, 0, none⟩ = some (u145000) := (blk_cell BK144.out 0).trans rfl
                    have hcz60_1 : wr.cell? ⟨gb144, 1, none⟩ = some (.int .i64 (wrap64 (x145001_1 + 1))) := (blk_cell BK144.out 1).trans rfl
                    have hcz60_2 : wr.cell? ⟨gb144, 2, none⟩ = some (.bool x145002_1) := (blk_cell BK144.out 2).trans rfl
                    have hfz60_0 := blk_frozen BK144.out 0
                    have hfz60_1 := blk_frozen BK144.out 1
                    have hfz60_2 := blk_frozen BK144.out 2
                    obtain ⟨Ao61, co61, eo61⟩ := Kd.R_slice HO_145000.out
                    subst eo61
                    have p151 : 0 ≤ (x45_2 : Int) := of_decide_eq_true (by assumption)
                    have q151 : x45_2 < (x145000_2.length : Int) := of_decide_eq_true (by assumption)
                    obtain ⟨ad151, e151, hx151_0⟩ := Kd.at_bool (Kd.R_reads' HO_145000.out).2.2 x45_2 p151 q151
                    (try rw [← Nbq30.out] at hx151_0)
                    cases e151
                    replace p151 := eq_true p151
                    replace q151 := eq_true q151
                    have p155 : 0 ≤ ((rd x11_2 x45_2) : Int) := of_decide_eq_true (by assumption)
                    have q155 : (rd x11_2 x45_2) < ((rd_L2 t137 x45_2).length : Int) := of_decide_eq_true (by assumption)
                    obtain ⟨ad155, e155, hx155_0⟩ := Kd.at_int (by repeat (first | (with_reducible exact HR149_0.out) | (with_reducible refine Kd.C_alloc ?_ _) | (with_reducible refine Kd.C_drewN ?_ _) | (with_reducible refine Kd.C_drew ?_) | exact HR149_0.out)) (rd x11_2 x45_2) p155 q155
                    cases e155
                    replace p155 := eq_true p155
                    replace q155 := eq_true q155
                    go_wp2_with (first | ((at_lookup); refine wpList_lookup_bmap _ rfl _ _ 58 rfl 3 4 (Go.Maps.int_keyed Try.underlying3) Try.underlying58 Try.underlying3 Try.underlying4 (by kernel_rfl) gb12 x12_2 rfl (by (with_reducible repeat (first | refine bmap_drewN ?_ _ | refine bmap_drew ?_)); exact HM12.out) (rd (rd_L2 t137 x45_2) (rd x11_2 x45_2)) rfl (wfAll_rd WFA.out x45_2 (rd x11_2 x45_2)) true c57b0.out ?_))
                    go_roundg k2
                    case measure => have := HK1.out; have := HK2.out; omega
                    case rel => exact ⟨(x11_2), (x12_2), (x13_2), (wrap64 (x45_2 + 1)), (x145000_2), (.slice (some ad151) x145000_2.length co61), (by first | rfl | (simp; done) | (simp [*]; done)), (by first | rfl | (simp; done) | (simp [*]; done)), H', ⟨by have := HK1.out; have := HK2.out; omega⟩, ⟨by (with_reducible repeat (first | apply Kd.S_alloc | apply Kd.S_drewN | apply Kd.S_drew)); exact HO_8.out⟩, ⟨by (with_reducible repeat (first | apply Kd.R_alloc | apply Kd.R_drewN | apply Kd.R_drew)); exact HO_11.out⟩, ⟨by (with_reducible repeat (first | apply Kd.S_alloc | apply Kd.S_drewN | apply Kd.S_drew)); exact HO_43.out⟩, ⟨by (with_reducible repeat (first | apply Kd.R_alloc | apply Kd.R_drewN | apply Kd.R_drew)); exact HO_145000.out⟩, ⟨by (with_reducible repeat (first | refine blk_drewN ?_ _ | refine blk_drew ?_ | refine blk_alloc ?_ _)); exact BK136.out⟩, ⟨by (with_reducible repeat (first | refine blk_drewN ?_ _ | refine blk_drew ?_ | refine blk_alloc ?_ _)); exact BK144.out⟩, ⟨by repeat (first | (with_reducible first | exact HB.out | apply below_alloc | apply bN | apply bD | refine below_set ?_ GE136.out | refine below_set ?_ GE144.out) | exact HB.out)⟩, ⟨by (with_reducible repeat (first | refine bmap_drewN ?_ _ | refine bmap_drew ?_)); exact HM12.out⟩⟩
                   ·
                    rw [if_neg c57] at H
                    have c57b0 := aM (Bool.eq_false_iff.mpr c57)
                    by_cases c62 : (rd x11_2 x45_2) > 0
                    ·
                     rw [if_pos c62] at H
                     have c62b0 : decide (0 < (rd x11_2 x45_2)) = true := decide_eq_true c62
                     clear c62
                     obtain ⟨ji63, hji63⟩ : ∃ j_ : Int, (wrap64 ((rd x11_2 x45_2) - 1)) = j_ := ⟨_, rfl⟩
                     replace H : (if 0 ≤ (ji63) then (if (ji63) < ((rd_L2 t137 x45_2).length : Int) then (impl_RunWorms.l1 k2 t137 (x11_2.set (x45_2 : Int).toNat (wrap64 ((rd x11_2 x45_2) + 1))) (((rd (rd_L2 t137 x45_2) (rd x11_2 x45_2)), true) :: (((rd (rd_L2 t137 x45_2) (ji63)), false) :: x12_2)) true t137 (t137.length : Int) (wrap64 (x45_2 + 1)) x145000_2 (wrap64 (x145001_1 + 1)) x145002_1) else (none)) else (none)) = some (r1, r2, r3, r4) := by first | (rw [hji63] at H; exact H) | (simp only [hji63] at H ⊢; exact H)
                     have hji63w : (IntKind.i64.wrap ((rd x11_2 x45_2) - 1)) = ji63 := (i64_w _).trans hji63
                     by_cases c64 : 0 ≤ (ji63)
                     ·
                      rw [if_pos c64] at H
                      have c64b0 : decide (0 ≤ (ji63)) = true := decide_eq_true c64
                      clear c64
                      by_cases c65 : (ji63) < ((rd_L2 t137 x45_2).length : Int)
                      ·
                       rw [if_pos c65] at H
                       have c65b0 : decide ((ji63) < ((rd_L2 t137 x45_2).length : Int)) = true := decide_eq_true c65
                       clear c65
                       obtain ⟨y159, hy159⟩ : ∃ y_ : List Int, y_ = (x11_2.set (x45_2 : Int).toNat (wrap64 ((rd x11_2 x45_2) + 1))) := ⟨_, rfl⟩
                       replace H : (impl_RunWorms.l1 k2 t137 y159 (((rd (rd_L2 t137 x45_2) (rd x11_2 x45_2)), true) :: (((rd (rd_L2 t137 x45_2) (ji63)), false) :: x12_2)) true t137 (t137.length : Int) (wrap64 (x45_2 + 1)) x145000_2 (wrap64 (x145001_1 + 1)) x145002_1) = some (r1, r2, r3, r4) := by first | (rw [hy159]; with_reducible exact H) | (have H2_ := (Option.bind_some _ _).symm.trans H; rw [hy159]; with_reducible exact H2_) | (have H2_ := (Option.bind_some _ _).symm.trans H; with_reducible exact H2_) | with_reducible exact H | (rw [hy159]; exact H) | exact H
                       have Ny159 := aM hy159
                       clear hy159
                       have H' := aM H
                       clear H
                       have p149 : 0 ≤ (x45_2 : Int) := of_decide_eq_true (by assumption)
                       have q149 : x45_2 < (t137.length : Int) := of_decide_eq_true (by assumption)
                       obtain ⟨ad149, A149_0, c149_0, e149, hx149_0, hl149_0, hi149_0⟩ := at_L2 (Kd.S_reads' HO_43.out).2.2 x45_2 p149 q149
                       cases e149
                       obtain ⟨ce149, hce149, hMe149, hcc149⟩ := Kd.S_get HO_43.out [] x45_2 p149 (by first | exact q149 | exact of_decide_eq_true (by assumption) | (have e_ := (Kd.S_reads' HO_43.out).1; omega))
                       obtain ⟨ve149_0, rfl, ge149_0⟩ := hMe149
                       have hv149_0 := hcc149 0 _ rfl
                       rw [Nat.add_zero, show ((Kd.slice 3 (Kd.int .i64))).sz = 1 from rfl, Nat.mul_one] at hv149_0
                       replace hv149_0 := Option.some.inj (hv149_0.symm.trans hx149_0)
                       rw [hv149_0] at ge149_0
                       have HL149_0 := aM (show Kd.R (Kd.int .i64) 3 _ _ _ _ (rd_L2 t137 x45_2) from ge149_0)
                       clear hv149_0 ge149_0
                       clear hcc149 hce149
                       have HR149_0 := aM hi149_0
                       have HC149_0 := aM hl149_0
                       clear hi149_0 hl149_0
                       replace p149 := eq_true p149
                       replace q149 := eq_true q149
                       obtain ⟨Ao67, co67, eo67⟩ := Kd.R_slice HO_11.out
                       subst eo67
                       have p150 : 0 ≤ (x45_2 : Int) := of_decide_eq_true (by assumption)
                       have q150 : x45_2 < (x11_2.length : Int) := of_decide_eq_true (by assumption)
                       obtain ⟨ad150, e150, hx150_0⟩ := Kd.at_int (Kd.R_reads' HO_11.out).2.2 x45_2 p150 q150
                       cases e150
                       replace p150 := eq_true p150
                       replace q150 := eq_true q150
                       have hnb68 := NB144_136.out
                       have hnc68 := NB136_144.out
                       have hcz69_0 : wr.cell? ⟨gb144, 0, none⟩ = some (u145000) := (blk_cell BK144.out 0).trans rfl
                       have hcz69_1 : wr.cell? ⟨gb144, 1, none⟩ = some (.int .i64 (wrap64 (x145001_1 + 1))) := (blk_cell BK144.out 1).trans rfl
                       have hcz69_2 : wr.cell? ⟨gb144, 2, none⟩ = some (.bool x145002_1) := (blk_cell BK144.out 2).trans rfl
                       have hfz69_0 := blk_frozen BK144.out 0
                       have hfz69_1 := blk_frozen BK144.out 1
                       have hfz69_2 := blk_frozen BK144.out 2
                       obtain ⟨Ao70, co70, eo70⟩ := Kd.R_slice HO_145000.out
                       subst eo70
                       have p151 : 0 ≤ (x45_2 : Int) := of_decide_eq_true (by assumption)
                       have q151 : x45_2 < (x145000_2.length : Int) := of_decide_eq_true (by assumption)
                       obtain ⟨ad151, e151, hx151_0⟩ := Kd.at_bool (Kd.R_reads' HO_145000.out).2.2 x45_2 p151 q151
                       (try rw [← Nbq30.out] at hx151_0)
                       cases e151
                       replace p151 := eq_true p151
                       replace q151 := eq_true q151
                       have p155 : 0 ≤ ((rd x11_2 x45_2) : Int) := of_decide_eq_true (by assumption)
                       have q155 : (rd x11_2 x45_2) < ((rd_L2 t137 x45_2).length : Int) := of_decide_eq_true (by assumption)
                       obtain ⟨ad155, e155, hx155_0⟩ := Kd.at_int (by repeat (first | (with_reducible exact HR149_0.out) | (with_reducible refine Kd.C_alloc ?_ _) | (with_reducible refine Kd.C_drewN ?_ _) | (with_reducible refine Kd.C_drew ?_) | exact HR149_0.out)) (rd x11_2 x45_2) p155 q155
                       cases e155
                       replace p155 := eq_true p155
                       replace q155 := eq_true q155
                       have p156 : 0 ≤ ((ji63) : Int) := of_decide_eq_true (by assumption)
                       have q156 : (ji63) < ((rd_L2 t137 x45_2).length : Int) := of_decide_eq_true (by assumption)
                       obtain ⟨ad156, e156, hx156_0⟩ := Kd.at_int (by repeat (first | (with_reducible exact HR149_0.out) | (with_reducible refine Kd.C_alloc ?_ _) | (with_reducible refine Kd.C_drewN ?_ _) | (with_reducible refine Kd.C_drew ?_) | exact HR149_0.out)) (ji63) p156 q156
                       obtain rfl : ad155 = ad156 := (by injection e156)
                       replace p156 := eq_true p156
                       replace q156 := eq_true q156
                       have p157 : 0 ≤ ((rd x11_2 x45_2) : Int) := of_decide_eq_true (by assumption)
                       have q157 : (rd x11_2 x45_2) < ((rd_L2 t137 x45_2).length : Int) := of_decide_eq_true (by assumption)
                       obtain ⟨ad157, e157, hx157_0⟩ := Kd.at_int (by repeat (first | (with_reducible exact HR149_0.out) | (with_reducible refine Kd.C_alloc ?_ _) | (with_reducible refine Kd.C_drewN ?_ _) | (with_reducible refine Kd.C_drew ?_) | exact HR149_0.out)) (rd x11_2 x45_2) p157 q157
                       obtain rfl : ad155 = ad157 := (by injection e157)
                       replace p157 := eq_true p157
                       replace q157 := eq_true q157
                       have p158 : 0 ≤ (x45_2 : Int) := of_decide_eq_true (by assumption)
                       have q158 : x45_2 < (x11_2.length : Int) := of_decide_eq_true (by assumption)
                       obtain ⟨ad158, e158, hx158_0⟩ := Kd.at_int (Kd.R_reads' HO_11.out).2.2 x45_2 p158 q158
                       obtain rfl : ad150 = ad158 := (by injection e158)
                       replace p158 := eq_true p158
                       replace q158 := eq_true q158
                       go_wp2_with (first | ((at_lookup); refine wpList_lookup_bmap _ rfl _ _ 58 rfl 3 4 (Go.Maps.int_keyed Try.underlying3) Try.underlying58 Try.underlying3 Try.underlying4 (by kernel_rfl) gb12 x12_2 rfl (by (with_reducible repeat (first | refine bmap_drewN ?_ _ | refine bmap_drew ?_)); exact HM12.out) (rd (rd_L2 t137 x45_2) (rd x11_2 x45_2)) rfl (wfAll_rd WFA.out x45_2 (rd x11_2 x45_2)) false c57b0.out ?_) | ((at_mapUpdate); refine wpList_mapUpdate_bmap _ rfl (.tmp 56) (.tmp 61) _ 58 rfl 3 4 (Go.Maps.int_keyed Try.underlying3) Try.underlying58 Try.underlying3 Try.underlying4 gb12 x12_2 rfl HM12.out (by have := LM12.out; (try simp only [List.length_cons]); unfold maxLen; omega) (rd (rd_L2 t137 x45_2) (ji63)) false rfl rfl (wfAll_rd WFA.out x45_2 (ji63)) ?_; intro wm1 hm hg; have n0_ := aM (S_map_grown HO_8.out HM12.out hg); have n1_ := aM (S_map_grown HO_43.out HM12.out hg); have n2_ := aM (R_map_grown HO_11.out HM12.out hg); have n3_ := aM (R_map_grown HO_145000.out HM12.out hg); have n4_ := aM (R_map_grown HL149_0.out HM12.out hg); have n5_ := aM (blk_map_grown BK136.out HM12.out hg); have n6_ := aM (blk_map_grown BK144.out HM12.out hg); have n7_ := aM (pw_below_grown HB.out _ (below_size HB.out) hg (fun k_ e_ => by cases e_; exact GE12.out)); have n8_ := cell_map_grown hx149_0 HM12.out hg; have n9_ := cell_map_grown hx150_0 HM12.out hg; have n10_ := cell_map_grown hcz69_0 HM12.out hg; have n11_ := cell_map_grown hcz69_1 HM12.out hg; have n12_ := cell_map_grown hcz69_2 HM12.out hg; have n13_ := cell_map_grown hx151_0 HM12.out hg; have n14_ := cell_map_grown hx155_0 HM12.out hg; have n15_ := cell_map_grown hx156_0 HM12.out hg; have n16_ := cell_map_grown hx157_0 HM12.out hg; have n17_ := cell_map_grown hx158_0 HM12.out hg; have n18_ := aM hm; clear HO_8; clear HO_43; clear HO_11; clear HO_145000; clear HL149_0; clear BK136; clear BK144; clear HB; clear hx149_0; clear hx150_0; clear hcz69_0; clear hcz69_1; clear hcz69_2; clear hx151_0; clear hx155_0; clear hx156_0; clear hx157_0; clear hx158_0; clear HM12; have HO_8 := n0_; have HO_43 := n1_; have HO_11 := n2_; have HO_145000 := n3_; have HL149_0 := n4_; have BK136 := n5_; have BK144 := n6_; have HB := n7_; have hx149_0 := n8_; have hx150_0 := n9_; have hcz69_0 := n10_; have hcz69_1 := n11_; have hcz69_2 := n12_; have hx151_0 := n13_; have hx155_0 := n14_; have hx156_0 := n15_; have hx157_0 := n16_; have hx158_0 := n17_; have HM12 := n18_; clear n0_ n1_ n2_ n3_ n4_ n5_ n6_ n7_ n8_ n9_ n10_ n11_ n12_ n13_ n14_ n15_ n16_ n17_ n18_; clear hm hg) | ((at_mapUpdate); refine wpList_mapUpdate_bmap _ rfl (.tmp 62) (.tmp 66) _ 58 rfl 3 4 (Go.Maps.int_keyed Try.underlying3) Try.underlying58 Try.underlying3 Try.underlying4 gb12 ((rd (rd_L2 t137 x45_2) (ji63), false) :: x12_2) rfl HM12.out (by have := LM12.out; (try simp only [List.length_cons]); unfold maxLen; omega) (rd (rd_L2 t137 x45_2) (rd x11_2 x45_2)) true rfl rfl (wfAll_rd WFA.out x45_2 (rd x11_2 x45_2)) ?_; intro wm2 hm hg; have n0_ := aM (S_map_grown HO_8.out HM12.out hg); have n1_ := aM (S_map_grown HO_43.out HM12.out hg); have n2_ := aM (R_map_grown HO_11.out HM12.out hg); have n3_ := aM (R_map_grown HO_145000.out HM12.out hg); have n4_ := aM (R_map_grown HL149_0.out HM12.out hg); have n5_ := aM (blk_map_grown BK136.out HM12.out hg); have n6_ := aM (blk_map_grown BK144.out HM12.out hg); have n7_ := aM (pw_below_grown HB.out _ (below_size HB.out) hg (fun k_ e_ => by cases e_; exact GE12.out)); have n8_ := cell_map_grown hx149_0 HM12.out hg; have n9_ := cell_map_grown hx150_0 HM12.out hg; have n10_ := cell_map_grown hcz69_0 HM12.out hg; have n11_ := cell_map_grown hcz69_1 HM12.out hg; have n12_ := cell_map_grown hcz69_2 HM12.out hg; have n13_ := cell_map_grown hx151_0 HM12.out hg; have n14_ := cell_map_grown hx155_0 HM12.out hg; have n15_ := cell_map_grown hx156_0 HM12.out hg; have n16_ := cell_map_grown hx157_0 HM12.out hg; have n17_ := cell_map_grown hx158_0 HM12.out hg; have n18_ := aM hm; clear HO_8; clear HO_43; clear HO_11; clear HO_145000; clear HL149_0; clear BK136; clear BK144; clear HB; clear hx149_0; clear hx150_0; clear hcz69_0; clear hcz69_1; clear hcz69_2; clear hx151_0; clear hx155_0; clear hx156_0; clear hx157_0; clear hx158_0; clear HM12; have HO_8 := n0_; have HO_43 := n1_; have HO_11 := n2_; have HO_145000 := n3_; have HL149_0 := n4_; have BK136 := n5_; have BK144 := n6_; have HB := n7_; have hx149_0 := n8_; have hx150_0 := n9_; have hcz69_0 := n10_; have hcz69_1 := n11_; have hcz69_2 := n12_; have hx151_0 := n13_; have hx155_0 := n14_; have hx156_0 := n15_; have hx157_0 := n16_; have hx158_0 := n17_; have HM12 := n18_; clear n0_ n1_ n2_ n3_ n4_ n5_ n6_ n7_ n8_ n9_ n10_ n11_ n12_ n13_ n14_ n15_ n16_ n17_ n18_; clear hm hg; have p66 : 0 ≤ (x45_2 : Int) := of_decide_eq_true (by assumption); have q66 : (x45_2 : Int) < ((x11_2.length : Int) : Int) := of_decide_eq_true (by assumption); obtain ⟨go66, co66, eo66, gb66, gl66, cl66, HG66⟩ := Kd.R_form HO_11.out (by omega); (first | cases eo66 | (injection eo66 with ea_ en_ ec_; (first | subst ea_ | (injection ea_ with ea_; subst ea_)); subst ec_; clear en_)); have GB66 := aM gb66; have GG66 := aM HG66; clear gb66 gl66 HG66; (first | simp only [add_plain] at hx150_0 | skip); (first | simp only [add_plain] at hx158_0 | skip); obtain ⟨hx66_0, hf66_0⟩ := Kd.R_celln 0 HO_11.out (x45_2 : Int) p66 q66; replace p66 := eq_true p66; replace q66 := eq_true q66; have HP71 := Kd.R_putg HO_11.out (x45_2 : Int) (wrap64 ((rd x11_2 x45_2) + 1))) | ((with_reducible refine gate_store (t := 3) (p := 72) rfl ?_); refine store_event (t := 3) (p := 72) (v := ?vo_w72) (w1 := (wm2.setCell ⟨go66, (x45_2 : Int).toNat, none⟩ (.int .i64 (wrap64 ((rd x11_2 x45_2) + 1))))) ?hg ?ho ?hn ?hr ?_; (case ho => rfl); (case hg => rfl); (case hn => rfl); (case hr => first | (go_simp; done) | (go_simp; rfl)); intro w72 hw; have hg : wm2.grownBy w72 (some go66) := (by rw [hw]; exact HP71.2); have hp_ : Kd.R (Kd.int .i64) 3 w72 w.heap.size (fun _ => True) (.slice (some ⟨go66, 0, none⟩) x11_2.length co67) y159 := (by rw [hw, Ny159.out]; exact HP71.1); clear HP71; have n0_ := aM (Kd.S_after (v := (.slice (some ⟨go66, 0, none⟩) x11_2.length co67)) (v1 := (.slice (some ⟨go66, 0, none⟩) x11_2.length co67)) (ok := (fun _ => True)) (by (with_reducible repeat (first | apply Kd.S_alloc | apply Kd.S_drewN | apply Kd.S_drew)); exact Kd.S_mono HO_8.out (fun _ hk => ⟨trivial, hk⟩)) hg (.inl rfl)); have n1_ := aM (hp_); have n2_ := aM (Kd.S_after (v := (.slice (some ⟨go66, 0, none⟩) x11_2.length co67)) (v1 := (.slice (some ⟨go66, 0, none⟩) x11_2.length co67)) (ok := (fun _ => True)) (by (with_reducible repeat (first | apply Kd.S_alloc | apply Kd.S_drewN | apply Kd.S_drew)); exact Kd.S_mono HO_43.out (fun _ hk => ⟨trivial, hk⟩)) hg (.inl rfl)); have n3_ := aM (Kd.R_over' (v := (.slice (some ⟨go66, 0, none⟩) x11_2.length co67)) (by (with_reducible repeat (first | apply Kd.R_alloc | apply Kd.R_drewN | apply Kd.R_drew)); exact HO_145000.out) (Kd.R_typed HO_11.out) (by decide) hg); have n4_ := aM (blk_grown (g := gb136) (o := .cells #[.slice none 0 0, .int .i64 0, .bool false] 33 (0, 0)) (by (with_reducible repeat (first | refine blk_drewN ?_ _ | refine blk_drew ?_ | refine blk_alloc ?_ _)); exact BK136.out) hg (Kd.R_ne HO_11.out BK136.out (by decide))); have n5_ := aM (blk_grown (g := gb144) (o := .cells #[.slice (some ad151) x145000_2.length co70, .int .i64 (wrap64 (x145001_1 + 1)), .bool x145002_1] 33 (0, 0)) (by (with_reducible repeat (first | refine blk_drewN ?_ _ | refine blk_drew ?_ | refine blk_alloc ?_ _)); exact BK144.out) hg (Kd.R_ne HO_11.out BK144.out (by decide))); have n6_ := aM (Kd.R_after (v := (.slice (some ⟨go66, 0, none⟩) x11_2.length co67)) (v1 := (.slice (some ⟨go66, 0, none⟩) x11_2.length co67)) (ok := (fun k_ => some k_ ≠ (.slice (some ad149) t137.length co11 : Value).ownBlock)) (by (with_reducible repeat (first | apply Kd.R_alloc | apply Kd.R_drewN | apply Kd.R_drew)); exact Kd.R_mono HL149_0.out (fun _ hk => by first | exact ⟨hk.2, hk.1⟩ | (have hz_ := hk; (try simp only [and_assoc, true_and] at hz_); refine ⟨?_, ?_⟩ <;> first | exact hz_.1 | exact hz_.2.1 | exact hz_.2.2.1 | exact hz_.2.2.2.1 | exact hz_.2.2.2.2.1 | exact hz_.2.2.2.2 | exact hz_.2.2.2 | exact hz_.2.2 | exact hz_.2))) hg (.inl rfl)); have n7_ := aM ((by rw [hw]; exact below_set (HB.out) GB66.out : Below w.heap.size w w72)); have n9_ := aM (bmap_kept HM12.out hg (fun e_ => bmap_ne HM12.out GG66.out (Option.some.inj e_))); clear HO_8; clear HO_11; clear HO_43; clear HO_145000; clear BK136; clear BK144; clear HL149_0; clear HB; have HO_8 := n0_; have HO_11 := n1_; have HO_43 := n2_; have HO_145000 := n3_; have BK136 := n4_; have BK144 := n5_; have HL149_0 := n6_; have HB := n7_; clear HM12; have HM12 := n9_; clear n9_; clear n0_ n1_ n2_ n3_ n4_ n5_ n6_ n7_; clear hg hw hp_))
                       go_roundg k2
                       case measure => have := HK1.out; have := HK2.out; omega
                       case rel => exact ⟨(y159), (((rd (rd_L2 t137 x45_2) (rd x11_2 x45_2)), true) :: (((rd (rd_L2 t137 x45_2) (ji63)), false) :: x12_2)), (true), (wrap64 (x45_2 + 1)), (x145000_2), (.slice (some ad151) x145000_2.length co70), (by first | rfl | (simp; done) | (simp [*]; done)), (by first | rfl | (simp; done) | (simp [*]; done)), H', ⟨by have := HK1.out; have := HK2.out; omega⟩, ⟨by (with_reducible repeat (first | apply Kd.S_alloc | apply Kd.S_drewN | apply Kd.S_drew)); exact Kd.S_mono HO_8.out (fun _ hk => hk.2)⟩, ⟨by (with_reducible repeat (first | apply Kd.R_alloc | apply Kd.R_drewN | apply Kd.R_drew)); exact HO_11.out⟩, ⟨by (with_reducible repeat (first | apply Kd.S_alloc | apply Kd.S_drewN | apply Kd.S_drew)); exact Kd.S_mono HO_43.out (fun _ hk => hk.2)⟩, ⟨by (with_reducible repeat (first | apply Kd.R_alloc | apply Kd.R_drewN | apply Kd.R_drew)); exact HO_145000.out⟩, ⟨by (with_reducible repeat (first | refine blk_drewN ?_ _ | refine blk_drew ?_ | refine blk_alloc ?_ _)); exact BK136.out⟩, ⟨by (with_reducible repeat (first | refine blk_drewN ?_ _ | refine blk_drew ?_ | refine blk_alloc ?_ _)); exact BK144.out⟩, ⟨by repeat (first | (with_reducible first | exact HB.out | apply below_alloc | apply bN | apply bD | refine below_set ?_ GE136.out | refine below_set ?_ GE144.out) | exact HB.out)⟩, ⟨by (with_reducible repeat (first | refine bmap_drewN ?_ _ | refine bmap_drew ?_)); exact HM12.out⟩⟩
                      ·
                       rw [if_neg c65] at H
                       exact absurd H (by simp)
                     ·
                      rw [if_neg c64] at H
                      exact absurd H (by simp)
                    ·
                     rw [if_neg c62] at H
                     have c62b0 : decide (0 < (rd x11_2 x45_2)) = false := decide_eq_false c62
                     clear c62
                     obtain ⟨y162, hy162⟩ : ∃ y_ : List Int, y_ = (x11_2.set (x45_2 : Int).toNat (wrap64 ((rd x11_2 x45_2) + 1))) := ⟨_, rfl⟩
                     replace H : (impl_RunWorms.l1 k2 t137 y162 (((rd (rd_L2 t137 x45_2) (rd x11_2 x45_2)), true) :: x12_2) true t137 (t137.length : Int) (wrap64 (x45_2 + 1)) x145000_2 (wrap64 (x145001_1 + 1)) x145002_1) = some (r1, r2, r3, r4) := by first | (rw [hy162]; with_reducible exact H) | (have H2_ := (Option.bind_some _ _).symm.trans H; rw [hy162]; with_reducible exact H2_) | (have H2_ := (Option.bind_some _ _).symm.trans H; with_reducible exact H2_) | with_reducible exact H | (rw [hy162]; exact H) | exact H
                     have Ny162 := aM hy162
                     clear hy162
                     have H' := aM H
                     clear H
                     have p149 : 0 ≤ (x45_2 : Int) := of_decide_eq_true (by assumption)
                     have q149 : x45_2 < (t137.length : Int) := of_decide_eq_true (by assumption)
                     obtain ⟨ad149, A149_0, c149_0, e149, hx149_0, hl149_0, hi149_0⟩ := at_L2 (Kd.S_reads' HO_43.out).2.2 x45_2 p149 q149
                     cases e149
                     obtain ⟨ce149, hce149, hMe149, hcc149⟩ := Kd.S_get HO_43.out [] x45_2 p149 (by first | exact q149 | exact of_decide_eq_true (by assumption) | (have e_ := (Kd.S_reads' HO_43.out).1; omega))
                     obtain ⟨ve149_0, rfl, ge149_0⟩ := hMe149
                     have hv149_0 := hcc149 0 _ rfl
                     rw [Nat.add_zero, show ((Kd.slice 3 (Kd.int .i64))).sz = 1 from rfl, Nat.mul_one] at hv149_0
                     replace hv149_0 := Option.some.inj (hv149_0.symm.trans hx149_0)
                     rw [hv149_0] at ge149_0
                     have HL149_0 := aM (show Kd.R (Kd.int .i64) 3 _ _ _ _ (rd_L2 t137 x45_2) from ge149_0)
                     clear hv149_0 ge149_0
                     clear hcc149 hce149
                     have HR149_0 := aM hi149_0
                     have HC149_0 := aM hl149_0
                     clear hi149_0 hl149_0
                     replace p149 := eq_true p149
                     replace q149 := eq_true q149
                     obtain ⟨Ao74, co74, eo74⟩ := Kd.R_slice HO_11.out
                     subst eo74
                     have p150 : 0 ≤ (x45_2 : Int) := of_decide_eq_true (by assumption)
                     have q150 : x45_2 < (x11_2.length : Int) := of_decide_eq_true (by assumption)
                     obtain ⟨ad150, e150, hx150_0⟩ := Kd.at_int (Kd.R_reads' HO_11.out).2.2 x45_2 p150 q150
                     cases e150
                     replace p150 := eq_true p150
                     replace q150 := eq_true q150
                     have hnb75 := NB144_136.out
                     have hnc75 := NB136_144.out
                     have hcz76_0 : wr.cell? ⟨gb144, 0, none⟩ = some (u145000) := (blk_cell BK144.out 0).trans rfl
                     have hcz76_1 : wr.cell? ⟨gb144, 1, none⟩ = some (.int .i64 (wrap64 (x145001_1 + 1))) := (blk_cell BK144.out 1).trans rfl
                     have hcz76_2 : wr.cell? ⟨gb144, 2, none⟩ = some (.bool x145002_1) := (blk_cell BK144.out 2).trans rfl
                     have hfz76_0 := blk_frozen BK144.out 0
                     have hfz76_1 := blk_frozen BK144.out 1
                     have hfz76_2 := blk_frozen BK144.out 2
                     obtain ⟨Ao77, co77, eo77⟩ := Kd.R_slice HO_145000.out
                     subst eo77
                     have p151 : 0 ≤ (x45_2 : Int) := of_decide_eq_true (by assumption)
                     have q151 : x45_2 < (x145000_2.length : Int) := of_decide_eq_true (by assumption)
                     obtain ⟨ad151, e151, hx151_0⟩ := Kd.at_bool (Kd.R_reads' HO_145000.out).2.2 x45_2 p151 q151
                     (try rw [← Nbq30.out] at hx151_0)
                     cases e151
                     replace p151 := eq_true p151
                     replace q151 := eq_true q151
                     have p155 : 0 ≤ ((rd x11_2 x45_2) : Int) := of_decide_eq_true (by assumption)
                     have q155 : (rd x11_2 x45_2) < ((rd_L2 t137 x45_2).length : Int) := of_decide_eq_true (by assumption)
                     obtain ⟨ad155, e155, hx155_0⟩ := Kd.at_int (by repeat (first | (with_reducible exact HR149_0.out) | (with_reducible refine Kd.C_alloc ?_ _) | (with_reducible refine Kd.C_drewN ?_ _) | (with_reducible refine Kd.C_drew ?_) | exact HR149_0.out)) (rd x11_2 x45_2) p155 q155
                     cases e155
                     replace p155 := eq_true p155
                     replace q155 := eq_true q155
                     have p160 : 0 ≤ ((rd x11_2 x45_2) : Int) := of_decide_eq_true (by assumption)
                     have q160 : (rd x11_2 x45_2) < ((rd_L2 t137 x45_2).length : Int) := of_decide_eq_true (by assumption)
                     obtain ⟨ad160, e160, hx160_0⟩ := Kd.at_int (by repeat (first | (with_reducible exact HR149_0.out) | (with_reducible refine Kd.C_alloc ?_ _) | (with_reducible refine Kd.C_drewN ?_ _) | (with_reducible refine Kd.C_drew ?_) | exact HR149_0.out)) (rd x11_2 x45_2) p160 q160
                     obtain rfl : ad155 = ad160 := (by injection e160)
                     replace p160 := eq_true p160
                     replace q160 := eq_true q160
                     have p161 : 0 ≤ (x45_2 : Int) := of_decide_eq_true (by assumption)
                     have q161 : x45_2 < (x11_2.length : Int) := of_decide_eq_true (by assumption)
                     obtain ⟨ad161, e161, hx161_0⟩ := Kd.at_int (Kd.R_reads' HO_11.out).2.2 x45_2 p161 q161
                     obtain rfl : ad150 = ad161 := (by injection e161)
                     replace p161 := eq_true p161
                     replace q161 := eq_true q161
                     go_wp2_with (first | ((at_lookup); refine wpList_lookup_bmap _ rfl _ _ 58 rfl 3 4 (Go.Maps.int_keyed Try.underlying3) Try.underlying58 Try.underlying3 Try.underlying4 (by kernel_rfl) gb12 x12_2 rfl (by (with_reducible repeat (first | refine bmap_drewN ?_ _ | refine bmap_drew ?_)); exact HM12.out) (rd (rd_L2 t137 x45_2) (rd x11_2 x45_2)) rfl (wfAll_rd WFA.out x45_2 (rd x11_2 x45_2)) false c57b0.out ?_) | ((at_mapUpdate); refine wpList_mapUpdate_bmap _ rfl (.tmp 62) (.tmp 66) _ 58 rfl 3 4 (Go.Maps.int_keyed Try.underlying3) Try.underlying58 Try.underlying3 Try.underlying4 gb12 x12_2 rfl HM12.out (by have := LM12.out; (try simp only [List.length_cons]); unfold maxLen; omega) (rd (rd_L2 t137 x45_2) (rd x11_2 x45_2)) true rfl rfl (wfAll_rd WFA.out x45_2 (rd x11_2 x45_2)) ?_; intro wm1 hm hg; have n0_ := aM (S_map_grown HO_8.out HM12.out hg); have n1_ := aM (S_map_grown HO_43.out HM12.out hg); have n2_ := aM (R_map_grown HO_11.out HM12.out hg); have n3_ := aM (R_map_grown HO_145000.out HM12.out hg); have n4_ := aM (R_map_grown HL149_0.out HM12.out hg); have n5_ := aM (blk_map_grown BK136.out HM12.out hg); have n6_ := aM (blk_map_grown BK144.out HM12.out hg); have n7_ := aM (pw_below_grown HB.out _ (below_size HB.out) hg (fun k_ e_ => by cases e_; exact GE12.out)); have n8_ := cell_map_grown hx149_0 HM12.out hg; have n9_ := cell_map_grown hx150_0 HM12.out hg; have n10_ := cell_map_grown hcz76_0 HM12.out hg; have n11_ := cell_map_grown hcz76_1 HM12.out hg; have n12_ := cell_map_grown hcz76_2 HM12.out hg; have n13_ := cell_map_grown hx151_0 HM12.out hg; have n14_ := cell_map_grown hx155_0 HM12.out hg; have n15_ := cell_map_grown hx160_0 HM12.out hg; have n16_ := cell_map_grown hx161_0 HM12.out hg; have n17_ := aM hm; clear HO_8; clear HO_43; clear HO_11; clear HO_145000; clear HL149_0; clear BK136; clear BK144; clear HB; clear hx149_0; clear hx150_0; clear hcz76_0; clear hcz76_1; clear hcz76_2; clear hx151_0; clear hx155_0; clear hx160_0; clear hx161_0; clear HM12; have HO_8 := n0_; have HO_43 := n1_; have HO_11 := n2_; have HO_145000 := n3_; have HL149_0 := n4_; have BK136 := n5_; have BK144 := n6_; have HB := n7_; have hx149_0 := n8_; have hx150_0 := n9_; have hcz76_0 := n10_; have hcz76_1 := n11_; have hcz76_2 := n12_; have hx151_0 := n13_; have hx155_0 := n14_; have hx160_0 := n15_; have hx161_0 := n16_; have HM12 := n17_; clear n0_ n1_ n2_ n3_ n4_ n5_ n6_ n7_ n8_ n9_ n10_ n11_ n12_ n13_ n14_ n15_ n16_ n17_; clear hm hg; have p73 : 0 ≤ (x45_2 : Int) := of_decide_eq_true (by assumption); have q73 : (x45_2 : Int) < ((x11_2.length : Int) : Int) := of_decide_eq_true (by assumption); obtain ⟨go73, co73, eo73, gb73, gl73, cl73, HG73⟩ := Kd.R_form HO_11.out (by omega); (first | cases eo73 | (injection eo73 with ea_ en_ ec_; (first | subst ea_ | (injection ea_ with ea_; subst ea_)); subst ec_; clear en_)); have GB73 := aM gb73; have GG73 := aM HG73; clear gb73 gl73 HG73; (first | simp only [add_plain] at hx150_0 | skip); (first | simp only [add_plain] at hx161_0 | skip); obtain ⟨hx73_0, hf73_0⟩ := Kd.R_celln 0 HO_11.out (x45_2 : Int) p73 q73; replace p73 := eq_true p73; replace q73 := eq_true q73; have HP78 := Kd.R_putg HO_11.out (x45_2 : Int) (wrap64 ((rd x11_2 x45_2) + 1))) | ((with_reducible refine gate_store (t := 3) (p := 72) rfl ?_); refine store_event (t := 3) (p := 72) (v := ?vo_w79) (w1 := (wm1.setCell ⟨go73, (x45_2 : Int).toNat, none⟩ (.int .i64 (wrap64 ((rd x11_2 x45_2) + 1))))) ?hg ?ho ?hn ?hr ?_; (case ho => rfl); (case hg => rfl); (case hn => rfl); (case hr => first | (go_simp; done) | (go_simp; rfl)); intro w79 hw; have hg : wm1.grownBy w79 (some go73) := (by rw [hw]; exact HP78.2); have hp_ : Kd.R (Kd.int .i64) 3 w79 w.heap.size (fun _ => True) (.slice (some ⟨go73, 0, none⟩) x11_2.length co74) y162 := (by rw [hw, Ny162.out]; exact HP78.1); clear HP78; have n0_ := aM (Kd.S_after (v := (.slice (some ⟨go73, 0, none⟩) x11_2.length co74)) (v1 := (.slice (some ⟨go73, 0, none⟩) x11_2.length co74)) (ok := (fun _ => True)) (by (with_reducible repeat (first | apply Kd.S_alloc | apply Kd.S_drewN | apply Kd.S_drew)); exact Kd.S_mono HO_8.out (fun _ hk => ⟨trivial, hk⟩)) hg (.inl rfl)); have n1_ := aM (hp_); have n2_ := aM (Kd.S_after (v := (.slice (some ⟨go73, 0, none⟩) x11_2.length co74)) (v1 := (.slice (some ⟨go73, 0, none⟩) x11_2.length co74)) (ok := (fun _ => True)) (by (with_reducible repeat (first | apply Kd.S_alloc | apply Kd.S_drewN | apply Kd.S_drew)); exact Kd.S_mono HO_43.out (fun _ hk => ⟨trivial, hk⟩)) hg (.inl rfl)); have n3_ := aM (Kd.R_over' (v := (.slice (some ⟨go73, 0, none⟩) x11_2.length co74)) (by (with_reducible repeat (first | apply Kd.R_alloc | apply Kd.R_drewN | apply Kd.R_drew)); exact HO_145000.out) (Kd.R_typed HO_11.out) (by decide) hg); have n4_ := aM (blk_grown (g := gb136) (o := .cells #[.slice none 0 0, .int .i64 0, .bool false] 33 (0, 0)) (by (with_reducible repeat (first | refine blk_drewN ?_ _ | refine blk_drew ?_ | refine blk_alloc ?_ _)); exact BK136.out) hg (Kd.R_ne HO_11.out BK136.out (by decide))); have n5_ := aM (blk_grown (g := gb144) (o := .cells #[.slice (some ad151) x145000_2.length co77, .int .i64 (wrap64 (x145001_1 + 1)), .bool x145002_1] 33 (0, 0)) (by (with_reducible repeat (first | refine blk_drewN ?_ _ | refine blk_drew ?_ | refine blk_alloc ?_ _)); exact BK144.out) hg (Kd.R_ne HO_11.out BK144.out (by decide))); have n6_ := aM (Kd.R_after (v := (.slice (some ⟨go73, 0, none⟩) x11_2.length co74)) (v1 := (.slice (some ⟨go73, 0, none⟩) x11_2.length co74)) (ok := (fun k_ => some k_ ≠ (.slice (some ad149) t137.length co11 : Value).ownBlock)) (by (with_reducible repeat (first | apply Kd.R_alloc | apply Kd.R_drewN | apply Kd.R_drew)); exact Kd.R_mono HL149_0.out (fun _ hk => by first | exact ⟨hk.2, hk.1⟩ | (have hz_ := hk; (try simp only [and_assoc, true_and] at hz_); refine ⟨?_, ?_⟩ <;> first | exact hz_.1 | exact hz_.2.1 | exact hz_.2.2.1 | exact hz_.2.2.2.1 | exact hz_.2.2.2.2.1 | exact hz_.2.2.2.2 | exact hz_.2.2.2 | exact hz_.2.2 | exact hz_.2))) hg (.inl rfl)); have n7_ := aM ((by rw [hw]; exact below_set (HB.out) GB73.out : Below w.heap.size w w79)); have n9_ := aM (bmap_kept HM12.out hg (fun e_ => bmap_ne HM12.out GG73.out (Option.some.inj e_))); clear HO_8; clear HO_11; clear HO_43; clear HO_145000; clear BK136; clear BK144; clear HL149_0; clear HB; have HO_8 := n0_; have HO_11 := n1_; have HO_43 := n2_; have HO_145000 := n3_; have BK136 := n4_; have BK144 := n5_; have HL149_0 := n6_; have HB := n7_; clear HM12; have HM12 := n9_; clear n9_; clear n0_ n1_ n2_ n3_ n4_ n5_ n6_ n7_; clear hg hw hp_))
                     go_roundg k2
                     case measure => have := HK1.out; have := HK2.out; omega
                     case rel => exact ⟨(y162), (((rd (rd_L2 t137 x45_2) (rd x11_2 x45_2)), true) :: x12_2), (true), (wrap64 (x45_2 + 1)), (x145000_2), (.slice (some ad151) x145000_2.length co77), (by first | rfl | (simp; done) | (simp [*]; done)), (by first | rfl | (simp; done) | (simp [*]; done)), H', ⟨by have := HK1.out; have := HK2.out; omega⟩, ⟨by (with_reducible repeat (first | apply Kd.S_alloc | apply Kd.S_drewN | apply Kd.S_drew)); exact Kd.S_mono HO_8.out (fun _ hk => hk.2)⟩, ⟨by (with_reducible repeat (first | apply Kd.R_alloc | apply Kd.R_drewN | apply Kd.R_drew)); exact HO_11.out⟩, ⟨by (with_reducible repeat (first | apply Kd.S_alloc | apply Kd.S_drewN | apply Kd.S_drew)); exact Kd.S_mono HO_43.out (fun _ hk => hk.2)⟩, ⟨by (with_reducible repeat (first | apply Kd.R_alloc | apply Kd.R_drewN | apply Kd.R_drew)); exact HO_145000.out⟩, ⟨by (with_reducible repeat (first | refine blk_drewN ?_ _ | refine blk_drew ?_ | refine blk_alloc ?_ _)); exact BK136.out⟩, ⟨by (with_reducible repeat (first | refine blk_drewN ?_ _ | refine blk_drew ?_ | refine blk_alloc ?_ _)); exact BK144.out⟩, ⟨by repeat (first | (with_reducible first | exact HB.out | apply below_alloc | apply bN | apply bD | refine below_set ?_ GE136.out | refine below_set ?_ GE144.out) | exact HB.out)⟩, ⟨by (with_reducible repeat (first | refine bmap_drewN ?_ _ | refine bmap_drew ?_)); exact HM12.out⟩⟩
                  ·
                   rw [if_neg c56] at H
                   exact absurd H (by simp)
                 ·
                  rw [if_neg c55] at H
                  exact absurd H (by simp)
              ·
               rw [if_neg c29] at H
               exact absurd H (by simp)
             ·
              rw [if_neg c28] at H
              exact absurd H (by simp)
            ·
             rw [if_neg c27] at H
             exact absurd H (by simp)
           ·
            rw [if_neg c26] at H
            exact absurd H (by simp)
          ·
           rw [if_neg c25] at H
           have c25b0 : decide (x45_2 < (t137.length : Int)) = false := decide_eq_false c25
           clear c25
           by_cases c80 : x13_2 = true
           ·
            subst c80
            have H1 : (impl_RunWorms.l0 k2 t137 x11_2 x12_2 x145000_2 (wrap64 (x145001_1 + 1)) x145002_1) = some (r1, r2, r3, r4) := by rw [if_pos rfl] at H; exact H
            clear H
            have H := H1
            clear H1
            have H' := aM H
            clear H
            go_wp2
            go_roundg k2
            case measure => have := HK1.out; have := HK2.out; omega
            case rel => exact ⟨(x11_2), (x12_2), (x145000_2), ((wrap64 (x145001_1 + 1))), (x145002_1), (u145000), H', ⟨by have := HK1.out; have := HK2.out; omega⟩, ⟨by (with_reducible repeat (first | apply Kd.S_alloc | apply Kd.S_drewN | apply Kd.S_drew)); exact HO_8.out⟩, ⟨by (with_reducible repeat (first | apply Kd.R_alloc | apply Kd.R_drewN | apply Kd.R_drew)); exact HO_11.out⟩, ⟨by (with_reducible repeat (first | apply Kd.R_alloc | apply Kd.R_drewN | apply Kd.R_drew)); exact HO_145000.out⟩, ⟨by (with_reducible repeat (first | refine blk_drewN ?_ _ | refine blk_drew ?_ | refine blk_alloc ?_ _)); exact BK136.out⟩, ⟨by (with_reducible repeat (first | refine blk_drewN ?_ _ | refine blk_drew ?_ | refine blk_alloc ?_ _)); exact BK144.out⟩, ⟨by repeat (first | (with_reducible first | exact HB.out | apply below_alloc | apply bN | apply bD | refine below_set ?_ GE136.out | refine below_set ?_ GE144.out) | exact HB.out)⟩, ⟨by (with_reducible repeat (first | refine bmap_drewN ?_ _ | refine bmap_drew ?_)); exact HM12.out⟩⟩
           ·
            replace c80 := Bool.eq_false_iff.mpr c80
            subst c80
            have H1 : (some (x145000_2, (wrap64 (x145001_1 + 1)), true, true)) = some (r1, r2, r3, r4) := by rw [if_neg (show ¬ (false = true) by decide)] at H; exact H
            clear H
            have H := H1
            clear H1
            simp only [Option.some.injEq, Prod.mk.injEq] at H
            obtain ⟨rfl, rfl, rfl, rfl⟩ := H
            have hnb81 := NB144_136.out
            have hnc81 := NB136_144.out
            have hcz82_0 : wr.cell? ⟨gb144, 0, none⟩ = some (u145000) := (blk_cell BK144.out 0).trans rfl
            have hcz82_1 : wr.cell? ⟨gb144, 1, none⟩ = some (.int .i64 (wrap64 (x145001_1 + 1))) := (blk_cell BK144.out 1).trans rfl
            have hcz82_2 : wr.cell? ⟨gb144, 2, none⟩ = some (.bool x145002_1) := (blk_cell BK144.out 2).trans rfl
            have hfz82_0 := blk_frozen BK144.out 0
            have hfz82_1 := blk_frozen BK144.out 1
            have hfz82_2 := blk_frozen BK144.out 2
            obtain ⟨Ao83, co83, eo83⟩ := Kd.R_slice HO_145000.out
            subst eo83
            have hcz84_0 : wr.cell? ⟨gb136, 0, none⟩ = some (.slice none 0 0) := (blk_cell BK136.out 0).trans rfl
            have hcz84_1 : wr.cell? ⟨gb136, 1, none⟩ = some (.int .i64 0) := (blk_cell BK136.out 1).trans rfl
            have hcz84_2 : wr.cell? ⟨gb136, 2, none⟩ = some (.bool false) := (blk_cell BK136.out 2).trans rfl
            have hfz84_0 := blk_frozen BK136.out 0
            have hfz84_1 := blk_frozen BK136.out 1
            have hfz84_2 := blk_frozen BK136.out 2
            go_wp2
            refine bodyPost_ret (results_ct rfl _ _ gb136 33 #[.slice Ao83 x145000_2.length co83, .int .i64 (wrap64 (x145001_1 + 1)), .bool true] (0, 0) _ rfl (by (with_reducible repeat (first | refine blk_drewN ?_ _ | refine blk_drew ?_ | refine blk_alloc ?_ _)); refine blk_put (cs := #[.slice Ao83 x145000_2.length co83, .int .i64 (wrap64 (x145001_1 + 1)), .bool false]) ?_ 2 _ rfl; (with_reducible repeat (first | refine blk_drewN ?_ _ | refine blk_drew ?_ | refine blk_alloc ?_ _)); refine blk_put (cs := #[.slice Ao83 x145000_2.length co83, .int .i64 0, .bool false]) ?_ 1 _ rfl; (with_reducible repeat (first | refine blk_drewN ?_ _ | refine blk_drew ?_ | refine blk_alloc ?_ _)); refine blk_put (cs := #[.slice none 0 0, .int .i64 0, .bool false]) ?_ 0 _ rfl; (with_reducible repeat (first | refine blk_drewN ?_ _ | refine blk_drew ?_ | refine blk_alloc ?_ _)); refine blk_far ?_ NB136_144.out _; (with_reducible repeat (first | refine blk_drewN ?_ _ | refine blk_drew ?_ | refine blk_alloc ?_ _)); exact BK136.out) Try.underlying33 rfl (by kernel_rfl)) rfl ?_
            exact ⟨_, by first | rfl | (simp [*] <;> rfl), by (with_reducible repeat (first | apply Kd.R_alloc | apply Kd.R_drewN | apply Kd.R_drew)); exact Kd.R_mono (Kd.R_far (p := ⟨gb136, 2, none⟩) (Kd.R_far (p := ⟨gb136, 1, none⟩) (Kd.R_far (p := ⟨gb136, 0, none⟩) (Kd.R_far (p := ⟨gb144, 2, none⟩) (Kd.R_types (Kd.R_types HO_145000.out BK144.out (by decide)) BK136.out (by decide)) (fun _ hk => hk.1.2) (.bool true)) (fun _ hk => hk.2) (.slice Ao83 x145000_2.length co83)) (fun _ hk => hk.2) (.int .i64 (wrap64 (x145001_1 + 1)))) (fun _ hk => hk.2) (.bool true)) (fun _ hk => trivial), by repeat (first | (with_reducible first | exact HB.out | apply below_alloc | apply bN | apply bD | refine below_set ?_ GE136.out | refine below_set ?_ GE144.out) | exact HB.out)⟩
       ·
        replace c21 := Bool.eq_false_iff.mpr c21
        subst c21
        have H1 : (some (x145000_1, x145001_1, x145002_1, true)) = some (r1, r2, r3, r4) := by rw [if_neg (show ¬ (false = true) by decide)] at H; exact H
        clear H
        have H := H1
        clear H1
        simp only [Option.some.injEq, Prod.mk.injEq] at H
        obtain ⟨rfl, rfl, rfl, rfl⟩ := H
        have hnb85 := NB144_136.out
        have hnc85 := NB136_144.out
        have hcz86_0 : wr.cell? ⟨gb144, 0, none⟩ = some (u145000) := (blk_cell BK144.out 0).trans rfl
        have hcz86_1 : wr.cell? ⟨gb144, 1, none⟩ = some (.int .i64 x145001_1) := (blk_cell BK144.out 1).trans rfl
        have hcz86_2 : wr.cell? ⟨gb144, 2, none⟩ = some (.bool x145002_1) := (blk_cell BK144.out 2).trans rfl
        have hfz86_0 := blk_frozen BK144.out 0
        have hfz86_1 := blk_frozen BK144.out 1
        have hfz86_2 := blk_frozen BK144.out 2
        obtain ⟨Ao87, co87, eo87⟩ := Kd.R_slice HO_145000.out
        subst eo87
        go_wp2_with (first | ((with_reducible refine gate_callee (f := 43) rfl ?_); refine goesL_ (some 38) rfl rfl Try.func43 (by kernel_rfl) rfl #[.slice Ao87 x145000_1.length co87, .bool false] rfl (by (try simp only [mA, mB, mC]); first | done | rfl | (simp only [mE, mD]; rfl)) ?_; (with_reducible refine (slices_Contains_bool_bool.calls k1 _ _ x145000_1 false false _ ?side1 ?side2 A20.out).mono ?_); (case side1 => repeat (first | exact (Kd.R_reads' HO_145000.out).2.2 | (with_reducible refine Kd.C_alloc ?_ _) | (with_reducible refine Kd.C_drewN ?_ _) | (with_reducible refine Kd.C_drew ?_))); (case side2 => exact (Kd.R_reads' HO_145000.out).2.1); rintro e w' ⟨rfl, ⟨nd, rfl⟩⟩; refine ⟨_, rfl, ?_⟩; (try (rw [drewN_self wr]; generalize hq_ : World.drewN wr _ = wr; have n0_ : Aside0 (Kd.R (Kd.int .i64) 3 wr w.heap.size (fun _ => True) v146 x11_1) := ⟨by rw [← hq_]; exact (by (with_reducible repeat (first | apply Kd.R_alloc | apply Kd.R_drewN | apply Kd.R_drew)); exact HO_11.out)⟩; have n1_ : Aside0 (Kd.R Kd.bool 4 wr w.heap.size (fun _ => True) (.slice Ao87 x145000_1.length co87) x145000_1) := ⟨by rw [← hq_]; exact (by (with_reducible repeat (first | apply Kd.R_alloc | apply Kd.R_drewN | apply Kd.R_drew)); exact HO_145000.out)⟩; have n2_ : Aside0 (Kd.S (Kd.slice 3 (Kd.int .i64)) 28 wr w.heap.size (fun k_ => some k_ ≠ (v146 : Value).ownBlock) (.slice Ao11 t137.length co11) t137) := ⟨by rw [← hq_]; exact (by (with_reducible repeat (first | apply Kd.S_alloc | apply Kd.S_drewN | apply Kd.S_drew)); exact HO_8.out)⟩; have n3_ : Aside0 (wr.heap[gb136]? = some (.cells #[.slice none 0 0, .int .i64 0, .bool false] 33 (0, 0))) := ⟨by rw [← hq_]; exact (by (with_reducible repeat (first | refine blk_drewN ?_ _ | refine blk_drew ?_ | refine blk_alloc ?_ _)); exact BK136.out)⟩; have n4_ : Aside0 (wr.heap[gb144]? = some (.cells #[.slice Ao87 x145000_1.length co87, .int .i64 x145001_1, .bool x145002_1] 33 (0, 0))) := ⟨by rw [← hq_]; exact (by (with_reducible repeat (first | refine blk_drewN ?_ _ | refine blk_drew ?_ | refine blk_alloc ?_ _)); exact BK144.out)⟩; have n5_ : Aside0 (Below w.heap.size w wr) := ⟨by rw [← hq_]; exact (by repeat (first | (with_reducible first | exact HB.out | apply below_alloc | apply bN | apply bD | refine below_set ?_ GE136.out | refine below_set ?_ GE144.out) | exact HB.out))⟩; clear HO_11 HO_145000 HO_8 BK136 BK144 HB hq_; have HO_11 := n0_; have HO_145000 := n1_; have HO_8 := n2_; have BK136 := n3_; have BK144 := n4_; have HB := n5_; clear n0_ n1_ n2_ n3_ n4_ n5_; have hcy_0 : wr.cell? ⟨gb144, 0, none⟩ = some (.slice Ao87 x145000_1.length co87) := (blk_cell BK144.out 0).trans rfl; have hfy_0 := blk_frozen BK144.out 0; have hcy_1 : wr.cell? ⟨gb144, 1, none⟩ = some (.int .i64 x145001_1) := (blk_cell BK144.out 1).trans rfl; have hfy_1 := blk_frozen BK144.out 1; have hcy_2 : wr.cell? ⟨gb144, 2, none⟩ = some (.bool x145002_1) := (blk_cell BK144.out 2).trans rfl; have hfy_2 := blk_frozen BK144.out 2)); have hcz88_0 : wr.cell? ⟨gb136, 0, none⟩ = some (.slice none 0 0) := (blk_cell BK136.out 0).trans rfl; have hcz88_1 : wr.cell? ⟨gb136, 1, none⟩ = some (.int .i64 0) := (blk_cell BK136.out 1).trans rfl; have hcz88_2 : wr.cell? ⟨gb136, 2, none⟩ = some (.bool false) := (blk_cell BK136.out 2).trans rfl; have hfz88_0 := blk_frozen BK136.out 0; have hfz88_1 := blk_frozen BK136.out 1; have hfz88_2 := blk_frozen BK136.out 2))
        refine bodyPost_ret (results_ct rfl _ _ gb136 33 #[.slice Ao87 x145000_1.length co87, .int .i64 x145001_1, .bool x145002_1] (0, 0) _ rfl (by (with_reducible repeat (first | refine blk_drewN ?_ _ | refine blk_drew ?_ | refine blk_alloc ?_ _)); refine blk_put (cs := #[.slice Ao87 x145000_1.length co87, .int .i64 x145001_1, .bool false]) ?_ 2 _ rfl; (with_reducible repeat (first | refine blk_drewN ?_ _ | refine blk_drew ?_ | refine blk_alloc ?_ _)); refine blk_put (cs := #[.slice Ao87 x145000_1.length co87, .int .i64 0, .bool false]) ?_ 1 _ rfl; (with_reducible repeat (first | refine blk_drewN ?_ _ | refine blk_drew ?_ | refine blk_alloc ?_ _)); refine blk_put (cs := #[.slice none 0 0, .int .i64 0, .bool false]) ?_ 0 _ rfl; (with_reducible repeat (first | refine blk_drewN ?_ _ | refine blk_drew ?_ | refine blk_alloc ?_ _)); exact BK136.out) Try.underlying33 rfl (by kernel_rfl)) rfl ?_
        exact ⟨_, by first | rfl | (simp [*] <;> rfl), by (with_reducible repeat (first | apply Kd.R_alloc | apply Kd.R_drewN | apply Kd.R_drew)); exact Kd.R_mono (Kd.R_far (p := ⟨gb136, 2, none⟩) (Kd.R_far (p := ⟨gb136, 1, none⟩) (Kd.R_far (p := ⟨gb136, 0, none⟩) (Kd.R_types HO_145000.out BK136.out (by decide)) (fun _ hk => hk.2) (.slice Ao87 x145000_1.length co87)) (fun _ hk => hk.2) (.int .i64 x145001_1)) (fun _ hk => hk.2) (.bool x145002_1)) (fun _ hk => trivial), by repeat (first | (with_reducible first | exact HB.out | apply below_alloc | apply bN | apply bD | refine below_set ?_ GE136.out | refine below_set ?_ GE144.out) | exact HB.out)⟩
    ·
     rw [if_neg c8] at H
     exact absurd H (by simp)
   ·
    rw [if_neg c7] at H
    exact absurd H (by simp)
  ·
   rw [if_neg c6] at H
   exact absurd H (by simp)
 ·
  replace c5 := Bool.eq_false_iff.mpr c5
  subst c5
  have H1 : (some (([] : List Bool), 0, false, false)) = some (r1, r2, r3, r4) := by rw [if_neg (show ¬ (false = true) by decide)] at H; exact H
  clear H
  have H := H1
  clear H1
  simp only [Option.some.injEq, Prod.mk.injEq] at H
  obtain ⟨rfl, rfl, rfl, rfl⟩ := H
  go_enter Try.func16, Try.ntmps16
  go_wp2_with (first | ((with_reducible refine gate_dst (N := 6) rfl ?_); refine box_event ?hg (N := 6) ?hd (cs := #[.slice none 0 0, .int .i64 0, .bool false]) (t := 33) ?hr ?_; (case hd => rfl); (case hg => rfl); (case hr => first | (go_simp; done) | (go_simp; rfl)); intro gb136 hg w89 hbox hb; have n0_ := aM (below_step (by repeat (first | (with_reducible first | exact HB.out | apply below_alloc | apply bN | apply bD) | exact HB.out)) hb); have n1_ := aM (hbox); have n2_ := aM ((by rw [hg]; exact (below_size (by repeat (first | (with_reducible first | exact HB.out | apply below_alloc | apply bN | apply bD) | exact HB.out))) : w.heap.size ≤ gb136)); have n3_ := aM ((by rw [hg]; exact (below_size (by repeat (first | (with_reducible first | exact HB.out | apply below_alloc | apply bN | apply bD) | exact HB.out))) : w.heap.size ≤ gb136)); clear HB; have HB := n0_; have BK136 := n1_; have GW136 := n2_; have GE136 := n3_; clear n0_ n1_ n2_ n3_; clear hb hbox hg) | ((with_reducible refine gate_callee (f := 34) rfl ?_); refine goesL_ (some 22) rfl rfl Try.func34 (by kernel_rfl) rfl #[.agg #[.int .i64 a0, .int .i64 a1], .slice A2 l2.length c2] rfl (by (try simp only [mA, mB, mC]); first | done | rfl | (simp only [mE, mD]; rfl)) ?_; (with_reducible refine (impl_fabric_wires.calls k a0 a1 _ _ l2 t137 false _ ?side1 ?side2 A4.out).mono ?_); (case side1 => repeat (first | exact (Kd.C_below HR2.out HB.out) | (with_reducible refine Kd.C_alloc ?_ _) | (with_reducible refine Kd.C_drewN ?_ _) | (with_reducible refine Kd.C_drew ?_))); (case side2 => exact HC2.out); rintro e w90 ⟨v138, rfl, ho0, hb⟩; refine ⟨_, rfl, ?_⟩; have n0_ := aM (Kd.S_lower ho0 (below_size (by repeat (first | (with_reducible first | exact HB.out | apply below_alloc | apply bN | apply bD | refine below_set ?_ GE136.out) | exact HB.out)))); have n1_ := aM (blk_below (g := gb136) (o := .cells #[.slice none 0 0, .int .i64 0, .bool false] 33 (0, 0)) (by (with_reducible repeat (first | refine blk_drewN ?_ _ | refine blk_drew ?_ | refine blk_alloc ?_ _)); exact BK136.out) hb); have n2_ := aM (below_step (by repeat (first | (with_reducible first | exact HB.out | apply below_alloc | apply bN | apply bD | refine below_set ?_ GE136.out) | exact HB.out)) hb); clear BK136; clear HB; have HO139 := n0_; have BK136 := n1_; have HB := n2_; clear n0_ n1_ n2_; (try clear hb); (try clear hb2); (try clear hk); (try clear hi); (try clear ho0); have hcz91_0 : w90.cell? ⟨gb136, 0, none⟩ = some (.slice none 0 0) := (blk_cell BK136.out 0).trans rfl; have hcz91_1 : w90.cell? ⟨gb136, 1, none⟩ = some (.int .i64 0) := (blk_cell BK136.out 1).trans rfl; have hcz91_2 : w90.cell? ⟨gb136, 2, none⟩ = some (.bool false) := (blk_cell BK136.out 2).trans rfl; have hfz91_0 := blk_frozen BK136.out 0; have hfz91_1 := blk_frozen BK136.out 1; have hfz91_2 := blk_frozen BK136.out 2))
  refine bodyPost_ret (results_ct rfl _ _ gb136 33 #[.slice none 0 0, .int .i64 0, .bool false] (0, 0) _ rfl (by (with_reducible repeat (first | refine blk_drewN ?_ _ | refine blk_drew ?_ | refine blk_alloc ?_ _)); refine blk_put (cs := #[.slice none 0 0, .int .i64 0, .bool false]) ?_ 2 _ rfl; (with_reducible repeat (first | refine blk_drewN ?_ _ | refine blk_drew ?_ | refine blk_alloc ?_ _)); refine blk_put (cs := #[.slice none 0 0, .int .i64 0, .bool false]) ?_ 1 _ rfl; (with_reducible repeat (first | refine blk_drewN ?_ _ | refine blk_drew ?_ | refine blk_alloc ?_ _)); refine blk_put (cs := #[.slice none 0 0, .int .i64 0, .bool false]) ?_ 0 _ rfl; (with_reducible repeat (first | refine blk_drewN ?_ _ | refine blk_drew ?_ | refine blk_alloc ?_ _)); exact BK136.out) Try.underlying33 rfl (by kernel_rfl)) rfl ?_
  exact ⟨_, by first | rfl | (simp [*] <;> rfl), by first | exact Kd.R_nil _ _ _ _ _ | exact Kd.N_nil _ _ _ _ _ | exact Kd.V_nil _ _ _ _ _ | exact Kd.Q_nil _ _ _ _ _ | exact Kd.S_nil _ _ _ _ _, by repeat (first | (with_reducible first | exact HB.out | apply below_alloc | apply bN | apply bD | refine below_set ?_ GE136.out) | exact HB.out)⟩
end Go.Proofs.Ytdbokdodjekchaa.PFnNoRound
