/- What the Go functions that this law reaches answer, function by function; conditions: those that each contract names. Made for this claim by a program of this session (wip/myprint) over the kit's print. -/
import Derived.Test.YtdbokdodjekchaaPFnExactRunWormsx0
import Derived.Test.YtdbokdodjekchaaPFnExactRunWormsx4
import Derived.Test.YtdbokdodjekchaaPFnExactRunWormsx9
import Derived.Test.YtdbokdodjekchaaPFnExactRunWormsx10
import Derived.Test.YtdbokdodjekchaaPFnExactRunWormsx11
namespace Go.Proofs.Ytdbokdodjekchaa.PFnExactRunWorms
open Go.RowKit Go.Proofs.YtdbokdodjekchaaW.PrintWords Go.Proofs.YtdbokdodjekchaaW.PrintLast Go.Proofs.YtdbokdodjekchaaW.PrintMore
attribute [local go_sem] max2_int min2_int max_two min_two max_three min_three max_four min_four   -- for this text's walks alone
set_option linter.unusedVariables false
set_option linter.unusedSimpArgs false
/-! ### laws_FnExactRunWorms: function 7 -/
mutual
def laws_FnExactRunWorms.j0 : Nat → Int → Int → List (List Int) → Bool → List (List Int) → Bool → Bool → List Bool → Int → Bool → List Bool → Int → Bool → Option (Bool)
 | 0, _, _, _, _, _, _, _, _, _, _, _, _, _ => none
 | k + 1, x0, x1, x2, x9, x10, x12, x48, x214000, x214001, x214002, x224000, x224001, x224002 => if x48 = true then (some false) else ((laws_toIntSS.f k x2).bind fun t225 => ((laws_eqIntSS.f k x10 t225).bind fun t228 => (if t228 = true then ((laws_markIntSS.f k x10 1).bind fun t229 => (if t229 < 0 then (laws_FnExactRunWorms.j1 k x0 x1 x2 x9 true x214000 x214001 x214002 x224000 x224001 x224002) else ((laws_eqWormRun.f k x224000 x224001 x224002 x214000 x214001 x214002).bind fun t230 => (if t230 = true then (laws_FnExactRunWorms.j1 k x0 x1 x2 x9 (x12 != x9) x214000 x214001 x214002 x224000 x224001 x224002) else (laws_FnExactRunWorms.j1 k x0 x1 x2 x9 true x214000 x214001 x214002 x224000 x224001 x224002))))) else (some false))))
def laws_FnExactRunWorms.j1 : Nat → Int → Int → List (List Int) → Bool → Bool → List Bool → Int → Bool → List Bool → Int → Bool → Option (Bool)
 | 0, _, _, _, _, _, _, _, _, _, _, _ => none
 | k + 1, x0, x1, x2, x9, x69, x214000, x214001, x214002, x224000, x224001, x224002 => if x69 = true then (some false) else ((laws_markWormRun.f k x224000 x224001 x224002 1).bind fun bt231 => ((laws_heldWormRun.f k bt231.2 x224001 x224002 1).bind fun t233 => (if t233 < 0 then (some false) else (if t233 = bt231.1 then ((laws_toIntSS.f k x2).bind fun t234 => ((impl_RunWorms.f k x0 x1 t234).bind fun bt237 => ((laws_eqWormRun.f k bt237.1 bt237.2.1 bt237.2.2.1 x214000 x214001 x214002).bind fun t244 => (if t244 = true then (laws_FnExactRunWorms.j2 k bt231.1 (bt237.2.2.2 != x9) bt231.2 x224001 x224002) else (laws_FnExactRunWorms.j2 k bt231.1 true bt231.2 x224001 x224002))))) else (some false)))))
def laws_FnExactRunWorms.j2 : Nat → Int → Bool → List Bool → Int → Bool → Option (Bool)
 | 0, _, _, _, _, _ => none
 | k + 1, x14, x97, x224000, x224001, x224002 => if x97 = true then (some false) else ((laws_heldWormRun.f k x224000 x224001 x224002 1).bind fun t245 => (if t245 < 0 then (some false) else (if t245 = x14 then (some true) else (some false))))
end
def laws_FnExactRunWorms.f (k : Nat) (a0 : Int) (a1 : Int) (l2 : List (List Int)) : Option (Bool) := (laws_szIntSS.f k l2 1048576).bind fun t203 => (if t203 < 0 then (some true) else ((laws_toIntSS.f k l2).bind fun t204 => ((spec_RunWorms.f k a0 a1 t204).bind fun bt207 => ((laws_toIntSS.f k l2).bind fun t214 => ((impl_RunWorms.f k a0 a1 t214).bind fun bt217 => ((laws_eqWormRun.f k bt217.1 bt217.2.1 bt217.2.2.1 bt207.1 bt207.2.1 bt207.2.2.1).bind fun t224 => (if t224 = true then (laws_FnExactRunWorms.j0 k a0 a1 l2 bt207.2.2.2 t214 bt217.2.2.2 (bt217.2.2.2 != bt207.2.2.2) bt207.1 bt207.2.1 bt207.2.2.1 bt217.1 bt217.2.1 bt217.2.2.1) else (laws_FnExactRunWorms.j0 k a0 a1 l2 bt207.2.2.2 t214 bt217.2.2.2 true bt207.1 bt207.2.1 bt207.2.2.1 bt217.1 bt217.2.1 bt217.2.2.1))))))))
theorem laws_FnExactRunWorms.mono_l : ∀ k, (∀ y0 y1 y2 y3 y4 y5 y6 y7 y8 y9 y10 y11 y12, LeO (laws_FnExactRunWorms.j0 k y0 y1 y2 y3 y4 y5 y6 y7 y8 y9 y10 y11 y12) (laws_FnExactRunWorms.j0 (k + 1) y0 y1 y2 y3 y4 y5 y6 y7 y8 y9 y10 y11 y12)) ∧ (∀ y0 y1 y2 y3 y4 y5 y6 y7 y8 y9 y10, LeO (laws_FnExactRunWorms.j1 k y0 y1 y2 y3 y4 y5 y6 y7 y8 y9 y10) (laws_FnExactRunWorms.j1 (k + 1) y0 y1 y2 y3 y4 y5 y6 y7 y8 y9 y10)) ∧ (∀ y0 y1 y2 y3 y4, LeO (laws_FnExactRunWorms.j2 k y0 y1 y2 y3 y4) (laws_FnExactRunWorms.j2 (k + 1) y0 y1 y2 y3 y4))
 | 0 => ⟨fun _ _ _ _ _ _ _ _ _ _ _ _ _ r h => by simp [laws_FnExactRunWorms.j0] at h, fun _ _ _ _ _ _ _ _ _ _ _ r h => by simp [laws_FnExactRunWorms.j1] at h, fun _ _ _ _ _ r h => by simp [laws_FnExactRunWorms.j2] at h⟩
 | k + 1 => by
  obtain ⟨ih0, ih1, ih2⟩ := laws_FnExactRunWorms.mono_l k
  refine ⟨?_, ?_, ?_⟩
  ·
   intro y0 y1 y2 y3 y4 y5 y6 y7 y8 y9 y10 y11 y12
   unfold laws_FnExactRunWorms.j0
   repeat' first
   | (with_reducible exact ih0 _ _ _ _ _ _ _ _ _ _ _ _ _)
   | (with_reducible exact ih1 _ _ _ _ _ _ _ _ _ _ _)
   | (with_reducible exact ih2 _ _ _ _ _)
   | (with_reducible exact impl_RunWorms.mono _ _ _ _)
   | (with_reducible exact laws_eqIntSS.mono _ _ _)
   | (with_reducible exact laws_eqWormRun.mono _ _ _ _ _ _ _)
   | (with_reducible exact laws_heldWormRun.mono _ _ _ _ _)
   | (with_reducible exact laws_markIntSS.mono _ _ _)
   | (with_reducible exact laws_markWormRun.mono _ _ _ _ _)
   | (with_reducible exact laws_szIntSS.mono _ _ _)
   | (with_reducible exact laws_toIntSS.mono _ _)
   | (with_reducible exact spec_RunWorms.mono _ _ _ _)
   | (with_reducible exact LeO.refl _)
   | (with_reducible exact LeO.none _)
   | (with_reducible refine LeO.ite ?_ ?_)
   | (with_reducible refine LeO.bind ?_ (fun _ => ?_))
   | exact ih0 _ _ _ _ _ _ _ _ _ _ _ _ _
   | exact ih1 _ _ _ _ _ _ _ _ _ _ _
   | exact ih2 _ _ _ _ _
   | exact impl_RunWorms.mono _ _ _ _
   | exact laws_eqIntSS.mono _ _ _
   | exact laws_eqWormRun.mono _ _ _ _ _ _ _
   | exact laws_heldWormRun.mono _ _ _ _ _
   | exact laws_markIntSS.mono _ _ _
   | exact laws_markWormRun.mono _ _ _ _ _
   | exact laws_szIntSS.mono _ _ _
   | exact laws_toIntSS.mono _ _
   | exact spec_RunWorms.mono _ _ _ _
   | exact LeO.none _
   | refine LeO.ite ?_ ?_
   | refine LeO.bind ?_ (fun _ => ?_)
  ·
   intro y0 y1 y2 y3 y4 y5 y6 y7 y8 y9 y10
   unfold laws_FnExactRunWorms.j1
   repeat' first
   | (with_reducible exact ih0 _ _ _ _ _ _ _ _ _ _ _ _ _)
   | (with_reducible exact ih1 _ _ _ _ _ _ _ _ _ _ _)
   | (with_reducible exact ih2 _ _ _ _ _)
   | (with_reducible exact impl_RunWorms.mono _ _ _ _)
   | (with_reducible exact laws_eqIntSS.mono _ _ _)
   | (with_reducible exact laws_eqWormRun.mono _ _ _ _ _ _ _)
   | (with_reducible exact laws_heldWormRun.mono _ _ _ _ _)
   | (with_reducible exact laws_markIntSS.mono _ _ _)
   | (with_reducible exact laws_markWormRun.mono _ _ _ _ _)
   | (with_reducible exact laws_szIntSS.mono _ _ _)
   | (with_reducible exact laws_toIntSS.mono _ _)
   | (with_reducible exact spec_RunWorms.mono _ _ _ _)
   | (with_reducible exact LeO.refl _)
   | (with_reducible exact LeO.none _)
   | (with_reducible refine LeO.ite ?_ ?_)
   | (with_reducible refine LeO.bind ?_ (fun _ => ?_))
   | exact ih0 _ _ _ _ _ _ _ _ _ _ _ _ _
   | exact ih1 _ _ _ _ _ _ _ _ _ _ _
   | exact ih2 _ _ _ _ _
   | exact impl_RunWorms.mono _ _ _ _
   | exact laws_eqIntSS.mono _ _ _
   | exact laws_eqWormRun.mono _ _ _ _ _ _ _
   | exact laws_heldWormRun.mono _ _ _ _ _
   | exact laws_markIntSS.mono _ _ _
   | exact laws_markWormRun.mono _ _ _ _ _
   | exact laws_szIntSS.mono _ _ _
   | exact laws_toIntSS.mono _ _
   | exact spec_RunWorms.mono _ _ _ _
   | exact LeO.none _
   | refine LeO.ite ?_ ?_
   | refine LeO.bind ?_ (fun _ => ?_)
  ·
   intro y0 y1 y2 y3 y4
   unfold laws_FnExactRunWorms.j2
   repeat' first
   | (with_reducible exact ih0 _ _ _ _ _ _ _ _ _ _ _ _ _)
   | (with_reducible exact ih1 _ _ _ _ _ _ _ _ _ _ _)
   | (with_reducible exact ih2 _ _ _ _ _)
   | (with_reducible exact impl_RunWorms.mono _ _ _ _)
   | (with_reducible exact laws_eqIntSS.mono _ _ _)
   | (with_reducible exact laws_eqWormRun.mono _ _ _ _ _ _ _)
   | (with_reducible exact laws_heldWormRun.mono _ _ _ _ _)
   | (with_reducible exact laws_markIntSS.mono _ _ _)
   | (with_reducible exact laws_markWormRun.mono _ _ _ _ _)
   | (with_reducible exact laws_szIntSS.mono _ _ _)
   | (with_reducible exact laws_toIntSS.mono _ _)
   | (with_reducible exact spec_RunWorms.mono _ _ _ _)
   | (with_reducible exact LeO.refl _)
   | (with_reducible exact LeO.none _)
   | (with_reducible refine LeO.ite ?_ ?_)
   | (with_reducible refine LeO.bind ?_ (fun _ => ?_))
   | exact ih0 _ _ _ _ _ _ _ _ _ _ _ _ _
   | exact ih1 _ _ _ _ _ _ _ _ _ _ _
   | exact ih2 _ _ _ _ _
   | exact impl_RunWorms.mono _ _ _ _
   | exact laws_eqIntSS.mono _ _ _
   | exact laws_eqWormRun.mono _ _ _ _ _ _ _
   | exact laws_heldWormRun.mono _ _ _ _ _
   | exact laws_markIntSS.mono _ _ _
   | exact laws_markWormRun.mono _ _ _ _ _
   | exact laws_szIntSS.mono _ _ _
   | exact laws_toIntSS.mono _ _
   | exact spec_RunWorms.mono _ _ _ _
   | exact LeO.none _
   | refine LeO.ite ?_ ?_
   | refine LeO.bind ?_ (fun _ => ?_)
theorem laws_FnExactRunWorms.mono : ∀ a0 a1 a2 k, LeO (laws_FnExactRunWorms.f k a0 a1 a2) (laws_FnExactRunWorms.f (k + 1) a0 a1 a2) := by
 intro a0 a1 a2 k
 obtain ⟨ih0, ih1, ih2⟩ := laws_FnExactRunWorms.mono_l k
 unfold laws_FnExactRunWorms.f
 repeat' first
   | (with_reducible exact ih0 _ _ _ _ _ _ _ _ _ _ _ _ _)
   | (with_reducible exact ih1 _ _ _ _ _ _ _ _ _ _ _)
   | (with_reducible exact ih2 _ _ _ _ _)
   | (with_reducible exact impl_RunWorms.mono _ _ _ _)
   | (with_reducible exact laws_eqIntSS.mono _ _ _)
   | (with_reducible exact laws_eqWormRun.mono _ _ _ _ _ _ _)
   | (with_reducible exact laws_heldWormRun.mono _ _ _ _ _)
   | (with_reducible exact laws_markIntSS.mono _ _ _)
   | (with_reducible exact laws_markWormRun.mono _ _ _ _ _)
   | (with_reducible exact laws_szIntSS.mono _ _ _)
   | (with_reducible exact laws_toIntSS.mono _ _)
   | (with_reducible exact spec_RunWorms.mono _ _ _ _)
   | (with_reducible exact LeO.refl _)
   | (with_reducible exact LeO.none _)
   | (with_reducible refine LeO.ite ?_ ?_)
   | (with_reducible refine LeO.bind ?_ (fun _ => ?_))
   | exact ih0 _ _ _ _ _ _ _ _ _ _ _ _ _
   | exact ih1 _ _ _ _ _ _ _ _ _ _ _
   | exact ih2 _ _ _ _ _
   | exact impl_RunWorms.mono _ _ _ _
   | exact laws_eqIntSS.mono _ _ _
   | exact laws_eqWormRun.mono _ _ _ _ _ _ _
   | exact laws_heldWormRun.mono _ _ _ _ _
   | exact laws_markIntSS.mono _ _ _
   | exact laws_markWormRun.mono _ _ _ _ _
   | exact laws_szIntSS.mono _ _ _
   | exact laws_toIntSS.mono _ _
   | exact spec_RunWorms.mono _ _ _ _
   | exact LeO.none _
   | refine LeO.ite ?_ ?_
   | refine LeO.bind ?_ (fun _ => ?_)
set_option maxHeartbeats 8000000 in
set_option maxRecDepth 100000 in
theorem laws_FnExactRunWorms.calls (k : Nat) (a0 : Int) (a1 : Int) (A2 : Option Addr) (c2 : Nat) (l2 : List (List Int)) (r : Bool) (w : World) (hr2 : Kd.C (Kd.slice 3 (Kd.int .i64)) w A2 l2.length l2) (hc2 : l2.length ≤ c2) (h : laws_FnExactRunWorms.f k a0 a1 l2 = some r) :
  Calls Try.prog 7 #[.int .i64 a0, .int .i64 a1, .slice A2 l2.length c2] w fun e w' => e = .returned (.bool r) ∧ Below w.heap.size w w' := by
 have hu33 := Try.underlying33
 have HR2 := aM hr2
 have HC2 := aM hc2
 clear hr2 hc2
 have HB := aM (Below.refl w.heap.size w)
 have H : ((laws_szIntSS.f k l2 1048576).bind fun t203 => (if t203 < 0 then (some true) else ((laws_toIntSS.f k l2).bind fun t204 => ((spec_RunWorms.f k a0 a1 t204).bind fun bt207 => ((laws_toIntSS.f k l2).bind fun t214 => ((impl_RunWorms.f k a0 a1 t214).bind fun bt217 => ((laws_eqWormRun.f k bt217.1 bt217.2.1 bt217.2.2.1 bt207.1 bt207.2.1 bt207.2.2.1).bind fun t224 => (if t224 = true then (laws_FnExactRunWorms.j0 k a0 a1 l2 bt207.2.2.2 t214 bt217.2.2.2 (bt217.2.2.2 != bt207.2.2.2) bt207.1 bt207.2.1 bt207.2.2.1 bt217.1 bt217.2.1 bt217.2.2.1) else (laws_FnExactRunWorms.j0 k a0 a1 l2 bt207.2.2.2 t214 bt217.2.2.2 true bt207.1 bt207.2.1 bt207.2.2.1 bt217.1 bt217.2.1 bt217.2.2.1))))))))) = some r := h
 clear h
 replace H := bE H
 obtain ⟨t203, A40, H⟩ := H
 replace H : (if t203 < 0 then (some true) else ((laws_toIntSS.f k l2).bind fun t204 => ((spec_RunWorms.f k a0 a1 t204).bind fun bt207 => ((laws_toIntSS.f k l2).bind fun t214 => ((impl_RunWorms.f k a0 a1 t214).bind fun bt217 => ((laws_eqWormRun.f k bt217.1 bt217.2.1 bt217.2.2.1 bt207.1 bt207.2.1 bt207.2.2.1).bind fun t224 => (if t224 = true then (laws_FnExactRunWorms.j0 k a0 a1 l2 bt207.2.2.2 t214 bt217.2.2.2 (bt217.2.2.2 != bt207.2.2.2) bt207.1 bt207.2.1 bt207.2.2.1 bt217.1 bt217.2.1 bt217.2.2.1) else (laws_FnExactRunWorms.j0 k a0 a1 l2 bt207.2.2.2 t214 bt217.2.2.2 true bt207.1 bt207.2.1 bt207.2.2.1 bt217.1 bt217.2.1 bt217.2.2.1)))))))) = some r := H
 have A4 := aM A40
 clear A40
 by_cases c5 : t203 < 0
 ·
  rw [if_pos c5] at H
  have c5b0 : decide (t203 < 0) = true := decide_eq_true c5
  clear c5
  obtain rfl := Option.some.inj H
  go_enter Try.func7, Try.ntmps7
  go_wp2_with (first | ((with_reducible refine gate_callee (f := 24) rfl ?_); refine goesL_ (some 20) rfl rfl Try.func24 (by kernel_rfl) rfl #[.slice A2 l2.length c2, .int .i64 1048576] rfl (by (try simp only [mA, mB, mC]); first | done | rfl | (simp only [mE, mD]; rfl)) ?_; (with_reducible refine (laws_szIntSS.calls k _ _ l2 1048576 t203 _ ?side1 ?side2 A4.out).mono ?_); (case side1 => repeat (first | exact HR2.out | (with_reducible refine Kd.C_alloc ?_ _) | (with_reducible refine Kd.C_drewN ?_ _) | (with_reducible refine Kd.C_drew ?_))); (case side2 => exact HC2.out); rintro e w' ⟨rfl, ⟨nd, rfl⟩⟩; refine ⟨_, rfl, ?_⟩))
  go_ret
  exact ⟨by first | rfl | (simp [*] <;> rfl) | (exfalso; simp_all; done), by repeat (first | (with_reducible first | exact HB.out | apply below_alloc | apply bN | apply bD) | exact HB.out)⟩
 ·
  rw [if_neg c5] at H
  have c5b0 : decide (t203 < 0) = false := decide_eq_false c5
  clear c5
  replace H := bE H
  obtain ⟨t204, A60, H⟩ := H
  replace H : ((spec_RunWorms.f k a0 a1 t204).bind fun bt207 => ((laws_toIntSS.f k l2).bind fun t214 => ((impl_RunWorms.f k a0 a1 t214).bind fun bt217 => ((laws_eqWormRun.f k bt217.1 bt217.2.1 bt217.2.2.1 bt207.1 bt207.2.1 bt207.2.2.1).bind fun t224 => (if t224 = true then (laws_FnExactRunWorms.j0 k a0 a1 l2 bt207.2.2.2 t214 bt217.2.2.2 (bt217.2.2.2 != bt207.2.2.2) bt207.1 bt207.2.1 bt207.2.2.1 bt217.1 bt217.2.1 bt217.2.2.1) else (laws_FnExactRunWorms.j0 k a0 a1 l2 bt207.2.2.2 t214 bt217.2.2.2 true bt207.1 bt207.2.1 bt207.2.2.1 bt217.1 bt217.2.1 bt217.2.2.1)))))) = some r := H
  have A6 := aM A60
  clear A60
  replace H := bE H
  obtain ⟨⟨t207, t210, t211, t212⟩, A70, H⟩ := H
  replace H : ((laws_toIntSS.f k l2).bind fun t214 => ((impl_RunWorms.f k a0 a1 t214).bind fun bt217 => ((laws_eqWormRun.f k bt217.1 bt217.2.1 bt217.2.2.1 t207 t210 t211).bind fun t224 => (if t224 = true then (laws_FnExactRunWorms.j0 k a0 a1 l2 t212 t214 bt217.2.2.2 (bt217.2.2.2 != t212) t207 t210 t211 bt217.1 bt217.2.1 bt217.2.2.1) else (laws_FnExactRunWorms.j0 k a0 a1 l2 t212 t214 bt217.2.2.2 true t207 t210 t211 bt217.1 bt217.2.1 bt217.2.2.1))))) = some r := H
  have A7 := aM A70
  clear A70
  replace H := bE H
  obtain ⟨t214, A80, H⟩ := H
  replace H : ((impl_RunWorms.f k a0 a1 t214).bind fun bt217 => ((laws_eqWormRun.f k bt217.1 bt217.2.1 bt217.2.2.1 t207 t210 t211).bind fun t224 => (if t224 = true then (laws_FnExactRunWorms.j0 k a0 a1 l2 t212 t214 bt217.2.2.2 (bt217.2.2.2 != t212) t207 t210 t211 bt217.1 bt217.2.1 bt217.2.2.1) else (laws_FnExactRunWorms.j0 k a0 a1 l2 t212 t214 bt217.2.2.2 true t207 t210 t211 bt217.1 bt217.2.1 bt217.2.2.1)))) = some r := H
  have A8 := aM A80
  clear A80
  replace H := bE H
  obtain ⟨⟨t217, t220, t221, t222⟩, A90, H⟩ := H
  replace H : ((laws_eqWormRun.f k t217 t220 t221 t207 t210 t211).bind fun t224 => (if t224 = true then (laws_FnExactRunWorms.j0 k a0 a1 l2 t212 t214 t222 (t222 != t212) t207 t210 t211 t217 t220 t221) else (laws_FnExactRunWorms.j0 k a0 a1 l2 t212 t214 t222 true t207 t210 t211 t217 t220 t221))) = some r := H
  have A9 := aM A90
  clear A90
  have HC10 := aM H
  clear H
  go_enter Try.func7, Try.ntmps7
  go_upto_region 8 with (first | ((with_reducible refine gate_callee (f := 24) rfl ?_); refine goesL_ (some 20) rfl rfl Try.func24 (by kernel_rfl) rfl #[.slice A2 l2.length c2, .int .i64 1048576] rfl (by (try simp only [mA, mB, mC]); first | done | rfl | (simp only [mE, mD]; rfl)) ?_; (with_reducible refine (laws_szIntSS.calls k _ _ l2 1048576 t203 _ ?side1 ?side2 A4.out).mono ?_); (case side1 => repeat (first | exact HR2.out | (with_reducible refine Kd.C_alloc ?_ _) | (with_reducible refine Kd.C_drewN ?_ _) | (with_reducible refine Kd.C_drew ?_))); (case side2 => exact HC2.out); rintro e w' ⟨rfl, ⟨nd, rfl⟩⟩; refine ⟨_, rfl, ?_⟩) | ((with_reducible refine gate_callee (f := 25) rfl ?_); refine goesL_ (some 27) rfl rfl Try.func25 (by kernel_rfl) rfl #[.slice A2 l2.length c2] rfl (by (try simp only [mA, mB, mC]); first | done | rfl | (simp only [mE, mD]; rfl)) ?_; (with_reducible refine (laws_toIntSS.calls k _ _ l2 t204 _ ?side1 ?side2 A6.out).mono ?_); (case side1 => repeat (first | exact HR2.out | (with_reducible refine Kd.C_alloc ?_ _) | (with_reducible refine Kd.C_drewN ?_ _) | (with_reducible refine Kd.C_drew ?_))); (case side2 => exact HC2.out); rintro e w11 ⟨v205, rfl, ho0, hb⟩; refine ⟨_, rfl, ?_⟩; have n0_ := aM (Kd.S_lower ho0 (below_size (by repeat (first | (with_reducible first | exact HB.out | apply below_alloc | apply bN | apply bD) | exact HB.out)))); have n1_ := aM (below_step (by repeat (first | (with_reducible first | exact HB.out | apply below_alloc | apply bN | apply bD) | exact HB.out)) hb); clear HB; have HO206 := n0_; have HB := n1_; clear n0_ n1_; (try clear hb); (try clear hb2); (try clear hk); (try clear hi); (try clear ho0); obtain ⟨Ao12, co12, eo12⟩ := Kd.S_slice HO206.out; subst eo12) | ((with_reducible refine gate_callee (f := 17) rfl ?_); refine goesL_ (some 28) rfl rfl Try.func17 (by kernel_rfl) rfl #[.int .i64 a0, .int .i64 a1, .slice Ao12 t204.length co12] rfl (by (try simp only [mA, mB, mC]); first | done | rfl | (simp only [mE, mD]; rfl)) ?_; (with_reducible refine (spec_RunWorms.calls k a0 a1 _ _ t204 t207 t210 t211 t212 _ ?side1 ?side2 A7.out).mono ?_); (case side1 => repeat (first | exact (Kd.S_reads' HO206.out).2.2 | (with_reducible refine Kd.C_alloc ?_ _) | (with_reducible refine Kd.C_drewN ?_ _) | (with_reducible refine Kd.C_drew ?_))); (case side2 => exact (Kd.S_reads' HO206.out).2.1); rintro e w13 ⟨v208, rfl, ho0, hb⟩; refine ⟨_, rfl, ?_⟩; have n0_ := aM (Kd.S_below (by (with_reducible repeat (first | apply Kd.S_alloc | apply Kd.S_drewN | apply Kd.S_drew)); exact HO206.out) hb); have n1_ := aM (Kd.R_lower ho0 (below_size (by repeat (first | (with_reducible first | exact HB.out | apply below_alloc | apply bN | apply bD) | exact HB.out)))); have n2_ := aM (below_step (by repeat (first | (with_reducible first | exact HB.out | apply below_alloc | apply bN | apply bD) | exact HB.out)) hb); clear HO206; clear HB; have HO206 := n0_; have HO209 := n1_; have HB := n2_; clear n0_ n1_ n2_; (try clear hb); (try clear hb2); (try clear hk); (try clear hi); (try clear ho0)) | ((with_reducible refine gate_dst (N := 8) rfl ?_); refine box_event ?hg (N := 8) ?hd (cs := #[.slice none 0 0, .int .i64 0, .bool false]) (t := 33) ?hr ?_; (case hd => rfl); (case hg => rfl); (case hr => first | (go_simp; done) | (go_simp; rfl)); intro gb213 hg w14 hbox hb; have n0_ := aM (Kd.S_below (by (with_reducible repeat (first | apply Kd.S_alloc | apply Kd.S_drewN | apply Kd.S_drew)); exact HO206.out) hb); have n1_ := aM (Kd.R_below (by (with_reducible repeat (first | apply Kd.R_alloc | apply Kd.R_drewN | apply Kd.R_drew)); exact HO209.out) hb); have n2_ := aM (below_step (by repeat (first | (with_reducible first | exact HB.out | apply below_alloc | apply bN | apply bD) | exact HB.out)) hb); have n3_ := aM (hbox); have n4_ := aM ((by rw [hg]; exact (below_size (by repeat (first | (with_reducible first | exact HB.out | apply below_alloc | apply bN | apply bD) | exact HB.out))) : w.heap.size ≤ gb213)); have n5_ := aM ((by rw [hg]; exact (below_size (by repeat (first | (with_reducible first | exact HB.out | apply below_alloc | apply bN | apply bD) | exact HB.out))) : w.heap.size ≤ gb213)); clear HO206; clear HO209; clear HB; have HO206 := n0_; have HO209 := n1_; have HB := n2_; have BK213 := n3_; have GW213 := n4_; have GE213 := n5_; clear n0_ n1_ n2_ n3_ n4_ n5_; clear hb hbox hg; obtain ⟨Ao15, co15, eo15⟩ := Kd.R_slice HO209.out; subst eo15; have hcz16_0 : w14.cell? ⟨gb213, 0, none⟩ = some (.slice none 0 0) := (blk_cell BK213.out 0).trans rfl; have hcz16_1 : w14.cell? ⟨gb213, 1, none⟩ = some (.int .i64 0) := (blk_cell BK213.out 1).trans rfl; have hcz16_2 : w14.cell? ⟨gb213, 2, none⟩ = some (.bool false) := (blk_cell BK213.out 2).trans rfl; have hfz16_0 := blk_frozen BK213.out 0; have hfz16_1 := blk_frozen BK213.out 1; have hfz16_2 := blk_frozen BK213.out 2) | ((with_reducible refine gate_callee (f := 25) rfl ?_); refine goesL_ (some 32) rfl rfl Try.func25 (by kernel_rfl) rfl #[.slice A2 l2.length c2] rfl (by (try simp only [mA, mB, mC]); first | done | rfl | (simp only [mE, mD]; rfl)) ?_; (with_reducible refine (laws_toIntSS.calls k _ _ l2 t214 _ ?side1 ?side2 A8.out).mono ?_); (case side1 => exact Kd.C_below HR2.out (by repeat (first | (with_reducible first | exact HB.out | apply below_alloc | apply bN | apply bD | refine below_set ?_ GE213.out) | exact HB.out))); (case side2 => exact HC2.out); rintro e w17 ⟨v215, rfl, ho0, hb⟩; refine ⟨_, rfl, ?_⟩; have n0_ := aM (Kd.S_elder' (by (with_reducible repeat (first | apply Kd.S_alloc | apply Kd.S_drewN | apply Kd.S_drew)); exact (Kd.S_mono (Kd.S_far (p := ⟨gb213, 2, none⟩) (Kd.S_far (p := ⟨gb213, 1, none⟩) (Kd.S_far (p := ⟨gb213, 0, none⟩) (Kd.S_types HO206.out BK213.out (by decide)) (fun _ hk => hk.2) (.slice Ao15 t207.length co15)) (fun _ hk => hk.2) (.int .i64 t210)) (fun _ hk => hk.2) (.bool t211)) (fun _ h_ => h_.1))) (Kd.S_base ho0) hb); have n1_ := aM (Kd.R_below (by (with_reducible repeat (first | apply Kd.R_alloc | apply Kd.R_drewN | apply Kd.R_drew)); exact (Kd.R_mono (Kd.R_far (p := ⟨gb213, 2, none⟩) (Kd.R_far (p := ⟨gb213, 1, none⟩) (Kd.R_far (p := ⟨gb213, 0, none⟩) (Kd.R_types HO209.out BK213.out (by decide)) (fun _ hk => hk.2) (.slice Ao15 t207.length co15)) (fun _ hk => hk.2) (.int .i64 t210)) (fun _ hk => hk.2) (.bool t211)) (fun _ h_ => h_.1))) hb); have n2_ := aM (Kd.S_lower (Kd.S_new' ho0 (Kd.S_lt (by (with_reducible repeat (first | apply Kd.S_alloc | apply Kd.S_drewN | apply Kd.S_drew)); exact (Kd.S_mono (Kd.S_far (p := ⟨gb213, 2, none⟩) (Kd.S_far (p := ⟨gb213, 1, none⟩) (Kd.S_far (p := ⟨gb213, 0, none⟩) (Kd.S_types HO206.out BK213.out (by decide)) (fun _ hk => hk.2) (.slice Ao15 t207.length co15)) (fun _ hk => hk.2) (.int .i64 t210)) (fun _ hk => hk.2) (.bool t211)) (fun _ h_ => h_.1))))) (below_size (by repeat (first | (with_reducible first | exact HB.out | apply below_alloc | apply bN | apply bD | refine below_set ?_ GE213.out) | exact HB.out)))); have n3_ := aM (blk_below (g := gb213) (o := .cells #[.slice Ao15 t207.length co15, .int .i64 t210, .bool t211] 33 (0, 0)) (by (with_reducible repeat (first | refine blk_drewN ?_ _ | refine blk_drew ?_ | refine blk_alloc ?_ _)); refine blk_put (cs := #[.slice Ao15 t207.length co15, .int .i64 t210, .bool false]) ?_ 2 _ rfl; (with_reducible repeat (first | refine blk_drewN ?_ _ | refine blk_drew ?_ | refine blk_alloc ?_ _)); refine blk_put (cs := #[.slice Ao15 t207.length co15, .int .i64 0, .bool false]) ?_ 1 _ rfl; (with_reducible repeat (first | refine blk_drewN ?_ _ | refine blk_drew ?_ | refine blk_alloc ?_ _)); refine blk_put (cs := #[.slice none 0 0, .int .i64 0, .bool false]) ?_ 0 _ rfl; (with_reducible repeat (first | refine blk_drewN ?_ _ | refine blk_drew ?_ | refine blk_alloc ?_ _)); exact BK213.out) hb); have n4_ := aM (below_step (by repeat (first | (with_reducible first | exact HB.out | apply below_alloc | apply bN | apply bD | refine below_set ?_ GE213.out) | exact HB.out)) hb); clear HO206; clear HO209; clear BK213; clear HB; have HO206 := n0_; have HO209 := n1_; have HO216 := n2_; have BK213 := n3_; have HB := n4_; clear n0_ n1_ n2_ n3_ n4_; (try clear hb); (try clear hb2); (try clear hk); (try clear hi); (try clear ho0); obtain ⟨Ao18, co18, eo18⟩ := Kd.S_slice HO216.out; subst eo18) | ((with_reducible refine gate_callee (f := 16) rfl ?_); refine goesL_ (some 37) rfl rfl Try.func16 (by kernel_rfl) rfl #[.int .i64 a0, .int .i64 a1, .slice Ao18 t214.length co18] rfl (by (try simp only [mA, mB, mC]); first | done | rfl | (simp only [mE, mD]; rfl)) ?_; (with_reducible refine (impl_RunWorms.calls k a0 a1 _ _ t214 t217 t220 t221 t222 _ ?side1 ?side2 A9.out).mono ?_); (case side1 => repeat (first | exact (Kd.S_reads' HO216.out).2.2 | (with_reducible refine Kd.C_alloc ?_ _) | (with_reducible refine Kd.C_drewN ?_ _) | (with_reducible refine Kd.C_drew ?_))); (case side2 => exact (Kd.S_reads' HO216.out).2.1); rintro e w19 ⟨v218, rfl, ho0, hb⟩; refine ⟨_, rfl, ?_⟩; have n0_ := aM (Kd.S_below (by (with_reducible repeat (first | apply Kd.S_alloc | apply Kd.S_drewN | apply Kd.S_drew)); exact HO206.out) hb); have n1_ := aM (Kd.R_elder' (by (with_reducible repeat (first | apply Kd.R_alloc | apply Kd.R_drewN | apply Kd.R_drew)); exact HO209.out) (Kd.R_base ho0) hb); have n2_ := aM (Kd.S_below (by (with_reducible repeat (first | apply Kd.S_alloc | apply Kd.S_drewN | apply Kd.S_drew)); exact HO216.out) hb); have n3_ := aM (Kd.R_lower (Kd.R_new' ho0 (Kd.R_lt (by (with_reducible repeat (first | apply Kd.R_alloc | apply Kd.R_drewN | apply Kd.R_drew)); exact HO209.out))) (below_size (by repeat (first | (with_reducible first | exact HB.out | apply below_alloc | apply bN | apply bD | refine below_set ?_ GE213.out) | exact HB.out)))); have n4_ := aM (blk_below (g := gb213) (o := .cells #[.slice Ao15 t207.length co15, .int .i64 t210, .bool t211] 33 (0, 0)) (by (with_reducible repeat (first | refine blk_drewN ?_ _ | refine blk_drew ?_ | refine blk_alloc ?_ _)); exact BK213.out) hb); have n5_ := aM (below_step (by repeat (first | (with_reducible first | exact HB.out | apply below_alloc | apply bN | apply bD | refine below_set ?_ GE213.out) | exact HB.out)) hb); clear HO206; clear HO209; clear HO216; clear BK213; clear HB; have HO206 := n0_; have HO209 := n1_; have HO216 := n2_; have HO219 := n3_; have BK213 := n4_; have HB := n5_; clear n0_ n1_ n2_ n3_ n4_ n5_; (try clear hb); (try clear hb2); (try clear hk); (try clear hi); (try clear ho0)) | ((with_reducible refine gate_dst (N := 11) rfl ?_); refine box_event ?hg (N := 11) ?hd (cs := #[.slice none 0 0, .int .i64 0, .bool false]) (t := 33) ?hr ?_; (case hd => rfl); (case hg => rfl); (case hr => first | (go_simp; done) | (go_simp; rfl)); intro gb223 hg w20 hbox hb; have n0_ := aM (Kd.S_below (by (with_reducible repeat (first | apply Kd.S_alloc | apply Kd.S_drewN | apply Kd.S_drew)); exact HO206.out) hb); have n1_ := aM (Kd.R_below (by (with_reducible repeat (first | apply Kd.R_alloc | apply Kd.R_drewN | apply Kd.R_drew)); exact HO209.out) hb); have n2_ := aM (Kd.S_below (by (with_reducible repeat (first | apply Kd.S_alloc | apply Kd.S_drewN | apply Kd.S_drew)); exact HO216.out) hb); have n3_ := aM (Kd.R_below (by (with_reducible repeat (first | apply Kd.R_alloc | apply Kd.R_drewN | apply Kd.R_drew)); exact HO219.out) hb); have n4_ := aM (blk_below (g := gb213) (o := .cells #[.slice Ao15 t207.length co15, .int .i64 t210, .bool t211] 33 (0, 0)) (by (with_reducible repeat (first | refine blk_drewN ?_ _ | refine blk_drew ?_ | refine blk_alloc ?_ _)); exact BK213.out) hb); have n5_ := aM (below_step (by repeat (first | (with_reducible first | exact HB.out | apply below_alloc | apply bN | apply bD | refine below_set ?_ GE213.out) | exact HB.out)) hb); have n6_ := aM (hbox); have n7_ := aM ((by rw [hg]; exact (below_size (by repeat (first | (with_reducible first | exact HB.out | apply below_alloc | apply bN | apply bD | refine below_set ?_ GE213.out) | exact HB.out))) : w.heap.size ≤ gb223)); have n8_ := aM ((by rw [hg]; exact (below_size (by repeat (first | (with_reducible first | exact HB.out | apply below_alloc | apply bN | apply bD | refine below_set ?_ GE213.out) | exact HB.out))) : w.heap.size ≤ gb223)); have n9_ := aM ((by rw [hg]; exact Nat.ne_of_lt (blk_lt (g := gb213) (o := .cells #[.slice Ao15 t207.length co15, .int .i64 t210, .bool t211] 33 (0, 0)) (by (with_reducible repeat (first | refine blk_drewN ?_ _ | refine blk_drew ?_ | refine blk_alloc ?_ _)); exact BK213.out)) : gb213 ≠ gb223)); have n10_ := aM ((by rw [hg]; exact Nat.ne_of_gt (blk_lt (g := gb213) (o := .cells #[.slice Ao15 t207.length co15, .int .i64 t210, .bool t211] 33 (0, 0)) (by (with_reducible repeat (first | refine blk_drewN ?_ _ | refine blk_drew ?_ | refine blk_alloc ?_ _)); exact BK213.out)) : gb223 ≠ gb213)); clear HO206; clear HO209; clear HO216; clear HO219; clear BK213; clear HB; have HO206 := n0_; have HO209 := n1_; have HO216 := n2_; have HO219 := n3_; have BK213 := n4_; have HB := n5_; have BK223 := n6_; have GW223 := n7_; have GE223 := n8_; have NB213_223 := n9_; have NB223_213 := n10_; clear n0_ n1_ n2_ n3_ n4_ n5_ n6_ n7_ n8_ n9_ n10_; clear hb hbox hg; obtain ⟨Ao21, co21, eo21⟩ := Kd.R_slice HO219.out; subst eo21; have hnb22 := NB223_213.out; have hnc22 := NB213_223.out; have hcz23_0 : w20.cell? ⟨gb223, 0, none⟩ = some (.slice none 0 0) := (blk_cell BK223.out 0).trans rfl; have hcz23_1 : w20.cell? ⟨gb223, 1, none⟩ = some (.int .i64 0) := (blk_cell BK223.out 1).trans rfl; have hcz23_2 : w20.cell? ⟨gb223, 2, none⟩ = some (.bool false) := (blk_cell BK223.out 2).trans rfl; have hfz23_0 := blk_frozen BK223.out 0; have hfz23_1 := blk_frozen BK223.out 1; have hfz23_2 := blk_frozen BK223.out 2))
  (try simp only [Act.put, sA, sB, sC])
  go_cut [48] (fun v48 wc => ∃ (kq : Nat) (x48_9 : Bool), v48 = .bool x48_9 ∧ Aside0 (laws_FnExactRunWorms.j0 kq a0 a1 l2 t212 t214 t222 x48_9 t207 t210 t211 t217 t220 t221 = some r) ∧ Aside0 (kq ≤ k) ∧ Aside0 (Kd.S (Kd.slice 3 (Kd.int .i64)) 28 wc w.heap.size (fun _ => True) (.slice Ao18 t214.length co18) t214) ∧ Aside0 (Kd.R Kd.bool 4 wc w.heap.size (fun k_ => some k_ ≠ ((.slice Ao21 t217.length co21) : Value).ownBlock) (.slice Ao15 t207.length co15) t207) ∧ Aside0 (Kd.R Kd.bool 4 wc w.heap.size (fun k_ => some k_ ≠ ((.slice Ao15 t207.length co15) : Value).ownBlock) (.slice Ao21 t217.length co21) t217) ∧ Aside0 (wc.heap[gb213]? = some (.cells #[(.slice Ao15 t207.length co15), .int .i64 t210, .bool t211] 33 (0, 0))) ∧ Aside0 (wc.heap[gb223]? = some (.cells #[(.slice Ao21 t217.length co21), .int .i64 t220, .bool t221] 33 (0, 0))) ∧ Aside0 (Below w.heap.size w wc))
  case first =>
   have H := HC10.out
   clear HC10
   replace H := bE H
   obtain ⟨t224, A240, H⟩ := H
   replace H : (if t224 = true then (laws_FnExactRunWorms.j0 k a0 a1 l2 t212 t214 t222 (t222 != t212) t207 t210 t211 t217 t220 t221) else (laws_FnExactRunWorms.j0 k a0 a1 l2 t212 t214 t222 true t207 t210 t211 t217 t220 t221)) = some r := H
   have A24 := aM A240
   clear A240
   by_cases c25 : t224 = true
   ·
    subst c25
    have H1 : (laws_FnExactRunWorms.j0 k a0 a1 l2 t212 t214 t222 (t222 != t212) t207 t210 t211 t217 t220 t221) = some r := by rw [if_pos rfl] at H; exact H
    clear H
    have H := H1
    clear H1
    have H' := aM H
    clear H
    have hnb26 := NB223_213.out
    have hnc26 := NB213_223.out
    have hcz27_0 : w20.cell? ⟨gb223, 0, none⟩ = some (.slice none 0 0) := (blk_cell BK223.out 0).trans rfl
    have hcz27_1 : w20.cell? ⟨gb223, 1, none⟩ = some (.int .i64 0) := (blk_cell BK223.out 1).trans rfl
    have hcz27_2 : w20.cell? ⟨gb223, 2, none⟩ = some (.bool false) := (blk_cell BK223.out 2).trans rfl
    have hfz27_0 := blk_frozen BK223.out 0
    have hfz27_1 := blk_frozen BK223.out 1
    have hfz27_2 := blk_frozen BK223.out 2
    have hcz28_0 : w20.cell? ⟨gb213, 0, none⟩ = some (.slice Ao15 t207.length co15) := (blk_cell BK213.out 0).trans rfl
    have hcz28_1 : w20.cell? ⟨gb213, 1, none⟩ = some (.int .i64 t210) := (blk_cell BK213.out 1).trans rfl
    have hcz28_2 : w20.cell? ⟨gb213, 2, none⟩ = some (.bool t211) := (blk_cell BK213.out 2).trans rfl
    have hfz28_0 := blk_frozen BK213.out 0
    have hfz28_1 := blk_frozen BK213.out 1
    have hfz28_2 := blk_frozen BK213.out 2
    go_wp2_with (first | ((with_reducible refine gate_callee (f := 26) rfl ?_); refine goesL_ (some 42) rfl rfl Try.func26 (by kernel_rfl) rfl #[.agg #[.slice Ao21 t217.length co21, .int .i64 t220, .bool t221], .agg #[.slice Ao15 t207.length co15, .int .i64 t210, .bool t211]] rfl (by (try simp only [mA, mB, mC]); first | done | rfl | (simp only [mE, mD]; rfl)) ?_; (with_reducible refine (laws_eqWormRun.calls k _ _ t217 t220 t221 _ _ t207 t210 t211 true _ ?side1 ?side2 ?side3 ?side4 A24.out).mono ?_); (case side1 => refine (Kd.R_reads' (e := 4) (base := w.heap.size) (ok := fun k_ => (True ∧ some k_ ≠ (.slice Ao15 t207.length co15 : Value).ownBlock)) (n := t217.length) (c := co21) ?_).2.2; exact (by (with_reducible repeat (first | apply Kd.R_alloc | apply Kd.R_drewN | apply Kd.R_drew)); exact (Kd.R_mono (Kd.R_far (p := ⟨gb223, 2, none⟩) (Kd.R_far (p := ⟨gb223, 1, none⟩) (Kd.R_far (p := ⟨gb223, 0, none⟩) (Kd.R_types HO219.out BK223.out (by decide)) (fun _ hk => hk.2) (.slice Ao21 t217.length co21)) (fun _ hk => hk.2) (.int .i64 t220)) (fun _ hk => hk.2) (.bool t221)) (fun _ h_ => h_.1)))); (case side2 => exact (Kd.R_reads' HO219.out).2.1); (case side3 => refine (Kd.R_reads' (e := 4) (base := w.heap.size) (ok := fun k_ => (True ∧ some k_ ≠ (.slice Ao21 t217.length co21 : Value).ownBlock)) (n := t207.length) (c := co15) ?_).2.2; exact (by (with_reducible repeat (first | apply Kd.R_alloc | apply Kd.R_drewN | apply Kd.R_drew)); exact (Kd.R_mono (Kd.R_far (p := ⟨gb223, 2, none⟩) (Kd.R_far (p := ⟨gb223, 1, none⟩) (Kd.R_far (p := ⟨gb223, 0, none⟩) (Kd.R_types HO209.out BK223.out (by decide)) (fun _ hk => hk.2) (.slice Ao21 t217.length co21)) (fun _ hk => hk.2) (.int .i64 t220)) (fun _ hk => hk.2) (.bool t221)) (fun _ h_ => h_.1)))); (case side4 => exact (Kd.R_reads' HO209.out).2.1); rintro e w29 ⟨rfl, hb⟩; refine ⟨_, rfl, ?_⟩; have n0_ := aM (Kd.S_below (by (with_reducible repeat (first | apply Kd.S_alloc | apply Kd.S_drewN | apply Kd.S_drew)); exact (Kd.S_mono (Kd.S_far (p := ⟨gb223, 2, none⟩) (Kd.S_far (p := ⟨gb223, 1, none⟩) (Kd.S_far (p := ⟨gb223, 0, none⟩) (Kd.S_types HO206.out BK223.out (by decide)) (fun _ hk => hk.2) (.slice Ao21 t217.length co21)) (fun _ hk => hk.2) (.int .i64 t220)) (fun _ hk => hk.2) (.bool t221)) (fun _ h_ => h_.1))) hb); have n1_ := aM (Kd.R_below (by (with_reducible repeat (first | apply Kd.R_alloc | apply Kd.R_drewN | apply Kd.R_drew)); exact (Kd.R_mono (Kd.R_far (p := ⟨gb223, 2, none⟩) (Kd.R_far (p := ⟨gb223, 1, none⟩) (Kd.R_far (p := ⟨gb223, 0, none⟩) (Kd.R_types HO209.out BK223.out (by decide)) (fun _ hk => hk.2) (.slice Ao21 t217.length co21)) (fun _ hk => hk.2) (.int .i64 t220)) (fun _ hk => hk.2) (.bool t221)) (fun _ h_ => h_.1))) hb); have n2_ := aM (Kd.S_below (by (with_reducible repeat (first | apply Kd.S_alloc | apply Kd.S_drewN | apply Kd.S_drew)); exact (Kd.S_mono (Kd.S_far (p := ⟨gb223, 2, none⟩) (Kd.S_far (p := ⟨gb223, 1, none⟩) (Kd.S_far (p := ⟨gb223, 0, none⟩) (Kd.S_types HO216.out BK223.out (by decide)) (fun _ hk => hk.2) (.slice Ao21 t217.length co21)) (fun _ hk => hk.2) (.int .i64 t220)) (fun _ hk => hk.2) (.bool t221)) (fun _ h_ => h_.1))) hb); have n3_ := aM (Kd.R_below (by (with_reducible repeat (first | apply Kd.R_alloc | apply Kd.R_drewN | apply Kd.R_drew)); exact (Kd.R_mono (Kd.R_far (p := ⟨gb223, 2, none⟩) (Kd.R_far (p := ⟨gb223, 1, none⟩) (Kd.R_far (p := ⟨gb223, 0, none⟩) (Kd.R_types HO219.out BK223.out (by decide)) (fun _ hk => hk.2) (.slice Ao21 t217.length co21)) (fun _ hk => hk.2) (.int .i64 t220)) (fun _ hk => hk.2) (.bool t221)) (fun _ h_ => h_.1))) hb); have n4_ := aM (blk_below (g := gb213) (o := .cells #[.slice Ao15 t207.length co15, .int .i64 t210, .bool t211] 33 (0, 0)) (by (with_reducible repeat (first | refine blk_drewN ?_ _ | refine blk_drew ?_ | refine blk_alloc ?_ _)); refine blk_far ?_ NB213_223.out _; (with_reducible repeat (first | refine blk_drewN ?_ _ | refine blk_drew ?_ | refine blk_alloc ?_ _)); refine blk_far ?_ NB213_223.out _; (with_reducible repeat (first | refine blk_drewN ?_ _ | refine blk_drew ?_ | refine blk_alloc ?_ _)); refine blk_far ?_ NB213_223.out _; (with_reducible repeat (first | refine blk_drewN ?_ _ | refine blk_drew ?_ | refine blk_alloc ?_ _)); exact BK213.out) hb); have n5_ := aM (blk_below (g := gb223) (o := .cells #[.slice Ao21 t217.length co21, .int .i64 t220, .bool t221] 33 (0, 0)) (by (with_reducible repeat (first | refine blk_drewN ?_ _ | refine blk_drew ?_ | refine blk_alloc ?_ _)); refine blk_put (cs := #[.slice Ao21 t217.length co21, .int .i64 t220, .bool false]) ?_ 2 _ rfl; (with_reducible repeat (first | refine blk_drewN ?_ _ | refine blk_drew ?_ | refine blk_alloc ?_ _)); refine blk_put (cs := #[.slice Ao21 t217.length co21, .int .i64 0, .bool false]) ?_ 1 _ rfl; (with_reducible repeat (first | refine blk_drewN ?_ _ | refine blk_drew ?_ | refine blk_alloc ?_ _)); refine blk_put (cs := #[.slice none 0 0, .int .i64 0, .bool false]) ?_ 0 _ rfl; (with_reducible repeat (first | refine blk_drewN ?_ _ | refine blk_drew ?_ | refine blk_alloc ?_ _)); exact BK223.out) hb); have n6_ := aM (below_step (by repeat (first | (with_reducible first | exact HB.out | apply below_alloc | apply bN | apply bD | refine below_set ?_ GE213.out | refine below_set ?_ GE223.out) | exact HB.out)) hb); clear HO206; clear HO209; clear HO216; clear HO219; clear BK213; clear BK223; clear HB; have HO206 := n0_; have HO209 := n1_; have HO216 := n2_; have HO219 := n3_; have BK213 := n4_; have BK223 := n5_; have HB := n6_; clear n0_ n1_ n2_ n3_ n4_ n5_ n6_; (try clear hb); (try clear hb2); (try clear hk); (try clear hi)))
    go_meet
    case rel => exact ⟨_, ((t222 != t212)), (by first | rfl | (simp; done) | (simp [*]; done)), H', ⟨by first | omega | exact Nat.le_refl _⟩, ⟨by (with_reducible repeat (first | apply Kd.S_alloc | apply Kd.S_drewN | apply Kd.S_drew)); exact Kd.S_mono HO216.out (fun _ hk => trivial)⟩, ⟨by (with_reducible repeat (first | apply Kd.R_alloc | apply Kd.R_drewN | apply Kd.R_drew)); exact Kd.R_mono HO209.out (fun _ hk => hk.2)⟩, ⟨by (with_reducible repeat (first | apply Kd.R_alloc | apply Kd.R_drewN | apply Kd.R_drew)); exact Kd.R_mono HO219.out (fun _ hk => hk.2)⟩, ⟨by (with_reducible repeat (first | refine blk_drewN ?_ _ | refine blk_drew ?_ | refine blk_alloc ?_ _)); exact BK213.out⟩, ⟨by (with_reducible repeat (first | refine blk_drewN ?_ _ | refine blk_drew ?_ | refine blk_alloc ?_ _)); exact BK223.out⟩, ⟨by repeat (first | (with_reducible first | exact HB.out | apply below_alloc | apply bN | apply bD | refine below_set ?_ GE213.out | refine below_set ?_ GE223.out) | exact HB.out)⟩⟩
   ·
    replace c25 := Bool.eq_false_iff.mpr c25
    subst c25
    have H1 : (laws_FnExactRunWorms.j0 k a0 a1 l2 t212 t214 t222 true t207 t210 t211 t217 t220 t221) = some r := by rw [if_neg (show ¬ (false = true) by decide)] at H; exact H
    clear H
    have H := H1
    clear H1
    have H' := aM H
    clear H
    have hnb30 := NB223_213.out
    have hnc30 := NB213_223.out
    have hcz31_0 : w20.cell? ⟨gb223, 0, none⟩ = some (.slice none 0 0) := (blk_cell BK223.out 0).trans rfl
    have hcz31_1 : w20.cell? ⟨gb223, 1, none⟩ = some (.int .i64 0) := (blk_cell BK223.out 1).trans rfl
    have hcz31_2 : w20.cell? ⟨gb223, 2, none⟩ = some (.bool false) := (blk_cell BK223.out 2).trans rfl
    have hfz31_0 := blk_frozen BK223.out 0
    have hfz31_1 := blk_frozen BK223.out 1
    have hfz31_2 := blk_frozen BK223.out 2
    have hcz32_0 : w20.cell? ⟨gb213, 0, none⟩ = some (.slice Ao15 t207.length co15) := (blk_cell BK213.out 0).trans rfl
    have hcz32_1 : w20.cell? ⟨gb213, 1, none⟩ = some (.int .i64 t210) := (blk_cell BK213.out 1).trans rfl
    have hcz32_2 : w20.cell? ⟨gb213, 2, none⟩ = some (.bool t211) := (blk_cell BK213.out 2).trans rfl
    have hfz32_0 := blk_frozen BK213.out 0
    have hfz32_1 := blk_frozen BK213.out 1
    have hfz32_2 := blk_frozen BK213.out 2
    go_wp2_with (first | ((with_reducible refine gate_callee (f := 26) rfl ?_); refine goesL_ (some 42) rfl rfl Try.func26 (by kernel_rfl) rfl #[.agg #[.slice Ao21 t217.length co21, .int .i64 t220, .bool t221], .agg #[.slice Ao15 t207.length co15, .int .i64 t210, .bool t211]] rfl (by (try simp only [mA, mB, mC]); first | done | rfl | (simp only [mE, mD]; rfl)) ?_; (with_reducible refine (laws_eqWormRun.calls k _ _ t217 t220 t221 _ _ t207 t210 t211 false _ ?side1 ?side2 ?side3 ?side4 A24.out).mono ?_); (case side1 => refine (Kd.R_reads' (e := 4) (base := w.heap.size) (ok := fun k_ => (True ∧ some k_ ≠ (.slice Ao15 t207.length co15 : Value).ownBlock)) (n := t217.length) (c := co21) ?_).2.2; exact (by (with_reducible repeat (first | apply Kd.R_alloc | apply Kd.R_drewN | apply Kd.R_drew)); exact (Kd.R_mono (Kd.R_far (p := ⟨gb223, 2, none⟩) (Kd.R_far (p := ⟨gb223, 1, none⟩) (Kd.R_far (p := ⟨gb223, 0, none⟩) (Kd.R_types HO219.out BK223.out (by decide)) (fun _ hk => hk.2) (.slice Ao21 t217.length co21)) (fun _ hk => hk.2) (.int .i64 t220)) (fun _ hk => hk.2) (.bool t221)) (fun _ h_ => h_.1)))); (case side2 => exact (Kd.R_reads' HO219.out).2.1); (case side3 => refine (Kd.R_reads' (e := 4) (base := w.heap.size) (ok := fun k_ => (True ∧ some k_ ≠ (.slice Ao21 t217.length co21 : Value).ownBlock)) (n := t207.length) (c := co15) ?_).2.2; exact (by (with_reducible repeat (first | apply Kd.R_alloc | apply Kd.R_drewN | apply Kd.R_drew)); exact (Kd.R_mono (Kd.R_far (p := ⟨gb223, 2, none⟩) (Kd.R_far (p := ⟨gb223, 1, none⟩) (Kd.R_far (p := ⟨gb223, 0, none⟩) (Kd.R_types HO209.out BK223.out (by decide)) (fun _ hk => hk.2) (.slice Ao21 t217.length co21)) (fun _ hk => hk.2) (.int .i64 t220)) (fun _ hk => hk.2) (.bool t221)) (fun _ h_ => h_.1)))); (case side4 => exact (Kd.R_reads' HO209.out).2.1); rintro e w33 ⟨rfl, hb⟩; refine ⟨_, rfl, ?_⟩; have n0_ := aM (Kd.S_below (by (with_reducible repeat (first | apply Kd.S_alloc | apply Kd.S_drewN | apply Kd.S_drew)); exact (Kd.S_mono (Kd.S_far (p := ⟨gb223, 2, none⟩) (Kd.S_far (p := ⟨gb223, 1, none⟩) (Kd.S_far (p := ⟨gb223, 0, none⟩) (Kd.S_types HO206.out BK223.out (by decide)) (fun _ hk => hk.2) (.slice Ao21 t217.length co21)) (fun _ hk => hk.2) (.int .i64 t220)) (fun _ hk => hk.2) (.bool t221)) (fun _ h_ => h_.1))) hb); have n1_ := aM (Kd.R_below (by (with_reducible repeat (first | apply Kd.R_alloc | apply Kd.R_drewN | apply Kd.R_drew)); exact (Kd.R_mono (Kd.R_far (p := ⟨gb223, 2, none⟩) (Kd.R_far (p := ⟨gb223, 1, none⟩) (Kd.R_far (p := ⟨gb223, 0, none⟩) (Kd.R_types HO209.out BK223.out (by decide)) (fun _ hk => hk.2) (.slice Ao21 t217.length co21)) (fun _ hk => hk.2) (.int .i64 t220)) (fun _ hk => hk.2) (.bool t221)) (fun _ h_ => h_.1))) hb); have n2_ := aM (Kd.S_below (by (with_reducible repeat (first | apply Kd.S_alloc | apply Kd.S_drewN | apply Kd.S_drew)); exact (Kd.S_mono (Kd.S_far (p := ⟨gb223, 2, none⟩) (Kd.S_far (p := ⟨gb223, 1, none⟩) (Kd.S_far (p := ⟨gb223, 0, none⟩) (Kd.S_types HO216.out BK223.out (by decide)) (fun _ hk => hk.2) (.slice Ao21 t217.length co21)) (fun _ hk => hk.2) (.int .i64 t220)) (fun _ hk => hk.2) (.bool t221)) (fun _ h_ => h_.1))) hb); have n3_ := aM (Kd.R_below (by (with_reducible repeat (first | apply Kd.R_alloc | apply Kd.R_drewN | apply Kd.R_drew)); exact (Kd.R_mono (Kd.R_far (p := ⟨gb223, 2, none⟩) (Kd.R_far (p := ⟨gb223, 1, none⟩) (Kd.R_far (p := ⟨gb223, 0, none⟩) (Kd.R_types HO219.out BK223.out (by decide)) (fun _ hk => hk.2) (.slice Ao21 t217.length co21)) (fun _ hk => hk.2) (.int .i64 t220)) (fun _ hk => hk.2) (.bool t221)) (fun _ h_ => h_.1))) hb); have n4_ := aM (blk_below (g := gb213) (o := .cells #[.slice Ao15 t207.length co15, .int .i64 t210, .bool t211] 33 (0, 0)) (by (with_reducible repeat (first | refine blk_drewN ?_ _ | refine blk_drew ?_ | refine blk_alloc ?_ _)); refine blk_far ?_ NB213_223.out _; (with_reducible repeat (first | refine blk_drewN ?_ _ | refine blk_drew ?_ | refine blk_alloc ?_ _)); refine blk_far ?_ NB213_223.out _; (with_reducible repeat (first | refine blk_drewN ?_ _ | refine blk_drew ?_ | refine blk_alloc ?_ _)); refine blk_far ?_ NB213_223.out _; (with_reducible repeat (first | refine blk_drewN ?_ _ | refine blk_drew ?_ | refine blk_alloc ?_ _)); exact BK213.out) hb); have n5_ := aM (blk_below (g := gb223) (o := .cells #[.slice Ao21 t217.length co21, .int .i64 t220, .bool t221] 33 (0, 0)) (by (with_reducible repeat (first | refine blk_drewN ?_ _ | refine blk_drew ?_ | refine blk_alloc ?_ _)); refine blk_put (cs := #[.slice Ao21 t217.length co21, .int .i64 t220, .bool false]) ?_ 2 _ rfl; (with_reducible repeat (first | refine blk_drewN ?_ _ | refine blk_drew ?_ | refine blk_alloc ?_ _)); refine blk_put (cs := #[.slice Ao21 t217.length co21, .int .i64 0, .bool false]) ?_ 1 _ rfl; (with_reducible repeat (first | refine blk_drewN ?_ _ | refine blk_drew ?_ | refine blk_alloc ?_ _)); refine blk_put (cs := #[.slice none 0 0, .int .i64 0, .bool false]) ?_ 0 _ rfl; (with_reducible repeat (first | refine blk_drewN ?_ _ | refine blk_drew ?_ | refine blk_alloc ?_ _)); exact BK223.out) hb); have n6_ := aM (below_step (by repeat (first | (with_reducible first | exact HB.out | apply below_alloc | apply bN | apply bD | refine below_set ?_ GE213.out | refine below_set ?_ GE223.out) | exact HB.out)) hb); clear HO206; clear HO209; clear HO216; clear HO219; clear BK213; clear BK223; clear HB; have HO206 := n0_; have HO209 := n1_; have HO216 := n2_; have HO219 := n3_; have BK213 := n4_; have BK223 := n5_; have HB := n6_; clear n0_ n1_ n2_ n3_ n4_ n5_ n6_; (try clear hb); (try clear hb2); (try clear hk); (try clear hi)))
    go_meet
    case rel => exact ⟨_, (true), (by first | rfl | (simp; done) | (simp [*]; done)), H', ⟨by first | omega | exact Nat.le_refl _⟩, ⟨by (with_reducible repeat (first | apply Kd.S_alloc | apply Kd.S_drewN | apply Kd.S_drew)); exact Kd.S_mono HO216.out (fun _ hk => trivial)⟩, ⟨by (with_reducible repeat (first | apply Kd.R_alloc | apply Kd.R_drewN | apply Kd.R_drew)); exact Kd.R_mono HO209.out (fun _ hk => hk.2)⟩, ⟨by (with_reducible repeat (first | apply Kd.R_alloc | apply Kd.R_drewN | apply Kd.R_drew)); exact Kd.R_mono HO219.out (fun _ hk => hk.2)⟩, ⟨by (with_reducible repeat (first | refine blk_drewN ?_ _ | refine blk_drew ?_ | refine blk_alloc ?_ _)); exact BK213.out⟩, ⟨by (with_reducible repeat (first | refine blk_drewN ?_ _ | refine blk_drew ?_ | refine blk_alloc ?_ _)); exact BK223.out⟩, ⟨by repeat (first | (with_reducible first | exact HB.out | apply below_alloc | apply bN | apply bD | refine below_set ?_ GE213.out | refine below_set ?_ GE223.out) | exact HB.out)⟩⟩
  case rest =>
   clear HC10
   try clear c1
   try clear c2
   try clear p2
   try clear c3
   try clear c5
   try clear c5b0
   try clear c7
   try clear c16
   try clear c17
   try clear c22
   try clear c24
   try clear c25
   try clear c26
   try clear c30
   try clear hcz16_0
   try clear hcz16_1
   try clear hcz16_2
   try clear hcz23_0
   try clear hcz23_1
   try clear hcz23_2
   try clear hcz27_0
   try clear hcz27_1
   try clear hcz27_2
   try clear hcz28_0
   try clear hcz28_1
   try clear hcz28_2
   try clear hcz31_0
   try clear hcz31_1
   try clear hcz31_2
   try clear hcz32_0
   try clear hcz32_1
   try clear hcz32_2
   try clear hfz16_0
   try clear hfz16_1
   try clear hfz16_2
   try clear hfz23_0
   try clear hfz23_1
   try clear hfz23_2
   try clear hfz27_0
   try clear hfz27_1
   try clear hfz27_2
   try clear hfz28_0
   try clear hfz28_1
   try clear hfz28_2
   try clear hfz31_0
   try clear hfz31_1
   try clear hfz31_2
   try clear hfz32_0
   try clear hfz32_1
   try clear hfz32_2
   obtain ⟨kq, x48_9, rfl, HA, HJ9, HO_10, HO_214000, HO_224000, BK213, BK223, HB⟩ := hcut
   cases kq with
   | zero => exact absurd HA.out (by simp [laws_FnExactRunWorms.j0])
   | succ kj9 =>
    have H := HA.out
    clear HA
    simp only [laws_FnExactRunWorms.j0] at H
    by_cases c34 : x48_9 = true
    ·
     subst c34
     have H1 : (some false) = some r := by rw [if_pos rfl] at H; exact H
     clear H
     have H := H1
     clear H1
     obtain rfl := Option.some.inj H
     go_wp2
     go_ret
     exact ⟨by first | rfl | (simp [*] <;> rfl) | (exfalso; simp_all; done), by repeat (first | (with_reducible first | exact HB.out | apply below_alloc | apply bN | apply bD | refine below_set ?_ GE213.out | refine below_set ?_ GE223.out) | exact HB.out)⟩
    ·
     replace c34 := Bool.eq_false_iff.mpr c34
     subst c34
     have H1 : ((laws_toIntSS.f kj9 l2).bind fun t225 => ((laws_eqIntSS.f kj9 t214 t225).bind fun t228 => (if t228 = true then ((laws_markIntSS.f kj9 t214 1).bind fun t229 => (if t229 < 0 then (laws_FnExactRunWorms.j1 kj9 a0 a1 l2 t212 true t207 t210 t211 t217 t220 t221) else ((laws_eqWormRun.f kj9 t217 t220 t221 t207 t210 t211).bind fun t230 => (if t230 = true then (laws_FnExactRunWorms.j1 kj9 a0 a1 l2 t212 (t222 != t212) t207 t210 t211 t217 t220 t221) else (laws_FnExactRunWorms.j1 kj9 a0 a1 l2 t212 true t207 t210 t211 t217 t220 t221))))) else (some false)))) = some r := by rw [if_neg (show ¬ (false = true) by decide)] at H; exact H
     clear H
     have H := H1
     clear H1
     replace H := bE H
     obtain ⟨t225, A350, H⟩ := H
     replace H : ((laws_eqIntSS.f kj9 t214 t225).bind fun t228 => (if t228 = true then ((laws_markIntSS.f kj9 t214 1).bind fun t229 => (if t229 < 0 then (laws_FnExactRunWorms.j1 kj9 a0 a1 l2 t212 true t207 t210 t211 t217 t220 t221) else ((laws_eqWormRun.f kj9 t217 t220 t221 t207 t210 t211).bind fun t230 => (if t230 = true then (laws_FnExactRunWorms.j1 kj9 a0 a1 l2 t212 (t222 != t212) t207 t210 t211 t217 t220 t221) else (laws_FnExactRunWorms.j1 kj9 a0 a1 l2 t212 true t207 t210 t211 t217 t220 t221))))) else (some false))) = some r := H
     have A35 := aM A350
     clear A350
     replace H := bE H
     obtain ⟨t228, A360, H⟩ := H
     replace H : (if t228 = true then ((laws_markIntSS.f kj9 t214 1).bind fun t229 => (if t229 < 0 then (laws_FnExactRunWorms.j1 kj9 a0 a1 l2 t212 true t207 t210 t211 t217 t220 t221) else ((laws_eqWormRun.f kj9 t217 t220 t221 t207 t210 t211).bind fun t230 => (if t230 = true then (laws_FnExactRunWorms.j1 kj9 a0 a1 l2 t212 (t222 != t212) t207 t210 t211 t217 t220 t221) else (laws_FnExactRunWorms.j1 kj9 a0 a1 l2 t212 true t207 t210 t211 t217 t220 t221))))) else (some false)) = some r := H
     have A36 := aM A360
     clear A360
     by_cases c37 : t228 = true
     ·
      subst c37
      have H1 : ((laws_markIntSS.f kj9 t214 1).bind fun t229 => (if t229 < 0 then (laws_FnExactRunWorms.j1 kj9 a0 a1 l2 t212 true t207 t210 t211 t217 t220 t221) else ((laws_eqWormRun.f kj9 t217 t220 t221 t207 t210 t211).bind fun t230 => (if t230 = true then (laws_FnExactRunWorms.j1 kj9 a0 a1 l2 t212 (t222 != t212) t207 t210 t211 t217 t220 t221) else (laws_FnExactRunWorms.j1 kj9 a0 a1 l2 t212 true t207 t210 t211 t217 t220 t221))))) = some r := by rw [if_pos rfl] at H; exact H
      clear H
      have H := H1
      clear H1
      replace H := bE H
      obtain ⟨t229, A380, H⟩ := H
      replace H : (if t229 < 0 then (laws_FnExactRunWorms.j1 kj9 a0 a1 l2 t212 true t207 t210 t211 t217 t220 t221) else ((laws_eqWormRun.f kj9 t217 t220 t221 t207 t210 t211).bind fun t230 => (if t230 = true then (laws_FnExactRunWorms.j1 kj9 a0 a1 l2 t212 (t222 != t212) t207 t210 t211 t217 t220 t221) else (laws_FnExactRunWorms.j1 kj9 a0 a1 l2 t212 true t207 t210 t211 t217 t220 t221)))) = some r := H
      have A38 := aM A380
      clear A380
      have HC39 := aM H
      clear H
      go_upto_region 14 with (first | ((with_reducible refine gate_callee (f := 25) rfl ?_); refine goesL_ (some 51) rfl rfl Try.func25 (by kernel_rfl) rfl #[.slice A2 l2.length c2] rfl (by (try simp only [mA, mB, mC]); first | done | rfl | (simp only [mE, mD]; rfl)) ?_; (with_reducible refine (laws_toIntSS.calls kj9 _ _ l2 t225 _ ?side1 ?side2 A35.out).mono ?_); (case side1 => repeat (first | exact (Kd.C_below HR2.out HB.out) | (with_reducible refine Kd.C_alloc ?_ _) | (with_reducible refine Kd.C_drewN ?_ _) | (with_reducible refine Kd.C_drew ?_))); (case side2 => exact HC2.out); rintro e w40 ⟨v226, rfl, ho0, hb⟩; refine ⟨_, rfl, ?_⟩; have n0_ := aM (Kd.S_elder' (by (with_reducible repeat (first | apply Kd.S_alloc | apply Kd.S_drewN | apply Kd.S_drew)); exact HO_10.out) (Kd.S_base ho0) hb); have n1_ := aM (Kd.R_below (by (with_reducible repeat (first | apply Kd.R_alloc | apply Kd.R_drewN | apply Kd.R_drew)); exact HO_214000.out) hb); have n2_ := aM (Kd.R_below (by (with_reducible repeat (first | apply Kd.R_alloc | apply Kd.R_drewN | apply Kd.R_drew)); exact HO_224000.out) hb); have n3_ := aM (Kd.S_lower (Kd.S_new' ho0 (Kd.S_lt (by (with_reducible repeat (first | apply Kd.S_alloc | apply Kd.S_drewN | apply Kd.S_drew)); exact HO_10.out))) (below_size (by repeat (first | (with_reducible first | exact HB.out | apply below_alloc | apply bN | apply bD | refine below_set ?_ GE213.out | refine below_set ?_ GE223.out) | exact HB.out)))); have n4_ := aM (blk_below (g := gb213) (o := .cells #[.slice Ao15 t207.length co15, .int .i64 t210, .bool t211] 33 (0, 0)) (by (with_reducible repeat (first | refine blk_drewN ?_ _ | refine blk_drew ?_ | refine blk_alloc ?_ _)); exact BK213.out) hb); have n5_ := aM (blk_below (g := gb223) (o := .cells #[.slice Ao21 t217.length co21, .int .i64 t220, .bool t221] 33 (0, 0)) (by (with_reducible repeat (first | refine blk_drewN ?_ _ | refine blk_drew ?_ | refine blk_alloc ?_ _)); exact BK223.out) hb); have n6_ := aM (below_step (by repeat (first | (with_reducible first | exact HB.out | apply below_alloc | apply bN | apply bD | refine below_set ?_ GE213.out | refine below_set ?_ GE223.out) | exact HB.out)) hb); clear HO_10; clear HO_214000; clear HO_224000; clear BK213; clear BK223; clear HB; have HO_10 := n0_; have HO_214000 := n1_; have HO_224000 := n2_; have HO227 := n3_; have BK213 := n4_; have BK223 := n5_; have HB := n6_; clear n0_ n1_ n2_ n3_ n4_ n5_ n6_; (try clear hb); (try clear hb2); (try clear hk); (try clear hi); (try clear ho0); obtain ⟨Ao41, co41, eo41⟩ := Kd.S_slice HO227.out; subst eo41) | ((with_reducible refine gate_callee (f := 27) rfl ?_); refine goesL_ (some 52) rfl rfl Try.func27 (by kernel_rfl) rfl #[.slice Ao18 t214.length co18, .slice Ao41 t225.length co41] rfl (by (try simp only [mA, mB, mC]); first | done | rfl | (simp only [mE, mD]; rfl)) ?_; (with_reducible refine (laws_eqIntSS.calls kj9 _ _ t214 _ _ t225 true _ ?side1 ?side2 ?side3 ?side4 A36.out).mono ?_); (case side1 => repeat (first | exact (Kd.S_reads' HO_10.out).2.2 | (with_reducible refine Kd.C_alloc ?_ _) | (with_reducible refine Kd.C_drewN ?_ _) | (with_reducible refine Kd.C_drew ?_))); (case side2 => exact (Kd.S_reads' HO_10.out).2.1); (case side3 => repeat (first | exact (Kd.S_reads' HO227.out).2.2 | (with_reducible refine Kd.C_alloc ?_ _) | (with_reducible refine Kd.C_drewN ?_ _) | (with_reducible refine Kd.C_drew ?_))); (case side4 => exact (Kd.S_reads' HO227.out).2.1); rintro e w' ⟨rfl, ⟨nd, rfl⟩⟩; refine ⟨_, rfl, ?_⟩) | ((with_reducible refine gate_callee (f := 28) rfl ?_); refine goesL_ (some 56) rfl rfl Try.func28 (by kernel_rfl) rfl #[.slice Ao18 t214.length co18, .int .i64 1] rfl (by (try simp only [mA, mB, mC]); first | done | rfl | (simp only [mE, mD]; rfl)) ?_; (with_reducible refine (laws_markIntSS.calls kj9 (fun k_ => ((fun k_ => some k_ ≠ (.slice Ao41 t225.length co41 : Value).ownBlock)) k_ ∧ w.heap.size ≤ k_ ∧ ∃ q_, q_ ∈ 28 :: (Kd.slice 3 (Kd.int .i64)).E ∧ ∃ cells_, w40.heap[k_]? = some (.cells cells_ q_ (0, 0))) (.slice Ao18 t214.length co18) t214 1 t229 w _ ?side1 ?side2 A38.out).mono ?_); (case side1 => repeat (first | (with_reducible first | exact HB.out | apply below_alloc | apply bN | apply bD | refine below_set ?_ GE213.out | refine below_set ?_ GE223.out) | exact HB.out)); (case side2 => exact Kd.S_mono (ok' := (fun k_ => ((fun k_ => some k_ ≠ (.slice Ao41 t225.length co41 : Value).ownBlock)) k_ ∧ w.heap.size ≤ k_ ∧ ∃ q_, q_ ∈ 28 :: (Kd.slice 3 (Kd.int .i64)).E ∧ ∃ cells_, w40.heap[k_]? = some (.cells cells_ q_ (0, 0)))) (Kd.S_bound (HO_10.out)) (fun k_ hk => ⟨hk.1.2, hk.2.1, hk.2.2.2⟩)); rintro e w42 ⟨rfl, hb, hkp⟩; refine ⟨_, rfl, ?_⟩; have n0_ := aM (Kd.R_mono (ok' := fun k_ => some k_ ≠ (.slice Ao21 t217.length co21 : Value).ownBlock) (Kd.R_keptB ((s_foeT rfl (fun k_ => ((fun k_ => some k_ ≠ (.slice Ao41 t225.length co41 : Value).ownBlock)) k_ ∧ w.heap.size ≤ k_ ∧ ∃ q_, q_ ∈ 28 :: (Kd.slice 3 (Kd.int .i64)).E ∧ ∃ cells_, w40.heap[k_]? = some (.cells cells_ q_ (0, 0))) (HO_214000.out) (by decide) (fun k_ hs_ => hs_.2.2))) hkp (fun k_ hk_ hs_ => by first | exact hk_.2 hs_ | (have hz_ := hk_; simp only [and_assoc, true_and] at hz_; first | exact hz_.1 hs_ | exact hz_.2.1 hs_ | exact hz_.2.2.1 hs_ | exact hz_.2.2.2.1 hs_ | exact hz_.2.2.2.2 hs_ | exact hz_.2.2.2 hs_ | exact hz_.2.2 hs_ | exact hz_.2 hs_ | exact hz_.2.2.2.2.1 hs_))) (fun k_ hk_ => hk_.1.1)); have n1_ := aM (Kd.R_mono (ok' := fun k_ => some k_ ≠ (.slice Ao15 t207.length co15 : Value).ownBlock) (Kd.R_keptB ((s_foeT rfl (fun k_ => ((fun k_ => some k_ ≠ (.slice Ao41 t225.length co41 : Value).ownBlock)) k_ ∧ w.heap.size ≤ k_ ∧ ∃ q_, q_ ∈ 28 :: (Kd.slice 3 (Kd.int .i64)).E ∧ ∃ cells_, w40.heap[k_]? = some (.cells cells_ q_ (0, 0))) (HO_224000.out) (by decide) (fun k_ hs_ => hs_.2.2))) hkp (fun k_ hk_ hs_ => by first | exact hk_.2 hs_ | (have hz_ := hk_; simp only [and_assoc, true_and] at hz_; first | exact hz_.1 hs_ | exact hz_.2.1 hs_ | exact hz_.2.2.1 hs_ | exact hz_.2.2.2.1 hs_ | exact hz_.2.2.2.2 hs_ | exact hz_.2.2.2 hs_ | exact hz_.2.2 hs_ | exact hz_.2 hs_ | exact hz_.2.2.2.2.1 hs_))) (fun k_ hk_ => hk_.1.1)); have n2_ := aM (blk_kept (by (with_reducible repeat (first | refine blk_drewN ?_ _ | refine blk_drew ?_ | refine blk_alloc ?_ _)); exact BK213.out) hkp (fun hs_ => by obtain ⟨_, _, q_, hq_, cells_, hc_⟩ := hs_; have hb_ := BK213.out; rw [hc_] at hb_; injection hb_ with hb_; injection hb_ with _ hb_; exact (by decide : ∀ q, q ∈ 28 :: (Kd.slice 3 (Kd.int .i64)).E → q ≠ 33) q_ hq_ hb_)); have n3_ := aM (blk_kept (by (with_reducible repeat (first | refine blk_drewN ?_ _ | refine blk_drew ?_ | refine blk_alloc ?_ _)); exact BK223.out) hkp (fun hs_ => by obtain ⟨_, _, q_, hq_, cells_, hc_⟩ := hs_; have hb_ := BK223.out; rw [hc_] at hb_; injection hb_ with hb_; injection hb_ with _ hb_; exact (by decide : ∀ q, q ∈ 28 :: (Kd.slice 3 (Kd.int .i64)).E → q ≠ 33) q_ hq_ hb_)); have n4_ := aM (hb); clear HO_214000; clear HO_224000; clear BK213; clear BK223; clear HB; clear HO227; clear HO_10; have HO_214000 := n0_; have HO_224000 := n1_; have BK213 := n2_; have BK223 := n3_; have HB := n4_; clear n0_ n1_ n2_ n3_ n4_; (try clear hb); (try clear hkp)))
      (try simp only [Act.put, sA, sB, sC])
      go_cut [69] (fun v69 wc => ∃ (kq : Nat) (x69_38 : Bool), v69 = .bool x69_38 ∧ Aside0 (laws_FnExactRunWorms.j1 kq a0 a1 l2 t212 x69_38 t207 t210 t211 t217 t220 t221 = some r) ∧ Aside0 (kq ≤ kj9) ∧ Aside0 (Kd.R Kd.bool 4 wc w.heap.size (fun k_ => some k_ ≠ ((.slice Ao21 t217.length co21) : Value).ownBlock) (.slice Ao15 t207.length co15) t207) ∧ Aside0 (Kd.R Kd.bool 4 wc w.heap.size (fun k_ => some k_ ≠ ((.slice Ao15 t207.length co15) : Value).ownBlock) (.slice Ao21 t217.length co21) t217) ∧ Aside0 (wc.heap[gb213]? = some (.cells #[(.slice Ao15 t207.length co15), .int .i64 t210, .bool t211] 33 (0, 0))) ∧ Aside0 (wc.heap[gb223]? = some (.cells #[(.slice Ao21 t217.length co21), .int .i64 t220, .bool t221] 33 (0, 0))) ∧ Aside0 (Below w.heap.size w wc))
      case first =>
       have H := HC39.out
       clear HC39
       by_cases c43 : t229 < 0
       ·
        rw [if_pos c43] at H
        have c43b0 : decide (t229 < 0) = true := decide_eq_true c43
        clear c43
        (first | rw [c43b0] | (simp only [i64_w, i32_w]; rw [c43b0]) | skip)
        have H' := aM H
        clear H
        go_wp2
        go_meet
        case rel => exact ⟨_, (true), (by first | rfl | (simp; done) | (simp [*]; done)), H', ⟨by have := HJ9.out; first | omega | exact Nat.le_refl _⟩, ⟨by (with_reducible repeat (first | apply Kd.R_alloc | apply Kd.R_drewN | apply Kd.R_drew)); exact HO_214000.out⟩, ⟨by (with_reducible repeat (first | apply Kd.R_alloc | apply Kd.R_drewN | apply Kd.R_drew)); exact HO_224000.out⟩, ⟨by (with_reducible repeat (first | refine blk_drewN ?_ _ | refine blk_drew ?_ | refine blk_alloc ?_ _)); exact BK213.out⟩, ⟨by (with_reducible repeat (first | refine blk_drewN ?_ _ | refine blk_drew ?_ | refine blk_alloc ?_ _)); exact BK223.out⟩, ⟨by repeat (first | (with_reducible first | exact HB.out | apply below_alloc | apply bN | apply bD | refine below_set ?_ GE213.out | refine below_set ?_ GE223.out) | exact HB.out)⟩⟩
       ·
        rw [if_neg c43] at H
        have c43b0 : decide (t229 < 0) = false := decide_eq_false c43
        clear c43
        (first | rw [c43b0] | (simp only [i64_w, i32_w]; rw [c43b0]) | skip)
        replace H := bE H
        obtain ⟨t230, A440, H⟩ := H
        replace H : (if t230 = true then (laws_FnExactRunWorms.j1 kj9 a0 a1 l2 t212 (t222 != t212) t207 t210 t211 t217 t220 t221) else (laws_FnExactRunWorms.j1 kj9 a0 a1 l2 t212 true t207 t210 t211 t217 t220 t221)) = some r := H
        have A44 := aM A440
        clear A440
        by_cases c45 : t230 = true
        ·
         subst c45
         have H1 : (laws_FnExactRunWorms.j1 kj9 a0 a1 l2 t212 (t222 != t212) t207 t210 t211 t217 t220 t221) = some r := by rw [if_pos rfl] at H; exact H
         clear H
         have H := H1
         clear H1
         have H' := aM H
         clear H
         have hnb46 := NB223_213.out
         have hnc46 := NB213_223.out
         have hcz47_0 : w42.cell? ⟨gb223, 0, none⟩ = some (.slice Ao21 t217.length co21) := (blk_cell BK223.out 0).trans rfl
         have hcz47_1 : w42.cell? ⟨gb223, 1, none⟩ = some (.int .i64 t220) := (blk_cell BK223.out 1).trans rfl
         have hcz47_2 : w42.cell? ⟨gb223, 2, none⟩ = some (.bool t221) := (blk_cell BK223.out 2).trans rfl
         have hfz47_0 := blk_frozen BK223.out 0
         have hfz47_1 := blk_frozen BK223.out 1
         have hfz47_2 := blk_frozen BK223.out 2
         have hcz48_0 : w42.cell? ⟨gb213, 0, none⟩ = some (.slice Ao15 t207.length co15) := (blk_cell BK213.out 0).trans rfl
         have hcz48_1 : w42.cell? ⟨gb213, 1, none⟩ = some (.int .i64 t210) := (blk_cell BK213.out 1).trans rfl
         have hcz48_2 : w42.cell? ⟨gb213, 2, none⟩ = some (.bool t211) := (blk_cell BK213.out 2).trans rfl
         have hfz48_0 := blk_frozen BK213.out 0
         have hfz48_1 := blk_frozen BK213.out 1
         have hfz48_2 := blk_frozen BK213.out 2
         go_wp2_with (first | (go_at_call 26; (with_reducible refine (laws_eqWormRun.calls kj9 _ _ t217 t220 t221 _ _ t207 t210 t211 true _ ?side1 ?side2 ?side3 ?side4 A44.out).mono ?_); (case side1 => repeat (first | exact (Kd.R_reads' HO_224000.out).2.2 | (with_reducible refine Kd.C_alloc ?_ _) | (with_reducible refine Kd.C_drewN ?_ _) | (with_reducible refine Kd.C_drew ?_))); (case side2 => exact (Kd.R_reads' HO_224000.out).2.1); (case side3 => repeat (first | exact (Kd.R_reads' HO_214000.out).2.2 | (with_reducible refine Kd.C_alloc ?_ _) | (with_reducible refine Kd.C_drewN ?_ _) | (with_reducible refine Kd.C_drew ?_))); (case side4 => exact (Kd.R_reads' HO_214000.out).2.1); rintro e w49 ⟨rfl, hb⟩; have n0_ := aM (Kd.R_below (by (with_reducible repeat (first | apply Kd.R_alloc | apply Kd.R_drewN | apply Kd.R_drew)); exact HO_214000.out) hb); have n1_ := aM (Kd.R_below (by (with_reducible repeat (first | apply Kd.R_alloc | apply Kd.R_drewN | apply Kd.R_drew)); exact HO_224000.out) hb); have n2_ := aM (blk_below (g := gb213) (o := .cells #[.slice Ao15 t207.length co15, .int .i64 t210, .bool t211] 33 (0, 0)) (by (with_reducible repeat (first | refine blk_drewN ?_ _ | refine blk_drew ?_ | refine blk_alloc ?_ _)); exact BK213.out) hb); have n3_ := aM (blk_below (g := gb223) (o := .cells #[.slice Ao21 t217.length co21, .int .i64 t220, .bool t221] 33 (0, 0)) (by (with_reducible repeat (first | refine blk_drewN ?_ _ | refine blk_drew ?_ | refine blk_alloc ?_ _)); exact BK223.out) hb); have n4_ := aM (below_step (by repeat (first | (with_reducible first | exact HB.out | apply below_alloc | apply bN | apply bD | refine below_set ?_ GE213.out | refine below_set ?_ GE223.out) | exact HB.out)) hb); clear HO_214000; clear HO_224000; clear BK213; clear BK223; clear HB; have HO_214000 := n0_; have HO_224000 := n1_; have BK213 := n2_; have BK223 := n3_; have HB := n4_; clear n0_ n1_ n2_ n3_ n4_; (try clear hb); (try clear hb2); (try clear hk); (try clear hi)))
         go_meet
         case rel => exact ⟨_, ((t222 != t212)), (by first | rfl | (simp; done) | (simp [*]; done)), H', ⟨by have := HJ9.out; first | omega | exact Nat.le_refl _⟩, ⟨by (with_reducible repeat (first | apply Kd.R_alloc | apply Kd.R_drewN | apply Kd.R_drew)); exact HO_214000.out⟩, ⟨by (with_reducible repeat (first | apply Kd.R_alloc | apply Kd.R_drewN | apply Kd.R_drew)); exact HO_224000.out⟩, ⟨by (with_reducible repeat (first | refine blk_drewN ?_ _ | refine blk_drew ?_ | refine blk_alloc ?_ _)); exact BK213.out⟩, ⟨by (with_reducible repeat (first | refine blk_drewN ?_ _ | refine blk_drew ?_ | refine blk_alloc ?_ _)); exact BK223.out⟩, ⟨by repeat (first | (with_reducible first | exact HB.out | apply below_alloc | apply bN | apply bD | refine below_set ?_ GE213.out | refine below_set ?_ GE223.out) | exact HB.out)⟩⟩
        ·
         replace c45 := Bool.eq_false_iff.mpr c45
         subst c45
         have H1 : (laws_FnExactRunWorms.j1 kj9 a0 a1 l2 t212 true t207 t210 t211 t217 t220 t221) = some r := by rw [if_neg (show ¬ (false = true) by decide)] at H; exact H
         clear H
         have H := H1
         clear H1
         have H' := aM H
         clear H
         have hnb50 := NB223_213.out
         have hnc50 := NB213_223.out
         have hcz51_0 : w42.cell? ⟨gb223, 0, none⟩ = some (.slice Ao21 t217.length co21) := (blk_cell BK223.out 0).trans rfl
         have hcz51_1 : w42.cell? ⟨gb223, 1, none⟩ = some (.int .i64 t220) := (blk_cell BK223.out 1).trans rfl
         have hcz51_2 : w42.cell? ⟨gb223, 2, none⟩ = some (.bool t221) := (blk_cell BK223.out 2).trans rfl
         have hfz51_0 := blk_frozen BK223.out 0
         have hfz51_1 := blk_frozen BK223.out 1
         have hfz51_2 := blk_frozen BK223.out 2
         have hcz52_0 : w42.cell? ⟨gb213, 0, none⟩ = some (.slice Ao15 t207.length co15) := (blk_cell BK213.out 0).trans rfl
         have hcz52_1 : w42.cell? ⟨gb213, 1, none⟩ = some (.int .i64 t210) := (blk_cell BK213.out 1).trans rfl
         have hcz52_2 : w42.cell? ⟨gb213, 2, none⟩ = some (.bool t211) := (blk_cell BK213.out 2).trans rfl
         have hfz52_0 := blk_frozen BK213.out 0
         have hfz52_1 := blk_frozen BK213.out 1
         have hfz52_2 := blk_frozen BK213.out 2
         go_wp2_with (first | (go_at_call 26; (with_reducible refine (laws_eqWormRun.calls kj9 _ _ t217 t220 t221 _ _ t207 t210 t211 false _ ?side1 ?side2 ?side3 ?side4 A44.out).mono ?_); (case side1 => repeat (first | exact (Kd.R_reads' HO_224000.out).2.2 | (with_reducible refine Kd.C_alloc ?_ _) | (with_reducible refine Kd.C_drewN ?_ _) | (with_reducible refine Kd.C_drew ?_))); (case side2 => exact (Kd.R_reads' HO_224000.out).2.1); (case side3 => repeat (first | exact (Kd.R_reads' HO_214000.out).2.2 | (with_reducible refine Kd.C_alloc ?_ _) | (with_reducible refine Kd.C_drewN ?_ _) | (with_reducible refine Kd.C_drew ?_))); (case side4 => exact (Kd.R_reads' HO_214000.out).2.1); rintro e w53 ⟨rfl, hb⟩; have n0_ := aM (Kd.R_below (by (with_reducible repeat (first | apply Kd.R_alloc | apply Kd.R_drewN | apply Kd.R_drew)); exact HO_214000.out) hb); have n1_ := aM (Kd.R_below (by (with_reducible repeat (first | apply Kd.R_alloc | apply Kd.R_drewN | apply Kd.R_drew)); exact HO_224000.out) hb); have n2_ := aM (blk_below (g := gb213) (o := .cells #[.slice Ao15 t207.length co15, .int .i64 t210, .bool t211] 33 (0, 0)) (by (with_reducible repeat (first | refine blk_drewN ?_ _ | refine blk_drew ?_ | refine blk_alloc ?_ _)); exact BK213.out) hb); have n3_ := aM (blk_below (g := gb223) (o := .cells #[.slice Ao21 t217.length co21, .int .i64 t220, .bool t221] 33 (0, 0)) (by (with_reducible repeat (first | refine blk_drewN ?_ _ | refine blk_drew ?_ | refine blk_alloc ?_ _)); exact BK223.out) hb); have n4_ := aM (below_step (by repeat (first | (with_reducible first | exact HB.out | apply below_alloc | apply bN | apply bD | refine below_set ?_ GE213.out | refine below_set ?_ GE223.out) | exact HB.out)) hb); clear HO_214000; clear HO_224000; clear BK213; clear BK223; clear HB; have HO_214000 := n0_; have HO_224000 := n1_; have BK213 := n2_; have BK223 := n3_; have HB := n4_; clear n0_ n1_ n2_ n3_ n4_; (try clear hb); (try clear hb2); (try clear hk); (try clear hi)))
         go_meet
         case rel => exact ⟨_, (true), (by first | rfl | (simp; done) | (simp [*]; done)), H', ⟨by have := HJ9.out; first | omega | exact Nat.le_refl _⟩, ⟨by (with_reducible repeat (first | apply Kd.R_alloc | apply Kd.R_drewN | apply Kd.R_drew)); exact HO_214000.out⟩, ⟨by (with_reducible repeat (first | apply Kd.R_alloc | apply Kd.R_drewN | apply Kd.R_drew)); exact HO_224000.out⟩, ⟨by (with_reducible repeat (first | refine blk_drewN ?_ _ | refine blk_drew ?_ | refine blk_alloc ?_ _)); exact BK213.out⟩, ⟨by (with_reducible repeat (first | refine blk_drewN ?_ _ | refine blk_drew ?_ | refine blk_alloc ?_ _)); exact BK223.out⟩, ⟨by repeat (first | (with_reducible first | exact HB.out | apply below_alloc | apply bN | apply bD | refine below_set ?_ GE213.out | refine below_set ?_ GE223.out) | exact HB.out)⟩⟩
      case rest =>
       clear HC39
       try clear c1
       try clear c2
       try clear p2
       try clear c3
       try clear c4
       try clear c5
       try clear c5b0
       try clear c7
       try clear c16
       try clear c17
       try clear c22
       try clear c24
       try clear c25
       try clear c26
       try clear c27
       try clear c28
       try clear c30
       try clear c34
       try clear c37
       try clear c43
       try clear c43b0
       try clear c45
       try clear c46
       try clear c50
       try clear hcz16_0
       try clear hcz16_1
       try clear hcz16_2
       try clear hcz23_0
       try clear hcz23_1
       try clear hcz23_2
       try clear hcz27_0
       try clear hcz27_1
       try clear hcz27_2
       try clear hcz28_0
       try clear hcz28_1
       try clear hcz28_2
       try clear hcz31_0
       try clear hcz31_1
       try clear hcz31_2
       try clear hcz32_0
       try clear hcz32_1
       try clear hcz32_2
       try clear hcz47_0
       try clear hcz47_1
       try clear hcz47_2
       try clear hcz48_0
       try clear hcz48_1
       try clear hcz48_2
       try clear hcz51_0
       try clear hcz51_1
       try clear hcz51_2
       try clear hcz52_0
       try clear hcz52_1
       try clear hcz52_2
       try clear hfz16_0
       try clear hfz16_1
       try clear hfz16_2
       try clear hfz23_0
       try clear hfz23_1
       try clear hfz23_2
       try clear hfz27_0
       try clear hfz27_1
       try clear hfz27_2
       try clear hfz28_0
       try clear hfz28_1
       try clear hfz28_2
       try clear hfz31_0
       try clear hfz31_1
       try clear hfz31_2
       try clear hfz32_0
       try clear hfz32_1
       try clear hfz32_2
       try clear hfz47_0
       try clear hfz47_1
       try clear hfz47_2
       try clear hfz48_0
       try clear hfz48_1
       try clear hfz48_2
       try clear hfz51_0
       try clear hfz51_1
       try clear hfz51_2
       try clear hfz52_0
       try clear hfz52_1
       try clear hfz52_2
       try clear p2
       obtain ⟨kq, x69_38, rfl, HA, HJ38, HO_214000, HO_224000, BK213, BK223, HB⟩ := hcut
       cases kq with
       | zero => exact absurd HA.out (by simp [laws_FnExactRunWorms.j1])
       | succ kj38 =>
        have H := HA.out
        clear HA
        simp only [laws_FnExactRunWorms.j1] at H
        by_cases c54 : x69_38 = true
        ·
         subst c54
         have H1 : (some false) = some r := by rw [if_pos rfl] at H; exact H
         clear H
         have H := H1
         clear H1
         obtain rfl := Option.some.inj H
         go_wp2
         go_ret
         exact ⟨by first | rfl | (simp [*] <;> rfl) | (exfalso; simp_all; done), by repeat (first | (with_reducible first | exact HB.out | apply below_alloc | apply bN | apply bD | refine below_set ?_ GE213.out | refine below_set ?_ GE223.out) | exact HB.out)⟩
        ·
         replace c54 := Bool.eq_false_iff.mpr c54
         subst c54
         have H1 : ((laws_markWormRun.f kj38 t217 t220 t221 1).bind fun bt231 => ((laws_heldWormRun.f kj38 bt231.2 t220 t221 1).bind fun t233 => (if t233 < 0 then (some false) else (if t233 = bt231.1 then ((laws_toIntSS.f kj38 l2).bind fun t234 => ((impl_RunWorms.f kj38 a0 a1 t234).bind fun bt237 => ((laws_eqWormRun.f kj38 bt237.1 bt237.2.1 bt237.2.2.1 t207 t210 t211).bind fun t244 => (if t244 = true then (laws_FnExactRunWorms.j2 kj38 bt231.1 (bt237.2.2.2 != t212) bt231.2 t220 t221) else (laws_FnExactRunWorms.j2 kj38 bt231.1 true bt231.2 t220 t221))))) else (some false))))) = some r := by rw [if_neg (show ¬ (false = true) by decide)] at H; exact H
         clear H
         have H := H1
         clear H1
         replace H := bE H
         obtain ⟨⟨t231, t232⟩, A550, H⟩ := H
         replace H : ((laws_heldWormRun.f kj38 t232 t220 t221 1).bind fun t233 => (if t233 < 0 then (some false) else (if t233 = t231 then ((laws_toIntSS.f kj38 l2).bind fun t234 => ((impl_RunWorms.f kj38 a0 a1 t234).bind fun bt237 => ((laws_eqWormRun.f kj38 bt237.1 bt237.2.1 bt237.2.2.1 t207 t210 t211).bind fun t244 => (if t244 = true then (laws_FnExactRunWorms.j2 kj38 t231 (bt237.2.2.2 != t212) t232 t220 t221) else (laws_FnExactRunWorms.j2 kj38 t231 true t232 t220 t221))))) else (some false)))) = some r := H
         have A55 := aM A550
         clear A550
         replace H := bE H
         obtain ⟨t233, A560, H⟩ := H
         replace H : (if t233 < 0 then (some false) else (if t233 = t231 then ((laws_toIntSS.f kj38 l2).bind fun t234 => ((impl_RunWorms.f kj38 a0 a1 t234).bind fun bt237 => ((laws_eqWormRun.f kj38 bt237.1 bt237.2.1 bt237.2.2.1 t207 t210 t211).bind fun t244 => (if t244 = true then (laws_FnExactRunWorms.j2 kj38 t231 (bt237.2.2.2 != t212) t232 t220 t221) else (laws_FnExactRunWorms.j2 kj38 t231 true t232 t220 t221))))) else (some false))) = some r := H
         have A56 := aM A560
         clear A560
         by_cases c57 : t233 < 0
         ·
          rw [if_pos c57] at H
          have c57b0 : decide (t233 < 0) = true := decide_eq_true c57
          clear c57
          obtain rfl := Option.some.inj H
          have hnb58 := NB223_213.out
          have hnc58 := NB213_223.out
          have hcz59_0 : wc.cell? ⟨gb223, 0, none⟩ = some (.slice Ao21 t217.length co21) := (blk_cell BK223.out 0).trans rfl
          have hcz59_1 : wc.cell? ⟨gb223, 1, none⟩ = some (.int .i64 t220) := (blk_cell BK223.out 1).trans rfl
          have hcz59_2 : wc.cell? ⟨gb223, 2, none⟩ = some (.bool t221) := (blk_cell BK223.out 2).trans rfl
          have hfz59_0 := blk_frozen BK223.out 0
          have hfz59_1 := blk_frozen BK223.out 1
          have hfz59_2 := blk_frozen BK223.out 2
          go_wp2_with (first | ((with_reducible refine gate_callee (f := 29) rfl ?_); refine goesL_ (some 72) rfl rfl Try.func29 (by kernel_rfl) rfl #[.agg #[.slice Ao21 t217.length co21, .int .i64 t220, .bool t221], .int .i64 1] rfl (by (try simp only [mA, mB, mC]); first | done | rfl | (simp only [mE, mD]; rfl)) ?_; (with_reducible refine (laws_markWormRun.calls kj38 (fun k_ => some k_ = (.slice Ao21 t217.length co21 : Value).ownBlock) (.slice Ao21 t217.length co21) t217 t220 t221 1 t231 t232 w _ ?side1 ?side2 A55.out).mono ?_); (case side1 => repeat (first | (with_reducible first | exact HB.out | apply below_alloc | apply bN | apply bD | refine below_set ?_ GE213.out | refine below_set ?_ GE223.out) | exact HB.out)); (case side2 => exact Kd.R_tight rfl HO_224000.out); rintro e w60 ⟨rfl, hy0, hb, hkp⟩; refine ⟨_, rfl, ?_⟩; have n0_ := aM (Kd.R_mono (ok' := fun k_ => some k_ ≠ (.slice Ao21 t217.length co21 : Value).ownBlock) (Kd.R_keptB (HO_214000.out) hkp (fun k_ hk_ hs_ => by first | exact hk_ hs_ | (have hz_ := hk_; simp only [and_assoc, true_and] at hz_; first | exact hz_.1 hs_ | exact hz_.2.1 hs_ | exact hz_.2.2.1 hs_ | exact hz_.2.2.2.1 hs_ | exact hz_.2.2.2.2 hs_ | exact hz_.2.2.2 hs_ | exact hz_.2.2 hs_ | exact hz_.2 hs_ | exact hz_.2.2.2.2.1 hs_))) (fun k_ hk_ => hk_.1)); have n1_ := aM (Kd.R_reok rfl hy0 (fun k_ e_ => HO_224000.out.1 k_ e_)); have n2_ := aM (blk_kept (by (with_reducible repeat (first | refine blk_drewN ?_ _ | refine blk_drew ?_ | refine blk_alloc ?_ _)); exact BK213.out) hkp (fun hs_ => (fun e_ => (Kd.R_ne HO_224000.out BK213.out (by decide)) e_) hs_)); have n3_ := aM (blk_kept (by (with_reducible repeat (first | refine blk_drewN ?_ _ | refine blk_drew ?_ | refine blk_alloc ?_ _)); exact BK223.out) hkp (fun hs_ => (fun e_ => (Kd.R_ne HO_224000.out BK223.out (by decide)) e_) hs_)); have n4_ := aM (hb); clear HO_214000; clear HO_224000; clear BK213; clear BK223; clear HB; have HO_214000 := n0_; have HO_224000 := n1_; have BK213 := n2_; have BK223 := n3_; have HB := n4_; clear n0_ n1_ n2_ n3_ n4_; (try clear hb); (try clear hkp); (try clear hy0); have hcz61_0 : w60.cell? ⟨gb223, 0, none⟩ = some (.slice Ao21 t217.length co21) := (blk_cell BK223.out 0).trans rfl; have hcz61_1 : w60.cell? ⟨gb223, 1, none⟩ = some (.int .i64 t220) := (blk_cell BK223.out 1).trans rfl; have hcz61_2 : w60.cell? ⟨gb223, 2, none⟩ = some (.bool t221) := (blk_cell BK223.out 2).trans rfl; have hfz61_0 := blk_frozen BK223.out 0; have hfz61_1 := blk_frozen BK223.out 1; have hfz61_2 := blk_frozen BK223.out 2) | ((with_reducible refine gate_callee (f := 30) rfl ?_); refine goesL_ (some 75) rfl rfl Try.func30 (by kernel_rfl) rfl #[.agg #[.slice Ao21 t232.length co21, .int .i64 t220, .bool t221], .int .i64 1] rfl (by (try simp only [mA, mB, mC]); first | done | (rw [show t232.length = t217.length from (Kd.R_reads' HO_224000.out).1.symm] <;> rfl) | rfl | (simp only [mE, mD]; rfl)) ?_; (with_reducible refine (laws_heldWormRun.calls kj38 _ _ t232 t220 t221 1 t233 _ ?side1 ?side2 A56.out).mono ?_); (case side1 => repeat (first | exact (Kd.R_reads' HO_224000.out).2.2 | (with_reducible refine Kd.C_alloc ?_ _) | (with_reducible refine Kd.C_drewN ?_ _) | (with_reducible refine Kd.C_drew ?_))); (case side2 => rw [show t232.length = t217.length from (Kd.R_reads' HO_224000.out).1.symm]; exact (Kd.R_reads' HO_224000.out).2.1); rintro e w62 ⟨rfl, hb⟩; refine ⟨_, rfl, ?_⟩; have n0_ := aM (Kd.R_below (by (with_reducible repeat (first | apply Kd.R_alloc | apply Kd.R_drewN | apply Kd.R_drew)); exact HO_214000.out) hb); have n1_ := aM (Kd.R_below (by (with_reducible repeat (first | apply Kd.R_alloc | apply Kd.R_drewN | apply Kd.R_drew)); exact HO_224000.out) hb); have n2_ := aM (blk_below (g := gb213) (o := .cells #[.slice Ao15 t207.length co15, .int .i64 t210, .bool t211] 33 (0, 0)) (by (with_reducible repeat (first | refine blk_drewN ?_ _ | refine blk_drew ?_ | refine blk_alloc ?_ _)); exact BK213.out) hb); have n3_ := aM (blk_below (g := gb223) (o := .cells #[.slice Ao21 t217.length co21, .int .i64 t220, .bool t221] 33 (0, 0)) (by (with_reducible repeat (first | refine blk_drewN ?_ _ | refine blk_drew ?_ | refine blk_alloc ?_ _)); exact BK223.out) hb); have n4_ := aM (below_step (by repeat (first | (with_reducible first | exact HB.out | apply below_alloc | apply bN | apply bD | refine below_set ?_ GE213.out | refine below_set ?_ GE223.out) | exact HB.out)) hb); clear HO_214000; clear HO_224000; clear BK213; clear BK223; clear HB; have HO_214000 := n0_; have HO_224000 := n1_; have BK213 := n2_; have BK223 := n3_; have HB := n4_; clear n0_ n1_ n2_ n3_ n4_; (try clear hb); (try clear hb2); (try clear hk); (try clear hi)))
          go_ret
          exact ⟨by first | rfl | (simp [*] <;> rfl) | (exfalso; simp_all; done), by repeat (first | (with_reducible first | exact HB.out | apply below_alloc | apply bN | apply bD | refine below_set ?_ GE213.out | refine below_set ?_ GE223.out) | exact HB.out)⟩
         ·
          rw [if_neg c57] at H
          have c57b0 : decide (t233 < 0) = false := decide_eq_false c57
          clear c57
          by_cases c63 : t233 = t231
          ·
           rw [if_pos c63] at H
           have c63b0 : (t233 == t231) = true := beq_iff_eq.mpr c63
           have c63b1 : (t233 != t231) = false := bne_eq_false_iff_eq.mpr c63
           clear c63
           replace H := bE H
           obtain ⟨t234, A640, H⟩ := H
           replace H : ((impl_RunWorms.f kj38 a0 a1 t234).bind fun bt237 => ((laws_eqWormRun.f kj38 bt237.1 bt237.2.1 bt237.2.2.1 t207 t210 t211).bind fun t244 => (if t244 = true then (laws_FnExactRunWorms.j2 kj38 t231 (bt237.2.2.2 != t212) t232 t220 t221) else (laws_FnExactRunWorms.j2 kj38 t231 true t232 t220 t221)))) = some r := H
           have A64 := aM A640
           clear A640
           replace H := bE H
           obtain ⟨⟨t237, t240, t241, t242⟩, A650, H⟩ := H
           replace H : ((laws_eqWormRun.f kj38 t237 t240 t241 t207 t210 t211).bind fun t244 => (if t244 = true then (laws_FnExactRunWorms.j2 kj38 t231 (t242 != t212) t232 t220 t221) else (laws_FnExactRunWorms.j2 kj38 t231 true t232 t220 t221))) = some r := H
           have A65 := aM A650
           clear A650
           have HC66 := aM H
           clear H
           have hnb67 := NB223_213.out
           have hnc67 := NB213_223.out
           have hcz68_0 : wc.cell? ⟨gb223, 0, none⟩ = some (.slice Ao21 t217.length co21) := (blk_cell BK223.out 0).trans rfl
           have hcz68_1 : wc.cell? ⟨gb223, 1, none⟩ = some (.int .i64 t220) := (blk_cell BK223.out 1).trans rfl
           have hcz68_2 : wc.cell? ⟨gb223, 2, none⟩ = some (.bool t221) := (blk_cell BK223.out 2).trans rfl
           have hfz68_0 := blk_frozen BK223.out 0
           have hfz68_1 := blk_frozen BK223.out 1
           have hfz68_2 := blk_frozen BK223.out 2
           go_upto_region 25 with (first | ((with_reducible refine gate_callee (f := 29) rfl ?_); refine goesL_ (some 72) rfl rfl Try.func29 (by kernel_rfl) rfl #[.agg #[.slice Ao21 t217.length co21, .int .i64 t220, .bool t221], .int .i64 1] rfl (by (try simp only [mA, mB, mC]); first | done | rfl | (simp only [mE, mD]; rfl)) ?_; (with_reducible refine (laws_markWormRun.calls kj38 (fun k_ => some k_ = (.slice Ao21 t217.length co21 : Value).ownBlock) (.slice Ao21 t217.length co21) t217 t220 t221 1 t231 t232 w _ ?side1 ?side2 A55.out).mono ?_); (case side1 => repeat (first | (with_reducible first | exact HB.out | apply below_alloc | apply bN | apply bD | refine below_set ?_ GE213.out | refine below_set ?_ GE223.out) | exact HB.out)); (case side2 => exact Kd.R_tight rfl HO_224000.out); rintro e w69 ⟨rfl, hy0, hb, hkp⟩; refine ⟨_, rfl, ?_⟩; have n0_ := aM (Kd.R_mono (ok' := fun k_ => some k_ ≠ (.slice Ao21 t217.length co21 : Value).ownBlock) (Kd.R_keptB (HO_214000.out) hkp (fun k_ hk_ hs_ => by first | exact hk_ hs_ | (have hz_ := hk_; simp only [and_assoc, true_and] at hz_; first | exact hz_.1 hs_ | exact hz_.2.1 hs_ | exact hz_.2.2.1 hs_ | exact hz_.2.2.2.1 hs_ | exact hz_.2.2.2.2 hs_ | exact hz_.2.2.2 hs_ | exact hz_.2.2 hs_ | exact hz_.2 hs_ | exact hz_.2.2.2.2.1 hs_))) (fun k_ hk_ => hk_.1)); have n1_ := aM (Kd.R_reok rfl hy0 (fun k_ e_ => HO_224000.out.1 k_ e_)); have n2_ := aM (blk_kept (by (with_reducible repeat (first | refine blk_drewN ?_ _ | refine blk_drew ?_ | refine blk_alloc ?_ _)); exact BK213.out) hkp (fun hs_ => (fun e_ => (Kd.R_ne HO_224000.out BK213.out (by decide)) e_) hs_)); have n3_ := aM (blk_kept (by (with_reducible repeat (first | refine blk_drewN ?_ _ | refine blk_drew ?_ | refine blk_alloc ?_ _)); exact BK223.out) hkp (fun hs_ => (fun e_ => (Kd.R_ne HO_224000.out BK223.out (by decide)) e_) hs_)); have n4_ := aM (hb); clear HO_214000; clear HO_224000; clear BK213; clear BK223; clear HB; have HO_214000 := n0_; have HO_224000 := n1_; have BK213 := n2_; have BK223 := n3_; have HB := n4_; clear n0_ n1_ n2_ n3_ n4_; (try clear hb); (try clear hkp); (try clear hy0); have hcz70_0 : w69.cell? ⟨gb223, 0, none⟩ = some (.slice Ao21 t217.length co21) := (blk_cell BK223.out 0).trans rfl; have hcz70_1 : w69.cell? ⟨gb223, 1, none⟩ = some (.int .i64 t220) := (blk_cell BK223.out 1).trans rfl; have hcz70_2 : w69.cell? ⟨gb223, 2, none⟩ = some (.bool t221) := (blk_cell BK223.out 2).trans rfl; have hfz70_0 := blk_frozen BK223.out 0; have hfz70_1 := blk_frozen BK223.out 1; have hfz70_2 := blk_frozen BK223.out 2) | ((with_reducible refine gate_callee (f := 30) rfl ?_); refine goesL_ (some 75) rfl rfl Try.func30 (by kernel_rfl) rfl #[.agg #[.slice Ao21 t232.length co21, .int .i64 t220, .bool t221], .int .i64 1] rfl (by (try simp only [mA, mB, mC]); first | done | (rw [show t232.length = t217.length from (Kd.R_reads' HO_224000.out).1.symm] <;> rfl) | rfl | (simp only [mE, mD]; rfl)) ?_; (with_reducible refine (laws_heldWormRun.calls kj38 _ _ t232 t220 t221 1 t233 _ ?side1 ?side2 A56.out).mono ?_); (case side1 => repeat (first | exact (Kd.R_reads' HO_224000.out).2.2 | (with_reducible refine Kd.C_alloc ?_ _) | (with_reducible refine Kd.C_drewN ?_ _) | (with_reducible refine Kd.C_drew ?_))); (case side2 => rw [show t232.length = t217.length from (Kd.R_reads' HO_224000.out).1.symm]; exact (Kd.R_reads' HO_224000.out).2.1); rintro e w71 ⟨rfl, hb⟩; refine ⟨_, rfl, ?_⟩; have n0_ := aM (Kd.R_below (by (with_reducible repeat (first | apply Kd.R_alloc | apply Kd.R_drewN | apply Kd.R_drew)); exact HO_214000.out) hb); have n1_ := aM (Kd.R_below (by (with_reducible repeat (first | apply Kd.R_alloc | apply Kd.R_drewN | apply Kd.R_drew)); exact HO_224000.out) hb); have n2_ := aM (blk_below (g := gb213) (o := .cells #[.slice Ao15 t207.length co15, .int .i64 t210, .bool t211] 33 (0, 0)) (by (with_reducible repeat (first | refine blk_drewN ?_ _ | refine blk_drew ?_ | refine blk_alloc ?_ _)); exact BK213.out) hb); have n3_ := aM (blk_below (g := gb223) (o := .cells #[.slice Ao21 t217.length co21, .int .i64 t220, .bool t221] 33 (0, 0)) (by (with_reducible repeat (first | refine blk_drewN ?_ _ | refine blk_drew ?_ | refine blk_alloc ?_ _)); exact BK223.out) hb); have n4_ := aM (below_step (by repeat (first | (with_reducible first | exact HB.out | apply below_alloc | apply bN | apply bD | refine below_set ?_ GE213.out | refine below_set ?_ GE223.out) | exact HB.out)) hb); clear HO_214000; clear HO_224000; clear BK213; clear BK223; clear HB; have HO_214000 := n0_; have HO_224000 := n1_; have BK213 := n2_; have BK223 := n3_; have HB := n4_; clear n0_ n1_ n2_ n3_ n4_; (try clear hb); (try clear hb2); (try clear hk); (try clear hi)) | ((with_reducible refine gate_callee (f := 25) rfl ?_); refine goesL_ (some 85) rfl rfl Try.func25 (by kernel_rfl) rfl #[.slice A2 l2.length c2] rfl (by (try simp only [mA, mB, mC]); first | done | rfl | (simp only [mE, mD]; rfl)) ?_; (with_reducible refine (laws_toIntSS.calls kj38 _ _ l2 t234 _ ?side1 ?side2 A64.out).mono ?_); (case side1 => repeat (first | exact (Kd.C_below HR2.out HB.out) | (with_reducible refine Kd.C_alloc ?_ _) | (with_reducible refine Kd.C_drewN ?_ _) | (with_reducible refine Kd.C_drew ?_))); (case side2 => exact HC2.out); rintro e w72 ⟨v235, rfl, ho0, hb⟩; refine ⟨_, rfl, ?_⟩; have n0_ := aM (Kd.R_below (by (with_reducible repeat (first | apply Kd.R_alloc | apply Kd.R_drewN | apply Kd.R_drew)); exact HO_214000.out) hb); have n1_ := aM (Kd.R_below (by (with_reducible repeat (first | apply Kd.R_alloc | apply Kd.R_drewN | apply Kd.R_drew)); exact HO_224000.out) hb); have n2_ := aM (Kd.S_lower ho0 (below_size (by repeat (first | (with_reducible first | exact HB.out | apply below_alloc | apply bN | apply bD | refine below_set ?_ GE213.out | refine below_set ?_ GE223.out) | exact HB.out)))); have n3_ := aM (blk_below (g := gb213) (o := .cells #[.slice Ao15 t207.length co15, .int .i64 t210, .bool t211] 33 (0, 0)) (by (with_reducible repeat (first | refine blk_drewN ?_ _ | refine blk_drew ?_ | refine blk_alloc ?_ _)); exact BK213.out) hb); have n4_ := aM (blk_below (g := gb223) (o := .cells #[.slice Ao21 t217.length co21, .int .i64 t220, .bool t221] 33 (0, 0)) (by (with_reducible repeat (first | refine blk_drewN ?_ _ | refine blk_drew ?_ | refine blk_alloc ?_ _)); exact BK223.out) hb); have n5_ := aM (below_step (by repeat (first | (with_reducible first | exact HB.out | apply below_alloc | apply bN | apply bD | refine below_set ?_ GE213.out | refine below_set ?_ GE223.out) | exact HB.out)) hb); clear HO_214000; clear HO_224000; clear BK213; clear BK223; clear HB; have HO_214000 := n0_; have HO_224000 := n1_; have HO236 := n2_; have BK213 := n3_; have BK223 := n4_; have HB := n5_; clear n0_ n1_ n2_ n3_ n4_ n5_; (try clear hb); (try clear hb2); (try clear hk); (try clear hi); (try clear ho0); obtain ⟨Ao73, co73, eo73⟩ := Kd.S_slice HO236.out; subst eo73) | ((with_reducible refine gate_callee (f := 16) rfl ?_); refine goesL_ (some 86) rfl rfl Try.func16 (by kernel_rfl) rfl #[.int .i64 a0, .int .i64 a1, .slice Ao73 t234.length co73] rfl (by (try simp only [mA, mB, mC]); first | done | rfl | (simp only [mE, mD]; rfl)) ?_; (with_reducible refine (impl_RunWorms.calls kj38 a0 a1 _ _ t234 t237 t240 t241 t242 _ ?side1 ?side2 A65.out).mono ?_); (case side1 => repeat (first | exact (Kd.S_reads' HO236.out).2.2 | (with_reducible refine Kd.C_alloc ?_ _) | (with_reducible refine Kd.C_drewN ?_ _) | (with_reducible refine Kd.C_drew ?_))); (case side2 => exact (Kd.S_reads' HO236.out).2.1); rintro e w74 ⟨v238, rfl, ho0, hb⟩; refine ⟨_, rfl, ?_⟩; have n0_ := aM (Kd.R_elder' (by (with_reducible repeat (first | apply Kd.R_alloc | apply Kd.R_drewN | apply Kd.R_drew)); exact HO_214000.out) (Kd.R_base ho0) hb); have n1_ := aM (Kd.R_elder' (by (with_reducible repeat (first | apply Kd.R_alloc | apply Kd.R_drewN | apply Kd.R_drew)); exact HO_224000.out) (Kd.R_base ho0) hb); have n2_ := aM (Kd.S_below (by (with_reducible repeat (first | apply Kd.S_alloc | apply Kd.S_drewN | apply Kd.S_drew)); exact HO236.out) hb); have n3_ := aM (Kd.R_lower (Kd.R_new' (Kd.R_new' ho0 (Kd.R_lt (by (with_reducible repeat (first | apply Kd.R_alloc | apply Kd.R_drewN | apply Kd.R_drew)); exact HO_214000.out))) (Kd.R_lt (by (with_reducible repeat (first | apply Kd.R_alloc | apply Kd.R_drewN | apply Kd.R_drew)); exact HO_224000.out))) (below_size (by repeat (first | (with_reducible first | exact HB.out | apply below_alloc | apply bN | apply bD | refine below_set ?_ GE213.out | refine below_set ?_ GE223.out) | exact HB.out)))); have n4_ := aM (blk_below (g := gb213) (o := .cells #[.slice Ao15 t207.length co15, .int .i64 t210, .bool t211] 33 (0, 0)) (by (with_reducible repeat (first | refine blk_drewN ?_ _ | refine blk_drew ?_ | refine blk_alloc ?_ _)); exact BK213.out) hb); have n5_ := aM (blk_below (g := gb223) (o := .cells #[.slice Ao21 t217.length co21, .int .i64 t220, .bool t221] 33 (0, 0)) (by (with_reducible repeat (first | refine blk_drewN ?_ _ | refine blk_drew ?_ | refine blk_alloc ?_ _)); exact BK223.out) hb); have n6_ := aM (below_step (by repeat (first | (with_reducible first | exact HB.out | apply below_alloc | apply bN | apply bD | refine below_set ?_ GE213.out | refine below_set ?_ GE223.out) | exact HB.out)) hb); clear HO_214000; clear HO_224000; clear HO236; clear BK213; clear BK223; clear HB; have HO_214000 := n0_; have HO_224000 := n1_; have HO236 := n2_; have HO239 := n3_; have BK213 := n4_; have BK223 := n5_; have HB := n6_; clear n0_ n1_ n2_ n3_ n4_ n5_ n6_; (try clear hb); (try clear hb2); (try clear hk); (try clear hi); (try clear ho0)) | ((with_reducible refine gate_dst (N := 16) rfl ?_); refine box_event ?hg (N := 16) ?hd (cs := #[.slice none 0 0, .int .i64 0, .bool false]) (t := 33) ?hr ?_; (case hd => rfl); (case hg => rfl); (case hr => first | (go_simp; done) | (go_simp; rfl)); intro gb243 hg w75 hbox hb; have n0_ := aM (Kd.R_below (by (with_reducible repeat (first | apply Kd.R_alloc | apply Kd.R_drewN | apply Kd.R_drew)); exact HO_214000.out) hb); have n1_ := aM (Kd.R_below (by (with_reducible repeat (first | apply Kd.R_alloc | apply Kd.R_drewN | apply Kd.R_drew)); exact HO_224000.out) hb); have n2_ := aM (Kd.S_below (by (with_reducible repeat (first | apply Kd.S_alloc | apply Kd.S_drewN | apply Kd.S_drew)); exact HO236.out) hb); have n3_ := aM (Kd.R_below (by (with_reducible repeat (first | apply Kd.R_alloc | apply Kd.R_drewN | apply Kd.R_drew)); exact HO239.out) hb); have n4_ := aM (blk_below (g := gb213) (o := .cells #[.slice Ao15 t207.length co15, .int .i64 t210, .bool t211] 33 (0, 0)) (by (with_reducible repeat (first | refine blk_drewN ?_ _ | refine blk_drew ?_ | refine blk_alloc ?_ _)); exact BK213.out) hb); have n5_ := aM (blk_below (g := gb223) (o := .cells #[.slice Ao21 t217.length co21, .int .i64 t220, .bool t221] 33 (0, 0)) (by (with_reducible repeat (first | refine blk_drewN ?_ _ | refine blk_drew ?_ | refine blk_alloc ?_ _)); exact BK223.out) hb); have n6_ := aM (below_step (by repeat (first | (with_reducible first | exact HB.out | apply below_alloc | apply bN | apply bD | refine below_set ?_ GE213.out | refine below_set ?_ GE223.out) | exact HB.out)) hb); have n7_ := aM (hbox); have n8_ := aM ((by rw [hg]; exact (below_size (by repeat (first | (with_reducible first | exact HB.out | apply below_alloc | apply bN | apply bD | refine below_set ?_ GE213.out | refine below_set ?_ GE223.out) | exact HB.out))) : w.heap.size ≤ gb243)); have n9_ := aM ((by rw [hg]; exact (below_size (by repeat (first | (with_reducible first | exact HB.out | apply below_alloc | apply bN | apply bD | refine below_set ?_ GE213.out | refine below_set ?_ GE223.out) | exact HB.out))) : w.heap.size ≤ gb243)); have n10_ := aM ((by rw [hg]; exact Nat.ne_of_lt (blk_lt (g := gb213) (o := .cells #[.slice Ao15 t207.length co15, .int .i64 t210, .bool t211] 33 (0, 0)) (by (with_reducible repeat (first | refine blk_drewN ?_ _ | refine blk_drew ?_ | refine blk_alloc ?_ _)); exact BK213.out)) : gb213 ≠ gb243)); have n11_ := aM ((by rw [hg]; exact Nat.ne_of_gt (blk_lt (g := gb213) (o := .cells #[.slice Ao15 t207.length co15, .int .i64 t210, .bool t211] 33 (0, 0)) (by (with_reducible repeat (first | refine blk_drewN ?_ _ | refine blk_drew ?_ | refine blk_alloc ?_ _)); exact BK213.out)) : gb243 ≠ gb213)); have n12_ := aM ((by rw [hg]; exact Nat.ne_of_lt (blk_lt (g := gb223) (o := .cells #[.slice Ao21 t217.length co21, .int .i64 t220, .bool t221] 33 (0, 0)) (by (with_reducible repeat (first | refine blk_drewN ?_ _ | refine blk_drew ?_ | refine blk_alloc ?_ _)); exact BK223.out)) : gb223 ≠ gb243)); have n13_ := aM ((by rw [hg]; exact Nat.ne_of_gt (blk_lt (g := gb223) (o := .cells #[.slice Ao21 t217.length co21, .int .i64 t220, .bool t221] 33 (0, 0)) (by (with_reducible repeat (first | refine blk_drewN ?_ _ | refine blk_drew ?_ | refine blk_alloc ?_ _)); exact BK223.out)) : gb243 ≠ gb223)); clear HO_214000; clear HO_224000; clear HO236; clear HO239; clear BK213; clear BK223; clear HB; have HO_214000 := n0_; have HO_224000 := n1_; have HO236 := n2_; have HO239 := n3_; have BK213 := n4_; have BK223 := n5_; have HB := n6_; have BK243 := n7_; have GW243 := n8_; have GE243 := n9_; have NB213_243 := n10_; have NB243_213 := n11_; have NB223_243 := n12_; have NB243_223 := n13_; clear n0_ n1_ n2_ n3_ n4_ n5_ n6_ n7_ n8_ n9_ n10_ n11_ n12_ n13_; clear hb hbox hg; obtain ⟨Ao76, co76, eo76⟩ := Kd.R_slice HO239.out; subst eo76; have hnb77 := NB243_213.out; have hnc77 := NB213_243.out; have hnb78 := NB243_223.out; have hnc78 := NB223_243.out; have hcz79_0 : w75.cell? ⟨gb243, 0, none⟩ = some (.slice none 0 0) := (blk_cell BK243.out 0).trans rfl; have hcz79_1 : w75.cell? ⟨gb243, 1, none⟩ = some (.int .i64 0) := (blk_cell BK243.out 1).trans rfl; have hcz79_2 : w75.cell? ⟨gb243, 2, none⟩ = some (.bool false) := (blk_cell BK243.out 2).trans rfl; have hfz79_0 := blk_frozen BK243.out 0; have hfz79_1 := blk_frozen BK243.out 1; have hfz79_2 := blk_frozen BK243.out 2))
           (try simp only [Act.put, sA, sB, sC])
           go_cut [97] (fun v97 wc => ∃ (kq : Nat) (x97_65 : Bool), v97 = .bool x97_65 ∧ Aside0 (laws_FnExactRunWorms.j2 kq t231 x97_65 t232 t220 t221 = some r) ∧ Aside0 (kq ≤ kj38) ∧ Aside0 (Kd.R Kd.bool 4 wc w.heap.size (fun k_ => some k_ ≠ ((.slice Ao21 t217.length co21) : Value).ownBlock ∧ some k_ ≠ ((.slice Ao76 t237.length co76) : Value).ownBlock) (.slice Ao15 t207.length co15) t207) ∧ Aside0 (Kd.R Kd.bool 4 wc w.heap.size (fun k_ => some k_ ≠ ((.slice Ao15 t207.length co15) : Value).ownBlock ∧ some k_ ≠ ((.slice Ao76 t237.length co76) : Value).ownBlock) (.slice Ao21 t217.length co21) t232) ∧ Aside0 (Kd.R Kd.bool 4 wc w.heap.size (fun k_ => some k_ ≠ ((.slice Ao15 t207.length co15) : Value).ownBlock ∧ some k_ ≠ ((.slice Ao21 t217.length co21) : Value).ownBlock) (.slice Ao76 t237.length co76) t237) ∧ Aside0 (wc.heap[gb213]? = some (.cells #[(.slice Ao15 t207.length co15), .int .i64 t210, .bool t211] 33 (0, 0))) ∧ Aside0 (wc.heap[gb223]? = some (.cells #[(.slice Ao21 t217.length co21), .int .i64 t220, .bool t221] 33 (0, 0))) ∧ Aside0 (wc.heap[gb243]? = some (.cells #[(.slice Ao76 t237.length co76), .int .i64 t240, .bool t241] 33 (0, 0))) ∧ Aside0 (Below w.heap.size w wc))
           case first =>
            have H := HC66.out
            clear HC66
            replace H := bE H
            obtain ⟨t244, A800, H⟩ := H
            replace H : (if t244 = true then (laws_FnExactRunWorms.j2 kj38 t231 (t242 != t212) t232 t220 t221) else (laws_FnExactRunWorms.j2 kj38 t231 true t232 t220 t221)) = some r := H
            have A80 := aM A800
            clear A800
            by_cases c81 : t244 = true
            ·
             subst c81
             have H1 : (laws_FnExactRunWorms.j2 kj38 t231 (t242 != t212) t232 t220 t221) = some r := by rw [if_pos rfl] at H; exact H
             clear H
             have H := H1
             clear H1
             have H' := aM H
             clear H
             have hnb82 := NB243_213.out
             have hnc82 := NB213_243.out
             have hnb83 := NB243_223.out
             have hnc83 := NB223_243.out
             have hcz84_0 : w75.cell? ⟨gb243, 0, none⟩ = some (.slice none 0 0) := (blk_cell BK243.out 0).trans rfl
             have hcz84_1 : w75.cell? ⟨gb243, 1, none⟩ = some (.int .i64 0) := (blk_cell BK243.out 1).trans rfl
             have hcz84_2 : w75.cell? ⟨gb243, 2, none⟩ = some (.bool false) := (blk_cell BK243.out 2).trans rfl
             have hfz84_0 := blk_frozen BK243.out 0
             have hfz84_1 := blk_frozen BK243.out 1
             have hfz84_2 := blk_frozen BK243.out 2
             have hnb85 := NB213_223.out
             have hnc85 := NB223_213.out
             have hcz86_0 : w75.cell? ⟨gb213, 0, none⟩ = some (.slice Ao15 t207.length co15) := (blk_cell BK213.out 0).trans rfl
             have hcz86_1 : w75.cell? ⟨gb213, 1, none⟩ = some (.int .i64 t210) := (blk_cell BK213.out 1).trans rfl
             have hcz86_2 : w75.cell? ⟨gb213, 2, none⟩ = some (.bool t211) := (blk_cell BK213.out 2).trans rfl
             have hfz86_0 := blk_frozen BK213.out 0
             have hfz86_1 := blk_frozen BK213.out 1
             have hfz86_2 := blk_frozen BK213.out 2
             go_wp2_with (first | ((with_reducible refine gate_callee (f := 26) rfl ?_); refine goesL_ (some 91) rfl rfl Try.func26 (by kernel_rfl) rfl #[.agg #[.slice Ao76 t237.length co76, .int .i64 t240, .bool t241], .agg #[.slice Ao15 t207.length co15, .int .i64 t210, .bool t211]] rfl (by (try simp only [mA, mB, mC]); first | done | rfl | (simp only [mE, mD]; rfl)) ?_; (with_reducible refine (laws_eqWormRun.calls kj38 _ _ t237 t240 t241 _ _ t207 t210 t211 true _ ?side1 ?side2 ?side3 ?side4 A80.out).mono ?_); (case side1 => refine (Kd.R_reads' (e := 4) (base := w.heap.size) (ok := fun k_ => ((True ∧ some k_ ≠ (.slice Ao15 t207.length co15 : Value).ownBlock) ∧ some k_ ≠ (.slice Ao21 t217.length co21 : Value).ownBlock)) (n := t237.length) (c := co76) ?_).2.2; exact (by (with_reducible repeat (first | apply Kd.R_alloc | apply Kd.R_drewN | apply Kd.R_drew)); exact (Kd.R_mono (Kd.R_far (p := ⟨gb243, 2, none⟩) (Kd.R_far (p := ⟨gb243, 1, none⟩) (Kd.R_far (p := ⟨gb243, 0, none⟩) (Kd.R_types HO239.out BK243.out (by decide)) (fun _ hk => hk.2) (.slice Ao76 t237.length co76)) (fun _ hk => hk.2) (.int .i64 t240)) (fun _ hk => hk.2) (.bool t241)) (fun _ h_ => h_.1)))); (case side2 => exact (Kd.R_reads' HO239.out).2.1); (case side3 => refine (Kd.R_reads' (e := 4) (base := w.heap.size) (ok := fun k_ => (some k_ ≠ (.slice Ao21 t217.length co21 : Value).ownBlock ∧ some k_ ≠ (.slice Ao76 t237.length co76 : Value).ownBlock)) (n := t207.length) (c := co15) ?_).2.2; exact (by (with_reducible repeat (first | apply Kd.R_alloc | apply Kd.R_drewN | apply Kd.R_drew)); exact (Kd.R_mono (Kd.R_far (p := ⟨gb243, 2, none⟩) (Kd.R_far (p := ⟨gb243, 1, none⟩) (Kd.R_far (p := ⟨gb243, 0, none⟩) (Kd.R_types HO_214000.out BK243.out (by decide)) (fun _ hk => hk.2) (.slice Ao76 t237.length co76)) (fun _ hk => hk.2) (.int .i64 t240)) (fun _ hk => hk.2) (.bool t241)) (fun _ h_ => h_.1)))); (case side4 => exact (Kd.R_reads' HO_214000.out).2.1); rintro e w87 ⟨rfl, hb⟩; refine ⟨_, rfl, ?_⟩; have n0_ := aM (Kd.R_below (by (with_reducible repeat (first | apply Kd.R_alloc | apply Kd.R_drewN | apply Kd.R_drew)); exact (Kd.R_mono (Kd.R_far (p := ⟨gb243, 2, none⟩) (Kd.R_far (p := ⟨gb243, 1, none⟩) (Kd.R_far (p := ⟨gb243, 0, none⟩) (Kd.R_types HO_214000.out BK243.out (by decide)) (fun _ hk => hk.2) (.slice Ao76 t237.length co76)) (fun _ hk => hk.2) (.int .i64 t240)) (fun _ hk => hk.2) (.bool t241)) (fun _ h_ => h_.1))) hb); have n1_ := aM (Kd.R_below (by (with_reducible repeat (first | apply Kd.R_alloc | apply Kd.R_drewN | apply Kd.R_drew)); exact (Kd.R_mono (Kd.R_far (p := ⟨gb243, 2, none⟩) (Kd.R_far (p := ⟨gb243, 1, none⟩) (Kd.R_far (p := ⟨gb243, 0, none⟩) (Kd.R_types HO_224000.out BK243.out (by decide)) (fun _ hk => hk.2) (.slice Ao76 t237.length co76)) (fun _ hk => hk.2) (.int .i64 t240)) (fun _ hk => hk.2) (.bool t241)) (fun _ h_ => h_.1))) hb); have n2_ := aM (Kd.S_below (by (with_reducible repeat (first | apply Kd.S_alloc | apply Kd.S_drewN | apply Kd.S_drew)); exact (Kd.S_mono (Kd.S_far (p := ⟨gb243, 2, none⟩) (Kd.S_far (p := ⟨gb243, 1, none⟩) (Kd.S_far (p := ⟨gb243, 0, none⟩) (Kd.S_types HO236.out BK243.out (by decide)) (fun _ hk => hk.2) (.slice Ao76 t237.length co76)) (fun _ hk => hk.2) (.int .i64 t240)) (fun _ hk => hk.2) (.bool t241)) (fun _ h_ => h_.1))) hb); have n3_ := aM (Kd.R_below (by (with_reducible repeat (first | apply Kd.R_alloc | apply Kd.R_drewN | apply Kd.R_drew)); exact (Kd.R_mono (Kd.R_far (p := ⟨gb243, 2, none⟩) (Kd.R_far (p := ⟨gb243, 1, none⟩) (Kd.R_far (p := ⟨gb243, 0, none⟩) (Kd.R_types HO239.out BK243.out (by decide)) (fun _ hk => hk.2) (.slice Ao76 t237.length co76)) (fun _ hk => hk.2) (.int .i64 t240)) (fun _ hk => hk.2) (.bool t241)) (fun _ h_ => h_.1))) hb); have n4_ := aM (blk_below (g := gb213) (o := .cells #[.slice Ao15 t207.length co15, .int .i64 t210, .bool t211] 33 (0, 0)) (by (with_reducible repeat (first | refine blk_drewN ?_ _ | refine blk_drew ?_ | refine blk_alloc ?_ _)); refine blk_far ?_ NB213_243.out _; (with_reducible repeat (first | refine blk_drewN ?_ _ | refine blk_drew ?_ | refine blk_alloc ?_ _)); refine blk_far ?_ NB213_243.out _; (with_reducible repeat (first | refine blk_drewN ?_ _ | refine blk_drew ?_ | refine blk_alloc ?_ _)); refine blk_far ?_ NB213_243.out _; (with_reducible repeat (first | refine blk_drewN ?_ _ | refine blk_drew ?_ | refine blk_alloc ?_ _)); exact BK213.out) hb); have n5_ := aM (blk_below (g := gb223) (o := .cells #[.slice Ao21 t217.length co21, .int .i64 t220, .bool t221] 33 (0, 0)) (by (with_reducible repeat (first | refine blk_drewN ?_ _ | refine blk_drew ?_ | refine blk_alloc ?_ _)); refine blk_far ?_ NB223_243.out _; (with_reducible repeat (first | refine blk_drewN ?_ _ | refine blk_drew ?_ | refine blk_alloc ?_ _)); refine blk_far ?_ NB223_243.out _; (with_reducible repeat (first | refine blk_drewN ?_ _ | refine blk_drew ?_ | refine blk_alloc ?_ _)); refine blk_far ?_ NB223_243.out _; (with_reducible repeat (first | refine blk_drewN ?_ _ | refine blk_drew ?_ | refine blk_alloc ?_ _)); exact BK223.out) hb); have n6_ := aM (blk_below (g := gb243) (o := .cells #[.slice Ao76 t237.length co76, .int .i64 t240, .bool t241] 33 (0, 0)) (by (with_reducible repeat (first | refine blk_drewN ?_ _ | refine blk_drew ?_ | refine blk_alloc ?_ _)); refine blk_put (cs := #[.slice Ao76 t237.length co76, .int .i64 t240, .bool false]) ?_ 2 _ rfl; (with_reducible repeat (first | refine blk_drewN ?_ _ | refine blk_drew ?_ | refine blk_alloc ?_ _)); refine blk_put (cs := #[.slice Ao76 t237.length co76, .int .i64 0, .bool false]) ?_ 1 _ rfl; (with_reducible repeat (first | refine blk_drewN ?_ _ | refine blk_drew ?_ | refine blk_alloc ?_ _)); refine blk_put (cs := #[.slice none 0 0, .int .i64 0, .bool false]) ?_ 0 _ rfl; (with_reducible repeat (first | refine blk_drewN ?_ _ | refine blk_drew ?_ | refine blk_alloc ?_ _)); exact BK243.out) hb); have n7_ := aM (below_step (by repeat (first | (with_reducible first | exact HB.out | apply below_alloc | apply bN | apply bD | refine below_set ?_ GE213.out | refine below_set ?_ GE223.out | refine below_set ?_ GE243.out) | exact HB.out)) hb); clear HO_214000; clear HO_224000; clear HO236; clear HO239; clear BK213; clear BK223; clear BK243; clear HB; have HO_214000 := n0_; have HO_224000 := n1_; have HO236 := n2_; have HO239 := n3_; have BK213 := n4_; have BK223 := n5_; have BK243 := n6_; have HB := n7_; clear n0_ n1_ n2_ n3_ n4_ n5_ n6_ n7_; (try clear hb); (try clear hb2); (try clear hk); (try clear hi)))
             go_meet
             case rel => exact ⟨_, ((t242 != t212)), (by first | rfl | (simp; done) | (simp [*]; done)), H', ⟨by have := HJ9.out; have := HJ38.out; first | omega | exact Nat.le_refl _⟩, ⟨by (with_reducible repeat (first | apply Kd.R_alloc | apply Kd.R_drewN | apply Kd.R_drew)); exact HO_214000.out⟩, ⟨by (with_reducible repeat (first | apply Kd.R_alloc | apply Kd.R_drewN | apply Kd.R_drew)); exact HO_224000.out⟩, ⟨by (with_reducible repeat (first | apply Kd.R_alloc | apply Kd.R_drewN | apply Kd.R_drew)); exact Kd.R_mono HO239.out (fun _ hk => by first | exact ⟨hk.1.2, hk.2⟩ | (have hz_ := hk; (try simp only [and_assoc, true_and] at hz_); refine ⟨?_, ?_⟩ <;> first | exact hz_.1 | exact hz_.2.1 | exact hz_.2.2.1 | exact hz_.2.2.2.1 | exact hz_.2.2.2.2.1 | exact hz_.2.2.2.2 | exact hz_.2.2.2 | exact hz_.2.2 | exact hz_.2))⟩, ⟨by (with_reducible repeat (first | refine blk_drewN ?_ _ | refine blk_drew ?_ | refine blk_alloc ?_ _)); exact BK213.out⟩, ⟨by (with_reducible repeat (first | refine blk_drewN ?_ _ | refine blk_drew ?_ | refine blk_alloc ?_ _)); exact BK223.out⟩, ⟨by (with_reducible repeat (first | refine blk_drewN ?_ _ | refine blk_drew ?_ | refine blk_alloc ?_ _)); exact BK243.out⟩, ⟨by repeat (first | (with_reducible first | exact HB.out | apply below_alloc | apply bN | apply bD | refine below_set ?_ GE213.out | refine below_set ?_ GE223.out | refine below_set ?_ GE243.out) | exact HB.out)⟩⟩
            ·
             replace c81 := Bool.eq_false_iff.mpr c81
             subst c81
             have H1 : (laws_FnExactRunWorms.j2 kj38 t231 true t232 t220 t221) = some r := by rw [if_neg (show ¬ (false = true) by decide)] at H; exact H
             clear H
             have H := H1
             clear H1
             have H' := aM H
             clear H
             have hnb88 := NB243_213.out
             have hnc88 := NB213_243.out
             have hnb89 := NB243_223.out
             have hnc89 := NB223_243.out
             have hcz90_0 : w75.cell? ⟨gb243, 0, none⟩ = some (.slice none 0 0) := (blk_cell BK243.out 0).trans rfl
             have hcz90_1 : w75.cell? ⟨gb243, 1, none⟩ = some (.int .i64 0) := (blk_cell BK243.out 1).trans rfl
             have hcz90_2 : w75.cell? ⟨gb243, 2, none⟩ = some (.bool false) := (blk_cell BK243.out 2).trans rfl
             have hfz90_0 := blk_frozen BK243.out 0
             have hfz90_1 := blk_frozen BK243.out 1
             have hfz90_2 := blk_frozen BK243.out 2
             have hnb91 := NB213_223.out
             have hnc91 := NB223_213.out
             have hcz92_0 : w75.cell? ⟨gb213, 0, none⟩ = some (.slice Ao15 t207.length co15) := (blk_cell BK213.out 0).trans rfl
             have hcz92_1 : w75.cell? ⟨gb213, 1, none⟩ = some (.int .i64 t210) := (blk_cell BK213.out 1).trans rfl
             have hcz92_2 : w75.cell? ⟨gb213, 2, none⟩ = some (.bool t211) := (blk_cell BK213.out 2).trans rfl
             have hfz92_0 := blk_frozen BK213.out 0
             have hfz92_1 := blk_frozen BK213.out 1
             have hfz92_2 := blk_frozen BK213.out 2
             go_wp2_with (first | ((with_reducible refine gate_callee (f := 26) rfl ?_); refine goesL_ (some 91) rfl rfl Try.func26 (by kernel_rfl) rfl #[.agg #[.slice Ao76 t237.length co76, .int .i64 t240, .bool t241], .agg #[.slice Ao15 t207.length co15, .int .i64 t210, .bool t211]] rfl (by (try simp only [mA, mB, mC]); first | done | rfl | (simp only [mE, mD]; rfl)) ?_; (with_reducible refine (laws_eqWormRun.calls kj38 _ _ t237 t240 t241 _ _ t207 t210 t211 false _ ?side1 ?side2 ?side3 ?side4 A80.out).mono ?_); (case side1 => refine (Kd.R_reads' (e := 4) (base := w.heap.size) (ok := fun k_ => ((True ∧ some k_ ≠ (.slice Ao15 t207.length co15 : Value).ownBlock) ∧ some k_ ≠ (.slice Ao21 t217.length co21 : Value).ownBlock)) (n := t237.length) (c := co76) ?_).2.2; exact (by (with_reducible repeat (first | apply Kd.R_alloc | apply Kd.R_drewN | apply Kd.R_drew)); exact (Kd.R_mono (Kd.R_far (p := ⟨gb243, 2, none⟩) (Kd.R_far (p := ⟨gb243, 1, none⟩) (Kd.R_far (p := ⟨gb243, 0, none⟩) (Kd.R_types HO239.out BK243.out (by decide)) (fun _ hk => hk.2) (.slice Ao76 t237.length co76)) (fun _ hk => hk.2) (.int .i64 t240)) (fun _ hk => hk.2) (.bool t241)) (fun _ h_ => h_.1)))); (case side2 => exact (Kd.R_reads' HO239.out).2.1); (case side3 => refine (Kd.R_reads' (e := 4) (base := w.heap.size) (ok := fun k_ => (some k_ ≠ (.slice Ao21 t217.length co21 : Value).ownBlock ∧ some k_ ≠ (.slice Ao76 t237.length co76 : Value).ownBlock)) (n := t207.length) (c := co15) ?_).2.2; exact (by (with_reducible repeat (first | apply Kd.R_alloc | apply Kd.R_drewN | apply Kd.R_drew)); exact (Kd.R_mono (Kd.R_far (p := ⟨gb243, 2, none⟩) (Kd.R_far (p := ⟨gb243, 1, none⟩) (Kd.R_far (p := ⟨gb243, 0, none⟩) (Kd.R_types HO_214000.out BK243.out (by decide)) (fun _ hk => hk.2) (.slice Ao76 t237.length co76)) (fun _ hk => hk.2) (.int .i64 t240)) (fun _ hk => hk.2) (.bool t241)) (fun _ h_ => h_.1)))); (case side4 => exact (Kd.R_reads' HO_214000.out).2.1); rintro e w93 ⟨rfl, hb⟩; refine ⟨_, rfl, ?_⟩; have n0_ := aM (Kd.R_below (by (with_reducible repeat (first | apply Kd.R_alloc | apply Kd.R_drewN | apply Kd.R_drew)); exact (Kd.R_mono (Kd.R_far (p := ⟨gb243, 2, none⟩) (Kd.R_far (p := ⟨gb243, 1, none⟩) (Kd.R_far (p := ⟨gb243, 0, none⟩) (Kd.R_types HO_214000.out BK243.out (by decide)) (fun _ hk => hk.2) (.slice Ao76 t237.length co76)) (fun _ hk => hk.2) (.int .i64 t240)) (fun _ hk => hk.2) (.bool t241)) (fun _ h_ => h_.1))) hb); have n1_ := aM (Kd.R_below (by (with_reducible repeat (first | apply Kd.R_alloc | apply Kd.R_drewN | apply Kd.R_drew)); exact (Kd.R_mono (Kd.R_far (p := ⟨gb243, 2, none⟩) (Kd.R_far (p := ⟨gb243, 1, none⟩) (Kd.R_far (p := ⟨gb243, 0, none⟩) (Kd.R_types HO_224000.out BK243.out (by decide)) (fun _ hk => hk.2) (.slice Ao76 t237.length co76)) (fun _ hk => hk.2) (.int .i64 t240)) (fun _ hk => hk.2) (.bool t241)) (fun _ h_ => h_.1))) hb); have n2_ := aM (Kd.S_below (by (with_reducible repeat (first | apply Kd.S_alloc | apply Kd.S_drewN | apply Kd.S_drew)); exact (Kd.S_mono (Kd.S_far (p := ⟨gb243, 2, none⟩) (Kd.S_far (p := ⟨gb243, 1, none⟩) (Kd.S_far (p := ⟨gb243, 0, none⟩) (Kd.S_types HO236.out BK243.out (by decide)) (fun _ hk => hk.2) (.slice Ao76 t237.length co76)) (fun _ hk => hk.2) (.int .i64 t240)) (fun _ hk => hk.2) (.bool t241)) (fun _ h_ => h_.1))) hb); have n3_ := aM (Kd.R_below (by (with_reducible repeat (first | apply Kd.R_alloc | apply Kd.R_drewN | apply Kd.R_drew)); exact (Kd.R_mono (Kd.R_far (p := ⟨gb243, 2, none⟩) (Kd.R_far (p := ⟨gb243, 1, none⟩) (Kd.R_far (p := ⟨gb243, 0, none⟩) (Kd.R_types HO239.out BK243.out (by decide)) (fun _ hk => hk.2) (.slice Ao76 t237.length co76)) (fun _ hk => hk.2) (.int .i64 t240)) (fun _ hk => hk.2) (.bool t241)) (fun _ h_ => h_.1))) hb); have n4_ := aM (blk_below (g := gb213) (o := .cells #[.slice Ao15 t207.length co15, .int .i64 t210, .bool t211] 33 (0, 0)) (by (with_reducible repeat (first | refine blk_drewN ?_ _ | refine blk_drew ?_ | refine blk_alloc ?_ _)); refine blk_far ?_ NB213_243.out _; (with_reducible repeat (first | refine blk_drewN ?_ _ | refine blk_drew ?_ | refine blk_alloc ?_ _)); refine blk_far ?_ NB213_243.out _; (with_reducible repeat (first | refine blk_drewN ?_ _ | refine blk_drew ?_ | refine blk_alloc ?_ _)); refine blk_far ?_ NB213_243.out _; (with_reducible repeat (first | refine blk_drewN ?_ _ | refine blk_drew ?_ | refine blk_alloc ?_ _)); exact BK213.out) hb); have n5_ := aM (blk_below (g := gb223) (o := .cells #[.slice Ao21 t217.length co21, .int .i64 t220, .bool t221] 33 (0, 0)) (by (with_reducible repeat (first | refine blk_drewN ?_ _ | refine blk_drew ?_ | refine blk_alloc ?_ _)); refine blk_far ?_ NB223_243.out _; (with_reducible repeat (first | refine blk_drewN ?_ _ | refine blk_drew ?_ | refine blk_alloc ?_ _)); refine blk_far ?_ NB223_243.out _; (with_reducible repeat (first | refine blk_drewN ?_ _ | refine blk_drew ?_ | refine blk_alloc ?_ _)); refine blk_far ?_ NB223_243.out _; (with_reducible repeat (first | refine blk_drewN ?_ _ | refine blk_drew ?_ | refine blk_alloc ?_ _)); exact BK223.out) hb); have n6_ := aM (blk_below (g := gb243) (o := .cells #[.slice Ao76 t237.length co76, .int .i64 t240, .bool t241] 33 (0, 0)) (by (with_reducible repeat (first | refine blk_drewN ?_ _ | refine blk_drew ?_ | refine blk_alloc ?_ _)); refine blk_put (cs := #[.slice Ao76 t237.length co76, .int .i64 t240, .bool false]) ?_ 2 _ rfl; (with_reducible repeat (first | refine blk_drewN ?_ _ | refine blk_drew ?_ | refine blk_alloc ?_ _)); refine blk_put (cs := #[.slice Ao76 t237.length co76, .int .i64 0, .bool false]) ?_ 1 _ rfl; (with_reducible repeat (first | refine blk_drewN ?_ _ | refine blk_drew ?_ | refine blk_alloc ?_ _)); refine blk_put (cs := #[.slice none 0 0, .int .i64 0, .bool false]) ?_ 0 _ rfl; (with_reducible repeat (first | refine blk_drewN ?_ _ | refine blk_drew ?_ | refine blk_alloc ?_ _)); exact BK243.out) hb); have n7_ := aM (below_step (by repeat (first | (with_reducible first | exact HB.out | apply below_alloc | apply bN | apply bD | refine below_set ?_ GE213.out | refine below_set ?_ GE223.out | refine below_set ?_ GE243.out) | exact HB.out)) hb); clear HO_214000; clear HO_224000; clear HO236; clear HO239; clear BK213; clear BK223; clear BK243; clear HB; have HO_214000 := n0_; have HO_224000 := n1_; have HO236 := n2_; have HO239 := n3_; have BK213 := n4_; have BK223 := n5_; have BK243 := n6_; have HB := n7_; clear n0_ n1_ n2_ n3_ n4_ n5_ n6_ n7_; (try clear hb); (try clear hb2); (try clear hk); (try clear hi)))
             go_meet
             case rel => exact ⟨_, (true), (by first | rfl | (simp; done) | (simp [*]; done)), H', ⟨by have := HJ9.out; have := HJ38.out; first | omega | exact Nat.le_refl _⟩, ⟨by (with_reducible repeat (first | apply Kd.R_alloc | apply Kd.R_drewN | apply Kd.R_drew)); exact HO_214000.out⟩, ⟨by (with_reducible repeat (first | apply Kd.R_alloc | apply Kd.R_drewN | apply Kd.R_drew)); exact HO_224000.out⟩, ⟨by (with_reducible repeat (first | apply Kd.R_alloc | apply Kd.R_drewN | apply Kd.R_drew)); exact Kd.R_mono HO239.out (fun _ hk => by first | exact ⟨hk.1.2, hk.2⟩ | (have hz_ := hk; (try simp only [and_assoc, true_and] at hz_); refine ⟨?_, ?_⟩ <;> first | exact hz_.1 | exact hz_.2.1 | exact hz_.2.2.1 | exact hz_.2.2.2.1 | exact hz_.2.2.2.2.1 | exact hz_.2.2.2.2 | exact hz_.2.2.2 | exact hz_.2.2 | exact hz_.2))⟩, ⟨by (with_reducible repeat (first | refine blk_drewN ?_ _ | refine blk_drew ?_ | refine blk_alloc ?_ _)); exact BK213.out⟩, ⟨by (with_reducible repeat (first | refine blk_drewN ?_ _ | refine blk_drew ?_ | refine blk_alloc ?_ _)); exact BK223.out⟩, ⟨by (with_reducible repeat (first | refine blk_drewN ?_ _ | refine blk_drew ?_ | refine blk_alloc ?_ _)); exact BK243.out⟩, ⟨by repeat (first | (with_reducible first | exact HB.out | apply below_alloc | apply bN | apply bD | refine below_set ?_ GE213.out | refine below_set ?_ GE223.out | refine below_set ?_ GE243.out) | exact HB.out)⟩⟩
           case rest =>
            clear HC66
            try clear c1
            try clear c2
            try clear p2
            try clear c3
            try clear c4
            try clear c5
            try clear c5b0
            try clear c6
            try clear c7
            try clear c8
            try clear c9
            try clear c16
            try clear c17
            try clear c22
            try clear c24
            try clear c25
            try clear c26
            try clear c27
            try clear c28
            try clear c29
            try clear c30
            try clear c34
            try clear c37
            try clear c43
            try clear c43b0
            try clear c45
            try clear c46
            try clear c50
            try clear c54
            try clear c57
            try clear c57b0
            try clear c58
            try clear c63
            try clear c63b0
            try clear c63b1
            try clear c67
            try clear c77
            try clear c78
            try clear c81
            try clear c82
            try clear c83
            try clear c85
            try clear c88
            try clear c89
            try clear c91
            try clear hcz16_0
            try clear hcz16_1
            try clear hcz16_2
            try clear hcz23_0
            try clear hcz23_1
            try clear hcz23_2
            try clear hcz27_0
            try clear hcz27_1
            try clear hcz27_2
            try clear hcz28_0
            try clear hcz28_1
            try clear hcz28_2
            try clear hcz31_0
            try clear hcz31_1
            try clear hcz31_2
            try clear hcz32_0
            try clear hcz32_1
            try clear hcz32_2
            try clear hcz47_0
            try clear hcz47_1
            try clear hcz47_2
            try clear hcz48_0
            try clear hcz48_1
            try clear hcz48_2
            try clear hcz51_0
            try clear hcz51_1
            try clear hcz51_2
            try clear hcz52_0
            try clear hcz52_1
            try clear hcz52_2
            try clear hcz59_0
            try clear hcz59_1
            try clear hcz59_2
            try clear hcz61_0
            try clear hcz61_1
            try clear hcz61_2
            try clear hcz68_0
            try clear hcz68_1
            try clear hcz68_2
            try clear hcz70_0
            try clear hcz70_1
            try clear hcz70_2
            try clear hcz79_0
            try clear hcz79_1
            try clear hcz79_2
            try clear hcz84_0
            try clear hcz84_1
            try clear hcz84_2
            try clear hcz86_0
            try clear hcz86_1
            try clear hcz86_2
            try clear hcz90_0
            try clear hcz90_1
            try clear hcz90_2
            try clear hcz92_0
            try clear hcz92_1
            try clear hcz92_2
            try clear hfz16_0
            try clear hfz16_1
            try clear hfz16_2
            try clear hfz23_0
            try clear hfz23_1
            try clear hfz23_2
            try clear hfz27_0
            try clear hfz27_1
            try clear hfz27_2
            try clear hfz28_0
            try clear hfz28_1
            try clear hfz28_2
            try clear hfz31_0
            try clear hfz31_1
            try clear hfz31_2
            try clear hfz32_0
            try clear hfz32_1
            try clear hfz32_2
            try clear hfz47_0
            try clear hfz47_1
            try clear hfz47_2
            try clear hfz48_0
            try clear hfz48_1
            try clear hfz48_2
            try clear hfz51_0
            try clear hfz51_1
            try clear hfz51_2
            try clear hfz52_0
            try clear hfz52_1
            try clear hfz52_2
            try clear hfz59_0
            try clear hfz59_1
            try clear hfz59_2
            try clear hfz61_0
            try clear hfz61_1
            try clear hfz61_2
            try clear hfz68_0
            try clear hfz68_1
            try clear hfz68_2
            try clear hfz70_0
            try clear hfz70_1
            try clear hfz70_2
            try clear hfz79_0
            try clear hfz79_1
            try clear hfz79_2
            try clear hfz84_0
            try clear hfz84_1
            try clear hfz84_2
            try clear hfz86_0
            try clear hfz86_1
            try clear hfz86_2
            try clear hfz90_0
            try clear hfz90_1
            try clear hfz90_2
            try clear hfz92_0
            try clear hfz92_1
            try clear hfz92_2
            try clear p2
            obtain ⟨kq, x97_65, rfl, HA, HJ65, HO_214000, HO_224000, HO_244000, BK213, BK223, BK243, HB⟩ := hcut
            have hl224000_65 := (Kd.R_reads' HO_224000.out).1
            rw [hl224000_65] at HO_224000
            (try simp only [hl224000_65])
            (try simp only [hl224000_65] at BK213)
            (try simp only [hl224000_65] at BK223)
            (try simp only [hl224000_65] at BK243)
            (try simp only [hl224000_65] at HO_214000)
            (try simp only [hl224000_65] at HO_244000)
            cases kq with
            | zero => exact absurd HA.out (by simp [laws_FnExactRunWorms.j2])
            | succ kj65 =>
             have H := HA.out
             clear HA
             simp only [laws_FnExactRunWorms.j2] at H
             by_cases c94 : x97_65 = true
             ·
              subst c94
              have H1 : (some false) = some r := by rw [if_pos rfl] at H; exact H
              clear H
              have H := H1
              clear H1
              obtain rfl := Option.some.inj H
              go_wp2
              go_ret
              exact ⟨by first | rfl | (simp [*] <;> rfl) | (exfalso; simp_all; done), by repeat (first | (with_reducible first | exact HB.out | apply below_alloc | apply bN | apply bD | refine below_set ?_ GE213.out | refine below_set ?_ GE223.out | refine below_set ?_ GE243.out) | exact HB.out)⟩
             ·
              replace c94 := Bool.eq_false_iff.mpr c94
              subst c94
              have H1 : ((laws_heldWormRun.f kj65 t232 t220 t221 1).bind fun t245 => (if t245 < 0 then (some false) else (if t245 = t231 then (some true) else (some false)))) = some r := by rw [if_neg (show ¬ (false = true) by decide)] at H; exact H
              clear H
              have H := H1
              clear H1
              replace H := bE H
              obtain ⟨t245, A950, H⟩ := H
              replace H : (if t245 < 0 then (some false) else (if t245 = t231 then (some true) else (some false))) = some r := H
              have A95 := aM A950
              clear A950
              by_cases c96 : t245 < 0
              ·
               rw [if_pos c96] at H
               have c96b0 : decide (t245 < 0) = true := decide_eq_true c96
               clear c96
               obtain rfl := Option.some.inj H
               have hnb97 := NB223_213.out
               have hnc97 := NB213_223.out
               have hnb98 := NB223_243.out
               have hnc98 := NB243_223.out
               have hcz99_0 : wc.cell? ⟨gb223, 0, none⟩ = some (.slice Ao21 t232.length co21) := (blk_cell BK223.out 0).trans rfl
               have hcz99_1 : wc.cell? ⟨gb223, 1, none⟩ = some (.int .i64 t220) := (blk_cell BK223.out 1).trans rfl
               have hcz99_2 : wc.cell? ⟨gb223, 2, none⟩ = some (.bool t221) := (blk_cell BK223.out 2).trans rfl
               have hfz99_0 := blk_frozen BK223.out 0
               have hfz99_1 := blk_frozen BK223.out 1
               have hfz99_2 := blk_frozen BK223.out 2
               go_wp2_with (first | ((with_reducible refine gate_callee (f := 30) rfl ?_); refine goesL_ (some 100) rfl rfl Try.func30 (by kernel_rfl) rfl #[.agg #[.slice Ao21 t232.length co21, .int .i64 t220, .bool t221], .int .i64 1] rfl (by (try simp only [mA, mB, mC]); first | done | rfl | (simp only [mE, mD]; rfl)) ?_; (with_reducible refine (laws_heldWormRun.calls kj65 _ _ t232 t220 t221 1 t245 _ ?side1 ?side2 A95.out).mono ?_); (case side1 => repeat (first | exact (Kd.R_reads' HO_224000.out).2.2 | (with_reducible refine Kd.C_alloc ?_ _) | (with_reducible refine Kd.C_drewN ?_ _) | (with_reducible refine Kd.C_drew ?_))); (case side2 => exact (Kd.R_reads' HO_224000.out).2.1); rintro e w100 ⟨rfl, hb⟩; refine ⟨_, rfl, ?_⟩; have n0_ := aM (Kd.R_below (by (with_reducible repeat (first | apply Kd.R_alloc | apply Kd.R_drewN | apply Kd.R_drew)); exact HO_214000.out) hb); have n1_ := aM (Kd.R_below (by (with_reducible repeat (first | apply Kd.R_alloc | apply Kd.R_drewN | apply Kd.R_drew)); exact HO_224000.out) hb); have n2_ := aM (Kd.R_below (by (with_reducible repeat (first | apply Kd.R_alloc | apply Kd.R_drewN | apply Kd.R_drew)); exact HO_244000.out) hb); have n3_ := aM (blk_below (g := gb213) (o := .cells #[.slice Ao15 t207.length co15, .int .i64 t210, .bool t211] 33 (0, 0)) (by (with_reducible repeat (first | refine blk_drewN ?_ _ | refine blk_drew ?_ | refine blk_alloc ?_ _)); exact BK213.out) hb); have n4_ := aM (blk_below (g := gb223) (o := .cells #[.slice Ao21 t232.length co21, .int .i64 t220, .bool t221] 33 (0, 0)) (by (with_reducible repeat (first | refine blk_drewN ?_ _ | refine blk_drew ?_ | refine blk_alloc ?_ _)); exact BK223.out) hb); have n5_ := aM (blk_below (g := gb243) (o := .cells #[.slice Ao76 t237.length co76, .int .i64 t240, .bool t241] 33 (0, 0)) (by (with_reducible repeat (first | refine blk_drewN ?_ _ | refine blk_drew ?_ | refine blk_alloc ?_ _)); exact BK243.out) hb); have n6_ := aM (below_step (by repeat (first | (with_reducible first | exact HB.out | apply below_alloc | apply bN | apply bD | refine below_set ?_ GE213.out | refine below_set ?_ GE223.out | refine below_set ?_ GE243.out) | exact HB.out)) hb); clear HO_214000; clear HO_224000; clear HO_244000; clear BK213; clear BK223; clear BK243; clear HB; have HO_214000 := n0_; have HO_224000 := n1_; have HO_244000 := n2_; have BK213 := n3_; have BK223 := n4_; have BK243 := n5_; have HB := n6_; clear n0_ n1_ n2_ n3_ n4_ n5_ n6_; (try clear hb); (try clear hb2); (try clear hk); (try clear hi)))
               go_ret
               exact ⟨by first | rfl | (simp [*] <;> rfl) | (exfalso; simp_all; done), by repeat (first | (with_reducible first | exact HB.out | apply below_alloc | apply bN | apply bD | refine below_set ?_ GE213.out | refine below_set ?_ GE223.out | refine below_set ?_ GE243.out) | exact HB.out)⟩
              ·
               rw [if_neg c96] at H
               have c96b0 : decide (t245 < 0) = false := decide_eq_false c96
               clear c96
               by_cases c101 : t245 = t231
               ·
                rw [if_pos c101] at H
                have c101b0 : (t245 == t231) = true := beq_iff_eq.mpr c101
                have c101b1 : (t245 != t231) = false := bne_eq_false_iff_eq.mpr c101
                clear c101
                obtain rfl := Option.some.inj H
                have hnb102 := NB223_213.out
                have hnc102 := NB213_223.out
                have hnb103 := NB223_243.out
                have hnc103 := NB243_223.out
                have hcz104_0 : wc.cell? ⟨gb223, 0, none⟩ = some (.slice Ao21 t232.length co21) := (blk_cell BK223.out 0).trans rfl
                have hcz104_1 : wc.cell? ⟨gb223, 1, none⟩ = some (.int .i64 t220) := (blk_cell BK223.out 1).trans rfl
                have hcz104_2 : wc.cell? ⟨gb223, 2, none⟩ = some (.bool t221) := (blk_cell BK223.out 2).trans rfl
                have hfz104_0 := blk_frozen BK223.out 0
                have hfz104_1 := blk_frozen BK223.out 1
                have hfz104_2 := blk_frozen BK223.out 2
                go_wp2_with (first | ((with_reducible refine gate_callee (f := 30) rfl ?_); refine goesL_ (some 100) rfl rfl Try.func30 (by kernel_rfl) rfl #[.agg #[.slice Ao21 t232.length co21, .int .i64 t220, .bool t221], .int .i64 1] rfl (by (try simp only [mA, mB, mC]); first | done | rfl | (simp only [mE, mD]; rfl)) ?_; (with_reducible refine (laws_heldWormRun.calls kj65 _ _ t232 t220 t221 1 t245 _ ?side1 ?side2 A95.out).mono ?_); (case side1 => repeat (first | exact (Kd.R_reads' HO_224000.out).2.2 | (with_reducible refine Kd.C_alloc ?_ _) | (with_reducible refine Kd.C_drewN ?_ _) | (with_reducible refine Kd.C_drew ?_))); (case side2 => exact (Kd.R_reads' HO_224000.out).2.1); rintro e w105 ⟨rfl, hb⟩; refine ⟨_, rfl, ?_⟩; have n0_ := aM (Kd.R_below (by (with_reducible repeat (first | apply Kd.R_alloc | apply Kd.R_drewN | apply Kd.R_drew)); exact HO_214000.out) hb); have n1_ := aM (Kd.R_below (by (with_reducible repeat (first | apply Kd.R_alloc | apply Kd.R_drewN | apply Kd.R_drew)); exact HO_224000.out) hb); have n2_ := aM (Kd.R_below (by (with_reducible repeat (first | apply Kd.R_alloc | apply Kd.R_drewN | apply Kd.R_drew)); exact HO_244000.out) hb); have n3_ := aM (blk_below (g := gb213) (o := .cells #[.slice Ao15 t207.length co15, .int .i64 t210, .bool t211] 33 (0, 0)) (by (with_reducible repeat (first | refine blk_drewN ?_ _ | refine blk_drew ?_ | refine blk_alloc ?_ _)); exact BK213.out) hb); have n4_ := aM (blk_below (g := gb223) (o := .cells #[.slice Ao21 t232.length co21, .int .i64 t220, .bool t221] 33 (0, 0)) (by (with_reducible repeat (first | refine blk_drewN ?_ _ | refine blk_drew ?_ | refine blk_alloc ?_ _)); exact BK223.out) hb); have n5_ := aM (blk_below (g := gb243) (o := .cells #[.slice Ao76 t237.length co76, .int .i64 t240, .bool t241] 33 (0, 0)) (by (with_reducible repeat (first | refine blk_drewN ?_ _ | refine blk_drew ?_ | refine blk_alloc ?_ _)); exact BK243.out) hb); have n6_ := aM (below_step (by repeat (first | (with_reducible first | exact HB.out | apply below_alloc | apply bN | apply bD | refine below_set ?_ GE213.out | refine below_set ?_ GE223.out | refine below_set ?_ GE243.out) | exact HB.out)) hb); clear HO_214000; clear HO_224000; clear HO_244000; clear BK213; clear BK223; clear BK243; clear HB; have HO_214000 := n0_; have HO_224000 := n1_; have HO_244000 := n2_; have BK213 := n3_; have BK223 := n4_; have BK243 := n5_; have HB := n6_; clear n0_ n1_ n2_ n3_ n4_ n5_ n6_; (try clear hb); (try clear hb2); (try clear hk); (try clear hi)))
                go_ret
                exact ⟨by first | rfl | (simp [*] <;> rfl) | (exfalso; simp_all; done), by repeat (first | (with_reducible first | exact HB.out | apply below_alloc | apply bN | apply bD | refine below_set ?_ GE213.out | refine below_set ?_ GE223.out | refine below_set ?_ GE243.out) | exact HB.out)⟩
               ·
                rw [if_neg c101] at H
                have c101b0 : (t245 == t231) = false := beq_eq_false_iff_ne.mpr c101
                have c101b1 : (t245 != t231) = true := bne_iff_ne.mpr c101
                obtain rfl := Option.some.inj H
                have hnb106 := NB223_213.out
                have hnc106 := NB213_223.out
                have hnb107 := NB223_243.out
                have hnc107 := NB243_223.out
                have hcz108_0 : wc.cell? ⟨gb223, 0, none⟩ = some (.slice Ao21 t232.length co21) := (blk_cell BK223.out 0).trans rfl
                have hcz108_1 : wc.cell? ⟨gb223, 1, none⟩ = some (.int .i64 t220) := (blk_cell BK223.out 1).trans rfl
                have hcz108_2 : wc.cell? ⟨gb223, 2, none⟩ = some (.bool t221) := (blk_cell BK223.out 2).trans rfl
                have hfz108_0 := blk_frozen BK223.out 0
                have hfz108_1 := blk_frozen BK223.out 1
                have hfz108_2 := blk_frozen BK223.out 2
                go_wp2_with (first | ((with_reducible refine gate_callee (f := 30) rfl ?_); refine goesL_ (some 100) rfl rfl Try.func30 (by kernel_rfl) rfl #[.agg #[.slice Ao21 t232.length co21, .int .i64 t220, .bool t221], .int .i64 1] rfl (by (try simp only [mA, mB, mC]); first | done | rfl | (simp only [mE, mD]; rfl)) ?_; (with_reducible refine (laws_heldWormRun.calls kj65 _ _ t232 t220 t221 1 t245 _ ?side1 ?side2 A95.out).mono ?_); (case side1 => repeat (first | exact (Kd.R_reads' HO_224000.out).2.2 | (with_reducible refine Kd.C_alloc ?_ _) | (with_reducible refine Kd.C_drewN ?_ _) | (with_reducible refine Kd.C_drew ?_))); (case side2 => exact (Kd.R_reads' HO_224000.out).2.1); rintro e w109 ⟨rfl, hb⟩; refine ⟨_, rfl, ?_⟩; have n0_ := aM (Kd.R_below (by (with_reducible repeat (first | apply Kd.R_alloc | apply Kd.R_drewN | apply Kd.R_drew)); exact HO_214000.out) hb); have n1_ := aM (Kd.R_below (by (with_reducible repeat (first | apply Kd.R_alloc | apply Kd.R_drewN | apply Kd.R_drew)); exact HO_224000.out) hb); have n2_ := aM (Kd.R_below (by (with_reducible repeat (first | apply Kd.R_alloc | apply Kd.R_drewN | apply Kd.R_drew)); exact HO_244000.out) hb); have n3_ := aM (blk_below (g := gb213) (o := .cells #[.slice Ao15 t207.length co15, .int .i64 t210, .bool t211] 33 (0, 0)) (by (with_reducible repeat (first | refine blk_drewN ?_ _ | refine blk_drew ?_ | refine blk_alloc ?_ _)); exact BK213.out) hb); have n4_ := aM (blk_below (g := gb223) (o := .cells #[.slice Ao21 t232.length co21, .int .i64 t220, .bool t221] 33 (0, 0)) (by (with_reducible repeat (first | refine blk_drewN ?_ _ | refine blk_drew ?_ | refine blk_alloc ?_ _)); exact BK223.out) hb); have n5_ := aM (blk_below (g := gb243) (o := .cells #[.slice Ao76 t237.length co76, .int .i64 t240, .bool t241] 33 (0, 0)) (by (with_reducible repeat (first | refine blk_drewN ?_ _ | refine blk_drew ?_ | refine blk_alloc ?_ _)); exact BK243.out) hb); have n6_ := aM (below_step (by repeat (first | (with_reducible first | exact HB.out | apply below_alloc | apply bN | apply bD | refine below_set ?_ GE213.out | refine below_set ?_ GE223.out | refine below_set ?_ GE243.out) | exact HB.out)) hb); clear HO_214000; clear HO_224000; clear HO_244000; clear BK213; clear BK223; clear BK243; clear HB; have HO_214000 := n0_; have HO_224000 := n1_; have HO_244000 := n2_; have BK213 := n3_; have BK223 := n4_; have BK243 := n5_; have HB := n6_; clear n0_ n1_ n2_ n3_ n4_ n5_ n6_; (try clear hb); (try clear hb2); (try clear hk); (try clear hi)))
                go_ret
                exact ⟨by first | rfl | (simp [*] <;> rfl) | (exfalso; simp_all; done), by repeat (first | (with_reducible first | exact HB.out | apply below_alloc | apply bN | apply bD | refine below_set ?_ GE213.out | refine below_set ?_ GE223.out | refine below_set ?_ GE243.out) | exact HB.out)⟩
          ·
           rw [if_neg c63] at H
           have c63b0 : (t233 == t231) = false := beq_eq_false_iff_ne.mpr c63
           have c63b1 : (t233 != t231) = true := bne_iff_ne.mpr c63
           obtain rfl := Option.some.inj H
           have hnb110 := NB223_213.out
           have hnc110 := NB213_223.out
           have hcz111_0 : wc.cell? ⟨gb223, 0, none⟩ = some (.slice Ao21 t217.length co21) := (blk_cell BK223.out 0).trans rfl
           have hcz111_1 : wc.cell? ⟨gb223, 1, none⟩ = some (.int .i64 t220) := (blk_cell BK223.out 1).trans rfl
           have hcz111_2 : wc.cell? ⟨gb223, 2, none⟩ = some (.bool t221) := (blk_cell BK223.out 2).trans rfl
           have hfz111_0 := blk_frozen BK223.out 0
           have hfz111_1 := blk_frozen BK223.out 1
           have hfz111_2 := blk_frozen BK223.out 2
           go_wp2_with (first | ((with_reducible refine gate_callee (f := 29) rfl ?_); refine goesL_ (some 72) rfl rfl Try.func29 (by kernel_rfl) rfl #[.agg #[.slice Ao21 t217.length co21, .int .i64 t220, .bool t221], .int .i64 1] rfl (by (try simp only [mA, mB, mC]); first | done | rfl | (simp only [mE, mD]; rfl)) ?_; (with_reducible refine (laws_markWormRun.calls kj38 (fun k_ => some k_ = (.slice Ao21 t217.length co21 : Value).ownBlock) (.slice Ao21 t217.length co21) t217 t220 t221 1 t231 t232 w _ ?side1 ?side2 A55.out).mono ?_); (case side1 => repeat (first | (with_reducible first | exact HB.out | apply below_alloc | apply bN | apply bD | refine below_set ?_ GE213.out | refine below_set ?_ GE223.out) | exact HB.out)); (case side2 => exact Kd.R_tight rfl HO_224000.out); rintro e w112 ⟨rfl, hy0, hb, hkp⟩; refine ⟨_, rfl, ?_⟩; have n0_ := aM (Kd.R_mono (ok' := fun k_ => some k_ ≠ (.slice Ao21 t217.length co21 : Value).ownBlock) (Kd.R_keptB (HO_214000.out) hkp (fun k_ hk_ hs_ => by first | exact hk_ hs_ | (have hz_ := hk_; simp only [and_assoc, true_and] at hz_; first | exact hz_.1 hs_ | exact hz_.2.1 hs_ | exact hz_.2.2.1 hs_ | exact hz_.2.2.2.1 hs_ | exact hz_.2.2.2.2 hs_ | exact hz_.2.2.2 hs_ | exact hz_.2.2 hs_ | exact hz_.2 hs_ | exact hz_.2.2.2.2.1 hs_))) (fun k_ hk_ => hk_.1)); have n1_ := aM (Kd.R_reok rfl hy0 (fun k_ e_ => HO_224000.out.1 k_ e_)); have n2_ := aM (blk_kept (by (with_reducible repeat (first | refine blk_drewN ?_ _ | refine blk_drew ?_ | refine blk_alloc ?_ _)); exact BK213.out) hkp (fun hs_ => (fun e_ => (Kd.R_ne HO_224000.out BK213.out (by decide)) e_) hs_)); have n3_ := aM (blk_kept (by (with_reducible repeat (first | refine blk_drewN ?_ _ | refine blk_drew ?_ | refine blk_alloc ?_ _)); exact BK223.out) hkp (fun hs_ => (fun e_ => (Kd.R_ne HO_224000.out BK223.out (by decide)) e_) hs_)); have n4_ := aM (hb); clear HO_214000; clear HO_224000; clear BK213; clear BK223; clear HB; have HO_214000 := n0_; have HO_224000 := n1_; have BK213 := n2_; have BK223 := n3_; have HB := n4_; clear n0_ n1_ n2_ n3_ n4_; (try clear hb); (try clear hkp); (try clear hy0); have hcz113_0 : w112.cell? ⟨gb223, 0, none⟩ = some (.slice Ao21 t217.length co21) := (blk_cell BK223.out 0).trans rfl; have hcz113_1 : w112.cell? ⟨gb223, 1, none⟩ = some (.int .i64 t220) := (blk_cell BK223.out 1).trans rfl; have hcz113_2 : w112.cell? ⟨gb223, 2, none⟩ = some (.bool t221) := (blk_cell BK223.out 2).trans rfl; have hfz113_0 := blk_frozen BK223.out 0; have hfz113_1 := blk_frozen BK223.out 1; have hfz113_2 := blk_frozen BK223.out 2) | ((with_reducible refine gate_callee (f := 30) rfl ?_); refine goesL_ (some 75) rfl rfl Try.func30 (by kernel_rfl) rfl #[.agg #[.slice Ao21 t232.length co21, .int .i64 t220, .bool t221], .int .i64 1] rfl (by (try simp only [mA, mB, mC]); first | done | (rw [show t232.length = t217.length from (Kd.R_reads' HO_224000.out).1.symm] <;> rfl) | rfl | (simp only [mE, mD]; rfl)) ?_; (with_reducible refine (laws_heldWormRun.calls kj38 _ _ t232 t220 t221 1 t233 _ ?side1 ?side2 A56.out).mono ?_); (case side1 => repeat (first | exact (Kd.R_reads' HO_224000.out).2.2 | (with_reducible refine Kd.C_alloc ?_ _) | (with_reducible refine Kd.C_drewN ?_ _) | (with_reducible refine Kd.C_drew ?_))); (case side2 => rw [show t232.length = t217.length from (Kd.R_reads' HO_224000.out).1.symm]; exact (Kd.R_reads' HO_224000.out).2.1); rintro e w114 ⟨rfl, hb⟩; refine ⟨_, rfl, ?_⟩; have n0_ := aM (Kd.R_below (by (with_reducible repeat (first | apply Kd.R_alloc | apply Kd.R_drewN | apply Kd.R_drew)); exact HO_214000.out) hb); have n1_ := aM (Kd.R_below (by (with_reducible repeat (first | apply Kd.R_alloc | apply Kd.R_drewN | apply Kd.R_drew)); exact HO_224000.out) hb); have n2_ := aM (blk_below (g := gb213) (o := .cells #[.slice Ao15 t207.length co15, .int .i64 t210, .bool t211] 33 (0, 0)) (by (with_reducible repeat (first | refine blk_drewN ?_ _ | refine blk_drew ?_ | refine blk_alloc ?_ _)); exact BK213.out) hb); have n3_ := aM (blk_below (g := gb223) (o := .cells #[.slice Ao21 t217.length co21, .int .i64 t220, .bool t221] 33 (0, 0)) (by (with_reducible repeat (first | refine blk_drewN ?_ _ | refine blk_drew ?_ | refine blk_alloc ?_ _)); exact BK223.out) hb); have n4_ := aM (below_step (by repeat (first | (with_reducible first | exact HB.out | apply below_alloc | apply bN | apply bD | refine below_set ?_ GE213.out | refine below_set ?_ GE223.out) | exact HB.out)) hb); clear HO_214000; clear HO_224000; clear BK213; clear BK223; clear HB; have HO_214000 := n0_; have HO_224000 := n1_; have BK213 := n2_; have BK223 := n3_; have HB := n4_; clear n0_ n1_ n2_ n3_ n4_; (try clear hb); (try clear hb2); (try clear hk); (try clear hi)))
           go_ret
           exact ⟨by first | rfl | (simp [*] <;> rfl) | (exfalso; simp_all; done), by repeat (first | (with_reducible first | exact HB.out | apply below_alloc | apply bN | apply bD | refine below_set ?_ GE213.out | refine below_set ?_ GE223.out) | exact HB.out)⟩
     ·
      replace c37 := Bool.eq_false_iff.mpr c37
      subst c37
      have H1 : (some false) = some r := by rw [if_neg (show ¬ (false = true) by decide)] at H; exact H
      clear H
      have H := H1
      clear H1
      obtain rfl := Option.some.inj H
      go_wp2_with (first | ((with_reducible refine gate_callee (f := 25) rfl ?_); refine goesL_ (some 51) rfl rfl Try.func25 (by kernel_rfl) rfl #[.slice A2 l2.length c2] rfl (by (try simp only [mA, mB, mC]); first | done | rfl | (simp only [mE, mD]; rfl)) ?_; (with_reducible refine (laws_toIntSS.calls kj9 _ _ l2 t225 _ ?side1 ?side2 A35.out).mono ?_); (case side1 => repeat (first | exact (Kd.C_below HR2.out HB.out) | (with_reducible refine Kd.C_alloc ?_ _) | (with_reducible refine Kd.C_drewN ?_ _) | (with_reducible refine Kd.C_drew ?_))); (case side2 => exact HC2.out); rintro e w115 ⟨v226, rfl, ho0, hb⟩; refine ⟨_, rfl, ?_⟩; have n0_ := aM (Kd.S_elder' (by (with_reducible repeat (first | apply Kd.S_alloc | apply Kd.S_drewN | apply Kd.S_drew)); exact HO_10.out) (Kd.S_base ho0) hb); have n1_ := aM (Kd.R_below (by (with_reducible repeat (first | apply Kd.R_alloc | apply Kd.R_drewN | apply Kd.R_drew)); exact HO_214000.out) hb); have n2_ := aM (Kd.R_below (by (with_reducible repeat (first | apply Kd.R_alloc | apply Kd.R_drewN | apply Kd.R_drew)); exact HO_224000.out) hb); have n3_ := aM (Kd.S_lower (Kd.S_new' ho0 (Kd.S_lt (by (with_reducible repeat (first | apply Kd.S_alloc | apply Kd.S_drewN | apply Kd.S_drew)); exact HO_10.out))) (below_size (by repeat (first | (with_reducible first | exact HB.out | apply below_alloc | apply bN | apply bD | refine below_set ?_ GE213.out | refine below_set ?_ GE223.out) | exact HB.out)))); have n4_ := aM (blk_below (g := gb213) (o := .cells #[.slice Ao15 t207.length co15, .int .i64 t210, .bool t211] 33 (0, 0)) (by (with_reducible repeat (first | refine blk_drewN ?_ _ | refine blk_drew ?_ | refine blk_alloc ?_ _)); exact BK213.out) hb); have n5_ := aM (blk_below (g := gb223) (o := .cells #[.slice Ao21 t217.length co21, .int .i64 t220, .bool t221] 33 (0, 0)) (by (with_reducible repeat (first | refine blk_drewN ?_ _ | refine blk_drew ?_ | refine blk_alloc ?_ _)); exact BK223.out) hb); have n6_ := aM (below_step (by repeat (first | (with_reducible first | exact HB.out | apply below_alloc | apply bN | apply bD | refine below_set ?_ GE213.out | refine below_set ?_ GE223.out) | exact HB.out)) hb); clear HO_10; clear HO_214000; clear HO_224000; clear BK213; clear BK223; clear HB; have HO_10 := n0_; have HO_214000 := n1_; have HO_224000 := n2_; have HO227 := n3_; have BK213 := n4_; have BK223 := n5_; have HB := n6_; clear n0_ n1_ n2_ n3_ n4_ n5_ n6_; (try clear hb); (try clear hb2); (try clear hk); (try clear hi); (try clear ho0); obtain ⟨Ao116, co116, eo116⟩ := Kd.S_slice HO227.out; subst eo116) | ((with_reducible refine gate_callee (f := 27) rfl ?_); refine goesL_ (some 52) rfl rfl Try.func27 (by kernel_rfl) rfl #[.slice Ao18 t214.length co18, .slice Ao116 t225.length co116] rfl (by (try simp only [mA, mB, mC]); first | done | rfl | (simp only [mE, mD]; rfl)) ?_; (with_reducible refine (laws_eqIntSS.calls kj9 _ _ t214 _ _ t225 false _ ?side1 ?side2 ?side3 ?side4 A36.out).mono ?_); (case side1 => repeat (first | exact (Kd.S_reads' HO_10.out).2.2 | (with_reducible refine Kd.C_alloc ?_ _) | (with_reducible refine Kd.C_drewN ?_ _) | (with_reducible refine Kd.C_drew ?_))); (case side2 => exact (Kd.S_reads' HO_10.out).2.1); (case side3 => repeat (first | exact (Kd.S_reads' HO227.out).2.2 | (with_reducible refine Kd.C_alloc ?_ _) | (with_reducible refine Kd.C_drewN ?_ _) | (with_reducible refine Kd.C_drew ?_))); (case side4 => exact (Kd.S_reads' HO227.out).2.1); rintro e w' ⟨rfl, ⟨nd, rfl⟩⟩; refine ⟨_, rfl, ?_⟩))
      go_ret
      exact ⟨by first | rfl | (simp [*] <;> rfl) | (exfalso; simp_all; done), by repeat (first | (with_reducible first | exact HB.out | apply below_alloc | apply bN | apply bD | refine below_set ?_ GE213.out | refine below_set ?_ GE223.out) | exact HB.out)⟩
/-- THE ONE PURE STATEMENT of laws_FnExactRunWorms. -/
def laws_FnExactRunWorms.Pure : Prop := ∀ (a0 : Int) (a1 : Int) (l2 : List (List Int)), (Lit.int .i64 a0).wf = true → (Lit.int .i64 a1).wf = true → (l2.length ≤ maxLen ∧ ∀ b0_ ∈ l2, (b0_.length ≤ maxLen ∧ ∀ b1_ ∈ b0_, (Lit.int .i64 b1_).wf = true)) → ∃ k, laws_FnExactRunWorms.f k a0 a1 l2 = some true
end Go.Proofs.Ytdbokdodjekchaa.PFnExactRunWorms
