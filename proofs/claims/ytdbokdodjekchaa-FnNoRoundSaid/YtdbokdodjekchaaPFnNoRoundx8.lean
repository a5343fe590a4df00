/- What the Go functions that this law reaches answer, function by function; conditions: those that each contract names. Made for this claim by a program of this session (wip/myprint) over the kit's print. -/
import Derived.Test.YtdbokdodjekchaaPFnNoRoundx0
import Derived.Test.YtdbokdodjekchaaPFnNoRoundx1
namespace Go.Proofs.Ytdbokdodjekchaa.PFnNoRound
open Go.RowKit Go.Proofs.YtdbokdodjekchaaW.PrintWords Go.Proofs.YtdbokdodjekchaaW.PrintLast Go.Proofs.YtdbokdodjekchaaW.PrintMore
attribute [local go_sem] max2_int min2_int max_two min_two max_three min_three max_four min_four   -- for this text's walks alone
set_option linter.unusedVariables false
set_option linter.unusedSimpArgs false
/-! ### spec_l16Nodes: function 93 -/
def spec_l16Nodes.f (a0 : Int) (a1 : Int) (a2 : Int) (a3 : Int) : Option (Bool) := (spec_l16Fabric.f a0 a1).bind fun t243 => (if t243 = true then ((spec_l1In.f a2 0 (wrap64 ((wrap64 (a0 * a1)) - 1))).bind fun t244 => (if t244 = true then ((spec_l1In.f a3 0 (wrap64 ((wrap64 (a0 * a1)) - 1))).bind fun t245 => (some t245)) else (some false))) else (some false))
set_option maxHeartbeats 8000000 in
set_option maxRecDepth 100000 in
theorem spec_l16Nodes.calls (a0 : Int) (a1 : Int) (a2 : Int) (a3 : Int) (r : Bool) (w : World) (h : spec_l16Nodes.f a0 a1 a2 a3 = some r) :
  Calls Try.prog 93 #[.int .i64 a0, .int .i64 a1, .int .i64 a2, .int .i64 a3] w fun e w' => e = .returned (.bool r) ∧ Drawn0 w w' := by
 have H : ((spec_l16Fabric.f a0 a1).bind fun t243 => (if t243 = true then ((spec_l1In.f a2 0 (wrap64 ((wrap64 (a0 * a1)) - 1))).bind fun t244 => (if t244 = true then ((spec_l1In.f a3 0 (wrap64 ((wrap64 (a0 * a1)) - 1))).bind fun t245 => (some t245)) else (some false))) else (some false))) = some r := h
 clear h
 replace H := bE H
 obtain ⟨t243, A50, H⟩ := H
 replace H : (if t243 = true then ((spec_l1In.f a2 0 (wrap64 ((wrap64 (a0 * a1)) - 1))).bind fun t244 => (if t244 = true then ((spec_l1In.f a3 0 (wrap64 ((wrap64 (a0 * a1)) - 1))).bind fun t245 => (some t245)) else (some false))) else (some false)) = some r := H
 have A5 := aM A50
 clear A50
 by_cases c6 : t243 = true
 ·
  subst c6
  have H1 : ((spec_l1In.f a2 0 (wrap64 ((wrap64 (a0 * a1)) - 1))).bind fun t244 => (if t244 = true then ((spec_l1In.f a3 0 (wrap64 ((wrap64 (a0 * a1)) - 1))).bind fun t245 => (some t245)) else (some false))) = some r := by rw [if_pos rfl] at H; exact H
  clear H
  have H := H1
  clear H1
  replace H := bE H
  obtain ⟨t244, A70, H⟩ := H
  replace H : (if t244 = true then ((spec_l1In.f a3 0 (wrap64 ((wrap64 (a0 * a1)) - 1))).bind fun t245 => (some t245)) else (some false)) = some r := H
  have A7 := aM A70
  clear A70
  by_cases c8 : t244 = true
  ·
   subst c8
   have H1 : ((spec_l1In.f a3 0 (wrap64 ((wrap64 (a0 * a1)) - 1))).bind fun t245 => (some t245)) = some r := by rw [if_pos rfl] at H; exact H
   clear H
   have H := H1
   clear H1
   replace H := bE H
   obtain ⟨t245, A90, H⟩ := H
   replace H : (some t245) = some r := H
   have A9 := aM A90
   clear A90
   obtain rfl := Option.some.inj H
   go_enter Try.func93, Try.ntmps93
   go_wp2_with (first | ((with_reducible refine gate_callee (f := 49) rfl ?_); refine goesL_ (some 11) rfl rfl Try.func49 (by kernel_rfl) rfl #[.int .i64 a0, .int .i64 a1] rfl (by (try simp only [mA, mB, mC]); first | done | rfl | (simp only [mE, mD]; rfl)) ?_; (with_reducible refine (spec_l16Fabric.calls a0 a1 true _ A5.out).mono ?_); rintro e w' ⟨rfl, ⟨nd, rfl⟩⟩; refine ⟨_, rfl, ?_⟩) | (go_at_call 76; (with_reducible refine (spec_l1In.calls a2 0 (wrap64 ((wrap64 (a0 * a1)) - 1)) true _ A7.out).mono ?_); rintro e w' ⟨rfl, ⟨nd, rfl⟩⟩) | (go_at_call 76; (with_reducible refine (spec_l1In.calls a3 0 (wrap64 ((wrap64 (a0 * a1)) - 1)) t245 _ A9.out).mono ?_); rintro e w' ⟨rfl, ⟨nd, rfl⟩⟩))
   go_ret
   exact ⟨by first | rfl | (simp; done) | (simp [*]; done), by repeat (first | exact Drawn0.refl _ | apply Drawn0.step)⟩
  ·
   replace c8 := Bool.eq_false_iff.mpr c8
   subst c8
   have H1 : (some false) = some r := by rw [if_neg (show ¬ (false = true) by decide)] at H; exact H
   clear H
   have H := H1
   clear H1
   obtain rfl := Option.some.inj H
   go_enter Try.func93, Try.ntmps93
   go_wp2_with (first | ((with_reducible refine gate_callee (f := 49) rfl ?_); refine goesL_ (some 11) rfl rfl Try.func49 (by kernel_rfl) rfl #[.int .i64 a0, .int .i64 a1] rfl (by (try simp only [mA, mB, mC]); first | done | rfl | (simp only [mE, mD]; rfl)) ?_; (with_reducible refine (spec_l16Fabric.calls a0 a1 true _ A5.out).mono ?_); rintro e w' ⟨rfl, ⟨nd, rfl⟩⟩; refine ⟨_, rfl, ?_⟩) | (go_at_call 76; (with_reducible refine (spec_l1In.calls a2 0 (wrap64 ((wrap64 (a0 * a1)) - 1)) false _ A7.out).mono ?_); rintro e w' ⟨rfl, ⟨nd, rfl⟩⟩))
   go_ret
   exact ⟨by first | rfl | (simp; done) | (simp [*]; done), by repeat (first | exact Drawn0.refl _ | apply Drawn0.step)⟩
 ·
  replace c6 := Bool.eq_false_iff.mpr c6
  subst c6
  have H1 : (some false) = some r := by rw [if_neg (show ¬ (false = true) by decide)] at H; exact H
  clear H
  have H := H1
  clear H1
  obtain rfl := Option.some.inj H
  go_enter Try.func93, Try.ntmps93
  go_wp2_with (first | ((with_reducible refine gate_callee (f := 49) rfl ?_); refine goesL_ (some 11) rfl rfl Try.func49 (by kernel_rfl) rfl #[.int .i64 a0, .int .i64 a1] rfl (by (try simp only [mA, mB, mC]); first | done | rfl | (simp only [mE, mD]; rfl)) ?_; (with_reducible refine (spec_l16Fabric.calls a0 a1 false _ A5.out).mono ?_); rintro e w' ⟨rfl, ⟨nd, rfl⟩⟩; refine ⟨_, rfl, ?_⟩))
  go_ret
  exact ⟨by first | rfl | (simp; done) | (simp [*]; done), by repeat (first | exact Drawn0.refl _ | apply Drawn0.step)⟩
end Go.Proofs.Ytdbokdodjekchaa.PFnNoRound
