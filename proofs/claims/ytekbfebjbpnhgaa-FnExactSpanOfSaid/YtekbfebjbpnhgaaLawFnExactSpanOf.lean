/- The statement FnExactSpanOfSaid: whatever the input, the law answers true and its arguments read as before. Conditions: none. -/
import Derived.Test.YtekbfebjbpnhgaaRows
import Derived.Test.YtekbfebjbpnhgaaPFnExactSpanOfx2
import Derived.Test.YtekbfebjbpnhgaaPureFnExactSpanOf
import Derived.Test.YtekbfebjbpnhgaaOpens
import Derived.WalkKit
import Derived.ProofKit
import Derived.OpenShut
import Derived.ShutString
import Derived.ChangeOld
import Derived.Below
import Derived.Carry
import Derived.SizedLaws
import Derived.WideShapes
namespace Go.Proofs.Ytekbfebjbpnhgaa.fnExactSpanOf
open Go.ChangeShapes Go.WideShapes Go.ChangeAt Go.RowKit Go.Proofs.Ytekbfebjbpnhgaa.PFnExactSpanOf Go.Proofs.YtekbfebjbpnhgaaW.PrintWords Go.Proofs.Ytekbfebjbpnhgaa.Opens
open Go.ChangeMaps (open_string shut_string)
set_option linter.unusedVariables false
theorem own : ownKnob Try.prog.godebug = none := by kernel_rfl
theorem laidOut : laidOutB Try.prog = true := by kernel_rfl
theorem opens_k29 : Opens Try.prog 29 k29 (fun a => ((Lit.int .i64 a.f0).wf = true ∧ (Lit.int .i64 a.f1).wf = true ∧ (Lit.int .i64 a.f2).wf = true ∧ (Lit.int .i64 a.f3).wf = true)) :=
  opens_struct (α := Int × Int × Int × Int) (β := S29) (d := (Kd.pair (Kd.int .i64) (Kd.pair (Kd.int .i64) (Kd.pair (Kd.int .i64) (Kd.int .i64))))) (ok := fun p => (Lit.int .i64 p.1).wf = true ∧ (Lit.int .i64 p.2.1).wf = true ∧ (Lit.int .i64 p.2.2.1).wf = true ∧ (Lit.int .i64 p.2.2.2).wf = true) Try.underlying29 (by kernel_rfl) (fields_cons rfl (opens_int (k := .i64) Try.underlying3 (by kernel_rfl)) (fields_cons rfl (opens_int (k := .i64) Try.underlying3 (by kernel_rfl)) (fields_cons rfl (opens_int (k := .i64) Try.underlying3 (by kernel_rfl)) (fields_one rfl (opens_int (k := .i64) Try.underlying3 (by kernel_rfl)))))) (fun x : S29 => (x.f0, x.f1, x.f2, x.f3)) (fun p => (⟨p.1, p.2.1, p.2.2.1, p.2.2.2⟩ : S29)) (fun _ => rfl)
set_option maxRecDepth 100000 in
theorem lifted (os : Os) (started : os.Started) (H : Type) (enc : TypeId × Value → H) :
    ReturnsInHanded {} Try.checked os 8 .any (Rows.fnExactSpanOfSpec.pre6 enc Try.prog Try.f8 Rows.fnExactSpanOfRow.domain false) (Rows.fnExactSpanOfSpec.post enc Try.prog Try.f8 false true false false) := by
  refine returnsInHanded_of_change_sized (C := Try.checked) own started (by kernel_rfl) Try.func8
    (ChangeSpec.witness6 (enc := enc) (C := Try.checked) false ⟨#[], #[.agg #[.int .i64 0, .int .i64 0, .int .i64 0, .int .i64 0]], []⟩ 8 (by kernel_rfl) (by kernel_rfl) (by kernel_rfl) (by kernel_rfl)) ?_
  intro W base args ds gs before hval0 hW hcnd hsz0 _
  have hval : ∀ (j : Nat) t v, Try.f8.params[j]? = some t → args[j]? = some v → Value.okWide Try.prog W .any base t v := hval0
  have hW' := hW
  obtain ⟨p, q, hA0, hV, rfl, hfz, hnd⟩ := hW
  have hA : DataW.TrodAll enc Try.prog W 0 (fun _ => true) true Try.f8.params.toList args.toList ds p := hA0
  rw [Try.params8] at hA hval
  obtain ⟨v0, vs0, d0, ds0, p0, q0, hargs, rfl, rfl, h0, r0⟩ := trodAll_cons hA
  obtain ⟨rfl, rfl, rfl⟩ := trodAll_nil r0
  obtain rfl : args = #[v0] := by cases args; simp_all
  obtain ⟨rfl, rfl⟩ := trodVars_none hV
  have k0 := h0
  have lt0 : ∀ x ∈ p0, x.block < W.heap.size := by obtain ⟨m, hm⟩ := k0; exact DataW.trod_lt m _ _ _ hm
  obtain ⟨m0, hf0⟩ := h0
  obtain ⟨cs0, rfl, _⟩ := okWide_struct Try.underlying29 (hval 0 29 v0 rfl rfl)
  obtain ⟨x0, hK0, ok0⟩ := opens_k29.get hf0
  obtain hcs0 := k29_open hK0
  obtain rfl : cs0 = #[.int .i64 x0.f0, .int .i64 x0.f1, .int .i64 x0.f2, .int .i64 x0.f3] := by have z := congrArg List.toArray hcs0; simpa [Value.cells] using z
  obtain ⟨ok0_0, ok0_1, ok0_2, ok0_3⟩ := ok0
  clear hA0 hval0 hsz0
  have h := Pure.FnExactSpanOf x0.f0 x0.f1 x0.f2 x0.f3 ok0_0 ok0_1 ok0_2 ok0_3
  refine (laws_FnExactSpanOf.calls x0.f0 x0.f1 x0.f2 x0.f3 true W  h).mono fun e W' ⟨he, bel0⟩ => ?_
  have bel : Below W.heap.size W W' := bel0
  subst he
  exact ⟨_, rfl, _, _, _, [], _, [], hW', trodAll_mk1 (shut_bool Try.underlying4 _), (trodAll_cons_mk (Below.trod laidOut (by kernel_rfl) (of_decide_eq_true (by kernel_rfl)) k0 bel lt0) trodAll_mk0), rfl, bel.frame _, fun h => by cases h⟩
theorem over : Rows.fnExactSpanOfRow.holds Try.pinned (OpenSpec.ofChange Rows.fnExactSpanOfSpec) :=
  OpenClaim.holds_of_wide 8 Try.f8 rfl rfl rfl rfl rfl rfl rfl ⟨rfl, rfl, rfl, rfl, rfl⟩ rfl rfl rfl rfl rfl (by kernel_rfl) Try.func8 (by kernel_rfl)
    (of_decide_eq_true (by kernel_rfl)) (by unfold Func.isWrapper; first | (rw [if_pos (by decide +kernel)]; kernel_rfl) | (rw [if_neg (by decide +kernel)]; exact ⟨rfl, rfl⟩))
    (fun os started H enc _ => lifted os started H enc)
theorem proved : Rows.FnExactSpanOfSaid := over
#print axioms proved
end Go.Proofs.Ytekbfebjbpnhgaa.fnExactSpanOf
namespace Go.Proofs.Ytekbfebjbpnhgaa
/-- The row, under a short name, for the claim. -/
theorem fnExactSpanOf_holds : Rows.FnExactSpanOfSaid := fnExactSpanOf.proved
end Go.Proofs.Ytekbfebjbpnhgaa
