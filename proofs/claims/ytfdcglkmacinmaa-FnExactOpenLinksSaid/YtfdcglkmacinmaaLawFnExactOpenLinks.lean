/- The statement FnExactOpenLinksSaid: whatever the input, the law answers true and its arguments read as before. Conditions: none. -/
import Derived.Test.YtfdcglkmacinmaaRows
import Derived.Test.YtfdcglkmacinmaaPFnExactOpenLinksx4
import Derived.Test.YtfdcglkmacinmaaPureFnExactOpenLinks
import Derived.Test.YtfdcglkmacinmaaOpens
import Derived.WalkKit
import Derived.ProofKit
import Derived.OpenShut
import Derived.ShutString
import Derived.ChangeOld
import Derived.Below
import Derived.Carry
import Derived.SizedLaws
import Derived.WideShapes
namespace Go.Proofs.Ytfdcglkmacinmaa.fnExactOpenLinks
open Go.ChangeShapes Go.WideShapes Go.ChangeAt Go.RowKit Go.Proofs.Ytfdcglkmacinmaa.PFnExactOpenLinks Go.Proofs.YtfdcglkmacinmaaW.PrintWords Go.Proofs.Ytfdcglkmacinmaa.Opens
open Go.ChangeMaps (open_string shut_string)
set_option linter.unusedVariables false
theorem own : ownKnob Try.prog.godebug = none := by kernel_rfl
theorem laidOut : laidOutB Try.prog = true := by kernel_rfl
set_option maxRecDepth 100000 in
theorem opens_k24 : Opens Try.prog 24 k24 (fun a => ((Lit.int .i64 a.f0).wf = true ∧ (Lit.int .i64 a.f1).wf = true ∧ (a.f2.length ≤ maxLen ∧ ∀ b0_ ∈ a.f2, (Lit.int .i64 b0_).wf = true))) :=
  opens_struct (α := Int × Int × (List Int)) (β := S24) (d := (Kd.pair (Kd.int .i64) (Kd.pair (Kd.int .i64) (Kd.slice 3 (Kd.int .i64))))) (ok := fun p => (Lit.int .i64 p.1).wf = true ∧ (Lit.int .i64 p.2.1).wf = true ∧ (p.2.2.length ≤ maxLen ∧ ∀ b0_ ∈ p.2.2, (Lit.int .i64 b0_).wf = true)) Try.underlying24 (by kernel_rfl) (fields_cons rfl (opens_int (k := .i64) Try.underlying3 (by kernel_rfl)) (fields_cons rfl (opens_int (k := .i64) Try.underlying3 (by kernel_rfl)) (fields_one rfl (opens_slice Try.underlying22 (by kernel_rfl) (opens_int (k := .i64) Try.underlying3 (by kernel_rfl)))))) (fun x : S24 => (x.f0, x.f1, x.f2)) (fun p => (⟨p.1, p.2.1, p.2.2⟩ : S24)) (fun _ => rfl)
set_option maxRecDepth 100000 in
theorem lifted (os : Os) (started : os.Started) (H : Type) (enc : TypeId × Value → H) :
    ReturnsInHanded {} Try.checked os 4 .any (Rows.fnExactOpenLinksSpec.pre6 enc Try.prog Try.f4 Rows.fnExactOpenLinksRow.domain false) (Rows.fnExactOpenLinksSpec.post enc Try.prog Try.f4 false true false false) := by
  refine returnsInHanded_of_change_sized (C := Try.checked) own started (by kernel_rfl) Try.func4
    (ChangeSpec.witness6 (enc := enc) (C := Try.checked) false ⟨#[], #[.agg #[.int .i64 0, .int .i64 0, .slice none 0 0]], []⟩ 8 (by kernel_rfl) (by kernel_rfl) (by kernel_rfl) (by kernel_rfl)) ?_
  intro W base args ds gs before hval0 hW hcnd hsz0 _
  have hval : ∀ (j : Nat) t v, Try.f4.params[j]? = some t → args[j]? = some v → Value.okWide Try.prog W .any base t v := hval0
  have hW' := hW
  obtain ⟨p, q, hA0, hV, rfl, hfz, hnd⟩ := hW
  have hA : DataW.TrodAll enc Try.prog W 0 (fun _ => true) true Try.f4.params.toList args.toList ds p := hA0
  rw [Try.params4] at hA hval
  obtain ⟨v0, vs0, d0, ds0, p0, q0, hargs, rfl, rfl, h0, r0⟩ := trodAll_cons hA
  obtain ⟨rfl, rfl, rfl⟩ := trodAll_nil r0
  obtain rfl : args = #[v0] := by cases args; simp_all
  obtain ⟨rfl, rfl⟩ := trodVars_none hV
  have k0 := h0
  have lt0 : ∀ x ∈ p0, x.block < W.heap.size := by obtain ⟨m, hm⟩ := k0; exact DataW.trod_lt m _ _ _ hm
  obtain ⟨m0, hf0⟩ := h0
  obtain ⟨cs0, rfl, _⟩ := okWide_struct Try.underlying24 (hval 0 24 v0 rfl rfl)
  obtain ⟨x0, hK0, ok0⟩ := opens_k24.get hf0
  obtain ⟨A0_2, c0_2, hcs0, lc0_2, rc0_2⟩ := k24_open hK0
  obtain rfl : cs0 = #[.int .i64 x0.f0, .int .i64 x0.f1, .slice A0_2 x0.f2.length c0_2] := by have z := congrArg List.toArray hcs0; simpa [Value.cells] using z
  obtain ⟨ok0_0, ok0_1, ok0_2⟩ := ok0
  clear hA0 hval0 hsz0
  obtain ⟨k, h⟩ := Pure.FnExactOpenLinks x0.f0 x0.f1 x0.f2 ok0_0 ok0_1 ok0_2
  refine (laws_FnExactOpenLinks.calls k x0.f0 x0.f1 _ _ x0.f2 true W rc0_2 lc0_2 h).mono fun e W' ⟨he, bel0⟩ => ?_
  have bel : Below W.heap.size W W' := bel0
  subst he
  exact ⟨_, rfl, _, _, _, [], _, [], hW', trodAll_mk1 (shut_bool Try.underlying4 _), (trodAll_cons_mk (Below.trod laidOut (by kernel_rfl) (of_decide_eq_true (by kernel_rfl)) k0 bel lt0) trodAll_mk0), rfl, bel.frame _, fun h => by cases h⟩
theorem over : Rows.fnExactOpenLinksRow.holds Try.pinned (OpenSpec.ofChange Rows.fnExactOpenLinksSpec) :=
  OpenClaim.holds_of_wide 4 Try.f4 rfl rfl rfl rfl rfl rfl rfl ⟨rfl, rfl, rfl, rfl, rfl⟩ rfl rfl rfl rfl rfl (by kernel_rfl) Try.func4 (by kernel_rfl)
    (of_decide_eq_true (by kernel_rfl)) (by unfold Func.isWrapper; first | (rw [if_pos (by decide +kernel)]; kernel_rfl) | (rw [if_neg (by decide +kernel)]; exact ⟨rfl, rfl⟩))
    (fun os started H enc _ => lifted os started H enc)
theorem proved : Rows.FnExactOpenLinksSaid := over
#print axioms proved
end Go.Proofs.Ytfdcglkmacinmaa.fnExactOpenLinks
namespace Go.Proofs.Ytfdcglkmacinmaa
/-- The row, under a short name, for the claim. -/
theorem fnExactOpenLinks_holds : Rows.FnExactOpenLinksSaid := fnExactOpenLinks.proved
end Go.Proofs.Ytfdcglkmacinmaa
