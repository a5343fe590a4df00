/- The pure part of FnExactSpanHas: the program's SpanHas and the reference's answer alike, for all whole numbers of Go's int. -/
import Derived.Test.YtekbfebjbpnhgaaPFnExactSpanHasx1
import Derived.Laws.BitsLemmas
import Derived.OpenShut
namespace Go.Proofs.Ytekbfebjbpnhgaa.Pure
open Go.RowKit Go.Proofs.Ytekbfebjbpnhgaa.PFnExactSpanHas Go.Proofs.YtekbfebjbpnhgaaW.PrintWords Go.Proofs.YtekbfebjbpnhgaaW.PrintLast

theorem FnExactSpanHas : laws_FnExactSpanHas.Pure := by
  intro a b n _ _ _
  have e : spec_SpanHas.f a b n = impl_SpanHas.f a b n := by
    unfold spec_SpanHas.f impl_SpanHas.f spec_l15Span.f impl_Span_valid.f spec_l1In.f impl_within.f
    rfl
  have s : ∃ r, impl_SpanHas.f a b n = some r := by
    unfold impl_SpanHas.f impl_Span_valid.f impl_within.f
    by_cases h1 : -4000000 ≤ a
    · by_cases h2 : a ≤ 4000000
      · by_cases h3 : a ≤ b
        · by_cases h4 : b ≤ 4000000
          · by_cases h5 : a ≤ n <;> simp [h1, h2, h3, h4, h5]
          · simp [h1, h2, h3, h4]
        · simp [h1, h2, h3]
      · simp [h1, h2]
    · simp [h1]
  obtain ⟨r, hr⟩ := s
  unfold laws_FnExactSpanHas.f laws_toSpan.f
  simp only [Option.bind_some, e, hr]
  simp


end Go.Proofs.Ytekbfebjbpnhgaa.Pure
