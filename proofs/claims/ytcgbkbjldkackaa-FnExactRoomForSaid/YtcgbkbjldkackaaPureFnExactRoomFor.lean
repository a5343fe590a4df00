/- The pure part of FnExactRoomFor: both tell the same number, for every whole number of Go's int. -/
import Derived.Test.YtcgbkbjldkackaaPFnExactRoomForx1
import Derived.Laws.BitsLemmas
import Derived.OpenShut
namespace Go.Proofs.Ytcgbkbjldkackaa.Pure
set_option linter.unusedVariables false
set_option linter.unusedSimpArgs false
open Go.RowKit Go.OpenShut Go.Proofs.Ytcgbkbjldkackaa.PFnExactRoomFor Go.Proofs.YtcgbkbjldkackaaW.PrintWords Go.Proofs.YtcgbkbjldkackaaW.PrintLast

theorem FnExactRoomFor : laws_FnExactRoomFor.Pure := by
  intro a _
  unfold laws_FnExactRoomFor.f spec_RoomFor.f impl_RoomFor.f spec_l1In.f impl_within.f
  by_cases h1 : 1 ≤ a <;> by_cases h2 : a ≤ 12 <;> simp [h1, h2]


end Go.Proofs.Ytcgbkbjldkackaa.Pure
