/-
  No cell of these rows narrows 'for every input' (looked for: loops, veiled, ifaces, maps, wideKeys, modest, calm, conditions, laid).
  DERIVED. THE GIVEN ROWS OF THIS SEAT. 5 by the template 'for every input the law returns true; each argument reads behind the call as it read before'; 0 by the template 'total and deterministic' (their statements: YtnjghnpfapoecaaTotals.lean).
  GIVEN WITH THE SEED: the statements are not yours to turn. If you find one false, say at which input.
  Laid BY PROGRAM, IN A SANDBOX (cutbox-rows.mjs): the forced cells as the released guide's own fill.sh prints them over the translation fcb80408b8968eb4… (all of the seat's roots in one cut). By AI agents, Wed Nov 11 2026. No macro, syntax, notation, axiom, sorry.
-/
import Derived.Test.YtnjghnpfapoecaaChecked
import GoSem.Claim
import GoSem.ClaimJoined
import GoSem.ClaimMapViews
import Derived.JoinedTies
import Derived.KernelRfl
namespace Go.Proofs.Ytnjghnpfapoecaa
/- THE CELL 'sum', in the pinned program and in every row, IS THE sha256 OF THE DUMP (.gsa) THAT YtnjghnpfapoecaaProg.lean LOADS. Nothing in Lean hashes anything: it is a label: what it is worth is what the hold of that sum in a sandbox is worth. -/
noncomputable def Try.pinned : Pinned := { name := "ytnjghnpfapoecaa", sum := "fcb80408b8968eb4f0fab5f31d4563c0e5bf6a0e577b166307fc21728e6ff043", checked := Try.checked }
namespace Rows
def none {H : Type} : Left H := { results := [], args := [] }

/-- 'laws.FnExactStrictOrder': WHATEVER THE INPUT: true; the input reads as it did. -/
def fnExactStrictOrderSpec : ChangeSpec := { name := "fnExactStrictOrder", fn := fun _ => fun
  | [d1, d2] => { results := [.lit (.bool true)], args := [d1, d2] }
  | _ => none }
def fnExactStrictOrderRow : OpenClaim := { program := "ytnjghnpfapoecaa", sum := "fcb80408b8968eb4f0fab5f31d4563c0e5bf6a0e577b166307fc21728e6ff043", func := "loop.example/wholenet/laws.FnExactStrictOrder", spec := "fnExactStrictOrder", unfollowed := true, recurses := true, apart := false }
def FnExactStrictOrderSaid : Prop := fnExactStrictOrderRow.holds Try.pinned (OpenSpec.ofChange fnExactStrictOrderSpec)

/-- ITS FALSE NEIGHBOUR: 'it returns false'. Refute it at one input. -/
def fnExactStrictOrderWrong : ChangeSpec := { name := "fnExactStrictOrder", fn := fun _ => fun
  | [d1, d2] => { results := [.lit (.bool false)], args := [d1, d2] }
  | _ => none }
def FnExactStrictOrderWrongFalsely : Prop := fnExactStrictOrderRow.holds Try.pinned (OpenSpec.ofChange fnExactStrictOrderWrong)

/-- 'laws.FnExactFairOrder': WHATEVER THE INPUT: true; the input reads as it did. -/
def fnExactFairOrderSpec : ChangeSpec := { name := "fnExactFairOrder", fn := fun _ => fun
  | [d1, d2] => { results := [.lit (.bool true)], args := [d1, d2] }
  | _ => none }
def fnExactFairOrderRow : OpenClaim := { program := "ytnjghnpfapoecaa", sum := "fcb80408b8968eb4f0fab5f31d4563c0e5bf6a0e577b166307fc21728e6ff043", func := "loop.example/wholenet/laws.FnExactFairOrder", spec := "fnExactFairOrder", unfollowed := true, recurses := true, apart := false }
def FnExactFairOrderSaid : Prop := fnExactFairOrderRow.holds Try.pinned (OpenSpec.ofChange fnExactFairOrderSpec)

/-- ITS FALSE NEIGHBOUR: 'it returns false'. Refute it at one input. -/
def fnExactFairOrderWrong : ChangeSpec := { name := "fnExactFairOrder", fn := fun _ => fun
  | [d1, d2] => { results := [.lit (.bool false)], args := [d1, d2] }
  | _ => none }
def FnExactFairOrderWrongFalsely : Prop := fnExactFairOrderRow.holds Try.pinned (OpenSpec.ofChange fnExactFairOrderWrong)

/-- 'laws.FnFairApart': WHATEVER THE INPUT: true; the input reads as it did. -/
def fnFairApartSpec : ChangeSpec := { name := "fnFairApart", fn := fun _ => fun
  | [d] => { results := [.lit (.bool true)], args := [d] }
  | _ => none }
def fnFairApartRow : OpenClaim := { program := "ytnjghnpfapoecaa", sum := "fcb80408b8968eb4f0fab5f31d4563c0e5bf6a0e577b166307fc21728e6ff043", func := "loop.example/wholenet/laws.FnFairApart", spec := "fnFairApart", unfollowed := true, recurses := true, apart := false }
def FnFairApartSaid : Prop := fnFairApartRow.holds Try.pinned (OpenSpec.ofChange fnFairApartSpec)

/-- ITS FALSE NEIGHBOUR: 'it returns false'. Refute it at one input. -/
def fnFairApartWrong : ChangeSpec := { name := "fnFairApart", fn := fun _ => fun
  | [d] => { results := [.lit (.bool false)], args := [d] }
  | _ => none }
def FnFairApartWrongFalsely : Prop := fnFairApartRow.holds Try.pinned (OpenSpec.ofChange fnFairApartWrong)

/-- 'laws.FnFairAlone': WHATEVER THE INPUT: true; the input reads as it did. -/
def fnFairAloneSpec : ChangeSpec := { name := "fnFairAlone", fn := fun _ => fun
  | [d] => { results := [.lit (.bool true)], args := [d] }
  | _ => none }
def fnFairAloneRow : OpenClaim := { program := "ytnjghnpfapoecaa", sum := "fcb80408b8968eb4f0fab5f31d4563c0e5bf6a0e577b166307fc21728e6ff043", func := "loop.example/wholenet/laws.FnFairAlone", spec := "fnFairAlone", unfollowed := true, recurses := true, apart := false }
def FnFairAloneSaid : Prop := fnFairAloneRow.holds Try.pinned (OpenSpec.ofChange fnFairAloneSpec)

/-- ITS FALSE NEIGHBOUR: 'it returns false'. Refute it at one input. -/
def fnFairAloneWrong : ChangeSpec := { name := "fnFairAlone", fn := fun _ => fun
  | [d] => { results := [.lit (.bool false)], args := [d] }
  | _ => none }
def FnFairAloneWrongFalsely : Prop := fnFairAloneRow.holds Try.pinned (OpenSpec.ofChange fnFairAloneWrong)

/-- 'laws.FnExactShapePulses': WHATEVER THE INPUT: true; the input reads as it did. -/
def fnExactShapePulsesSpec : ChangeSpec := { name := "fnExactShapePulses", fn := fun _ => fun
  | [d1, d2, d3] => { results := [.lit (.bool true)], args := [d1, d2, d3] }
  | _ => none }
def fnExactShapePulsesRow : OpenClaim := { program := "ytnjghnpfapoecaa", sum := "fcb80408b8968eb4f0fab5f31d4563c0e5bf6a0e577b166307fc21728e6ff043", func := "loop.example/wholenet/laws.FnExactShapePulses", spec := "fnExactShapePulses", apart := false }
def FnExactShapePulsesSaid : Prop := fnExactShapePulsesRow.holds Try.pinned (OpenSpec.ofChange fnExactShapePulsesSpec)

/-- ITS FALSE NEIGHBOUR: 'it returns false'. Refute it at one input. -/
def fnExactShapePulsesWrong : ChangeSpec := { name := "fnExactShapePulses", fn := fun _ => fun
  | [d1, d2, d3] => { results := [.lit (.bool false)], args := [d1, d2, d3] }
  | _ => none }
def FnExactShapePulsesWrongFalsely : Prop := fnExactShapePulsesRow.holds Try.pinned (OpenSpec.ofChange fnExactShapePulsesWrong)

/- THE SECOND FORM. 'bulk': how many values and letters a reading holds, each counted each time it is reached (what is shared counts as often as it is met; a slice's spare places count too). A statement '..UptoSaid' is the law's where the arguments, and the package variables that the reading takes, are together of bulk at most 1048576: NARROWER than '..Said'. Prove '..Said' where nothing that the law and all that it calls make is longer than what came in: it says more and counts as full. Else prove '..UptoSaid'. A law counts once. -/
mutual
def uptoBulk {H : Type} : DataW H → Nat
  | .lit (.string bytes) => bytes.length + 1
  | .lit _ => 1
  | .nil => 1
  | .ptr d => uptoBulk d + 1
  | .slice elems spare => uptoBulkAll elems + uptoBulkAll spare + 1
  | .agg parts => uptoBulkAll parts + 1
  | .iface _ d => uptoBulk d + 1
  | .map entries => uptoBulkEntries entries + 1
  | .held _ => 1
def uptoBulkAll {H : Type} : List (DataW H) → Nat
  | [] => 0
  | d :: r => uptoBulk d + uptoBulkAll r
def uptoBulkEntries {H : Type} : List (Lit × DataW H) → Nat
  | [] => 0
  | x :: r => uptoBulkEntry x + uptoBulkEntries r
def uptoBulkEntry {H : Type} : Lit × DataW H → Nat
  | (.string bytes, d) => bytes.length + uptoBulk d + 1
  | (_, d) => uptoBulk d + 1
 end
def uptoSmall : (H : Type) → List (DataW H) → Bool := fun _ ds => decide (uptoBulkAll ds ≤ 1048576)
def OpenSpec.upto (s : _root_.Go.ChangeSpec) : _root_.Go.OpenSpec := { _root_.Go.OpenSpec.ofChange s with cond := some uptoSmall }

/-- 'laws.FnExactStrictOrder', WHERE WHAT IT READS IS OF BULK AT MOST 1048576: true; the input reads as it did. -/
def fnExactStrictOrderUptoRow : OpenClaim := { program := "ytnjghnpfapoecaa", sum := "fcb80408b8968eb4f0fab5f31d4563c0e5bf6a0e577b166307fc21728e6ff043", func := "loop.example/wholenet/laws.FnExactStrictOrder", spec := "fnExactStrictOrder", unfollowed := true, recurses := true, apart := false, narrowed := true }
def FnExactStrictOrderUptoSaid : Prop := fnExactStrictOrderUptoRow.holds Try.pinned (OpenSpec.upto fnExactStrictOrderSpec)

/-- 'laws.FnExactFairOrder', WHERE WHAT IT READS IS OF BULK AT MOST 1048576: true; the input reads as it did. -/
def fnExactFairOrderUptoRow : OpenClaim := { program := "ytnjghnpfapoecaa", sum := "fcb80408b8968eb4f0fab5f31d4563c0e5bf6a0e577b166307fc21728e6ff043", func := "loop.example/wholenet/laws.FnExactFairOrder", spec := "fnExactFairOrder", unfollowed := true, recurses := true, apart := false, narrowed := true }
def FnExactFairOrderUptoSaid : Prop := fnExactFairOrderUptoRow.holds Try.pinned (OpenSpec.upto fnExactFairOrderSpec)

/-- 'laws.FnFairApart', WHERE WHAT IT READS IS OF BULK AT MOST 1048576: true; the input reads as it did. -/
def fnFairApartUptoRow : OpenClaim := { program := "ytnjghnpfapoecaa", sum := "fcb80408b8968eb4f0fab5f31d4563c0e5bf6a0e577b166307fc21728e6ff043", func := "loop.example/wholenet/laws.FnFairApart", spec := "fnFairApart", unfollowed := true, recurses := true, apart := false, narrowed := true }
def FnFairApartUptoSaid : Prop := fnFairApartUptoRow.holds Try.pinned (OpenSpec.upto fnFairApartSpec)

/-- 'laws.FnFairAlone', WHERE WHAT IT READS IS OF BULK AT MOST 1048576: true; the input reads as it did. -/
def fnFairAloneUptoRow : OpenClaim := { program := "ytnjghnpfapoecaa", sum := "fcb80408b8968eb4f0fab5f31d4563c0e5bf6a0e577b166307fc21728e6ff043", func := "loop.example/wholenet/laws.FnFairAlone", spec := "fnFairAlone", unfollowed := true, recurses := true, apart := false, narrowed := true }
def FnFairAloneUptoSaid : Prop := fnFairAloneUptoRow.holds Try.pinned (OpenSpec.upto fnFairAloneSpec)

/-- 'laws.FnExactShapePulses', WHERE WHAT IT READS IS OF BULK AT MOST 1048576: true; the input reads as it did. -/
def fnExactShapePulsesUptoRow : OpenClaim := { program := "ytnjghnpfapoecaa", sum := "fcb80408b8968eb4f0fab5f31d4563c0e5bf6a0e577b166307fc21728e6ff043", func := "loop.example/wholenet/laws.FnExactShapePulses", spec := "fnExactShapePulses", apart := false, narrowed := true }
def FnExactShapePulsesUptoSaid : Prop := fnExactShapePulsesUptoRow.holds Try.pinned (OpenSpec.upto fnExactShapePulsesSpec)

end Rows
end Go.Proofs.Ytnjghnpfapoecaa
