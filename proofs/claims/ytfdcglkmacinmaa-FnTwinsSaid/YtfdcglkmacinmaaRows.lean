/-
  No cell of these rows narrows 'for every input' (looked for: loops, veiled, ifaces, maps, wideKeys, modest, calm, conditions, laid).
  DERIVED. THE GIVEN ROWS OF THIS SEAT. 14 by the template 'for every input the law returns true; each argument reads behind the call as it read before'; 0 by the template 'total and deterministic' (their statements: YtfdcglkmacinmaaTotals.lean).
  GIVEN WITH THE SEED: the statements are not yours to turn. If you find one false, say at which input.
  Laid BY PROGRAM, IN A SANDBOX (cutbox-rows.mjs): the forced cells as the released guide's own fill.sh prints them over the translation c1c2492a5c2ae4ba… (all of the seat's roots in one cut). By AI agents, Wed Nov 11 2026. No macro, syntax, notation, axiom, sorry.
-/
import Derived.Test.YtfdcglkmacinmaaChecked
import GoSem.Claim
import GoSem.ClaimJoined
import GoSem.ClaimMapViews
import Derived.JoinedTies
import Derived.KernelRfl
namespace Go.Proofs.Ytfdcglkmacinmaa
/- THE CELL 'sum', in the pinned program and in every row, IS THE sha256 OF THE DUMP (.gsa) THAT YtfdcglkmacinmaaProg.lean LOADS. Nothing in Lean hashes anything: it is a label: what it is worth is what the hold of that sum in a sandbox is worth. -/
noncomputable def Try.pinned : Pinned := { name := "ytfdcglkmacinmaa", sum := "c1c2492a5c2ae4bae8403f43ba6a580a0f551607597dc18340f8a3fa0049420b", checked := Try.checked }
namespace Rows
def none {H : Type} : Left H := { results := [], args := [] }

/-- 'laws.FnExactRingValid': WHATEVER THE INPUT: true; the input reads as it did. -/
def fnExactRingValidSpec : ChangeSpec := { name := "fnExactRingValid", fn := fun _ => fun
  | [d] => { results := [.lit (.bool true)], args := [d] }
  | _ => none }
def fnExactRingValidRow : OpenClaim := { program := "ytfdcglkmacinmaa", sum := "c1c2492a5c2ae4bae8403f43ba6a580a0f551607597dc18340f8a3fa0049420b", func := "loop.example/wholenet/laws.FnExactRingValid", spec := "fnExactRingValid", unfollowed := true, recurses := true, apart := false }
def FnExactRingValidSaid : Prop := fnExactRingValidRow.holds Try.pinned (OpenSpec.ofChange fnExactRingValidSpec)

/-- ITS FALSE NEIGHBOUR: 'it returns false'. Refute it at one input. -/
def fnExactRingValidWrong : ChangeSpec := { name := "fnExactRingValid", fn := fun _ => fun
  | [d] => { results := [.lit (.bool false)], args := [d] }
  | _ => none }
def FnExactRingValidWrongFalsely : Prop := fnExactRingValidRow.holds Try.pinned (OpenSpec.ofChange fnExactRingValidWrong)

/-- 'laws.FnExactOpenLinks': WHATEVER THE INPUT: true; the input reads as it did. -/
def fnExactOpenLinksSpec : ChangeSpec := { name := "fnExactOpenLinks", fn := fun _ => fun
  | [d] => { results := [.lit (.bool true)], args := [d] }
  | _ => none }
def fnExactOpenLinksRow : OpenClaim := { program := "ytfdcglkmacinmaa", sum := "c1c2492a5c2ae4bae8403f43ba6a580a0f551607597dc18340f8a3fa0049420b", func := "loop.example/wholenet/laws.FnExactOpenLinks", spec := "fnExactOpenLinks", unfollowed := true, recurses := true, apart := false }
def FnExactOpenLinksSaid : Prop := fnExactOpenLinksRow.holds Try.pinned (OpenSpec.ofChange fnExactOpenLinksSpec)

/-- ITS FALSE NEIGHBOUR: 'it returns false'. Refute it at one input. -/
def fnExactOpenLinksWrong : ChangeSpec := { name := "fnExactOpenLinks", fn := fun _ => fun
  | [d] => { results := [.lit (.bool false)], args := [d] }
  | _ => none }
def FnExactOpenLinksWrongFalsely : Prop := fnExactOpenLinksRow.holds Try.pinned (OpenSpec.ofChange fnExactOpenLinksWrong)

/-- 'laws.FnExactTwinOrder': WHATEVER THE INPUT: true; the input reads as it did. -/
def fnExactTwinOrderSpec : ChangeSpec := { name := "fnExactTwinOrder", fn := fun _ => fun
  | [d1, d2, d3] => { results := [.lit (.bool true)], args := [d1, d2, d3] }
  | _ => none }
def fnExactTwinOrderRow : OpenClaim := { program := "ytfdcglkmacinmaa", sum := "c1c2492a5c2ae4bae8403f43ba6a580a0f551607597dc18340f8a3fa0049420b", func := "loop.example/wholenet/laws.FnExactTwinOrder", spec := "fnExactTwinOrder", unfollowed := true, recurses := true, apart := false }
def FnExactTwinOrderSaid : Prop := fnExactTwinOrderRow.holds Try.pinned (OpenSpec.ofChange fnExactTwinOrderSpec)

/-- ITS FALSE NEIGHBOUR: 'it returns false'. Refute it at one input. -/
def fnExactTwinOrderWrong : ChangeSpec := { name := "fnExactTwinOrder", fn := fun _ => fun
  | [d1, d2, d3] => { results := [.lit (.bool false)], args := [d1, d2, d3] }
  | _ => none }
def FnExactTwinOrderWrongFalsely : Prop := fnExactTwinOrderRow.holds Try.pinned (OpenSpec.ofChange fnExactTwinOrderWrong)

/-- 'laws.FnExactTwinsTaken': WHATEVER THE INPUT: true; the input reads as it did. -/
def fnExactTwinsTakenSpec : ChangeSpec := { name := "fnExactTwinsTaken", fn := fun _ => fun
  | [d] => { results := [.lit (.bool true)], args := [d] }
  | _ => none }
def fnExactTwinsTakenRow : OpenClaim := { program := "ytfdcglkmacinmaa", sum := "c1c2492a5c2ae4bae8403f43ba6a580a0f551607597dc18340f8a3fa0049420b", func := "loop.example/wholenet/laws.FnExactTwinsTaken", spec := "fnExactTwinsTaken", unfollowed := true, recurses := true, apart := false }
def FnExactTwinsTakenSaid : Prop := fnExactTwinsTakenRow.holds Try.pinned (OpenSpec.ofChange fnExactTwinsTakenSpec)

/-- ITS FALSE NEIGHBOUR: 'it returns false'. Refute it at one input. -/
def fnExactTwinsTakenWrong : ChangeSpec := { name := "fnExactTwinsTaken", fn := fun _ => fun
  | [d] => { results := [.lit (.bool false)], args := [d] }
  | _ => none }
def FnExactTwinsTakenWrongFalsely : Prop := fnExactTwinsTakenRow.holds Try.pinned (OpenSpec.ofChange fnExactTwinsTakenWrong)

/-- 'laws.FnTaken': WHATEVER THE INPUT: true; the input reads as it did. -/
def fnTakenSpec : ChangeSpec := { name := "fnTaken", fn := fun _ => fun
  | [d] => { results := [.lit (.bool true)], args := [d] }
  | _ => none }
def fnTakenRow : OpenClaim := { program := "ytfdcglkmacinmaa", sum := "c1c2492a5c2ae4bae8403f43ba6a580a0f551607597dc18340f8a3fa0049420b", func := "loop.example/wholenet/laws.FnTaken", spec := "fnTaken", unfollowed := true, recurses := true, apart := false }
def FnTakenSaid : Prop := fnTakenRow.holds Try.pinned (OpenSpec.ofChange fnTakenSpec)

/-- ITS FALSE NEIGHBOUR: 'it returns false'. Refute it at one input. -/
def fnTakenWrong : ChangeSpec := { name := "fnTaken", fn := fun _ => fun
  | [d] => { results := [.lit (.bool false)], args := [d] }
  | _ => none }
def FnTakenWrongFalsely : Prop := fnTakenRow.holds Try.pinned (OpenSpec.ofChange fnTakenWrong)

/-- 'laws.FnTwins': WHATEVER THE INPUT: true; the input reads as it did. -/
def fnTwinsSpec : ChangeSpec := { name := "fnTwins", fn := fun _ => fun
  | [d] => { results := [.lit (.bool true)], args := [d] }
  | _ => none }
def fnTwinsRow : OpenClaim := { program := "ytfdcglkmacinmaa", sum := "c1c2492a5c2ae4bae8403f43ba6a580a0f551607597dc18340f8a3fa0049420b", func := "loop.example/wholenet/laws.FnTwins", spec := "fnTwins", unfollowed := true, recurses := true, apart := false }
def FnTwinsSaid : Prop := fnTwinsRow.holds Try.pinned (OpenSpec.ofChange fnTwinsSpec)

/-- ITS FALSE NEIGHBOUR: 'it returns false'. Refute it at one input. -/
def fnTwinsWrong : ChangeSpec := { name := "fnTwins", fn := fun _ => fun
  | [d] => { results := [.lit (.bool false)], args := [d] }
  | _ => none }
def FnTwinsWrongFalsely : Prop := fnTwinsRow.holds Try.pinned (OpenSpec.ofChange fnTwinsWrong)

/-- 'laws.FnExactStrictOrder': WHATEVER THE INPUT: true; the input reads as it did. -/
def fnExactStrictOrderSpec : ChangeSpec := { name := "fnExactStrictOrder", fn := fun _ => fun
  | [d1, d2] => { results := [.lit (.bool true)], args := [d1, d2] }
  | _ => none }
def fnExactStrictOrderRow : OpenClaim := { program := "ytfdcglkmacinmaa", sum := "c1c2492a5c2ae4bae8403f43ba6a580a0f551607597dc18340f8a3fa0049420b", func := "loop.example/wholenet/laws.FnExactStrictOrder", spec := "fnExactStrictOrder", unfollowed := true, recurses := true, apart := false }
def FnExactStrictOrderSaid : Prop := fnExactStrictOrderRow.holds Try.pinned (OpenSpec.ofChange fnExactStrictOrderSpec)

/-- ITS FALSE NEIGHBOUR: 'it returns false'. Refute it at one input. -/
def fnExactStrictOrderWrong : ChangeSpec := { name := "fnExactStrictOrder", fn := fun _ => fun
  | [d1, d2] => { results := [.lit (.bool false)], args := [d1, d2] }
  | _ => none }
def FnExactStrictOrderWrongFalsely : Prop := fnExactStrictOrderRow.holds Try.pinned (OpenSpec.ofChange fnExactStrictOrderWrong)

/-- 'laws.FnExactFairOrder': WHATEVER THE INPUT: true; the input reads as it did. -/
def fnExactFairOrderSpec : ChangeSpec := { name := "fnExactFairOrder", fn := fun _ => fun
  | [d1, d2] => { results := [.lit (.bool true)], args := [d1, d2] }
  | _ => none }
def fnExactFairOrderRow : OpenClaim := { program := "ytfdcglkmacinmaa", sum := "c1c2492a5c2ae4bae8403f43ba6a580a0f551607597dc18340f8a3fa0049420b", func := "loop.example/wholenet/laws.FnExactFairOrder", spec := "fnExactFairOrder", unfollowed := true, recurses := true, apart := false }
def FnExactFairOrderSaid : Prop := fnExactFairOrderRow.holds Try.pinned (OpenSpec.ofChange fnExactFairOrderSpec)

/-- ITS FALSE NEIGHBOUR: 'it returns false'. Refute it at one input. -/
def fnExactFairOrderWrong : ChangeSpec := { name := "fnExactFairOrder", fn := fun _ => fun
  | [d1, d2] => { results := [.lit (.bool false)], args := [d1, d2] }
  | _ => none }
def FnExactFairOrderWrongFalsely : Prop := fnExactFairOrderRow.holds Try.pinned (OpenSpec.ofChange fnExactFairOrderWrong)

/-- 'laws.FnFairApart': WHATEVER THE INPUT: true; the input reads as it did. -/
def fnFairApartSpec : ChangeSpec := { name := "fnFairApart", fn := fun _ => fun
  | [d] => { results := [.lit (.bool true)], args := [d] }
  | _ => none }
def fnFairApartRow : OpenClaim := { program := "ytfdcglkmacinmaa", sum := "c1c2492a5c2ae4bae8403f43ba6a580a0f551607597dc18340f8a3fa0049420b", func := "loop.example/wholenet/laws.FnFairApart", spec := "fnFairApart", unfollowed := true, recurses := true, apart := false }
def FnFairApartSaid : Prop := fnFairApartRow.holds Try.pinned (OpenSpec.ofChange fnFairApartSpec)

/-- ITS FALSE NEIGHBOUR: 'it returns false'. Refute it at one input. -/
def fnFairApartWrong : ChangeSpec := { name := "fnFairApart", fn := fun _ => fun
  | [d] => { results := [.lit (.bool false)], args := [d] }
  | _ => none }
def FnFairApartWrongFalsely : Prop := fnFairApartRow.holds Try.pinned (OpenSpec.ofChange fnFairApartWrong)

/-- 'laws.FnFairAlone': WHATEVER THE INPUT: true; the input reads as it did. -/
def fnFairAloneSpec : ChangeSpec := { name := "fnFairAlone", fn := fun _ => fun
  | [d] => { results := [.lit (.bool true)], args := [d] }
  | _ => none }
def fnFairAloneRow : OpenClaim := { program := "ytfdcglkmacinmaa", sum := "c1c2492a5c2ae4bae8403f43ba6a580a0f551607597dc18340f8a3fa0049420b", func := "loop.example/wholenet/laws.FnFairAlone", spec := "fnFairAlone", unfollowed := true, recurses := true, apart := false }
def FnFairAloneSaid : Prop := fnFairAloneRow.holds Try.pinned (OpenSpec.ofChange fnFairAloneSpec)

/-- ITS FALSE NEIGHBOUR: 'it returns false'. Refute it at one input. -/
def fnFairAloneWrong : ChangeSpec := { name := "fnFairAlone", fn := fun _ => fun
  | [d] => { results := [.lit (.bool false)], args := [d] }
  | _ => none }
def FnFairAloneWrongFalsely : Prop := fnFairAloneRow.holds Try.pinned (OpenSpec.ofChange fnFairAloneWrong)

/-- 'laws.FnExactPulsesValid': WHATEVER THE INPUT: true; the input reads as it did. -/
def fnExactPulsesValidSpec : ChangeSpec := { name := "fnExactPulsesValid", fn := fun _ => fun
  | [d] => { results := [.lit (.bool true)], args := [d] }
  | _ => none }
def fnExactPulsesValidRow : OpenClaim := { program := "ytfdcglkmacinmaa", sum := "c1c2492a5c2ae4bae8403f43ba6a580a0f551607597dc18340f8a3fa0049420b", func := "loop.example/wholenet/laws.FnExactPulsesValid", spec := "fnExactPulsesValid", apart := false }
def FnExactPulsesValidSaid : Prop := fnExactPulsesValidRow.holds Try.pinned (OpenSpec.ofChange fnExactPulsesValidSpec)

/-- ITS FALSE NEIGHBOUR: 'it returns false'. Refute it at one input. -/
def fnExactPulsesValidWrong : ChangeSpec := { name := "fnExactPulsesValid", fn := fun _ => fun
  | [d] => { results := [.lit (.bool false)], args := [d] }
  | _ => none }
def FnExactPulsesValidWrongFalsely : Prop := fnExactPulsesValidRow.holds Try.pinned (OpenSpec.ofChange fnExactPulsesValidWrong)

/-- 'laws.FnExactShapePulses': WHATEVER THE INPUT: true; the input reads as it did. -/
def fnExactShapePulsesSpec : ChangeSpec := { name := "fnExactShapePulses", fn := fun _ => fun
  | [d1, d2, d3] => { results := [.lit (.bool true)], args := [d1, d2, d3] }
  | _ => none }
def fnExactShapePulsesRow : OpenClaim := { program := "ytfdcglkmacinmaa", sum := "c1c2492a5c2ae4bae8403f43ba6a580a0f551607597dc18340f8a3fa0049420b", func := "loop.example/wholenet/laws.FnExactShapePulses", spec := "fnExactShapePulses", apart := false }
def FnExactShapePulsesSaid : Prop := fnExactShapePulsesRow.holds Try.pinned (OpenSpec.ofChange fnExactShapePulsesSpec)

/-- ITS FALSE NEIGHBOUR: 'it returns false'. Refute it at one input. -/
def fnExactShapePulsesWrong : ChangeSpec := { name := "fnExactShapePulses", fn := fun _ => fun
  | [d1, d2, d3] => { results := [.lit (.bool false)], args := [d1, d2, d3] }
  | _ => none }
def FnExactShapePulsesWrongFalsely : Prop := fnExactShapePulsesRow.holds Try.pinned (OpenSpec.ofChange fnExactShapePulsesWrong)

/-- 'laws.FnExactHellosValid': WHATEVER THE INPUT: true; the input reads as it did. -/
def fnExactHellosValidSpec : ChangeSpec := { name := "fnExactHellosValid", fn := fun _ => fun
  | [d] => { results := [.lit (.bool true)], args := [d] }
  | _ => none }
def fnExactHellosValidRow : OpenClaim := { program := "ytfdcglkmacinmaa", sum := "c1c2492a5c2ae4bae8403f43ba6a580a0f551607597dc18340f8a3fa0049420b", func := "loop.example/wholenet/laws.FnExactHellosValid", spec := "fnExactHellosValid", unfollowed := true, recurses := true, apart := false }
def FnExactHellosValidSaid : Prop := fnExactHellosValidRow.holds Try.pinned (OpenSpec.ofChange fnExactHellosValidSpec)

/-- ITS FALSE NEIGHBOUR: 'it returns false'. Refute it at one input. -/
def fnExactHellosValidWrong : ChangeSpec := { name := "fnExactHellosValid", fn := fun _ => fun
  | [d] => { results := [.lit (.bool false)], args := [d] }
  | _ => none }
def FnExactHellosValidWrongFalsely : Prop := fnExactHellosValidRow.holds Try.pinned (OpenSpec.ofChange fnExactHellosValidWrong)

/-- 'laws.FnExactAliveAt': WHATEVER THE INPUT: true; the input reads as it did. -/
def fnExactAliveAtSpec : ChangeSpec := { name := "fnExactAliveAt", fn := fun _ => fun
  | [d1, d2, d3] => { results := [.lit (.bool true)], args := [d1, d2, d3] }
  | _ => none }
def fnExactAliveAtRow : OpenClaim := { program := "ytfdcglkmacinmaa", sum := "c1c2492a5c2ae4bae8403f43ba6a580a0f551607597dc18340f8a3fa0049420b", func := "loop.example/wholenet/laws.FnExactAliveAt", spec := "fnExactAliveAt", unfollowed := true, recurses := true, apart := false }
def FnExactAliveAtSaid : Prop := fnExactAliveAtRow.holds Try.pinned (OpenSpec.ofChange fnExactAliveAtSpec)

/-- ITS FALSE NEIGHBOUR: 'it returns false'. Refute it at one input. -/
def fnExactAliveAtWrong : ChangeSpec := { name := "fnExactAliveAt", fn := fun _ => fun
  | [d1, d2, d3] => { results := [.lit (.bool false)], args := [d1, d2, d3] }
  | _ => none }
def FnExactAliveAtWrongFalsely : Prop := fnExactAliveAtRow.holds Try.pinned (OpenSpec.ofChange fnExactAliveAtWrong)

/- THE SECOND FORM. 'bulk': how many values and letters a reading holds, each counted each time it is reached (what is shared counts as often as it is met; a slice's spare places count too). A statement '..UptoSaid' is the law's where the arguments, and the package variables that the reading takes, are together of bulk at most 1048576: NARROWER than '..Said'. Prove '..Said' where nothing that the law and all that it calls make is longer than what came in: it says more and counts as full. Else prove '..UptoSaid'. A law counts once. -/
mutual
def uptoBulk {H : Type} : DataW H → Nat
  | .lit (.string bytes) => bytes.length + 1
  | .lit _ => 1
  | .nil => 1
  | .ptr d => uptoBulk d + 1
  | .slice elems spare => uptoBulkAll elems + uptoBulkAll spare + 1
  | .agg parts => uptoBulkAll parts + 1
  | .iface _ d => uptoBulk d + 1
  | .map entries => uptoBulkEntries entries + 1
  | .held _ => 1
def uptoBulkAll {H : Type} : List (DataW H) → Nat
  | [] => 0
  | d :: r => uptoBulk d + uptoBulkAll r
def uptoBulkEntries {H : Type} : List (Lit × DataW H) → Nat
  | [] => 0
  | x :: r => uptoBulkEntry x + uptoBulkEntries r
def uptoBulkEntry {H : Type} : Lit × DataW H → Nat
  | (.string bytes, d) => bytes.length + uptoBulk d + 1
  | (_, d) => uptoBulk d + 1
 end
def uptoSmall : (H : Type) → List (DataW H) → Bool := fun _ ds => decide (uptoBulkAll ds ≤ 1048576)
def OpenSpec.upto (s : _root_.Go.ChangeSpec) : _root_.Go.OpenSpec := { _root_.Go.OpenSpec.ofChange s with cond := some uptoSmall }

/-- 'laws.FnExactRingValid', WHERE WHAT IT READS IS OF BULK AT MOST 1048576: true; the input reads as it did. -/
def fnExactRingValidUptoRow : OpenClaim := { program := "ytfdcglkmacinmaa", sum := "c1c2492a5c2ae4bae8403f43ba6a580a0f551607597dc18340f8a3fa0049420b", func := "loop.example/wholenet/laws.FnExactRingValid", spec := "fnExactRingValid", unfollowed := true, recurses := true, apart := false, narrowed := true }
def FnExactRingValidUptoSaid : Prop := fnExactRingValidUptoRow.holds Try.pinned (OpenSpec.upto fnExactRingValidSpec)

/-- 'laws.FnExactOpenLinks', WHERE WHAT IT READS IS OF BULK AT MOST 1048576: true; the input reads as it did. -/
def fnExactOpenLinksUptoRow : OpenClaim := { program := "ytfdcglkmacinmaa", sum := "c1c2492a5c2ae4bae8403f43ba6a580a0f551607597dc18340f8a3fa0049420b", func := "loop.example/wholenet/laws.FnExactOpenLinks", spec := "fnExactOpenLinks", unfollowed := true, recurses := true, apart := false, narrowed := true }
def FnExactOpenLinksUptoSaid : Prop := fnExactOpenLinksUptoRow.holds Try.pinned (OpenSpec.upto fnExactOpenLinksSpec)

/-- 'laws.FnExactTwinOrder', WHERE WHAT IT READS IS OF BULK AT MOST 1048576: true; the input reads as it did. -/
def fnExactTwinOrderUptoRow : OpenClaim := { program := "ytfdcglkmacinmaa", sum := "c1c2492a5c2ae4bae8403f43ba6a580a0f551607597dc18340f8a3fa0049420b", func := "loop.example/wholenet/laws.FnExactTwinOrder", spec := "fnExactTwinOrder", unfollowed := true, recurses := true, apart := false, narrowed := true }
def FnExactTwinOrderUptoSaid : Prop := fnExactTwinOrderUptoRow.holds Try.pinned (OpenSpec.upto fnExactTwinOrderSpec)

/-- 'laws.FnExactTwinsTaken', WHERE WHAT IT READS IS OF BULK AT MOST 1048576: true; the input reads as it did. -/
def fnExactTwinsTakenUptoRow : OpenClaim := { program := "ytfdcglkmacinmaa", sum := "c1c2492a5c2ae4bae8403f43ba6a580a0f551607597dc18340f8a3fa0049420b", func := "loop.example/wholenet/laws.FnExactTwinsTaken", spec := "fnExactTwinsTaken", unfollowed := true, recurses := true, apart := false, narrowed := true }
def FnExactTwinsTakenUptoSaid : Prop := fnExactTwinsTakenUptoRow.holds Try.pinned (OpenSpec.upto fnExactTwinsTakenSpec)

/-- 'laws.FnTaken', WHERE WHAT IT READS IS OF BULK AT MOST 1048576: true; the input reads as it did. -/
def fnTakenUptoRow : OpenClaim := { program := "ytfdcglkmacinmaa", sum := "c1c2492a5c2ae4bae8403f43ba6a580a0f551607597dc18340f8a3fa0049420b", func := "loop.example/wholenet/laws.FnTaken", spec := "fnTaken", unfollowed := true, recurses := true, apart := false, narrowed := true }
def FnTakenUptoSaid : Prop := fnTakenUptoRow.holds Try.pinned (OpenSpec.upto fnTakenSpec)

/-- 'laws.FnTwins', WHERE WHAT IT READS IS OF BULK AT MOST 1048576: true; the input reads as it did. -/
def fnTwinsUptoRow : OpenClaim := { program := "ytfdcglkmacinmaa", sum := "c1c2492a5c2ae4bae8403f43ba6a580a0f551607597dc18340f8a3fa0049420b", func := "loop.example/wholenet/laws.FnTwins", spec := "fnTwins", unfollowed := true, recurses := true, apart := false, narrowed := true }
def FnTwinsUptoSaid : Prop := fnTwinsUptoRow.holds Try.pinned (OpenSpec.upto fnTwinsSpec)

/-- 'laws.FnExactStrictOrder', WHERE WHAT IT READS IS OF BULK AT MOST 1048576: true; the input reads as it did. -/
def fnExactStrictOrderUptoRow : OpenClaim := { program := "ytfdcglkmacinmaa", sum := "c1c2492a5c2ae4bae8403f43ba6a580a0f551607597dc18340f8a3fa0049420b", func := "loop.example/wholenet/laws.FnExactStrictOrder", spec := "fnExactStrictOrder", unfollowed := true, recurses := true, apart := false, narrowed := true }
def FnExactStrictOrderUptoSaid : Prop := fnExactStrictOrderUptoRow.holds Try.pinned (OpenSpec.upto fnExactStrictOrderSpec)

/-- 'laws.FnExactFairOrder', WHERE WHAT IT READS IS OF BULK AT MOST 1048576: true; the input reads as it did. -/
def fnExactFairOrderUptoRow : OpenClaim := { program := "ytfdcglkmacinmaa", sum := "c1c2492a5c2ae4bae8403f43ba6a580a0f551607597dc18340f8a3fa0049420b", func := "loop.example/wholenet/laws.FnExactFairOrder", spec := "fnExactFairOrder", unfollowed := true, recurses := true, apart := false, narrowed := true }
def FnExactFairOrderUptoSaid : Prop := fnExactFairOrderUptoRow.holds Try.pinned (OpenSpec.upto fnExactFairOrderSpec)

/-- 'laws.FnFairApart', WHERE WHAT IT READS IS OF BULK AT MOST 1048576: true; the input reads as it did. -/
def fnFairApartUptoRow : OpenClaim := { program := "ytfdcglkmacinmaa", sum := "c1c2492a5c2ae4bae8403f43ba6a580a0f551607597dc18340f8a3fa0049420b", func := "loop.example/wholenet/laws.FnFairApart", spec := "fnFairApart", unfollowed := true, recurses := true, apart := false, narrowed := true }
def FnFairApartUptoSaid : Prop := fnFairApartUptoRow.holds Try.pinned (OpenSpec.upto fnFairApartSpec)

/-- 'laws.FnFairAlone', WHERE WHAT IT READS IS OF BULK AT MOST 1048576: true; the input reads as it did. -/
def fnFairAloneUptoRow : OpenClaim := { program := "ytfdcglkmacinmaa", sum := "c1c2492a5c2ae4bae8403f43ba6a580a0f551607597dc18340f8a3fa0049420b", func := "loop.example/wholenet/laws.FnFairAlone", spec := "fnFairAlone", unfollowed := true, recurses := true, apart := false, narrowed := true }
def FnFairAloneUptoSaid : Prop := fnFairAloneUptoRow.holds Try.pinned (OpenSpec.upto fnFairAloneSpec)

/-- 'laws.FnExactPulsesValid', WHERE WHAT IT READS IS OF BULK AT MOST 1048576: true; the input reads as it did. -/
def fnExactPulsesValidUptoRow : OpenClaim := { program := "ytfdcglkmacinmaa", sum := "c1c2492a5c2ae4bae8403f43ba6a580a0f551607597dc18340f8a3fa0049420b", func := "loop.example/wholenet/laws.FnExactPulsesValid", spec := "fnExactPulsesValid", apart := false, narrowed := true }
def FnExactPulsesValidUptoSaid : Prop := fnExactPulsesValidUptoRow.holds Try.pinned (OpenSpec.upto fnExactPulsesValidSpec)

/-- 'laws.FnExactShapePulses', WHERE WHAT IT READS IS OF BULK AT MOST 1048576: true; the input reads as it did. -/
def fnExactShapePulsesUptoRow : OpenClaim := { program := "ytfdcglkmacinmaa", sum := "c1c2492a5c2ae4bae8403f43ba6a580a0f551607597dc18340f8a3fa0049420b", func := "loop.example/wholenet/laws.FnExactShapePulses", spec := "fnExactShapePulses", apart := false, narrowed := true }
def FnExactShapePulsesUptoSaid : Prop := fnExactShapePulsesUptoRow.holds Try.pinned (OpenSpec.upto fnExactShapePulsesSpec)

/-- 'laws.FnExactHellosValid', WHERE WHAT IT READS IS OF BULK AT MOST 1048576: true; the input reads as it did. -/
def fnExactHellosValidUptoRow : OpenClaim := { program := "ytfdcglkmacinmaa", sum := "c1c2492a5c2ae4bae8403f43ba6a580a0f551607597dc18340f8a3fa0049420b", func := "loop.example/wholenet/laws.FnExactHellosValid", spec := "fnExactHellosValid", unfollowed := true, recurses := true, apart := false, narrowed := true }
def FnExactHellosValidUptoSaid : Prop := fnExactHellosValidUptoRow.holds Try.pinned (OpenSpec.upto fnExactHellosValidSpec)

/-- 'laws.FnExactAliveAt', WHERE WHAT IT READS IS OF BULK AT MOST 1048576: true; the input reads as it did. -/
def fnExactAliveAtUptoRow : OpenClaim := { program := "ytfdcglkmacinmaa", sum := "c1c2492a5c2ae4bae8403f43ba6a580a0f551607597dc18340f8a3fa0049420b", func := "loop.example/wholenet/laws.FnExactAliveAt", spec := "fnExactAliveAt", unfollowed := true, recurses := true, apart := false, narrowed := true }
def FnExactAliveAtUptoSaid : Prop := fnExactAliveAtUptoRow.holds Try.pinned (OpenSpec.upto fnExactAliveAtSpec)

end Rows
end Go.Proofs.Ytfdcglkmacinmaa
