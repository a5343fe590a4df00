/-
  No cell of these rows narrows 'for every input' (looked for: loops, veiled, ifaces, maps, wideKeys, modest, calm, conditions, laid).
  DERIVED. THE GIVEN ROWS OF THIS SEAT. 15 by the template 'for every input the law returns true; each argument reads behind the call as it read before'; 0 by the template 'total and deterministic' (their statements: YtmakbieljmldfaaTotals.lean).
  GIVEN WITH THE SEED: the statements are not yours to turn. If you find one false, say at which input.
  Laid BY PROGRAM, IN A SANDBOX (cutbox-rows.mjs): the forced cells as the released guide's own fill.sh prints them over the translation 6f67a615620816bd… (all of the seat's roots in one cut). By AI agents, Wed Nov 11 2026. No macro, syntax, notation, axiom, sorry.
-/
import Derived.Test.YtmakbieljmldfaaChecked
import GoSem.Claim
import GoSem.ClaimJoined
import GoSem.ClaimMapViews
import Derived.JoinedTies
import Derived.KernelRfl
namespace Go.Proofs.Ytmakbieljmldfaa
/- THE CELL 'sum', in the pinned program and in every row, IS THE sha256 OF THE DUMP (.gsa) THAT YtmakbieljmldfaaProg.lean LOADS. Nothing in Lean hashes anything: it is a label: what it is worth is what the hold of that sum in a sandbox is worth. -/
noncomputable def Try.pinned : Pinned := { name := "ytmakbieljmldfaa", sum := "6f67a615620816bd551f5ee6c6d44bffbde84d6d9484fcc4aed157ef95836624", checked := Try.checked }
namespace Rows
def none {H : Type} : Left H := { results := [], args := [] }

/-- 'laws.FnExactWireOf': WHATEVER THE INPUT: true; the input reads as it did. -/
def fnExactWireOfSpec : ChangeSpec := { name := "fnExactWireOf", fn := fun _ => fun
  | [d1, d2, d3, d4] => { results := [.lit (.bool true)], args := [d1, d2, d3, d4] }
  | _ => none }
def fnExactWireOfRow : OpenClaim := { program := "ytmakbieljmldfaa", sum := "6f67a615620816bd551f5ee6c6d44bffbde84d6d9484fcc4aed157ef95836624", func := "loop.example/wholenet/laws.FnExactWireOf", spec := "fnExactWireOf", apart := false }
def FnExactWireOfSaid : Prop := fnExactWireOfRow.holds Try.pinned (OpenSpec.ofChange fnExactWireOfSpec)

/-- ITS FALSE NEIGHBOUR: 'it returns false'. Refute it at one input. -/
def fnExactWireOfWrong : ChangeSpec := { name := "fnExactWireOf", fn := fun _ => fun
  | [d1, d2, d3, d4] => { results := [.lit (.bool false)], args := [d1, d2, d3, d4] }
  | _ => none }
def FnExactWireOfWrongFalsely : Prop := fnExactWireOfRow.holds Try.pinned (OpenSpec.ofChange fnExactWireOfWrong)

/-- 'laws.FnWaitPairs': WHATEVER THE INPUT: true; the input reads as it did. -/
def fnWaitPairsSpec : ChangeSpec := { name := "fnWaitPairs", fn := fun _ => fun
  | [d] => { results := [.lit (.bool true)], args := [d] }
  | _ => none }
def fnWaitPairsRow : OpenClaim := { program := "ytmakbieljmldfaa", sum := "6f67a615620816bd551f5ee6c6d44bffbde84d6d9484fcc4aed157ef95836624", func := "loop.example/wholenet/laws.FnWaitPairs", spec := "fnWaitPairs", unfollowed := true, recurses := true, apart := false }
def FnWaitPairsSaid : Prop := fnWaitPairsRow.holds Try.pinned (OpenSpec.ofChange fnWaitPairsSpec)

/-- ITS FALSE NEIGHBOUR: 'it returns false'. Refute it at one input. -/
def fnWaitPairsWrong : ChangeSpec := { name := "fnWaitPairs", fn := fun _ => fun
  | [d] => { results := [.lit (.bool false)], args := [d] }
  | _ => none }
def FnWaitPairsWrongFalsely : Prop := fnWaitPairsRow.holds Try.pinned (OpenSpec.ofChange fnWaitPairsWrong)

/-- 'laws.FnNoRound': WHATEVER THE INPUT: true; the input reads as it did. -/
def fnNoRoundSpec : ChangeSpec := { name := "fnNoRound", fn := fun _ => fun
  | [d] => { results := [.lit (.bool true)], args := [d] }
  | _ => none }
def fnNoRoundRow : OpenClaim := { program := "ytmakbieljmldfaa", sum := "6f67a615620816bd551f5ee6c6d44bffbde84d6d9484fcc4aed157ef95836624", func := "loop.example/wholenet/laws.FnNoRound", spec := "fnNoRound", unfollowed := true, recurses := true, apart := false }
def FnNoRoundSaid : Prop := fnNoRoundRow.holds Try.pinned (OpenSpec.ofChange fnNoRoundSpec)

/-- ITS FALSE NEIGHBOUR: 'it returns false'. Refute it at one input. -/
def fnNoRoundWrong : ChangeSpec := { name := "fnNoRound", fn := fun _ => fun
  | [d] => { results := [.lit (.bool false)], args := [d] }
  | _ => none }
def FnNoRoundWrongFalsely : Prop := fnNoRoundRow.holds Try.pinned (OpenSpec.ofChange fnNoRoundWrong)

/-- 'laws.FnExactRouteXY': WHATEVER THE INPUT: true; the input reads as it did. -/
def fnExactRouteXYSpec : ChangeSpec := { name := "fnExactRouteXY", fn := fun _ => fun
  | [d1, d2, d3, d4] => { results := [.lit (.bool true)], args := [d1, d2, d3, d4] }
  | _ => none }
def fnExactRouteXYRow : OpenClaim := { program := "ytmakbieljmldfaa", sum := "6f67a615620816bd551f5ee6c6d44bffbde84d6d9484fcc4aed157ef95836624", func := "loop.example/wholenet/laws.FnExactRouteXY", spec := "fnExactRouteXY", unfollowed := true, recurses := true, apart := false }
def FnExactRouteXYSaid : Prop := fnExactRouteXYRow.holds Try.pinned (OpenSpec.ofChange fnExactRouteXYSpec)

/-- ITS FALSE NEIGHBOUR: 'it returns false'. Refute it at one input. -/
def fnExactRouteXYWrong : ChangeSpec := { name := "fnExactRouteXY", fn := fun _ => fun
  | [d1, d2, d3, d4] => { results := [.lit (.bool false)], args := [d1, d2, d3, d4] }
  | _ => none }
def FnExactRouteXYWrongFalsely : Prop := fnExactRouteXYRow.holds Try.pinned (OpenSpec.ofChange fnExactRouteXYWrong)

/-- 'laws.FnExactRouteYX': WHATEVER THE INPUT: true; the input reads as it did. -/
def fnExactRouteYXSpec : ChangeSpec := { name := "fnExactRouteYX", fn := fun _ => fun
  | [d1, d2, d3, d4] => { results := [.lit (.bool true)], args := [d1, d2, d3, d4] }
  | _ => none }
def fnExactRouteYXRow : OpenClaim := { program := "ytmakbieljmldfaa", sum := "6f67a615620816bd551f5ee6c6d44bffbde84d6d9484fcc4aed157ef95836624", func := "loop.example/wholenet/laws.FnExactRouteYX", spec := "fnExactRouteYX", unfollowed := true, recurses := true, apart := false }
def FnExactRouteYXSaid : Prop := fnExactRouteYXRow.holds Try.pinned (OpenSpec.ofChange fnExactRouteYXSpec)

/-- ITS FALSE NEIGHBOUR: 'it returns false'. Refute it at one input. -/
def fnExactRouteYXWrong : ChangeSpec := { name := "fnExactRouteYX", fn := fun _ => fun
  | [d1, d2, d3, d4] => { results := [.lit (.bool false)], args := [d1, d2, d3, d4] }
  | _ => none }
def FnExactRouteYXWrongFalsely : Prop := fnExactRouteYXRow.holds Try.pinned (OpenSpec.ofChange fnExactRouteYXWrong)

/-- 'laws.FnExactWayValid': WHATEVER THE INPUT: true; the input reads as it did. -/
def fnExactWayValidSpec : ChangeSpec := { name := "fnExactWayValid", fn := fun _ => fun
  | [d1, d2, d3] => { results := [.lit (.bool true)], args := [d1, d2, d3] }
  | _ => none }
def fnExactWayValidRow : OpenClaim := { program := "ytmakbieljmldfaa", sum := "6f67a615620816bd551f5ee6c6d44bffbde84d6d9484fcc4aed157ef95836624", func := "loop.example/wholenet/laws.FnExactWayValid", spec := "fnExactWayValid", unfollowed := true, recurses := true, apart := false }
def FnExactWayValidSaid : Prop := fnExactWayValidRow.holds Try.pinned (OpenSpec.ofChange fnExactWayValidSpec)

/-- ITS FALSE NEIGHBOUR: 'it returns false'. Refute it at one input. -/
def fnExactWayValidWrong : ChangeSpec := { name := "fnExactWayValid", fn := fun _ => fun
  | [d1, d2, d3] => { results := [.lit (.bool false)], args := [d1, d2, d3] }
  | _ => none }
def FnExactWayValidWrongFalsely : Prop := fnExactWayValidRow.holds Try.pinned (OpenSpec.ofChange fnExactWayValidWrong)

/-- 'laws.FnRouteNoRound': WHATEVER THE INPUT: true; the input reads as it did. -/
def fnRouteNoRoundSpec : ChangeSpec := { name := "fnRouteNoRound", fn := fun _ => fun
  | [d] => { results := [.lit (.bool true)], args := [d] }
  | _ => none }
def fnRouteNoRoundRow : OpenClaim := { program := "ytmakbieljmldfaa", sum := "6f67a615620816bd551f5ee6c6d44bffbde84d6d9484fcc4aed157ef95836624", func := "loop.example/wholenet/laws.FnRouteNoRound", spec := "fnRouteNoRound", unfollowed := true, recurses := true, apart := false }
def FnRouteNoRoundSaid : Prop := fnRouteNoRoundRow.holds Try.pinned (OpenSpec.ofChange fnRouteNoRoundSpec)

/-- ITS FALSE NEIGHBOUR: 'it returns false'. Refute it at one input. -/
def fnRouteNoRoundWrong : ChangeSpec := { name := "fnRouteNoRound", fn := fun _ => fun
  | [d] => { results := [.lit (.bool false)], args := [d] }
  | _ => none }
def FnRouteNoRoundWrongFalsely : Prop := fnRouteNoRoundRow.holds Try.pinned (OpenSpec.ofChange fnRouteNoRoundWrong)

/-- 'laws.FnRouteBack': WHATEVER THE INPUT: true; the input reads as it did. -/
def fnRouteBackSpec : ChangeSpec := { name := "fnRouteBack", fn := fun _ => fun
  | [d] => { results := [.lit (.bool true)], args := [d] }
  | _ => none }
def fnRouteBackRow : OpenClaim := { program := "ytmakbieljmldfaa", sum := "6f67a615620816bd551f5ee6c6d44bffbde84d6d9484fcc4aed157ef95836624", func := "loop.example/wholenet/laws.FnRouteBack", spec := "fnRouteBack", unfollowed := true, recurses := true, apart := false }
def FnRouteBackSaid : Prop := fnRouteBackRow.holds Try.pinned (OpenSpec.ofChange fnRouteBackSpec)

/-- ITS FALSE NEIGHBOUR: 'it returns false'. Refute it at one input. -/
def fnRouteBackWrong : ChangeSpec := { name := "fnRouteBack", fn := fun _ => fun
  | [d] => { results := [.lit (.bool false)], args := [d] }
  | _ => none }
def FnRouteBackWrongFalsely : Prop := fnRouteBackRow.holds Try.pinned (OpenSpec.ofChange fnRouteBackWrong)

/-- 'laws.FnWire': WHATEVER THE INPUT: true; the input reads as it did. -/
def fnWireSpec : ChangeSpec := { name := "fnWire", fn := fun _ => fun
  | [d] => { results := [.lit (.bool true)], args := [d] }
  | _ => none }
def fnWireRow : OpenClaim := { program := "ytmakbieljmldfaa", sum := "6f67a615620816bd551f5ee6c6d44bffbde84d6d9484fcc4aed157ef95836624", func := "loop.example/wholenet/laws.FnWire", spec := "fnWire", unfollowed := true, recurses := true, apart := false }
def FnWireSaid : Prop := fnWireRow.holds Try.pinned (OpenSpec.ofChange fnWireSpec)

/-- ITS FALSE NEIGHBOUR: 'it returns false'. Refute it at one input. -/
def fnWireWrong : ChangeSpec := { name := "fnWire", fn := fun _ => fun
  | [d] => { results := [.lit (.bool false)], args := [d] }
  | _ => none }
def FnWireWrongFalsely : Prop := fnWireRow.holds Try.pinned (OpenSpec.ofChange fnWireWrong)

/-- 'laws.FnWayCut': WHATEVER THE INPUT: true; the input reads as it did. -/
def fnWayCutSpec : ChangeSpec := { name := "fnWayCut", fn := fun _ => fun
  | [d] => { results := [.lit (.bool true)], args := [d] }
  | _ => none }
def fnWayCutRow : OpenClaim := { program := "ytmakbieljmldfaa", sum := "6f67a615620816bd551f5ee6c6d44bffbde84d6d9484fcc4aed157ef95836624", func := "loop.example/wholenet/laws.FnWayCut", spec := "fnWayCut", unfollowed := true, recurses := true, apart := false }
def FnWayCutSaid : Prop := fnWayCutRow.holds Try.pinned (OpenSpec.ofChange fnWayCutSpec)

/-- ITS FALSE NEIGHBOUR: 'it returns false'. Refute it at one input. -/
def fnWayCutWrong : ChangeSpec := { name := "fnWayCut", fn := fun _ => fun
  | [d] => { results := [.lit (.bool false)], args := [d] }
  | _ => none }
def FnWayCutWrongFalsely : Prop := fnWayCutRow.holds Try.pinned (OpenSpec.ofChange fnWayCutWrong)

/-- 'laws.FnRoutes': WHATEVER THE INPUT: true; the input reads as it did. -/
def fnRoutesSpec : ChangeSpec := { name := "fnRoutes", fn := fun _ => fun
  | [d] => { results := [.lit (.bool true)], args := [d] }
  | _ => none }
def fnRoutesRow : OpenClaim := { program := "ytmakbieljmldfaa", sum := "6f67a615620816bd551f5ee6c6d44bffbde84d6d9484fcc4aed157ef95836624", func := "loop.example/wholenet/laws.FnRoutes", spec := "fnRoutes", unfollowed := true, recurses := true, apart := false }
def FnRoutesSaid : Prop := fnRoutesRow.holds Try.pinned (OpenSpec.ofChange fnRoutesSpec)

/-- ITS FALSE NEIGHBOUR: 'it returns false'. Refute it at one input. -/
def fnRoutesWrong : ChangeSpec := { name := "fnRoutes", fn := fun _ => fun
  | [d] => { results := [.lit (.bool false)], args := [d] }
  | _ => none }
def FnRoutesWrongFalsely : Prop := fnRoutesRow.holds Try.pinned (OpenSpec.ofChange fnRoutesWrong)

/-- 'laws.FnAlone': WHATEVER THE INPUT: true; the input reads as it did. -/
def fnAloneSpec : ChangeSpec := { name := "fnAlone", fn := fun _ => fun
  | [d] => { results := [.lit (.bool true)], args := [d] }
  | _ => none }
def fnAloneRow : OpenClaim := { program := "ytmakbieljmldfaa", sum := "6f67a615620816bd551f5ee6c6d44bffbde84d6d9484fcc4aed157ef95836624", func := "loop.example/wholenet/laws.FnAlone", spec := "fnAlone", unfollowed := true, recurses := true, apart := false }
def FnAloneSaid : Prop := fnAloneRow.holds Try.pinned (OpenSpec.ofChange fnAloneSpec)

/-- ITS FALSE NEIGHBOUR: 'it returns false'. Refute it at one input. -/
def fnAloneWrong : ChangeSpec := { name := "fnAlone", fn := fun _ => fun
  | [d] => { results := [.lit (.bool false)], args := [d] }
  | _ => none }
def FnAloneWrongFalsely : Prop := fnAloneRow.holds Try.pinned (OpenSpec.ofChange fnAloneWrong)

/-- 'laws.FnExactRunWorms': WHATEVER THE INPUT: true; the input reads as it did. -/
def fnExactRunWormsSpec : ChangeSpec := { name := "fnExactRunWorms", fn := fun _ => fun
  | [d1, d2, d3] => { results := [.lit (.bool true)], args := [d1, d2, d3] }
  | _ => none }
def fnExactRunWormsRow : OpenClaim := { program := "ytmakbieljmldfaa", sum := "6f67a615620816bd551f5ee6c6d44bffbde84d6d9484fcc4aed157ef95836624", func := "loop.example/wholenet/laws.FnExactRunWorms", spec := "fnExactRunWorms", unfollowed := true, recurses := true, apart := false }
def FnExactRunWormsSaid : Prop := fnExactRunWormsRow.holds Try.pinned (OpenSpec.ofChange fnExactRunWormsSpec)

/-- ITS FALSE NEIGHBOUR: 'it returns false'. Refute it at one input. -/
def fnExactRunWormsWrong : ChangeSpec := { name := "fnExactRunWorms", fn := fun _ => fun
  | [d1, d2, d3] => { results := [.lit (.bool false)], args := [d1, d2, d3] }
  | _ => none }
def FnExactRunWormsWrongFalsely : Prop := fnExactRunWormsRow.holds Try.pinned (OpenSpec.ofChange fnExactRunWormsWrong)

/-- 'laws.FnExactWaitsOf': WHATEVER THE INPUT: true; the input reads as it did. -/
def fnExactWaitsOfSpec : ChangeSpec := { name := "fnExactWaitsOf", fn := fun _ => fun
  | [d1, d2, d3] => { results := [.lit (.bool true)], args := [d1, d2, d3] }
  | _ => none }
def fnExactWaitsOfRow : OpenClaim := { program := "ytmakbieljmldfaa", sum := "6f67a615620816bd551f5ee6c6d44bffbde84d6d9484fcc4aed157ef95836624", func := "loop.example/wholenet/laws.FnExactWaitsOf", spec := "fnExactWaitsOf", unfollowed := true, recurses := true, apart := false }
def FnExactWaitsOfSaid : Prop := fnExactWaitsOfRow.holds Try.pinned (OpenSpec.ofChange fnExactWaitsOfSpec)

/-- ITS FALSE NEIGHBOUR: 'it returns false'. Refute it at one input. -/
def fnExactWaitsOfWrong : ChangeSpec := { name := "fnExactWaitsOf", fn := fun _ => fun
  | [d1, d2, d3] => { results := [.lit (.bool false)], args := [d1, d2, d3] }
  | _ => none }
def FnExactWaitsOfWrongFalsely : Prop := fnExactWaitsOfRow.holds Try.pinned (OpenSpec.ofChange fnExactWaitsOfWrong)

/-- 'laws.FnExactHasRound': WHATEVER THE INPUT: true; the input reads as it did. -/
def fnExactHasRoundSpec : ChangeSpec := { name := "fnExactHasRound", fn := fun _ => fun
  | [d1, d2, d3] => { results := [.lit (.bool true)], args := [d1, d2, d3] }
  | _ => none }
def fnExactHasRoundRow : OpenClaim := { program := "ytmakbieljmldfaa", sum := "6f67a615620816bd551f5ee6c6d44bffbde84d6d9484fcc4aed157ef95836624", func := "loop.example/wholenet/laws.FnExactHasRound", spec := "fnExactHasRound", unfollowed := true, recurses := true, apart := false }
def FnExactHasRoundSaid : Prop := fnExactHasRoundRow.holds Try.pinned (OpenSpec.ofChange fnExactHasRoundSpec)

/-- ITS FALSE NEIGHBOUR: 'it returns false'. Refute it at one input. -/
def fnExactHasRoundWrong : ChangeSpec := { name := "fnExactHasRound", fn := fun _ => fun
  | [d1, d2, d3] => { results := [.lit (.bool false)], args := [d1, d2, d3] }
  | _ => none }
def FnExactHasRoundWrongFalsely : Prop := fnExactHasRoundRow.holds Try.pinned (OpenSpec.ofChange fnExactHasRoundWrong)

/- THE SECOND FORM. 'bulk': how many values and letters a reading holds, each counted each time it is reached (what is shared counts as often as it is met; a slice's spare places count too). A statement '..UptoSaid' is the law's where the arguments, and the package variables that the reading takes, are together of bulk at most 1048576: NARROWER than '..Said'. Prove '..Said' where nothing that the law and all that it calls make is longer than what came in: it says more and counts as full. Else prove '..UptoSaid'. A law counts once. -/
mutual
def uptoBulk {H : Type} : DataW H → Nat
  | .lit (.string bytes) => bytes.length + 1
  | .lit _ => 1
  | .nil => 1
  | .ptr d => uptoBulk d + 1
  | .slice elems spare => uptoBulkAll elems + uptoBulkAll spare + 1
  | .agg parts => uptoBulkAll parts + 1
  | .iface _ d => uptoBulk d + 1
  | .map entries => uptoBulkEntries entries + 1
  | .held _ => 1
def uptoBulkAll {H : Type} : List (DataW H) → Nat
  | [] => 0
  | d :: r => uptoBulk d + uptoBulkAll r
def uptoBulkEntries {H : Type} : List (Lit × DataW H) → Nat
  | [] => 0
  | x :: r => uptoBulkEntry x + uptoBulkEntries r
def uptoBulkEntry {H : Type} : Lit × DataW H → Nat
  | (.string bytes, d) => bytes.length + uptoBulk d + 1
  | (_, d) => uptoBulk d + 1
 end
def uptoSmall : (H : Type) → List (DataW H) → Bool := fun _ ds => decide (uptoBulkAll ds ≤ 1048576)
def OpenSpec.upto (s : _root_.Go.ChangeSpec) : _root_.Go.OpenSpec := { _root_.Go.OpenSpec.ofChange s with cond := some uptoSmall }

/-- 'laws.FnExactWireOf', WHERE WHAT IT READS IS OF BULK AT MOST 1048576: true; the input reads as it did. -/
def fnExactWireOfUptoRow : OpenClaim := { program := "ytmakbieljmldfaa", sum := "6f67a615620816bd551f5ee6c6d44bffbde84d6d9484fcc4aed157ef95836624", func := "loop.example/wholenet/laws.FnExactWireOf", spec := "fnExactWireOf", apart := false, narrowed := true }
def FnExactWireOfUptoSaid : Prop := fnExactWireOfUptoRow.holds Try.pinned (OpenSpec.upto fnExactWireOfSpec)

/-- 'laws.FnWaitPairs', WHERE WHAT IT READS IS OF BULK AT MOST 1048576: true; the input reads as it did. -/
def fnWaitPairsUptoRow : OpenClaim := { program := "ytmakbieljmldfaa", sum := "6f67a615620816bd551f5ee6c6d44bffbde84d6d9484fcc4aed157ef95836624", func := "loop.example/wholenet/laws.FnWaitPairs", spec := "fnWaitPairs", unfollowed := true, recurses := true, apart := false, narrowed := true }
def FnWaitPairsUptoSaid : Prop := fnWaitPairsUptoRow.holds Try.pinned (OpenSpec.upto fnWaitPairsSpec)

/-- 'laws.FnNoRound', WHERE WHAT IT READS IS OF BULK AT MOST 1048576: true; the input reads as it did. -/
def fnNoRoundUptoRow : OpenClaim := { program := "ytmakbieljmldfaa", sum := "6f67a615620816bd551f5ee6c6d44bffbde84d6d9484fcc4aed157ef95836624", func := "loop.example/wholenet/laws.FnNoRound", spec := "fnNoRound", unfollowed := true, recurses := true, apart := false, narrowed := true }
def FnNoRoundUptoSaid : Prop := fnNoRoundUptoRow.holds Try.pinned (OpenSpec.upto fnNoRoundSpec)

/-- 'laws.FnExactRouteXY', WHERE WHAT IT READS IS OF BULK AT MOST 1048576: true; the input reads as it did. -/
def fnExactRouteXYUptoRow : OpenClaim := { program := "ytmakbieljmldfaa", sum := "6f67a615620816bd551f5ee6c6d44bffbde84d6d9484fcc4aed157ef95836624", func := "loop.example/wholenet/laws.FnExactRouteXY", spec := "fnExactRouteXY", unfollowed := true, recurses := true, apart := false, narrowed := true }
def FnExactRouteXYUptoSaid : Prop := fnExactRouteXYUptoRow.holds Try.pinned (OpenSpec.upto fnExactRouteXYSpec)

/-- 'laws.FnExactRouteYX', WHERE WHAT IT READS IS OF BULK AT MOST 1048576: true; the input reads as it did. -/
def fnExactRouteYXUptoRow : OpenClaim := { program := "ytmakbieljmldfaa", sum := "6f67a615620816bd551f5ee6c6d44bffbde84d6d9484fcc4aed157ef95836624", func := "loop.example/wholenet/laws.FnExactRouteYX", spec := "fnExactRouteYX", unfollowed := true, recurses := true, apart := false, narrowed := true }
def FnExactRouteYXUptoSaid : Prop := fnExactRouteYXUptoRow.holds Try.pinned (OpenSpec.upto fnExactRouteYXSpec)

/-- 'laws.FnExactWayValid', WHERE WHAT IT READS IS OF BULK AT MOST 1048576: true; the input reads as it did. -/
def fnExactWayValidUptoRow : OpenClaim := { program := "ytmakbieljmldfaa", sum := "6f67a615620816bd551f5ee6c6d44bffbde84d6d9484fcc4aed157ef95836624", func := "loop.example/wholenet/laws.FnExactWayValid", spec := "fnExactWayValid", unfollowed := true, recurses := true, apart := false, narrowed := true }
def FnExactWayValidUptoSaid : Prop := fnExactWayValidUptoRow.holds Try.pinned (OpenSpec.upto fnExactWayValidSpec)

/-- 'laws.FnRouteNoRound', WHERE WHAT IT READS IS OF BULK AT MOST 1048576: true; the input reads as it did. -/
def fnRouteNoRoundUptoRow : OpenClaim := { program := "ytmakbieljmldfaa", sum := "6f67a615620816bd551f5ee6c6d44bffbde84d6d9484fcc4aed157ef95836624", func := "loop.example/wholenet/laws.FnRouteNoRound", spec := "fnRouteNoRound", unfollowed := true, recurses := true, apart := false, narrowed := true }
def FnRouteNoRoundUptoSaid : Prop := fnRouteNoRoundUptoRow.holds Try.pinned (OpenSpec.upto fnRouteNoRoundSpec)

/-- 'laws.FnRouteBack', WHERE WHAT IT READS IS OF BULK AT MOST 1048576: true; the input reads as it did. -/
def fnRouteBackUptoRow : OpenClaim := { program := "ytmakbieljmldfaa", sum := "6f67a615620816bd551f5ee6c6d44bffbde84d6d9484fcc4aed157ef95836624", func := "loop.example/wholenet/laws.FnRouteBack", spec := "fnRouteBack", unfollowed := true, recurses := true, apart := false, narrowed := true }
def FnRouteBackUptoSaid : Prop := fnRouteBackUptoRow.holds Try.pinned (OpenSpec.upto fnRouteBackSpec)

/-- 'laws.FnWire', WHERE WHAT IT READS IS OF BULK AT MOST 1048576: true; the input reads as it did. -/
def fnWireUptoRow : OpenClaim := { program := "ytmakbieljmldfaa", sum := "6f67a615620816bd551f5ee6c6d44bffbde84d6d9484fcc4aed157ef95836624", func := "loop.example/wholenet/laws.FnWire", spec := "fnWire", unfollowed := true, recurses := true, apart := false, narrowed := true }
def FnWireUptoSaid : Prop := fnWireUptoRow.holds Try.pinned (OpenSpec.upto fnWireSpec)

/-- 'laws.FnWayCut', WHERE WHAT IT READS IS OF BULK AT MOST 1048576: true; the input reads as it did. -/
def fnWayCutUptoRow : OpenClaim := { program := "ytmakbieljmldfaa", sum := "6f67a615620816bd551f5ee6c6d44bffbde84d6d9484fcc4aed157ef95836624", func := "loop.example/wholenet/laws.FnWayCut", spec := "fnWayCut", unfollowed := true, recurses := true, apart := false, narrowed := true }
def FnWayCutUptoSaid : Prop := fnWayCutUptoRow.holds Try.pinned (OpenSpec.upto fnWayCutSpec)

/-- 'laws.FnRoutes', WHERE WHAT IT READS IS OF BULK AT MOST 1048576: true; the input reads as it did. -/
def fnRoutesUptoRow : OpenClaim := { program := "ytmakbieljmldfaa", sum := "6f67a615620816bd551f5ee6c6d44bffbde84d6d9484fcc4aed157ef95836624", func := "loop.example/wholenet/laws.FnRoutes", spec := "fnRoutes", unfollowed := true, recurses := true, apart := false, narrowed := true }
def FnRoutesUptoSaid : Prop := fnRoutesUptoRow.holds Try.pinned (OpenSpec.upto fnRoutesSpec)

/-- 'laws.FnAlone', WHERE WHAT IT READS IS OF BULK AT MOST 1048576: true; the input reads as it did. -/
def fnAloneUptoRow : OpenClaim := { program := "ytmakbieljmldfaa", sum := "6f67a615620816bd551f5ee6c6d44bffbde84d6d9484fcc4aed157ef95836624", func := "loop.example/wholenet/laws.FnAlone", spec := "fnAlone", unfollowed := true, recurses := true, apart := false, narrowed := true }
def FnAloneUptoSaid : Prop := fnAloneUptoRow.holds Try.pinned (OpenSpec.upto fnAloneSpec)

/-- 'laws.FnExactRunWorms', WHERE WHAT IT READS IS OF BULK AT MOST 1048576: true; the input reads as it did. -/
def fnExactRunWormsUptoRow : OpenClaim := { program := "ytmakbieljmldfaa", sum := "6f67a615620816bd551f5ee6c6d44bffbde84d6d9484fcc4aed157ef95836624", func := "loop.example/wholenet/laws.FnExactRunWorms", spec := "fnExactRunWorms", unfollowed := true, recurses := true, apart := false, narrowed := true }
def FnExactRunWormsUptoSaid : Prop := fnExactRunWormsUptoRow.holds Try.pinned (OpenSpec.upto fnExactRunWormsSpec)

/-- 'laws.FnExactWaitsOf', WHERE WHAT IT READS IS OF BULK AT MOST 1048576: true; the input reads as it did. -/
def fnExactWaitsOfUptoRow : OpenClaim := { program := "ytmakbieljmldfaa", sum := "6f67a615620816bd551f5ee6c6d44bffbde84d6d9484fcc4aed157ef95836624", func := "loop.example/wholenet/laws.FnExactWaitsOf", spec := "fnExactWaitsOf", unfollowed := true, recurses := true, apart := false, narrowed := true }
def FnExactWaitsOfUptoSaid : Prop := fnExactWaitsOfUptoRow.holds Try.pinned (OpenSpec.upto fnExactWaitsOfSpec)

/-- 'laws.FnExactHasRound', WHERE WHAT IT READS IS OF BULK AT MOST 1048576: true; the input reads as it did. -/
def fnExactHasRoundUptoRow : OpenClaim := { program := "ytmakbieljmldfaa", sum := "6f67a615620816bd551f5ee6c6d44bffbde84d6d9484fcc4aed157ef95836624", func := "loop.example/wholenet/laws.FnExactHasRound", spec := "fnExactHasRound", unfollowed := true, recurses := true, apart := false, narrowed := true }
def FnExactHasRoundUptoSaid : Prop := fnExactHasRoundUptoRow.holds Try.pinned (OpenSpec.upto fnExactHasRoundSpec)

end Rows
end Go.Proofs.Ytmakbieljmldfaa
