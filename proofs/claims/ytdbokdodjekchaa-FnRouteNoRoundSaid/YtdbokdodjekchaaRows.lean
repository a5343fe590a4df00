/-
  No cell of these rows narrows 'for every input' (looked for: loops, veiled, ifaces, maps, wideKeys, modest, calm, conditions, laid).
  DERIVED. THE GIVEN ROWS OF THIS SEAT. 7 by the template 'for every input the law returns true; each argument reads behind the call as it read before'; 0 by the template 'total and deterministic' (their statements: YtdbokdodjekchaaTotals.lean).
  GIVEN WITH THE SEED: the statements are not yours to turn. If you find one false, say at which input.
  Laid BY PROGRAM, IN A SANDBOX (cutbox-rows.mjs): the forced cells as the released guide's own fill.sh prints them over the translation 6d8f2f4c5b07386f… (all of the seat's roots in one cut). By AI agents, Wed Nov 11 2026. No macro, syntax, notation, axiom, sorry.
-/
import Derived.Test.YtdbokdodjekchaaChecked
import GoSem.Claim
import GoSem.ClaimJoined
import GoSem.ClaimMapViews
import Derived.JoinedTies
import Derived.KernelRfl
namespace Go.Proofs.Ytdbokdodjekchaa
/- THE CELL 'sum', in the pinned program and in every row, IS THE sha256 OF THE DUMP (.gsa) THAT YtdbokdodjekchaaProg.lean LOADS. Nothing in Lean hashes anything: it is a label: what it is worth is what the hold of that sum in a sandbox is worth. -/
noncomputable def Try.pinned : Pinned := { name := "ytdbokdodjekchaa", sum := "6d8f2f4c5b07386f5819735b363650d32afe05d96d307c6c13f688bda539b791", checked := Try.checked }
namespace Rows
def none {H : Type} : Left H := { results := [], args := [] }

/-- 'laws.FnWaitPairs': WHATEVER THE INPUT: true; the input reads as it did. -/
def fnWaitPairsSpec : ChangeSpec := { name := "fnWaitPairs", fn := fun _ => fun
  | [d] => { results := [.lit (.bool true)], args := [d] }
  | _ => none }
def fnWaitPairsRow : OpenClaim := { program := "ytdbokdodjekchaa", sum := "6d8f2f4c5b07386f5819735b363650d32afe05d96d307c6c13f688bda539b791", func := "loop.example/wholenet/laws.FnWaitPairs", spec := "fnWaitPairs", unfollowed := true, recurses := true, apart := false }
def FnWaitPairsSaid : Prop := fnWaitPairsRow.holds Try.pinned (OpenSpec.ofChange fnWaitPairsSpec)

/-- ITS FALSE NEIGHBOUR: 'it returns false'. Refute it at one input. -/
def fnWaitPairsWrong : ChangeSpec := { name := "fnWaitPairs", fn := fun _ => fun
  | [d] => { results := [.lit (.bool false)], args := [d] }
  | _ => none }
def FnWaitPairsWrongFalsely : Prop := fnWaitPairsRow.holds Try.pinned (OpenSpec.ofChange fnWaitPairsWrong)

/-- 'laws.FnNoRound': WHATEVER THE INPUT: true; the input reads as it did. -/
def fnNoRoundSpec : ChangeSpec := { name := "fnNoRound", fn := fun _ => fun
  | [d] => { results := [.lit (.bool true)], args := [d] }
  | _ => none }
def fnNoRoundRow : OpenClaim := { program := "ytdbokdodjekchaa", sum := "6d8f2f4c5b07386f5819735b363650d32afe05d96d307c6c13f688bda539b791", func := "loop.example/wholenet/laws.FnNoRound", spec := "fnNoRound", unfollowed := true, recurses := true, apart := false }
def FnNoRoundSaid : Prop := fnNoRoundRow.holds Try.pinned (OpenSpec.ofChange fnNoRoundSpec)

/-- ITS FALSE NEIGHBOUR: 'it returns false'. Refute it at one input. -/
def fnNoRoundWrong : ChangeSpec := { name := "fnNoRound", fn := fun _ => fun
  | [d] => { results := [.lit (.bool false)], args := [d] }
  | _ => none }
def FnNoRoundWrongFalsely : Prop := fnNoRoundRow.holds Try.pinned (OpenSpec.ofChange fnNoRoundWrong)

/-- 'laws.FnRouteNoRound': WHATEVER THE INPUT: true; the input reads as it did. -/
def fnRouteNoRoundSpec : ChangeSpec := { name := "fnRouteNoRound", fn := fun _ => fun
  | [d] => { results := [.lit (.bool true)], args := [d] }
  | _ => none }
def fnRouteNoRoundRow : OpenClaim := { program := "ytdbokdodjekchaa", sum := "6d8f2f4c5b07386f5819735b363650d32afe05d96d307c6c13f688bda539b791", func := "loop.example/wholenet/laws.FnRouteNoRound", spec := "fnRouteNoRound", unfollowed := true, recurses := true, apart := false }
def FnRouteNoRoundSaid : Prop := fnRouteNoRoundRow.holds Try.pinned (OpenSpec.ofChange fnRouteNoRoundSpec)

/-- ITS FALSE NEIGHBOUR: 'it returns false'. Refute it at one input. -/
def fnRouteNoRoundWrong : ChangeSpec := { name := "fnRouteNoRound", fn := fun _ => fun
  | [d] => { results := [.lit (.bool false)], args := [d] }
  | _ => none }
def FnRouteNoRoundWrongFalsely : Prop := fnRouteNoRoundRow.holds Try.pinned (OpenSpec.ofChange fnRouteNoRoundWrong)

/-- 'laws.FnAlone': WHATEVER THE INPUT: true; the input reads as it did. -/
def fnAloneSpec : ChangeSpec := { name := "fnAlone", fn := fun _ => fun
  | [d] => { results := [.lit (.bool true)], args := [d] }
  | _ => none }
def fnAloneRow : OpenClaim := { program := "ytdbokdodjekchaa", sum := "6d8f2f4c5b07386f5819735b363650d32afe05d96d307c6c13f688bda539b791", func := "loop.example/wholenet/laws.FnAlone", spec := "fnAlone", unfollowed := true, recurses := true, apart := false }
def FnAloneSaid : Prop := fnAloneRow.holds Try.pinned (OpenSpec.ofChange fnAloneSpec)

/-- ITS FALSE NEIGHBOUR: 'it returns false'. Refute it at one input. -/
def fnAloneWrong : ChangeSpec := { name := "fnAlone", fn := fun _ => fun
  | [d] => { results := [.lit (.bool false)], args := [d] }
  | _ => none }
def FnAloneWrongFalsely : Prop := fnAloneRow.holds Try.pinned (OpenSpec.ofChange fnAloneWrong)

/-- 'laws.FnExactRunWorms': WHATEVER THE INPUT: true; the input reads as it did. -/
def fnExactRunWormsSpec : ChangeSpec := { name := "fnExactRunWorms", fn := fun _ => fun
  | [d1, d2, d3] => { results := [.lit (.bool true)], args := [d1, d2, d3] }
  | _ => none }
def fnExactRunWormsRow : OpenClaim := { program := "ytdbokdodjekchaa", sum := "6d8f2f4c5b07386f5819735b363650d32afe05d96d307c6c13f688bda539b791", func := "loop.example/wholenet/laws.FnExactRunWorms", spec := "fnExactRunWorms", unfollowed := true, recurses := true, apart := false }
def FnExactRunWormsSaid : Prop := fnExactRunWormsRow.holds Try.pinned (OpenSpec.ofChange fnExactRunWormsSpec)

/-- ITS FALSE NEIGHBOUR: 'it returns false'. Refute it at one input. -/
def fnExactRunWormsWrong : ChangeSpec := { name := "fnExactRunWorms", fn := fun _ => fun
  | [d1, d2, d3] => { results := [.lit (.bool false)], args := [d1, d2, d3] }
  | _ => none }
def FnExactRunWormsWrongFalsely : Prop := fnExactRunWormsRow.holds Try.pinned (OpenSpec.ofChange fnExactRunWormsWrong)

/-- 'laws.FnExactWaitsOf': WHATEVER THE INPUT: true; the input reads as it did. -/
def fnExactWaitsOfSpec : ChangeSpec := { name := "fnExactWaitsOf", fn := fun _ => fun
  | [d1, d2, d3] => { results := [.lit (.bool true)], args := [d1, d2, d3] }
  | _ => none }
def fnExactWaitsOfRow : OpenClaim := { program := "ytdbokdodjekchaa", sum := "6d8f2f4c5b07386f5819735b363650d32afe05d96d307c6c13f688bda539b791", func := "loop.example/wholenet/laws.FnExactWaitsOf", spec := "fnExactWaitsOf", unfollowed := true, recurses := true, apart := false }
def FnExactWaitsOfSaid : Prop := fnExactWaitsOfRow.holds Try.pinned (OpenSpec.ofChange fnExactWaitsOfSpec)

/-- ITS FALSE NEIGHBOUR: 'it returns false'. Refute it at one input. -/
def fnExactWaitsOfWrong : ChangeSpec := { name := "fnExactWaitsOf", fn := fun _ => fun
  | [d1, d2, d3] => { results := [.lit (.bool false)], args := [d1, d2, d3] }
  | _ => none }
def FnExactWaitsOfWrongFalsely : Prop := fnExactWaitsOfRow.holds Try.pinned (OpenSpec.ofChange fnExactWaitsOfWrong)

/-- 'laws.FnExactHasRound': WHATEVER THE INPUT: true; the input reads as it did. -/
def fnExactHasRoundSpec : ChangeSpec := { name := "fnExactHasRound", fn := fun _ => fun
  | [d1, d2, d3] => { results := [.lit (.bool true)], args := [d1, d2, d3] }
  | _ => none }
def fnExactHasRoundRow : OpenClaim := { program := "ytdbokdodjekchaa", sum := "6d8f2f4c5b07386f5819735b363650d32afe05d96d307c6c13f688bda539b791", func := "loop.example/wholenet/laws.FnExactHasRound", spec := "fnExactHasRound", unfollowed := true, recurses := true, apart := false }
def FnExactHasRoundSaid : Prop := fnExactHasRoundRow.holds Try.pinned (OpenSpec.ofChange fnExactHasRoundSpec)

/-- ITS FALSE NEIGHBOUR: 'it returns false'. Refute it at one input. -/
def fnExactHasRoundWrong : ChangeSpec := { name := "fnExactHasRound", fn := fun _ => fun
  | [d1, d2, d3] => { results := [.lit (.bool false)], args := [d1, d2, d3] }
  | _ => none }
def FnExactHasRoundWrongFalsely : Prop := fnExactHasRoundRow.holds Try.pinned (OpenSpec.ofChange fnExactHasRoundWrong)

/- THE SECOND FORM. 'bulk': how many values and letters a reading holds, each counted each time it is reached (what is shared counts as often as it is met; a slice's spare places count too). A statement '..UptoSaid' is the law's where the arguments, and the package variables that the reading takes, are together of bulk at most 1048576: NARROWER than '..Said'. Prove '..Said' where nothing that the law and all that it calls make is longer than what came in: it says more and counts as full. Else prove '..UptoSaid'. A law counts once. -/
mutual
def uptoBulk {H : Type} : DataW H → Nat
  | .lit (.string bytes) => bytes.length + 1
  | .lit _ => 1
  | .nil => 1
  | .ptr d => uptoBulk d + 1
  | .slice elems spare => uptoBulkAll elems + uptoBulkAll spare + 1
  | .agg parts => uptoBulkAll parts + 1
  | .iface _ d => uptoBulk d + 1
  | .map entries => uptoBulkEntries entries + 1
  | .held _ => 1
def uptoBulkAll {H : Type} : List (DataW H) → Nat
  | [] => 0
  | d :: r => uptoBulk d + uptoBulkAll r
def uptoBulkEntries {H : Type} : List (Lit × DataW H) → Nat
  | [] => 0
  | x :: r => uptoBulkEntry x + uptoBulkEntries r
def uptoBulkEntry {H : Type} : Lit × DataW H → Nat
  | (.string bytes, d) => bytes.length + uptoBulk d + 1
  | (_, d) => uptoBulk d + 1
 end
def uptoSmall : (H : Type) → List (DataW H) → Bool := fun _ ds => decide (uptoBulkAll ds ≤ 1048576)
def OpenSpec.upto (s : _root_.Go.ChangeSpec) : _root_.Go.OpenSpec := { _root_.Go.OpenSpec.ofChange s with cond := some uptoSmall }

/-- 'laws.FnWaitPairs', WHERE WHAT IT READS IS OF BULK AT MOST 1048576: true; the input reads as it did. -/
def fnWaitPairsUptoRow : OpenClaim := { program := "ytdbokdodjekchaa", sum := "6d8f2f4c5b07386f5819735b363650d32afe05d96d307c6c13f688bda539b791", func := "loop.example/wholenet/laws.FnWaitPairs", spec := "fnWaitPairs", unfollowed := true, recurses := true, apart := false, narrowed := true }
def FnWaitPairsUptoSaid : Prop := fnWaitPairsUptoRow.holds Try.pinned (OpenSpec.upto fnWaitPairsSpec)

/-- 'laws.FnNoRound', WHERE WHAT IT READS IS OF BULK AT MOST 1048576: true; the input reads as it did. -/
def fnNoRoundUptoRow : OpenClaim := { program := "ytdbokdodjekchaa", sum := "6d8f2f4c5b07386f5819735b363650d32afe05d96d307c6c13f688bda539b791", func := "loop.example/wholenet/laws.FnNoRound", spec := "fnNoRound", unfollowed := true, recurses := true, apart := false, narrowed := true }
def FnNoRoundUptoSaid : Prop := fnNoRoundUptoRow.holds Try.pinned (OpenSpec.upto fnNoRoundSpec)

/-- 'laws.FnRouteNoRound', WHERE WHAT IT READS IS OF BULK AT MOST 1048576: true; the input reads as it did. -/
def fnRouteNoRoundUptoRow : OpenClaim := { program := "ytdbokdodjekchaa", sum := "6d8f2f4c5b07386f5819735b363650d32afe05d96d307c6c13f688bda539b791", func := "loop.example/wholenet/laws.FnRouteNoRound", spec := "fnRouteNoRound", unfollowed := true, recurses := true, apart := false, narrowed := true }
def FnRouteNoRoundUptoSaid : Prop := fnRouteNoRoundUptoRow.holds Try.pinned (OpenSpec.upto fnRouteNoRoundSpec)

/-- 'laws.FnAlone', WHERE WHAT IT READS IS OF BULK AT MOST 1048576: true; the input reads as it did. -/
def fnAloneUptoRow : OpenClaim := { program := "ytdbokdodjekchaa", sum := "6d8f2f4c5b07386f5819735b363650d32afe05d96d307c6c13f688bda539b791", func := "loop.example/wholenet/laws.FnAlone", spec := "fnAlone", unfollowed := true, recurses := true, apart := false, narrowed := true }
def FnAloneUptoSaid : Prop := fnAloneUptoRow.holds Try.pinned (OpenSpec.upto fnAloneSpec)

/-- 'laws.FnExactRunWorms', WHERE WHAT IT READS IS OF BULK AT MOST 1048576: true; the input reads as it did. -/
def fnExactRunWormsUptoRow : OpenClaim := { program := "ytdbokdodjekchaa", sum := "6d8f2f4c5b07386f5819735b363650d32afe05d96d307c6c13f688bda539b791", func := "loop.example/wholenet/laws.FnExactRunWorms", spec := "fnExactRunWorms", unfollowed := true, recurses := true, apart := false, narrowed := true }
def FnExactRunWormsUptoSaid : Prop := fnExactRunWormsUptoRow.holds Try.pinned (OpenSpec.upto fnExactRunWormsSpec)

/-- 'laws.FnExactWaitsOf', WHERE WHAT IT READS IS OF BULK AT MOST 1048576: true; the input reads as it did. -/
def fnExactWaitsOfUptoRow : OpenClaim := { program := "ytdbokdodjekchaa", sum := "6d8f2f4c5b07386f5819735b363650d32afe05d96d307c6c13f688bda539b791", func := "loop.example/wholenet/laws.FnExactWaitsOf", spec := "fnExactWaitsOf", unfollowed := true, recurses := true, apart := false, narrowed := true }
def FnExactWaitsOfUptoSaid : Prop := fnExactWaitsOfUptoRow.holds Try.pinned (OpenSpec.upto fnExactWaitsOfSpec)

/-- 'laws.FnExactHasRound', WHERE WHAT IT READS IS OF BULK AT MOST 1048576: true; the input reads as it did. -/
def fnExactHasRoundUptoRow : OpenClaim := { program := "ytdbokdodjekchaa", sum := "6d8f2f4c5b07386f5819735b363650d32afe05d96d307c6c13f688bda539b791", func := "loop.example/wholenet/laws.FnExactHasRound", spec := "fnExactHasRound", unfollowed := true, recurses := true, apart := false, narrowed := true }
def FnExactHasRoundUptoSaid : Prop := fnExactHasRoundUptoRow.holds Try.pinned (OpenSpec.upto fnExactHasRoundSpec)

end Rows
end Go.Proofs.Ytdbokdodjekchaa
