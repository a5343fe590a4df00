/-
  No cell of these rows narrows 'for every input' (looked for: loops, veiled, ifaces, maps, wideKeys, modest, calm, conditions, laid).
  DERIVED. THE GIVEN ROWS OF THIS SEAT. 11 by the template 'for every input the law returns true; each argument reads behind the call as it read before'; 0 by the template 'total and deterministic' (their statements: YtekbfebjbpnhgaaTotals.lean).
  GIVEN WITH THE SEED: the statements are not yours to turn. If you find one false, say at which input.
  Laid BY PROGRAM, IN A SANDBOX (cutbox-rows.mjs): the forced cells as the released guide's own fill.sh prints them over the translation a29cae9865336ba8… (all of the seat's roots in one cut). By AI agents, Wed Nov 11 2026. No macro, syntax, notation, axiom, sorry.
-/
import Derived.Test.YtekbfebjbpnhgaaChecked
import GoSem.Claim
import GoSem.ClaimJoined
import GoSem.ClaimMapViews
import Derived.JoinedTies
import Derived.KernelRfl
namespace Go.Proofs.Ytekbfebjbpnhgaa
/- THE CELL 'sum', in the pinned program and in every row, IS THE sha256 OF THE DUMP (.gsa) THAT YtekbfebjbpnhgaaProg.lean LOADS. Nothing in Lean hashes anything: it is a label: what it is worth is what the hold of that sum in a sandbox is worth. -/
noncomputable def Try.pinned : Pinned := { name := "ytekbfebjbpnhgaa", sum := "a29cae9865336ba896ac85f3f3780db6d1619f5161313d026bf406d5a9b37961", checked := Try.checked }
namespace Rows
def none {H : Type} : Left H := { results := [], args := [] }

/-- 'laws.FnExactSpanHas': WHATEVER THE INPUT: true; the input reads as it did. -/
def fnExactSpanHasSpec : ChangeSpec := { name := "fnExactSpanHas", fn := fun _ => fun
  | [d1, d2] => { results := [.lit (.bool true)], args := [d1, d2] }
  | _ => none }
def fnExactSpanHasRow : OpenClaim := { program := "ytekbfebjbpnhgaa", sum := "a29cae9865336ba896ac85f3f3780db6d1619f5161313d026bf406d5a9b37961", func := "loop.example/wholenet/laws.FnExactSpanHas", spec := "fnExactSpanHas", apart := false }
def FnExactSpanHasSaid : Prop := fnExactSpanHasRow.holds Try.pinned (OpenSpec.ofChange fnExactSpanHasSpec)

/-- ITS FALSE NEIGHBOUR: 'it returns false'. Refute it at one input. -/
def fnExactSpanHasWrong : ChangeSpec := { name := "fnExactSpanHas", fn := fun _ => fun
  | [d1, d2] => { results := [.lit (.bool false)], args := [d1, d2] }
  | _ => none }
def FnExactSpanHasWrongFalsely : Prop := fnExactSpanHasRow.holds Try.pinned (OpenSpec.ofChange fnExactSpanHasWrong)

/-- 'laws.FnExactExchangeValid': WHATEVER THE INPUT: true; the input reads as it did. -/
def fnExactExchangeValidSpec : ChangeSpec := { name := "fnExactExchangeValid", fn := fun _ => fun
  | [d] => { results := [.lit (.bool true)], args := [d] }
  | _ => none }
def fnExactExchangeValidRow : OpenClaim := { program := "ytekbfebjbpnhgaa", sum := "a29cae9865336ba896ac85f3f3780db6d1619f5161313d026bf406d5a9b37961", func := "loop.example/wholenet/laws.FnExactExchangeValid", spec := "fnExactExchangeValid", apart := false }
def FnExactExchangeValidSaid : Prop := fnExactExchangeValidRow.holds Try.pinned (OpenSpec.ofChange fnExactExchangeValidSpec)

/-- ITS FALSE NEIGHBOUR: 'it returns false'. Refute it at one input. -/
def fnExactExchangeValidWrong : ChangeSpec := { name := "fnExactExchangeValid", fn := fun _ => fun
  | [d] => { results := [.lit (.bool false)], args := [d] }
  | _ => none }
def FnExactExchangeValidWrongFalsely : Prop := fnExactExchangeValidRow.holds Try.pinned (OpenSpec.ofChange fnExactExchangeValidWrong)

/-- 'laws.FnExactTwiceAhead': WHATEVER THE INPUT: true; the input reads as it did. -/
def fnExactTwiceAheadSpec : ChangeSpec := { name := "fnExactTwiceAhead", fn := fun _ => fun
  | [d] => { results := [.lit (.bool true)], args := [d] }
  | _ => none }
def fnExactTwiceAheadRow : OpenClaim := { program := "ytekbfebjbpnhgaa", sum := "a29cae9865336ba896ac85f3f3780db6d1619f5161313d026bf406d5a9b37961", func := "loop.example/wholenet/laws.FnExactTwiceAhead", spec := "fnExactTwiceAhead", apart := false }
def FnExactTwiceAheadSaid : Prop := fnExactTwiceAheadRow.holds Try.pinned (OpenSpec.ofChange fnExactTwiceAheadSpec)

/-- ITS FALSE NEIGHBOUR: 'it returns false'. Refute it at one input. -/
def fnExactTwiceAheadWrong : ChangeSpec := { name := "fnExactTwiceAhead", fn := fun _ => fun
  | [d] => { results := [.lit (.bool false)], args := [d] }
  | _ => none }
def FnExactTwiceAheadWrongFalsely : Prop := fnExactTwiceAheadRow.holds Try.pinned (OpenSpec.ofChange fnExactTwiceAheadWrong)

/-- 'laws.FnExactWayOf': WHATEVER THE INPUT: true; the input reads as it did. -/
def fnExactWayOfSpec : ChangeSpec := { name := "fnExactWayOf", fn := fun _ => fun
  | [d] => { results := [.lit (.bool true)], args := [d] }
  | _ => none }
def fnExactWayOfRow : OpenClaim := { program := "ytekbfebjbpnhgaa", sum := "a29cae9865336ba896ac85f3f3780db6d1619f5161313d026bf406d5a9b37961", func := "loop.example/wholenet/laws.FnExactWayOf", spec := "fnExactWayOf", apart := false }
def FnExactWayOfSaid : Prop := fnExactWayOfRow.holds Try.pinned (OpenSpec.ofChange fnExactWayOfSpec)

/-- ITS FALSE NEIGHBOUR: 'it returns false'. Refute it at one input. -/
def fnExactWayOfWrong : ChangeSpec := { name := "fnExactWayOf", fn := fun _ => fun
  | [d] => { results := [.lit (.bool false)], args := [d] }
  | _ => none }
def FnExactWayOfWrongFalsely : Prop := fnExactWayOfRow.holds Try.pinned (OpenSpec.ofChange fnExactWayOfWrong)

/-- 'laws.FnExactTalkTimes': WHATEVER THE INPUT: true; the input reads as it did. -/
def fnExactTalkTimesSpec : ChangeSpec := { name := "fnExactTalkTimes", fn := fun _ => fun
  | [d1, d2, d3, d4, d5] => { results := [.lit (.bool true)], args := [d1, d2, d3, d4, d5] }
  | _ => none }
def fnExactTalkTimesRow : OpenClaim := { program := "ytekbfebjbpnhgaa", sum := "a29cae9865336ba896ac85f3f3780db6d1619f5161313d026bf406d5a9b37961", func := "loop.example/wholenet/laws.FnExactTalkTimes", spec := "fnExactTalkTimes", apart := false }
def FnExactTalkTimesSaid : Prop := fnExactTalkTimesRow.holds Try.pinned (OpenSpec.ofChange fnExactTalkTimesSpec)

/-- ITS FALSE NEIGHBOUR: 'it returns false'. Refute it at one input. -/
def fnExactTalkTimesWrong : ChangeSpec := { name := "fnExactTalkTimes", fn := fun _ => fun
  | [d1, d2, d3, d4, d5] => { results := [.lit (.bool false)], args := [d1, d2, d3, d4, d5] }
  | _ => none }
def FnExactTalkTimesWrongFalsely : Prop := fnExactTalkTimesRow.holds Try.pinned (OpenSpec.ofChange fnExactTalkTimesWrong)

/-- 'laws.FnExactSpanOf': WHATEVER THE INPUT: true; the input reads as it did. -/
def fnExactSpanOfSpec : ChangeSpec := { name := "fnExactSpanOf", fn := fun _ => fun
  | [d] => { results := [.lit (.bool true)], args := [d] }
  | _ => none }
def fnExactSpanOfRow : OpenClaim := { program := "ytekbfebjbpnhgaa", sum := "a29cae9865336ba896ac85f3f3780db6d1619f5161313d026bf406d5a9b37961", func := "loop.example/wholenet/laws.FnExactSpanOf", spec := "fnExactSpanOf", apart := false }
def FnExactSpanOfSaid : Prop := fnExactSpanOfRow.holds Try.pinned (OpenSpec.ofChange fnExactSpanOfSpec)

/-- ITS FALSE NEIGHBOUR: 'it returns false'. Refute it at one input. -/
def fnExactSpanOfWrong : ChangeSpec := { name := "fnExactSpanOf", fn := fun _ => fun
  | [d] => { results := [.lit (.bool false)], args := [d] }
  | _ => none }
def FnExactSpanOfWrongFalsely : Prop := fnExactSpanOfRow.holds Try.pinned (OpenSpec.ofChange fnExactSpanOfWrong)

/-- 'laws.FnAheadEven': WHATEVER THE INPUT: true; the input reads as it did. -/
def fnAheadEvenSpec : ChangeSpec := { name := "fnAheadEven", fn := fun _ => fun
  | [d] => { results := [.lit (.bool true)], args := [d] }
  | _ => none }
def fnAheadEvenRow : OpenClaim := { program := "ytekbfebjbpnhgaa", sum := "a29cae9865336ba896ac85f3f3780db6d1619f5161313d026bf406d5a9b37961", func := "loop.example/wholenet/laws.FnAheadEven", spec := "fnAheadEven", apart := false }
def FnAheadEvenSaid : Prop := fnAheadEvenRow.holds Try.pinned (OpenSpec.ofChange fnAheadEvenSpec)

/-- ITS FALSE NEIGHBOUR: 'it returns false'. Refute it at one input. -/
def fnAheadEvenWrong : ChangeSpec := { name := "fnAheadEven", fn := fun _ => fun
  | [d] => { results := [.lit (.bool false)], args := [d] }
  | _ => none }
def FnAheadEvenWrongFalsely : Prop := fnAheadEvenRow.holds Try.pinned (OpenSpec.ofChange fnAheadEvenWrong)

/-- 'laws.FnAhead': WHATEVER THE INPUT: true; the input reads as it did. -/
def fnAheadSpec : ChangeSpec := { name := "fnAhead", fn := fun _ => fun
  | [d] => { results := [.lit (.bool true)], args := [d] }
  | _ => none }
def fnAheadRow : OpenClaim := { program := "ytekbfebjbpnhgaa", sum := "a29cae9865336ba896ac85f3f3780db6d1619f5161313d026bf406d5a9b37961", func := "loop.example/wholenet/laws.FnAhead", spec := "fnAhead", apart := false }
def FnAheadSaid : Prop := fnAheadRow.holds Try.pinned (OpenSpec.ofChange fnAheadSpec)

/-- ITS FALSE NEIGHBOUR: 'it returns false'. Refute it at one input. -/
def fnAheadWrong : ChangeSpec := { name := "fnAhead", fn := fun _ => fun
  | [d] => { results := [.lit (.bool false)], args := [d] }
  | _ => none }
def FnAheadWrongFalsely : Prop := fnAheadRow.holds Try.pinned (OpenSpec.ofChange fnAheadWrong)

/-- 'laws.FnSpan': WHATEVER THE INPUT: true; the input reads as it did. -/
def fnSpanSpec : ChangeSpec := { name := "fnSpan", fn := fun _ => fun
  | [d] => { results := [.lit (.bool true)], args := [d] }
  | _ => none }
def fnSpanRow : OpenClaim := { program := "ytekbfebjbpnhgaa", sum := "a29cae9865336ba896ac85f3f3780db6d1619f5161313d026bf406d5a9b37961", func := "loop.example/wholenet/laws.FnSpan", spec := "fnSpan", apart := false }
def FnSpanSaid : Prop := fnSpanRow.holds Try.pinned (OpenSpec.ofChange fnSpanSpec)

/-- ITS FALSE NEIGHBOUR: 'it returns false'. Refute it at one input. -/
def fnSpanWrong : ChangeSpec := { name := "fnSpan", fn := fun _ => fun
  | [d] => { results := [.lit (.bool false)], args := [d] }
  | _ => none }
def FnSpanWrongFalsely : Prop := fnSpanRow.holds Try.pinned (OpenSpec.ofChange fnSpanWrong)

/-- 'laws.FnExactBestOf': WHATEVER THE INPUT: true; the input reads as it did. -/
def fnExactBestOfSpec : ChangeSpec := { name := "fnExactBestOf", fn := fun _ => fun
  | [d] => { results := [.lit (.bool true)], args := [d] }
  | _ => none }
def fnExactBestOfRow : OpenClaim := { program := "ytekbfebjbpnhgaa", sum := "a29cae9865336ba896ac85f3f3780db6d1619f5161313d026bf406d5a9b37961", func := "loop.example/wholenet/laws.FnExactBestOf", spec := "fnExactBestOf", unfollowed := true, recurses := true, apart := false }
def FnExactBestOfSaid : Prop := fnExactBestOfRow.holds Try.pinned (OpenSpec.ofChange fnExactBestOfSpec)

/-- ITS FALSE NEIGHBOUR: 'it returns false'. Refute it at one input. -/
def fnExactBestOfWrong : ChangeSpec := { name := "fnExactBestOf", fn := fun _ => fun
  | [d] => { results := [.lit (.bool false)], args := [d] }
  | _ => none }
def FnExactBestOfWrongFalsely : Prop := fnExactBestOfRow.holds Try.pinned (OpenSpec.ofChange fnExactBestOfWrong)

/-- 'laws.FnBest': WHATEVER THE INPUT: true; the input reads as it did. -/
def fnBestSpec : ChangeSpec := { name := "fnBest", fn := fun _ => fun
  | [d] => { results := [.lit (.bool true)], args := [d] }
  | _ => none }
def fnBestRow : OpenClaim := { program := "ytekbfebjbpnhgaa", sum := "a29cae9865336ba896ac85f3f3780db6d1619f5161313d026bf406d5a9b37961", func := "loop.example/wholenet/laws.FnBest", spec := "fnBest", unfollowed := true, recurses := true, apart := false }
def FnBestSaid : Prop := fnBestRow.holds Try.pinned (OpenSpec.ofChange fnBestSpec)

/-- ITS FALSE NEIGHBOUR: 'it returns false'. Refute it at one input. -/
def fnBestWrong : ChangeSpec := { name := "fnBest", fn := fun _ => fun
  | [d] => { results := [.lit (.bool false)], args := [d] }
  | _ => none }
def FnBestWrongFalsely : Prop := fnBestRow.holds Try.pinned (OpenSpec.ofChange fnBestWrong)

/- THE SECOND FORM. 'bulk': how many values and letters a reading holds, each counted each time it is reached (what is shared counts as often as it is met; a slice's spare places count too). A statement '..UptoSaid' is the law's where the arguments, and the package variables that the reading takes, are together of bulk at most 1048576: NARROWER than '..Said'. Prove '..Said' where nothing that the law and all that it calls make is longer than what came in: it says more and counts as full. Else prove '..UptoSaid'. A law counts once. -/
mutual
def uptoBulk {H : Type} : DataW H → Nat
  | .lit (.string bytes) => bytes.length + 1
  | .lit _ => 1
  | .nil => 1
  | .ptr d => uptoBulk d + 1
  | .slice elems spare => uptoBulkAll elems + uptoBulkAll spare + 1
  | .agg parts => uptoBulkAll parts + 1
  | .iface _ d => uptoBulk d + 1
  | .map entries => uptoBulkEntries entries + 1
  | .held _ => 1
def uptoBulkAll {H : Type} : List (DataW H) → Nat
  | [] => 0
  | d :: r => uptoBulk d + uptoBulkAll r
def uptoBulkEntries {H : Type} : List (Lit × DataW H) → Nat
  | [] => 0
  | x :: r => uptoBulkEntry x + uptoBulkEntries r
def uptoBulkEntry {H : Type} : Lit × DataW H → Nat
  | (.string bytes, d) => bytes.length + uptoBulk d + 1
  | (_, d) => uptoBulk d + 1
 end
def uptoSmall : (H : Type) → List (DataW H) → Bool := fun _ ds => decide (uptoBulkAll ds ≤ 1048576)
def OpenSpec.upto (s : _root_.Go.ChangeSpec) : _root_.Go.OpenSpec := { _root_.Go.OpenSpec.ofChange s with cond := some uptoSmall }

/-- 'laws.FnExactSpanHas', WHERE WHAT IT READS IS OF BULK AT MOST 1048576: true; the input reads as it did. -/
def fnExactSpanHasUptoRow : OpenClaim := { program := "ytekbfebjbpnhgaa", sum := "a29cae9865336ba896ac85f3f3780db6d1619f5161313d026bf406d5a9b37961", func := "loop.example/wholenet/laws.FnExactSpanHas", spec := "fnExactSpanHas", apart := false, narrowed := true }
def FnExactSpanHasUptoSaid : Prop := fnExactSpanHasUptoRow.holds Try.pinned (OpenSpec.upto fnExactSpanHasSpec)

/-- 'laws.FnExactExchangeValid', WHERE WHAT IT READS IS OF BULK AT MOST 1048576: true; the input reads as it did. -/
def fnExactExchangeValidUptoRow : OpenClaim := { program := "ytekbfebjbpnhgaa", sum := "a29cae9865336ba896ac85f3f3780db6d1619f5161313d026bf406d5a9b37961", func := "loop.example/wholenet/laws.FnExactExchangeValid", spec := "fnExactExchangeValid", apart := false, narrowed := true }
def FnExactExchangeValidUptoSaid : Prop := fnExactExchangeValidUptoRow.holds Try.pinned (OpenSpec.upto fnExactExchangeValidSpec)

/-- 'laws.FnExactTwiceAhead', WHERE WHAT IT READS IS OF BULK AT MOST 1048576: true; the input reads as it did. -/
def fnExactTwiceAheadUptoRow : OpenClaim := { program := "ytekbfebjbpnhgaa", sum := "a29cae9865336ba896ac85f3f3780db6d1619f5161313d026bf406d5a9b37961", func := "loop.example/wholenet/laws.FnExactTwiceAhead", spec := "fnExactTwiceAhead", apart := false, narrowed := true }
def FnExactTwiceAheadUptoSaid : Prop := fnExactTwiceAheadUptoRow.holds Try.pinned (OpenSpec.upto fnExactTwiceAheadSpec)

/-- 'laws.FnExactWayOf', WHERE WHAT IT READS IS OF BULK AT MOST 1048576: true; the input reads as it did. -/
def fnExactWayOfUptoRow : OpenClaim := { program := "ytekbfebjbpnhgaa", sum := "a29cae9865336ba896ac85f3f3780db6d1619f5161313d026bf406d5a9b37961", func := "loop.example/wholenet/laws.FnExactWayOf", spec := "fnExactWayOf", apart := false, narrowed := true }
def FnExactWayOfUptoSaid : Prop := fnExactWayOfUptoRow.holds Try.pinned (OpenSpec.upto fnExactWayOfSpec)

/-- 'laws.FnExactTalkTimes', WHERE WHAT IT READS IS OF BULK AT MOST 1048576: true; the input reads as it did. -/
def fnExactTalkTimesUptoRow : OpenClaim := { program := "ytekbfebjbpnhgaa", sum := "a29cae9865336ba896ac85f3f3780db6d1619f5161313d026bf406d5a9b37961", func := "loop.example/wholenet/laws.FnExactTalkTimes", spec := "fnExactTalkTimes", apart := false, narrowed := true }
def FnExactTalkTimesUptoSaid : Prop := fnExactTalkTimesUptoRow.holds Try.pinned (OpenSpec.upto fnExactTalkTimesSpec)

/-- 'laws.FnExactSpanOf', WHERE WHAT IT READS IS OF BULK AT MOST 1048576: true; the input reads as it did. -/
def fnExactSpanOfUptoRow : OpenClaim := { program := "ytekbfebjbpnhgaa", sum := "a29cae9865336ba896ac85f3f3780db6d1619f5161313d026bf406d5a9b37961", func := "loop.example/wholenet/laws.FnExactSpanOf", spec := "fnExactSpanOf", apart := false, narrowed := true }
def FnExactSpanOfUptoSaid : Prop := fnExactSpanOfUptoRow.holds Try.pinned (OpenSpec.upto fnExactSpanOfSpec)

/-- 'laws.FnAheadEven', WHERE WHAT IT READS IS OF BULK AT MOST 1048576: true; the input reads as it did. -/
def fnAheadEvenUptoRow : OpenClaim := { program := "ytekbfebjbpnhgaa", sum := "a29cae9865336ba896ac85f3f3780db6d1619f5161313d026bf406d5a9b37961", func := "loop.example/wholenet/laws.FnAheadEven", spec := "fnAheadEven", apart := false, narrowed := true }
def FnAheadEvenUptoSaid : Prop := fnAheadEvenUptoRow.holds Try.pinned (OpenSpec.upto fnAheadEvenSpec)

/-- 'laws.FnAhead', WHERE WHAT IT READS IS OF BULK AT MOST 1048576: true; the input reads as it did. -/
def fnAheadUptoRow : OpenClaim := { program := "ytekbfebjbpnhgaa", sum := "a29cae9865336ba896ac85f3f3780db6d1619f5161313d026bf406d5a9b37961", func := "loop.example/wholenet/laws.FnAhead", spec := "fnAhead", apart := false, narrowed := true }
def FnAheadUptoSaid : Prop := fnAheadUptoRow.holds Try.pinned (OpenSpec.upto fnAheadSpec)

/-- 'laws.FnSpan', WHERE WHAT IT READS IS OF BULK AT MOST 1048576: true; the input reads as it did. -/
def fnSpanUptoRow : OpenClaim := { program := "ytekbfebjbpnhgaa", sum := "a29cae9865336ba896ac85f3f3780db6d1619f5161313d026bf406d5a9b37961", func := "loop.example/wholenet/laws.FnSpan", spec := "fnSpan", apart := false, narrowed := true }
def FnSpanUptoSaid : Prop := fnSpanUptoRow.holds Try.pinned (OpenSpec.upto fnSpanSpec)

/-- 'laws.FnExactBestOf', WHERE WHAT IT READS IS OF BULK AT MOST 1048576: true; the input reads as it did. -/
def fnExactBestOfUptoRow : OpenClaim := { program := "ytekbfebjbpnhgaa", sum := "a29cae9865336ba896ac85f3f3780db6d1619f5161313d026bf406d5a9b37961", func := "loop.example/wholenet/laws.FnExactBestOf", spec := "fnExactBestOf", unfollowed := true, recurses := true, apart := false, narrowed := true }
def FnExactBestOfUptoSaid : Prop := fnExactBestOfUptoRow.holds Try.pinned (OpenSpec.upto fnExactBestOfSpec)

/-- 'laws.FnBest', WHERE WHAT IT READS IS OF BULK AT MOST 1048576: true; the input reads as it did. -/
def fnBestUptoRow : OpenClaim := { program := "ytekbfebjbpnhgaa", sum := "a29cae9865336ba896ac85f3f3780db6d1619f5161313d026bf406d5a9b37961", func := "loop.example/wholenet/laws.FnBest", spec := "fnBest", unfollowed := true, recurses := true, apart := false, narrowed := true }
def FnBestUptoSaid : Prop := fnBestUptoRow.holds Try.pinned (OpenSpec.upto fnBestSpec)

end Rows
end Go.Proofs.Ytekbfebjbpnhgaa
