/- What the Go functions that this law reaches answer, function by function; conditions: those that each contract names. Made for this claim by a program of this session (wip/myprint) over the kit's print. -/
import Derived.Test.YtdbokdodjekchaaPFnRouteNoRoundw
import Derived.Test.YtdbokdodjekchaaProg
import Derived.Below
import Derived.Deep.Draws
import Derived.Deep.AppendLies
import Derived.Maps.AppendAt
import Derived.OwnWalk
import Derived.Laws.BytesArg
import Derived.Laws.MakeOwn
import Derived.Laws.OwnMore
import Derived.Deep.OwnRows
import Derived.Tactics
import Derived.Lib.ConvBytes
import Derived.Laws.Slices
import Derived.WalkKit
import Derived.KernelRfl
import Derived.RowKit3
import Derived.Deep.LoopGhost
import Derived.Deep.QuietTactic
import Derived.BigQuiet
import Derived.WideLaws
import Derived.Deep.DeepCutAuto
import Derived.Deep.CutBlock
import Derived.Deep.RegionHeld3
import Derived.Laws.Rows
import Derived.Lib.AppendStr
import Derived.ArgAppend
import Derived.Laws.IdiomCopy
import Derived.OrdersHeld
import Derived.Laws.BitsLemmas
import Derived.RowKit
import Derived.Shelf.Abstract
import Derived.StillTailTactics
import Derived.Maps.OwnSet
import Derived.Maps.OwnRows
import Derived.Maps.RangeWalk
import Derived.Shelf.SlSortCmp.NoneTotal
import Derived.Shelf.SlicesE.Kit
import Derived.Lib.SliceRun
import Derived.Sort.WalkA
namespace Go.Proofs.Ytdbokdodjekchaa.PFnRouteNoRound
open Go.RowKit Go.Proofs.YtdbokdodjekchaaW.PrintWords Go.Proofs.YtdbokdodjekchaaW.PrintLast Go.Proofs.YtdbokdodjekchaaW.PrintMore
attribute [local go_sem] zbL zbJ max_two min_two zbF zbE zbK zbI   -- for this text's walks alone
theorem oD {p : Prop} [i : Decidable p] (h : decide p = true) : p:=of_decide_eq_true h
theorem sA {α : Type} (l : List α) (i : Nat) (a : α) : l.toArray.setIfInBounds i a = (l.set i a).toArray:=by simp
theorem sB {α : Type} (x : α) (xs : List α) (a : α) : (x :: xs).set 0 a = a :: xs:=rfl
theorem sC {α : Type} (x : α) (xs : List α) (n : Nat) (a : α) : (x :: xs).set (n + 1) a = x :: xs.set n a:=rfl
theorem aM {p : Prop} (h : p) : Aside0 p:=⟨h⟩
theorem bN {B : Nat} {w W : World} (h : Below B w W) (n : Nat) : Below B w (W.drewN n):=zbN h n
theorem bD {base : Nat} {w W : World} (h : Below base w W) : Below base w W.drew:=below_drew1 h
theorem bC (w : World) (a : Addr) {u : Value} (h : w.cell? a = some u) : a.block < w.heap.size:=World.block_lt_of_cell? w a h
theorem mA {α β : Type} (f : α → β) (l : List α) : l.toArray.map f = (l.map f).toArray:=by simp
theorem mB {α β : Type} (f : α → β) (a : α) (l : List α) : (a :: l).map f = f a :: l.map f:=rfl
theorem mC {α β : Type} (f : α → β) : [].map f = []:=rfl
theorem mD {α : Type} (n : Nat) (l : List α) : (l.take n).length = min n l.length:=List.length_take
theorem mE {α : Type} (n : Nat) (l : List α) : (l.drop n).length = l.length - n:=List.length_drop
theorem bE {α β : Type} {x : Option α} {f : α → Option β} {b : β} (h : x.bind f = some b) : ∃ a,x = some a ∧ f a = some b:=Option.bind_eq_some_iff.mp h
set_option linter.unusedVariables false
set_option linter.unusedSimpArgs false
def errW : Option Int → Value
 | none => .nilIface
 | some c => .iface 0 (.int .i64 c)
theorem errW_none : errW none = .nilIface:=rfl
theorem errW_some (c : Int) : errW (some c) = .iface 0 (.int .i64 c):=rfl
theorem info3 : (Try.prog.info? 3).map (fun i => (i.zero,i.size,i.bytes)) = some (some (.int .i64 0),1,8):=by kernel_rfl
theorem info4 : (Try.prog.info? 4).map (fun i => (i.zero,i.size,i.bytes)) = some (some (.bool false),1,1):=by kernel_rfl
theorem info5 : (Try.prog.info? 5).map (fun i => (i.zero,i.size,i.bytes)) = some (some (.int .u8 0),1,1):=by kernel_rfl
theorem info28 : (Try.prog.info? 28).map (fun i => (i.zero,i.size,i.bytes)) = some (some (.slice none 0 0),1,24):=by kernel_rfl
-- the values' own types
structure S50 where
 f0 : Int
 f1 : Int
def z50 : S50:=⟨(0 : Int),(0 : Int)⟩
def k50 : Kd S50:=Kd.iso (Kd.pair (Kd.int .i64) (Kd.int .i64)) (fun x : S50 => (x.f0,x.f1))
def rd_T50 (xs : List S50) (i : Int) : S50:=xs.getD i.toNat z50
def rd_L2 (xs : List (List Int)) (i : Int) : (List Int):=xs.getD i.toNat ([] : List Int)
theorem at_L2 {w : World} {A : Option Addr} {n : Nat} {xs : List (List Int)} (h : Kd.C (Kd.slice 3 (Kd.int .i64)) w A n xs) (i : Int) (h0 : 0 ≤ i) (h1 : i < n) : ∃ ad A0 c0,A = some ad ∧ w.cell? (ad.add i.toNat) = some (.slice A0 (rd_L2 xs i).length c0) ∧ (rd_L2 xs i).length ≤ c0 ∧ (Kd.int .i64).C w A0 (rd_L2 xs i).length (rd_L2 xs i):=by
 obtain ⟨ad,c,e,_,hK,hc0⟩:=Kd.C_get h ([] : List Int) i h0 h1; have hc : ∀ j u,c[j]? = some u → w.cell? (ad.add (i.toNat * 1 + j)) = some u:=hc0
 obtain ⟨A0,c0,rfl,l0,g0⟩:=hK; exact ⟨ad,A0,c0,e,by have hq:=hc 0 _ rfl; rwa [Nat.mul_one,Nat.add_zero] at hq,l0,g0⟩
def rd_L3 (xs : List (List (List Int))) (i : Int) : (List (List Int)):=xs.getD i.toNat ([] : List (List Int))
def rd_L5 (xs : List (List Bool)) (i : Int) : (List Bool):=xs.getD i.toNat ([] : List Bool)
structure S33 where
 f0 : (List Bool)
 f1 : Int
 f2 : Bool
def z33 : S33:=⟨([] : List Bool),(0 : Int),false⟩
def k33 : Kd S33:=Kd.iso (Kd.pair (Kd.slice 4 Kd.bool) (Kd.pair (Kd.int .i64) Kd.bool)) (fun x : S33 => (x.f0,x.f1,x.f2))
def rd_T33 (xs : List S33) (i : Int) : S33:=xs.getD i.toNat z33
end Go.Proofs.Ytdbokdodjekchaa.PFnRouteNoRound
