/- What the Go functions that this law reaches answer, function by function; conditions: those that each contract names. Made for this claim by a program of this session (wip/myprint) over the kit's print. -/
import Derived.Test.YtdbokdodjekchaaPFnRouteNoRoundx0
import Derived.Test.YtdbokdodjekchaaPFnRouteNoRoundx3
import Derived.Test.YtdbokdodjekchaaPFnRouteNoRoundx9
namespace Go.Proofs.Ytdbokdodjekchaa.PFnRouteNoRound
open Go.RowKit Go.Proofs.YtdbokdodjekchaaW.PrintWords Go.Proofs.YtdbokdodjekchaaW.PrintLast Go.Proofs.YtdbokdodjekchaaW.PrintMore
attribute [local go_sem] zbL zbJ max_two min_two zbF zbE zbK zbI   -- for this text's walks alone
set_option linter.unusedVariables false
set_option linter.unusedSimpArgs false
section
open Go.Shelf
def laid_ren : Go.Shelf.Ren:=⟨fun | 6 => 35 | 15 => 68 | 14 => 67 | 28 => 90 | 29 => 91 | 20 => 82 | 21 => 83 | 22 => 84 | 23 => 85 | 24 => 86 | 25 => 87 | 26 => 88 | 27 => 89 | 46 => 97 | 47 => 98 | 48 => 99 | 49 => 100 | 50 => 101 | 57 => 103 | n => n,fun | 22 => 23 | 24 => 28 | 25 => 53 | 3 => 3 | 39 => 83 | 0 => 0 | 53 => 101 | 55 => 103 | 4 => 4 | 46 => 94 | 45 => 93 | 50 => 98 | 5 => 5 | 9 => 9 | 66 => 106 | 70 => 110 | 76 => 113 | 77 => 65 | n => n,fun | n => n⟩
theorem laid_sort : Go.Proofs.SlLaysF.n6 Try.prog laid_ren where
 mixed:=by kernel_rfl
 f6 := ⟨ "slices.SortFunc[[][]int,[]int]", by decide, Try.func35.trans (congrArg some (by kernel_rfl))⟩
 f14 := ⟨ "slices.pdqsortCmpFunc[[]int]", by decide, Try.func67.trans (congrArg some (by kernel_rfl))⟩
 f15:=Try.func68.trans (congrArg some (by kernel_rfl))
 f20 := ⟨ "slices.insertionSortCmpFunc[[]int]", by decide, Try.func82.trans (congrArg some (by kernel_rfl))⟩
 f21 := ⟨ "slices.heapSortCmpFunc[[]int]", by decide, Try.func83.trans (congrArg some (by kernel_rfl))⟩
 f22 := ⟨ "slices.breakPatternsCmpFunc[[]int]", by decide, Try.func84.trans (congrArg some (by kernel_rfl))⟩
 f23 := ⟨ "slices.choosePivotCmpFunc[[]int]", by decide, Try.func85.trans (congrArg some (by kernel_rfl))⟩
 f24 := ⟨ "slices.reverseRangeCmpFunc[[]int]", by decide, Try.func86.trans (congrArg some (by kernel_rfl))⟩
 f25 := ⟨ "slices.partialInsertionSortCmpFunc[[]int]", by decide, Try.func87.trans (congrArg some (by kernel_rfl))⟩
 f26 := ⟨ "slices.partitionEqualCmpFunc[[]int]", by decide, Try.func88.trans (congrArg some (by kernel_rfl))⟩
 f27 := ⟨ "slices.partitionCmpFunc[[]int]", by decide, Try.func89.trans (congrArg some (by kernel_rfl))⟩
 f28:=Try.func90.trans (congrArg some (by kernel_rfl))
 f29:=Try.func91.trans (congrArg some (by kernel_rfl))
 f46 := ⟨ "slices.siftDownCmpFunc[[]int]", by decide, Try.func97.trans (congrArg some (by kernel_rfl))⟩
 f47:=Try.func98.trans (congrArg some (by kernel_rfl))
 f48:=Try.func99.trans (congrArg some (by kernel_rfl))
 f49 := ⟨ "slices.medianAdjacentCmpFunc[[]int]", by decide, Try.func100.trans (congrArg some (by kernel_rfl))⟩
 f50 := ⟨ "slices.medianCmpFunc[[]int]", by decide, Try.func101.trans (congrArg some (by kernel_rfl))⟩
 f57 := ⟨ "slices.order2CmpFunc[[]int]", by decide, Try.func103.trans (congrArg some (by kernel_rfl))⟩
 t0:=Try.underlying0
 a0:=Try.isAgg0
 z0:=Try.sizeOf0
 v0:=Try.zeroValue0
 t3:=Try.underlying3
 a3:=Try.isAgg3
 z3:=Try.sizeOf3
 v3:=Try.zeroValue3
 t4:=Try.underlying4
 a4:=Try.isAgg4
 z4:=Try.sizeOf4
 v4:=Try.zeroValue4
 t5:=Try.underlying5
 a5:=Try.isAgg5
 z5:=Try.sizeOf5
 v5:=Try.zeroValue5
 t9:=Try.underlying9
 a9:=Try.isAgg9
 z9:=Try.sizeOf9
 v9:=Try.zeroValue9
 t22:=Try.underlying23
 a22:=Try.isAgg23
 z22:=Try.sizeOf23
 v22:=Try.zeroValue23
 a24:=Try.isAgg28
 z24:=Try.sizeOf28
 t25:=Try.underlying53
 a25:=Try.isAgg53
 z25:=Try.sizeOf53
 v25:=Try.zeroValue53
 t39:=Try.underlying83
 a39:=Try.isAgg83
 z39:=Try.sizeOf83
 v39:=Try.zeroValue83
 t45:=Try.underlying93
 a45:=Try.isAgg93
 z45:=Try.sizeOf93
 v45:=Try.zeroValue93
 t46:=Try.underlying94
 a46:=Try.isAgg94
 z46:=Try.sizeOf94
 v46:=Try.zeroValue94
 t50:=Try.underlying98
 a50:=Try.isAgg98
 z50:=Try.sizeOf98
 v50:=Try.zeroValue98
 t53:=Try.underlying101
 a53:=Try.isAgg101
 z53:=Try.sizeOf101
 v53:=Try.zeroValue101
 t55:=Try.underlying103
 a55:=Try.isAgg103
 z55:=Try.sizeOf103
 v55:=Try.zeroValue103
 t66:=Try.underlying106
 a66:=Try.isAgg106
 z66:=Try.sizeOf106
 v66:=Try.zeroValue106
 t70:=Try.underlying110
 a70:=Try.isAgg110
 z70:=Try.sizeOf110
 v70:=Try.zeroValue110
 t76:=Try.underlying113
 a76:=Try.isAgg113
 z76:=Try.sizeOf113
 v76:=Try.zeroValue113
 t77:=Try.underlying65
 a77:=Try.isAgg65
 z77:=Try.sizeOf65
 v77:=Try.zeroValue65
abbrev En:=Value × List Int × Nat
def EntR (w : World) (base : Nat) (ok : Nat → Prop) (f : Nat → Nat) (es : List En) : Prop:=∀ e ∈ es,(Kd.int .i64).R 3 w base (fun k => ok k ∧ f k = e.2.2) e.1 e.2.1
theorem S_entries {w : World} {base : Nat} {ok : Nat → Prop} {g n cap : Nat} {xs : List (List Int)} (h : Kd.S (Kd.slice 3 (Kd.int .i64)) 28 w base ok (.slice (some ⟨g,0,none⟩) n cap) xs) :
  ok g ∧ ∃ (f : Nat → Nat) (es : List En),es.map (fun e => e.2.1) = xs ∧ (es.map (fun e => e.2.2)).Nodup ∧ EntR w base (fun k => ok k ∧ k ≠ g) f es ∧ w.ownsRow base 28 1 (.slice (some ⟨g,0,none⟩) n cap) es.length (es.map (fun e => e.1)):=by
 obtain ⟨f,h0,inner,ho,hr⟩:=h; have hl : inner.length = xs.zipIdx.length:=by have:=hr.1; rw [show (Kd.tag f (Kd.slice 3 (Kd.int .i64))).sz = 1 from rfl] at this; omega
 have hl2 : inner.length = xs.length:=by rw [hl,List.length_zipIdx]
 refine ⟨h0 g rfl,f,inner.zip xs.zipIdx,?_,?_,?_,?_⟩
 ·
  rw [show (fun e : En => e.2.1) = (fun q : List Int × Nat => q.1) ∘ Prod.snd from rfl,← List.map_map,List.map_snd_zip (by omega)]
  apply List.ext_getElem?
  intro i; rw [List.getElem?_map,List.getElem?_zipIdx]; cases xs[i]? <;> simp
 ·
  rw [show (fun e : En => e.2.2) = (fun q : List Int × Nat => q.2) ∘ Prod.snd from rfl,← List.map_map,List.map_snd_zip (by omega)]; have : xs.zipIdx.map (fun q => q.2) = List.range xs.length:=by
   apply List.ext_getElem?
   intro i; rw [List.getElem?_map,List.getElem?_zipIdx]; by_cases hi : i < xs.length
   ·
    simp [List.getElem?_eq_getElem hi,hi]
   ·
    simp [List.getElem?_eq_none (Nat.le_of_not_lt hi),List.getElem?_eq_none (show (List.range xs.length).length ≤ i by simp; omega)]
  rw [this]; exact List.nodup_range
 ·
  intro e he; obtain ⟨j,hj,hje⟩:=List.mem_iff_getElem.mp he; rw [List.length_zip] at hj; rw [List.getElem_zip] at hje; have hq:=hr.2 j (xs.zipIdx[j]'(by omega)) (List.getElem?_eq_getElem (by omega)); rw [show (Kd.tag f (Kd.slice 3 (Kd.int .i64))).sz = 1 from rfl,Nat.mul_one] at hq; obtain ⟨u,hu,hR⟩:=hq; have e1 : inner[j]'(by omega) = u:=by
   have:=congrArg List.head? hu; rw [List.head?_take,List.head?_drop] at this; simp only [Nat.one_ne_zero,if_false,List.head?_cons] at this; rw [List.getElem?_eq_getElem (by omega)] at this; exact Option.some.inj this
  subst hje; dsimp only; rw [e1]; exact Kd.R_mono hR (fun k hk => ⟨⟨hk.1.1,fun e => hk.1.2 (by rw [e]; rfl)⟩,hk.2⟩)
 ·
  have e2 : (inner.zip xs.zipIdx).length = xs.zipIdx.length:=by rw [List.length_zip]; omega
  rw [e2,show (fun e : En => e.1) = Prod.fst from rfl,List.map_fst_zip (by omega)]; exact ho
theorem S_of_entries {w : World} {base : Nat} {ok : Nat → Prop} {g n cap : Nat} {f : Nat → Nat} {es : List En} (hg : ok g) (hnd : (es.map (fun e => e.2.2)).Nodup) (hE : EntR w base (fun k => ok k ∧ k ≠ g) f es) (ho : w.ownsRow base 28 1 (.slice (some ⟨g,0,none⟩) n cap) es.length (es.map (fun e => e.1))) :
  Kd.S (Kd.slice 3 (Kd.int .i64)) 28 w base ok (.slice (some ⟨g,0,none⟩) n cap) (es.map (fun e => e.2.1)):=by
 refine ⟨fun k => (es.map (fun e => e.2.2)).idxOf (f k),fun k hk => ?_,es.map (fun e => e.1),?_,?_,?_⟩
 ·
  have : g = k:=by simpa [Value.ownBlock] using hk
  rw [← this]; exact hg
 ·
  rw [List.length_zipIdx,List.length_map]; exact ho
 ·
  rw [show (Kd.tag _ (Kd.slice 3 (Kd.int .i64))).sz = 1 from rfl]; simp
 ·
  intro j p hp; rw [show (Kd.tag (fun k => (es.map (fun e => e.2.2)).idxOf (f k)) (Kd.slice 3 (Kd.int .i64))).sz = 1 from rfl,Nat.mul_one]; rw [List.getElem?_zipIdx,List.getElem?_map] at hp; by_cases hj : j < es.length
  ·
   rw [List.getElem?_eq_getElem hj] at hp; simp only [Option.map_some,Nat.zero_add,Option.some.injEq] at hp; subst hp; have hR:=hE es[j] (List.getElem_mem hj); refine ⟨es[j].1,?_,Kd.R_mono hR (fun k hk => ⟨⟨hk.1.1,fun e => hk.1.2 (by simpa [Value.ownBlock] using e)⟩,?_⟩)⟩
   ·
    rw [List.drop_eq_getElem_cons (by simpa using hj)]
    simp
   ·
    show (es.map (fun e => e.2.2)).idxOf (f k) = j
    rw [hk.2]; have hq : (es.map (fun e => e.2.2))[j]'(by simpa using hj) = es[j].2.2:=by simp
    rw [← hq]; exact hnd.idxOf_getElem j (by simpa using hj)
  ·
   rw [List.getElem?_eq_none (Nat.le_of_not_lt hj)] at hp
   simp at hp
def cmp2 (x y : List Int) : Int:=if rd x 0 < rd y 0 then -1 else if rd x 0 > rd y 0 then 1 else if rd x 1 < rd y 1 then -1 else if rd x 1 > rd y 1 then 1 else 0
theorem cmp2_lt (x y : List Int) : cmp2 x y < 0 ↔ (rd x 0 < rd y 0 ∨ rd x 0 = rd y 0 ∧ rd x 1 < rd y 1):=by
 unfold cmp2; generalize rd x 0 = a; generalize rd y 0 = b; generalize rd x 1 = c; generalize rd y 1 = d
 repeat' split
 all_goals omega
theorem len2 {x : List Int} (h : x.length = 2) : x = [rd x 0,rd x 1]:=by
 match x,h with
 | [a,b],_ => rfl
theorem swo2 {α : Type} (c : α → List Int) : Go.Sort.SWO (ltOf fun a b : α => cmp2 (c a) (c b)) where
 irrefl x:=by
  unfold ltOf; rw [decide_eq_false_iff_not,cmp2_lt]
  omega
 trans x y z h1 h2:=by
  unfold ltOf at *; rw [decide_eq_true_eq,cmp2_lt] at *
  omega
 ntrans x y z h1 h2:=by
  unfold ltOf at *; rw [decide_eq_false_iff_not,cmp2_lt] at *
  omega
def le2 (x y : List Int) : Bool:=!decide (cmp2 y x < 0)
def sortL (l : List (List Int)) : List (List Int):=l.mergeSort le2
theorem le2_iff (x y : List Int) : le2 x y = true ↔ (rd x 0 < rd y 0 ∨ rd x 0 = rd y 0 ∧ rd x 1 ≤ rd y 1):=by
 unfold le2; rw [Bool.not_eq_true',decide_eq_false_iff_not,cmp2_lt]
 omega
theorem le2_trans (x y z : List Int) (h1 : le2 x y = true) (h2 : le2 y z = true) : le2 x z = true:=by
 rw [le2_iff] at *
 omega
theorem le2_total (x y : List Int) : (le2 x y || le2 y x) = true:=by
 rw [Bool.or_eq_true,le2_iff,le2_iff]
 omega
theorem sorted_one : ∀ {l l' : List (List Int)},l.Perm l' → (∀ x ∈ l,x.length = 2) → l.Pairwise (fun x y => le2 x y = true) → l'.Pairwise (fun x y => le2 x y = true) → l = l'
 | [],l',h,_,_,_ => (List.Perm.nil_eq h)
 | x :: l,l',h,h2,p,p' => by
  cases l' with
  | nil => exact absurd h.length_eq (by simp)
  | cons y l' =>
   have hx : x = y:=by
    have hy : y ∈ x :: l:=h.mem_iff.mpr List.mem_cons_self; have hx : x ∈ y :: l':=h.mem_iff.mp List.mem_cons_self
    rcases List.mem_cons.mp hy with e | hy'
    ·
     exact e.symm
    ·
     rcases List.mem_cons.mp hx with e | hx'
     ·
      exact e
     ·
      have a:=(List.pairwise_cons.mp p).1 y hy'; have b:=(List.pairwise_cons.mp p').1 x hx'; rw [le2_iff] at a b; rw [len2 (h2 x List.mem_cons_self),len2 (h2 y hy)]; have e0 : rd x 0 = rd y 0:=by omega
      have e1 : rd x 1 = rd y 1:=by omega
      rw [e0,e1]
   subst hx; rw [sorted_one (List.Perm.cons_inv h) (fun z hz => h2 z (List.mem_cons_of_mem _ hz)) (List.pairwise_cons.mp p).2 (List.pairwise_cons.mp p').2]
theorem sortL_of {l l' : List (List Int)} (h : l'.Perm l) (h2 : ∀ x ∈ l,x.length = 2) (p : l'.Pairwise (fun x y => le2 x y = true)) : l' = sortL l:=by
 refine sorted_one (h.trans (List.mergeSort_perm l le2).symm) (fun x hx => h2 x (h.mem_iff.mp hx)) p ?_; exact List.pairwise_mergeSort (fun a b c h1 h2 => le2_trans a b c h1 h2) (fun a b => le2_total a b) l
structure Rew (w W : World) (g : Nat) (cur : Array Value) : Prop where
 os : W.os = w.os
 tape : W.tape = w.tape
 output : W.output = w.output
 size : w.heap.size ≤ W.heap.size
 blk : W.heap[g]? = some (.cells cur 28 (0,0))
 oth : ∀ k,k < w.heap.size → k ≠ g → W.heap[k]? = w.heap[k]?
theorem Rew.below {w0 w W : World} {g : Nat} {cur : Array Value} (h : Rew w W g cur) (hB : Below w0.heap.size w0 w) (hg : w0.heap.size ≤ g) : Below w0.heap.size w0 W :=
 ⟨h.os.trans hB.os,h.tape.trans hB.tape,h.output.trans hB.output,Nat.le_trans hB.size h.size,fun k hk => (h.oth k (Nat.lt_of_lt_of_le hk hB.size) (by omega)).trans (hB.block k hk)⟩
theorem Rew.entR {w W : World} {g base : Nat} {cur : Array Value} {ok : Nat → Prop} {f : Nat → Nat} {es : List En} (h : Rew w W g cur) (hE : EntR w base (fun k => ok k ∧ k ≠ g) f es) : EntR W base (fun k => ok k ∧ k ≠ g) f es:=fun e he =>
 Kd.R_mono (Kd.R_move (Kd.R_bound (hE e he)) (fun k hk => h.oth k hk.2.2.1 hk.1.1.2)) (fun _ hk => hk.1)
theorem Rew.owns {w W : World} {g base m cap : Nat} {cur : Array Value} {inner : List Value} (h : Rew w W g cur) (hg : base ≤ g) (hm : m ≤ cap) (hc : cap ≤ maxLen) (hs : cur.size = cap) (ht : cur.toList.take m = inner) (hl : inner.length = m) : W.ownsRow base 28 1 (.slice (some ⟨g,0,none⟩) m cap) m inner :=
 ⟨by omega,.inr ⟨g,cap,cur,rfl,hg,h.blk,hm,hc,by omega,by rw [Nat.mul_one]; exact ht⟩⟩
theorem owns_open {w : World} {base g n cap : Nat} {inner : List Value} (h : w.ownsRow base 28 1 (.slice (some ⟨g,0,none⟩) n cap) n inner) : base ≤ g ∧ n ≤ cap ∧ cap ≤ maxLen ∧ ∃ cur : Array Value,w.heap[g]? = some (.cells cur 28 (0,0)) ∧ cur.size = cap ∧ cur.toList.take n = inner:=by
 obtain ⟨_,h | ⟨g',cap',cur,e,hb,hg,h1,h2,h3,h4⟩⟩:=h
 ·
  exact absurd h.1 (by simp)
 ·
  injection e with e1 e2 e3
  injection e1 with e1
  injection e1 with e1
  subst e1; subst e3; exact ⟨hb,h1,h2,cur,hg,by omega,by rwa [Nat.mul_one] at h4⟩
theorem putCells_size {α : Type} [Inhabited α] (enc : α → Value) (d : Array α) (c : Array Value) : (Go.Sort.putCells enc 0 d c).size = c.size:=by simp [Go.Sort.putCells]
theorem putCells_take {α : Type} [Inhabited α] (enc : α → Value) (d : Array α) (c : Array Value) (h : d.size ≤ c.size) : (Go.Sort.putCells enc 0 d c).toList.take d.size = d.toList.map enc:=by
 apply List.ext_getElem?
 intro i; by_cases hi : i < d.size
 ·
  rw [List.getElem?_take_of_lt hi,List.getElem?_map,Array.getElem?_toList,Array.getElem?_toList,Array.getElem?_eq_getElem hi,Array.getElem?_eq_getElem (by rw [putCells_size]; omega)]; simp only [Go.Sort.putCells,Array.getElem_mapIdx,Option.map_some]; rw [if_pos ⟨Nat.zero_le _,by omega⟩,Nat.sub_zero,getElem!_pos d i hi]
 ·
  rw [List.getElem?_eq_none (by rw [mD]; omega),List.getElem?_eq_none (by simp; omega)]
theorem rew_sort {α : Type} [Inhabited α] (enc : α → Value) {w : World} {g : Nat} {cur : Array Value} (hg : w.heap[g]? = some (.cells cur 28 (0,0))) (n : Nat) (d : Array α) (os : Array Obj) : Rew w (sortWorld enc w g 0 n d os) g (Go.Sort.putCells enc 0 d cur):=by
 have hlt : g < w.heap.size:=(Array.getElem?_eq_some_iff.mp hg).1; have e : (sortWorld enc w g 0 n d os).heap = (w.heap.modify g (Go.Sort.onCells (Go.Sort.putCells enc 0 d))) ++ os:=rfl; refine ⟨rfl,rfl,rfl,?_,?_,fun k hk hne => ?_⟩
 ·
  rw [e,Array.size_append,Array.size_modify]; omega
 ·
  rw [e,Array.getElem?_append_left (by rw [Array.size_modify]; exact hlt),Array.getElem?_modify,if_pos rfl,hg]; rfl
 ·
  rw [e,Array.getElem?_append_left (by rw [Array.size_modify]; exact hk),Array.getElem?_modify,if_neg (fun h => hne h.symm)]
theorem slices_Compare_two {x y : List Int} (hx : x.length = 2) (hy : y.length = 2) : slices_Compare_int_int.f 3 x y = some (cmp2 x y):=by
 have w1 : wrap64 (0 + 1) = 1:=by unfold wrap64; omega
 have w2 : wrap64 (1 + 1) = 2:=by unfold wrap64; omega
 have W1:=aM w1; have W2:=aM w2; clear w1 w2; have hc : ∀ a b : Int,cmp_Compare_int.f a b = some (if a < b then -1 else if a > b then 1 else 0):=by
  intro a b; unfold cmp_Compare_int.f cmp_isNaN_int.f; simp only [bne_self_eq_false,Option.bind_some,Bool.false_eq_true,if_false]
  split
  ·
   rfl
  ·
   split <;> rfl
 have s2 : slices_Compare_int_int.l0 2 x y x (x.length : Int) 1 = some (if rd x 1 < rd y 1 then -1 else if rd x 1 > rd y 1 then 1 else 0):=by
  rw [slices_Compare_int_int.l0,if_pos (by omega),if_pos (by omega),if_pos (by omega),if_neg (by omega),if_pos (by omega),hc,Option.bind_some,W2.out]; by_cases h1 : rd x 1 < rd y 1
  ·
   rw [if_pos h1,if_neg (by omega)]
  ·
   rw [if_neg h1]; by_cases h2 : rd x 1 > rd y 1
   ·
    rw [if_pos h2,if_neg (by omega)]
   ·
    rw [if_neg h2,if_pos rfl,slices_Compare_int_int.l0,if_neg (by omega),if_neg (by omega)]
 unfold slices_Compare_int_int.f cmp2; rw [slices_Compare_int_int.l0,if_pos (by omega),if_pos (by omega),if_pos (by omega),if_neg (by omega),if_pos (by omega),hc,Option.bind_some,W1.out]; by_cases h1 : rd x 0 < rd y 0
 ·
  rw [if_pos h1,if_neg (by omega),if_pos h1]
 ·
  rw [if_neg h1,if_neg h1]; by_cases h2 : rd x 0 > rd y 0
  ·
   rw [if_pos h2,if_neg (by omega),if_pos h2]
  ·
   rw [if_neg h2,if_pos rfl,s2,if_neg h2]
def EnGood (w : World) (g : Nat) (e : En) : Prop:=e.2.1.length = 2 ∧ ∃ A c,e.1 = .slice A 2 c ∧ 2 ≤ c ∧ ∀ W : World,(∀ k,k < w.heap.size → k ≠ g → W.heap[k]? = w.heap[k]?) → Kd.C (Kd.int .i64) W A 2 e.2.1
theorem EnGood.of {w : World} {base g : Nat} {ok : Nat → Prop} {f : Nat → Nat} {es : List En} (hE : EntR w base (fun k => ok k ∧ k ≠ g) f es) {e : En} (he : e ∈ es) (h2 : e.2.1.length = 2) : EnGood w g e:=by
 have hR:=hE e he; obtain ⟨A,c,ev⟩:=Kd.R_slice hR; rw [h2] at ev; rw [ev] at hR; refine ⟨h2,A,c,ev,?_,fun W hW => ?_⟩
 ·
  have:=(Kd.R_reads' (n:=2) hR).2.1
  omega
 ·
  have q:=(Kd.R_reads' (n:=2) (Kd.R_move (Kd.R_bound hR) (fun k hk => hW k hk.2.2.1 hk.1.1.2))).2.2; rw [h2] at q; exact q
set_option maxHeartbeats 4000000 in
theorem sort35 {w0 w : World} {g cap : Nat} {ok : Nat → Prop} {xs : List (List Int)} (hB : Below w0.heap.size w0 w) (h : Kd.S (Kd.slice 3 (Kd.int .i64)) 28 w w0.heap.size ok (.slice (some ⟨g,0,none⟩) xs.length cap) xs) (h2 : ∀ x ∈ xs,x.length = 2) (hne : 0 < xs.length) (hsz : xs.length < 4611686018427387904) :
  Calls Try.prog 35 #[.slice (some ⟨g,0,none⟩) xs.length cap,.func (.func 36) #[] #[]] w fun e w' => e = .returned (.tuple #[]) ∧ Kd.S (Kd.slice 3 (Kd.int .i64)) 28 w' w0.heap.size ok (.slice (some ⟨g,0,none⟩) xs.length cap) (sortL xs) ∧ Below w0.heap.size w0 w':=by
 obtain ⟨hok,f,es,e1,e2,hE,ho⟩:=S_entries h; have hlen : es.length = xs.length:=by rw [← e1,List.length_map]
 rw [hlen] at ho; obtain ⟨hgb,hcap,hcm,cur,hcur,hcs,hct⟩:=owns_open ho; have hgood : ∀ e ∈ es,EnGood w g e:=fun e he => EnGood.of hE he (h2 _ (by rw [← e1]; exact List.mem_map_of_mem he))
 obtain ⟨e0,he0⟩ : ∃ e0,e0 ∈ es:=by
  cases es with
  | nil => simp at hlen; omega
  | cons a l => exact ⟨a,List.mem_cons_self⟩
 letI : Inhabited {e : En // EnGood w g e}:=⟨⟨e0,hgood e0 he0⟩⟩
 obtain ⟨d,hd⟩ : ∃ d : Array {e : En // EnGood w g e},d.toList.map (fun e => e.1) = es:=⟨(es.attach.map fun e => ⟨e.1,hgood e.1 e.2⟩).toArray,by rw [List.map_map]; exact List.attach_map_subtype_val es⟩
 have hds : d.size = xs.length:=by have:=congrArg List.length hd; simp at this; omega
 have hH : Go.Sort.Holds (fun a : {e : En // EnGood w g e} => a.1.1) w g 0 d:=by
  intro j hj; have hj2 : j < cur.size:=by omega
  have hcj : cur[j]'hj2 = d[j]!.1.1:=by
   have h3 : cur.toList.take xs.length = (d.toList.map fun e => e.1).map (fun e => e.1):=by rw [hct,hd]
   have h4:=congrArg (fun l => l[j]?) h3; simp only [List.map_map] at h4; rw [List.getElem?_take_of_lt (by omega),List.getElem?_map,Array.getElem?_toList,Array.getElem?_toList,Array.getElem?_eq_getElem hj2,Array.getElem?_eq_getElem hj] at h4; rw [getElem!_pos d j hj]
   simpa using h4
  rw [Nat.zero_add]; refine ⟨?_,?_⟩
  ·
   unfold World.cell?; rw [hcur]
   simp [hj2,hcj]
  ·
   exact zaE hcur j
 have eg : ∀ args w,(callFunc 36 args).run Try.prog w = .ok (.enter 36 args) w:=enters_of Try.func36 (by kernel_rfl) rfl
 have hcmp : CmpLays1 Try.prog 36 #[] (fun a : {e : En // EnGood w g e} => a.1.1) (fun a b => cmp2 a.1.2.1 b.1.2.1) g 0 d.size w:=by
  intro m os dk hs x y; have hw:=(rew_sort (fun a : {e : En // EnGood w g e} => a.1.1) hcur m dk os).oth; obtain ⟨lx,Ax,cx,ex,gx,rx⟩:=x.2; obtain ⟨ly,Ay,cy,ey,gy,ry⟩:=y.2; have hcall:=slices_Compare_int_int.calls 3 Ax cx x.1.2.1 Ay cy y.1.2.1 _ (sortWorld (fun a : {e : En // EnGood w g e} => a.1.1) w g 0 m dk os) (by rw [lx]; exact rx _ hw) (by omega) (by rw [ly]; exact ry _ hw) (by omega) (slices_Compare_two lx ly); rw [lx,ly] at hcall; have hargs : (#[x.1.1,y.1.1] ++ #[] : Array Value) = #[.slice Ax 2 cx,.slice Ay 2 cy]:=by rw [ex,ey]; rfl
  show Calls Try.prog 36 (#[x.1.1,y.1.1] ++ #[]) _ _
  rw [hargs]; refine hcall.mono ?_; rintro e w' ⟨rfl,q,rfl⟩; exact ⟨rfl,q,#[],(Go.Sort.grow_empty _).symm⟩
 have hcon:=Any.slices_SortFunc laid_sort (fun a : {e : En // EnGood w g e} => a.1.1) (fun a => by obtain ⟨_,A,c,e,_⟩:=a.2; show a.1.1.oneCell' = true; rw [e]; rfl) (fun a b => cmp2 a.1.2.1 b.1.2.1) (swo2 _) 36 #[] g 0 cap d w eg hcmp hH (by have:=(Array.getElem?_eq_some_iff.mp hcur).1; exact this) (by omega); rw [hds] at hcon; refine Calls.mono hcon ?_; rintro e w' ⟨rfl,d',n,os,hp,hs,rfl⟩; have hrew:=rew_sort (fun a : {e : En // EnGood w g e} => a.1.1) hcur n d' os; have hd's : d'.size = xs.length:=by have:=hp.1; omega
 have hperm : d'.toList.Perm d.toList:=by
  have:=hp.2.2; rw [show xs.length = d'.size from hd's.symm] at this; rw [Array.extract_size,show d'.size = d.size by omega,Array.extract_size] at this; exact this
 obtain ⟨es',hes'⟩ : ∃ es',es' = d'.toList.map (fun e => e.1):=⟨_,rfl⟩
 have hpe : es'.Perm es:=by rw [hes',← hd]; exact hperm.map _
 have hl' : es'.length = xs.length:=by rw [hpe.length_eq,hlen]
 have hE' : EntR (sortWorld (fun a : {e : En // EnGood w g e} => a.1.1) w g 0 n d' os) w0.heap.size (fun k => ok k ∧ k ≠ g) f es':=fun e he => hrew.entR hE e (hpe.mem_iff.mp he)
 have hcont : es'.map (fun e => e.2.1) = sortL xs:=by
  refine sortL_of (by rw [← e1]; exact hpe.map _) h2 ?_; rw [List.pairwise_iff_getElem]; intro i j hi hj hij; rw [hes',List.map_map,List.length_map,Array.length_toList] at hi hj; have:=hs i j (Nat.zero_le _) hij (by omega); unfold ltOf at this; rw [getElem!_pos d' i hi,getElem!_pos d' j hj] at this; simp only [hes',List.map_map,List.getElem_map,Array.getElem_toList]; have this2 : decide (cmp2 d'[j].1.2.1 d'[i].1.2.1 < 0) = false:=this
  show (!decide (cmp2 d'[j].1.2.1 d'[i].1.2.1 < 0)) = true
  rw [this2]; rfl
 have ho':=hrew.owns (m:=xs.length) (inner:=es'.map fun e => e.1) hgb hcap hcm (by rw [putCells_size]; exact hcs) (by
  have h5:=putCells_take (fun a : {e : En // EnGood w g e} => a.1.1) d' cur (by omega); rw [hd's] at h5; rw [h5,hes',List.map_map]; rfl) (by rw [List.length_map,hl'])
 refine ⟨rfl,?_,hrew.below hB hgb⟩; rw [← hcont]; exact S_of_entries hok ((hpe.map _).nodup_iff.mpr e2) hE' (by rw [hl']; exact ho')
def cUp {α : Type} [Inhabited α] (kp : Nat → Bool) (d : Array α) (m : Nat) : List α:=((List.range m).filter kp).map (d[·]!)
theorem cUp_succ {α : Type} [Inhabited α] (kp : Nat → Bool) (d : Array α) (m : Nat) : cUp kp d (m + 1) = cUp kp d m ++ (if kp m then [d[m]!] else []):=by
 unfold cUp; rw [List.range_succ,List.filter_append,List.map_append]
 congr 1
 by_cases h : kp m <;> simp [h]
theorem cUp_all {α : Type} [Inhabited α] (kp : Nat → Bool) (d : Array α) (m : Nat) (h : ∀ j,j < m → kp j = true) : cUp kp d m = (List.range m).map (d[·]!):=by
 unfold cUp; rw [List.filter_eq_self.2 (fun j hj => h j (List.mem_range.1 hj))]
structure CompB {α : Type} [Inhabited α] (kp : Nat → Bool) (d : Array α) (m k : Nat) (dk : Array α) : Prop where
 size : dk.size = d.size
 len : (cUp kp d m).length = k
 le : k ≤ m
 low : ∀ j,j < k → (cUp kp d m)[j]? = some dk[j]!
 high : ∀ j,k ≤ j → dk[j]! = d[j]!
theorem CompB.full {α : Type} [Inhabited α] {kp : Nat → Bool} {d : Array α} {k : Nat} (hall : ∀ j,j < k → kp j = true) : CompB kp d k k d where
 size:=rfl
 len:=by rw [cUp_all _ _ _ hall]; simp
 le:=Nat.le_refl _
 low:=fun j hj => by rw [cUp_all _ _ _ hall]; simp [hj]
 high:=fun _ _ => rfl
theorem CompB.keep {α : Type} [Inhabited α] {kp : Nat → Bool} {d dk : Array α} {m k : Nat} (h : CompB kp d m k dk) (hm : m < d.size) (hk : kp m = true) : CompB kp d (m + 1) (k + 1) (dk.setIfInBounds k d[m]!) where
 size:=by simp [h.size]
 len:=by rw [cUp_succ,hk]; simp [h.len]
 le:=by have:=h.le; omega
 low:=fun j hj => by
  rw [cUp_succ,hk,if_pos rfl]; by_cases e : j = k
  ·
   subst e; rw [List.getElem?_append_right (by rw [h.len]; exact Nat.le_refl _),h.len,Nat.sub_self,Go.Sort.getElem!_set_same dk j _ (by have:=h.le; have:=h.size; omega)]; rfl
  ·
   rw [List.getElem?_append_left (by rw [h.len]; omega),h.low j (by omega),Go.Sort.getElem!_set_other dk k j _ e]
 high:=fun j hj => by rw [Go.Sort.getElem!_set_other dk k j _ (by omega),h.high j (by omega)]
theorem CompB.skip {α : Type} [Inhabited α] {kp : Nat → Bool} {d dk : Array α} {m k : Nat} (h : CompB kp d m k dk) (hk : kp m = false) : CompB kp d (m + 1) k dk where
 size:=h.size
 len:=by rw [cUp_succ,hk]; simpa using h.len
 le:=by have:=h.le; omega
 low:=fun j hj => by rw [cUp_succ,hk]; simpa using h.low j hj
 high:=h.high
def kpOf {α : Type} [Inhabited α] (eqb : α → α → Bool) (d : Array α) (j : Nat) : Bool:=j == 0 || !eqb d[j]! d[j - 1]!
theorem kpOf_at {α : Type} [Inhabited α] {eqb : α → α → Bool} {d : Array α} {j : Nat} {b : Bool} (hj : 1 ≤ j) (h : eqb d[j]! d[j - 1]! = b) : kpOf eqb d j = !b:=by
 unfold kpOf; rw [h,show (j == 0) = false from by simp; omega]; rfl
theorem kpOf_lt1 {α : Type} [Inhabited α] (eqb : α → α → Bool) (d : Array α) (j : Nat) (hj : j < 1) : kpOf eqb d j = true:=by
 obtain rfl : j = 0:=by omega
 rfl
theorem storeB {α : Type} [Inhabited α] (enc : α → Value) {w wr : World} {n blk off : Nat} {dk : Array α} {i : Nat} (hi : i < dk.size) (hwr : wr = Go.Sort.putRow enc (Go.Sort.ahead w n) blk off dk) (m : Nat) (x : α) :
  (wr.drewN m).setCell ⟨blk,off + i,none⟩ (enc x) = Go.Sort.putRow enc (Go.Sort.ahead w (n + m)) blk off (dk.setIfInBounds i x):=by
 subst hwr; rw [putRow_drewN,Go.Sort.putRow_set enc _ blk off dk i x hi]
set_option maxHeartbeats 8000000 in
set_option maxRecDepth 1000000 in
theorem compact37 {α : Type} [Inhabited α] (enc : α → Value) (hO : OneCell enc) (eqb : α → α → Bool) (blk off cap : Nat) (d : Array α) (w : World) (hH : Go.Sort.Holds enc w blk off d) (hsz : d.size < 4611686018427387904) (hcap : d.size ≤ cap)
  (heq : ∀ (q : Nat) (dk : Array α),dk.size = d.size → ∀ x y,Calls Try.prog 38 #[enc x,enc y] (Go.Sort.putRow enc (Go.Sort.ahead w q) blk off dk) fun e w' => e = .returned (.bool (eqb x y)) ∧ ∃ m,w' = (Go.Sort.putRow enc (Go.Sort.ahead w q) blk off dk).drewN m) :
  Calls Try.prog 37 #[.slice (some ⟨blk,off,none⟩) d.size cap,.func (.func 38) #[] #[]] w fun e w' => ∃ (k q : Nat) (dk : Array α),e = .returned (.slice (some ⟨blk,off,none⟩) k cap) ∧ CompB (kpOf eqb d) d d.size k dk ∧ w' = (Go.Sort.putRow enc (Go.Sort.ahead w q) blk off dk).setCells blk (off + k) (List.replicate (d.size - k) (.slice none 0 0)):=by
 have eg38 : ∀ args w,(callFunc 38 args).run Try.prog w = .ok (.enter 38 args) w:=enters_of Try.func38 (by kernel_rfl) rfl
 have hcl0:=hO.cells; simp only [Value.cells] at hcl0; have hst:=hO.store Try.prog; have hcalls : ∀ (q n : Nat) (dk : Array α),dk.size = d.size → ∀ x y,Calls Try.prog 38 #[enc x,enc y] ((Go.Sort.putRow enc (Go.Sort.ahead w q) blk off dk).drewN n) fun e w' => e = .returned (.bool (eqb x y)) ∧ ∃ m,w' = ((Go.Sort.putRow enc (Go.Sort.ahead w q) blk off dk).drewN n).drewN m:=by
  intro q n dk hs x y; rw [putRow_drewN]; exact heq (q + n) dk hs x y
 have HE:=aM hcalls; clear heq hcalls; by_cases h2 : d.size < 2
 ·
  have HH:=aM hH; clear hH; go_enter Try.func37,Try.ntmps37; go_wp2; go_ret; refine ⟨d.size,0,d,rfl,CompB.full (fun j hj => kpOf_lt1 _ _ _ (by omega)),?_⟩; rw [Nat.sub_self]; exact (Go.Sort.putRow_self enc (Go.Sort.ahead w 0) blk off d HH.out).symm
 ·
  go_enter Try.func37,Try.ntmps37; go_wp2; go_loopg [5] d.size (fun gk s5 wr => ∃ k q : Nat,1 ≤ k ∧ k ≤ d.size ∧ d.size - k ≤ gk ∧ s5 = .int .i64 k ∧ wr = w.drewN q ∧ ∀ j,j < k → kpOf eqb d j = true); case atStart => exact ⟨1,0,Nat.le_refl _,by omega,by omega,rfl,rfl,kpOf_lt1 _ _⟩
  case round =>
   obtain ⟨k,q,hk1,hk,hg,rfl,rfl,hall⟩:=hrel; have A:=aM hall; have HH:=aM hH; clear hall; by_cases hlt : k < d.size
   ·
    obtain ⟨c1,f1⟩:=hH k hlt; obtain ⟨c0,f0⟩:=hH (k - 1) (by omega); have hc : ∀ n,Calls Try.prog 38 #[enc d[k]!,enc d[k - 1]!] (w.drewN (q + n)) fun e w' => e = .returned (.bool (eqb d[k]! d[k - 1]!)) ∧ ∃ m,w' = w.drewN (q + m):=by
     intro n; have h:=HE.out (q + n) 0 d rfl d[k]! d[k - 1]!; rw [Go.Sort.putRow_self enc _ blk off d (Go.Sort.holds_ahead enc w (q + n) blk off d HH.out)] at h; exact Calls.mono h (fun e w' ⟨he,m,hm⟩ => ⟨he,n + m,by rw [hm,show (Go.Sort.ahead w (q + n)).drewN 0 = w.drewN (q + n) from rfl,World.drewN_drewN,Nat.add_assoc]⟩)
    clear hH; obtain ⟨kp,hkp⟩ : ∃ kp,k - 1 = kp:=⟨_,rfl⟩
    have hw1 : IntKind.i64.wrap ((k : Int) - 1) = (kp : Int):=by rw [IntKind.wrap_i64]; omega
    have hb1 : (kp : Int) < (d.size : Int):=by omega
    rw [show off + (k - 1) = off + kp by rw [hkp]] at c0; generalize hx : d[k]! = x at c1 hc; generalize hy : d[k - 1]! = y at c0 hc; have B:=aM (show d[k]! = x ∧ d[k - 1]! = y from ⟨hx,hy⟩); clear hx hy; cases hb : eqb x y with
    | true =>
     rw [hb] at hc; have KN:=aM (show kpOf eqb d k = false from kpOf_at (b:=true) hk1 (by rw [B.out.1,B.out.2]; exact hb)); clear hb; go_wp2_with fail; go_quiet (first | (go_at_fn 38; exact hc _)); go_wp2; clear c0 c1 f0 f1 hc; go_loopg [5,7] d.size (fun gk s5 s7 wr => ∃ (kk k2 q2 : Nat) (dk : Array α),s5 = .int .i64 kk ∧ s7 = .int .i64 k2 ∧ 1 ≤ k2 ∧ k + k2 ≤ d.size ∧ d.size - (k + k2) ≤ gk ∧ kk < k + k2 ∧ wr = Go.Sort.putRow enc (Go.Sort.ahead w q2) blk off dk ∧ CompB (kpOf eqb d) d (k + k2) kk dk); case atStart =>
      refine ⟨k,1,q + nq,d,rfl,rfl,Nat.le_refl _,by omega,by omega,by omega,?_,(CompB.full A.out).skip KN.out⟩; exact (Go.Sort.putRow_self enc (Go.Sort.ahead w (q + nq)) blk off d (Go.Sort.holds_ahead enc w (q + nq) blk off d HH.out)).symm
     case round =>
      obtain ⟨kk,k2,q2,dk,rfl,rfl,h1,hle,hg2,hkk,hwr,hI⟩:=hrel; have hds:=hI.size; have hHk : Go.Sort.Holds enc wr blk off dk:=by rw [hwr]; exact Go.Sort.holds_putRow enc _ blk off d dk (Go.Sort.holds_ahead enc w q2 blk off d HH.out) hds
      have W2:=aM hwr; have I2:=aM hI; by_cases hlt2 : k + k2 < d.size
      ·
       have hc : ∀ n,Calls Try.prog 38 #[enc d[k + k2]!,enc d[k + k2 - 1]!] (wr.drewN n) fun e w' => e = .returned (.bool (eqb d[k + k2]! d[k + k2 - 1]!)) ∧ ∃ m,w' = wr.drewN m:=by
        intro n; have h:=HE.out q2 n dk hds d[k + k2]! d[k + k2 - 1]!; rw [← hwr] at h; exact Calls.mono h (fun e w' ⟨he,m,hm⟩ => ⟨he,n + m,by rw [hm,World.drewN_drewN]⟩)
       clear hwr; obtain ⟨cm,_⟩:=hHk (k + k2) (by omega); obtain ⟨cp,_⟩:=hHk (k + k2 - 1) (by omega); obtain ⟨ck,fk⟩:=hHk kk (by omega); rw [hI.high (k + k2) (by omega),show off + (k + k2) = off + k + k2 by omega] at cm; rw [hI.high (k + k2 - 1) (by omega),show off + (k + k2 - 1) = off + k + (k2 - 1) by omega] at cp; clear hHk hI; obtain ⟨kp,hkp⟩ : ∃ kp,k2 - 1 = kp:=⟨_,rfl⟩
       have hw1 : IntKind.i64.wrap ((k2 : Int) - 1) = (kp : Int):=by rw [IntKind.wrap_i64]; omega
       have hb1 : (kp : Int) < (d.size : Int) - (k : Int):=by omega
       have hb2 : (kp : Int) < ((d.size - k : Nat) : Int):=by omega
       rw [show off + k + (k2 - 1) = off + k + kp by rw [hkp]] at cp; generalize hu : d[k + k2]! = u at cm hc; generalize hv : d[k + k2 - 1]! = v at cp hc; generalize dk[kk]! = old at ck; have C:=aM (show d[k + k2]! = u ∧ d[k + k2 - 1]! = v from ⟨hu,hv⟩); clear hu hv; cases hb : eqb u v with
       | true =>
        rw [hb] at hc; have KN2:=aM (show kpOf eqb d (k + k2) = false from kpOf_at (b:=true) (by omega) (by rw [C.out.1,C.out.2]; exact hb)); clear hb; go_wp2_with fail; go_quiet (first | (go_at_fn 38; exact hc _)); go_wp2; go_roundg (d.size - (k + (k2 + 1))); case measure => omega
        case rel => exact ⟨kk,k2 + 1,q2 + nq,dk,rfl,by go_num,by omega,by omega,by omega,by omega,by rw [W2.out,putRow_drewN],I2.out.skip KN2.out⟩
       | false =>
        rw [hb] at hc; have KN2:=aM (show kpOf eqb d (k + k2) = true from kpOf_at (b:=false) (by omega) (by rw [C.out.1,C.out.2]; exact hb)); clear hb; go_wp2_with fail; go_quiet (first | (go_at_fn 38; exact hc _)); go_wp2; go_roundg (d.size - (k + (k2 + 1))); case measure => omega
        case rel => exact ⟨kk + 1,k2 + 1,q2 + nq,dk.setIfInBounds kk u,by go_num,by go_num,by omega,by omega,by omega,by omega,storeB enc (by omega) W2.out nq u,by have:=I2.out.keep hlt2 KN2.out; rwa [C.out.1] at this⟩
      ·
       have hend : k + k2 = d.size:=by omega
       clear hwr; have hcl : ∀ ty,(Builtin.clear_ #[23] ty #[.slice (some ⟨blk,off + kk,none⟩) (d.size - kk) (cap - kk)]).run Try.prog wr = .ok (.tuple #[]) (wr.setCells blk (off + kk) (List.replicate (d.size - kk) (.slice none 0 0))) :=
        fun ty => Go.Lib.run_clear_slice wr _ _ ty _ Try.underlying23 Try.zeroValue28 rfl rfl blk (off + kk) _ _ (by omega) (fun j hj => by rw [show off + kk + j = off + (kk + j) by omega,(hHk (kk + j) (by omega)).1]; rfl) (fun j hj => by rw [show off + kk + j = off + (kk + j) by omega]; exact (hHk (kk + j) (by omega)).2)
       clear hHk hI; go_wp2; go_ret; have hI:=I2.out; rw [hend] at hI; refine ⟨kk,q2,dk,rfl,hI,?_⟩; rw [W2.out]
    | false =>
     rw [hb] at hc; have KN:=aM (show kpOf eqb d k = true from kpOf_at (b:=false) hk1 (by rw [B.out.1,B.out.2]; exact hb)); clear hb; go_wp2_with fail; go_quiet (first | (go_at_fn 38; exact hc _)); go_wp2; go_roundg (d.size - (k + 1)); case measure => omega
     case rel =>
      refine ⟨k + 1,q + nq,by omega,by omega,Nat.le_refl _,by go_num,rfl,fun j hj => ?_⟩; by_cases e : j = k
      ·
       subst e; exact KN.out
      ·
       exact A.out j (by omega)
   ·
    have : k = d.size:=by omega
    subst this; clear hH; go_wp2; go_ret; refine ⟨d.size,q,d,rfl,CompB.full A.out,?_⟩; rw [Nat.sub_self]; exact (Go.Sort.putRow_self enc (Go.Sort.ahead w q) blk off d (Go.Sort.holds_ahead enc w q blk off d HH.out)).symm
theorem rew_put {α : Type} [Inhabited α] (enc : α → Value) {w : World} {g : Nat} {cur : Array Value} (hg : w.heap[g]? = some (.cells cur 28 (0,0))) (q : Nat) (d : Array α) : Rew w (Go.Sort.putRow enc (Go.Sort.ahead w q) g 0 d) g (Go.Sort.putCells enc 0 d cur):=by
 have e : (Go.Sort.putRow enc (Go.Sort.ahead w q) g 0 d).heap = w.heap.modify g (Go.Sort.onCells (Go.Sort.putCells enc 0 d)):=rfl; refine ⟨rfl,rfl,rfl,?_,?_,fun k hk hne => ?_⟩
 ·
  rw [e,Array.size_modify]; omega
 ·
  rw [e,Array.getElem?_modify,if_pos rfl,hg]; rfl
 ·
  rw [e,Array.getElem?_modify,if_neg (fun h => hne h.symm)]
theorem Rew.setCells {w : World} {g : Nat} : ∀ (vs : List Value) (i : Nat) (W : World) (cur : Array Value),Rew w W g cur → ∃ cur',Rew w (W.setCells g i vs) g cur' ∧ cur'.size = cur.size ∧ cur'.toList.take i = cur.toList.take i
 | [],_,W,cur,h => ⟨cur,h,rfl,rfl⟩
 | v :: r,i,W,cur,h => by
  have e : (W.setCell ⟨g,i,none⟩ v).heap[g]? = some (.cells (cur.setIfInBounds i v) 28 (0,0)):=by
   unfold World.setCell; simp only [Array.getElem?_modify,if_true,h.blk,Option.map_some]; rfl
  have h1 : Rew w (W.setCell ⟨g,i,none⟩ v) g (cur.setIfInBounds i v):=⟨h.os,h.tape,h.output,by have:=h.size; simpa [World.setCell] using this,e,fun k hk hne => (Go.Deep.blk_setCell_other W ⟨g,i,none⟩ v k hne).trans (h.oth k hk hne)⟩; obtain ⟨cur',h2,h3,h4⟩:=Rew.setCells r (i + 1) _ _ h1; refine ⟨cur',h2,by rw [h3]; simp,?_⟩; have h5:=congrArg (List.take i) h4; rw [List.take_take,List.take_take,Nat.min_eq_left (by omega)] at h5; rw [h5,Array.toList_setIfInBounds,List.take_set_of_le (by omega)]
def compL (xs : List (List Int)) : List (List Int):=cUp (kpOf (fun a b => decide (a = b)) xs.toArray) xs.toArray xs.length
theorem cUp_map {α β : Type} [Inhabited α] [Inhabited β] (f : α → β) {kp kp' : Nat → Bool} {d : Array α} {d' : Array β} {m : Nat} (hk : ∀ j,j < m → kp j = kp' j) (hd : ∀ j,j < m → f d[j]! = d'[j]!) : (cUp kp d m).map f = cUp kp' d' m:=by
 unfold cUp; rw [List.map_map,List.filter_congr (q:=kp') (fun j hj => hk j (List.mem_range.mp hj))]
 apply List.map_congr_left
 intro j hj; exact hd j (List.mem_range.mp (List.mem_filter.mp hj).1)
theorem cUp_sub {α : Type} [Inhabited α] (kp : Nat → Bool) (d : Array α) : (cUp kp d d.size).Sublist d.toList:=by
 have h : (List.range d.size).map (d[·]!) = d.toList:=by
  apply List.ext_getElem
  ·
   simp
  ·
   intro i h1 h2; have hi : i < d.size:=by simpa using h2
   simp [getElem!_pos,hi]
 rw [← h]; exact (List.filter_sublist (p:=kp)).map _
theorem slices_Equal_two {x y : List Int} (hx : x.length = 2) (hy : y.length = 2) : slices_Equal_int_int.f 3 x y = some (decide (x = y)):=by
 have w1 : wrap64 (0 + 1) = 1:=by unfold wrap64; omega
 have w2 : wrap64 (1 + 1) = 2:=by unfold wrap64; omega
 have e : (x = y) ↔ (rd x 0 = rd y 0 ∧ rd x 1 = rd y 1):=by
  constructor
  ·
   rintro rfl; exact ⟨rfl,rfl⟩
  ·
   rintro ⟨h0,h1⟩; rw [len2 hx,len2 hy,h0,h1]
 have s2 : slices_Equal_int_int.l0 2 x y (x.length : Int) 1 = some (decide (rd x 1 = rd y 1)):=by
  rw [slices_Equal_int_int.l0,if_pos (by omega),if_pos (by omega),if_pos (by omega),if_pos (by omega)]; by_cases h1 : rd x 1 = rd y 1
  ·
   rw [if_pos h1,w2,slices_Equal_int_int.l0,if_neg (by omega),decide_eq_true h1]
  ·
   rw [if_neg h1,decide_eq_false h1]
 unfold slices_Equal_int_int.f; rw [if_pos (by omega),slices_Equal_int_int.l0,if_pos (by omega),if_pos (by omega),if_pos (by omega),if_pos (by omega)]; by_cases h1 : rd x 0 = rd y 0
 ·
  rw [if_pos h1,w1,s2]
  congr 1
  exact decide_eq_decide.mpr ⟨fun h => e.mpr ⟨h1,h⟩,fun h => (e.mp h).2⟩
 ·
  rw [if_neg h1]
  congr 1
  exact (decide_eq_false (fun h => h1 (e.mp h).1)).symm
set_option maxHeartbeats 1000000 in
theorem compact37_empty (p : Option Addr) (cap : Nat) (fv : Value) (w : World) : Calls Try.prog 37 #[.slice p 0 cap,fv] w fun e w' => e = .returned (.slice p 0 cap) ∧ w' = w:=by
 go_enter Try.func37,Try.ntmps37; go_wp2; go_ret; exact ⟨rfl,rfl⟩
set_option maxHeartbeats 4000000 in
theorem comp37 {w0 w : World} {v : Value} {ok : Nat → Prop} {xs : List (List Int)} (hB : Below w0.heap.size w0 w) (h : Kd.S (Kd.slice 3 (Kd.int .i64)) 28 w w0.heap.size ok v xs) (h2 : ∀ x ∈ xs,x.length = 2) (hsz : xs.length < 4611686018427387904) :
  Calls Try.prog 37 #[v,.func (.func 38) #[] #[]] w fun e w' => ∃ v',e = .returned v' ∧ Kd.S (Kd.slice 3 (Kd.int .i64)) 28 w' w0.heap.size ok v' (compL xs) ∧ Below w0.heap.size w0 w':=by
 by_cases hne : 0 < xs.length
 ·
  obtain ⟨g,cap,rfl,_⟩:=Kd.S_form h hne; obtain ⟨hok,f,es,e1,e2,hE,ho⟩:=S_entries h; have hlen : es.length = xs.length:=by rw [← e1,List.length_map]
  rw [hlen] at ho; obtain ⟨hgb,hcap,hcm,cur,hcur,hcs,hct⟩:=owns_open ho; have hgood : ∀ e ∈ es,EnGood w g e:=fun e he => EnGood.of hE he (h2 _ (by rw [← e1]; exact List.mem_map_of_mem he))
  obtain ⟨e0,he0⟩ : ∃ e0,e0 ∈ es:=by
   cases es with
   | nil => simp at hlen; omega
   | cons a l => exact ⟨a,List.mem_cons_self⟩
  letI : Inhabited {e : En // EnGood w g e}:=⟨⟨e0,hgood e0 he0⟩⟩
  obtain ⟨d,hd⟩ : ∃ d : Array {e : En // EnGood w g e},d.toList.map (fun e => e.1) = es:=⟨(es.attach.map fun e => ⟨e.1,hgood e.1 e.2⟩).toArray,by rw [List.map_map]; exact List.attach_map_subtype_val es⟩
  have hds : d.size = xs.length:=by have:=congrArg List.length hd; simp at this; omega
  have hH : Go.Sort.Holds (fun a : {e : En // EnGood w g e} => a.1.1) w g 0 d:=by
   intro j hj; have hj2 : j < cur.size:=by omega
   have hcj : cur[j]'hj2 = d[j]!.1.1:=by
    have h3 : cur.toList.take xs.length = (d.toList.map fun e => e.1).map (fun e => e.1):=by rw [hct,hd]
    have h4:=congrArg (fun l => l[j]?) h3; simp only [List.map_map] at h4; rw [List.getElem?_take_of_lt (by omega),List.getElem?_map,Array.getElem?_toList,Array.getElem?_toList,Array.getElem?_eq_getElem hj2,Array.getElem?_eq_getElem hj] at h4; rw [getElem!_pos d j hj]
    simpa using h4
   rw [Nat.zero_add]; refine ⟨?_,?_⟩
   ·
    unfold World.cell?; rw [hcur]
    simp [hj2,hcj]
   ·
    exact zaE hcur j
  have heq : ∀ (q : Nat) (dk : Array {e : En // EnGood w g e}),dk.size = d.size → ∀ x y : {e : En // EnGood w g e},Calls Try.prog 38 #[x.1.1,y.1.1] (Go.Sort.putRow (fun a : {e : En // EnGood w g e} => a.1.1) (Go.Sort.ahead w q) g 0 dk) fun e w' => e = .returned (.bool (decide (x.1.2.1 = y.1.2.1))) ∧ ∃ m,w' = (Go.Sort.putRow (fun a : {e : En // EnGood w g e} => a.1.1) (Go.Sort.ahead w q) g 0 dk).drewN m:=by
   intro q dk hs x y; have hw:=(rew_put (fun a : {e : En // EnGood w g e} => a.1.1) hcur q dk).oth; obtain ⟨lx,Ax,cx,ex,gx,rx⟩:=x.2; obtain ⟨ly,Ay,cy,ey,gy,ry⟩:=y.2; have hcall:=slices_Equal_int_int.calls 3 Ax cx x.1.2.1 Ay cy y.1.2.1 _ (Go.Sort.putRow (fun a : {e : En // EnGood w g e} => a.1.1) (Go.Sort.ahead w q) g 0 dk) (by rw [lx]; exact rx _ hw) (by omega) (by rw [ly]; exact ry _ hw) (by omega) (slices_Equal_two lx ly); rw [lx,ly] at hcall; have hargs : (#[x.1.1,y.1.1] : Array Value) = #[.slice Ax 2 cx,.slice Ay 2 cy]:=by rw [ex,ey]
   rw [hargs]; refine hcall.mono ?_; rintro e w' ⟨rfl,q,rfl⟩; exact ⟨rfl,q,rfl⟩
  have hcon:=compact37 (fun a : {e : En // EnGood w g e} => a.1.1) (fun a => by obtain ⟨_,A,c,e,_⟩:=a.2; show a.1.1.oneCell' = true; rw [e]; rfl) (fun x y => decide (x.1.2.1 = y.1.2.1)) g 0 cap d w hH (by omega) (by omega) heq; rw [hds] at hcon; refine Calls.mono hcon ?_; rintro e w' ⟨k,q,dk,rfl,hC,rfl⟩; have hkn : k ≤ xs.length:=by rw [← hds]; rw [← hds] at hC; exact hC.le
  obtain ⟨cur',hrew,hs',ht'⟩:=Rew.setCells (List.replicate (xs.length - k) (.slice none 0 0)) (0 + k) _ _ (rew_put (fun a : {e : En // EnGood w g e} => a.1.1) hcur q dk); rw [Nat.zero_add] at ht'; have hdk : dk.size = xs.length:=by rw [hC.size,hds]
  rw [← hds] at hC; obtain ⟨es',hes'⟩ : ∃ es' : List En,es' = (cUp (kpOf (fun x y : {e : En // EnGood w g e} => decide (x.1.2.1 = y.1.2.1)) d) d d.size).map (fun e => e.1):=⟨_,rfl⟩
  have hsub : es'.Sublist es:=by
   rw [hes',← hd]; exact (cUp_sub _ d).map _
  have hl' : es'.length = k:=by rw [hes',List.length_map,hC.len]
  have hE' : EntR _ w0.heap.size (fun k => ok k ∧ k ≠ g) f es':=fun e he => hrew.entR hE e (hsub.subset he)
  have hcont : es'.map (fun e => e.2.1) = compL xs:=by
   have hx : ∀ j,j < d.size → d[j]!.1.2.1 = xs.toArray[j]!:=by
    intro j hj; have h3 : (d.toList.map fun e => e.1).map (fun e => e.2.1) = xs:=by rw [hd,e1]
    have h4:=congrArg (fun l => l[j]?) h3; simp only [List.map_map] at h4; rw [List.getElem?_map,Array.getElem?_toList,Array.getElem?_eq_getElem hj,List.getElem?_eq_getElem (show j < xs.length by omega)] at h4; rw [getElem!_pos d j hj,getElem!_pos xs.toArray j (by simp; omega)]
    simpa using h4
   rw [hes',List.map_map]; unfold compL; rw [← hds]; refine cUp_map _ (fun j hj => ?_) hx
   show (j == 0 || !decide (d[j]!.1.2.1 = d[j - 1]!.1.2.1)) = (j == 0 || !decide (xs.toArray[j]! = xs.toArray[j - 1]!))
   rw [hx j hj,hx (j - 1) (by omega)]
  have ho':=hrew.owns (m:=k) (inner:=es'.map fun e => e.1) hgb (by omega) hcm (by rw [hs',putCells_size]; exact hcs) (by
   rw [ht']; have h5:=putCells_take (fun a : {e : En // EnGood w g e} => a.1.1) dk cur (by omega); have h6:=congrArg (List.take k) h5; rw [List.take_take,Nat.min_eq_left (by omega)] at h6; rw [h6,hes',List.map_map]
   apply List.ext_getElem?
   intro j; by_cases hj : j < k
   ·
    have h7:=hC.low j hj; rw [List.getElem?_take_of_lt hj,List.getElem?_map,List.getElem?_map,h7,Array.getElem?_toList,Array.getElem?_eq_getElem (show j < dk.size by omega),getElem!_pos dk j (by omega)]; rfl
   ·
    rw [List.getElem?_eq_none (by rw [mD]; omega),List.getElem?_eq_none (by rw [List.length_map,hC.len]; omega)]) (by rw [List.length_map,hl'])
  refine ⟨_,rfl,?_,hrew.below hB hgb⟩; rw [← hcont]; exact S_of_entries hok (hsub.map _ |>.nodup e2) hE' (by rw [hl']; exact ho')
 ·
  obtain rfl : xs = []:=List.eq_nil_of_length_eq_zero (by omega); obtain ⟨A,c,rfl⟩:=Kd.S_slice h; refine (compact37_empty A c _ w).mono ?_; rintro e w' ⟨rfl,rfl⟩; exact ⟨_,rfl,h,hB⟩
theorem sort35' {w0 w : World} {v : Value} {ok : Nat → Prop} {xs : List (List Int)} (hB : Below w0.heap.size w0 w) (h : Kd.S (Kd.slice 3 (Kd.int .i64)) 28 w w0.heap.size ok v xs) (h2 : ∀ x ∈ xs,x.length = 2) (hsz : xs.length < 4611686018427387904) :
  Calls Try.prog 35 #[v,.func (.func 36) #[] #[]] w fun e w' => e = .returned (.tuple #[]) ∧ Kd.S (Kd.slice 3 (Kd.int .i64)) 28 w' w0.heap.size ok v (sortL xs) ∧ Below w0.heap.size w0 w':=by
 by_cases hne : 0 < xs.length
 ·
  obtain ⟨g,cap,rfl,_⟩:=Kd.S_form h hne; exact sort35 hB h h2 hne hsz
 ·
  obtain rfl : xs = []:=List.eq_nil_of_length_eq_zero (by omega); obtain ⟨A,c,rfl⟩:=Kd.S_slice h; refine (AnyF.slices_SortFunc_none { laid_sort with } A c _ w).mono ?_; rintro e w' ⟨rfl,rfl⟩; exact ⟨rfl,by rw [show sortL [] = [] from List.mergeSort_nil]; exact h,hB⟩
theorem R_cell {W : World} {base : Nat} {ok : Nat → Prop} {ad : Addr} {n c : Nat} {xs : List Int} {j : Int} (h : Kd.R (Kd.int .i64) 3 W base ok (.slice (some ad) n c) xs) (p : 0 ≤ j) (q : j < (xs.length : Int)) : W.cell? (ad.add j.toNat) = some (.int .i64 (rd xs j)):=by
 obtain ⟨ad',e,h⟩:=Kd.at_int (Kd.R_reads' h).2.2 j p q; cases e; exact h
def pairs2 (l : List (List Int)) : Bool:=l.all fun r => r.length == 2
theorem pairs2_len {l : List (List Int)} (h : pairs2 l = true) : ∀ x ∈ l,x.length = 2:=fun x hx => by have:=List.all_eq_true.mp h x hx; simpa using this
theorem sortL_len {l : List (List Int)} (h : ∀ x ∈ l,x.length = 2) : ∀ x ∈ sortL l,x.length = 2:=fun x hx => h x ((List.mergeSort_perm l le2).mem_iff.mp hx)
theorem sortL_length (l : List (List Int)) : (sortL l).length = l.length:=List.length_mergeSort l
end
mutual
def impl_WaitsOf.l0 : Nat → List (List Int) → List (List Int) → Int → Int → Option ((List (List Int)))
 | 0,_,_,_,_ => none
 | k + 1,x9,x23,x24,x25 => if x25 < x24 then (if 0 ≤ x25 then (if x25 < (x23.length : Int) then (impl_WaitsOf.l1 k x9 (rd_L2 x23 x25) 1 x23 x24 x25) else (none)) else (none)) else (if pairs2 x9 = true then (if x9.length < 4611686018427387904 then (some (compL (sortL x9))) else (none)) else (none))
def impl_WaitsOf.l1 : Nat → List (List Int) → List Int → Int → List (List Int) → Int → Int → Option ((List (List Int)))
 | 0,_,_,_,_,_,_ => none
 | k + 1,x9,x11,x12,x23,x24,x25 => if x12 < (x11.length : Int) then (if 0 ≤ (wrap64 (x12 - 1)) then (if (wrap64 (x12 - 1)) < (x11.length : Int) then (if 0 ≤ x12 then (if x9.length < 5864062014805 then (impl_WaitsOf.l1 k (x9 ++ [(([rd x11 (wrap64 (x12 - 1)),rd x11 x12] : List Int))]) x11 (wrap64 (x12 + 1)) x23 x24 x25) else (none)) else (none)) else (none)) else (none)) else (impl_WaitsOf.l0 k x9 x23 x24 (wrap64 (x25 + 1)))
end
def impl_WaitsOf.f (k : Nat) (a0 : Int) (a1 : Int) (l2 : List (List Int)) : Option ((List (List Int))):=(impl_fabric_wires.f k a0 a1 l2).bind fun bt122 => (if bt122.2 = true then (impl_WaitsOf.l0 k ([] : List (List Int)) bt122.1 (bt122.1.length : Int) 0) else (some ([] : List (List Int))))
theorem impl_WaitsOf.mono_l : ∀ k,(∀ y0 y1 y2 y3,LeO (impl_WaitsOf.l0 k y0 y1 y2 y3) (impl_WaitsOf.l0 (k + 1) y0 y1 y2 y3)) ∧ (∀ y0 y1 y2 y3 y4 y5,LeO (impl_WaitsOf.l1 k y0 y1 y2 y3 y4 y5) (impl_WaitsOf.l1 (k + 1) y0 y1 y2 y3 y4 y5))
 | 0 => ⟨fun _ _ _ _ r h => by simp [impl_WaitsOf.l0] at h,fun _ _ _ _ _ _ r h => by simp [impl_WaitsOf.l1] at h⟩
 | k + 1 => by
  obtain ⟨ih0,ih1⟩:=impl_WaitsOf.mono_l k; refine ⟨?_,?_⟩
  ·
   intro y0 y1 y2 y3; unfold impl_WaitsOf.l0
   repeat' first
   | (with_reducible exact ih0 _ _ _ _)
   | (with_reducible exact ih1 _ _ _ _ _ _)
   | (with_reducible exact impl_fabric_wires.mono _ _ _ _)
   | (with_reducible exact LeO.refl _)
   | (with_reducible exact LeO.none _)
   | (with_reducible refine LeO.ite ?_ ?_)
   | (with_reducible refine LeO.bind ?_ (fun _ => ?_))
   | exact ih0 _ _ _ _
   | exact ih1 _ _ _ _ _ _
   | exact impl_fabric_wires.mono _ _ _ _
   | exact LeO.none _
   | refine LeO.ite ?_ ?_
   | refine LeO.bind ?_ (fun _ => ?_)
  ·
   intro y0 y1 y2 y3 y4 y5; unfold impl_WaitsOf.l1
   repeat' first
   | (with_reducible exact ih0 _ _ _ _)
   | (with_reducible exact ih1 _ _ _ _ _ _)
   | (with_reducible exact impl_fabric_wires.mono _ _ _ _)
   | (with_reducible exact LeO.refl _)
   | (with_reducible exact LeO.none _)
   | (with_reducible refine LeO.ite ?_ ?_)
   | (with_reducible refine LeO.bind ?_ (fun _ => ?_))
   | exact ih0 _ _ _ _
   | exact ih1 _ _ _ _ _ _
   | exact impl_fabric_wires.mono _ _ _ _
   | exact LeO.none _
   | refine LeO.ite ?_ ?_
   | refine LeO.bind ?_ (fun _ => ?_)
theorem impl_WaitsOf.mono : ∀ a0 a1 a2 k,LeO (impl_WaitsOf.f k a0 a1 a2) (impl_WaitsOf.f (k + 1) a0 a1 a2):=by
 intro a0 a1 a2 k; obtain ⟨ih0,ih1⟩:=impl_WaitsOf.mono_l k; unfold impl_WaitsOf.f
 repeat' first
   | (with_reducible exact ih0 _ _ _ _)
   | (with_reducible exact ih1 _ _ _ _ _ _)
   | (with_reducible exact impl_fabric_wires.mono _ _ _ _)
   | (with_reducible exact LeO.refl _)
   | (with_reducible exact LeO.none _)
   | (with_reducible refine LeO.ite ?_ ?_)
   | (with_reducible refine LeO.bind ?_ (fun _ => ?_))
   | exact ih0 _ _ _ _
   | exact ih1 _ _ _ _ _ _
   | exact impl_fabric_wires.mono _ _ _ _
   | exact LeO.none _
   | refine LeO.ite ?_ ?_
   | refine LeO.bind ?_ (fun _ => ?_)
def impl_WaitsOf.T11 : Bool × List (List Nat × List Nat):=(true,[([],[]),([],[]),([],[]),([2],[2]),([1,3],[1,3]),([4],[4]),([],[]),([],[]),([6,7],[6,7]),([8],[8]),([5,9],[5,9]),([10],[10]),([0,11],[0,11]),([12,12,0,1,2,3,4,5,6,7,8,9,10,11,12],[0,12])])
def impl_WaitsOf.B11 : List Nat:=[0,0,0,4,14,30,0,0,192,448,1022,2046,4095,8191]
theorem impl_WaitsOf.tab11 : rtab .any (opsOf Try.f11 11) = impl_WaitsOf.T11:=by kernel_rfl
theorem impl_WaitsOf.bits11 : waitsOk impl_WaitsOf.T11.2 impl_WaitsOf.B11 = true:=by kernel_rfl
set_option maxHeartbeats 8000000 in
set_option maxRecDepth 100000 in
theorem impl_WaitsOf.calls (k : Nat) (a0 : Int) (a1 : Int) (A2 : Option Addr) (c2 : Nat) (l2 : List (List Int)) (r : List (List Int)) (w : World) (hr2 : Kd.C (Kd.slice 3 (Kd.int .i64)) w A2 l2.length l2) (hc2 : l2.length ≤ c2) (h : impl_WaitsOf.f k a0 a1 l2 = some r) :
  Calls Try.prog 11 #[.int .i64 a0,.int .i64 a1,.slice A2 l2.length c2] w fun e w' => ∃ v0_ : Value,e = .returned (v0_) ∧ Kd.S (Kd.slice 3 (Kd.int .i64)) 28 w' w.heap.size (fun _ => True) v0_ r ∧ Below w.heap.size w w':=by
 have hu50:=Try.underlying50; have HR2:=aM hr2; have HC2:=aM hc2; clear hr2 hc2; have HB:=aM (Below.refl w.heap.size w); have H : ((impl_fabric_wires.f k a0 a1 l2).bind fun bt122 => (if bt122.2 = true then (impl_WaitsOf.l0 k ([] : List (List Int)) bt122.1 (bt122.1.length : Int) 0) else (some ([] : List (List Int))))) = some r:=h; clear h; replace H:=bE H; obtain ⟨⟨t122,t125⟩,A40,H⟩:=H; replace H : (if t125 = true then (impl_WaitsOf.l0 k ([] : List (List Int)) t122 (t122.length : Int) 0) else (some ([] : List (List Int)))) = some r:=H; have A4:=aM A40; clear A40; by_cases c5 : t125 = true
 ·
  subst c5; have H1 : (impl_WaitsOf.l0 k ([] : List (List Int)) t122 (t122.length : Int) 0) = some r:=by rw [if_pos rfl] at H; exact H
  clear H; have H:=H1; clear H1; have H':=aM H; clear H; go_enter Try.func11,Try.ntmps11
  go_wp2_with (first | ((with_reducible refine zaI (f:=34) rfl ?_); refine zaR (some 18) rfl rfl Try.func34 (by kernel_rfl) rfl #[.agg #[.int .i64 a0,.int .i64 a1],.slice A2 l2.length c2] rfl (by (try simp only [mA,mB,mC]); first | done | rfl | (simp only [mE,mD]; rfl)) ?_; (with_reducible refine (impl_fabric_wires.calls k a0 a1 _ _ l2 t122 true _ ?side1 ?side2 A4.out).mono ?_); (case side1 => repeat (first | exact HR2.out | (with_reducible refine Kd.C_alloc ?_ _) | (with_reducible refine Kd.C_drewN ?_ _) | (with_reducible refine Kd.C_drew ?_))); (case side2 => exact HC2.out); rintro e w6 ⟨v123,rfl,ho0,hb⟩; refine ⟨_,rfl,?_⟩; have n0_:=aM (Kd.S_lower ho0 (zaK (by repeat (first | (with_reducible first | exact HB.out | apply zaA | apply bN | apply bD) | exact HB.out)))); have n1_:=aM (zaJ (by repeat (first | (with_reducible first | exact HB.out | apply zaA | apply bN | apply bD) | exact HB.out)) hb); clear HB; have HO124:=n0_; have HB:=n1_; clear n0_ n1_; (try clear hb); (try clear hb2); (try clear hk); (try clear hi); (try clear ho0); obtain ⟨Ao7,co7,eo7⟩:=Kd.S_slice HO124.out; subst eo7))
  go_loopg [9,25] k (fun kq v9 v25 w' => ∃ (x9_1 : List (List Int)) (x25_1 : Int),v25 = .int .i64 x25_1 ∧ Aside0 (impl_WaitsOf.l0 kq x9_1 t122 (t122.length : Int) x25_1 = some r) ∧ Aside0 (kq ≤ k) ∧ Aside0 (Kd.S (Kd.slice 3 (Kd.int .i64)) 28 w' w.heap.size (fun k_ => some k_ ≠ ((.slice Ao7 t122.length co7) : Value).ownBlock) v9 x9_1) ∧ Aside0 (Kd.S (Kd.slice 3 (Kd.int .i64)) 28 w' w.heap.size (fun k_ => some k_ ≠ (v9 : Value).ownBlock) (.slice Ao7 t122.length co7) t122) ∧ Aside0 (Below w.heap.size w w'))
  case atStart => exact ⟨(([] : List (List Int))),(0),(by first | rfl | (simp; done) | (simp [*]; done)),H',⟨Nat.le_refl _⟩,⟨by first | exact Kd.S_nil _ _ _ _ _ | exact Kd.N_nil _ _ _ _ _ | exact Kd.V_nil _ _ _ _ _ | exact Kd.Q_nil _ _ _ _ _ | exact Kd.R_nil _ _ _ _ _⟩,⟨by (with_reducible repeat (first | apply Kd.S_alloc | apply Kd.S_drewN | apply Kd.S_drew)); exact Kd.S_mono HO124.out (fun _ hk => (by simp [Value.ownBlock]))⟩,⟨by repeat (first | (with_reducible first | exact HB.out | apply zaA | apply bN | apply bD) | exact HB.out)⟩⟩
  case round =>
   clear H'
   try clear c1
   try clear c2
   try clear p2
   try clear c3
   try clear c5
   obtain ⟨x9_1,x25_1,rfl,HA,HK1,HO_9,HO_23,HB⟩:=hrel; cases gk with
   | zero => exact absurd HA.out (by simp [impl_WaitsOf.l0])
   | succ k1 =>
    have H:=HA.out; clear HA; simp only [impl_WaitsOf.l0] at H; by_cases c8 : x25_1 < (t122.length : Int)
    ·
     rw [if_pos c8] at H; have c8b0 : decide (x25_1 < (t122.length : Int)) = true:=decide_eq_true c8; clear c8; by_cases c9 : 0 ≤ x25_1
     ·
      rw [if_pos c9] at H; have c9b0 : decide (0 ≤ x25_1) = true:=decide_eq_true c9; clear c9; by_cases c10 : x25_1 < (t122.length : Int)
      ·
       rw [if_pos c10] at H; have c10b0 : decide (x25_1 < (t122.length : Int)) = true:=decide_eq_true c10; clear c10; have H':=aM H; clear H; have p126 : 0 ≤ (x25_1 : Int):=oD (by assumption); have q126 : x25_1 < (t122.length : Int):=oD (by assumption); obtain ⟨ad126,A126_0,c126_0,e126,hx126_0,hl126_0,hi126_0⟩:=at_L2 (Kd.S_reads' HO_23.out).2.2 x25_1 p126 q126; cases e126; obtain ⟨ce126,hce126,hMe126,hcc126⟩:=Kd.S_get HO_23.out [] x25_1 p126 (by first | exact q126 | exact oD (by assumption) | (have e_:=(Kd.S_reads' HO_23.out).1; omega)); obtain ⟨ve126_0,rfl,ge126_0⟩:=hMe126; have hv126_0:=hcc126 0 _ rfl; rw [Nat.add_zero,show ((Kd.slice 3 (Kd.int .i64))).sz = 1 from rfl,Nat.mul_one] at hv126_0; replace hv126_0:=Option.some.inj (hv126_0.symm.trans hx126_0); rw [hv126_0] at ge126_0
       have HL126_0:=aM (show Kd.R (Kd.int .i64) 3 _ _ _ _ (rd_L2 t122 x25_1) from ge126_0); clear hv126_0 ge126_0; clear hcc126 hce126; have HR126_0:=aM hi126_0; have HC126_0:=aM hl126_0; clear hi126_0 hl126_0; replace p126:=eq_true p126; replace q126:=eq_true q126; go_wp2
       go_loopg [9,12] k1 (fun kq v9 v12 w' => ∃ (x9_2 : List (List Int)) (x12_2 : Int),v12 = .int .i64 x12_2 ∧ Aside0 (impl_WaitsOf.l1 kq x9_2 (rd_L2 t122 x25_1) x12_2 t122 (t122.length : Int) x25_1 = some r) ∧ Aside0 (kq ≤ k1) ∧ Aside0 (Kd.S (Kd.slice 3 (Kd.int .i64)) 28 w' w.heap.size (fun k_ => some k_ ≠ ((.slice (some ad126) t122.length co7) : Value).ownBlock) v9 x9_2) ∧ Aside0 (Kd.S (Kd.slice 3 (Kd.int .i64)) 28 w' w.heap.size (fun k_ => some k_ ≠ (v9 : Value).ownBlock) (.slice (some ad126) t122.length co7) t122) ∧ Aside0 (Below w.heap.size w w') ∧ Aside0 (Kd.R (Kd.int .i64) 3 w' w.heap.size (fun k_ => some k_ ≠ (v9 : Value).ownBlock) (.slice A126_0 (rd_L2 t122 x25_1).length c126_0) (rd_L2 t122 x25_1)))
       case atStart => exact ⟨(x9_1),(1),(by first | rfl | (simp; done) | (simp [*]; done)),H',⟨Nat.le_refl _⟩,⟨by (with_reducible repeat (first | apply Kd.S_alloc | apply Kd.S_drewN | apply Kd.S_drew)); exact HO_9.out⟩,⟨by (with_reducible repeat (first | apply Kd.S_alloc | apply Kd.S_drewN | apply Kd.S_drew)); exact HO_23.out⟩,⟨by repeat (first | (with_reducible first | exact HB.out | apply zaA | apply bN | apply bD) | exact HB.out)⟩,⟨by (with_reducible repeat (first | apply Kd.R_alloc | apply Kd.R_drewN | apply Kd.R_drew)); first | exact Kd.R_mono HL126_0.out (fun _ hk => hk.1.1) | exact Kd.R_mono HL126_0.out (fun _ hk => hk.1)⟩⟩
       case round =>
        clear H'
        try clear c1
        try clear p1
        try clear q1
        try clear hx1
        try clear c2
        try clear p2
        try clear c3
        try clear c5
        try clear c8
        try clear c8b0
        try clear c9
        try clear c9b0
        try clear c10
        try clear c10b0
        try clear hx126_0
        try clear p126
        try clear p2
        try clear q126
        obtain ⟨x9_2,x12_2,rfl,HA,HK2,HO_9,HO_23,HB,HX126⟩:=hrel; cases gk with
        | zero => exact absurd HA.out (by simp [impl_WaitsOf.l1])
        | succ k2 =>
         have H:=HA.out; clear HA; simp only [impl_WaitsOf.l1] at H; by_cases c11 : x12_2 < ((rd_L2 t122 x25_1).length : Int)
         ·
          rw [if_pos c11] at H; have c11b0 : decide (x12_2 < ((rd_L2 t122 x25_1).length : Int)) = true:=decide_eq_true c11; clear c11; obtain ⟨ji12,hji12⟩ : ∃ j_ : Int,(wrap64 (x12_2 - 1)) = j_:=⟨_,rfl⟩
          replace H : (if 0 ≤ (ji12) then (if (ji12) < ((rd_L2 t122 x25_1).length : Int) then (if 0 ≤ x12_2 then (if x9_2.length < 5864062014805 then (impl_WaitsOf.l1 k2 (x9_2 ++ [(([rd (rd_L2 t122 x25_1) (ji12),rd (rd_L2 t122 x25_1) x12_2] : List Int))]) (rd_L2 t122 x25_1) (wrap64 (x12_2 + 1)) t122 (t122.length : Int) x25_1) else (none)) else (none)) else (none)) else (none)) = some r:=by first | (rw [hji12] at H; exact H) | (simp only [hji12] at H ⊢; exact H)
          have hji12w : (IntKind.i64.wrap (x12_2 - 1)) = ji12:=(zaP _).trans hji12; by_cases c13 : 0 ≤ (ji12)
          ·
           rw [if_pos c13] at H; have c13b0 : decide (0 ≤ (ji12)) = true:=decide_eq_true c13; clear c13; by_cases c14 : (ji12) < ((rd_L2 t122 x25_1).length : Int)
           ·
            rw [if_pos c14] at H; have c14b0 : decide ((ji12) < ((rd_L2 t122 x25_1).length : Int)) = true:=decide_eq_true c14; clear c14; by_cases c15 : 0 ≤ x12_2
            ·
             rw [if_pos c15] at H; have c15b0 : decide (0 ≤ x12_2) = true:=decide_eq_true c15; clear c15; obtain ⟨y129,hy129⟩ : ∃ y_ : List Int,y_ = (([rd (rd_L2 t122 x25_1) (ji12),rd (rd_L2 t122 x25_1) x12_2] : List Int)):=⟨_,rfl⟩
             replace H : (if x9_2.length < 5864062014805 then (impl_WaitsOf.l1 k2 (x9_2 ++ [y129]) (rd_L2 t122 x25_1) (wrap64 (x12_2 + 1)) t122 (t122.length : Int) x25_1) else (none)) = some r:=by first | (rw [hy129]; with_reducible exact H) | (have H2_:=(Option.bind_some _ _).symm.trans H; rw [hy129]; with_reducible exact H2_) | (have H2_:=(Option.bind_some _ _).symm.trans H; with_reducible exact H2_) | with_reducible exact H | (rw [hy129]; exact H) | exact H
             have Ny129:=aM hy129; clear hy129; by_cases c16 : x9_2.length < 5864062014805
             ·
              rw [if_pos c16] at H; have LMc16:=aM c16; clear c16; obtain ⟨y132,hy132⟩ : ∃ y_ : List (List Int),y_ = (x9_2 ++ [y129]):=⟨_,rfl⟩
              replace H : (impl_WaitsOf.l1 k2 y132 (rd_L2 t122 x25_1) (wrap64 (x12_2 + 1)) t122 (t122.length : Int) x25_1) = some r:=by first | (rw [hy132]; with_reducible exact H) | (have H2_:=(Option.bind_some _ _).symm.trans H; rw [hy132]; with_reducible exact H2_) | (have H2_:=(Option.bind_some _ _).symm.trans H; with_reducible exact H2_) | with_reducible exact H | (rw [hy132]; exact H) | exact H
              have Ny132:=aM hy132; clear hy132; have H':=aM H; clear H
              try go_wp2
              have n0_:=aM (Kd.S_drew HO_9.out); have n1_:=aM (Kd.S_drew HO_23.out); have nX_:=aM (Kd.R_drew HX126.out); have n2_:=aM (bD HB.out); clear HO_9; clear HO_23; clear HB; have HO_9:=n0_; have HO_23:=n1_; have HB:=n2_; clear n0_ n1_ n2_; clear HX126; have HX126:=nX_; clear nX_; have p127 : 0 ≤ ((ji12) : Int):=oD (by assumption); have q127 : (ji12) < ((rd_L2 t122 x25_1).length : Int):=oD (by assumption); obtain ⟨ad127,e127,hx127_0⟩:=Kd.at_int (Kd.R_reads' HX126.out).2.2 (ji12) p127 q127; have hw127_0:=hx127_0; cases e127; have PP127:=aM p127; have QQ127:=aM q127; replace p127:=eq_true p127; replace q127:=eq_true q127; have p128 : 0 ≤ (x12_2 : Int):=oD (by assumption); have q128 : x12_2 < ((rd_L2 t122 x25_1).length : Int):=oD (by assumption); obtain ⟨ad128,e128,hx128_0⟩:=Kd.at_int (Kd.R_reads' HX126.out).2.2 x12_2 p128 q128
              have hw128_0:=hx128_0; obtain rfl : ad127 = ad128:=(by injection e128); have PP128:=aM p128; have QQ128:=aM q128; replace p128:=eq_true p128; replace q128:=eq_true q128; refine start_ (n:=14) (S:=fun w' => w'.cell? (ad127.add ((ji12)).toNat) = some (.int .i64 (rd (rd_L2 t122 x25_1) (ji12))) ∧ w'.cell? (ad127.add (x12_2).toNat) = some (.int .i64 (rd (rd_L2 t122 x25_1) x12_2))) (ds:=[]) #[false,false,false,false,false,false,false,false,false,false,false,false,false,false] (by kernel_rfl) rfl rfl ⟨(R_cell HX126.out PP127.out QQ127.out),(R_cell HX126.out PP128.out QQ128.out)⟩ (fun hHeld => ?_); refine zbO impl_WaitsOf.tab11 impl_WaitsOf.bits11 (fun HT_ HW_ => ?_); generalize wr.drew = w17 at HO_9 HO_23 HB HX126 hx127_0 hx128_0 hHeld ⊢
              refine zaQ (i:=0) (N:=some 35) (v:=?_) (a':=?_) #[true,false,false,false,false,false,false,false,false,false,false,false,false,false] rfl rfl (zaO HT_.out (by kernel_rfl)) (fun _ _ _ h => h) (Or.inl ⟨by rfl,?_⟩) ?_ ?_; rotate_left
              ·
               intro w'; go_simp; with_reducible rfl
              rotate_left
              ·
               simp only [Act.put,sA,sB,sC,zaP]; rfl
              refine zaQ (i:=1) (N:=some 36) (v:=?_) (a':=?_) #[true,true,false,false,false,false,false,false,false,false,false,false,false,false] rfl rfl (zaO HT_.out (by kernel_rfl)) (fun _ _ _ h => h) (Or.inl ⟨by rfl,?_⟩) ?_ ?_; rotate_left
              ·
               intro w'; go_simp; with_reducible rfl
              rotate_left
              ·
               simp only [Act.put,sA,sB,sC,zaP]; rfl
              refine zaQ (i:=2) (N:=some 37) (v:=?_) (a':=?_) #[true,true,true,false,false,false,false,false,false,false,false,false,false,false] rfl rfl (zaO HT_.out (by kernel_rfl)) (fun _ _ _ h => h) (Or.inl ⟨by rfl,?_⟩) ?_ ?_; rotate_left
              ·
               intro w'; go_simp; with_reducible rfl
              rotate_left
              ·
               simp only [Act.put,sA,sB,sC,zaP]; rfl
              refine zaQ (i:=3) (N:=some 38) (v:=?_) (a':=?_) #[true,true,true,true,false,false,false,false,false,false,false,false,false,false] rfl rfl (zaO HT_.out (by kernel_rfl)) (fun _ _ _ h => h) (Or.inl ⟨by rfl,?_⟩) ?_ ?_; rotate_left
              ·
               intro w'; go_simp; with_reducible rfl
              rotate_left
              ·
               simp only [Act.put,sA,sB,sC,zaP]; rfl
              refine zaQ (i:=4) (N:=some 39) (v:=?_) (a':=?_) #[true,true,true,true,true,false,false,false,false,false,false,false,false,false] rfl rfl (zaO HT_.out (by kernel_rfl)) (fun _ _ _ h => h) (Or.inl ⟨by rfl,?_⟩) ?_ ?_; rotate_left
              ·
               intro w'; go_simp; with_reducible rfl
              rotate_left
              ·
               simp only [Act.put,sA,sB,sC,zaP]; rfl
              refine zaQ (i:=6) (N:=some 41) (v:=?_) (a':=?_) #[true,true,true,true,true,false,true,false,false,false,false,false,false,false] rfl rfl (zaO HT_.out (by kernel_rfl)) (fun _ _ _ h => h) (Or.inl ⟨by rfl,?_⟩) ?_ ?_; rotate_left
              ·
               intro w'; go_simp; with_reducible rfl
              rotate_left
              ·
               simp only [Act.put,sA,sB,sC,zaP]; rfl
              refine zaQ (i:=7) (N:=some 42) (v:=?_) (a':=?_) #[true,true,true,true,true,false,true,true,false,false,false,false,false,false] rfl rfl (zaO HT_.out (by kernel_rfl)) (fun _ _ _ h => h) (Or.inl ⟨by rfl,?_⟩) ?_ ?_; rotate_left
              ·
               intro w'; go_simp; with_reducible rfl
              rotate_left
              ·
               simp only [Act.put,sA,sB,sC,zaP]; rfl
              refine zaQ (i:=8) (N:=some 43) (v:=?_) (a':=?_) #[true,true,true,true,true,false,true,true,true,false,false,false,false,false] rfl rfl (zaO HT_.out (by kernel_rfl)) (fun _ _ _ h => h) (Or.inl ⟨by rfl,?_⟩) ?_ ?_; rotate_left
              ·
               intro w'; go_simp; with_reducible rfl
              rotate_left
              ·
               simp only [Act.put,sA,sB,sC,zaP]; rfl
              refine take_ (i:=5) (N:=some 40) (v:=?_) (a':=?_) #[true,true,true,true,true,true,true,true,true,false,false,false,false,false] rfl rfl (zaX HT_.out HW_.out (by kernel_rfl)) (fun _ _ _ h => h) (Or.inl ⟨by rfl,?_⟩) hHeld ?_ ?_; rotate_left
              ·
               rintro w' ⟨s0,s1⟩; go_simp; with_reducible rfl
              rotate_left
              ·
               simp only [Act.put,sA,sB,sC,zaP]; rfl
              refine take_ (i:=9) (N:=some 44) (v:=?_) (a':=?_) #[true,true,true,true,true,true,true,true,true,true,false,false,false,false] rfl rfl (zaX HT_.out HW_.out (by kernel_rfl)) (fun _ _ _ h => h) (Or.inl ⟨by rfl,?_⟩) hHeld ?_ ?_; rotate_left
              ·
               rintro w' ⟨s0,s1⟩; go_simp; with_reducible rfl
              rotate_left
              ·
               simp only [Act.put,sA,sB,sC,zaP]; rfl
              refine one_ (i:=10) (N:=some 45) #[true,true,true,true,true,true,true,true,true,true,true,false,false,false] rfl rfl (zbP HT_.out (by kernel_rfl)) (by decide) (fun K hK => ?_)
              refine Kd.R_lit_step (Kd.int .i64) _ 3 ?hg (N:=45) ?hd (xs:=([rd (rd_L2 t122 x25_1) (ji12),rd (rd_L2 t122 x25_1) x12_2] : List Int)) (inner:=[.int .i64 (rd (rd_L2 t122 x25_1) (ji12)),.int .i64 (rd (rd_L2 t122 x25_1) x12_2)]) (ok:=fun _ => True) (okp:=fun _ => True) ?hr ?hp (fun _ hk => hk) trivial (Below.refl _ _) (Nat.le_refl _) (by simp) ?_; (case hd => rfl); (case hg => rfl); (case hr => first | (go_simp; done) | (go_simp; rfl)); (case hp => exact (Reps.one (show Kd.M (Kd.int .i64) _ _ _ (rd (rd_L2 t122 x25_1) (ji12)) [.int .i64 (rd (rd_L2 t122 x25_1) (ji12))] from rfl) (Reps.one (show Kd.M (Kd.int .i64) _ _ _ (rd (rd_L2 t122 x25_1) x12_2) [.int .i64 (rd (rd_L2 t122 x25_1) x12_2)] from rfl) (Reps.none _ _)))); intro v130 w18 ho19 hb hg_ hnew_; clear hg_ hnew_
              (first | rw [← Ny129.out] at ho19 | (simp only [Int.reduceToNat] at ho19; rw [← Ny129.out] at ho19))
              have n0_:=aM (Kd.S_elder' (by (with_reducible repeat (first | apply Kd.S_alloc | apply Kd.S_drewN | apply Kd.S_drew)); exact HO_9.out) (Kd.R_base ho19) hb); have n1_:=aM (Kd.S_elder' (by (with_reducible repeat (first | apply Kd.S_alloc | apply Kd.S_drewN | apply Kd.S_drew)); exact HO_23.out) (Kd.R_base ho19) hb); have nX_:=aM (Kd.R_elder' (by (with_reducible repeat (first | apply Kd.R_alloc | apply Kd.R_drewN | apply Kd.R_drew)); exact HX126.out) (Kd.R_base ho19) hb); have n2_:=aM (Kd.R_lower ho19 (zaK (by repeat (first | (with_reducible first | exact HB.out | apply zaA | apply bN | apply bD) | exact HB.out)))); have n3_:=aM (zaJ (by repeat (first | (with_reducible first | exact HB.out | apply zaA | apply bN | apply bD) | exact HB.out)) hb); clear HO_9; clear HO_23; clear HB; have HO_9:=n0_; have HO_23:=n1_; have HO131:=n2_; have HB:=n3_
              clear n0_ n1_ n2_ n3_; clear HX126; have HX126:=nX_; clear nX_; clear hb ho19; obtain ⟨Ao21,co21,eo21⟩:=Kd.R_slice HO131.out
              (first | subst eo21 | (injection eo21 with f1_ f2_ f3_; have f4_:=f1_.symm; have f5_:=f3_.symm; clear f1_ f2_ f3_; subst f4_; subst f5_))
              refine hK.out _ _ ⟨(R_cell HX126.out PP127.out QQ127.out),(R_cell HX126.out PP128.out QQ128.out)⟩ (fun hHeld => ?_); clear hK K; refine norm_ (a':=?_) ?_ ?_; rotate_left
              ·
               show Act.put _ (some 45) _ = _
               simp only [Act.put,sA,sB,sC,zaP]; rfl
              refine one_ (i:=11) (N:=some 46) #[true,true,true,true,true,true,true,true,true,true,true,true,false,false] rfl rfl (zbP HT_.out (by kernel_rfl)) (by decide) (fun K hK => ?_); refine value_ (w1:=?_) (v:=?_) (by rfl) rfl ?_ ?_; rotate_left 2
              ·
               go_simp
               constructor
               ·
                rfl
               ·
                rfl
              refine hK.out _ _ ⟨(World.cell?_alloc_lt _ _ _ (bC _ _ ((R_cell HX126.out PP127.out QQ127.out)))).trans ((R_cell HX126.out PP127.out QQ127.out)),(World.cell?_alloc_lt _ _ _ (bC _ _ ((R_cell HX126.out PP128.out QQ128.out)))).trans ((R_cell HX126.out PP128.out QQ128.out))⟩ (fun hHeld => ?_); clear hK K; refine norm_ (a':=?_) ?_ ?_; rotate_left
              ·
               show Act.put _ (some 46) _ = _
               simp only [Act.put,sA,sB,sC,zaP]; rfl
              refine one_ (i:=12) (N:=some 47) #[true,true,true,true,true,true,true,true,true,true,true,true,true,false] rfl rfl (zbP HT_.out (by kernel_rfl)) (by decide) (fun K hK => ?_)
              refine Kd.S_append_step (Kd.slice 3 (Kd.int .i64)) (w0:=w) w.heap.size (by rfl) (.tmp 35) (.tmp 46) 23 28 (.slice none 0 0) 24 rfl Try.underlying23 info28 rfl (by decide) (by omega) u9 x9_2 y129 [.slice Ao21 y129.length co21] (fun k_ => some k_ ≠ (.slice (some ad126) t122.length co7 : Value).ownBlock) (fun k_ => some k_ = (.slice Ao21 y129.length co21 : Value).ownBlock) rfl rfl ?aP (fun k_ hk_ => ((Kd.R_mono (ok':=fun k_ => ((fun k_ => some k_ ≠ (.slice (some ad126) t122.length co7 : Value).ownBlock)) k_ ∧ some k_ ≠ (u9 : Value).ownBlock) (Kd.R_apart' (Kd.R_apart' (HO131.out) (Kd.S_typed HO_23.out) (by decide)) (Kd.S_typed HO_9.out) (by decide)) (fun k_ hk => ⟨hk.1.2,hk.2⟩))).1 k_ hk_.symm) ?aF ?aO ?aB ?aS ?aL ?_
              (case aP => exact Kd.M_row (Kd.R_mono (Kd.R_tight rfl (Kd.R_mono (ok':=fun k_ => ((fun k_ => some k_ ≠ (.slice (some ad126) t122.length co7 : Value).ownBlock)) k_ ∧ some k_ ≠ (u9 : Value).ownBlock) (Kd.R_apart' (Kd.R_apart' (HO131.out) (Kd.S_typed HO_23.out) (by decide)) (Kd.S_typed HO_9.out) (by decide)) (fun k_ hk => ⟨hk.1.2,hk.2⟩))) (fun _ h_ => h_)))
              (case aB => exact (by repeat (first | (with_reducible first | exact HB.out | apply zaA | apply bN | apply bD) | exact HB.out)))
              (case aF => exact (fun k_ hk => Kd.fresh' (Kd.S_lt (by (with_reducible repeat (first | apply Kd.S_alloc | apply Kd.S_drewN | apply Kd.S_drew)); exact HO_23.out)) k_ hk))
              (case aO => exact (by (with_reducible repeat (first | apply Kd.S_alloc | apply Kd.S_drewN | apply Kd.S_drew)); exact Kd.S_mono HO_9.out (fun k_ hk => ⟨hk.1,fun e_ => hk.2 e_⟩)))
              (case aS => exact (zaK (by repeat (first | (with_reducible first | exact HB.out | apply zaA | apply bN | apply bD) | exact HB.out))))
              (case aL => have:=LMc16.out; omega)
              intro v133 w20 ho hb hg hat; rw [← Ny132.out] at ho; have n0_:=aM (Kd.S_after (ok:=(fun k_ => some k_ ≠ (.slice Ao21 y129.length co21 : Value).ownBlock)) (by (with_reducible repeat (first | apply Kd.S_alloc | apply Kd.S_drewN | apply Kd.S_drew)); exact Kd.S_mono HO_23.out (fun _ hk => by first | exact ⟨hk.2,hk.1⟩ | (have hz_:=hk; (try simp only [and_assoc,true_and] at hz_); refine ⟨?_,?_⟩ <;> first | exact hz_.1 | exact hz_.2.1 | exact hz_.2.2.1 | exact hz_.2.2.2.1 | exact hz_.2.2.2.2.1 | exact hz_.2.2.2.2 | exact hz_.2.2.2 | exact hz_.2.2 | exact hz_.2))) hg hat); have nX_:=aM (Kd.R_after (ok:=fun _ => True) (by (with_reducible repeat (first | apply Kd.R_alloc | apply Kd.R_drewN | apply Kd.R_drew)); exact Kd.R_mono HX126.out (fun _ hk => ⟨trivial,hk.1⟩)) hg hat); have n1_:=aM (hb); have n2_:=aM (ho); clear HO_23; clear HB; clear HO_9
              clear HO131; have HO_23:=n0_; have HB:=n1_; have HO134:=n2_; clear n0_ n1_ n2_; clear HX126; have HX126:=nX_; clear nX_; clear ho hb hg hat; refine hK.out _ _ ⟨(R_cell HX126.out PP127.out QQ127.out),(R_cell HX126.out PP128.out QQ128.out)⟩ (fun hHeld => ?_); clear hK K; refine norm_ (a':=?_) ?_ ?_; rotate_left
              ·
               show Act.put _ (some 47) _ = _
               simp only [Act.put,sA,sB,sC,zaP]; rfl
              refine zaQ (i:=13) (N:=some 9) (v:=?_) (a':=?_) #[true,true,true,true,true,true,true,true,true,true,true,true,true,true] rfl rfl (zaO HT_.out (by kernel_rfl)) (fun _ _ _ h => h) (Or.inl ⟨by rfl,?_⟩) ?_ ?_; rotate_left
              ·
               intro w'; go_simp; with_reducible rfl
              rotate_left
              ·
               simp only [Act.put,sA,sB,sC,zaP]; rfl
              refine done_ (done_of HT_.out (by kernel_rfl)) ?_
              try go_wp2
              go_roundg k2; case measure => have:=HK1.out; have:=HK2.out; omega
              case rel => exact ⟨(y132),(wrap64 (x12_2 + 1)),(by first | rfl | (simp; done) | (simp [*]; done)),H',⟨by have:=HK1.out; have:=HK2.out; omega⟩,⟨by (with_reducible repeat (first | apply Kd.S_alloc | apply Kd.S_drewN | apply Kd.S_drew)); exact HO134.out⟩,⟨by (with_reducible repeat (first | apply Kd.S_alloc | apply Kd.S_drewN | apply Kd.S_drew)); exact Kd.S_mono HO_23.out (fun _ hk => hk.2)⟩,⟨by repeat (first | (with_reducible first | exact HB.out | apply zaA | apply bN | apply bD) | exact HB.out)⟩,⟨by (with_reducible repeat (first | apply Kd.R_alloc | apply Kd.R_drewN | apply Kd.R_drew)); exact Kd.R_mono HX126.out (fun _ hk => hk.2)⟩⟩
             ·
              rw [if_neg c16] at H; exact absurd H (by simp)
            ·
             rw [if_neg c15] at H; exact absurd H (by simp)
           ·
            rw [if_neg c14] at H; exact absurd H (by simp)
          ·
           rw [if_neg c13] at H; exact absurd H (by simp)
         ·
          rw [if_neg c11] at H; have c11b0 : decide (x12_2 < ((rd_L2 t122 x25_1).length : Int)) = false:=decide_eq_false c11; clear c11; have H':=aM H; clear H; go_wp2; go_roundg k2; case measure => have:=HK1.out; have:=HK2.out; omega
          case rel => exact ⟨(x9_2),(wrap64 (x25_1 + 1)),(by first | rfl | (simp; done) | (simp [*]; done)),H',⟨by have:=HK1.out; have:=HK2.out; omega⟩,⟨by (with_reducible repeat (first | apply Kd.S_alloc | apply Kd.S_drewN | apply Kd.S_drew)); exact HO_9.out⟩,⟨by (with_reducible repeat (first | apply Kd.S_alloc | apply Kd.S_drewN | apply Kd.S_drew)); exact HO_23.out⟩,⟨by repeat (first | (with_reducible first | exact HB.out | apply zaA | apply bN | apply bD) | exact HB.out)⟩⟩
      ·
       rw [if_neg c10] at H; exact absurd H (by simp)
     ·
      rw [if_neg c9] at H; exact absurd H (by simp)
    ·
     rw [if_neg c8] at H; have c8b0 : decide (x25_1 < (t122.length : Int)) = false:=decide_eq_false c8; clear c8; by_cases g1 : pairs2 x9_1 = true
     ·
      rw [if_pos g1] at H; by_cases g2 : x9_1.length < 4611686018427387904
      ·
       rw [if_pos g2] at H; obtain rfl:=Option.some.inj H; have G1:=aM g1; have G2:=aM g2; clear g1 g2; go_wp2_with (first | (go_at_call 35; (with_reducible refine (sort35' (by repeat (first | (with_reducible first | exact HB.out | apply zaA | apply bN | apply bD) | exact HB.out)) (by (with_reducible repeat (first | apply Kd.S_alloc | apply Kd.S_drewN | apply Kd.S_drew)); exact HO_9.out) (pairs2_len G1.out) G2.out).mono ?_); rintro e w35 ⟨rfl,hS35,hB35⟩; have HS35:=aM hS35; have HB35:=aM hB35; clear hS35 hB35) | (go_at_call 37; (with_reducible refine (comp37 HB35.out HS35.out (sortL_len (pairs2_len G1.out)) (by rw [sortL_length]; exact G2.out)).mono ?_); rintro e w37 ⟨v37,rfl,hS37,hB37⟩; have HS37:=aM hS37; have HB37:=aM hB37; clear hS37 hB37)); go_ret; exact ⟨_,rfl,Kd.S_mono HS37.out (fun _ hk => trivial),HB37.out⟩
      ·
       rw [if_neg g2] at H; exact absurd H (by simp)
     ·
      rw [if_neg g1] at H; exact absurd H (by simp)
 ·
  replace c5:=Bool.eq_false_iff.mpr c5; subst c5; have H1 : (some ([] : List (List Int))) = some r:=by rw [if_neg (show ¬ (false = true) by decide)] at H; exact H
  clear H; have H:=H1; clear H1; obtain rfl:=Option.some.inj H; go_enter Try.func11,Try.ntmps11
  go_wp2_with (first | ((with_reducible refine zaI (f:=34) rfl ?_); refine zaR (some 18) rfl rfl Try.func34 (by kernel_rfl) rfl #[.agg #[.int .i64 a0,.int .i64 a1],.slice A2 l2.length c2] rfl (by (try simp only [mA,mB,mC]); first | done | rfl | (simp only [mE,mD]; rfl)) ?_; (with_reducible refine (impl_fabric_wires.calls k a0 a1 _ _ l2 t122 false _ ?side1 ?side2 A4.out).mono ?_); (case side1 => repeat (first | exact HR2.out | (with_reducible refine Kd.C_alloc ?_ _) | (with_reducible refine Kd.C_drewN ?_ _) | (with_reducible refine Kd.C_drew ?_))); (case side2 => exact HC2.out); rintro e w22 ⟨v123,rfl,ho0,hb⟩; refine ⟨_,rfl,?_⟩; have n0_:=aM (Kd.S_lower ho0 (zaK (by repeat (first | (with_reducible first | exact HB.out | apply zaA | apply bN | apply bD) | exact HB.out)))); have n1_:=aM (zaJ (by repeat (first | (with_reducible first | exact HB.out | apply zaA | apply bN | apply bD) | exact HB.out)) hb); clear HB; have HO124:=n0_; have HB:=n1_; clear n0_ n1_; (try clear hb); (try clear hb2); (try clear hk); (try clear hi); (try clear ho0)))
  go_ret; exact ⟨_,by first | rfl | (simp [*] <;> rfl),by first | exact Kd.S_nil _ _ _ _ _ | exact Kd.N_nil _ _ _ _ _ | exact Kd.V_nil _ _ _ _ _ | exact Kd.Q_nil _ _ _ _ _ | exact Kd.R_nil _ _ _ _ _,by repeat (first | (with_reducible first | exact HB.out | apply zaA | apply bN | apply bD) | exact HB.out)⟩
end Go.Proofs.Ytdbokdodjekchaa.PFnRouteNoRound
