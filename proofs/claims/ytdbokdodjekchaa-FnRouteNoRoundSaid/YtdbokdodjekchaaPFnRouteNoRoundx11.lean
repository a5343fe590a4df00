/- What the Go functions that this law reaches answer, function by function; conditions: those that each contract names. Made for this claim by a program of this session (wip/myprint) over the kit's print. -/
import Derived.Test.YtdbokdodjekchaaPFnRouteNoRoundx0
import Derived.Test.YtdbokdodjekchaaPFnRouteNoRoundx10
namespace Go.Proofs.Ytdbokdodjekchaa.PFnRouteNoRound
open Go.RowKit Go.Proofs.YtdbokdodjekchaaW.PrintWords Go.Proofs.YtdbokdodjekchaaW.PrintLast Go.Proofs.YtdbokdodjekchaaW.PrintMore
attribute [local go_sem] zbL zbJ max_two min_two zbF zbE zbK zbI   -- for this text's walks alone
set_option linter.unusedVariables false
set_option linter.unusedSimpArgs false
-- NOT PRINTED: function 46 (slices_Clone_int_int)
def SR (w : World) (lo hi : Nat) (v : Value) (xs : List (List Int)) : Prop:=hi ≤ w.heap.size ∧ Kd.S (Kd.slice 3 (Kd.int .i64)) 28 w lo (fun k => k < hi) v xs
theorem SR.new {W w' : World} {v : Value} {xs : List (List Int)} (ho : Kd.S (Kd.slice 3 (Kd.int .i64)) 28 w' W.heap.size (fun _ => True) v xs) : ∃ lo hi,lo = W.heap.size ∧ SR w' lo hi v xs :=
 ⟨_,w'.heap.size,rfl,Nat.le_refl _,Kd.S_mono (Kd.S_bound ho) (fun k hk => hk.2.2.1)⟩
theorem SR.move {W w' : World} {lo hi : Nat} {v : Value} {xs : List (List Int)} (h : SR W lo hi v xs) (hs : W.heap.size ≤ w'.heap.size) (hk : ∀ k,lo ≤ k → k < hi → w'.heap[k]? = W.heap[k]?) : SR w' lo hi v xs:=by
 obtain ⟨h1,f,h2⟩:=h; refine ⟨Nat.le_trans h1 hs,f,Kd.R_mono (Kd.R_move (Kd.R_bound h2) (fun k hk' => hk k hk'.2.1 ?_)) (fun _ hk' => hk'.1)⟩; exact hk'.1
theorem SR.below {W w' : World} {lo hi : Nat} {v : Value} {xs : List (List Int)} (h : SR W lo hi v xs) (hb : Below W.heap.size W w') : SR w' lo hi v xs:=h.move hb.size (fun k _ h2 => hb.block k (Nat.lt_of_lt_of_le h2 h.1))
theorem SR.drewN {W : World} {lo hi : Nat} {v : Value} {xs : List (List Int)} (h : SR W lo hi v xs) (n : Nat) : SR (W.drewN n) lo hi v xs:=h.move (Nat.le_refl _) (fun _ _ _ => rfl)
theorem SR.drew {W : World} {lo hi : Nat} {v : Value} {xs : List (List Int)} (h : SR W lo hi v xs) : SR W.drew lo hi v xs:=h.move (Nat.le_refl _) (fun _ _ _ => rfl)
theorem SR.c {W : World} {lo hi c : Nat} {A : Option Addr} {xs : List (List Int)} (h : SR W lo hi (.slice A xs.length c) xs) : Kd.C (Kd.slice 3 (Kd.int .i64)) W A xs.length xs:=(Kd.S_reads' h.2).2.2
theorem SR.l {W : World} {lo hi c : Nat} {A : Option Addr} {xs : List (List Int)} (h : SR W lo hi (.slice A xs.length c) xs) : xs.length ≤ c:=(Kd.S_reads' h.2).2.1
def hget : List (Int × Bool) → Int → Bool
 | [],_ => false
 | p :: s,x => if x = p.1 then p.2 else hget s x
def hmap (w : World) (P : Program) (k e : TypeId) (B : Nat) (s : List (Int × Bool)) : Prop:=∃ D : DataW Unit,w.ownsMap P k (plainElem P e) B s.length D ∧ ∀ x : Int,D.atKey (.int .i64 x) (.lit (.bool false)) = .lit (.bool (hget s x))
theorem hmap_kept {w w' : World} {P : Program} {k e : TypeId} {B : Nat} {s : List (Int × Bool)} {row : Option Nat} (h : hmap w P k e B s) (hg : w.grownBy w' row) (hne : some B ≠ row) : hmap w' P k e B s:=by
 obtain ⟨D,h1,h2⟩:=h; exact ⟨D,h1.kept hg hne,h2⟩
theorem hmap_below {w w' : World} {P : Program} {k e : TypeId} {B : Nat} {s : List (Int × Bool)} (h : hmap w P k e B s) (hb : Below w.heap.size w w') : hmap w' P k e B s:=by
 obtain ⟨D,h1,h2⟩:=h; have hl:=h1.lt; obtain ⟨es,clock,hh,F,hs,hD⟩:=h1; exact ⟨D,⟨es,clock,(hb.block B hl).trans hh,F,hs,hD⟩,h2⟩
theorem hbool_inv {P : Program} {e : TypeId} (he : P.underlying e = some .bool) {v : Value} {x : Bool} {ps : List MemPlace} (h : plainElem (H:=Unit) P e v = some (.lit (.bool x),ps)) : v = .bool x:=by
 unfold plainElem at h; rw [he] at h; cases v <;> simp at h
 rw [h.1]
theorem hmap_look {w : World} {P : Program} {t k e : TypeId} {B : Nat} {s : List (Int × Bool)} (h : hmap w P k e B s) (K : Go.Maps.Keyed P k) (ht : P.underlying t = some (.map k e)) (hk : P.underlying k = some (.int .i64)) (he : P.underlying e = some .bool)
  (hz : (zeroValue e).run P w = .ok (.bool false) w) (x : Int) (hw : (Lit.int .i64 x).wf = true) : (Instr.lookup t (.map (some B)) (.int .i64 x) false).run P w = .ok (.bool (hget s x)) w:=by
 obtain ⟨D,h1,h2⟩:=h; obtain ⟨v,ps,hrun,hv⟩:=h1.lookup K ht hz (plainElem_bool he false) (Go.Maps.keyOf_int_mk hk hw); rw [h2 x] at hv; rw [hrun,hbool_inv he hv]
theorem hmap_store {w : World} {P : Program} {t k e : TypeId} {B : Nat} {s : List (Int × Bool)} (h : hmap w P k e B s) (K : Go.Maps.Keyed P k) (ht : P.underlying t = some (.map k e)) (hk : P.underlying k = some (.int .i64)) (he : P.underlying e = some .bool)
  (hn : s.length < maxLen) (x : Int) (b : Bool) (hw : (Lit.int .i64 x).wf = true) : ∃ w',(Instr.mapUpdate t (.map (some B)) (.int .i64 x) (.bool b)).run P w = .ok () w' ∧ hmap w' P k e B ((x,b) :: s) ∧ w.grownBy w' (some B):=by
 obtain ⟨D,h1,h2⟩:=h; obtain ⟨w',hrun,hown,hg⟩:=h1.update K ht hn (Go.Maps.keyOf_int_mk hk hw) (plainElem_bool he b); refine ⟨w',hrun,⟨_,by rw [List.length_cons]; exact hown,fun y => ?_⟩,hg⟩; by_cases e : y = x
 ·
  subst e; rw [Go.Maps.atKey_put_same h1.isMap (by exact trivial)]
  simp [hget]
 ·
  rw [Go.Maps.atKey_put_other (by intro h; exact e (by injection h)),h2 y]
  simp [hget,e]
theorem wpList_lookup_hmap {P : Program} (w : World) {ops : Array Oper} {rest : List Oper} {o : Oper} {a : Act} {Q : Exit → Act → World → Prop}
  (hg : o.guard = none) (m x : Operand) (t : TypeId) (hop : o.op = Op.lookup t m x false)
  (k e : TypeId) (K : Go.Maps.Keyed P k) (ht : P.underlying t = some (.map k e)) (hk : P.underlying k = some (.int .i64)) (he : P.underlying e = some .bool) (hz : (zeroValue e).run P w = .ok (.bool false) w) (B : Nat) (s : List (Int × Bool))
  (hm : a.eval m = .map (some B)) (hown : hmap w P k e B s) (key : Int) (hx : a.eval x = .int .i64 key) (hw : (Lit.int .i64 key).wf = true) (b : Bool) (hb : hget s key = b)
  (hK : wpList P ops Q rest (a.put o.dst (.bool b)) w) :
  wpList P ops Q (o :: rest) a w:=by
 refine wpList_plain hg fun K' hK' => ?_
 have hrun:=hmap_look hown K ht hk he hz key hw; rw [hb] at hrun; unfold Oper.wp
 simp [execOp,hop,hm,hx,hrun,Result.andThen]
 exact hK' _ _ (by simpa using hK)
theorem wpList_mapUpdate_hmap {P : Program} (w : World) {ops : Array Oper} {rest : List Oper} {o : Oper} {a : Act} {Q : Exit → Act → World → Prop}
  (hg : o.guard = none) (m x v : Operand) (t : TypeId) (hop : o.op = Op.mapUpdate t m x v)
  (k e : TypeId) (K : Go.Maps.Keyed P k) (ht : P.underlying t = some (.map k e)) (hk : P.underlying k = some (.int .i64)) (he : P.underlying e = some .bool) (B : Nat) (s : List (Int × Bool))
  (hm : a.eval m = .map (some B)) (hown : hmap w P k e B s) (hn : s.length < maxLen) (key : Int) (b : Bool) (hx : a.eval x = .int .i64 key) (hv : a.eval v = .bool b) (hw : (Lit.int .i64 key).wf = true)
  (hK : ∀ w',hmap w' P k e B ((key,b) :: s) → w.grownBy w' (some B) → wpList P ops Q rest (a.put o.dst undef) w') :
  wpList P ops Q (o :: rest) a w:=by
 refine wpList_plain hg fun K' hK' => ?_
 obtain ⟨w',hrun,r1,r2⟩:=hmap_store hown K ht hk he hn key b hw; unfold Oper.wp
 simp [execOp,hop,hm,hx,hv,hrun,Result.andThen]
 exact hK' _ _ (hK w' r1 r2)
theorem hmap_event {P : Program} {ops : Array Oper} {rest : List Oper} {o : Oper} {a : Act} {Q : Exit → Act → World → Prop} {W : World} {t k e : TypeId} (hgd : o.guard = none) (hop : o.op = Op.makeMap t none)
  (h : ∀ g,g = W.heap.size → ∀ w1,hmap w1 P k e g [] → Below W.heap.size W w1 → wpList P ops Q rest (a.put o.dst (.map (some g))) w1) : wpList P ops Q (o :: rest) a W :=
 Kd.event_run hgd (by simp [execOp,hop,run_makeMap]) (h _ rfl _ ⟨.map [],World.ownsMap_made _ _ _ _,fun _ => rfl⟩ (zaA (Below.refl _ _) _))
theorem hmap_ne {w : World} {P : Program} {k e : TypeId} {B g : Nat} {s : List (Int × Bool)} {cs : Array Value} {t : TypeId} {fr : Nat × Nat} (h : hmap w P k e B s) (hb : w.heap[g]? = some (.cells cs t fr)) : B ≠ g:=by
 obtain ⟨D,⟨es,clock,hh,F,hs,hD⟩,h2⟩:=h; rintro rfl; rw [hb] at hh
 simp at hh
def hwfAll (l : List (List Int)) : Bool:=l.all fun r => r.all fun x => (Lit.int .i64 x).wf
theorem wpList_look {P : Program} (w : World) {ops : Array Oper} {rest : List Oper} {o : Oper} {a : Act} {Q : Exit → Act → World → Prop}
  (hg : o.guard = none) (m x : Operand) (t : TypeId) (hop : o.op = Op.lookup t m x false) (b : Nat) (key : Int) (v : Value) (hm : a.eval m = .map (some b)) (hx : a.eval x = .int .i64 key)
  (hrun : (Instr.lookup t (.map (some b)) (.int .i64 key) false).run P w = .ok v w) (hK : wpList P ops Q rest (a.put o.dst v) w) : wpList P ops Q (o :: rest) a w:=by
 refine wpList_plain hg fun K' hK' => ?_
 unfold Oper.wp
 simp [execOp,hop,hm,hx,hrun,Result.andThen]
 exact hK' _ _ hK
def nxt (ps : List (List Int)) (x : Int) : List Int:=(ps.filter fun p => rd p 0 == x).map fun p => rd p 1
theorem nxt_snoc (ps : List (List Int)) (p : List Int) (x : Int) : nxt (ps ++ [p]) x = nxt ps x ++ (if rd p 0 = x then [rd p 1] else []):=by
 unfold nxt; rw [List.filter_append,List.map_append]
 congr 1
 by_cases h : rd p 0 = x <;> simp [h]
def dat : List Int → DataW Unit
 | [] => .nil
 | z :: zs => .slice (Go.ChangeShapes.lits .i64 (z :: zs)) []
theorem lits_inj {xs ys : List Int} (h : Go.ChangeShapes.lits (H:=Unit) .i64 xs = Go.ChangeShapes.lits .i64 ys) : xs = ys:=by
 unfold Go.ChangeShapes.lits at h; exact (List.map_inj_right (fun a b hab => by cases hab; rfl)).mp h
theorem dat_row {w : World} {base : Nat} {v : Value} {zs ns : List Int} (h : w.ownsInts base 3 .i64 v zs) (e : dat ns = rowDatum .i64 v zs) : zs = ns:=by
 rcases h.datum (H:=Unit) with ⟨h1,h2⟩ | h1
 ·
  rw [h1] at e; cases ns with
  | nil => exact h2
  | cons z ns => simp [dat] at e
 ·
  rw [h1] at e; cases ns with
  | nil => simp [dat] at e
  | cons z ns =>
   simp only [dat,DataW.slice.injEq,and_true] at e; exact (lits_inj e).symm
theorem dat_pos {w : World} {base : Nat} {v : Value} {zs : List Int} (h : w.ownsInts base 3 .i64 v zs) (hne : zs ≠ []) : rowDatum .i64 v zs = dat zs:=by
 rw [h.datum_pos hne]; cases zs with
 | nil => exact absurd rfl hne
 | cons z zs => rfl
theorem reps_int (w : World) (base : Nat) (ok : Nat → Prop) (xs : List Int) : Reps ((Kd.int .i64).M w base ok) 1 xs (xs.map (Value.int .i64)):=by
 refine ⟨by rw [List.length_map,Nat.mul_one],fun j p hj => ?_⟩; rw [Nat.mul_one]; have hlt:=(List.getElem?_eq_some_iff.mp hj).1; have hp:=(List.getElem?_eq_some_iff.mp hj).2; rw [← List.map_drop,← List.map_take,List.drop_eq_getElem_cons hlt]
 show ((xs[j] :: _).take 1).map (Value.int .i64) = [Value.int .i64 p]
 rw [hp]; rfl
theorem R_of_ints {w : World} {base : Nat} {v : Value} {zs : List Int} (h : w.ownsInts base 3 .i64 v zs) : Kd.R (Kd.int .i64) 3 w base (fun _ => True) v zs:=⟨fun _ _ => trivial,zs.map (Value.int .i64),h.1,reps_int _ _ _ _⟩
theorem Q_inner {w : World} {base : Nat} {ok : Nat → Prop} {v : Value} {xs : List Int} (h : Kd.Q (Kd.int .i64) 3 w base ok v xs) : QRow w base 3 1 v xs.length (xs.map (Value.int .i64)):=by
 obtain ⟨_,inner,ho,hr⟩:=h; have e : inner = xs.map (Value.int .i64):=by
  have hl : inner.length = xs.length:=by have:=hr.1; rw [show (Kd.int .i64).sz = 1 from rfl,Nat.mul_one] at this; exact this
  apply List.ext_getElem?
  intro j; by_cases hj : j < xs.length
  ·
   have h1:=hr.2 j xs[j] (List.getElem?_eq_getElem hj); have h2 : (inner.drop (j * (Kd.int .i64).sz)).take (Kd.int .i64).sz = [Value.int .i64 xs[j]]:=h1; rw [show (Kd.int .i64).sz = 1 from rfl,Nat.mul_one] at h2; have h3:=congrArg List.head? h2; rw [List.head?_take,List.head?_drop] at h3; simp only [Nat.one_ne_zero,if_false,List.head?_cons] at h3; rw [h3,List.getElem?_map,List.getElem?_eq_getElem hj]; rfl
  ·
   rw [List.getElem?_eq_none (by omega),List.getElem?_eq_none (by rw [List.length_map]; omega)]
 rw [← e]; exact ho
theorem Q_of_inner {w : World} {base : Nat} {v : Value} {xs : List Int} (h : QRow w base 3 1 v xs.length (xs.map (Value.int .i64))) : Kd.Q (Kd.int .i64) 3 w base (fun _ => True) v xs:=⟨fun _ _ => trivial,_,h,reps_int _ _ _ _⟩
theorem run_append_zero {P : Program} (w : World) (t ty e : TypeId) (i : TypeInfo) (ht : P.underlying t = some (.slice e)) (hi : P.info? e = some i) (A A2 : Option Addr) (n c c2 : Nat) (hn : n ≤ c) :
  (Builtin.append_ #[t,t] ty #[.slice A n c,.slice A2 0 c2]).run P w = .ok (.slice A n c) w:=by
 cases A <;> cases A2 <;> simp [Builtin.append_,run_underlying ht,sizeOf,typeInfo,hi,Builtin.lenOf,Builtin.firstCells,loadCells,loadCellsFrom,storeCells,hn]
theorem todo_append {W : World} {base base2 : Nat} {ok : Nat → Prop} {v v2 : Value} {xs zs : List Int} (h : Kd.Q (Kd.int .i64) 3 W base ok v xs) (h2 : W.ownsInts base2 3 .i64 v2 zs) (hl : xs.length + zs.length < 17592186044416) (hb : base ≤ W.heap.size) (ty : TypeId) :
  ∃ v' w',(Builtin.append_ #[28,28] ty #[v,v2]).run Try.prog W = .ok v' w' ∧ Kd.Q (Kd.int .i64) 3 w' base (fun _ => True) v' (xs ++ zs) ∧ W.grownBy w' v.ownBlock ∧ (v'.ownBlock = v.ownBlock ∨ ∃ b,v'.ownBlock = some b ∧ W.heap.size ≤ b):=by
 obtain ⟨i0,hi,hz0,hz1,hz2⟩:=info_parts info3; by_cases hz : zs = []
 ·
  subst hz; obtain ⟨A,c,ev,hc⟩:=Kd.Q_slice h; obtain ⟨A2,c2,ev2⟩:=Kd.R_slice (R_of_ints h2); refine ⟨v,W,?_,by rw [List.append_nil]; exact Kd.Q_mono h (fun _ _ => trivial),⟨rfl,rfl,rfl,Nat.le_refl _,fun _ _ _ => rfl⟩,.inl rfl⟩; rw [ev,ev2]; exact run_append_zero W 28 ty 3 i0 Try.underlying28 hi A A2 _ c c2 hc
 ·
  obtain ⟨hown,hwf⟩:=h2; have hown':=hown
  rcases hown'.2 with ⟨_,h0⟩ | ⟨g,cap,cur,rfl,hg1,hg2,hg3,hg4,hg5,hg6⟩
  ·
   exact absurd (List.length_eq_zero_iff.mp h0) hz
  ·
   have hm : 0 < zs.length:=List.length_pos_iff.mpr hz; obtain ⟨v',w',hr,hq,hg,hat⟩:=q_append (P:=Try.prog) W base 28 ty 3 i0 (.int .i64 0) 1 8 Try.underlying28 hi hz0 hz1 hz2 rfl (by decide) v xs.length (xs.map (Value.int .i64)) (Q_inner h) ⟨g,0,none⟩ zs.length cap (zs.map (Value.int .i64)) (by rw [List.length_map,Nat.mul_one])
    (hown.cells (g:=g) rfl) (fun u hu => by obtain ⟨x,_,rfl⟩:=List.mem_map.1 hu; rfl) hm (by unfold maxLen; omega) (by omega) hb
   refine ⟨v',w',hr,Q_of_inner ?_,hg,hat⟩; rw [List.length_append,List.map_append]; exact hq
theorem wpList_todo {ops : Array Oper} {rest : List Oper} {o : Oper} {a : Act} {Q : Exit → Act → World → Prop} {W : World} (hgd : o.guard = none) (s x : Operand) (ho : o.op = .call { callee:=.builtin .append,args:=#[s,x],argTypes:=#[28,28] })
  {base base2 : Nat} {ok : Nat → Prop} {v v2 : Value} {xs zs : List Int} (hs : a.eval s = v) (hx : a.eval x = v2) (h : Kd.Q (Kd.int .i64) 3 W base ok v xs) (h2 : W.ownsInts base2 3 .i64 v2 zs) (hl : xs.length + zs.length < 17592186044416) (hb : base ≤ W.heap.size)
  (hK : ∀ v' w',Kd.Q (Kd.int .i64) 3 w' base (fun _ => True) v' (xs ++ zs) → W.grownBy w' v.ownBlock → (v'.ownBlock = v.ownBlock ∨ ∃ b,v'.ownBlock = some b ∧ W.heap.size ≤ b) → wpList Try.prog ops Q rest (a.put o.dst v') w') :
  wpList Try.prog ops Q (o :: rest) a W:=by
 obtain ⟨v',w',hr,h1,h3,h4⟩:=todo_append h h2 hl hb o.type; refine wpList_plain hgd fun K hK' => ?_
 unfold Oper.wp execOp; simp only [ho,resolve,invoke,builtin,Sem.run_bind,Sem.run_pure,Result.andThen_ok,mA,mB,mC,hs,hx,hr]; exact hK' _ _ (hK v' w' h1 h3 h4)
def GM (w : World) (B base n : Nat) (ps : List (List Int)) : Prop:=∃ D : DataW Unit,w.ownsGroups Try.prog 3 base 3 .i64 B n D ∧ ∀ x : Int,D.atKey (.int .i64 x) .nil = dat (nxt ps x)
theorem GM_made {w : World} {B base : Nat} (h : w.heap[B]? = some (.map #[] 0)) (hb : B < base) : GM w B base 0 [] :=
 ⟨.map [],⟨#[],0,h,⟨by simp,Go.MapKept.stamped_empty 0,by simp⟩,Nat.le_refl _,rfl,hb,by simp,by simp⟩,fun x => rfl⟩
theorem look_two {P : Program} {t k e : TypeId} {b : Nat} {R : Value → Option (DataW Unit × List MemPlace)} {es : Array MapEntry} {clock : Nat} (K : Go.Maps.Keyed P k) (ht : P.underlying t = some (.map k e)) {z : Value} (hz : ∀ w,(zeroValue e).run P w = .ok z w) (F : WideElems.Fit P k R es clock) {key : Value} {kl : Lit} (hkey : keyOf P k key = some kl)
  {w w' : World} {v : Value} (hb : w.heap[b]? = some (.map es clock)) (hb' : w'.heap[b]? = some (.map es clock)) (h : (Instr.lookup t (.map (some b)) key false).run P w = .ok v w) : (Instr.lookup t (.map (some b)) key false).run P w' = .ok v w':=by
 rcases Go.Maps.fit_look false K ht (hz w) hb F hkey with ⟨h1,h2,_⟩ | ⟨e0,y,m0,k0,h1,_,at0,_⟩
 ·
  rcases Go.Maps.fit_look false K ht (hz w') hb' F hkey with ⟨h3,_,_⟩ | ⟨e1,y1,m1,k1,_,_,_,_⟩
  ·
   rw [h1] at h; simp only [Bool.false_eq_true,if_false] at h h3
   injection h with h _
   rw [← h]; exact h3
  ·
   exact absurd k1 (h2 e1 m1)
 ·
  rcases Go.Maps.fit_look false K ht (hz w') hb' F hkey with ⟨_,h4,_⟩ | ⟨e1,y1,m1,k1,h3,_,_,_⟩
  ·
   exact absurd k0 (h4 e0 m0)
  ·
   have hap : es.toList.Pairwise (fun x y => x.key ≠ y.key):=by
    have h5:=Go.Maps.fit_apart K F; rw [List.pairwise_map] at h5; refine h5.imp_of_mem (fun {a b'} ha hb2 hne he => hne ?_); obtain ⟨ya,hya⟩:=F.reads a ha; obtain ⟨yb,hyb⟩:=F.reads b' hb2; have m1:=WideElems.rd_key hya; have m2:=WideElems.rd_key hyb; rw [he,m2] at m1; rw [WideElems.rg_of hya,WideElems.rg_of hyb]; exact (Option.some.inj m1).symm
   have e01:=entry_eq_of_key hap m0 m1 (k0.trans k1.symm); subst e01; rw [h1] at h; simp only [Bool.false_eq_true,if_false] at h h3
   injection h with h _
   rw [← h]; exact h3
theorem GM_at {w : World} {B base n : Nat} {ps : List (List Int)} (h : GM w B base n ps) (hn : n < maxLen) {x : Int} (hx : (Lit.int .i64 x).wf = true) :
  ∃ v es clock,w.heap[B]? = some (.map es clock) ∧ B < base ∧ (∀ W : World,W.heap[B]? = some (.map es clock) → (Instr.lookup 62 (.map (some B)) (.int .i64 x) false).run Try.prog W = .ok v W) ∧ w.ownsInts base 3 .i64 v (nxt ps x) ∧ (nxt ps x).length ≤ n ∧
   ∀ (w1 : World) (v' : Value) (p : List Int),rd p 0 = x → w.grownBy w1 v.ownBlock → w1.ownsInts base 3 .i64 v' (nxt ps x ++ [rd p 1]) → (v'.ownBlock = v.ownBlock ∨ ∃ g,v'.ownBlock = some g ∧ w.heap.size ≤ g) →
    ∃ w2,(Instr.mapUpdate 62 (.map (some B)) (.int .i64 x) v').run Try.prog w1 = .ok () w2 ∧ GM w2 B base (n + 1) (ps ++ [p]) ∧ w1.grownBy w2 (some B):=by
 obtain ⟨D,hG,hD⟩:=h; have K:=Go.Maps.int_keyed Try.underlying3; have hkey : keyOf Try.prog 3 (.int .i64 x) = some (.int .i64 x):=Go.Maps.keyOf_int_mk Try.underlying3 hx; obtain ⟨v,zs,hrun,hat,hoi,hlen,hback⟩:=hG.at K Try.underlying62 (Try.zeroValue28 w) hn hkey; rw [hD x] at hat; obtain rfl:=dat_row hoi hat; have hG':=hG; obtain ⟨es,clock,hb,F,hs,hDe,hbb,hl2,hap⟩:=hG'; refine ⟨v,es,clock,hb,hbb,fun W hW => look_two K Try.underlying62 Try.zeroValue28 F hkey hb hW hrun,hoi,hlen,fun w1 v' p hp hg ho' hloc => ?_⟩; obtain ⟨w2,hrun2,hG2,hg2⟩:=hback w1 v' _ hg ho' (by rw [List.length_append]; simp; exact hlen) hloc; refine ⟨w2,hrun2,⟨_,hG2,fun y => ?_⟩,hg2⟩; have hM : Go.Maps.IsMap D:=by rw [hDe]; exact ⟨_,rfl⟩
 rw [nxt_snoc]; by_cases e : y = x
 ·
  subst e; rw [Go.Maps.atKey_put_same hM (by exact trivial),if_pos hp,dat_pos ho' (by simp)]
 ·
  rw [Go.Maps.atKey_put_other (by intro h; exact e (by injection h)),hD y,if_neg (by rw [hp]; exact fun h => e h.symm),List.append_nil]
def RG (w1 W : World) (B r base n : Nat) (ps : List (List Int)) (left : Lit → Bool) (cnt : Nat) : Prop:=∃ D : DataW Unit,W.ranges Try.prog 3 (rowElem w1 base 3 .i64) B r n D left cnt ∧ (∀ x : Int,D.atKey (.int .i64 x) .nil = dat (nxt ps x)) ∧ Below w1.heap.size w1 W
theorem hr_grown_below {w W : World} (h : Below w.heap.size w W) : w.grownBy W none:=⟨h.os,h.tape,h.output,h.size,fun k hk _ => h.block k hk⟩
theorem RG_look {w1 W : World} {B r base n : Nat} {ps : List (List Int)} {left : Lit → Bool} {cnt : Nat} (h : RG w1 W B r base n ps left cnt) {x : Int} (hx : (Lit.int .i64 x).wf = true) :
  ∃ v,(Instr.lookup 62 (.map (some B)) (.int .i64 x) false).run Try.prog W = .ok v W ∧ W.ownsInts base 3 .i64 v (nxt ps x):=by
 obtain ⟨D,hR,hD,hB⟩:=h; have hkey : keyOf Try.prog 3 (.int .i64 x) = some (.int .i64 x):=Go.Maps.keyOf_int_mk Try.underlying3 hx; obtain ⟨v,pl,hrun,hv⟩:=hR.owns.lookup (Go.Maps.int_keyed Try.underlying3) Try.underlying62 (Try.zeroValue28 W) (rowElem_mk (World.ownsInts_nil w1 base 3 .i64)) hkey; obtain ⟨zs,ho,e⟩:=rowElem_inv hv; have e1:=congrArg Prod.fst e; dsimp only [rowDatum] at e1; have e2 : dat (nxt ps x) = rowDatum .i64 v zs:=by rw [← hD x]; exact e1
 obtain rfl:=dat_row ho e2; exact ⟨v,hrun,ho.kept (hr_grown_below hB) (by cases v.ownBlock <;> simp)⟩
theorem RG_kept {w1 W W' : World} {B r base n : Nat} {ps : List (List Int)} {left : Lit → Bool} {cnt : Nat} {row : Option Nat} (h : RG w1 W B r base n ps left cnt) (hg : W.grownBy W' row) (h1 : some B ≠ row) (h2 : some r ≠ row) (hlo : ∀ k,row = some k → w1.heap.size ≤ k) : RG w1 W' B r base n ps left cnt:=by
 obtain ⟨D,hR,hD,hB⟩:=h; exact ⟨D,hR.kept hg h1 h2,hD,hB.grown hg hB.size hlo⟩
theorem range_gm {ops : Array Oper} {rest : List Oper} {o : Oper} {a : Act} {Q : Exit → Act → World → Prop} (w : World) (hg : o.guard = none) (m : Operand) {B base n : Nat} {ps : List (List Int)} (hop : o.op = Op.range 62 m) (h : GM w B base n ps) (hm : a.eval m = .map (some B))
  (hK : ∀ (w' : World),(∃ left cnt,RG w w' B w.heap.size base n ps left cnt ∧ ∀ x : Int,nxt ps x ≠ [] → left (.int .i64 x) = true) → w.grownBy w' none → w'.heap.size = w.heap.size + 1 → Below w.heap.size w w' → wpList Try.prog ops Q rest (a.put o.dst (.pointer (some ⟨w.heap.size,0,none⟩))) w') :
  wpList Try.prog ops Q (o :: rest) a w:=by
 obtain ⟨D,hG,hD⟩:=h; have hG':=hG; obtain ⟨es,clock,hb,F,hs,hDe,_⟩:=hG'; have hown : w.ownsMap Try.prog 3 (rowElem (H:=Unit) w base 3 .i64) B n D:=⟨es,clock,hb,F,hs,hDe⟩; refine wpList_range_own w hg m 62 hop 3 28 (Go.Maps.int_keyed Try.underlying3) Try.underlying62 _ B n D hm hown (fun w' hr hg2 hs2 => ?_); have hB : Below w.heap.size w w':=⟨hg2.os,hg2.tape,hg2.output,hg2.size,fun k hk => hg2.block k hk (by simp)⟩; refine hK w' ⟨_,_,⟨D,hr,hD,hB⟩,fun x hx => ?_⟩ hg2 hs2 hB; cases hh : Go.Maps.has D (.int .i64 x) with
 | true => rfl
 | false =>
  have h1:=Go.Maps.atKey_of_not_has hh DataW.nil; rw [hD x] at h1; cases hn : nxt ps x with
  | nil => exact absurd hn hx
  | cons z zs => rw [hn] at h1; simp [dat] at h1
theorem next_rg {ops : Array Oper} {rest : List Oper} {o : Oper} {a : Act} {Q : Exit → Act → World → Prop} (w : World) (hg : o.guard = none) (it : Operand) (hop : o.op = Op.next it false) {w1 : World} {B r base n : Nat} {ps : List (List Int)} {left : Lit → Bool} {cnt : Nat} (h : RG w1 w B r base n ps left cnt) (hr : w1.heap.size ≤ r)
  (hit : a.eval it = .pointer (some ⟨r,0,none⟩))
  (hDone : (∀ kl,left kl = false) → wpList Try.prog ops Q rest (a.put o.dst (.tuple #[.bool false])) w)
  (hMore : ∀ (x : Int) (c : Option Addr × Nat × Nat) (w' : World) (cnt' : Nat),(Lit.int .i64 x).wf = true → RG w1 w' B r base n ps (fun z => left z && !z.sameKey (.int .i64 x)) cnt' → cnt' < cnt → w.grownBy w' (some r) →
   (Instr.entry (.pointer (some ⟨r,0,none⟩))).run Try.prog w' = .ok (.tuple #[.int .i64 x,.slice c.1 c.2.1 c.2.2]) w' → wpList Try.prog ops Q rest (a.put o.dst (.tuple #[.bool true,.int .i64 x,.slice c.1 c.2.1 c.2.2])) w') :
  wpList Try.prog ops Q (o :: rest) a w:=by
 obtain ⟨D,hR,hD,hB⟩:=h; refine wpList_next_ranges w hg it hop 3 (Go.Maps.int_keyed Try.underlying3) (rowElem w1 base 3 .i64) (Value.int .i64) (fun c : Option Addr × Nat × Nat => Value.slice c.1 c.2.1 c.2.2) (fun key kl hkey => by obtain ⟨x,rfl,_⟩:=Go.Maps.keyOf_int_inv Try.underlying3 hkey; exact ⟨x,rfl⟩)
  (fun v y hv => by obtain ⟨zs,ho,_⟩:=rowElem_inv hv; obtain ⟨A,c,e⟩:=Kd.R_slice (R_of_ints ho); exact ⟨(A,zs.length,c),e⟩) B r n D left cnt hit hR (fun _ hl => hDone hl) (fun x c kl y w' cnt' hkey hlk hv hat hrg hlt hgr hsz hen => ?_)
 obtain ⟨x',ex,rfl,hwx⟩:=Go.Maps.keyOf_int_inv Try.underlying3 hkey; cases ex; exact hMore x c w' cnt' hwx ⟨D,hrg,hD,hB.grown hgr hB.size (fun k e => by cases e; exact hr)⟩ hlt hgr hen
theorem nxt_len (ps : List (List Int)) (x : Int) : (nxt ps x).length ≤ ps.length:=by
 unfold nxt; rw [List.length_map]; exact List.length_filter_le _ _
theorem nxt_ne {ps : List (List Int)} {p : List Int} (h : p ∈ ps) : nxt ps (rd p 0) ≠ []:=by
 unfold nxt; intro e; have h1 : p ∈ ps.filter (fun q => rd q 0 == rd p 0):=List.mem_filter.mpr ⟨h,by simp⟩; rw [List.map_eq_nil_iff] at e; rw [e] at h1
 simp at h1
theorem left_step {ps : List (List Int)} {left : Lit → Bool} {x : Int} {b : Bool} {F : Int → Option Bool} (h : ∀ y : Int,nxt ps y ≠ [] → left (.int .i64 y) = false → F y = some false) (hb : b = false → nxt ps x ≠ [] → F x = some false) :
  b = false → ∀ y : Int,nxt ps y ≠ [] → (left (.int .i64 y) && !(Lit.int .i64 y).sameKey (.int .i64 x)) = false → F y = some false:=by
 intro e y hy hl; cases h1 : left (.int .i64 y) with
 | false => exact h y hy h1
 | true =>
  rw [h1,Bool.true_and,Bool.not_eq_false'] at hl; have h2:=WideAt.sameKey_eq hl
  injection h2 with _ h2
  subst h2; exact hb e hy
theorem nxt_mem {ps : List (List Int)} {x : Int} (h : nxt ps x ≠ []) : ∃ p ∈ ps,rd p 0 = x:=by
 unfold nxt at h; obtain ⟨y,hy⟩:=List.exists_mem_of_ne_nil _ h; obtain ⟨p,hp,_⟩:=List.mem_map.mp hy; obtain ⟨h1,h2⟩:=List.mem_filter.mp hp; exact ⟨p,h1,by simpa using h2⟩
theorem no_map {w1 W : World} {B r base n : Nat} {ps : List (List Int)} {left : Lit → Bool} {cnt : Nat} (h : RG w1 W B r base n ps left cnt) (hc : ∃ cells,W.heap[B]? = some (.cells cells 3 (0,0))) : False:=by
 obtain ⟨D,hR,_⟩:=h; obtain ⟨es,clock,since,seen,c0,hb,_⟩:=hR; obtain ⟨cells,hc⟩:=hc; rw [hb] at hc
 simp at hc
theorem no_iter {w1 W : World} {B r base n : Nat} {ps : List (List Int)} {left : Lit → Bool} {cnt : Nat} (h : RG w1 W B r base n ps left cnt) (hc : ∃ cells,W.heap[r]? = some (.cells cells 3 (0,0))) : False:=by
 obtain ⟨D,hR,_⟩:=h; obtain ⟨es,clock,since,seen,c0,_,_,_,_,hr,_⟩:=hR; obtain ⟨cells,hc⟩:=hc; rw [hr] at hc
 simp at hc
theorem no_hmap {W : World} {B : Nat} {s : List (Int × Bool)} (h : hmap W Try.prog 3 4 B s) (hc : ∃ cells,W.heap[B]? = some (.cells cells 3 (0,0))) : False:=by
 obtain ⟨D,⟨es,clock,hh,_⟩,_⟩:=h; obtain ⟨cells,hc⟩:=hc; rw [hh] at hc
 simp at hc
theorem Q_hmap_grown {w w1 : World} {base : Nat} {ok : Nat → Prop} {v : Value} {xs : List Int} {B : Nat} {s : List (Int × Bool)} (h : Kd.Q (Kd.int .i64) 3 w base ok v xs) (hm : hmap w Try.prog 3 4 B s) (hg : w.grownBy w1 (some B)) : Kd.Q (Kd.int .i64) 3 w1 base ok v xs:=by
 refine Kd.Q_mono (Kd.Q_grown (Kd.Q_bound h) hg (fun k_ hk e_ => ?_)) (fun _ hk => hk.1); obtain ⟨_,_,_,q,_,cells,hc⟩:=hk; exact hmap_ne hm hc (Option.some.inj e_).symm
theorem map_event2 {P : Program} {ops : Array Oper} {rest : List Oper} {o : Oper} {a : Act} {Q : Exit → Act → World → Prop} {W : World} {t : TypeId} (hgd : o.guard = none) (hop : o.op = Op.makeMap t none)
  (h : ∀ g,g = W.heap.size → ∀ w1 : World,w1.heap[g]? = some (.map #[] 0) → Below W.heap.size W w1 → wpList P ops Q rest (a.put o.dst (.map (some g))) w1) : wpList P ops Q (o :: rest) a W :=
 Kd.event_run hgd (by simp [execOp,hop,run_makeMap]) (h _ rfl _ (Go.MapKept.heap_alloc W _).1 (zaA (Below.refl _ _) _))
set_option maxHeartbeats 4000000 in
set_option maxRecDepth 100000 in
theorem clone46 {w : World} {base : Nat} {v : Value} {zs : List Int} (h : w.ownsInts base 3 .i64 v zs) (hl : zs.length < 17592186044416) :
  Calls Try.prog 46 #[v] w fun e w' => ∃ v' : Value,e = .returned v' ∧ Kd.R (Kd.int .i64) 3 w' w.heap.size (fun _ => True) v' zs ∧ Below w.heap.size w w':=by
 have q28 : ∀ (w : World) (a : Option Addr) (n c n' c' : Nat),(binOp .eql 28 (.slice a n c) (.slice none n' c')).run Try.prog w = .ok (.bool a.isNone) w:=fun w a n c n' c' => Go.Lib.run_eql_slice_nil w _ _ a n c n' c' Try.underlying28
 obtain ⟨hown,hwf⟩:=h; have hown':=hown
 rcases hown'.2 with ⟨rfl,h0⟩ | ⟨g,cap,cur,rfl,hg1,hg2,hg3,hg4,hg5,hg6⟩
 ·
  obtain rfl:=List.length_eq_zero_iff.mp h0; clear hown' hown hwf; go_enter Try.func46,Try.ntmps46; go_wp2; go_ret; exact ⟨_,rfl,Kd.R_nil _ _ _ _ _,Below.refl _ _⟩
 ·
  obtain ⟨i0,hi,hz0,hz1,hz2⟩:=info_parts info3; have hcell:=hown.cells (g:=g) rfl; have HC:=aM hcell; have HL:=aM hl; have HX:=aM hown; clear hown' hown hcell hl hg1 hg2 hg3 hg4 hg5 hg6 hwf; go_enter Try.func46,Try.ntmps46; go_wp2_with (at_builtin; refine wpList_append_own _ rfl _ _ 28 rfl w.heap.size 3 i0 (.int .i64 0) 1 8 Try.underlying28 hi hz0 hz1 hz2 rfl (by decide) _ _ _ rfl (World.ownsRow_made w #[] 0 (Nat.le_refl _) (Nat.zero_le _) rfl) ⟨g,0,none⟩ zs.length cap (zs.map (Value.int .i64)) rfl ?qc1 ?qc2 ?qc3 ?qc4 ?qc5 ?qc6 ?_); case qc1 => simp
  case qc2 =>
   intro j u hj; exact Go.Lib.cell?_alloc_some _ (HC.out j u hj)
  case qc3 => intro u hu; obtain ⟨x,_,rfl⟩:=List.mem_map.1 hu; rfl
  case qc4 => have:=HL.out; unfold maxLen; omega
  case qc5 => have:=HL.out; omega
  case qc6 => simp
  intro v' w1 hown hgrow hnil; go_wp2; go_ret; refine ⟨v',rfl,⟨fun _ _ => trivial,zs.map (Value.int .i64),(show w1.ownsRow w.heap.size 3 1 v' zs.length (zs.map (Value.int .i64)) by simpa using hown),reps_int _ _ _ _⟩,?_⟩; exact ((Below.refl _ w).alloc (Nat.le_refl _) _).grown hgrow (by simp) (by intro k hk; simp [Value.ownBlock] at hk; omega)
def impl_HasRound.l2 : Nat → List (List Int) → Int → List (Int × Bool) → List Int → Option Bool
 | 0,_,_,_,_ => none
 | k + 1,ps,s,seen,todo => if 0 < (todo.length : Int) then (if (Lit.int .i64 (rd todo 0)).wf = true then (if rd todo 0 = s then some true else (if hget seen (rd todo 0) = true then (impl_HasRound.l2 k ps s seen (todo.drop (1 : Int).toNat)) else (if (todo.drop (1 : Int).toNat).length + (nxt ps (rd todo 0)).length < 17592186044416 ∧ seen.length < 17592186044416 then (impl_HasRound.l2 k ps s ((rd todo 0,true) :: seen) (todo.drop (1 : Int).toNat ++ nxt ps (rd todo 0))) else (none)))) else (none)) else (some false)
def impl_HasRound.go (k : Nat) (ps : List (List Int)) : List (List Int) → Option Bool
 | [] => some false
 | p :: r => (impl_HasRound.l2 k ps (rd p 0) [] (nxt ps (rd p 0))).bind fun b => (impl_HasRound.go k ps r).bind fun c => some (b || c)
def okR (ps : List (List Int)) : Bool:=ps.all (fun r => r.length == 2) && hwfAll ps && decide (ps.length < 17592186044416)
def impl_HasRound.f (k : Nat) (a0 : Int) (a1 : Int) (l2 : List (List Int)) : Option Bool:=(impl_WaitsOf.f k a0 a1 l2).bind fun ps => if okR ps = true then impl_HasRound.go k ps ps else none
theorem impl_HasRound.mono_l : ∀ k,∀ y0 y1 y2 y3,LeO (impl_HasRound.l2 k y0 y1 y2 y3) (impl_HasRound.l2 (k + 1) y0 y1 y2 y3)
 | 0 => fun _ _ _ _ r h => by simp [impl_HasRound.l2] at h
 | k + 1 => fun y0 y1 y2 y3 => by
  have ih:=impl_HasRound.mono_l k; unfold impl_HasRound.l2; exact LeO.ite (LeO.ite (LeO.ite (LeO.refl _) (LeO.ite (ih _ _ _ _) (LeO.ite (ih _ _ _ _) (LeO.refl _)))) (LeO.refl _)) (LeO.refl _)
theorem impl_HasRound.mono_go (k : Nat) (ps : List (List Int)) : ∀ l,LeO (impl_HasRound.go k ps l) (impl_HasRound.go (k + 1) ps l)
 | [] => LeO.refl _
 | p :: r => LeO.bind (impl_HasRound.mono_l k _ _ _ _) (fun _ => LeO.bind (impl_HasRound.mono_go k ps r) (fun _ => LeO.refl _))
theorem impl_HasRound.mono : ∀ a0 a1 a2 k,LeO (impl_HasRound.f k a0 a1 a2) (impl_HasRound.f (k + 1) a0 a1 a2):=fun _ _ _ k => LeO.bind (impl_WaitsOf.mono _ _ _ _) (fun _ => LeO.ite (impl_HasRound.mono_go k _ _) (LeO.refl _))
theorem go_true {k : Nat} {ps : List (List Int)} : ∀ {l : List (List Int)} {r : Bool},impl_HasRound.go k ps l = some r → ∀ p ∈ l,∃ b,impl_HasRound.l2 k ps (rd p 0) [] (nxt ps (rd p 0)) = some b ∧ (b = true → r = true)
 | p :: l,r,h,q,hq => by
  obtain ⟨b,hb,h⟩:=bE h; obtain ⟨c,hc,h⟩:=bE h; obtain rfl:=Option.some.inj h
  rcases List.mem_cons.mp hq with rfl | hq
  ·
   exact ⟨b,hb,fun e => by rw [e]; rfl⟩
  ·
   obtain ⟨b',h1,h2⟩:=go_true hc q hq; exact ⟨b',h1,fun e => by rw [h2 e]; simp⟩
theorem go_false {k : Nat} {ps : List (List Int)} : ∀ {l : List (List Int)} {r : Bool},impl_HasRound.go k ps l = some r → (∀ p ∈ l,impl_HasRound.l2 k ps (rd p 0) [] (nxt ps (rd p 0)) = some false) → r = false
 | [],r,h,_ => (Option.some.inj h).symm
 | p :: l,r,h,hl => by
  obtain ⟨b,hb,h⟩:=bE h; obtain ⟨c,hc,h⟩:=bE h; obtain rfl:=Option.some.inj h; rw [hl p List.mem_cons_self] at hb; obtain rfl:=Option.some.inj hb; rw [go_false hc (fun q hq => hl q (List.mem_cons_of_mem _ hq))]; rfl
theorem go_at {k : Nat} {ps : List (List Int)} {r : Bool} (h : impl_HasRound.go k ps ps = some r) (x : Int) : ∃ b,impl_HasRound.l2 (k + 1) ps x [] (nxt ps x) = some b ∧ (b = true → r = true) ∧ (b = false → nxt ps x ≠ [] → impl_HasRound.l2 k ps x [] (nxt ps x) = some false):=by
 by_cases hn : nxt ps x = []
 ·
  exact ⟨false,by rw [hn,impl_HasRound.l2,if_neg (by simp)],fun e => absurd e (by decide),fun _ h2 => absurd hn h2⟩
 ·
  obtain ⟨p,hp,rfl⟩:=nxt_mem hn; obtain ⟨b,h1,h2⟩:=go_true h p hp; exact ⟨b,impl_HasRound.mono_l _ _ _ _ _ b h1,h2,fun e _ => by rw [h1,e]⟩
theorem okR_row {ps : List (List Int)} (h : okR ps = true) {i : Nat} (hi : i < ps.length) : (rd_L2 ps i).length = 2 ∧ (Lit.int .i64 (rd (rd_L2 ps i) 0)).wf = true ∧ (Lit.int .i64 (rd (rd_L2 ps i) 1)).wf = true ∧ rd_L2 ps i ∈ ps:=by
 unfold okR hwfAll at h; simp only [Bool.and_eq_true,List.all_eq_true,decide_eq_true_eq,beq_iff_eq] at h; have hm : rd_L2 ps i ∈ ps:=by
  unfold rd_L2; rw [Int.toNat_natCast,List.getD_eq_getElem?_getD,List.getElem?_eq_getElem hi]; exact List.getElem_mem _
 have h2:=h.1.1 _ hm; refine ⟨h2,h.1.2 _ hm _ ?_,h.1.2 _ hm _ ?_,hm⟩
 ·
  unfold rd; rw [List.getD_eq_getElem?_getD,List.getElem?_eq_getElem (show (0 : Int).toNat < _ by rw [h2]; decide)]; exact List.getElem_mem _
 ·
  unfold rd; rw [List.getD_eq_getElem?_getD,List.getElem?_eq_getElem (show (1 : Int).toNat < _ by rw [h2]; decide)]; exact List.getElem_mem _
def impl_HasRound.T5 : Bool × List (List Nat × List Nat):=(true,[([],[]),([],[]),([1],[1]),([2],[2]),([],[]),([],[]),([5],[5]),([6],[6]),([4,7],[4,7]),([],[]),([9],[9]),([10],[10]),([11],[11]),([8,12],[8,12]),([0,3,13,13,0,1,2,3,4,5,6,7,8,9,10,11,12,13],[0,3,13])])
def impl_HasRound.B5 : List Nat:=[0,0,2,6,0,0,32,96,240,0,512,1536,3584,8176,16383]
theorem impl_HasRound.tab5 : rtab .any (opsOf Try.f18 5) = impl_HasRound.T5:=by kernel_rfl
theorem impl_HasRound.bits5 : waitsOk impl_HasRound.T5.2 impl_HasRound.B5 = true:=by kernel_rfl
theorem exec_append {P : Program} {ev : Operand → Value} {s x : Operand} {t : TypeId} {o : Oper} {v x' v' : Value} {w w1 : World} (ho : o.op = .call { callee:=.builtin .append,args:=#[s,x],argTypes:=#[t,t] }) (hs : ev s = v) (hx : ev x = x')
  (h : (Builtin.append_ #[t,t] o.type #[v,x']).run P w = .ok v' w1) : (execOp ev o).run P w = .ok (.value v') w1:=by
 unfold execOp; simp only [ho,resolve,invoke,builtin,Sem.run_bind,Sem.run_pure,Result.andThen_ok,mA,mB,mC,hs,hx,h]
theorem exec_update {P : Program} {ev : Operand → Value} {m x v : Operand} {t : TypeId} {o : Oper} {M X V : Value} {w w1 : World} (ho : o.op = .mapUpdate t m x v) (hm : ev m = M) (hx : ev x = X) (hv : ev v = V)
  (h : (Instr.mapUpdate t M X V).run P w = .ok () w1) : (execOp ev o).run P w = .ok .skip w1:=by
 unfold execOp
 simp [ho,hm,hx,hv,h,Result.andThen]
theorem cell_gr {w w1 : World} {row : Option Nat} {p : Addr} {v : Value} (hg : w.grownBy w1 row) (h : w.cell? p = some v) (hne : some p.block ≠ row) : w1.cell? p = some v:=by
 have hb:=hg.block p.block (bC w _ h) hne; unfold World.cell? at h ⊢; rw [hb]; exact h
theorem gm_append {w : World} {base : Nat} {v : Value} {zs : List Int} (h : w.ownsInts base 3 .i64 v zs) (hl : zs.length < 17592186044415) (hb : base ≤ w.heap.size) {y : Int} (hy : (Lit.int .i64 y).wf = true) (ty : TypeId) :
  ∃ v' w1,(Builtin.append_ #[28,28] ty #[v,.slice (some ⟨w.heap.size,0,none⟩) 1 1]).run Try.prog (w.alloc (.cells #[.int .i64 y] 3)) = .ok v' w1 ∧ w1.ownsInts base 3 .i64 v' (zs ++ [y]) ∧ w.grownBy w1 v.ownBlock ∧ (v'.ownBlock = v.ownBlock ∨ ∃ g,v'.ownBlock = some g ∧ w.heap.size ≤ g):=by
 obtain ⟨i0,hi,hz0,hz1,hz2⟩:=info_parts info3; have h':=h.alloc (.cells #[.int .i64 y] 3); obtain ⟨v',w1,hr,ho,hg,_,hat⟩:=run_append_own_at (P:=Try.prog) (w.alloc (.cells #[.int .i64 y] 3)) base 28 ty 3 i0 (.int .i64 0) 1 8 Try.underlying28 hi hz0 hz1 hz2 rfl (by decide) v zs.length (zs.map (Value.int .i64)) h'.1 ⟨w.heap.size,0,none⟩ 1 1 [.int .i64 y] rfl
  (by simpa using World.news_of_block (cs:=#[.int .i64 y]) (t:=3) (fr:=(0,0)) (heap_alloc_new w (.cells #[.int .i64 y] 3))) (fun u hu => by simp at hu; rw [hu]; rfl) (by unfold maxLen; omega) (by omega) (by rw [World.size_alloc]; omega)
 refine ⟨v',w1,hr,h.appended ho hy,World.grownBy.trans (World.grownBy_alloc w _ _) hg,?_⟩
 rcases hat with hat | hat
 ·
  exact .inl hat
 ·
  exact .inr ⟨_,hat,by rw [World.size_alloc]; omega⟩
theorem cell_in_row {W : World} {lo hi i co c1 n : Nat} {ad1 adp : Addr} {ps : List (List Int)} (h : SR W lo hi (.slice (some ad1) ps.length co) ps) (hi1 : i < ps.length) (hx : W.cell? (ad1.add (i : Int).toNat) = some (.slice (some adp) n c1)) : adp.block < hi:=by
 obtain ⟨ce,hce,hM,hcc⟩:=Kd.S_get h.2 [] (i : Int) (by omega) (by omega); obtain ⟨ve,rfl,ge⟩:=hM; have hv:=hcc 0 _ rfl; rw [Nat.add_zero,show ((Kd.slice 3 (Kd.int .i64))).sz = 1 from rfl,Nat.mul_one] at hv; have hv2:=Option.some.inj (hv.symm.trans hx); have h1:=ge.1 adp.block (by rw [hv2]; rfl); first | exact h1.1.1 | exact h1.1
set_option maxHeartbeats 8000000 in
set_option maxRecDepth 100000 in
theorem impl_HasRound.calls (k : Nat) (a0 : Int) (a1 : Int) (A2 : Option Addr) (c2 : Nat) (l2 : List (List Int)) (r : Bool) (w : World) (hr2 : Kd.C (Kd.slice 3 (Kd.int .i64)) w A2 l2.length l2) (hc2 : l2.length ≤ c2) (h : impl_HasRound.f k a0 a1 l2 = some r) :
  Calls Try.prog 18 #[.int .i64 a0,.int .i64 a1,.slice A2 l2.length c2] w fun e w' => e = .returned (.bool r) ∧ Below w.heap.size w w':=by
 have HR2:=aM hr2; have HC2:=aM hc2; clear hr2 hc2; have HB:=aM (Below.refl w.heap.size w); obtain ⟨ps,hps,h⟩:=bE h; have A4:=aM hps; clear hps; have hok : okR ps = true:=by
  by_cases hok : okR ps = true
  ·
   exact hok
  ·
   rw [if_neg hok] at h; exact absurd h (by simp)
 rw [if_pos hok] at h; have OK:=aM hok; have HG:=aM h; have hlen : ps.length < 17592186044416:=by unfold okR at hok; simp only [Bool.and_eq_true,decide_eq_true_eq] at hok; exact hok.2
 have HL:=aM hlen; clear h hok hlen; go_enter Try.func18,Try.ntmps18
 go_wp2_with (first | ((with_reducible refine zaS (N:=14) rfl ?_); refine map_event2 (t:=62) ?hg ?ho ?_; (case hg => rfl); (case ho => rfl); intro gb hg wm hm hb; have MB:=aM hm; have GB:=aM ((by rw [hg]; exact Nat.le_refl _) : w.heap.size ≤ gb); have n1_:=aM (zaJ (by repeat (first | (with_reducible first | exact HB.out | apply zaA | apply bN | apply bD) | exact HB.out)) hb); have HBW:=aM hb; clear HB; have HB:=n1_; clear n1_; clear hb hm hg) | ((with_reducible refine zaI (f:=11) rfl ?_); refine zaR (some 18) rfl rfl Try.func11 (by kernel_rfl) rfl #[.int .i64 a0,.int .i64 a1,.slice A2 l2.length c2] rfl (by (try simp only [mA,mB,mC]); first | done | rfl | (simp only [mE,mD]; rfl)) ?_; (with_reducible refine (impl_WaitsOf.calls k a0 a1 _ _ l2 ps _ ?side1 ?side2 A4.out).mono ?_); (case side1 => exact Kd.C_below HR2.out HBW.out); (case side2 => exact HC2.out); rintro e w3 ⟨v18,rfl,ho0,hb⟩; refine ⟨_,rfl,?_⟩; obtain ⟨Ao,co,eo⟩:=Kd.S_slice ho0; subst eo; obtain ⟨lo,hi,hlo,hS⟩:=SR.new ho0; have HS:=aM hS; have hgl : gb < wm.heap.size:=blk_lt MB.out; have GL:=aM (show gb < lo by rw [hlo]; exact hgl); have n1_:=aM (zaJ HB.out hb); have HGM:=aM (GM_made (base:=w3.heap.size) ((hb.block gb hgl).trans MB.out) (Nat.lt_of_lt_of_le hgl hb.size)); have HLO:=aM (show w.heap.size ≤ lo by rw [hlo]; exact zaK HB.out); have HHI:=aM hS.1; clear HB; have HB:=n1_; clear n1_ MB; clear hb hS hlo ho0 hgl))
 obtain ⟨base,hbase⟩ : ∃ b,w3.heap.size = b:=⟨_,rfl⟩
 have HGM0:=aM (show GM w3 gb base 0 (ps.take 0) by rw [← hbase]; exact HGM.out); have HHI0:=aM (show hi ≤ base by rw [← hbase]; exact HHI.out); have HLB:=aM (show w.heap.size ≤ base by rw [← hbase]; exact HB.out.size); have HZ0:=aM (show base ≤ w3.heap.size by omega); clear HGM HHI hbase HBW; go_loopg [20] (ps.length + 1) (fun kq v20 w' => ∃ i : Nat,v20 = .int .i64 (i : Int) ∧ Aside0 (kq + i = ps.length + 1 ∧ i ≤ ps.length) ∧ Aside0 (SR w' lo hi (.slice Ao ps.length co) ps) ∧ Aside0 (GM w' gb base i (ps.take i)) ∧ Aside0 (base ≤ w'.heap.size) ∧ Aside0 (Below w.heap.size w w')); case atStart => exact ⟨0,rfl,⟨by omega,by omega⟩,HS,HGM0,HZ0,HB⟩
 case round =>
  clear HS HGM0 HZ0 HB; obtain ⟨i,rfl,HI,HS,HGM,HZ,HB⟩:=hrel; by_cases hi1 : i < ps.length
  ·
   obtain ⟨r2,wf0,wf1,hmem⟩:=okR_row OK.out hi1; have p1 : 0 ≤ (i : Int):=by omega
   have q1 : (i : Int) < (ps.length : Int):=by omega
   obtain ⟨ad1,A1,c1,e1,hx1,hl1,hC1⟩:=at_L2 (SR.c HS.out) (i : Int) p1 q1; cases e1; have hsn : ps.take (i + 1) = ps.take i ++ [rd_L2 ps i]:=by
    rw [List.take_succ_eq_append_getElem hi1]
    congr 2
    unfold rd_L2; rw [Int.toNat_natCast,List.getD_eq_getElem?_getD,List.getElem?_eq_getElem hi1]; rfl
   have SN:=aM hsn; clear hsn hmem; have hC1':=Kd.at_int hC1 0 (by omega) (by omega); obtain ⟨adq,eq_,_⟩:=hC1'; have hbA:=aM (show adq.block < base by rw [eq_] at hx1; have:=cell_in_row HS.out hi1 hx1; have:=HHI0.out; omega); generalize rd_L2 ps i = p at *; obtain ⟨adp,e2,hx2⟩:=Kd.at_int hC1 0 (by omega) (by omega); cases e2; obtain rfl : adp = adq:=by injection eq_
   clear eq_; obtain ⟨adp',e3,hx3⟩:=Kd.at_int hC1 1 (by omega) (by omega); obtain rfl : adp = adp':=by injection e3
   rw [show ((0 : Int)).toNat = 0 from rfl,Addr.add_zero'] at hx2; rw [show ((1 : Int)).toNat = 1 from rfl] at hx3; rw [r2,Int.toNat_natCast] at hx1; obtain ⟨v,es,clock,hes,hbb,hlook,hoi,hln,hback⟩:=GM_at HGM.out (by have:=HL.out; unfold maxLen; omega) wf0; replace p1:=eq_true p1; have q1b:=q1; replace q1:=eq_true q1; have d1 : decide ((i : Int) < (ps.length : Int)) = true:=decide_eq_true q1b; clear e3; go_wp2; have hoi1 : wr.drew.ownsInts base 3 .i64 v (nxt (ps.take i) (rd p 0)):=hoi; have hes1 : wr.drew.heap[gb]? = some (.map es clock):=hes; have hx21 : wr.drew.cell? adp = some (.int .i64 (rd p 0)):=hx2; have hx31 : wr.drew.cell? { block:=adp.block,off:=adp.off + 1 } = some (.int .i64 (rd p 1)):=hx3
   have hback1:=aM (show (∀ (w1 : World) (v' : Value) (p_1 : List Int),rd p_1 0 = rd p 0 → wr.drew.grownBy w1 v.ownBlock → w1.ownsInts base 3 .i64 v' (nxt (ps.take i) (rd p 0) ++ [rd p_1 1]) → (v'.ownBlock = v.ownBlock ∨ ∃ g,v'.ownBlock = some g ∧ wr.drew.heap.size ≤ g) → ∃ w2,(Instr.mapUpdate 62 (.map (some gb)) (.int .i64 (rd p 0)) v').run Try.prog w1 = .ok () w2 ∧ GM w2 gb base (i + 1) (ps.take i ++ [p_1]) ∧ w1.grownBy w2 (some gb)) from fun w1 v' p_1 a g => hback w1 v' p_1 a ⟨g.os,g.tape,g.output,g.size,g.block⟩); have HS1:=aM (SR.drew HS.out); have HB1:=aM (bD HB.out); have HZ1:=aM (show base ≤ wr.drew.heap.size from HZ.out); clear hoi hes hx2 hx3 hback HS HB HZ hC1 hx1 HGM
   refine start_ (n:=15) (S:=fun w' => w'.cell? adp = some (.int .i64 (rd p 0)) ∧ w'.cell? { block:=adp.block,off:=adp.off + 1 } = some (.int .i64 (rd p 1)) ∧ w'.heap[gb]? = some (.map es clock)) (ds:=[14]) #[false,false,false,false,false,false,false,false,false,false,false,false,false,false,false] (by kernel_rfl) rfl rfl ⟨hx21,hx31,hes1⟩ (fun hHeld => ?_); refine zbO impl_HasRound.tab5 impl_HasRound.bits5 (fun HT_ HW_ => ?_); generalize wr.drew = w17 at HS1 HB1 HZ1 hoi1 hes1 hx21 hx31 hback1 hHeld ⊢; refine zaQ (i:=0) (N:=some 24) (v:=?_) (a':=?_) #[true,false,false,false,false,false,false,false,false,false,false,false,false,false,false] rfl rfl (zaO HT_.out (by kernel_rfl)) (fun _ _ _ h => h) (Or.inl ⟨by rfl,?_⟩) ?_ ?_; rotate_left
   ·
    intro w'; go_simp; with_reducible rfl
   rotate_left
   ·
    simp only [Act.put,sA,sB,sC,zaP]; rfl
   refine zaQ (i:=1) (N:=some 25) (v:=?_) (a':=?_) #[true,true,false,false,false,false,false,false,false,false,false,false,false,false,false] rfl rfl (zaO HT_.out (by kernel_rfl)) (fun _ _ _ h => h) (Or.inl ⟨by rfl,?_⟩) ?_ ?_; rotate_left
   ·
    intro w'; go_simp; with_reducible rfl
   rotate_left
   ·
    simp only [Act.put,sA,sB,sC,zaP]; rfl
   refine zaQ (i:=4) (N:=some 28) (v:=?_) (a':=?_) #[true,true,false,false,true,false,false,false,false,false,false,false,false,false,false] rfl rfl (zaO HT_.out (by kernel_rfl)) (fun _ _ _ h => h) (Or.inl ⟨by rfl,?_⟩) ?_ ?_; rotate_left
   ·
    intro w'; go_simp; with_reducible rfl
   rotate_left
   ·
    simp only [Act.put,sA,sB,sC,zaP]; rfl
   refine zaQ (i:=5) (N:=some 29) (v:=?_) (a':=?_) #[true,true,false,false,true,true,false,false,false,false,false,false,false,false,false] rfl rfl (zaO HT_.out (by kernel_rfl)) (fun _ _ _ h => h) (Or.inl ⟨by rfl,?_⟩) ?_ ?_; rotate_left
   ·
    intro w'; go_simp; with_reducible rfl
   rotate_left
   ·
    simp only [Act.put,sA,sB,sC,zaP]; rfl
   refine zaQ (i:=9) (N:=some 33) (v:=?_) (a':=?_) #[true,true,false,false,true,true,false,false,false,true,false,false,false,false,false] rfl rfl (zaO HT_.out (by kernel_rfl)) (fun _ _ _ h => h) (Or.inl ⟨by rfl,?_⟩) ?_ ?_; rotate_left
   ·
    intro w'; go_simp; with_reducible rfl
   rotate_left
   ·
    simp only [Act.put,sA,sB,sC,zaP]; rfl
   refine zaQ (i:=2) (N:=some 26) (v:=?_) (a':=?_) #[true,true,true,false,true,true,false,false,false,true,false,false,false,false,false] rfl rfl (zaO HT_.out (by kernel_rfl)) (fun _ _ _ h => h) (Or.inl ⟨by rfl,?_⟩) ?_ ?_; rotate_left
   ·
    intro w'; go_simp; with_reducible rfl
   rotate_left
   ·
    simp only [Act.put,sA,sB,sC,zaP]; rfl
   refine zaQ (i:=6) (N:=some 30) (v:=?_) (a':=?_) #[true,true,true,false,true,true,true,false,false,true,false,false,false,false,false] rfl rfl (zaO HT_.out (by kernel_rfl)) (fun _ _ _ h => h) (Or.inl ⟨by rfl,?_⟩) ?_ ?_; rotate_left
   ·
    intro w'; go_simp; with_reducible rfl
   rotate_left
   ·
    simp only [Act.put,sA,sB,sC,zaP]; rfl
   refine zaQ (i:=10) (N:=some 34) (v:=?_) (a':=?_) #[true,true,true,false,true,true,true,false,false,true,true,false,false,false,false] rfl rfl (zaO HT_.out (by kernel_rfl)) (fun _ _ _ h => h) (Or.inl ⟨by rfl,?_⟩) ?_ ?_; rotate_left
   ·
    intro w'; go_simp; with_reducible rfl
   rotate_left
   ·
    simp only [Act.put,sA,sB,sC,zaP]; rfl
   refine take_ (i:=3) (N:=some 27) (v:=?_) (a':=?_) #[true,true,true,true,true,true,true,false,false,true,true,false,false,false,false] rfl rfl (zaX HT_.out HW_.out (by kernel_rfl)) (fun _ _ _ h => h) (Or.inl ⟨by rfl,?_⟩) hHeld ?_ ?_; rotate_left
   ·
    rintro w' ⟨s0,s1,s2⟩; go_simp; with_reducible rfl
   rotate_left
   ·
    simp only [Act.put,sA,sB,sC,zaP]; rfl
   refine take_ (i:=7) (N:=some 31) (v:=?_) (a':=?_) #[true,true,true,true,true,true,true,true,false,true,true,false,false,false,false] rfl rfl (zaX HT_.out HW_.out (by kernel_rfl)) (fun _ _ _ h => h) (Or.inl ⟨by rfl,?_⟩) hHeld ?_ ?_; rotate_left
   ·
    rintro w' ⟨s0,s1,s2⟩; go_simp; with_reducible rfl
   rotate_left
   ·
    simp only [Act.put,sA,sB,sC,zaP]; rfl
   refine take_ (i:=11) (N:=some 35) (v:=?_) (a':=?_) #[true,true,true,true,true,true,true,true,false,true,true,true,false,false,false] rfl rfl (zaX HT_.out HW_.out (by kernel_rfl)) (fun _ _ _ h => h) (Or.inl ⟨by rfl,?_⟩) hHeld ?_ ?_; rotate_left
   ·
    rintro w' ⟨s0,s1,s2⟩; go_simp; with_reducible rfl
   rotate_left
   ·
    simp only [Act.put,sA,sB,sC,zaP]; rfl
   refine take_ (i:=8) (N:=some 32) (v:=?_) (a':=?_) #[true,true,true,true,true,true,true,true,true,true,true,true,false,false,false] rfl rfl (zaX HT_.out HW_.out (by kernel_rfl)) (fun _ _ _ h => h) (Or.inl ⟨by rfl,?_⟩) hHeld ?_ ?_; rotate_left
   ·
    rintro w' ⟨s0,s1,s2⟩; have s3:=hlook w' s2; go_simp; with_reducible rfl
   rotate_left
   ·
    simp only [Act.put,sA,sB,sC,zaP]; rfl
   refine one_ (i:=12) (N:=some 36) #[true,true,true,true,true,true,true,true,true,true,true,true,true,false,false] rfl rfl (zbP HT_.out (by kernel_rfl)) (by decide) (fun K hK => ?_); refine value_ (w1:=?_) (v:=?_) (by rfl) rfl ?_ ?_; rotate_left 2
   ·
    go_simp
    constructor
    ·
     rfl
    ·
     rfl
   have hgl : gb < w17.heap.size:=(Array.getElem?_eq_some_iff.mp hes1).1; refine hK.out _ _ ⟨(World.cell?_alloc_lt _ _ _ (bC _ _ hx21)).trans hx21,(World.cell?_alloc_lt _ _ _ (bC _ _ hx31)).trans hx31,(Below.heap_alloc w17 _ gb hgl).trans hes1⟩ (fun hHeld => ?_); clear hK K; refine norm_ (a':=?_) ?_ ?_; rotate_left
   ·
    show Act.put _ (some 36) _ = _
    simp only [Act.put,sA,sB,sC,zaP]; rfl
   refine one_ (i:=13) (N:=some 37) #[true,true,true,true,true,true,true,true,true,true,true,true,true,true,false] rfl rfl (zbP HT_.out (by kernel_rfl)) (by decide) (fun K hK => ?_); obtain ⟨v',w18,hrun1,ho1,hg1,hat1⟩:=gm_append hoi1 (by have:=HL.out; omega) HZ1.out wf1 28; refine value_ (w1:=w18) (v:=v') (by rfl) rfl (exec_append rfl rfl rfl hrun1) ?_; have hvb : ∀ k,v.ownBlock = some k → base ≤ k:=fun k hk => (hoi1.1.lt k hk).1
   refine hK.out _ _ ⟨cell_gr hg1 hx21 (fun e => by have:=hvb _ e.symm; have:=hbA.out; omega),cell_gr hg1 hx31 (fun e => by have h8 : base ≤ adp.block:=hvb _ e.symm; have:=hbA.out; omega),(hg1.block gb hgl (fun e => by have:=hvb _ e.symm; omega)).trans hes1⟩ (fun hHeld => ?_); clear hK K; refine norm_ (a':=?_) ?_ ?_; rotate_left
   ·
    show Act.put _ (some 37) _ = _
    simp only [Act.put,sA,sB,sC,zaP]; rfl
   obtain ⟨w19,hrun2,hGM2,hg2⟩:=hback1.out w18 v' p rfl hg1 ho1 hat1; refine last_ (i:=14) (N:=none) #[true,true,true,true,true,true,true,true,true,true,true,true,true,true,true] rfl rfl (zbP HT_.out (by kernel_rfl)) (by decide) (fun K hK => ?_); refine skip_ (w1:=w19) (by rfl) rfl (exec_update rfl rfl rfl rfl hrun2) ?_; refine hK.out _ _ ?_; clear hK K; refine done_ (done_of HT_.out (by kernel_rfl)) ?_; have hdis : ∀ kk,lo ≤ kk → kk < hi → w19.heap[kk]? = w17.heap[kk]?:=by
    intro kk h1 h2; have:=HHI0.out; have:=GL.out; have h3 : kk < w17.heap.size:=Nat.lt_of_lt_of_le h2 HS1.out.1; exact (hg2.block kk (Nat.lt_of_lt_of_le h3 hg1.size) (fun e => by have:=Option.some.inj e; omega)).trans (hg1.block kk h3 (fun e => by have:=hvb kk e.symm; omega))
   have HS2:=aM (SR.move HS1.out (Nat.le_trans hg1.size hg2.size) hdis); have HZ2:=aM (show base ≤ w19.heap.size from Nat.le_trans HZ1.out (Nat.le_trans hg1.size hg2.size)); have HB2:=aM (((HB1.out.grown hg1 HB1.out.size (fun kk e => Nat.le_trans HLB.out (hvb kk e))).grown hg2 (Nat.le_trans HB1.out.size hg1.size) (fun kk e => by cases e; exact GB.out))); have HGM2:=aM (show GM w19 gb base (i + 1) (ps.take (i + 1)) by rw [SN.out]; exact hGM2); clear hoi1 hes1 hx21 hx31 hback1 hHeld hrun1 ho1 hg1 hat1 hrun2 hGM2 hg2 hdis hvb hgl HS1 HZ1 HB1 hlook; have hnw : IntKind.i64.wrap ((i : Int) + 1) = ((i + 1 : Nat) : Int):=by rw [IntKind.wrap_i64]; have:=HL.out; omega
   go_wp2; go_roundg (ps.length - i); case measure => have:=HI.out; omega
   case rel => exact ⟨i + 1,by first | rfl | (rw [hnw]),⟨by have:=HI.out; omega,by omega⟩,HS2,HGM2,HZ2,HB2⟩
  ·
   obtain rfl : i = ps.length:=by have:=HI.out; omega
   have HGM3:=aM (show GM wr gb base ps.length ps by have:=HGM.out; rwa [List.take_length] at this); clear HGM; have d1 : ¬ ((ps.length : Int) < (ps.length : Int)):=by omega
   go_wp2_with (first | (at_range; refine range_gm _ rfl _ rfl HGM3.out rfl ?_; intro w4 hrg hg4 hs4 hb4)); obtain ⟨left0,cnt0,hRG0,hL0⟩:=hrg; obtain ⟨wR,eR⟩ : ∃ q,q = wr:=⟨wr,rfl⟩
   obtain ⟨rr,er⟩ : ∃ q,q = wr.heap.size:=⟨_,rfl⟩
   have HRG0:=aM (show RG wR w4 gb rr base ps.length ps left0 cnt0 by rw [eR,er]; exact hRG0); have HL0:=aM (show ∀ x : Int,nxt ps x ≠ [] → left0 (.int .i64 x) = false → impl_HasRound.l2 k ps x [] (nxt ps x) = some false from fun x h1 h2 => by rw [hL0 x h1] at h2; exact absurd h2 (by decide)); have HB4:=aM (zaJ HB.out hb4); have HWR:=aM (show w.heap.size ≤ wR.heap.size by rw [eR]; exact HB.out.size); have HRR:=aM (show wR.heap.size = rr by rw [eR,er]); have HGR:=aM (show gb < wR.heap.size by obtain ⟨D,hG,_⟩:=HGM3.out; obtain ⟨es,clock,hb,_⟩:=hG; rw [eR]; exact (Array.getElem?_eq_some_iff.1 hb).1); rw [← er]; clear hRG0 hL0 hb4 hs4 hg4 HB HS HZ HGM3 eR er
   go_loopg [] (cnt0 + 1) (fun kq w' => ∃ (left : Lit → Bool) (cnt : Nat),Aside0 (cnt < kq) ∧ Aside0 (RG wR w' gb rr base ps.length ps left cnt) ∧ Aside0 (∀ x : Int,nxt ps x ≠ [] → left (.int .i64 x) = false → impl_HasRound.l2 k ps x [] (nxt ps x) = some false) ∧ Aside0 (Below w.heap.size w w')); case atStart => exact ⟨left0,cnt0,⟨by omega⟩,HRG0,HL0,HB4⟩
   case round =>
    clear HRG0 HL0 HB4; obtain ⟨left,cnt,HCN,HRG,HLF,HB⟩:=hrel; go_wp2_with (first | (at_next; refine next_rg _ rfl _ rfl HRG.out (by rw [HRR.out]; exact Nat.le_refl _) rfl ?_ ?_))
    ·
     intro hl0; have HRF:=aM (go_false HG.out (fun p hp => HLF.out (rd p 0) (nxt_ne hp) (hl0 _))); clear hl0; go_wp2; go_ret; exact ⟨by rw [HRF.out]; rfl,HB.out⟩
    ·
     intro x c1 c2_ c3 w5 cnt1 hwx hrg1 hlt1 hgr1 hen1; obtain ⟨b,hb1,hb2,hb3⟩:=go_at HG.out x; have HX1:=aM hb1; have HX2:=aM hb2; have HX3:=aM hb3; have HWX:=aM hwx; have HRG1:=aM hrg1; have HC1:=aM hlt1; have HLF1:=aM (left_step HLF.out hb3); have n1_:=aM (HB.out.grown hgr1 HB.out.size (fun kk e => by cases e; have:=HWR.out; have:=HRR.out; omega)); clear HB; have HB:=n1_; clear n1_ hb1 hb2 hb3 hwx hrg1 hlt1 hgr1 HRG HLF
     go_wp2_with (first | ((with_reducible refine zaS (N:=45) rfl ?_); refine hmap_event (t:=58) (k:=3) (e:=4) ?hg ?ho ?_; (case hg => rfl); (case ho => rfl); intro gs hg wm8 hm hb; have HRG2:=aM (RG_kept HRG1.out (hr_grown_below hb) (by simp) (by simp) (fun kk e => by cases e)); have HM:=aM hm; have GS:=aM (show gs ≠ gb ∧ gs ≠ rr ∧ w.heap.size ≤ gs ∧ wR.heap.size ≤ gs by obtain ⟨D,hr9,_,hb9⟩:=HRG1.out; have h10:=hr9.lt; have h11:=HB.out.size; have h12:=hb9.size; have h13:=HGR.out; have h14:=HRR.out; omega); have n1_:=aM (zaJ (by repeat (first | (with_reducible first | exact HB.out | apply zaA | apply bN | apply bD) | exact HB.out)) hb); clear HB HRG1; have HB:=n1_; clear n1_ hb hm hg) | (at_lookup; obtain ⟨v48,hrun48,ho48⟩:=RG_look HRG2.out HWX.out; refine wpList_look _ rfl _ _ _ rfl gb x v48 rfl rfl hrun48 ?_; have HO48:=aM ho48; clear hrun48 ho48) | ((with_reducible refine zaI (f:=46) rfl ?_); refine zaR (some 49) rfl rfl Try.func46 (by kernel_rfl) rfl #[v48] rfl (by (try simp only [mA,mB,mC]); first | done | rfl | (simp only [mE,mD]; rfl)) ?_; (with_reducible refine (clone46 HO48.out ?side1).mono ?_); (case side1 => have:=HL.out; have:=nxt_len ps x; omega); rintro e w17 ⟨v49,rfl,ho0,hb⟩; refine ⟨_,rfl,?_⟩; have HRG3:=aM (RG_kept HRG2.out (hr_grown_below hb) (by simp) (by simp) (fun kk e => by cases e)); have HM3:=aM (hmap_below HM.out hb); have HQ:=aM (Kd.Q_lower (Kd.Q_of_R ho0) (show wR.heap.size ≤ wm8.heap.size by obtain ⟨D,_,_,hb9⟩:=HRG2.out; exact hb9.size)); have n1_:=aM (zaJ (by repeat (first | (with_reducible first | exact HB.out | apply zaA | apply bN | apply bD) | exact HB.out)) hb); clear HB HRG2 HM; have HB:=n1_; clear n1_ hb ho0))
     clear HO48 hen1; go_loopg [12] (k + 1) (fun kq v12 w' => ∃ (seen : List (Int × Bool)) (todo : List Int),Aside0 (impl_HasRound.l2 kq ps x seen todo = some b) ∧ Aside0 (Kd.Q (Kd.int .i64) 3 w' wR.heap.size (fun _ => True) v12 todo) ∧ Aside0 (hmap w' Try.prog 3 4 gs seen) ∧ Aside0 (RG wR w' gb rr base ps.length ps (fun z => left z && !z.sameKey (.int .i64 x)) cnt1) ∧ Aside0 (Below w.heap.size w w')); case atStart => exact ⟨[],nxt ps x,HX1,HQ,HM3,HRG3,HB⟩
     case round =>
      clear HQ HM3 HRG3 HB HX1; obtain ⟨seen,todo,HA0,HQ,HM,HRG,HB⟩:=hrel; cases gk with
      | zero => exact absurd HA0.out (by simp [impl_HasRound.l2])
      | succ k3 =>
       have HA:=HA0.out; clear HA0; simp only [impl_HasRound.l2] at HA; by_cases c18 : 0 < (todo.length : Int)
       ·
        rw [if_pos c18] at HA; have c18b0 : decide (0 < (todo.length : Int)) = true:=decide_eq_true c18; have c18b1 : decide (0 < todo.length) = true:=decide_eq_true (by omega); clear c18; have cwf : (Lit.int .i64 (rd todo 0)).wf = true:=by
         by_cases cwf : (Lit.int .i64 (rd todo 0)).wf = true
         ·
          exact cwf
         ·
          rw [if_neg cwf] at HA; exact absurd HA (by simp)
        rw [if_pos cwf] at HA; obtain ⟨Ao22,co22,eo22,_⟩:=Kd.Q_slice HQ.out; subst eo22; have p133 : 0 ≤ (0 : Int):=(by omega); have q133 : 0 < (todo.length : Int):=of_decide_eq_true c18b0; obtain ⟨ad133,e133,hx133_0⟩:=Kd.at_int (Kd.Q_reads' HQ.out).2.2 0 p133 q133; cases e133; have qi133 : (0 < todo.length) = True:=eq_true (by omega); (try rw [show ((0 : Int)).toNat = 0 from rfl] at hx133_0); (try rw [Addr.add_zero'] at hx133_0); replace p133:=eq_true p133; replace q133:=eq_true q133; have q23 : (1 : Int) ≤ ((todo.length : Int) : Int):=(by have:=of_decide_eq_true c18b0; omega); obtain ⟨i023,hi023,_,hsz23,_⟩:=info_parts info3; have hcut23:=cut_from (P:=Try.prog) 28 3 .i64 Try.underlying28 hi023 1 hsz23 (some ad133) todo.length co22 1 (by omega) q23; have hr23:=Kd.Q_drop (k:=(1 : Int).toNat) HQ.out (by omega)
        obtain ⟨A23,hA23⟩ : ∃ A1,A1 = (if co22 = (1 : Int).toNat then (some ad133) else ((some ad133) : Option Addr).map (·.add ((1 : Int).toNat * 1))):=⟨_,rfl⟩
        obtain ⟨c23,hc23⟩ : ∃ c1,c1 = co22 - (1 : Int).toNat:=⟨_,rfl⟩
        obtain ⟨y134,hy134⟩ : ∃ y_ : List Int,y_ = (todo.drop (1 : Int).toNat):=⟨_,rfl⟩
        have hy23 : y134.length = todo.length - (1 : Int).toNat:=(by rw [hy134,mE]); rw [← hy134] at hr23; rw [← hy134] at HA; rw [← hy23,← hA23,← hc23] at hcut23; replace hr23 : Kd.Q (Kd.int .i64) 3 wr wR.heap.size (fun _ => True) (.slice A23 y134.length c23) y134:=(by rw [hA23,hc23,hy23]; exact hr23); have HQ2:=aM hr23; clear hr23 hy23 hi023 hsz23 hA23 hc23 HQ hy134; replace q23:=eq_true q23; generalize rd todo 0 = n at *; by_cases cst : n = x
        ·
         rw [if_pos cst] at HA; have cstb : (n == x) = true:=beq_iff_eq.mpr cst; clear cst; have HRF:=aM (HX2.out (Option.some.inj HA).symm); clear HA; go_wp2; go_ret; exact ⟨by rw [HRF.out]; rfl,HB.out⟩
        ·
         rw [if_neg cst] at HA; have cstb : (n == x) = false:=beq_eq_false_iff_ne.mpr cst; clear cst; by_cases cse : hget seen n = true
         ·
          rw [if_pos cse] at HA; have H':=aM HA; have CSE:=aM cse; have CWF:=aM cwf; clear HA cse cwf; go_wp2_with (first | ((at_lookup); refine wpList_lookup_hmap _ rfl _ _ 58 rfl 3 4 (Go.Maps.int_keyed Try.underlying3) Try.underlying58 Try.underlying3 Try.underlying4 (by kernel_rfl) gs seen rfl HM.out n rfl CWF.out true CSE.out ?_)); go_roundg k3; case measure => omega
          case rel => exact ⟨seen,y134,H',HQ2,HM,HRG,HB⟩
         ·
          rw [if_neg cse] at HA; by_cases cln : y134.length + (nxt ps n).length < 17592186044416 ∧ seen.length < 17592186044416
          ·
           rw [if_pos cln] at HA; have H':=aM HA; have CSE:=aM (Bool.eq_false_iff.mpr cse); have CWF:=aM cwf; have CLN:=aM cln; clear HA cse cwf cln
           go_wp2_with (first | ((at_lookup); refine wpList_lookup_hmap _ rfl _ _ 58 rfl 3 4 (Go.Maps.int_keyed Try.underlying3) Try.underlying58 Try.underlying3 Try.underlying4 (by kernel_rfl) gs seen rfl HM.out n rfl CWF.out false CSE.out ?_) | ((at_mapUpdate); refine wpList_mapUpdate_hmap _ rfl (.tmp 65) (.tmp 66) _ 58 rfl 3 4 (Go.Maps.int_keyed Try.underlying3) Try.underlying58 Try.underlying3 Try.underlying4 gs seen rfl HM.out (by have:=CLN.out; unfold maxLen; omega) n true rfl rfl CWF.out ?_; intro w6 hm6 hg6; have HM6:=aM hm6; have HQ6:=aM (Q_hmap_grown HQ2.out HM.out hg6); have HRG6:=aM (RG_kept HRG.out hg6 (fun e => GS.out.1 (Option.some.inj e).symm) (fun e => GS.out.2.1 (Option.some.inj e).symm) (fun kk e => by cases e; exact GS.out.2.2.2)); have n1_:=aM (HB.out.grown hg6 HB.out.size (fun kk e => by cases e; exact GS.out.2.2.1)); clear HB HM HRG HQ2; have HB:=n1_; clear n1_ hm6 hg6) | (at_lookup; obtain ⟨v70,hrun70,ho70⟩:=RG_look HRG6.out CWF.out; refine wpList_look _ rfl _ _ _ rfl gb n v70 rfl rfl hrun70 ?_; have HO70:=aM ho70; clear hrun70 ho70) | (at_builtin; refine wpList_todo rfl _ _ rfl rfl rfl HQ6.out HO70.out CLN.out.1 (by obtain ⟨D,_,_,hb9⟩:=HRG6.out; exact hb9.size) ?_; intro v71 w7 hq7 hg7 hat7; have HQ7:=aM hq7; have hcell:=Kd.Q_typed HQ6.out; have hbs:=Kd.Q_base HQ6.out; have HRG7:=aM (RG_kept HRG6.out hg7 (fun e => no_map HRG6.out (hcell _ e.symm)) (fun e => no_iter HRG6.out (hcell _ e.symm)) (fun kk e => hbs kk e)); have HM7:=aM (hmap_kept HM6.out hg7 (fun e => no_hmap HM6.out (hcell _ e.symm))); have n1_:=aM (HB.out.grown hg7 HB.out.size (fun kk e => Nat.le_trans HWR.out (hbs kk e))); clear HB; have HB:=n1_; clear n1_ hq7 hg7 hat7 hcell hbs))
           go_roundg k3; case measure => omega
           case rel => exact ⟨(n,true) :: seen,y134 ++ nxt ps n,H',HQ7,HM7,HRG7,HB⟩
          ·
           rw [if_neg cln] at HA; exact absurd HA (by simp)
       ·
        rw [if_neg c18] at HA; have HBF:=aM (show b = false from (Option.some.inj HA).symm); have c18b0 : decide (0 < (todo.length : Int)) = false:=decide_eq_false c18; have c18b1 : decide (0 < todo.length) = false:=decide_eq_false (by omega); clear c18 HA; obtain ⟨Ao31,co31,eo31,_⟩:=Kd.Q_slice HQ.out; subst eo31; go_wp2; go_roundg (cnt1 + 1); case measure => have:=HC1.out; have:=HCN.out; omega
        case rel => exact ⟨_,cnt1,⟨Nat.lt_succ_self _⟩,HRG,⟨HLF1.out HBF.out⟩,HB⟩
end Go.Proofs.Ytdbokdodjekchaa.PFnRouteNoRound
