/- What the Go functions that this law reaches answer, function by function; conditions: those that each contract names. Made for this claim by a program of this session (wip/myprint) over the kit's print. -/
import Derived.Test.YtdbokdodjekchaaPFnRouteNoRoundx0
import Derived.Test.YtdbokdodjekchaaPFnRouteNoRoundx7
import Derived.Test.YtdbokdodjekchaaPFnRouteNoRoundx12
import Derived.Test.YtdbokdodjekchaaPFnRouteNoRoundx13
namespace Go.Proofs.Ytdbokdodjekchaa.PFnRouteNoRound
open Go.RowKit Go.Proofs.YtdbokdodjekchaaW.PrintWords Go.Proofs.YtdbokdodjekchaaW.PrintLast Go.Proofs.YtdbokdodjekchaaW.PrintMore
attribute [local go_sem] zbL zbJ max_two min_two zbF zbE zbK zbI   -- for this text's walks alone
set_option linter.unusedVariables false
set_option linter.unusedSimpArgs false
def spec_DrawHasRound.f (k : Nat) (l0 : List Int) : Option (Int × Int × (List (List Int))):=(spec_l21Open.f l0).bind fun bt294 => ((spec_l16Draw.f k bt294.1 bt294.2).bind fun bt297 => (some (bt297.1,bt297.2.1,bt297.2.2.1)))
theorem spec_DrawHasRound.mono : ∀ a0 k,LeO (spec_DrawHasRound.f k a0) (spec_DrawHasRound.f (k + 1) a0):=by
 intro a0 k; unfold spec_DrawHasRound.f
 repeat' first
   | (with_reducible exact spec_l16Draw.mono _ _ _)
   | (with_reducible exact LeO.refl _)
   | (with_reducible exact LeO.none _)
   | (with_reducible refine LeO.ite ?_ ?_)
   | (with_reducible refine LeO.bind ?_ (fun _ => ?_))
   | exact spec_l16Draw.mono _ _ _
   | exact LeO.none _
   | refine LeO.ite ?_ ?_
   | refine LeO.bind ?_ (fun _ => ?_)
set_option maxHeartbeats 8000000 in
set_option maxRecDepth 100000 in
theorem spec_DrawHasRound.calls (k : Nat) (A0 : Option Addr) (c0 : Nat) (l0 : List Int) (r1 : Int) (r2 : Int) (r3 : List (List Int)) (w : World) (hr0 : Kd.C (Kd.int .u8) w A0 l0.length l0) (hc0 : l0.length ≤ c0) (h : spec_DrawHasRound.f k l0 = some (r1,r2,r3)) :
  Calls Try.prog 19 #[.slice A0 l0.length c0] w fun e w' => ∃ v2_ : Value,e = .returned (.tuple #[.int .i64 r1,.int .i64 r2,v2_]) ∧ Kd.S (Kd.slice 3 (Kd.int .i64)) 28 w' w.heap.size (fun _ => True) v2_ r3 ∧ Below w.heap.size w w':=by
 have HR0:=aM hr0; have HC0:=aM hc0; clear hr0 hc0; have HB:=aM (Below.refl w.heap.size w); have H : ((spec_l21Open.f l0).bind fun bt294 => ((spec_l16Draw.f k bt294.1 bt294.2).bind fun bt297 => (some (bt297.1,bt297.2.1,bt297.2.2.1)))) = some (r1,r2,r3):=h; clear h; replace H:=bE H; obtain ⟨⟨t294,t295⟩,A20,H⟩:=H; replace H : ((spec_l16Draw.f k t294 t295).bind fun bt297 => (some (bt297.1,bt297.2.1,bt297.2.2.1))) = some (r1,r2,r3):=H; have A2:=aM A20; clear A20; replace H:=bE H; obtain ⟨⟨t297,t298,t299,t302⟩,A30,H⟩:=H; replace H : (some (t297,t298,t299)) = some (r1,r2,r3):=H; have A3:=aM A30; clear A30; simp only [Option.some.injEq,Prod.mk.injEq] at H; obtain ⟨rfl,rfl,rfl⟩:=H; go_enter Try.func19,Try.ntmps19
 go_wp2_with (first | ((with_reducible refine zaI (f:=33) rfl ?_); refine zaR (some 6) rfl rfl Try.func33 (by kernel_rfl) rfl #[.slice A0 l0.length c0] rfl (by (try simp only [mA,mB,mC]); first | done | rfl | (simp only [mE,mD]; rfl)) ?_; (with_reducible refine (spec_l21Open.calls _ _ l0 t294 t295 w _ ?side1 ?side2 ?side3 A2.out).mono ?_); (case side1 => repeat (first | (with_reducible first | exact HB.out | apply zaA | apply bN | apply bD) | exact HB.out)); (case side2 => exact HR0.out); (case side3 => exact HC0.out); rintro e w4 ⟨g296,rfl,hi,hb,hb2⟩; refine ⟨_,rfl,?_⟩; have n0_:=aM (hb); have n1_:=aM (hi); clear HB; have HB:=n0_; have HI296:=n1_; clear n0_ n1_; (try clear hb); (try clear hb2); (try clear hk); (try clear hi)) | ((with_reducible refine zaI (f:=32) rfl ?_); refine zaR (some 7) rfl rfl Try.func32 (by kernel_rfl) rfl #[.pointer (some ⟨g296,0,none⟩)] rfl (by (try simp only [mA,mB,mC]); first | done | rfl | (simp only [mE,mD]; rfl)) ?_; (with_reducible refine (spec_l16Draw.calls k g296 t294 t295 t297 t298 t299 t302 w _ ?side1 ?side2 A3.out).mono ?_); (case side1 => repeat (first | (with_reducible first | exact HI296.out | apply I77.alloc | apply I77.drewN | apply I77.drew | apply I77.set_1) | exact HI296.out)); (case side2 => repeat (first | (with_reducible first | exact HB.out | apply zaA | apply bN | apply bD | refine zaB ?_ (I77.ge HI296.out)) | exact HB.out)); rintro e w5 ⟨v300,rfl,ho0,hi,hb,hk⟩; refine ⟨_,rfl,?_⟩; have n0_:=aM (Kd.S_lower ho0 (zaK (by repeat (first | (with_reducible first | exact HB.out | apply zaA | apply bN | apply bD | refine zaB ?_ (I77.ge HI296.out)) | exact HB.out)))); have n1_:=aM (hb); have n2_:=aM (hi); clear HB; clear HI296; have HO301:=n0_; have HB:=n1_; have HI296:=n2_; clear n0_ n1_ n2_; (try clear hb); (try clear hb2); (try clear hk); (try clear hi); (try clear ho0)))
 go_ret3; exact ⟨_,by first | rfl | (simp [*] <;> rfl),by (with_reducible repeat (first | apply Kd.S_alloc | apply Kd.S_drewN | apply Kd.S_drew)); exact HO301.out,by repeat (first | (with_reducible first | exact HB.out | apply zaA | apply bN | apply bD | refine zaB ?_ (I77.ge HI296.out)) | exact HB.out)⟩
mutual
def spec_WaitsOf.l0 : Nat → Int → List (List Int) → List (List Int) → Int → List Bool → Int → Option ((List (List Int)))
 | 0,_,_,_,_,_,_ => none
 | k + 1,x0,x2,x7,x8,x9,x10 => if x10 < (x2.length : Int) then (if 0 ≤ x10 then ((spec_l16Wires.f k x0 (rd_L2 x2 x10)).bind fun t311 => (spec_WaitsOf.l1 k x0 x2 x7 x8 x9 x10 t311 1)) else (none)) else (spec_WaitsOf.l2 k x7 x8 x9 0)
def spec_WaitsOf.l1 : Nat → Int → List (List Int) → List (List Int) → Int → List Bool → Int → List Int → Int → Option ((List (List Int)))
 | 0,_,_,_,_,_,_,_,_ => none
 | k + 1,x0,x2,x7,x8,x9,x10,x11,x12 => if x12 < (x11.length : Int) then (if 0 ≤ (wrap64 (x12 - 1)) then (if (wrap64 (x12 - 1)) < (x11.length : Int) then (if 0 ≤ x12 then (if 0 ≤ (wrap64 ((wrap64 ((rd x11 (wrap64 (x12 - 1))) * x8)) + (rd x11 x12))) then (if (wrap64 ((wrap64 ((rd x11 (wrap64 (x12 - 1))) * x8)) + (rd x11 x12))) < (x9.length : Int) then (spec_WaitsOf.l1 k x0 x2 x7 x8 (x9.set ((wrap64 ((wrap64 ((rd x11 (wrap64 (x12 - 1))) * x8)) + (rd x11 x12))) : Int).toNat true) x10 x11 (wrap64 (x12 + 1))) else (none)) else (none)) else (none)) else (none)) else (none)) else (spec_WaitsOf.l0 k x0 x2 x7 x8 x9 (wrap64 (x10 + 1)))
def spec_WaitsOf.l2 : Nat → List (List Int) → Int → List Bool → Int → Option ((List (List Int)))
 | 0,_,_,_,_ => none
 | k + 1,x7,x8,x9,x13 => if x13 < (wrap64 (x8 * x8)) then (if 0 ≤ x13 then (if x13 < (x9.length : Int) then (if rdOf false x9 x13 = true then (if x8 = 0 then (none) else (if x7.length < 5864062014805 then (spec_WaitsOf.l2 k (x7 ++ [(([wrap64 (Int.tdiv x13 x8),Int.tmod x13 x8] : List Int))]) x8 x9 (wrap64 (x13 + 1))) else (none))) else (spec_WaitsOf.l2 k x7 x8 x9 (wrap64 (x13 + 1)))) else (none)) else (none)) else (some x7)
end
def spec_WaitsOf.f (k : Nat) (a0 : Int) (a1 : Int) (l2 : List (List Int)) : Option ((List (List Int))):=(some (([] : List (List Int)) : List (List Int))).bind fun y303 => ((spec_l16Ways.f k a0 a1 l2).bind fun t306 => (if t306 = true then (if 0 ≤ (wrap64 ((wrap64 ((wrap64 (4 * a0)) * a1)) * (wrap64 ((wrap64 (4 * a0)) * a1)))) then (if (wrap64 ((wrap64 ((wrap64 (4 * a0)) * a1)) * (wrap64 ((wrap64 (4 * a0)) * a1))) : Int).toNat ≤ 281474976710656 then (spec_WaitsOf.l0 k a0 l2 y303 (wrap64 ((wrap64 (4 * a0)) * a1)) (List.replicate (wrap64 ((wrap64 ((wrap64 (4 * a0)) * a1)) * (wrap64 ((wrap64 (4 * a0)) * a1))) : Int).toNat false) 0) else (none)) else (none)) else (some y303)))
theorem spec_WaitsOf.mono_l : ∀ k,(∀ y0 y1 y2 y3 y4 y5,LeO (spec_WaitsOf.l0 k y0 y1 y2 y3 y4 y5) (spec_WaitsOf.l0 (k + 1) y0 y1 y2 y3 y4 y5)) ∧ (∀ y0 y1 y2 y3 y4 y5 y6 y7,LeO (spec_WaitsOf.l1 k y0 y1 y2 y3 y4 y5 y6 y7) (spec_WaitsOf.l1 (k + 1) y0 y1 y2 y3 y4 y5 y6 y7)) ∧ (∀ y0 y1 y2 y3,LeO (spec_WaitsOf.l2 k y0 y1 y2 y3) (spec_WaitsOf.l2 (k + 1) y0 y1 y2 y3))
 | 0 => ⟨fun _ _ _ _ _ _ r h => by simp [spec_WaitsOf.l0] at h,fun _ _ _ _ _ _ _ _ r h => by simp [spec_WaitsOf.l1] at h,fun _ _ _ _ r h => by simp [spec_WaitsOf.l2] at h⟩
 | k + 1 => by
  obtain ⟨ih0,ih1,ih2⟩:=spec_WaitsOf.mono_l k; refine ⟨?_,?_,?_⟩
  ·
   intro y0 y1 y2 y3 y4 y5; unfold spec_WaitsOf.l0
   repeat' first
   | (with_reducible exact ih0 _ _ _ _ _ _)
   | (with_reducible exact ih1 _ _ _ _ _ _ _ _)
   | (with_reducible exact ih2 _ _ _ _)
   | (with_reducible exact spec_l16Ways.mono _ _ _ _)
   | (with_reducible exact spec_l16Wires.mono _ _ _)
   | (with_reducible exact LeO.refl _)
   | (with_reducible exact LeO.none _)
   | (with_reducible refine LeO.ite ?_ ?_)
   | (with_reducible refine LeO.bind ?_ (fun _ => ?_))
   | exact ih0 _ _ _ _ _ _
   | exact ih1 _ _ _ _ _ _ _ _
   | exact ih2 _ _ _ _
   | exact spec_l16Ways.mono _ _ _ _
   | exact spec_l16Wires.mono _ _ _
   | exact LeO.none _
   | refine LeO.ite ?_ ?_
   | refine LeO.bind ?_ (fun _ => ?_)
  ·
   intro y0 y1 y2 y3 y4 y5 y6 y7; unfold spec_WaitsOf.l1
   repeat' first
   | (with_reducible exact ih0 _ _ _ _ _ _)
   | (with_reducible exact ih1 _ _ _ _ _ _ _ _)
   | (with_reducible exact ih2 _ _ _ _)
   | (with_reducible exact spec_l16Ways.mono _ _ _ _)
   | (with_reducible exact spec_l16Wires.mono _ _ _)
   | (with_reducible exact LeO.refl _)
   | (with_reducible exact LeO.none _)
   | (with_reducible refine LeO.ite ?_ ?_)
   | (with_reducible refine LeO.bind ?_ (fun _ => ?_))
   | exact ih0 _ _ _ _ _ _
   | exact ih1 _ _ _ _ _ _ _ _
   | exact ih2 _ _ _ _
   | exact spec_l16Ways.mono _ _ _ _
   | exact spec_l16Wires.mono _ _ _
   | exact LeO.none _
   | refine LeO.ite ?_ ?_
   | refine LeO.bind ?_ (fun _ => ?_)
  ·
   intro y0 y1 y2 y3; unfold spec_WaitsOf.l2
   repeat' first
   | (with_reducible exact ih0 _ _ _ _ _ _)
   | (with_reducible exact ih1 _ _ _ _ _ _ _ _)
   | (with_reducible exact ih2 _ _ _ _)
   | (with_reducible exact spec_l16Ways.mono _ _ _ _)
   | (with_reducible exact spec_l16Wires.mono _ _ _)
   | (with_reducible exact LeO.refl _)
   | (with_reducible exact LeO.none _)
   | (with_reducible refine LeO.ite ?_ ?_)
   | (with_reducible refine LeO.bind ?_ (fun _ => ?_))
   | exact ih0 _ _ _ _ _ _
   | exact ih1 _ _ _ _ _ _ _ _
   | exact ih2 _ _ _ _
   | exact spec_l16Ways.mono _ _ _ _
   | exact spec_l16Wires.mono _ _ _
   | exact LeO.none _
   | refine LeO.ite ?_ ?_
   | refine LeO.bind ?_ (fun _ => ?_)
theorem spec_WaitsOf.mono : ∀ a0 a1 a2 k,LeO (spec_WaitsOf.f k a0 a1 a2) (spec_WaitsOf.f (k + 1) a0 a1 a2):=by
 intro a0 a1 a2 k; obtain ⟨ih0,ih1,ih2⟩:=spec_WaitsOf.mono_l k; unfold spec_WaitsOf.f
 repeat' first
   | (with_reducible exact ih0 _ _ _ _ _ _)
   | (with_reducible exact ih1 _ _ _ _ _ _ _ _)
   | (with_reducible exact ih2 _ _ _ _)
   | (with_reducible exact spec_l16Ways.mono _ _ _ _)
   | (with_reducible exact spec_l16Wires.mono _ _ _)
   | (with_reducible exact LeO.refl _)
   | (with_reducible exact LeO.none _)
   | (with_reducible refine LeO.ite ?_ ?_)
   | (with_reducible refine LeO.bind ?_ (fun _ => ?_))
   | exact ih0 _ _ _ _ _ _
   | exact ih1 _ _ _ _ _ _ _ _
   | exact ih2 _ _ _ _
   | exact spec_l16Ways.mono _ _ _ _
   | exact spec_l16Wires.mono _ _ _
   | exact LeO.none _
   | refine LeO.ite ?_ ?_
   | refine LeO.bind ?_ (fun _ => ?_)
def spec_WaitsOf.T13 : Bool × List (List Nat × List Nat):=(true,[([],[]),([],[]),([],[]),([2],[2]),([1,3],[1,3]),([4],[4]),([],[]),([5,6],[5,6]),([],[]),([],[]),([8,9],[8,9]),([10],[10]),([7,11],[7,11]),([0,12,0,1,2,3,4,5,6,7,8,9,10,11,12],[0,12]),([13,0,1,2,3,4,5,6,7,8,9,10,11,12],[13])])
def spec_WaitsOf.B13 : List Nat:=[0,0,0,4,14,30,0,126,0,0,768,1792,4094,8191,16383]
theorem spec_WaitsOf.tab13 : rtab .any (opsOf Try.f13 13) = spec_WaitsOf.T13:=by kernel_rfl
theorem spec_WaitsOf.bits13 : waitsOk spec_WaitsOf.T13.2 spec_WaitsOf.B13 = true:=by kernel_rfl
def spec_WaitsOf.T18 : Bool × List (List Nat × List Nat):=(true,[([],[]),([],[]),([],[]),([1,2],[1,2]),([],[]),([],[]),([4,5],[4,5]),([3,6],[3,6]),([7],[7]),([0,8],[0,8]),([9,9,0,1,2,3,4,5,6,7,8,9],[0,9])])
def spec_WaitsOf.B18 : List Nat:=[0,0,0,6,0,0,48,126,254,511,1023]
theorem spec_WaitsOf.tab18 : rtab .any (opsOf Try.f13 18) = spec_WaitsOf.T18:=by kernel_rfl
theorem spec_WaitsOf.bits18 : waitsOk spec_WaitsOf.T18.2 spec_WaitsOf.B18 = true:=by kernel_rfl
set_option maxHeartbeats 8000000 in
set_option maxRecDepth 100000 in
theorem spec_WaitsOf.calls (k : Nat) (a0 : Int) (a1 : Int) (A2 : Option Addr) (c2 : Nat) (l2 : List (List Int)) (r : List (List Int)) (w : World) (hr2 : Kd.C (Kd.slice 3 (Kd.int .i64)) w A2 l2.length l2) (hc2 : l2.length ≤ c2) (h : spec_WaitsOf.f k a0 a1 l2 = some r) :
  Calls Try.prog 13 #[.int .i64 a0,.int .i64 a1,.slice A2 l2.length c2] w fun e w' => ∃ v0_ : Value,e = .returned (v0_) ∧ Kd.S (Kd.slice 3 (Kd.int .i64)) 28 w' w.heap.size (fun _ => True) v0_ r ∧ Below w.heap.size w w':=by
 have HR2:=aM hr2; have HC2:=aM hc2; clear hr2 hc2; have HB:=aM (Below.refl w.heap.size w); have H : ((some (([] : List (List Int)) : List (List Int))).bind fun y303 => ((spec_l16Ways.f k a0 a1 l2).bind fun t306 => (if t306 = true then (if 0 ≤ (wrap64 ((wrap64 ((wrap64 (4 * a0)) * a1)) * (wrap64 ((wrap64 (4 * a0)) * a1)))) then (if (wrap64 ((wrap64 ((wrap64 (4 * a0)) * a1)) * (wrap64 ((wrap64 (4 * a0)) * a1))) : Int).toNat ≤ 281474976710656 then (spec_WaitsOf.l0 k a0 l2 y303 (wrap64 ((wrap64 (4 * a0)) * a1)) (List.replicate (wrap64 ((wrap64 ((wrap64 (4 * a0)) * a1)) * (wrap64 ((wrap64 (4 * a0)) * a1))) : Int).toNat false) 0) else (none)) else (none)) else (some y303)))) = some r:=h; clear h; obtain ⟨y303,hy303⟩ : ∃ y_ : List (List Int),y_ = (([] : List (List Int))):=⟨_,rfl⟩
 replace H : ((spec_l16Ways.f k a0 a1 l2).bind fun t306 => (if t306 = true then (if 0 ≤ (wrap64 ((wrap64 ((wrap64 (4 * a0)) * a1)) * (wrap64 ((wrap64 (4 * a0)) * a1)))) then (if (wrap64 ((wrap64 ((wrap64 (4 * a0)) * a1)) * (wrap64 ((wrap64 (4 * a0)) * a1))) : Int).toNat ≤ 281474976710656 then (spec_WaitsOf.l0 k a0 l2 y303 (wrap64 ((wrap64 (4 * a0)) * a1)) (List.replicate (wrap64 ((wrap64 ((wrap64 (4 * a0)) * a1)) * (wrap64 ((wrap64 (4 * a0)) * a1))) : Int).toNat false) 0) else (none)) else (none)) else (some y303))) = some r:=by first | (rw [hy303]; with_reducible exact H) | (have H2_:=(Option.bind_some _ _).symm.trans H; rw [hy303]; with_reducible exact H2_) | (have H2_:=(Option.bind_some _ _).symm.trans H; with_reducible exact H2_) | with_reducible exact H | (rw [hy303]; exact H) | exact H
 have Ny303:=aM hy303; clear hy303; replace H:=bE H; obtain ⟨t306,A40,H⟩:=H; replace H : (if t306 = true then (if 0 ≤ (wrap64 ((wrap64 ((wrap64 (4 * a0)) * a1)) * (wrap64 ((wrap64 (4 * a0)) * a1)))) then (if (wrap64 ((wrap64 ((wrap64 (4 * a0)) * a1)) * (wrap64 ((wrap64 (4 * a0)) * a1))) : Int).toNat ≤ 281474976710656 then (spec_WaitsOf.l0 k a0 l2 y303 (wrap64 ((wrap64 (4 * a0)) * a1)) (List.replicate (wrap64 ((wrap64 ((wrap64 (4 * a0)) * a1)) * (wrap64 ((wrap64 (4 * a0)) * a1))) : Int).toNat false) 0) else (none)) else (none)) else (some y303)) = some r:=H; have A4:=aM A40; clear A40; by_cases c5 : t306 = true
 ·
  subst c5; have H1 : (if 0 ≤ (wrap64 ((wrap64 ((wrap64 (4 * a0)) * a1)) * (wrap64 ((wrap64 (4 * a0)) * a1)))) then (if (wrap64 ((wrap64 ((wrap64 (4 * a0)) * a1)) * (wrap64 ((wrap64 (4 * a0)) * a1))) : Int).toNat ≤ 281474976710656 then (spec_WaitsOf.l0 k a0 l2 y303 (wrap64 ((wrap64 (4 * a0)) * a1)) (List.replicate (wrap64 ((wrap64 ((wrap64 (4 * a0)) * a1)) * (wrap64 ((wrap64 (4 * a0)) * a1))) : Int).toNat false) 0) else (none)) else (none)) = some r:=by rw [if_pos rfl] at H; exact H
  clear H; have H:=H1; clear H1; obtain ⟨ji6,hji6⟩ : ∃ j_ : Int,(wrap64 ((wrap64 ((wrap64 (4 * a0)) * a1)) * (wrap64 ((wrap64 (4 * a0)) * a1)))) = j_:=⟨_,rfl⟩
  replace H : (if 0 ≤ (ji6) then (if (ji6 : Int).toNat ≤ 281474976710656 then (spec_WaitsOf.l0 k a0 l2 y303 (wrap64 ((wrap64 (4 * a0)) * a1)) (List.replicate (ji6 : Int).toNat false) 0) else (none)) else (none)) = some r:=by first | (rw [hji6] at H; exact H) | (simp only [hji6] at H ⊢; exact H)
  (try rw [hji6] at A4); have hji6w : (IntKind.i64.wrap ((wrap64 ((wrap64 (4 * a0)) * a1)) * (wrap64 ((wrap64 (4 * a0)) * a1)))) = ji6:=(zaP _).trans hji6; by_cases c7 : 0 ≤ (ji6)
  ·
   rw [if_pos c7] at H; have c7b0:=eq_true c7; have c7b1 : decide (0 ≤ (ji6)) = true:=decide_eq_true c7; clear c7; by_cases c8 : (ji6 : Int).toNat ≤ 281474976710656
   ·
    rw [if_pos c8] at H; have c8b0:=eq_true c8; have c8b1 : decide ((ji6 : Int).toNat ≤ 281474976710656) = true:=decide_eq_true c8; clear c8; obtain ⟨y307,hy307⟩ : ∃ y_ : List Bool,y_ = (List.replicate (ji6 : Int).toNat false):=⟨_,rfl⟩
    replace H : (spec_WaitsOf.l0 k a0 l2 y303 (wrap64 ((wrap64 (4 * a0)) * a1)) y307 0) = some r:=by first | (rw [hy307]; with_reducible exact H) | (have H2_:=(Option.bind_some _ _).symm.trans H; rw [hy307]; with_reducible exact H2_) | (have H2_:=(Option.bind_some _ _).symm.trans H; with_reducible exact H2_) | with_reducible exact H | (rw [hy307]; exact H) | exact H
    have Ny307:=aM hy307; clear hy307; have H':=aM H; clear H; go_enter Try.func13,Try.ntmps13
    go_wp2_with (first | ((with_reducible refine zaS (N:=14) rfl ?_); refine Kd.S_lit (Kd.slice 3 (Kd.int .i64)) _ 28 ?hg (N:=14) ?hd (xs:=([] : List (List Int))) (inner:=[]) (ok:=fun _ => True) (okp:=fun _ => True) ?hr ?hp (fun _ hk => hk) trivial (Below.refl _ _) (Nat.le_refl _) (by simp) ?_; (case hd => rfl); (case hg => rfl); (case hr => first | (go_simp; done) | (go_simp; rfl)); (case hp => exact (Reps.none _ _)); intro v304 w9 ho10 hb hg_ hnew_; clear hg_ hnew_; (first | rw [← Ny303.out] at ho10 | (simp only [Int.reduceToNat] at ho10; rw [← Ny303.out] at ho10)); have n0_:=aM (Kd.S_lower ho10 (zaK (by repeat (first | (with_reducible first | exact HB.out | apply zaA | apply bN | apply bD) | exact HB.out)))); have n1_:=aM (zaJ (by repeat (first | (with_reducible first | exact HB.out | apply zaA | apply bN | apply bD) | exact HB.out)) hb); clear HB; have HO305:=n0_; have HB:=n1_; clear n0_ n1_; clear hb ho10) | ((with_reducible refine zaI (f:=40) rfl ?_); refine zaR (some 18) rfl rfl Try.func40 (by kernel_rfl) rfl #[.int .i64 a0,.int .i64 a1,.slice A2 l2.length c2] rfl (by (try simp only [mA,mB,mC]); first | done | rfl | (simp only [mE,mD]; rfl)) ?_; (with_reducible refine (spec_l16Ways.calls k a0 a1 _ _ l2 true _ ?side1 ?side2 A4.out).mono ?_); (case side1 => repeat (first | exact (Kd.C_below HR2.out HB.out) | (with_reducible refine Kd.C_alloc ?_ _) | (with_reducible refine Kd.C_drewN ?_ _) | (with_reducible refine Kd.C_drew ?_))); (case side2 => exact HC2.out); rintro e w11 ⟨rfl,hb⟩; refine ⟨_,rfl,?_⟩; have n0_:=aM (Kd.S_below (by (with_reducible repeat (first | apply Kd.S_alloc | apply Kd.S_drewN | apply Kd.S_drew)); exact HO305.out) hb); have n1_:=aM (zaJ (by repeat (first | (with_reducible first | exact HB.out | apply zaA | apply bN | apply bD) | exact HB.out)) hb); clear HO305; clear HB; have HO305:=n0_; have HB:=n1_; clear n0_ n1_; (try clear hb); (try clear hb2); (try clear hk); (try clear hi)) | ((with_reducible refine zaS (N:=28) rfl ?_); refine Kd.R_make Kd.bool _ 4 rfl (N:=28) rfl 31 _ _ rfl ji6 rfl rfl Try.underlying31 (.bool false) 1 info4 rfl (by decide) (by omega) false (ok:=fun _ => True) (okp:=fun _ => True) rfl (fun _ hk => hk) trivial (oD (by assumption)) (Nat.le_trans (Nat.mul_le_mul_right _ (oD (by assumption) : ji6.toNat ≤ 281474976710656)) (by omega)) (Below.refl _ _) (Nat.le_refl _) ?_; intro v308 w12 ho13 hb hg_ hnew_; clear hg_ hnew_; (first | rw [← Ny307.out] at ho13 | (simp only [Int.reduceToNat] at ho13; rw [← Ny307.out] at ho13)); have n0_:=aM (Kd.S_below (by (with_reducible repeat (first | apply Kd.S_alloc | apply Kd.S_drewN | apply Kd.S_drew)); exact HO305.out) hb); have n1_:=aM (Kd.R_lower ho13 (zaK (by repeat (first | (with_reducible first | exact HB.out | apply zaA | apply bN | apply bD) | exact HB.out)))); have n2_:=aM (zaJ (by repeat (first | (with_reducible first | exact HB.out | apply zaA | apply bN | apply bD) | exact HB.out)) hb); clear HO305; clear HB; have HO305:=n0_; have HO309:=n1_; have HB:=n2_; clear n0_ n1_ n2_; clear hb ho13))
    go_loopg [10] k (fun kq v10 w' => ∃ (x9_1 : List Bool) (x10_1 : Int),v10 = .int .i64 x10_1 ∧ Aside0 (spec_WaitsOf.l0 kq a0 l2 y303 (wrap64 ((wrap64 (4 * a0)) * a1)) x9_1 x10_1 = some r) ∧ Aside0 (kq ≤ k) ∧ Aside0 (Kd.S (Kd.slice 3 (Kd.int .i64)) 28 w' w.heap.size (fun _ => True) v304 y303) ∧ Aside0 (Kd.R Kd.bool 4 w' w.heap.size (fun _ => True) v308 x9_1) ∧ Aside0 (Below w.heap.size w w')); case atStart => exact ⟨(y307),(0),(by first | rfl | (simp; done) | (simp [*]; done)),H',⟨Nat.le_refl _⟩,⟨by (with_reducible repeat (first | apply Kd.S_alloc | apply Kd.S_drewN | apply Kd.S_drew)); exact HO305.out⟩,⟨by (with_reducible repeat (first | apply Kd.R_alloc | apply Kd.R_drewN | apply Kd.R_drew)); exact HO309.out⟩,⟨by repeat (first | (with_reducible first | exact HB.out | apply zaA | apply bN | apply bD) | exact HB.out)⟩⟩
    case round =>
     clear H'
     try clear c1
     try clear c2
     try clear p2
     try clear c4
     try clear c5
     try clear p6
     try clear c7
     try clear c7b0
     try clear c7b1
     try clear c8
     try clear c8b0
     try clear c8b1
     try clear c13
     obtain ⟨x9_1,x10_1,rfl,HA,HK1,HO_7,HO_9,HB⟩:=hrel; cases gk with
     | zero => exact absurd HA.out (by simp [spec_WaitsOf.l0])
     | succ k1 =>
      have H:=HA.out; clear HA; simp only [spec_WaitsOf.l0] at H; by_cases c14 : x10_1 < (l2.length : Int)
      ·
       rw [if_pos c14] at H; have c14b0 : decide (x10_1 < (l2.length : Int)) = true:=decide_eq_true c14; clear c14; by_cases c15 : 0 ≤ x10_1
       ·
        rw [if_pos c15] at H; have c15b0 : decide (0 ≤ x10_1) = true:=decide_eq_true c15; clear c15; replace H:=bE H; obtain ⟨t311,A160,H⟩:=H; replace H : (spec_WaitsOf.l1 k1 a0 l2 y303 (wrap64 ((wrap64 (4 * a0)) * a1)) x9_1 x10_1 t311 1) = some r:=H; have A16:=aM A160; clear A160; have H':=aM H; clear H; have p310 : 0 ≤ (x10_1 : Int):=oD (by assumption); have q310 : x10_1 < (l2.length : Int):=oD (by assumption); obtain ⟨ad310,A310_0,c310_0,e310,hx310_0,hl310_0,hi310_0⟩:=at_L2 HR2.out x10_1 p310 q310; cases e310; replace hx310_0:=(HB.out.cell (bC w _ hx310_0)).trans hx310_0; have HR310_0:=aM hi310_0; have HC310_0:=aM hl310_0; clear hi310_0 hl310_0; replace p310:=eq_true p310; replace q310:=eq_true q310
        go_wp2_with (first | ((with_reducible refine zaI (f:=41) rfl ?_); refine zaR (some 40) rfl rfl Try.func41 (by kernel_rfl) rfl #[.int .i64 a0,.slice A310_0 (rd_L2 l2 x10_1).length c310_0] rfl (by (try simp only [mA,mB,mC]); first | done | rfl | (simp only [mE,mD]; rfl)) ?_; (with_reducible refine (spec_l16Wires.calls k1 a0 _ _ (rd_L2 l2 x10_1) t311 _ ?side1 ?side2 A16.out).mono ?_); (case side1 => repeat (first | exact (Kd.C_below HR310_0.out HB.out) | (with_reducible refine Kd.C_alloc ?_ _) | (with_reducible refine Kd.C_drewN ?_ _) | (with_reducible refine Kd.C_drew ?_))); (case side2 => exact HC310_0.out); rintro e w17 ⟨v312,rfl,ho0,hb⟩; refine ⟨_,rfl,?_⟩; have n0_:=aM (Kd.S_elder' (by (with_reducible repeat (first | apply Kd.S_alloc | apply Kd.S_drewN | apply Kd.S_drew)); exact HO_7.out) (Kd.R_base ho0) hb); have n1_:=aM (Kd.R_below (by (with_reducible repeat (first | apply Kd.R_alloc | apply Kd.R_drewN | apply Kd.R_drew)); exact HO_9.out) hb); have n2_:=aM (Kd.R_lower ho0 (zaK (by repeat (first | (with_reducible first | exact HB.out | apply zaA | apply bN | apply bD) | exact HB.out)))); have n3_:=aM (zaJ (by repeat (first | (with_reducible first | exact HB.out | apply zaA | apply bN | apply bD) | exact HB.out)) hb); clear HO_7; clear HO_9; clear HB; have HO_7:=n0_; have HO_9:=n1_; have HO313:=n2_; have HB:=n3_; clear n0_ n1_ n2_ n3_; (try clear hb); (try clear hb2); (try clear hk); (try clear hi); (try clear ho0)))
        go_loopg [12] k1 (fun kq v12 w' => ∃ (x9_2 : List Bool) (x12_2 : Int),v12 = .int .i64 x12_2 ∧ Aside0 (spec_WaitsOf.l1 kq a0 l2 y303 (wrap64 ((wrap64 (4 * a0)) * a1)) x9_2 x10_1 t311 x12_2 = some r) ∧ Aside0 (kq ≤ k1) ∧ Aside0 (Kd.S (Kd.slice 3 (Kd.int .i64)) 28 w' w.heap.size (fun k_ => some k_ ≠ (v312 : Value).ownBlock) v304 y303) ∧ Aside0 (Kd.R Kd.bool 4 w' w.heap.size (fun _ => True) v308 x9_2) ∧ Aside0 (Kd.R (Kd.int .i64) 3 w' w.heap.size (fun _ => True) v312 t311) ∧ Aside0 (Below w.heap.size w w'))
        case atStart => exact ⟨(x9_1),(1),(by first | rfl | (simp; done) | (simp [*]; done)),H',⟨Nat.le_refl _⟩,⟨by (with_reducible repeat (first | apply Kd.S_alloc | apply Kd.S_drewN | apply Kd.S_drew)); exact Kd.S_mono HO_7.out (fun _ hk => hk.2)⟩,⟨by (with_reducible repeat (first | apply Kd.R_alloc | apply Kd.R_drewN | apply Kd.R_drew)); exact HO_9.out⟩,⟨by (with_reducible repeat (first | apply Kd.R_alloc | apply Kd.R_drewN | apply Kd.R_drew)); exact HO313.out⟩,⟨by repeat (first | (with_reducible first | exact HB.out | apply zaA | apply bN | apply bD) | exact HB.out)⟩⟩
        case round =>
         clear H'
         try clear c1
         try clear c2
         try clear p2
         try clear c3
         try clear p3
         try clear q3
         try clear hx3
         try clear c4
         try clear c5
         try clear p6
         try clear c7
         try clear c7b0
         try clear c7b1
         try clear c8
         try clear c8b0
         try clear c8b1
         try clear c13
         try clear c14
         try clear c14b0
         try clear c15
         try clear c15b0
         try clear hx310_0
         try clear p2
         try clear p310
         try clear p6
         try clear q310
         obtain ⟨x9_2,x12_2,rfl,HA,HK2,HO_7,HO_9,HO_11,HB⟩:=hrel; cases gk with
         | zero => exact absurd HA.out (by simp [spec_WaitsOf.l1])
         | succ k2 =>
          have H:=HA.out; clear HA; simp only [spec_WaitsOf.l1] at H; by_cases c18 : x12_2 < (t311.length : Int)
          ·
           rw [if_pos c18] at H; have c18b0 : decide (x12_2 < (t311.length : Int)) = true:=decide_eq_true c18; clear c18; obtain ⟨ji19,hji19⟩ : ∃ j_ : Int,(wrap64 (x12_2 - 1)) = j_:=⟨_,rfl⟩
           replace H : (if 0 ≤ (ji19) then (if (ji19) < (t311.length : Int) then (if 0 ≤ x12_2 then (if 0 ≤ (wrap64 ((wrap64 ((rd t311 (ji19)) * (wrap64 ((wrap64 (4 * a0)) * a1)))) + (rd t311 x12_2))) then (if (wrap64 ((wrap64 ((rd t311 (ji19)) * (wrap64 ((wrap64 (4 * a0)) * a1)))) + (rd t311 x12_2))) < (x9_2.length : Int) then (spec_WaitsOf.l1 k2 a0 l2 y303 (wrap64 ((wrap64 (4 * a0)) * a1)) (x9_2.set ((wrap64 ((wrap64 ((rd t311 (ji19)) * (wrap64 ((wrap64 (4 * a0)) * a1)))) + (rd t311 x12_2))) : Int).toNat true) x10_1 t311 (wrap64 (x12_2 + 1))) else (none)) else (none)) else (none)) else (none)) else (none)) = some r:=by first | (rw [hji19] at H; exact H) | (simp only [hji19] at H ⊢; exact H)
           have hji19w : (IntKind.i64.wrap (x12_2 - 1)) = ji19:=(zaP _).trans hji19; by_cases c20 : 0 ≤ (ji19)
           ·
            rw [if_pos c20] at H; have c20b0 : decide (0 ≤ (ji19)) = true:=decide_eq_true c20; clear c20; by_cases c21 : (ji19) < (t311.length : Int)
            ·
             rw [if_pos c21] at H; have c21b0 : decide ((ji19) < (t311.length : Int)) = true:=decide_eq_true c21; clear c21; by_cases c22 : 0 ≤ x12_2
             ·
              rw [if_pos c22] at H; have c22b0 : decide (0 ≤ x12_2) = true:=decide_eq_true c22; clear c22; obtain ⟨ji23,hji23⟩ : ∃ j_ : Int,(wrap64 ((wrap64 ((rd t311 (ji19)) * (wrap64 ((wrap64 (4 * a0)) * a1)))) + (rd t311 x12_2))) = j_:=⟨_,rfl⟩
              replace H : (if 0 ≤ (ji23) then (if (ji23) < (x9_2.length : Int) then (spec_WaitsOf.l1 k2 a0 l2 y303 (wrap64 ((wrap64 (4 * a0)) * a1)) (x9_2.set ((ji23) : Int).toNat true) x10_1 t311 (wrap64 (x12_2 + 1))) else (none)) else (none)) = some r:=by first | (rw [hji23] at H; exact H) | (simp only [hji23] at H ⊢; exact H)
              have hji23w : (IntKind.i64.wrap ((wrap64 ((rd t311 (ji19)) * (wrap64 ((wrap64 (4 * a0)) * a1)))) + (rd t311 x12_2))) = ji23:=(zaP _).trans hji23; by_cases c24 : 0 ≤ (ji23)
              ·
               rw [if_pos c24] at H; have c24b0 : decide (0 ≤ (ji23)) = true:=decide_eq_true c24; clear c24; by_cases c25 : (ji23) < (x9_2.length : Int)
               ·
                rw [if_pos c25] at H; have c25b0 : decide ((ji23) < (x9_2.length : Int)) = true:=decide_eq_true c25; clear c25; obtain ⟨y316,hy316⟩ : ∃ y_ : List Bool,y_ = (x9_2.set ((ji23) : Int).toNat true):=⟨_,rfl⟩
                replace H : (spec_WaitsOf.l1 k2 a0 l2 y303 (wrap64 ((wrap64 (4 * a0)) * a1)) y316 x10_1 t311 (wrap64 (x12_2 + 1))) = some r:=by first | (rw [hy316]; with_reducible exact H) | (have H2_:=(Option.bind_some _ _).symm.trans H; rw [hy316]; with_reducible exact H2_) | (have H2_:=(Option.bind_some _ _).symm.trans H; with_reducible exact H2_) | with_reducible exact H | (rw [hy316]; exact H) | exact H
                have Ny316:=aM hy316; clear hy316; have H':=aM H; clear H; obtain ⟨Ao27,co27,eo27⟩:=Kd.R_slice HO_11.out; subst eo27
                try go_wp2
                have n0_:=aM (Kd.S_drew HO_7.out); have n1_:=aM (Kd.R_drew HO_9.out); have n2_:=aM (Kd.R_drew HO_11.out); have n3_:=aM (bD HB.out); clear HO_7; clear HO_9; clear HO_11; clear HB; have HO_7:=n0_; have HO_9:=n1_; have HO_11:=n2_; have HB:=n3_; clear n0_ n1_ n2_ n3_; have p314 : 0 ≤ ((ji19) : Int):=oD (by assumption); have q314 : (ji19) < (t311.length : Int):=oD (by assumption); obtain ⟨ad314,e314,hx314_0⟩:=Kd.at_int (Kd.R_reads' HO_11.out).2.2 (ji19) p314 q314; cases e314; replace p314:=eq_true p314; replace q314:=eq_true q314; have p315 : 0 ≤ (x12_2 : Int):=oD (by assumption); have q315 : x12_2 < (t311.length : Int):=oD (by assumption); obtain ⟨ad315,e315,hx315_0⟩:=Kd.at_int (Kd.R_reads' HO_11.out).2.2 x12_2 p315 q315; obtain rfl : ad314 = ad315:=(by injection e315); replace p315:=eq_true p315
                replace q315:=eq_true q315; have p26 : 0 ≤ ((ji23) : Int):=oD (by assumption); have q26 : ((ji23) : Int) < ((x9_2.length : Int) : Int):=oD (by assumption); obtain ⟨go26,co26,eo26,gb26,gl26,cl26,HG26⟩:=Kd.R_form HO_9.out (by omega)
                (first | cases eo26 | (injection eo26 with ea_ en_ ec_; (first | subst ea_ | (injection ea_ with ea_; subst ea_)); subst ec_; clear en_))
                have GB26:=aM gb26; have GG26:=aM HG26; clear gb26 gl26 HG26; obtain ⟨hx26_0,hf26_0⟩:=Kd.R_celln false HO_9.out ((ji23) : Int) p26 q26; replace p26:=eq_true p26; replace q26:=eq_true q26; have HP29:=Kd.R_putn HO_9.out ((ji23) : Int) true; rw [← Ny316.out] at HP29; have HQ29:=aM HP29; clear HP29; refine start_ (n:=15) (S:=fun w' => w'.cell? (ad314.add ((ji19)).toNat) = some (.int .i64 (rd t311 (ji19))) ∧ w'.cell? (ad314.add (x12_2).toNat) = some (.int .i64 (rd t311 x12_2))) (ds:=[14]) #[false,false,false,false,false,false,false,false,false,false,false,false,false,false,false] (by kernel_rfl) rfl rfl ⟨hx314_0,hx315_0⟩ (fun hHeld => ?_); refine zbO spec_WaitsOf.tab13 spec_WaitsOf.bits13 (fun HT_ HW_ => ?_); generalize wr.drew = w28 at HO_7 HO_9 HO_11 HB GG26 HQ29 hf26_0 hx26_0 hx314_0 hx315_0 hHeld ⊢
                refine zaQ (i:=0) (N:=some 47) (v:=?_) (a':=?_) #[true,false,false,false,false,false,false,false,false,false,false,false,false,false,false] rfl rfl (zaO HT_.out (by kernel_rfl)) (fun _ _ _ h => h) (Or.inl ⟨by rfl,?_⟩) ?_ ?_; rotate_left
                ·
                 intro w'; go_simp; with_reducible rfl
                rotate_left
                ·
                 simp only [Act.put,sA,sB,sC,zaP]; rfl
                refine zaQ (i:=1) (N:=some 48) (v:=?_) (a':=?_) #[true,true,false,false,false,false,false,false,false,false,false,false,false,false,false] rfl rfl (zaO HT_.out (by kernel_rfl)) (fun _ _ _ h => h) (Or.inl ⟨by rfl,?_⟩) ?_ ?_; rotate_left
                ·
                 intro w'; go_simp; with_reducible rfl
                rotate_left
                ·
                 simp only [Act.put,sA,sB,sC,zaP]; rfl
                refine zaQ (i:=2) (N:=some 49) (v:=?_) (a':=?_) #[true,true,true,false,false,false,false,false,false,false,false,false,false,false,false] rfl rfl (zaO HT_.out (by kernel_rfl)) (fun _ _ _ h => h) (Or.inl ⟨by rfl,?_⟩) ?_ ?_; rotate_left
                ·
                 intro w'; go_simp; with_reducible rfl
                rotate_left
                ·
                 simp only [Act.put,sA,sB,sC,zaP]; rfl
                refine zaQ (i:=3) (N:=some 50) (v:=?_) (a':=?_) #[true,true,true,true,false,false,false,false,false,false,false,false,false,false,false] rfl rfl (zaO HT_.out (by kernel_rfl)) (fun _ _ _ h => h) (Or.inl ⟨by rfl,?_⟩) ?_ ?_; rotate_left
                ·
                 intro w'; go_simp; with_reducible rfl
                rotate_left
                ·
                 simp only [Act.put,sA,sB,sC,zaP]; rfl
                refine zaQ (i:=4) (N:=some 51) (v:=?_) (a':=?_) #[true,true,true,true,true,false,false,false,false,false,false,false,false,false,false] rfl rfl (zaO HT_.out (by kernel_rfl)) (fun _ _ _ h => h) (Or.inl ⟨by rfl,?_⟩) ?_ ?_; rotate_left
                ·
                 intro w'; go_simp; with_reducible rfl
                rotate_left
                ·
                 simp only [Act.put,sA,sB,sC,zaP]; rfl
                refine zaQ (i:=6) (N:=some 53) (v:=?_) (a':=?_) #[true,true,true,true,true,false,true,false,false,false,false,false,false,false,false] rfl rfl (zaO HT_.out (by kernel_rfl)) (fun _ _ _ h => h) (Or.inl ⟨by rfl,?_⟩) ?_ ?_; rotate_left
                ·
                 intro w'; go_simp; with_reducible rfl
                rotate_left
                ·
                 simp only [Act.put,sA,sB,sC,zaP]; rfl
                refine zaQ (i:=8) (N:=some 55) (v:=?_) (a':=?_) #[true,true,true,true,true,false,true,false,true,false,false,false,false,false,false] rfl rfl (zaO HT_.out (by kernel_rfl)) (fun _ _ _ h => h) (Or.inl ⟨by rfl,?_⟩) ?_ ?_; rotate_left
                ·
                 intro w'; go_simp; with_reducible rfl
                rotate_left
                ·
                 simp only [Act.put,sA,sB,sC,zaP]; rfl
                refine zaQ (i:=9) (N:=some 56) (v:=?_) (a':=?_) #[true,true,true,true,true,false,true,false,true,true,false,false,false,false,false] rfl rfl (zaO HT_.out (by kernel_rfl)) (fun _ _ _ h => h) (Or.inl ⟨by rfl,?_⟩) ?_ ?_; rotate_left
                ·
                 intro w'; go_simp; with_reducible rfl
                rotate_left
                ·
                 simp only [Act.put,sA,sB,sC,zaP]; rfl
                refine zaQ (i:=10) (N:=some 57) (v:=?_) (a':=?_) #[true,true,true,true,true,false,true,false,true,true,true,false,false,false,false] rfl rfl (zaO HT_.out (by kernel_rfl)) (fun _ _ _ h => h) (Or.inl ⟨by rfl,?_⟩) ?_ ?_; rotate_left
                ·
                 intro w'; go_simp; with_reducible rfl
                rotate_left
                ·
                 simp only [Act.put,sA,sB,sC,zaP]; rfl
                refine take_ (i:=5) (N:=some 52) (v:=?_) (a':=?_) #[true,true,true,true,true,true,true,false,true,true,true,false,false,false,false] rfl rfl (zaX HT_.out HW_.out (by kernel_rfl)) (fun _ _ _ h => h) (Or.inl ⟨by rfl,?_⟩) hHeld ?_ ?_; rotate_left
                ·
                 rintro w' ⟨s0,s1⟩; go_simp; with_reducible rfl
                rotate_left
                ·
                 simp only [Act.put,sA,sB,sC,zaP]; rfl
                refine zaQ (i:=7) (N:=some 54) (v:=?_) (a':=?_) #[true,true,true,true,true,true,true,true,true,true,true,false,false,false,false] rfl rfl (zaO HT_.out (by kernel_rfl)) (fun _ _ _ h => h) (Or.inl ⟨by rfl,?_⟩) ?_ ?_; rotate_left
                ·
                 intro w'; go_simp; with_reducible rfl
                rotate_left
                ·
                 simp only [Act.put,sA,sB,sC,zaP]; rfl
                refine take_ (i:=11) (N:=some 58) (v:=?_) (a':=?_) #[true,true,true,true,true,true,true,true,true,true,true,true,false,false,false] rfl rfl (zaX HT_.out HW_.out (by kernel_rfl)) (fun _ _ _ h => h) (Or.inl ⟨by rfl,?_⟩) hHeld ?_ ?_; rotate_left
                ·
                 rintro w' ⟨s0,s1⟩; go_simp; with_reducible rfl
                rotate_left
                ·
                 simp only [Act.put,sA,sB,sC,zaP]; rfl
                refine zaQ (i:=12) (N:=some 59) (v:=?_) (a':=?_) #[true,true,true,true,true,true,true,true,true,true,true,true,true,false,false] rfl rfl (zaO HT_.out (by kernel_rfl)) (fun _ _ _ h => h) (Or.inl ⟨by rfl,?_⟩) ?_ ?_; rotate_left
                ·
                 intro w'; go_simp; with_reducible rfl
                rotate_left
                ·
                 simp only [Act.put,sA,sB,sC,zaP]; rfl
                refine zaQ (i:=13) (N:=some 60) (v:=?_) (a':=?_) #[true,true,true,true,true,true,true,true,true,true,true,true,true,true,false] rfl rfl (zaO HT_.out (by kernel_rfl)) (fun _ _ _ h => h) (Or.inl ⟨by rfl,?_⟩) ?_ ?_; rotate_left
                ·
                 intro w'; go_simp; with_reducible rfl
                rotate_left
                ·
                 simp only [Act.put,sA,sB,sC,zaP]; rfl
                refine last_ (i:=14) (N:=none) #[true,true,true,true,true,true,true,true,true,true,true,true,true,true,true] rfl rfl (zbP HT_.out (by kernel_rfl)) (by decide) (fun K hK => ?_); refine skip_ (w1:=?_) (by rfl) rfl ?_ ?_; rotate_left
                ·
                 go_simp; rfl
                refine hK.out _ _ ?_; clear hK K; refine done_ (done_of HT_.out (by kernel_rfl)) ?_
                try go_wp2
                go_roundg k2; case measure => have:=HK1.out; have:=HK2.out; omega
                case rel => exact ⟨(y316),(wrap64 (x12_2 + 1)),(by first | rfl | (simp; done) | (simp [*]; done)),H',⟨by have:=HK1.out; have:=HK2.out; omega⟩,⟨by (with_reducible repeat (first | apply Kd.S_alloc | apply Kd.S_drewN | apply Kd.S_drew)); exact Kd.S_mono (Kd.S_far (p:=⟨go26,((ji23) : Int).toNat,none⟩) (Kd.S_types HO_7.out GG26.out (by decide)) (fun _ hk => hk.2) (.bool true)) (fun _ hk => hk.1)⟩,⟨by (with_reducible repeat (first | apply Kd.R_alloc | apply Kd.R_drewN | apply Kd.R_drew)); exact HQ29.out⟩,⟨by (with_reducible repeat (first | apply Kd.R_alloc | apply Kd.R_drewN | apply Kd.R_drew)); exact Kd.R_mono (Kd.R_far (p:=⟨go26,((ji23) : Int).toNat,none⟩) (Kd.R_types HO_11.out GG26.out (by decide)) (fun _ hk => hk.2) (.bool true)) (fun _ hk => trivial)⟩,⟨by repeat (first | (with_reducible first | exact HB.out | apply zaA | apply bN | apply bD | refine zaB ?_ GB26.out) | exact HB.out)⟩⟩
               ·
                rw [if_neg c25] at H; exact absurd H (by simp)
              ·
               rw [if_neg c24] at H; exact absurd H (by simp)
             ·
              rw [if_neg c22] at H; exact absurd H (by simp)
            ·
             rw [if_neg c21] at H; exact absurd H (by simp)
           ·
            rw [if_neg c20] at H; exact absurd H (by simp)
          ·
           rw [if_neg c18] at H; have c18b0 : decide (x12_2 < (t311.length : Int)) = false:=decide_eq_false c18; clear c18; have H':=aM H; clear H; obtain ⟨Ao30,co30,eo30⟩:=Kd.R_slice HO_11.out; subst eo30; go_wp2; go_roundg k2; case measure => have:=HK1.out; have:=HK2.out; omega
           case rel => exact ⟨(x9_2),(wrap64 (x10_1 + 1)),(by first | rfl | (simp; done) | (simp [*]; done)),H',⟨by have:=HK1.out; have:=HK2.out; omega⟩,⟨by (with_reducible repeat (first | apply Kd.S_alloc | apply Kd.S_drewN | apply Kd.S_drew)); exact Kd.S_mono HO_7.out (fun _ hk => trivial)⟩,⟨by (with_reducible repeat (first | apply Kd.R_alloc | apply Kd.R_drewN | apply Kd.R_drew)); exact HO_9.out⟩,⟨by repeat (first | (with_reducible first | exact HB.out | apply zaA | apply bN | apply bD) | exact HB.out)⟩⟩
       ·
        rw [if_neg c15] at H; exact absurd H (by simp)
      ·
       rw [if_neg c14] at H; have c14b0 : decide (x10_1 < (l2.length : Int)) = false:=decide_eq_false c14; clear c14; have H':=aM H; clear H; go_wp2; go_loopg [7,13] k1 (fun kq v7 v13 w' => ∃ (x7_2 : List (List Int)) (x13_2 : Int),v13 = .int .i64 x13_2 ∧ Aside0 (spec_WaitsOf.l2 kq x7_2 (wrap64 ((wrap64 (4 * a0)) * a1)) x9_1 x13_2 = some r) ∧ Aside0 (kq ≤ k1) ∧ Aside0 (Kd.S (Kd.slice 3 (Kd.int .i64)) 28 w' w.heap.size (fun _ => True) v7 x7_2) ∧ Aside0 (Kd.R Kd.bool 4 w' w.heap.size (fun _ => True) v308 x9_1) ∧ Aside0 (Below w.heap.size w w'))
       case atStart => exact ⟨(y303),(0),(by first | rfl | (simp; done) | (simp [*]; done)),H',⟨Nat.le_refl _⟩,⟨by (with_reducible repeat (first | apply Kd.S_alloc | apply Kd.S_drewN | apply Kd.S_drew)); exact HO_7.out⟩,⟨by (with_reducible repeat (first | apply Kd.R_alloc | apply Kd.R_drewN | apply Kd.R_drew)); exact HO_9.out⟩,⟨by repeat (first | (with_reducible first | exact HB.out | apply zaA | apply bN | apply bD) | exact HB.out)⟩⟩
       case round =>
        clear H'
        try clear c1
        try clear c2
        try clear p2
        try clear q2
        try clear hx2
        try clear c3
        try clear p3
        try clear q3
        try clear hx3
        try clear c4
        try clear c5
        try clear p6
        try clear c7
        try clear c7b0
        try clear c7b1
        try clear c8
        try clear c8b0
        try clear c8b1
        try clear c13
        try clear c14
        try clear c14b0
        try clear c15
        try clear c15b0
        try clear c18
        try clear c18b0
        try clear c20
        try clear c20b0
        try clear c21
        try clear c21b0
        try clear c22
        try clear c22b0
        try clear c24
        try clear c24b0
        try clear c25
        try clear c25b0
        try clear p26
        try clear q26
        try clear hx26
        try clear hf26
        try clear hx26_0
        try clear hx310_0
        try clear hx314_0
        try clear hx315_0
        try clear p2
        try clear p26
        try clear p3
        try clear p310
        try clear p314
        try clear p315
        try clear p6
        try clear q26
        try clear q3
        try clear q310
        try clear q314
        try clear q315
        obtain ⟨x7_2,x13_2,rfl,HA,HK2,HO_7,HO_9,HB⟩:=hrel; cases gk with
        | zero => exact absurd HA.out (by simp [spec_WaitsOf.l2])
        | succ k2 =>
         have H:=HA.out; clear HA; simp only [spec_WaitsOf.l2] at H; by_cases c31 : x13_2 < (wrap64 ((wrap64 ((wrap64 (4 * a0)) * a1)) * (wrap64 ((wrap64 (4 * a0)) * a1))))
         ·
          rw [if_pos c31] at H; have c31b0 : decide (x13_2 < (wrap64 ((wrap64 ((wrap64 (4 * a0)) * a1)) * (wrap64 ((wrap64 (4 * a0)) * a1))))) = true:=decide_eq_true c31; (try have c31b9 : decide (x13_2 < ji6) = true:=by rw [← hji6]; exact c31b0); clear c31; by_cases c32 : 0 ≤ x13_2
          ·
           rw [if_pos c32] at H; have c32b0 : decide (0 ≤ x13_2) = true:=decide_eq_true c32; clear c32; by_cases c33 : x13_2 < (x9_1.length : Int)
           ·
            rw [if_pos c33] at H; have c33b0 : decide (x13_2 < (x9_1.length : Int)) = true:=decide_eq_true c33; clear c33; obtain ⟨bq34,hbq34⟩ : ∃ b_ : Bool,b_ = (rdOf false x9_1 x13_2):=⟨_,rfl⟩
            replace H : (if bq34 = true then (if (wrap64 ((wrap64 (4 * a0)) * a1)) = 0 then (none) else (if x7_2.length < 5864062014805 then (spec_WaitsOf.l2 k2 (x7_2 ++ [(([wrap64 (Int.tdiv x13_2 (wrap64 ((wrap64 (4 * a0)) * a1))),Int.tmod x13_2 (wrap64 ((wrap64 (4 * a0)) * a1))] : List Int))]) (wrap64 ((wrap64 (4 * a0)) * a1)) x9_1 (wrap64 (x13_2 + 1))) else (none))) else (spec_WaitsOf.l2 k2 x7_2 (wrap64 ((wrap64 (4 * a0)) * a1)) x9_1 (wrap64 (x13_2 + 1)))) = some r:=by rw [← hbq34] at H; exact H
            have Nbq34:=aM hbq34; clear hbq34; by_cases c35 : bq34 = true
            ·
             subst c35; have H1 : (if (wrap64 ((wrap64 (4 * a0)) * a1)) = 0 then (none) else (if x7_2.length < 5864062014805 then (spec_WaitsOf.l2 k2 (x7_2 ++ [(([wrap64 (Int.tdiv x13_2 (wrap64 ((wrap64 (4 * a0)) * a1))),Int.tmod x13_2 (wrap64 ((wrap64 (4 * a0)) * a1))] : List Int))]) (wrap64 ((wrap64 (4 * a0)) * a1)) x9_1 (wrap64 (x13_2 + 1))) else (none))) = some r:=by rw [if_pos rfl] at H; exact H
             clear H; have H:=H1; clear H1; by_cases c36 : (wrap64 ((wrap64 (4 * a0)) * a1)) = 0
             ·
              rw [if_pos c36] at H; exact absurd H (by simp)
             ·
              rw [if_neg c36] at H; have c36b0 : ((wrap64 ((wrap64 (4 * a0)) * a1)) == 0) = false:=beq_eq_false_iff_ne.mpr c36; have c36b1 : ((wrap64 ((wrap64 (4 * a0)) * a1)) != 0) = true:=bne_iff_ne.mpr c36; obtain ⟨y318,hy318⟩ : ∃ y_ : List Int,y_ = (([wrap64 (Int.tdiv x13_2 (wrap64 ((wrap64 (4 * a0)) * a1))),Int.tmod x13_2 (wrap64 ((wrap64 (4 * a0)) * a1))] : List Int)):=⟨_,rfl⟩
              replace H : (if x7_2.length < 5864062014805 then (spec_WaitsOf.l2 k2 (x7_2 ++ [y318]) (wrap64 ((wrap64 (4 * a0)) * a1)) x9_1 (wrap64 (x13_2 + 1))) else (none)) = some r:=by first | (rw [hy318]; with_reducible exact H) | (have H2_:=(Option.bind_some _ _).symm.trans H; rw [hy318]; with_reducible exact H2_) | (have H2_:=(Option.bind_some _ _).symm.trans H; with_reducible exact H2_) | with_reducible exact H | (rw [hy318]; exact H) | exact H
              have Ny318:=aM hy318; clear hy318; by_cases c37 : x7_2.length < 5864062014805
              ·
               rw [if_pos c37] at H; have LMc37:=aM c37; clear c37; obtain ⟨y321,hy321⟩ : ∃ y_ : List (List Int),y_ = (x7_2 ++ [y318]):=⟨_,rfl⟩
               replace H : (spec_WaitsOf.l2 k2 y321 (wrap64 ((wrap64 (4 * a0)) * a1)) x9_1 (wrap64 (x13_2 + 1))) = some r:=by first | (rw [hy321]; with_reducible exact H) | (have H2_:=(Option.bind_some _ _).symm.trans H; rw [hy321]; with_reducible exact H2_) | (have H2_:=(Option.bind_some _ _).symm.trans H; with_reducible exact H2_) | with_reducible exact H | (rw [hy321]; exact H) | exact H
               have Ny321:=aM hy321; clear hy321; have H':=aM H; clear H; obtain ⟨Ao38,co38,eo38⟩:=Kd.R_slice HO_9.out; subst eo38; have p317 : 0 ≤ (x13_2 : Int):=oD (by assumption); have q317 : x13_2 < (x9_1.length : Int):=oD (by assumption); obtain ⟨ad317,e317,hx317_0⟩:=Kd.at_bool (Kd.R_reads' HO_9.out).2.2 x13_2 p317 q317; (try rw [← Nbq34.out] at hx317_0); cases e317; replace p317:=eq_true p317; replace q317:=eq_true q317
               try go_wp2
               have n0_:=aM (Kd.S_drew HO_7.out); have n1_:=aM (Kd.R_drew HO_9.out); have n2_:=aM (bD HB.out); clear HO_7; clear HO_9; clear HB; have HO_7:=n0_; have HO_9:=n1_; have HB:=n2_; clear n0_ n1_ n2_; refine start_ (n:=11) (S:=fun w' => True) (ds:=[]) #[false,false,false,false,false,false,false,false,false,false,false] (by kernel_rfl) rfl rfl trivial (fun hHeld => ?_); refine zbO spec_WaitsOf.tab18 spec_WaitsOf.bits18 (fun HT_ HW_ => ?_); generalize wr.drew = w39 at HO_7 HO_9 HB hHeld ⊢; refine zaQ (i:=0) (N:=some 72) (v:=?_) (a':=?_) #[true,false,false,false,false,false,false,false,false,false,false] rfl rfl (zaO HT_.out (by kernel_rfl)) (fun _ _ _ h => h) (Or.inl ⟨by rfl,?_⟩) ?_ ?_; rotate_left
               ·
                intro w'; go_simp; with_reducible rfl
               rotate_left
               ·
                simp only [Act.put,sA,sB,sC,zaP]; rfl
               refine zaQ (i:=1) (N:=some 73) (v:=?_) (a':=?_) #[true,true,false,false,false,false,false,false,false,false,false] rfl rfl (zaO HT_.out (by kernel_rfl)) (fun _ _ _ h => h) (Or.inl ⟨by rfl,?_⟩) ?_ ?_; rotate_left
               ·
                intro w'; go_simp; with_reducible rfl
               rotate_left
               ·
                simp only [Act.put,sA,sB,sC,zaP]; rfl
               refine zaQ (i:=2) (N:=some 74) (v:=?_) (a':=?_) #[true,true,true,false,false,false,false,false,false,false,false] rfl rfl (zaO HT_.out (by kernel_rfl)) (fun _ _ _ h => h) (Or.inl ⟨by rfl,?_⟩) ?_ ?_; rotate_left
               ·
                intro w'; go_simp; with_reducible rfl
               rotate_left
               ·
                simp only [Act.put,sA,sB,sC,zaP]; rfl
               refine zaQ (i:=3) (N:=some 75) (v:=?_) (a':=?_) #[true,true,true,true,false,false,false,false,false,false,false] rfl rfl (zaO HT_.out (by kernel_rfl)) (fun _ _ _ h => h) (Or.inl ⟨by rfl,?_⟩) ?_ ?_; rotate_left
               ·
                intro w'; go_simp; with_reducible rfl
               rotate_left
               ·
                simp only [Act.put,sA,sB,sC,zaP]; rfl
               refine zaQ (i:=4) (N:=some 76) (v:=?_) (a':=?_) #[true,true,true,true,true,false,false,false,false,false,false] rfl rfl (zaO HT_.out (by kernel_rfl)) (fun _ _ _ h => h) (Or.inl ⟨by rfl,?_⟩) ?_ ?_; rotate_left
               ·
                intro w'; go_simp; with_reducible rfl
               rotate_left
               ·
                simp only [Act.put,sA,sB,sC,zaP]; rfl
               refine zaQ (i:=5) (N:=some 77) (v:=?_) (a':=?_) #[true,true,true,true,true,true,false,false,false,false,false] rfl rfl (zaO HT_.out (by kernel_rfl)) (fun _ _ _ h => h) (Or.inl ⟨by rfl,?_⟩) ?_ ?_; rotate_left
               ·
                intro w'; go_simp; with_reducible rfl
               rotate_left
               ·
                simp only [Act.put,sA,sB,sC,zaP]; rfl
               refine zaQ (i:=6) (N:=some 78) (v:=?_) (a':=?_) #[true,true,true,true,true,true,true,false,false,false,false] rfl rfl (zaO HT_.out (by kernel_rfl)) (fun _ _ _ h => h) (Or.inl ⟨by rfl,?_⟩) ?_ ?_; rotate_left
               ·
                intro w'; go_simp; with_reducible rfl
               rotate_left
               ·
                simp only [Act.put,sA,sB,sC,zaP]; rfl
               refine one_ (i:=7) (N:=some 79) #[true,true,true,true,true,true,true,true,false,false,false] rfl rfl (zbP HT_.out (by kernel_rfl)) (by decide) (fun K hK => ?_)
               refine Kd.R_lit_step (Kd.int .i64) _ 3 ?hg (N:=79) ?hd (xs:=([wrap64 (Int.tdiv x13_2 (wrap64 ((wrap64 (4 * a0)) * a1))),Int.tmod x13_2 (wrap64 ((wrap64 (4 * a0)) * a1))] : List Int)) (inner:=[.int .i64 (wrap64 (Int.tdiv x13_2 (wrap64 ((wrap64 (4 * a0)) * a1)))),.int .i64 (Int.tmod x13_2 (wrap64 ((wrap64 (4 * a0)) * a1)))]) (ok:=fun _ => True) (okp:=fun _ => True) ?hr ?hp (fun _ hk => hk) trivial (Below.refl _ _) (Nat.le_refl _) (by simp) ?_; (case hd => rfl); (case hg => rfl); (case hr => first | (go_simp; done) | (go_simp; rfl)); (case hp => exact (Reps.one (show Kd.M (Kd.int .i64) _ _ _ (wrap64 (Int.tdiv x13_2 (wrap64 ((wrap64 (4 * a0)) * a1)))) [.int .i64 (wrap64 (Int.tdiv x13_2 (wrap64 ((wrap64 (4 * a0)) * a1))))] from rfl) (Reps.one (show Kd.M (Kd.int .i64) _ _ _ (Int.tmod x13_2 (wrap64 ((wrap64 (4 * a0)) * a1))) [.int .i64 (Int.tmod x13_2 (wrap64 ((wrap64 (4 * a0)) * a1)))] from rfl) (Reps.none _ _))))
               intro v319 w40 ho41 hb hg_ hnew_; clear hg_ hnew_
               (first | rw [← Ny318.out] at ho41 | (simp only [Int.reduceToNat] at ho41; rw [← Ny318.out] at ho41))
               have n0_:=aM (Kd.S_elder' (by (with_reducible repeat (first | apply Kd.S_alloc | apply Kd.S_drewN | apply Kd.S_drew)); exact HO_7.out) (Kd.R_base ho41) hb); have n1_:=aM (Kd.R_below (by (with_reducible repeat (first | apply Kd.R_alloc | apply Kd.R_drewN | apply Kd.R_drew)); exact HO_9.out) hb); have n2_:=aM (Kd.R_lower ho41 (zaK (by repeat (first | (with_reducible first | exact HB.out | apply zaA | apply bN | apply bD) | exact HB.out)))); have n3_:=aM (zaJ (by repeat (first | (with_reducible first | exact HB.out | apply zaA | apply bN | apply bD) | exact HB.out)) hb); clear HO_7; clear HO_9; clear HB; have HO_7:=n0_; have HO_9:=n1_; have HO320:=n2_; have HB:=n3_; clear n0_ n1_ n2_ n3_; clear hb ho41; obtain ⟨Ao43,co43,eo43⟩:=Kd.R_slice HO320.out
               (first | subst eo43 | (injection eo43 with f1_ f2_ f3_; have f4_:=f1_.symm; have f5_:=f3_.symm; clear f1_ f2_ f3_; subst f4_; subst f5_))
               refine hK.out _ _ trivial (fun hHeld => ?_); clear hK K; refine norm_ (a':=?_) ?_ ?_; rotate_left
               ·
                show Act.put _ (some 79) _ = _
                simp only [Act.put,sA,sB,sC,zaP]; rfl
               refine one_ (i:=8) (N:=some 80) #[true,true,true,true,true,true,true,true,true,false,false] rfl rfl (zbP HT_.out (by kernel_rfl)) (by decide) (fun K hK => ?_); refine value_ (w1:=?_) (v:=?_) (by rfl) rfl ?_ ?_; rotate_left 2
               ·
                go_simp
                constructor
                ·
                 rfl
                ·
                 rfl
               refine hK.out _ _ trivial (fun hHeld => ?_); clear hK K; refine norm_ (a':=?_) ?_ ?_; rotate_left
               ·
                show Act.put _ (some 80) _ = _
                simp only [Act.put,sA,sB,sC,zaP]; rfl
               refine one_ (i:=9) (N:=some 81) #[true,true,true,true,true,true,true,true,true,true,false] rfl rfl (zbP HT_.out (by kernel_rfl)) (by decide) (fun K hK => ?_); refine Kd.S_append_step (Kd.slice 3 (Kd.int .i64)) (w0:=w) w.heap.size (by rfl) (.tmp 72) (.tmp 80) 23 28 (.slice none 0 0) 24 rfl Try.underlying23 info28 rfl (by decide) (by omega) u7 x7_2 y318 [.slice Ao43 y318.length co43] (fun _ => True) (fun k_ => some k_ = (.slice Ao43 y318.length co43 : Value).ownBlock) rfl rfl ?aP (fun k_ hk_ => ((Kd.R_mono (ok':=fun k_ => ((fun _ => True)) k_ ∧ some k_ ≠ (u7 : Value).ownBlock) (Kd.R_apart' (HO320.out) (Kd.S_typed HO_7.out) (by decide)) (fun k_ hk => ⟨trivial,hk.2⟩))).1 k_ hk_.symm) ?aF ?aO ?aB ?aS ?aL ?_
               (case aP => exact Kd.M_row (Kd.R_mono (Kd.R_tight rfl (Kd.R_mono (ok':=fun k_ => ((fun _ => True)) k_ ∧ some k_ ≠ (u7 : Value).ownBlock) (Kd.R_apart' (HO320.out) (Kd.S_typed HO_7.out) (by decide)) (fun k_ hk => ⟨trivial,hk.2⟩))) (fun _ h_ => h_)))
               (case aB => exact (by repeat (first | (with_reducible first | exact HB.out | apply zaA | apply bN | apply bD) | exact HB.out)))
               (case aF => exact (fun _ _ => trivial))
               (case aO => exact (by (with_reducible repeat (first | apply Kd.S_alloc | apply Kd.S_drewN | apply Kd.S_drew)); exact Kd.S_mono HO_7.out (fun k_ hk => ⟨trivial,fun e_ => hk.2 e_⟩)))
               (case aS => exact (zaK (by repeat (first | (with_reducible first | exact HB.out | apply zaA | apply bN | apply bD) | exact HB.out))))
               (case aL => have:=LMc37.out; omega)
               intro v322 w42 ho hb hg hat; rw [← Ny321.out] at ho; have n0_:=aM (Kd.R_over' (by (with_reducible repeat (first | apply Kd.R_alloc | apply Kd.R_drewN | apply Kd.R_drew)); exact HO_9.out) (Kd.S_typed (by (with_reducible repeat (first | apply Kd.S_alloc | apply Kd.S_drewN | apply Kd.S_drew)); exact HO_7.out)) (by decide) hg); have n1_:=aM (hb); have n2_:=aM (ho); clear HO_9; clear HB; clear HO_7; clear HO320; have HO_9:=n0_; have HB:=n1_; have HO323:=n2_; clear n0_ n1_ n2_; clear ho hb hg hat; refine hK.out _ _ trivial (fun hHeld => ?_); clear hK K; refine norm_ (a':=?_) ?_ ?_; rotate_left
               ·
                show Act.put _ (some 81) _ = _
                simp only [Act.put,sA,sB,sC,zaP]; rfl
               refine zaQ (i:=10) (N:=some 7) (v:=?_) (a':=?_) #[true,true,true,true,true,true,true,true,true,true,true] rfl rfl (zaO HT_.out (by kernel_rfl)) (fun _ _ _ h => h) (Or.inl ⟨by rfl,?_⟩) ?_ ?_; rotate_left
               ·
                intro w'; go_simp; with_reducible rfl
               rotate_left
               ·
                simp only [Act.put,sA,sB,sC,zaP]; rfl
               refine done_ (done_of HT_.out (by kernel_rfl)) ?_
               try go_wp2
               go_roundg k2; case measure => have:=HK1.out; have:=HK2.out; omega
               case rel => exact ⟨(y321),(wrap64 (x13_2 + 1)),(by first | rfl | (simp; done) | (simp [*]; done)),H',⟨by have:=HK1.out; have:=HK2.out; omega⟩,⟨by (with_reducible repeat (first | apply Kd.S_alloc | apply Kd.S_drewN | apply Kd.S_drew)); exact HO323.out⟩,⟨by (with_reducible repeat (first | apply Kd.R_alloc | apply Kd.R_drewN | apply Kd.R_drew)); exact HO_9.out⟩,⟨by repeat (first | (with_reducible first | exact HB.out | apply zaA | apply bN | apply bD) | exact HB.out)⟩⟩
              ·
               rw [if_neg c37] at H; exact absurd H (by simp)
            ·
             replace c35:=Bool.eq_false_iff.mpr c35; subst c35; have H1 : (spec_WaitsOf.l2 k2 x7_2 (wrap64 ((wrap64 (4 * a0)) * a1)) x9_1 (wrap64 (x13_2 + 1))) = some r:=by rw [if_neg (show ¬ (false = true) by decide)] at H; exact H
             clear H; have H:=H1; clear H1; have H':=aM H; clear H; obtain ⟨Ao44,co44,eo44⟩:=Kd.R_slice HO_9.out; subst eo44; have p317 : 0 ≤ (x13_2 : Int):=oD (by assumption); have q317 : x13_2 < (x9_1.length : Int):=oD (by assumption); obtain ⟨ad317,e317,hx317_0⟩:=Kd.at_bool (Kd.R_reads' HO_9.out).2.2 x13_2 p317 q317; (try rw [← Nbq34.out] at hx317_0); cases e317; replace p317:=eq_true p317; replace q317:=eq_true q317; go_wp2; go_roundg k2; case measure => have:=HK1.out; have:=HK2.out; omega
             case rel => exact ⟨(x7_2),(wrap64 (x13_2 + 1)),(by first | rfl | (simp; done) | (simp [*]; done)),H',⟨by have:=HK1.out; have:=HK2.out; omega⟩,⟨by (with_reducible repeat (first | apply Kd.S_alloc | apply Kd.S_drewN | apply Kd.S_drew)); exact HO_7.out⟩,⟨by (with_reducible repeat (first | apply Kd.R_alloc | apply Kd.R_drewN | apply Kd.R_drew)); exact HO_9.out⟩,⟨by repeat (first | (with_reducible first | exact HB.out | apply zaA | apply bN | apply bD) | exact HB.out)⟩⟩
           ·
            rw [if_neg c33] at H; exact absurd H (by simp)
          ·
           rw [if_neg c32] at H; exact absurd H (by simp)
         ·
          rw [if_neg c31] at H; have c31b0 : decide (x13_2 < (wrap64 ((wrap64 ((wrap64 (4 * a0)) * a1)) * (wrap64 ((wrap64 (4 * a0)) * a1))))) = false:=decide_eq_false c31; (try have c31b9 : decide (x13_2 < ji6) = false:=by rw [← hji6]; exact c31b0); clear c31; obtain rfl:=Option.some.inj H; go_wp2; go_ret; exact ⟨_,by first | rfl | (simp [errW_none,errW_some] <;> rfl) | (simp only [← hji6]; first | rfl | (simp [errW_none,errW_some] <;> rfl)) | (simp [*,errW_none,errW_some] <;> rfl),by (with_reducible repeat (first | apply Kd.S_alloc | apply Kd.S_drewN | apply Kd.S_drew)); exact HO_7.out,by repeat (first | (with_reducible first | exact HB.out | apply zaA | apply bN | apply bD) | exact HB.out)⟩
   ·
    rw [if_neg c8] at H; exact absurd H (by simp)
  ·
   rw [if_neg c7] at H; exact absurd H (by simp)
 ·
  replace c5:=Bool.eq_false_iff.mpr c5; subst c5; have H1 : (some y303) = some r:=by rw [if_neg (show ¬ (false = true) by decide)] at H; exact H
  clear H; have H:=H1; clear H1; obtain rfl:=Option.some.inj H; go_enter Try.func13,Try.ntmps13
  go_wp2_with (first | ((with_reducible refine zaS (N:=14) rfl ?_); refine Kd.S_lit (Kd.slice 3 (Kd.int .i64)) _ 28 ?hg (N:=14) ?hd (xs:=([] : List (List Int))) (inner:=[]) (ok:=fun _ => True) (okp:=fun _ => True) ?hr ?hp (fun _ hk => hk) trivial (Below.refl _ _) (Nat.le_refl _) (by simp) ?_; (case hd => rfl); (case hg => rfl); (case hr => first | (go_simp; done) | (go_simp; rfl)); (case hp => exact (Reps.none _ _)); intro v304 w45 ho46 hb hg_ hnew_; clear hg_ hnew_; (first | rw [← Ny303.out] at ho46 | (simp only [Int.reduceToNat] at ho46; rw [← Ny303.out] at ho46)); have n0_:=aM (Kd.S_lower ho46 (zaK (by repeat (first | (with_reducible first | exact HB.out | apply zaA | apply bN | apply bD) | exact HB.out)))); have n1_:=aM (zaJ (by repeat (first | (with_reducible first | exact HB.out | apply zaA | apply bN | apply bD) | exact HB.out)) hb); clear HB; have HO305:=n0_; have HB:=n1_; clear n0_ n1_; clear hb ho46) | ((with_reducible refine zaI (f:=40) rfl ?_); refine zaR (some 18) rfl rfl Try.func40 (by kernel_rfl) rfl #[.int .i64 a0,.int .i64 a1,.slice A2 l2.length c2] rfl (by (try simp only [mA,mB,mC]); first | done | rfl | (simp only [mE,mD]; rfl)) ?_; (with_reducible refine (spec_l16Ways.calls k a0 a1 _ _ l2 false _ ?side1 ?side2 A4.out).mono ?_); (case side1 => repeat (first | exact (Kd.C_below HR2.out HB.out) | (with_reducible refine Kd.C_alloc ?_ _) | (with_reducible refine Kd.C_drewN ?_ _) | (with_reducible refine Kd.C_drew ?_))); (case side2 => exact HC2.out); rintro e w47 ⟨rfl,hb⟩; refine ⟨_,rfl,?_⟩; have n0_:=aM (Kd.S_below (by (with_reducible repeat (first | apply Kd.S_alloc | apply Kd.S_drewN | apply Kd.S_drew)); exact HO305.out) hb); have n1_:=aM (zaJ (by repeat (first | (with_reducible first | exact HB.out | apply zaA | apply bN | apply bD) | exact HB.out)) hb); clear HO305; clear HB; have HO305:=n0_; have HB:=n1_; clear n0_ n1_; (try clear hb); (try clear hb2); (try clear hk); (try clear hi)))
  go_ret; exact ⟨_,by first | rfl | (simp [*] <;> rfl),by (with_reducible repeat (first | apply Kd.S_alloc | apply Kd.S_drewN | apply Kd.S_drew)); exact HO305.out,by repeat (first | (with_reducible first | exact HB.out | apply zaA | apply bN | apply bD) | exact HB.out)⟩
end Go.Proofs.Ytdbokdodjekchaa.PFnRouteNoRound
