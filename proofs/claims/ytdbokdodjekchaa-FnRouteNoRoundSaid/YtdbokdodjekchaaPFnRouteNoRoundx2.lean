/- What the Go functions that this law reaches answer, function by function; conditions: those that each contract names. Made for this claim by a program of this session (wip/myprint) over the kit's print. -/
import Derived.Test.YtdbokdodjekchaaPFnRouteNoRoundx0
import Derived.Test.YtdbokdodjekchaaPFnRouteNoRoundx1
namespace Go.Proofs.Ytdbokdodjekchaa.PFnRouteNoRound
open Go.RowKit Go.Proofs.YtdbokdodjekchaaW.PrintWords Go.Proofs.YtdbokdodjekchaaW.PrintLast Go.Proofs.YtdbokdodjekchaaW.PrintMore
attribute [local go_sem] zbL zbJ max_two min_two zbF zbE zbK zbI   -- for this text's walks alone
set_option linter.unusedVariables false
set_option linter.unusedSimpArgs false
mutual
def impl_fabric_way.j0 : Nat → List Int → Bool → Int → Int → Option (Bool)
 | 0,_,_,_,_ => none
 | k + 1,x1,x16,x108000,x108001 => if x16 = true then (some false) else (impl_fabric_way.l0 k x1 1 x108000 x108001)
def impl_fabric_way.l0 : Nat → List Int → Int → Int → Int → Option (Bool)
 | 0,_,_,_,_ => none
 | k + 1,x1,x5,x108000,x108001 => if x5 < (x1.length : Int) then (if 0 ≤ (wrap64 (x5 - 1)) then (if (wrap64 (x5 - 1)) < (x1.length : Int) then (if 0 ≤ x5 then ((impl_fabric_wire.f x108000 x108001 (rd x1 (wrap64 (x5 - 1))) (rd x1 x5)).bind fun t112 => (if t112 < 0 then (some false) else (impl_fabric_way.l0 k x1 (wrap64 (x5 + 1)) x108000 x108001))) else (none)) else (none)) else (none)) else (some true)
end
def impl_fabric_way.f (k : Nat) (a0_0 : Int) (a0_1 : Int) (l1 : List Int) : Option (Bool):=(impl_within.f (l1.length : Int) 1 30).bind fun t108 => (if t108 = true then ((all_impl_fabric_node.f l1 a0_0 a0_1).bind fun t109 => (impl_fabric_way.j0 k l1 (!t109) a0_0 a0_1)) else (impl_fabric_way.j0 k l1 true a0_0 a0_1))
theorem impl_fabric_way.mono_l : ∀ k,(∀ y0 y1 y2 y3,LeO (impl_fabric_way.j0 k y0 y1 y2 y3) (impl_fabric_way.j0 (k + 1) y0 y1 y2 y3)) ∧ (∀ y0 y1 y2 y3,LeO (impl_fabric_way.l0 k y0 y1 y2 y3) (impl_fabric_way.l0 (k + 1) y0 y1 y2 y3))
 | 0 => ⟨fun _ _ _ _ r h => by simp [impl_fabric_way.j0] at h,fun _ _ _ _ r h => by simp [impl_fabric_way.l0] at h⟩
 | k + 1 => by
  obtain ⟨ih0,ih1⟩:=impl_fabric_way.mono_l k; refine ⟨?_,?_⟩
  ·
   intro y0 y1 y2 y3; unfold impl_fabric_way.j0
   repeat' first
   | (with_reducible exact ih0 _ _ _ _)
   | (with_reducible exact ih1 _ _ _ _)
   | (with_reducible exact LeO.refl _)
   | (with_reducible exact LeO.none _)
   | (with_reducible refine LeO.ite ?_ ?_)
   | (with_reducible refine LeO.bind ?_ (fun _ => ?_))
   | exact ih0 _ _ _ _
   | exact ih1 _ _ _ _
   | exact LeO.none _
   | refine LeO.ite ?_ ?_
   | refine LeO.bind ?_ (fun _ => ?_)
  ·
   intro y0 y1 y2 y3; unfold impl_fabric_way.l0
   repeat' first
   | (with_reducible exact ih0 _ _ _ _)
   | (with_reducible exact ih1 _ _ _ _)
   | (with_reducible exact LeO.refl _)
   | (with_reducible exact LeO.none _)
   | (with_reducible refine LeO.ite ?_ ?_)
   | (with_reducible refine LeO.bind ?_ (fun _ => ?_))
   | exact ih0 _ _ _ _
   | exact ih1 _ _ _ _
   | exact LeO.none _
   | refine LeO.ite ?_ ?_
   | refine LeO.bind ?_ (fun _ => ?_)
theorem impl_fabric_way.mono : ∀ a0 a1 a2 k,LeO (impl_fabric_way.f k a0 a1 a2) (impl_fabric_way.f (k + 1) a0 a1 a2):=by
 intro a0 a1 a2 k; obtain ⟨ih0,ih1⟩:=impl_fabric_way.mono_l k; unfold impl_fabric_way.f
 repeat' first
   | (with_reducible exact ih0 _ _ _ _)
   | (with_reducible exact ih1 _ _ _ _)
   | (with_reducible exact LeO.refl _)
   | (with_reducible exact LeO.none _)
   | (with_reducible refine LeO.ite ?_ ?_)
   | (with_reducible refine LeO.bind ?_ (fun _ => ?_))
   | exact ih0 _ _ _ _
   | exact ih1 _ _ _ _
   | exact LeO.none _
   | refine LeO.ite ?_ ?_
   | refine LeO.bind ?_ (fun _ => ?_)
def impl_fabric_way.T6 : Bool × List (List Nat × List Nat):=(true,[([],[]),([],[]),([],[]),([2],[2]),([1,3],[1,3]),([4],[4]),([],[]),([],[]),([6,7],[6,7]),([8],[8]),([0,5,9],[0,5,9]),([10],[10])])
def impl_fabric_way.B6 : List Nat:=[0,0,0,4,14,30,0,0,192,448,1023,2047]
theorem impl_fabric_way.tab6 : rtab .any (opsOf Try.f52 6) = impl_fabric_way.T6:=by kernel_rfl
theorem impl_fabric_way.bits6 : waitsOk impl_fabric_way.T6.2 impl_fabric_way.B6 = true:=by kernel_rfl
set_option maxHeartbeats 8000000 in
set_option maxRecDepth 100000 in
theorem impl_fabric_way.calls (k : Nat) (a0_0 : Int) (a0_1 : Int) (A1 : Option Addr) (c1 : Nat) (l1 : List Int) (r : Bool) (w : World) (hr1 : Kd.C (Kd.int .i64) w A1 l1.length l1) (hc1 : l1.length ≤ c1) (h : impl_fabric_way.f k a0_0 a0_1 l1 = some r) :
  Calls Try.prog 52 #[.agg #[.int .i64 a0_0,.int .i64 a0_1],.slice A1 l1.length c1] w fun e w' => e = .returned (.bool r) ∧ Below w.heap.size w w':=by
 have hu50:=Try.underlying50; have HR1:=aM hr1; have HC1:=aM hc1; clear hr1 hc1; have HB:=aM (Below.refl w.heap.size w); have H : ((impl_within.f (l1.length : Int) 1 30).bind fun t108 => (if t108 = true then ((all_impl_fabric_node.f l1 a0_0 a0_1).bind fun t109 => (impl_fabric_way.j0 k l1 (!t109) a0_0 a0_1)) else (impl_fabric_way.j0 k l1 true a0_0 a0_1))) = some r:=h; clear h; have HC3:=aM H; clear H; go_enter Try.func52,Try.ntmps52
 go_upto_region 1 with (first | ((with_reducible refine zaS (N:=2) rfl ?_); refine zaY ?hg (N:=2) ?hd (cs:=#[.int .i64 a0_0,.int .i64 a0_1]) (t:=50) ?hr ?_; (case hd => rfl); (case hg => rfl); (case hr => first | (go_simp; done) | (go_simp; rfl)); intro gb107 hg w4 hbox hb; have n0_:=aM (zaJ (by repeat (first | (with_reducible first | exact HB.out | apply zaA | apply bN | apply bD) | exact HB.out)) hb); have n1_:=aM (hbox); have n2_:=aM ((by rw [hg]; exact (zaK (by repeat (first | (with_reducible first | exact HB.out | apply zaA | apply bN | apply bD) | exact HB.out))) : w.heap.size ≤ gb107)); have n3_:=aM ((by rw [hg]; exact (zaK (by repeat (first | (with_reducible first | exact HB.out | apply zaA | apply bN | apply bD) | exact HB.out))) : w.heap.size ≤ gb107)); clear HB; have HB:=n0_; have BK107:=n1_; have GW107:=n2_; have GE107:=n3_; clear n0_ n1_ n2_ n3_; clear hb hbox hg))
 (try simp only [Act.put,sA,sB,sC]); go_cut [16] (fun v16 wc => ∃ (kq : Nat) (x16_2 : Bool),v16 = .bool x16_2 ∧ Aside0 (impl_fabric_way.j0 kq l1 x16_2 a0_0 a0_1 = some r) ∧ Aside0 (kq ≤ k) ∧ Aside0 (wc.heap[gb107]? = some (.cells #[.int .i64 a0_0,.int .i64 a0_1] 50 (0,0))) ∧ Aside0 (Below w.heap.size w wc)); case first =>
  have H:=HC3.out; clear HC3; replace H:=bE H; obtain ⟨t108,A50,H⟩:=H; replace H : (if t108 = true then ((all_impl_fabric_node.f l1 a0_0 a0_1).bind fun t109 => (impl_fabric_way.j0 k l1 (!t109) a0_0 a0_1)) else (impl_fabric_way.j0 k l1 true a0_0 a0_1)) = some r:=H; have A5:=aM A50; clear A50; by_cases c6 : t108 = true
  ·
   subst c6; have H1 : ((all_impl_fabric_node.f l1 a0_0 a0_1).bind fun t109 => (impl_fabric_way.j0 k l1 (!t109) a0_0 a0_1)) = some r:=by rw [if_pos rfl] at H; exact H
   clear H; have H:=H1; clear H1; replace H:=bE H; obtain ⟨t109,A70,H⟩:=H; replace H : (impl_fabric_way.j0 k l1 (!t109) a0_0 a0_1) = some r:=H; have A7:=aM A70; clear A70; have H':=aM H; clear H
   go_wp2_with (first | ((with_reducible refine zaI (f:=77) rfl ?_); refine zaR (some 8) rfl rfl Try.func77 (by kernel_rfl) rfl #[.int .i64 (l1.length : Int),.int .i64 1,.int .i64 30] rfl (by (try simp only [mA,mB,mC]); first | done | rfl | (simp only [mE,mD]; rfl)) ?_; (with_reducible refine (impl_within.calls (l1.length : Int) 1 30 true _ A5.out).mono ?_); rintro e w' ⟨rfl,⟨nd,rfl⟩⟩; refine ⟨_,rfl,?_⟩; have hcz8_0 : w4.cell? ⟨gb107,0,none⟩ = some (.int .i64 a0_0):=(zaG BK107.out 0).trans rfl; have hcz8_1 : w4.cell? ⟨gb107,1,none⟩ = some (.int .i64 a0_1):=(zaG BK107.out 1).trans rfl; have hfz8_0:=zaE BK107.out 0; have hfz8_1:=zaE BK107.out 1) | (go_at_call 78; (with_reducible refine (all_impl_fabric_node.calls _ _ l1 a0_0 a0_1 t109 _ ?side1 ?side2 A7.out).mono ?_); (case side1 => repeat (first | exact (Kd.C_below HR1.out (by repeat (first | (with_reducible first | exact HB.out | apply zaA | apply bN | apply bD | refine zaB ?_ GE107.out) | exact HB.out))) | (with_reducible refine Kd.C_alloc ?_ _) | (with_reducible refine Kd.C_drewN ?_ _) | (with_reducible refine Kd.C_drew ?_))); (case side2 => exact HC1.out); rintro e w9 ⟨rfl,hb⟩; have n0_:=aM (zaT (g:=gb107) (o:=.cells #[.int .i64 a0_0,.int .i64 a0_1] 50 (0,0)) (by (with_reducible repeat (first | refine zaC ?_ _ | refine zaF ?_ | refine zaD ?_ _)); exact BK107.out) hb); have n1_:=aM (zaJ (by repeat (first | (with_reducible first | exact HB.out | apply zaA | apply bN | apply bD | refine zaB ?_ GE107.out) | exact HB.out)) hb); clear BK107; clear HB; have BK107:=n0_; have HB:=n1_; clear n0_ n1_; (try clear hb); (try clear hb2); (try clear hk); (try clear hi)))
   go_meet; case rel => exact ⟨_,(!t109),(by first | rfl | (simp; done) | (simp [*]; done)),H',⟨by first | omega | exact Nat.le_refl _⟩,⟨by (with_reducible repeat (first | refine zaC ?_ _ | refine zaF ?_ | refine zaD ?_ _)); exact BK107.out⟩,⟨by repeat (first | (with_reducible first | exact HB.out | apply zaA | apply bN | apply bD | refine zaB ?_ GE107.out) | exact HB.out)⟩⟩
  ·
   replace c6:=Bool.eq_false_iff.mpr c6; subst c6; have H1 : (impl_fabric_way.j0 k l1 true a0_0 a0_1) = some r:=by rw [if_neg (show ¬ (false = true) by decide)] at H; exact H
   clear H; have H:=H1; clear H1; have H':=aM H; clear H; go_wp2_with (first | ((with_reducible refine zaI (f:=77) rfl ?_); refine zaR (some 8) rfl rfl Try.func77 (by kernel_rfl) rfl #[.int .i64 (l1.length : Int),.int .i64 1,.int .i64 30] rfl (by (try simp only [mA,mB,mC]); first | done | rfl | (simp only [mE,mD]; rfl)) ?_; (with_reducible refine (impl_within.calls (l1.length : Int) 1 30 false _ A5.out).mono ?_); rintro e w' ⟨rfl,⟨nd,rfl⟩⟩; refine ⟨_,rfl,?_⟩)); go_meet; case rel => exact ⟨_,(true),(by first | rfl | (simp; done) | (simp [*]; done)),H',⟨by first | omega | exact Nat.le_refl _⟩,⟨by (with_reducible repeat (first | refine zaC ?_ _ | refine zaF ?_ | refine zaD ?_ _)); exact BK107.out⟩,⟨by repeat (first | (with_reducible first | exact HB.out | apply zaA | apply bN | apply bD | refine zaB ?_ GE107.out) | exact HB.out)⟩⟩
 case rest =>
  clear HC3
  try clear c1
  try clear p2
  try clear c5
  try clear c6
  try clear c7
  try clear hcz8_0
  try clear hcz8_1
  try clear hfz8_0
  try clear hfz8_1
  obtain ⟨kq,x16_2,rfl,HA,HJ2,BK107,HB⟩:=hcut; cases kq with
  | zero => exact absurd HA.out (by simp [impl_fabric_way.j0])
  | succ kj2 =>
   have H:=HA.out; clear HA; simp only [impl_fabric_way.j0] at H; by_cases c10 : x16_2 = true
   ·
    subst c10; have H1 : (some false) = some r:=by rw [if_pos rfl] at H; exact H
    clear H; have H:=H1; clear H1; obtain rfl:=Option.some.inj H; go_wp2; go_ret; exact ⟨by first | rfl | (simp [*] <;> rfl),by repeat (first | (with_reducible first | exact HB.out | apply zaA | apply bN | apply bD | refine zaB ?_ GE107.out) | exact HB.out)⟩
   ·
    replace c10:=Bool.eq_false_iff.mpr c10; subst c10; have H1 : (impl_fabric_way.l0 kj2 l1 1 a0_0 a0_1) = some r:=by rw [if_neg (show ¬ (false = true) by decide)] at H; exact H
    clear H; have H:=H1; clear H1; have H':=aM H; clear H; go_wp2; go_loopg [5] kj2 (fun kq v5 w' => ∃ (x5_2 : Int),v5 = .int .i64 x5_2 ∧ Aside0 (impl_fabric_way.l0 kq l1 x5_2 a0_0 a0_1 = some r) ∧ Aside0 (kq ≤ kj2) ∧ Aside0 (w'.heap[gb107]? = some (.cells #[.int .i64 a0_0,.int .i64 a0_1] 50 (0,0))) ∧ Aside0 (Below w.heap.size w w')); case atStart => exact ⟨(1),(by first | rfl | (simp; done) | (simp [*]; done)),H',⟨Nat.le_refl _⟩,⟨by (with_reducible repeat (first | refine zaC ?_ _ | refine zaF ?_ | refine zaD ?_ _)); exact BK107.out⟩,⟨by repeat (first | (with_reducible first | exact HB.out | apply zaA | apply bN | apply bD | refine zaB ?_ GE107.out) | exact HB.out)⟩⟩
    case round =>
     clear H'
     try clear c1
     try clear p2
     try clear c5
     try clear c6
     try clear c7
     try clear c10
     try clear hcz8_0
     try clear hcz8_1
     try clear hfz8_0
     try clear hfz8_1
     try clear p2
     obtain ⟨x5_2,rfl,HA,HK2,BK107,HB⟩:=hrel; cases gk with
     | zero => exact absurd HA.out (by simp [impl_fabric_way.l0])
     | succ k2 =>
      have H:=HA.out; clear HA; simp only [impl_fabric_way.l0] at H; by_cases c11 : x5_2 < (l1.length : Int)
      ·
       rw [if_pos c11] at H; have c11b0 : decide (x5_2 < (l1.length : Int)) = true:=decide_eq_true c11; clear c11; obtain ⟨ji12,hji12⟩ : ∃ j_ : Int,(wrap64 (x5_2 - 1)) = j_:=⟨_,rfl⟩
       replace H : (if 0 ≤ (ji12) then (if (ji12) < (l1.length : Int) then (if 0 ≤ x5_2 then ((impl_fabric_wire.f a0_0 a0_1 (rd l1 (ji12)) (rd l1 x5_2)).bind fun t112 => (if t112 < 0 then (some false) else (impl_fabric_way.l0 k2 l1 (wrap64 (x5_2 + 1)) a0_0 a0_1))) else (none)) else (none)) else (none)) = some r:=by first | (rw [hji12] at H; exact H) | (simp only [hji12] at H ⊢; exact H)
       have hji12w : (IntKind.i64.wrap (x5_2 - 1)) = ji12:=(zaP _).trans hji12; by_cases c13 : 0 ≤ (ji12)
       ·
        rw [if_pos c13] at H; have c13b0 : decide (0 ≤ (ji12)) = true:=decide_eq_true c13; clear c13; by_cases c14 : (ji12) < (l1.length : Int)
        ·
         rw [if_pos c14] at H; have c14b0 : decide ((ji12) < (l1.length : Int)) = true:=decide_eq_true c14; clear c14; by_cases c15 : 0 ≤ x5_2
         ·
          rw [if_pos c15] at H; have c15b0 : decide (0 ≤ x5_2) = true:=decide_eq_true c15; clear c15; replace H:=bE H; obtain ⟨t112,A160,H⟩:=H; replace H : (if t112 < 0 then (some false) else (impl_fabric_way.l0 k2 l1 (wrap64 (x5_2 + 1)) a0_0 a0_1)) = some r:=H; have A16:=aM A160; clear A160; by_cases c17 : t112 < 0
          ·
           rw [if_pos c17] at H; have c17b0 : decide (t112 < 0) = true:=decide_eq_true c17; clear c17; obtain rfl:=Option.some.inj H
           try go_wp2
           have n0_:=aM (zaF BK107.out); have n1_:=aM (bD HB.out); clear BK107; clear HB; have BK107:=n0_; have HB:=n1_; clear n0_ n1_; have p110 : 0 ≤ ((ji12) : Int):=oD (by assumption); have q110 : (ji12) < (l1.length : Int):=oD (by assumption); obtain ⟨ad110,e110,hx110_0⟩:=Kd.at_int HR1.out (ji12) p110 q110; have hw110_0:=hx110_0; cases e110; replace hx110_0:=(HB.out.cell (bC w _ hx110_0)).trans hx110_0; replace p110:=eq_true p110; replace q110:=eq_true q110; have p111 : 0 ≤ (x5_2 : Int):=oD (by assumption); have q111 : x5_2 < (l1.length : Int):=oD (by assumption); obtain ⟨ad111,e111,hx111_0⟩:=Kd.at_int HR1.out x5_2 p111 q111; have hw111_0:=hx111_0; obtain rfl : ad110 = ad111:=(by injection e111); replace hx111_0:=(HB.out.cell (bC w _ hx111_0)).trans hx111_0; replace p111:=eq_true p111; replace q111:=eq_true q111
           refine start_ (n:=12) (S:=fun w' => w'.cell? ⟨gb107,0,none⟩ = some (.int .i64 a0_0) ∧ w'.cell? ⟨gb107,1,none⟩ = some (.int .i64 a0_1) ∧ w'.cell? (ad110.add ((ji12)).toNat) = some (.int .i64 (rd l1 (ji12))) ∧ w'.cell? (ad110.add (x5_2).toNat) = some (.int .i64 (rd l1 x5_2))) (ds:=[]) #[false,false,false,false,false,false,false,false,false,false,false,false] (by kernel_rfl) rfl rfl ⟨(zaG BK107.out 0).trans rfl,(zaG BK107.out 1).trans rfl,((HB.out.cell (bC w _ hw110_0)).trans hw110_0),((HB.out.cell (bC w _ hw111_0)).trans hw111_0)⟩ (fun hHeld => ?_); refine zbO impl_fabric_way.tab6 impl_fabric_way.bits6 (fun HT_ HW_ => ?_); generalize wr.drew = w18 at BK107 HB hx110_0 hx111_0 hHeld ⊢
           refine zaQ (i:=1) (N:=some 24) (v:=?_) (a':=?_) #[false,true,false,false,false,false,false,false,false,false,false,false] rfl rfl (zaO HT_.out (by kernel_rfl)) (fun _ _ _ h => h) (Or.inl ⟨by rfl,?_⟩) ?_ ?_; rotate_left
           ·
            intro w'; go_simp; with_reducible rfl
           rotate_left
           ·
            simp only [Act.put,sA,sB,sC,zaP]; rfl
           refine zaQ (i:=2) (N:=some 25) (v:=?_) (a':=?_) #[false,true,true,false,false,false,false,false,false,false,false,false] rfl rfl (zaO HT_.out (by kernel_rfl)) (fun _ _ _ h => h) (Or.inl ⟨by rfl,?_⟩) ?_ ?_; rotate_left
           ·
            intro w'; go_simp; with_reducible rfl
           rotate_left
           ·
            simp only [Act.put,sA,sB,sC,zaP]; rfl
           refine zaQ (i:=3) (N:=some 26) (v:=?_) (a':=?_) #[false,true,true,true,false,false,false,false,false,false,false,false] rfl rfl (zaO HT_.out (by kernel_rfl)) (fun _ _ _ h => h) (Or.inl ⟨by rfl,?_⟩) ?_ ?_; rotate_left
           ·
            intro w'; go_simp; with_reducible rfl
           rotate_left
           ·
            simp only [Act.put,sA,sB,sC,zaP]; rfl
           refine zaQ (i:=4) (N:=some 27) (v:=?_) (a':=?_) #[false,true,true,true,true,false,false,false,false,false,false,false] rfl rfl (zaO HT_.out (by kernel_rfl)) (fun _ _ _ h => h) (Or.inl ⟨by rfl,?_⟩) ?_ ?_; rotate_left
           ·
            intro w'; go_simp; with_reducible rfl
           rotate_left
           ·
            simp only [Act.put,sA,sB,sC,zaP]; rfl
           refine zaQ (i:=6) (N:=some 29) (v:=?_) (a':=?_) #[false,true,true,true,true,false,true,false,false,false,false,false] rfl rfl (zaO HT_.out (by kernel_rfl)) (fun _ _ _ h => h) (Or.inl ⟨by rfl,?_⟩) ?_ ?_; rotate_left
           ·
            intro w'; go_simp; with_reducible rfl
           rotate_left
           ·
            simp only [Act.put,sA,sB,sC,zaP]; rfl
           refine zaQ (i:=7) (N:=some 30) (v:=?_) (a':=?_) #[false,true,true,true,true,false,true,true,false,false,false,false] rfl rfl (zaO HT_.out (by kernel_rfl)) (fun _ _ _ h => h) (Or.inl ⟨by rfl,?_⟩) ?_ ?_; rotate_left
           ·
            intro w'; go_simp; with_reducible rfl
           rotate_left
           ·
            simp only [Act.put,sA,sB,sC,zaP]; rfl
           refine zaQ (i:=8) (N:=some 31) (v:=?_) (a':=?_) #[false,true,true,true,true,false,true,true,true,false,false,false] rfl rfl (zaO HT_.out (by kernel_rfl)) (fun _ _ _ h => h) (Or.inl ⟨by rfl,?_⟩) ?_ ?_; rotate_left
           ·
            intro w'; go_simp; with_reducible rfl
           rotate_left
           ·
            simp only [Act.put,sA,sB,sC,zaP]; rfl
           refine take_ (i:=0) (N:=some 23) (v:=?_) (a':=?_) #[true,true,true,true,true,false,true,true,true,false,false,false] rfl rfl (zaX HT_.out HW_.out (by kernel_rfl)) (fun _ _ _ h => h) (Or.inl ⟨by rfl,?_⟩) hHeld ?_ ?_; rotate_left
           ·
            rintro w' ⟨s0,s1,s2,s3⟩; go_simp; with_reducible rfl
           rotate_left
           ·
            simp only [Act.put,sA,sB,sC,zaP]; rfl
           refine take_ (i:=5) (N:=some 28) (v:=?_) (a':=?_) #[true,true,true,true,true,true,true,true,true,false,false,false] rfl rfl (zaX HT_.out HW_.out (by kernel_rfl)) (fun _ _ _ h => h) (Or.inl ⟨by rfl,?_⟩) hHeld ?_ ?_; rotate_left
           ·
            rintro w' ⟨s0,s1,s2,s3⟩; go_simp; with_reducible rfl
           rotate_left
           ·
            simp only [Act.put,sA,sB,sC,zaP]; rfl
           refine take_ (i:=9) (N:=some 32) (v:=?_) (a':=?_) #[true,true,true,true,true,true,true,true,true,true,false,false] rfl rfl (zaX HT_.out HW_.out (by kernel_rfl)) (fun _ _ _ h => h) (Or.inl ⟨by rfl,?_⟩) hHeld ?_ ?_; rotate_left
           ·
            rintro w' ⟨s0,s1,s2,s3⟩; go_simp; with_reducible rfl
           rotate_left
           ·
            simp only [Act.put,sA,sB,sC,zaP]; rfl
           refine one_ (i:=10) (N:=some 33) #[true,true,true,true,true,true,true,true,true,true,true,false] rfl rfl (zbP HT_.out (by kernel_rfl)) (by decide) (fun K hK => ?_); refine goes_ Try.func42 (by kernel_rfl) rfl #[.agg #[.int .i64 a0_0,.int .i64 a0_1],.int .i64 (rd l1 (ji12)),.int .i64 (rd l1 x5_2)] (by rfl) rfl rfl (by (try simp only [mA,mB,mC]); first | done | (simp only [hji12]; rfl) | rfl | (simp only [mE,mD]; rfl)) ?_; (with_reducible refine (impl_fabric_wire.calls a0_0 a0_1 (rd l1 (ji12)) (rd l1 x5_2) t112 _ A16.out).mono ?_); rintro e w19 ⟨rfl,hb⟩; refine ⟨_,rfl,?_⟩; have n0_:=aM (zaT (g:=gb107) (o:=.cells #[.int .i64 a0_0,.int .i64 a0_1] 50 (0,0)) (by (with_reducible repeat (first | refine zaC ?_ _ | refine zaF ?_ | refine zaD ?_ _)); exact BK107.out) hb)
           have n1_:=aM (zaJ (by repeat (first | (with_reducible first | exact HB.out | apply zaA | apply bN | apply bD | refine zaB ?_ GE107.out) | exact HB.out)) hb); clear BK107; clear HB; have BK107:=n0_; have HB:=n1_; clear n0_ n1_; (try clear hb); (try clear hb2); (try clear hk); (try clear hi); refine hK.out _ _ ⟨(zaG BK107.out 0).trans rfl,(zaG BK107.out 1).trans rfl,((HB.out.cell (bC w _ hw110_0)).trans hw110_0),((HB.out.cell (bC w _ hw111_0)).trans hw111_0)⟩ (fun hHeld => ?_); clear hK K; refine norm_ (a':=?_) ?_ ?_; rotate_left
           ·
            show Act.put _ (some 33) _ = _
            simp only [Act.put,sA,sB,sC,zaP]; rfl
           refine zaQ (i:=11) (N:=some 34) (v:=?_) (a':=?_) #[true,true,true,true,true,true,true,true,true,true,true,true] rfl rfl (zaO HT_.out (by kernel_rfl)) (fun _ _ _ h => h) (Or.inl ⟨by rfl,?_⟩) ?_ ?_; rotate_left
           ·
            intro w'; go_simp; with_reducible rfl
           rotate_left
           ·
            simp only [Act.put,sA,sB,sC,zaP]; rfl
           refine done_ (done_of HT_.out (by kernel_rfl)) ?_
           try go_wp2
           go_ret; exact ⟨by first | rfl | (simp [errW_none,errW_some] <;> rfl) | (simp only [← hji12]; first | rfl | (simp [errW_none,errW_some] <;> rfl)) | (simp [*,errW_none,errW_some] <;> rfl),by repeat (first | (with_reducible first | exact HB.out | apply zaA | apply bN | apply bD | refine zaB ?_ GE107.out) | exact HB.out)⟩
          ·
           rw [if_neg c17] at H; have c17b0 : decide (t112 < 0) = false:=decide_eq_false c17; clear c17; have H':=aM H; clear H
           try go_wp2
           have n0_:=aM (zaF BK107.out); have n1_:=aM (bD HB.out); clear BK107; clear HB; have BK107:=n0_; have HB:=n1_; clear n0_ n1_; have p110 : 0 ≤ ((ji12) : Int):=oD (by assumption); have q110 : (ji12) < (l1.length : Int):=oD (by assumption); obtain ⟨ad110,e110,hx110_0⟩:=Kd.at_int HR1.out (ji12) p110 q110; have hw110_0:=hx110_0; cases e110; replace hx110_0:=(HB.out.cell (bC w _ hx110_0)).trans hx110_0; replace p110:=eq_true p110; replace q110:=eq_true q110; have p111 : 0 ≤ (x5_2 : Int):=oD (by assumption); have q111 : x5_2 < (l1.length : Int):=oD (by assumption); obtain ⟨ad111,e111,hx111_0⟩:=Kd.at_int HR1.out x5_2 p111 q111; have hw111_0:=hx111_0; obtain rfl : ad110 = ad111:=(by injection e111); replace hx111_0:=(HB.out.cell (bC w _ hx111_0)).trans hx111_0; replace p111:=eq_true p111; replace q111:=eq_true q111
           refine start_ (n:=12) (S:=fun w' => w'.cell? ⟨gb107,0,none⟩ = some (.int .i64 a0_0) ∧ w'.cell? ⟨gb107,1,none⟩ = some (.int .i64 a0_1) ∧ w'.cell? (ad110.add ((ji12)).toNat) = some (.int .i64 (rd l1 (ji12))) ∧ w'.cell? (ad110.add (x5_2).toNat) = some (.int .i64 (rd l1 x5_2))) (ds:=[]) #[false,false,false,false,false,false,false,false,false,false,false,false] (by kernel_rfl) rfl rfl ⟨(zaG BK107.out 0).trans rfl,(zaG BK107.out 1).trans rfl,((HB.out.cell (bC w _ hw110_0)).trans hw110_0),((HB.out.cell (bC w _ hw111_0)).trans hw111_0)⟩ (fun hHeld => ?_); refine zbO impl_fabric_way.tab6 impl_fabric_way.bits6 (fun HT_ HW_ => ?_); generalize wr.drew = w20 at BK107 HB hx110_0 hx111_0 hHeld ⊢
           refine zaQ (i:=1) (N:=some 24) (v:=?_) (a':=?_) #[false,true,false,false,false,false,false,false,false,false,false,false] rfl rfl (zaO HT_.out (by kernel_rfl)) (fun _ _ _ h => h) (Or.inl ⟨by rfl,?_⟩) ?_ ?_; rotate_left
           ·
            intro w'; go_simp; with_reducible rfl
           rotate_left
           ·
            simp only [Act.put,sA,sB,sC,zaP]; rfl
           refine zaQ (i:=2) (N:=some 25) (v:=?_) (a':=?_) #[false,true,true,false,false,false,false,false,false,false,false,false] rfl rfl (zaO HT_.out (by kernel_rfl)) (fun _ _ _ h => h) (Or.inl ⟨by rfl,?_⟩) ?_ ?_; rotate_left
           ·
            intro w'; go_simp; with_reducible rfl
           rotate_left
           ·
            simp only [Act.put,sA,sB,sC,zaP]; rfl
           refine zaQ (i:=3) (N:=some 26) (v:=?_) (a':=?_) #[false,true,true,true,false,false,false,false,false,false,false,false] rfl rfl (zaO HT_.out (by kernel_rfl)) (fun _ _ _ h => h) (Or.inl ⟨by rfl,?_⟩) ?_ ?_; rotate_left
           ·
            intro w'; go_simp; with_reducible rfl
           rotate_left
           ·
            simp only [Act.put,sA,sB,sC,zaP]; rfl
           refine zaQ (i:=4) (N:=some 27) (v:=?_) (a':=?_) #[false,true,true,true,true,false,false,false,false,false,false,false] rfl rfl (zaO HT_.out (by kernel_rfl)) (fun _ _ _ h => h) (Or.inl ⟨by rfl,?_⟩) ?_ ?_; rotate_left
           ·
            intro w'; go_simp; with_reducible rfl
           rotate_left
           ·
            simp only [Act.put,sA,sB,sC,zaP]; rfl
           refine zaQ (i:=6) (N:=some 29) (v:=?_) (a':=?_) #[false,true,true,true,true,false,true,false,false,false,false,false] rfl rfl (zaO HT_.out (by kernel_rfl)) (fun _ _ _ h => h) (Or.inl ⟨by rfl,?_⟩) ?_ ?_; rotate_left
           ·
            intro w'; go_simp; with_reducible rfl
           rotate_left
           ·
            simp only [Act.put,sA,sB,sC,zaP]; rfl
           refine zaQ (i:=7) (N:=some 30) (v:=?_) (a':=?_) #[false,true,true,true,true,false,true,true,false,false,false,false] rfl rfl (zaO HT_.out (by kernel_rfl)) (fun _ _ _ h => h) (Or.inl ⟨by rfl,?_⟩) ?_ ?_; rotate_left
           ·
            intro w'; go_simp; with_reducible rfl
           rotate_left
           ·
            simp only [Act.put,sA,sB,sC,zaP]; rfl
           refine zaQ (i:=8) (N:=some 31) (v:=?_) (a':=?_) #[false,true,true,true,true,false,true,true,true,false,false,false] rfl rfl (zaO HT_.out (by kernel_rfl)) (fun _ _ _ h => h) (Or.inl ⟨by rfl,?_⟩) ?_ ?_; rotate_left
           ·
            intro w'; go_simp; with_reducible rfl
           rotate_left
           ·
            simp only [Act.put,sA,sB,sC,zaP]; rfl
           refine take_ (i:=0) (N:=some 23) (v:=?_) (a':=?_) #[true,true,true,true,true,false,true,true,true,false,false,false] rfl rfl (zaX HT_.out HW_.out (by kernel_rfl)) (fun _ _ _ h => h) (Or.inl ⟨by rfl,?_⟩) hHeld ?_ ?_; rotate_left
           ·
            rintro w' ⟨s0,s1,s2,s3⟩; go_simp; with_reducible rfl
           rotate_left
           ·
            simp only [Act.put,sA,sB,sC,zaP]; rfl
           refine take_ (i:=5) (N:=some 28) (v:=?_) (a':=?_) #[true,true,true,true,true,true,true,true,true,false,false,false] rfl rfl (zaX HT_.out HW_.out (by kernel_rfl)) (fun _ _ _ h => h) (Or.inl ⟨by rfl,?_⟩) hHeld ?_ ?_; rotate_left
           ·
            rintro w' ⟨s0,s1,s2,s3⟩; go_simp; with_reducible rfl
           rotate_left
           ·
            simp only [Act.put,sA,sB,sC,zaP]; rfl
           refine take_ (i:=9) (N:=some 32) (v:=?_) (a':=?_) #[true,true,true,true,true,true,true,true,true,true,false,false] rfl rfl (zaX HT_.out HW_.out (by kernel_rfl)) (fun _ _ _ h => h) (Or.inl ⟨by rfl,?_⟩) hHeld ?_ ?_; rotate_left
           ·
            rintro w' ⟨s0,s1,s2,s3⟩; go_simp; with_reducible rfl
           rotate_left
           ·
            simp only [Act.put,sA,sB,sC,zaP]; rfl
           refine one_ (i:=10) (N:=some 33) #[true,true,true,true,true,true,true,true,true,true,true,false] rfl rfl (zbP HT_.out (by kernel_rfl)) (by decide) (fun K hK => ?_); refine goes_ Try.func42 (by kernel_rfl) rfl #[.agg #[.int .i64 a0_0,.int .i64 a0_1],.int .i64 (rd l1 (ji12)),.int .i64 (rd l1 x5_2)] (by rfl) rfl rfl (by (try simp only [mA,mB,mC]); first | done | (simp only [hji12]; rfl) | rfl | (simp only [mE,mD]; rfl)) ?_; (with_reducible refine (impl_fabric_wire.calls a0_0 a0_1 (rd l1 (ji12)) (rd l1 x5_2) t112 _ A16.out).mono ?_); rintro e w21 ⟨rfl,hb⟩; refine ⟨_,rfl,?_⟩; have n0_:=aM (zaT (g:=gb107) (o:=.cells #[.int .i64 a0_0,.int .i64 a0_1] 50 (0,0)) (by (with_reducible repeat (first | refine zaC ?_ _ | refine zaF ?_ | refine zaD ?_ _)); exact BK107.out) hb)
           have n1_:=aM (zaJ (by repeat (first | (with_reducible first | exact HB.out | apply zaA | apply bN | apply bD | refine zaB ?_ GE107.out) | exact HB.out)) hb); clear BK107; clear HB; have BK107:=n0_; have HB:=n1_; clear n0_ n1_; (try clear hb); (try clear hb2); (try clear hk); (try clear hi); refine hK.out _ _ ⟨(zaG BK107.out 0).trans rfl,(zaG BK107.out 1).trans rfl,((HB.out.cell (bC w _ hw110_0)).trans hw110_0),((HB.out.cell (bC w _ hw111_0)).trans hw111_0)⟩ (fun hHeld => ?_); clear hK K; refine norm_ (a':=?_) ?_ ?_; rotate_left
           ·
            show Act.put _ (some 33) _ = _
            simp only [Act.put,sA,sB,sC,zaP]; rfl
           refine zaQ (i:=11) (N:=some 34) (v:=?_) (a':=?_) #[true,true,true,true,true,true,true,true,true,true,true,true] rfl rfl (zaO HT_.out (by kernel_rfl)) (fun _ _ _ h => h) (Or.inl ⟨by rfl,?_⟩) ?_ ?_; rotate_left
           ·
            intro w'; go_simp; with_reducible rfl
           rotate_left
           ·
            simp only [Act.put,sA,sB,sC,zaP]; rfl
           refine done_ (done_of HT_.out (by kernel_rfl)) ?_
           try go_wp2
           go_roundg k2; case measure => have:=HJ2.out; have:=HK2.out; omega
           case rel => exact ⟨(wrap64 (x5_2 + 1)),(by first | rfl | (simp; done) | (simp [*]; done)),H',⟨by have:=HJ2.out; have:=HK2.out; omega⟩,⟨by (with_reducible repeat (first | refine zaC ?_ _ | refine zaF ?_ | refine zaD ?_ _)); exact BK107.out⟩,⟨by repeat (first | (with_reducible first | exact HB.out | apply zaA | apply bN | apply bD | refine zaB ?_ GE107.out) | exact HB.out)⟩⟩
         ·
          rw [if_neg c15] at H; exact absurd H (by simp)
        ·
         rw [if_neg c14] at H; exact absurd H (by simp)
       ·
        rw [if_neg c13] at H; exact absurd H (by simp)
      ·
       rw [if_neg c11] at H; have c11b0 : decide (x5_2 < (l1.length : Int)) = false:=decide_eq_false c11; clear c11; obtain rfl:=Option.some.inj H; go_wp2; go_ret; exact ⟨by first | rfl | (simp [*] <;> rfl),by repeat (first | (with_reducible first | exact HB.out | apply zaA | apply bN | apply bD | refine zaB ?_ GE107.out) | exact HB.out)⟩
-- function 96 (slices_IndexFunc_int_int_96): by its function value,where it is called
-- function 80 (slices_ContainsFunc_int_int_80): by its function value,where it is called
-- function 81 (impl_all_int_1_81): by its function value,where it is called
-- function 64 (impl_all_int_64): by its function value,where it is called
-- NOT PRINTED: function 65 (impl_mapped_int_int)
-- NOT PRINTED: function 66 (impl_fabric_wires_1)
set_option maxHeartbeats 8000000 in
set_option maxRecDepth 100000 in
theorem index96 (p : (List Int) → Option Bool) (g : Nat) (fs lb : Array Value) (eg : ∀ args w,(callFunc g args).run Try.prog w = .ok (.enter g args) w) (A : Option Addr) (c : Nat) (l : List (List Int)) (r : Int) (w : World)
  (hr0 : Kd.C (Kd.slice 3 (Kd.int .i64)) w A l.length l) (hc0 : l.length ≤ c) (hp : PredK Try.prog g fs lb (Kd.slice 3 (Kd.int .i64)) valOne p w) (h : ixO p l 0 = some r) :
  Calls Try.prog 96 #[.slice A l.length c,.func (.func g) fs lb] w fun e w' => e = .returned (.int .i64 r) ∧ Below w.heap.size w w':=by
 have HR0:=aM hr0; have HL:=aM hr0.2.1; have HP:=aM hp; clear hr0 hc0 hp; have H:=aM h; clear h; go_enter Try.func96,Try.ntmps96; go_wp2; go_loopg [5,8] l.length (fun kq _ v8 w' => ∃ (i : Int),v8 = .int .i64 i ∧ Aside0 (ixO p (l.drop i.toNat) i = some r) ∧ Aside0 (0 ≤ i ∧ i ≤ l.length ∧ (l.length : Int) - i ≤ kq) ∧ Aside0 (Below w.heap.size w w')); case atStart => exact ⟨0,rfl,H,⟨by omega,by omega,by omega⟩,⟨Below.refl _ _⟩⟩
 case round =>
  clear H; obtain ⟨i,rfl,HA,HK,HB0⟩:=hrel; have HB:=HB0; by_cases hlt : i < (l.length : Int)
  ·
   have p1 : 0 ≤ i:=HK.out.1; obtain ⟨ad,c_,e,hlen,hK,hcell⟩:=Kd.C_get HR0.out [] i p1 hlt; cases e; have hK':=(Kd.slice 3 (Kd.int .i64)).K_below HB.out hK; have hn : i.toNat < l.length:=by omega
   have hstep:=HA.out; rw [ixO_step p [] l i hn p1] at hstep; obtain ⟨b,hb,hif⟩:=bE hstep; have hcall0:=HP.out wr _ b c_ HB.out hK' hb; generalize l.getD i.toNat [] = x at hK hK' hb hstep hcall0; obtain ⟨A0_,c0_,rfl,l0_,g0_⟩:=hK; have hcall1 : Calls Try.prog g (fs ++ #[.slice A0_ x.length c0_] ++ lb) wr (fun e w' => e = .returned (.bool b) ∧ Below wr.heap.size wr w'):=hcall0; have hsz_ : ((Kd.slice 3 (Kd.int .i64))).sz = 1:=rfl; rw [hsz_] at hcell; have hx0:=zbH HB.out (show w.cell? (ad.add i.toNat) = some (.slice A0_ x.length c0_) by have hq:=hcell 0 _ rfl; rwa [Nat.mul_one,Nat.add_zero] at hq)
   try clear hK
   try clear l0_ g0_
   have HIF:=aM hif; have H2:=aM hlt; have HC:=aM hcall1; clear hstep hif hb HA hn hK' hcell hcall0 hcall1 hlen; have q0:=decide_eq_true p1; have q1:=decide_eq_true hlt; replace p1:=eq_true p1; replace hlt:=eq_true hlt; cases b with
   | true =>
    have ER:=aM (Option.some.inj ((if_pos rfl).symm.trans HIF.out)); clear HIF; go_wp2_with (go_at_fn g; (with_reducible refine calls_of_args (args':=fs ++ #[.slice A0_ x.length c0_] ++ lb) (by first | rfl | simp) ?_); (with_reducible refine HC.out.mono ?_); rintro e w' ⟨rfl,hb'⟩); go_ret; exact ⟨by rw [← ER.out]; rfl,below_hop HB.out hb'⟩
   | false =>
    have ER:=aM ((if_neg (show ¬ (false = true) by decide)).symm.trans HIF.out); clear HIF; go_wp2_with (go_at_fn g; (with_reducible refine calls_of_args (args':=fs ++ #[.slice A0_ x.length c0_] ++ lb) (by first | rfl | simp) ?_); (with_reducible refine HC.out.mono ?_); rintro e w' ⟨rfl,hb'⟩); go_roundg ((l.length : Int) - (i + 1)).toNat; case measure => have:=HK.out; have:=H2.out; omega
    case rel =>
     have hw : wrap64 (i + 1) = i + 1:=by
      have:=HK.out; have:=H2.out; have:=HL.out
      unfold wrap64; omega
     exact ⟨wrap64 (i + 1),rfl,⟨by rw [hw]; exact ER.out⟩,⟨by have:=HK.out; have:=H2.out; rw [hw]; omega⟩,⟨below_hop HB.out hb'⟩⟩
  ·
   have hr:=HA.out; rw [List.drop_eq_nil_of_le (by omega)] at hr; simp only [ixO,Option.some.injEq] at hr; subst hr; have q1:=decide_eq_false hlt; go_wp2; go_ret; exact ⟨rfl,HB.out⟩
set_option maxHeartbeats 8000000 in
set_option maxRecDepth 100000 in
theorem contains80 (p : (List Int) → Option Bool) (g : Nat) (fs lb : Array Value) (eg : ∀ args w,(callFunc g args).run Try.prog w = .ok (.enter g args) w) (A : Option Addr) (c : Nat) (l : List (List Int)) (r : Bool) (w : World)
  (hr0 : Kd.C (Kd.slice 3 (Kd.int .i64)) w A l.length l) (hc0 : l.length ≤ c) (hp : PredK Try.prog g fs lb (Kd.slice 3 (Kd.int .i64)) valOne p w) (h : anyO p l = some r) :
  Calls Try.prog 80 #[.slice A l.length c,.func (.func g) fs lb] w fun e w' => e = .returned (.bool r) ∧ Below w.heap.size w w':=by
 obtain ⟨i,hi,hd⟩:=ixO_any p l 0 r (by omega) h; have HC:=aM (index96 p g fs lb eg A c l i w hr0 hc0 hp hi); have HD:=aM hd; clear hr0 hc0 hp h hi hd; go_enter Try.func80,Try.ntmps80; go_wp2_with (go_at_call 96; (with_reducible refine HC.out.mono ?_); rintro e w' ⟨rfl,hb'⟩); go_ret; exact ⟨by rw [← HD.out]; rfl,hb'⟩
set_option maxHeartbeats 8000000 in
set_option maxRecDepth 100000 in
theorem not81 (p : (List Int) → Option Bool) (g : Nat) (fs lb : Array Value) (eg : ∀ args w,(callFunc g args).run Try.prog w = .ok (.enter g args) w) (B : Nat) (w : World) (hB : B < w.heap.size) (hc : w.cell? ⟨B,0,none⟩ = some (.func (.func g) fs lb))
  (hp : PredK Try.prog g fs lb (Kd.slice 3 (Kd.int .i64)) valOne p w) : PredK Try.prog 81 #[] #[.pointer (some ⟨B,0,none⟩)] (Kd.slice 3 (Kd.int .i64)) valOne (fun x => (p x).map (! ·)) w:=by
 intro W x b cs hb hK hx; obtain ⟨c,hc0,rfl⟩:=Option.map_eq_some_iff.mp hx; have hcell : W.cell? ⟨B,0,none⟩ = some (.func (.func g) fs lb):=(hb.cell (p:=⟨B,0,none⟩) hB).trans hc; have hcall0:=hp W x c cs hb hK hc0; obtain ⟨A0_,c0_,rfl,l0_,g0_⟩:=hK; have hcall1 : Calls Try.prog g (fs ++ #[.slice A0_ x.length c0_] ++ lb) W (fun e w' => e = .returned (.bool c) ∧ Below W.heap.size W w'):=hcall0; have HC:=aM hcall1; clear hp hx hc0 hc hcall0 hcall1 hb hB
 try clear hK
 try clear l0_ g0_
 show Calls Try.prog 81 #[.slice A0_ x.length c0_,.pointer (some ⟨B,0,none⟩)] W _
 go_enter Try.func81,Try.ntmps81; go_wp2_with (go_at_fn g; (with_reducible refine calls_of_args (args':=fs ++ #[.slice A0_ x.length c0_] ++ lb) (by first | rfl | simp) ?_); (with_reducible refine HC.out.mono ?_); rintro e w' ⟨rfl,hb'⟩); go_ret; exact ⟨rfl,hb'⟩
set_option maxHeartbeats 8000000 in
set_option maxRecDepth 100000 in
theorem all64 (p : (List Int) → Option Bool) (g : Nat) (fs lb : Array Value) (eg : ∀ args w,(callFunc g args).run Try.prog w = .ok (.enter g args) w) (A : Option Addr) (c : Nat) (l : List (List Int)) (r : Bool) (w : World)
  (hr0 : Kd.C (Kd.slice 3 (Kd.int .i64)) w A l.length l) (hc0 : l.length ≤ c) (hp : PredK Try.prog g fs lb (Kd.slice 3 (Kd.int .i64)) valOne p w) (h : allO p l = some r) :
  Calls Try.prog 64 #[.slice A l.length c,.func (.func g) fs lb] w fun e w' => e = .returned (.bool r) ∧ Below w.heap.size w w':=by
 have hb1 : Below w.heap.size w (w.alloc (.cells #[.func (.func g) fs lb] 70)):=zaA (Below.refl _ _) _; have HC:=aM (contains80 (fun x => (p x).map (! ·)) 81 #[] #[.pointer (some ⟨w.heap.size,0,none⟩)] (enters_of Try.func81 (by kernel_rfl) rfl) A c l (!r) (w.alloc (.cells #[.func (.func g) fs lb] 70)) (Kd.C_below hr0 hb1) hc0 (not81 p g fs lb eg w.heap.size _ (by simp) (by simp) (hp.later hb1)) (anyO_all p l r h)); have HB:=aM hb1; clear hr0 hc0 hp h hb1; go_enter Try.func64,Try.ntmps64; go_wp2_with (go_at_call 80; (with_reducible refine HC.out.mono ?_); rintro e w' ⟨rfl,hb'⟩); go_ret; exact ⟨by first | rfl | (rw [Bool.not_not]; rfl),below_hop HB.out hb'⟩
def all_impl_fabric_way.f (k : Nat) (l0 : List (List Int)) (a1_0 : Int) (a1_1 : Int) : Option (Bool):=allO (fun x => impl_fabric_way.f k a1_0 a1_1 x) l0
theorem all_impl_fabric_way.mono : ∀ l0 a1_0 a1_1 k,LeO (all_impl_fabric_way.f k l0 a1_0 a1_1) (all_impl_fabric_way.f (k + 1) l0 a1_0 a1_1):=fun l0 a1_0 a1_1 k => allO_mono (α:=(List Int)) (fun k x => impl_fabric_way.f k a1_0 a1_1 x) (fun k x => impl_fabric_way.mono a1_0 a1_1 x k) k l0
set_option maxHeartbeats 1000000 in
theorem all_impl_fabric_way.calls (k : Nat) (A0 : Option Addr) (c0 : Nat) (l0 : List (List Int)) (a1_0 : Int) (a1_1 : Int) (r : Bool) (w : World) (hr0 : Kd.C (Kd.slice 3 (Kd.int .i64)) w A0 l0.length l0) (hc0 : l0.length ≤ c0) (h : all_impl_fabric_way.f k l0 a1_0 a1_1 = some r) :
  Calls Try.prog 64 #[.slice A0 l0.length c0,.func (.func 52) #[.agg #[.int .i64 a1_0,.int .i64 a1_1]] #[]] w fun e w' => e = .returned (.bool r) ∧ Below w.heap.size w w':=by
 refine all64 _ 52 #[.agg #[.int .i64 a1_0,.int .i64 a1_1]] #[] (enters_of Try.func52 (by kernel_rfl) rfl) A0 c0 l0 r w hr0 hc0 ?_ h; intro W x b cs hb hK hx; obtain ⟨_,_,rfl,l0_,g0_⟩:=hK; refine (impl_fabric_way.calls k a1_0 a1_1 _ _ x b W g0_ l0_ hx).mono ?_; rintro e w' ⟨rfl,hd⟩; exact ⟨rfl,hd⟩
end Go.Proofs.Ytdbokdodjekchaa.PFnRouteNoRound
