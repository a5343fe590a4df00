/- What the Go functions that this law reaches answer, function by function; conditions: those that each contract names. Made for this claim by a program of this session (wip/myprint) over the kit's print. -/
import Derived.Test.YtdbokdodjekchaaPFnRouteNoRoundx0
import Derived.Test.YtdbokdodjekchaaPFnRouteNoRoundx5
namespace Go.Proofs.Ytdbokdodjekchaa.PFnRouteNoRound
open Go.RowKit Go.Proofs.YtdbokdodjekchaaW.PrintWords Go.Proofs.YtdbokdodjekchaaW.PrintLast Go.Proofs.YtdbokdodjekchaaW.PrintMore
attribute [local go_sem] zbL zbJ max_two min_two zbF zbE zbK zbI   -- for this text's walks alone
set_option linter.unusedVariables false
set_option linter.unusedSimpArgs false
def spec_WayValid.l0 : Nat → Int → Int → List Int → Int → Option (Bool)
 | 0,_,_,_,_ => none
 | k + 1,x0,x1,x2,x7 => if x7 < (x2.length : Int) then (if 0 ≤ x7 then ((spec_l16Nodes.f x0 x1 (rd x2 x7) (rd x2 x7)).bind fun t123 => (if t123 = true then (if x7 > 0 then (if 0 ≤ (wrap64 (x7 - 1)) then (if (wrap64 (x7 - 1)) < (x2.length : Int) then ((spec_l16Wire.f k x0 (rd x2 (wrap64 (x7 - 1))) (rd x2 x7)).bind fun t126 => (if t126 < 0 then (some false) else (spec_WayValid.l0 k x0 x1 x2 (wrap64 (x7 + 1))))) else (none)) else (none)) else (spec_WayValid.l0 k x0 x1 x2 (wrap64 (x7 + 1)))) else (some false))) else (none)) else ((spec_l1In.f (x2.length : Int) 1 30).bind fun t120 => (some t120))
def spec_WayValid.f (k : Nat) (a0 : Int) (a1 : Int) (l2 : List Int) : Option (Bool):=spec_WayValid.l0 k a0 a1 l2 0
theorem spec_WayValid.mono_l : ∀ k,(∀ y0 y1 y2 y3,LeO (spec_WayValid.l0 k y0 y1 y2 y3) (spec_WayValid.l0 (k + 1) y0 y1 y2 y3))
 | 0 => fun _ _ _ _ r h => by simp [spec_WayValid.l0] at h
 | k + 1 => by
  have ih0:=spec_WayValid.mono_l k
  ·
   intro y0 y1 y2 y3; unfold spec_WayValid.l0
   repeat' first
   | (with_reducible exact ih0 _ _ _ _)
   | (with_reducible exact spec_l16Wire.mono _ _ _ _)
   | (with_reducible exact LeO.refl _)
   | (with_reducible exact LeO.none _)
   | (with_reducible refine LeO.ite ?_ ?_)
   | (with_reducible refine LeO.bind ?_ (fun _ => ?_))
   | exact ih0 _ _ _ _
   | exact spec_l16Wire.mono _ _ _ _
   | exact LeO.none _
   | refine LeO.ite ?_ ?_
   | refine LeO.bind ?_ (fun _ => ?_)
theorem spec_WayValid.mono : ∀ a0 a1 a2 k,LeO (spec_WayValid.f k a0 a1 a2) (spec_WayValid.f (k + 1) a0 a1 a2):=by
 intro a0 a1 a2 k; have ih0:=spec_WayValid.mono_l k; unfold spec_WayValid.f
 repeat' first
   | (with_reducible exact ih0 _ _ _ _)
   | (with_reducible exact spec_l16Wire.mono _ _ _ _)
   | (with_reducible exact LeO.refl _)
   | (with_reducible exact LeO.none _)
   | (with_reducible refine LeO.ite ?_ ?_)
   | (with_reducible refine LeO.bind ?_ (fun _ => ?_))
   | exact ih0 _ _ _ _
   | exact spec_l16Wire.mono _ _ _ _
   | exact LeO.none _
   | refine LeO.ite ?_ ?_
   | refine LeO.bind ?_ (fun _ => ?_)
def spec_WayValid.T4 : Bool × List (List Nat × List Nat):=(true,[([],[]),([],[]),([],[]),([],[]),([2,3],[2,3]),([4],[4]),([],[]),([],[]),([6,7],[6,7]),([8],[8]),([0,1,5,9],[0,1,5,9]),([10],[10]),([11,10],[11]),([12],[12]),([13,12],[12,13]),([14,12,12],[12,14]),([15],[15]),([15],[15]),([15],[15]),([18,15],[15,18]),([17,19,15],[15,17,19]),([20,15],[15,20]),([15],[15]),([15],[15]),([22,23,15],[15,22,23]),([24,15],[15,24]),([16,21,25,15,15],[15,16,21,25]),([26,15],[15,26]),([15,27,12],[12,15,27]),([12,28],[12,28])])
def spec_WayValid.B4 : List Nat:=[0,0,0,0,12,28,0,0,192,448,1023,2047,4095,8191,16383,32767,65535,65535,65535,327679,983039,2031615,65535,65535,12648447,29425663,67108863,134217727,268435455,536870911]
theorem spec_WayValid.tab4 : rtab .any (opsOf Try.f70 4) = spec_WayValid.T4:=by kernel_rfl
theorem spec_WayValid.bits4 : waitsOk spec_WayValid.T4.2 spec_WayValid.B4 = true:=by kernel_rfl
set_option maxHeartbeats 8000000 in
set_option maxRecDepth 100000 in
theorem spec_WayValid.calls (k : Nat) (a0 : Int) (a1 : Int) (A2 : Option Addr) (c2 : Nat) (l2 : List Int) (r : Bool) (w : World) (hr2 : Kd.C (Kd.int .i64) w A2 l2.length l2) (hc2 : l2.length ≤ c2) (h : spec_WayValid.f k a0 a1 l2 = some r) :
  Calls Try.prog 70 #[.int .i64 a0,.int .i64 a1,.slice A2 l2.length c2] w fun e w' => e = .returned (.bool r) ∧ Below w.heap.size w w':=by
 have HR2:=aM hr2; have HC2:=aM hc2; clear hr2 hc2; have HB:=aM (Below.refl w.heap.size w); have H : (spec_WayValid.l0 k a0 a1 l2 0) = some r:=h; clear h; have H':=aM H; clear H; go_enter Try.func70,Try.ntmps70; go_wp2; go_loopg [7] k (fun kq v7 w' => ∃ (x7_1 : Int),v7 = .int .i64 x7_1 ∧ Aside0 (spec_WayValid.l0 kq a0 a1 l2 x7_1 = some r) ∧ Aside0 (kq ≤ k) ∧ Aside0 (Below w.heap.size w w')); case atStart => exact ⟨(0),(by first | rfl | (simp; done) | (simp [*]; done)),H',⟨Nat.le_refl _⟩,⟨by repeat (first | (with_reducible first | exact HB.out | apply zaA | apply bN | apply bD) | exact HB.out)⟩⟩
 case round =>
  clear H'
  try clear c2
  try clear p2
  obtain ⟨x7_1,rfl,HA,HK1,HB⟩:=hrel; cases gk with
  | zero => exact absurd HA.out (by simp [spec_WayValid.l0])
  | succ k1 =>
   have H:=HA.out; clear HA; simp only [spec_WayValid.l0] at H; by_cases c4 : x7_1 < (l2.length : Int)
   ·
    rw [if_pos c4] at H; have c4b0 : decide (x7_1 < (l2.length : Int)) = true:=decide_eq_true c4; clear c4; by_cases c5 : 0 ≤ x7_1
    ·
     rw [if_pos c5] at H; have c5b0 : decide (0 ≤ x7_1) = true:=decide_eq_true c5; clear c5; replace H:=bE H; obtain ⟨t123,A60,H⟩:=H; replace H : (if t123 = true then (if x7_1 > 0 then (if 0 ≤ (wrap64 (x7_1 - 1)) then (if (wrap64 (x7_1 - 1)) < (l2.length : Int) then ((spec_l16Wire.f k1 a0 (rd l2 (wrap64 (x7_1 - 1))) (rd l2 x7_1)).bind fun t126 => (if t126 < 0 then (some false) else (spec_WayValid.l0 k1 a0 a1 l2 (wrap64 (x7_1 + 1))))) else (none)) else (none)) else (spec_WayValid.l0 k1 a0 a1 l2 (wrap64 (x7_1 + 1)))) else (some false)) = some r:=H; have A6:=aM A60; clear A60; by_cases c7 : t123 = true
     ·
      subst c7; have H1 : (if x7_1 > 0 then (if 0 ≤ (wrap64 (x7_1 - 1)) then (if (wrap64 (x7_1 - 1)) < (l2.length : Int) then ((spec_l16Wire.f k1 a0 (rd l2 (wrap64 (x7_1 - 1))) (rd l2 x7_1)).bind fun t126 => (if t126 < 0 then (some false) else (spec_WayValid.l0 k1 a0 a1 l2 (wrap64 (x7_1 + 1))))) else (none)) else (none)) else (spec_WayValid.l0 k1 a0 a1 l2 (wrap64 (x7_1 + 1)))) = some r:=by rw [if_pos rfl] at H; exact H
      clear H; have H:=H1; clear H1; by_cases c8 : x7_1 > 0
      ·
       rw [if_pos c8] at H; have c8b0 : decide (0 < x7_1) = true:=decide_eq_true c8; clear c8; obtain ⟨ji9,hji9⟩ : ∃ j_ : Int,(wrap64 (x7_1 - 1)) = j_:=⟨_,rfl⟩
       replace H : (if 0 ≤ (ji9) then (if (ji9) < (l2.length : Int) then ((spec_l16Wire.f k1 a0 (rd l2 (ji9)) (rd l2 x7_1)).bind fun t126 => (if t126 < 0 then (some false) else (spec_WayValid.l0 k1 a0 a1 l2 (wrap64 (x7_1 + 1))))) else (none)) else (none)) = some r:=by first | (rw [hji9] at H; exact H) | (simp only [hji9] at H ⊢; exact H)
       (try rw [hji9] at A6); have hji9w : (IntKind.i64.wrap (x7_1 - 1)) = ji9:=(zaP _).trans hji9; by_cases c10 : 0 ≤ (ji9)
       ·
        rw [if_pos c10] at H; have c10b0 : decide (0 ≤ (ji9)) = true:=decide_eq_true c10; clear c10; by_cases c11 : (ji9) < (l2.length : Int)
        ·
         rw [if_pos c11] at H; have c11b0 : decide ((ji9) < (l2.length : Int)) = true:=decide_eq_true c11; clear c11; replace H:=bE H; obtain ⟨t126,A120,H⟩:=H; replace H : (if t126 < 0 then (some false) else (spec_WayValid.l0 k1 a0 a1 l2 (wrap64 (x7_1 + 1)))) = some r:=H; have A12:=aM A120; clear A120; by_cases c13 : t126 < 0
         ·
          rw [if_pos c13] at H; have c13b0 : decide (t126 < 0) = true:=decide_eq_true c13; clear c13; obtain rfl:=Option.some.inj H
          try go_wp2
          have n0_:=aM (bD HB.out); clear HB; have HB:=n0_; clear n0_; have p121 : 0 ≤ (x7_1 : Int):=oD (by assumption); have q121 : x7_1 < (l2.length : Int):=oD (by assumption); obtain ⟨ad121,e121,hx121_0⟩:=Kd.at_int HR2.out x7_1 p121 q121; have hw121_0:=hx121_0; cases e121; replace hx121_0:=(HB.out.cell (bC w _ hx121_0)).trans hx121_0; replace p121:=eq_true p121; replace q121:=eq_true q121; have p122 : 0 ≤ (x7_1 : Int):=oD (by assumption); have q122 : x7_1 < (l2.length : Int):=oD (by assumption); obtain ⟨ad122,e122,hx122_0⟩:=Kd.at_int HR2.out x7_1 p122 q122; have hw122_0:=hx122_0; obtain rfl : ad121 = ad122:=(by injection e122); replace hx122_0:=(HB.out.cell (bC w _ hx122_0)).trans hx122_0; replace p122:=eq_true p122; replace q122:=eq_true q122; have p124 : 0 ≤ ((ji9) : Int):=oD (by assumption)
          have q124 : (ji9) < (l2.length : Int):=oD (by assumption); obtain ⟨ad124,e124,hx124_0⟩:=Kd.at_int HR2.out (ji9) p124 q124; have hw124_0:=hx124_0; obtain rfl : ad121 = ad124:=(by injection e124); replace hx124_0:=(HB.out.cell (bC w _ hx124_0)).trans hx124_0; replace p124:=eq_true p124; replace q124:=eq_true q124; have p125 : 0 ≤ (x7_1 : Int):=oD (by assumption); have q125 : x7_1 < (l2.length : Int):=oD (by assumption); obtain ⟨ad125,e125,hx125_0⟩:=Kd.at_int HR2.out x7_1 p125 q125; have hw125_0:=hx125_0; obtain rfl : ad121 = ad125:=(by injection e125); replace hx125_0:=(HB.out.cell (bC w _ hx125_0)).trans hx125_0; replace p125:=eq_true p125; replace q125:=eq_true q125
          refine start_ (n:=30) (S:=fun w' => w'.cell? (ad121.add (x7_1).toNat) = some (.int .i64 (rd l2 x7_1)) ∧ w'.cell? (ad121.add (x7_1).toNat) = some (.int .i64 (rd l2 x7_1)) ∧ w'.cell? (ad121.add ((ji9)).toNat) = some (.int .i64 (rd l2 (ji9))) ∧ w'.cell? (ad121.add (x7_1).toNat) = some (.int .i64 (rd l2 x7_1))) (ds:=[]) #[false,false,false,false,false,false,false,false,false,false,false,false,false,false,false,false,false,false,false,false,false,false,false,false,false,false,false,false,false,false] (by kernel_rfl) rfl rfl ⟨((HB.out.cell (bC w _ hw121_0)).trans hw121_0),((HB.out.cell (bC w _ hw122_0)).trans hw122_0),((HB.out.cell (bC w _ hw124_0)).trans hw124_0),((HB.out.cell (bC w _ hw125_0)).trans hw125_0)⟩ (fun hHeld => ?_); refine zbO spec_WayValid.tab4 spec_WayValid.bits4 (fun HT_ HW_ => ?_)
          generalize wr.drew = w14 at HB hx121_0 hx122_0 hx124_0 hx125_0 hHeld ⊢; refine zaQ (i:=0) (N:=some 14) (v:=?_) (a':=?_) #[true,false,false,false,false,false,false,false,false,false,false,false,false,false,false,false,false,false,false,false,false,false,false,false,false,false,false,false,false,false] rfl rfl (zaO HT_.out (by kernel_rfl)) (fun _ _ _ h => h) (Or.inl ⟨by rfl,?_⟩) ?_ ?_; rotate_left
          ·
           intro w'; go_simp; with_reducible rfl
          rotate_left
          ·
           simp only [Act.put,sA,sB,sC,zaP]; rfl
          refine zaQ (i:=1) (N:=some 15) (v:=?_) (a':=?_) #[true,true,false,false,false,false,false,false,false,false,false,false,false,false,false,false,false,false,false,false,false,false,false,false,false,false,false,false,false,false] rfl rfl (zaO HT_.out (by kernel_rfl)) (fun _ _ _ h => h) (Or.inl ⟨by rfl,?_⟩) ?_ ?_; rotate_left
          ·
           intro w'; go_simp; with_reducible rfl
          rotate_left
          ·
           simp only [Act.put,sA,sB,sC,zaP]; rfl
          refine zaQ (i:=2) (N:=some 16) (v:=?_) (a':=?_) #[true,true,true,false,false,false,false,false,false,false,false,false,false,false,false,false,false,false,false,false,false,false,false,false,false,false,false,false,false,false] rfl rfl (zaO HT_.out (by kernel_rfl)) (fun _ _ _ h => h) (Or.inl ⟨by rfl,?_⟩) ?_ ?_; rotate_left
          ·
           intro w'; go_simp; with_reducible rfl
          rotate_left
          ·
           simp only [Act.put,sA,sB,sC,zaP]; rfl
          refine zaQ (i:=3) (N:=some 17) (v:=?_) (a':=?_) #[true,true,true,true,false,false,false,false,false,false,false,false,false,false,false,false,false,false,false,false,false,false,false,false,false,false,false,false,false,false] rfl rfl (zaO HT_.out (by kernel_rfl)) (fun _ _ _ h => h) (Or.inl ⟨by rfl,?_⟩) ?_ ?_; rotate_left
          ·
           intro w'; go_simp; with_reducible rfl
          rotate_left
          ·
           simp only [Act.put,sA,sB,sC,zaP]; rfl
          refine zaQ (i:=4) (N:=some 18) (v:=?_) (a':=?_) #[true,true,true,true,true,false,false,false,false,false,false,false,false,false,false,false,false,false,false,false,false,false,false,false,false,false,false,false,false,false] rfl rfl (zaO HT_.out (by kernel_rfl)) (fun _ _ _ h => h) (Or.inl ⟨by rfl,?_⟩) ?_ ?_; rotate_left
          ·
           intro w'; go_simp; with_reducible rfl
          rotate_left
          ·
           simp only [Act.put,sA,sB,sC,zaP]; rfl
          refine zaQ (i:=6) (N:=some 20) (v:=?_) (a':=?_) #[true,true,true,true,true,false,true,false,false,false,false,false,false,false,false,false,false,false,false,false,false,false,false,false,false,false,false,false,false,false] rfl rfl (zaO HT_.out (by kernel_rfl)) (fun _ _ _ h => h) (Or.inl ⟨by rfl,?_⟩) ?_ ?_; rotate_left
          ·
           intro w'; go_simp; with_reducible rfl
          rotate_left
          ·
           simp only [Act.put,sA,sB,sC,zaP]; rfl
          refine zaQ (i:=7) (N:=some 21) (v:=?_) (a':=?_) #[true,true,true,true,true,false,true,true,false,false,false,false,false,false,false,false,false,false,false,false,false,false,false,false,false,false,false,false,false,false] rfl rfl (zaO HT_.out (by kernel_rfl)) (fun _ _ _ h => h) (Or.inl ⟨by rfl,?_⟩) ?_ ?_; rotate_left
          ·
           intro w'; go_simp; with_reducible rfl
          rotate_left
          ·
           simp only [Act.put,sA,sB,sC,zaP]; rfl
          refine zaQ (i:=8) (N:=some 22) (v:=?_) (a':=?_) #[true,true,true,true,true,false,true,true,true,false,false,false,false,false,false,false,false,false,false,false,false,false,false,false,false,false,false,false,false,false] rfl rfl (zaO HT_.out (by kernel_rfl)) (fun _ _ _ h => h) (Or.inl ⟨by rfl,?_⟩) ?_ ?_; rotate_left
          ·
           intro w'; go_simp; with_reducible rfl
          rotate_left
          ·
           simp only [Act.put,sA,sB,sC,zaP]; rfl
          refine take_ (i:=5) (N:=some 19) (v:=?_) (a':=?_) #[true,true,true,true,true,true,true,true,true,false,false,false,false,false,false,false,false,false,false,false,false,false,false,false,false,false,false,false,false,false] rfl rfl (zaX HT_.out HW_.out (by kernel_rfl)) (fun _ _ _ h => h) (Or.inl ⟨by rfl,?_⟩) hHeld ?_ ?_; rotate_left
          ·
           rintro w' ⟨s0,s1,s2,s3⟩; go_simp; with_reducible rfl
          rotate_left
          ·
           simp only [Act.put,sA,sB,sC,zaP]; rfl
          refine take_ (i:=9) (N:=some 23) (v:=?_) (a':=?_) #[true,true,true,true,true,true,true,true,true,true,false,false,false,false,false,false,false,false,false,false,false,false,false,false,false,false,false,false,false,false] rfl rfl (zaX HT_.out HW_.out (by kernel_rfl)) (fun _ _ _ h => h) (Or.inl ⟨by rfl,?_⟩) hHeld ?_ ?_; rotate_left
          ·
           rintro w' ⟨s0,s1,s2,s3⟩; go_simp; with_reducible rfl
          rotate_left
          ·
           simp only [Act.put,sA,sB,sC,zaP]; rfl
          refine one_ (i:=10) (N:=some 24) #[true,true,true,true,true,true,true,true,true,true,true,false,false,false,false,false,false,false,false,false,false,false,false,false,false,false,false,false,false,false] rfl rfl (zbP HT_.out (by kernel_rfl)) (by decide) (fun K hK => ?_); refine goes_ Try.func93 (by kernel_rfl) rfl #[.int .i64 a0,.int .i64 a1,.int .i64 (rd l2 x7_1),.int .i64 (rd l2 x7_1)] (by rfl) rfl rfl (by (try simp only [mA,mB,mC]); first | done | rfl | (simp only [mE,mD]; rfl)) ?_; (with_reducible refine (spec_l16Nodes.calls a0 a1 (rd l2 x7_1) (rd l2 x7_1) true _ A6.out).mono ?_); rintro e w' ⟨rfl,⟨nd,rfl⟩⟩; refine ⟨_,rfl,?_⟩
          refine hK.out _ _ ⟨((HB.out.cell (bC w _ hw121_0)).trans hw121_0),((HB.out.cell (bC w _ hw122_0)).trans hw122_0),((HB.out.cell (bC w _ hw124_0)).trans hw124_0),((HB.out.cell (bC w _ hw125_0)).trans hw125_0)⟩ (fun hHeld => ?_); clear hK K; refine norm_ (a':=?_) ?_ ?_; rotate_left
          ·
           show Act.put _ (some 24) _ = _
           simp only [Act.put,sA,sB,sC,zaP]; rfl
          refine zaQ (i:=11) (N:=some 25) (v:=?_) (a':=?_) #[true,true,true,true,true,true,true,true,true,true,true,true,false,false,false,false,false,false,false,false,false,false,false,false,false,false,false,false,false,false] rfl rfl (zaO HT_.out (by kernel_rfl)) (fun _ _ _ h => h) (Or.inl ⟨by rfl,?_⟩) ?_ ?_; rotate_left
          ·
           intro w'; go_simp; with_reducible rfl
          rotate_left
          ·
           simp only [Act.put,sA,sB,sC,zaP]; rfl
          refine zaQ (i:=12) (N:=some 26) (v:=?_) (a':=?_) #[true,true,true,true,true,true,true,true,true,true,true,true,true,false,false,false,false,false,false,false,false,false,false,false,false,false,false,false,false,false] rfl rfl (zaO HT_.out (by kernel_rfl)) (fun _ _ _ h => h) (Or.inl ⟨by rfl,?_⟩) ?_ ?_; rotate_left
          ·
           intro w'; go_simp; with_reducible rfl
          rotate_left
          ·
           simp only [Act.put,sA,sB,sC,zaP]; rfl
          refine zaQ (i:=13) (N:=some 27) (v:=?_) (a':=?_) #[true,true,true,true,true,true,true,true,true,true,true,true,true,true,false,false,false,false,false,false,false,false,false,false,false,false,false,false,false,false] rfl rfl (zaO HT_.out (by kernel_rfl)) (fun _ _ _ h => h) (Or.inl ⟨by rfl,?_⟩) ?_ ?_; rotate_left
          ·
           intro w'; go_simp; with_reducible rfl
          rotate_left
          ·
           simp only [Act.put,sA,sB,sC,zaP]; rfl
          refine zaQ (i:=14) (N:=some 28) (v:=?_) (a':=?_) #[true,true,true,true,true,true,true,true,true,true,true,true,true,true,true,false,false,false,false,false,false,false,false,false,false,false,false,false,false,false] rfl rfl (zaO HT_.out (by kernel_rfl)) (fun _ _ _ h => h) (Or.inl ⟨by rfl,?_⟩) ?_ ?_; rotate_left
          ·
           intro w'; go_simp; with_reducible rfl
          rotate_left
          ·
           simp only [Act.put,sA,sB,sC,zaP]; rfl
          refine zaQ (i:=15) (N:=some 29) (v:=?_) (a':=?_) #[true,true,true,true,true,true,true,true,true,true,true,true,true,true,true,true,false,false,false,false,false,false,false,false,false,false,false,false,false,false] rfl rfl (zaO HT_.out (by kernel_rfl)) (fun _ _ _ h => h) (Or.inl ⟨by rfl,?_⟩) ?_ ?_; rotate_left
          ·
           intro w'; go_simp; with_reducible rfl
          rotate_left
          ·
           simp only [Act.put,sA,sB,sC,zaP]; rfl
          refine zaQ (i:=16) (N:=some 30) (v:=?_) (a':=?_) #[true,true,true,true,true,true,true,true,true,true,true,true,true,true,true,true,true,false,false,false,false,false,false,false,false,false,false,false,false,false] rfl rfl (zaO HT_.out (by kernel_rfl)) (fun _ _ _ h => h) (Or.inl ⟨by rfl,?_⟩) ?_ ?_; rotate_left
          ·
           intro w'; go_simp; with_reducible rfl
          rotate_left
          ·
           simp only [Act.put,sA,sB,sC,zaP]; rfl
          refine zaQ (i:=17) (N:=some 31) (v:=?_) (a':=?_) #[true,true,true,true,true,true,true,true,true,true,true,true,true,true,true,true,true,true,false,false,false,false,false,false,false,false,false,false,false,false] rfl rfl (zaO HT_.out (by kernel_rfl)) (fun _ _ _ h => h) (Or.inl ⟨by rfl,?_⟩) ?_ ?_; rotate_left
          ·
           intro w'; go_simp; with_reducible rfl
          rotate_left
          ·
           simp only [Act.put,sA,sB,sC,zaP]; rfl
          refine zaQ (i:=18) (N:=some 32) (v:=?_) (a':=?_) #[true,true,true,true,true,true,true,true,true,true,true,true,true,true,true,true,true,true,true,false,false,false,false,false,false,false,false,false,false,false] rfl rfl (zaO HT_.out (by kernel_rfl)) (fun _ _ _ h => h) (Or.inl ⟨by rfl,?_⟩) ?_ ?_; rotate_left
          ·
           intro w'; go_simp; with_reducible rfl
          rotate_left
          ·
           simp only [Act.put,sA,sB,sC,zaP]; rfl
          refine zaQ (i:=19) (N:=some 33) (v:=?_) (a':=?_) #[true,true,true,true,true,true,true,true,true,true,true,true,true,true,true,true,true,true,true,true,false,false,false,false,false,false,false,false,false,false] rfl rfl (zaO HT_.out (by kernel_rfl)) (fun _ _ _ h => h) (Or.inl ⟨by rfl,?_⟩) ?_ ?_; rotate_left
          ·
           intro w'; go_simp; with_reducible rfl
          rotate_left
          ·
           simp only [Act.put,sA,sB,sC,zaP]; rfl
          refine zaQ (i:=20) (N:=some 34) (v:=?_) (a':=?_) #[true,true,true,true,true,true,true,true,true,true,true,true,true,true,true,true,true,true,true,true,true,false,false,false,false,false,false,false,false,false] rfl rfl (zaO HT_.out (by kernel_rfl)) (fun _ _ _ h => h) (Or.inl ⟨by rfl,?_⟩) ?_ ?_; rotate_left
          ·
           intro w'; go_simp; with_reducible rfl
          rotate_left
          ·
           simp only [Act.put,sA,sB,sC,zaP]; rfl
          refine zaQ (i:=22) (N:=some 36) (v:=?_) (a':=?_) #[true,true,true,true,true,true,true,true,true,true,true,true,true,true,true,true,true,true,true,true,true,false,true,false,false,false,false,false,false,false] rfl rfl (zaO HT_.out (by kernel_rfl)) (fun _ _ _ h => h) (Or.inl ⟨by rfl,?_⟩) ?_ ?_; rotate_left
          ·
           intro w'; go_simp; with_reducible rfl
          rotate_left
          ·
           simp only [Act.put,sA,sB,sC,zaP]; rfl
          refine zaQ (i:=23) (N:=some 37) (v:=?_) (a':=?_) #[true,true,true,true,true,true,true,true,true,true,true,true,true,true,true,true,true,true,true,true,true,false,true,true,false,false,false,false,false,false] rfl rfl (zaO HT_.out (by kernel_rfl)) (fun _ _ _ h => h) (Or.inl ⟨by rfl,?_⟩) ?_ ?_; rotate_left
          ·
           intro w'; go_simp; with_reducible rfl
          rotate_left
          ·
           simp only [Act.put,sA,sB,sC,zaP]; rfl
          refine zaQ (i:=24) (N:=some 38) (v:=?_) (a':=?_) #[true,true,true,true,true,true,true,true,true,true,true,true,true,true,true,true,true,true,true,true,true,false,true,true,true,false,false,false,false,false] rfl rfl (zaO HT_.out (by kernel_rfl)) (fun _ _ _ h => h) (Or.inl ⟨by rfl,?_⟩) ?_ ?_; rotate_left
          ·
           intro w'; go_simp; with_reducible rfl
          rotate_left
          ·
           simp only [Act.put,sA,sB,sC,zaP]; rfl
          refine take_ (i:=21) (N:=some 35) (v:=?_) (a':=?_) #[true,true,true,true,true,true,true,true,true,true,true,true,true,true,true,true,true,true,true,true,true,true,true,true,true,false,false,false,false,false] rfl rfl (zaX HT_.out HW_.out (by kernel_rfl)) (fun _ _ _ h => h) (Or.inl ⟨by rfl,?_⟩) hHeld ?_ ?_; rotate_left
          ·
           rintro w' ⟨s0,s1,s2,s3⟩; go_simp; with_reducible rfl
          rotate_left
          ·
           simp only [Act.put,sA,sB,sC,zaP]; rfl
          refine take_ (i:=25) (N:=some 39) (v:=?_) (a':=?_) #[true,true,true,true,true,true,true,true,true,true,true,true,true,true,true,true,true,true,true,true,true,true,true,true,true,true,false,false,false,false] rfl rfl (zaX HT_.out HW_.out (by kernel_rfl)) (fun _ _ _ h => h) (Or.inl ⟨by rfl,?_⟩) hHeld ?_ ?_; rotate_left
          ·
           rintro w' ⟨s0,s1,s2,s3⟩; go_simp; with_reducible rfl
          rotate_left
          ·
           simp only [Act.put,sA,sB,sC,zaP]; rfl
          refine one_ (i:=26) (N:=some 40) #[true,true,true,true,true,true,true,true,true,true,true,true,true,true,true,true,true,true,true,true,true,true,true,true,true,true,true,false,false,false] rfl rfl (zbP HT_.out (by kernel_rfl)) (by decide) (fun K hK => ?_); refine goes_ Try.func71 (by kernel_rfl) rfl #[.int .i64 a0,.int .i64 (rd l2 (ji9)),.int .i64 (rd l2 x7_1)] (by rfl) rfl rfl (by (try simp only [mA,mB,mC]); first | done | (simp only [hji9]; rfl) | rfl | (simp only [mE,mD]; rfl)) ?_; (with_reducible refine (spec_l16Wire.calls k1 a0 (rd l2 (ji9)) (rd l2 x7_1) t126 _ A12.out).mono ?_); rintro e w' ⟨rfl,⟨nd,rfl⟩⟩; refine ⟨_,rfl,?_⟩
          refine hK.out _ _ ⟨((HB.out.cell (bC w _ hw121_0)).trans hw121_0),((HB.out.cell (bC w _ hw122_0)).trans hw122_0),((HB.out.cell (bC w _ hw124_0)).trans hw124_0),((HB.out.cell (bC w _ hw125_0)).trans hw125_0)⟩ (fun hHeld => ?_); clear hK K; refine norm_ (a':=?_) ?_ ?_; rotate_left
          ·
           show Act.put _ (some 40) _ = _
           simp only [Act.put,sA,sB,sC,zaP]; rfl
          refine zaQ (i:=27) (N:=some 41) (v:=?_) (a':=?_) #[true,true,true,true,true,true,true,true,true,true,true,true,true,true,true,true,true,true,true,true,true,true,true,true,true,true,true,true,false,false] rfl rfl (zaO HT_.out (by kernel_rfl)) (fun _ _ _ h => h) (Or.inl ⟨by rfl,?_⟩) ?_ ?_; rotate_left
          ·
           intro w'; go_simp; with_reducible rfl
          rotate_left
          ·
           simp only [Act.put,sA,sB,sC,zaP]; rfl
          refine zaQ (i:=28) (N:=some 42) (v:=?_) (a':=?_) #[true,true,true,true,true,true,true,true,true,true,true,true,true,true,true,true,true,true,true,true,true,true,true,true,true,true,true,true,true,false] rfl rfl (zaO HT_.out (by kernel_rfl)) (fun _ _ _ h => h) (Or.inl ⟨by rfl,?_⟩) ?_ ?_; rotate_left
          ·
           intro w'; go_simp; with_reducible rfl
          rotate_left
          ·
           simp only [Act.put,sA,sB,sC,zaP]; rfl
          refine zaQ (i:=29) (N:=some 43) (v:=?_) (a':=?_) #[true,true,true,true,true,true,true,true,true,true,true,true,true,true,true,true,true,true,true,true,true,true,true,true,true,true,true,true,true,true] rfl rfl (zaO HT_.out (by kernel_rfl)) (fun _ _ _ h => h) (Or.inl ⟨by rfl,?_⟩) ?_ ?_; rotate_left
          ·
           intro w'; go_simp; with_reducible rfl
          rotate_left
          ·
           simp only [Act.put,sA,sB,sC,zaP]; rfl
          refine done_ (done_of HT_.out (by kernel_rfl)) ?_
          try go_wp2
          go_ret; exact ⟨by first | rfl | (simp [errW_none,errW_some] <;> rfl) | (simp only [← hji9]; first | rfl | (simp [errW_none,errW_some] <;> rfl)) | (simp [*,errW_none,errW_some] <;> rfl),by repeat (first | (with_reducible first | exact HB.out | apply zaA | apply bN | apply bD) | exact HB.out)⟩
         ·
          rw [if_neg c13] at H; have c13b0 : decide (t126 < 0) = false:=decide_eq_false c13; clear c13; have H':=aM H; clear H
          try go_wp2
          have n0_:=aM (bD HB.out); clear HB; have HB:=n0_; clear n0_; have p121 : 0 ≤ (x7_1 : Int):=oD (by assumption); have q121 : x7_1 < (l2.length : Int):=oD (by assumption); obtain ⟨ad121,e121,hx121_0⟩:=Kd.at_int HR2.out x7_1 p121 q121; have hw121_0:=hx121_0; cases e121; replace hx121_0:=(HB.out.cell (bC w _ hx121_0)).trans hx121_0; replace p121:=eq_true p121; replace q121:=eq_true q121; have p122 : 0 ≤ (x7_1 : Int):=oD (by assumption); have q122 : x7_1 < (l2.length : Int):=oD (by assumption); obtain ⟨ad122,e122,hx122_0⟩:=Kd.at_int HR2.out x7_1 p122 q122; have hw122_0:=hx122_0; obtain rfl : ad121 = ad122:=(by injection e122); replace hx122_0:=(HB.out.cell (bC w _ hx122_0)).trans hx122_0; replace p122:=eq_true p122; replace q122:=eq_true q122; have p124 : 0 ≤ ((ji9) : Int):=oD (by assumption)
          have q124 : (ji9) < (l2.length : Int):=oD (by assumption); obtain ⟨ad124,e124,hx124_0⟩:=Kd.at_int HR2.out (ji9) p124 q124; have hw124_0:=hx124_0; obtain rfl : ad121 = ad124:=(by injection e124); replace hx124_0:=(HB.out.cell (bC w _ hx124_0)).trans hx124_0; replace p124:=eq_true p124; replace q124:=eq_true q124; have p125 : 0 ≤ (x7_1 : Int):=oD (by assumption); have q125 : x7_1 < (l2.length : Int):=oD (by assumption); obtain ⟨ad125,e125,hx125_0⟩:=Kd.at_int HR2.out x7_1 p125 q125; have hw125_0:=hx125_0; obtain rfl : ad121 = ad125:=(by injection e125); replace hx125_0:=(HB.out.cell (bC w _ hx125_0)).trans hx125_0; replace p125:=eq_true p125; replace q125:=eq_true q125
          refine start_ (n:=30) (S:=fun w' => w'.cell? (ad121.add (x7_1).toNat) = some (.int .i64 (rd l2 x7_1)) ∧ w'.cell? (ad121.add (x7_1).toNat) = some (.int .i64 (rd l2 x7_1)) ∧ w'.cell? (ad121.add ((ji9)).toNat) = some (.int .i64 (rd l2 (ji9))) ∧ w'.cell? (ad121.add (x7_1).toNat) = some (.int .i64 (rd l2 x7_1))) (ds:=[]) #[false,false,false,false,false,false,false,false,false,false,false,false,false,false,false,false,false,false,false,false,false,false,false,false,false,false,false,false,false,false] (by kernel_rfl) rfl rfl ⟨((HB.out.cell (bC w _ hw121_0)).trans hw121_0),((HB.out.cell (bC w _ hw122_0)).trans hw122_0),((HB.out.cell (bC w _ hw124_0)).trans hw124_0),((HB.out.cell (bC w _ hw125_0)).trans hw125_0)⟩ (fun hHeld => ?_); refine zbO spec_WayValid.tab4 spec_WayValid.bits4 (fun HT_ HW_ => ?_)
          generalize wr.drew = w15 at HB hx121_0 hx122_0 hx124_0 hx125_0 hHeld ⊢; refine zaQ (i:=0) (N:=some 14) (v:=?_) (a':=?_) #[true,false,false,false,false,false,false,false,false,false,false,false,false,false,false,false,false,false,false,false,false,false,false,false,false,false,false,false,false,false] rfl rfl (zaO HT_.out (by kernel_rfl)) (fun _ _ _ h => h) (Or.inl ⟨by rfl,?_⟩) ?_ ?_; rotate_left
          ·
           intro w'; go_simp; with_reducible rfl
          rotate_left
          ·
           simp only [Act.put,sA,sB,sC,zaP]; rfl
          refine zaQ (i:=1) (N:=some 15) (v:=?_) (a':=?_) #[true,true,false,false,false,false,false,false,false,false,false,false,false,false,false,false,false,false,false,false,false,false,false,false,false,false,false,false,false,false] rfl rfl (zaO HT_.out (by kernel_rfl)) (fun _ _ _ h => h) (Or.inl ⟨by rfl,?_⟩) ?_ ?_; rotate_left
          ·
           intro w'; go_simp; with_reducible rfl
          rotate_left
          ·
           simp only [Act.put,sA,sB,sC,zaP]; rfl
          refine zaQ (i:=2) (N:=some 16) (v:=?_) (a':=?_) #[true,true,true,false,false,false,false,false,false,false,false,false,false,false,false,false,false,false,false,false,false,false,false,false,false,false,false,false,false,false] rfl rfl (zaO HT_.out (by kernel_rfl)) (fun _ _ _ h => h) (Or.inl ⟨by rfl,?_⟩) ?_ ?_; rotate_left
          ·
           intro w'; go_simp; with_reducible rfl
          rotate_left
          ·
           simp only [Act.put,sA,sB,sC,zaP]; rfl
          refine zaQ (i:=3) (N:=some 17) (v:=?_) (a':=?_) #[true,true,true,true,false,false,false,false,false,false,false,false,false,false,false,false,false,false,false,false,false,false,false,false,false,false,false,false,false,false] rfl rfl (zaO HT_.out (by kernel_rfl)) (fun _ _ _ h => h) (Or.inl ⟨by rfl,?_⟩) ?_ ?_; rotate_left
          ·
           intro w'; go_simp; with_reducible rfl
          rotate_left
          ·
           simp only [Act.put,sA,sB,sC,zaP]; rfl
          refine zaQ (i:=4) (N:=some 18) (v:=?_) (a':=?_) #[true,true,true,true,true,false,false,false,false,false,false,false,false,false,false,false,false,false,false,false,false,false,false,false,false,false,false,false,false,false] rfl rfl (zaO HT_.out (by kernel_rfl)) (fun _ _ _ h => h) (Or.inl ⟨by rfl,?_⟩) ?_ ?_; rotate_left
          ·
           intro w'; go_simp; with_reducible rfl
          rotate_left
          ·
           simp only [Act.put,sA,sB,sC,zaP]; rfl
          refine zaQ (i:=6) (N:=some 20) (v:=?_) (a':=?_) #[true,true,true,true,true,false,true,false,false,false,false,false,false,false,false,false,false,false,false,false,false,false,false,false,false,false,false,false,false,false] rfl rfl (zaO HT_.out (by kernel_rfl)) (fun _ _ _ h => h) (Or.inl ⟨by rfl,?_⟩) ?_ ?_; rotate_left
          ·
           intro w'; go_simp; with_reducible rfl
          rotate_left
          ·
           simp only [Act.put,sA,sB,sC,zaP]; rfl
          refine zaQ (i:=7) (N:=some 21) (v:=?_) (a':=?_) #[true,true,true,true,true,false,true,true,false,false,false,false,false,false,false,false,false,false,false,false,false,false,false,false,false,false,false,false,false,false] rfl rfl (zaO HT_.out (by kernel_rfl)) (fun _ _ _ h => h) (Or.inl ⟨by rfl,?_⟩) ?_ ?_; rotate_left
          ·
           intro w'; go_simp; with_reducible rfl
          rotate_left
          ·
           simp only [Act.put,sA,sB,sC,zaP]; rfl
          refine zaQ (i:=8) (N:=some 22) (v:=?_) (a':=?_) #[true,true,true,true,true,false,true,true,true,false,false,false,false,false,false,false,false,false,false,false,false,false,false,false,false,false,false,false,false,false] rfl rfl (zaO HT_.out (by kernel_rfl)) (fun _ _ _ h => h) (Or.inl ⟨by rfl,?_⟩) ?_ ?_; rotate_left
          ·
           intro w'; go_simp; with_reducible rfl
          rotate_left
          ·
           simp only [Act.put,sA,sB,sC,zaP]; rfl
          refine take_ (i:=5) (N:=some 19) (v:=?_) (a':=?_) #[true,true,true,true,true,true,true,true,true,false,false,false,false,false,false,false,false,false,false,false,false,false,false,false,false,false,false,false,false,false] rfl rfl (zaX HT_.out HW_.out (by kernel_rfl)) (fun _ _ _ h => h) (Or.inl ⟨by rfl,?_⟩) hHeld ?_ ?_; rotate_left
          ·
           rintro w' ⟨s0,s1,s2,s3⟩; go_simp; with_reducible rfl
          rotate_left
          ·
           simp only [Act.put,sA,sB,sC,zaP]; rfl
          refine take_ (i:=9) (N:=some 23) (v:=?_) (a':=?_) #[true,true,true,true,true,true,true,true,true,true,false,false,false,false,false,false,false,false,false,false,false,false,false,false,false,false,false,false,false,false] rfl rfl (zaX HT_.out HW_.out (by kernel_rfl)) (fun _ _ _ h => h) (Or.inl ⟨by rfl,?_⟩) hHeld ?_ ?_; rotate_left
          ·
           rintro w' ⟨s0,s1,s2,s3⟩; go_simp; with_reducible rfl
          rotate_left
          ·
           simp only [Act.put,sA,sB,sC,zaP]; rfl
          refine one_ (i:=10) (N:=some 24) #[true,true,true,true,true,true,true,true,true,true,true,false,false,false,false,false,false,false,false,false,false,false,false,false,false,false,false,false,false,false] rfl rfl (zbP HT_.out (by kernel_rfl)) (by decide) (fun K hK => ?_); refine goes_ Try.func93 (by kernel_rfl) rfl #[.int .i64 a0,.int .i64 a1,.int .i64 (rd l2 x7_1),.int .i64 (rd l2 x7_1)] (by rfl) rfl rfl (by (try simp only [mA,mB,mC]); first | done | rfl | (simp only [mE,mD]; rfl)) ?_; (with_reducible refine (spec_l16Nodes.calls a0 a1 (rd l2 x7_1) (rd l2 x7_1) true _ A6.out).mono ?_); rintro e w' ⟨rfl,⟨nd,rfl⟩⟩; refine ⟨_,rfl,?_⟩
          refine hK.out _ _ ⟨((HB.out.cell (bC w _ hw121_0)).trans hw121_0),((HB.out.cell (bC w _ hw122_0)).trans hw122_0),((HB.out.cell (bC w _ hw124_0)).trans hw124_0),((HB.out.cell (bC w _ hw125_0)).trans hw125_0)⟩ (fun hHeld => ?_); clear hK K; refine norm_ (a':=?_) ?_ ?_; rotate_left
          ·
           show Act.put _ (some 24) _ = _
           simp only [Act.put,sA,sB,sC,zaP]; rfl
          refine zaQ (i:=11) (N:=some 25) (v:=?_) (a':=?_) #[true,true,true,true,true,true,true,true,true,true,true,true,false,false,false,false,false,false,false,false,false,false,false,false,false,false,false,false,false,false] rfl rfl (zaO HT_.out (by kernel_rfl)) (fun _ _ _ h => h) (Or.inl ⟨by rfl,?_⟩) ?_ ?_; rotate_left
          ·
           intro w'; go_simp; with_reducible rfl
          rotate_left
          ·
           simp only [Act.put,sA,sB,sC,zaP]; rfl
          refine zaQ (i:=12) (N:=some 26) (v:=?_) (a':=?_) #[true,true,true,true,true,true,true,true,true,true,true,true,true,false,false,false,false,false,false,false,false,false,false,false,false,false,false,false,false,false] rfl rfl (zaO HT_.out (by kernel_rfl)) (fun _ _ _ h => h) (Or.inl ⟨by rfl,?_⟩) ?_ ?_; rotate_left
          ·
           intro w'; go_simp; with_reducible rfl
          rotate_left
          ·
           simp only [Act.put,sA,sB,sC,zaP]; rfl
          refine zaQ (i:=13) (N:=some 27) (v:=?_) (a':=?_) #[true,true,true,true,true,true,true,true,true,true,true,true,true,true,false,false,false,false,false,false,false,false,false,false,false,false,false,false,false,false] rfl rfl (zaO HT_.out (by kernel_rfl)) (fun _ _ _ h => h) (Or.inl ⟨by rfl,?_⟩) ?_ ?_; rotate_left
          ·
           intro w'; go_simp; with_reducible rfl
          rotate_left
          ·
           simp only [Act.put,sA,sB,sC,zaP]; rfl
          refine zaQ (i:=14) (N:=some 28) (v:=?_) (a':=?_) #[true,true,true,true,true,true,true,true,true,true,true,true,true,true,true,false,false,false,false,false,false,false,false,false,false,false,false,false,false,false] rfl rfl (zaO HT_.out (by kernel_rfl)) (fun _ _ _ h => h) (Or.inl ⟨by rfl,?_⟩) ?_ ?_; rotate_left
          ·
           intro w'; go_simp; with_reducible rfl
          rotate_left
          ·
           simp only [Act.put,sA,sB,sC,zaP]; rfl
          refine zaQ (i:=15) (N:=some 29) (v:=?_) (a':=?_) #[true,true,true,true,true,true,true,true,true,true,true,true,true,true,true,true,false,false,false,false,false,false,false,false,false,false,false,false,false,false] rfl rfl (zaO HT_.out (by kernel_rfl)) (fun _ _ _ h => h) (Or.inl ⟨by rfl,?_⟩) ?_ ?_; rotate_left
          ·
           intro w'; go_simp; with_reducible rfl
          rotate_left
          ·
           simp only [Act.put,sA,sB,sC,zaP]; rfl
          refine zaQ (i:=16) (N:=some 30) (v:=?_) (a':=?_) #[true,true,true,true,true,true,true,true,true,true,true,true,true,true,true,true,true,false,false,false,false,false,false,false,false,false,false,false,false,false] rfl rfl (zaO HT_.out (by kernel_rfl)) (fun _ _ _ h => h) (Or.inl ⟨by rfl,?_⟩) ?_ ?_; rotate_left
          ·
           intro w'; go_simp; with_reducible rfl
          rotate_left
          ·
           simp only [Act.put,sA,sB,sC,zaP]; rfl
          refine zaQ (i:=17) (N:=some 31) (v:=?_) (a':=?_) #[true,true,true,true,true,true,true,true,true,true,true,true,true,true,true,true,true,true,false,false,false,false,false,false,false,false,false,false,false,false] rfl rfl (zaO HT_.out (by kernel_rfl)) (fun _ _ _ h => h) (Or.inl ⟨by rfl,?_⟩) ?_ ?_; rotate_left
          ·
           intro w'; go_simp; with_reducible rfl
          rotate_left
          ·
           simp only [Act.put,sA,sB,sC,zaP]; rfl
          refine zaQ (i:=18) (N:=some 32) (v:=?_) (a':=?_) #[true,true,true,true,true,true,true,true,true,true,true,true,true,true,true,true,true,true,true,false,false,false,false,false,false,false,false,false,false,false] rfl rfl (zaO HT_.out (by kernel_rfl)) (fun _ _ _ h => h) (Or.inl ⟨by rfl,?_⟩) ?_ ?_; rotate_left
          ·
           intro w'; go_simp; with_reducible rfl
          rotate_left
          ·
           simp only [Act.put,sA,sB,sC,zaP]; rfl
          refine zaQ (i:=19) (N:=some 33) (v:=?_) (a':=?_) #[true,true,true,true,true,true,true,true,true,true,true,true,true,true,true,true,true,true,true,true,false,false,false,false,false,false,false,false,false,false] rfl rfl (zaO HT_.out (by kernel_rfl)) (fun _ _ _ h => h) (Or.inl ⟨by rfl,?_⟩) ?_ ?_; rotate_left
          ·
           intro w'; go_simp; with_reducible rfl
          rotate_left
          ·
           simp only [Act.put,sA,sB,sC,zaP]; rfl
          refine zaQ (i:=20) (N:=some 34) (v:=?_) (a':=?_) #[true,true,true,true,true,true,true,true,true,true,true,true,true,true,true,true,true,true,true,true,true,false,false,false,false,false,false,false,false,false] rfl rfl (zaO HT_.out (by kernel_rfl)) (fun _ _ _ h => h) (Or.inl ⟨by rfl,?_⟩) ?_ ?_; rotate_left
          ·
           intro w'; go_simp; with_reducible rfl
          rotate_left
          ·
           simp only [Act.put,sA,sB,sC,zaP]; rfl
          refine zaQ (i:=22) (N:=some 36) (v:=?_) (a':=?_) #[true,true,true,true,true,true,true,true,true,true,true,true,true,true,true,true,true,true,true,true,true,false,true,false,false,false,false,false,false,false] rfl rfl (zaO HT_.out (by kernel_rfl)) (fun _ _ _ h => h) (Or.inl ⟨by rfl,?_⟩) ?_ ?_; rotate_left
          ·
           intro w'; go_simp; with_reducible rfl
          rotate_left
          ·
           simp only [Act.put,sA,sB,sC,zaP]; rfl
          refine zaQ (i:=23) (N:=some 37) (v:=?_) (a':=?_) #[true,true,true,true,true,true,true,true,true,true,true,true,true,true,true,true,true,true,true,true,true,false,true,true,false,false,false,false,false,false] rfl rfl (zaO HT_.out (by kernel_rfl)) (fun _ _ _ h => h) (Or.inl ⟨by rfl,?_⟩) ?_ ?_; rotate_left
          ·
           intro w'; go_simp; with_reducible rfl
          rotate_left
          ·
           simp only [Act.put,sA,sB,sC,zaP]; rfl
          refine zaQ (i:=24) (N:=some 38) (v:=?_) (a':=?_) #[true,true,true,true,true,true,true,true,true,true,true,true,true,true,true,true,true,true,true,true,true,false,true,true,true,false,false,false,false,false] rfl rfl (zaO HT_.out (by kernel_rfl)) (fun _ _ _ h => h) (Or.inl ⟨by rfl,?_⟩) ?_ ?_; rotate_left
          ·
           intro w'; go_simp; with_reducible rfl
          rotate_left
          ·
           simp only [Act.put,sA,sB,sC,zaP]; rfl
          refine take_ (i:=21) (N:=some 35) (v:=?_) (a':=?_) #[true,true,true,true,true,true,true,true,true,true,true,true,true,true,true,true,true,true,true,true,true,true,true,true,true,false,false,false,false,false] rfl rfl (zaX HT_.out HW_.out (by kernel_rfl)) (fun _ _ _ h => h) (Or.inl ⟨by rfl,?_⟩) hHeld ?_ ?_; rotate_left
          ·
           rintro w' ⟨s0,s1,s2,s3⟩; go_simp; with_reducible rfl
          rotate_left
          ·
           simp only [Act.put,sA,sB,sC,zaP]; rfl
          refine take_ (i:=25) (N:=some 39) (v:=?_) (a':=?_) #[true,true,true,true,true,true,true,true,true,true,true,true,true,true,true,true,true,true,true,true,true,true,true,true,true,true,false,false,false,false] rfl rfl (zaX HT_.out HW_.out (by kernel_rfl)) (fun _ _ _ h => h) (Or.inl ⟨by rfl,?_⟩) hHeld ?_ ?_; rotate_left
          ·
           rintro w' ⟨s0,s1,s2,s3⟩; go_simp; with_reducible rfl
          rotate_left
          ·
           simp only [Act.put,sA,sB,sC,zaP]; rfl
          refine one_ (i:=26) (N:=some 40) #[true,true,true,true,true,true,true,true,true,true,true,true,true,true,true,true,true,true,true,true,true,true,true,true,true,true,true,false,false,false] rfl rfl (zbP HT_.out (by kernel_rfl)) (by decide) (fun K hK => ?_); refine goes_ Try.func71 (by kernel_rfl) rfl #[.int .i64 a0,.int .i64 (rd l2 (ji9)),.int .i64 (rd l2 x7_1)] (by rfl) rfl rfl (by (try simp only [mA,mB,mC]); first | done | (simp only [hji9]; rfl) | rfl | (simp only [mE,mD]; rfl)) ?_; (with_reducible refine (spec_l16Wire.calls k1 a0 (rd l2 (ji9)) (rd l2 x7_1) t126 _ A12.out).mono ?_); rintro e w' ⟨rfl,⟨nd,rfl⟩⟩; refine ⟨_,rfl,?_⟩
          refine hK.out _ _ ⟨((HB.out.cell (bC w _ hw121_0)).trans hw121_0),((HB.out.cell (bC w _ hw122_0)).trans hw122_0),((HB.out.cell (bC w _ hw124_0)).trans hw124_0),((HB.out.cell (bC w _ hw125_0)).trans hw125_0)⟩ (fun hHeld => ?_); clear hK K; refine norm_ (a':=?_) ?_ ?_; rotate_left
          ·
           show Act.put _ (some 40) _ = _
           simp only [Act.put,sA,sB,sC,zaP]; rfl
          refine zaQ (i:=27) (N:=some 41) (v:=?_) (a':=?_) #[true,true,true,true,true,true,true,true,true,true,true,true,true,true,true,true,true,true,true,true,true,true,true,true,true,true,true,true,false,false] rfl rfl (zaO HT_.out (by kernel_rfl)) (fun _ _ _ h => h) (Or.inl ⟨by rfl,?_⟩) ?_ ?_; rotate_left
          ·
           intro w'; go_simp; with_reducible rfl
          rotate_left
          ·
           simp only [Act.put,sA,sB,sC,zaP]; rfl
          refine zaQ (i:=28) (N:=some 42) (v:=?_) (a':=?_) #[true,true,true,true,true,true,true,true,true,true,true,true,true,true,true,true,true,true,true,true,true,true,true,true,true,true,true,true,true,false] rfl rfl (zaO HT_.out (by kernel_rfl)) (fun _ _ _ h => h) (Or.inl ⟨by rfl,?_⟩) ?_ ?_; rotate_left
          ·
           intro w'; go_simp; with_reducible rfl
          rotate_left
          ·
           simp only [Act.put,sA,sB,sC,zaP]; rfl
          refine zaQ (i:=29) (N:=some 43) (v:=?_) (a':=?_) #[true,true,true,true,true,true,true,true,true,true,true,true,true,true,true,true,true,true,true,true,true,true,true,true,true,true,true,true,true,true] rfl rfl (zaO HT_.out (by kernel_rfl)) (fun _ _ _ h => h) (Or.inl ⟨by rfl,?_⟩) ?_ ?_; rotate_left
          ·
           intro w'; go_simp; with_reducible rfl
          rotate_left
          ·
           simp only [Act.put,sA,sB,sC,zaP]; rfl
          refine done_ (done_of HT_.out (by kernel_rfl)) ?_
          try go_wp2
          go_roundg k1; case measure => have:=HK1.out; omega
          case rel => exact ⟨(wrap64 (x7_1 + 1)),(by first | rfl | (simp; done) | (simp [*]; done)),H',⟨by have:=HK1.out; omega⟩,⟨by repeat (first | (with_reducible first | exact HB.out | apply zaA | apply bN | apply bD) | exact HB.out)⟩⟩
        ·
         rw [if_neg c11] at H; exact absurd H (by simp)
       ·
        rw [if_neg c10] at H; exact absurd H (by simp)
      ·
       rw [if_neg c8] at H; have c8b0 : decide (0 < x7_1) = false:=decide_eq_false c8; clear c8; have H':=aM H; clear H
       try go_wp2
       have n0_:=aM (bD HB.out); clear HB; have HB:=n0_; clear n0_; have p121 : 0 ≤ (x7_1 : Int):=oD (by assumption); have q121 : x7_1 < (l2.length : Int):=oD (by assumption); obtain ⟨ad121,e121,hx121_0⟩:=Kd.at_int HR2.out x7_1 p121 q121; have hw121_0:=hx121_0; cases e121; replace hx121_0:=(HB.out.cell (bC w _ hx121_0)).trans hx121_0; replace p121:=eq_true p121; replace q121:=eq_true q121; have p122 : 0 ≤ (x7_1 : Int):=oD (by assumption); have q122 : x7_1 < (l2.length : Int):=oD (by assumption); obtain ⟨ad122,e122,hx122_0⟩:=Kd.at_int HR2.out x7_1 p122 q122; have hw122_0:=hx122_0; obtain rfl : ad121 = ad122:=(by injection e122); replace hx122_0:=(HB.out.cell (bC w _ hx122_0)).trans hx122_0; replace p122:=eq_true p122; replace q122:=eq_true q122
       refine start_ (n:=30) (S:=fun w' => w'.cell? (ad121.add (x7_1).toNat) = some (.int .i64 (rd l2 x7_1)) ∧ w'.cell? (ad121.add (x7_1).toNat) = some (.int .i64 (rd l2 x7_1))) (ds:=[]) #[false,false,false,false,false,false,false,false,false,false,false,false,false,false,false,false,false,false,false,false,false,false,false,false,false,false,false,false,false,false] (by kernel_rfl) rfl rfl ⟨((HB.out.cell (bC w _ hw121_0)).trans hw121_0),((HB.out.cell (bC w _ hw122_0)).trans hw122_0)⟩ (fun hHeld => ?_); refine zbO spec_WayValid.tab4 spec_WayValid.bits4 (fun HT_ HW_ => ?_); generalize wr.drew = w16 at HB hx121_0 hx122_0 hHeld ⊢
       refine zaQ (i:=0) (N:=some 14) (v:=?_) (a':=?_) #[true,false,false,false,false,false,false,false,false,false,false,false,false,false,false,false,false,false,false,false,false,false,false,false,false,false,false,false,false,false] rfl rfl (zaO HT_.out (by kernel_rfl)) (fun _ _ _ h => h) (Or.inl ⟨by rfl,?_⟩) ?_ ?_; rotate_left
       ·
        intro w'; go_simp; with_reducible rfl
       rotate_left
       ·
        simp only [Act.put,sA,sB,sC,zaP]; rfl
       refine zaQ (i:=1) (N:=some 15) (v:=?_) (a':=?_) #[true,true,false,false,false,false,false,false,false,false,false,false,false,false,false,false,false,false,false,false,false,false,false,false,false,false,false,false,false,false] rfl rfl (zaO HT_.out (by kernel_rfl)) (fun _ _ _ h => h) (Or.inl ⟨by rfl,?_⟩) ?_ ?_; rotate_left
       ·
        intro w'; go_simp; with_reducible rfl
       rotate_left
       ·
        simp only [Act.put,sA,sB,sC,zaP]; rfl
       refine zaQ (i:=2) (N:=some 16) (v:=?_) (a':=?_) #[true,true,true,false,false,false,false,false,false,false,false,false,false,false,false,false,false,false,false,false,false,false,false,false,false,false,false,false,false,false] rfl rfl (zaO HT_.out (by kernel_rfl)) (fun _ _ _ h => h) (Or.inl ⟨by rfl,?_⟩) ?_ ?_; rotate_left
       ·
        intro w'; go_simp; with_reducible rfl
       rotate_left
       ·
        simp only [Act.put,sA,sB,sC,zaP]; rfl
       refine zaQ (i:=3) (N:=some 17) (v:=?_) (a':=?_) #[true,true,true,true,false,false,false,false,false,false,false,false,false,false,false,false,false,false,false,false,false,false,false,false,false,false,false,false,false,false] rfl rfl (zaO HT_.out (by kernel_rfl)) (fun _ _ _ h => h) (Or.inl ⟨by rfl,?_⟩) ?_ ?_; rotate_left
       ·
        intro w'; go_simp; with_reducible rfl
       rotate_left
       ·
        simp only [Act.put,sA,sB,sC,zaP]; rfl
       refine zaQ (i:=4) (N:=some 18) (v:=?_) (a':=?_) #[true,true,true,true,true,false,false,false,false,false,false,false,false,false,false,false,false,false,false,false,false,false,false,false,false,false,false,false,false,false] rfl rfl (zaO HT_.out (by kernel_rfl)) (fun _ _ _ h => h) (Or.inl ⟨by rfl,?_⟩) ?_ ?_; rotate_left
       ·
        intro w'; go_simp; with_reducible rfl
       rotate_left
       ·
        simp only [Act.put,sA,sB,sC,zaP]; rfl
       refine zaQ (i:=6) (N:=some 20) (v:=?_) (a':=?_) #[true,true,true,true,true,false,true,false,false,false,false,false,false,false,false,false,false,false,false,false,false,false,false,false,false,false,false,false,false,false] rfl rfl (zaO HT_.out (by kernel_rfl)) (fun _ _ _ h => h) (Or.inl ⟨by rfl,?_⟩) ?_ ?_; rotate_left
       ·
        intro w'; go_simp; with_reducible rfl
       rotate_left
       ·
        simp only [Act.put,sA,sB,sC,zaP]; rfl
       refine zaQ (i:=7) (N:=some 21) (v:=?_) (a':=?_) #[true,true,true,true,true,false,true,true,false,false,false,false,false,false,false,false,false,false,false,false,false,false,false,false,false,false,false,false,false,false] rfl rfl (zaO HT_.out (by kernel_rfl)) (fun _ _ _ h => h) (Or.inl ⟨by rfl,?_⟩) ?_ ?_; rotate_left
       ·
        intro w'; go_simp; with_reducible rfl
       rotate_left
       ·
        simp only [Act.put,sA,sB,sC,zaP]; rfl
       refine zaQ (i:=8) (N:=some 22) (v:=?_) (a':=?_) #[true,true,true,true,true,false,true,true,true,false,false,false,false,false,false,false,false,false,false,false,false,false,false,false,false,false,false,false,false,false] rfl rfl (zaO HT_.out (by kernel_rfl)) (fun _ _ _ h => h) (Or.inl ⟨by rfl,?_⟩) ?_ ?_; rotate_left
       ·
        intro w'; go_simp; with_reducible rfl
       rotate_left
       ·
        simp only [Act.put,sA,sB,sC,zaP]; rfl
       refine take_ (i:=5) (N:=some 19) (v:=?_) (a':=?_) #[true,true,true,true,true,true,true,true,true,false,false,false,false,false,false,false,false,false,false,false,false,false,false,false,false,false,false,false,false,false] rfl rfl (zaX HT_.out HW_.out (by kernel_rfl)) (fun _ _ _ h => h) (Or.inl ⟨by rfl,?_⟩) hHeld ?_ ?_; rotate_left
       ·
        rintro w' ⟨s0,s1⟩; go_simp; with_reducible rfl
       rotate_left
       ·
        simp only [Act.put,sA,sB,sC,zaP]; rfl
       refine take_ (i:=9) (N:=some 23) (v:=?_) (a':=?_) #[true,true,true,true,true,true,true,true,true,true,false,false,false,false,false,false,false,false,false,false,false,false,false,false,false,false,false,false,false,false] rfl rfl (zaX HT_.out HW_.out (by kernel_rfl)) (fun _ _ _ h => h) (Or.inl ⟨by rfl,?_⟩) hHeld ?_ ?_; rotate_left
       ·
        rintro w' ⟨s0,s1⟩; go_simp; with_reducible rfl
       rotate_left
       ·
        simp only [Act.put,sA,sB,sC,zaP]; rfl
       refine one_ (i:=10) (N:=some 24) #[true,true,true,true,true,true,true,true,true,true,true,false,false,false,false,false,false,false,false,false,false,false,false,false,false,false,false,false,false,false] rfl rfl (zbP HT_.out (by kernel_rfl)) (by decide) (fun K hK => ?_); refine goes_ Try.func93 (by kernel_rfl) rfl #[.int .i64 a0,.int .i64 a1,.int .i64 (rd l2 x7_1),.int .i64 (rd l2 x7_1)] (by rfl) rfl rfl (by (try simp only [mA,mB,mC]); first | done | rfl | (simp only [mE,mD]; rfl)) ?_; (with_reducible refine (spec_l16Nodes.calls a0 a1 (rd l2 x7_1) (rd l2 x7_1) true _ A6.out).mono ?_); rintro e w' ⟨rfl,⟨nd,rfl⟩⟩; refine ⟨_,rfl,?_⟩; refine hK.out _ _ ⟨((HB.out.cell (bC w _ hw121_0)).trans hw121_0),((HB.out.cell (bC w _ hw122_0)).trans hw122_0)⟩ (fun hHeld => ?_); clear hK K; refine norm_ (a':=?_) ?_ ?_; rotate_left
       ·
        show Act.put _ (some 24) _ = _
        simp only [Act.put,sA,sB,sC,zaP]; rfl
       refine zaQ (i:=11) (N:=some 25) (v:=?_) (a':=?_) #[true,true,true,true,true,true,true,true,true,true,true,true,false,false,false,false,false,false,false,false,false,false,false,false,false,false,false,false,false,false] rfl rfl (zaO HT_.out (by kernel_rfl)) (fun _ _ _ h => h) (Or.inl ⟨by rfl,?_⟩) ?_ ?_; rotate_left
       ·
        intro w'; go_simp; with_reducible rfl
       rotate_left
       ·
        simp only [Act.put,sA,sB,sC,zaP]; rfl
       refine zaQ (i:=12) (N:=some 26) (v:=?_) (a':=?_) #[true,true,true,true,true,true,true,true,true,true,true,true,true,false,false,false,false,false,false,false,false,false,false,false,false,false,false,false,false,false] rfl rfl (zaO HT_.out (by kernel_rfl)) (fun _ _ _ h => h) (Or.inl ⟨by rfl,?_⟩) ?_ ?_; rotate_left
       ·
        intro w'; go_simp; with_reducible rfl
       rotate_left
       ·
        simp only [Act.put,sA,sB,sC,zaP]; rfl
       refine zaQ (i:=13) (N:=some 27) (v:=?_) (a':=?_) #[true,true,true,true,true,true,true,true,true,true,true,true,true,true,false,false,false,false,false,false,false,false,false,false,false,false,false,false,false,false] rfl rfl (zaO HT_.out (by kernel_rfl)) (fun _ _ _ h => h) (Or.inl ⟨by rfl,?_⟩) ?_ ?_; rotate_left
       ·
        intro w'; go_simp; with_reducible rfl
       rotate_left
       ·
        simp only [Act.put,sA,sB,sC,zaP]; rfl
       refine zaQ (i:=14) (N:=some 28) (v:=?_) (a':=?_) #[true,true,true,true,true,true,true,true,true,true,true,true,true,true,true,false,false,false,false,false,false,false,false,false,false,false,false,false,false,false] rfl rfl (zaO HT_.out (by kernel_rfl)) (fun _ _ _ h => h) (Or.inl ⟨by rfl,?_⟩) ?_ ?_; rotate_left
       ·
        intro w'; go_simp; with_reducible rfl
       rotate_left
       ·
        simp only [Act.put,sA,sB,sC,zaP]; rfl
       refine zaQ (i:=15) (N:=some 29) (v:=?_) (a':=?_) #[true,true,true,true,true,true,true,true,true,true,true,true,true,true,true,true,false,false,false,false,false,false,false,false,false,false,false,false,false,false] rfl rfl (zaO HT_.out (by kernel_rfl)) (fun _ _ _ h => h) (Or.inl ⟨by rfl,?_⟩) ?_ ?_; rotate_left
       ·
        intro w'; go_simp; with_reducible rfl
       rotate_left
       ·
        simp only [Act.put,sA,sB,sC,zaP]; rfl
       refine zaQ (i:=16) (N:=some 30) (v:=undef) (a':=?_) #[true,true,true,true,true,true,true,true,true,true,true,true,true,true,true,true,true,false,false,false,false,false,false,false,false,false,false,false,false,false] rfl rfl (zaO HT_.out (by kernel_rfl)) (fun _ _ _ h => h) (Or.inr ⟨by rfl,rfl⟩) ?_ ?_; rotate_left
       ·
        simp only [Act.put,sA,sB,sC,zaP]; rfl
       refine zaQ (i:=17) (N:=some 31) (v:=undef) (a':=?_) #[true,true,true,true,true,true,true,true,true,true,true,true,true,true,true,true,true,true,false,false,false,false,false,false,false,false,false,false,false,false] rfl rfl (zaO HT_.out (by kernel_rfl)) (fun _ _ _ h => h) (Or.inr ⟨by rfl,rfl⟩) ?_ ?_; rotate_left
       ·
        simp only [Act.put,sA,sB,sC,zaP]; rfl
       refine zaQ (i:=18) (N:=some 32) (v:=undef) (a':=?_) #[true,true,true,true,true,true,true,true,true,true,true,true,true,true,true,true,true,true,true,false,false,false,false,false,false,false,false,false,false,false] rfl rfl (zaO HT_.out (by kernel_rfl)) (fun _ _ _ h => h) (Or.inr ⟨by rfl,rfl⟩) ?_ ?_; rotate_left
       ·
        simp only [Act.put,sA,sB,sC,zaP]; rfl
       refine zaQ (i:=19) (N:=some 33) (v:=undef) (a':=?_) #[true,true,true,true,true,true,true,true,true,true,true,true,true,true,true,true,true,true,true,true,false,false,false,false,false,false,false,false,false,false] rfl rfl (zaO HT_.out (by kernel_rfl)) (fun _ _ _ h => h) (Or.inr ⟨by rfl,rfl⟩) ?_ ?_; rotate_left
       ·
        simp only [Act.put,sA,sB,sC,zaP]; rfl
       refine zaQ (i:=20) (N:=some 34) (v:=undef) (a':=?_) #[true,true,true,true,true,true,true,true,true,true,true,true,true,true,true,true,true,true,true,true,true,false,false,false,false,false,false,false,false,false] rfl rfl (zaO HT_.out (by kernel_rfl)) (fun _ _ _ h => h) (Or.inr ⟨by rfl,rfl⟩) ?_ ?_; rotate_left
       ·
        simp only [Act.put,sA,sB,sC,zaP]; rfl
       refine zaQ (i:=21) (N:=some 35) (v:=undef) (a':=?_) #[true,true,true,true,true,true,true,true,true,true,true,true,true,true,true,true,true,true,true,true,true,true,false,false,false,false,false,false,false,false] rfl rfl (zaO HT_.out (by kernel_rfl)) (fun _ _ _ h => h) (Or.inr ⟨by rfl,rfl⟩) ?_ ?_; rotate_left
       ·
        simp only [Act.put,sA,sB,sC,zaP]; rfl
       refine zaQ (i:=22) (N:=some 36) (v:=undef) (a':=?_) #[true,true,true,true,true,true,true,true,true,true,true,true,true,true,true,true,true,true,true,true,true,true,true,false,false,false,false,false,false,false] rfl rfl (zaO HT_.out (by kernel_rfl)) (fun _ _ _ h => h) (Or.inr ⟨by rfl,rfl⟩) ?_ ?_; rotate_left
       ·
        simp only [Act.put,sA,sB,sC,zaP]; rfl
       refine zaQ (i:=23) (N:=some 37) (v:=undef) (a':=?_) #[true,true,true,true,true,true,true,true,true,true,true,true,true,true,true,true,true,true,true,true,true,true,true,true,false,false,false,false,false,false] rfl rfl (zaO HT_.out (by kernel_rfl)) (fun _ _ _ h => h) (Or.inr ⟨by rfl,rfl⟩) ?_ ?_; rotate_left
       ·
        simp only [Act.put,sA,sB,sC,zaP]; rfl
       refine zaQ (i:=24) (N:=some 38) (v:=undef) (a':=?_) #[true,true,true,true,true,true,true,true,true,true,true,true,true,true,true,true,true,true,true,true,true,true,true,true,true,false,false,false,false,false] rfl rfl (zaO HT_.out (by kernel_rfl)) (fun _ _ _ h => h) (Or.inr ⟨by rfl,rfl⟩) ?_ ?_; rotate_left
       ·
        simp only [Act.put,sA,sB,sC,zaP]; rfl
       refine zaQ (i:=25) (N:=some 39) (v:=undef) (a':=?_) #[true,true,true,true,true,true,true,true,true,true,true,true,true,true,true,true,true,true,true,true,true,true,true,true,true,true,false,false,false,false] rfl rfl (zaO HT_.out (by kernel_rfl)) (fun _ _ _ h => h) (Or.inr ⟨by rfl,rfl⟩) ?_ ?_; rotate_left
       ·
        simp only [Act.put,sA,sB,sC,zaP]; rfl
       refine zaQ (i:=26) (N:=some 40) (v:=undef) (a':=?_) #[true,true,true,true,true,true,true,true,true,true,true,true,true,true,true,true,true,true,true,true,true,true,true,true,true,true,true,false,false,false] rfl rfl (zaO HT_.out (by kernel_rfl)) (fun _ _ _ h => h) (Or.inr ⟨by rfl,rfl⟩) ?_ ?_; rotate_left
       ·
        simp only [Act.put,sA,sB,sC,zaP]; rfl
       refine zaQ (i:=27) (N:=some 41) (v:=undef) (a':=?_) #[true,true,true,true,true,true,true,true,true,true,true,true,true,true,true,true,true,true,true,true,true,true,true,true,true,true,true,true,false,false] rfl rfl (zaO HT_.out (by kernel_rfl)) (fun _ _ _ h => h) (Or.inr ⟨by rfl,rfl⟩) ?_ ?_; rotate_left
       ·
        simp only [Act.put,sA,sB,sC,zaP]; rfl
       refine zaQ (i:=28) (N:=some 42) (v:=?_) (a':=?_) #[true,true,true,true,true,true,true,true,true,true,true,true,true,true,true,true,true,true,true,true,true,true,true,true,true,true,true,true,true,false] rfl rfl (zaO HT_.out (by kernel_rfl)) (fun _ _ _ h => h) (Or.inl ⟨by rfl,?_⟩) ?_ ?_; rotate_left
       ·
        intro w'; go_simp; with_reducible rfl
       rotate_left
       ·
        simp only [Act.put,sA,sB,sC,zaP]; rfl
       refine zaQ (i:=29) (N:=some 43) (v:=?_) (a':=?_) #[true,true,true,true,true,true,true,true,true,true,true,true,true,true,true,true,true,true,true,true,true,true,true,true,true,true,true,true,true,true] rfl rfl (zaO HT_.out (by kernel_rfl)) (fun _ _ _ h => h) (Or.inl ⟨by rfl,?_⟩) ?_ ?_; rotate_left
       ·
        intro w'; go_simp; with_reducible rfl
       rotate_left
       ·
        simp only [Act.put,sA,sB,sC,zaP]; rfl
       refine done_ (done_of HT_.out (by kernel_rfl)) ?_
       try go_wp2
       go_roundg k1; case measure => have:=HK1.out; omega
       case rel => exact ⟨(wrap64 (x7_1 + 1)),(by first | rfl | (simp; done) | (simp [*]; done)),H',⟨by have:=HK1.out; omega⟩,⟨by repeat (first | (with_reducible first | exact HB.out | apply zaA | apply bN | apply bD) | exact HB.out)⟩⟩
     ·
      replace c7:=Bool.eq_false_iff.mpr c7; subst c7; have H1 : (some false) = some r:=by rw [if_neg (show ¬ (false = true) by decide)] at H; exact H
      clear H; have H:=H1; clear H1; obtain rfl:=Option.some.inj H
      try go_wp2
      have n0_:=aM (bD HB.out); clear HB; have HB:=n0_; clear n0_; have p121 : 0 ≤ (x7_1 : Int):=oD (by assumption); have q121 : x7_1 < (l2.length : Int):=oD (by assumption); obtain ⟨ad121,e121,hx121_0⟩:=Kd.at_int HR2.out x7_1 p121 q121; have hw121_0:=hx121_0; cases e121; replace hx121_0:=(HB.out.cell (bC w _ hx121_0)).trans hx121_0; replace p121:=eq_true p121; replace q121:=eq_true q121; have p122 : 0 ≤ (x7_1 : Int):=oD (by assumption); have q122 : x7_1 < (l2.length : Int):=oD (by assumption); obtain ⟨ad122,e122,hx122_0⟩:=Kd.at_int HR2.out x7_1 p122 q122; have hw122_0:=hx122_0; obtain rfl : ad121 = ad122:=(by injection e122); replace hx122_0:=(HB.out.cell (bC w _ hx122_0)).trans hx122_0; replace p122:=eq_true p122; replace q122:=eq_true q122
      refine start_ (n:=30) (S:=fun w' => w'.cell? (ad121.add (x7_1).toNat) = some (.int .i64 (rd l2 x7_1)) ∧ w'.cell? (ad121.add (x7_1).toNat) = some (.int .i64 (rd l2 x7_1))) (ds:=[]) #[false,false,false,false,false,false,false,false,false,false,false,false,false,false,false,false,false,false,false,false,false,false,false,false,false,false,false,false,false,false] (by kernel_rfl) rfl rfl ⟨((HB.out.cell (bC w _ hw121_0)).trans hw121_0),((HB.out.cell (bC w _ hw122_0)).trans hw122_0)⟩ (fun hHeld => ?_); refine zbO spec_WayValid.tab4 spec_WayValid.bits4 (fun HT_ HW_ => ?_); generalize wr.drew = w17 at HB hx121_0 hx122_0 hHeld ⊢
      refine zaQ (i:=0) (N:=some 14) (v:=?_) (a':=?_) #[true,false,false,false,false,false,false,false,false,false,false,false,false,false,false,false,false,false,false,false,false,false,false,false,false,false,false,false,false,false] rfl rfl (zaO HT_.out (by kernel_rfl)) (fun _ _ _ h => h) (Or.inl ⟨by rfl,?_⟩) ?_ ?_; rotate_left
      ·
       intro w'; go_simp; with_reducible rfl
      rotate_left
      ·
       simp only [Act.put,sA,sB,sC,zaP]; rfl
      refine zaQ (i:=1) (N:=some 15) (v:=?_) (a':=?_) #[true,true,false,false,false,false,false,false,false,false,false,false,false,false,false,false,false,false,false,false,false,false,false,false,false,false,false,false,false,false] rfl rfl (zaO HT_.out (by kernel_rfl)) (fun _ _ _ h => h) (Or.inl ⟨by rfl,?_⟩) ?_ ?_; rotate_left
      ·
       intro w'; go_simp; with_reducible rfl
      rotate_left
      ·
       simp only [Act.put,sA,sB,sC,zaP]; rfl
      refine zaQ (i:=2) (N:=some 16) (v:=?_) (a':=?_) #[true,true,true,false,false,false,false,false,false,false,false,false,false,false,false,false,false,false,false,false,false,false,false,false,false,false,false,false,false,false] rfl rfl (zaO HT_.out (by kernel_rfl)) (fun _ _ _ h => h) (Or.inl ⟨by rfl,?_⟩) ?_ ?_; rotate_left
      ·
       intro w'; go_simp; with_reducible rfl
      rotate_left
      ·
       simp only [Act.put,sA,sB,sC,zaP]; rfl
      refine zaQ (i:=3) (N:=some 17) (v:=?_) (a':=?_) #[true,true,true,true,false,false,false,false,false,false,false,false,false,false,false,false,false,false,false,false,false,false,false,false,false,false,false,false,false,false] rfl rfl (zaO HT_.out (by kernel_rfl)) (fun _ _ _ h => h) (Or.inl ⟨by rfl,?_⟩) ?_ ?_; rotate_left
      ·
       intro w'; go_simp; with_reducible rfl
      rotate_left
      ·
       simp only [Act.put,sA,sB,sC,zaP]; rfl
      refine zaQ (i:=4) (N:=some 18) (v:=?_) (a':=?_) #[true,true,true,true,true,false,false,false,false,false,false,false,false,false,false,false,false,false,false,false,false,false,false,false,false,false,false,false,false,false] rfl rfl (zaO HT_.out (by kernel_rfl)) (fun _ _ _ h => h) (Or.inl ⟨by rfl,?_⟩) ?_ ?_; rotate_left
      ·
       intro w'; go_simp; with_reducible rfl
      rotate_left
      ·
       simp only [Act.put,sA,sB,sC,zaP]; rfl
      refine zaQ (i:=6) (N:=some 20) (v:=?_) (a':=?_) #[true,true,true,true,true,false,true,false,false,false,false,false,false,false,false,false,false,false,false,false,false,false,false,false,false,false,false,false,false,false] rfl rfl (zaO HT_.out (by kernel_rfl)) (fun _ _ _ h => h) (Or.inl ⟨by rfl,?_⟩) ?_ ?_; rotate_left
      ·
       intro w'; go_simp; with_reducible rfl
      rotate_left
      ·
       simp only [Act.put,sA,sB,sC,zaP]; rfl
      refine zaQ (i:=7) (N:=some 21) (v:=?_) (a':=?_) #[true,true,true,true,true,false,true,true,false,false,false,false,false,false,false,false,false,false,false,false,false,false,false,false,false,false,false,false,false,false] rfl rfl (zaO HT_.out (by kernel_rfl)) (fun _ _ _ h => h) (Or.inl ⟨by rfl,?_⟩) ?_ ?_; rotate_left
      ·
       intro w'; go_simp; with_reducible rfl
      rotate_left
      ·
       simp only [Act.put,sA,sB,sC,zaP]; rfl
      refine zaQ (i:=8) (N:=some 22) (v:=?_) (a':=?_) #[true,true,true,true,true,false,true,true,true,false,false,false,false,false,false,false,false,false,false,false,false,false,false,false,false,false,false,false,false,false] rfl rfl (zaO HT_.out (by kernel_rfl)) (fun _ _ _ h => h) (Or.inl ⟨by rfl,?_⟩) ?_ ?_; rotate_left
      ·
       intro w'; go_simp; with_reducible rfl
      rotate_left
      ·
       simp only [Act.put,sA,sB,sC,zaP]; rfl
      refine take_ (i:=5) (N:=some 19) (v:=?_) (a':=?_) #[true,true,true,true,true,true,true,true,true,false,false,false,false,false,false,false,false,false,false,false,false,false,false,false,false,false,false,false,false,false] rfl rfl (zaX HT_.out HW_.out (by kernel_rfl)) (fun _ _ _ h => h) (Or.inl ⟨by rfl,?_⟩) hHeld ?_ ?_; rotate_left
      ·
       rintro w' ⟨s0,s1⟩; go_simp; with_reducible rfl
      rotate_left
      ·
       simp only [Act.put,sA,sB,sC,zaP]; rfl
      refine take_ (i:=9) (N:=some 23) (v:=?_) (a':=?_) #[true,true,true,true,true,true,true,true,true,true,false,false,false,false,false,false,false,false,false,false,false,false,false,false,false,false,false,false,false,false] rfl rfl (zaX HT_.out HW_.out (by kernel_rfl)) (fun _ _ _ h => h) (Or.inl ⟨by rfl,?_⟩) hHeld ?_ ?_; rotate_left
      ·
       rintro w' ⟨s0,s1⟩; go_simp; with_reducible rfl
      rotate_left
      ·
       simp only [Act.put,sA,sB,sC,zaP]; rfl
      refine one_ (i:=10) (N:=some 24) #[true,true,true,true,true,true,true,true,true,true,true,false,false,false,false,false,false,false,false,false,false,false,false,false,false,false,false,false,false,false] rfl rfl (zbP HT_.out (by kernel_rfl)) (by decide) (fun K hK => ?_); refine goes_ Try.func93 (by kernel_rfl) rfl #[.int .i64 a0,.int .i64 a1,.int .i64 (rd l2 x7_1),.int .i64 (rd l2 x7_1)] (by rfl) rfl rfl (by (try simp only [mA,mB,mC]); first | done | rfl | (simp only [mE,mD]; rfl)) ?_; (with_reducible refine (spec_l16Nodes.calls a0 a1 (rd l2 x7_1) (rd l2 x7_1) false _ A6.out).mono ?_); rintro e w' ⟨rfl,⟨nd,rfl⟩⟩; refine ⟨_,rfl,?_⟩; refine hK.out _ _ ⟨((HB.out.cell (bC w _ hw121_0)).trans hw121_0),((HB.out.cell (bC w _ hw122_0)).trans hw122_0)⟩ (fun hHeld => ?_); clear hK K; refine norm_ (a':=?_) ?_ ?_; rotate_left
      ·
       show Act.put _ (some 24) _ = _
       simp only [Act.put,sA,sB,sC,zaP]; rfl
      refine zaQ (i:=11) (N:=some 25) (v:=?_) (a':=?_) #[true,true,true,true,true,true,true,true,true,true,true,true,false,false,false,false,false,false,false,false,false,false,false,false,false,false,false,false,false,false] rfl rfl (zaO HT_.out (by kernel_rfl)) (fun _ _ _ h => h) (Or.inl ⟨by rfl,?_⟩) ?_ ?_; rotate_left
      ·
       intro w'; go_simp; with_reducible rfl
      rotate_left
      ·
       simp only [Act.put,sA,sB,sC,zaP]; rfl
      refine zaQ (i:=12) (N:=some 26) (v:=?_) (a':=?_) #[true,true,true,true,true,true,true,true,true,true,true,true,true,false,false,false,false,false,false,false,false,false,false,false,false,false,false,false,false,false] rfl rfl (zaO HT_.out (by kernel_rfl)) (fun _ _ _ h => h) (Or.inl ⟨by rfl,?_⟩) ?_ ?_; rotate_left
      ·
       intro w'; go_simp; with_reducible rfl
      rotate_left
      ·
       simp only [Act.put,sA,sB,sC,zaP]; rfl
      refine zaQ (i:=13) (N:=some 27) (v:=undef) (a':=?_) #[true,true,true,true,true,true,true,true,true,true,true,true,true,true,false,false,false,false,false,false,false,false,false,false,false,false,false,false,false,false] rfl rfl (zaO HT_.out (by kernel_rfl)) (fun _ _ _ h => h) (Or.inr ⟨by rfl,rfl⟩) ?_ ?_; rotate_left
      ·
       simp only [Act.put,sA,sB,sC,zaP]; rfl
      refine zaQ (i:=14) (N:=some 28) (v:=undef) (a':=?_) #[true,true,true,true,true,true,true,true,true,true,true,true,true,true,true,false,false,false,false,false,false,false,false,false,false,false,false,false,false,false] rfl rfl (zaO HT_.out (by kernel_rfl)) (fun _ _ _ h => h) (Or.inr ⟨by rfl,rfl⟩) ?_ ?_; rotate_left
      ·
       simp only [Act.put,sA,sB,sC,zaP]; rfl
      refine zaQ (i:=15) (N:=some 29) (v:=undef) (a':=?_) #[true,true,true,true,true,true,true,true,true,true,true,true,true,true,true,true,false,false,false,false,false,false,false,false,false,false,false,false,false,false] rfl rfl (zaO HT_.out (by kernel_rfl)) (fun _ _ _ h => h) (Or.inr ⟨by rfl,rfl⟩) ?_ ?_; rotate_left
      ·
       simp only [Act.put,sA,sB,sC,zaP]; rfl
      refine zaQ (i:=16) (N:=some 30) (v:=undef) (a':=?_) #[true,true,true,true,true,true,true,true,true,true,true,true,true,true,true,true,true,false,false,false,false,false,false,false,false,false,false,false,false,false] rfl rfl (zaO HT_.out (by kernel_rfl)) (fun _ _ _ h => h) (Or.inr ⟨by rfl,rfl⟩) ?_ ?_; rotate_left
      ·
       simp only [Act.put,sA,sB,sC,zaP]; rfl
      refine zaQ (i:=17) (N:=some 31) (v:=undef) (a':=?_) #[true,true,true,true,true,true,true,true,true,true,true,true,true,true,true,true,true,true,false,false,false,false,false,false,false,false,false,false,false,false] rfl rfl (zaO HT_.out (by kernel_rfl)) (fun _ _ _ h => h) (Or.inr ⟨by rfl,rfl⟩) ?_ ?_; rotate_left
      ·
       simp only [Act.put,sA,sB,sC,zaP]; rfl
      refine zaQ (i:=18) (N:=some 32) (v:=undef) (a':=?_) #[true,true,true,true,true,true,true,true,true,true,true,true,true,true,true,true,true,true,true,false,false,false,false,false,false,false,false,false,false,false] rfl rfl (zaO HT_.out (by kernel_rfl)) (fun _ _ _ h => h) (Or.inr ⟨by rfl,rfl⟩) ?_ ?_; rotate_left
      ·
       simp only [Act.put,sA,sB,sC,zaP]; rfl
      refine zaQ (i:=19) (N:=some 33) (v:=undef) (a':=?_) #[true,true,true,true,true,true,true,true,true,true,true,true,true,true,true,true,true,true,true,true,false,false,false,false,false,false,false,false,false,false] rfl rfl (zaO HT_.out (by kernel_rfl)) (fun _ _ _ h => h) (Or.inr ⟨by rfl,rfl⟩) ?_ ?_; rotate_left
      ·
       simp only [Act.put,sA,sB,sC,zaP]; rfl
      refine zaQ (i:=20) (N:=some 34) (v:=undef) (a':=?_) #[true,true,true,true,true,true,true,true,true,true,true,true,true,true,true,true,true,true,true,true,true,false,false,false,false,false,false,false,false,false] rfl rfl (zaO HT_.out (by kernel_rfl)) (fun _ _ _ h => h) (Or.inr ⟨by rfl,rfl⟩) ?_ ?_; rotate_left
      ·
       simp only [Act.put,sA,sB,sC,zaP]; rfl
      refine zaQ (i:=21) (N:=some 35) (v:=undef) (a':=?_) #[true,true,true,true,true,true,true,true,true,true,true,true,true,true,true,true,true,true,true,true,true,true,false,false,false,false,false,false,false,false] rfl rfl (zaO HT_.out (by kernel_rfl)) (fun _ _ _ h => h) (Or.inr ⟨by rfl,rfl⟩) ?_ ?_; rotate_left
      ·
       simp only [Act.put,sA,sB,sC,zaP]; rfl
      refine zaQ (i:=22) (N:=some 36) (v:=undef) (a':=?_) #[true,true,true,true,true,true,true,true,true,true,true,true,true,true,true,true,true,true,true,true,true,true,true,false,false,false,false,false,false,false] rfl rfl (zaO HT_.out (by kernel_rfl)) (fun _ _ _ h => h) (Or.inr ⟨by rfl,rfl⟩) ?_ ?_; rotate_left
      ·
       simp only [Act.put,sA,sB,sC,zaP]; rfl
      refine zaQ (i:=23) (N:=some 37) (v:=undef) (a':=?_) #[true,true,true,true,true,true,true,true,true,true,true,true,true,true,true,true,true,true,true,true,true,true,true,true,false,false,false,false,false,false] rfl rfl (zaO HT_.out (by kernel_rfl)) (fun _ _ _ h => h) (Or.inr ⟨by rfl,rfl⟩) ?_ ?_; rotate_left
      ·
       simp only [Act.put,sA,sB,sC,zaP]; rfl
      refine zaQ (i:=24) (N:=some 38) (v:=undef) (a':=?_) #[true,true,true,true,true,true,true,true,true,true,true,true,true,true,true,true,true,true,true,true,true,true,true,true,true,false,false,false,false,false] rfl rfl (zaO HT_.out (by kernel_rfl)) (fun _ _ _ h => h) (Or.inr ⟨by rfl,rfl⟩) ?_ ?_; rotate_left
      ·
       simp only [Act.put,sA,sB,sC,zaP]; rfl
      refine zaQ (i:=25) (N:=some 39) (v:=undef) (a':=?_) #[true,true,true,true,true,true,true,true,true,true,true,true,true,true,true,true,true,true,true,true,true,true,true,true,true,true,false,false,false,false] rfl rfl (zaO HT_.out (by kernel_rfl)) (fun _ _ _ h => h) (Or.inr ⟨by rfl,rfl⟩) ?_ ?_; rotate_left
      ·
       simp only [Act.put,sA,sB,sC,zaP]; rfl
      refine zaQ (i:=26) (N:=some 40) (v:=undef) (a':=?_) #[true,true,true,true,true,true,true,true,true,true,true,true,true,true,true,true,true,true,true,true,true,true,true,true,true,true,true,false,false,false] rfl rfl (zaO HT_.out (by kernel_rfl)) (fun _ _ _ h => h) (Or.inr ⟨by rfl,rfl⟩) ?_ ?_; rotate_left
      ·
       simp only [Act.put,sA,sB,sC,zaP]; rfl
      refine zaQ (i:=27) (N:=some 41) (v:=undef) (a':=?_) #[true,true,true,true,true,true,true,true,true,true,true,true,true,true,true,true,true,true,true,true,true,true,true,true,true,true,true,true,false,false] rfl rfl (zaO HT_.out (by kernel_rfl)) (fun _ _ _ h => h) (Or.inr ⟨by rfl,rfl⟩) ?_ ?_; rotate_left
      ·
       simp only [Act.put,sA,sB,sC,zaP]; rfl
      refine zaQ (i:=28) (N:=some 42) (v:=undef) (a':=?_) #[true,true,true,true,true,true,true,true,true,true,true,true,true,true,true,true,true,true,true,true,true,true,true,true,true,true,true,true,true,false] rfl rfl (zaO HT_.out (by kernel_rfl)) (fun _ _ _ h => h) (Or.inr ⟨by rfl,rfl⟩) ?_ ?_; rotate_left
      ·
       simp only [Act.put,sA,sB,sC,zaP]; rfl
      refine zaQ (i:=29) (N:=some 43) (v:=?_) (a':=?_) #[true,true,true,true,true,true,true,true,true,true,true,true,true,true,true,true,true,true,true,true,true,true,true,true,true,true,true,true,true,true] rfl rfl (zaO HT_.out (by kernel_rfl)) (fun _ _ _ h => h) (Or.inl ⟨by rfl,?_⟩) ?_ ?_; rotate_left
      ·
       intro w'; go_simp; with_reducible rfl
      rotate_left
      ·
       simp only [Act.put,sA,sB,sC,zaP]; rfl
      refine done_ (done_of HT_.out (by kernel_rfl)) ?_
      try go_wp2
      go_ret; exact ⟨by first | rfl | (simp [*] <;> rfl),by repeat (first | (with_reducible first | exact HB.out | apply zaA | apply bN | apply bD) | exact HB.out)⟩
    ·
     rw [if_neg c5] at H; exact absurd H (by simp)
   ·
    rw [if_neg c4] at H; have c4b0 : decide (x7_1 < (l2.length : Int)) = false:=decide_eq_false c4; clear c4; replace H:=bE H; obtain ⟨t120,A180,H⟩:=H; replace H : (some t120) = some r:=H; have A18:=aM A180; clear A180; obtain rfl:=Option.some.inj H; go_wp2_with (first | ((with_reducible refine zaI (f:=76) rfl ?_); refine zaR (some 46) rfl rfl Try.func76 (by kernel_rfl) rfl #[.int .i64 (l2.length : Int),.int .i64 1,.int .i64 30] rfl (by (try simp only [mA,mB,mC]); first | done | rfl | (simp only [mE,mD]; rfl)) ?_; (with_reducible refine (spec_l1In.calls (l2.length : Int) 1 30 t120 _ A18.out).mono ?_); rintro e w' ⟨rfl,⟨nd,rfl⟩⟩; refine ⟨_,rfl,?_⟩)); go_ret; exact ⟨by first | rfl | (simp [*] <;> rfl),by repeat (first | (with_reducible first | exact HB.out | apply zaA | apply bN | apply bD) | exact HB.out)⟩
end Go.Proofs.Ytdbokdodjekchaa.PFnRouteNoRound
