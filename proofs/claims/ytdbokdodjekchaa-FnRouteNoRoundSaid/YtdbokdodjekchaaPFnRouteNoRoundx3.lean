/- What the Go functions that this law reaches answer, function by function; conditions: those that each contract names. Made for this claim by a program of this session (wip/myprint) over the kit's print. -/
import Derived.Test.YtdbokdodjekchaaPFnRouteNoRoundx0
import Derived.Test.YtdbokdodjekchaaPFnRouteNoRoundx1
import Derived.Test.YtdbokdodjekchaaPFnRouteNoRoundx2
namespace Go.Proofs.Ytdbokdodjekchaa.PFnRouteNoRound
open Go.RowKit Go.Proofs.YtdbokdodjekchaaW.PrintWords Go.Proofs.YtdbokdodjekchaaW.PrintLast Go.Proofs.YtdbokdodjekchaaW.PrintMore
attribute [local go_sem] zbL zbJ max_two min_two zbF zbE zbK zbI   -- for this text's walks alone
set_option linter.unusedVariables false
set_option linter.unusedSimpArgs false
def impl_fabric_wires_1.l0 : Nat → List Int → List Int → Int → Int → Int → Option (List Int)
 | 0,_,_,_,_,_ => none
 | k + 1,x0,x4,x5,x114000,x114001 => if x5 < (x0.length : Int) then (if 0 ≤ (wrap64 (x5 - 1)) then (if (wrap64 (x5 - 1)) < (x0.length : Int) then (if 0 ≤ x5 then ((impl_fabric_wire.f x114000 x114001 (rd x0 (wrap64 (x5 - 1))) (rd x0 x5)).bind fun t116 => (if x4.length < 17592186044416 then (impl_fabric_wires_1.l0 k x0 (x4 ++ [t116]) (wrap64 (x5 + 1)) x114000 x114001) else (none))) else (none)) else (none)) else (none)) else (some x4)
def impl_fabric_wires_1.f (k : Nat) (l0 : List Int) (a1_0 : Int) (a1_1 : Int) : Option (List Int):=impl_fabric_wires_1.l0 k l0 ([] : List Int) 1 a1_0 a1_1
theorem impl_fabric_wires_1.mono_l : ∀ k,(∀ y0 y1 y2 y3 y4,LeO (impl_fabric_wires_1.l0 k y0 y1 y2 y3 y4) (impl_fabric_wires_1.l0 (k + 1) y0 y1 y2 y3 y4))
 | 0 => fun _ _ _ _ _ r h => by simp [impl_fabric_wires_1.l0] at h
 | k + 1 => by
  have ih0:=impl_fabric_wires_1.mono_l k
  ·
   intro y0 y1 y2 y3 y4; unfold impl_fabric_wires_1.l0
   repeat' first
   | (with_reducible exact ih0 _ _ _ _ _)
   | (with_reducible exact LeO.refl _)
   | (with_reducible exact LeO.none _)
   | (with_reducible refine LeO.ite ?_ ?_)
   | (with_reducible refine LeO.bind ?_ (fun _ => ?_))
   | exact ih0 _ _ _ _ _
   | exact LeO.none _
   | refine LeO.ite ?_ ?_
   | refine LeO.bind ?_ (fun _ => ?_)
theorem impl_fabric_wires_1.mono : ∀ a0 a1 a2 k,LeO (impl_fabric_wires_1.f k a0 a1 a2) (impl_fabric_wires_1.f (k + 1) a0 a1 a2):=by
 intro a0 a1 a2 k; have ih0:=impl_fabric_wires_1.mono_l k; unfold impl_fabric_wires_1.f
 repeat' first
   | (with_reducible exact ih0 _ _ _ _ _)
   | (with_reducible exact LeO.refl _)
   | (with_reducible exact LeO.none _)
   | (with_reducible refine LeO.ite ?_ ?_)
   | (with_reducible refine LeO.bind ?_ (fun _ => ?_))
   | exact ih0 _ _ _ _ _
   | exact LeO.none _
   | refine LeO.ite ?_ ?_
   | refine LeO.bind ?_ (fun _ => ?_)
def impl_fabric_wires_1.T5 : Bool × List (List Nat × List Nat):=(true,[([],[]),([],[]),([],[]),([],[]),([3],[3]),([2,4],[2,4]),([5],[5]),([],[]),([],[]),([7,8],[7,8]),([9],[9]),([1,6,10],[1,6,10]),([11],[11]),([0,12,11],[0,12]),([13,13,0,1,2,3,4,5,6,7,8,9,10,11,12,13],[0,13])])
def impl_fabric_wires_1.B5 : List Nat:=[0,0,0,0,8,28,60,0,0,384,896,2046,4094,8191,16383]
theorem impl_fabric_wires_1.tab5 : rtab .any (opsOf Try.f66 5) = impl_fabric_wires_1.T5:=by kernel_rfl
theorem impl_fabric_wires_1.bits5 : waitsOk impl_fabric_wires_1.T5.2 impl_fabric_wires_1.B5 = true:=by kernel_rfl
set_option maxHeartbeats 8000000 in
set_option maxRecDepth 100000 in
theorem impl_fabric_wires_1.calls (k : Nat) (A0 : Option Addr) (c0 : Nat) (l0 : List Int) (a1_0 : Int) (a1_1 : Int) (r : List Int) (w : World) (gb113 : Nat) (hbk : w.heap[gb113]? = some (.cells #[.int .i64 a1_0,.int .i64 a1_1] 50 (0,0))) (hr0 : Kd.C (Kd.int .i64) w A0 l0.length l0) (hc0 : l0.length ≤ c0) (h : impl_fabric_wires_1.f k l0 a1_0 a1_1 = some r) :
  Calls Try.prog 66 #[.slice A0 l0.length c0,.pointer (some ⟨gb113,0,none⟩)] w fun e w' => ∃ v0_ : Value,e = .returned (v0_) ∧ Kd.R (Kd.int .i64) 3 w' w.heap.size (fun _ => True) v0_ r ∧ Below w.heap.size w w':=by
 have hu50:=Try.underlying50; have HR0:=aM hr0; have HC0:=aM hc0; clear hr0 hc0; have HB:=aM (Below.refl w.heap.size w); have H : (impl_fabric_wires_1.l0 k l0 ([] : List Int) 1 a1_0 a1_1) = some r:=h; clear h; have H':=aM H; clear H; go_enter Try.func66,Try.ntmps66; have BK113:=aM hbk; clear hbk
 try go_wp2
 go_loopg [4,5] k (fun kq v4 v5 w' => ∃ (x4_1 : List Int) (x5_1 : Int),v5 = .int .i64 x5_1 ∧ Aside0 (impl_fabric_wires_1.l0 kq l0 x4_1 x5_1 a1_0 a1_1 = some r) ∧ Aside0 (kq ≤ k) ∧ Aside0 (Kd.R (Kd.int .i64) 3 w' w.heap.size (fun _ => True) v4 x4_1) ∧ Aside0 (w'.heap[gb113]? = some (.cells #[.int .i64 a1_0,.int .i64 a1_1] 50 (0,0))) ∧ Aside0 (Below w.heap.size w w')); case atStart => exact ⟨(([] : List Int)),(1),(by first | rfl | (simp; done) | (simp [*]; done)),H',⟨Nat.le_refl _⟩,⟨by first | exact Kd.R_nil _ _ _ _ _ | exact Kd.N_nil _ _ _ _ _ | exact Kd.V_nil _ _ _ _ _ | exact Kd.Q_nil _ _ _ _ _ | exact Kd.S_nil _ _ _ _ _⟩,⟨by (with_reducible repeat (first | refine zaC ?_ _ | refine zaF ?_ | refine zaD ?_ _)); exact BK113.out⟩,⟨by repeat (first | (with_reducible first | exact HB.out | apply zaA | apply bN | apply bD) | exact HB.out)⟩⟩
 case round =>
  clear H'
  try clear p2
  obtain ⟨x4_1,x5_1,rfl,HA,HK1,HO_4,BK113,HB⟩:=hrel; cases gk with
  | zero => exact absurd HA.out (by simp [impl_fabric_wires_1.l0])
  | succ k1 =>
   have H:=HA.out; clear HA; simp only [impl_fabric_wires_1.l0] at H; by_cases c4 : x5_1 < (l0.length : Int)
   ·
    rw [if_pos c4] at H; have c4b0 : decide (x5_1 < (l0.length : Int)) = true:=decide_eq_true c4; clear c4; obtain ⟨ji5,hji5⟩ : ∃ j_ : Int,(wrap64 (x5_1 - 1)) = j_:=⟨_,rfl⟩
    replace H : (if 0 ≤ (ji5) then (if (ji5) < (l0.length : Int) then (if 0 ≤ x5_1 then ((impl_fabric_wire.f a1_0 a1_1 (rd l0 (ji5)) (rd l0 x5_1)).bind fun t116 => (if x4_1.length < 17592186044416 then (impl_fabric_wires_1.l0 k1 l0 (x4_1 ++ [t116]) (wrap64 (x5_1 + 1)) a1_0 a1_1) else (none))) else (none)) else (none)) else (none)) = some r:=by first | (rw [hji5] at H; exact H) | (simp only [hji5] at H ⊢; exact H)
    have hji5w : (IntKind.i64.wrap (x5_1 - 1)) = ji5:=(zaP _).trans hji5; by_cases c6 : 0 ≤ (ji5)
    ·
     rw [if_pos c6] at H; have c6b0 : decide (0 ≤ (ji5)) = true:=decide_eq_true c6; clear c6; by_cases c7 : (ji5) < (l0.length : Int)
     ·
      rw [if_pos c7] at H; have c7b0 : decide ((ji5) < (l0.length : Int)) = true:=decide_eq_true c7; clear c7; by_cases c8 : 0 ≤ x5_1
      ·
       rw [if_pos c8] at H; have c8b0 : decide (0 ≤ x5_1) = true:=decide_eq_true c8; clear c8; replace H:=bE H; obtain ⟨t116,A90,H⟩:=H; replace H : (if x4_1.length < 17592186044416 then (impl_fabric_wires_1.l0 k1 l0 (x4_1 ++ [t116]) (wrap64 (x5_1 + 1)) a1_0 a1_1) else (none)) = some r:=H; have A9:=aM A90; clear A90; by_cases c10 : x4_1.length < 17592186044416
       ·
        rw [if_pos c10] at H; have LMc10:=aM c10; clear c10; obtain ⟨y117,hy117⟩ : ∃ y_ : List Int,y_ = (x4_1 ++ [t116]):=⟨_,rfl⟩
        replace H : (impl_fabric_wires_1.l0 k1 l0 y117 (wrap64 (x5_1 + 1)) a1_0 a1_1) = some r:=by first | (rw [hy117]; with_reducible exact H) | (have H2_:=(Option.bind_some _ _).symm.trans H; rw [hy117]; with_reducible exact H2_) | (have H2_:=(Option.bind_some _ _).symm.trans H; with_reducible exact H2_) | with_reducible exact H | (rw [hy117]; exact H) | exact H
        have Ny117:=aM hy117; clear hy117; have H':=aM H; clear H
        try go_wp2
        have n0_:=aM (Kd.R_drew HO_4.out); have n1_:=aM (zaF BK113.out); have n2_:=aM (bD HB.out); clear HO_4; clear BK113; clear HB; have HO_4:=n0_; have BK113:=n1_; have HB:=n2_; clear n0_ n1_ n2_; have p114 : 0 ≤ ((ji5) : Int):=oD (by assumption); have q114 : (ji5) < (l0.length : Int):=oD (by assumption); obtain ⟨ad114,e114,hx114_0⟩:=Kd.at_int HR0.out (ji5) p114 q114; have hw114_0:=hx114_0; cases e114; replace hx114_0:=(HB.out.cell (bC w _ hx114_0)).trans hx114_0; replace p114:=eq_true p114; replace q114:=eq_true q114; have p115 : 0 ≤ (x5_1 : Int):=oD (by assumption); have q115 : x5_1 < (l0.length : Int):=oD (by assumption); obtain ⟨ad115,e115,hx115_0⟩:=Kd.at_int HR0.out x5_1 p115 q115; have hw115_0:=hx115_0; obtain rfl : ad114 = ad115:=(by injection e115); replace hx115_0:=(HB.out.cell (bC w _ hx115_0)).trans hx115_0
        replace p115:=eq_true p115; replace q115:=eq_true q115; refine start_ (n:=15) (S:=fun w' => w'.cell? ⟨gb113,0,none⟩ = some (.int .i64 a1_0) ∧ w'.cell? ⟨gb113,1,none⟩ = some (.int .i64 a1_1) ∧ w'.cell? (ad114.add ((ji5)).toNat) = some (.int .i64 (rd l0 (ji5))) ∧ w'.cell? (ad114.add (x5_1).toNat) = some (.int .i64 (rd l0 x5_1))) (ds:=[]) #[false,false,false,false,false,false,false,false,false,false,false,false,false,false,false] (by kernel_rfl) rfl rfl ⟨(zaG BK113.out 0).trans rfl,(zaG BK113.out 1).trans rfl,((HB.out.cell (bC w _ hw114_0)).trans hw114_0),((HB.out.cell (bC w _ hw115_0)).trans hw115_0)⟩ (fun hHeld => ?_); refine zbO impl_fabric_wires_1.tab5 impl_fabric_wires_1.bits5 (fun HT_ HW_ => ?_); generalize wr.drew = w11 at HO_4 BK113 HB hx114_0 hx115_0 hHeld ⊢
        refine zaQ (i:=0) (N:=some 12) (v:=?_) (a':=?_) #[true,false,false,false,false,false,false,false,false,false,false,false,false,false,false] rfl rfl (zaO HT_.out (by kernel_rfl)) (fun _ _ _ h => h) (Or.inl ⟨by rfl,?_⟩) ?_ ?_; rotate_left
        ·
         intro w'; go_simp; with_reducible rfl
        rotate_left
        ·
         simp only [Act.put,sA,sB,sC,zaP]; rfl
        refine zaQ (i:=2) (N:=some 14) (v:=?_) (a':=?_) #[true,false,true,false,false,false,false,false,false,false,false,false,false,false,false] rfl rfl (zaO HT_.out (by kernel_rfl)) (fun _ _ _ h => h) (Or.inl ⟨by rfl,?_⟩) ?_ ?_; rotate_left
        ·
         intro w'; go_simp; with_reducible rfl
        rotate_left
        ·
         simp only [Act.put,sA,sB,sC,zaP]; rfl
        refine zaQ (i:=3) (N:=some 15) (v:=?_) (a':=?_) #[true,false,true,true,false,false,false,false,false,false,false,false,false,false,false] rfl rfl (zaO HT_.out (by kernel_rfl)) (fun _ _ _ h => h) (Or.inl ⟨by rfl,?_⟩) ?_ ?_; rotate_left
        ·
         intro w'; go_simp; with_reducible rfl
        rotate_left
        ·
         simp only [Act.put,sA,sB,sC,zaP]; rfl
        refine zaQ (i:=4) (N:=some 16) (v:=?_) (a':=?_) #[true,false,true,true,true,false,false,false,false,false,false,false,false,false,false] rfl rfl (zaO HT_.out (by kernel_rfl)) (fun _ _ _ h => h) (Or.inl ⟨by rfl,?_⟩) ?_ ?_; rotate_left
        ·
         intro w'; go_simp; with_reducible rfl
        rotate_left
        ·
         simp only [Act.put,sA,sB,sC,zaP]; rfl
        refine zaQ (i:=5) (N:=some 17) (v:=?_) (a':=?_) #[true,false,true,true,true,true,false,false,false,false,false,false,false,false,false] rfl rfl (zaO HT_.out (by kernel_rfl)) (fun _ _ _ h => h) (Or.inl ⟨by rfl,?_⟩) ?_ ?_; rotate_left
        ·
         intro w'; go_simp; with_reducible rfl
        rotate_left
        ·
         simp only [Act.put,sA,sB,sC,zaP]; rfl
        refine zaQ (i:=7) (N:=some 19) (v:=?_) (a':=?_) #[true,false,true,true,true,true,false,true,false,false,false,false,false,false,false] rfl rfl (zaO HT_.out (by kernel_rfl)) (fun _ _ _ h => h) (Or.inl ⟨by rfl,?_⟩) ?_ ?_; rotate_left
        ·
         intro w'; go_simp; with_reducible rfl
        rotate_left
        ·
         simp only [Act.put,sA,sB,sC,zaP]; rfl
        refine zaQ (i:=8) (N:=some 20) (v:=?_) (a':=?_) #[true,false,true,true,true,true,false,true,true,false,false,false,false,false,false] rfl rfl (zaO HT_.out (by kernel_rfl)) (fun _ _ _ h => h) (Or.inl ⟨by rfl,?_⟩) ?_ ?_; rotate_left
        ·
         intro w'; go_simp; with_reducible rfl
        rotate_left
        ·
         simp only [Act.put,sA,sB,sC,zaP]; rfl
        refine zaQ (i:=9) (N:=some 21) (v:=?_) (a':=?_) #[true,false,true,true,true,true,false,true,true,true,false,false,false,false,false] rfl rfl (zaO HT_.out (by kernel_rfl)) (fun _ _ _ h => h) (Or.inl ⟨by rfl,?_⟩) ?_ ?_; rotate_left
        ·
         intro w'; go_simp; with_reducible rfl
        rotate_left
        ·
         simp only [Act.put,sA,sB,sC,zaP]; rfl
        refine take_ (i:=1) (N:=some 13) (v:=?_) (a':=?_) #[true,true,true,true,true,true,false,true,true,true,false,false,false,false,false] rfl rfl (zaX HT_.out HW_.out (by kernel_rfl)) (fun _ _ _ h => h) (Or.inl ⟨by rfl,?_⟩) hHeld ?_ ?_; rotate_left
        ·
         rintro w' ⟨s0,s1,s2,s3⟩; go_simp; with_reducible rfl
        rotate_left
        ·
         simp only [Act.put,sA,sB,sC,zaP]; rfl
        refine take_ (i:=6) (N:=some 18) (v:=?_) (a':=?_) #[true,true,true,true,true,true,true,true,true,true,false,false,false,false,false] rfl rfl (zaX HT_.out HW_.out (by kernel_rfl)) (fun _ _ _ h => h) (Or.inl ⟨by rfl,?_⟩) hHeld ?_ ?_; rotate_left
        ·
         rintro w' ⟨s0,s1,s2,s3⟩; go_simp; with_reducible rfl
        rotate_left
        ·
         simp only [Act.put,sA,sB,sC,zaP]; rfl
        refine take_ (i:=10) (N:=some 22) (v:=?_) (a':=?_) #[true,true,true,true,true,true,true,true,true,true,true,false,false,false,false] rfl rfl (zaX HT_.out HW_.out (by kernel_rfl)) (fun _ _ _ h => h) (Or.inl ⟨by rfl,?_⟩) hHeld ?_ ?_; rotate_left
        ·
         rintro w' ⟨s0,s1,s2,s3⟩; go_simp; with_reducible rfl
        rotate_left
        ·
         simp only [Act.put,sA,sB,sC,zaP]; rfl
        refine one_ (i:=11) (N:=some 23) #[true,true,true,true,true,true,true,true,true,true,true,true,false,false,false] rfl rfl (zbP HT_.out (by kernel_rfl)) (by decide) (fun K hK => ?_); refine goes_ Try.func42 (by kernel_rfl) rfl #[.agg #[.int .i64 a1_0,.int .i64 a1_1],.int .i64 (rd l0 (ji5)),.int .i64 (rd l0 x5_1)] (by rfl) rfl rfl (by (try simp only [mA,mB,mC]); first | done | (simp only [hji5]; rfl) | rfl | (simp only [mE,mD]; rfl)) ?_; (with_reducible refine (impl_fabric_wire.calls a1_0 a1_1 (rd l0 (ji5)) (rd l0 x5_1) t116 _ A9.out).mono ?_); rintro e w12 ⟨rfl,hb⟩; refine ⟨_,rfl,?_⟩; have n0_:=aM (Kd.R_below (by (with_reducible repeat (first | apply Kd.R_alloc | apply Kd.R_drewN | apply Kd.R_drew)); exact HO_4.out) hb)
        have n1_:=aM (zaT (g:=gb113) (o:=.cells #[.int .i64 a1_0,.int .i64 a1_1] 50 (0,0)) (by (with_reducible repeat (first | refine zaC ?_ _ | refine zaF ?_ | refine zaD ?_ _)); exact BK113.out) hb); have n2_:=aM (zaJ (by repeat (first | (with_reducible first | exact HB.out | apply zaA | apply bN | apply bD) | exact HB.out)) hb); clear HO_4; clear BK113; clear HB; have HO_4:=n0_; have BK113:=n1_; have HB:=n2_; clear n0_ n1_ n2_; (try clear hb); (try clear hb2); (try clear hk); (try clear hi); refine hK.out _ _ ⟨(zaG BK113.out 0).trans rfl,(zaG BK113.out 1).trans rfl,((HB.out.cell (bC w _ hw114_0)).trans hw114_0),((HB.out.cell (bC w _ hw115_0)).trans hw115_0)⟩ (fun hHeld => ?_); clear hK K; refine norm_ (a':=?_) ?_ ?_; rotate_left
        ·
         show Act.put _ (some 23) _ = _
         simp only [Act.put,sA,sB,sC,zaP]; rfl
        refine one_ (i:=12) (N:=some 24) #[true,true,true,true,true,true,true,true,true,true,true,true,true,false,false] rfl rfl (zbP HT_.out (by kernel_rfl)) (by decide) (fun K hK => ?_); refine value_ (w1:=?_) (v:=?_) (by rfl) rfl ?_ ?_; rotate_left 2
        ·
         go_simp
         constructor
         ·
          rfl
         ·
          rfl
        refine hK.out _ _ ⟨(zaG (zaD BK113.out _) 0).trans rfl,(zaG (zaD BK113.out _) 1).trans rfl,(World.cell?_alloc_lt _ _ _ (bC _ _ (((HB.out.cell (bC w _ hw114_0)).trans hw114_0)))).trans (((HB.out.cell (bC w _ hw114_0)).trans hw114_0)),(World.cell?_alloc_lt _ _ _ (bC _ _ (((HB.out.cell (bC w _ hw115_0)).trans hw115_0)))).trans (((HB.out.cell (bC w _ hw115_0)).trans hw115_0))⟩ (fun hHeld => ?_); clear hK K; refine norm_ (a':=?_) ?_ ?_; rotate_left
        ·
         show Act.put _ (some 24) _ = _
         simp only [Act.put,sA,sB,sC,zaP]; rfl
        refine one_ (i:=13) (N:=some 25) #[true,true,true,true,true,true,true,true,true,true,true,true,true,true,false] rfl rfl (zbP HT_.out (by kernel_rfl)) (by decide) (fun K hK => ?_); refine Kd.R_append_step (Kd.int .i64) (w0:=w) w.heap.size (by rfl) (.tmp 12) (.tmp 24) 28 3 (.int .i64 0) 8 rfl Try.underlying28 info3 rfl (by decide) (by omega) u4 x4_1 t116 [.int .i64 t116] (fun _ => True) (fun _ => False) rfl rfl ?aP (fun _ hk => hk.elim) ?aF ?aO ?aB ?aS ?aL ?_
        (case aP => exact rfl)
        (case aB => exact (by repeat (first | (with_reducible first | exact HB.out | apply zaA | apply bN | apply bD) | exact HB.out)))
        (case aF => exact (fun _ _ => trivial))
        (case aO => exact (by (with_reducible repeat (first | apply Kd.R_alloc | apply Kd.R_drewN | apply Kd.R_drew)); exact HO_4.out))
        (case aS => exact (zaK (by repeat (first | (with_reducible first | exact HB.out | apply zaA | apply bN | apply bD) | exact HB.out))))
        (case aL => have:=LMc10.out; omega)
        intro v118 w13 ho hb hg hat; rw [← Ny117.out] at ho; have n0_:=aM (zbM (g:=gb113) (o:=.cells #[.int .i64 a1_0,.int .i64 a1_1] 50 (0,0)) (by (with_reducible repeat (first | refine zaC ?_ _ | refine zaF ?_ | refine zaD ?_ _)); exact BK113.out) hg (Kd.R_ne HO_4.out BK113.out (by decide))); have n1_:=aM (hb); have n2_:=aM (ho); clear BK113; clear HB; clear HO_4; have BK113:=n0_; have HB:=n1_; have HO119:=n2_; clear n0_ n1_ n2_; clear ho hb hg hat; refine hK.out _ _ ⟨(zaG BK113.out 0).trans rfl,(zaG BK113.out 1).trans rfl,((HB.out.cell (bC w _ hw114_0)).trans hw114_0),((HB.out.cell (bC w _ hw115_0)).trans hw115_0)⟩ (fun hHeld => ?_); clear hK K; refine norm_ (a':=?_) ?_ ?_; rotate_left
        ·
         show Act.put _ (some 25) _ = _
         simp only [Act.put,sA,sB,sC,zaP]; rfl
        refine zaQ (i:=14) (N:=some 4) (v:=?_) (a':=?_) #[true,true,true,true,true,true,true,true,true,true,true,true,true,true,true] rfl rfl (zaO HT_.out (by kernel_rfl)) (fun _ _ _ h => h) (Or.inl ⟨by rfl,?_⟩) ?_ ?_; rotate_left
        ·
         intro w'; go_simp; with_reducible rfl
        rotate_left
        ·
         simp only [Act.put,sA,sB,sC,zaP]; rfl
        refine done_ (done_of HT_.out (by kernel_rfl)) ?_
        try go_wp2
        go_roundg k1; case measure => have:=HK1.out; omega
        case rel => exact ⟨(y117),(wrap64 (x5_1 + 1)),(by first | rfl | (simp; done) | (simp [*]; done)),H',⟨by have:=HK1.out; omega⟩,⟨by (with_reducible repeat (first | apply Kd.R_alloc | apply Kd.R_drewN | apply Kd.R_drew)); exact HO119.out⟩,⟨by (with_reducible repeat (first | refine zaC ?_ _ | refine zaF ?_ | refine zaD ?_ _)); exact BK113.out⟩,⟨by repeat (first | (with_reducible first | exact HB.out | apply zaA | apply bN | apply bD) | exact HB.out)⟩⟩
       ·
        rw [if_neg c10] at H; exact absurd H (by simp)
      ·
       rw [if_neg c8] at H; exact absurd H (by simp)
     ·
      rw [if_neg c7] at H; exact absurd H (by simp)
    ·
     rw [if_neg c6] at H; exact absurd H (by simp)
   ·
    rw [if_neg c4] at H; have c4b0 : decide (x5_1 < (l0.length : Int)) = false:=decide_eq_false c4; clear c4; obtain rfl:=Option.some.inj H; go_wp2; go_ret; exact ⟨_,by first | rfl | (simp [*] <;> rfl),by (with_reducible repeat (first | apply Kd.R_alloc | apply Kd.R_drewN | apply Kd.R_drew)); exact HO_4.out,by repeat (first | (with_reducible first | exact HB.out | apply zaA | apply bN | apply bD) | exact HB.out)⟩
def impl_fabric_wires_m.l0 : Nat → List (List Int) → List (List Int) → Int → Int → Int → Int → Option ((List (List Int)))
 | 0,_,_,_,_,_,_ => none
 | k + 1,x5,x8,x9,x10,x121000,x121001 => if x10 < x9 then (if 0 ≤ x10 then (if x10 < (x8.length : Int) then ((impl_fabric_wires_1.f k (rd_L2 x8 x10) x121000 x121001).bind fun t122 => (if x5.length < 5864062014805 then (impl_fabric_wires_m.l0 k (x5 ++ [t122]) x8 x9 (wrap64 (x10 + 1)) x121000 x121001) else (none))) else (none)) else (none)) else (some x5)
def impl_fabric_wires_m.f (k : Nat) (l0 : List (List Int)) (a1_0 : Int) (a1_1 : Int) : Option ((List (List Int))):=impl_fabric_wires_m.l0 k ([] : List (List Int)) l0 (l0.length : Int) 0 a1_0 a1_1
theorem impl_fabric_wires_m.mono_l : ∀ k,(∀ y0 y1 y2 y3 y4 y5,LeO (impl_fabric_wires_m.l0 k y0 y1 y2 y3 y4 y5) (impl_fabric_wires_m.l0 (k + 1) y0 y1 y2 y3 y4 y5))
 | 0 => fun _ _ _ _ _ _ r h => by simp [impl_fabric_wires_m.l0] at h
 | k + 1 => by
  have ih0:=impl_fabric_wires_m.mono_l k
  ·
   intro y0 y1 y2 y3 y4 y5; unfold impl_fabric_wires_m.l0
   repeat' first
   | (with_reducible exact ih0 _ _ _ _ _ _)
   | (with_reducible exact impl_fabric_wires_1.mono _ _ _ _)
   | (with_reducible exact LeO.refl _)
   | (with_reducible exact LeO.none _)
   | (with_reducible refine LeO.ite ?_ ?_)
   | (with_reducible refine LeO.bind ?_ (fun _ => ?_))
   | exact ih0 _ _ _ _ _ _
   | exact impl_fabric_wires_1.mono _ _ _ _
   | exact LeO.none _
   | refine LeO.ite ?_ ?_
   | refine LeO.bind ?_ (fun _ => ?_)
theorem impl_fabric_wires_m.mono : ∀ a0 a1 a2 k,LeO (impl_fabric_wires_m.f k a0 a1 a2) (impl_fabric_wires_m.f (k + 1) a0 a1 a2):=by
 intro a0 a1 a2 k; have ih0:=impl_fabric_wires_m.mono_l k; unfold impl_fabric_wires_m.f
 repeat' first
   | (with_reducible exact ih0 _ _ _ _ _ _)
   | (with_reducible exact impl_fabric_wires_1.mono _ _ _ _)
   | (with_reducible exact LeO.refl _)
   | (with_reducible exact LeO.none _)
   | (with_reducible refine LeO.ite ?_ ?_)
   | (with_reducible refine LeO.bind ?_ (fun _ => ?_))
   | exact ih0 _ _ _ _ _ _
   | exact impl_fabric_wires_1.mono _ _ _ _
   | exact LeO.none _
   | refine LeO.ite ?_ ?_
   | refine LeO.bind ?_ (fun _ => ?_)
set_option maxHeartbeats 8000000 in
set_option maxRecDepth 100000 in
theorem impl_fabric_wires_m.calls (k : Nat) (A0 : Option Addr) (c0 : Nat) (l0 : List (List Int)) (a1_0 : Int) (a1_1 : Int) (r : List (List Int)) (w : World) (gb120 : Nat) (hbk : w.heap[gb120]? = some (.cells #[.int .i64 a1_0,.int .i64 a1_1] 50 (0,0))) (hr0 : Kd.C (Kd.slice 3 (Kd.int .i64)) w A0 l0.length l0) (hc0 : l0.length ≤ c0) (h : impl_fabric_wires_m.f k l0 a1_0 a1_1 = some r) :
  Calls Try.prog 65 #[.slice A0 l0.length c0,.func (.func 66) #[] #[.pointer (some ⟨gb120,0,none⟩)]] w fun e w' => ∃ v0_ : Value,e = .returned (v0_) ∧ Kd.S (Kd.slice 3 (Kd.int .i64)) 28 w' w.heap.size (fun _ => True) v0_ r ∧ Below w.heap.size w w':=by
 have hu50:=Try.underlying50; have HR0:=aM hr0; have HC0:=aM hc0; clear hr0 hc0; have HB:=aM (Below.refl w.heap.size w); have H : (impl_fabric_wires_m.l0 k ([] : List (List Int)) l0 (l0.length : Int) 0 a1_0 a1_1) = some r:=h; clear h; have H':=aM H; clear H; go_enter Try.func65,Try.ntmps65; have BK120:=aM hbk; clear hbk
 try go_wp2
 go_loopg [5,10] k (fun kq v5 v10 w' => ∃ (x5_1 : List (List Int)) (x10_1 : Int),v10 = .int .i64 x10_1 ∧ Aside0 (impl_fabric_wires_m.l0 kq x5_1 l0 (l0.length : Int) x10_1 a1_0 a1_1 = some r) ∧ Aside0 (kq ≤ k) ∧ Aside0 (Kd.S (Kd.slice 3 (Kd.int .i64)) 28 w' w.heap.size (fun _ => True) v5 x5_1) ∧ Aside0 (w'.heap[gb120]? = some (.cells #[.int .i64 a1_0,.int .i64 a1_1] 50 (0,0))) ∧ Aside0 (Below w.heap.size w w'))
 case atStart => exact ⟨(([] : List (List Int))),(0),(by first | rfl | (simp; done) | (simp [*]; done)),H',⟨Nat.le_refl _⟩,⟨by first | exact Kd.S_nil _ _ _ _ _ | exact Kd.N_nil _ _ _ _ _ | exact Kd.V_nil _ _ _ _ _ | exact Kd.Q_nil _ _ _ _ _ | exact Kd.R_nil _ _ _ _ _⟩,⟨by (with_reducible repeat (first | refine zaC ?_ _ | refine zaF ?_ | refine zaD ?_ _)); exact BK120.out⟩,⟨by repeat (first | (with_reducible first | exact HB.out | apply zaA | apply bN | apply bD) | exact HB.out)⟩⟩
 case round =>
  clear H'
  try clear p2
  obtain ⟨x5_1,x10_1,rfl,HA,HK1,HO_5,BK120,HB⟩:=hrel; cases gk with
  | zero => exact absurd HA.out (by simp [impl_fabric_wires_m.l0])
  | succ k1 =>
   have H:=HA.out; clear HA; simp only [impl_fabric_wires_m.l0] at H; by_cases c4 : x10_1 < (l0.length : Int)
   ·
    rw [if_pos c4] at H; have c4b0 : decide (x10_1 < (l0.length : Int)) = true:=decide_eq_true c4; clear c4; by_cases c5 : 0 ≤ x10_1
    ·
     rw [if_pos c5] at H; have c5b0 : decide (0 ≤ x10_1) = true:=decide_eq_true c5; clear c5; by_cases c6 : x10_1 < (l0.length : Int)
     ·
      rw [if_pos c6] at H; have c6b0 : decide (x10_1 < (l0.length : Int)) = true:=decide_eq_true c6; clear c6; replace H:=bE H; obtain ⟨t122,A70,H⟩:=H; replace H : (if x5_1.length < 5864062014805 then (impl_fabric_wires_m.l0 k1 (x5_1 ++ [t122]) l0 (l0.length : Int) (wrap64 (x10_1 + 1)) a1_0 a1_1) else (none)) = some r:=H; have A7:=aM A70; clear A70; by_cases c8 : x5_1.length < 5864062014805
      ·
       rw [if_pos c8] at H; have LMc8:=aM c8; clear c8; obtain ⟨y125,hy125⟩ : ∃ y_ : List (List Int),y_ = (x5_1 ++ [t122]):=⟨_,rfl⟩
       replace H : (impl_fabric_wires_m.l0 k1 y125 l0 (l0.length : Int) (wrap64 (x10_1 + 1)) a1_0 a1_1) = some r:=by first | (rw [hy125]; with_reducible exact H) | (have H2_:=(Option.bind_some _ _).symm.trans H; rw [hy125]; with_reducible exact H2_) | (have H2_:=(Option.bind_some _ _).symm.trans H; with_reducible exact H2_) | with_reducible exact H | (rw [hy125]; exact H) | exact H
       have Ny125:=aM hy125; clear hy125; have H':=aM H; clear H; have p121 : 0 ≤ (x10_1 : Int):=oD (by assumption); have q121 : x10_1 < (l0.length : Int):=oD (by assumption); obtain ⟨ad121,A121_0,c121_0,e121,hx121_0,hl121_0,hi121_0⟩:=at_L2 HR0.out x10_1 p121 q121; cases e121; replace hx121_0:=(HB.out.cell (bC w _ hx121_0)).trans hx121_0; have HR121_0:=aM hi121_0; have HC121_0:=aM hl121_0; clear hi121_0 hl121_0; replace p121:=eq_true p121; replace q121:=eq_true q121; have hcz9_0 : wr.cell? ⟨gb120,0,none⟩ = some (.int .i64 a1_0):=(zaG BK120.out 0).trans rfl; have hcz9_1 : wr.cell? ⟨gb120,1,none⟩ = some (.int .i64 a1_1):=(zaG BK120.out 1).trans rfl; have hfz9_0:=zaE BK120.out 0; have hfz9_1:=zaE BK120.out 1
       go_wp2_with (first | ((with_reducible refine (impl_fabric_wires_1.calls k1 _ _ (rd_L2 l0 x10_1) a1_0 a1_1 t122 _ gb120 BK120.out ?side1 ?side2 A7.out).mono ?_); (case side1 => repeat (first | exact (Kd.C_below HR121_0.out HB.out) | (with_reducible refine Kd.C_alloc ?_ _) | (with_reducible refine Kd.C_drewN ?_ _) | (with_reducible refine Kd.C_drew ?_))); (case side2 => exact HC121_0.out); rintro e w10 ⟨v123,rfl,ho0,hb⟩; have n0_:=aM (Kd.S_elder' (by (with_reducible repeat (first | apply Kd.S_alloc | apply Kd.S_drewN | apply Kd.S_drew)); exact HO_5.out) (Kd.R_base ho0) hb); have n1_:=aM (Kd.R_lower ho0 (zaK (by repeat (first | (with_reducible first | exact HB.out | apply zaA | apply bN | apply bD) | exact HB.out)))); have n2_:=aM (zaT (g:=gb120) (o:=.cells #[.int .i64 a1_0,.int .i64 a1_1] 50 (0,0)) (by (with_reducible repeat (first | refine zaC ?_ _ | refine zaF ?_ | refine zaD ?_ _)); exact BK120.out) hb); have n3_:=aM (zaJ (by repeat (first | (with_reducible first | exact HB.out | apply zaA | apply bN | apply bD) | exact HB.out)) hb); clear HO_5; clear BK120; clear HB; have HO_5:=n0_; have HO124:=n1_; have BK120:=n2_; have HB:=n3_; clear n0_ n1_ n2_ n3_; (try clear hb); (try clear hb2); (try clear hk); (try clear hi); (try clear ho0); obtain ⟨Ao12,co12,eo12⟩:=Kd.R_slice HO124.out; subst eo12) | ((with_reducible refine zbB (b:=.append) (xs:=#[.tmp 14,.tmp 18]) rfl ?_); at_builtin; refine Kd.S_append (Kd.slice 3 (Kd.int .i64)) (w0:=w) w.heap.size rfl (.tmp 14) (.tmp 18) 23 28 (.slice none 0 0) 24 rfl Try.underlying23 info28 rfl (by decide) (by omega) u5 x5_1 t122 [.slice Ao12 t122.length co12] (fun _ => True) (fun k_ => some k_ = (.slice Ao12 t122.length co12 : Value).ownBlock) rfl rfl ?aP (fun k_ hk_ => ((Kd.R_mono (ok':=fun k_ => ((fun _ => True)) k_ ∧ some k_ ≠ (u5 : Value).ownBlock) (Kd.R_apart' (HO124.out) (Kd.S_typed HO_5.out) (by decide)) (fun k_ hk => ⟨trivial,hk.2⟩))).1 k_ hk_.symm) ?aF ?aO ?aB ?aS ?aL ?_; (case aP => exact Kd.M_row (Kd.R_mono (Kd.R_tight rfl (Kd.R_mono (ok':=fun k_ => ((fun _ => True)) k_ ∧ some k_ ≠ (u5 : Value).ownBlock) (Kd.R_apart' (HO124.out) (Kd.S_typed HO_5.out) (by decide)) (fun k_ hk => ⟨trivial,hk.2⟩))) (fun _ h_ => h_))); (case aB => exact (by repeat (first | (with_reducible first | exact HB.out | apply zaA | apply bN | apply bD) | exact HB.out))); (case aF => exact (fun _ _ => trivial)); (case aO => exact (by (with_reducible repeat (first | apply Kd.S_alloc | apply Kd.S_drewN | apply Kd.S_drew)); exact Kd.S_mono HO_5.out (fun k_ hk => ⟨trivial,fun e_ => hk.2 e_⟩))); (case aS => exact (zaK (by repeat (first | (with_reducible first | exact HB.out | apply zaA | apply bN | apply bD) | exact HB.out)))); (case aL => have:=LMc8.out; omega); intro v126 w11 ho hb hg hat; rw [← Ny125.out] at ho; have n0_:=aM (zbM (g:=gb120) (o:=.cells #[.int .i64 a1_0,.int .i64 a1_1] 50 (0,0)) (by (with_reducible repeat (first | refine zaC ?_ _ | refine zaF ?_ | refine zaD ?_ _)); exact BK120.out) hg (Kd.S_ne HO_5.out BK120.out (by decide))); have n1_:=aM (hb); have n2_:=aM (ho); clear BK120; clear HB; clear HO_5; clear HO124; have BK120:=n0_; have HB:=n1_; have HO127:=n2_; clear n0_ n1_ n2_; clear ho hb hg hat))
       go_roundg k1; case measure => have:=HK1.out; omega
       case rel => exact ⟨(y125),(wrap64 (x10_1 + 1)),(by first | rfl | (simp; done) | (simp [*]; done)),H',⟨by have:=HK1.out; omega⟩,⟨by (with_reducible repeat (first | apply Kd.S_alloc | apply Kd.S_drewN | apply Kd.S_drew)); exact HO127.out⟩,⟨by (with_reducible repeat (first | refine zaC ?_ _ | refine zaF ?_ | refine zaD ?_ _)); exact BK120.out⟩,⟨by repeat (first | (with_reducible first | exact HB.out | apply zaA | apply bN | apply bD) | exact HB.out)⟩⟩
      ·
       rw [if_neg c8] at H; exact absurd H (by simp)
     ·
      rw [if_neg c6] at H; exact absurd H (by simp)
    ·
     rw [if_neg c5] at H; exact absurd H (by simp)
   ·
    rw [if_neg c4] at H; have c4b0 : decide (x10_1 < (l0.length : Int)) = false:=decide_eq_false c4; clear c4; obtain rfl:=Option.some.inj H; go_wp2; go_ret; exact ⟨_,by first | rfl | (simp [*] <;> rfl),by (with_reducible repeat (first | apply Kd.S_alloc | apply Kd.S_drewN | apply Kd.S_drew)); exact HO_5.out,by repeat (first | (with_reducible first | exact HB.out | apply zaA | apply bN | apply bD) | exact HB.out)⟩
def impl_fabric_wires.f (k : Nat) (a0_0 : Int) (a0_1 : Int) (l1 : List (List Int)) : Option ((List (List Int)) × Bool):=(impl_fabric_valid.f a0_0 a0_1).bind fun t129 => (if t129 = true then (if (l1.length : Int) > 12 then (some (([] : List (List Int)),false)) else ((all_impl_fabric_way.f k l1 a0_0 a0_1).bind fun t130 => (if t130 = true then ((impl_fabric_wires_m.f k l1 a0_0 a0_1).bind fun t131 => (some (t131,true))) else (some (([] : List (List Int)),false))))) else (some (([] : List (List Int)),false)))
theorem impl_fabric_wires.mono : ∀ a0 a1 a2 k,LeO (impl_fabric_wires.f k a0 a1 a2) (impl_fabric_wires.f (k + 1) a0 a1 a2):=by
 intro a0 a1 a2 k; unfold impl_fabric_wires.f
 repeat' first
   | (with_reducible exact all_impl_fabric_way.mono _ _ _ _)
   | (with_reducible exact impl_fabric_wires_m.mono _ _ _ _)
   | (with_reducible exact LeO.refl _)
   | (with_reducible exact LeO.none _)
   | (with_reducible refine LeO.ite ?_ ?_)
   | (with_reducible refine LeO.bind ?_ (fun _ => ?_))
   | exact all_impl_fabric_way.mono _ _ _ _
   | exact impl_fabric_wires_m.mono _ _ _ _
   | exact LeO.none _
   | refine LeO.ite ?_ ?_
   | refine LeO.bind ?_ (fun _ => ?_)
set_option maxHeartbeats 8000000 in
set_option maxRecDepth 100000 in
theorem impl_fabric_wires.calls (k : Nat) (a0_0 : Int) (a0_1 : Int) (A1 : Option Addr) (c1 : Nat) (l1 : List (List Int)) (r1 : List (List Int)) (r2 : Bool) (w : World) (hr1 : Kd.C (Kd.slice 3 (Kd.int .i64)) w A1 l1.length l1) (hc1 : l1.length ≤ c1) (h : impl_fabric_wires.f k a0_0 a0_1 l1 = some (r1,r2)) :
  Calls Try.prog 34 #[.agg #[.int .i64 a0_0,.int .i64 a0_1],.slice A1 l1.length c1] w fun e w' => ∃ v0_ : Value,e = .returned (.tuple #[v0_,.bool r2]) ∧ Kd.S (Kd.slice 3 (Kd.int .i64)) 28 w' w.heap.size (fun _ => True) v0_ r1 ∧ Below w.heap.size w w':=by
 have hu50:=Try.underlying50; have HR1:=aM hr1; have HC1:=aM hc1; clear hr1 hc1; have HB:=aM (Below.refl w.heap.size w); have H : ((impl_fabric_valid.f a0_0 a0_1).bind fun t129 => (if t129 = true then (if (l1.length : Int) > 12 then (some (([] : List (List Int)),false)) else ((all_impl_fabric_way.f k l1 a0_0 a0_1).bind fun t130 => (if t130 = true then ((impl_fabric_wires_m.f k l1 a0_0 a0_1).bind fun t131 => (some (t131,true))) else (some (([] : List (List Int)),false))))) else (some (([] : List (List Int)),false)))) = some (r1,r2):=h; clear h; replace H:=bE H; obtain ⟨t129,A30,H⟩:=H
 replace H : (if t129 = true then (if (l1.length : Int) > 12 then (some (([] : List (List Int)),false)) else ((all_impl_fabric_way.f k l1 a0_0 a0_1).bind fun t130 => (if t130 = true then ((impl_fabric_wires_m.f k l1 a0_0 a0_1).bind fun t131 => (some (t131,true))) else (some (([] : List (List Int)),false))))) else (some (([] : List (List Int)),false))) = some (r1,r2):=H; have A3:=aM A30; clear A30; by_cases c4 : t129 = true
 ·
  subst c4; have H1 : (if (l1.length : Int) > 12 then (some (([] : List (List Int)),false)) else ((all_impl_fabric_way.f k l1 a0_0 a0_1).bind fun t130 => (if t130 = true then ((impl_fabric_wires_m.f k l1 a0_0 a0_1).bind fun t131 => (some (t131,true))) else (some (([] : List (List Int)),false))))) = some (r1,r2):=by rw [if_pos rfl] at H; exact H
  clear H; have H:=H1; clear H1; by_cases c5 : (l1.length : Int) > 12
  ·
   rw [if_pos c5] at H; have c5b0 : decide (12 < (l1.length : Int)) = true:=decide_eq_true c5; have c5b1 : decide (12 < l1.length) = true:=decide_eq_true (by omega); clear c5; simp only [Option.some.injEq,Prod.mk.injEq] at H; obtain ⟨rfl,rfl⟩:=H; go_enter Try.func34,Try.ntmps34
   go_wp2_with (first | ((with_reducible refine zaS (N:=2) rfl ?_); (try (refine gate_guard (by rfl) ?_; dsimp only)); refine zaY ?hg (N:=2) ?hd (cs:=#[.int .i64 a0_0,.int .i64 a0_1]) (t:=50) ?hr ?_; (case hd => rfl); (case hg => rfl); (case hr => first | (go_simp; done) | (go_simp; rfl)); intro gb128 hg w6 hbox hb; have n0_:=aM (zaJ (by repeat (first | (with_reducible first | exact HB.out | apply zaA | apply bN | apply bD) | exact HB.out)) hb); have n1_:=aM (hbox); have n2_:=aM ((by rw [hg]; exact (zaK (by repeat (first | (with_reducible first | exact HB.out | apply zaA | apply bN | apply bD) | exact HB.out))) : w.heap.size ≤ gb128)); have n3_:=aM ((by rw [hg]; exact (zaK (by repeat (first | (with_reducible first | exact HB.out | apply zaA | apply bN | apply bD) | exact HB.out))) : w.heap.size ≤ gb128)); clear HB; have HB:=n0_; have BK128:=n1_; have GW128:=n2_; have GE128:=n3_; clear n0_ n1_ n2_ n3_; clear hb hbox hg; have hcz7_0 : w6.cell? ⟨gb128,0,none⟩ = some (.int .i64 a0_0):=(zaG BK128.out 0).trans rfl; have hcz7_1 : w6.cell? ⟨gb128,1,none⟩ = some (.int .i64 a0_1):=(zaG BK128.out 1).trans rfl; have hfz7_0:=zaE BK128.out 0; have hfz7_1:=zaE BK128.out 1) | ((with_reducible refine zaI (f:=63) rfl ?_); refine zaR (some 7) rfl rfl Try.func63 (by kernel_rfl) rfl #[.agg #[.int .i64 a0_0,.int .i64 a0_1]] rfl (by (try simp only [mA,mB,mC]); first | done | rfl | (simp only [mE,mD]; rfl)) ?_; (with_reducible refine (impl_fabric_valid.calls a0_0 a0_1 true _ A3.out).mono ?_); rintro e w8 ⟨rfl,hb⟩; refine ⟨_,rfl,?_⟩; have n0_:=aM (zaT (g:=gb128) (o:=.cells #[.int .i64 a0_0,.int .i64 a0_1] 50 (0,0)) (by (with_reducible repeat (first | refine zaC ?_ _ | refine zaF ?_ | refine zaD ?_ _)); exact BK128.out) hb); have n1_:=aM (zaJ (by repeat (first | (with_reducible first | exact HB.out | apply zaA | apply bN | apply bD | refine zaB ?_ GE128.out) | exact HB.out)) hb); clear BK128; clear HB; have BK128:=n0_; have HB:=n1_; clear n0_ n1_; (try clear hb); (try clear hb2); (try clear hk); (try clear hi)))
   go_ret2; exact ⟨_,by first | rfl | (simp [*] <;> rfl),by first | exact Kd.S_nil _ _ _ _ _ | exact Kd.N_nil _ _ _ _ _ | exact Kd.V_nil _ _ _ _ _ | exact Kd.Q_nil _ _ _ _ _ | exact Kd.R_nil _ _ _ _ _,by repeat (first | (with_reducible first | exact HB.out | apply zaA | apply bN | apply bD | refine zaB ?_ GE128.out) | exact HB.out)⟩
  ·
   rw [if_neg c5] at H; have c5b0 : decide (12 < (l1.length : Int)) = false:=decide_eq_false c5; have c5b1 : decide (12 < l1.length) = false:=decide_eq_false (by omega); clear c5; replace H:=bE H; obtain ⟨t130,A90,H⟩:=H; replace H : (if t130 = true then ((impl_fabric_wires_m.f k l1 a0_0 a0_1).bind fun t131 => (some (t131,true))) else (some (([] : List (List Int)),false))) = some (r1,r2):=H; have A9:=aM A90; clear A90; by_cases c10 : t130 = true
   ·
    subst c10; have H1 : ((impl_fabric_wires_m.f k l1 a0_0 a0_1).bind fun t131 => (some (t131,true))) = some (r1,r2):=by rw [if_pos rfl] at H; exact H
    clear H; have H:=H1; clear H1; replace H:=bE H; obtain ⟨t131,A110,H⟩:=H; replace H : (some (t131,true)) = some (r1,r2):=H; have A11:=aM A110; clear A110; simp only [Option.some.injEq,Prod.mk.injEq] at H; obtain ⟨rfl,rfl⟩:=H; go_enter Try.func34,Try.ntmps34
    go_wp2_with (first | ((with_reducible refine zaS (N:=2) rfl ?_); (try (refine gate_guard (by rfl) ?_; dsimp only)); refine zaY ?hg (N:=2) ?hd (cs:=#[.int .i64 a0_0,.int .i64 a0_1]) (t:=50) ?hr ?_; (case hd => rfl); (case hg => rfl); (case hr => first | (go_simp; done) | (go_simp; rfl)); intro gb128 hg w12 hbox hb; have n0_:=aM (zaJ (by repeat (first | (with_reducible first | exact HB.out | apply zaA | apply bN | apply bD) | exact HB.out)) hb); have n1_:=aM (hbox); have n2_:=aM ((by rw [hg]; exact (zaK (by repeat (first | (with_reducible first | exact HB.out | apply zaA | apply bN | apply bD) | exact HB.out))) : w.heap.size ≤ gb128)); have n3_:=aM ((by rw [hg]; exact (zaK (by repeat (first | (with_reducible first | exact HB.out | apply zaA | apply bN | apply bD) | exact HB.out))) : w.heap.size ≤ gb128)); clear HB; have HB:=n0_; have BK128:=n1_; have GW128:=n2_; have GE128:=n3_; clear n0_ n1_ n2_ n3_; clear hb hbox hg; have hcz13_0 : w12.cell? ⟨gb128,0,none⟩ = some (.int .i64 a0_0):=(zaG BK128.out 0).trans rfl; have hcz13_1 : w12.cell? ⟨gb128,1,none⟩ = some (.int .i64 a0_1):=(zaG BK128.out 1).trans rfl; have hfz13_0:=zaE BK128.out 0; have hfz13_1:=zaE BK128.out 1) | ((with_reducible refine zaI (f:=63) rfl ?_); refine zaR (some 7) rfl rfl Try.func63 (by kernel_rfl) rfl #[.agg #[.int .i64 a0_0,.int .i64 a0_1]] rfl (by (try simp only [mA,mB,mC]); first | done | rfl | (simp only [mE,mD]; rfl)) ?_; (with_reducible refine (impl_fabric_valid.calls a0_0 a0_1 true _ A3.out).mono ?_); rintro e w14 ⟨rfl,hb⟩; refine ⟨_,rfl,?_⟩; have n0_:=aM (zaT (g:=gb128) (o:=.cells #[.int .i64 a0_0,.int .i64 a0_1] 50 (0,0)) (by (with_reducible repeat (first | refine zaC ?_ _ | refine zaF ?_ | refine zaD ?_ _)); exact BK128.out) hb); have n1_:=aM (zaJ (by repeat (first | (with_reducible first | exact HB.out | apply zaA | apply bN | apply bD | refine zaB ?_ GE128.out) | exact HB.out)) hb); clear BK128; clear HB; have BK128:=n0_; have HB:=n1_; clear n0_ n1_; (try clear hb); (try clear hb2); (try clear hk); (try clear hi); have hcz15_0 : w14.cell? ⟨gb128,0,none⟩ = some (.int .i64 a0_0):=(zaG BK128.out 0).trans rfl; have hcz15_1 : w14.cell? ⟨gb128,1,none⟩ = some (.int .i64 a0_1):=(zaG BK128.out 1).trans rfl; have hfz15_0:=zaE BK128.out 0; have hfz15_1:=zaE BK128.out 1) | (go_at_call 64; (with_reducible refine (all_impl_fabric_way.calls k _ _ l1 a0_0 a0_1 true _ ?side1 ?side2 A9.out).mono ?_); (case side1 => repeat (first | exact (Kd.C_below HR1.out HB.out) | (with_reducible refine Kd.C_alloc ?_ _) | (with_reducible refine Kd.C_drewN ?_ _) | (with_reducible refine Kd.C_drew ?_))); (case side2 => exact HC1.out); rintro e w16 ⟨rfl,hb⟩; have n0_:=aM (zaT (g:=gb128) (o:=.cells #[.int .i64 a0_0,.int .i64 a0_1] 50 (0,0)) (by (with_reducible repeat (first | refine zaC ?_ _ | refine zaF ?_ | refine zaD ?_ _)); exact BK128.out) hb); have n1_:=aM (zaJ (by repeat (first | (with_reducible first | exact HB.out | apply zaA | apply bN | apply bD | refine zaB ?_ GE128.out) | exact HB.out)) hb); clear BK128; clear HB; have BK128:=n0_; have HB:=n1_; clear n0_ n1_; (try clear hb); (try clear hb2); (try clear hk); (try clear hi); have hcz17_0 : w16.cell? ⟨gb128,0,none⟩ = some (.int .i64 a0_0):=(zaG BK128.out 0).trans rfl; have hcz17_1 : w16.cell? ⟨gb128,1,none⟩ = some (.int .i64 a0_1):=(zaG BK128.out 1).trans rfl; have hfz17_0:=zaE BK128.out 0; have hfz17_1:=zaE BK128.out 1) | ((with_reducible refine zaI (f:=65) rfl ?_); refine zaR (some 23) rfl rfl Try.func65 (by kernel_rfl) rfl #[.slice A1 l1.length c1,.func (.func 66) #[] #[.pointer (some ⟨gb128,0,none⟩)]] rfl (by (try simp only [mA,mB,mC]); first | done | rfl | (simp only [mE,mD]; rfl)) ?_; (with_reducible refine (impl_fabric_wires_m.calls k _ _ l1 a0_0 a0_1 t131 _ gb128 BK128.out ?side1 ?side2 A11.out).mono ?_); (case side1 => repeat (first | exact (Kd.C_below HR1.out HB.out) | (with_reducible refine Kd.C_alloc ?_ _) | (with_reducible refine Kd.C_drewN ?_ _) | (with_reducible refine Kd.C_drew ?_))); (case side2 => exact HC1.out); rintro e w18 ⟨v132,rfl,ho0,hb⟩; refine ⟨_,rfl,?_⟩; have n0_:=aM (Kd.S_lower ho0 (zaK (by repeat (first | (with_reducible first | exact HB.out | apply zaA | apply bN | apply bD | refine zaB ?_ GE128.out) | exact HB.out)))); have n1_:=aM (zaT (g:=gb128) (o:=.cells #[.int .i64 a0_0,.int .i64 a0_1] 50 (0,0)) (by (with_reducible repeat (first | refine zaC ?_ _ | refine zaF ?_ | refine zaD ?_ _)); exact BK128.out) hb); have n2_:=aM (zaJ (by repeat (first | (with_reducible first | exact HB.out | apply zaA | apply bN | apply bD | refine zaB ?_ GE128.out) | exact HB.out)) hb); clear BK128; clear HB; have HO133:=n0_; have BK128:=n1_; have HB:=n2_; clear n0_ n1_ n2_; (try clear hb); (try clear hb2); (try clear hk); (try clear hi); (try clear ho0)))
    go_ret2; exact ⟨_,by first | rfl | (simp [*] <;> rfl),by (with_reducible repeat (first | apply Kd.S_alloc | apply Kd.S_drewN | apply Kd.S_drew)); exact HO133.out,by repeat (first | (with_reducible first | exact HB.out | apply zaA | apply bN | apply bD | refine zaB ?_ GE128.out) | exact HB.out)⟩
   ·
    replace c10:=Bool.eq_false_iff.mpr c10; subst c10; have H1 : (some (([] : List (List Int)),false)) = some (r1,r2):=by rw [if_neg (show ¬ (false = true) by decide)] at H; exact H
    clear H; have H:=H1; clear H1; simp only [Option.some.injEq,Prod.mk.injEq] at H; obtain ⟨rfl,rfl⟩:=H; go_enter Try.func34,Try.ntmps34
    go_wp2_with (first | ((with_reducible refine zaS (N:=2) rfl ?_); (try (refine gate_guard (by rfl) ?_; dsimp only)); refine zaY ?hg (N:=2) ?hd (cs:=#[.int .i64 a0_0,.int .i64 a0_1]) (t:=50) ?hr ?_; (case hd => rfl); (case hg => rfl); (case hr => first | (go_simp; done) | (go_simp; rfl)); intro gb128 hg w19 hbox hb; have n0_:=aM (zaJ (by repeat (first | (with_reducible first | exact HB.out | apply zaA | apply bN | apply bD) | exact HB.out)) hb); have n1_:=aM (hbox); have n2_:=aM ((by rw [hg]; exact (zaK (by repeat (first | (with_reducible first | exact HB.out | apply zaA | apply bN | apply bD) | exact HB.out))) : w.heap.size ≤ gb128)); have n3_:=aM ((by rw [hg]; exact (zaK (by repeat (first | (with_reducible first | exact HB.out | apply zaA | apply bN | apply bD) | exact HB.out))) : w.heap.size ≤ gb128)); clear HB; have HB:=n0_; have BK128:=n1_; have GW128:=n2_; have GE128:=n3_; clear n0_ n1_ n2_ n3_; clear hb hbox hg; have hcz20_0 : w19.cell? ⟨gb128,0,none⟩ = some (.int .i64 a0_0):=(zaG BK128.out 0).trans rfl; have hcz20_1 : w19.cell? ⟨gb128,1,none⟩ = some (.int .i64 a0_1):=(zaG BK128.out 1).trans rfl; have hfz20_0:=zaE BK128.out 0; have hfz20_1:=zaE BK128.out 1) | ((with_reducible refine zaI (f:=63) rfl ?_); refine zaR (some 7) rfl rfl Try.func63 (by kernel_rfl) rfl #[.agg #[.int .i64 a0_0,.int .i64 a0_1]] rfl (by (try simp only [mA,mB,mC]); first | done | rfl | (simp only [mE,mD]; rfl)) ?_; (with_reducible refine (impl_fabric_valid.calls a0_0 a0_1 true _ A3.out).mono ?_); rintro e w21 ⟨rfl,hb⟩; refine ⟨_,rfl,?_⟩; have n0_:=aM (zaT (g:=gb128) (o:=.cells #[.int .i64 a0_0,.int .i64 a0_1] 50 (0,0)) (by (with_reducible repeat (first | refine zaC ?_ _ | refine zaF ?_ | refine zaD ?_ _)); exact BK128.out) hb); have n1_:=aM (zaJ (by repeat (first | (with_reducible first | exact HB.out | apply zaA | apply bN | apply bD | refine zaB ?_ GE128.out) | exact HB.out)) hb); clear BK128; clear HB; have BK128:=n0_; have HB:=n1_; clear n0_ n1_; (try clear hb); (try clear hb2); (try clear hk); (try clear hi); have hcz22_0 : w21.cell? ⟨gb128,0,none⟩ = some (.int .i64 a0_0):=(zaG BK128.out 0).trans rfl; have hcz22_1 : w21.cell? ⟨gb128,1,none⟩ = some (.int .i64 a0_1):=(zaG BK128.out 1).trans rfl; have hfz22_0:=zaE BK128.out 0; have hfz22_1:=zaE BK128.out 1) | (go_at_call 64; (with_reducible refine (all_impl_fabric_way.calls k _ _ l1 a0_0 a0_1 false _ ?side1 ?side2 A9.out).mono ?_); (case side1 => repeat (first | exact (Kd.C_below HR1.out HB.out) | (with_reducible refine Kd.C_alloc ?_ _) | (with_reducible refine Kd.C_drewN ?_ _) | (with_reducible refine Kd.C_drew ?_))); (case side2 => exact HC1.out); rintro e w23 ⟨rfl,hb⟩; have n0_:=aM (zaT (g:=gb128) (o:=.cells #[.int .i64 a0_0,.int .i64 a0_1] 50 (0,0)) (by (with_reducible repeat (first | refine zaC ?_ _ | refine zaF ?_ | refine zaD ?_ _)); exact BK128.out) hb); have n1_:=aM (zaJ (by repeat (first | (with_reducible first | exact HB.out | apply zaA | apply bN | apply bD | refine zaB ?_ GE128.out) | exact HB.out)) hb); clear BK128; clear HB; have BK128:=n0_; have HB:=n1_; clear n0_ n1_; (try clear hb); (try clear hb2); (try clear hk); (try clear hi)))
    go_ret2; exact ⟨_,by first | rfl | (simp [*] <;> rfl),by first | exact Kd.S_nil _ _ _ _ _ | exact Kd.N_nil _ _ _ _ _ | exact Kd.V_nil _ _ _ _ _ | exact Kd.Q_nil _ _ _ _ _ | exact Kd.R_nil _ _ _ _ _,by repeat (first | (with_reducible first | exact HB.out | apply zaA | apply bN | apply bD | refine zaB ?_ GE128.out) | exact HB.out)⟩
 ·
  replace c4:=Bool.eq_false_iff.mpr c4; subst c4; have H1 : (some (([] : List (List Int)),false)) = some (r1,r2):=by rw [if_neg (show ¬ (false = true) by decide)] at H; exact H
  clear H; have H:=H1; clear H1; simp only [Option.some.injEq,Prod.mk.injEq] at H; obtain ⟨rfl,rfl⟩:=H; go_enter Try.func34,Try.ntmps34
  go_wp2_with (first | ((with_reducible refine zaS (N:=2) rfl ?_); (try (refine gate_guard (by rfl) ?_; dsimp only)); refine zaY ?hg (N:=2) ?hd (cs:=#[.int .i64 a0_0,.int .i64 a0_1]) (t:=50) ?hr ?_; (case hd => rfl); (case hg => rfl); (case hr => first | (go_simp; done) | (go_simp; rfl)); intro gb128 hg w24 hbox hb; have n0_:=aM (zaJ (by repeat (first | (with_reducible first | exact HB.out | apply zaA | apply bN | apply bD) | exact HB.out)) hb); have n1_:=aM (hbox); have n2_:=aM ((by rw [hg]; exact (zaK (by repeat (first | (with_reducible first | exact HB.out | apply zaA | apply bN | apply bD) | exact HB.out))) : w.heap.size ≤ gb128)); have n3_:=aM ((by rw [hg]; exact (zaK (by repeat (first | (with_reducible first | exact HB.out | apply zaA | apply bN | apply bD) | exact HB.out))) : w.heap.size ≤ gb128)); clear HB; have HB:=n0_; have BK128:=n1_; have GW128:=n2_; have GE128:=n3_; clear n0_ n1_ n2_ n3_; clear hb hbox hg; have hcz25_0 : w24.cell? ⟨gb128,0,none⟩ = some (.int .i64 a0_0):=(zaG BK128.out 0).trans rfl; have hcz25_1 : w24.cell? ⟨gb128,1,none⟩ = some (.int .i64 a0_1):=(zaG BK128.out 1).trans rfl; have hfz25_0:=zaE BK128.out 0; have hfz25_1:=zaE BK128.out 1) | ((with_reducible refine zaI (f:=63) rfl ?_); refine zaR (some 7) rfl rfl Try.func63 (by kernel_rfl) rfl #[.agg #[.int .i64 a0_0,.int .i64 a0_1]] rfl (by (try simp only [mA,mB,mC]); first | done | rfl | (simp only [mE,mD]; rfl)) ?_; (with_reducible refine (impl_fabric_valid.calls a0_0 a0_1 false _ A3.out).mono ?_); rintro e w26 ⟨rfl,hb⟩; refine ⟨_,rfl,?_⟩; have n0_:=aM (zaT (g:=gb128) (o:=.cells #[.int .i64 a0_0,.int .i64 a0_1] 50 (0,0)) (by (with_reducible repeat (first | refine zaC ?_ _ | refine zaF ?_ | refine zaD ?_ _)); exact BK128.out) hb); have n1_:=aM (zaJ (by repeat (first | (with_reducible first | exact HB.out | apply zaA | apply bN | apply bD | refine zaB ?_ GE128.out) | exact HB.out)) hb); clear BK128; clear HB; have BK128:=n0_; have HB:=n1_; clear n0_ n1_; (try clear hb); (try clear hb2); (try clear hk); (try clear hi)))
  go_ret2; exact ⟨_,by first | rfl | (simp [*] <;> rfl),by first | exact Kd.S_nil _ _ _ _ _ | exact Kd.N_nil _ _ _ _ _ | exact Kd.V_nil _ _ _ _ _ | exact Kd.Q_nil _ _ _ _ _ | exact Kd.R_nil _ _ _ _ _,by repeat (first | (with_reducible first | exact HB.out | apply zaA | apply bN | apply bD | refine zaB ?_ GE128.out) | exact HB.out)⟩
def slices_Index_bool_bool.l0 : Nat → List Bool → Bool → Int → Int → Option (Int)
 | 0,_,_,_,_ => none
 | k + 1,x0,x1,x7,x8 => if x8 < x7 then (if 0 ≤ x8 then (if x8 < (x0.length : Int) then (if (x1 == (rdOf false x0 x8)) = true then (some x8) else (slices_Index_bool_bool.l0 k x0 x1 x7 (wrap64 (x8 + 1)))) else (none)) else (none)) else (some (-1))
def slices_Index_bool_bool.f (k : Nat) (l0 : List Bool) (a1 : Bool) : Option (Int):=slices_Index_bool_bool.l0 k l0 a1 (l0.length : Int) 0
theorem slices_Index_bool_bool.mono_l : ∀ k,(∀ y0 y1 y2 y3,LeO (slices_Index_bool_bool.l0 k y0 y1 y2 y3) (slices_Index_bool_bool.l0 (k + 1) y0 y1 y2 y3))
 | 0 => fun _ _ _ _ r h => by simp [slices_Index_bool_bool.l0] at h
 | k + 1 => by
  have ih0:=slices_Index_bool_bool.mono_l k
  ·
   intro y0 y1 y2 y3; unfold slices_Index_bool_bool.l0
   repeat' first
   | (with_reducible exact ih0 _ _ _ _)
   | (with_reducible exact LeO.refl _)
   | (with_reducible exact LeO.none _)
   | (with_reducible refine LeO.ite ?_ ?_)
   | (with_reducible refine LeO.bind ?_ (fun _ => ?_))
   | exact ih0 _ _ _ _
   | exact LeO.none _
   | refine LeO.ite ?_ ?_
   | refine LeO.bind ?_ (fun _ => ?_)
theorem slices_Index_bool_bool.mono : ∀ a0 a1 k,LeO (slices_Index_bool_bool.f k a0 a1) (slices_Index_bool_bool.f (k + 1) a0 a1):=by
 intro a0 a1 k; have ih0:=slices_Index_bool_bool.mono_l k; unfold slices_Index_bool_bool.f
 repeat' first
   | (with_reducible exact ih0 _ _ _ _)
   | (with_reducible exact LeO.refl _)
   | (with_reducible exact LeO.none _)
   | (with_reducible refine LeO.ite ?_ ?_)
   | (with_reducible refine LeO.bind ?_ (fun _ => ?_))
   | exact ih0 _ _ _ _
   | exact LeO.none _
   | refine LeO.ite ?_ ?_
   | refine LeO.bind ?_ (fun _ => ?_)
set_option maxHeartbeats 8000000 in
set_option maxRecDepth 100000 in
theorem slices_Index_bool_bool.calls (k : Nat) (A0 : Option Addr) (c0 : Nat) (l0 : List Bool) (a1 : Bool) (r : Int) (w : World) (hr0 : Kd.C Kd.bool w A0 l0.length l0) (hc0 : l0.length ≤ c0) (h : slices_Index_bool_bool.f k l0 a1 = some r) :
  Calls Try.prog 73 #[.slice A0 l0.length c0,.bool a1] w fun e w' => e = .returned (.int .i64 r) ∧ Drawn0 w w':=by
 have HR0:=aM hr0; have HC0:=aM hc0; clear hr0 hc0; have H : (slices_Index_bool_bool.l0 k l0 a1 (l0.length : Int) 0) = some r:=h; clear h; have H':=aM H; clear H; go_enter Try.func73,Try.ntmps73; go_wp2; go_loopg [8] k (fun kq v8 w' => ∃ (x8_1 : Int),v8 = .int .i64 x8_1 ∧ Aside0 (slices_Index_bool_bool.l0 kq l0 a1 (l0.length : Int) x8_1 = some r) ∧ Aside0 (kq ≤ k) ∧ Drawn0 w w'); case atStart => exact ⟨(0),(by first | rfl | (simp; done) | (simp [*]; done)),H',⟨Nat.le_refl _⟩,by repeat (first | exact Drawn0.refl _ | apply Drawn0.step)⟩
 case round =>
  clear H'
  try clear p2
  obtain ⟨x8_1,rfl,HA,HK1,⟨m1,rfl⟩⟩:=hrel; cases gk with
  | zero => exact absurd HA.out (by simp [slices_Index_bool_bool.l0])
  | succ k1 =>
   have H:=HA.out; clear HA; simp only [slices_Index_bool_bool.l0] at H; by_cases c3 : x8_1 < (l0.length : Int)
   ·
    rw [if_pos c3] at H; have c3b0 : decide (x8_1 < (l0.length : Int)) = true:=decide_eq_true c3; clear c3; by_cases c4 : 0 ≤ x8_1
    ·
     rw [if_pos c4] at H; have c4b0 : decide (0 ≤ x8_1) = true:=decide_eq_true c4; clear c4; by_cases c5 : x8_1 < (l0.length : Int)
     ·
      rw [if_pos c5] at H; have c5b0 : decide (x8_1 < (l0.length : Int)) = true:=decide_eq_true c5; clear c5; by_cases c6 : (a1 == (rdOf false l0 x8_1)) = true
      ·
       rw [if_pos c6] at H; have c6b0 : (a1 == (rdOf false l0 x8_1)) = true:=c6; (try (have c6b1 : decide (a1 = (rdOf false l0 x8_1)) = true:=by simpa using c6)); (try (have c6b2 : (a1 == (rdOf false l0 x8_1)) = true:=by simpa using c6)); clear c6; obtain rfl:=Option.some.inj H; have p113 : 0 ≤ (x8_1 : Int):=oD (by assumption); have q113 : x8_1 < (l0.length : Int):=oD (by assumption); obtain ⟨ad113,e113,hx113_0⟩:=Kd.at_bool HR0.out x8_1 p113 q113; cases e113; replace p113:=eq_true p113; replace q113:=eq_true q113; go_wp2; go_ret; exact ⟨by first | rfl | (simp; done) | (simp [*]; done),by repeat (first | exact Drawn0.refl _ | apply Drawn0.step)⟩
      ·
       rw [if_neg c6] at H; have c6b0 : (a1 == (rdOf false l0 x8_1)) = false:=by simpa using c6
       (try (have c6b1 : decide (a1 = (rdOf false l0 x8_1)) = false:=by simpa using c6)); (try (have c6b2 : (a1 == (rdOf false l0 x8_1)) = false:=by simpa using c6)); (try (have c6b3 : ¬ (a1 = (rdOf false l0 x8_1)):=by simpa using c6)); clear c6; have H':=aM H; clear H; have p113 : 0 ≤ (x8_1 : Int):=oD (by assumption); have q113 : x8_1 < (l0.length : Int):=oD (by assumption); obtain ⟨ad113,e113,hx113_0⟩:=Kd.at_bool HR0.out x8_1 p113 q113; cases e113; replace p113:=eq_true p113; replace q113:=eq_true q113; go_wp2; go_roundg k1; case measure => have:=HK1.out; omega
       case rel => exact ⟨(wrap64 (x8_1 + 1)),(by first | rfl | (simp; done) | (simp [*]; done)),H',⟨by have:=HK1.out; omega⟩,by repeat (first | exact Drawn0.refl _ | apply Drawn0.step)⟩
     ·
      rw [if_neg c5] at H; exact absurd H (by simp)
    ·
     rw [if_neg c4] at H; exact absurd H (by simp)
   ·
    rw [if_neg c3] at H; have c3b0 : decide (x8_1 < (l0.length : Int)) = false:=decide_eq_false c3; clear c3; obtain rfl:=Option.some.inj H; go_wp2; go_ret; exact ⟨by first | rfl | (simp; done) | (simp [*]; done),by repeat (first | exact Drawn0.refl _ | apply Drawn0.step)⟩
def slices_Contains_bool_bool.f (k : Nat) (l0 : List Bool) (a1 : Bool) : Option (Bool):=(slices_Index_bool_bool.f k l0 a1).bind fun t114 => (some (decide (t114 ≥ 0)))
theorem slices_Contains_bool_bool.mono : ∀ a0 a1 k,LeO (slices_Contains_bool_bool.f k a0 a1) (slices_Contains_bool_bool.f (k + 1) a0 a1):=by
 intro a0 a1 k; unfold slices_Contains_bool_bool.f
 repeat' first
   | (with_reducible exact slices_Index_bool_bool.mono _ _ _)
   | (with_reducible exact LeO.refl _)
   | (with_reducible exact LeO.none _)
   | (with_reducible refine LeO.ite ?_ ?_)
   | (with_reducible refine LeO.bind ?_ (fun _ => ?_))
   | exact slices_Index_bool_bool.mono _ _ _
   | exact LeO.none _
   | refine LeO.ite ?_ ?_
   | refine LeO.bind ?_ (fun _ => ?_)
set_option maxHeartbeats 8000000 in
set_option maxRecDepth 100000 in
theorem slices_Contains_bool_bool.calls (k : Nat) (A0 : Option Addr) (c0 : Nat) (l0 : List Bool) (a1 : Bool) (r : Bool) (w : World) (hr0 : Kd.C Kd.bool w A0 l0.length l0) (hc0 : l0.length ≤ c0) (h : slices_Contains_bool_bool.f k l0 a1 = some r) :
  Calls Try.prog 43 #[.slice A0 l0.length c0,.bool a1] w fun e w' => e = .returned (.bool r) ∧ Drawn0 w w':=by
 have HR0:=aM hr0; have HC0:=aM hc0; clear hr0 hc0; have H : ((slices_Index_bool_bool.f k l0 a1).bind fun t114 => (some (decide (t114 ≥ 0)))) = some r:=h; clear h; replace H:=bE H; obtain ⟨t114,A30,H⟩:=H; replace H : (some (decide (t114 ≥ 0))) = some r:=H; have A3:=aM A30; clear A30; obtain rfl:=Option.some.inj H; go_enter Try.func43,Try.ntmps43
 go_wp2_with (first | ((with_reducible refine zaI (f:=73) rfl ?_); refine zaR (some 7) rfl rfl Try.func73 (by kernel_rfl) rfl #[.slice A0 l0.length c0,.bool a1] rfl (by (try simp only [mA,mB,mC]); first | done | rfl | (simp only [mE,mD]; rfl)) ?_; (with_reducible refine (slices_Index_bool_bool.calls k _ _ l0 a1 t114 _ ?side1 ?side2 A3.out).mono ?_); (case side1 => repeat (first | exact HR0.out | (with_reducible refine Kd.C_alloc ?_ _) | (with_reducible refine Kd.C_drewN ?_ _) | (with_reducible refine Kd.C_drew ?_))); (case side2 => exact HC0.out); rintro e w' ⟨rfl,⟨nd,rfl⟩⟩; refine ⟨_,rfl,?_⟩)); go_ret; exact ⟨by first | rfl | (simp; done) | (simp [*]; done),by repeat (first | exact Drawn0.refl _ | apply Drawn0.step)⟩
end Go.Proofs.Ytdbokdodjekchaa.PFnRouteNoRound
