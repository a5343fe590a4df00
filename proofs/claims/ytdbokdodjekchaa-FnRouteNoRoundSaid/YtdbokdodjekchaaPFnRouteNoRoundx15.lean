/- What the Go functions that this law reaches answer, function by function; conditions: those that each contract names. Made for this claim by a program of this session (wip/myprint) over the kit's print. -/
import Derived.Test.YtdbokdodjekchaaPFnRouteNoRoundx0
import Derived.Test.YtdbokdodjekchaaPFnRouteNoRoundx1
import Derived.Test.YtdbokdodjekchaaPFnRouteNoRoundx14
namespace Go.Proofs.Ytdbokdodjekchaa.PFnRouteNoRound
open Go.RowKit Go.Proofs.YtdbokdodjekchaaW.PrintWords Go.Proofs.YtdbokdodjekchaaW.PrintLast Go.Proofs.YtdbokdodjekchaaW.PrintMore
attribute [local go_sem] zbL zbJ max_two min_two zbF zbE zbK zbI   -- for this text's walks alone
set_option linter.unusedVariables false
set_option linter.unusedSimpArgs false
mutual
def spec_HasRound.l0 : Nat → List (List Int) → Option (Bool)
 | 0,_ => none
 | k + 1,x7 => spec_HasRound.l1 k x7 (([] : List (List Int))) 0
def spec_HasRound.l1 : Nat → List (List Int) → List (List Int) → Int → Option (Bool)
 | 0,_,_,_ => none
 | k + 1,x7,x8,x9 => if x9 < (x7.length : Int) then (spec_HasRound.l2 k x7 x8 x9 false 0) else (if (x8.length : Int) = (x7.length : Int) then (some (decide ((x8.length : Int) > 0))) else (spec_HasRound.l0 k x8))
def spec_HasRound.l2 : Nat → List (List Int) → List (List Int) → Int → Bool → Int → Option (Bool)
 | 0,_,_,_,_,_ => none
 | k + 1,x7,x8,x9,x10,x11 => if x11 < (x7.length : Int) then (if x10 = true then (spec_HasRound.l2 k x7 x8 x9 true (wrap64 (x11 + 1))) else (if 0 ≤ x11 then (if 0 < ((rd_L2 x7 x11).length : Int) then (if 0 ≤ x9 then (if x9 < (x7.length : Int) then (if 1 < ((rd_L2 x7 x9).length : Int) then (spec_HasRound.l2 k x7 x8 x9 ((rd (rd_L2 x7 x11) 0) == (rd (rd_L2 x7 x9) 1)) (wrap64 (x11 + 1))) else (none)) else (none)) else (none)) else (none)) else (none))) else (if x10 = true then (if 0 ≤ x9 then (if x9 < (x7.length : Int) then (if x8.length < 5864062014805 then (spec_HasRound.l1 k x7 (x8 ++ [rd_L2 x7 x9]) (wrap64 (x9 + 1))) else (none)) else (none)) else (none)) else (spec_HasRound.l1 k x7 x8 (wrap64 (x9 + 1))))
end
def spec_HasRound.f (k : Nat) (a0 : Int) (a1 : Int) (l2 : List (List Int)) : Option (Bool):=(spec_WaitsOf.f k a0 a1 l2).bind fun t324 => (spec_HasRound.l0 k t324)
theorem spec_HasRound.mono_l : ∀ k,(∀ y0,LeO (spec_HasRound.l0 k y0) (spec_HasRound.l0 (k + 1) y0)) ∧ (∀ y0 y1 y2,LeO (spec_HasRound.l1 k y0 y1 y2) (spec_HasRound.l1 (k + 1) y0 y1 y2)) ∧ (∀ y0 y1 y2 y3 y4,LeO (spec_HasRound.l2 k y0 y1 y2 y3 y4) (spec_HasRound.l2 (k + 1) y0 y1 y2 y3 y4))
 | 0 => ⟨fun _ r h => by simp [spec_HasRound.l0] at h,fun _ _ _ r h => by simp [spec_HasRound.l1] at h,fun _ _ _ _ _ r h => by simp [spec_HasRound.l2] at h⟩
 | k + 1 => by
  obtain ⟨ih0,ih1,ih2⟩:=spec_HasRound.mono_l k; refine ⟨?_,?_,?_⟩
  ·
   intro y0; unfold spec_HasRound.l0
   repeat' first
   | (with_reducible exact ih0 _)
   | (with_reducible exact ih1 _ _ _)
   | (with_reducible exact ih2 _ _ _ _ _)
   | (with_reducible exact spec_WaitsOf.mono _ _ _ _)
   | (with_reducible exact LeO.refl _)
   | (with_reducible exact LeO.none _)
   | (with_reducible refine LeO.ite ?_ ?_)
   | (with_reducible refine LeO.bind ?_ (fun _ => ?_))
   | exact ih0 _
   | exact ih1 _ _ _
   | exact ih2 _ _ _ _ _
   | exact spec_WaitsOf.mono _ _ _ _
   | exact LeO.none _
   | refine LeO.ite ?_ ?_
   | refine LeO.bind ?_ (fun _ => ?_)
  ·
   intro y0 y1 y2; unfold spec_HasRound.l1
   repeat' first
   | (with_reducible exact ih0 _)
   | (with_reducible exact ih1 _ _ _)
   | (with_reducible exact ih2 _ _ _ _ _)
   | (with_reducible exact spec_WaitsOf.mono _ _ _ _)
   | (with_reducible exact LeO.refl _)
   | (with_reducible exact LeO.none _)
   | (with_reducible refine LeO.ite ?_ ?_)
   | (with_reducible refine LeO.bind ?_ (fun _ => ?_))
   | exact ih0 _
   | exact ih1 _ _ _
   | exact ih2 _ _ _ _ _
   | exact spec_WaitsOf.mono _ _ _ _
   | exact LeO.none _
   | refine LeO.ite ?_ ?_
   | refine LeO.bind ?_ (fun _ => ?_)
  ·
   intro y0 y1 y2 y3 y4; unfold spec_HasRound.l2
   repeat' first
   | (with_reducible exact ih0 _)
   | (with_reducible exact ih1 _ _ _)
   | (with_reducible exact ih2 _ _ _ _ _)
   | (with_reducible exact spec_WaitsOf.mono _ _ _ _)
   | (with_reducible exact LeO.refl _)
   | (with_reducible exact LeO.none _)
   | (with_reducible refine LeO.ite ?_ ?_)
   | (with_reducible refine LeO.bind ?_ (fun _ => ?_))
   | exact ih0 _
   | exact ih1 _ _ _
   | exact ih2 _ _ _ _ _
   | exact spec_WaitsOf.mono _ _ _ _
   | exact LeO.none _
   | refine LeO.ite ?_ ?_
   | refine LeO.bind ?_ (fun _ => ?_)
theorem spec_HasRound.mono : ∀ a0 a1 a2 k,LeO (spec_HasRound.f k a0 a1 a2) (spec_HasRound.f (k + 1) a0 a1 a2):=by
 intro a0 a1 a2 k; obtain ⟨ih0,ih1,ih2⟩:=spec_HasRound.mono_l k; unfold spec_HasRound.f
 repeat' first
   | (with_reducible exact ih0 _)
   | (with_reducible exact ih1 _ _ _)
   | (with_reducible exact ih2 _ _ _ _ _)
   | (with_reducible exact spec_WaitsOf.mono _ _ _ _)
   | (with_reducible exact LeO.refl _)
   | (with_reducible exact LeO.none _)
   | (with_reducible refine LeO.ite ?_ ?_)
   | (with_reducible refine LeO.bind ?_ (fun _ => ?_))
   | exact ih0 _
   | exact ih1 _ _ _
   | exact ih2 _ _ _ _ _
   | exact spec_WaitsOf.mono _ _ _ _
   | exact LeO.none _
   | refine LeO.ite ?_ ?_
   | refine LeO.bind ?_ (fun _ => ?_)
set_option maxHeartbeats 8000000 in
set_option maxRecDepth 100000 in
theorem spec_HasRound.calls (k : Nat) (a0 : Int) (a1 : Int) (A2 : Option Addr) (c2 : Nat) (l2 : List (List Int)) (r : Bool) (w : World) (hr2 : Kd.C (Kd.slice 3 (Kd.int .i64)) w A2 l2.length l2) (hc2 : l2.length ≤ c2) (h : spec_HasRound.f k a0 a1 l2 = some r) :
  Calls Try.prog 20 #[.int .i64 a0,.int .i64 a1,.slice A2 l2.length c2] w fun e w' => e = .returned (.bool r) ∧ Below w.heap.size w w':=by
 have HR2:=aM hr2; have HC2:=aM hc2; clear hr2 hc2; have HB:=aM (Below.refl w.heap.size w); have H : ((spec_WaitsOf.f k a0 a1 l2).bind fun t324 => (spec_HasRound.l0 k t324)) = some r:=h; clear h; replace H:=bE H; obtain ⟨t324,A40,H⟩:=H; replace H : (spec_HasRound.l0 k t324) = some r:=H; have A4:=aM A40; clear A40; have H':=aM H; clear H; go_enter Try.func20,Try.ntmps20
 go_wp2_with (first | (go_at_call 13; (with_reducible refine (spec_WaitsOf.calls k a0 a1 _ _ l2 t324 _ ?side1 ?side2 A4.out).mono ?_); (case side1 => repeat (first | exact HR2.out | (with_reducible refine Kd.C_alloc ?_ _) | (with_reducible refine Kd.C_drewN ?_ _) | (with_reducible refine Kd.C_drew ?_))); (case side2 => exact HC2.out); rintro e w5 ⟨v325,rfl,ho0,hb⟩; have n0_:=aM (Kd.N_lower (Kd.N_mono (ok':=fun k_ => True) (Kd.S_N (Kd.S_bound ho0)) (fun k_ hk_ => trivial)) (zaK (by repeat (first | (with_reducible first | exact HB.out | apply zaA | apply bN | apply bD) | exact HB.out)))); have n1_:=aM (zaJ (by repeat (first | (with_reducible first | exact HB.out | apply zaA | apply bN | apply bD) | exact HB.out)) hb); clear HB; have HO326:=n0_; have HB:=n1_; clear n0_ n1_; (try clear hb); (try clear hb2); (try clear hk); (try clear hi); (try clear ho0)))
 repeat (go_quiet (first | (go_at_call 13; (with_reducible refine (spec_WaitsOf.calls k a0 a1 _ _ l2 t324 _ ?side1 ?side2 A4.out).mono ?_); (case side1 => repeat (first | exact HR2.out | (with_reducible refine Kd.C_alloc ?_ _) | (with_reducible refine Kd.C_drewN ?_ _) | (with_reducible refine Kd.C_drew ?_))); (case side2 => exact HC2.out); rintro e w5 ⟨v325,rfl,ho0,hb⟩; have n0_:=aM (Kd.N_lower (Kd.N_mono (ok':=fun k_ => True) (Kd.S_N (Kd.S_bound ho0)) (fun k_ hk_ => trivial)) (zaK (by repeat (first | (with_reducible first | exact HB.out | apply zaA | apply bN | apply bD) | exact HB.out)))); have n1_:=aM (zaJ (by repeat (first | (with_reducible first | exact HB.out | apply zaA | apply bN | apply bD) | exact HB.out)) hb); clear HB; have HO326:=n0_; have HB:=n1_; clear n0_ n1_; (try clear hb); (try clear hb2); (try clear hk); (try clear hi); (try clear ho0))); try go_wp2_with (first | (go_at_call 13; (with_reducible refine (spec_WaitsOf.calls k a0 a1 _ _ l2 t324 _ ?side1 ?side2 A4.out).mono ?_); (case side1 => repeat (first | exact HR2.out | (with_reducible refine Kd.C_alloc ?_ _) | (with_reducible refine Kd.C_drewN ?_ _) | (with_reducible refine Kd.C_drew ?_))); (case side2 => exact HC2.out); rintro e w5 ⟨v325,rfl,ho0,hb⟩; have n0_:=aM (Kd.N_lower (Kd.N_mono (ok':=fun k_ => True) (Kd.S_N (Kd.S_bound ho0)) (fun k_ hk_ => trivial)) (zaK (by repeat (first | (with_reducible first | exact HB.out | apply zaA | apply bN | apply bD) | exact HB.out)))); have n1_:=aM (zaJ (by repeat (first | (with_reducible first | exact HB.out | apply zaA | apply bN | apply bD) | exact HB.out)) hb); clear HB; have HO326:=n0_; have HB:=n1_; clear n0_ n1_; (try clear hb); (try clear hb2); (try clear hk); (try clear hi); (try clear ho0))))
 go_loopg [7] k (fun kq v7 w' => ∃ (x7_1 : List (List Int)),Aside0 (spec_HasRound.l0 kq x7_1 = some r) ∧ Aside0 (kq ≤ k) ∧ Aside0 (Kd.N (Kd.slice 3 (Kd.int .i64)) 28 w' w.heap.size (fun _ => True) v7 x7_1) ∧ Aside0 (Below w.heap.size w w')); case atStart => exact ⟨(t324),H',⟨Nat.le_refl _⟩,⟨by (with_reducible repeat (first | apply Kd.N_alloc | apply Kd.N_drewN | apply Kd.N_drew)); exact HO326.out⟩,⟨by repeat (first | (with_reducible first | exact HB.out | apply zaA | apply bN | apply bD) | exact HB.out)⟩⟩
 case round =>
  clear H'
  try clear c2
  try clear p2
  obtain ⟨x7_1,HA,HK1,HO_7,HB⟩:=hrel; cases gk with
  | zero => exact absurd HA.out (by simp [spec_HasRound.l0])
  | succ k1 =>
   have H:=HA.out; clear HA; simp only [spec_HasRound.l0] at H; obtain ⟨y327,hy327⟩ : ∃ y_ : List (List Int),y_ = (([] : List (List Int))):=⟨_,rfl⟩
   replace H : (spec_HasRound.l1 k1 x7_1 y327 0) = some r:=by first | (rw [hy327]; with_reducible exact H) | (have H2_:=(Option.bind_some _ _).symm.trans H; rw [hy327]; with_reducible exact H2_) | (have H2_:=(Option.bind_some _ _).symm.trans H; with_reducible exact H2_) | with_reducible exact H | (rw [hy327]; exact H) | exact H
   have Ny327:=aM hy327; clear hy327; have H':=aM H; clear H
   go_wp2_with (first | ((with_reducible refine zaS (N:=16) rfl ?_); refine Kd.N_lit (Kd.slice 3 (Kd.int .i64)) _ 28 ?hg (N':=16) ?hd (xs:=([] : List (List Int))) (inner:=[]) (ok:=(fun k_ => some k_ ≠ (u7 : Value).ownBlock)) (okp:=(fun k_ => some k_ ≠ (u7 : Value).ownBlock)) ?hr ?hp (fun _ hk => hk) ((show ∀ k_,wr.heap.size ≤ k_ → (fun k_ => some k_ ≠ (u7 : Value).ownBlock) k_ from fun k_ hk => Kd.fresh' (Kd.N_lt (by (with_reducible repeat (first | apply Kd.N_alloc | apply Kd.N_drewN | apply Kd.N_drew)); exact HO_7.out)) k_ hk) _ (Nat.le_refl _)) (Below.refl _ _) (Nat.le_refl _) (by simp) ?_; (case hd => rfl); (case hg => rfl); (case hr => first | (go_simp; done) | (go_simp; rfl)); (case hp => exact (Reps.none _ _)); intro v328 w6 ho7 hb hg_ hnew_; clear hg_ hnew_; (first | rw [← Ny327.out] at ho7 | (simp only [Int.reduceToNat] at ho7; rw [← Ny327.out] at ho7)); have n0_:=aM (Kd.N_elder' (by (with_reducible repeat (first | apply Kd.N_alloc | apply Kd.N_drewN | apply Kd.N_drew)); exact HO_7.out) (Kd.N_base ho7) hb); have n1_:=aM (Kd.N_lower ho7 (zaK (by repeat (first | (with_reducible first | exact HB.out | apply zaA | apply bN | apply bD) | exact HB.out)))); have n2_:=aM (zaJ (by repeat (first | (with_reducible first | exact HB.out | apply zaA | apply bN | apply bD) | exact HB.out)) hb); clear HO_7; clear HB; have HO_7:=n0_; have HO329:=n1_; have HB:=n2_; clear n0_ n1_ n2_; clear hb ho7))
   repeat (go_quiet (first | ((with_reducible refine zaS (N:=16) rfl ?_); refine Kd.N_lit (Kd.slice 3 (Kd.int .i64)) _ 28 ?hg (N':=16) ?hd (xs:=([] : List (List Int))) (inner:=[]) (ok:=(fun k_ => some k_ ≠ (u7 : Value).ownBlock)) (okp:=(fun k_ => some k_ ≠ (u7 : Value).ownBlock)) ?hr ?hp (fun _ hk => hk) ((show ∀ k_,wr.heap.size ≤ k_ → (fun k_ => some k_ ≠ (u7 : Value).ownBlock) k_ from fun k_ hk => Kd.fresh' (Kd.N_lt (by (with_reducible repeat (first | apply Kd.N_alloc | apply Kd.N_drewN | apply Kd.N_drew)); exact HO_7.out)) k_ hk) _ (Nat.le_refl _)) (Below.refl _ _) (Nat.le_refl _) (by simp) ?_; (case hd => rfl); (case hg => rfl); (case hr => first | (go_simp; done) | (go_simp; rfl)); (case hp => exact (Reps.none _ _)); intro v328 w6 ho7 hb hg_ hnew_; clear hg_ hnew_; (first | rw [← Ny327.out] at ho7 | (simp only [Int.reduceToNat] at ho7; rw [← Ny327.out] at ho7)); have n0_:=aM (Kd.N_elder' (by (with_reducible repeat (first | apply Kd.N_alloc | apply Kd.N_drewN | apply Kd.N_drew)); exact HO_7.out) (Kd.N_base ho7) hb); have n1_:=aM (Kd.N_lower ho7 (zaK (by repeat (first | (with_reducible first | exact HB.out | apply zaA | apply bN | apply bD) | exact HB.out)))); have n2_:=aM (zaJ (by repeat (first | (with_reducible first | exact HB.out | apply zaA | apply bN | apply bD) | exact HB.out)) hb); clear HO_7; clear HB; have HO_7:=n0_; have HO329:=n1_; have HB:=n2_; clear n0_ n1_ n2_; clear hb ho7)); try go_wp2_with (first | ((with_reducible refine zaS (N:=16) rfl ?_); refine Kd.N_lit (Kd.slice 3 (Kd.int .i64)) _ 28 ?hg (N':=16) ?hd (xs:=([] : List (List Int))) (inner:=[]) (ok:=(fun k_ => some k_ ≠ (u7 : Value).ownBlock)) (okp:=(fun k_ => some k_ ≠ (u7 : Value).ownBlock)) ?hr ?hp (fun _ hk => hk) ((show ∀ k_,wr.heap.size ≤ k_ → (fun k_ => some k_ ≠ (u7 : Value).ownBlock) k_ from fun k_ hk => Kd.fresh' (Kd.N_lt (by (with_reducible repeat (first | apply Kd.N_alloc | apply Kd.N_drewN | apply Kd.N_drew)); exact HO_7.out)) k_ hk) _ (Nat.le_refl _)) (Below.refl _ _) (Nat.le_refl _) (by simp) ?_; (case hd => rfl); (case hg => rfl); (case hr => first | (go_simp; done) | (go_simp; rfl)); (case hp => exact (Reps.none _ _)); intro v328 w6 ho7 hb hg_ hnew_; clear hg_ hnew_; (first | rw [← Ny327.out] at ho7 | (simp only [Int.reduceToNat] at ho7; rw [← Ny327.out] at ho7)); have n0_:=aM (Kd.N_elder' (by (with_reducible repeat (first | apply Kd.N_alloc | apply Kd.N_drewN | apply Kd.N_drew)); exact HO_7.out) (Kd.N_base ho7) hb); have n1_:=aM (Kd.N_lower ho7 (zaK (by repeat (first | (with_reducible first | exact HB.out | apply zaA | apply bN | apply bD) | exact HB.out)))); have n2_:=aM (zaJ (by repeat (first | (with_reducible first | exact HB.out | apply zaA | apply bN | apply bD) | exact HB.out)) hb); clear HO_7; clear HB; have HO_7:=n0_; have HO329:=n1_; have HB:=n2_; clear n0_ n1_ n2_; clear hb ho7)))
   go_loopg [8,9] k1 (fun kq v8 v9 w' => ∃ (x8_2 : List (List Int)) (x9_2 : Int),v9 = .int .i64 x9_2 ∧ Aside0 (spec_HasRound.l1 kq x7_1 x8_2 x9_2 = some r) ∧ Aside0 (kq ≤ k1) ∧ Aside0 (Kd.N (Kd.slice 3 (Kd.int .i64)) 28 w' w.heap.size (fun k_ => some k_ ≠ (v8 : Value).ownBlock) u7 x7_1) ∧ Aside0 (Kd.N (Kd.slice 3 (Kd.int .i64)) 28 w' w.heap.size (fun k_ => some k_ ≠ (u7 : Value).ownBlock) v8 x8_2) ∧ Aside0 (Below w.heap.size w w'))
   case atStart => exact ⟨(y327),(0),(by first | rfl | (simp; done) | (simp [*]; done)),H',⟨Nat.le_refl _⟩,⟨by (with_reducible repeat (first | apply Kd.N_alloc | apply Kd.N_drewN | apply Kd.N_drew)); exact Kd.N_mono HO_7.out (fun _ hk => hk.2)⟩,⟨by (with_reducible repeat (first | apply Kd.N_alloc | apply Kd.N_drewN | apply Kd.N_drew)); exact HO329.out⟩,⟨by repeat (first | (with_reducible first | exact HB.out | apply zaA | apply bN | apply bD) | exact HB.out)⟩⟩
   case round =>
    clear H'
    try clear c2
    try clear p2
    try clear p2
    obtain ⟨x8_2,x9_2,rfl,HA,HK2,HO_7,HO_8,HB⟩:=hrel; cases gk with
    | zero => exact absurd HA.out (by simp [spec_HasRound.l1])
    | succ k2 =>
     have H:=HA.out; clear HA; simp only [spec_HasRound.l1] at H; by_cases c8 : x9_2 < (x7_1.length : Int)
     ·
      rw [if_pos c8] at H; have c8b0 : decide (x9_2 < (x7_1.length : Int)) = true:=decide_eq_true c8; clear c8; have H':=aM H; clear H; obtain ⟨Ao9,co9,eo9⟩:=Kd.N_slice HO_7.out; subst eo9; go_wp2
      repeat (go_quiet (fail); try go_wp2)
      go_loopg [10,11] k2 (fun kq v10 v11 w' => ∃ (x10_3 : Bool) (x11_3 : Int),v10 = .bool x10_3 ∧ v11 = .int .i64 x11_3 ∧ Aside0 (spec_HasRound.l2 kq x7_1 x8_2 x9_2 x10_3 x11_3 = some r) ∧ Aside0 (kq ≤ k2) ∧ Aside0 (Kd.N (Kd.slice 3 (Kd.int .i64)) 28 w' w.heap.size (fun k_ => some k_ ≠ (u8 : Value).ownBlock) (.slice Ao9 x7_1.length co9) x7_1) ∧ Aside0 (Kd.N (Kd.slice 3 (Kd.int .i64)) 28 w' w.heap.size (fun k_ => some k_ ≠ ((.slice Ao9 x7_1.length co9) : Value).ownBlock) u8 x8_2) ∧ Aside0 (Below w.heap.size w w'))
      case atStart => exact ⟨(false),(0),(by first | rfl | (simp; done) | (simp [*]; done)),(by first | rfl | (simp; done) | (simp [*]; done)),H',⟨Nat.le_refl _⟩,⟨by (with_reducible repeat (first | apply Kd.N_alloc | apply Kd.N_drewN | apply Kd.N_drew)); exact HO_7.out⟩,⟨by (with_reducible repeat (first | apply Kd.N_alloc | apply Kd.N_drewN | apply Kd.N_drew)); exact HO_8.out⟩,⟨by repeat (first | (with_reducible first | exact HB.out | apply zaA | apply bN | apply bD) | exact HB.out)⟩⟩
      case round =>
       clear H'
       try clear c2
       try clear p2
       try clear c8
       try clear c8b0
       try clear p2
       obtain ⟨x10_3,x11_3,rfl,rfl,HA,HK3,HO_7,HO_8,HB⟩:=hrel; cases gk with
       | zero => exact absurd HA.out (by simp [spec_HasRound.l2])
       | succ k3 =>
        have H:=HA.out; clear HA; simp only [spec_HasRound.l2] at H; by_cases c10 : x11_3 < (x7_1.length : Int)
        ·
         rw [if_pos c10] at H; have c10b0 : decide (x11_3 < (x7_1.length : Int)) = true:=decide_eq_true c10; clear c10; by_cases c11 : x10_3 = true
         ·
          subst c11; have H1 : (spec_HasRound.l2 k3 x7_1 x8_2 x9_2 true (wrap64 (x11_3 + 1))) = some r:=by rw [if_pos rfl] at H; exact H
          clear H; have H:=H1; clear H1; have H':=aM H; clear H; go_wp2
          repeat (go_quiet (fail); try go_wp2)
          go_roundg k3; case measure => have:=HK1.out; have:=HK2.out; have:=HK3.out; omega
          case rel => exact ⟨(true),(wrap64 (x11_3 + 1)),(by first | rfl | (simp; done) | (simp [*]; done)),(by first | rfl | (simp; done) | (simp [*]; done)),H',⟨by have:=HK1.out; have:=HK2.out; have:=HK3.out; omega⟩,⟨by (with_reducible repeat (first | apply Kd.N_alloc | apply Kd.N_drewN | apply Kd.N_drew)); exact HO_7.out⟩,⟨by (with_reducible repeat (first | apply Kd.N_alloc | apply Kd.N_drewN | apply Kd.N_drew)); exact HO_8.out⟩,⟨by repeat (first | (with_reducible first | exact HB.out | apply zaA | apply bN | apply bD) | exact HB.out)⟩⟩
         ·
          replace c11:=Bool.eq_false_iff.mpr c11; subst c11; have H1 : (if 0 ≤ x11_3 then (if 0 < ((rd_L2 x7_1 x11_3).length : Int) then (if 0 ≤ x9_2 then (if x9_2 < (x7_1.length : Int) then (if 1 < ((rd_L2 x7_1 x9_2).length : Int) then (spec_HasRound.l2 k3 x7_1 x8_2 x9_2 ((rd (rd_L2 x7_1 x11_3) 0) == (rd (rd_L2 x7_1 x9_2) 1)) (wrap64 (x11_3 + 1))) else (none)) else (none)) else (none)) else (none)) else (none)) = some r:=by rw [if_neg (show ¬ (false = true) by decide)] at H; exact H
          clear H; have H:=H1; clear H1; by_cases c12 : 0 ≤ x11_3
          ·
           rw [if_pos c12] at H; have c12b0 : decide (0 ≤ x11_3) = true:=decide_eq_true c12; clear c12; by_cases c13 : 0 < ((rd_L2 x7_1 x11_3).length : Int)
           ·
            rw [if_pos c13] at H; have c13b0 : decide (0 < ((rd_L2 x7_1 x11_3).length : Int)) = true:=decide_eq_true c13; have c13b1 : decide (0 < (rd_L2 x7_1 x11_3).length) = true:=decide_eq_true (by omega); clear c13; by_cases c14 : 0 ≤ x9_2
            ·
             rw [if_pos c14] at H; have c14b0 : decide (0 ≤ x9_2) = true:=decide_eq_true c14; clear c14; by_cases c15 : x9_2 < (x7_1.length : Int)
             ·
              rw [if_pos c15] at H; have c15b0 : decide (x9_2 < (x7_1.length : Int)) = true:=decide_eq_true c15; clear c15; by_cases c16 : 1 < ((rd_L2 x7_1 x9_2).length : Int)
              ·
               rw [if_pos c16] at H; have c16b0 : decide (1 < ((rd_L2 x7_1 x9_2).length : Int)) = true:=decide_eq_true c16; have c16b1 : decide (1 < (rd_L2 x7_1 x9_2).length) = true:=decide_eq_true (by omega); clear c16; have H':=aM H; clear H; have p330 : 0 ≤ (x11_3 : Int):=oD (by assumption); have q330 : x11_3 < (x7_1.length : Int):=oD (by assumption); obtain ⟨ad330,A330_0,c330_0,e330,hx330_0,hl330_0,hi330_0⟩:=at_L2 (Kd.N_reads' HO_7.out).2.2 x11_3 p330 q330; cases e330; obtain ⟨ce330,hce330,hMe330,hcc330⟩:=Kd.N_get HO_7.out [] x11_3 p330 (by first | exact q330 | exact oD (by assumption) | (have e_:=(Kd.N_reads' HO_7.out).1; omega)); obtain ⟨ua330_0,uc330_0,rfl,ul330_0,ge330_0⟩:=Kd.FK_slice_open hMe330; have hv330_0:=hcc330 0 _ rfl; rw [Nat.add_zero,show ((Kd.slice 3 (Kd.int .i64))).sz = 1 from rfl,Nat.mul_one] at hv330_0
               replace hv330_0:=Option.some.inj (hv330_0.symm.trans hx330_0)
               injection hv330_0 with hva_ hvn_ hvc_
               rw [hva_] at ge330_0; rw [hvc_] at ul330_0; have HL330_0:=aM (show Kd.V (Kd.int .i64) 3 _ w.heap.size _ _ (rd_L2 x7_1 x11_3) from Kd.V_mk ul330_0 ge330_0); clear hva_ hvn_ hvc_ ge330_0 ul330_0; clear hcc330 hce330; have HR330_0:=aM hi330_0; have HC330_0:=aM hl330_0; clear hi330_0 hl330_0; replace p330:=eq_true p330; replace q330:=eq_true q330; have p331 : 0 ≤ (0 : Int):=(by omega); have q331 : 0 < ((rd_L2 x7_1 x11_3).length : Int):=oD (by assumption); obtain ⟨ad331,e331,hx331_0⟩:=Kd.at_int (by repeat (first | (with_reducible exact HR330_0.out) | (with_reducible refine Kd.C_alloc ?_ _) | (with_reducible refine Kd.C_drewN ?_ _) | (with_reducible refine Kd.C_drew ?_) | exact HR330_0.out)) 0 p331 q331; cases e331; have qi331 : (0 < (rd_L2 x7_1 x11_3).length) = True:=eq_true (by omega); (try rw [show ((0 : Int)).toNat = 0 from rfl] at hx331_0)
               (try rw [Addr.add_zero'] at hx331_0); replace p331:=eq_true p331; replace q331:=eq_true q331; have p332 : 0 ≤ (x9_2 : Int):=oD (by assumption); have q332 : x9_2 < (x7_1.length : Int):=oD (by assumption); obtain ⟨ad332,A332_0,c332_0,e332,hx332_0,hl332_0,hi332_0⟩:=at_L2 (Kd.N_reads' HO_7.out).2.2 x9_2 p332 q332; obtain rfl : ad330 = ad332:=(by injection e332); obtain ⟨ce332,hce332,hMe332,hcc332⟩:=Kd.N_get HO_7.out [] x9_2 p332 (by first | exact q332 | exact oD (by assumption) | (have e_:=(Kd.N_reads' HO_7.out).1; omega)); obtain ⟨ua332_0,uc332_0,rfl,ul332_0,ge332_0⟩:=Kd.FK_slice_open hMe332; have hv332_0:=hcc332 0 _ rfl; rw [Nat.add_zero,show ((Kd.slice 3 (Kd.int .i64))).sz = 1 from rfl,Nat.mul_one] at hv332_0; replace hv332_0:=Option.some.inj (hv332_0.symm.trans hx332_0)
               injection hv332_0 with hva_ hvn_ hvc_
               rw [hva_] at ge332_0; rw [hvc_] at ul332_0; have HL332_0:=aM (show Kd.V (Kd.int .i64) 3 _ w.heap.size _ _ (rd_L2 x7_1 x9_2) from Kd.V_mk ul332_0 ge332_0); clear hva_ hvn_ hvc_ ge332_0 ul332_0; clear hcc332 hce332; have HR332_0:=aM hi332_0; have HC332_0:=aM hl332_0; clear hi332_0 hl332_0; replace p332:=eq_true p332; replace q332:=eq_true q332; have p333 : 0 ≤ (1 : Int):=(by omega); have q333 : 1 < ((rd_L2 x7_1 x9_2).length : Int):=oD (by assumption); obtain ⟨ad333,e333,hx333_0⟩:=Kd.at_int (by repeat (first | (with_reducible exact HR332_0.out) | (with_reducible refine Kd.C_alloc ?_ _) | (with_reducible refine Kd.C_drewN ?_ _) | (with_reducible refine Kd.C_drew ?_) | exact HR332_0.out)) 1 p333 q333; cases e333; (try simp only [show (1 : Int).toNat = 1 from rfl,Nat.reduceMul,Nat.reduceEqDiff,Go.Addr.add,↓reduceIte] at hx333_0)
               have qi333 : (1 < (rd_L2 x7_1 x9_2).length) = True:=eq_true (by omega); (try rw [show ((1 : Int)).toNat = 1 from rfl] at hx333_0); replace p333:=eq_true p333; replace q333:=eq_true q333; go_wp2
               repeat (go_quiet (fail); try go_wp2)
               go_roundg k3; case measure => have:=HK1.out; have:=HK2.out; have:=HK3.out; omega
               case rel => exact ⟨(((rd (rd_L2 x7_1 x11_3) 0) == (rd (rd_L2 x7_1 x9_2) 1))),(wrap64 (x11_3 + 1)),(by first | rfl | (simp; done) | (simp [*]; done)),(by first | rfl | (simp; done) | (simp [*]; done)),H',⟨by have:=HK1.out; have:=HK2.out; have:=HK3.out; omega⟩,⟨by (with_reducible repeat (first | apply Kd.N_alloc | apply Kd.N_drewN | apply Kd.N_drew)); exact HO_7.out⟩,⟨by (with_reducible repeat (first | apply Kd.N_alloc | apply Kd.N_drewN | apply Kd.N_drew)); exact HO_8.out⟩,⟨by repeat (first | (with_reducible first | exact HB.out | apply zaA | apply bN | apply bD) | exact HB.out)⟩⟩
              ·
               rw [if_neg c16] at H; exact absurd H (by simp)
             ·
              rw [if_neg c15] at H; exact absurd H (by simp)
            ·
             rw [if_neg c14] at H; exact absurd H (by simp)
           ·
            rw [if_neg c13] at H; exact absurd H (by simp)
          ·
           rw [if_neg c12] at H; exact absurd H (by simp)
        ·
         rw [if_neg c10] at H; have c10b0 : decide (x11_3 < (x7_1.length : Int)) = false:=decide_eq_false c10; clear c10; by_cases c17 : x10_3 = true
         ·
          subst c17; have H1 : (if 0 ≤ x9_2 then (if x9_2 < (x7_1.length : Int) then (if x8_2.length < 5864062014805 then (spec_HasRound.l1 k3 x7_1 (x8_2 ++ [rd_L2 x7_1 x9_2]) (wrap64 (x9_2 + 1))) else (none)) else (none)) else (none)) = some r:=by rw [if_pos rfl] at H; exact H
          clear H; have H:=H1; clear H1; by_cases c18 : 0 ≤ x9_2
          ·
           rw [if_pos c18] at H; have c18b0 : decide (0 ≤ x9_2) = true:=decide_eq_true c18; clear c18; by_cases c19 : x9_2 < (x7_1.length : Int)
           ·
            rw [if_pos c19] at H; have c19b0 : decide (x9_2 < (x7_1.length : Int)) = true:=decide_eq_true c19; clear c19; by_cases c20 : x8_2.length < 5864062014805
            ·
             rw [if_pos c20] at H; have LMc20:=aM c20; clear c20; obtain ⟨y335,hy335⟩ : ∃ y_ : List (List Int),y_ = (x8_2 ++ [rd_L2 x7_1 x9_2]):=⟨_,rfl⟩
             replace H : (spec_HasRound.l1 k3 x7_1 y335 (wrap64 (x9_2 + 1))) = some r:=by first | (rw [hy335]; with_reducible exact H) | (have H2_:=(Option.bind_some _ _).symm.trans H; rw [hy335]; with_reducible exact H2_) | (have H2_:=(Option.bind_some _ _).symm.trans H; with_reducible exact H2_) | with_reducible exact H | (rw [hy335]; exact H) | exact H
             have Ny335:=aM hy335; clear hy335; have H':=aM H; clear H; have p334 : 0 ≤ (x9_2 : Int):=oD (by assumption); have q334 : x9_2 < (x7_1.length : Int):=oD (by assumption); obtain ⟨ad334,A334_0,c334_0,e334,hx334_0,hl334_0,hi334_0⟩:=at_L2 (Kd.N_reads' HO_7.out).2.2 x9_2 p334 q334; cases e334; obtain ⟨ce334,hce334,hMe334,hcc334⟩:=Kd.N_get HO_7.out [] x9_2 p334 (by first | exact q334 | exact oD (by assumption) | (have e_:=(Kd.N_reads' HO_7.out).1; omega)); obtain ⟨ua334_0,uc334_0,rfl,ul334_0,ge334_0⟩:=Kd.FK_slice_open hMe334; have hv334_0:=hcc334 0 _ rfl; rw [Nat.add_zero,show ((Kd.slice 3 (Kd.int .i64))).sz = 1 from rfl,Nat.mul_one] at hv334_0; replace hv334_0:=Option.some.inj (hv334_0.symm.trans hx334_0)
             injection hv334_0 with hva_ hvn_ hvc_
             rw [hva_] at ge334_0; rw [hvc_] at ul334_0; have HL334_0:=aM (show Kd.V (Kd.int .i64) 3 _ w.heap.size _ _ (rd_L2 x7_1 x9_2) from Kd.V_mk ul334_0 ge334_0); clear hva_ hvn_ hvc_ ge334_0 ul334_0; clear hcc334 hce334; have HR334_0:=aM hi334_0; have HC334_0:=aM hl334_0; clear hi334_0 hl334_0; replace p334:=eq_true p334; replace q334:=eq_true q334
             go_wp2_with (first | ((with_reducible refine zbB (b:=.append) (xs:=#[.tmp 46,.tmp 51]) rfl ?_); at_builtin; refine Kd.N_append (Kd.slice 3 (Kd.int .i64)) (w0:=w) w.heap.size rfl (.tmp 46) (.tmp 51) 23 28 (.slice none 0 0) 24 rfl Try.underlying23 info28 rfl (by decide) (by omega) u8 x8_2 (rd_L2 x7_1 x9_2) [.slice A334_0 (rd_L2 x7_1 x9_2).length c334_0] (fun k_ => some k_ ≠ (.slice (some ad334) x7_1.length co9 : Value).ownBlock) (fun k_ => ((fun k_ => some k_ ≠ (.slice (some ad334) x7_1.length co9 : Value).ownBlock)) k_ ∧ some k_ ≠ (u8 : Value).ownBlock) rfl rfl ?aP (fun _ hk => hk) ?aF ?aO ?aB ?aS ?aL ?_; (case aP => exact (Kd.FK_slice_mk (Kd.V_reads' (Kd.V_mono (ok':=(fun k_ => ((fun k_ => some k_ ≠ (.slice (some ad334) x7_1.length co9 : Value).ownBlock)) k_ ∧ some k_ ≠ (u8 : Value).ownBlock)) (HL334_0.out) (fun k_ hk => ⟨hk.2,hk.1⟩))).2.1 (Kd.V_F (Kd.V_mono (ok':=(fun k_ => ((fun k_ => some k_ ≠ (.slice (some ad334) x7_1.length co9 : Value).ownBlock)) k_ ∧ some k_ ≠ (u8 : Value).ownBlock)) (HL334_0.out) (fun k_ hk => ⟨hk.2,hk.1⟩))))); (case aB => exact (by repeat (first | (with_reducible first | exact HB.out | apply zaA | apply bN | apply bD) | exact HB.out))); (case aF => exact (fun k_ hk => Kd.fresh' (Kd.N_lt (by (with_reducible repeat (first | apply Kd.N_alloc | apply Kd.N_drewN | apply Kd.N_drew)); exact HO_7.out)) k_ hk)); (case aO => exact (by (with_reducible repeat (first | apply Kd.N_alloc | apply Kd.N_drewN | apply Kd.N_drew)); exact HO_8.out)); (case aS => exact (zaK (by repeat (first | (with_reducible first | exact HB.out | apply zaA | apply bN | apply bD) | exact HB.out)))); (case aL => have:=LMc20.out; omega); intro v336 w21 ho hb hg hat; rw [← Ny335.out] at ho; have n0_:=aM (Kd.N_afterv (ok:=(fun _ => True)) (by (with_reducible repeat (first | apply Kd.N_alloc | apply Kd.N_drewN | apply Kd.N_drew)); exact Kd.N_mono HO_7.out (fun _ hk => ⟨trivial,hk⟩)) hg hat); have n1_:=aM (Kd.V_afterv (ok:=(fun k_ => some k_ ≠ (.slice (some ad334) x7_1.length co9 : Value).ownBlock)) (by (with_reducible repeat (first | apply Kd.V_alloc | apply Kd.V_drewN | apply Kd.V_drew)); exact Kd.V_mono HL334_0.out (fun _ hk => by first | exact ⟨hk.2,hk.1⟩ | (have hz_:=hk; (try simp only [and_assoc,true_and] at hz_); refine ⟨?_,?_⟩ <;> first | exact hz_.1 | exact hz_.2.1 | exact hz_.2.2.1 | exact hz_.2.2.2.1 | exact hz_.2.2.2.2.1 | exact hz_.2.2.2.2 | exact hz_.2.2.2 | exact hz_.2.2 | exact hz_.2))) hg hat); have n2_:=aM (hb); have n3_:=aM (ho); clear HO_7; clear HL334_0; clear HB; clear HO_8; have HO_7:=n0_; have HL334_0:=n1_; have HB:=n2_; have HO337:=n3_; clear n0_ n1_ n2_ n3_; clear ho hb hg hat))
             repeat (go_quiet (first | ((with_reducible refine zbB (b:=.append) (xs:=#[.tmp 46,.tmp 51]) rfl ?_); at_builtin; refine Kd.N_append (Kd.slice 3 (Kd.int .i64)) (w0:=w) w.heap.size rfl (.tmp 46) (.tmp 51) 23 28 (.slice none 0 0) 24 rfl Try.underlying23 info28 rfl (by decide) (by omega) u8 x8_2 (rd_L2 x7_1 x9_2) [.slice A334_0 (rd_L2 x7_1 x9_2).length c334_0] (fun k_ => some k_ ≠ (.slice (some ad334) x7_1.length co9 : Value).ownBlock) (fun k_ => ((fun k_ => some k_ ≠ (.slice (some ad334) x7_1.length co9 : Value).ownBlock)) k_ ∧ some k_ ≠ (u8 : Value).ownBlock) rfl rfl ?aP (fun _ hk => hk) ?aF ?aO ?aB ?aS ?aL ?_; (case aP => exact (Kd.FK_slice_mk (Kd.V_reads' (Kd.V_mono (ok':=(fun k_ => ((fun k_ => some k_ ≠ (.slice (some ad334) x7_1.length co9 : Value).ownBlock)) k_ ∧ some k_ ≠ (u8 : Value).ownBlock)) (HL334_0.out) (fun k_ hk => ⟨hk.2,hk.1⟩))).2.1 (Kd.V_F (Kd.V_mono (ok':=(fun k_ => ((fun k_ => some k_ ≠ (.slice (some ad334) x7_1.length co9 : Value).ownBlock)) k_ ∧ some k_ ≠ (u8 : Value).ownBlock)) (HL334_0.out) (fun k_ hk => ⟨hk.2,hk.1⟩))))); (case aB => exact (by repeat (first | (with_reducible first | exact HB.out | apply zaA | apply bN | apply bD) | exact HB.out))); (case aF => exact (fun k_ hk => Kd.fresh' (Kd.N_lt (by (with_reducible repeat (first | apply Kd.N_alloc | apply Kd.N_drewN | apply Kd.N_drew)); exact HO_7.out)) k_ hk)); (case aO => exact (by (with_reducible repeat (first | apply Kd.N_alloc | apply Kd.N_drewN | apply Kd.N_drew)); exact HO_8.out)); (case aS => exact (zaK (by repeat (first | (with_reducible first | exact HB.out | apply zaA | apply bN | apply bD) | exact HB.out)))); (case aL => have:=LMc20.out; omega); intro v336 w21 ho hb hg hat; rw [← Ny335.out] at ho; have n0_:=aM (Kd.N_afterv (ok:=(fun _ => True)) (by (with_reducible repeat (first | apply Kd.N_alloc | apply Kd.N_drewN | apply Kd.N_drew)); exact Kd.N_mono HO_7.out (fun _ hk => ⟨trivial,hk⟩)) hg hat); have n1_:=aM (Kd.V_afterv (ok:=(fun k_ => some k_ ≠ (.slice (some ad334) x7_1.length co9 : Value).ownBlock)) (by (with_reducible repeat (first | apply Kd.V_alloc | apply Kd.V_drewN | apply Kd.V_drew)); exact Kd.V_mono HL334_0.out (fun _ hk => by first | exact ⟨hk.2,hk.1⟩ | (have hz_:=hk; (try simp only [and_assoc,true_and] at hz_); refine ⟨?_,?_⟩ <;> first | exact hz_.1 | exact hz_.2.1 | exact hz_.2.2.1 | exact hz_.2.2.2.1 | exact hz_.2.2.2.2.1 | exact hz_.2.2.2.2 | exact hz_.2.2.2 | exact hz_.2.2 | exact hz_.2))) hg hat); have n2_:=aM (hb); have n3_:=aM (ho); clear HO_7; clear HL334_0; clear HB; clear HO_8; have HO_7:=n0_; have HL334_0:=n1_; have HB:=n2_; have HO337:=n3_; clear n0_ n1_ n2_ n3_; clear ho hb hg hat)); try go_wp2_with (first | ((with_reducible refine zbB (b:=.append) (xs:=#[.tmp 46,.tmp 51]) rfl ?_); at_builtin; refine Kd.N_append (Kd.slice 3 (Kd.int .i64)) (w0:=w) w.heap.size rfl (.tmp 46) (.tmp 51) 23 28 (.slice none 0 0) 24 rfl Try.underlying23 info28 rfl (by decide) (by omega) u8 x8_2 (rd_L2 x7_1 x9_2) [.slice A334_0 (rd_L2 x7_1 x9_2).length c334_0] (fun k_ => some k_ ≠ (.slice (some ad334) x7_1.length co9 : Value).ownBlock) (fun k_ => ((fun k_ => some k_ ≠ (.slice (some ad334) x7_1.length co9 : Value).ownBlock)) k_ ∧ some k_ ≠ (u8 : Value).ownBlock) rfl rfl ?aP (fun _ hk => hk) ?aF ?aO ?aB ?aS ?aL ?_; (case aP => exact (Kd.FK_slice_mk (Kd.V_reads' (Kd.V_mono (ok':=(fun k_ => ((fun k_ => some k_ ≠ (.slice (some ad334) x7_1.length co9 : Value).ownBlock)) k_ ∧ some k_ ≠ (u8 : Value).ownBlock)) (HL334_0.out) (fun k_ hk => ⟨hk.2,hk.1⟩))).2.1 (Kd.V_F (Kd.V_mono (ok':=(fun k_ => ((fun k_ => some k_ ≠ (.slice (some ad334) x7_1.length co9 : Value).ownBlock)) k_ ∧ some k_ ≠ (u8 : Value).ownBlock)) (HL334_0.out) (fun k_ hk => ⟨hk.2,hk.1⟩))))); (case aB => exact (by repeat (first | (with_reducible first | exact HB.out | apply zaA | apply bN | apply bD) | exact HB.out))); (case aF => exact (fun k_ hk => Kd.fresh' (Kd.N_lt (by (with_reducible repeat (first | apply Kd.N_alloc | apply Kd.N_drewN | apply Kd.N_drew)); exact HO_7.out)) k_ hk)); (case aO => exact (by (with_reducible repeat (first | apply Kd.N_alloc | apply Kd.N_drewN | apply Kd.N_drew)); exact HO_8.out)); (case aS => exact (zaK (by repeat (first | (with_reducible first | exact HB.out | apply zaA | apply bN | apply bD) | exact HB.out)))); (case aL => have:=LMc20.out; omega); intro v336 w21 ho hb hg hat; rw [← Ny335.out] at ho; have n0_:=aM (Kd.N_afterv (ok:=(fun _ => True)) (by (with_reducible repeat (first | apply Kd.N_alloc | apply Kd.N_drewN | apply Kd.N_drew)); exact Kd.N_mono HO_7.out (fun _ hk => ⟨trivial,hk⟩)) hg hat); have n1_:=aM (Kd.V_afterv (ok:=(fun k_ => some k_ ≠ (.slice (some ad334) x7_1.length co9 : Value).ownBlock)) (by (with_reducible repeat (first | apply Kd.V_alloc | apply Kd.V_drewN | apply Kd.V_drew)); exact Kd.V_mono HL334_0.out (fun _ hk => by first | exact ⟨hk.2,hk.1⟩ | (have hz_:=hk; (try simp only [and_assoc,true_and] at hz_); refine ⟨?_,?_⟩ <;> first | exact hz_.1 | exact hz_.2.1 | exact hz_.2.2.1 | exact hz_.2.2.2.1 | exact hz_.2.2.2.2.1 | exact hz_.2.2.2.2 | exact hz_.2.2.2 | exact hz_.2.2 | exact hz_.2))) hg hat); have n2_:=aM (hb); have n3_:=aM (ho); clear HO_7; clear HL334_0; clear HB; clear HO_8; have HO_7:=n0_; have HL334_0:=n1_; have HB:=n2_; have HO337:=n3_; clear n0_ n1_ n2_ n3_; clear ho hb hg hat)))
             go_roundg k3; case measure => have:=HK1.out; have:=HK2.out; have:=HK3.out; omega
             case rel => exact ⟨(y335),(wrap64 (x9_2 + 1)),(by first | rfl | (simp; done) | (simp [*]; done)),H',⟨by have:=HK1.out; have:=HK2.out; have:=HK3.out; omega⟩,⟨by (with_reducible repeat (first | apply Kd.N_alloc | apply Kd.N_drewN | apply Kd.N_drew)); exact Kd.N_mono HO_7.out (fun _ hk => hk.2)⟩,⟨by (with_reducible repeat (first | apply Kd.N_alloc | apply Kd.N_drewN | apply Kd.N_drew)); exact HO337.out⟩,⟨by repeat (first | (with_reducible first | exact HB.out | apply zaA | apply bN | apply bD) | exact HB.out)⟩⟩
            ·
             rw [if_neg c20] at H; exact absurd H (by simp)
           ·
            rw [if_neg c19] at H; exact absurd H (by simp)
          ·
           rw [if_neg c18] at H; exact absurd H (by simp)
         ·
          replace c17:=Bool.eq_false_iff.mpr c17; subst c17; have H1 : (spec_HasRound.l1 k3 x7_1 x8_2 (wrap64 (x9_2 + 1))) = some r:=by rw [if_neg (show ¬ (false = true) by decide)] at H; exact H
          clear H; have H:=H1; clear H1; have H':=aM H; clear H; go_wp2
          repeat (go_quiet (fail); try go_wp2)
          go_roundg k3; case measure => have:=HK1.out; have:=HK2.out; have:=HK3.out; omega
          case rel => exact ⟨(x8_2),(wrap64 (x9_2 + 1)),(by first | rfl | (simp; done) | (simp [*]; done)),H',⟨by have:=HK1.out; have:=HK2.out; have:=HK3.out; omega⟩,⟨by (with_reducible repeat (first | apply Kd.N_alloc | apply Kd.N_drewN | apply Kd.N_drew)); exact HO_7.out⟩,⟨by (with_reducible repeat (first | apply Kd.N_alloc | apply Kd.N_drewN | apply Kd.N_drew)); exact HO_8.out⟩,⟨by repeat (first | (with_reducible first | exact HB.out | apply zaA | apply bN | apply bD) | exact HB.out)⟩⟩
     ·
      rw [if_neg c8] at H; have c8b0 : decide (x9_2 < (x7_1.length : Int)) = false:=decide_eq_false c8; clear c8; by_cases c22 : (x8_2.length : Int) = (x7_1.length : Int)
      ·
       rw [if_pos c22] at H; have c22b0 : ((x8_2.length : Int) == (x7_1.length : Int)) = true:=beq_iff_eq.mpr c22; have c22b1 : ((x8_2.length : Int) != (x7_1.length : Int)) = false:=bne_eq_false_iff_eq.mpr c22; have c22b2 : (x8_2.length == x7_1.length) = true:=by first | simpa using c22 | (simp at c22 ⊢; omega)
       clear c22; obtain rfl:=Option.some.inj H; obtain ⟨Ao23,co23,eo23⟩:=Kd.N_slice HO_7.out; subst eo23; obtain ⟨Ao24,co24,eo24⟩:=Kd.N_slice HO_8.out; subst eo24; go_wp2
       repeat (go_quiet (fail); try go_wp2)
       go_ret; exact ⟨by first | rfl | (simp [*] <;> rfl),by repeat (first | (with_reducible first | exact HB.out | apply zaA | apply bN | apply bD) | exact HB.out)⟩
      ·
       rw [if_neg c22] at H; have c22b0 : ((x8_2.length : Int) == (x7_1.length : Int)) = false:=beq_eq_false_iff_ne.mpr c22; have c22b1 : ((x8_2.length : Int) != (x7_1.length : Int)) = true:=bne_iff_ne.mpr c22; have c22b2 : (x8_2.length == x7_1.length) = false:=by first | simpa using c22 | (simp at c22 ⊢; omega)
       have H':=aM H; clear H; obtain ⟨Ao25,co25,eo25⟩:=Kd.N_slice HO_7.out; subst eo25; obtain ⟨Ao26,co26,eo26⟩:=Kd.N_slice HO_8.out; subst eo26; go_wp2
       repeat (go_quiet (fail); try go_wp2)
       go_roundg k2; case measure => have:=HK1.out; have:=HK2.out; omega
       case rel => exact ⟨(x8_2),H',⟨by have:=HK1.out; have:=HK2.out; omega⟩,⟨by (with_reducible repeat (first | apply Kd.N_alloc | apply Kd.N_drewN | apply Kd.N_drew)); exact Kd.N_mono HO_8.out (fun _ hk => trivial)⟩,⟨by repeat (first | (with_reducible first | exact HB.out | apply zaA | apply bN | apply bD) | exact HB.out)⟩⟩
def impl_sign.f (a0 : Int) : Option (Int):=some (mn 1 (mx (-1) a0))
set_option maxHeartbeats 8000000 in
set_option maxRecDepth 100000 in
theorem impl_sign.calls (a0 : Int) (r : Int) (w : World) (h : impl_sign.f a0 = some r) :
  Calls Try.prog 75 #[.int .i64 a0] w fun e w' => e = .returned (.int .i64 r) ∧ Below w.heap.size w w':=by
 have HB:=aM (Below.refl w.heap.size w); have H : (some (mn 1 (mx (-1) a0))) = some r:=h; clear h; obtain ⟨ji2,hji2⟩ : ∃ j_ : Int,(mx (-1) a0) = j_:=⟨_,rfl⟩
 replace H : (some (mn 1 (ji2))) = some r:=by first | (rw [hji2] at H; exact H) | (simp only [hji2] at H ⊢; exact H)
 have hji2_ : (if (-1) < a0 then a0 else (-1)) = ji2:=hji2; obtain ⟨ji3,hji3⟩ : ∃ j_ : Int,(mn 1 (ji2)) = j_:=⟨_,rfl⟩
 replace H : (some ji3) = some r:=by first | (rw [hji3] at H; exact H) | (simp only [hji3] at H ⊢; exact H)
 have hji3_ : (if (ji2) < 1 then (ji2) else 1) = ji3:=hji3; obtain rfl:=Option.some.inj H; go_enter Try.func75,Try.ntmps75; go_wp2; go_ret; exact ⟨by first | rfl | (simp [errW_none,errW_some] <;> rfl) | (simp only [← hji2,← hji3]; first | rfl | (simp [errW_none,errW_some] <;> rfl)) | (simp [*,errW_none,errW_some] <;> rfl),by repeat (first | (with_reducible first | exact HB.out | apply zaA | apply bN | apply bD) | exact HB.out)⟩
-- NOT PRINTED: function 74 (impl_fabric_route_1)
def impl_fabric_route.sg (m : Int) : Int:=mn 1 (mx (-1) m)
def impl_fabric_route.along : Nat → Int → Int → List Int → Int × List Int
 | 0,_,a,xs => (a,xs)
 | n + 1,st,a,xs => impl_fabric_route.along n st (wrap64 (a + st)) (xs ++ [wrap64 (a + st)])
def impl_fabric_route.clo (step many : Int) (p : Int × List Int) : Int × List Int:=impl_fabric_route.along (wrap64 (many * impl_fabric_route.sg many)).toNat (wrap64 (step * impl_fabric_route.sg many)) p.1 p.2
def impl_fabric_route.f (a0_0 : Int) (a0_1 : Int) (a1 : Int) (a2 : Int) (a3 : Bool) : Option (List Int):=(impl_fabric_node.f a0_0 a0_1 a1).bind fun b1 => if b1 = true then ((impl_fabric_node.f a0_0 a0_1 a2).bind fun b2 => if b2 = true then (if a0_0 = 0 then none else if -1000 ≤ wrap64 (Int.tmod a2 a0_0 - Int.tmod a1 a0_0) ∧ wrap64 (Int.tmod a2 a0_0 - Int.tmod a1 a0_0) ≤ 1000 ∧ -1000 ≤ wrap64 (wrap64 (Int.tdiv a2 a0_0) - wrap64 (Int.tdiv a1 a0_0)) ∧ wrap64 (wrap64 (Int.tdiv a2 a0_0) - wrap64 (Int.tdiv a1 a0_0)) ≤ 1000 then some (if a3 = true then (impl_fabric_route.clo a0_0 (wrap64 (wrap64 (Int.tdiv a2 a0_0) - wrap64 (Int.tdiv a1 a0_0))) (impl_fabric_route.clo 1 (wrap64 (Int.tmod a2 a0_0 - Int.tmod a1 a0_0)) (a1,[a1]))).2 else (impl_fabric_route.clo 1 (wrap64 (Int.tmod a2 a0_0 - Int.tmod a1 a0_0)) (impl_fabric_route.clo a0_0 (wrap64 (wrap64 (Int.tdiv a2 a0_0) - wrap64 (Int.tdiv a1 a0_0))) (a1,[a1]))).2) else none) else some []) else some []
theorem impl_fabric_route.sg_bd {m : Int} (h : -1000 ≤ m ∧ m ≤ 1000) : 0 ≤ wrap64 (m * impl_fabric_route.sg m) ∧ wrap64 (m * impl_fabric_route.sg m) ≤ 1000:=by
 have e : impl_fabric_route.sg m = if m ≤ -1 then -1 else if m ≥ 1 then 1 else 0:=by
  unfold impl_fabric_route.sg mn mx
  (repeat' split) <;> omega
 rw [e]; unfold wrap64
 (repeat' split) <;> omega
theorem impl_fabric_route.along_len : ∀ (n : Nat) (st a : Int) (xs : List Int),(impl_fabric_route.along n st a xs).2.length = xs.length + n
 | 0,_,_,_ => rfl
 | n + 1,st,a,xs => by
  unfold impl_fabric_route.along; rw [impl_fabric_route.along_len n]
  simp
  omega
set_option maxHeartbeats 4000000 in
set_option maxRecDepth 100000 in
theorem impl_fabric_route.sign_drew (a0 : Int) (w : World) : Calls Try.prog 75 #[.int .i64 a0] w fun e w' => e = .returned (.int .i64 (impl_fabric_route.sg a0)) ∧ ∃ nd,w' = w.drewN nd:=by
 obtain ⟨ji2,hji2⟩ : ∃ j_ : Int,(mx (-1) a0) = j_:=⟨_,rfl⟩
 have hji2_ : (if (-1) < a0 then a0 else (-1)) = ji2:=hji2; obtain ⟨ji3,hji3⟩ : ∃ j_ : Int,(mn 1 (ji2)) = j_:=⟨_,rfl⟩
 have hji3_ : (if (ji2) < 1 then (ji2) else 1) = ji3:=hji3; have e : impl_fabric_route.sg a0 = ji3:=by unfold impl_fabric_route.sg; rw [hji2,hji3]
 rw [e]; clear e; go_enter Try.func75,Try.ntmps75; go_wp2; go_ret; exact ⟨by first | rfl | (simp only [← hji2,← hji3]; rfl) | (simp [*]; done),by first | exact ⟨0,rfl⟩ | exact ⟨_,rfl⟩⟩
set_option maxHeartbeats 16000000 in
set_option maxRecDepth 100000 in
theorem impl_fabric_route.walk (step many a0 : Int) (xs0 : List Int) (Ba Bo Bf : Nat) (cf : Array Value) (v0 : Value) (w W : World) (hm : -1000 ≤ many ∧ many ≤ 1000) (hl : xs0.length ≤ 5000) (hao : Ba ≠ Bo) (hfa : Bf ≠ Ba) (hfo : Bf ≠ Bo)
  (hga : w.heap.size ≤ Ba) (hgo : w.heap.size ≤ Bo) (hba : W.heap[Ba]? = some (.cells #[.int .i64 a0] 3 (0,0))) (hbo : W.heap[Bo]? = some (.cells #[v0] 28 (0,0))) (hbf : W.heap[Bf]? = some (.cells cf 50 (0,0)))
  (hR : Kd.R (Kd.int .i64) 3 W w.heap.size (fun k_ => k_ ≠ Ba) v0 xs0) (hB : Below w.heap.size w W) :
  Calls Try.prog 74 #[.int .i64 step,.int .i64 many,.pointer (some ⟨Ba,0,none⟩),.pointer (some ⟨Bo,0,none⟩)] W fun e w' => ∃ (u_ v_ : Value),e = .returned u_ ∧ w'.heap[Ba]? = some (.cells #[.int .i64 (impl_fabric_route.clo step many (a0,xs0)).1] 3 (0,0)) ∧ w'.heap[Bo]? = some (.cells #[v_] 28 (0,0)) ∧ w'.heap[Bf]? = some (.cells cf 50 (0,0)) ∧ Kd.R (Kd.int .i64) 3 w' w.heap.size (fun k_ => k_ ≠ Ba) v_ (impl_fabric_route.clo step many (a0,xs0)).2 ∧ Below w.heap.size w w':=by
 obtain ⟨N,hN⟩ : ∃ N,N = wrap64 (many * impl_fabric_route.sg many):=⟨_,rfl⟩
 obtain ⟨st,hst⟩ : ∃ st,st = wrap64 (step * impl_fabric_route.sg many):=⟨_,rfl⟩
 have hNb:=impl_fabric_route.sg_bd hm; rw [← hN] at hNb; have HN:=aM hN; have HST:=aM hst; have HNB:=aM hNb; have HL:=aM hl; have HAO:=aM hao; have HFA:=aM hfa; have HFO:=aM hfo; have HGA:=aM hga; have HGO:=aM hgo; have HBA:=aM hba; have HBO:=aM hbo; have HBF:=aM hbf; have HR:=aM hR; have HB:=aM hB; clear hN hst hNb hm hl hao hfa hfo hga hgo hba hbo hbf hR hB; have hres : impl_fabric_route.clo step many (a0,xs0) = impl_fabric_route.along N.toNat st a0 xs0:=by unfold impl_fabric_route.clo; rw [← HN.out,← HST.out]
 rw [hres]; clear hres; go_enter Try.func74,Try.ntmps74; go_wp2_with (go_at_call 75; (refine (impl_fabric_route.sign_drew many _).mono ?_); rintro e w' ⟨rfl,⟨nd,rfl⟩⟩)
 try rw [← HN.out]
 go_loopg [10] (N.toNat + 1) (fun kq v10 w' => ∃ (x10 a : Int) (xs : List Int) (v : Value),v10 = .int .i64 x10 ∧ Aside0 (kq + x10.toNat = N.toNat + 1 ∧ 0 ≤ x10 ∧ x10 ≤ N ∧ xs.length + (N.toNat - x10.toNat) ≤ 10000) ∧ Aside0 (impl_fabric_route.along (N.toNat - x10.toNat) st a xs = impl_fabric_route.along N.toNat st a0 xs0) ∧ Aside0 (w'.heap[Ba]? = some (.cells #[.int .i64 a] 3 (0,0))) ∧ Aside0 (w'.heap[Bo]? = some (.cells #[v] 28 (0,0))) ∧ Aside0 (w'.heap[Bf]? = some (.cells cf 50 (0,0))) ∧ Aside0 (Kd.R (Kd.int .i64) 3 w' w.heap.size (fun k_ => k_ ≠ Ba) v xs) ∧ Aside0 (Below w.heap.size w w'))
 case atStart => exact ⟨0,a0,xs0,v0,(by first | rfl | (simp; done)),⟨by have:=HNB.out; have:=HL.out; refine ⟨by simp,by omega,by omega,by omega⟩⟩,⟨by simp⟩,⟨by (with_reducible repeat (first | refine zaC ?_ _ | refine zaF ?_ | refine zaD ?_ _)); exact HBA.out⟩,⟨by (with_reducible repeat (first | refine zaC ?_ _ | refine zaF ?_ | refine zaD ?_ _)); exact HBO.out⟩,⟨by (with_reducible repeat (first | refine zaC ?_ _ | refine zaF ?_ | refine zaD ?_ _)); exact HBF.out⟩,⟨by (with_reducible repeat (first | apply Kd.R_alloc | apply Kd.R_drewN | apply Kd.R_drew)); exact HR.out⟩,⟨by repeat (first | (with_reducible first | exact HB.out | apply zaA | apply bN | apply bD) | exact HB.out)⟩⟩
 case round =>
  clear HBA HBO HBF HR HB; obtain ⟨x10,a,xs,v,rfl,HI,HA,HBA,HBO,HBF,HR,HB⟩:=hrel; by_cases c3 : x10 < N
  ·
   have c3b0 : decide (x10 < N) = true:=decide_eq_true c3; have HC3:=aM c3; obtain ⟨k1,rfl⟩ : ∃ k1,gk = k1 + 1:=⟨gk - 1,by have:=HI.out; omega⟩
   have hA : impl_fabric_route.along (N.toNat - (x10 + 1).toNat) st (wrap64 (a + st)) (xs ++ [wrap64 (a + st)]) = impl_fabric_route.along N.toNat st a0 xs0:=by
    have h1:=HA.out; have h2:=HI.out; obtain ⟨q,hq⟩ : ∃ q,N.toNat - x10.toNat = q + 1:=⟨N.toNat - x10.toNat - 1,by omega⟩
    rw [hq] at h1; rw [show N.toNat - (x10 + 1).toNat = q by omega]; exact h1
   have HA2:=aM hA; have hw10 : wrap64 (x10 + 1) = x10 + 1:=by have h2:=HI.out; have h3:=HNB.out; unfold wrap64; omega
   have HW:=aM hw10; obtain ⟨A1_,c1_,e1_⟩:=Kd.R_slice HR.out; subst e1_; have hxa : wr.cell? ⟨Ba,0,none⟩ = some (.int .i64 a):=(zaG HBA.out 0).trans rfl; have hfza:=zaE HBA.out 0; clear hA hw10 HA c3; go_wp2; go_region_with (go_at_call 75; (refine (impl_fabric_route.sign_drew many _).mono ?_); rintro e w' ⟨rfl,⟨nd2,rfl⟩⟩)
   all_goals (
    have hs1 : IntKind.i64.wrap (step * impl_fabric_route.sg many) = st:=by rw [zaP]; exact HST.out.symm
    have hs2 : IntKind.i64.wrap (a + st) = wrap64 (a + st):=zaP _; simp only [hs1,hs2]; clear hs1 hs2 hxa hfza; have HBA3:=aM (show ((wr.drewN (1 + nd2)).setCell ⟨Ba,0,none⟩ (.int .i64 (wrap64 (a + st)))).heap[Ba]? = some (.cells #[.int .i64 (wrap64 (a + st))] 3 (0,0)) from zaW (cs:=#[.int .i64 a]) (zaC HBA.out _) 0 _ rfl); have HBO3:=aM (show ((wr.drewN (1 + nd2)).setCell ⟨Ba,0,none⟩ (.int .i64 (wrap64 (a + st)))).heap[Bo]? = some (.cells #[.slice A1_ xs.length c1_] 28 (0,0)) from (Below.heap_setCell _ ⟨Ba,0,none⟩ _ Bo (fun e_ => HAO.out e_.symm)).trans (zaC HBO.out _)); have HBF3:=aM (show ((wr.drewN (1 + nd2)).setCell ⟨Ba,0,none⟩ (.int .i64 (wrap64 (a + st)))).heap[Bf]? = some (.cells cf 50 (0,0)) from (Below.heap_setCell _ ⟨Ba,0,none⟩ _ Bf HFA.out).trans (zaC HBF.out _))
    have HR3:=aM (show Kd.R (Kd.int .i64) 3 ((wr.drewN (1 + nd2)).setCell ⟨Ba,0,none⟩ (.int .i64 (wrap64 (a + st)))) w.heap.size (fun k_ => k_ ≠ Ba) (.slice A1_ xs.length c1_) xs from Kd.R_far (p:=⟨Ba,0,none⟩) (Kd.R_drewN HR.out _) (fun _ hk => hk) _); have HB3:=aM (show Below w.heap.size w ((wr.drewN (1 + nd2)).setCell ⟨Ba,0,none⟩ (.int .i64 (wrap64 (a + st)))) from zaB (bN HB.out _) HGA.out); clear HBA HBO HBF HR HB; generalize (wr.drewN (1 + nd2)).setCell ⟨Ba,0,none⟩ (.int .i64 (wrap64 (a + st))) = w3 at HBA3 HBO3 HBF3 HR3 HB3 ⊢; have hxa3 : w3.cell? ⟨Ba,0,none⟩ = some (.int .i64 (wrap64 (a + st))):=(zaG HBA3.out 0).trans rfl; have hxo3 : w3.cell? ⟨Bo,0,none⟩ = some (.slice A1_ xs.length c1_):=(zaG HBO3.out 0).trans rfl; go_wp2_with (first
     | ((with_reducible refine zbB (b:=.append) (xs:=#[.tmp 18,.tmp 20]) rfl ?_); at_builtin; refine Kd.R_append (Kd.int .i64) (w0:=w) w.heap.size rfl (.tmp 18) (.tmp 20) 28 3 (.int .i64 0) 8 rfl Try.underlying28 info3 rfl (by decide) (by omega) (.slice A1_ xs.length c1_) xs (wrap64 (a + st)) [.int .i64 (wrap64 (a + st))] (fun k_ => k_ ≠ Ba) (fun _ => False) rfl rfl ?aP (fun _ hk => hk.elim) ?aF ?aO ?aB ?aS ?aL ?_; (case aP => exact rfl); (case aB => exact HB3.out); (case aF => exact (fun k_ hk_ e_ => by have:=blk_lt HBA3.out; omega)); (case aO => exact HR3.out); (case aS => exact zaK HB3.out); (case aL => have:=HI.out; omega); intro v2 w4 ho hb hg hat; obtain ⟨A2_,c2_,e2_⟩:=Kd.R_slice ho; subst e2_; have HBA4:=aM ((hg.block Ba (blk_lt HBA3.out) (fun e_ => HR3.out.1 Ba e_.symm rfl)).trans HBA3.out); have HBO4:=aM ((hg.block Bo (blk_lt HBO3.out) (Kd.R_ne HR3.out HBO3.out (by decide))).trans HBO3.out); have HBF4:=aM ((hg.block Bf (blk_lt HBF3.out) (Kd.R_ne HR3.out HBF3.out (by decide))).trans HBF3.out); have HR4:=aM ho; have HB4:=aM hb; have hxo4 : w4.cell? ⟨Bo,0,none⟩ = some (.slice A1_ xs.length c1_):=(zaG HBO4.out 0).trans rfl; have hfo4:=zaE HBO4.out 0; clear hg hat ho hb hxa3 hxo3 HBA3 HBO3 HBF3 HR3 HB3)
     | ((with_reducible refine zbC (t:=28) (p:=3) rfl ?_); refine zaZ (t:=28) (p:=3) (v:=?vo3) (w1:=(w4.setCell ⟨Bo,0,none⟩ (.slice A2_ (xs ++ [wrap64 (a + st)]).length c2_))) ?hg ?ho ?hn ?hr ?_; (case ho => rfl); (case hg => rfl); (case hn => rfl); (case hr => first | (go_simp; done) | (go_simp; rfl)); intro w5 hw; have HBA5:=aM (show w5.heap[Ba]? = some (.cells #[.int .i64 (wrap64 (a + st))] 3 (0,0)) from (by rw [hw]; exact (Below.heap_setCell _ ⟨Bo,0,none⟩ _ Ba HAO.out).trans HBA4.out)); have HBO5:=aM (show w5.heap[Bo]? = some (.cells #[.slice A2_ (xs ++ [wrap64 (a + st)]).length c2_] 28 (0,0)) from (by rw [hw]; exact zaW (cs:=#[.slice A1_ xs.length c1_]) HBO4.out 0 _ rfl)); have HBF5:=aM (show w5.heap[Bf]? = some (.cells cf 50 (0,0)) from (by rw [hw]; exact (Below.heap_setCell _ ⟨Bo,0,none⟩ _ Bf HFO.out).trans HBF4.out)); have HR5:=aM (show Kd.R (Kd.int .i64) 3 w5 w.heap.size (fun k_ => k_ ≠ Ba) (.slice A2_ (xs ++ [wrap64 (a + st)]).length c2_) (xs ++ [wrap64 (a + st)]) from (by rw [hw]; exact Kd.R_set HR4.out HBO4.out (by decide) 0 _)); have HB5:=aM (show Below w.heap.size w w5 from (by rw [hw]; exact zaB HB4.out HGO.out)); clear hw hxo4 hfo4 HBA4 HBO4 HBF4 HR4 HB4))
    go_roundg k1; case measure => omega
    case rel => exact ⟨x10 + 1,wrap64 (a + st),xs ++ [wrap64 (a + st)],.slice A2_ (xs ++ [wrap64 (a + st)]).length c2_,(by rw [HW.out]),⟨by have h2:=HI.out; have h3:=HC3.out; refine ⟨by omega,by omega,by omega,by rw [List.length_append,List.length_singleton]; omega⟩⟩,HA2,⟨by (with_reducible repeat (first | refine zaC ?_ _ | refine zaF ?_ | refine zaD ?_ _)); exact HBA5.out⟩,⟨by (with_reducible repeat (first | refine zaC ?_ _ | refine zaF ?_ | refine zaD ?_ _)); exact HBO5.out⟩,⟨by (with_reducible repeat (first | refine zaC ?_ _ | refine zaF ?_ | refine zaD ?_ _)); exact HBF5.out⟩,⟨by (with_reducible repeat (first | apply Kd.R_alloc | apply Kd.R_drewN | apply Kd.R_drew)); exact HR5.out⟩,⟨by repeat (first | (with_reducible first | exact HB5.out | apply zaA | apply bN | apply bD) | exact HB5.out)⟩⟩)
  ·
   have c3b0 : decide (x10 < N) = false:=decide_eq_false c3; have h2:=HI.out; have hA:=HA.out; rw [show N.toNat - x10.toNat = 0 by omega] at hA; have HAE:=aM hA.symm; clear hA h2 c3; obtain ⟨A1_,c1_,e1_⟩:=Kd.R_slice HR.out; subst e1_; go_wp2; go_end0; rw [HAE.out]; exact ⟨_,_,rfl,by (with_reducible repeat (first | refine zaC ?_ _ | refine zaF ?_ | refine zaD ?_ _)); exact HBA.out,by (with_reducible repeat (first | refine zaC ?_ _ | refine zaF ?_ | refine zaD ?_ _)); exact HBO.out,by (with_reducible repeat (first | refine zaC ?_ _ | refine zaF ?_ | refine zaD ?_ _)); exact HBF.out,by (with_reducible repeat (first | apply Kd.R_alloc | apply Kd.R_drewN | apply Kd.R_drew)); exact HR.out,by repeat (first | (with_reducible first | exact HB.out | apply zaA | apply bN | apply bD) | exact HB.out)⟩
theorem impl_fabric_route.clo_len {step many : Int} (hm : -1000 ≤ many ∧ many ≤ 1000) (p : Int × List Int) : (impl_fabric_route.clo step many p).2.length ≤ p.2.length + 1000:=by
 unfold impl_fabric_route.clo; rw [impl_fabric_route.along_len]; have:=impl_fabric_route.sg_bd hm
 omega
theorem impl_fabric_route.hop {w W W' : World} (h : Below w.heap.size w W) (h' : Below W.heap.size W W') : Below w.heap.size w W':=h.trans (h'.mono h.size)
set_option maxHeartbeats 16000000 in
set_option maxRecDepth 100000 in
theorem impl_fabric_route.calls (a0_0 : Int) (a0_1 : Int) (a1 : Int) (a2 : Int) (a3 : Bool) (r : List Int) (w : World) (h : impl_fabric_route.f a0_0 a0_1 a1 a2 a3 = some r) :
  Calls Try.prog 47 #[.agg #[.int .i64 a0_0,.int .i64 a0_1],.int .i64 a1,.int .i64 a2,.bool a3] w fun e w' => ∃ v0_ : Value,e = .returned (v0_) ∧ Kd.R (Kd.int .i64) 3 w' w.heap.size (fun _ => True) v0_ r ∧ Below w.heap.size w w':=by
 have hu_:=Try.underlying50; obtain ⟨b1,A1,H⟩:=bE h; have hb1 : Below w.heap.size w ((w.alloc (.cells #[.int .i64 a0_0,.int .i64 a0_1] 50)).alloc (.cells #[.int .i64 a1] 3)):=zaA (zaA (Below.refl _ _) _) _; have HB:=aM hb1; have HF0:=aM (show ((w.alloc (.cells #[.int .i64 a0_0,.int .i64 a0_1] 50)).alloc (.cells #[.int .i64 a1] 3)).heap[w.heap.size]? = some (.cells #[.int .i64 a0_0,.int .i64 a0_1] 50 (0,0)) from zaD (blk_new w _) _); have HA0:=aM (show ((w.alloc (.cells #[.int .i64 a0_0,.int .i64 a0_1] 50)).alloc (.cells #[.int .i64 a1] 3)).heap[w.heap.size + 1]? = some (.cells #[.int .i64 a1] 3 (0,0)) from by simpa using blk_new (w.alloc (.cells #[.int .i64 a0_0,.int .i64 a0_1] 50)) (.cells #[.int .i64 a1] 3)); have A1:=aM A1; clear hb1 h; cases b1 with
 | false =>
  obtain rfl : [] = r:=by simpa using H
  clear H; go_enter Try.func47,Try.ntmps47; go_wp2_with (go_at_call 72; (with_reducible refine (impl_fabric_node.calls a0_0 a0_1 a1 false _ A1.out).mono ?_); rintro e w1 ⟨rfl,hb'⟩; have HB1:=aM hb'; clear hb'); go_ret; exact ⟨_,rfl,Kd.R_nil _ _ _ _ _,impl_fabric_route.hop HB.out HB1.out⟩
 | true =>
  obtain ⟨b2,A2,H⟩:=bE H; have A2:=aM A2; cases b2 with
  | false =>
   obtain rfl : [] = r:=by simpa using H
   clear H; go_enter Try.func47,Try.ntmps47; go_wp2_with (first
    | (go_at_call 72; (with_reducible refine (impl_fabric_node.calls a0_0 a0_1 a1 true _ A1.out).mono ?_); rintro e w1 ⟨rfl,hb'⟩; have HB1:=aM hb'; clear hb'; have ka0 : w1.cell? ⟨w.heap.size,0,none⟩ = some (.int .i64 a0_0):=(zaG (zaT HF0.out HB1.out) 0).trans rfl; have ka1 : w1.cell? ⟨w.heap.size,1,none⟩ = some (.int .i64 a0_1):=(zaG (zaT HF0.out HB1.out) 1).trans rfl)
    | (go_at_call 72; (with_reducible refine (impl_fabric_node.calls a0_0 a0_1 a2 false _ A2.out).mono ?_); rintro e w2 ⟨rfl,hb'⟩; have HB2:=aM (impl_fabric_route.hop HB1.out hb'); clear hb'))
   go_ret; exact ⟨_,rfl,Kd.R_nil _ _ _ _ _,impl_fabric_route.hop HB.out HB2.out⟩
  | true =>
   replace H : (if a0_0 = 0 then none else if -1000 ≤ wrap64 (Int.tmod a2 a0_0 - Int.tmod a1 a0_0) ∧ wrap64 (Int.tmod a2 a0_0 - Int.tmod a1 a0_0) ≤ 1000 ∧ -1000 ≤ wrap64 (wrap64 (Int.tdiv a2 a0_0) - wrap64 (Int.tdiv a1 a0_0)) ∧ wrap64 (wrap64 (Int.tdiv a2 a0_0) - wrap64 (Int.tdiv a1 a0_0)) ≤ 1000 then some (if a3 = true then (impl_fabric_route.clo a0_0 (wrap64 (wrap64 (Int.tdiv a2 a0_0) - wrap64 (Int.tdiv a1 a0_0))) (impl_fabric_route.clo 1 (wrap64 (Int.tmod a2 a0_0 - Int.tmod a1 a0_0)) (a1,[a1]))).2 else (impl_fabric_route.clo 1 (wrap64 (Int.tmod a2 a0_0 - Int.tmod a1 a0_0)) (impl_fabric_route.clo a0_0 (wrap64 (wrap64 (Int.tdiv a2 a0_0) - wrap64 (Int.tdiv a1 a0_0))) (a1,[a1]))).2) else none) = some r:=H; by_cases c4 : a0_0 = 0
   ·
    rw [if_pos c4] at H; exact absurd H (by simp)
   rw [if_neg c4] at H; have c4b0 : (a0_0 == 0) = false:=beq_eq_false_iff_ne.mpr c4; have c4b1 : (a0_0 != 0) = true:=bne_iff_ne.mpr c4; obtain ⟨dx,hdx⟩ : ∃ dx,dx = wrap64 (Int.tmod a2 a0_0 - Int.tmod a1 a0_0):=⟨_,rfl⟩
   obtain ⟨dy,hdy⟩ : ∃ dy,dy = wrap64 (wrap64 (Int.tdiv a2 a0_0) - wrap64 (Int.tdiv a1 a0_0)):=⟨_,rfl⟩
   rw [← hdx,← hdy] at H; by_cases cD : -1000 ≤ dx ∧ dx ≤ 1000 ∧ -1000 ≤ dy ∧ dy ≤ 1000
   ·
    rw [if_pos cD] at H; have HD:=aM cD; have HDX:=aM hdx; have HDY:=aM hdy; have HE:=aM (Option.some.inj H); clear H cD hdx hdy; go_enter Try.func47,Try.ntmps47; go_wp2_with (first
     | (go_at_call 72; (with_reducible refine (impl_fabric_node.calls a0_0 a0_1 a1 true _ A1.out).mono ?_); rintro e w1 ⟨rfl,hb'⟩; have HB1:=aM hb'; clear hb'; have ka0 : w1.cell? ⟨w.heap.size,0,none⟩ = some (.int .i64 a0_0):=(zaG (zaT HF0.out HB1.out) 0).trans rfl; have ka1 : w1.cell? ⟨w.heap.size,1,none⟩ = some (.int .i64 a0_1):=(zaG (zaT HF0.out HB1.out) 1).trans rfl)
     | (go_at_call 72; (with_reducible refine (impl_fabric_node.calls a0_0 a0_1 a2 true _ A2.out).mono ?_); rintro e w2 ⟨rfl,hb'⟩; have HB2:=aM (impl_fabric_route.hop HB1.out hb'); clear hb' ka0 ka1; have kb2 : w2.cell? ⟨w.heap.size + 1,0,none⟩ = some (.int .i64 a1):=(zaG (zaT HA0.out HB2.out) 0).trans rfl))
    have HS:=aM (show w.heap.size + 1 + 1 ≤ w2.heap.size from by simpa using HB2.out.size); have HDx : -1000 ≤ dx ∧ dx ≤ 1000:=⟨HD.out.1,HD.out.2.1⟩; have HDy : -1000 ≤ dy ∧ dy ≤ 1000:=HD.out.2.2; have HBA3:=aM (show ((w2.alloc (.cells #[.int .i64 a1] 3)).alloc (.cells #[.slice (some ⟨w2.heap.size,0,none⟩) 1 1] 28)).heap[w.heap.size + 1]? = some (.cells #[.int .i64 a1] 3 (0,0)) from zaD (zaD (zaT HA0.out HB2.out) _) _); have HBF3:=aM (show ((w2.alloc (.cells #[.int .i64 a1] 3)).alloc (.cells #[.slice (some ⟨w2.heap.size,0,none⟩) 1 1] 28)).heap[w.heap.size]? = some (.cells #[.int .i64 a0_0,.int .i64 a0_1] 50 (0,0)) from zaD (zaD (zaT HF0.out HB2.out) _) _)
    have HBO3:=aM (show ((w2.alloc (.cells #[.int .i64 a1] 3)).alloc (.cells #[.slice (some ⟨w2.heap.size,0,none⟩) 1 1] 28)).heap[w2.heap.size + 1]? = some (.cells #[.slice (some ⟨w2.heap.size,0,none⟩) 1 1] 28 (0,0)) from by simpa using blk_new (w2.alloc (.cells #[.int .i64 a1] 3)) (.cells #[.slice (some ⟨w2.heap.size,0,none⟩) 1 1] 28)); have HR3:=aM (show Kd.R (Kd.int .i64) 3 ((w2.alloc (.cells #[.int .i64 a1] 3)).alloc (.cells #[.slice (some ⟨w2.heap.size,0,none⟩) 1 1] 28)) w.heap.size (fun k_ => k_ ≠ w.heap.size + 1) (.slice (some ⟨w2.heap.size,0,none⟩) 1 1) [a1] from Kd.R_alloc (Kd.R_of_own (own_lit w2 w.heap.size 3 .i64 [a1] (by have:=HS.out; omega) (by simp)) (fun k_ hk_ e_ => by have h1_ : w2.heap.size = k_:=(by simpa [Value.ownBlock] using hk_); have h2_:=HS.out; omega)) _)
    have HB3:=aM (show Below w.heap.size w ((w2.alloc (.cells #[.int .i64 a1] 3)).alloc (.cells #[.slice (some ⟨w2.heap.size,0,none⟩) 1 1] 28)) from zaA (zaA (impl_fabric_route.hop HB.out HB2.out) _) _); clear kb2; generalize (w2.alloc (.cells #[.int .i64 a1] 3)).alloc (.cells #[.slice (some ⟨w2.heap.size,0,none⟩) 1 1] 28) = w3 at HBA3 HBF3 HBO3 HR3 HB3 ⊢; have kf3 : w3.cell? ⟨w.heap.size,0,none⟩ = some (.int .i64 a0_0):=(zaG HBF3.out 0).trans rfl; have ka3 : w3.cell? ⟨w.heap.size + 1,0,none⟩ = some (.int .i64 a1):=(zaG HBA3.out 0).trans rfl; go_quiet (fail); generalize hw4 : w3.drewN _ = w4; have HBA4:=aM (show w4.heap[w.heap.size + 1]? = some (.cells #[.int .i64 a1] 3 (0,0)) from hw4 ▸ zaC HBA3.out _); have HBF4:=aM (show w4.heap[w.heap.size]? = some (.cells #[.int .i64 a0_0,.int .i64 a0_1] 50 (0,0)) from hw4 ▸ zaC HBF3.out _)
    have HBO4:=aM (show w4.heap[w2.heap.size + 1]? = some (.cells #[.slice (some ⟨w2.heap.size,0,none⟩) 1 1] 28 (0,0)) from hw4 ▸ zaC HBO3.out _); have HR4:=aM (show Kd.R (Kd.int .i64) 3 w4 w.heap.size (fun k_ => k_ ≠ w.heap.size + 1) (.slice (some ⟨w2.heap.size,0,none⟩) 1 1) [a1] from hw4 ▸ Kd.R_drewN HR3.out _); have HB4:=aM (show Below w.heap.size w w4 from hw4 ▸ bN HB3.out _); clear hw4 kf3 ka3 HBA3 HBF3 HBO3 HR3 HB3; have kf4 : w4.cell? ⟨w.heap.size,0,none⟩ = some (.int .i64 a0_0):=(zaG HBF4.out 0).trans rfl
    try simp only [zaP]
    simp only [← HDX.out,← HDY.out]; cases a3 with
    | true =>
     have hE:=HE.out; rw [if_pos rfl] at hE; subst hE; go_wp2_with (first
      | (refine (impl_fabric_route.walk 1 dx a1 [a1] (w.heap.size + 1) (w2.heap.size + 1) w.heap.size #[.int .i64 a0_0,.int .i64 a0_1] (.slice (some ⟨w2.heap.size,0,none⟩) 1 1) w _ HDx (by simp) (by have:=HS.out; omega) (by omega) (by have:=HS.out; omega) (by omega) (by have:=HS.out; omega) HBA4.out HBO4.out HBF4.out HR4.out HB4.out).mono ?_; rintro e w5 ⟨u_,v_,rfl,hba,hbo,hbf,hr,hb⟩; have HBA5:=aM hba; have HBO5:=aM hbo; have HBF5:=aM hbf; have HR5:=aM hr; have HB5:=aM hb; have kf5 : w5.cell? ⟨w.heap.size,0,none⟩ = some (.int .i64 a0_0):=(zaG HBF5.out 0).trans rfl; clear hba hbo hbf hr hb kf4 HBA4 HBO4 HBF4 HR4 HB4)
      | (refine (impl_fabric_route.walk a0_0 dy (impl_fabric_route.clo 1 dx (a1,[a1])).1 (impl_fabric_route.clo 1 dx (a1,[a1])).2 (w.heap.size + 1) (w2.heap.size + 1) w.heap.size #[.int .i64 a0_0,.int .i64 a0_1] v_ w _ HDy (by have:=impl_fabric_route.clo_len (step:=1) HDx (a1,[a1]); simp at this; omega) (by have:=HS.out; omega) (by omega) (by have:=HS.out; omega) (by omega) (by have:=HS.out; omega) (by (with_reducible repeat (first | refine zaC ?_ _ | refine zaF ?_)); exact HBA5.out) (by (with_reducible repeat (first | refine zaC ?_ _ | refine zaF ?_)); exact HBO5.out) (by (with_reducible repeat (first | refine zaC ?_ _ | refine zaF ?_)); exact HBF5.out) (by (with_reducible repeat (first | apply Kd.R_drewN | apply Kd.R_drew)); exact HR5.out) (by repeat (first | (with_reducible first | exact HB5.out | apply bN | apply bD) | exact HB5.out))).mono ?_; rintro e w6 ⟨u2_,v2_,rfl,hba,hbo,hbf,hr,hb⟩; obtain ⟨A6_,c6_,e6_⟩:=Kd.R_slice hr; subst e6_; have HR6:=aM hr; have HB6:=aM hb; have ko6 : w6.cell? ⟨w2.heap.size + 1,0,none⟩ = some (.slice A6_ _ c6_):=(zaG hbo 0).trans rfl; clear hba hbo hbf hr hb kf5))
     go_ret; exact ⟨_,rfl,by (with_reducible repeat (first | apply Kd.R_alloc | apply Kd.R_drewN | apply Kd.R_drew)); exact Kd.R_mono HR6.out (fun _ _ => trivial),by repeat (first | (with_reducible first | exact HB6.out | apply zaA | apply bN | apply bD) | exact HB6.out)⟩
    | false =>
     have hE:=HE.out; rw [if_neg (by decide)] at hE; subst hE; go_wp2_with (first
      | (refine (impl_fabric_route.walk a0_0 dy a1 [a1] (w.heap.size + 1) (w2.heap.size + 1) w.heap.size #[.int .i64 a0_0,.int .i64 a0_1] (.slice (some ⟨w2.heap.size,0,none⟩) 1 1) w _ HDy (by simp) (by have:=HS.out; omega) (by omega) (by have:=HS.out; omega) (by omega) (by have:=HS.out; omega) HBA4.out HBO4.out HBF4.out HR4.out HB4.out).mono ?_; rintro e w5 ⟨u_,v_,rfl,hba,hbo,hbf,hr,hb⟩; have HBA5:=aM hba; have HBO5:=aM hbo; have HBF5:=aM hbf; have HR5:=aM hr; have HB5:=aM hb; have kf5 : w5.cell? ⟨w.heap.size,0,none⟩ = some (.int .i64 a0_0):=(zaG HBF5.out 0).trans rfl; clear hba hbo hbf hr hb kf4 HBA4 HBO4 HBF4 HR4 HB4)
      | (refine (impl_fabric_route.walk 1 dx (impl_fabric_route.clo a0_0 dy (a1,[a1])).1 (impl_fabric_route.clo a0_0 dy (a1,[a1])).2 (w.heap.size + 1) (w2.heap.size + 1) w.heap.size #[.int .i64 a0_0,.int .i64 a0_1] v_ w _ HDx (by have:=impl_fabric_route.clo_len (step:=a0_0) HDy (a1,[a1]); simp at this; omega) (by have:=HS.out; omega) (by omega) (by have:=HS.out; omega) (by omega) (by have:=HS.out; omega) (by (with_reducible repeat (first | refine zaC ?_ _ | refine zaF ?_)); exact HBA5.out) (by (with_reducible repeat (first | refine zaC ?_ _ | refine zaF ?_)); exact HBO5.out) (by (with_reducible repeat (first | refine zaC ?_ _ | refine zaF ?_)); exact HBF5.out) (by (with_reducible repeat (first | apply Kd.R_drewN | apply Kd.R_drew)); exact HR5.out) (by repeat (first | (with_reducible first | exact HB5.out | apply bN | apply bD) | exact HB5.out))).mono ?_; rintro e w6 ⟨u2_,v2_,rfl,hba,hbo,hbf,hr,hb⟩; obtain ⟨A6_,c6_,e6_⟩:=Kd.R_slice hr; subst e6_; have HR6:=aM hr; have HB6:=aM hb; have ko6 : w6.cell? ⟨w2.heap.size + 1,0,none⟩ = some (.slice A6_ _ c6_):=(zaG hbo 0).trans rfl; clear hba hbo hbf hr hb kf5))
     go_ret; exact ⟨_,rfl,by (with_reducible repeat (first | apply Kd.R_alloc | apply Kd.R_drewN | apply Kd.R_drew)); exact Kd.R_mono HR6.out (fun _ _ => trivial),by repeat (first | (with_reducible first | exact HB6.out | apply zaA | apply bN | apply bD) | exact HB6.out)⟩
   ·
    rw [if_neg cD] at H; exact absurd H (by simp)
def impl_RouteXY.f (a0 : Int) (a1 : Int) (a2 : Int) (a3 : Int) : Option (List Int):=(impl_fabric_route.f a0 a1 a2 a3 true).bind fun t339 => (some t339)
set_option maxHeartbeats 8000000 in
set_option maxRecDepth 100000 in
theorem impl_RouteXY.calls (a0 : Int) (a1 : Int) (a2 : Int) (a3 : Int) (r : List Int) (w : World) (h : impl_RouteXY.f a0 a1 a2 a3 = some r) :
  Calls Try.prog 21 #[.int .i64 a0,.int .i64 a1,.int .i64 a2,.int .i64 a3] w fun e w' => ∃ v0_ : Value,e = .returned (v0_) ∧ Kd.R (Kd.int .i64) 3 w' w.heap.size (fun _ => True) v0_ r ∧ Below w.heap.size w w':=by
 have hu50:=Try.underlying50; have HB:=aM (Below.refl w.heap.size w); have H : ((impl_fabric_route.f a0 a1 a2 a3 true).bind fun t339 => (some t339)) = some r:=h; clear h; replace H:=bE H; obtain ⟨t339,A50,H⟩:=H; replace H : (some t339) = some r:=H; have A5:=aM A50; clear A50; obtain rfl:=Option.some.inj H; go_enter Try.func21,Try.ntmps21
 go_wp2_with (first | ((with_reducible refine zaI (f:=47) rfl ?_); refine zaR (some 14) rfl rfl Try.func47 (by kernel_rfl) rfl #[.agg #[.int .i64 a0,.int .i64 a1],.int .i64 a2,.int .i64 a3,.bool true] rfl (by (try simp only [mA,mB,mC]); first | done | rfl | (simp only [mE,mD]; rfl)) ?_; (with_reducible refine (impl_fabric_route.calls a0 a1 a2 a3 true t339 _ A5.out).mono ?_); rintro e w6 ⟨v340,rfl,ho0,hb⟩; refine ⟨_,rfl,?_⟩; have n0_:=aM (Kd.R_lower ho0 (zaK (by repeat (first | (with_reducible first | exact HB.out | apply zaA | apply bN | apply bD) | exact HB.out)))); have n1_:=aM (zaJ (by repeat (first | (with_reducible first | exact HB.out | apply zaA | apply bN | apply bD) | exact HB.out)) hb); clear HB; have HO341:=n0_; have HB:=n1_; clear n0_ n1_; (try clear hb); (try clear hb2); (try clear hk); (try clear hi); (try clear ho0))); go_ret
 exact ⟨_,by first | rfl | (simp [*] <;> rfl),by (with_reducible repeat (first | apply Kd.R_alloc | apply Kd.R_drewN | apply Kd.R_drew)); exact HO341.out,by repeat (first | (with_reducible first | exact HB.out | apply zaA | apply bN | apply bD) | exact HB.out)⟩
end Go.Proofs.Ytdbokdodjekchaa.PFnRouteNoRound
