/- What the Go functions that this law reaches answer, function by function; conditions: those that each contract names. Made for this claim by a program of this session (wip/myprint) over the kit's print. -/
import Derived.Test.YtdbokdodjekchaaPFnNoRoundx0
import Derived.Test.YtdbokdodjekchaaPFnNoRoundx3
import Derived.Test.YtdbokdodjekchaaPFnNoRoundx7
import Derived.Test.YtdbokdodjekchaaPFnNoRoundx12
import Derived.Test.YtdbokdodjekchaaPFnNoRoundx14
namespace Go.Proofs.Ytdbokdodjekchaa.PFnNoRound
open Go.RowKit Go.Proofs.YtdbokdodjekchaaW.PrintWords Go.Proofs.YtdbokdodjekchaaW.PrintLast Go.Proofs.YtdbokdodjekchaaW.PrintMore
attribute [local go_sem] max2_int min2_int max_two min_two max_three min_three max_four min_four   -- for this text's walks alone
set_option linter.unusedVariables false
set_option linter.unusedSimpArgs false
/-! ### laws_FnNoRound: function 4 -/
mutual
def laws_FnNoRound.j0 : Nat → Int → Int → List (List Int) → Bool → Bool → Bool → List Bool → Int → Bool → List Bool → Int → Bool → Option (Bool)
 | 0, _, _, _, _, _, _, _, _, _, _, _, _ => none
 | k + 1, x3, x4, x5, x7, x9, x65, x315000, x315001, x315002, x322000, x322001, x322002 => if x65 = true then (if (x7 == x9) = true then (if x315001 = x322001 then (if (x315002 == x322002) = true then (some ((x315000.length : Int) == (x322000.length : Int))) else (some false)) else (some false)) else (some false)) else (laws_FnNoRound.l0 k x3 x4 x5 true x315000 (x315000.length : Int) 0 x315000 x315001 x315002 x322000 x322001 x322002)
def laws_FnNoRound.l0 : Nat → Int → Int → List (List Int) → Bool → List Bool → Int → Int → List Bool → Int → Bool → List Bool → Int → Bool → Option (Bool)
 | 0, _, _, _, _, _, _, _, _, _, _, _, _, _ => none
 | k + 1, x3, x4, x5, x10, x93, x94, x95, x315000, x315001, x315002, x322000, x322001, x322002 => if x95 < x94 then (if 0 ≤ x95 then (if x95 < (x93.length : Int) then (if x10 = true then (if x95 < (x322000.length : Int) then (if ((rdOf false x93 x95) != (rdOf false x322000 x95)) = true then (some false) else (laws_FnNoRound.l0 k x3 x4 x5 (rdOf false x93 x95) x93 x94 (wrap64 (x95 + 1)) x315000 x315001 x315002 x322000 x322001 x322002)) else (none)) else (if x95 < (x322000.length : Int) then (if ((rdOf false x93 x95) != (rdOf false x322000 x95)) = true then (some false) else (laws_FnNoRound.l0 k x3 x4 x5 false x93 x94 (wrap64 (x95 + 1)) x315000 x315001 x315002 x322000 x322001 x322002)) else (none))) else (none)) else (none)) else (if (x315002 != x10) = true then (if x315002 = true then ((impl_HasRound.f k x3 x4 x5).bind fun t325 => (some t325)) else (some true)) else (some false))
end
def laws_FnNoRound.f (k : Nat) (l0 : List Int) : Option (Bool) := if (l0.length : Int) > 1048576 then (some true) else ((spec_DrawRunWorms.f k l0).bind fun bt303 => ((impl_RunWorms.f k bt303.1 bt303.2.1 bt303.2.2).bind fun bt308 => ((spec_RunWorms.f k bt303.1 bt303.2.1 bt303.2.2).bind fun bt315 => (if (bt308.2.2.2 != bt315.2.2.2) = true then (laws_FnNoRound.j0 k bt303.1 bt303.2.1 bt303.2.2 bt308.2.2.2 bt315.2.2.2 true bt308.1 bt308.2.1 bt308.2.2.1 bt315.1 bt315.2.1 bt315.2.2.1) else (if bt308.2.1 = bt315.2.1 then (if (bt308.2.2.1 != bt315.2.2.1) = true then (laws_FnNoRound.j0 k bt303.1 bt303.2.1 bt303.2.2 bt308.2.2.2 bt315.2.2.2 true bt308.1 bt308.2.1 bt308.2.2.1 bt315.1 bt315.2.1 bt315.2.2.1) else (if (bt308.1.length : Int) = (bt315.1.length : Int) then (laws_FnNoRound.j0 k bt303.1 bt303.2.1 bt303.2.2 bt308.2.2.2 bt315.2.2.2 (!bt308.2.2.2) bt308.1 bt308.2.1 bt308.2.2.1 bt315.1 bt315.2.1 bt315.2.2.1) else (laws_FnNoRound.j0 k bt303.1 bt303.2.1 bt303.2.2 bt308.2.2.2 bt315.2.2.2 true bt308.1 bt308.2.1 bt308.2.2.1 bt315.1 bt315.2.1 bt315.2.2.1))) else (laws_FnNoRound.j0 k bt303.1 bt303.2.1 bt303.2.2 bt308.2.2.2 bt315.2.2.2 true bt308.1 bt308.2.1 bt308.2.2.1 bt315.1 bt315.2.1 bt315.2.2.1))))))
theorem laws_FnNoRound.mono_l : ∀ k, (∀ y0 y1 y2 y3 y4 y5 y6 y7 y8 y9 y10 y11, LeO (laws_FnNoRound.j0 k y0 y1 y2 y3 y4 y5 y6 y7 y8 y9 y10 y11) (laws_FnNoRound.j0 (k + 1) y0 y1 y2 y3 y4 y5 y6 y7 y8 y9 y10 y11)) ∧ (∀ y0 y1 y2 y3 y4 y5 y6 y7 y8 y9 y10 y11 y12, LeO (laws_FnNoRound.l0 k y0 y1 y2 y3 y4 y5 y6 y7 y8 y9 y10 y11 y12) (laws_FnNoRound.l0 (k + 1) y0 y1 y2 y3 y4 y5 y6 y7 y8 y9 y10 y11 y12))
 | 0 => ⟨fun _ _ _ _ _ _ _ _ _ _ _ _ r h => by simp [laws_FnNoRound.j0] at h, fun _ _ _ _ _ _ _ _ _ _ _ _ _ r h => by simp [laws_FnNoRound.l0] at h⟩
 | k + 1 => by
  obtain ⟨ih0, ih1⟩ := laws_FnNoRound.mono_l k
  refine ⟨?_, ?_⟩
  ·
   intro y0 y1 y2 y3 y4 y5 y6 y7 y8 y9 y10 y11
   unfold laws_FnNoRound.j0
   repeat' first
   | (with_reducible exact ih0 _ _ _ _ _ _ _ _ _ _ _ _)
   | (with_reducible exact ih1 _ _ _ _ _ _ _ _ _ _ _ _ _)
   | (with_reducible exact impl_HasRound.mono _ _ _ _)
   | (with_reducible exact impl_RunWorms.mono _ _ _ _)
   | (with_reducible exact spec_DrawRunWorms.mono _ _)
   | (with_reducible exact spec_RunWorms.mono _ _ _ _)
   | (with_reducible exact LeO.refl _)
   | (with_reducible exact LeO.none _)
   | (with_reducible refine LeO.ite ?_ ?_)
   | (with_reducible refine LeO.bind ?_ (fun _ => ?_))
   | exact ih0 _ _ _ _ _ _ _ _ _ _ _ _
   | exact ih1 _ _ _ _ _ _ _ _ _ _ _ _ _
   | exact impl_HasRound.mono _ _ _ _
   | exact impl_RunWorms.mono _ _ _ _
   | exact spec_DrawRunWorms.mono _ _
   | exact spec_RunWorms.mono _ _ _ _
   | exact LeO.none _
   | refine LeO.ite ?_ ?_
   | refine LeO.bind ?_ (fun _ => ?_)
  ·
   intro y0 y1 y2 y3 y4 y5 y6 y7 y8 y9 y10 y11 y12
   unfold laws_FnNoRound.l0
   repeat' first
   | (with_reducible exact ih0 _ _ _ _ _ _ _ _ _ _ _ _)
   | (with_reducible exact ih1 _ _ _ _ _ _ _ _ _ _ _ _ _)
   | (with_reducible exact impl_HasRound.mono _ _ _ _)
   | (with_reducible exact impl_RunWorms.mono _ _ _ _)
   | (with_reducible exact spec_DrawRunWorms.mono _ _)
   | (with_reducible exact spec_RunWorms.mono _ _ _ _)
   | (with_reducible exact LeO.refl _)
   | (with_reducible exact LeO.none _)
   | (with_reducible refine LeO.ite ?_ ?_)
   | (with_reducible refine LeO.bind ?_ (fun _ => ?_))
   | exact ih0 _ _ _ _ _ _ _ _ _ _ _ _
   | exact ih1 _ _ _ _ _ _ _ _ _ _ _ _ _
   | exact impl_HasRound.mono _ _ _ _
   | exact impl_RunWorms.mono _ _ _ _
   | exact spec_DrawRunWorms.mono _ _
   | exact spec_RunWorms.mono _ _ _ _
   | exact LeO.none _
   | refine LeO.ite ?_ ?_
   | refine LeO.bind ?_ (fun _ => ?_)
theorem laws_FnNoRound.mono : ∀ a0 k, LeO (laws_FnNoRound.f k a0) (laws_FnNoRound.f (k + 1) a0) := by
 intro a0 k
 obtain ⟨ih0, ih1⟩ := laws_FnNoRound.mono_l k
 unfold laws_FnNoRound.f
 repeat' first
   | (with_reducible exact ih0 _ _ _ _ _ _ _ _ _ _ _ _)
   | (with_reducible exact ih1 _ _ _ _ _ _ _ _ _ _ _ _ _)
   | (with_reducible exact impl_HasRound.mono _ _ _ _)
   | (with_reducible exact impl_RunWorms.mono _ _ _ _)
   | (with_reducible exact spec_DrawRunWorms.mono _ _)
   | (with_reducible exact spec_RunWorms.mono _ _ _ _)
   | (with_reducible exact LeO.refl _)
   | (with_reducible exact LeO.none _)
   | (with_reducible refine LeO.ite ?_ ?_)
   | (with_reducible refine LeO.bind ?_ (fun _ => ?_))
   | exact ih0 _ _ _ _ _ _ _ _ _ _ _ _
   | exact ih1 _ _ _ _ _ _ _ _ _ _ _ _ _
   | exact impl_HasRound.mono _ _ _ _
   | exact impl_RunWorms.mono _ _ _ _
   | exact spec_DrawRunWorms.mono _ _
   | exact spec_RunWorms.mono _ _ _ _
   | exact LeO.none _
   | refine LeO.ite ?_ ?_
   | refine LeO.bind ?_ (fun _ => ?_)
set_option maxHeartbeats 8000000 in
set_option maxRecDepth 100000 in
theorem laws_FnNoRound.calls (k : Nat) (A0 : Option Addr) (c0 : Nat) (l0 : List Int) (r : Bool) (w : World) (hr0 : Kd.C (Kd.int .u8) w A0 l0.length l0) (hc0 : l0.length ≤ c0) (h : laws_FnNoRound.f k l0 = some r) :
  Calls Try.prog 4 #[.slice A0 l0.length c0] w fun e w' => e = .returned (.bool r) ∧ Below w.heap.size w w' := by
 have hu33 := Try.underlying33
 have HR0 := aM hr0
 have HC0 := aM hc0
 clear hr0 hc0
 have HB := aM (Below.refl w.heap.size w)
 have H : (if (l0.length : Int) > 1048576 then (some true) else ((spec_DrawRunWorms.f k l0).bind fun bt303 => ((impl_RunWorms.f k bt303.1 bt303.2.1 bt303.2.2).bind fun bt308 => ((spec_RunWorms.f k bt303.1 bt303.2.1 bt303.2.2).bind fun bt315 => (if (bt308.2.2.2 != bt315.2.2.2) = true then (laws_FnNoRound.j0 k bt303.1 bt303.2.1 bt303.2.2 bt308.2.2.2 bt315.2.2.2 true bt308.1 bt308.2.1 bt308.2.2.1 bt315.1 bt315.2.1 bt315.2.2.1) else (if bt308.2.1 = bt315.2.1 then (if (bt308.2.2.1 != bt315.2.2.1) = true then (laws_FnNoRound.j0 k bt303.1 bt303.2.1 bt303.2.2 bt308.2.2.2 bt315.2.2.2 true bt308.1 bt308.2.1 bt308.2.2.1 bt315.1 bt315.2.1 bt315.2.2.1) else (if (bt308.1.length : Int) = (bt315.1.length : Int) then (laws_FnNoRound.j0 k bt303.1 bt303.2.1 bt303.2.2 bt308.2.2.2 bt315.2.2.2 (!bt308.2.2.2) bt308.1 bt308.2.1 bt308.2.2.1 bt315.1 bt315.2.1 bt315.2.2.1) else (laws_FnNoRound.j0 k bt303.1 bt303.2.1 bt303.2.2 bt308.2.2.2 bt315.2.2.2 true bt308.1 bt308.2.1 bt308.2.2.1 bt315.1 bt315.2.1 bt315.2.2.1))) else (laws_FnNoRound.j0 k bt303.1 bt303.2.1 bt303.2.2 bt308.2.2.2 bt315.2.2.2 true bt308.1 bt308.2.1 bt308.2.2.1 bt315.1 bt315.2.1 bt315.2.2.1))))))) = some r := h
 clear h
 by_cases c2 : (l0.length : Int) > 1048576
 ·
  rw [if_pos c2] at H
  have c2b0 : decide (1048576 < (l0.length : Int)) = true := decide_eq_true c2
  have c2b1 : decide (1048576 < l0.length) = true := decide_eq_true (by omega)
  clear c2
  obtain rfl := Option.some.inj H
  go_enter Try.func4, Try.ntmps4
  go_wp2
  go_ret
  exact ⟨by first | rfl | (simp [*] <;> rfl) | (exfalso; simp_all; done), by repeat (first | (with_reducible first | exact HB.out | apply below_alloc | apply bN | apply bD) | exact HB.out)⟩
 ·
  rw [if_neg c2] at H
  have c2b0 : decide (1048576 < (l0.length : Int)) = false := decide_eq_false c2
  have c2b1 : decide (1048576 < l0.length) = false := decide_eq_false (by omega)
  clear c2
  replace H := bE H
  obtain ⟨⟨t303, t304, t305⟩, A30, H⟩ := H
  replace H : ((impl_RunWorms.f k t303 t304 t305).bind fun bt308 => ((spec_RunWorms.f k t303 t304 t305).bind fun bt315 => (if (bt308.2.2.2 != bt315.2.2.2) = true then (laws_FnNoRound.j0 k t303 t304 t305 bt308.2.2.2 bt315.2.2.2 true bt308.1 bt308.2.1 bt308.2.2.1 bt315.1 bt315.2.1 bt315.2.2.1) else (if bt308.2.1 = bt315.2.1 then (if (bt308.2.2.1 != bt315.2.2.1) = true then (laws_FnNoRound.j0 k t303 t304 t305 bt308.2.2.2 bt315.2.2.2 true bt308.1 bt308.2.1 bt308.2.2.1 bt315.1 bt315.2.1 bt315.2.2.1) else (if (bt308.1.length : Int) = (bt315.1.length : Int) then (laws_FnNoRound.j0 k t303 t304 t305 bt308.2.2.2 bt315.2.2.2 (!bt308.2.2.2) bt308.1 bt308.2.1 bt308.2.2.1 bt315.1 bt315.2.1 bt315.2.2.1) else (laws_FnNoRound.j0 k t303 t304 t305 bt308.2.2.2 bt315.2.2.2 true bt308.1 bt308.2.1 bt308.2.2.1 bt315.1 bt315.2.1 bt315.2.2.1))) else (laws_FnNoRound.j0 k t303 t304 t305 bt308.2.2.2 bt315.2.2.2 true bt308.1 bt308.2.1 bt308.2.2.1 bt315.1 bt315.2.1 bt315.2.2.1))))) = some r := H
  have A3 := aM A30
  clear A30
  replace H := bE H
  obtain ⟨⟨t308, t311, t312, t313⟩, A40, H⟩ := H
  replace H : ((spec_RunWorms.f k t303 t304 t305).bind fun bt315 => (if (t313 != bt315.2.2.2) = true then (laws_FnNoRound.j0 k t303 t304 t305 t313 bt315.2.2.2 true t308 t311 t312 bt315.1 bt315.2.1 bt315.2.2.1) else (if t311 = bt315.2.1 then (if (t312 != bt315.2.2.1) = true then (laws_FnNoRound.j0 k t303 t304 t305 t313 bt315.2.2.2 true t308 t311 t312 bt315.1 bt315.2.1 bt315.2.2.1) else (if (t308.length : Int) = (bt315.1.length : Int) then (laws_FnNoRound.j0 k t303 t304 t305 t313 bt315.2.2.2 (!t313) t308 t311 t312 bt315.1 bt315.2.1 bt315.2.2.1) else (laws_FnNoRound.j0 k t303 t304 t305 t313 bt315.2.2.2 true t308 t311 t312 bt315.1 bt315.2.1 bt315.2.2.1))) else (laws_FnNoRound.j0 k t303 t304 t305 t313 bt315.2.2.2 true t308 t311 t312 bt315.1 bt315.2.1 bt315.2.2.1)))) = some r := H
  have A4 := aM A40
  clear A40
  replace H := bE H
  obtain ⟨⟨t315, t318, t319, t320⟩, A50, H⟩ := H
  replace H : (if (t313 != t320) = true then (laws_FnNoRound.j0 k t303 t304 t305 t313 t320 true t308 t311 t312 t315 t318 t319) else (if t311 = t318 then (if (t312 != t319) = true then (laws_FnNoRound.j0 k t303 t304 t305 t313 t320 true t308 t311 t312 t315 t318 t319) else (if (t308.length : Int) = (t315.length : Int) then (laws_FnNoRound.j0 k t303 t304 t305 t313 t320 (!t313) t308 t311 t312 t315 t318 t319) else (laws_FnNoRound.j0 k t303 t304 t305 t313 t320 true t308 t311 t312 t315 t318 t319))) else (laws_FnNoRound.j0 k t303 t304 t305 t313 t320 true t308 t311 t312 t315 t318 t319))) = some r := H
  have A5 := aM A50
  clear A50
  have HC6 := aM H
  clear H
  go_enter Try.func4, Try.ntmps4
  go_upto_region 6 with (first | ((with_reducible refine gate_callee (f := 15) rfl ?_); refine goesL_ (some 18) rfl rfl Try.func15 (by kernel_rfl) rfl #[.slice A0 l0.length c0] rfl (by (try simp only [mA, mB, mC]); first | done | rfl | (simp only [mE, mD]; rfl)) ?_; (with_reducible refine (spec_DrawRunWorms.calls k _ _ l0 t303 t304 t305 _ ?side1 ?side2 A3.out).mono ?_); (case side1 => repeat (first | exact HR0.out | (with_reducible refine Kd.C_alloc ?_ _) | (with_reducible refine Kd.C_drewN ?_ _) | (with_reducible refine Kd.C_drew ?_))); (case side2 => exact HC0.out); rintro e w7 ⟨v306, rfl, ho0, hb⟩; refine ⟨_, rfl, ?_⟩; have n0_ := aM (Kd.S_lower ho0 (below_size (by repeat (first | (with_reducible first | exact HB.out | apply below_alloc | apply bN | apply bD) | exact HB.out)))); have n1_ := aM (below_step (by repeat (first | (with_reducible first | exact HB.out | apply below_alloc | apply bN | apply bD) | exact HB.out)) hb); clear HB; have HO307 := n0_; have HB := n1_; clear n0_ n1_; (try clear hb); (try clear hb2); (try clear hk); (try clear hi); (try clear ho0); obtain ⟨Ao8, co8, eo8⟩ := Kd.S_slice HO307.out; subst eo8) | ((with_reducible refine gate_callee (f := 16) rfl ?_); refine goesL_ (some 26) rfl rfl Try.func16 (by kernel_rfl) rfl #[.int .i64 t303, .int .i64 t304, .slice Ao8 t305.length co8] rfl (by (try simp only [mA, mB, mC]); first | done | rfl | (simp only [mE, mD]; rfl)) ?_; (with_reducible refine (impl_RunWorms.calls k t303 t304 _ _ t305 t308 t311 t312 t313 _ ?side1 ?side2 A4.out).mono ?_); (case side1 => repeat (first | exact (Kd.S_reads' HO307.out).2.2 | (with_reducible refine Kd.C_alloc ?_ _) | (with_reducible refine Kd.C_drewN ?_ _) | (with_reducible refine Kd.C_drew ?_))); (case side2 => exact (Kd.S_reads' HO307.out).2.1); rintro e w9 ⟨v309, rfl, ho0, hb⟩; refine ⟨_, rfl, ?_⟩; have n0_ := aM (Kd.S_below (by (with_reducible repeat (first | apply Kd.S_alloc | apply Kd.S_drewN | apply Kd.S_drew)); exact HO307.out) hb); have n1_ := aM (Kd.R_lower ho0 (below_size (by repeat (first | (with_reducible first | exact HB.out | apply below_alloc | apply bN | apply bD) | exact HB.out)))); have n2_ := aM (below_step (by repeat (first | (with_reducible first | exact HB.out | apply below_alloc | apply bN | apply bD) | exact HB.out)) hb); clear HO307; clear HB; have HO307 := n0_; have HO310 := n1_; have HB := n2_; clear n0_ n1_ n2_; (try clear hb); (try clear hb2); (try clear hk); (try clear hi); (try clear ho0)) | ((with_reducible refine gate_dst (N := 6) rfl ?_); (try (refine gate_guard (by rfl) ?_; dsimp only)); refine box_event ?hg (N := 6) ?hd (cs := #[.slice none 0 0, .int .i64 0, .bool false]) (t := 33) ?hr ?_; (case hd => rfl); (case hg => rfl); (case hr => first | (go_simp; done) | (go_simp; rfl)); intro gb314 hg w10 hbox hb; have n0_ := aM (Kd.S_below (by (with_reducible repeat (first | apply Kd.S_alloc | apply Kd.S_drewN | apply Kd.S_drew)); exact HO307.out) hb); have n1_ := aM (Kd.R_below (by (with_reducible repeat (first | apply Kd.R_alloc | apply Kd.R_drewN | apply Kd.R_drew)); exact HO310.out) hb); have n2_ := aM (below_step (by repeat (first | (with_reducible first | exact HB.out | apply below_alloc | apply bN | apply bD) | exact HB.out)) hb); have n3_ := aM (hbox); have n4_ := aM ((by rw [hg]; exact (below_size (by repeat (first | (with_reducible first | exact HB.out | apply below_alloc | apply bN | apply bD) | exact HB.out))) : w.heap.size ≤ gb314)); have n5_ := aM ((by rw [hg]; exact (below_size (by repeat (first | (with_reducible first | exact HB.out | apply below_alloc | apply bN | apply bD) | exact HB.out))) : w.heap.size ≤ gb314)); clear HO307; clear HO310; clear HB; have HO307 := n0_; have HO310 := n1_; have HB := n2_; have BK314 := n3_; have GW314 := n4_; have GE314 := n5_; clear n0_ n1_ n2_ n3_ n4_ n5_; clear hb hbox hg; obtain ⟨Ao11, co11, eo11⟩ := Kd.R_slice HO310.out; subst eo11; have hcz12_0 : w10.cell? ⟨gb314, 0, none⟩ = some (.slice none 0 0) := (blk_cell BK314.out 0).trans rfl; have hcz12_1 : w10.cell? ⟨gb314, 1, none⟩ = some (.int .i64 0) := (blk_cell BK314.out 1).trans rfl; have hcz12_2 : w10.cell? ⟨gb314, 2, none⟩ = some (.bool false) := (blk_cell BK314.out 2).trans rfl; have hfz12_0 := blk_frozen BK314.out 0; have hfz12_1 := blk_frozen BK314.out 1; have hfz12_2 := blk_frozen BK314.out 2) | ((with_reducible refine gate_callee (f := 17) rfl ?_); refine goesL_ (some 33) rfl rfl Try.func17 (by kernel_rfl) rfl #[.int .i64 t303, .int .i64 t304, .slice Ao8 t305.length co8] rfl (by (try simp only [mA, mB, mC]); first | done | rfl | (simp only [mE, mD]; rfl)) ?_; (with_reducible refine (spec_RunWorms.calls k t303 t304 _ _ t305 t315 t318 t319 t320 _ ?side1 ?side2 A5.out).mono ?_); (case side1 => refine (Kd.S_reads' (e := 28) (base := w.heap.size) (ok := fun k_ => True) (n := t305.length) (c := co8) ?_).2.2; exact (by (with_reducible repeat (first | apply Kd.S_alloc | apply Kd.S_drewN | apply Kd.S_drew)); exact (Kd.S_mono (Kd.S_far (p := ⟨gb314, 2, none⟩) (Kd.S_far (p := ⟨gb314, 1, none⟩) (Kd.S_far (p := ⟨gb314, 0, none⟩) (Kd.S_types HO307.out BK314.out (by decide)) (fun _ hk => hk.2) (.slice Ao11 t308.length co11)) (fun _ hk => hk.2) (.int .i64 t311)) (fun _ hk => hk.2) (.bool t312)) (fun _ h_ => h_.1)))); (case side2 => exact (Kd.S_reads' HO307.out).2.1); rintro e w13 ⟨v316, rfl, ho0, hb⟩; refine ⟨_, rfl, ?_⟩; have n0_ := aM (Kd.S_below (by (with_reducible repeat (first | apply Kd.S_alloc | apply Kd.S_drewN | apply Kd.S_drew)); exact (Kd.S_mono (Kd.S_far (p := ⟨gb314, 2, none⟩) (Kd.S_far (p := ⟨gb314, 1, none⟩) (Kd.S_far (p := ⟨gb314, 0, none⟩) (Kd.S_types HO307.out BK314.out (by decide)) (fun _ hk => hk.2) (.slice Ao11 t308.length co11)) (fun _ hk => hk.2) (.int .i64 t311)) (fun _ hk => hk.2) (.bool t312)) (fun _ h_ => h_.1))) hb); have n1_ := aM (Kd.R_elder' (by (with_reducible repeat (first | apply Kd.R_alloc | apply Kd.R_drewN | apply Kd.R_drew)); exact (Kd.R_mono (Kd.R_far (p := ⟨gb314, 2, none⟩) (Kd.R_far (p := ⟨gb314, 1, none⟩) (Kd.R_far (p := ⟨gb314, 0, none⟩) (Kd.R_types HO310.out BK314.out (by decide)) (fun _ hk => hk.2) (.slice Ao11 t308.length co11)) (fun _ hk => hk.2) (.int .i64 t311)) (fun _ hk => hk.2) (.bool t312)) (fun _ h_ => h_.1))) (Kd.R_base ho0) hb); have n2_ := aM (Kd.R_lower (Kd.R_new' ho0 (Kd.R_lt (by (with_reducible repeat (first | apply Kd.R_alloc | apply Kd.R_drewN | apply Kd.R_drew)); exact (Kd.R_mono (Kd.R_far (p := ⟨gb314, 2, none⟩) (Kd.R_far (p := ⟨gb314, 1, none⟩) (Kd.R_far (p := ⟨gb314, 0, none⟩) (Kd.R_types HO310.out BK314.out (by decide)) (fun _ hk => hk.2) (.slice Ao11 t308.length co11)) (fun _ hk => hk.2) (.int .i64 t311)) (fun _ hk => hk.2) (.bool t312)) (fun _ h_ => h_.1))))) (below_size (by repeat (first | (with_reducible first | exact HB.out | apply below_alloc | apply bN | apply bD | refine below_set ?_ GE314.out) | exact HB.out)))); have n3_ := aM (blk_below (g := gb314) (o := .cells #[.slice Ao11 t308.length co11, .int .i64 t311, .bool t312] 33 (0, 0)) (by (with_reducible repeat (first | refine blk_drewN ?_ _ | refine blk_drew ?_ | refine blk_alloc ?_ _)); refine blk_put (cs := #[.slice Ao11 t308.length co11, .int .i64 t311, .bool false]) ?_ 2 _ rfl; (with_reducible repeat (first | refine blk_drewN ?_ _ | refine blk_drew ?_ | refine blk_alloc ?_ _)); refine blk_put (cs := #[.slice Ao11 t308.length co11, .int .i64 0, .bool false]) ?_ 1 _ rfl; (with_reducible repeat (first | refine blk_drewN ?_ _ | refine blk_drew ?_ | refine blk_alloc ?_ _)); refine blk_put (cs := #[.slice none 0 0, .int .i64 0, .bool false]) ?_ 0 _ rfl; (with_reducible repeat (first | refine blk_drewN ?_ _ | refine blk_drew ?_ | refine blk_alloc ?_ _)); exact BK314.out) hb); have n4_ := aM (below_step (by repeat (first | (with_reducible first | exact HB.out | apply below_alloc | apply bN | apply bD | refine below_set ?_ GE314.out) | exact HB.out)) hb); clear HO307; clear HO310; clear BK314; clear HB; have HO307 := n0_; have HO310 := n1_; have HO317 := n2_; have BK314 := n3_; have HB := n4_; clear n0_ n1_ n2_ n3_ n4_; (try clear hb); (try clear hb2); (try clear hk); (try clear hi); (try clear ho0)) | ((with_reducible refine gate_dst (N := 8) rfl ?_); (try (refine gate_guard (by rfl) ?_; dsimp only)); refine box_event ?hg (N := 8) ?hd (cs := #[.slice none 0 0, .int .i64 0, .bool false]) (t := 33) ?hr ?_; (case hd => rfl); (case hg => rfl); (case hr => first | (go_simp; done) | (go_simp; rfl)); intro gb321 hg w14 hbox hb; have n0_ := aM (Kd.S_below (by (with_reducible repeat (first | apply Kd.S_alloc | apply Kd.S_drewN | apply Kd.S_drew)); exact HO307.out) hb); have n1_ := aM (Kd.R_below (by (with_reducible repeat (first | apply Kd.R_alloc | apply Kd.R_drewN | apply Kd.R_drew)); exact HO310.out) hb); have n2_ := aM (Kd.R_below (by (with_reducible repeat (first | apply Kd.R_alloc | apply Kd.R_drewN | apply Kd.R_drew)); exact HO317.out) hb); have n3_ := aM (blk_below (g := gb314) (o := .cells #[.slice Ao11 t308.length co11, .int .i64 t311, .bool t312] 33 (0, 0)) (by (with_reducible repeat (first | refine blk_drewN ?_ _ | refine blk_drew ?_ | refine blk_alloc ?_ _)); exact BK314.out) hb); have n4_ := aM (below_step (by repeat (first | (with_reducible first | exact HB.out | apply below_alloc | apply bN | apply bD | refine below_set ?_ GE314.out) | exact HB.out)) hb); have n5_ := aM (hbox); have n6_ := aM ((by rw [hg]; exact (below_size (by repeat (first | (with_reducible first | exact HB.out | apply below_alloc | apply bN | apply bD | refine below_set ?_ GE314.out) | exact HB.out))) : w.heap.size ≤ gb321)); have n7_ := aM ((by rw [hg]; exact (below_size (by repeat (first | (with_reducible first | exact HB.out | apply below_alloc | apply bN | apply bD | refine below_set ?_ GE314.out) | exact HB.out))) : w.heap.size ≤ gb321)); have n8_ := aM ((by rw [hg]; exact Nat.ne_of_lt (blk_lt (g := gb314) (o := .cells #[.slice Ao11 t308.length co11, .int .i64 t311, .bool t312] 33 (0, 0)) (by (with_reducible repeat (first | refine blk_drewN ?_ _ | refine blk_drew ?_ | refine blk_alloc ?_ _)); exact BK314.out)) : gb314 ≠ gb321)); have n9_ := aM ((by rw [hg]; exact Nat.ne_of_gt (blk_lt (g := gb314) (o := .cells #[.slice Ao11 t308.length co11, .int .i64 t311, .bool t312] 33 (0, 0)) (by (with_reducible repeat (first | refine blk_drewN ?_ _ | refine blk_drew ?_ | refine blk_alloc ?_ _)); exact BK314.out)) : gb321 ≠ gb314)); clear HO307; clear HO310; clear HO317; clear BK314; clear HB; have HO307 := n0_; have HO310 := n1_; have HO317 := n2_; have BK314 := n3_; have HB := n4_; have BK321 := n5_; have GW321 := n6_; have GE321 := n7_; have NB314_321 := n8_; have NB321_314 := n9_; clear n0_ n1_ n2_ n3_ n4_ n5_ n6_ n7_ n8_ n9_; clear hb hbox hg; obtain ⟨Ao15, co15, eo15⟩ := Kd.R_slice HO317.out; subst eo15; have hnb16 := NB321_314.out; have hnc16 := NB314_321.out; have hcz17_0 : w14.cell? ⟨gb321, 0, none⟩ = some (.slice none 0 0) := (blk_cell BK321.out 0).trans rfl; have hcz17_1 : w14.cell? ⟨gb321, 1, none⟩ = some (.int .i64 0) := (blk_cell BK321.out 1).trans rfl; have hcz17_2 : w14.cell? ⟨gb321, 2, none⟩ = some (.bool false) := (blk_cell BK321.out 2).trans rfl; have hfz17_0 := blk_frozen BK321.out 0; have hfz17_1 := blk_frozen BK321.out 1; have hfz17_2 := blk_frozen BK321.out 2))
  (try simp only [Act.put, sA, sB, sC])
  go_cut [65] (fun v65 wc => ∃ (kq : Nat) (x65_5 : Bool), v65 = .bool x65_5 ∧ Aside0 (laws_FnNoRound.j0 kq t303 t304 t305 t313 t320 x65_5 t308 t311 t312 t315 t318 t319 = some r) ∧ Aside0 (kq ≤ k) ∧ Aside0 (Kd.S (Kd.slice 3 (Kd.int .i64)) 28 wc w.heap.size (fun _ => True) (.slice Ao8 t305.length co8) t305) ∧ Aside0 (Kd.R Kd.bool 4 wc w.heap.size (fun k_ => some k_ ≠ ((.slice Ao15 t315.length co15) : Value).ownBlock) (.slice Ao11 t308.length co11) t308) ∧ Aside0 (Kd.R Kd.bool 4 wc w.heap.size (fun k_ => some k_ ≠ ((.slice Ao11 t308.length co11) : Value).ownBlock) (.slice Ao15 t315.length co15) t315) ∧ Aside0 (wc.heap[gb314]? = some (.cells #[(.slice Ao11 t308.length co11), .int .i64 t311, .bool t312] 33 (0, 0))) ∧ Aside0 (wc.heap[gb321]? = some (.cells #[(.slice Ao15 t315.length co15), .int .i64 t318, .bool t319] 33 (0, 0))) ∧ Aside0 (Below w.heap.size w wc))
  case first =>
   have H := HC6.out
   clear HC6
   by_cases c18 : (t313 != t320) = true
   ·
    rw [if_pos c18] at H
    have c18b0 : (t313 != t320) = true := c18
    (try (have c18b1 : decide (t313 = t320) = false := by simpa using c18))
    (try (have c18b2 : (t313 == t320) = false := by simpa using c18))
    (try (have c18b3 : ¬ (t313 = t320) := by simpa using c18))
    clear c18
    (first | rw [c18b0] | (simp only [i64_w, i32_w]; rw [c18b0]) | skip)
    have H' := aM H
    clear H
    go_wp2
    go_meet
    case rel => exact ⟨_, (true), (by first | rfl | (simp; done) | (simp [*]; done)), H', ⟨by first | omega | exact Nat.le_refl _⟩, ⟨by (with_reducible repeat (first | apply Kd.S_alloc | apply Kd.S_drewN | apply Kd.S_drew)); exact Kd.S_mono (Kd.S_far (p := ⟨gb321, 2, none⟩) (Kd.S_far (p := ⟨gb321, 1, none⟩) (Kd.S_far (p := ⟨gb321, 0, none⟩) (Kd.S_types HO307.out BK321.out (by decide)) (fun _ hk => hk.2) (.slice Ao15 t315.length co15)) (fun _ hk => hk.2) (.int .i64 t318)) (fun _ hk => hk.2) (.bool t319)) (fun _ hk => trivial)⟩, ⟨by (with_reducible repeat (first | apply Kd.R_alloc | apply Kd.R_drewN | apply Kd.R_drew)); exact Kd.R_mono (Kd.R_far (p := ⟨gb321, 2, none⟩) (Kd.R_far (p := ⟨gb321, 1, none⟩) (Kd.R_far (p := ⟨gb321, 0, none⟩) (Kd.R_types HO310.out BK321.out (by decide)) (fun _ hk => hk.2) (.slice Ao15 t315.length co15)) (fun _ hk => hk.2) (.int .i64 t318)) (fun _ hk => hk.2) (.bool t319)) (fun _ hk => hk.1.2)⟩, ⟨by (with_reducible repeat (first | apply Kd.R_alloc | apply Kd.R_drewN | apply Kd.R_drew)); exact Kd.R_mono (Kd.R_far (p := ⟨gb321, 2, none⟩) (Kd.R_far (p := ⟨gb321, 1, none⟩) (Kd.R_far (p := ⟨gb321, 0, none⟩) (Kd.R_types HO317.out BK321.out (by decide)) (fun _ hk => hk.2) (.slice Ao15 t315.length co15)) (fun _ hk => hk.2) (.int .i64 t318)) (fun _ hk => hk.2) (.bool t319)) (fun _ hk => hk.1.2)⟩, ⟨by (with_reducible repeat (first | refine blk_drewN ?_ _ | refine blk_drew ?_ | refine blk_alloc ?_ _)); refine blk_far ?_ NB314_321.out _; (with_reducible repeat (first | refine blk_drewN ?_ _ | refine blk_drew ?_ | refine blk_alloc ?_ _)); refine blk_far ?_ NB314_321.out _; (with_reducible repeat (first | refine blk_drewN ?_ _ | refine blk_drew ?_ | refine blk_alloc ?_ _)); refine blk_far ?_ NB314_321.out _; (with_reducible repeat (first | refine blk_drewN ?_ _ | refine blk_drew ?_ | refine blk_alloc ?_ _)); exact BK314.out⟩, ⟨by (with_reducible repeat (first | refine blk_drewN ?_ _ | refine blk_drew ?_ | refine blk_alloc ?_ _)); refine blk_put (cs := #[.slice Ao15 t315.length co15, .int .i64 t318, .bool false]) ?_ 2 _ rfl; (with_reducible repeat (first | refine blk_drewN ?_ _ | refine blk_drew ?_ | refine blk_alloc ?_ _)); refine blk_put (cs := #[.slice Ao15 t315.length co15, .int .i64 0, .bool false]) ?_ 1 _ rfl; (with_reducible repeat (first | refine blk_drewN ?_ _ | refine blk_drew ?_ | refine blk_alloc ?_ _)); refine blk_put (cs := #[.slice none 0 0, .int .i64 0, .bool false]) ?_ 0 _ rfl; (with_reducible repeat (first | refine blk_drewN ?_ _ | refine blk_drew ?_ | refine blk_alloc ?_ _)); exact BK321.out⟩, ⟨by repeat (first | (with_reducible first | exact HB.out | apply below_alloc | apply bN | apply bD | refine below_set ?_ GE314.out | refine below_set ?_ GE321.out) | exact HB.out)⟩⟩
   ·
    rw [if_neg c18] at H
    have c18b0 : (t313 != t320) = false := by simpa using c18
    (try (have c18b1 : decide (t313 = t320) = true := by simpa using c18))
    (try (have c18b2 : (t313 == t320) = true := by simpa using c18))
    clear c18
    (first | rw [c18b0] | (simp only [i64_w, i32_w]; rw [c18b0]) | skip)
    by_cases c19 : t311 = t318
    ·
     rw [if_pos c19] at H
     have c19b0 : (t311 == t318) = true := beq_iff_eq.mpr c19
     have c19b1 : (t311 != t318) = false := bne_eq_false_iff_eq.mpr c19
     clear c19
     by_cases c20 : (t312 != t319) = true
     ·
      rw [if_pos c20] at H
      have c20b0 : (t312 != t319) = true := c20
      (try (have c20b1 : decide (t312 = t319) = false := by simpa using c20))
      (try (have c20b2 : (t312 == t319) = false := by simpa using c20))
      (try (have c20b3 : ¬ (t312 = t319) := by simpa using c20))
      clear c20
      have H' := aM H
      clear H
      have hnb21 := NB314_321.out
      have hnc21 := NB321_314.out
      have hcz22_0 : w14.cell? ⟨gb314, 0, none⟩ = some (.slice Ao11 t308.length co11) := (blk_cell BK314.out 0).trans rfl
      have hcz22_1 : w14.cell? ⟨gb314, 1, none⟩ = some (.int .i64 t311) := (blk_cell BK314.out 1).trans rfl
      have hcz22_2 : w14.cell? ⟨gb314, 2, none⟩ = some (.bool t312) := (blk_cell BK314.out 2).trans rfl
      have hfz22_0 := blk_frozen BK314.out 0
      have hfz22_1 := blk_frozen BK314.out 1
      have hfz22_2 := blk_frozen BK314.out 2
      have hcz23_0 : w14.cell? ⟨gb321, 0, none⟩ = some (.slice none 0 0) := (blk_cell BK321.out 0).trans rfl
      have hcz23_1 : w14.cell? ⟨gb321, 1, none⟩ = some (.int .i64 0) := (blk_cell BK321.out 1).trans rfl
      have hcz23_2 : w14.cell? ⟨gb321, 2, none⟩ = some (.bool false) := (blk_cell BK321.out 2).trans rfl
      have hfz23_0 := blk_frozen BK321.out 0
      have hfz23_1 := blk_frozen BK321.out 1
      have hfz23_2 := blk_frozen BK321.out 2
      go_wp2
      go_meet
      case rel => exact ⟨_, (true), (by first | rfl | (simp; done) | (simp [*]; done)), H', ⟨by first | omega | exact Nat.le_refl _⟩, ⟨by (with_reducible repeat (first | apply Kd.S_alloc | apply Kd.S_drewN | apply Kd.S_drew)); exact Kd.S_mono (Kd.S_far (p := ⟨gb321, 2, none⟩) (Kd.S_far (p := ⟨gb321, 1, none⟩) (Kd.S_far (p := ⟨gb321, 0, none⟩) (Kd.S_types HO307.out BK321.out (by decide)) (fun _ hk => hk.2) (.slice Ao15 t315.length co15)) (fun _ hk => hk.2) (.int .i64 t318)) (fun _ hk => hk.2) (.bool t319)) (fun _ hk => trivial)⟩, ⟨by (with_reducible repeat (first | apply Kd.R_alloc | apply Kd.R_drewN | apply Kd.R_drew)); exact Kd.R_mono (Kd.R_far (p := ⟨gb321, 2, none⟩) (Kd.R_far (p := ⟨gb321, 1, none⟩) (Kd.R_far (p := ⟨gb321, 0, none⟩) (Kd.R_types HO310.out BK321.out (by decide)) (fun _ hk => hk.2) (.slice Ao15 t315.length co15)) (fun _ hk => hk.2) (.int .i64 t318)) (fun _ hk => hk.2) (.bool t319)) (fun _ hk => hk.1.2)⟩, ⟨by (with_reducible repeat (first | apply Kd.R_alloc | apply Kd.R_drewN | apply Kd.R_drew)); exact Kd.R_mono (Kd.R_far (p := ⟨gb321, 2, none⟩) (Kd.R_far (p := ⟨gb321, 1, none⟩) (Kd.R_far (p := ⟨gb321, 0, none⟩) (Kd.R_types HO317.out BK321.out (by decide)) (fun _ hk => hk.2) (.slice Ao15 t315.length co15)) (fun _ hk => hk.2) (.int .i64 t318)) (fun _ hk => hk.2) (.bool t319)) (fun _ hk => hk.1.2)⟩, ⟨by (with_reducible repeat (first | refine blk_drewN ?_ _ | refine blk_drew ?_ | refine blk_alloc ?_ _)); refine blk_far ?_ NB314_321.out _; (with_reducible repeat (first | refine blk_drewN ?_ _ | refine blk_drew ?_ | refine blk_alloc ?_ _)); refine blk_far ?_ NB314_321.out _; (with_reducible repeat (first | refine blk_drewN ?_ _ | refine blk_drew ?_ | refine blk_alloc ?_ _)); refine blk_far ?_ NB314_321.out _; (with_reducible repeat (first | refine blk_drewN ?_ _ | refine blk_drew ?_ | refine blk_alloc ?_ _)); exact BK314.out⟩, ⟨by (with_reducible repeat (first | refine blk_drewN ?_ _ | refine blk_drew ?_ | refine blk_alloc ?_ _)); refine blk_put (cs := #[.slice Ao15 t315.length co15, .int .i64 t318, .bool false]) ?_ 2 _ rfl; (with_reducible repeat (first | refine blk_drewN ?_ _ | refine blk_drew ?_ | refine blk_alloc ?_ _)); refine blk_put (cs := #[.slice Ao15 t315.length co15, .int .i64 0, .bool false]) ?_ 1 _ rfl; (with_reducible repeat (first | refine blk_drewN ?_ _ | refine blk_drew ?_ | refine blk_alloc ?_ _)); refine blk_put (cs := #[.slice none 0 0, .int .i64 0, .bool false]) ?_ 0 _ rfl; (with_reducible repeat (first | refine blk_drewN ?_ _ | refine blk_drew ?_ | refine blk_alloc ?_ _)); exact BK321.out⟩, ⟨by repeat (first | (with_reducible first | exact HB.out | apply below_alloc | apply bN | apply bD | refine below_set ?_ GE314.out | refine below_set ?_ GE321.out) | exact HB.out)⟩⟩
     ·
      rw [if_neg c20] at H
      have c20b0 : (t312 != t319) = false := by simpa using c20
      (try (have c20b1 : decide (t312 = t319) = true := by simpa using c20))
      (try (have c20b2 : (t312 == t319) = true := by simpa using c20))
      clear c20
      by_cases c24 : (t308.length : Int) = (t315.length : Int)
      ·
       rw [if_pos c24] at H
       have c24b0 : ((t308.length : Int) == (t315.length : Int)) = true := beq_iff_eq.mpr c24
       have c24b1 : ((t308.length : Int) != (t315.length : Int)) = false := bne_eq_false_iff_eq.mpr c24
       have c24b2 : (t308.length == t315.length) = true := by first | simpa using c24 | (simp at c24 ⊢; omega)
       clear c24
       have H' := aM H
       clear H
       have hnb25 := NB314_321.out
       have hnc25 := NB321_314.out
       have hcz26_0 : w14.cell? ⟨gb314, 0, none⟩ = some (.slice Ao11 t308.length co11) := (blk_cell BK314.out 0).trans rfl
       have hcz26_1 : w14.cell? ⟨gb314, 1, none⟩ = some (.int .i64 t311) := (blk_cell BK314.out 1).trans rfl
       have hcz26_2 : w14.cell? ⟨gb314, 2, none⟩ = some (.bool t312) := (blk_cell BK314.out 2).trans rfl
       have hfz26_0 := blk_frozen BK314.out 0
       have hfz26_1 := blk_frozen BK314.out 1
       have hfz26_2 := blk_frozen BK314.out 2
       have hcz27_0 : w14.cell? ⟨gb321, 0, none⟩ = some (.slice none 0 0) := (blk_cell BK321.out 0).trans rfl
       have hcz27_1 : w14.cell? ⟨gb321, 1, none⟩ = some (.int .i64 0) := (blk_cell BK321.out 1).trans rfl
       have hcz27_2 : w14.cell? ⟨gb321, 2, none⟩ = some (.bool false) := (blk_cell BK321.out 2).trans rfl
       have hfz27_0 := blk_frozen BK321.out 0
       have hfz27_1 := blk_frozen BK321.out 1
       have hfz27_2 := blk_frozen BK321.out 2
       go_wp2
       go_meet
       case rel => exact ⟨_, (!t313), (by first | rfl | (simp; done) | (simp [*]; done)), H', ⟨by first | omega | exact Nat.le_refl _⟩, ⟨by (with_reducible repeat (first | apply Kd.S_alloc | apply Kd.S_drewN | apply Kd.S_drew)); exact Kd.S_mono (Kd.S_far (p := ⟨gb321, 2, none⟩) (Kd.S_far (p := ⟨gb321, 1, none⟩) (Kd.S_far (p := ⟨gb321, 0, none⟩) (Kd.S_types HO307.out BK321.out (by decide)) (fun _ hk => hk.2) (.slice Ao15 t315.length co15)) (fun _ hk => hk.2) (.int .i64 t318)) (fun _ hk => hk.2) (.bool t319)) (fun _ hk => trivial)⟩, ⟨by (with_reducible repeat (first | apply Kd.R_alloc | apply Kd.R_drewN | apply Kd.R_drew)); exact Kd.R_mono (Kd.R_far (p := ⟨gb321, 2, none⟩) (Kd.R_far (p := ⟨gb321, 1, none⟩) (Kd.R_far (p := ⟨gb321, 0, none⟩) (Kd.R_types HO310.out BK321.out (by decide)) (fun _ hk => hk.2) (.slice Ao15 t315.length co15)) (fun _ hk => hk.2) (.int .i64 t318)) (fun _ hk => hk.2) (.bool t319)) (fun _ hk => hk.1.2)⟩, ⟨by (with_reducible repeat (first | apply Kd.R_alloc | apply Kd.R_drewN | apply Kd.R_drew)); exact Kd.R_mono (Kd.R_far (p := ⟨gb321, 2, none⟩) (Kd.R_far (p := ⟨gb321, 1, none⟩) (Kd.R_far (p := ⟨gb321, 0, none⟩) (Kd.R_types HO317.out BK321.out (by decide)) (fun _ hk => hk.2) (.slice Ao15 t315.length co15)) (fun _ hk => hk.2) (.int .i64 t318)) (fun _ hk => hk.2) (.bool t319)) (fun _ hk => hk.1.2)⟩, ⟨by (with_reducible repeat (first | refine blk_drewN ?_ _ | refine blk_drew ?_ | refine blk_alloc ?_ _)); refine blk_far ?_ NB314_321.out _; (with_reducible repeat (first | refine blk_drewN ?_ _ | refine blk_drew ?_ | refine blk_alloc ?_ _)); refine blk_far ?_ NB314_321.out _; (with_reducible repeat (first | refine blk_drewN ?_ _ | refine blk_drew ?_ | refine blk_alloc ?_ _)); refine blk_far ?_ NB314_321.out _; (with_reducible repeat (first | refine blk_drewN ?_ _ | refine blk_drew ?_ | refine blk_alloc ?_ _)); exact BK314.out⟩, ⟨by (with_reducible repeat (first | refine blk_drewN ?_ _ | refine blk_drew ?_ | refine blk_alloc ?_ _)); refine blk_put (cs := #[.slice Ao15 t315.length co15, .int .i64 t318, .bool false]) ?_ 2 _ rfl; (with_reducible repeat (first | refine blk_drewN ?_ _ | refine blk_drew ?_ | refine blk_alloc ?_ _)); refine blk_put (cs := #[.slice Ao15 t315.length co15, .int .i64 0, .bool false]) ?_ 1 _ rfl; (with_reducible repeat (first | refine blk_drewN ?_ _ | refine blk_drew ?_ | refine blk_alloc ?_ _)); refine blk_put (cs := #[.slice none 0 0, .int .i64 0, .bool false]) ?_ 0 _ rfl; (with_reducible repeat (first | refine blk_drewN ?_ _ | refine blk_drew ?_ | refine blk_alloc ?_ _)); exact BK321.out⟩, ⟨by repeat (first | (with_reducible first | exact HB.out | apply below_alloc | apply bN | apply bD | refine below_set ?_ GE314.out | refine below_set ?_ GE321.out) | exact HB.out)⟩⟩
      ·
       rw [if_neg c24] at H
       have c24b0 : ((t308.length : Int) == (t315.length : Int)) = false := beq_eq_false_iff_ne.mpr c24
       have c24b1 : ((t308.length : Int) != (t315.length : Int)) = true := bne_iff_ne.mpr c24
       have c24b2 : (t308.length == t315.length) = false := by first | simpa using c24 | (simp at c24 ⊢; omega)
       have H' := aM H
       clear H
       have hnb28 := NB314_321.out
       have hnc28 := NB321_314.out
       have hcz29_0 : w14.cell? ⟨gb314, 0, none⟩ = some (.slice Ao11 t308.length co11) := (blk_cell BK314.out 0).trans rfl
       have hcz29_1 : w14.cell? ⟨gb314, 1, none⟩ = some (.int .i64 t311) := (blk_cell BK314.out 1).trans rfl
       have hcz29_2 : w14.cell? ⟨gb314, 2, none⟩ = some (.bool t312) := (blk_cell BK314.out 2).trans rfl
       have hfz29_0 := blk_frozen BK314.out 0
       have hfz29_1 := blk_frozen BK314.out 1
       have hfz29_2 := blk_frozen BK314.out 2
       have hcz30_0 : w14.cell? ⟨gb321, 0, none⟩ = some (.slice none 0 0) := (blk_cell BK321.out 0).trans rfl
       have hcz30_1 : w14.cell? ⟨gb321, 1, none⟩ = some (.int .i64 0) := (blk_cell BK321.out 1).trans rfl
       have hcz30_2 : w14.cell? ⟨gb321, 2, none⟩ = some (.bool false) := (blk_cell BK321.out 2).trans rfl
       have hfz30_0 := blk_frozen BK321.out 0
       have hfz30_1 := blk_frozen BK321.out 1
       have hfz30_2 := blk_frozen BK321.out 2
       go_wp2
       go_meet
       case rel => exact ⟨_, (true), (by first | rfl | (simp; done) | (simp [*]; done)), H', ⟨by first | omega | exact Nat.le_refl _⟩, ⟨by (with_reducible repeat (first | apply Kd.S_alloc | apply Kd.S_drewN | apply Kd.S_drew)); exact Kd.S_mono (Kd.S_far (p := ⟨gb321, 2, none⟩) (Kd.S_far (p := ⟨gb321, 1, none⟩) (Kd.S_far (p := ⟨gb321, 0, none⟩) (Kd.S_types HO307.out BK321.out (by decide)) (fun _ hk => hk.2) (.slice Ao15 t315.length co15)) (fun _ hk => hk.2) (.int .i64 t318)) (fun _ hk => hk.2) (.bool t319)) (fun _ hk => trivial)⟩, ⟨by (with_reducible repeat (first | apply Kd.R_alloc | apply Kd.R_drewN | apply Kd.R_drew)); exact Kd.R_mono (Kd.R_far (p := ⟨gb321, 2, none⟩) (Kd.R_far (p := ⟨gb321, 1, none⟩) (Kd.R_far (p := ⟨gb321, 0, none⟩) (Kd.R_types HO310.out BK321.out (by decide)) (fun _ hk => hk.2) (.slice Ao15 t315.length co15)) (fun _ hk => hk.2) (.int .i64 t318)) (fun _ hk => hk.2) (.bool t319)) (fun _ hk => hk.1.2)⟩, ⟨by (with_reducible repeat (first | apply Kd.R_alloc | apply Kd.R_drewN | apply Kd.R_drew)); exact Kd.R_mono (Kd.R_far (p := ⟨gb321, 2, none⟩) (Kd.R_far (p := ⟨gb321, 1, none⟩) (Kd.R_far (p := ⟨gb321, 0, none⟩) (Kd.R_types HO317.out BK321.out (by decide)) (fun _ hk => hk.2) (.slice Ao15 t315.length co15)) (fun _ hk => hk.2) (.int .i64 t318)) (fun _ hk => hk.2) (.bool t319)) (fun _ hk => hk.1.2)⟩, ⟨by (with_reducible repeat (first | refine blk_drewN ?_ _ | refine blk_drew ?_ | refine blk_alloc ?_ _)); refine blk_far ?_ NB314_321.out _; (with_reducible repeat (first | refine blk_drewN ?_ _ | refine blk_drew ?_ | refine blk_alloc ?_ _)); refine blk_far ?_ NB314_321.out _; (with_reducible repeat (first | refine blk_drewN ?_ _ | refine blk_drew ?_ | refine blk_alloc ?_ _)); refine blk_far ?_ NB314_321.out _; (with_reducible repeat (first | refine blk_drewN ?_ _ | refine blk_drew ?_ | refine blk_alloc ?_ _)); exact BK314.out⟩, ⟨by (with_reducible repeat (first | refine blk_drewN ?_ _ | refine blk_drew ?_ | refine blk_alloc ?_ _)); refine blk_put (cs := #[.slice Ao15 t315.length co15, .int .i64 t318, .bool false]) ?_ 2 _ rfl; (with_reducible repeat (first | refine blk_drewN ?_ _ | refine blk_drew ?_ | refine blk_alloc ?_ _)); refine blk_put (cs := #[.slice Ao15 t315.length co15, .int .i64 0, .bool false]) ?_ 1 _ rfl; (with_reducible repeat (first | refine blk_drewN ?_ _ | refine blk_drew ?_ | refine blk_alloc ?_ _)); refine blk_put (cs := #[.slice none 0 0, .int .i64 0, .bool false]) ?_ 0 _ rfl; (with_reducible repeat (first | refine blk_drewN ?_ _ | refine blk_drew ?_ | refine blk_alloc ?_ _)); exact BK321.out⟩, ⟨by repeat (first | (with_reducible first | exact HB.out | apply below_alloc | apply bN | apply bD | refine below_set ?_ GE314.out | refine below_set ?_ GE321.out) | exact HB.out)⟩⟩
    ·
     rw [if_neg c19] at H
     have c19b0 : (t311 == t318) = false := beq_eq_false_iff_ne.mpr c19
     have c19b1 : (t311 != t318) = true := bne_iff_ne.mpr c19
     have H' := aM H
     clear H
     have hnb31 := NB314_321.out
     have hnc31 := NB321_314.out
     have hcz32_0 : w14.cell? ⟨gb314, 0, none⟩ = some (.slice Ao11 t308.length co11) := (blk_cell BK314.out 0).trans rfl
     have hcz32_1 : w14.cell? ⟨gb314, 1, none⟩ = some (.int .i64 t311) := (blk_cell BK314.out 1).trans rfl
     have hcz32_2 : w14.cell? ⟨gb314, 2, none⟩ = some (.bool t312) := (blk_cell BK314.out 2).trans rfl
     have hfz32_0 := blk_frozen BK314.out 0
     have hfz32_1 := blk_frozen BK314.out 1
     have hfz32_2 := blk_frozen BK314.out 2
     have hcz33_0 : w14.cell? ⟨gb321, 0, none⟩ = some (.slice none 0 0) := (blk_cell BK321.out 0).trans rfl
     have hcz33_1 : w14.cell? ⟨gb321, 1, none⟩ = some (.int .i64 0) := (blk_cell BK321.out 1).trans rfl
     have hcz33_2 : w14.cell? ⟨gb321, 2, none⟩ = some (.bool false) := (blk_cell BK321.out 2).trans rfl
     have hfz33_0 := blk_frozen BK321.out 0
     have hfz33_1 := blk_frozen BK321.out 1
     have hfz33_2 := blk_frozen BK321.out 2
     go_wp2
     go_meet
     case rel => exact ⟨_, (true), (by first | rfl | (simp; done) | (simp [*]; done)), H', ⟨by first | omega | exact Nat.le_refl _⟩, ⟨by (with_reducible repeat (first | apply Kd.S_alloc | apply Kd.S_drewN | apply Kd.S_drew)); exact Kd.S_mono (Kd.S_far (p := ⟨gb321, 2, none⟩) (Kd.S_far (p := ⟨gb321, 1, none⟩) (Kd.S_far (p := ⟨gb321, 0, none⟩) (Kd.S_types HO307.out BK321.out (by decide)) (fun _ hk => hk.2) (.slice Ao15 t315.length co15)) (fun _ hk => hk.2) (.int .i64 t318)) (fun _ hk => hk.2) (.bool t319)) (fun _ hk => trivial)⟩, ⟨by (with_reducible repeat (first | apply Kd.R_alloc | apply Kd.R_drewN | apply Kd.R_drew)); exact Kd.R_mono (Kd.R_far (p := ⟨gb321, 2, none⟩) (Kd.R_far (p := ⟨gb321, 1, none⟩) (Kd.R_far (p := ⟨gb321, 0, none⟩) (Kd.R_types HO310.out BK321.out (by decide)) (fun _ hk => hk.2) (.slice Ao15 t315.length co15)) (fun _ hk => hk.2) (.int .i64 t318)) (fun _ hk => hk.2) (.bool t319)) (fun _ hk => hk.1.2)⟩, ⟨by (with_reducible repeat (first | apply Kd.R_alloc | apply Kd.R_drewN | apply Kd.R_drew)); exact Kd.R_mono (Kd.R_far (p := ⟨gb321, 2, none⟩) (Kd.R_far (p := ⟨gb321, 1, none⟩) (Kd.R_far (p := ⟨gb321, 0, none⟩) (Kd.R_types HO317.out BK321.out (by decide)) (fun _ hk => hk.2) (.slice Ao15 t315.length co15)) (fun _ hk => hk.2) (.int .i64 t318)) (fun _ hk => hk.2) (.bool t319)) (fun _ hk => hk.1.2)⟩, ⟨by (with_reducible repeat (first | refine blk_drewN ?_ _ | refine blk_drew ?_ | refine blk_alloc ?_ _)); refine blk_far ?_ NB314_321.out _; (with_reducible repeat (first | refine blk_drewN ?_ _ | refine blk_drew ?_ | refine blk_alloc ?_ _)); refine blk_far ?_ NB314_321.out _; (with_reducible repeat (first | refine blk_drewN ?_ _ | refine blk_drew ?_ | refine blk_alloc ?_ _)); refine blk_far ?_ NB314_321.out _; (with_reducible repeat (first | refine blk_drewN ?_ _ | refine blk_drew ?_ | refine blk_alloc ?_ _)); exact BK314.out⟩, ⟨by (with_reducible repeat (first | refine blk_drewN ?_ _ | refine blk_drew ?_ | refine blk_alloc ?_ _)); refine blk_put (cs := #[.slice Ao15 t315.length co15, .int .i64 t318, .bool false]) ?_ 2 _ rfl; (with_reducible repeat (first | refine blk_drewN ?_ _ | refine blk_drew ?_ | refine blk_alloc ?_ _)); refine blk_put (cs := #[.slice Ao15 t315.length co15, .int .i64 0, .bool false]) ?_ 1 _ rfl; (with_reducible repeat (first | refine blk_drewN ?_ _ | refine blk_drew ?_ | refine blk_alloc ?_ _)); refine blk_put (cs := #[.slice none 0 0, .int .i64 0, .bool false]) ?_ 0 _ rfl; (with_reducible repeat (first | refine blk_drewN ?_ _ | refine blk_drew ?_ | refine blk_alloc ?_ _)); exact BK321.out⟩, ⟨by repeat (first | (with_reducible first | exact HB.out | apply below_alloc | apply bN | apply bD | refine below_set ?_ GE314.out | refine below_set ?_ GE321.out) | exact HB.out)⟩⟩
  case rest =>
   clear HC6
   try clear c1
   try clear c2
   try clear c2b0
   try clear c2b1
   try clear p2
   try clear c3
   try clear c4
   try clear c15
   try clear c16
   try clear c17
   try clear c18
   try clear c18b0
   try clear c18b1
   try clear c18b2
   try clear c19
   try clear c19b0
   try clear c19b1
   try clear c20
   try clear c20b0
   try clear c20b1
   try clear c20b2
   try clear c21
   try clear c24
   try clear c24b0
   try clear c24b1
   try clear c24b2
   try clear c25
   try clear c28
   try clear c31
   try clear hcz12_0
   try clear hcz12_1
   try clear hcz12_2
   try clear hcz17_0
   try clear hcz17_1
   try clear hcz17_2
   try clear hcz22_0
   try clear hcz22_1
   try clear hcz22_2
   try clear hcz23_0
   try clear hcz23_1
   try clear hcz23_2
   try clear hcz26_0
   try clear hcz26_1
   try clear hcz26_2
   try clear hcz27_0
   try clear hcz27_1
   try clear hcz27_2
   try clear hcz29_0
   try clear hcz29_1
   try clear hcz29_2
   try clear hcz30_0
   try clear hcz30_1
   try clear hcz30_2
   try clear hcz32_0
   try clear hcz32_1
   try clear hcz32_2
   try clear hcz33_0
   try clear hcz33_1
   try clear hcz33_2
   try clear hfz12_0
   try clear hfz12_1
   try clear hfz12_2
   try clear hfz17_0
   try clear hfz17_1
   try clear hfz17_2
   try clear hfz22_0
   try clear hfz22_1
   try clear hfz22_2
   try clear hfz23_0
   try clear hfz23_1
   try clear hfz23_2
   try clear hfz26_0
   try clear hfz26_1
   try clear hfz26_2
   try clear hfz27_0
   try clear hfz27_1
   try clear hfz27_2
   try clear hfz29_0
   try clear hfz29_1
   try clear hfz29_2
   try clear hfz30_0
   try clear hfz30_1
   try clear hfz30_2
   try clear hfz32_0
   try clear hfz32_1
   try clear hfz32_2
   try clear hfz33_0
   try clear hfz33_1
   try clear hfz33_2
   obtain ⟨kq, x65_5, rfl, HA, HJ5, HO_5, HO_315000, HO_322000, BK314, BK321, HB⟩ := hcut
   cases kq with
   | zero => exact absurd HA.out (by simp [laws_FnNoRound.j0])
   | succ kj5 =>
    have H := HA.out
    clear HA
    simp only [laws_FnNoRound.j0] at H
    by_cases c34 : x65_5 = true
    ·
     subst c34
     have H1 : (if (t313 == t320) = true then (if t311 = t318 then (if (t312 == t319) = true then (some ((t308.length : Int) == (t315.length : Int))) else (some false)) else (some false)) else (some false)) = some r := by rw [if_pos rfl] at H; exact H
     clear H
     have H := H1
     clear H1
     by_cases c35 : (t313 == t320) = true
     ·
      rw [if_pos c35] at H
      have c35b0 : (t313 == t320) = true := c35
      (try (have c35b1 : decide (t313 = t320) = true := by simpa using c35))
      (try (have c35b2 : (t313 == t320) = true := by simpa using c35))
      clear c35
      by_cases c36 : t311 = t318
      ·
       rw [if_pos c36] at H
       have c36b0 : (t311 == t318) = true := beq_iff_eq.mpr c36
       have c36b1 : (t311 != t318) = false := bne_eq_false_iff_eq.mpr c36
       clear c36
       by_cases c37 : (t312 == t319) = true
       ·
        rw [if_pos c37] at H
        have c37b0 : (t312 == t319) = true := c37
        (try (have c37b1 : decide (t312 = t319) = true := by simpa using c37))
        (try (have c37b2 : (t312 == t319) = true := by simpa using c37))
        clear c37
        obtain rfl := Option.some.inj H
        have hnb38 := NB314_321.out
        have hnc38 := NB321_314.out
        have hcz39_0 : wc.cell? ⟨gb314, 0, none⟩ = some (.slice Ao11 t308.length co11) := (blk_cell BK314.out 0).trans rfl
        have hcz39_1 : wc.cell? ⟨gb314, 1, none⟩ = some (.int .i64 t311) := (blk_cell BK314.out 1).trans rfl
        have hcz39_2 : wc.cell? ⟨gb314, 2, none⟩ = some (.bool t312) := (blk_cell BK314.out 2).trans rfl
        have hfz39_0 := blk_frozen BK314.out 0
        have hfz39_1 := blk_frozen BK314.out 1
        have hfz39_2 := blk_frozen BK314.out 2
        have hcz40_0 : wc.cell? ⟨gb321, 0, none⟩ = some (.slice Ao15 t315.length co15) := (blk_cell BK321.out 0).trans rfl
        have hcz40_1 : wc.cell? ⟨gb321, 1, none⟩ = some (.int .i64 t318) := (blk_cell BK321.out 1).trans rfl
        have hcz40_2 : wc.cell? ⟨gb321, 2, none⟩ = some (.bool t319) := (blk_cell BK321.out 2).trans rfl
        have hfz40_0 := blk_frozen BK321.out 0
        have hfz40_1 := blk_frozen BK321.out 1
        have hfz40_2 := blk_frozen BK321.out 2
        go_wp2
        go_ret
        exact ⟨by first | rfl | (simp [*] <;> rfl) | (exfalso; simp_all; done), by repeat (first | (with_reducible first | exact HB.out | apply below_alloc | apply bN | apply bD | refine below_set ?_ GE314.out | refine below_set ?_ GE321.out) | exact HB.out)⟩
       ·
        rw [if_neg c37] at H
        have c37b0 : (t312 == t319) = false := by simpa using c37
        (try (have c37b1 : decide (t312 = t319) = false := by simpa using c37))
        (try (have c37b2 : (t312 == t319) = false := by simpa using c37))
        (try (have c37b3 : ¬ (t312 = t319) := by simpa using c37))
        clear c37
        obtain rfl := Option.some.inj H
        have hnb41 := NB314_321.out
        have hnc41 := NB321_314.out
        have hcz42_0 : wc.cell? ⟨gb314, 0, none⟩ = some (.slice Ao11 t308.length co11) := (blk_cell BK314.out 0).trans rfl
        have hcz42_1 : wc.cell? ⟨gb314, 1, none⟩ = some (.int .i64 t311) := (blk_cell BK314.out 1).trans rfl
        have hcz42_2 : wc.cell? ⟨gb314, 2, none⟩ = some (.bool t312) := (blk_cell BK314.out 2).trans rfl
        have hfz42_0 := blk_frozen BK314.out 0
        have hfz42_1 := blk_frozen BK314.out 1
        have hfz42_2 := blk_frozen BK314.out 2
        have hcz43_0 : wc.cell? ⟨gb321, 0, none⟩ = some (.slice Ao15 t315.length co15) := (blk_cell BK321.out 0).trans rfl
        have hcz43_1 : wc.cell? ⟨gb321, 1, none⟩ = some (.int .i64 t318) := (blk_cell BK321.out 1).trans rfl
        have hcz43_2 : wc.cell? ⟨gb321, 2, none⟩ = some (.bool t319) := (blk_cell BK321.out 2).trans rfl
        have hfz43_0 := blk_frozen BK321.out 0
        have hfz43_1 := blk_frozen BK321.out 1
        have hfz43_2 := blk_frozen BK321.out 2
        go_wp2
        go_ret
        exact ⟨by first | rfl | (simp [*] <;> rfl) | (exfalso; simp_all; done), by repeat (first | (with_reducible first | exact HB.out | apply below_alloc | apply bN | apply bD | refine below_set ?_ GE314.out | refine below_set ?_ GE321.out) | exact HB.out)⟩
      ·
       rw [if_neg c36] at H
       have c36b0 : (t311 == t318) = false := beq_eq_false_iff_ne.mpr c36
       have c36b1 : (t311 != t318) = true := bne_iff_ne.mpr c36
       obtain rfl := Option.some.inj H
       have hnb44 := NB314_321.out
       have hnc44 := NB321_314.out
       have hcz45_0 : wc.cell? ⟨gb314, 0, none⟩ = some (.slice Ao11 t308.length co11) := (blk_cell BK314.out 0).trans rfl
       have hcz45_1 : wc.cell? ⟨gb314, 1, none⟩ = some (.int .i64 t311) := (blk_cell BK314.out 1).trans rfl
       have hcz45_2 : wc.cell? ⟨gb314, 2, none⟩ = some (.bool t312) := (blk_cell BK314.out 2).trans rfl
       have hfz45_0 := blk_frozen BK314.out 0
       have hfz45_1 := blk_frozen BK314.out 1
       have hfz45_2 := blk_frozen BK314.out 2
       have hcz46_0 : wc.cell? ⟨gb321, 0, none⟩ = some (.slice Ao15 t315.length co15) := (blk_cell BK321.out 0).trans rfl
       have hcz46_1 : wc.cell? ⟨gb321, 1, none⟩ = some (.int .i64 t318) := (blk_cell BK321.out 1).trans rfl
       have hcz46_2 : wc.cell? ⟨gb321, 2, none⟩ = some (.bool t319) := (blk_cell BK321.out 2).trans rfl
       have hfz46_0 := blk_frozen BK321.out 0
       have hfz46_1 := blk_frozen BK321.out 1
       have hfz46_2 := blk_frozen BK321.out 2
       go_wp2
       go_ret
       exact ⟨by first | rfl | (simp [*] <;> rfl) | (exfalso; simp_all; done), by repeat (first | (with_reducible first | exact HB.out | apply below_alloc | apply bN | apply bD | refine below_set ?_ GE314.out | refine below_set ?_ GE321.out) | exact HB.out)⟩
     ·
      rw [if_neg c35] at H
      have c35b0 : (t313 == t320) = false := by simpa using c35
      (try (have c35b1 : decide (t313 = t320) = false := by simpa using c35))
      (try (have c35b2 : (t313 == t320) = false := by simpa using c35))
      (try (have c35b3 : ¬ (t313 = t320) := by simpa using c35))
      clear c35
      obtain rfl := Option.some.inj H
      go_wp2
      go_ret
      exact ⟨by first | rfl | (simp [*] <;> rfl) | (exfalso; simp_all; done), by repeat (first | (with_reducible first | exact HB.out | apply below_alloc | apply bN | apply bD | refine below_set ?_ GE314.out | refine below_set ?_ GE321.out) | exact HB.out)⟩
    ·
     replace c34 := Bool.eq_false_iff.mpr c34
     subst c34
     have H1 : (laws_FnNoRound.l0 kj5 t303 t304 t305 true t308 (t308.length : Int) 0 t308 t311 t312 t315 t318 t319) = some r := by rw [if_neg (show ¬ (false = true) by decide)] at H; exact H
     clear H
     have H := H1
     clear H1
     have H' := aM H
     clear H
     have hnb47 := NB314_321.out
     have hnc47 := NB321_314.out
     have hcz48_0 : wc.cell? ⟨gb314, 0, none⟩ = some (.slice Ao11 t308.length co11) := (blk_cell BK314.out 0).trans rfl
     have hcz48_1 : wc.cell? ⟨gb314, 1, none⟩ = some (.int .i64 t311) := (blk_cell BK314.out 1).trans rfl
     have hcz48_2 : wc.cell? ⟨gb314, 2, none⟩ = some (.bool t312) := (blk_cell BK314.out 2).trans rfl
     have hfz48_0 := blk_frozen BK314.out 0
     have hfz48_1 := blk_frozen BK314.out 1
     have hfz48_2 := blk_frozen BK314.out 2
     go_wp2
     go_loopg [10, 95] kj5 (fun kq v10 v95 w' => ∃ (x10_2 : Bool) (x95_2 : Int), v10 = .bool x10_2 ∧ v95 = .int .i64 x95_2 ∧ Aside0 (laws_FnNoRound.l0 kq t303 t304 t305 x10_2 t308 (t308.length : Int) x95_2 t308 t311 t312 t315 t318 t319 = some r) ∧ Aside0 (kq ≤ kj5) ∧ Aside0 (Kd.S (Kd.slice 3 (Kd.int .i64)) 28 w' w.heap.size (fun _ => True) (.slice Ao8 t305.length co8) t305) ∧ Aside0 (Kd.R Kd.bool 4 w' w.heap.size (fun k_ => some k_ ≠ ((.slice Ao15 t315.length co15) : Value).ownBlock) (.slice Ao11 t308.length co11) t308) ∧ Aside0 (Kd.R Kd.bool 4 w' w.heap.size (fun k_ => some k_ ≠ ((.slice Ao15 t315.length co15) : Value).ownBlock) (.slice Ao11 t308.length co11) t308) ∧ Aside0 (Kd.R Kd.bool 4 w' w.heap.size (fun k_ => some k_ ≠ ((.slice Ao11 t308.length co11) : Value).ownBlock ∧ some k_ ≠ ((.slice Ao11 t308.length co11) : Value).ownBlock) (.slice Ao15 t315.length co15) t315) ∧ Aside0 (w'.heap[gb314]? = some (.cells #[(.slice Ao11 t308.length co11), .int .i64 t311, .bool t312] 33 (0, 0))) ∧ Aside0 (w'.heap[gb321]? = some (.cells #[(.slice Ao15 t315.length co15), .int .i64 t318, .bool t319] 33 (0, 0))) ∧ Aside0 (Below w.heap.size w w'))
     case atStart => exact ⟨(true), (0), (by first | rfl | (simp; done) | (simp [*]; done)), (by first | rfl | (simp; done) | (simp [*]; done)), H', ⟨Nat.le_refl _⟩, ⟨by (with_reducible repeat (first | apply Kd.S_alloc | apply Kd.S_drewN | apply Kd.S_drew)); exact HO_5.out⟩, ⟨by (with_reducible repeat (first | apply Kd.R_alloc | apply Kd.R_drewN | apply Kd.R_drew)); exact HO_315000.out⟩, ⟨by (with_reducible repeat (first | apply Kd.R_alloc | apply Kd.R_drewN | apply Kd.R_drew)); exact HO_315000.out⟩, ⟨by (with_reducible repeat (first | apply Kd.R_alloc | apply Kd.R_drewN | apply Kd.R_drew)); exact Kd.R_mono HO_322000.out (fun _ hk => by first | exact ⟨hk, hk⟩ | (have hz_ := hk; (try simp only [and_assoc, true_and] at hz_); refine ⟨?_, ?_⟩ <;> first | exact hz_.1 | exact hz_.2.1 | exact hz_.2.2.1 | exact hz_.2.2.2.1 | exact hz_.2.2.2.2.1 | exact hz_.2.2.2.2 | exact hz_.2.2.2 | exact hz_.2.2 | exact hz_.2))⟩, ⟨by (with_reducible repeat (first | refine blk_drewN ?_ _ | refine blk_drew ?_ | refine blk_alloc ?_ _)); exact BK314.out⟩, ⟨by (with_reducible repeat (first | refine blk_drewN ?_ _ | refine blk_drew ?_ | refine blk_alloc ?_ _)); exact BK321.out⟩, ⟨by repeat (first | (with_reducible first | exact HB.out | apply below_alloc | apply bN | apply bD | refine below_set ?_ GE314.out | refine below_set ?_ GE321.out) | exact HB.out)⟩⟩
     case round =>
      clear H'
      try clear c1
      try clear c2
      try clear c2b0
      try clear c2b1
      try clear p2
      try clear c3
      try clear c4
      try clear c15
      try clear c16
      try clear c17
      try clear c18
      try clear c18b0
      try clear c18b1
      try clear c18b2
      try clear c19
      try clear c19b0
      try clear c19b1
      try clear c20
      try clear c20b0
      try clear c20b1
      try clear c20b2
      try clear c21
      try clear c24
      try clear c24b0
      try clear c24b1
      try clear c24b2
      try clear c25
      try clear c28
      try clear c31
      try clear c34
      try clear c35
      try clear c35b0
      try clear c35b1
      try clear c35b2
      try clear c36
      try clear c36b0
      try clear c36b1
      try clear c37
      try clear c37b0
      try clear c37b1
      try clear c37b2
      try clear c38
      try clear c41
      try clear c44
      try clear c47
      try clear hcz12_0
      try clear hcz12_1
      try clear hcz12_2
      try clear hcz17_0
      try clear hcz17_1
      try clear hcz17_2
      try clear hcz22_0
      try clear hcz22_1
      try clear hcz22_2
      try clear hcz23_0
      try clear hcz23_1
      try clear hcz23_2
      try clear hcz26_0
      try clear hcz26_1
      try clear hcz26_2
      try clear hcz27_0
      try clear hcz27_1
      try clear hcz27_2
      try clear hcz29_0
      try clear hcz29_1
      try clear hcz29_2
      try clear hcz30_0
      try clear hcz30_1
      try clear hcz30_2
      try clear hcz32_0
      try clear hcz32_1
      try clear hcz32_2
      try clear hcz33_0
      try clear hcz33_1
      try clear hcz33_2
      try clear hcz39_0
      try clear hcz39_1
      try clear hcz39_2
      try clear hcz40_0
      try clear hcz40_1
      try clear hcz40_2
      try clear hcz42_0
      try clear hcz42_1
      try clear hcz42_2
      try clear hcz43_0
      try clear hcz43_1
      try clear hcz43_2
      try clear hcz45_0
      try clear hcz45_1
      try clear hcz45_2
      try clear hcz46_0
      try clear hcz46_1
      try clear hcz46_2
      try clear hcz48_0
      try clear hcz48_1
      try clear hcz48_2
      try clear hfz12_0
      try clear hfz12_1
      try clear hfz12_2
      try clear hfz17_0
      try clear hfz17_1
      try clear hfz17_2
      try clear hfz22_0
      try clear hfz22_1
      try clear hfz22_2
      try clear hfz23_0
      try clear hfz23_1
      try clear hfz23_2
      try clear hfz26_0
      try clear hfz26_1
      try clear hfz26_2
      try clear hfz27_0
      try clear hfz27_1
      try clear hfz27_2
      try clear hfz29_0
      try clear hfz29_1
      try clear hfz29_2
      try clear hfz30_0
      try clear hfz30_1
      try clear hfz30_2
      try clear hfz32_0
      try clear hfz32_1
      try clear hfz32_2
      try clear hfz33_0
      try clear hfz33_1
      try clear hfz33_2
      try clear hfz39_0
      try clear hfz39_1
      try clear hfz39_2
      try clear hfz40_0
      try clear hfz40_1
      try clear hfz40_2
      try clear hfz42_0
      try clear hfz42_1
      try clear hfz42_2
      try clear hfz43_0
      try clear hfz43_1
      try clear hfz43_2
      try clear hfz45_0
      try clear hfz45_1
      try clear hfz45_2
      try clear hfz46_0
      try clear hfz46_1
      try clear hfz46_2
      try clear hfz48_0
      try clear hfz48_1
      try clear hfz48_2
      try clear p2
      obtain ⟨x10_2, x95_2, rfl, rfl, HA, HK2, HO_5, HO_93, HO_315000, HO_322000, BK314, BK321, HB⟩ := hrel
      cases gk with
      | zero => exact absurd HA.out (by simp [laws_FnNoRound.l0])
      | succ k2 =>
       have H := HA.out
       clear HA
       simp only [laws_FnNoRound.l0] at H
       by_cases c49 : x95_2 < (t308.length : Int)
       ·
        rw [if_pos c49] at H
        have c49b0 : decide (x95_2 < (t308.length : Int)) = true := decide_eq_true c49
        clear c49
        by_cases c50 : 0 ≤ x95_2
        ·
         rw [if_pos c50] at H
         have c50b0 : decide (0 ≤ x95_2) = true := decide_eq_true c50
         clear c50
         by_cases c51 : x95_2 < (t308.length : Int)
         ·
          rw [if_pos c51] at H
          have c51b0 : decide (x95_2 < (t308.length : Int)) = true := decide_eq_true c51
          clear c51
          by_cases c52 : x10_2 = true
          ·
           subst c52
           have H1 : (if x95_2 < (t315.length : Int) then (if ((rdOf false t308 x95_2) != (rdOf false t315 x95_2)) = true then (some false) else (laws_FnNoRound.l0 k2 t303 t304 t305 (rdOf false t308 x95_2) t308 (t308.length : Int) (wrap64 (x95_2 + 1)) t308 t311 t312 t315 t318 t319)) else (none)) = some r := by rw [if_pos rfl] at H; exact H
           clear H
           have H := H1
           clear H1
           by_cases c53 : x95_2 < (t315.length : Int)
           ·
            rw [if_pos c53] at H
            have c53b0 : decide (x95_2 < (t315.length : Int)) = true := decide_eq_true c53
            clear c53
            by_cases c54 : ((rdOf false t308 x95_2) != (rdOf false t315 x95_2)) = true
            ·
             rw [if_pos c54] at H
             have c54b0 : ((rdOf false t308 x95_2) != (rdOf false t315 x95_2)) = true := c54
             (try (have c54b1 : decide ((rdOf false t308 x95_2) = (rdOf false t315 x95_2)) = false := by simpa using c54))
             (try (have c54b2 : ((rdOf false t308 x95_2) == (rdOf false t315 x95_2)) = false := by simpa using c54))
             (try (have c54b3 : ¬ ((rdOf false t308 x95_2) = (rdOf false t315 x95_2)) := by simpa using c54))
             clear c54
             obtain rfl := Option.some.inj H
             have p322 : 0 ≤ (x95_2 : Int) := of_decide_eq_true (by assumption)
             have q322 : x95_2 < (t308.length : Int) := of_decide_eq_true (by assumption)
             obtain ⟨ad322, e322, hx322_0⟩ := Kd.at_bool (Kd.R_reads' HO_93.out).2.2 x95_2 p322 q322
             cases e322
             replace p322 := eq_true p322
             replace q322 := eq_true q322
             have hnb55 := NB321_314.out
             have hnc55 := NB314_321.out
             have hcz56_0 : wr.cell? ⟨gb321, 0, none⟩ = some (.slice Ao15 t315.length co15) := (blk_cell BK321.out 0).trans rfl
             have hcz56_1 : wr.cell? ⟨gb321, 1, none⟩ = some (.int .i64 t318) := (blk_cell BK321.out 1).trans rfl
             have hcz56_2 : wr.cell? ⟨gb321, 2, none⟩ = some (.bool t319) := (blk_cell BK321.out 2).trans rfl
             have hfz56_0 := blk_frozen BK321.out 0
             have hfz56_1 := blk_frozen BK321.out 1
             have hfz56_2 := blk_frozen BK321.out 2
             have p323 : 0 ≤ (x95_2 : Int) := of_decide_eq_true (by assumption)
             have q323 : x95_2 < (t315.length : Int) := of_decide_eq_true (by assumption)
             obtain ⟨ad323, e323, hx323_0⟩ := Kd.at_bool (Kd.R_reads' HO_322000.out).2.2 x95_2 p323 q323
             cases e323
             replace p323 := eq_true p323
             replace q323 := eq_true q323
             go_wp2
             go_ret
             exact ⟨by first | rfl | (simp [*] <;> rfl) | (exfalso; simp_all; done), by repeat (first | (with_reducible first | exact HB.out | apply below_alloc | apply bN | apply bD | refine below_set ?_ GE314.out | refine below_set ?_ GE321.out) | exact HB.out)⟩
            ·
             rw [if_neg c54] at H
             have c54b0 : ((rdOf false t308 x95_2) != (rdOf false t315 x95_2)) = false := by simpa using c54
             (try (have c54b1 : decide ((rdOf false t308 x95_2) = (rdOf false t315 x95_2)) = true := by simpa using c54))
             (try (have c54b2 : ((rdOf false t308 x95_2) == (rdOf false t315 x95_2)) = true := by simpa using c54))
             clear c54
             have H' := aM H
             clear H
             have p322 : 0 ≤ (x95_2 : Int) := of_decide_eq_true (by assumption)
             have q322 : x95_2 < (t308.length : Int) := of_decide_eq_true (by assumption)
             obtain ⟨ad322, e322, hx322_0⟩ := Kd.at_bool (Kd.R_reads' HO_93.out).2.2 x95_2 p322 q322
             cases e322
             replace p322 := eq_true p322
             replace q322 := eq_true q322
             have hnb57 := NB321_314.out
             have hnc57 := NB314_321.out
             have hcz58_0 : wr.cell? ⟨gb321, 0, none⟩ = some (.slice Ao15 t315.length co15) := (blk_cell BK321.out 0).trans rfl
             have hcz58_1 : wr.cell? ⟨gb321, 1, none⟩ = some (.int .i64 t318) := (blk_cell BK321.out 1).trans rfl
             have hcz58_2 : wr.cell? ⟨gb321, 2, none⟩ = some (.bool t319) := (blk_cell BK321.out 2).trans rfl
             have hfz58_0 := blk_frozen BK321.out 0
             have hfz58_1 := blk_frozen BK321.out 1
             have hfz58_2 := blk_frozen BK321.out 2
             have p323 : 0 ≤ (x95_2 : Int) := of_decide_eq_true (by assumption)
             have q323 : x95_2 < (t315.length : Int) := of_decide_eq_true (by assumption)
             obtain ⟨ad323, e323, hx323_0⟩ := Kd.at_bool (Kd.R_reads' HO_322000.out).2.2 x95_2 p323 q323
             cases e323
             replace p323 := eq_true p323
             replace q323 := eq_true q323
             go_wp2
             go_roundg k2
             case measure => have := HJ5.out; have := HK2.out; omega
             case rel => exact ⟨(rdOf false t308 x95_2), (wrap64 (x95_2 + 1)), (by first | rfl | (simp; done) | (simp [*]; done)), (by first | rfl | (simp; done) | (simp [*]; done)), H', ⟨by have := HJ5.out; have := HK2.out; omega⟩, ⟨by (with_reducible repeat (first | apply Kd.S_alloc | apply Kd.S_drewN | apply Kd.S_drew)); exact HO_5.out⟩, ⟨by (with_reducible repeat (first | apply Kd.R_alloc | apply Kd.R_drewN | apply Kd.R_drew)); exact HO_93.out⟩, ⟨by (with_reducible repeat (first | apply Kd.R_alloc | apply Kd.R_drewN | apply Kd.R_drew)); exact HO_315000.out⟩, ⟨by (with_reducible repeat (first | apply Kd.R_alloc | apply Kd.R_drewN | apply Kd.R_drew)); exact HO_322000.out⟩, ⟨by (with_reducible repeat (first | refine blk_drewN ?_ _ | refine blk_drew ?_ | refine blk_alloc ?_ _)); exact BK314.out⟩, ⟨by (with_reducible repeat (first | refine blk_drewN ?_ _ | refine blk_drew ?_ | refine blk_alloc ?_ _)); exact BK321.out⟩, ⟨by repeat (first | (with_reducible first | exact HB.out | apply below_alloc | apply bN | apply bD | refine below_set ?_ GE314.out | refine below_set ?_ GE321.out) | exact HB.out)⟩⟩
           ·
            rw [if_neg c53] at H
            exact absurd H (by simp)
          ·
           replace c52 := Bool.eq_false_iff.mpr c52
           subst c52
           have H1 : (if x95_2 < (t315.length : Int) then (if ((rdOf false t308 x95_2) != (rdOf false t315 x95_2)) = true then (some false) else (laws_FnNoRound.l0 k2 t303 t304 t305 false t308 (t308.length : Int) (wrap64 (x95_2 + 1)) t308 t311 t312 t315 t318 t319)) else (none)) = some r := by rw [if_neg (show ¬ (false = true) by decide)] at H; exact H
           clear H
           have H := H1
           clear H1
           by_cases c59 : x95_2 < (t315.length : Int)
           ·
            rw [if_pos c59] at H
            have c59b0 : decide (x95_2 < (t315.length : Int)) = true := decide_eq_true c59
            clear c59
            by_cases c60 : ((rdOf false t308 x95_2) != (rdOf false t315 x95_2)) = true
            ·
             rw [if_pos c60] at H
             have c60b0 : ((rdOf false t308 x95_2) != (rdOf false t315 x95_2)) = true := c60
             (try (have c60b1 : decide ((rdOf false t308 x95_2) = (rdOf false t315 x95_2)) = false := by simpa using c60))
             (try (have c60b2 : ((rdOf false t308 x95_2) == (rdOf false t315 x95_2)) = false := by simpa using c60))
             (try (have c60b3 : ¬ ((rdOf false t308 x95_2) = (rdOf false t315 x95_2)) := by simpa using c60))
             clear c60
             obtain rfl := Option.some.inj H
             have p322 : 0 ≤ (x95_2 : Int) := of_decide_eq_true (by assumption)
             have q322 : x95_2 < (t308.length : Int) := of_decide_eq_true (by assumption)
             obtain ⟨ad322, e322, hx322_0⟩ := Kd.at_bool (Kd.R_reads' HO_93.out).2.2 x95_2 p322 q322
             cases e322
             replace p322 := eq_true p322
             replace q322 := eq_true q322
             have hnb61 := NB321_314.out
             have hnc61 := NB314_321.out
             have hcz62_0 : wr.cell? ⟨gb321, 0, none⟩ = some (.slice Ao15 t315.length co15) := (blk_cell BK321.out 0).trans rfl
             have hcz62_1 : wr.cell? ⟨gb321, 1, none⟩ = some (.int .i64 t318) := (blk_cell BK321.out 1).trans rfl
             have hcz62_2 : wr.cell? ⟨gb321, 2, none⟩ = some (.bool t319) := (blk_cell BK321.out 2).trans rfl
             have hfz62_0 := blk_frozen BK321.out 0
             have hfz62_1 := blk_frozen BK321.out 1
             have hfz62_2 := blk_frozen BK321.out 2
             have p324 : 0 ≤ (x95_2 : Int) := of_decide_eq_true (by assumption)
             have q324 : x95_2 < (t315.length : Int) := of_decide_eq_true (by assumption)
             obtain ⟨ad324, e324, hx324_0⟩ := Kd.at_bool (Kd.R_reads' HO_322000.out).2.2 x95_2 p324 q324
             cases e324
             replace p324 := eq_true p324
             replace q324 := eq_true q324
             go_wp2
             go_ret
             exact ⟨by first | rfl | (simp [*] <;> rfl) | (exfalso; simp_all; done), by repeat (first | (with_reducible first | exact HB.out | apply below_alloc | apply bN | apply bD | refine below_set ?_ GE314.out | refine below_set ?_ GE321.out) | exact HB.out)⟩
            ·
             rw [if_neg c60] at H
             have c60b0 : ((rdOf false t308 x95_2) != (rdOf false t315 x95_2)) = false := by simpa using c60
             (try (have c60b1 : decide ((rdOf false t308 x95_2) = (rdOf false t315 x95_2)) = true := by simpa using c60))
             (try (have c60b2 : ((rdOf false t308 x95_2) == (rdOf false t315 x95_2)) = true := by simpa using c60))
             clear c60
             have H' := aM H
             clear H
             have p322 : 0 ≤ (x95_2 : Int) := of_decide_eq_true (by assumption)
             have q322 : x95_2 < (t308.length : Int) := of_decide_eq_true (by assumption)
             obtain ⟨ad322, e322, hx322_0⟩ := Kd.at_bool (Kd.R_reads' HO_93.out).2.2 x95_2 p322 q322
             cases e322
             replace p322 := eq_true p322
             replace q322 := eq_true q322
             have hnb63 := NB321_314.out
             have hnc63 := NB314_321.out
             have hcz64_0 : wr.cell? ⟨gb321, 0, none⟩ = some (.slice Ao15 t315.length co15) := (blk_cell BK321.out 0).trans rfl
             have hcz64_1 : wr.cell? ⟨gb321, 1, none⟩ = some (.int .i64 t318) := (blk_cell BK321.out 1).trans rfl
             have hcz64_2 : wr.cell? ⟨gb321, 2, none⟩ = some (.bool t319) := (blk_cell BK321.out 2).trans rfl
             have hfz64_0 := blk_frozen BK321.out 0
             have hfz64_1 := blk_frozen BK321.out 1
             have hfz64_2 := blk_frozen BK321.out 2
             have p324 : 0 ≤ (x95_2 : Int) := of_decide_eq_true (by assumption)
             have q324 : x95_2 < (t315.length : Int) := of_decide_eq_true (by assumption)
             obtain ⟨ad324, e324, hx324_0⟩ := Kd.at_bool (Kd.R_reads' HO_322000.out).2.2 x95_2 p324 q324
             cases e324
             replace p324 := eq_true p324
             replace q324 := eq_true q324
             go_wp2
             go_roundg k2
             case measure => have := HJ5.out; have := HK2.out; omega
             case rel => exact ⟨(false), (wrap64 (x95_2 + 1)), (by first | rfl | (simp; done) | (simp [*]; done)), (by first | rfl | (simp; done) | (simp [*]; done)), H', ⟨by have := HJ5.out; have := HK2.out; omega⟩, ⟨by (with_reducible repeat (first | apply Kd.S_alloc | apply Kd.S_drewN | apply Kd.S_drew)); exact HO_5.out⟩, ⟨by (with_reducible repeat (first | apply Kd.R_alloc | apply Kd.R_drewN | apply Kd.R_drew)); exact HO_93.out⟩, ⟨by (with_reducible repeat (first | apply Kd.R_alloc | apply Kd.R_drewN | apply Kd.R_drew)); exact HO_315000.out⟩, ⟨by (with_reducible repeat (first | apply Kd.R_alloc | apply Kd.R_drewN | apply Kd.R_drew)); exact HO_322000.out⟩, ⟨by (with_reducible repeat (first | refine blk_drewN ?_ _ | refine blk_drew ?_ | refine blk_alloc ?_ _)); exact BK314.out⟩, ⟨by (with_reducible repeat (first | refine blk_drewN ?_ _ | refine blk_drew ?_ | refine blk_alloc ?_ _)); exact BK321.out⟩, ⟨by repeat (first | (with_reducible first | exact HB.out | apply below_alloc | apply bN | apply bD | refine below_set ?_ GE314.out | refine below_set ?_ GE321.out) | exact HB.out)⟩⟩
           ·
            rw [if_neg c59] at H
            exact absurd H (by simp)
         ·
          rw [if_neg c51] at H
          exact absurd H (by simp)
        ·
         rw [if_neg c50] at H
         exact absurd H (by simp)
       ·
        rw [if_neg c49] at H
        have c49b0 : decide (x95_2 < (t308.length : Int)) = false := decide_eq_false c49
        clear c49
        by_cases c65 : (t312 != x10_2) = true
        ·
         rw [if_pos c65] at H
         have c65b0 : (t312 != x10_2) = true := c65
         (try (have c65b1 : decide (t312 = x10_2) = false := by simpa using c65))
         (try (have c65b2 : (t312 == x10_2) = false := by simpa using c65))
         (try (have c65b3 : ¬ (t312 = x10_2) := by simpa using c65))
         clear c65
         by_cases c66 : t312 = true
         ·
          subst c66
          have H1 : ((impl_HasRound.f k2 t303 t304 t305).bind fun t325 => (some t325)) = some r := by rw [if_pos rfl] at H; exact H
          clear H
          have H := H1
          clear H1
          replace H := bE H
          obtain ⟨t325, A670, H⟩ := H
          replace H : (some t325) = some r := H
          have A67 := aM A670
          clear A670
          obtain rfl := Option.some.inj H
          have hnb68 := NB314_321.out
          have hnc68 := NB321_314.out
          have hcz69_0 : wr.cell? ⟨gb314, 0, none⟩ = some (.slice Ao11 t308.length co11) := (blk_cell BK314.out 0).trans rfl
          have hcz69_1 : wr.cell? ⟨gb314, 1, none⟩ = some (.int .i64 t311) := (blk_cell BK314.out 1).trans rfl
          have hcz69_2 : wr.cell? ⟨gb314, 2, none⟩ = some (.bool true) := (blk_cell BK314.out 2).trans rfl
          have hfz69_0 := blk_frozen BK314.out 0
          have hfz69_1 := blk_frozen BK314.out 1
          have hfz69_2 := blk_frozen BK314.out 2
          go_wp2_with (first | (go_at_call 18; (with_reducible refine (impl_HasRound.calls k2 t303 t304 _ _ t305 t325 _ ?side1 ?side2 A67.out).mono ?_); (case side1 => repeat (first | exact (Kd.S_reads' HO_5.out).2.2 | (with_reducible refine Kd.C_alloc ?_ _) | (with_reducible refine Kd.C_drewN ?_ _) | (with_reducible refine Kd.C_drew ?_))); (case side2 => exact (Kd.S_reads' HO_5.out).2.1); rintro e w70 ⟨rfl, hb⟩; have n0_ := aM (Kd.S_below (by (with_reducible repeat (first | apply Kd.S_alloc | apply Kd.S_drewN | apply Kd.S_drew)); exact HO_5.out) hb); have n1_ := aM (Kd.R_below (by (with_reducible repeat (first | apply Kd.R_alloc | apply Kd.R_drewN | apply Kd.R_drew)); exact HO_93.out) hb); have n2_ := aM (Kd.R_below (by (with_reducible repeat (first | apply Kd.R_alloc | apply Kd.R_drewN | apply Kd.R_drew)); exact HO_315000.out) hb); have n3_ := aM (Kd.R_below (by (with_reducible repeat (first | apply Kd.R_alloc | apply Kd.R_drewN | apply Kd.R_drew)); exact HO_322000.out) hb); have n4_ := aM (blk_below (g := gb314) (o := .cells #[.slice Ao11 t308.length co11, .int .i64 t311, .bool true] 33 (0, 0)) (by (with_reducible repeat (first | refine blk_drewN ?_ _ | refine blk_drew ?_ | refine blk_alloc ?_ _)); exact BK314.out) hb); have n5_ := aM (blk_below (g := gb321) (o := .cells #[.slice Ao15 t315.length co15, .int .i64 t318, .bool t319] 33 (0, 0)) (by (with_reducible repeat (first | refine blk_drewN ?_ _ | refine blk_drew ?_ | refine blk_alloc ?_ _)); exact BK321.out) hb); have n6_ := aM (below_step (by repeat (first | (with_reducible first | exact HB.out | apply below_alloc | apply bN | apply bD | refine below_set ?_ GE314.out | refine below_set ?_ GE321.out) | exact HB.out)) hb); clear HO_5; clear HO_93; clear HO_315000; clear HO_322000; clear BK314; clear BK321; clear HB; have HO_5 := n0_; have HO_93 := n1_; have HO_315000 := n2_; have HO_322000 := n3_; have BK314 := n4_; have BK321 := n5_; have HB := n6_; clear n0_ n1_ n2_ n3_ n4_ n5_ n6_; (try clear hb); (try clear hb2); (try clear hk); (try clear hi)))
          go_ret
          exact ⟨by first | rfl | (simp [*] <;> rfl) | (exfalso; simp_all; done), by repeat (first | (with_reducible first | exact HB.out | apply below_alloc | apply bN | apply bD | refine below_set ?_ GE314.out | refine below_set ?_ GE321.out) | exact HB.out)⟩
         ·
          replace c66 := Bool.eq_false_iff.mpr c66
          subst c66
          have H1 : (some true) = some r := by rw [if_neg (show ¬ (false = true) by decide)] at H; exact H
          clear H
          have H := H1
          clear H1
          obtain rfl := Option.some.inj H
          have hnb71 := NB314_321.out
          have hnc71 := NB321_314.out
          have hcz72_0 : wr.cell? ⟨gb314, 0, none⟩ = some (.slice Ao11 t308.length co11) := (blk_cell BK314.out 0).trans rfl
          have hcz72_1 : wr.cell? ⟨gb314, 1, none⟩ = some (.int .i64 t311) := (blk_cell BK314.out 1).trans rfl
          have hcz72_2 : wr.cell? ⟨gb314, 2, none⟩ = some (.bool false) := (blk_cell BK314.out 2).trans rfl
          have hfz72_0 := blk_frozen BK314.out 0
          have hfz72_1 := blk_frozen BK314.out 1
          have hfz72_2 := blk_frozen BK314.out 2
          go_wp2
          go_ret
          exact ⟨by first | rfl | (simp [*] <;> rfl) | (exfalso; simp_all; done), by repeat (first | (with_reducible first | exact HB.out | apply below_alloc | apply bN | apply bD | refine below_set ?_ GE314.out | refine below_set ?_ GE321.out) | exact HB.out)⟩
        ·
         rw [if_neg c65] at H
         have c65b0 : (t312 != x10_2) = false := by simpa using c65
         (try (have c65b1 : decide (t312 = x10_2) = true := by simpa using c65))
         (try (have c65b2 : (t312 == x10_2) = true := by simpa using c65))
         clear c65
         obtain rfl := Option.some.inj H
         have hnb73 := NB314_321.out
         have hnc73 := NB321_314.out
         have hcz74_0 : wr.cell? ⟨gb314, 0, none⟩ = some (.slice Ao11 t308.length co11) := (blk_cell BK314.out 0).trans rfl
         have hcz74_1 : wr.cell? ⟨gb314, 1, none⟩ = some (.int .i64 t311) := (blk_cell BK314.out 1).trans rfl
         have hcz74_2 : wr.cell? ⟨gb314, 2, none⟩ = some (.bool t312) := (blk_cell BK314.out 2).trans rfl
         have hfz74_0 := blk_frozen BK314.out 0
         have hfz74_1 := blk_frozen BK314.out 1
         have hfz74_2 := blk_frozen BK314.out 2
         go_wp2
         go_ret
         exact ⟨by first | rfl | (simp [*] <;> rfl) | (exfalso; simp_all; done), by repeat (first | (with_reducible first | exact HB.out | apply below_alloc | apply bN | apply bD | refine below_set ?_ GE314.out | refine below_set ?_ GE321.out) | exact HB.out)⟩
/-- THE ONE PURE STATEMENT of laws_FnNoRound: yours. -/
def laws_FnNoRound.Pure : Prop := ∀ (l0 : List Int), l0.length ≤ maxLen → l0.length * 1 ≤ 140737488351232 → (∀ x ∈ l0, (Lit.int .u8 x).wf = true) → ∃ k, laws_FnNoRound.f k l0 = some true
theorem laws_FnNoRound.walk (P : laws_FnNoRound.Pure) (a0 : Option Addr) (len0 cap0 : Nat) (z0 : List Int) (w : World) (w0 : (a0 = none ∧ len0 = 0 ∧ cap0 = 0 ∧ z0 = []) ∨ ∃ x, a0 = some x ∧ len0 ≤ cap0 ∧ cap0 ≤ maxLen ∧ z0.length = cap0 ∧ (∀ i, i < z0.length → w.cell? (x.add i) = some (.int .u8 (z0.getD i 0))) ∧ ∀ n ∈ z0, (Lit.int .u8 n).wf = true) (y0 : len0 * 1 ≤ 140737488351232) :
  Calls Try.prog 4 #[.slice a0 len0 cap0] w fun e w' => e = .returned (.bool true) ∧ Below w.heap.size w w' := by
 obtain ⟨l0, rfl, hr0, hm0, hw0, hc0⟩ := ReadsInt.ofRowC w0
 obtain ⟨k, h⟩ := P l0 hm0 y0 hw0
 refine (laws_FnNoRound.calls k _ _ l0 true w (Kd.C_of_reads (d := (0 : Int)) (h1 := fun _ => rfl) hr0) hc0 h).mono ?_
 rintro e w' ⟨rfl, hd⟩
 exact ⟨rfl, hd⟩
end Go.Proofs.Ytdbokdodjekchaa.PFnNoRound
