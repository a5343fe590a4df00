/- What the Go functions that this law reaches answer, function by function; conditions: those that each contract names. Made for this claim by a program of this session (wip/myprint) over the kit's print. -/
import Derived.Test.YtdbokdodjekchaaPFnNoRoundx0
import Derived.Test.YtdbokdodjekchaaPFnNoRoundw1
namespace Go.Proofs.Ytdbokdodjekchaa.PFnNoRound
open Go.RowKit Go.Proofs.YtdbokdodjekchaaW.PrintWords Go.Proofs.YtdbokdodjekchaaW.PrintLast Go.Proofs.YtdbokdodjekchaaW.PrintMore
attribute [local go_sem] max2_int min2_int max_two min_two max_three min_three max_four min_four   -- for this text's walks alone
set_option linter.unusedVariables false
set_option linter.unusedSimpArgs false
/-! ### spec_l16Step: function 45 -/
theorem spec_l16Step.R_dr {α : Type} {d : Kd α} {e base : Nat} {ok : Nat → Prop} {w w' : World} {v : Value} {xs : List α} (hq : w.drew = w') (h : d.R e w base ok v xs) : d.R e w' base ok v xs := by subst hq; exact Kd.R_drew h
theorem spec_l16Step.K_dr {u w w' : World} {S : Nat → Prop} (hq : w.drew = w') (h : Kept u w S) : Kept u w' S := by subst hq; exact h.drew
theorem spec_l16Step.B_dr {u w w' : World} {B : Nat} (hq : w.drew = w') (h : Below B u w) : Below B u w' := by subst hq; exact bD h
def spec_l16Step.l0 : Nat → List (List Int) → List Int → List Bool → List Bool → Bool → Int → Option (Bool × List Int × List Bool × List Bool)
 | 0, _, _, _, _, _, _ => none
 | k + 1, x0, x1, x2, x3, x9, x10 => if x10 < (x0.length : Int) then (if 0 ≤ x10 then (if x10 < (x2.length : Int) then (if rdOf false x2 x10 = true then (spec_l16Step.l0 k x0 x1 x2 x3 x9 (wrap64 (x10 + 1))) else (if x10 < (x1.length : Int) then (if (rd x1 x10) = (wrap64 (((rd_L2 x0 x10).length : Int) - 1)) then (if (rd x1 x10) ≥ 0 then (if 0 ≤ (rd x1 x10) then (if (rd x1 x10) < ((rd_L2 x0 x10).length : Int) then (if 0 ≤ (rd (rd_L2 x0 x10) (rd x1 x10)) then (if (rd (rd_L2 x0 x10) (rd x1 x10)) < (x3.length : Int) then (spec_l16Step.l0 k x0 x1 (x2.set (x10 : Int).toNat true) (x3.set ((rd (rd_L2 x0 x10) (rd x1 x10)) : Int).toNat false) true (wrap64 (x10 + 1))) else (none)) else (none)) else (none)) else (none)) else (spec_l16Step.l0 k x0 x1 (x2.set (x10 : Int).toNat true) x3 true (wrap64 (x10 + 1)))) else (if 0 ≤ (wrap64 ((rd x1 x10) + 1)) then (if (wrap64 ((rd x1 x10) + 1)) < ((rd_L2 x0 x10).length : Int) then (if 0 ≤ (rd (rd_L2 x0 x10) (wrap64 ((rd x1 x10) + 1))) then (if (rd (rd_L2 x0 x10) (wrap64 ((rd x1 x10) + 1))) < (x3.length : Int) then (if rdOf false x3 (rd (rd_L2 x0 x10) (wrap64 ((rd x1 x10) + 1))) = true then (spec_l16Step.l0 k x0 x1 x2 x3 x9 (wrap64 (x10 + 1))) else ((some (x3.set ((rd (rd_L2 x0 x10) (wrap64 ((rd x1 x10) + 1))) : Int).toNat true : List Bool)).bind fun y202 => (if (rd x1 x10) ≥ 0 then (if 0 ≤ (rd x1 x10) then (if (rd x1 x10) < ((rd_L2 x0 x10).length : Int) then (if 0 ≤ (rd (rd_L2 x0 x10) (rd x1 x10)) then (if (rd (rd_L2 x0 x10) (rd x1 x10)) < (x3.length : Int) then (spec_l16Step.l0 k x0 (x1.set (x10 : Int).toNat (wrap64 ((rd x1 x10) + 1))) x2 (y202.set ((rd (rd_L2 x0 x10) (rd x1 x10)) : Int).toNat false) true (wrap64 (x10 + 1))) else (none)) else (none)) else (none)) else (none)) else (spec_l16Step.l0 k x0 (x1.set (x10 : Int).toNat (wrap64 ((rd x1 x10) + 1))) x2 y202 true (wrap64 (x10 + 1)))))) else (none)) else (none)) else (none)) else (none))) else (none))) else (none)) else (none)) else (some (x9, x1, x2, x3))
def spec_l16Step.f (k : Nat) (l0 : List (List Int)) (l1 : List Int) (l2 : List Bool) (l3 : List Bool) : Option (Bool × List Int × List Bool × List Bool) := spec_l16Step.l0 k l0 l1 l2 l3 false 0
theorem spec_l16Step.mono_l : ∀ k, (∀ y0 y1 y2 y3 y4 y5, LeO (spec_l16Step.l0 k y0 y1 y2 y3 y4 y5) (spec_l16Step.l0 (k + 1) y0 y1 y2 y3 y4 y5))
 | 0 => fun _ _ _ _ _ _ r h => by simp [spec_l16Step.l0] at h
 | k + 1 => by
  have ih0 := spec_l16Step.mono_l k
  ·
   intro y0 y1 y2 y3 y4 y5
   unfold spec_l16Step.l0
   repeat' first
   | (with_reducible exact ih0 _ _ _ _ _ _)
   | (with_reducible exact LeO.refl _)
   | (with_reducible exact LeO.none _)
   | (with_reducible refine LeO.ite ?_ ?_)
   | (with_reducible refine LeO.bind ?_ (fun _ => ?_))
   | exact ih0 _ _ _ _ _ _
   | exact LeO.none _
   | refine LeO.ite ?_ ?_
   | refine LeO.bind ?_ (fun _ => ?_)
theorem spec_l16Step.mono : ∀ a0 a1 a2 a3 k, LeO (spec_l16Step.f k a0 a1 a2 a3) (spec_l16Step.f (k + 1) a0 a1 a2 a3) := by
 intro a0 a1 a2 a3 k
 have ih0 := spec_l16Step.mono_l k
 unfold spec_l16Step.f
 repeat' first
   | (with_reducible exact ih0 _ _ _ _ _ _)
   | (with_reducible exact LeO.refl _)
   | (with_reducible exact LeO.none _)
   | (with_reducible refine LeO.ite ?_ ?_)
   | (with_reducible refine LeO.bind ?_ (fun _ => ?_))
   | exact ih0 _ _ _ _ _ _
   | exact LeO.none _
   | refine LeO.ite ?_ ?_
   | refine LeO.bind ?_ (fun _ => ?_)
set_option maxHeartbeats 8000000 in
set_option maxRecDepth 100000 in
theorem spec_l16Step.calls (k : Nat) (A0 : Option Addr) (c0 : Nat) (l0 : List (List Int)) (P1_ : Nat → Prop) (u9000_ : Value) (l1 : List Int) (P2_ : Nat → Prop) (u9001_ : Value) (l2 : List Bool) (P3_ : Nat → Prop) (u9002_ : Value) (l3 : List Bool) (r1 : Bool) (r2 : List Int) (r3 : List Bool) (r4 : List Bool) (w0 w : World) (hB : Below w0.heap.size w0 w) (hr0 : ∀ W_, Kept w W_ (fun k_ => P1_ k_ ∨ P2_ k_ ∨ P3_ k_) → Kd.C (Kd.slice 3 (Kd.int .i64)) W_ A0 l0.length l0) (hc0 : l0.length ≤ c0) (ho1 : Kd.R (Kd.int .i64) 3 w w0.heap.size P1_ u9000_ l1) (ho2 : Kd.R Kd.bool 4 w w0.heap.size P2_ u9001_ l2) (hp2_3 : ∀ k_, P2_ k_ → ¬ P3_ k_) (ho3 : Kd.R Kd.bool 4 w w0.heap.size P3_ u9002_ l3) (hp3_2 : ∀ k_, P3_ k_ → ¬ P2_ k_) (h : spec_l16Step.f k l0 l1 l2 l3 = some (r1, r2, r3, r4)) :
  Calls Try.prog 45 #[.slice A0 l0.length c0, u9000_, u9001_, u9002_] w fun e w' => e = .returned (.bool r1) ∧ Kd.R (Kd.int .i64) 3 w' w0.heap.size (fun k_ => ((P1_ k_ ∨ P2_ k_ ∨ P3_ k_) ∨ w.heap.size ≤ k_)) u9000_ r2 ∧ Kd.R Kd.bool 4 w' w0.heap.size (fun k_ => ((P1_ k_ ∨ P2_ k_ ∨ P3_ k_) ∨ w.heap.size ≤ k_)) u9001_ r3 ∧ Kd.R Kd.bool 4 w' w0.heap.size (fun k_ => ((P1_ k_ ∨ P2_ k_ ∨ P3_ k_) ∨ w.heap.size ≤ k_)) u9002_ r4 ∧ Below w0.heap.size w0 w' ∧ Kept w w' (fun k_ => P1_ k_ ∨ P2_ k_ ∨ P3_ k_) := by
 have HR0 := aM hr0
 have HC0 := aM hc0
 clear hr0 hc0
 have HO1 := aM (show Kd.R (Kd.int .i64) 3 w w0.heap.size (fun k_ => ((P1_ k_ ∨ P2_ k_ ∨ P3_ k_) ∨ w.heap.size ≤ k_)) u9000_ l1 from Kd.R_mono ho1 (fun k_ hk => (.inl (.inl hk))))
 have HO2 := aM (show Kd.R Kd.bool 4 w w0.heap.size (fun k_ => ((P1_ k_ ∨ P2_ k_ ∨ P3_ k_) ∨ w.heap.size ≤ k_) ∧ some k_ ≠ (u9002_ : Value).ownBlock) u9001_ l2 from Kd.R_mono ho2 (fun k_ hk => ⟨(.inl (.inr (.inl hk))), fun e_ => hp2_3 k_ hk (ho3.1 k_ e_.symm)⟩))
 have HO3 := aM (show Kd.R Kd.bool 4 w w0.heap.size (fun k_ => ((P1_ k_ ∨ P2_ k_ ∨ P3_ k_) ∨ w.heap.size ≤ k_) ∧ some k_ ≠ (u9001_ : Value).ownBlock) u9002_ l3 from Kd.R_mono ho3 (fun k_ hk => ⟨(.inl (.inr (.inr hk))), fun e_ => hp3_2 k_ hk (ho2.1 k_ e_.symm)⟩))
 have HK := aM (Kept.refl w (fun k_ => P1_ k_ ∨ P2_ k_ ∨ P3_ k_))
 have HW0 := aM hB.size
 have HB := aM hB
 clear hB
 have H : (spec_l16Step.l0 k l0 l1 l2 l3 false 0) = some (r1, r2, r3, r4) := h
 clear h
 have H' := aM H
 clear H
 go_enter Try.func45, Try.ntmps45
 go_wp2
 go_loopg [9, 10] k (fun kq v9 v10 w' => ∃ (x1_1 : List Int) (x2_1 : List Bool) (x3_1 : List Bool) (x9_1 : Bool) (x10_1 : Int), v9 = .bool x9_1 ∧ v10 = .int .i64 x10_1 ∧ Aside0 (spec_l16Step.l0 kq l0 x1_1 x2_1 x3_1 x9_1 x10_1 = some (r1, r2, r3, r4)) ∧ Aside0 (kq ≤ k) ∧ Aside0 (Kd.R (Kd.int .i64) 3 w' w0.heap.size (fun k_ => ((P1_ k_ ∨ P2_ k_ ∨ P3_ k_) ∨ w.heap.size ≤ k_)) u9000_ x1_1) ∧ Aside0 (Kd.R Kd.bool 4 w' w0.heap.size (fun k_ => ((P1_ k_ ∨ P2_ k_ ∨ P3_ k_) ∨ w.heap.size ≤ k_) ∧ some k_ ≠ (u9002_ : Value).ownBlock) u9001_ x2_1) ∧ Aside0 (Kd.R Kd.bool 4 w' w0.heap.size (fun k_ => ((P1_ k_ ∨ P2_ k_ ∨ P3_ k_) ∨ w.heap.size ≤ k_) ∧ some k_ ≠ (u9001_ : Value).ownBlock) u9002_ x3_1) ∧ Aside0 (Kept w w' (fun k_ => P1_ k_ ∨ P2_ k_ ∨ P3_ k_)) ∧ Aside0 (Below w0.heap.size w0 w'))
 case atStart => exact ⟨(l1), (l2), (l3), (false), (0), (by first | rfl | (simp; done) | (simp [*]; done)), (by first | rfl | (simp; done) | (simp [*]; done)), H', ⟨Nat.le_refl _⟩, ⟨by (with_reducible repeat (first | apply Kd.R_alloc | apply Kd.R_drewN | apply Kd.R_drew)); exact HO1.out⟩, ⟨by (with_reducible repeat (first | apply Kd.R_alloc | apply Kd.R_drewN | apply Kd.R_drew)); exact HO2.out⟩, ⟨by (with_reducible repeat (first | apply Kd.R_alloc | apply Kd.R_drewN | apply Kd.R_drew)); exact HO3.out⟩, ⟨by repeat (first | (with_reducible first | exact HK.out | apply Kept.alloc | apply Kept.drewN | apply Kept.drew) | exact HK.out)⟩, ⟨by repeat (first | (with_reducible first | exact HB.out | apply below_alloc | apply bN | apply bD) | exact HB.out)⟩⟩
 case round =>
  clear H'
  try clear p2
  try clear p3
  try clear c4
  obtain ⟨x1_1, x2_1, x3_1, x9_1, x10_1, rfl, rfl, HA, HK1, HO_1, HO_2, HO_3, HK, HB⟩ := hrel
  cases gk with
  | zero => exact absurd HA.out (by simp [spec_l16Step.l0])
  | succ k1 =>
   have H := HA.out
   clear HA
   simp only [spec_l16Step.l0] at H
   by_cases c5 : x10_1 < (l0.length : Int)
   ·
    rw [if_pos c5] at H
    have c5b0 : decide (x10_1 < (l0.length : Int)) = true := decide_eq_true c5
    clear c5
    by_cases c6 : 0 ≤ x10_1
    ·
     rw [if_pos c6] at H
     have c6b0 : decide (0 ≤ x10_1) = true := decide_eq_true c6
     clear c6
     by_cases c7 : x10_1 < (x2_1.length : Int)
     ·
      rw [if_pos c7] at H
      have c7b0 : decide (x10_1 < (x2_1.length : Int)) = true := decide_eq_true c7
      clear c7
      obtain ⟨bq8, hbq8⟩ : ∃ b_ : Bool, b_ = (rdOf false x2_1 x10_1) := ⟨_, rfl⟩
      replace H : (if bq8 = true then (spec_l16Step.l0 k1 l0 x1_1 x2_1 x3_1 x9_1 (wrap64 (x10_1 + 1))) else (if x10_1 < (x1_1.length : Int) then (if (rd x1_1 x10_1) = (wrap64 (((rd_L2 l0 x10_1).length : Int) - 1)) then (if (rd x1_1 x10_1) ≥ 0 then (if 0 ≤ (rd x1_1 x10_1) then (if (rd x1_1 x10_1) < ((rd_L2 l0 x10_1).length : Int) then (if 0 ≤ (rd (rd_L2 l0 x10_1) (rd x1_1 x10_1)) then (if (rd (rd_L2 l0 x10_1) (rd x1_1 x10_1)) < (x3_1.length : Int) then (spec_l16Step.l0 k1 l0 x1_1 (x2_1.set (x10_1 : Int).toNat true) (x3_1.set ((rd (rd_L2 l0 x10_1) (rd x1_1 x10_1)) : Int).toNat false) true (wrap64 (x10_1 + 1))) else (none)) else (none)) else (none)) else (none)) else (spec_l16Step.l0 k1 l0 x1_1 (x2_1.set (x10_1 : Int).toNat true) x3_1 true (wrap64 (x10_1 + 1)))) else (if 0 ≤ (wrap64 ((rd x1_1 x10_1) + 1)) then (if (wrap64 ((rd x1_1 x10_1) + 1)) < ((rd_L2 l0 x10_1).length : Int) then (if 0 ≤ (rd (rd_L2 l0 x10_1) (wrap64 ((rd x1_1 x10_1) + 1))) then (if (rd (rd_L2 l0 x10_1) (wrap64 ((rd x1_1 x10_1) + 1))) < (x3_1.length : Int) then (if rdOf false x3_1 (rd (rd_L2 l0 x10_1) (wrap64 ((rd x1_1 x10_1) + 1))) = true then (spec_l16Step.l0 k1 l0 x1_1 x2_1 x3_1 x9_1 (wrap64 (x10_1 + 1))) else ((some (x3_1.set ((rd (rd_L2 l0 x10_1) (wrap64 ((rd x1_1 x10_1) + 1))) : Int).toNat true : List Bool)).bind fun y202 => (if (rd x1_1 x10_1) ≥ 0 then (if 0 ≤ (rd x1_1 x10_1) then (if (rd x1_1 x10_1) < ((rd_L2 l0 x10_1).length : Int) then (if 0 ≤ (rd (rd_L2 l0 x10_1) (rd x1_1 x10_1)) then (if (rd (rd_L2 l0 x10_1) (rd x1_1 x10_1)) < (x3_1.length : Int) then (spec_l16Step.l0 k1 l0 (x1_1.set (x10_1 : Int).toNat (wrap64 ((rd x1_1 x10_1) + 1))) x2_1 (y202.set ((rd (rd_L2 l0 x10_1) (rd x1_1 x10_1)) : Int).toNat false) true (wrap64 (x10_1 + 1))) else (none)) else (none)) else (none)) else (none)) else (spec_l16Step.l0 k1 l0 (x1_1.set (x10_1 : Int).toNat (wrap64 ((rd x1_1 x10_1) + 1))) x2_1 y202 true (wrap64 (x10_1 + 1)))))) else (none)) else (none)) else (none)) else (none))) else (none))) = some (r1, r2, r3, r4) := by rw [← hbq8] at H; exact H
      have Nbq8 := aM hbq8
      clear hbq8
      by_cases c9 : bq8 = true
      ·
       subst c9
       have H1 : (spec_l16Step.l0 k1 l0 x1_1 x2_1 x3_1 x9_1 (wrap64 (x10_1 + 1))) = some (r1, r2, r3, r4) := by rw [if_pos rfl] at H; exact H
       clear H
       have H := H1
       clear H1
       have H' := aM H
       clear H
       obtain ⟨Ao10, co10, eo10⟩ := Kd.R_slice HO_2.out
       subst eo10
       have p188 : 0 ≤ (x10_1 : Int) := of_decide_eq_true (by assumption)
       have q188 : x10_1 < (x2_1.length : Int) := of_decide_eq_true (by assumption)
       obtain ⟨ad188, e188, hx188_0⟩ := Kd.at_bool (Kd.R_reads' HO_2.out).2.2 x10_1 p188 q188
       (try rw [← Nbq8.out] at hx188_0)
       cases e188
       replace p188 := eq_true p188
       replace q188 := eq_true q188
       go_wp2
       go_roundg k1
       case measure => have := HK1.out; omega
       case rel => exact ⟨(x1_1), (x2_1), (x3_1), (x9_1), (wrap64 (x10_1 + 1)), (by first | rfl | (simp; done) | (simp [*]; done)), (by first | rfl | (simp; done) | (simp [*]; done)), H', ⟨by have := HK1.out; omega⟩, ⟨by (with_reducible repeat (first | apply Kd.R_alloc | apply Kd.R_drewN | apply Kd.R_drew)); exact HO_1.out⟩, ⟨by (with_reducible repeat (first | apply Kd.R_alloc | apply Kd.R_drewN | apply Kd.R_drew)); exact HO_2.out⟩, ⟨by (with_reducible repeat (first | apply Kd.R_alloc | apply Kd.R_drewN | apply Kd.R_drew)); exact HO_3.out⟩, ⟨by repeat (first | (with_reducible first | exact HK.out | apply Kept.alloc | apply Kept.drewN | apply Kept.drew) | exact HK.out)⟩, ⟨by repeat (first | (with_reducible first | exact HB.out | apply below_alloc | apply bN | apply bD) | exact HB.out)⟩⟩
      ·
       replace c9 := Bool.eq_false_iff.mpr c9
       subst c9
       have H1 : (if x10_1 < (x1_1.length : Int) then (if (rd x1_1 x10_1) = (wrap64 (((rd_L2 l0 x10_1).length : Int) - 1)) then (if (rd x1_1 x10_1) ≥ 0 then (if 0 ≤ (rd x1_1 x10_1) then (if (rd x1_1 x10_1) < ((rd_L2 l0 x10_1).length : Int) then (if 0 ≤ (rd (rd_L2 l0 x10_1) (rd x1_1 x10_1)) then (if (rd (rd_L2 l0 x10_1) (rd x1_1 x10_1)) < (x3_1.length : Int) then (spec_l16Step.l0 k1 l0 x1_1 (x2_1.set (x10_1 : Int).toNat true) (x3_1.set ((rd (rd_L2 l0 x10_1) (rd x1_1 x10_1)) : Int).toNat false) true (wrap64 (x10_1 + 1))) else (none)) else (none)) else (none)) else (none)) else (spec_l16Step.l0 k1 l0 x1_1 (x2_1.set (x10_1 : Int).toNat true) x3_1 true (wrap64 (x10_1 + 1)))) else (if 0 ≤ (wrap64 ((rd x1_1 x10_1) + 1)) then (if (wrap64 ((rd x1_1 x10_1) + 1)) < ((rd_L2 l0 x10_1).length : Int) then (if 0 ≤ (rd (rd_L2 l0 x10_1) (wrap64 ((rd x1_1 x10_1) + 1))) then (if (rd (rd_L2 l0 x10_1) (wrap64 ((rd x1_1 x10_1) + 1))) < (x3_1.length : Int) then (if rdOf false x3_1 (rd (rd_L2 l0 x10_1) (wrap64 ((rd x1_1 x10_1) + 1))) = true then (spec_l16Step.l0 k1 l0 x1_1 x2_1 x3_1 x9_1 (wrap64 (x10_1 + 1))) else ((some (x3_1.set ((rd (rd_L2 l0 x10_1) (wrap64 ((rd x1_1 x10_1) + 1))) : Int).toNat true : List Bool)).bind fun y202 => (if (rd x1_1 x10_1) ≥ 0 then (if 0 ≤ (rd x1_1 x10_1) then (if (rd x1_1 x10_1) < ((rd_L2 l0 x10_1).length : Int) then (if 0 ≤ (rd (rd_L2 l0 x10_1) (rd x1_1 x10_1)) then (if (rd (rd_L2 l0 x10_1) (rd x1_1 x10_1)) < (x3_1.length : Int) then (spec_l16Step.l0 k1 l0 (x1_1.set (x10_1 : Int).toNat (wrap64 ((rd x1_1 x10_1) + 1))) x2_1 (y202.set ((rd (rd_L2 l0 x10_1) (rd x1_1 x10_1)) : Int).toNat false) true (wrap64 (x10_1 + 1))) else (none)) else (none)) else (none)) else (none)) else (spec_l16Step.l0 k1 l0 (x1_1.set (x10_1 : Int).toNat (wrap64 ((rd x1_1 x10_1) + 1))) x2_1 y202 true (wrap64 (x10_1 + 1)))))) else (none)) else (none)) else (none)) else (none))) else (none)) = some (r1, r2, r3, r4) := by rw [if_neg (show ¬ (false = true) by decide)] at H; exact H
       clear H
       have H := H1
       clear H1
       by_cases c11 : x10_1 < (x1_1.length : Int)
       ·
        rw [if_pos c11] at H
        have c11b0 : decide (x10_1 < (x1_1.length : Int)) = true := decide_eq_true c11
        clear c11
        by_cases c12 : (rd x1_1 x10_1) = (wrap64 (((rd_L2 l0 x10_1).length : Int) - 1))
        ·
         rw [if_pos c12] at H
         have c12b0 : ((rd x1_1 x10_1) == (wrap64 (((rd_L2 l0 x10_1).length : Int) - 1))) = true := beq_iff_eq.mpr c12
         have c12b1 : ((rd x1_1 x10_1) != (wrap64 (((rd_L2 l0 x10_1).length : Int) - 1))) = false := bne_eq_false_iff_eq.mpr c12
         clear c12
         by_cases c13 : (rd x1_1 x10_1) ≥ 0
         ·
          rw [if_pos c13] at H
          have c13b0 : decide (0 ≤ (rd x1_1 x10_1)) = true := decide_eq_true c13
          clear c13
          by_cases c14 : 0 ≤ (rd x1_1 x10_1)
          ·
           rw [if_pos c14] at H
           have c14b0 : decide (0 ≤ (rd x1_1 x10_1)) = true := decide_eq_true c14
           clear c14
           by_cases c15 : (rd x1_1 x10_1) < ((rd_L2 l0 x10_1).length : Int)
           ·
            rw [if_pos c15] at H
            have c15b0 : decide ((rd x1_1 x10_1) < ((rd_L2 l0 x10_1).length : Int)) = true := decide_eq_true c15
            clear c15
            by_cases c16 : 0 ≤ (rd (rd_L2 l0 x10_1) (rd x1_1 x10_1))
            ·
             rw [if_pos c16] at H
             have c16b0 : decide (0 ≤ (rd (rd_L2 l0 x10_1) (rd x1_1 x10_1))) = true := decide_eq_true c16
             clear c16
             by_cases c17 : (rd (rd_L2 l0 x10_1) (rd x1_1 x10_1)) < (x3_1.length : Int)
             ·
              rw [if_pos c17] at H
              have c17b0 : decide ((rd (rd_L2 l0 x10_1) (rd x1_1 x10_1)) < (x3_1.length : Int)) = true := decide_eq_true c17
              clear c17
              obtain ⟨y195, hy195⟩ : ∃ y_ : List Bool, y_ = (x3_1.set ((rd (rd_L2 l0 x10_1) (rd x1_1 x10_1)) : Int).toNat false) := ⟨_, rfl⟩
              replace H : (spec_l16Step.l0 k1 l0 x1_1 (x2_1.set (x10_1 : Int).toNat true) y195 true (wrap64 (x10_1 + 1))) = some (r1, r2, r3, r4) := by first | (rw [hy195]; with_reducible exact H) | (have H2_ := (Option.bind_some _ _).symm.trans H; rw [hy195]; with_reducible exact H2_) | (have H2_ := (Option.bind_some _ _).symm.trans H; with_reducible exact H2_) | with_reducible exact H | (rw [hy195]; exact H) | exact H
              have Ny195 := aM hy195
              clear hy195
              obtain ⟨y196, hy196⟩ : ∃ y_ : List Bool, y_ = (x2_1.set (x10_1 : Int).toNat true) := ⟨_, rfl⟩
              replace H : (spec_l16Step.l0 k1 l0 x1_1 y196 y195 true (wrap64 (x10_1 + 1))) = some (r1, r2, r3, r4) := by first | (rw [hy196]; with_reducible exact H) | (have H2_ := (Option.bind_some _ _).symm.trans H; rw [hy196]; with_reducible exact H2_) | (have H2_ := (Option.bind_some _ _).symm.trans H; with_reducible exact H2_) | with_reducible exact H | (rw [hy196]; exact H) | exact H
              have Ny196 := aM hy196
              clear hy196
              have H' := aM H
              clear H
              obtain ⟨Ao20, co20, eo20⟩ := Kd.R_slice HO_2.out
              subst eo20
              have p188 : 0 ≤ (x10_1 : Int) := of_decide_eq_true (by assumption)
              have q188 : x10_1 < (x2_1.length : Int) := of_decide_eq_true (by assumption)
              obtain ⟨ad188, e188, hx188_0⟩ := Kd.at_bool (Kd.R_reads' HO_2.out).2.2 x10_1 p188 q188
              (try rw [← Nbq8.out] at hx188_0)
              cases e188
              replace p188 := eq_true p188
              replace q188 := eq_true q188
              obtain ⟨Ao21, co21, eo21⟩ := Kd.R_slice HO_1.out
              subst eo21
              have p189 : 0 ≤ (x10_1 : Int) := of_decide_eq_true (by assumption)
              have q189 : x10_1 < (x1_1.length : Int) := of_decide_eq_true (by assumption)
              obtain ⟨ad189, e189, hx189_0⟩ := Kd.at_int (Kd.R_reads' HO_1.out).2.2 x10_1 p189 q189
              cases e189
              replace p189 := eq_true p189
              replace q189 := eq_true q189
              have p190 : 0 ≤ (x10_1 : Int) := of_decide_eq_true (by assumption)
              have q190 : x10_1 < (l0.length : Int) := of_decide_eq_true (by assumption)
              obtain ⟨ad190, A190_0, c190_0, e190, hx190_0, hl190_0, hi190_0⟩ := at_L2 (Kd.C_kept_now HR0.out HK.out) x10_1 p190 q190
              cases e190
              have HR190_0 := aM hi190_0
              have HC190_0 := aM hl190_0
              clear hi190_0 hl190_0
              replace p190 := eq_true p190
              replace q190 := eq_true q190
              have p191 : 0 ≤ (x10_1 : Int) := of_decide_eq_true (by assumption)
              have q191 : x10_1 < (x1_1.length : Int) := of_decide_eq_true (by assumption)
              obtain ⟨ad191, e191, hx191_0⟩ := Kd.at_int (Kd.R_reads' HO_1.out).2.2 x10_1 p191 q191
              obtain rfl : ad189 = ad191 := (by injection e191)
              replace p191 := eq_true p191
              replace q191 := eq_true q191
              have p192 : 0 ≤ (x10_1 : Int) := of_decide_eq_true (by assumption)
              have q192 : x10_1 < (l0.length : Int) := of_decide_eq_true (by assumption)
              obtain ⟨ad192, A192_0, c192_0, e192, hx192_0, hl192_0, hi192_0⟩ := at_L2 (Kd.C_kept_now HR0.out HK.out) x10_1 p192 q192
              obtain rfl : ad190 = ad192 := (by injection e192)
              have HR192_0 := aM hi192_0
              have HC192_0 := aM hl192_0
              clear hi192_0 hl192_0
              replace p192 := eq_true p192
              replace q192 := eq_true q192
              have ea_ := Option.some.inj (hx190_0.symm.trans hx192_0)
              injection ea_ with ea_ en_ ec_
              subst ea_
              subst ec_
              clear en_
              have p193 : 0 ≤ (x10_1 : Int) := of_decide_eq_true (by assumption)
              have q193 : x10_1 < (x1_1.length : Int) := of_decide_eq_true (by assumption)
              obtain ⟨ad193, e193, hx193_0⟩ := Kd.at_int (Kd.R_reads' HO_1.out).2.2 x10_1 p193 q193
              obtain rfl : ad189 = ad193 := (by injection e193)
              replace p193 := eq_true p193
              replace q193 := eq_true q193
              have p194 : 0 ≤ ((rd x1_1 x10_1) : Int) := of_decide_eq_true (by assumption)
              have q194 : (rd x1_1 x10_1) < ((rd_L2 l0 x10_1).length : Int) := of_decide_eq_true (by assumption)
              obtain ⟨ad194, e194, hx194_0⟩ := Kd.at_int (by repeat (first | (with_reducible exact HR192_0.out) | (with_reducible refine Kd.C_alloc ?_ _) | (with_reducible refine Kd.C_drewN ?_ _) | (with_reducible refine Kd.C_drew ?_) | exact HR192_0.out)) (rd x1_1 x10_1) p194 q194
              cases e194
              replace p194 := eq_true p194
              replace q194 := eq_true q194
              clear HR190_0
              clear HR192_0
              go_wp2
              go_quiet (fail)
              (try simp only [i64_w, i32_w])
              generalize hW : wr.drewN _ = wz1
              replace HO_1 := aM (Kd.R_at hW HO_1.out)
              replace HO_2 := aM (Kd.R_at hW HO_2.out)
              replace HO_3 := aM (Kd.R_at hW HO_3.out)
              replace HK := aM (kept_at hW HK.out)
              replace HB := aM (below_at hW HB.out)
              have hq : ∀ p, wr.cell? p = wz1.cell? p := fun p => by rw [← hW]; rfl
              have hqf : ∀ p, wr.frozen? p = wz1.frozen? p := fun p => by rw [← hW]; rfl
              rw [hq] at hx188_0
              rw [hq] at hx189_0
              rw [hq] at hx190_0
              rw [hq] at hx191_0
              rw [hq] at hx192_0
              rw [hq] at hx193_0
              rw [hq] at hx194_0
              clear hq hqf hW
              have p18 : 0 ≤ ((rd (rd_L2 l0 x10_1) (rd x1_1 x10_1)) : Int) := of_decide_eq_true (by assumption)
              have q18 : ((rd (rd_L2 l0 x10_1) (rd x1_1 x10_1)) : Int) < ((x3_1.length : Int) : Int) := of_decide_eq_true (by assumption)
              obtain ⟨go18, co18, eo18, gb18, gl18, cl18, HG18⟩ := Kd.R_form HO_3.out (by omega)
              (first | cases eo18 | (injection eo18 with ea_ en_ ec_; (first | subst ea_ | (injection ea_ with ea_; subst ea_)); subst ec_; clear en_))
              have GB18 := aM gb18
              have GG18 := aM HG18
              clear gb18 gl18 HG18
              have HMgo18 := aM (show ((P1_ go18 ∨ P2_ go18 ∨ P3_ go18) ∨ w.heap.size ≤ go18) from (HO_3.out.1 _ rfl).1)
              obtain ⟨hx18_0, hf18_0⟩ := Kd.R_celln false HO_3.out ((rd (rd_L2 l0 x10_1) (rd x1_1 x10_1)) : Int) p18 q18
              replace p18 := eq_true p18
              replace q18 := eq_true q18
              have HP22 := Kd.R_putg HO_3.out ((rd (rd_L2 l0 x10_1) (rd x1_1 x10_1)) : Int) false
              go_wp2
              clear HP22
              go_still_tail 12, (by kernel_rfl)
              change wpList _ _ _ _ _ wz1.drew
              (try simp only [i64_w, i32_w])
              generalize hW : wz1.drew = wz2
              replace HO_1 := aM (spec_l16Step.R_dr hW HO_1.out)
              replace HO_2 := aM (spec_l16Step.R_dr hW HO_2.out)
              replace HO_3 := aM (spec_l16Step.R_dr hW HO_3.out)
              replace HK := aM (spec_l16Step.K_dr hW HK.out)
              replace HB := aM (spec_l16Step.B_dr hW HB.out)
              have hq : ∀ p, wz1.cell? p = wz2.cell? p := fun p => by rw [← hW]; rfl
              have hqf : ∀ p, wz1.frozen? p = wz2.frozen? p := fun p => by rw [← hW]; rfl
              rw [hq] at hx188_0
              rw [hq] at hx189_0
              rw [hq] at hx190_0
              rw [hq] at hx191_0
              rw [hq] at hx192_0
              rw [hq] at hx193_0
              rw [hq] at hx194_0
              rw [hq] at hx18_0
              rw [hqf] at hf18_0
              have HP22 := Kd.R_putg HO_3.out ((rd (rd_L2 l0 x10_1) (rd x1_1 x10_1)) : Int) false
              clear hq hqf hW
              go_wp2_with (first | ((with_reducible refine gate_store (t := 4) (p := 49) rfl ?_); refine store_event (t := 4) (p := 49) (v := ?vo_w23) (w1 := (wz2.setCell ⟨go18, ((rd (rd_L2 l0 x10_1) (rd x1_1 x10_1)) : Int).toNat, none⟩ (.bool false))) ?hg ?ho ?hn ?hr ?_; (case ho => rfl); (case hg => rfl); (case hn => rfl); (case hr => first | (go_simp; done) | (go_simp; rfl)); intro w23 hw; have hg : wz2.grownBy w23 (some go18) := (by rw [hw]; exact HP22.2); have hp_ : Kd.R Kd.bool 4 w23 w0.heap.size (fun k_ => ((P1_ k_ ∨ P2_ k_ ∨ P3_ k_) ∨ w.heap.size ≤ k_) ∧ some k_ ≠ (.slice (some ad188) x2_1.length co20 : Value).ownBlock) (.slice (some ⟨go18, 0, none⟩) x3_1.length co18) y195 := (by rw [hw, Ny195.out]; exact HP22.1); clear HP22; have n0_ := aM (Kd.R_over' (v := (.slice (some ⟨go18, 0, none⟩) x3_1.length co18)) (by (with_reducible repeat (first | apply Kd.R_alloc | apply Kd.R_drewN | apply Kd.R_drew)); exact HO_1.out) (Kd.R_typed HO_3.out) (by decide) hg); have n1_ := aM (Kd.R_after (v := (.slice (some ⟨go18, 0, none⟩) x3_1.length co18)) (v1 := (.slice (some ⟨go18, 0, none⟩) x3_1.length co18)) (ok := (fun k_ => ((P1_ k_ ∨ P2_ k_ ∨ P3_ k_) ∨ w.heap.size ≤ k_))) (by (with_reducible repeat (first | apply Kd.R_alloc | apply Kd.R_drewN | apply Kd.R_drew)); exact HO_2.out) hg (.inl rfl)); have n2_ := aM (hp_); have n3_ := aM ((by rw [hw]; exact below_set (HB.out) GB18.out : Below w0.heap.size w0 w23)); have n4_ := aM (Kept.of_grown (S := (fun k_ => P1_ k_ ∨ P2_ k_ ∨ P3_ k_)) hg (by repeat (first | (with_reducible first | exact HK.out | apply Kept.alloc | apply Kept.drewN | apply Kept.drew) | exact HK.out)) (fun k_ e_ => (HO_3.out.1 k_ e_).1)); clear HO_1; clear HO_2; clear HO_3; clear HB; clear HK; have HO_1 := n0_; have HO_2 := n1_; have HO_3 := n2_; have HB := n3_; have HK := n4_; clear n0_ n1_ n2_ n3_ n4_; clear hg hw hp_; have p19 : 0 ≤ (x10_1 : Int) := of_decide_eq_true (by assumption); have q19 : (x10_1 : Int) < ((x2_1.length : Int) : Int) := of_decide_eq_true (by assumption); obtain ⟨go19, co19, eo19, gb19, gl19, cl19, HG19⟩ := Kd.R_form HO_2.out (by omega); (first | cases eo19 | (injection eo19 with ea_ en_ ec_; (first | subst ea_ | (injection ea_ with ea_; subst ea_)); subst ec_; clear en_)); have GB19 := aM gb19; have GG19 := aM HG19; clear gb19 gl19 HG19; have HMgo19 := aM (show ((P1_ go19 ∨ P2_ go19 ∨ P3_ go19) ∨ w.heap.size ≤ go19) from (HO_2.out.1 _ rfl).1); (first | simp only [add_plain] at hx188_0 | skip); obtain ⟨hx19_0, hf19_0⟩ := Kd.R_celln false HO_2.out (x10_1 : Int) p19 q19; replace p19 := eq_true p19; replace q19 := eq_true q19; obtain ⟨hy24_, hz24_⟩ := Kd.R_celln false HO_2.out (x10_1 : Int) (of_decide_eq_true (by assumption)) (of_decide_eq_true (by assumption)); have HP24 := Kd.R_putg HO_2.out (x10_1 : Int) true) | ((with_reducible refine gate_store (t := 4) (p := 52) rfl ?_); refine store_event (t := 4) (p := 52) (v := ?vo_w25) (w1 := (w23.setCell ⟨go19, (x10_1 : Int).toNat, none⟩ (.bool true))) ?hg ?ho ?hn ?hr ?_; (case ho => rfl); (case hg => rfl); (case hn => rfl); (case hr => first | (go_simp; done) | (go_simp; rfl)); intro w25 hw; have hg : w23.grownBy w25 (some go19) := (by rw [hw]; exact HP24.2); have hp_ : Kd.R Kd.bool 4 w25 w0.heap.size (fun k_ => ((P1_ k_ ∨ P2_ k_ ∨ P3_ k_) ∨ w.heap.size ≤ k_) ∧ some k_ ≠ (.slice (some ⟨go18, 0, none⟩) x3_1.length co18 : Value).ownBlock) (.slice (some ⟨go19, 0, none⟩) x2_1.length co20) y196 := (by rw [hw, Ny196.out]; exact HP24.1); clear HP24; have n0_ := aM (Kd.R_over' (v := (.slice (some ⟨go19, 0, none⟩) x2_1.length co20)) (by (with_reducible repeat (first | apply Kd.R_alloc | apply Kd.R_drewN | apply Kd.R_drew)); exact HO_1.out) (Kd.R_typed HO_2.out) (by decide) hg); have n1_ := aM (hp_); have n2_ := aM (Kd.R_after (v := (.slice (some ⟨go19, 0, none⟩) x2_1.length co20)) (v1 := (.slice (some ⟨go19, 0, none⟩) x2_1.length co20)) (ok := (fun k_ => ((P1_ k_ ∨ P2_ k_ ∨ P3_ k_) ∨ w.heap.size ≤ k_))) (by (with_reducible repeat (first | apply Kd.R_alloc | apply Kd.R_drewN | apply Kd.R_drew)); exact HO_3.out) hg (.inl rfl)); have n3_ := aM ((by rw [hw]; exact below_set (HB.out) GB19.out : Below w0.heap.size w0 w25)); have n4_ := aM (Kept.of_grown (S := (fun k_ => P1_ k_ ∨ P2_ k_ ∨ P3_ k_)) hg (by repeat (first | (with_reducible first | exact HK.out | apply Kept.alloc | apply Kept.drewN | apply Kept.drew) | exact HK.out)) (fun k_ e_ => (HO_2.out.1 k_ e_).1)); clear HO_1; clear HO_2; clear HO_3; clear HB; clear HK; have HO_1 := n0_; have HO_2 := n1_; have HO_3 := n2_; have HB := n3_; have HK := n4_; clear n0_ n1_ n2_ n3_ n4_; clear hg hw hp_))
              go_roundg k1
              case measure => have := HK1.out; omega
              case rel => exact ⟨(x1_1), (y196), (y195), (true), (wrap64 (x10_1 + 1)), (by first | rfl | (simp; done) | (simp [*]; done)), (by first | rfl | (simp; done) | (simp [*]; done)), H', ⟨by have := HK1.out; omega⟩, ⟨by (with_reducible repeat (first | apply Kd.R_alloc | apply Kd.R_drewN | apply Kd.R_drew)); exact HO_1.out⟩, ⟨by (with_reducible repeat (first | apply Kd.R_alloc | apply Kd.R_drewN | apply Kd.R_drew)); exact HO_2.out⟩, ⟨by (with_reducible repeat (first | apply Kd.R_alloc | apply Kd.R_drewN | apply Kd.R_drew)); exact HO_3.out⟩, ⟨by repeat (first | (with_reducible first | exact HK.out | apply Kept.alloc | apply Kept.drewN | apply Kept.drew) | exact HK.out)⟩, ⟨by repeat (first | (with_reducible first | exact HB.out | apply below_alloc | apply bN | apply bD) | exact HB.out)⟩⟩
             ·
              rw [if_neg c17] at H
              exact absurd H (by simp)
            ·
             rw [if_neg c16] at H
             exact absurd H (by simp)
           ·
            rw [if_neg c15] at H
            exact absurd H (by simp)
          ·
           rw [if_neg c14] at H
           exact absurd H (by simp)
         ·
          rw [if_neg c13] at H
          have c13b0 : decide (0 ≤ (rd x1_1 x10_1)) = false := decide_eq_false c13
          clear c13
          obtain ⟨y197, hy197⟩ : ∃ y_ : List Bool, y_ = (x2_1.set (x10_1 : Int).toNat true) := ⟨_, rfl⟩
          replace H : (spec_l16Step.l0 k1 l0 x1_1 y197 x3_1 true (wrap64 (x10_1 + 1))) = some (r1, r2, r3, r4) := by first | (rw [hy197]; with_reducible exact H) | (have H2_ := (Option.bind_some _ _).symm.trans H; rw [hy197]; with_reducible exact H2_) | (have H2_ := (Option.bind_some _ _).symm.trans H; with_reducible exact H2_) | with_reducible exact H | (rw [hy197]; exact H) | exact H
          have Ny197 := aM hy197
          clear hy197
          have H' := aM H
          clear H
          obtain ⟨Ao27, co27, eo27⟩ := Kd.R_slice HO_2.out
          subst eo27
          have p188 : 0 ≤ (x10_1 : Int) := of_decide_eq_true (by assumption)
          have q188 : x10_1 < (x2_1.length : Int) := of_decide_eq_true (by assumption)
          obtain ⟨ad188, e188, hx188_0⟩ := Kd.at_bool (Kd.R_reads' HO_2.out).2.2 x10_1 p188 q188
          (try rw [← Nbq8.out] at hx188_0)
          cases e188
          replace p188 := eq_true p188
          replace q188 := eq_true q188
          obtain ⟨Ao28, co28, eo28⟩ := Kd.R_slice HO_1.out
          subst eo28
          have p189 : 0 ≤ (x10_1 : Int) := of_decide_eq_true (by assumption)
          have q189 : x10_1 < (x1_1.length : Int) := of_decide_eq_true (by assumption)
          obtain ⟨ad189, e189, hx189_0⟩ := Kd.at_int (Kd.R_reads' HO_1.out).2.2 x10_1 p189 q189
          cases e189
          replace p189 := eq_true p189
          replace q189 := eq_true q189
          have p190 : 0 ≤ (x10_1 : Int) := of_decide_eq_true (by assumption)
          have q190 : x10_1 < (l0.length : Int) := of_decide_eq_true (by assumption)
          obtain ⟨ad190, A190_0, c190_0, e190, hx190_0, hl190_0, hi190_0⟩ := at_L2 (Kd.C_kept_now HR0.out HK.out) x10_1 p190 q190
          cases e190
          have HR190_0 := aM hi190_0
          have HC190_0 := aM hl190_0
          clear hi190_0 hl190_0
          replace p190 := eq_true p190
          replace q190 := eq_true q190
          have p191 : 0 ≤ (x10_1 : Int) := of_decide_eq_true (by assumption)
          have q191 : x10_1 < (x1_1.length : Int) := of_decide_eq_true (by assumption)
          obtain ⟨ad191, e191, hx191_0⟩ := Kd.at_int (Kd.R_reads' HO_1.out).2.2 x10_1 p191 q191
          obtain rfl : ad189 = ad191 := (by injection e191)
          replace p191 := eq_true p191
          replace q191 := eq_true q191
          clear HR190_0
          go_wp2
          go_quiet (fail)
          (try simp only [i64_w, i32_w])
          generalize hW : wr.drewN _ = wz1
          replace HO_1 := aM (Kd.R_at hW HO_1.out)
          replace HO_2 := aM (Kd.R_at hW HO_2.out)
          replace HO_3 := aM (Kd.R_at hW HO_3.out)
          replace HK := aM (kept_at hW HK.out)
          replace HB := aM (below_at hW HB.out)
          have hq : ∀ p, wr.cell? p = wz1.cell? p := fun p => by rw [← hW]; rfl
          have hqf : ∀ p, wr.frozen? p = wz1.frozen? p := fun p => by rw [← hW]; rfl
          rw [hq] at hx188_0
          rw [hq] at hx189_0
          rw [hq] at hx190_0
          rw [hq] at hx191_0
          clear hq hqf hW
          have p26 : 0 ≤ (x10_1 : Int) := of_decide_eq_true (by assumption)
          have q26 : (x10_1 : Int) < ((x2_1.length : Int) : Int) := of_decide_eq_true (by assumption)
          obtain ⟨go26, co26, eo26, gb26, gl26, cl26, HG26⟩ := Kd.R_form HO_2.out (by omega)
          (first | cases eo26 | (injection eo26 with ea_ en_ ec_; (first | subst ea_ | (injection ea_ with ea_; subst ea_)); subst ec_; clear en_))
          have GB26 := aM gb26
          have GG26 := aM HG26
          clear gb26 gl26 HG26
          have HMgo26 := aM (show ((P1_ go26 ∨ P2_ go26 ∨ P3_ go26) ∨ w.heap.size ≤ go26) from (HO_2.out.1 _ rfl).1)
          (first | simp only [add_plain] at hx188_0 | skip)
          obtain ⟨hx26_0, hf26_0⟩ := Kd.R_celln false HO_2.out (x10_1 : Int) p26 q26
          replace p26 := eq_true p26
          replace q26 := eq_true q26
          have HP29 := Kd.R_putg HO_2.out (x10_1 : Int) true
          go_wp2_with (first | ((with_reducible refine gate_store (t := 4) (p := 52) rfl ?_); refine store_event (t := 4) (p := 52) (v := ?vo_w30) (w1 := (wz1.setCell ⟨go26, (x10_1 : Int).toNat, none⟩ (.bool true))) ?hg ?ho ?hn ?hr ?_; (case ho => rfl); (case hg => rfl); (case hn => rfl); (case hr => first | (go_simp; done) | (go_simp; rfl)); intro w30 hw; have hg : wz1.grownBy w30 (some go26) := (by rw [hw]; exact HP29.2); have hp_ : Kd.R Kd.bool 4 w30 w0.heap.size (fun k_ => ((P1_ k_ ∨ P2_ k_ ∨ P3_ k_) ∨ w.heap.size ≤ k_) ∧ some k_ ≠ (u9002_ : Value).ownBlock) (.slice (some ⟨go26, 0, none⟩) x2_1.length co27) y197 := (by rw [hw, Ny197.out]; exact HP29.1); clear HP29; have n0_ := aM (Kd.R_over' (v := (.slice (some ⟨go26, 0, none⟩) x2_1.length co27)) (by (with_reducible repeat (first | apply Kd.R_alloc | apply Kd.R_drewN | apply Kd.R_drew)); exact HO_1.out) (Kd.R_typed HO_2.out) (by decide) hg); have n1_ := aM (hp_); have n2_ := aM (Kd.R_after (v := (.slice (some ⟨go26, 0, none⟩) x2_1.length co27)) (v1 := (.slice (some ⟨go26, 0, none⟩) x2_1.length co27)) (ok := (fun k_ => ((P1_ k_ ∨ P2_ k_ ∨ P3_ k_) ∨ w.heap.size ≤ k_))) (by (with_reducible repeat (first | apply Kd.R_alloc | apply Kd.R_drewN | apply Kd.R_drew)); exact HO_3.out) hg (.inl rfl)); have n3_ := aM ((by rw [hw]; exact below_set (HB.out) GB26.out : Below w0.heap.size w0 w30)); have n4_ := aM (Kept.of_grown (S := (fun k_ => P1_ k_ ∨ P2_ k_ ∨ P3_ k_)) hg (by repeat (first | (with_reducible first | exact HK.out | apply Kept.alloc | apply Kept.drewN | apply Kept.drew) | exact HK.out)) (fun k_ e_ => (HO_2.out.1 k_ e_).1)); clear HO_1; clear HO_2; clear HO_3; clear HB; clear HK; have HO_1 := n0_; have HO_2 := n1_; have HO_3 := n2_; have HB := n3_; have HK := n4_; clear n0_ n1_ n2_ n3_ n4_; clear hg hw hp_))
          go_roundg k1
          case measure => have := HK1.out; omega
          case rel => exact ⟨(x1_1), (y197), (x3_1), (true), (wrap64 (x10_1 + 1)), (by first | rfl | (simp; done) | (simp [*]; done)), (by first | rfl | (simp; done) | (simp [*]; done)), H', ⟨by have := HK1.out; omega⟩, ⟨by (with_reducible repeat (first | apply Kd.R_alloc | apply Kd.R_drewN | apply Kd.R_drew)); exact HO_1.out⟩, ⟨by (with_reducible repeat (first | apply Kd.R_alloc | apply Kd.R_drewN | apply Kd.R_drew)); exact HO_2.out⟩, ⟨by (with_reducible repeat (first | apply Kd.R_alloc | apply Kd.R_drewN | apply Kd.R_drew)); exact HO_3.out⟩, ⟨by repeat (first | (with_reducible first | exact HK.out | apply Kept.alloc | apply Kept.drewN | apply Kept.drew) | exact HK.out)⟩, ⟨by repeat (first | (with_reducible first | exact HB.out | apply below_alloc | apply bN | apply bD) | exact HB.out)⟩⟩
        ·
         rw [if_neg c12] at H
         have c12b0 : ((rd x1_1 x10_1) == (wrap64 (((rd_L2 l0 x10_1).length : Int) - 1))) = false := beq_eq_false_iff_ne.mpr c12
         have c12b1 : ((rd x1_1 x10_1) != (wrap64 (((rd_L2 l0 x10_1).length : Int) - 1))) = true := bne_iff_ne.mpr c12
         obtain ⟨ji31, hji31⟩ : ∃ j_ : Int, (wrap64 ((rd x1_1 x10_1) + 1)) = j_ := ⟨_, rfl⟩
         replace H : (if 0 ≤ (ji31) then (if (ji31) < ((rd_L2 l0 x10_1).length : Int) then (if 0 ≤ (rd (rd_L2 l0 x10_1) (ji31)) then (if (rd (rd_L2 l0 x10_1) (ji31)) < (x3_1.length : Int) then (if rdOf false x3_1 (rd (rd_L2 l0 x10_1) (ji31)) = true then (spec_l16Step.l0 k1 l0 x1_1 x2_1 x3_1 x9_1 (wrap64 (x10_1 + 1))) else ((some (x3_1.set ((rd (rd_L2 l0 x10_1) (ji31)) : Int).toNat true : List Bool)).bind fun y202 => (if (rd x1_1 x10_1) ≥ 0 then (if 0 ≤ (rd x1_1 x10_1) then (if (rd x1_1 x10_1) < ((rd_L2 l0 x10_1).length : Int) then (if 0 ≤ (rd (rd_L2 l0 x10_1) (rd x1_1 x10_1)) then (if (rd (rd_L2 l0 x10_1) (rd x1_1 x10_1)) < (x3_1.length : Int) then (spec_l16Step.l0 k1 l0 (x1_1.set (x10_1 : Int).toNat (ji31)) x2_1 (y202.set ((rd (rd_L2 l0 x10_1) (rd x1_1 x10_1)) : Int).toNat false) true (wrap64 (x10_1 + 1))) else (none)) else (none)) else (none)) else (none)) else (spec_l16Step.l0 k1 l0 (x1_1.set (x10_1 : Int).toNat (ji31)) x2_1 y202 true (wrap64 (x10_1 + 1)))))) else (none)) else (none)) else (none)) else (none)) = some (r1, r2, r3, r4) := by first | (rw [hji31] at H; exact H) | (simp only [hji31] at H ⊢; exact H)
         have hji31w : (IntKind.i64.wrap ((rd x1_1 x10_1) + 1)) = ji31 := (i64_w _).trans hji31
         by_cases c32 : 0 ≤ (ji31)
         ·
          rw [if_pos c32] at H
          have c32b0 : decide (0 ≤ (ji31)) = true := decide_eq_true c32
          clear c32
          by_cases c33 : (ji31) < ((rd_L2 l0 x10_1).length : Int)
          ·
           rw [if_pos c33] at H
           have c33b0 : decide ((ji31) < ((rd_L2 l0 x10_1).length : Int)) = true := decide_eq_true c33
           clear c33
           by_cases c34 : 0 ≤ (rd (rd_L2 l0 x10_1) (ji31))
           ·
            rw [if_pos c34] at H
            have c34b0 : decide (0 ≤ (rd (rd_L2 l0 x10_1) (ji31))) = true := decide_eq_true c34
            clear c34
            by_cases c35 : (rd (rd_L2 l0 x10_1) (ji31)) < (x3_1.length : Int)
            ·
             rw [if_pos c35] at H
             have c35b0 : decide ((rd (rd_L2 l0 x10_1) (ji31)) < (x3_1.length : Int)) = true := decide_eq_true c35
             clear c35
             obtain ⟨bq36, hbq36⟩ : ∃ b_ : Bool, b_ = (rdOf false x3_1 (rd (rd_L2 l0 x10_1) (ji31))) := ⟨_, rfl⟩
             replace H : (if bq36 = true then (spec_l16Step.l0 k1 l0 x1_1 x2_1 x3_1 x9_1 (wrap64 (x10_1 + 1))) else ((some (x3_1.set ((rd (rd_L2 l0 x10_1) (ji31)) : Int).toNat true : List Bool)).bind fun y202 => (if (rd x1_1 x10_1) ≥ 0 then (if 0 ≤ (rd x1_1 x10_1) then (if (rd x1_1 x10_1) < ((rd_L2 l0 x10_1).length : Int) then (if 0 ≤ (rd (rd_L2 l0 x10_1) (rd x1_1 x10_1)) then (if (rd (rd_L2 l0 x10_1) (rd x1_1 x10_1)) < (x3_1.length : Int) then (spec_l16Step.l0 k1 l0 (x1_1.set (x10_1 : Int).toNat (ji31)) x2_1 (y202.set ((rd (rd_L2 l0 x10_1) (rd x1_1 x10_1)) : Int).toNat false) true (wrap64 (x10_1 + 1))) else (none)) else (none)) else (none)) else (none)) else (spec_l16Step.l0 k1 l0 (x1_1.set (x10_1 : Int).toNat (ji31)) x2_1 y202 true (wrap64 (x10_1 + 1)))))) = some (r1, r2, r3, r4) := by rw [← hbq36] at H; exact H
             have Nbq36 := aM hbq36
             clear hbq36
             by_cases c37 : bq36 = true
             ·
              subst c37
              have H1 : (spec_l16Step.l0 k1 l0 x1_1 x2_1 x3_1 x9_1 (wrap64 (x10_1 + 1))) = some (r1, r2, r3, r4) := by rw [if_pos rfl] at H; exact H
              clear H
              have H := H1
              clear H1
              have H' := aM H
              clear H
              obtain ⟨Ao38, co38, eo38⟩ := Kd.R_slice HO_2.out
              subst eo38
              have p188 : 0 ≤ (x10_1 : Int) := of_decide_eq_true (by assumption)
              have q188 : x10_1 < (x2_1.length : Int) := of_decide_eq_true (by assumption)
              obtain ⟨ad188, e188, hx188_0⟩ := Kd.at_bool (Kd.R_reads' HO_2.out).2.2 x10_1 p188 q188
              (try rw [← Nbq8.out] at hx188_0)
              (try rw [← Nbq36.out] at hx188_0)
              cases e188
              replace p188 := eq_true p188
              replace q188 := eq_true q188
              obtain ⟨Ao39, co39, eo39⟩ := Kd.R_slice HO_1.out
              subst eo39
              have p189 : 0 ≤ (x10_1 : Int) := of_decide_eq_true (by assumption)
              have q189 : x10_1 < (x1_1.length : Int) := of_decide_eq_true (by assumption)
              obtain ⟨ad189, e189, hx189_0⟩ := Kd.at_int (Kd.R_reads' HO_1.out).2.2 x10_1 p189 q189
              cases e189
              replace p189 := eq_true p189
              replace q189 := eq_true q189
              have p190 : 0 ≤ (x10_1 : Int) := of_decide_eq_true (by assumption)
              have q190 : x10_1 < (l0.length : Int) := of_decide_eq_true (by assumption)
              obtain ⟨ad190, A190_0, c190_0, e190, hx190_0, hl190_0, hi190_0⟩ := at_L2 (Kd.C_kept_now HR0.out HK.out) x10_1 p190 q190
              cases e190
              have HR190_0 := aM hi190_0
              have HC190_0 := aM hl190_0
              clear hi190_0 hl190_0
              replace p190 := eq_true p190
              replace q190 := eq_true q190
              have p198 : 0 ≤ (x10_1 : Int) := of_decide_eq_true (by assumption)
              have q198 : x10_1 < (l0.length : Int) := of_decide_eq_true (by assumption)
              obtain ⟨ad198, A198_0, c198_0, e198, hx198_0, hl198_0, hi198_0⟩ := at_L2 (Kd.C_kept_now HR0.out HK.out) x10_1 p198 q198
              obtain rfl : ad190 = ad198 := (by injection e198)
              have HR198_0 := aM hi198_0
              have HC198_0 := aM hl198_0
              clear hi198_0 hl198_0
              replace p198 := eq_true p198
              replace q198 := eq_true q198
              have ea_ := Option.some.inj (hx190_0.symm.trans hx198_0)
              injection ea_ with ea_ en_ ec_
              subst ea_
              subst ec_
              clear en_
              have p199 : 0 ≤ (x10_1 : Int) := of_decide_eq_true (by assumption)
              have q199 : x10_1 < (x1_1.length : Int) := of_decide_eq_true (by assumption)
              obtain ⟨ad199, e199, hx199_0⟩ := Kd.at_int (Kd.R_reads' HO_1.out).2.2 x10_1 p199 q199
              obtain rfl : ad189 = ad199 := (by injection e199)
              replace p199 := eq_true p199
              replace q199 := eq_true q199
              have p200 : 0 ≤ ((ji31) : Int) := of_decide_eq_true (by assumption)
              have q200 : (ji31) < ((rd_L2 l0 x10_1).length : Int) := of_decide_eq_true (by assumption)
              obtain ⟨ad200, e200, hx200_0⟩ := Kd.at_int (by repeat (first | (with_reducible exact HR198_0.out) | (with_reducible refine Kd.C_alloc ?_ _) | (with_reducible refine Kd.C_drewN ?_ _) | (with_reducible refine Kd.C_drew ?_) | exact HR198_0.out)) (ji31) p200 q200
              cases e200
              replace p200 := eq_true p200
              replace q200 := eq_true q200
              obtain ⟨Ao40, co40, eo40⟩ := Kd.R_slice HO_3.out
              subst eo40
              have p201 : 0 ≤ ((rd (rd_L2 l0 x10_1) (ji31)) : Int) := of_decide_eq_true (by assumption)
              have q201 : (rd (rd_L2 l0 x10_1) (ji31)) < (x3_1.length : Int) := of_decide_eq_true (by assumption)
              obtain ⟨ad201, e201, hx201_0⟩ := Kd.at_bool (Kd.R_reads' HO_3.out).2.2 (rd (rd_L2 l0 x10_1) (ji31)) p201 q201
              (try rw [← Nbq8.out] at hx201_0)
              (try rw [← Nbq36.out] at hx201_0)
              cases e201
              replace p201 := eq_true p201
              replace q201 := eq_true q201
              clear HR190_0
              clear HR198_0
              go_wp2
              go_quiet (fail)
              (try simp only [i64_w, i32_w])
              generalize hW : wr.drewN _ = wz1
              replace HO_1 := aM (Kd.R_at hW HO_1.out)
              replace HO_2 := aM (Kd.R_at hW HO_2.out)
              replace HO_3 := aM (Kd.R_at hW HO_3.out)
              replace HK := aM (kept_at hW HK.out)
              replace HB := aM (below_at hW HB.out)
              have hq : ∀ p, wr.cell? p = wz1.cell? p := fun p => by rw [← hW]; rfl
              have hqf : ∀ p, wr.frozen? p = wz1.frozen? p := fun p => by rw [← hW]; rfl
              rw [hq] at hx188_0
              rw [hq] at hx189_0
              rw [hq] at hx190_0
              rw [hq] at hx198_0
              rw [hq] at hx199_0
              rw [hq] at hx200_0
              rw [hq] at hx201_0
              clear hq hqf hW
              go_wp2
              go_quiet (fail)
              (try simp only [i64_w, i32_w])
              generalize hW : wz1.drewN _ = wz2
              replace HO_1 := aM (Kd.R_at hW HO_1.out)
              replace HO_2 := aM (Kd.R_at hW HO_2.out)
              replace HO_3 := aM (Kd.R_at hW HO_3.out)
              replace HK := aM (kept_at hW HK.out)
              replace HB := aM (below_at hW HB.out)
              have hq : ∀ p, wz1.cell? p = wz2.cell? p := fun p => by rw [← hW]; rfl
              have hqf : ∀ p, wz1.frozen? p = wz2.frozen? p := fun p => by rw [← hW]; rfl
              rw [hq] at hx188_0
              rw [hq] at hx189_0
              rw [hq] at hx190_0
              rw [hq] at hx198_0
              rw [hq] at hx199_0
              rw [hq] at hx200_0
              rw [hq] at hx201_0
              clear hq hqf hW
              go_wp2
              go_roundg k1
              case measure => have := HK1.out; omega
              case rel => exact ⟨(x1_1), (x2_1), (x3_1), (x9_1), (wrap64 (x10_1 + 1)), (by first | rfl | (simp; done) | (simp [*]; done)), (by first | rfl | (simp; done) | (simp [*]; done)), H', ⟨by have := HK1.out; omega⟩, ⟨by (with_reducible repeat (first | apply Kd.R_alloc | apply Kd.R_drewN | apply Kd.R_drew)); exact HO_1.out⟩, ⟨by (with_reducible repeat (first | apply Kd.R_alloc | apply Kd.R_drewN | apply Kd.R_drew)); exact HO_2.out⟩, ⟨by (with_reducible repeat (first | apply Kd.R_alloc | apply Kd.R_drewN | apply Kd.R_drew)); exact HO_3.out⟩, ⟨by repeat (first | (with_reducible first | exact HK.out | apply Kept.alloc | apply Kept.drewN | apply Kept.drew) | exact HK.out)⟩, ⟨by repeat (first | (with_reducible first | exact HB.out | apply below_alloc | apply bN | apply bD) | exact HB.out)⟩⟩
             ·
              replace c37 := Bool.eq_false_iff.mpr c37
              subst c37
              have H1 : ((some (x3_1.set ((rd (rd_L2 l0 x10_1) (ji31)) : Int).toNat true : List Bool)).bind fun y202 => (if (rd x1_1 x10_1) ≥ 0 then (if 0 ≤ (rd x1_1 x10_1) then (if (rd x1_1 x10_1) < ((rd_L2 l0 x10_1).length : Int) then (if 0 ≤ (rd (rd_L2 l0 x10_1) (rd x1_1 x10_1)) then (if (rd (rd_L2 l0 x10_1) (rd x1_1 x10_1)) < (x3_1.length : Int) then (spec_l16Step.l0 k1 l0 (x1_1.set (x10_1 : Int).toNat (ji31)) x2_1 (y202.set ((rd (rd_L2 l0 x10_1) (rd x1_1 x10_1)) : Int).toNat false) true (wrap64 (x10_1 + 1))) else (none)) else (none)) else (none)) else (none)) else (spec_l16Step.l0 k1 l0 (x1_1.set (x10_1 : Int).toNat (ji31)) x2_1 y202 true (wrap64 (x10_1 + 1))))) = some (r1, r2, r3, r4) := by rw [if_neg (show ¬ (false = true) by decide)] at H; exact H
              clear H
              have H := H1
              clear H1
              obtain ⟨y202, hy202⟩ : ∃ y_ : List Bool, y_ = (x3_1.set ((rd (rd_L2 l0 x10_1) (ji31)) : Int).toNat true) := ⟨_, rfl⟩
              replace H : (if (rd x1_1 x10_1) ≥ 0 then (if 0 ≤ (rd x1_1 x10_1) then (if (rd x1_1 x10_1) < ((rd_L2 l0 x10_1).length : Int) then (if 0 ≤ (rd (rd_L2 l0 x10_1) (rd x1_1 x10_1)) then (if (rd (rd_L2 l0 x10_1) (rd x1_1 x10_1)) < (x3_1.length : Int) then (spec_l16Step.l0 k1 l0 (x1_1.set (x10_1 : Int).toNat (ji31)) x2_1 (y202.set ((rd (rd_L2 l0 x10_1) (rd x1_1 x10_1)) : Int).toNat false) true (wrap64 (x10_1 + 1))) else (none)) else (none)) else (none)) else (none)) else (spec_l16Step.l0 k1 l0 (x1_1.set (x10_1 : Int).toNat (ji31)) x2_1 y202 true (wrap64 (x10_1 + 1)))) = some (r1, r2, r3, r4) := by first | (rw [hy202]; with_reducible exact H) | (have H2_ := (Option.bind_some _ _).symm.trans H; rw [hy202]; with_reducible exact H2_) | (have H2_ := (Option.bind_some _ _).symm.trans H; with_reducible exact H2_) | with_reducible exact H | (rw [hy202]; exact H) | exact H
              have Ny202 := aM hy202
              clear hy202
              by_cases c42 : (rd x1_1 x10_1) ≥ 0
              ·
               rw [if_pos c42] at H
               have c42b0 : decide (0 ≤ (rd x1_1 x10_1)) = true := decide_eq_true c42
               clear c42
               by_cases c43 : 0 ≤ (rd x1_1 x10_1)
               ·
                rw [if_pos c43] at H
                have c43b0 : decide (0 ≤ (rd x1_1 x10_1)) = true := decide_eq_true c43
                clear c43
                by_cases c44 : (rd x1_1 x10_1) < ((rd_L2 l0 x10_1).length : Int)
                ·
                 rw [if_pos c44] at H
                 have c44b0 : decide ((rd x1_1 x10_1) < ((rd_L2 l0 x10_1).length : Int)) = true := decide_eq_true c44
                 clear c44
                 by_cases c45 : 0 ≤ (rd (rd_L2 l0 x10_1) (rd x1_1 x10_1))
                 ·
                  rw [if_pos c45] at H
                  have c45b0 : decide (0 ≤ (rd (rd_L2 l0 x10_1) (rd x1_1 x10_1))) = true := decide_eq_true c45
                  clear c45
                  by_cases c46 : (rd (rd_L2 l0 x10_1) (rd x1_1 x10_1)) < (x3_1.length : Int)
                  ·
                   rw [if_pos c46] at H
                   have c46b0 : decide ((rd (rd_L2 l0 x10_1) (rd x1_1 x10_1)) < (x3_1.length : Int)) = true := decide_eq_true c46
                   clear c46
                   obtain ⟨y207, hy207⟩ : ∃ y_ : List Bool, y_ = (y202.set ((rd (rd_L2 l0 x10_1) (rd x1_1 x10_1)) : Int).toNat false) := ⟨_, rfl⟩
                   replace H : (spec_l16Step.l0 k1 l0 (x1_1.set (x10_1 : Int).toNat (ji31)) x2_1 y207 true (wrap64 (x10_1 + 1))) = some (r1, r2, r3, r4) := by first | (rw [hy207]; with_reducible exact H) | (have H2_ := (Option.bind_some _ _).symm.trans H; rw [hy207]; with_reducible exact H2_) | (have H2_ := (Option.bind_some _ _).symm.trans H; with_reducible exact H2_) | with_reducible exact H | (rw [hy207]; exact H) | exact H
                   have Ny207 := aM hy207
                   clear hy207
                   obtain ⟨y209, hy209⟩ : ∃ y_ : List Int, y_ = (x1_1.set (x10_1 : Int).toNat (ji31)) := ⟨_, rfl⟩
                   replace H : (spec_l16Step.l0 k1 l0 y209 x2_1 y207 true (wrap64 (x10_1 + 1))) = some (r1, r2, r3, r4) := by first | (rw [hy209]; with_reducible exact H) | (have H2_ := (Option.bind_some _ _).symm.trans H; rw [hy209]; with_reducible exact H2_) | (have H2_ := (Option.bind_some _ _).symm.trans H; with_reducible exact H2_) | with_reducible exact H | (rw [hy209]; exact H) | exact H
                   have Ny209 := aM hy209
                   clear hy209
                   have H' := aM H
                   clear H
                   obtain ⟨Ao49, co49, eo49⟩ := Kd.R_slice HO_2.out
                   subst eo49
                   have p188 : 0 ≤ (x10_1 : Int) := of_decide_eq_true (by assumption)
                   have q188 : x10_1 < (x2_1.length : Int) := of_decide_eq_true (by assumption)
                   obtain ⟨ad188, e188, hx188_0⟩ := Kd.at_bool (Kd.R_reads' HO_2.out).2.2 x10_1 p188 q188
                   (try rw [← Nbq8.out] at hx188_0)
                   (try rw [← Nbq36.out] at hx188_0)
                   cases e188
                   replace p188 := eq_true p188
                   replace q188 := eq_true q188
                   obtain ⟨Ao50, co50, eo50⟩ := Kd.R_slice HO_1.out
                   subst eo50
                   have p189 : 0 ≤ (x10_1 : Int) := of_decide_eq_true (by assumption)
                   have q189 : x10_1 < (x1_1.length : Int) := of_decide_eq_true (by assumption)
                   obtain ⟨ad189, e189, hx189_0⟩ := Kd.at_int (Kd.R_reads' HO_1.out).2.2 x10_1 p189 q189
                   cases e189
                   replace p189 := eq_true p189
                   replace q189 := eq_true q189
                   have p190 : 0 ≤ (x10_1 : Int) := of_decide_eq_true (by assumption)
                   have q190 : x10_1 < (l0.length : Int) := of_decide_eq_true (by assumption)
                   obtain ⟨ad190, A190_0, c190_0, e190, hx190_0, hl190_0, hi190_0⟩ := at_L2 (Kd.C_kept_now HR0.out HK.out) x10_1 p190 q190
                   cases e190
                   have HR190_0 := aM hi190_0
                   have HC190_0 := aM hl190_0
                   clear hi190_0 hl190_0
                   replace p190 := eq_true p190
                   replace q190 := eq_true q190
                   have p198 : 0 ≤ (x10_1 : Int) := of_decide_eq_true (by assumption)
                   have q198 : x10_1 < (l0.length : Int) := of_decide_eq_true (by assumption)
                   obtain ⟨ad198, A198_0, c198_0, e198, hx198_0, hl198_0, hi198_0⟩ := at_L2 (Kd.C_kept_now HR0.out HK.out) x10_1 p198 q198
                   obtain rfl : ad190 = ad198 := (by injection e198)
                   have HR198_0 := aM hi198_0
                   have HC198_0 := aM hl198_0
                   clear hi198_0 hl198_0
                   replace p198 := eq_true p198
                   replace q198 := eq_true q198
                   have ea_ := Option.some.inj (hx190_0.symm.trans hx198_0)
                   injection ea_ with ea_ en_ ec_
                   subst ea_
                   subst ec_
                   clear en_
                   have p199 : 0 ≤ (x10_1 : Int) := of_decide_eq_true (by assumption)
                   have q199 : x10_1 < (x1_1.length : Int) := of_decide_eq_true (by assumption)
                   obtain ⟨ad199, e199, hx199_0⟩ := Kd.at_int (Kd.R_reads' HO_1.out).2.2 x10_1 p199 q199
                   obtain rfl : ad189 = ad199 := (by injection e199)
                   replace p199 := eq_true p199
                   replace q199 := eq_true q199
                   have p200 : 0 ≤ ((ji31) : Int) := of_decide_eq_true (by assumption)
                   have q200 : (ji31) < ((rd_L2 l0 x10_1).length : Int) := of_decide_eq_true (by assumption)
                   obtain ⟨ad200, e200, hx200_0⟩ := Kd.at_int (by repeat (first | (with_reducible exact HR198_0.out) | (with_reducible refine Kd.C_alloc ?_ _) | (with_reducible refine Kd.C_drewN ?_ _) | (with_reducible refine Kd.C_drew ?_) | exact HR198_0.out)) (ji31) p200 q200
                   cases e200
                   replace p200 := eq_true p200
                   replace q200 := eq_true q200
                   obtain ⟨Ao51, co51, eo51⟩ := Kd.R_slice HO_3.out
                   subst eo51
                   have p201 : 0 ≤ ((rd (rd_L2 l0 x10_1) (ji31)) : Int) := of_decide_eq_true (by assumption)
                   have q201 : (rd (rd_L2 l0 x10_1) (ji31)) < (x3_1.length : Int) := of_decide_eq_true (by assumption)
                   obtain ⟨ad201, e201, hx201_0⟩ := Kd.at_bool (Kd.R_reads' HO_3.out).2.2 (rd (rd_L2 l0 x10_1) (ji31)) p201 q201
                   (try rw [← Nbq8.out] at hx201_0)
                   (try rw [← Nbq36.out] at hx201_0)
                   cases e201
                   replace p201 := eq_true p201
                   replace q201 := eq_true q201
                   clear HR190_0
                   clear HR198_0
                   go_wp2
                   go_quiet (fail)
                   (try simp only [i64_w, i32_w])
                   generalize hW : wr.drewN _ = wz1
                   replace HO_1 := aM (Kd.R_at hW HO_1.out)
                   replace HO_2 := aM (Kd.R_at hW HO_2.out)
                   replace HO_3 := aM (Kd.R_at hW HO_3.out)
                   replace HK := aM (kept_at hW HK.out)
                   replace HB := aM (below_at hW HB.out)
                   have hq : ∀ p, wr.cell? p = wz1.cell? p := fun p => by rw [← hW]; rfl
                   have hqf : ∀ p, wr.frozen? p = wz1.frozen? p := fun p => by rw [← hW]; rfl
                   rw [hq] at hx188_0
                   rw [hq] at hx189_0
                   rw [hq] at hx190_0
                   rw [hq] at hx198_0
                   rw [hq] at hx199_0
                   rw [hq] at hx200_0
                   rw [hq] at hx201_0
                   clear hq hqf hW
                   go_wp2
                   go_quiet (fail)
                   (try simp only [i64_w, i32_w])
                   generalize hW : wz1.drewN _ = wz2
                   replace HO_1 := aM (Kd.R_at hW HO_1.out)
                   replace HO_2 := aM (Kd.R_at hW HO_2.out)
                   replace HO_3 := aM (Kd.R_at hW HO_3.out)
                   replace HK := aM (kept_at hW HK.out)
                   replace HB := aM (below_at hW HB.out)
                   have hq : ∀ p, wz1.cell? p = wz2.cell? p := fun p => by rw [← hW]; rfl
                   have hqf : ∀ p, wz1.frozen? p = wz2.frozen? p := fun p => by rw [← hW]; rfl
                   rw [hq] at hx188_0
                   rw [hq] at hx189_0
                   rw [hq] at hx190_0
                   rw [hq] at hx198_0
                   rw [hq] at hx199_0
                   rw [hq] at hx200_0
                   rw [hq] at hx201_0
                   clear hq hqf hW
                   have p41 : 0 ≤ ((rd (rd_L2 l0 x10_1) (ji31)) : Int) := of_decide_eq_true (by assumption)
                   have q41 : ((rd (rd_L2 l0 x10_1) (ji31)) : Int) < ((x3_1.length : Int) : Int) := of_decide_eq_true (by assumption)
                   obtain ⟨go41, co41, eo41, gb41, gl41, cl41, HG41⟩ := Kd.R_form HO_3.out (by omega)
                   (first | cases eo41 | (injection eo41 with ea_ en_ ec_; (first | subst ea_ | (injection ea_ with ea_; subst ea_)); subst ec_; clear en_))
                   have GB41 := aM gb41
                   have GG41 := aM HG41
                   clear gb41 gl41 HG41
                   have HMgo41 := aM (show ((P1_ go41 ∨ P2_ go41 ∨ P3_ go41) ∨ w.heap.size ≤ go41) from (HO_3.out.1 _ rfl).1)
                   (first | simp only [add_plain] at hx201_0 | skip)
                   obtain ⟨hx41_0, hf41_0⟩ := Kd.R_celln false HO_3.out ((rd (rd_L2 l0 x10_1) (ji31)) : Int) p41 q41
                   replace p41 := eq_true p41
                   replace q41 := eq_true q41
                   have HP52 := Kd.R_putg HO_3.out ((rd (rd_L2 l0 x10_1) (ji31)) : Int) true
                   go_wp2_with (first | ((with_reducible refine gate_store (t := 4) (p := 70) rfl ?_); refine store_event (t := 4) (p := 70) (v := ?vo_w53) (w1 := (wz2.setCell ⟨go41, ((rd (rd_L2 l0 x10_1) (ji31)) : Int).toNat, none⟩ (.bool true))) ?hg ?ho ?hn ?hr ?_; (case ho => rfl); (case hg => rfl); (case hn => rfl); (case hr => first | (go_simp; done) | (go_simp; rfl)); intro w53 hw; have hg : wz2.grownBy w53 (some go41) := (by rw [hw]; exact HP52.2); have hp_ : Kd.R Kd.bool 4 w53 w0.heap.size (fun k_ => ((P1_ k_ ∨ P2_ k_ ∨ P3_ k_) ∨ w.heap.size ≤ k_) ∧ some k_ ≠ (.slice (some ad188) x2_1.length co49 : Value).ownBlock) (.slice (some ⟨go41, 0, none⟩) x3_1.length co51) y202 := (by rw [hw, Ny202.out]; exact HP52.1); clear HP52; have n0_ := aM (Kd.R_over' (v := (.slice (some ⟨go41, 0, none⟩) x3_1.length co51)) (by (with_reducible repeat (first | apply Kd.R_alloc | apply Kd.R_drewN | apply Kd.R_drew)); exact HO_1.out) (Kd.R_typed HO_3.out) (by decide) hg); have n1_ := aM (Kd.R_after (v := (.slice (some ⟨go41, 0, none⟩) x3_1.length co51)) (v1 := (.slice (some ⟨go41, 0, none⟩) x3_1.length co51)) (ok := (fun k_ => ((P1_ k_ ∨ P2_ k_ ∨ P3_ k_) ∨ w.heap.size ≤ k_))) (by (with_reducible repeat (first | apply Kd.R_alloc | apply Kd.R_drewN | apply Kd.R_drew)); exact HO_2.out) hg (.inl rfl)); have n2_ := aM (hp_); have n3_ := aM ((by rw [hw]; exact below_set (HB.out) GB41.out : Below w0.heap.size w0 w53)); have n4_ := aM (Kept.of_grown (S := (fun k_ => P1_ k_ ∨ P2_ k_ ∨ P3_ k_)) hg (by repeat (first | (with_reducible first | exact HK.out | apply Kept.alloc | apply Kept.drewN | apply Kept.drew) | exact HK.out)) (fun k_ e_ => (HO_3.out.1 k_ e_).1)); clear HO_1; clear HO_2; clear HO_3; clear HB; clear HK; have HO_1 := n0_; have HO_2 := n1_; have HO_3 := n2_; have HB := n3_; have HK := n4_; clear n0_ n1_ n2_ n3_ n4_; clear hg hw hp_; have p203 : 0 ≤ (x10_1 : Int) := of_decide_eq_true (by assumption); have q203 : x10_1 < (x1_1.length : Int) := of_decide_eq_true (by assumption); obtain ⟨ad203, e203, hx203_0⟩ := Kd.at_int (Kd.R_reads' HO_1.out).2.2 x10_1 p203 q203; obtain rfl : ad189 = ad203 := (by injection e203); replace p203 := eq_true p203; replace q203 := eq_true q203; have p204 : 0 ≤ (x10_1 : Int) := of_decide_eq_true (by assumption); have q204 : x10_1 < (l0.length : Int) := of_decide_eq_true (by assumption); obtain ⟨ad204, A204_0, c204_0, e204, hx204_0, hl204_0, hi204_0⟩ := at_L2 (Kd.C_kept_now HR0.out HK.out) x10_1 p204 q204; obtain rfl : ad190 = ad204 := (by injection e204); have HR204_0 := aM hi204_0; have HC204_0 := aM hl204_0; clear hi204_0 hl204_0; replace p204 := eq_true p204; replace q204 := eq_true q204; have p205 : 0 ≤ (x10_1 : Int) := of_decide_eq_true (by assumption); have q205 : x10_1 < (x1_1.length : Int) := of_decide_eq_true (by assumption); obtain ⟨ad205, e205, hx205_0⟩ := Kd.at_int (Kd.R_reads' HO_1.out).2.2 x10_1 p205 q205; obtain rfl : ad189 = ad205 := (by injection e205); replace p205 := eq_true p205; replace q205 := eq_true q205; have p206 : 0 ≤ ((rd x1_1 x10_1) : Int) := of_decide_eq_true (by assumption); have q206 : (rd x1_1 x10_1) < ((rd_L2 l0 x10_1).length : Int) := of_decide_eq_true (by assumption); obtain ⟨ad206, e206, hx206_0⟩ := Kd.at_int (by repeat (first | (with_reducible exact HR204_0.out) | (with_reducible refine Kd.C_alloc ?_ _) | (with_reducible refine Kd.C_drewN ?_ _) | (with_reducible refine Kd.C_drew ?_) | exact HR204_0.out)) (rd x1_1 x10_1) p206 q206; cases e206; replace p206 := eq_true p206; replace q206 := eq_true q206; have p47 : 0 ≤ ((rd (rd_L2 l0 x10_1) (rd x1_1 x10_1)) : Int) := of_decide_eq_true (by assumption); have q47 : ((rd (rd_L2 l0 x10_1) (rd x1_1 x10_1)) : Int) < ((x3_1.length : Int) : Int) := of_decide_eq_true (by assumption); obtain ⟨hx47_0, hf47_0⟩ := Kd.R_celln false HO_3.out ((rd (rd_L2 l0 x10_1) (rd x1_1 x10_1)) : Int) p47 q47; replace p47 := eq_true p47; replace q47 := eq_true q47; obtain ⟨hy54_, hz54_⟩ := Kd.R_celln false HO_3.out ((rd (rd_L2 l0 x10_1) (rd x1_1 x10_1)) : Int) (of_decide_eq_true (by assumption)) (of_decide_eq_true (by assumption)); have HP54 := Kd.R_putg HO_3.out ((rd (rd_L2 l0 x10_1) (rd x1_1 x10_1)) : Int) false) | ((with_reducible refine gate_store (t := 4) (p := 87) rfl ?_); refine store_event (t := 4) (p := 87) (v := ?vo_w55) (w1 := (w53.setCell ⟨go41, ((rd (rd_L2 l0 x10_1) (rd x1_1 x10_1)) : Int).toNat, none⟩ (.bool false))) ?hg ?ho ?hn ?hr ?_; (case ho => rfl); (case hg => rfl); (case hn => rfl); (case hr => first | (go_simp; done) | (go_simp; rfl)); intro w55 hw; have hg : w53.grownBy w55 (some go41) := (by rw [hw]; exact HP54.2); have hp_ : Kd.R Kd.bool 4 w55 w0.heap.size (fun k_ => ((P1_ k_ ∨ P2_ k_ ∨ P3_ k_) ∨ w.heap.size ≤ k_) ∧ some k_ ≠ (.slice (some ad188) x2_1.length co49 : Value).ownBlock) (.slice (some ⟨go41, 0, none⟩) x3_1.length co51) y207 := (by rw [hw, Ny207.out]; exact HP54.1); clear HP54; have n0_ := aM (Kd.R_over' (v := (.slice (some ⟨go41, 0, none⟩) x3_1.length co51)) (by (with_reducible repeat (first | apply Kd.R_alloc | apply Kd.R_drewN | apply Kd.R_drew)); exact HO_1.out) (Kd.R_typed HO_3.out) (by decide) hg); have n1_ := aM (Kd.R_after (v := (.slice (some ⟨go41, 0, none⟩) x3_1.length co51)) (v1 := (.slice (some ⟨go41, 0, none⟩) x3_1.length co51)) (ok := (fun k_ => ((P1_ k_ ∨ P2_ k_ ∨ P3_ k_) ∨ w.heap.size ≤ k_))) (by (with_reducible repeat (first | apply Kd.R_alloc | apply Kd.R_drewN | apply Kd.R_drew)); exact HO_2.out) hg (.inl rfl)); have n2_ := aM (hp_); have n3_ := aM ((by rw [hw]; exact below_set (HB.out) GB41.out : Below w0.heap.size w0 w55)); have n4_ := aM (Kept.of_grown (S := (fun k_ => P1_ k_ ∨ P2_ k_ ∨ P3_ k_)) hg (by repeat (first | (with_reducible first | exact HK.out | apply Kept.alloc | apply Kept.drewN | apply Kept.drew) | exact HK.out)) (fun k_ e_ => (HO_3.out.1 k_ e_).1)); clear HO_1; clear HO_2; clear HO_3; clear HB; clear HK; have HO_1 := n0_; have HO_2 := n1_; have HO_3 := n2_; have HB := n3_; have HK := n4_; clear n0_ n1_ n2_ n3_ n4_; clear hg hw hp_; have p208 : 0 ≤ (x10_1 : Int) := of_decide_eq_true (by assumption); have q208 : x10_1 < (x1_1.length : Int) := of_decide_eq_true (by assumption); obtain ⟨ad208, e208, hx208_0⟩ := Kd.at_int (Kd.R_reads' HO_1.out).2.2 x10_1 p208 q208; obtain rfl : ad189 = ad208 := (by injection e208); replace p208 := eq_true p208; replace q208 := eq_true q208; have p48 : 0 ≤ (x10_1 : Int) := of_decide_eq_true (by assumption); have q48 : (x10_1 : Int) < ((x1_1.length : Int) : Int) := of_decide_eq_true (by assumption); obtain ⟨go48, co48, eo48, gb48, gl48, cl48, HG48⟩ := Kd.R_form HO_1.out (by omega); (first | cases eo48 | (injection eo48 with ea_ en_ ec_; (first | subst ea_ | (injection ea_ with ea_; subst ea_)); subst ec_; clear en_)); have GB48 := aM gb48; have GG48 := aM HG48; clear gb48 gl48 HG48; have HMgo48 := aM (show ((P1_ go48 ∨ P2_ go48 ∨ P3_ go48) ∨ w.heap.size ≤ go48) from (HO_1.out.1 _ rfl)); (first | simp only [add_plain] at hx189_0 | skip); (first | simp only [add_plain] at hx191_0 | skip); (first | simp only [add_plain] at hx193_0 | skip); (first | simp only [add_plain] at hx199_0 | skip); (first | simp only [add_plain] at hx203_0 | skip); (first | simp only [add_plain] at hx205_0 | skip); (first | simp only [add_plain] at hx208_0 | skip); obtain ⟨hx48_0, hf48_0⟩ := Kd.R_celln 0 HO_1.out (x10_1 : Int) p48 q48; replace p48 := eq_true p48; replace q48 := eq_true q48; obtain ⟨hy56_, hz56_⟩ := Kd.R_celln 0 HO_1.out (x10_1 : Int) (of_decide_eq_true (by assumption)) (of_decide_eq_true (by assumption)); have HP56 := Kd.R_putg HO_1.out (x10_1 : Int) ji31) | ((with_reducible refine gate_store (t := 3) (p := 95) rfl ?_); refine store_event (t := 3) (p := 95) (v := ?vo_w57) (w1 := (w55.setCell ⟨go48, (x10_1 : Int).toNat, none⟩ (.int .i64 ji31))) ?hg ?ho ?hn ?hr ?_; (case ho => rfl); (case hg => rfl); (case hn => rfl); (case hr => first | (go_simp; done) | (go_simp; rfl)); intro w57 hw; have hg : w55.grownBy w57 (some go48) := (by rw [hw]; exact HP56.2); have hp_ : Kd.R (Kd.int .i64) 3 w57 w0.heap.size (fun k_ => ((P1_ k_ ∨ P2_ k_ ∨ P3_ k_) ∨ w.heap.size ≤ k_)) (.slice (some ⟨go48, 0, none⟩) x1_1.length co50) y209 := (by rw [hw, Ny209.out]; exact HP56.1); clear HP56; have n0_ := aM (hp_); have n1_ := aM (Kd.R_over' (v := (.slice (some ⟨go48, 0, none⟩) x1_1.length co50)) (by (with_reducible repeat (first | apply Kd.R_alloc | apply Kd.R_drewN | apply Kd.R_drew)); exact HO_2.out) (Kd.R_typed HO_1.out) (by decide) hg); have n2_ := aM (Kd.R_over' (v := (.slice (some ⟨go48, 0, none⟩) x1_1.length co50)) (by (with_reducible repeat (first | apply Kd.R_alloc | apply Kd.R_drewN | apply Kd.R_drew)); exact HO_3.out) (Kd.R_typed HO_1.out) (by decide) hg); have n3_ := aM ((by rw [hw]; exact below_set (HB.out) GB48.out : Below w0.heap.size w0 w57)); have n4_ := aM (Kept.of_grown (S := (fun k_ => P1_ k_ ∨ P2_ k_ ∨ P3_ k_)) hg (by repeat (first | (with_reducible first | exact HK.out | apply Kept.alloc | apply Kept.drewN | apply Kept.drew) | exact HK.out)) (fun k_ e_ => (HO_1.out.1 k_ e_))); clear HO_1; clear HO_2; clear HO_3; clear HB; clear HK; have HO_1 := n0_; have HO_2 := n1_; have HO_3 := n2_; have HB := n3_; have HK := n4_; clear n0_ n1_ n2_ n3_ n4_; clear hg hw hp_))
                   -- region 15
                   clear HP54
                   clear HR204_0
                   go_still_tail 12, (by kernel_rfl)
                   change wpList _ _ _ _ _ w53.drew
                   (try simp only [i64_w, i32_w])
                   generalize hW : w53.drew = w53z
                   replace HO_1 := aM (spec_l16Step.R_dr hW HO_1.out)
                   replace HO_2 := aM (spec_l16Step.R_dr hW HO_2.out)
                   replace HO_3 := aM (spec_l16Step.R_dr hW HO_3.out)
                   replace HK := aM (spec_l16Step.K_dr hW HK.out)
                   replace HB := aM (spec_l16Step.B_dr hW HB.out)
                   have hq : ∀ p, w53.cell? p = w53z.cell? p := fun p => by rw [← hW]; rfl
                   have hqf : ∀ p, w53.frozen? p = w53z.frozen? p := fun p => by rw [← hW]; rfl
                   rw [hq] at hx203_0
                   rw [hq] at hx204_0
                   rw [hq] at hx205_0
                   rw [hq] at hx206_0
                   rw [hq] at hx47_0
                   rw [hqf] at hf47_0
                   rw [hq] at hy54_
                   rw [hqf] at hz54_
                   have HP54 := Kd.R_putg HO_3.out ((rd (rd_L2 l0 x10_1) (rd x1_1 x10_1)) : Int) false
                   clear hq hqf hW
                   go_wp2_with (first | ((with_reducible refine gate_store (t := 4) (p := 70) rfl ?_); refine store_event (t := 4) (p := 70) (v := ?vo_w53) (w1 := (wz2.setCell ⟨go41, ((rd (rd_L2 l0 x10_1) (ji31)) : Int).toNat, none⟩ (.bool true))) ?hg ?ho ?hn ?hr ?_; (case ho => rfl); (case hg => rfl); (case hn => rfl); (case hr => first | (go_simp; done) | (go_simp; rfl)); intro w53z hw; have hg : wz2.grownBy w53z (some go41) := (by rw [hw]; exact HP52.2); have hp_ : Kd.R Kd.bool 4 w53z w0.heap.size (fun k_ => ((P1_ k_ ∨ P2_ k_ ∨ P3_ k_) ∨ w.heap.size ≤ k_) ∧ some k_ ≠ (.slice (some ad188) x2_1.length co49 : Value).ownBlock) (.slice (some ⟨go41, 0, none⟩) x3_1.length co51) y202 := (by rw [hw, Ny202.out]; exact HP52.1); clear HP52; have n0_ := aM (Kd.R_over' (v := (.slice (some ⟨go41, 0, none⟩) x3_1.length co51)) (by (with_reducible repeat (first | apply Kd.R_alloc | apply Kd.R_drewN | apply Kd.R_drew)); exact HO_1.out) (Kd.R_typed HO_3.out) (by decide) hg); have n1_ := aM (Kd.R_after (v := (.slice (some ⟨go41, 0, none⟩) x3_1.length co51)) (v1 := (.slice (some ⟨go41, 0, none⟩) x3_1.length co51)) (ok := (fun k_ => ((P1_ k_ ∨ P2_ k_ ∨ P3_ k_) ∨ w.heap.size ≤ k_))) (by (with_reducible repeat (first | apply Kd.R_alloc | apply Kd.R_drewN | apply Kd.R_drew)); exact HO_2.out) hg (.inl rfl)); have n2_ := aM (hp_); have n3_ := aM ((by rw [hw]; exact below_set (HB.out) GB41.out : Below w0.heap.size w0 w53z)); have n4_ := aM (Kept.of_grown (S := (fun k_ => P1_ k_ ∨ P2_ k_ ∨ P3_ k_)) hg (by repeat (first | (with_reducible first | exact HK.out | apply Kept.alloc | apply Kept.drewN | apply Kept.drew) | exact HK.out)) (fun k_ e_ => (HO_3.out.1 k_ e_).1)); clear HO_1; clear HO_2; clear HO_3; clear HB; clear HK; have HO_1 := n0_; have HO_2 := n1_; have HO_3 := n2_; have HB := n3_; have HK := n4_; clear n0_ n1_ n2_ n3_ n4_; clear hg hw hp_; have p203 : 0 ≤ (x10_1 : Int) := of_decide_eq_true (by assumption); have q203 : x10_1 < (x1_1.length : Int) := of_decide_eq_true (by assumption); obtain ⟨ad203, e203, hx203_0⟩ := Kd.at_int (Kd.R_reads' HO_1.out).2.2 x10_1 p203 q203; obtain rfl : ad189 = ad203 := (by injection e203); replace p203 := eq_true p203; replace q203 := eq_true q203; have p204 : 0 ≤ (x10_1 : Int) := of_decide_eq_true (by assumption); have q204 : x10_1 < (l0.length : Int) := of_decide_eq_true (by assumption); obtain ⟨ad204, A204_0, c204_0, e204, hx204_0, hl204_0, hi204_0⟩ := at_L2 (Kd.C_kept_now HR0.out HK.out) x10_1 p204 q204; obtain rfl : ad190 = ad204 := (by injection e204); have HR204_0 := aM hi204_0; have HC204_0 := aM hl204_0; clear hi204_0 hl204_0; replace p204 := eq_true p204; replace q204 := eq_true q204; have p205 : 0 ≤ (x10_1 : Int) := of_decide_eq_true (by assumption); have q205 : x10_1 < (x1_1.length : Int) := of_decide_eq_true (by assumption); obtain ⟨ad205, e205, hx205_0⟩ := Kd.at_int (Kd.R_reads' HO_1.out).2.2 x10_1 p205 q205; obtain rfl : ad189 = ad205 := (by injection e205); replace p205 := eq_true p205; replace q205 := eq_true q205; have p206 : 0 ≤ ((rd x1_1 x10_1) : Int) := of_decide_eq_true (by assumption); have q206 : (rd x1_1 x10_1) < ((rd_L2 l0 x10_1).length : Int) := of_decide_eq_true (by assumption); obtain ⟨ad206, e206, hx206_0⟩ := Kd.at_int (by repeat (first | (with_reducible exact HR204_0.out) | (with_reducible refine Kd.C_alloc ?_ _) | (with_reducible refine Kd.C_drewN ?_ _) | (with_reducible refine Kd.C_drew ?_) | exact HR204_0.out)) (rd x1_1 x10_1) p206 q206; cases e206; replace p206 := eq_true p206; replace q206 := eq_true q206; have p47 : 0 ≤ ((rd (rd_L2 l0 x10_1) (rd x1_1 x10_1)) : Int) := of_decide_eq_true (by assumption); have q47 : ((rd (rd_L2 l0 x10_1) (rd x1_1 x10_1)) : Int) < ((x3_1.length : Int) : Int) := of_decide_eq_true (by assumption); obtain ⟨hx47_0, hf47_0⟩ := Kd.R_celln false HO_3.out ((rd (rd_L2 l0 x10_1) (rd x1_1 x10_1)) : Int) p47 q47; replace p47 := eq_true p47; replace q47 := eq_true q47; obtain ⟨hy54_, hz54_⟩ := Kd.R_celln false HO_3.out ((rd (rd_L2 l0 x10_1) (rd x1_1 x10_1)) : Int) (of_decide_eq_true (by assumption)) (of_decide_eq_true (by assumption)); have HP54 := Kd.R_putg HO_3.out ((rd (rd_L2 l0 x10_1) (rd x1_1 x10_1)) : Int) false) | ((with_reducible refine gate_store (t := 4) (p := 87) rfl ?_); refine store_event (t := 4) (p := 87) (v := ?vo_w55) (w1 := (w53z.setCell ⟨go41, ((rd (rd_L2 l0 x10_1) (rd x1_1 x10_1)) : Int).toNat, none⟩ (.bool false))) ?hg ?ho ?hn ?hr ?_; (case ho => rfl); (case hg => rfl); (case hn => rfl); (case hr => first | (go_simp; done) | (go_simp; rfl)); intro w55 hw; have hg : w53z.grownBy w55 (some go41) := (by rw [hw]; exact HP54.2); have hp_ : Kd.R Kd.bool 4 w55 w0.heap.size (fun k_ => ((P1_ k_ ∨ P2_ k_ ∨ P3_ k_) ∨ w.heap.size ≤ k_) ∧ some k_ ≠ (.slice (some ad188) x2_1.length co49 : Value).ownBlock) (.slice (some ⟨go41, 0, none⟩) x3_1.length co51) y207 := (by rw [hw, Ny207.out]; exact HP54.1); clear HP54; have n0_ := aM (Kd.R_over' (v := (.slice (some ⟨go41, 0, none⟩) x3_1.length co51)) (by (with_reducible repeat (first | apply Kd.R_alloc | apply Kd.R_drewN | apply Kd.R_drew)); exact HO_1.out) (Kd.R_typed HO_3.out) (by decide) hg); have n1_ := aM (Kd.R_after (v := (.slice (some ⟨go41, 0, none⟩) x3_1.length co51)) (v1 := (.slice (some ⟨go41, 0, none⟩) x3_1.length co51)) (ok := (fun k_ => ((P1_ k_ ∨ P2_ k_ ∨ P3_ k_) ∨ w.heap.size ≤ k_))) (by (with_reducible repeat (first | apply Kd.R_alloc | apply Kd.R_drewN | apply Kd.R_drew)); exact HO_2.out) hg (.inl rfl)); have n2_ := aM (hp_); have n3_ := aM ((by rw [hw]; exact below_set (HB.out) GB41.out : Below w0.heap.size w0 w55)); have n4_ := aM (Kept.of_grown (S := (fun k_ => P1_ k_ ∨ P2_ k_ ∨ P3_ k_)) hg (by repeat (first | (with_reducible first | exact HK.out | apply Kept.alloc | apply Kept.drewN | apply Kept.drew) | exact HK.out)) (fun k_ e_ => (HO_3.out.1 k_ e_).1)); clear HO_1; clear HO_2; clear HO_3; clear HB; clear HK; have HO_1 := n0_; have HO_2 := n1_; have HO_3 := n2_; have HB := n3_; have HK := n4_; clear n0_ n1_ n2_ n3_ n4_; clear hg hw hp_; have p208 : 0 ≤ (x10_1 : Int) := of_decide_eq_true (by assumption); have q208 : x10_1 < (x1_1.length : Int) := of_decide_eq_true (by assumption); obtain ⟨ad208, e208, hx208_0⟩ := Kd.at_int (Kd.R_reads' HO_1.out).2.2 x10_1 p208 q208; obtain rfl : ad189 = ad208 := (by injection e208); replace p208 := eq_true p208; replace q208 := eq_true q208; have p48 : 0 ≤ (x10_1 : Int) := of_decide_eq_true (by assumption); have q48 : (x10_1 : Int) < ((x1_1.length : Int) : Int) := of_decide_eq_true (by assumption); obtain ⟨go48, co48, eo48, gb48, gl48, cl48, HG48⟩ := Kd.R_form HO_1.out (by omega); (first | cases eo48 | (injection eo48 with ea_ en_ ec_; (first | subst ea_ | (injection ea_ with ea_; subst ea_)); subst ec_; clear en_)); have GB48 := aM gb48; have GG48 := aM HG48; clear gb48 gl48 HG48; have HMgo48 := aM (show ((P1_ go48 ∨ P2_ go48 ∨ P3_ go48) ∨ w.heap.size ≤ go48) from (HO_1.out.1 _ rfl)); (first | simp only [add_plain] at hx189_0 | skip); (first | simp only [add_plain] at hx191_0 | skip); (first | simp only [add_plain] at hx193_0 | skip); (first | simp only [add_plain] at hx199_0 | skip); (first | simp only [add_plain] at hx203_0 | skip); (first | simp only [add_plain] at hx205_0 | skip); (first | simp only [add_plain] at hx208_0 | skip); obtain ⟨hx48_0, hf48_0⟩ := Kd.R_celln 0 HO_1.out (x10_1 : Int) p48 q48; replace p48 := eq_true p48; replace q48 := eq_true q48; obtain ⟨hy56_, hz56_⟩ := Kd.R_celln 0 HO_1.out (x10_1 : Int) (of_decide_eq_true (by assumption)) (of_decide_eq_true (by assumption)); have HP56 := Kd.R_putg HO_1.out (x10_1 : Int) ji31) | ((with_reducible refine gate_store (t := 3) (p := 95) rfl ?_); refine store_event (t := 3) (p := 95) (v := ?vo_w57) (w1 := (w55.setCell ⟨go48, (x10_1 : Int).toNat, none⟩ (.int .i64 ji31))) ?hg ?ho ?hn ?hr ?_; (case ho => rfl); (case hg => rfl); (case hn => rfl); (case hr => first | (go_simp; done) | (go_simp; rfl)); intro w57 hw; have hg : w55.grownBy w57 (some go48) := (by rw [hw]; exact HP56.2); have hp_ : Kd.R (Kd.int .i64) 3 w57 w0.heap.size (fun k_ => ((P1_ k_ ∨ P2_ k_ ∨ P3_ k_) ∨ w.heap.size ≤ k_)) (.slice (some ⟨go48, 0, none⟩) x1_1.length co50) y209 := (by rw [hw, Ny209.out]; exact HP56.1); clear HP56; have n0_ := aM (hp_); have n1_ := aM (Kd.R_over' (v := (.slice (some ⟨go48, 0, none⟩) x1_1.length co50)) (by (with_reducible repeat (first | apply Kd.R_alloc | apply Kd.R_drewN | apply Kd.R_drew)); exact HO_2.out) (Kd.R_typed HO_1.out) (by decide) hg); have n2_ := aM (Kd.R_over' (v := (.slice (some ⟨go48, 0, none⟩) x1_1.length co50)) (by (with_reducible repeat (first | apply Kd.R_alloc | apply Kd.R_drewN | apply Kd.R_drew)); exact HO_3.out) (Kd.R_typed HO_1.out) (by decide) hg); have n3_ := aM ((by rw [hw]; exact below_set (HB.out) GB48.out : Below w0.heap.size w0 w57)); have n4_ := aM (Kept.of_grown (S := (fun k_ => P1_ k_ ∨ P2_ k_ ∨ P3_ k_)) hg (by repeat (first | (with_reducible first | exact HK.out | apply Kept.alloc | apply Kept.drewN | apply Kept.drew) | exact HK.out)) (fun k_ e_ => (HO_1.out.1 k_ e_))); clear HO_1; clear HO_2; clear HO_3; clear HB; clear HK; have HO_1 := n0_; have HO_2 := n1_; have HO_3 := n2_; have HB := n3_; have HK := n4_; clear n0_ n1_ n2_ n3_ n4_; clear hg hw hp_))
                   go_roundg k1
                   case measure => have := HK1.out; omega
                   case rel => exact ⟨(y209), (x2_1), (y207), (true), (wrap64 (x10_1 + 1)), (by first | rfl | (simp; done) | (simp [*]; done)), (by first | rfl | (simp; done) | (simp [*]; done)), H', ⟨by have := HK1.out; omega⟩, ⟨by (with_reducible repeat (first | apply Kd.R_alloc | apply Kd.R_drewN | apply Kd.R_drew)); exact HO_1.out⟩, ⟨by (with_reducible repeat (first | apply Kd.R_alloc | apply Kd.R_drewN | apply Kd.R_drew)); exact HO_2.out⟩, ⟨by (with_reducible repeat (first | apply Kd.R_alloc | apply Kd.R_drewN | apply Kd.R_drew)); exact HO_3.out⟩, ⟨by repeat (first | (with_reducible first | exact HK.out | apply Kept.alloc | apply Kept.drewN | apply Kept.drew) | exact HK.out)⟩, ⟨by repeat (first | (with_reducible first | exact HB.out | apply below_alloc | apply bN | apply bD) | exact HB.out)⟩⟩
                  ·
                   rw [if_neg c46] at H
                   exact absurd H (by simp)
                 ·
                  rw [if_neg c45] at H
                  exact absurd H (by simp)
                ·
                 rw [if_neg c44] at H
                 exact absurd H (by simp)
               ·
                rw [if_neg c43] at H
                exact absurd H (by simp)
              ·
               rw [if_neg c42] at H
               have c42b0 : decide (0 ≤ (rd x1_1 x10_1)) = false := decide_eq_false c42
               clear c42
               obtain ⟨y211, hy211⟩ : ∃ y_ : List Int, y_ = (x1_1.set (x10_1 : Int).toNat (ji31)) := ⟨_, rfl⟩
               replace H : (spec_l16Step.l0 k1 l0 y211 x2_1 y202 true (wrap64 (x10_1 + 1))) = some (r1, r2, r3, r4) := by first | (rw [hy211]; with_reducible exact H) | (have H2_ := (Option.bind_some _ _).symm.trans H; rw [hy211]; with_reducible exact H2_) | (have H2_ := (Option.bind_some _ _).symm.trans H; with_reducible exact H2_) | with_reducible exact H | (rw [hy211]; exact H) | exact H
               have Ny211 := aM hy211
               clear hy211
               have H' := aM H
               clear H
               obtain ⟨Ao59, co59, eo59⟩ := Kd.R_slice HO_2.out
               subst eo59
               have p188 : 0 ≤ (x10_1 : Int) := of_decide_eq_true (by assumption)
               have q188 : x10_1 < (x2_1.length : Int) := of_decide_eq_true (by assumption)
               obtain ⟨ad188, e188, hx188_0⟩ := Kd.at_bool (Kd.R_reads' HO_2.out).2.2 x10_1 p188 q188
               (try rw [← Nbq8.out] at hx188_0)
               (try rw [← Nbq36.out] at hx188_0)
               cases e188
               replace p188 := eq_true p188
               replace q188 := eq_true q188
               obtain ⟨Ao60, co60, eo60⟩ := Kd.R_slice HO_1.out
               subst eo60
               have p189 : 0 ≤ (x10_1 : Int) := of_decide_eq_true (by assumption)
               have q189 : x10_1 < (x1_1.length : Int) := of_decide_eq_true (by assumption)
               obtain ⟨ad189, e189, hx189_0⟩ := Kd.at_int (Kd.R_reads' HO_1.out).2.2 x10_1 p189 q189
               cases e189
               replace p189 := eq_true p189
               replace q189 := eq_true q189
               have p190 : 0 ≤ (x10_1 : Int) := of_decide_eq_true (by assumption)
               have q190 : x10_1 < (l0.length : Int) := of_decide_eq_true (by assumption)
               obtain ⟨ad190, A190_0, c190_0, e190, hx190_0, hl190_0, hi190_0⟩ := at_L2 (Kd.C_kept_now HR0.out HK.out) x10_1 p190 q190
               cases e190
               have HR190_0 := aM hi190_0
               have HC190_0 := aM hl190_0
               clear hi190_0 hl190_0
               replace p190 := eq_true p190
               replace q190 := eq_true q190
               have p198 : 0 ≤ (x10_1 : Int) := of_decide_eq_true (by assumption)
               have q198 : x10_1 < (l0.length : Int) := of_decide_eq_true (by assumption)
               obtain ⟨ad198, A198_0, c198_0, e198, hx198_0, hl198_0, hi198_0⟩ := at_L2 (Kd.C_kept_now HR0.out HK.out) x10_1 p198 q198
               obtain rfl : ad190 = ad198 := (by injection e198)
               have HR198_0 := aM hi198_0
               have HC198_0 := aM hl198_0
               clear hi198_0 hl198_0
               replace p198 := eq_true p198
               replace q198 := eq_true q198
               have ea_ := Option.some.inj (hx190_0.symm.trans hx198_0)
               injection ea_ with ea_ en_ ec_
               subst ea_
               subst ec_
               clear en_
               have p199 : 0 ≤ (x10_1 : Int) := of_decide_eq_true (by assumption)
               have q199 : x10_1 < (x1_1.length : Int) := of_decide_eq_true (by assumption)
               obtain ⟨ad199, e199, hx199_0⟩ := Kd.at_int (Kd.R_reads' HO_1.out).2.2 x10_1 p199 q199
               obtain rfl : ad189 = ad199 := (by injection e199)
               replace p199 := eq_true p199
               replace q199 := eq_true q199
               have p200 : 0 ≤ ((ji31) : Int) := of_decide_eq_true (by assumption)
               have q200 : (ji31) < ((rd_L2 l0 x10_1).length : Int) := of_decide_eq_true (by assumption)
               obtain ⟨ad200, e200, hx200_0⟩ := Kd.at_int (by repeat (first | (with_reducible exact HR198_0.out) | (with_reducible refine Kd.C_alloc ?_ _) | (with_reducible refine Kd.C_drewN ?_ _) | (with_reducible refine Kd.C_drew ?_) | exact HR198_0.out)) (ji31) p200 q200
               cases e200
               replace p200 := eq_true p200
               replace q200 := eq_true q200
               obtain ⟨Ao61, co61, eo61⟩ := Kd.R_slice HO_3.out
               subst eo61
               have p201 : 0 ≤ ((rd (rd_L2 l0 x10_1) (ji31)) : Int) := of_decide_eq_true (by assumption)
               have q201 : (rd (rd_L2 l0 x10_1) (ji31)) < (x3_1.length : Int) := of_decide_eq_true (by assumption)
               obtain ⟨ad201, e201, hx201_0⟩ := Kd.at_bool (Kd.R_reads' HO_3.out).2.2 (rd (rd_L2 l0 x10_1) (ji31)) p201 q201
               (try rw [← Nbq8.out] at hx201_0)
               (try rw [← Nbq36.out] at hx201_0)
               cases e201
               replace p201 := eq_true p201
               replace q201 := eq_true q201
               clear HR190_0
               clear HR198_0
               go_wp2
               go_quiet (fail)
               (try simp only [i64_w, i32_w])
               generalize hW : wr.drewN _ = wz1
               replace HO_1 := aM (Kd.R_at hW HO_1.out)
               replace HO_2 := aM (Kd.R_at hW HO_2.out)
               replace HO_3 := aM (Kd.R_at hW HO_3.out)
               replace HK := aM (kept_at hW HK.out)
               replace HB := aM (below_at hW HB.out)
               have hq : ∀ p, wr.cell? p = wz1.cell? p := fun p => by rw [← hW]; rfl
               have hqf : ∀ p, wr.frozen? p = wz1.frozen? p := fun p => by rw [← hW]; rfl
               rw [hq] at hx188_0
               rw [hq] at hx189_0
               rw [hq] at hx190_0
               rw [hq] at hx198_0
               rw [hq] at hx199_0
               rw [hq] at hx200_0
               rw [hq] at hx201_0
               clear hq hqf hW
               go_wp2
               go_quiet (fail)
               (try simp only [i64_w, i32_w])
               generalize hW : wz1.drewN _ = wz2
               replace HO_1 := aM (Kd.R_at hW HO_1.out)
               replace HO_2 := aM (Kd.R_at hW HO_2.out)
               replace HO_3 := aM (Kd.R_at hW HO_3.out)
               replace HK := aM (kept_at hW HK.out)
               replace HB := aM (below_at hW HB.out)
               have hq : ∀ p, wz1.cell? p = wz2.cell? p := fun p => by rw [← hW]; rfl
               have hqf : ∀ p, wz1.frozen? p = wz2.frozen? p := fun p => by rw [← hW]; rfl
               rw [hq] at hx188_0
               rw [hq] at hx189_0
               rw [hq] at hx190_0
               rw [hq] at hx198_0
               rw [hq] at hx199_0
               rw [hq] at hx200_0
               rw [hq] at hx201_0
               clear hq hqf hW
               have p41 : 0 ≤ ((rd (rd_L2 l0 x10_1) (ji31)) : Int) := of_decide_eq_true (by assumption)
               have q41 : ((rd (rd_L2 l0 x10_1) (ji31)) : Int) < ((x3_1.length : Int) : Int) := of_decide_eq_true (by assumption)
               obtain ⟨go41, co41, eo41, gb41, gl41, cl41, HG41⟩ := Kd.R_form HO_3.out (by omega)
               (first | cases eo41 | (injection eo41 with ea_ en_ ec_; (first | subst ea_ | (injection ea_ with ea_; subst ea_)); subst ec_; clear en_))
               have GB41 := aM gb41
               have GG41 := aM HG41
               clear gb41 gl41 HG41
               have HMgo41 := aM (show ((P1_ go41 ∨ P2_ go41 ∨ P3_ go41) ∨ w.heap.size ≤ go41) from (HO_3.out.1 _ rfl).1)
               (first | simp only [add_plain] at hx201_0 | skip)
               obtain ⟨hx41_0, hf41_0⟩ := Kd.R_celln false HO_3.out ((rd (rd_L2 l0 x10_1) (ji31)) : Int) p41 q41
               replace p41 := eq_true p41
               replace q41 := eq_true q41
               have HP62 := Kd.R_putg HO_3.out ((rd (rd_L2 l0 x10_1) (ji31)) : Int) true
               go_wp2_with (first | ((with_reducible refine gate_store (t := 4) (p := 70) rfl ?_); refine store_event (t := 4) (p := 70) (v := ?vo_w63) (w1 := (wz2.setCell ⟨go41, ((rd (rd_L2 l0 x10_1) (ji31)) : Int).toNat, none⟩ (.bool true))) ?hg ?ho ?hn ?hr ?_; (case ho => rfl); (case hg => rfl); (case hn => rfl); (case hr => first | (go_simp; done) | (go_simp; rfl)); intro w63 hw; have hg : wz2.grownBy w63 (some go41) := (by rw [hw]; exact HP62.2); have hp_ : Kd.R Kd.bool 4 w63 w0.heap.size (fun k_ => ((P1_ k_ ∨ P2_ k_ ∨ P3_ k_) ∨ w.heap.size ≤ k_) ∧ some k_ ≠ (.slice (some ad188) x2_1.length co59 : Value).ownBlock) (.slice (some ⟨go41, 0, none⟩) x3_1.length co61) y202 := (by rw [hw, Ny202.out]; exact HP62.1); clear HP62; have n0_ := aM (Kd.R_over' (v := (.slice (some ⟨go41, 0, none⟩) x3_1.length co61)) (by (with_reducible repeat (first | apply Kd.R_alloc | apply Kd.R_drewN | apply Kd.R_drew)); exact HO_1.out) (Kd.R_typed HO_3.out) (by decide) hg); have n1_ := aM (Kd.R_after (v := (.slice (some ⟨go41, 0, none⟩) x3_1.length co61)) (v1 := (.slice (some ⟨go41, 0, none⟩) x3_1.length co61)) (ok := (fun k_ => ((P1_ k_ ∨ P2_ k_ ∨ P3_ k_) ∨ w.heap.size ≤ k_))) (by (with_reducible repeat (first | apply Kd.R_alloc | apply Kd.R_drewN | apply Kd.R_drew)); exact HO_2.out) hg (.inl rfl)); have n2_ := aM (hp_); have n3_ := aM ((by rw [hw]; exact below_set (HB.out) GB41.out : Below w0.heap.size w0 w63)); have n4_ := aM (Kept.of_grown (S := (fun k_ => P1_ k_ ∨ P2_ k_ ∨ P3_ k_)) hg (by repeat (first | (with_reducible first | exact HK.out | apply Kept.alloc | apply Kept.drewN | apply Kept.drew) | exact HK.out)) (fun k_ e_ => (HO_3.out.1 k_ e_).1)); clear HO_1; clear HO_2; clear HO_3; clear HB; clear HK; have HO_1 := n0_; have HO_2 := n1_; have HO_3 := n2_; have HB := n3_; have HK := n4_; clear n0_ n1_ n2_ n3_ n4_; clear hg hw hp_; have p203 : 0 ≤ (x10_1 : Int) := of_decide_eq_true (by assumption); have q203 : x10_1 < (x1_1.length : Int) := of_decide_eq_true (by assumption); obtain ⟨ad203, e203, hx203_0⟩ := Kd.at_int (Kd.R_reads' HO_1.out).2.2 x10_1 p203 q203; obtain rfl : ad189 = ad203 := (by injection e203); replace p203 := eq_true p203; replace q203 := eq_true q203; have p210 : 0 ≤ (x10_1 : Int) := of_decide_eq_true (by assumption); have q210 : x10_1 < (x1_1.length : Int) := of_decide_eq_true (by assumption); obtain ⟨ad210, e210, hx210_0⟩ := Kd.at_int (Kd.R_reads' HO_1.out).2.2 x10_1 p210 q210; obtain rfl : ad189 = ad210 := (by injection e210); replace p210 := eq_true p210; replace q210 := eq_true q210; have p58 : 0 ≤ (x10_1 : Int) := of_decide_eq_true (by assumption); have q58 : (x10_1 : Int) < ((x1_1.length : Int) : Int) := of_decide_eq_true (by assumption); obtain ⟨go58, co58, eo58, gb58, gl58, cl58, HG58⟩ := Kd.R_form HO_1.out (by omega); (first | cases eo58 | (injection eo58 with ea_ en_ ec_; (first | subst ea_ | (injection ea_ with ea_; subst ea_)); subst ec_; clear en_)); have GB58 := aM gb58; have GG58 := aM HG58; clear gb58 gl58 HG58; have HMgo58 := aM (show ((P1_ go58 ∨ P2_ go58 ∨ P3_ go58) ∨ w.heap.size ≤ go58) from (HO_1.out.1 _ rfl)); (first | simp only [add_plain] at hx189_0 | skip); (first | simp only [add_plain] at hx199_0 | skip); (first | simp only [add_plain] at hx203_0 | skip); (first | simp only [add_plain] at hx210_0 | skip); obtain ⟨hx58_0, hf58_0⟩ := Kd.R_celln 0 HO_1.out (x10_1 : Int) p58 q58; replace p58 := eq_true p58; replace q58 := eq_true q58; obtain ⟨hy64_, hz64_⟩ := Kd.R_celln 0 HO_1.out (x10_1 : Int) (of_decide_eq_true (by assumption)) (of_decide_eq_true (by assumption)); have HP64 := Kd.R_putg HO_1.out (x10_1 : Int) ji31) | ((with_reducible refine gate_store (t := 3) (p := 95) rfl ?_); refine store_event (t := 3) (p := 95) (v := ?vo_w65) (w1 := (w63.setCell ⟨go58, (x10_1 : Int).toNat, none⟩ (.int .i64 ji31))) ?hg ?ho ?hn ?hr ?_; (case ho => rfl); (case hg => rfl); (case hn => rfl); (case hr => first | (go_simp; done) | (go_simp; rfl)); intro w65 hw; have hg : w63.grownBy w65 (some go58) := (by rw [hw]; exact HP64.2); have hp_ : Kd.R (Kd.int .i64) 3 w65 w0.heap.size (fun k_ => ((P1_ k_ ∨ P2_ k_ ∨ P3_ k_) ∨ w.heap.size ≤ k_)) (.slice (some ⟨go58, 0, none⟩) x1_1.length co60) y211 := (by rw [hw, Ny211.out]; exact HP64.1); clear HP64; have n0_ := aM (hp_); have n1_ := aM (Kd.R_over' (v := (.slice (some ⟨go58, 0, none⟩) x1_1.length co60)) (by (with_reducible repeat (first | apply Kd.R_alloc | apply Kd.R_drewN | apply Kd.R_drew)); exact HO_2.out) (Kd.R_typed HO_1.out) (by decide) hg); have n2_ := aM (Kd.R_over' (v := (.slice (some ⟨go58, 0, none⟩) x1_1.length co60)) (by (with_reducible repeat (first | apply Kd.R_alloc | apply Kd.R_drewN | apply Kd.R_drew)); exact HO_3.out) (Kd.R_typed HO_1.out) (by decide) hg); have n3_ := aM ((by rw [hw]; exact below_set (HB.out) GB58.out : Below w0.heap.size w0 w65)); have n4_ := aM (Kept.of_grown (S := (fun k_ => P1_ k_ ∨ P2_ k_ ∨ P3_ k_)) hg (by repeat (first | (with_reducible first | exact HK.out | apply Kept.alloc | apply Kept.drewN | apply Kept.drew) | exact HK.out)) (fun k_ e_ => (HO_1.out.1 k_ e_))); clear HO_1; clear HO_2; clear HO_3; clear HB; clear HK; have HO_1 := n0_; have HO_2 := n1_; have HO_3 := n2_; have HB := n3_; have HK := n4_; clear n0_ n1_ n2_ n3_ n4_; clear hg hw hp_))
               go_roundg k1
               case measure => have := HK1.out; omega
               case rel => exact ⟨(y211), (x2_1), (y202), (true), (wrap64 (x10_1 + 1)), (by first | rfl | (simp; done) | (simp [*]; done)), (by first | rfl | (simp; done) | (simp [*]; done)), H', ⟨by have := HK1.out; omega⟩, ⟨by (with_reducible repeat (first | apply Kd.R_alloc | apply Kd.R_drewN | apply Kd.R_drew)); exact HO_1.out⟩, ⟨by (with_reducible repeat (first | apply Kd.R_alloc | apply Kd.R_drewN | apply Kd.R_drew)); exact HO_2.out⟩, ⟨by (with_reducible repeat (first | apply Kd.R_alloc | apply Kd.R_drewN | apply Kd.R_drew)); exact HO_3.out⟩, ⟨by repeat (first | (with_reducible first | exact HK.out | apply Kept.alloc | apply Kept.drewN | apply Kept.drew) | exact HK.out)⟩, ⟨by repeat (first | (with_reducible first | exact HB.out | apply below_alloc | apply bN | apply bD) | exact HB.out)⟩⟩
            ·
             rw [if_neg c35] at H
             exact absurd H (by simp)
           ·
            rw [if_neg c34] at H
            exact absurd H (by simp)
          ·
           rw [if_neg c33] at H
           exact absurd H (by simp)
         ·
          rw [if_neg c32] at H
          exact absurd H (by simp)
       ·
        rw [if_neg c11] at H
        exact absurd H (by simp)
     ·
      rw [if_neg c7] at H
      exact absurd H (by simp)
    ·
     rw [if_neg c6] at H
     exact absurd H (by simp)
   ·
    rw [if_neg c5] at H
    have c5b0 : decide (x10_1 < (l0.length : Int)) = false := decide_eq_false c5
    clear c5
    simp only [Option.some.injEq, Prod.mk.injEq] at H
    obtain ⟨rfl, rfl, rfl, rfl⟩ := H
    go_wp2
    go_ret
    exact ⟨by first | rfl | (simp [*] <;> rfl), by (with_reducible repeat (first | apply Kd.R_alloc | apply Kd.R_drewN | apply Kd.R_drew)); exact HO_1.out, by (with_reducible repeat (first | apply Kd.R_alloc | apply Kd.R_drewN | apply Kd.R_drew)); exact Kd.R_mono HO_2.out (fun _ hk => hk.1), by (with_reducible repeat (first | apply Kd.R_alloc | apply Kd.R_drewN | apply Kd.R_drew)); exact Kd.R_mono HO_3.out (fun _ hk => hk.1), by repeat (first | (with_reducible first | exact HB.out | apply below_alloc | apply bN | apply bD) | exact HB.out), by repeat (first | (with_reducible first | exact HK.out | apply Kept.alloc | apply Kept.drewN | apply Kept.drew) | exact HK.out)⟩
end Go.Proofs.Ytdbokdodjekchaa.PFnNoRound
