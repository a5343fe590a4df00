/- What the Go functions that this law reaches answer, function by function; conditions: those that each contract names. Made for this claim by a program of this session (wip/myprint) over the kit's print. -/
import Derived.Test.YtmakbieljmldfaaPFnWirex0
namespace Go.Proofs.Ytmakbieljmldfaa.PFnWire
open Go.RowKit Go.Proofs.YtmakbieljmldfaaW.PrintWords Go.Proofs.YtmakbieljmldfaaW.PrintLast Go.Proofs.YtmakbieljmldfaaW.PrintMore
attribute [local go_sem] max2_int min2_int max_two min_two max_three min_three max_four min_four   -- for this text's walks alone
set_option linter.unusedVariables false
set_option linter.unusedSimpArgs false

/-! ### spec_l1In: function 71 -/
def spec_l1In.f (a0 : Int) (a1 : Int) (a2 : Int) : Option (Bool) := if a0 ≥ a1 then (some (decide (a0 ≤ a2))) else (some false)
set_option maxHeartbeats 8000000 in
set_option maxRecDepth 100000 in
theorem spec_l1In.calls (a0 : Int) (a1 : Int) (a2 : Int) (r : Bool) (w : World) (h : spec_l1In.f a0 a1 a2 = some r) :
    Calls Try.prog 71 #[.int .i64 a0, .int .i64 a1, .int .i64 a2] w fun e w' => e = .returned (.bool r) ∧ Drawn0 w w' := by
  have H : (if a0 ≥ a1 then (some (decide (a0 ≤ a2))) else (some false)) = some r := h
  clear h
  by_cases c4 : a0 ≥ a1
  · rw [if_pos c4] at H
    have c4b0 : decide (a1 ≤ a0) = true := decide_eq_true c4
    clear c4
    obtain rfl := Option.some.inj H
    go_enter Try.func71, Try.ntmps71
    go_wp2
    go_ret
    exact ⟨by first | rfl | (simp; done) | (simp [*]; done), by repeat (first | exact Drawn0.refl _ | apply Drawn0.step)⟩
  · rw [if_neg c4] at H
    have c4b0 : decide (a1 ≤ a0) = false := decide_eq_false c4
    clear c4
    obtain rfl := Option.some.inj H
    go_enter Try.func71, Try.ntmps71
    go_wp2
    go_ret
    exact ⟨by first | rfl | (simp; done) | (simp [*]; done), by repeat (first | exact Drawn0.refl _ | apply Drawn0.step)⟩

/-! ### spec_l16Fabric: function 75 -/
def spec_l16Fabric.f (a0 : Int) (a1 : Int) : Option (Bool) := (spec_l1In.f a0 1 5).bind fun t101 => (if t101 = true then ((spec_l1In.f a1 1 5).bind fun t102 => (some t102)) else (some false))
set_option maxHeartbeats 8000000 in
set_option maxRecDepth 100000 in
theorem spec_l16Fabric.calls (a0 : Int) (a1 : Int) (r : Bool) (w : World) (h : spec_l16Fabric.f a0 a1 = some r) :
    Calls Try.prog 75 #[.int .i64 a0, .int .i64 a1] w fun e w' => e = .returned (.bool r) ∧ Drawn0 w w' := by
  have H : ((spec_l1In.f a0 1 5).bind fun t101 => (if t101 = true then ((spec_l1In.f a1 1 5).bind fun t102 => (some t102)) else (some false))) = some r := h
  clear h
  replace H := Option.bind_eq_some_iff.mp H
  obtain ⟨t101, A30, H⟩ := H
  replace H : (if t101 = true then ((spec_l1In.f a1 1 5).bind fun t102 => (some t102)) else (some false)) = some r := H
  have A3 := Aside0.mk A30
  clear A30
  by_cases c4 : t101 = true
  · subst c4
    have H1 : ((spec_l1In.f a1 1 5).bind fun t102 => (some t102)) = some r := by rw [if_pos rfl] at H; exact H
    clear H
    have H := H1
    clear H1
    replace H := Option.bind_eq_some_iff.mp H
    obtain ⟨t102, A50, H⟩ := H
    replace H : (some t102) = some r := H
    have A5 := Aside0.mk A50
    clear A50
    obtain rfl := Option.some.inj H
    go_enter Try.func75, Try.ntmps75
    go_wp2_with (first | ((with_reducible refine gate_callee (f := 71) rfl ?_); refine goesL_ (some 6) rfl rfl Try.func71 (by kernel_rfl) rfl #[.int .i64 a0, .int .i64 1, .int .i64 5] rfl (by (try simp only [List.map_toArray, List.map_cons, List.map_nil]); first | done | rfl | (simp only [List.length_drop, List.length_take]; rfl)) ?_; (with_reducible refine (spec_l1In.calls a0 1 5 true _ A3.out).mono ?_); rintro e w' ⟨rfl, ⟨nd, rfl⟩⟩; refine ⟨_, rfl, ?_⟩) | (go_at_call 71; (with_reducible refine (spec_l1In.calls a1 1 5 t102 _ A5.out).mono ?_); rintro e w' ⟨rfl, ⟨nd, rfl⟩⟩))
    go_ret
    exact ⟨by first | rfl | (simp; done) | (simp [*]; done), by repeat (first | exact Drawn0.refl _ | apply Drawn0.step)⟩
  · replace c4 := Bool.eq_false_iff.mpr c4
    subst c4
    have H1 : (some false) = some r := by rw [if_neg (show ¬ (false = true) by decide)] at H; exact H
    clear H
    have H := H1
    clear H1
    obtain rfl := Option.some.inj H
    go_enter Try.func75, Try.ntmps75
    go_wp2_with (first | ((with_reducible refine gate_callee (f := 71) rfl ?_); refine goesL_ (some 6) rfl rfl Try.func71 (by kernel_rfl) rfl #[.int .i64 a0, .int .i64 1, .int .i64 5] rfl (by (try simp only [List.map_toArray, List.map_cons, List.map_nil]); first | done | rfl | (simp only [List.length_drop, List.length_take]; rfl)) ?_; (with_reducible refine (spec_l1In.calls a0 1 5 false _ A3.out).mono ?_); rintro e w' ⟨rfl, ⟨nd, rfl⟩⟩; refine ⟨_, rfl, ?_⟩))
    go_ret
    exact ⟨by first | rfl | (simp; done) | (simp [*]; done), by repeat (first | exact Drawn0.refl _ | apply Drawn0.step)⟩

/-! ### spec_l16Nodes: function 53 -/
def spec_l16Nodes.f (a0 : Int) (a1 : Int) (a2 : Int) (a3 : Int) : Option (Bool) := (spec_l16Fabric.f a0 a1).bind fun t103 => (if t103 = true then ((spec_l1In.f a2 0 (wrap64 ((wrap64 (a0 * a1)) - 1))).bind fun t104 => (if t104 = true then ((spec_l1In.f a3 0 (wrap64 ((wrap64 (a0 * a1)) - 1))).bind fun t105 => (some t105)) else (some false))) else (some false))
set_option maxHeartbeats 8000000 in
set_option maxRecDepth 100000 in
theorem spec_l16Nodes.calls (a0 : Int) (a1 : Int) (a2 : Int) (a3 : Int) (r : Bool) (w : World) (h : spec_l16Nodes.f a0 a1 a2 a3 = some r) :
    Calls Try.prog 53 #[.int .i64 a0, .int .i64 a1, .int .i64 a2, .int .i64 a3] w fun e w' => e = .returned (.bool r) ∧ Drawn0 w w' := by
  have H : ((spec_l16Fabric.f a0 a1).bind fun t103 => (if t103 = true then ((spec_l1In.f a2 0 (wrap64 ((wrap64 (a0 * a1)) - 1))).bind fun t104 => (if t104 = true then ((spec_l1In.f a3 0 (wrap64 ((wrap64 (a0 * a1)) - 1))).bind fun t105 => (some t105)) else (some false))) else (some false))) = some r := h
  clear h
  replace H := Option.bind_eq_some_iff.mp H
  obtain ⟨t103, A50, H⟩ := H
  replace H : (if t103 = true then ((spec_l1In.f a2 0 (wrap64 ((wrap64 (a0 * a1)) - 1))).bind fun t104 => (if t104 = true then ((spec_l1In.f a3 0 (wrap64 ((wrap64 (a0 * a1)) - 1))).bind fun t105 => (some t105)) else (some false))) else (some false)) = some r := H
  have A5 := Aside0.mk A50
  clear A50
  by_cases c6 : t103 = true
  · subst c6
    have H1 : ((spec_l1In.f a2 0 (wrap64 ((wrap64 (a0 * a1)) - 1))).bind fun t104 => (if t104 = true then ((spec_l1In.f a3 0 (wrap64 ((wrap64 (a0 * a1)) - 1))).bind fun t105 => (some t105)) else (some false))) = some r := by rw [if_pos rfl] at H; exact H
    clear H
    have H := H1
    clear H1
    replace H := Option.bind_eq_some_iff.mp H
    obtain ⟨t104, A70, H⟩ := H
    replace H : (if t104 = true then ((spec_l1In.f a3 0 (wrap64 ((wrap64 (a0 * a1)) - 1))).bind fun t105 => (some t105)) else (some false)) = some r := H
    have A7 := Aside0.mk A70
    clear A70
    by_cases c8 : t104 = true
    · subst c8
      have H1 : ((spec_l1In.f a3 0 (wrap64 ((wrap64 (a0 * a1)) - 1))).bind fun t105 => (some t105)) = some r := by rw [if_pos rfl] at H; exact H
      clear H
      have H := H1
      clear H1
      replace H := Option.bind_eq_some_iff.mp H
      obtain ⟨t105, A90, H⟩ := H
      replace H : (some t105) = some r := H
      have A9 := Aside0.mk A90
      clear A90
      obtain rfl := Option.some.inj H
      go_enter Try.func53, Try.ntmps53
      go_wp2_with (first | ((with_reducible refine gate_callee (f := 75) rfl ?_); refine goesL_ (some 11) rfl rfl Try.func75 (by kernel_rfl) rfl #[.int .i64 a0, .int .i64 a1] rfl (by (try simp only [List.map_toArray, List.map_cons, List.map_nil]); first | done | rfl | (simp only [List.length_drop, List.length_take]; rfl)) ?_; (with_reducible refine (spec_l16Fabric.calls a0 a1 true _ A5.out).mono ?_); rintro e w' ⟨rfl, ⟨nd, rfl⟩⟩; refine ⟨_, rfl, ?_⟩) | (go_at_call 71; (with_reducible refine (spec_l1In.calls a2 0 (wrap64 ((wrap64 (a0 * a1)) - 1)) true _ A7.out).mono ?_); rintro e w' ⟨rfl, ⟨nd, rfl⟩⟩) | (go_at_call 71; (with_reducible refine (spec_l1In.calls a3 0 (wrap64 ((wrap64 (a0 * a1)) - 1)) t105 _ A9.out).mono ?_); rintro e w' ⟨rfl, ⟨nd, rfl⟩⟩))
      go_ret
      exact ⟨by first | rfl | (simp; done) | (simp [*]; done), by repeat (first | exact Drawn0.refl _ | apply Drawn0.step)⟩
    · replace c8 := Bool.eq_false_iff.mpr c8
      subst c8
      have H1 : (some false) = some r := by rw [if_neg (show ¬ (false = true) by decide)] at H; exact H
      clear H
      have H := H1
      clear H1
      obtain rfl := Option.some.inj H
      go_enter Try.func53, Try.ntmps53
      go_wp2_with (first | ((with_reducible refine gate_callee (f := 75) rfl ?_); refine goesL_ (some 11) rfl rfl Try.func75 (by kernel_rfl) rfl #[.int .i64 a0, .int .i64 a1] rfl (by (try simp only [List.map_toArray, List.map_cons, List.map_nil]); first | done | rfl | (simp only [List.length_drop, List.length_take]; rfl)) ?_; (with_reducible refine (spec_l16Fabric.calls a0 a1 true _ A5.out).mono ?_); rintro e w' ⟨rfl, ⟨nd, rfl⟩⟩; refine ⟨_, rfl, ?_⟩) | (go_at_call 71; (with_reducible refine (spec_l1In.calls a2 0 (wrap64 ((wrap64 (a0 * a1)) - 1)) false _ A7.out).mono ?_); rintro e w' ⟨rfl, ⟨nd, rfl⟩⟩))
      go_ret
      exact ⟨by first | rfl | (simp; done) | (simp [*]; done), by repeat (first | exact Drawn0.refl _ | apply Drawn0.step)⟩
  · replace c6 := Bool.eq_false_iff.mpr c6
    subst c6
    have H1 : (some false) = some r := by rw [if_neg (show ¬ (false = true) by decide)] at H; exact H
    clear H
    have H := H1
    clear H1
    obtain rfl := Option.some.inj H
    go_enter Try.func53, Try.ntmps53
    go_wp2_with (first | ((with_reducible refine gate_callee (f := 75) rfl ?_); refine goesL_ (some 11) rfl rfl Try.func75 (by kernel_rfl) rfl #[.int .i64 a0, .int .i64 a1] rfl (by (try simp only [List.map_toArray, List.map_cons, List.map_nil]); first | done | rfl | (simp only [List.length_drop, List.length_take]; rfl)) ?_; (with_reducible refine (spec_l16Fabric.calls a0 a1 false _ A5.out).mono ?_); rintro e w' ⟨rfl, ⟨nd, rfl⟩⟩; refine ⟨_, rfl, ?_⟩))
    go_ret
    exact ⟨by first | rfl | (simp; done) | (simp [*]; done), by repeat (first | exact Drawn0.refl _ | apply Drawn0.step)⟩

/-! ### spec_l16Wire: function 54 -/
mutual
def spec_l16Wire.j0 : Nat → Int → Int → Int → Int → Int → Bool → Option (Int)
  | 0, _, _, _, _, _, _ => none
  | k + 1, x1, x7, x8, x9, x10, x23 => if x23 = true then (some (wrap64 (4 * x1))) else (if x8 = x10 then (spec_l16Wire.j1 k x1 x7 x8 x9 x10 (x9 == (wrap64 (x7 - 1)))) else (spec_l16Wire.j1 k x1 x7 x8 x9 x10 false))
def spec_l16Wire.j1 : Nat → Int → Int → Int → Int → Int → Bool → Option (Int)
  | 0, _, _, _, _, _, _ => none
  | k + 1, x1, x7, x8, x9, x10, x35 => if x35 = true then (some (wrap64 ((wrap64 (4 * x1)) + 1))) else (if x7 = x9 then (spec_l16Wire.j2 k x1 x7 x8 x9 x10 (x10 == (wrap64 (x8 + 1)))) else (spec_l16Wire.j2 k x1 x7 x8 x9 x10 false))
def spec_l16Wire.j2 : Nat → Int → Int → Int → Int → Int → Bool → Option (Int)
  | 0, _, _, _, _, _, _ => none
  | k + 1, x1, x7, x8, x9, x10, x48 => if x48 = true then (some (wrap64 ((wrap64 (4 * x1)) + 2))) else (if x7 = x9 then (if x10 = (wrap64 (x8 - 1)) then (some (wrap64 ((wrap64 (4 * x1)) + 3))) else (some (-1))) else (some (-1)))
end
def spec_l16Wire.f (k : Nat) (a0 : Int) (a1 : Int) (a2 : Int) : Option (Int) := if a0 = 0 then (none) else (if (wrap64 (Int.tdiv a1 a0)) = (wrap64 (Int.tdiv a2 a0)) then (spec_l16Wire.j0 k a1 (Int.tmod a1 a0) (wrap64 (Int.tdiv a1 a0)) (Int.tmod a2 a0) (wrap64 (Int.tdiv a2 a0)) ((Int.tmod a2 a0) == (wrap64 ((Int.tmod a1 a0) + 1)))) else (spec_l16Wire.j0 k a1 (Int.tmod a1 a0) (wrap64 (Int.tdiv a1 a0)) (Int.tmod a2 a0) (wrap64 (Int.tdiv a2 a0)) false))
theorem spec_l16Wire.mono_l : ∀ k, (∀ y0 y1 y2 y3 y4 y5, LeO (spec_l16Wire.j0 k y0 y1 y2 y3 y4 y5) (spec_l16Wire.j0 (k + 1) y0 y1 y2 y3 y4 y5)) ∧ (∀ y0 y1 y2 y3 y4 y5, LeO (spec_l16Wire.j1 k y0 y1 y2 y3 y4 y5) (spec_l16Wire.j1 (k + 1) y0 y1 y2 y3 y4 y5)) ∧ (∀ y0 y1 y2 y3 y4 y5, LeO (spec_l16Wire.j2 k y0 y1 y2 y3 y4 y5) (spec_l16Wire.j2 (k + 1) y0 y1 y2 y3 y4 y5))
  | 0 => ⟨fun _ _ _ _ _ _ r h => by simp [spec_l16Wire.j0] at h, fun _ _ _ _ _ _ r h => by simp [spec_l16Wire.j1] at h, fun _ _ _ _ _ _ r h => by simp [spec_l16Wire.j2] at h⟩
  | k + 1 => by
    obtain ⟨ih0, ih1, ih2⟩ := spec_l16Wire.mono_l k
    refine ⟨?_, ?_, ?_⟩
    · intro y0 y1 y2 y3 y4 y5
      unfold spec_l16Wire.j0
      repeat' first
      | (with_reducible exact ih0 _ _ _ _ _ _)
      | (with_reducible exact ih1 _ _ _ _ _ _)
      | (with_reducible exact ih2 _ _ _ _ _ _)
      | (with_reducible exact LeO.refl _)
      | (with_reducible exact LeO.none _)
      | (with_reducible refine LeO.ite ?_ ?_)
      | (with_reducible refine LeO.bind ?_ (fun _ => ?_))
      | exact ih0 _ _ _ _ _ _
      | exact ih1 _ _ _ _ _ _
      | exact ih2 _ _ _ _ _ _
      | exact LeO.none _
      | refine LeO.ite ?_ ?_
      | refine LeO.bind ?_ (fun _ => ?_)
    · intro y0 y1 y2 y3 y4 y5
      unfold spec_l16Wire.j1
      repeat' first
      | (with_reducible exact ih0 _ _ _ _ _ _)
      | (with_reducible exact ih1 _ _ _ _ _ _)
      | (with_reducible exact ih2 _ _ _ _ _ _)
      | (with_reducible exact LeO.refl _)
      | (with_reducible exact LeO.none _)
      | (with_reducible refine LeO.ite ?_ ?_)
      | (with_reducible refine LeO.bind ?_ (fun _ => ?_))
      | exact ih0 _ _ _ _ _ _
      | exact ih1 _ _ _ _ _ _
      | exact ih2 _ _ _ _ _ _
      | exact LeO.none _
      | refine LeO.ite ?_ ?_
      | refine LeO.bind ?_ (fun _ => ?_)
    · intro y0 y1 y2 y3 y4 y5
      unfold spec_l16Wire.j2
      repeat' first
      | (with_reducible exact ih0 _ _ _ _ _ _)
      | (with_reducible exact ih1 _ _ _ _ _ _)
      | (with_reducible exact ih2 _ _ _ _ _ _)
      | (with_reducible exact LeO.refl _)
      | (with_reducible exact LeO.none _)
      | (with_reducible refine LeO.ite ?_ ?_)
      | (with_reducible refine LeO.bind ?_ (fun _ => ?_))
      | exact ih0 _ _ _ _ _ _
      | exact ih1 _ _ _ _ _ _
      | exact ih2 _ _ _ _ _ _
      | exact LeO.none _
      | refine LeO.ite ?_ ?_
      | refine LeO.bind ?_ (fun _ => ?_)
theorem spec_l16Wire.mono : ∀ a0 a1 a2 k, LeO (spec_l16Wire.f k a0 a1 a2) (spec_l16Wire.f (k + 1) a0 a1 a2) := by
  intro a0 a1 a2 k
  obtain ⟨ih0, ih1, ih2⟩ := spec_l16Wire.mono_l k
  unfold spec_l16Wire.f
  repeat' first
      | (with_reducible exact ih0 _ _ _ _ _ _)
      | (with_reducible exact ih1 _ _ _ _ _ _)
      | (with_reducible exact ih2 _ _ _ _ _ _)
      | (with_reducible exact LeO.refl _)
      | (with_reducible exact LeO.none _)
      | (with_reducible refine LeO.ite ?_ ?_)
      | (with_reducible refine LeO.bind ?_ (fun _ => ?_))
      | exact ih0 _ _ _ _ _ _
      | exact ih1 _ _ _ _ _ _
      | exact ih2 _ _ _ _ _ _
      | exact LeO.none _
      | refine LeO.ite ?_ ?_
      | refine LeO.bind ?_ (fun _ => ?_)
set_option maxHeartbeats 8000000 in
set_option maxRecDepth 100000 in
theorem spec_l16Wire.calls (k : Nat) (a0 : Int) (a1 : Int) (a2 : Int) (r : Int) (w : World) (h : spec_l16Wire.f k a0 a1 a2 = some r) :
    Calls Try.prog 54 #[.int .i64 a0, .int .i64 a1, .int .i64 a2] w fun e w' => e = .returned (.int .i64 r) ∧ Drawn0 w w' := by
  have H : (if a0 = 0 then (none) else (if (wrap64 (Int.tdiv a1 a0)) = (wrap64 (Int.tdiv a2 a0)) then (spec_l16Wire.j0 k a1 (Int.tmod a1 a0) (wrap64 (Int.tdiv a1 a0)) (Int.tmod a2 a0) (wrap64 (Int.tdiv a2 a0)) ((Int.tmod a2 a0) == (wrap64 ((Int.tmod a1 a0) + 1)))) else (spec_l16Wire.j0 k a1 (Int.tmod a1 a0) (wrap64 (Int.tdiv a1 a0)) (Int.tmod a2 a0) (wrap64 (Int.tdiv a2 a0)) false))) = some r := h
  clear h
  by_cases c4 : a0 = 0
  · rw [if_pos c4] at H
    exact absurd H (by simp)
  · rw [if_neg c4] at H
    have c4b0 : (a0 == 0) = false := beq_eq_false_iff_ne.mpr c4
    have c4b1 : (a0 != 0) = true := bne_iff_ne.mpr c4
    have HC5 := Aside0.mk H
    clear H
    go_enter Try.func54, Try.ntmps54
    go_upto_region 5 with (fail)
    go_cut [23] (fun v23 wc => ∃ (kq : Nat) (x23_4 : Bool), v23 = .bool x23_4 ∧ Aside0 (spec_l16Wire.j0 kq a1 (Int.tmod a1 a0) (wrap64 (Int.tdiv a1 a0)) (Int.tmod a2 a0) (wrap64 (Int.tdiv a2 a0)) x23_4 = some r) ∧ Aside0 (kq ≤ k) ∧ Drawn0 w wc)
    case first =>
      have H := HC5.out
      clear HC5
      by_cases c6 : (wrap64 (Int.tdiv a1 a0)) = (wrap64 (Int.tdiv a2 a0))
      · rw [if_pos c6] at H
        have c6b0 : ((wrap64 (Int.tdiv a1 a0)) == (wrap64 (Int.tdiv a2 a0))) = true := beq_iff_eq.mpr c6
        have c6b1 : ((wrap64 (Int.tdiv a1 a0)) != (wrap64 (Int.tdiv a2 a0))) = false := bne_eq_false_iff_eq.mpr c6
        clear c6
        (first | rw [c6b0] | (simp only [i64_w, i32_w]; rw [c6b0]) | skip)
        have H' := Aside0.mk H
        clear H
        go_wp2
        go_meet
        case rel => exact ⟨_, (((Int.tmod a2 a0) == (wrap64 ((Int.tmod a1 a0) + 1)))), (by first | rfl | (simp; done) | (simp [*]; done)), H', ⟨by first | omega | exact Nat.le_refl _⟩, by repeat (first | exact Drawn0.refl _ | apply Drawn0.step)⟩
      · rw [if_neg c6] at H
        have c6b0 : ((wrap64 (Int.tdiv a1 a0)) == (wrap64 (Int.tdiv a2 a0))) = false := beq_eq_false_iff_ne.mpr c6
        have c6b1 : ((wrap64 (Int.tdiv a1 a0)) != (wrap64 (Int.tdiv a2 a0))) = true := bne_iff_ne.mpr c6
        (first | rw [c6b0] | (simp only [i64_w, i32_w]; rw [c6b0]) | skip)
        have H' := Aside0.mk H
        clear H
        go_wp2
        go_meet
        case rel => exact ⟨_, (false), (by first | rfl | (simp; done) | (simp [*]; done)), H', ⟨by first | omega | exact Nat.le_refl _⟩, by repeat (first | exact Drawn0.refl _ | apply Drawn0.step)⟩
    case rest =>
      clear HC5
      try clear p2
      try clear c4
      try clear c4b0
      try clear c4b1
      try clear c5
      try clear c6
      try clear c6b0
      try clear c6b1
      try clear p6
      obtain ⟨kq, x23_4, rfl, HA, HJ4, ⟨mc4, rfl⟩⟩ := hcut
      cases kq with
      | zero => exact absurd HA.out (by simp [spec_l16Wire.j0])
      | succ kj4 =>
        have H := HA.out
        clear HA
        simp only [spec_l16Wire.j0] at H
        by_cases c7 : x23_4 = true
        · subst c7
          have H1 : (some (wrap64 (4 * a1))) = some r := by rw [if_pos rfl] at H; exact H
          clear H
          have H := H1
          clear H1
          obtain rfl := Option.some.inj H
          go_wp2
          go_ret
          exact ⟨by first | rfl | (simp; done) | (simp [*]; done), by repeat (first | exact Drawn0.refl _ | apply Drawn0.step)⟩
        · replace c7 := Bool.eq_false_iff.mpr c7
          subst c7
          have H1 : (if (wrap64 (Int.tdiv a1 a0)) = (wrap64 (Int.tdiv a2 a0)) then (spec_l16Wire.j1 kj4 a1 (Int.tmod a1 a0) (wrap64 (Int.tdiv a1 a0)) (Int.tmod a2 a0) (wrap64 (Int.tdiv a2 a0)) ((Int.tmod a2 a0) == (wrap64 ((Int.tmod a1 a0) - 1)))) else (spec_l16Wire.j1 kj4 a1 (Int.tmod a1 a0) (wrap64 (Int.tdiv a1 a0)) (Int.tmod a2 a0) (wrap64 (Int.tdiv a2 a0)) false)) = some r := by rw [if_neg (show ¬ (false = true) by decide)] at H; exact H
          clear H
          have H := H1
          clear H1
          have HC8 := Aside0.mk H
          clear H
          go_upto_region 7 with (fail)
          go_cut [35] (fun v35 wc => ∃ (kq : Nat) (x35_7 : Bool), v35 = .bool x35_7 ∧ Aside0 (spec_l16Wire.j1 kq a1 (Int.tmod a1 a0) (wrap64 (Int.tdiv a1 a0)) (Int.tmod a2 a0) (wrap64 (Int.tdiv a2 a0)) x35_7 = some r) ∧ Aside0 (kq ≤ kj4) ∧ Drawn0 w wc)
          case first =>
            have H := HC8.out
            clear HC8
            by_cases c9 : (wrap64 (Int.tdiv a1 a0)) = (wrap64 (Int.tdiv a2 a0))
            · rw [if_pos c9] at H
              have c9b0 : ((wrap64 (Int.tdiv a1 a0)) == (wrap64 (Int.tdiv a2 a0))) = true := beq_iff_eq.mpr c9
              have c9b1 : ((wrap64 (Int.tdiv a1 a0)) != (wrap64 (Int.tdiv a2 a0))) = false := bne_eq_false_iff_eq.mpr c9
              clear c9
              (first | rw [c9b0] | (simp only [i64_w, i32_w]; rw [c9b0]) | skip)
              have H' := Aside0.mk H
              clear H
              go_wp2
              go_meet
              case rel => exact ⟨_, (((Int.tmod a2 a0) == (wrap64 ((Int.tmod a1 a0) - 1)))), (by first | rfl | (simp; done) | (simp [*]; done)), H', ⟨by have := HJ4.out; first | omega | exact Nat.le_refl _⟩, by repeat (first | exact Drawn0.refl _ | apply Drawn0.step)⟩
            · rw [if_neg c9] at H
              have c9b0 : ((wrap64 (Int.tdiv a1 a0)) == (wrap64 (Int.tdiv a2 a0))) = false := beq_eq_false_iff_ne.mpr c9
              have c9b1 : ((wrap64 (Int.tdiv a1 a0)) != (wrap64 (Int.tdiv a2 a0))) = true := bne_iff_ne.mpr c9
              (first | rw [c9b0] | (simp only [i64_w, i32_w]; rw [c9b0]) | skip)
              have H' := Aside0.mk H
              clear H
              go_wp2
              go_meet
              case rel => exact ⟨_, (false), (by first | rfl | (simp; done) | (simp [*]; done)), H', ⟨by have := HJ4.out; first | omega | exact Nat.le_refl _⟩, by repeat (first | exact Drawn0.refl _ | apply Drawn0.step)⟩
          case rest =>
            clear HC8
            try clear p2
            try clear c4
            try clear c4b0
            try clear c4b1
            try clear c5
            try clear c6
            try clear c6b0
            try clear c6b1
            try clear p6
            try clear c7
            try clear c9
            try clear c9b0
            try clear c9b1
            try clear p2
            try clear p6
            obtain ⟨kq, x35_7, rfl, HA, HJ7, ⟨mc7, rfl⟩⟩ := hcut
            cases kq with
            | zero => exact absurd HA.out (by simp [spec_l16Wire.j1])
            | succ kj7 =>
              have H := HA.out
              clear HA
              simp only [spec_l16Wire.j1] at H
              by_cases c10 : x35_7 = true
              · subst c10
                have H1 : (some (wrap64 ((wrap64 (4 * a1)) + 1))) = some r := by rw [if_pos rfl] at H; exact H
                clear H
                have H := H1
                clear H1
                obtain rfl := Option.some.inj H
                go_wp2
                go_ret
                exact ⟨by first | rfl | (simp; done) | (simp [*]; done), by repeat (first | exact Drawn0.refl _ | apply Drawn0.step)⟩
              · replace c10 := Bool.eq_false_iff.mpr c10
                subst c10
                have H1 : (if (Int.tmod a1 a0) = (Int.tmod a2 a0) then (spec_l16Wire.j2 kj7 a1 (Int.tmod a1 a0) (wrap64 (Int.tdiv a1 a0)) (Int.tmod a2 a0) (wrap64 (Int.tdiv a2 a0)) ((wrap64 (Int.tdiv a2 a0)) == (wrap64 ((wrap64 (Int.tdiv a1 a0)) + 1)))) else (spec_l16Wire.j2 kj7 a1 (Int.tmod a1 a0) (wrap64 (Int.tdiv a1 a0)) (Int.tmod a2 a0) (wrap64 (Int.tdiv a2 a0)) false)) = some r := by rw [if_neg (show ¬ (false = true) by decide)] at H; exact H
                clear H
                have H := H1
                clear H1
                have HC11 := Aside0.mk H
                clear H
                go_upto_region 9 with (fail)
                go_cut [48] (fun v48 wc => ∃ (kq : Nat) (x48_10 : Bool), v48 = .bool x48_10 ∧ Aside0 (spec_l16Wire.j2 kq a1 (Int.tmod a1 a0) (wrap64 (Int.tdiv a1 a0)) (Int.tmod a2 a0) (wrap64 (Int.tdiv a2 a0)) x48_10 = some r) ∧ Aside0 (kq ≤ kj7) ∧ Drawn0 w wc)
                case first =>
                  have H := HC11.out
                  clear HC11
                  by_cases c12 : (Int.tmod a1 a0) = (Int.tmod a2 a0)
                  · rw [if_pos c12] at H
                    have c12b0 : ((Int.tmod a1 a0) == (Int.tmod a2 a0)) = true := beq_iff_eq.mpr c12
                    have c12b1 : ((Int.tmod a1 a0) != (Int.tmod a2 a0)) = false := bne_eq_false_iff_eq.mpr c12
                    clear c12
                    (first | rw [c12b0] | (simp only [i64_w, i32_w]; rw [c12b0]) | skip)
                    have H' := Aside0.mk H
                    clear H
                    go_wp2
                    go_meet
                    case rel => exact ⟨_, (((wrap64 (Int.tdiv a2 a0)) == (wrap64 ((wrap64 (Int.tdiv a1 a0)) + 1)))), (by first | rfl | (simp; done) | (simp [*]; done)), H', ⟨by have := HJ4.out; have := HJ7.out; first | omega | exact Nat.le_refl _⟩, by repeat (first | exact Drawn0.refl _ | apply Drawn0.step)⟩
                  · rw [if_neg c12] at H
                    have c12b0 : ((Int.tmod a1 a0) == (Int.tmod a2 a0)) = false := beq_eq_false_iff_ne.mpr c12
                    have c12b1 : ((Int.tmod a1 a0) != (Int.tmod a2 a0)) = true := bne_iff_ne.mpr c12
                    (first | rw [c12b0] | (simp only [i64_w, i32_w]; rw [c12b0]) | skip)
                    have H' := Aside0.mk H
                    clear H
                    go_wp2
                    go_meet
                    case rel => exact ⟨_, (false), (by first | rfl | (simp; done) | (simp [*]; done)), H', ⟨by have := HJ4.out; have := HJ7.out; first | omega | exact Nat.le_refl _⟩, by repeat (first | exact Drawn0.refl _ | apply Drawn0.step)⟩
                case rest =>
                  clear HC11
                  try clear c1
                  try clear p2
                  try clear c4
                  try clear c4b0
                  try clear c4b1
                  try clear c5
                  try clear c6
                  try clear c6b0
                  try clear c6b1
                  try clear p6
                  try clear c7
                  try clear c9
                  try clear c9b0
                  try clear c9b1
                  try clear c10
                  try clear c12
                  try clear c12b0
                  try clear c12b1
                  try clear p2
                  try clear p6
                  obtain ⟨kq, x48_10, rfl, HA, HJ10, ⟨mc10, rfl⟩⟩ := hcut
                  cases kq with
                  | zero => exact absurd HA.out (by simp [spec_l16Wire.j2])
                  | succ kj10 =>
                    have H := HA.out
                    clear HA
                    simp only [spec_l16Wire.j2] at H
                    by_cases c13 : x48_10 = true
                    · subst c13
                      have H1 : (some (wrap64 ((wrap64 (4 * a1)) + 2))) = some r := by rw [if_pos rfl] at H; exact H
                      clear H
                      have H := H1
                      clear H1
                      obtain rfl := Option.some.inj H
                      go_wp2
                      go_ret
                      exact ⟨by first | rfl | (simp; done) | (simp [*]; done), by repeat (first | exact Drawn0.refl _ | apply Drawn0.step)⟩
                    · replace c13 := Bool.eq_false_iff.mpr c13
                      subst c13
                      have H1 : (if (Int.tmod a1 a0) = (Int.tmod a2 a0) then (if (wrap64 (Int.tdiv a2 a0)) = (wrap64 ((wrap64 (Int.tdiv a1 a0)) - 1)) then (some (wrap64 ((wrap64 (4 * a1)) + 3))) else (some (-1))) else (some (-1))) = some r := by rw [if_neg (show ¬ (false = true) by decide)] at H; exact H
                      clear H
                      have H := H1
                      clear H1
                      by_cases c14 : (Int.tmod a1 a0) = (Int.tmod a2 a0)
                      · rw [if_pos c14] at H
                        have c14b0 : ((Int.tmod a1 a0) == (Int.tmod a2 a0)) = true := beq_iff_eq.mpr c14
                        have c14b1 : ((Int.tmod a1 a0) != (Int.tmod a2 a0)) = false := bne_eq_false_iff_eq.mpr c14
                        clear c14
                        by_cases c15 : (wrap64 (Int.tdiv a2 a0)) = (wrap64 ((wrap64 (Int.tdiv a1 a0)) - 1))
                        · rw [if_pos c15] at H
                          have c15b0 : ((wrap64 (Int.tdiv a2 a0)) == (wrap64 ((wrap64 (Int.tdiv a1 a0)) - 1))) = true := beq_iff_eq.mpr c15
                          have c15b1 : ((wrap64 (Int.tdiv a2 a0)) != (wrap64 ((wrap64 (Int.tdiv a1 a0)) - 1))) = false := bne_eq_false_iff_eq.mpr c15
                          clear c15
                          obtain rfl := Option.some.inj H
                          go_wp2
                          go_ret
                          exact ⟨by first | rfl | (simp; done) | (simp [*]; done), by repeat (first | exact Drawn0.refl _ | apply Drawn0.step)⟩
                        · rw [if_neg c15] at H
                          have c15b0 : ((wrap64 (Int.tdiv a2 a0)) == (wrap64 ((wrap64 (Int.tdiv a1 a0)) - 1))) = false := beq_eq_false_iff_ne.mpr c15
                          have c15b1 : ((wrap64 (Int.tdiv a2 a0)) != (wrap64 ((wrap64 (Int.tdiv a1 a0)) - 1))) = true := bne_iff_ne.mpr c15
                          obtain rfl := Option.some.inj H
                          go_wp2
                          go_ret
                          exact ⟨by first | rfl | (simp; done) | (simp [*]; done), by repeat (first | exact Drawn0.refl _ | apply Drawn0.step)⟩
                      · rw [if_neg c14] at H
                        have c14b0 : ((Int.tmod a1 a0) == (Int.tmod a2 a0)) = false := beq_eq_false_iff_ne.mpr c14
                        have c14b1 : ((Int.tmod a1 a0) != (Int.tmod a2 a0)) = true := bne_iff_ne.mpr c14
                        obtain rfl := Option.some.inj H
                        go_wp2
                        go_ret
                        exact ⟨by first | rfl | (simp; done) | (simp [*]; done), by repeat (first | exact Drawn0.refl _ | apply Drawn0.step)⟩

/-! ### spec_WireOf: function 18 -/
def spec_WireOf.f (k : Nat) (a0 : Int) (a1 : Int) (a2 : Int) (a3 : Int) : Option (Int) := (spec_l16Nodes.f a0 a1 a2 a3).bind fun t106 => (if t106 = true then ((spec_l16Wire.f k a0 a2 a3).bind fun t107 => (some t107)) else (some (-1)))
theorem spec_WireOf.mono : ∀ a0 a1 a2 a3 k, LeO (spec_WireOf.f k a0 a1 a2 a3) (spec_WireOf.f (k + 1) a0 a1 a2 a3) := by
  intro a0 a1 a2 a3 k
  unfold spec_WireOf.f
  repeat' first
      | (with_reducible exact spec_l16Wire.mono _ _ _ _)
      | (with_reducible exact LeO.refl _)
      | (with_reducible exact LeO.none _)
      | (with_reducible refine LeO.ite ?_ ?_)
      | (with_reducible refine LeO.bind ?_ (fun _ => ?_))
      | exact spec_l16Wire.mono _ _ _ _
      | exact LeO.none _
      | refine LeO.ite ?_ ?_
      | refine LeO.bind ?_ (fun _ => ?_)
set_option maxHeartbeats 8000000 in
set_option maxRecDepth 100000 in
theorem spec_WireOf.calls (k : Nat) (a0 : Int) (a1 : Int) (a2 : Int) (a3 : Int) (r : Int) (w : World) (h : spec_WireOf.f k a0 a1 a2 a3 = some r) :
    Calls Try.prog 18 #[.int .i64 a0, .int .i64 a1, .int .i64 a2, .int .i64 a3] w fun e w' => e = .returned (.int .i64 r) ∧ Drawn0 w w' := by
  have H : ((spec_l16Nodes.f a0 a1 a2 a3).bind fun t106 => (if t106 = true then ((spec_l16Wire.f k a0 a2 a3).bind fun t107 => (some t107)) else (some (-1)))) = some r := h
  clear h
  replace H := Option.bind_eq_some_iff.mp H
  obtain ⟨t106, A50, H⟩ := H
  replace H : (if t106 = true then ((spec_l16Wire.f k a0 a2 a3).bind fun t107 => (some t107)) else (some (-1))) = some r := H
  have A5 := Aside0.mk A50
  clear A50
  by_cases c6 : t106 = true
  · subst c6
    have H1 : ((spec_l16Wire.f k a0 a2 a3).bind fun t107 => (some t107)) = some r := by rw [if_pos rfl] at H; exact H
    clear H
    have H := H1
    clear H1
    replace H := Option.bind_eq_some_iff.mp H
    obtain ⟨t107, A70, H⟩ := H
    replace H : (some t107) = some r := H
    have A7 := Aside0.mk A70
    clear A70
    obtain rfl := Option.some.inj H
    go_enter Try.func18, Try.ntmps18
    go_wp2_with (first | ((with_reducible refine gate_callee (f := 53) rfl ?_); refine goesL_ (some 13) rfl rfl Try.func53 (by kernel_rfl) rfl #[.int .i64 a0, .int .i64 a1, .int .i64 a2, .int .i64 a3] rfl (by (try simp only [List.map_toArray, List.map_cons, List.map_nil]); first | done | rfl | (simp only [List.length_drop, List.length_take]; rfl)) ?_; (with_reducible refine (spec_l16Nodes.calls a0 a1 a2 a3 true _ A5.out).mono ?_); rintro e w' ⟨rfl, ⟨nd, rfl⟩⟩; refine ⟨_, rfl, ?_⟩) | ((with_reducible refine gate_callee (f := 54) rfl ?_); refine goesL_ (some 18) rfl rfl Try.func54 (by kernel_rfl) rfl #[.int .i64 a0, .int .i64 a2, .int .i64 a3] rfl (by (try simp only [List.map_toArray, List.map_cons, List.map_nil]); first | done | rfl | (simp only [List.length_drop, List.length_take]; rfl)) ?_; (with_reducible refine (spec_l16Wire.calls k a0 a2 a3 t107 _ A7.out).mono ?_); rintro e w' ⟨rfl, ⟨nd, rfl⟩⟩; refine ⟨_, rfl, ?_⟩))
    go_ret
    exact ⟨by first | rfl | (simp; done) | (simp [*]; done), by repeat (first | exact Drawn0.refl _ | apply Drawn0.step)⟩
  · replace c6 := Bool.eq_false_iff.mpr c6
    subst c6
    have H1 : (some (-1)) = some r := by rw [if_neg (show ¬ (false = true) by decide)] at H; exact H
    clear H
    have H := H1
    clear H1
    obtain rfl := Option.some.inj H
    go_enter Try.func18, Try.ntmps18
    go_wp2_with (first | ((with_reducible refine gate_callee (f := 53) rfl ?_); refine goesL_ (some 13) rfl rfl Try.func53 (by kernel_rfl) rfl #[.int .i64 a0, .int .i64 a1, .int .i64 a2, .int .i64 a3] rfl (by (try simp only [List.map_toArray, List.map_cons, List.map_nil]); first | done | rfl | (simp only [List.length_drop, List.length_take]; rfl)) ?_; (with_reducible refine (spec_l16Nodes.calls a0 a1 a2 a3 false _ A5.out).mono ?_); rintro e w' ⟨rfl, ⟨nd, rfl⟩⟩; refine ⟨_, rfl, ?_⟩))
    go_ret
    exact ⟨by first | rfl | (simp; done) | (simp [*]; done), by repeat (first | exact Drawn0.refl _ | apply Drawn0.step)⟩

/-! ### impl_within: function 95 -/
def impl_within.f (a0 : Int) (a1 : Int) (a2 : Int) : Option (Bool) := if a1 ≤ a0 then (some (decide (a0 ≤ a2))) else (some false)
set_option maxHeartbeats 8000000 in
set_option maxRecDepth 100000 in
theorem impl_within.calls (a0 : Int) (a1 : Int) (a2 : Int) (r : Bool) (w : World) (h : impl_within.f a0 a1 a2 = some r) :
    Calls Try.prog 95 #[.int .i64 a0, .int .i64 a1, .int .i64 a2] w fun e w' => e = .returned (.bool r) ∧ Drawn0 w w' := by
  have H : (if a1 ≤ a0 then (some (decide (a0 ≤ a2))) else (some false)) = some r := h
  clear h
  by_cases c4 : a1 ≤ a0
  · rw [if_pos c4] at H
    have c4b0 : decide (a1 ≤ a0) = true := decide_eq_true c4
    clear c4
    obtain rfl := Option.some.inj H
    go_enter Try.func95, Try.ntmps95
    go_wp2
    go_ret
    exact ⟨by first | rfl | (simp; done) | (simp [*]; done), by repeat (first | exact Drawn0.refl _ | apply Drawn0.step)⟩
  · rw [if_neg c4] at H
    have c4b0 : decide (a1 ≤ a0) = false := decide_eq_false c4
    clear c4
    obtain rfl := Option.some.inj H
    go_enter Try.func95, Try.ntmps95
    go_wp2
    go_ret
    exact ⟨by first | rfl | (simp; done) | (simp [*]; done), by repeat (first | exact Drawn0.refl _ | apply Drawn0.step)⟩

/-! ### impl_fabric_valid: function 84 -/
def impl_fabric_valid.f (a0_0 : Int) (a0_1 : Int) : Option (Bool) := (impl_within.f a0_0 1 5).bind fun t109 => (if t109 = true then ((impl_within.f a0_1 1 5).bind fun t110 => (some t110)) else (some false))
set_option maxHeartbeats 8000000 in
set_option maxRecDepth 100000 in
theorem impl_fabric_valid.calls (a0_0 : Int) (a0_1 : Int) (r : Bool) (w : World) (h : impl_fabric_valid.f a0_0 a0_1 = some r) :
    Calls Try.prog 84 #[.agg #[.int .i64 a0_0, .int .i64 a0_1]] w fun e w' => e = .returned (.bool r) ∧ Below w.heap.size w w' := by
  have hu53 := Try.underlying53
  have HB := Aside0.mk (Below.refl w.heap.size w)
  have H : ((impl_within.f a0_0 1 5).bind fun t109 => (if t109 = true then ((impl_within.f a0_1 1 5).bind fun t110 => (some t110)) else (some false))) = some r := h
  clear h
  replace H := Option.bind_eq_some_iff.mp H
  obtain ⟨t109, A20, H⟩ := H
  replace H : (if t109 = true then ((impl_within.f a0_1 1 5).bind fun t110 => (some t110)) else (some false)) = some r := H
  have A2 := Aside0.mk A20
  clear A20
  by_cases c3 : t109 = true
  · subst c3
    have H1 : ((impl_within.f a0_1 1 5).bind fun t110 => (some t110)) = some r := by rw [if_pos rfl] at H; exact H
    clear H
    have H := H1
    clear H1
    replace H := Option.bind_eq_some_iff.mp H
    obtain ⟨t110, A40, H⟩ := H
    replace H : (some t110) = some r := H
    have A4 := Aside0.mk A40
    clear A40
    obtain rfl := Option.some.inj H
    go_enter Try.func84, Try.ntmps84
    go_wp2_with (first | ((with_reducible refine gate_dst (N := 1) rfl ?_); refine box_event ?hg (N := 1) ?hd (cs := #[.int .i64 a0_0, .int .i64 a0_1]) (t := 53) ?hr ?_; (case hd => rfl); (case hg => rfl); (case hr => first | (go_simp; done) | (go_simp; rfl)); intro gb108 hg w5 hbox hb; have n0_ := Aside0.mk (below_step (by repeat (first | (with_reducible first | exact HB.out | apply below_alloc | apply pw_below_drewN | apply below_drew1) | exact HB.out)) hb); have n1_ := Aside0.mk (hbox); have n2_ := Aside0.mk ((by rw [hg]; exact (below_size (by repeat (first | (with_reducible first | exact HB.out | apply below_alloc | apply pw_below_drewN | apply below_drew1) | exact HB.out))) : w.heap.size ≤ gb108)); have n3_ := Aside0.mk ((by rw [hg]; exact (below_size (by repeat (first | (with_reducible first | exact HB.out | apply below_alloc | apply pw_below_drewN | apply below_drew1) | exact HB.out))) : w.heap.size ≤ gb108)); clear HB; have HB := n0_; have BK108 := n1_; have GW108 := n2_; have GE108 := n3_; clear n0_ n1_ n2_ n3_; clear hb hbox hg; have hcz6_0 : w5.cell? ⟨gb108, 0, none⟩ = some (.int .i64 a0_0) := (blk_cell BK108.out 0).trans rfl; have hcz6_1 : w5.cell? ⟨gb108, 1, none⟩ = some (.int .i64 a0_1) := (blk_cell BK108.out 1).trans rfl; have hfz6_0 := blk_frozen BK108.out 0; have hfz6_1 := blk_frozen BK108.out 1) | ((with_reducible refine gate_callee (f := 95) rfl ?_); refine goesL_ (some 5) rfl rfl Try.func95 (by kernel_rfl) rfl #[.int .i64 a0_0, .int .i64 1, .int .i64 5] rfl (by (try simp only [List.map_toArray, List.map_cons, List.map_nil]); first | done | rfl | (simp only [List.length_drop, List.length_take]; rfl)) ?_; (with_reducible refine (impl_within.calls a0_0 1 5 true _ A2.out).mono ?_); rintro e w' ⟨rfl, ⟨nd, rfl⟩⟩; refine ⟨_, rfl, ?_⟩) | (go_at_call 95; (with_reducible refine (impl_within.calls a0_1 1 5 t110 _ A4.out).mono ?_); rintro e w' ⟨rfl, ⟨nd, rfl⟩⟩))
    go_ret
    exact ⟨by first | rfl | (simp [errW_none, errW_some] <;> rfl) | (simp [*, errW_none, errW_some] <;> rfl), by repeat (first | (with_reducible first | exact HB.out | apply below_alloc | apply pw_below_drewN | apply below_drew1 | refine below_set ?_ GE108.out) | exact HB.out)⟩
  · replace c3 := Bool.eq_false_iff.mpr c3
    subst c3
    have H1 : (some false) = some r := by rw [if_neg (show ¬ (false = true) by decide)] at H; exact H
    clear H
    have H := H1
    clear H1
    obtain rfl := Option.some.inj H
    go_enter Try.func84, Try.ntmps84
    go_wp2_with (first | ((with_reducible refine gate_dst (N := 1) rfl ?_); refine box_event ?hg (N := 1) ?hd (cs := #[.int .i64 a0_0, .int .i64 a0_1]) (t := 53) ?hr ?_; (case hd => rfl); (case hg => rfl); (case hr => first | (go_simp; done) | (go_simp; rfl)); intro gb108 hg w7 hbox hb; have n0_ := Aside0.mk (below_step (by repeat (first | (with_reducible first | exact HB.out | apply below_alloc | apply pw_below_drewN | apply below_drew1) | exact HB.out)) hb); have n1_ := Aside0.mk (hbox); have n2_ := Aside0.mk ((by rw [hg]; exact (below_size (by repeat (first | (with_reducible first | exact HB.out | apply below_alloc | apply pw_below_drewN | apply below_drew1) | exact HB.out))) : w.heap.size ≤ gb108)); have n3_ := Aside0.mk ((by rw [hg]; exact (below_size (by repeat (first | (with_reducible first | exact HB.out | apply below_alloc | apply pw_below_drewN | apply below_drew1) | exact HB.out))) : w.heap.size ≤ gb108)); clear HB; have HB := n0_; have BK108 := n1_; have GW108 := n2_; have GE108 := n3_; clear n0_ n1_ n2_ n3_; clear hb hbox hg; have hcz8_0 : w7.cell? ⟨gb108, 0, none⟩ = some (.int .i64 a0_0) := (blk_cell BK108.out 0).trans rfl; have hcz8_1 : w7.cell? ⟨gb108, 1, none⟩ = some (.int .i64 a0_1) := (blk_cell BK108.out 1).trans rfl; have hfz8_0 := blk_frozen BK108.out 0; have hfz8_1 := blk_frozen BK108.out 1) | ((with_reducible refine gate_callee (f := 95) rfl ?_); refine goesL_ (some 5) rfl rfl Try.func95 (by kernel_rfl) rfl #[.int .i64 a0_0, .int .i64 1, .int .i64 5] rfl (by (try simp only [List.map_toArray, List.map_cons, List.map_nil]); first | done | rfl | (simp only [List.length_drop, List.length_take]; rfl)) ?_; (with_reducible refine (impl_within.calls a0_0 1 5 false _ A2.out).mono ?_); rintro e w' ⟨rfl, ⟨nd, rfl⟩⟩; refine ⟨_, rfl, ?_⟩))
    go_ret
    exact ⟨by first | rfl | (simp [errW_none, errW_some] <;> rfl) | (simp [*, errW_none, errW_some] <;> rfl), by repeat (first | (with_reducible first | exact HB.out | apply below_alloc | apply pw_below_drewN | apply below_drew1 | refine below_set ?_ GE108.out) | exact HB.out)⟩

/-! ### impl_fabric_node: function 82 -/
def impl_fabric_node.f (a0_0 : Int) (a0_1 : Int) (a1 : Int) : Option (Bool) := (impl_fabric_valid.f a0_0 a0_1).bind fun t112 => (if t112 = true then ((impl_within.f a1 0 (wrap64 ((wrap64 (a0_0 * a0_1)) - 1))).bind fun t113 => (some t113)) else (some false))
set_option maxHeartbeats 8000000 in
set_option maxRecDepth 100000 in
theorem impl_fabric_node.calls (a0_0 : Int) (a0_1 : Int) (a1 : Int) (r : Bool) (w : World) (h : impl_fabric_node.f a0_0 a0_1 a1 = some r) :
    Calls Try.prog 82 #[.agg #[.int .i64 a0_0, .int .i64 a0_1], .int .i64 a1] w fun e w' => e = .returned (.bool r) ∧ Below w.heap.size w w' := by
  have hu53 := Try.underlying53
  have HB := Aside0.mk (Below.refl w.heap.size w)
  have H : ((impl_fabric_valid.f a0_0 a0_1).bind fun t112 => (if t112 = true then ((impl_within.f a1 0 (wrap64 ((wrap64 (a0_0 * a0_1)) - 1))).bind fun t113 => (some t113)) else (some false))) = some r := h
  clear h
  replace H := Option.bind_eq_some_iff.mp H
  obtain ⟨t112, A30, H⟩ := H
  replace H : (if t112 = true then ((impl_within.f a1 0 (wrap64 ((wrap64 (a0_0 * a0_1)) - 1))).bind fun t113 => (some t113)) else (some false)) = some r := H
  have A3 := Aside0.mk A30
  clear A30
  by_cases c4 : t112 = true
  · subst c4
    have H1 : ((impl_within.f a1 0 (wrap64 ((wrap64 (a0_0 * a0_1)) - 1))).bind fun t113 => (some t113)) = some r := by rw [if_pos rfl] at H; exact H
    clear H
    have H := H1
    clear H1
    replace H := Option.bind_eq_some_iff.mp H
    obtain ⟨t113, A50, H⟩ := H
    replace H : (some t113) = some r := H
    have A5 := Aside0.mk A50
    clear A50
    obtain rfl := Option.some.inj H
    go_enter Try.func82, Try.ntmps82
    go_wp2_with (first | ((with_reducible refine gate_dst (N := 2) rfl ?_); refine box_event ?hg (N := 2) ?hd (cs := #[.int .i64 a0_0, .int .i64 a0_1]) (t := 53) ?hr ?_; (case hd => rfl); (case hg => rfl); (case hr => first | (go_simp; done) | (go_simp; rfl)); intro gb111 hg w6 hbox hb; have n0_ := Aside0.mk (below_step (by repeat (first | (with_reducible first | exact HB.out | apply below_alloc | apply pw_below_drewN | apply below_drew1) | exact HB.out)) hb); have n1_ := Aside0.mk (hbox); have n2_ := Aside0.mk ((by rw [hg]; exact (below_size (by repeat (first | (with_reducible first | exact HB.out | apply below_alloc | apply pw_below_drewN | apply below_drew1) | exact HB.out))) : w.heap.size ≤ gb111)); have n3_ := Aside0.mk ((by rw [hg]; exact (below_size (by repeat (first | (with_reducible first | exact HB.out | apply below_alloc | apply pw_below_drewN | apply below_drew1) | exact HB.out))) : w.heap.size ≤ gb111)); clear HB; have HB := n0_; have BK111 := n1_; have GW111 := n2_; have GE111 := n3_; clear n0_ n1_ n2_ n3_; clear hb hbox hg; have hcz7_0 : w6.cell? ⟨gb111, 0, none⟩ = some (.int .i64 a0_0) := (blk_cell BK111.out 0).trans rfl; have hcz7_1 : w6.cell? ⟨gb111, 1, none⟩ = some (.int .i64 a0_1) := (blk_cell BK111.out 1).trans rfl; have hfz7_0 := blk_frozen BK111.out 0; have hfz7_1 := blk_frozen BK111.out 1) | ((with_reducible refine gate_callee (f := 84) rfl ?_); refine goesL_ (some 6) rfl rfl Try.func84 (by kernel_rfl) rfl #[.agg #[.int .i64 a0_0, .int .i64 a0_1]] rfl (by (try simp only [List.map_toArray, List.map_cons, List.map_nil]); first | done | rfl | (simp only [List.length_drop, List.length_take]; rfl)) ?_; (with_reducible refine (impl_fabric_valid.calls a0_0 a0_1 true _ A3.out).mono ?_); rintro e w8 ⟨rfl, hb⟩; refine ⟨_, rfl, ?_⟩; have n0_ := Aside0.mk (blk_below (g := gb111) (o := .cells #[.int .i64 a0_0, .int .i64 a0_1] 53 (0, 0)) (by (with_reducible repeat (first | refine blk_drewN ?_ _ | refine blk_drew ?_ | refine blk_alloc ?_ _)); exact BK111.out) hb); have n1_ := Aside0.mk (below_step (by repeat (first | (with_reducible first | exact HB.out | apply below_alloc | apply pw_below_drewN | apply below_drew1 | refine below_set ?_ GE111.out) | exact HB.out)) hb); clear BK111; clear HB; have BK111 := n0_; have HB := n1_; clear n0_ n1_; (try clear hb); (try clear hb2); (try clear hk); (try clear hi); have hcz9_0 : w8.cell? ⟨gb111, 0, none⟩ = some (.int .i64 a0_0) := (blk_cell BK111.out 0).trans rfl; have hcz9_1 : w8.cell? ⟨gb111, 1, none⟩ = some (.int .i64 a0_1) := (blk_cell BK111.out 1).trans rfl; have hfz9_0 := blk_frozen BK111.out 0; have hfz9_1 := blk_frozen BK111.out 1) | (go_at_call 95; (with_reducible refine (impl_within.calls a1 0 (wrap64 ((wrap64 (a0_0 * a0_1)) - 1)) t113 _ A5.out).mono ?_); rintro e w' ⟨rfl, ⟨nd, rfl⟩⟩))
    go_ret
    exact ⟨by first | rfl | (simp [errW_none, errW_some] <;> rfl) | (simp [*, errW_none, errW_some] <;> rfl), by repeat (first | (with_reducible first | exact HB.out | apply below_alloc | apply pw_below_drewN | apply below_drew1 | refine below_set ?_ GE111.out) | exact HB.out)⟩
  · replace c4 := Bool.eq_false_iff.mpr c4
    subst c4
    have H1 : (some false) = some r := by rw [if_neg (show ¬ (false = true) by decide)] at H; exact H
    clear H
    have H := H1
    clear H1
    obtain rfl := Option.some.inj H
    go_enter Try.func82, Try.ntmps82
    go_wp2_with (first | ((with_reducible refine gate_dst (N := 2) rfl ?_); refine box_event ?hg (N := 2) ?hd (cs := #[.int .i64 a0_0, .int .i64 a0_1]) (t := 53) ?hr ?_; (case hd => rfl); (case hg => rfl); (case hr => first | (go_simp; done) | (go_simp; rfl)); intro gb111 hg w10 hbox hb; have n0_ := Aside0.mk (below_step (by repeat (first | (with_reducible first | exact HB.out | apply below_alloc | apply pw_below_drewN | apply below_drew1) | exact HB.out)) hb); have n1_ := Aside0.mk (hbox); have n2_ := Aside0.mk ((by rw [hg]; exact (below_size (by repeat (first | (with_reducible first | exact HB.out | apply below_alloc | apply pw_below_drewN | apply below_drew1) | exact HB.out))) : w.heap.size ≤ gb111)); have n3_ := Aside0.mk ((by rw [hg]; exact (below_size (by repeat (first | (with_reducible first | exact HB.out | apply below_alloc | apply pw_below_drewN | apply below_drew1) | exact HB.out))) : w.heap.size ≤ gb111)); clear HB; have HB := n0_; have BK111 := n1_; have GW111 := n2_; have GE111 := n3_; clear n0_ n1_ n2_ n3_; clear hb hbox hg; have hcz11_0 : w10.cell? ⟨gb111, 0, none⟩ = some (.int .i64 a0_0) := (blk_cell BK111.out 0).trans rfl; have hcz11_1 : w10.cell? ⟨gb111, 1, none⟩ = some (.int .i64 a0_1) := (blk_cell BK111.out 1).trans rfl; have hfz11_0 := blk_frozen BK111.out 0; have hfz11_1 := blk_frozen BK111.out 1) | ((with_reducible refine gate_callee (f := 84) rfl ?_); refine goesL_ (some 6) rfl rfl Try.func84 (by kernel_rfl) rfl #[.agg #[.int .i64 a0_0, .int .i64 a0_1]] rfl (by (try simp only [List.map_toArray, List.map_cons, List.map_nil]); first | done | rfl | (simp only [List.length_drop, List.length_take]; rfl)) ?_; (with_reducible refine (impl_fabric_valid.calls a0_0 a0_1 false _ A3.out).mono ?_); rintro e w12 ⟨rfl, hb⟩; refine ⟨_, rfl, ?_⟩; have n0_ := Aside0.mk (blk_below (g := gb111) (o := .cells #[.int .i64 a0_0, .int .i64 a0_1] 53 (0, 0)) (by (with_reducible repeat (first | refine blk_drewN ?_ _ | refine blk_drew ?_ | refine blk_alloc ?_ _)); exact BK111.out) hb); have n1_ := Aside0.mk (below_step (by repeat (first | (with_reducible first | exact HB.out | apply below_alloc | apply pw_below_drewN | apply below_drew1 | refine below_set ?_ GE111.out) | exact HB.out)) hb); clear BK111; clear HB; have BK111 := n0_; have HB := n1_; clear n0_ n1_; (try clear hb); (try clear hb2); (try clear hk); (try clear hi)))
    go_ret
    exact ⟨by first | rfl | (simp [errW_none, errW_some] <;> rfl) | (simp [*, errW_none, errW_some] <;> rfl), by repeat (first | (with_reducible first | exact HB.out | apply below_alloc | apply pw_below_drewN | apply below_drew1 | refine below_set ?_ GE111.out) | exact HB.out)⟩

/-! ### impl_fabric_wire: function 55 -/
theorem impl_fabric_wire.hop {w W W' : World} (h : Below w.heap.size w W) (h' : Below W.heap.size W W') : Below w.heap.size w W' := h.trans (h'.mono h.size)
def impl_fabric_wire.s0 (i : Int) : Int := if i = 0 then 1 else if i = 1 then -1 else 0
def impl_fabric_wire.s1 (i : Int) : Int := if i = 2 then 1 else if i = 3 then -1 else 0
def impl_fabric_wire.l0 : Nat → Int → Int → Int → Int → Option Int
  | 0, _, _, _, _ => none
  | k + 1, a, d0, d1, i => if i < 4 then (if d0 = impl_fabric_wire.s0 i ∧ d1 = impl_fabric_wire.s1 i then some (wrap64 (wrap64 (4 * a) + i)) else impl_fabric_wire.l0 k a d0 d1 (i + 1)) else some (-1)
def impl_fabric_wire.f (a0_0 : Int) (a0_1 : Int) (a1 : Int) (a2 : Int) : Option (Int) := (impl_fabric_node.f a0_0 a0_1 a1).bind fun b1 => if b1 = true then ((impl_fabric_node.f a0_0 a0_1 a2).bind fun b2 => if b2 = true then (if a0_0 = 0 then none else impl_fabric_wire.l0 5 a1 (wrap64 (Int.tmod a2 a0_0 - Int.tmod a1 a0_0)) (wrap64 (wrap64 (Int.tdiv a2 a0_0) - wrap64 (Int.tdiv a1 a0_0))) 0) else some (-1)) else some (-1)
theorem impl_fabric_wire.ix0 (W : World) : Sem.run Try.prog (Instr.index 82 (.agg #[.int .i64 1, .int .i64 0, .int .i64 (-1), .int .i64 0, .int .i64 0, .int .i64 1, .int .i64 0, .int .i64 (-1)]) (.int .i64 0)) W = Result.ok (.agg #[.int .i64 1, .int .i64 0]) W := by kernel_rfl
theorem impl_fabric_wire.ix1 (W : World) : Sem.run Try.prog (Instr.index 82 (.agg #[.int .i64 1, .int .i64 0, .int .i64 (-1), .int .i64 0, .int .i64 0, .int .i64 1, .int .i64 0, .int .i64 (-1)]) (.int .i64 1)) W = Result.ok (.agg #[.int .i64 (-1), .int .i64 0]) W := by kernel_rfl
theorem impl_fabric_wire.ix2 (W : World) : Sem.run Try.prog (Instr.index 82 (.agg #[.int .i64 1, .int .i64 0, .int .i64 (-1), .int .i64 0, .int .i64 0, .int .i64 1, .int .i64 0, .int .i64 (-1)]) (.int .i64 2)) W = Result.ok (.agg #[.int .i64 0, .int .i64 1]) W := by kernel_rfl
theorem impl_fabric_wire.ix3 (W : World) : Sem.run Try.prog (Instr.index 82 (.agg #[.int .i64 1, .int .i64 0, .int .i64 (-1), .int .i64 0, .int .i64 0, .int .i64 1, .int .i64 0, .int .i64 (-1)]) (.int .i64 3)) W = Result.ok (.agg #[.int .i64 0, .int .i64 (-1)]) W := by kernel_rfl
set_option maxHeartbeats 8000000 in
set_option maxRecDepth 100000 in
theorem impl_fabric_wire.calls (a0_0 : Int) (a0_1 : Int) (a1 : Int) (a2 : Int) (r : Int) (w : World) (h : impl_fabric_wire.f a0_0 a0_1 a1 a2 = some r) :
    Calls Try.prog 55 #[.agg #[.int .i64 a0_0, .int .i64 a0_1], .int .i64 a1, .int .i64 a2] w fun e w' => e = .returned (.int .i64 r) ∧ Below w.heap.size w w' := by
  have hu_ := Try.underlying53
  have hu81 := Try.underlying81
  have hu82 := Try.underlying82
  obtain ⟨b1, A1, H⟩ := Option.bind_eq_some_iff.mp h
  have hb1 : Below w.heap.size w (w.alloc (.cells #[.int .i64 a0_0, .int .i64 a0_1] 53)) := below_alloc (Below.refl _ _) _
  have HB := Aside0.mk hb1
  have A1 := Aside0.mk A1
  clear hb1 h
  cases b1 with
  | false =>
    obtain rfl : -1 = r := by simpa using H
    clear H
    go_enter Try.func55, Try.ntmps55
    go_wp2_with (go_at_call 82; (with_reducible refine (impl_fabric_node.calls a0_0 a0_1 a1 false _ A1.out).mono ?_); rintro e w1 ⟨rfl, hb'⟩; have HB1 := Aside0.mk hb'; clear hb')
    go_ret
    exact ⟨rfl, impl_fabric_wire.hop HB.out HB1.out⟩
  | true =>
    obtain ⟨b2, A2, H⟩ := Option.bind_eq_some_iff.mp (show ((impl_fabric_node.f a0_0 a0_1 a2).bind fun b2 => if b2 = true then (if a0_0 = 0 then none else impl_fabric_wire.l0 5 a1 (wrap64 (Int.tmod a2 a0_0 - Int.tmod a1 a0_0)) (wrap64 (wrap64 (Int.tdiv a2 a0_0) - wrap64 (Int.tdiv a1 a0_0))) 0) else some (-1)) = some r from H)
    have A2 := Aside0.mk A2
    cases b2 with
    | false =>
      obtain rfl : -1 = r := by simpa using H
      clear H
      go_enter Try.func55, Try.ntmps55
      go_wp2_with (first
        | (go_at_call 82; (with_reducible refine (impl_fabric_node.calls a0_0 a0_1 a1 true _ A1.out).mono ?_); rintro e w1 ⟨rfl, hb'⟩; have HB1 := Aside0.mk hb'; clear hb'; have ka0 : w1.cell? ⟨w.heap.size, 0, none⟩ = some (.int .i64 a0_0) := (HB1.out.cell (p := ⟨w.heap.size, 0, none⟩) (by simp)).trans (by simp); have ka1 : w1.cell? ⟨w.heap.size, 1, none⟩ = some (.int .i64 a0_1) := (HB1.out.cell (p := ⟨w.heap.size, 1, none⟩) (by simp)).trans (by simp))
        | (go_at_call 82; (with_reducible refine (impl_fabric_node.calls a0_0 a0_1 a2 false _ A2.out).mono ?_); rintro e w2 ⟨rfl, hb'⟩; have HB2 := Aside0.mk (impl_fabric_wire.hop HB1.out hb'); clear hb'; have kb0 : w2.cell? ⟨w.heap.size, 0, none⟩ = some (.int .i64 a0_0) := (HB2.out.cell (p := ⟨w.heap.size, 0, none⟩) (by simp)).trans (by simp); have kb1 : w2.cell? ⟨w.heap.size, 1, none⟩ = some (.int .i64 a0_1) := (HB2.out.cell (p := ⟨w.heap.size, 1, none⟩) (by simp)).trans (by simp)))
      go_ret
      exact ⟨rfl, impl_fabric_wire.hop HB.out HB2.out⟩
    | true =>
      replace H : (if a0_0 = 0 then none else impl_fabric_wire.l0 5 a1 (wrap64 (Int.tmod a2 a0_0 - Int.tmod a1 a0_0)) (wrap64 (wrap64 (Int.tdiv a2 a0_0) - wrap64 (Int.tdiv a1 a0_0))) 0) = some r := H
      by_cases c4 : a0_0 = 0
      · rw [if_pos c4] at H; exact absurd H (by simp)
      rw [if_neg c4] at H
      have c4b0 : (a0_0 == 0) = false := beq_eq_false_iff_ne.mpr c4
      have c4b1 : (a0_0 != 0) = true := bne_iff_ne.mpr c4
      have HL := Aside0.mk H
      clear H
      go_enter Try.func55, Try.ntmps55
      go_wp2_with (first
        | (go_at_call 82; (with_reducible refine (impl_fabric_node.calls a0_0 a0_1 a1 true _ A1.out).mono ?_); rintro e w1 ⟨rfl, hb'⟩; have HB1 := Aside0.mk hb'; clear hb'; have ka0 : w1.cell? ⟨w.heap.size, 0, none⟩ = some (.int .i64 a0_0) := (HB1.out.cell (p := ⟨w.heap.size, 0, none⟩) (by simp)).trans (by simp); have ka1 : w1.cell? ⟨w.heap.size, 1, none⟩ = some (.int .i64 a0_1) := (HB1.out.cell (p := ⟨w.heap.size, 1, none⟩) (by simp)).trans (by simp))
        | (go_at_call 82; (with_reducible refine (impl_fabric_node.calls a0_0 a0_1 a2 true _ A2.out).mono ?_); rintro e w2 ⟨rfl, hb'⟩; have HB2 := Aside0.mk (impl_fabric_wire.hop HB1.out hb'); clear hb'; have kb0 : w2.cell? ⟨w.heap.size, 0, none⟩ = some (.int .i64 a0_0) := (HB2.out.cell (p := ⟨w.heap.size, 0, none⟩) (by simp)).trans (by simp); have kb1 : w2.cell? ⟨w.heap.size, 1, none⟩ = some (.int .i64 a0_1) := (HB2.out.cell (p := ⟨w.heap.size, 1, none⟩) (by simp)).trans (by simp)))
      go_quiet (fail)
      generalize hw3 : w2.drewN _ = w3
      have HB3 := Aside0.mk (show Below _ _ w3 from hw3 ▸ pw_below_drewN HB2.out _)
      clear hw3
      go_wp2
      have HBa := Aside0.mk (impl_fabric_wire.hop HB.out HB3.out)
      clear HB HB1 HB2 HB3 A1 A2 ka0 ka1 kb0 kb1
      go_loopg [46] 5 (fun kq v46 w' => ∃ (x46 : Int), v46 = .int .i64 x46 ∧ Aside0 (impl_fabric_wire.l0 kq a1 (wrap64 (Int.tmod a2 a0_0 - Int.tmod a1 a0_0)) (wrap64 (wrap64 (Int.tdiv a2 a0_0) - wrap64 (Int.tdiv a1 a0_0))) x46 = some r) ∧ Aside0 (kq ≤ 5) ∧ Aside0 (x46 = 0 ∨ x46 = 1 ∨ x46 = 2 ∨ x46 = 3 ∨ x46 = 4) ∧ Aside0 (Below w.heap.size w w'))
      case atStart => exact ⟨0, rfl, HL, ⟨Nat.le_refl _⟩, ⟨Or.inl rfl⟩, ⟨below_alloc HBa.out _⟩⟩
      case round =>
        clear HL HBa
        obtain ⟨x46, rfl, HA, HK1, HX, HB⟩ := hrel
        cases gk with
        | zero => exact absurd HA.out (by simp [impl_fabric_wire.l0])
        | succ k1 =>
          have H := HA.out
          clear HA
          simp only [impl_fabric_wire.l0] at H
          rcases HX.out with rfl | rfl | rfl | rfl | rfl
          · clear HX
            rw [if_pos (by decide), show impl_fabric_wire.s0 0 = (1 : Int) from by decide, show impl_fabric_wire.s1 0 = (0 : Int) from by decide] at H
            by_cases e0 : (wrap64 (Int.tmod a2 a0_0 - Int.tmod a1 a0_0)) = (1 : Int)
            · have q0 : ((wrap64 (Int.tmod a2 a0_0 - Int.tmod a1 a0_0)) == (1 : Int)) = true := beq_iff_eq.mpr e0
              by_cases e1 : (wrap64 (wrap64 (Int.tdiv a2 a0_0) - wrap64 (Int.tdiv a1 a0_0))) = (0 : Int)
              · have q1 : ((wrap64 (wrap64 (Int.tdiv a2 a0_0) - wrap64 (Int.tdiv a1 a0_0))) == (0 : Int)) = true := beq_iff_eq.mpr e1
                rw [if_pos ⟨e0, e1⟩] at H
                obtain rfl := Option.some.inj H
                clear H e0 e1
                go_wp2
                rw [impl_fabric_wire.ix0]
                go_wp2
                go_ret
                exact ⟨by first | rfl | (simp; done), by repeat (first | exact HB.out | apply below_alloc | apply pw_below_drewN | apply below_drew1)⟩
              · have q1 : ((wrap64 (wrap64 (Int.tdiv a2 a0_0) - wrap64 (Int.tdiv a1 a0_0))) == (0 : Int)) = false := beq_eq_false_iff_ne.mpr e1
                rw [if_neg (fun h => e1 h.2)] at H
                have H' := Aside0.mk H
                clear H e0 e1
                go_wp2
                rw [impl_fabric_wire.ix0]
                go_wp2
                go_roundg k1
                case measure => have := HK1.out; omega
                case rel => exact ⟨1, (by first | rfl | (simp; done) | decide), H', ⟨by have := HK1.out; omega⟩, ⟨by simp⟩, ⟨by repeat (first | exact HB.out | apply below_alloc | apply pw_below_drewN | apply below_drew1)⟩⟩
            · have q0 : ((wrap64 (Int.tmod a2 a0_0 - Int.tmod a1 a0_0)) == (1 : Int)) = false := beq_eq_false_iff_ne.mpr e0
              rw [if_neg (fun h => e0 h.1)] at H
              have H' := Aside0.mk H
              clear H e0
              go_wp2
              rw [impl_fabric_wire.ix0]
              go_wp2
              go_roundg k1
              case measure => have := HK1.out; omega
              case rel => exact ⟨1, (by first | rfl | (simp; done) | decide), H', ⟨by have := HK1.out; omega⟩, ⟨by simp⟩, ⟨by repeat (first | exact HB.out | apply below_alloc | apply pw_below_drewN | apply below_drew1)⟩⟩
          · clear HX
            rw [if_pos (by decide), show impl_fabric_wire.s0 1 = (-1 : Int) from by decide, show impl_fabric_wire.s1 1 = (0 : Int) from by decide] at H
            by_cases e0 : (wrap64 (Int.tmod a2 a0_0 - Int.tmod a1 a0_0)) = (-1 : Int)
            · have q0 : ((wrap64 (Int.tmod a2 a0_0 - Int.tmod a1 a0_0)) == (-1 : Int)) = true := beq_iff_eq.mpr e0
              by_cases e1 : (wrap64 (wrap64 (Int.tdiv a2 a0_0) - wrap64 (Int.tdiv a1 a0_0))) = (0 : Int)
              · have q1 : ((wrap64 (wrap64 (Int.tdiv a2 a0_0) - wrap64 (Int.tdiv a1 a0_0))) == (0 : Int)) = true := beq_iff_eq.mpr e1
                rw [if_pos ⟨e0, e1⟩] at H
                obtain rfl := Option.some.inj H
                clear H e0 e1
                go_wp2
                rw [impl_fabric_wire.ix1]
                go_wp2
                go_ret
                exact ⟨by first | rfl | (simp; done), by repeat (first | exact HB.out | apply below_alloc | apply pw_below_drewN | apply below_drew1)⟩
              · have q1 : ((wrap64 (wrap64 (Int.tdiv a2 a0_0) - wrap64 (Int.tdiv a1 a0_0))) == (0 : Int)) = false := beq_eq_false_iff_ne.mpr e1
                rw [if_neg (fun h => e1 h.2)] at H
                have H' := Aside0.mk H
                clear H e0 e1
                go_wp2
                rw [impl_fabric_wire.ix1]
                go_wp2
                go_roundg k1
                case measure => have := HK1.out; omega
                case rel => exact ⟨2, (by first | rfl | (simp; done) | decide), H', ⟨by have := HK1.out; omega⟩, ⟨by simp⟩, ⟨by repeat (first | exact HB.out | apply below_alloc | apply pw_below_drewN | apply below_drew1)⟩⟩
            · have q0 : ((wrap64 (Int.tmod a2 a0_0 - Int.tmod a1 a0_0)) == (-1 : Int)) = false := beq_eq_false_iff_ne.mpr e0
              rw [if_neg (fun h => e0 h.1)] at H
              have H' := Aside0.mk H
              clear H e0
              go_wp2
              rw [impl_fabric_wire.ix1]
              go_wp2
              go_roundg k1
              case measure => have := HK1.out; omega
              case rel => exact ⟨2, (by first | rfl | (simp; done) | decide), H', ⟨by have := HK1.out; omega⟩, ⟨by simp⟩, ⟨by repeat (first | exact HB.out | apply below_alloc | apply pw_below_drewN | apply below_drew1)⟩⟩
          · clear HX
            rw [if_pos (by decide), show impl_fabric_wire.s0 2 = (0 : Int) from by decide, show impl_fabric_wire.s1 2 = (1 : Int) from by decide] at H
            by_cases e0 : (wrap64 (Int.tmod a2 a0_0 - Int.tmod a1 a0_0)) = (0 : Int)
            · have q0 : ((wrap64 (Int.tmod a2 a0_0 - Int.tmod a1 a0_0)) == (0 : Int)) = true := beq_iff_eq.mpr e0
              by_cases e1 : (wrap64 (wrap64 (Int.tdiv a2 a0_0) - wrap64 (Int.tdiv a1 a0_0))) = (1 : Int)
              · have q1 : ((wrap64 (wrap64 (Int.tdiv a2 a0_0) - wrap64 (Int.tdiv a1 a0_0))) == (1 : Int)) = true := beq_iff_eq.mpr e1
                rw [if_pos ⟨e0, e1⟩] at H
                obtain rfl := Option.some.inj H
                clear H e0 e1
                go_wp2
                rw [impl_fabric_wire.ix2]
                go_wp2
                go_ret
                exact ⟨by first | rfl | (simp; done), by repeat (first | exact HB.out | apply below_alloc | apply pw_below_drewN | apply below_drew1)⟩
              · have q1 : ((wrap64 (wrap64 (Int.tdiv a2 a0_0) - wrap64 (Int.tdiv a1 a0_0))) == (1 : Int)) = false := beq_eq_false_iff_ne.mpr e1
                rw [if_neg (fun h => e1 h.2)] at H
                have H' := Aside0.mk H
                clear H e0 e1
                go_wp2
                rw [impl_fabric_wire.ix2]
                go_wp2
                go_roundg k1
                case measure => have := HK1.out; omega
                case rel => exact ⟨3, (by first | rfl | (simp; done) | decide), H', ⟨by have := HK1.out; omega⟩, ⟨by simp⟩, ⟨by repeat (first | exact HB.out | apply below_alloc | apply pw_below_drewN | apply below_drew1)⟩⟩
            · have q0 : ((wrap64 (Int.tmod a2 a0_0 - Int.tmod a1 a0_0)) == (0 : Int)) = false := beq_eq_false_iff_ne.mpr e0
              rw [if_neg (fun h => e0 h.1)] at H
              have H' := Aside0.mk H
              clear H e0
              go_wp2
              rw [impl_fabric_wire.ix2]
              go_wp2
              go_roundg k1
              case measure => have := HK1.out; omega
              case rel => exact ⟨3, (by first | rfl | (simp; done) | decide), H', ⟨by have := HK1.out; omega⟩, ⟨by simp⟩, ⟨by repeat (first | exact HB.out | apply below_alloc | apply pw_below_drewN | apply below_drew1)⟩⟩
          · clear HX
            rw [if_pos (by decide), show impl_fabric_wire.s0 3 = (0 : Int) from by decide, show impl_fabric_wire.s1 3 = (-1 : Int) from by decide] at H
            by_cases e0 : (wrap64 (Int.tmod a2 a0_0 - Int.tmod a1 a0_0)) = (0 : Int)
            · have q0 : ((wrap64 (Int.tmod a2 a0_0 - Int.tmod a1 a0_0)) == (0 : Int)) = true := beq_iff_eq.mpr e0
              by_cases e1 : (wrap64 (wrap64 (Int.tdiv a2 a0_0) - wrap64 (Int.tdiv a1 a0_0))) = (-1 : Int)
              · have q1 : ((wrap64 (wrap64 (Int.tdiv a2 a0_0) - wrap64 (Int.tdiv a1 a0_0))) == (-1 : Int)) = true := beq_iff_eq.mpr e1
                rw [if_pos ⟨e0, e1⟩] at H
                obtain rfl := Option.some.inj H
                clear H e0 e1
                go_wp2
                rw [impl_fabric_wire.ix3]
                go_wp2
                go_ret
                exact ⟨by first | rfl | (simp; done), by repeat (first | exact HB.out | apply below_alloc | apply pw_below_drewN | apply below_drew1)⟩
              · have q1 : ((wrap64 (wrap64 (Int.tdiv a2 a0_0) - wrap64 (Int.tdiv a1 a0_0))) == (-1 : Int)) = false := beq_eq_false_iff_ne.mpr e1
                rw [if_neg (fun h => e1 h.2)] at H
                have H' := Aside0.mk H
                clear H e0 e1
                go_wp2
                rw [impl_fabric_wire.ix3]
                go_wp2
                go_roundg k1
                case measure => have := HK1.out; omega
                case rel => exact ⟨4, (by first | rfl | (simp; done) | decide), H', ⟨by have := HK1.out; omega⟩, ⟨by simp⟩, ⟨by repeat (first | exact HB.out | apply below_alloc | apply pw_below_drewN | apply below_drew1)⟩⟩
            · have q0 : ((wrap64 (Int.tmod a2 a0_0 - Int.tmod a1 a0_0)) == (0 : Int)) = false := beq_eq_false_iff_ne.mpr e0
              rw [if_neg (fun h => e0 h.1)] at H
              have H' := Aside0.mk H
              clear H e0
              go_wp2
              rw [impl_fabric_wire.ix3]
              go_wp2
              go_roundg k1
              case measure => have := HK1.out; omega
              case rel => exact ⟨4, (by first | rfl | (simp; done) | decide), H', ⟨by have := HK1.out; omega⟩, ⟨by simp⟩, ⟨by repeat (first | exact HB.out | apply below_alloc | apply pw_below_drewN | apply below_drew1)⟩⟩
          · clear HX
            rw [if_neg (by decide)] at H
            obtain rfl := Option.some.inj H
            go_wp2
            go_ret
            exact ⟨by first | rfl | (simp; done), by repeat (first | exact HB.out | apply below_alloc | apply pw_below_drewN | apply below_drew1)⟩

/-! ### impl_WireOf: function 19 -/
def impl_WireOf.f (a0 : Int) (a1 : Int) (a2 : Int) (a3 : Int) : Option (Int) := (impl_fabric_wire.f a0 a1 a2 a3).bind fun t114 => (some t114)
set_option maxHeartbeats 8000000 in
set_option maxRecDepth 100000 in
theorem impl_WireOf.calls (a0 : Int) (a1 : Int) (a2 : Int) (a3 : Int) (r : Int) (w : World) (h : impl_WireOf.f a0 a1 a2 a3 = some r) :
    Calls Try.prog 19 #[.int .i64 a0, .int .i64 a1, .int .i64 a2, .int .i64 a3] w fun e w' => e = .returned (.int .i64 r) ∧ Below w.heap.size w w' := by
  have hu53 := Try.underlying53
  have HB := Aside0.mk (Below.refl w.heap.size w)
  have H : ((impl_fabric_wire.f a0 a1 a2 a3).bind fun t114 => (some t114)) = some r := h
  clear h
  replace H := Option.bind_eq_some_iff.mp H
  obtain ⟨t114, A50, H⟩ := H
  replace H : (some t114) = some r := H
  have A5 := Aside0.mk A50
  clear A50
  obtain rfl := Option.some.inj H
  go_enter Try.func19, Try.ntmps19
  go_wp2_with (first | ((with_reducible refine gate_callee (f := 55) rfl ?_); refine goesL_ (some 14) rfl rfl Try.func55 (by kernel_rfl) rfl #[.agg #[.int .i64 a0, .int .i64 a1], .int .i64 a2, .int .i64 a3] rfl (by (try simp only [List.map_toArray, List.map_cons, List.map_nil]); first | done | rfl | (simp only [List.length_drop, List.length_take]; rfl)) ?_; (with_reducible refine (impl_fabric_wire.calls a0 a1 a2 a3 t114 _ A5.out).mono ?_); rintro e w6 ⟨rfl, hb⟩; refine ⟨_, rfl, ?_⟩; have n0_ := Aside0.mk (below_step (by repeat (first | (with_reducible first | exact HB.out | apply below_alloc | apply pw_below_drewN | apply below_drew1) | exact HB.out)) hb); clear HB; have HB := n0_; clear n0_; (try clear hb); (try clear hb2); (try clear hk); (try clear hi)))
  go_ret
  exact ⟨by first | rfl | (simp [errW_none, errW_some] <;> rfl) | (simp [*, errW_none, errW_some] <;> rfl), by repeat (first | (with_reducible first | exact HB.out | apply below_alloc | apply pw_below_drewN | apply below_drew1) | exact HB.out)⟩

-- function 118 (slices_IndexFunc_int_int): by its function value, where it is called

-- function 110 (slices_ContainsFunc_int_int): by its function value, where it is called

-- function 111 (impl_all_int_1): by its function value, where it is called

-- function 96 (impl_all_int): by its function value, where it is called

end Go.Proofs.Ytmakbieljmldfaa.PFnWire
