/- What the Go functions that this law reaches answer, function by function; conditions: those that each contract names. Made for this claim by a program of this session (wip/myprint) over the kit's print. -/
import Derived.Test.YtdbokdodjekchaaPFnRouteNoRoundx0
namespace Go.Proofs.Ytdbokdodjekchaa.PFnRouteNoRound
open Go.RowKit Go.Proofs.YtdbokdodjekchaaW.PrintWords Go.Proofs.YtdbokdodjekchaaW.PrintLast Go.Proofs.YtdbokdodjekchaaW.PrintMore
attribute [local go_sem] zbL zbJ max_two min_two zbF zbE zbK zbI   -- for this text's walks alone
set_option linter.unusedVariables false
set_option linter.unusedSimpArgs false
def impl_within.f (a0 : Int) (a1 : Int) (a2 : Int) : Option (Bool):=if a1 ≤ a0 then (some (decide (a0 ≤ a2))) else (some false)
set_option maxHeartbeats 8000000 in
set_option maxRecDepth 100000 in
theorem impl_within.calls (a0 : Int) (a1 : Int) (a2 : Int) (r : Bool) (w : World) (h : impl_within.f a0 a1 a2 = some r) :
  Calls Try.prog 77 #[.int .i64 a0,.int .i64 a1,.int .i64 a2] w fun e w' => e = .returned (.bool r) ∧ Drawn0 w w':=by
 have H : (if a1 ≤ a0 then (some (decide (a0 ≤ a2))) else (some false)) = some r:=h; clear h; by_cases c4 : a1 ≤ a0
 ·
  rw [if_pos c4] at H; have c4b0 : decide (a1 ≤ a0) = true:=decide_eq_true c4; clear c4; obtain rfl:=Option.some.inj H; go_enter Try.func77,Try.ntmps77; go_wp2; go_ret; exact ⟨by first | rfl | (simp; done) | (simp [*]; done),by repeat (first | exact Drawn0.refl _ | apply Drawn0.step)⟩
 ·
  rw [if_neg c4] at H; have c4b0 : decide (a1 ≤ a0) = false:=decide_eq_false c4; clear c4; obtain rfl:=Option.some.inj H; go_enter Try.func77,Try.ntmps77; go_wp2; go_ret; exact ⟨by first | rfl | (simp; done) | (simp [*]; done),by repeat (first | exact Drawn0.refl _ | apply Drawn0.step)⟩
def impl_fabric_valid.f (a0_0 : Int) (a0_1 : Int) : Option (Bool):=(impl_within.f a0_0 1 5).bind fun t102 => (if t102 = true then ((impl_within.f a0_1 1 5).bind fun t103 => (some t103)) else (some false))
set_option maxHeartbeats 8000000 in
set_option maxRecDepth 100000 in
theorem impl_fabric_valid.calls (a0_0 : Int) (a0_1 : Int) (r : Bool) (w : World) (h : impl_fabric_valid.f a0_0 a0_1 = some r) :
  Calls Try.prog 63 #[.agg #[.int .i64 a0_0,.int .i64 a0_1]] w fun e w' => e = .returned (.bool r) ∧ Below w.heap.size w w':=by
 have hu50:=Try.underlying50; have HB:=aM (Below.refl w.heap.size w); have H : ((impl_within.f a0_0 1 5).bind fun t102 => (if t102 = true then ((impl_within.f a0_1 1 5).bind fun t103 => (some t103)) else (some false))) = some r:=h; clear h; replace H:=bE H; obtain ⟨t102,A20,H⟩:=H; replace H : (if t102 = true then ((impl_within.f a0_1 1 5).bind fun t103 => (some t103)) else (some false)) = some r:=H; have A2:=aM A20; clear A20; by_cases c3 : t102 = true
 ·
  subst c3; have H1 : ((impl_within.f a0_1 1 5).bind fun t103 => (some t103)) = some r:=by rw [if_pos rfl] at H; exact H
  clear H; have H:=H1; clear H1; replace H:=bE H; obtain ⟨t103,A40,H⟩:=H; replace H : (some t103) = some r:=H; have A4:=aM A40; clear A40; obtain rfl:=Option.some.inj H; go_enter Try.func63,Try.ntmps63
  go_wp2_with (first | ((with_reducible refine zaS (N:=1) rfl ?_); refine zaY ?hg (N:=1) ?hd (cs:=#[.int .i64 a0_0,.int .i64 a0_1]) (t:=50) ?hr ?_; (case hd => rfl); (case hg => rfl); (case hr => first | (go_simp; done) | (go_simp; rfl)); intro gb101 hg w5 hbox hb; have n0_:=aM (zaJ (by repeat (first | (with_reducible first | exact HB.out | apply zaA | apply bN | apply bD) | exact HB.out)) hb); have n1_:=aM (hbox); have n2_:=aM ((by rw [hg]; exact (zaK (by repeat (first | (with_reducible first | exact HB.out | apply zaA | apply bN | apply bD) | exact HB.out))) : w.heap.size ≤ gb101)); have n3_:=aM ((by rw [hg]; exact (zaK (by repeat (first | (with_reducible first | exact HB.out | apply zaA | apply bN | apply bD) | exact HB.out))) : w.heap.size ≤ gb101)); clear HB; have HB:=n0_; have BK101:=n1_; have GW101:=n2_; have GE101:=n3_; clear n0_ n1_ n2_ n3_; clear hb hbox hg; have hcz6_0 : w5.cell? ⟨gb101,0,none⟩ = some (.int .i64 a0_0):=(zaG BK101.out 0).trans rfl; have hcz6_1 : w5.cell? ⟨gb101,1,none⟩ = some (.int .i64 a0_1):=(zaG BK101.out 1).trans rfl; have hfz6_0:=zaE BK101.out 0; have hfz6_1:=zaE BK101.out 1) | ((with_reducible refine zaI (f:=77) rfl ?_); refine zaR (some 5) rfl rfl Try.func77 (by kernel_rfl) rfl #[.int .i64 a0_0,.int .i64 1,.int .i64 5] rfl (by (try simp only [mA,mB,mC]); first | done | rfl | (simp only [mE,mD]; rfl)) ?_; (with_reducible refine (impl_within.calls a0_0 1 5 true _ A2.out).mono ?_); rintro e w' ⟨rfl,⟨nd,rfl⟩⟩; refine ⟨_,rfl,?_⟩) | (go_at_call 77; (with_reducible refine (impl_within.calls a0_1 1 5 t103 _ A4.out).mono ?_); rintro e w' ⟨rfl,⟨nd,rfl⟩⟩))
  go_ret; exact ⟨by first | rfl | (simp [*] <;> rfl),by repeat (first | (with_reducible first | exact HB.out | apply zaA | apply bN | apply bD | refine zaB ?_ GE101.out) | exact HB.out)⟩
 ·
  replace c3:=Bool.eq_false_iff.mpr c3; subst c3; have H1 : (some false) = some r:=by rw [if_neg (show ¬ (false = true) by decide)] at H; exact H
  clear H; have H:=H1; clear H1; obtain rfl:=Option.some.inj H; go_enter Try.func63,Try.ntmps63
  go_wp2_with (first | ((with_reducible refine zaS (N:=1) rfl ?_); refine zaY ?hg (N:=1) ?hd (cs:=#[.int .i64 a0_0,.int .i64 a0_1]) (t:=50) ?hr ?_; (case hd => rfl); (case hg => rfl); (case hr => first | (go_simp; done) | (go_simp; rfl)); intro gb101 hg w7 hbox hb; have n0_:=aM (zaJ (by repeat (first | (with_reducible first | exact HB.out | apply zaA | apply bN | apply bD) | exact HB.out)) hb); have n1_:=aM (hbox); have n2_:=aM ((by rw [hg]; exact (zaK (by repeat (first | (with_reducible first | exact HB.out | apply zaA | apply bN | apply bD) | exact HB.out))) : w.heap.size ≤ gb101)); have n3_:=aM ((by rw [hg]; exact (zaK (by repeat (first | (with_reducible first | exact HB.out | apply zaA | apply bN | apply bD) | exact HB.out))) : w.heap.size ≤ gb101)); clear HB; have HB:=n0_; have BK101:=n1_; have GW101:=n2_; have GE101:=n3_; clear n0_ n1_ n2_ n3_; clear hb hbox hg; have hcz8_0 : w7.cell? ⟨gb101,0,none⟩ = some (.int .i64 a0_0):=(zaG BK101.out 0).trans rfl; have hcz8_1 : w7.cell? ⟨gb101,1,none⟩ = some (.int .i64 a0_1):=(zaG BK101.out 1).trans rfl; have hfz8_0:=zaE BK101.out 0; have hfz8_1:=zaE BK101.out 1) | ((with_reducible refine zaI (f:=77) rfl ?_); refine zaR (some 5) rfl rfl Try.func77 (by kernel_rfl) rfl #[.int .i64 a0_0,.int .i64 1,.int .i64 5] rfl (by (try simp only [mA,mB,mC]); first | done | rfl | (simp only [mE,mD]; rfl)) ?_; (with_reducible refine (impl_within.calls a0_0 1 5 false _ A2.out).mono ?_); rintro e w' ⟨rfl,⟨nd,rfl⟩⟩; refine ⟨_,rfl,?_⟩))
  go_ret; exact ⟨by first | rfl | (simp [*] <;> rfl),by repeat (first | (with_reducible first | exact HB.out | apply zaA | apply bN | apply bD | refine zaB ?_ GE101.out) | exact HB.out)⟩
def impl_fabric_node.f (a0_0 : Int) (a0_1 : Int) (a1 : Int) : Option (Bool):=(impl_fabric_valid.f a0_0 a0_1).bind fun t105 => (if t105 = true then ((impl_within.f a1 0 (wrap64 ((wrap64 (a0_0 * a0_1)) - 1))).bind fun t106 => (some t106)) else (some false))
set_option maxHeartbeats 8000000 in
set_option maxRecDepth 100000 in
theorem impl_fabric_node.calls (a0_0 : Int) (a0_1 : Int) (a1 : Int) (r : Bool) (w : World) (h : impl_fabric_node.f a0_0 a0_1 a1 = some r) :
  Calls Try.prog 72 #[.agg #[.int .i64 a0_0,.int .i64 a0_1],.int .i64 a1] w fun e w' => e = .returned (.bool r) ∧ Below w.heap.size w w':=by
 have hu50:=Try.underlying50; have HB:=aM (Below.refl w.heap.size w); have H : ((impl_fabric_valid.f a0_0 a0_1).bind fun t105 => (if t105 = true then ((impl_within.f a1 0 (wrap64 ((wrap64 (a0_0 * a0_1)) - 1))).bind fun t106 => (some t106)) else (some false))) = some r:=h; clear h; replace H:=bE H; obtain ⟨t105,A30,H⟩:=H; replace H : (if t105 = true then ((impl_within.f a1 0 (wrap64 ((wrap64 (a0_0 * a0_1)) - 1))).bind fun t106 => (some t106)) else (some false)) = some r:=H; have A3:=aM A30; clear A30; by_cases c4 : t105 = true
 ·
  subst c4; have H1 : ((impl_within.f a1 0 (wrap64 ((wrap64 (a0_0 * a0_1)) - 1))).bind fun t106 => (some t106)) = some r:=by rw [if_pos rfl] at H; exact H
  clear H; have H:=H1; clear H1; replace H:=bE H; obtain ⟨t106,A50,H⟩:=H; replace H : (some t106) = some r:=H; have A5:=aM A50; clear A50; obtain rfl:=Option.some.inj H; go_enter Try.func72,Try.ntmps72
  go_wp2_with (first | ((with_reducible refine zaS (N:=2) rfl ?_); refine zaY ?hg (N:=2) ?hd (cs:=#[.int .i64 a0_0,.int .i64 a0_1]) (t:=50) ?hr ?_; (case hd => rfl); (case hg => rfl); (case hr => first | (go_simp; done) | (go_simp; rfl)); intro gb104 hg w6 hbox hb; have n0_:=aM (zaJ (by repeat (first | (with_reducible first | exact HB.out | apply zaA | apply bN | apply bD) | exact HB.out)) hb); have n1_:=aM (hbox); have n2_:=aM ((by rw [hg]; exact (zaK (by repeat (first | (with_reducible first | exact HB.out | apply zaA | apply bN | apply bD) | exact HB.out))) : w.heap.size ≤ gb104)); have n3_:=aM ((by rw [hg]; exact (zaK (by repeat (first | (with_reducible first | exact HB.out | apply zaA | apply bN | apply bD) | exact HB.out))) : w.heap.size ≤ gb104)); clear HB; have HB:=n0_; have BK104:=n1_; have GW104:=n2_; have GE104:=n3_; clear n0_ n1_ n2_ n3_; clear hb hbox hg; have hcz7_0 : w6.cell? ⟨gb104,0,none⟩ = some (.int .i64 a0_0):=(zaG BK104.out 0).trans rfl; have hcz7_1 : w6.cell? ⟨gb104,1,none⟩ = some (.int .i64 a0_1):=(zaG BK104.out 1).trans rfl; have hfz7_0:=zaE BK104.out 0; have hfz7_1:=zaE BK104.out 1) | ((with_reducible refine zaI (f:=63) rfl ?_); refine zaR (some 6) rfl rfl Try.func63 (by kernel_rfl) rfl #[.agg #[.int .i64 a0_0,.int .i64 a0_1]] rfl (by (try simp only [mA,mB,mC]); first | done | rfl | (simp only [mE,mD]; rfl)) ?_; (with_reducible refine (impl_fabric_valid.calls a0_0 a0_1 true _ A3.out).mono ?_); rintro e w8 ⟨rfl,hb⟩; refine ⟨_,rfl,?_⟩; have n0_:=aM (zaT (g:=gb104) (o:=.cells #[.int .i64 a0_0,.int .i64 a0_1] 50 (0,0)) (by (with_reducible repeat (first | refine zaC ?_ _ | refine zaF ?_ | refine zaD ?_ _)); exact BK104.out) hb); have n1_:=aM (zaJ (by repeat (first | (with_reducible first | exact HB.out | apply zaA | apply bN | apply bD | refine zaB ?_ GE104.out) | exact HB.out)) hb); clear BK104; clear HB; have BK104:=n0_; have HB:=n1_; clear n0_ n1_; (try clear hb); (try clear hb2); (try clear hk); (try clear hi); have hcz9_0 : w8.cell? ⟨gb104,0,none⟩ = some (.int .i64 a0_0):=(zaG BK104.out 0).trans rfl; have hcz9_1 : w8.cell? ⟨gb104,1,none⟩ = some (.int .i64 a0_1):=(zaG BK104.out 1).trans rfl; have hfz9_0:=zaE BK104.out 0; have hfz9_1:=zaE BK104.out 1) | (go_at_call 77; (with_reducible refine (impl_within.calls a1 0 (wrap64 ((wrap64 (a0_0 * a0_1)) - 1)) t106 _ A5.out).mono ?_); rintro e w' ⟨rfl,⟨nd,rfl⟩⟩))
  go_ret; exact ⟨by first | rfl | (simp [*] <;> rfl),by repeat (first | (with_reducible first | exact HB.out | apply zaA | apply bN | apply bD | refine zaB ?_ GE104.out) | exact HB.out)⟩
 ·
  replace c4:=Bool.eq_false_iff.mpr c4; subst c4; have H1 : (some false) = some r:=by rw [if_neg (show ¬ (false = true) by decide)] at H; exact H
  clear H; have H:=H1; clear H1; obtain rfl:=Option.some.inj H; go_enter Try.func72,Try.ntmps72
  go_wp2_with (first | ((with_reducible refine zaS (N:=2) rfl ?_); refine zaY ?hg (N:=2) ?hd (cs:=#[.int .i64 a0_0,.int .i64 a0_1]) (t:=50) ?hr ?_; (case hd => rfl); (case hg => rfl); (case hr => first | (go_simp; done) | (go_simp; rfl)); intro gb104 hg w10 hbox hb; have n0_:=aM (zaJ (by repeat (first | (with_reducible first | exact HB.out | apply zaA | apply bN | apply bD) | exact HB.out)) hb); have n1_:=aM (hbox); have n2_:=aM ((by rw [hg]; exact (zaK (by repeat (first | (with_reducible first | exact HB.out | apply zaA | apply bN | apply bD) | exact HB.out))) : w.heap.size ≤ gb104)); have n3_:=aM ((by rw [hg]; exact (zaK (by repeat (first | (with_reducible first | exact HB.out | apply zaA | apply bN | apply bD) | exact HB.out))) : w.heap.size ≤ gb104)); clear HB; have HB:=n0_; have BK104:=n1_; have GW104:=n2_; have GE104:=n3_; clear n0_ n1_ n2_ n3_; clear hb hbox hg; have hcz11_0 : w10.cell? ⟨gb104,0,none⟩ = some (.int .i64 a0_0):=(zaG BK104.out 0).trans rfl; have hcz11_1 : w10.cell? ⟨gb104,1,none⟩ = some (.int .i64 a0_1):=(zaG BK104.out 1).trans rfl; have hfz11_0:=zaE BK104.out 0; have hfz11_1:=zaE BK104.out 1) | ((with_reducible refine zaI (f:=63) rfl ?_); refine zaR (some 6) rfl rfl Try.func63 (by kernel_rfl) rfl #[.agg #[.int .i64 a0_0,.int .i64 a0_1]] rfl (by (try simp only [mA,mB,mC]); first | done | rfl | (simp only [mE,mD]; rfl)) ?_; (with_reducible refine (impl_fabric_valid.calls a0_0 a0_1 false _ A3.out).mono ?_); rintro e w12 ⟨rfl,hb⟩; refine ⟨_,rfl,?_⟩; have n0_:=aM (zaT (g:=gb104) (o:=.cells #[.int .i64 a0_0,.int .i64 a0_1] 50 (0,0)) (by (with_reducible repeat (first | refine zaC ?_ _ | refine zaF ?_ | refine zaD ?_ _)); exact BK104.out) hb); have n1_:=aM (zaJ (by repeat (first | (with_reducible first | exact HB.out | apply zaA | apply bN | apply bD | refine zaB ?_ GE104.out) | exact HB.out)) hb); clear BK104; clear HB; have BK104:=n0_; have HB:=n1_; clear n0_ n1_; (try clear hb); (try clear hb2); (try clear hk); (try clear hi)))
  go_ret; exact ⟨by first | rfl | (simp [*] <;> rfl),by repeat (first | (with_reducible first | exact HB.out | apply zaA | apply bN | apply bD | refine zaB ?_ GE104.out) | exact HB.out)⟩
theorem impl_fabric_wire.hop {w W W' : World} (h : Below w.heap.size w W) (h' : Below W.heap.size W W') : Below w.heap.size w W':=h.trans (h'.mono h.size)
def impl_fabric_wire.s0 (i : Int) : Int:=if i = 0 then 1 else if i = 1 then -1 else 0
def impl_fabric_wire.s1 (i : Int) : Int:=if i = 2 then 1 else if i = 3 then -1 else 0
def impl_fabric_wire.l0 : Nat → Int → Int → Int → Int → Option Int
 | 0,_,_,_,_ => none
 | k + 1,a,d0,d1,i => if i < 4 then (if d0 = impl_fabric_wire.s0 i ∧ d1 = impl_fabric_wire.s1 i then some (wrap64 (wrap64 (4 * a) + i)) else impl_fabric_wire.l0 k a d0 d1 (i + 1)) else some (-1)
def impl_fabric_wire.f (a0_0 : Int) (a0_1 : Int) (a1 : Int) (a2 : Int) : Option (Int):=(impl_fabric_node.f a0_0 a0_1 a1).bind fun b1 => if b1 = true then ((impl_fabric_node.f a0_0 a0_1 a2).bind fun b2 => if b2 = true then (if a0_0 = 0 then none else impl_fabric_wire.l0 5 a1 (wrap64 (Int.tmod a2 a0_0 - Int.tmod a1 a0_0)) (wrap64 (wrap64 (Int.tdiv a2 a0_0) - wrap64 (Int.tdiv a1 a0_0))) 0) else some (-1)) else some (-1)
theorem impl_fabric_wire.ix0 (W : World) : Sem.run Try.prog (Instr.index 87 (.agg #[.int .i64 1,.int .i64 0,.int .i64 (-1),.int .i64 0,.int .i64 0,.int .i64 1,.int .i64 0,.int .i64 (-1)]) (.int .i64 0)) W = Result.ok (.agg #[.int .i64 1,.int .i64 0]) W:=by kernel_rfl
theorem impl_fabric_wire.ix1 (W : World) : Sem.run Try.prog (Instr.index 87 (.agg #[.int .i64 1,.int .i64 0,.int .i64 (-1),.int .i64 0,.int .i64 0,.int .i64 1,.int .i64 0,.int .i64 (-1)]) (.int .i64 1)) W = Result.ok (.agg #[.int .i64 (-1),.int .i64 0]) W:=by kernel_rfl
theorem impl_fabric_wire.ix2 (W : World) : Sem.run Try.prog (Instr.index 87 (.agg #[.int .i64 1,.int .i64 0,.int .i64 (-1),.int .i64 0,.int .i64 0,.int .i64 1,.int .i64 0,.int .i64 (-1)]) (.int .i64 2)) W = Result.ok (.agg #[.int .i64 0,.int .i64 1]) W:=by kernel_rfl
theorem impl_fabric_wire.ix3 (W : World) : Sem.run Try.prog (Instr.index 87 (.agg #[.int .i64 1,.int .i64 0,.int .i64 (-1),.int .i64 0,.int .i64 0,.int .i64 1,.int .i64 0,.int .i64 (-1)]) (.int .i64 3)) W = Result.ok (.agg #[.int .i64 0,.int .i64 (-1)]) W:=by kernel_rfl
set_option maxHeartbeats 8000000 in
set_option maxRecDepth 100000 in
theorem impl_fabric_wire.calls (a0_0 : Int) (a0_1 : Int) (a1 : Int) (a2 : Int) (r : Int) (w : World) (h : impl_fabric_wire.f a0_0 a0_1 a1 a2 = some r) :
  Calls Try.prog 42 #[.agg #[.int .i64 a0_0,.int .i64 a0_1],.int .i64 a1,.int .i64 a2] w fun e w' => e = .returned (.int .i64 r) ∧ Below w.heap.size w w':=by
 have hu_:=Try.underlying50; have hu81:=Try.underlying86; have hu82:=Try.underlying87; obtain ⟨b1,A1,H⟩:=bE h; have hb1 : Below w.heap.size w (w.alloc (.cells #[.int .i64 a0_0,.int .i64 a0_1] 50)):=zaA (Below.refl _ _) _; have HB:=aM hb1; have A1:=aM A1; clear hb1 h; cases b1 with
 | false =>
  obtain rfl : -1 = r:=by simpa using H
  clear H; go_enter Try.func42,Try.ntmps42; go_wp2_with (go_at_call 72; (with_reducible refine (impl_fabric_node.calls a0_0 a0_1 a1 false _ A1.out).mono ?_); rintro e w1 ⟨rfl,hb'⟩; have HB1:=aM hb'; clear hb'); go_ret; exact ⟨rfl,impl_fabric_wire.hop HB.out HB1.out⟩
 | true =>
  obtain ⟨b2,A2,H⟩:=bE (show ((impl_fabric_node.f a0_0 a0_1 a2).bind fun b2 => if b2 = true then (if a0_0 = 0 then none else impl_fabric_wire.l0 5 a1 (wrap64 (Int.tmod a2 a0_0 - Int.tmod a1 a0_0)) (wrap64 (wrap64 (Int.tdiv a2 a0_0) - wrap64 (Int.tdiv a1 a0_0))) 0) else some (-1)) = some r from H); have A2:=aM A2; cases b2 with
  | false =>
   obtain rfl : -1 = r:=by simpa using H
   clear H; go_enter Try.func42,Try.ntmps42; go_wp2_with (first
    | (go_at_call 72; (with_reducible refine (impl_fabric_node.calls a0_0 a0_1 a1 true _ A1.out).mono ?_); rintro e w1 ⟨rfl,hb'⟩; have HB1:=aM hb'; clear hb'; have ka0 : w1.cell? ⟨w.heap.size,0,none⟩ = some (.int .i64 a0_0):=(HB1.out.cell (p:=⟨w.heap.size,0,none⟩) (by simp)).trans (by simp); have ka1 : w1.cell? ⟨w.heap.size,1,none⟩ = some (.int .i64 a0_1):=(HB1.out.cell (p:=⟨w.heap.size,1,none⟩) (by simp)).trans (by simp))
    | (go_at_call 72; (with_reducible refine (impl_fabric_node.calls a0_0 a0_1 a2 false _ A2.out).mono ?_); rintro e w2 ⟨rfl,hb'⟩; have HB2:=aM (impl_fabric_wire.hop HB1.out hb'); clear hb'; have kb0 : w2.cell? ⟨w.heap.size,0,none⟩ = some (.int .i64 a0_0):=(HB2.out.cell (p:=⟨w.heap.size,0,none⟩) (by simp)).trans (by simp); have kb1 : w2.cell? ⟨w.heap.size,1,none⟩ = some (.int .i64 a0_1):=(HB2.out.cell (p:=⟨w.heap.size,1,none⟩) (by simp)).trans (by simp)))
   go_ret; exact ⟨rfl,impl_fabric_wire.hop HB.out HB2.out⟩
  | true =>
   replace H : (if a0_0 = 0 then none else impl_fabric_wire.l0 5 a1 (wrap64 (Int.tmod a2 a0_0 - Int.tmod a1 a0_0)) (wrap64 (wrap64 (Int.tdiv a2 a0_0) - wrap64 (Int.tdiv a1 a0_0))) 0) = some r:=H; by_cases c4 : a0_0 = 0
   ·
    rw [if_pos c4] at H; exact absurd H (by simp)
   rw [if_neg c4] at H; have c4b0 : (a0_0 == 0) = false:=beq_eq_false_iff_ne.mpr c4; have c4b1 : (a0_0 != 0) = true:=bne_iff_ne.mpr c4; have HL:=aM H; clear H; go_enter Try.func42,Try.ntmps42; go_wp2_with (first
    | (go_at_call 72; (with_reducible refine (impl_fabric_node.calls a0_0 a0_1 a1 true _ A1.out).mono ?_); rintro e w1 ⟨rfl,hb'⟩; have HB1:=aM hb'; clear hb'; have ka0 : w1.cell? ⟨w.heap.size,0,none⟩ = some (.int .i64 a0_0):=(HB1.out.cell (p:=⟨w.heap.size,0,none⟩) (by simp)).trans (by simp); have ka1 : w1.cell? ⟨w.heap.size,1,none⟩ = some (.int .i64 a0_1):=(HB1.out.cell (p:=⟨w.heap.size,1,none⟩) (by simp)).trans (by simp))
    | (go_at_call 72; (with_reducible refine (impl_fabric_node.calls a0_0 a0_1 a2 true _ A2.out).mono ?_); rintro e w2 ⟨rfl,hb'⟩; have HB2:=aM (impl_fabric_wire.hop HB1.out hb'); clear hb'; have kb0 : w2.cell? ⟨w.heap.size,0,none⟩ = some (.int .i64 a0_0):=(HB2.out.cell (p:=⟨w.heap.size,0,none⟩) (by simp)).trans (by simp); have kb1 : w2.cell? ⟨w.heap.size,1,none⟩ = some (.int .i64 a0_1):=(HB2.out.cell (p:=⟨w.heap.size,1,none⟩) (by simp)).trans (by simp)))
   go_quiet (fail); generalize hw3 : w2.drewN _ = w3; have HB3:=aM (show Below _ _ w3 from hw3 ▸ bN HB2.out _); clear hw3; go_wp2; have HBa:=aM (impl_fabric_wire.hop HB.out HB3.out); clear HB HB1 HB2 HB3 A1 A2 ka0 ka1 kb0 kb1; go_loopg [46] 5 (fun kq v46 w' => ∃ (x46 : Int),v46 = .int .i64 x46 ∧ Aside0 (impl_fabric_wire.l0 kq a1 (wrap64 (Int.tmod a2 a0_0 - Int.tmod a1 a0_0)) (wrap64 (wrap64 (Int.tdiv a2 a0_0) - wrap64 (Int.tdiv a1 a0_0))) x46 = some r) ∧ Aside0 (kq ≤ 5) ∧ Aside0 (x46 = 0 ∨ x46 = 1 ∨ x46 = 2 ∨ x46 = 3 ∨ x46 = 4) ∧ Aside0 (Below w.heap.size w w')); case atStart => exact ⟨0,rfl,HL,⟨Nat.le_refl _⟩,⟨Or.inl rfl⟩,⟨zaA HBa.out _⟩⟩
   case round =>
    clear HL HBa; obtain ⟨x46,rfl,HA,HK1,HX,HB⟩:=hrel; cases gk with
    | zero => exact absurd HA.out (by simp [impl_fabric_wire.l0])
    | succ k1 =>
     have H:=HA.out; clear HA; simp only [impl_fabric_wire.l0] at H
     rcases HX.out with rfl | rfl | rfl | rfl | rfl
     ·
      clear HX; rw [if_pos (by decide),show impl_fabric_wire.s0 0 = (1 : Int) from by decide,show impl_fabric_wire.s1 0 = (0 : Int) from by decide] at H; by_cases e0 : (wrap64 (Int.tmod a2 a0_0 - Int.tmod a1 a0_0)) = (1 : Int)
      ·
       have q0 : ((wrap64 (Int.tmod a2 a0_0 - Int.tmod a1 a0_0)) == (1 : Int)) = true:=beq_iff_eq.mpr e0; by_cases e1 : (wrap64 (wrap64 (Int.tdiv a2 a0_0) - wrap64 (Int.tdiv a1 a0_0))) = (0 : Int)
       ·
        have q1 : ((wrap64 (wrap64 (Int.tdiv a2 a0_0) - wrap64 (Int.tdiv a1 a0_0))) == (0 : Int)) = true:=beq_iff_eq.mpr e1; rw [if_pos ⟨e0,e1⟩] at H; obtain rfl:=Option.some.inj H; clear H e0 e1; go_wp2; rw [impl_fabric_wire.ix0]; go_wp2; go_ret; exact ⟨by first | rfl | (simp; done),by repeat (first | exact HB.out | apply zaA | apply bN | apply bD)⟩
       ·
        have q1 : ((wrap64 (wrap64 (Int.tdiv a2 a0_0) - wrap64 (Int.tdiv a1 a0_0))) == (0 : Int)) = false:=beq_eq_false_iff_ne.mpr e1; rw [if_neg (fun h => e1 h.2)] at H; have H':=aM H; clear H e0 e1; go_wp2; rw [impl_fabric_wire.ix0]; go_wp2; go_roundg k1; case measure => have:=HK1.out; omega
        case rel => exact ⟨1,(by first | rfl | (simp; done) | decide),H',⟨by have:=HK1.out; omega⟩,⟨by simp⟩,⟨by repeat (first | exact HB.out | apply zaA | apply bN | apply bD)⟩⟩
      ·
       have q0 : ((wrap64 (Int.tmod a2 a0_0 - Int.tmod a1 a0_0)) == (1 : Int)) = false:=beq_eq_false_iff_ne.mpr e0; rw [if_neg (fun h => e0 h.1)] at H; have H':=aM H; clear H e0; go_wp2; rw [impl_fabric_wire.ix0]; go_wp2; go_roundg k1; case measure => have:=HK1.out; omega
       case rel => exact ⟨1,(by first | rfl | (simp; done) | decide),H',⟨by have:=HK1.out; omega⟩,⟨by simp⟩,⟨by repeat (first | exact HB.out | apply zaA | apply bN | apply bD)⟩⟩
     ·
      clear HX; rw [if_pos (by decide),show impl_fabric_wire.s0 1 = (-1 : Int) from by decide,show impl_fabric_wire.s1 1 = (0 : Int) from by decide] at H; by_cases e0 : (wrap64 (Int.tmod a2 a0_0 - Int.tmod a1 a0_0)) = (-1 : Int)
      ·
       have q0 : ((wrap64 (Int.tmod a2 a0_0 - Int.tmod a1 a0_0)) == (-1 : Int)) = true:=beq_iff_eq.mpr e0; by_cases e1 : (wrap64 (wrap64 (Int.tdiv a2 a0_0) - wrap64 (Int.tdiv a1 a0_0))) = (0 : Int)
       ·
        have q1 : ((wrap64 (wrap64 (Int.tdiv a2 a0_0) - wrap64 (Int.tdiv a1 a0_0))) == (0 : Int)) = true:=beq_iff_eq.mpr e1; rw [if_pos ⟨e0,e1⟩] at H; obtain rfl:=Option.some.inj H; clear H e0 e1; go_wp2; rw [impl_fabric_wire.ix1]; go_wp2; go_ret; exact ⟨by first | rfl | (simp; done),by repeat (first | exact HB.out | apply zaA | apply bN | apply bD)⟩
       ·
        have q1 : ((wrap64 (wrap64 (Int.tdiv a2 a0_0) - wrap64 (Int.tdiv a1 a0_0))) == (0 : Int)) = false:=beq_eq_false_iff_ne.mpr e1; rw [if_neg (fun h => e1 h.2)] at H; have H':=aM H; clear H e0 e1; go_wp2; rw [impl_fabric_wire.ix1]; go_wp2; go_roundg k1; case measure => have:=HK1.out; omega
        case rel => exact ⟨2,(by first | rfl | (simp; done) | decide),H',⟨by have:=HK1.out; omega⟩,⟨by simp⟩,⟨by repeat (first | exact HB.out | apply zaA | apply bN | apply bD)⟩⟩
      ·
       have q0 : ((wrap64 (Int.tmod a2 a0_0 - Int.tmod a1 a0_0)) == (-1 : Int)) = false:=beq_eq_false_iff_ne.mpr e0; rw [if_neg (fun h => e0 h.1)] at H; have H':=aM H; clear H e0; go_wp2; rw [impl_fabric_wire.ix1]; go_wp2; go_roundg k1; case measure => have:=HK1.out; omega
       case rel => exact ⟨2,(by first | rfl | (simp; done) | decide),H',⟨by have:=HK1.out; omega⟩,⟨by simp⟩,⟨by repeat (first | exact HB.out | apply zaA | apply bN | apply bD)⟩⟩
     ·
      clear HX; rw [if_pos (by decide),show impl_fabric_wire.s0 2 = (0 : Int) from by decide,show impl_fabric_wire.s1 2 = (1 : Int) from by decide] at H; by_cases e0 : (wrap64 (Int.tmod a2 a0_0 - Int.tmod a1 a0_0)) = (0 : Int)
      ·
       have q0 : ((wrap64 (Int.tmod a2 a0_0 - Int.tmod a1 a0_0)) == (0 : Int)) = true:=beq_iff_eq.mpr e0; by_cases e1 : (wrap64 (wrap64 (Int.tdiv a2 a0_0) - wrap64 (Int.tdiv a1 a0_0))) = (1 : Int)
       ·
        have q1 : ((wrap64 (wrap64 (Int.tdiv a2 a0_0) - wrap64 (Int.tdiv a1 a0_0))) == (1 : Int)) = true:=beq_iff_eq.mpr e1; rw [if_pos ⟨e0,e1⟩] at H; obtain rfl:=Option.some.inj H; clear H e0 e1; go_wp2; rw [impl_fabric_wire.ix2]; go_wp2; go_ret; exact ⟨by first | rfl | (simp; done),by repeat (first | exact HB.out | apply zaA | apply bN | apply bD)⟩
       ·
        have q1 : ((wrap64 (wrap64 (Int.tdiv a2 a0_0) - wrap64 (Int.tdiv a1 a0_0))) == (1 : Int)) = false:=beq_eq_false_iff_ne.mpr e1; rw [if_neg (fun h => e1 h.2)] at H; have H':=aM H; clear H e0 e1; go_wp2; rw [impl_fabric_wire.ix2]; go_wp2; go_roundg k1; case measure => have:=HK1.out; omega
        case rel => exact ⟨3,(by first | rfl | (simp; done) | decide),H',⟨by have:=HK1.out; omega⟩,⟨by simp⟩,⟨by repeat (first | exact HB.out | apply zaA | apply bN | apply bD)⟩⟩
      ·
       have q0 : ((wrap64 (Int.tmod a2 a0_0 - Int.tmod a1 a0_0)) == (0 : Int)) = false:=beq_eq_false_iff_ne.mpr e0; rw [if_neg (fun h => e0 h.1)] at H; have H':=aM H; clear H e0; go_wp2; rw [impl_fabric_wire.ix2]; go_wp2; go_roundg k1; case measure => have:=HK1.out; omega
       case rel => exact ⟨3,(by first | rfl | (simp; done) | decide),H',⟨by have:=HK1.out; omega⟩,⟨by simp⟩,⟨by repeat (first | exact HB.out | apply zaA | apply bN | apply bD)⟩⟩
     ·
      clear HX; rw [if_pos (by decide),show impl_fabric_wire.s0 3 = (0 : Int) from by decide,show impl_fabric_wire.s1 3 = (-1 : Int) from by decide] at H; by_cases e0 : (wrap64 (Int.tmod a2 a0_0 - Int.tmod a1 a0_0)) = (0 : Int)
      ·
       have q0 : ((wrap64 (Int.tmod a2 a0_0 - Int.tmod a1 a0_0)) == (0 : Int)) = true:=beq_iff_eq.mpr e0; by_cases e1 : (wrap64 (wrap64 (Int.tdiv a2 a0_0) - wrap64 (Int.tdiv a1 a0_0))) = (-1 : Int)
       ·
        have q1 : ((wrap64 (wrap64 (Int.tdiv a2 a0_0) - wrap64 (Int.tdiv a1 a0_0))) == (-1 : Int)) = true:=beq_iff_eq.mpr e1; rw [if_pos ⟨e0,e1⟩] at H; obtain rfl:=Option.some.inj H; clear H e0 e1; go_wp2; rw [impl_fabric_wire.ix3]; go_wp2; go_ret; exact ⟨by first | rfl | (simp; done),by repeat (first | exact HB.out | apply zaA | apply bN | apply bD)⟩
       ·
        have q1 : ((wrap64 (wrap64 (Int.tdiv a2 a0_0) - wrap64 (Int.tdiv a1 a0_0))) == (-1 : Int)) = false:=beq_eq_false_iff_ne.mpr e1; rw [if_neg (fun h => e1 h.2)] at H; have H':=aM H; clear H e0 e1; go_wp2; rw [impl_fabric_wire.ix3]; go_wp2; go_roundg k1; case measure => have:=HK1.out; omega
        case rel => exact ⟨4,(by first | rfl | (simp; done) | decide),H',⟨by have:=HK1.out; omega⟩,⟨by simp⟩,⟨by repeat (first | exact HB.out | apply zaA | apply bN | apply bD)⟩⟩
      ·
       have q0 : ((wrap64 (Int.tmod a2 a0_0 - Int.tmod a1 a0_0)) == (0 : Int)) = false:=beq_eq_false_iff_ne.mpr e0; rw [if_neg (fun h => e0 h.1)] at H; have H':=aM H; clear H e0; go_wp2; rw [impl_fabric_wire.ix3]; go_wp2; go_roundg k1; case measure => have:=HK1.out; omega
       case rel => exact ⟨4,(by first | rfl | (simp; done) | decide),H',⟨by have:=HK1.out; omega⟩,⟨by simp⟩,⟨by repeat (first | exact HB.out | apply zaA | apply bN | apply bD)⟩⟩
     ·
      clear HX; rw [if_neg (by decide)] at H; obtain rfl:=Option.some.inj H; go_wp2; go_ret; exact ⟨by first | rfl | (simp; done),by repeat (first | exact HB.out | apply zaA | apply bN | apply bD)⟩
-- function 102 (slices_IndexFunc_int_int_102): by its function value,where it is called
-- function 94 (slices_ContainsFunc_int_int_94): by its function value,where it is called
-- function 95 (impl_all_int_1_95): by its function value,where it is called
-- function 78 (impl_all_int_78): by its function value,where it is called
def ixO {α : Type} (p : α → Option Bool) : List α → Int → Option Int
 | [],_ => some (-1)
 | x :: xs,i => (p x).bind fun b => if b = true then some i else ixO p xs (i + 1)
def anyO {α : Type} (p : α → Option Bool) : List α → Option Bool
 | [] => some false
 | x :: xs => (p x).bind fun b => if b = true then some true else anyO p xs
def allO {α : Type} (p : α → Option Bool) : List α → Option Bool
 | [] => some true
 | x :: xs => (p x).bind fun b => if b = true then allO p xs else some false
theorem ixO_step {α : Type} (p : α → Option Bool) (z : α) (l : List α) (i : Int) (hi : i.toNat < l.length) (h0 : 0 ≤ i) : ixO p (l.drop i.toNat) i = (p (l.getD i.toNat z)).bind fun b => if b = true then some i else ixO p (l.drop (i + 1).toNat) (i + 1):=by
 rw [List.drop_eq_getElem_cons hi,show (i + 1).toNat = i.toNat + 1 by omega,List.getD_eq_getElem?_getD,List.getElem?_eq_getElem hi]; rfl
theorem ixO_any {α : Type} (p : α → Option Bool) : ∀ (l : List α) (i : Int) (b : Bool),0 ≤ i → anyO p l = some b → ∃ r,ixO p l i = some r ∧ decide (0 ≤ r) = b
 | [],i,b,_,h => ⟨-1,rfl,by simp [anyO] at h; rw [h]; rfl⟩
 | x :: xs,i,b,hi,h => by
  obtain ⟨c,hc,hh⟩:=bE h; cases c with
  | true => exact ⟨i,by simp [ixO,hc],by simp at hh; rw [hh]; simpa using hi⟩
  | false =>
   obtain ⟨r,hr,hd⟩:=ixO_any p xs (i + 1) b (by omega) (by simpa using hh); exact ⟨r,by simp [ixO,hc,hr],hd⟩
theorem anyO_all {α : Type} (p : α → Option Bool) : ∀ (l : List α) (b : Bool),allO p l = some b → anyO (fun x => (p x).map (! ·)) l = some (!b)
 | [],b,h => by simp [allO] at h; rw [h]; rfl
 | x :: xs,b,h => by
  obtain ⟨c,hc,hh⟩:=bE h; cases c with
  | true => simpa [anyO,hc] using anyO_all p xs b (by simpa using hh)
  | false => simp at hh; simp [anyO,hc,hh]
theorem allO_mono {α : Type} (p : Nat → α → Option Bool) (hp : ∀ k x,LeO (p k x) (p (k + 1) x)) (k : Nat) : ∀ l,LeO (allO (p k) l) (allO (p (k + 1)) l)
 | [] => LeO.refl _
 | x :: xs => LeO.bind (hp k x) (fun _ => LeO.ite (allO_mono p hp k xs) (LeO.refl _))
def PredK (P : Program) (g : Nat) (fs lb : Array Value) {α : Type} (d : Kd α) (v : List Value → Value) (p : α → Option Bool) (w : World) : Prop :=
 ∀ (W : World) (x : α) (b : Bool) (cs : List Value),Below w.heap.size w W → d.K W x cs → p x = some b → Calls P g (fs ++ #[v cs] ++ lb) W fun e w' => e = .returned (.bool b) ∧ Below W.heap.size W w'
theorem below_hop {w W W' : World} (h : Below w.heap.size w W) (h' : Below W.heap.size W W') : Below w.heap.size w W':=h.trans (h'.mono h.size)
theorem PredK.later {P : Program} {g : Nat} {fs lb : Array Value} {α : Type} {d : Kd α} {v : List Value → Value} {p : α → Option Bool} {w w1 : World} (h : PredK P g fs lb d v p w) (hb : Below w.heap.size w w1) : PredK P g fs lb d v p w1 :=
 fun W x b cs hW => h W x b cs (below_hop hb hW)
def valOne (cs : List Value) : Value:=cs.headD (.int .i64 0)
def valAgg (cs : List Value) : Value:=.agg cs.toArray
set_option maxHeartbeats 8000000 in
set_option maxRecDepth 100000 in
theorem index102 (p : Int → Option Bool) (g : Nat) (fs lb : Array Value) (eg : ∀ args w,(callFunc g args).run Try.prog w = .ok (.enter g args) w) (A : Option Addr) (c : Nat) (l : List Int) (r : Int) (w : World)
  (hr0 : Kd.C (Kd.int .i64) w A l.length l) (hc0 : l.length ≤ c) (hp : PredK Try.prog g fs lb (Kd.int .i64) valOne p w) (h : ixO p l 0 = some r) :
  Calls Try.prog 102 #[.slice A l.length c,.func (.func g) fs lb] w fun e w' => e = .returned (.int .i64 r) ∧ Below w.heap.size w w':=by
 have HR0:=aM hr0; have HL:=aM hr0.2.1; have HP:=aM hp; clear hr0 hc0 hp; have H:=aM h; clear h; go_enter Try.func102,Try.ntmps102; go_wp2; go_loopg [5,8] l.length (fun kq _ v8 w' => ∃ (i : Int),v8 = .int .i64 i ∧ Aside0 (ixO p (l.drop i.toNat) i = some r) ∧ Aside0 (0 ≤ i ∧ i ≤ l.length ∧ (l.length : Int) - i ≤ kq) ∧ Aside0 (Below w.heap.size w w')); case atStart => exact ⟨0,rfl,H,⟨by omega,by omega,by omega⟩,⟨Below.refl _ _⟩⟩
 case round =>
  clear H; obtain ⟨i,rfl,HA,HK,HB0⟩:=hrel; have HB:=HB0; by_cases hlt : i < (l.length : Int)
  ·
   have p1 : 0 ≤ i:=HK.out.1; obtain ⟨ad,c_,e,hlen,hK,hcell⟩:=Kd.C_get HR0.out (0 : Int) i p1 hlt; cases e; have hK':=(Kd.int .i64).K_below HB.out hK; have hn : i.toNat < l.length:=by omega
   have hstep:=HA.out; rw [ixO_step p (0 : Int) l i hn p1] at hstep; obtain ⟨b,hb,hif⟩:=bE hstep; have hcall0:=HP.out wr _ b c_ HB.out hK' hb; generalize l.getD i.toNat (0 : Int) = x at hK hK' hb hstep hcall0; obtain rfl : c_ = [.int .i64 x]:=hK; have hcall1 : Calls Try.prog g (fs ++ #[.int .i64 x] ++ lb) wr (fun e w' => e = .returned (.bool b) ∧ Below wr.heap.size wr w'):=hcall0; have hsz_ : ((Kd.int .i64)).sz = 1:=rfl; rw [hsz_] at hcell; have hx0:=zbH HB.out (show w.cell? (ad.add i.toNat) = some (.int .i64 x) by have hq:=hcell 0 _ rfl; rwa [Nat.mul_one,Nat.add_zero] at hq)
   try clear hK
   try clear l0_ g0_
   have HIF:=aM hif; have H2:=aM hlt; have HC:=aM hcall1; clear hstep hif hb HA hn hK' hcell hcall0 hcall1 hlen; have q0:=decide_eq_true p1; have q1:=decide_eq_true hlt; replace p1:=eq_true p1; replace hlt:=eq_true hlt; cases b with
   | true =>
    have ER:=aM (Option.some.inj ((if_pos rfl).symm.trans HIF.out)); clear HIF; go_wp2_with (go_at_fn g; (with_reducible refine calls_of_args (args':=fs ++ #[.int .i64 x] ++ lb) (by first | rfl | simp) ?_); (with_reducible refine HC.out.mono ?_); rintro e w' ⟨rfl,hb'⟩); go_ret; exact ⟨by rw [← ER.out]; rfl,below_hop HB.out hb'⟩
   | false =>
    have ER:=aM ((if_neg (show ¬ (false = true) by decide)).symm.trans HIF.out); clear HIF; go_wp2_with (go_at_fn g; (with_reducible refine calls_of_args (args':=fs ++ #[.int .i64 x] ++ lb) (by first | rfl | simp) ?_); (with_reducible refine HC.out.mono ?_); rintro e w' ⟨rfl,hb'⟩); go_roundg ((l.length : Int) - (i + 1)).toNat; case measure => have:=HK.out; have:=H2.out; omega
    case rel =>
     have hw : wrap64 (i + 1) = i + 1:=by
      have:=HK.out; have:=H2.out; have:=HL.out
      unfold wrap64; omega
     exact ⟨wrap64 (i + 1),rfl,⟨by rw [hw]; exact ER.out⟩,⟨by have:=HK.out; have:=H2.out; rw [hw]; omega⟩,⟨below_hop HB.out hb'⟩⟩
  ·
   have hr:=HA.out; rw [List.drop_eq_nil_of_le (by omega)] at hr; simp only [ixO,Option.some.injEq] at hr; subst hr; have q1:=decide_eq_false hlt; go_wp2; go_ret; exact ⟨rfl,HB.out⟩
set_option maxHeartbeats 8000000 in
set_option maxRecDepth 100000 in
theorem contains94 (p : Int → Option Bool) (g : Nat) (fs lb : Array Value) (eg : ∀ args w,(callFunc g args).run Try.prog w = .ok (.enter g args) w) (A : Option Addr) (c : Nat) (l : List Int) (r : Bool) (w : World)
  (hr0 : Kd.C (Kd.int .i64) w A l.length l) (hc0 : l.length ≤ c) (hp : PredK Try.prog g fs lb (Kd.int .i64) valOne p w) (h : anyO p l = some r) :
  Calls Try.prog 94 #[.slice A l.length c,.func (.func g) fs lb] w fun e w' => e = .returned (.bool r) ∧ Below w.heap.size w w':=by
 obtain ⟨i,hi,hd⟩:=ixO_any p l 0 r (by omega) h; have HC:=aM (index102 p g fs lb eg A c l i w hr0 hc0 hp hi); have HD:=aM hd; clear hr0 hc0 hp h hi hd; go_enter Try.func94,Try.ntmps94; go_wp2_with (go_at_call 102; (with_reducible refine HC.out.mono ?_); rintro e w' ⟨rfl,hb'⟩); go_ret; exact ⟨by rw [← HD.out]; rfl,hb'⟩
set_option maxHeartbeats 8000000 in
set_option maxRecDepth 100000 in
theorem not95 (p : Int → Option Bool) (g : Nat) (fs lb : Array Value) (eg : ∀ args w,(callFunc g args).run Try.prog w = .ok (.enter g args) w) (B : Nat) (w : World) (hB : B < w.heap.size) (hc : w.cell? ⟨B,0,none⟩ = some (.func (.func g) fs lb))
  (hp : PredK Try.prog g fs lb (Kd.int .i64) valOne p w) : PredK Try.prog 95 #[] #[.pointer (some ⟨B,0,none⟩)] (Kd.int .i64) valOne (fun x => (p x).map (! ·)) w:=by
 intro W x b cs hb hK hx; obtain ⟨c,hc0,rfl⟩:=Option.map_eq_some_iff.mp hx; have hcell : W.cell? ⟨B,0,none⟩ = some (.func (.func g) fs lb):=(hb.cell (p:=⟨B,0,none⟩) hB).trans hc; have hcall0:=hp W x c cs hb hK hc0; obtain rfl : cs = [.int .i64 x]:=hK; have hcall1 : Calls Try.prog g (fs ++ #[.int .i64 x] ++ lb) W (fun e w' => e = .returned (.bool c) ∧ Below W.heap.size W w'):=hcall0; have HC:=aM hcall1; clear hp hx hc0 hc hcall0 hcall1 hb hB
 try clear hK
 try clear l0_ g0_
 show Calls Try.prog 95 #[.int .i64 x,.pointer (some ⟨B,0,none⟩)] W _
 go_enter Try.func95,Try.ntmps95; go_wp2_with (go_at_fn g; (with_reducible refine calls_of_args (args':=fs ++ #[.int .i64 x] ++ lb) (by first | rfl | simp) ?_); (with_reducible refine HC.out.mono ?_); rintro e w' ⟨rfl,hb'⟩); go_ret; exact ⟨rfl,hb'⟩
set_option maxHeartbeats 8000000 in
set_option maxRecDepth 100000 in
theorem all78 (p : Int → Option Bool) (g : Nat) (fs lb : Array Value) (eg : ∀ args w,(callFunc g args).run Try.prog w = .ok (.enter g args) w) (A : Option Addr) (c : Nat) (l : List Int) (r : Bool) (w : World)
  (hr0 : Kd.C (Kd.int .i64) w A l.length l) (hc0 : l.length ≤ c) (hp : PredK Try.prog g fs lb (Kd.int .i64) valOne p w) (h : allO p l = some r) :
  Calls Try.prog 78 #[.slice A l.length c,.func (.func g) fs lb] w fun e w' => e = .returned (.bool r) ∧ Below w.heap.size w w':=by
 have hb1 : Below w.heap.size w (w.alloc (.cells #[.func (.func g) fs lb] 85)):=zaA (Below.refl _ _) _; have HC:=aM (contains94 (fun x => (p x).map (! ·)) 95 #[] #[.pointer (some ⟨w.heap.size,0,none⟩)] (enters_of Try.func95 (by kernel_rfl) rfl) A c l (!r) (w.alloc (.cells #[.func (.func g) fs lb] 85)) (Kd.C_below hr0 hb1) hc0 (not95 p g fs lb eg w.heap.size _ (by simp) (by simp) (hp.later hb1)) (anyO_all p l r h)); have HB:=aM hb1; clear hr0 hc0 hp h hb1; go_enter Try.func78,Try.ntmps78; go_wp2_with (go_at_call 94; (with_reducible refine HC.out.mono ?_); rintro e w' ⟨rfl,hb'⟩); go_ret; exact ⟨by first | rfl | (rw [Bool.not_not]; rfl),below_hop HB.out hb'⟩
def all_impl_fabric_node.f (l0 : List Int) (a1_0 : Int) (a1_1 : Int) : Option (Bool):=allO (fun x => impl_fabric_node.f a1_0 a1_1 x) l0
set_option maxHeartbeats 1000000 in
theorem all_impl_fabric_node.calls (A0 : Option Addr) (c0 : Nat) (l0 : List Int) (a1_0 : Int) (a1_1 : Int) (r : Bool) (w : World) (hr0 : Kd.C (Kd.int .i64) w A0 l0.length l0) (hc0 : l0.length ≤ c0) (h : all_impl_fabric_node.f l0 a1_0 a1_1 = some r) :
  Calls Try.prog 78 #[.slice A0 l0.length c0,.func (.func 72) #[.agg #[.int .i64 a1_0,.int .i64 a1_1]] #[]] w fun e w' => e = .returned (.bool r) ∧ Below w.heap.size w w':=by
 refine all78 _ 72 #[.agg #[.int .i64 a1_0,.int .i64 a1_1]] #[] (enters_of Try.func72 (by kernel_rfl) rfl) A0 c0 l0 r w hr0 hc0 ?_ h; intro W x b cs hb hK hx; obtain rfl:=hK; refine (impl_fabric_node.calls a1_0 a1_1 x b W  hx).mono ?_; rintro e w' ⟨rfl,hd⟩; exact ⟨rfl,hd⟩
end Go.Proofs.Ytdbokdodjekchaa.PFnRouteNoRound
