/- What the Go functions that this law reaches answer, function by function; conditions: those that each contract names. Made for this claim by a program of this session (wip/myprint) over the kit's print. -/
import Derived.Test.YtmakbieljmldfaaPFnRoutesx0
import Derived.Test.YtmakbieljmldfaaPFnRoutesx1
namespace Go.Proofs.Ytmakbieljmldfaa.PFnRoutes
open Go.RowKit Go.Proofs.YtmakbieljmldfaaW.PrintWords Go.Proofs.YtmakbieljmldfaaW.PrintLast Go.Proofs.YtmakbieljmldfaaW.PrintMore
attribute [local go_sem] max2_int min2_int max_two min_two max_three min_three max_four min_four   -- for this text's walks alone
set_option linter.unusedVariables false
set_option linter.unusedSimpArgs false

/-! ### impl_fabric_route: function 70 -/
def impl_fabric_route.sg (m : Int) : Int := mn 1 (mx (-1) m)
def impl_fabric_route.along : Nat → Int → Int → List Int → Int × List Int
  | 0, _, a, xs => (a, xs)
  | n + 1, st, a, xs => impl_fabric_route.along n st (wrap64 (a + st)) (xs ++ [wrap64 (a + st)])
def impl_fabric_route.clo (step many : Int) (p : Int × List Int) : Int × List Int := impl_fabric_route.along (wrap64 (many * impl_fabric_route.sg many)).toNat (wrap64 (step * impl_fabric_route.sg many)) p.1 p.2
def impl_fabric_route.f (a0_0 : Int) (a0_1 : Int) (a1 : Int) (a2 : Int) (a3 : Bool) : Option (List Int) := (impl_fabric_node.f a0_0 a0_1 a1).bind fun b1 => if b1 = true then ((impl_fabric_node.f a0_0 a0_1 a2).bind fun b2 => if b2 = true then (if a0_0 = 0 then none else if -1000 ≤ wrap64 (Int.tmod a2 a0_0 - Int.tmod a1 a0_0) ∧ wrap64 (Int.tmod a2 a0_0 - Int.tmod a1 a0_0) ≤ 1000 ∧ -1000 ≤ wrap64 (wrap64 (Int.tdiv a2 a0_0) - wrap64 (Int.tdiv a1 a0_0)) ∧ wrap64 (wrap64 (Int.tdiv a2 a0_0) - wrap64 (Int.tdiv a1 a0_0)) ≤ 1000 then some (if a3 = true then (impl_fabric_route.clo a0_0 (wrap64 (wrap64 (Int.tdiv a2 a0_0) - wrap64 (Int.tdiv a1 a0_0))) (impl_fabric_route.clo 1 (wrap64 (Int.tmod a2 a0_0 - Int.tmod a1 a0_0)) (a1, [a1]))).2 else (impl_fabric_route.clo 1 (wrap64 (Int.tmod a2 a0_0 - Int.tmod a1 a0_0)) (impl_fabric_route.clo a0_0 (wrap64 (wrap64 (Int.tdiv a2 a0_0) - wrap64 (Int.tdiv a1 a0_0))) (a1, [a1]))).2) else none) else some []) else some []
theorem impl_fabric_route.sg_bd {m : Int} (h : -1000 ≤ m ∧ m ≤ 1000) : 0 ≤ wrap64 (m * impl_fabric_route.sg m) ∧ wrap64 (m * impl_fabric_route.sg m) ≤ 1000 := by
  have e : impl_fabric_route.sg m = if m ≤ -1 then -1 else if m ≥ 1 then 1 else 0 := by
    unfold impl_fabric_route.sg mn mx
    (repeat' split) <;> omega
  rw [e]
  unfold wrap64
  (repeat' split) <;> omega
theorem impl_fabric_route.along_len : ∀ (n : Nat) (st a : Int) (xs : List Int), (impl_fabric_route.along n st a xs).2.length = xs.length + n
  | 0, _, _, _ => rfl
  | n + 1, st, a, xs => by
    unfold impl_fabric_route.along
    rw [impl_fabric_route.along_len n]
    simp
    omega
set_option maxHeartbeats 4000000 in
set_option maxRecDepth 100000 in
theorem impl_fabric_route.sign_drew (a0 : Int) (w : World) : Calls Try.prog 94 #[.int .i64 a0] w fun e w' => e = .returned (.int .i64 (impl_fabric_route.sg a0)) ∧ ∃ nd, w' = w.drewN nd := by
  obtain ⟨ji2, hji2⟩ : ∃ j_ : Int, (mx (-1) a0) = j_ := ⟨_, rfl⟩
  have hji2_ : (if (-1) < a0 then a0 else (-1)) = ji2 := hji2
  obtain ⟨ji3, hji3⟩ : ∃ j_ : Int, (mn 1 (ji2)) = j_ := ⟨_, rfl⟩
  have hji3_ : (if (ji2) < 1 then (ji2) else 1) = ji3 := hji3
  have e : impl_fabric_route.sg a0 = ji3 := by unfold impl_fabric_route.sg; rw [hji2, hji3]
  rw [e]
  clear e
  go_enter Try.func94, Try.ntmps94
  go_wp2
  go_ret
  exact ⟨by first | rfl | (simp only [← hji2, ← hji3]; rfl) | (simp [*]; done), by first | exact ⟨0, rfl⟩ | exact ⟨_, rfl⟩⟩
set_option maxHeartbeats 16000000 in
set_option maxRecDepth 100000 in
/-- The closure: it moves the variable a, and appends each place to out. -/
theorem impl_fabric_route.walk (step many a0 : Int) (xs0 : List Int) (Ba Bo Bf : Nat) (cf : Array Value) (v0 : Value) (w W : World) (hm : -1000 ≤ many ∧ many ≤ 1000) (hl : xs0.length ≤ 5000) (hao : Ba ≠ Bo) (hfa : Bf ≠ Ba) (hfo : Bf ≠ Bo)
    (hga : w.heap.size ≤ Ba) (hgo : w.heap.size ≤ Bo) (hba : W.heap[Ba]? = some (.cells #[.int .i64 a0] 3 (0, 0))) (hbo : W.heap[Bo]? = some (.cells #[v0] 30 (0, 0))) (hbf : W.heap[Bf]? = some (.cells cf 53 (0, 0)))
    (hR : Kd.R (Kd.int .i64) 3 W w.heap.size (fun k_ => k_ ≠ Ba) v0 xs0) (hB : Below w.heap.size w W) :
    Calls Try.prog 93 #[.int .i64 step, .int .i64 many, .pointer (some ⟨Ba, 0, none⟩), .pointer (some ⟨Bo, 0, none⟩)] W fun e w' => ∃ (u_ v_ : Value), e = .returned u_ ∧ w'.heap[Ba]? = some (.cells #[.int .i64 (impl_fabric_route.clo step many (a0, xs0)).1] 3 (0, 0)) ∧ w'.heap[Bo]? = some (.cells #[v_] 30 (0, 0)) ∧ w'.heap[Bf]? = some (.cells cf 53 (0, 0)) ∧ Kd.R (Kd.int .i64) 3 w' w.heap.size (fun k_ => k_ ≠ Ba) v_ (impl_fabric_route.clo step many (a0, xs0)).2 ∧ Below w.heap.size w w' := by
  obtain ⟨N, hN⟩ : ∃ N, N = wrap64 (many * impl_fabric_route.sg many) := ⟨_, rfl⟩
  obtain ⟨st, hst⟩ : ∃ st, st = wrap64 (step * impl_fabric_route.sg many) := ⟨_, rfl⟩
  have hNb := impl_fabric_route.sg_bd hm
  rw [← hN] at hNb
  have HN := Aside0.mk hN
  have HST := Aside0.mk hst
  have HNB := Aside0.mk hNb
  have HL := Aside0.mk hl
  have HAO := Aside0.mk hao
  have HFA := Aside0.mk hfa
  have HFO := Aside0.mk hfo
  have HGA := Aside0.mk hga
  have HGO := Aside0.mk hgo
  have HBA := Aside0.mk hba
  have HBO := Aside0.mk hbo
  have HBF := Aside0.mk hbf
  have HR := Aside0.mk hR
  have HB := Aside0.mk hB
  clear hN hst hNb hm hl hao hfa hfo hga hgo hba hbo hbf hR hB
  have hres : impl_fabric_route.clo step many (a0, xs0) = impl_fabric_route.along N.toNat st a0 xs0 := by unfold impl_fabric_route.clo; rw [← HN.out, ← HST.out]
  rw [hres]
  clear hres
  go_enter Try.func93, Try.ntmps93
  go_wp2_with (go_at_call 94; (refine (impl_fabric_route.sign_drew many _).mono ?_); rintro e w' ⟨rfl, ⟨nd, rfl⟩⟩)
  try rw [← HN.out]
  go_loopg [10] (N.toNat + 1) (fun kq v10 w' => ∃ (x10 a : Int) (xs : List Int) (v : Value), v10 = .int .i64 x10 ∧ Aside0 (kq + x10.toNat = N.toNat + 1 ∧ 0 ≤ x10 ∧ x10 ≤ N ∧ xs.length + (N.toNat - x10.toNat) ≤ 10000) ∧ Aside0 (impl_fabric_route.along (N.toNat - x10.toNat) st a xs = impl_fabric_route.along N.toNat st a0 xs0) ∧ Aside0 (w'.heap[Ba]? = some (.cells #[.int .i64 a] 3 (0, 0))) ∧ Aside0 (w'.heap[Bo]? = some (.cells #[v] 30 (0, 0))) ∧ Aside0 (w'.heap[Bf]? = some (.cells cf 53 (0, 0))) ∧ Aside0 (Kd.R (Kd.int .i64) 3 w' w.heap.size (fun k_ => k_ ≠ Ba) v xs) ∧ Aside0 (Below w.heap.size w w'))
  case atStart => exact ⟨0, a0, xs0, v0, (by first | rfl | (simp; done)), ⟨by have := HNB.out; have := HL.out; refine ⟨by simp, by omega, by omega, by omega⟩⟩, ⟨by simp⟩, ⟨by (with_reducible repeat (first | refine blk_drewN ?_ _ | refine blk_drew ?_ | refine blk_alloc ?_ _)); exact HBA.out⟩, ⟨by (with_reducible repeat (first | refine blk_drewN ?_ _ | refine blk_drew ?_ | refine blk_alloc ?_ _)); exact HBO.out⟩, ⟨by (with_reducible repeat (first | refine blk_drewN ?_ _ | refine blk_drew ?_ | refine blk_alloc ?_ _)); exact HBF.out⟩, ⟨by (with_reducible repeat (first | apply Kd.R_alloc | apply Kd.R_drewN | apply Kd.R_drew)); exact HR.out⟩, ⟨by repeat (first | (with_reducible first | exact HB.out | apply below_alloc | apply pw_below_drewN | apply below_drew1) | exact HB.out)⟩⟩
  case round =>
    clear HBA HBO HBF HR HB
    obtain ⟨x10, a, xs, v, rfl, HI, HA, HBA, HBO, HBF, HR, HB⟩ := hrel
    by_cases c3 : x10 < N
    · have c3b0 : decide (x10 < N) = true := decide_eq_true c3
      have HC3 := Aside0.mk c3
      obtain ⟨k1, rfl⟩ : ∃ k1, gk = k1 + 1 := ⟨gk - 1, by have := HI.out; omega⟩
      have hA : impl_fabric_route.along (N.toNat - (x10 + 1).toNat) st (wrap64 (a + st)) (xs ++ [wrap64 (a + st)]) = impl_fabric_route.along N.toNat st a0 xs0 := by
        have h1 := HA.out
        have h2 := HI.out
        obtain ⟨q, hq⟩ : ∃ q, N.toNat - x10.toNat = q + 1 := ⟨N.toNat - x10.toNat - 1, by omega⟩
        rw [hq] at h1
        rw [show N.toNat - (x10 + 1).toNat = q by omega]
        exact h1
      have HA2 := Aside0.mk hA
      have hw10 : wrap64 (x10 + 1) = x10 + 1 := by have h2 := HI.out; have h3 := HNB.out; unfold wrap64; omega
      have HW := Aside0.mk hw10
      obtain ⟨A1_, c1_, e1_⟩ := Kd.R_slice HR.out
      subst e1_
      have hxa : wr.cell? ⟨Ba, 0, none⟩ = some (.int .i64 a) := (blk_cell HBA.out 0).trans rfl
      have hfza := blk_frozen HBA.out 0
      clear hA hw10 HA c3
      go_wp2
      go_region_with (go_at_call 94; (refine (impl_fabric_route.sign_drew many _).mono ?_); rintro e w' ⟨rfl, ⟨nd2, rfl⟩⟩)
      all_goals (
        have hs1 : IntKind.i64.wrap (step * impl_fabric_route.sg many) = st := by rw [i64_w]; exact HST.out.symm
        have hs2 : IntKind.i64.wrap (a + st) = wrap64 (a + st) := i64_w _
        simp only [hs1, hs2]
        clear hs1 hs2 hxa hfza
        have HBA3 := Aside0.mk (show ((wr.drewN (1 + nd2)).setCell ⟨Ba, 0, none⟩ (.int .i64 (wrap64 (a + st)))).heap[Ba]? = some (.cells #[.int .i64 (wrap64 (a + st))] 3 (0, 0)) from blk_put (cs := #[.int .i64 a]) (blk_drewN HBA.out _) 0 _ rfl)
        have HBO3 := Aside0.mk (show ((wr.drewN (1 + nd2)).setCell ⟨Ba, 0, none⟩ (.int .i64 (wrap64 (a + st)))).heap[Bo]? = some (.cells #[.slice A1_ xs.length c1_] 30 (0, 0)) from (Below.heap_setCell _ ⟨Ba, 0, none⟩ _ Bo (fun e_ => HAO.out e_.symm)).trans (blk_drewN HBO.out _))
        have HBF3 := Aside0.mk (show ((wr.drewN (1 + nd2)).setCell ⟨Ba, 0, none⟩ (.int .i64 (wrap64 (a + st)))).heap[Bf]? = some (.cells cf 53 (0, 0)) from (Below.heap_setCell _ ⟨Ba, 0, none⟩ _ Bf HFA.out).trans (blk_drewN HBF.out _))
        have HR3 := Aside0.mk (show Kd.R (Kd.int .i64) 3 ((wr.drewN (1 + nd2)).setCell ⟨Ba, 0, none⟩ (.int .i64 (wrap64 (a + st)))) w.heap.size (fun k_ => k_ ≠ Ba) (.slice A1_ xs.length c1_) xs from Kd.R_far (p := ⟨Ba, 0, none⟩) (Kd.R_drewN HR.out _) (fun _ hk => hk) _)
        have HB3 := Aside0.mk (show Below w.heap.size w ((wr.drewN (1 + nd2)).setCell ⟨Ba, 0, none⟩ (.int .i64 (wrap64 (a + st)))) from below_set (pw_below_drewN HB.out _) HGA.out)
        clear HBA HBO HBF HR HB
        generalize (wr.drewN (1 + nd2)).setCell ⟨Ba, 0, none⟩ (.int .i64 (wrap64 (a + st))) = w3 at HBA3 HBO3 HBF3 HR3 HB3 ⊢
        have hxa3 : w3.cell? ⟨Ba, 0, none⟩ = some (.int .i64 (wrap64 (a + st))) := (blk_cell HBA3.out 0).trans rfl
        have hxo3 : w3.cell? ⟨Bo, 0, none⟩ = some (.slice A1_ xs.length c1_) := (blk_cell HBO3.out 0).trans rfl
        go_wp2_with (first
          | ((with_reducible refine gate_builtin (b := .append) (xs := #[.tmp 18, .tmp 20]) rfl ?_); at_builtin; refine Kd.R_append (Kd.int .i64) (w0 := w) w.heap.size rfl (.tmp 18) (.tmp 20) 30 3 (.int .i64 0) 8 rfl Try.underlying30 info3 rfl (by decide) (by omega) (.slice A1_ xs.length c1_) xs (wrap64 (a + st)) [.int .i64 (wrap64 (a + st))] (fun k_ => k_ ≠ Ba) (fun _ => False) rfl rfl ?aP (fun _ hk => hk.elim) ?aF ?aO ?aB ?aS ?aL ?_; (case aP => exact rfl); (case aB => exact HB3.out); (case aF => exact (fun k_ hk_ e_ => by have := blk_lt HBA3.out; omega)); (case aO => exact HR3.out); (case aS => exact below_size HB3.out); (case aL => have := HI.out; omega); intro v2 w4 ho hb hg hat; obtain ⟨A2_, c2_, e2_⟩ := Kd.R_slice ho; subst e2_; have HBA4 := Aside0.mk ((hg.block Ba (blk_lt HBA3.out) (fun e_ => HR3.out.1 Ba e_.symm rfl)).trans HBA3.out); have HBO4 := Aside0.mk ((hg.block Bo (blk_lt HBO3.out) (Kd.R_ne HR3.out HBO3.out (by decide))).trans HBO3.out); have HBF4 := Aside0.mk ((hg.block Bf (blk_lt HBF3.out) (Kd.R_ne HR3.out HBF3.out (by decide))).trans HBF3.out); have HR4 := Aside0.mk ho; have HB4 := Aside0.mk hb; have hxo4 : w4.cell? ⟨Bo, 0, none⟩ = some (.slice A1_ xs.length c1_) := (blk_cell HBO4.out 0).trans rfl; have hfo4 := blk_frozen HBO4.out 0; clear hg hat ho hb hxa3 hxo3 HBA3 HBO3 HBF3 HR3 HB3)
          | ((with_reducible refine gate_store (t := 30) (p := 3) rfl ?_); refine store_event (t := 30) (p := 3) (v := ?vo3) (w1 := (w4.setCell ⟨Bo, 0, none⟩ (.slice A2_ (xs ++ [wrap64 (a + st)]).length c2_))) ?hg ?ho ?hn ?hr ?_; (case ho => rfl); (case hg => rfl); (case hn => rfl); (case hr => first | (go_simp; done) | (go_simp; rfl)); intro w5 hw; have HBA5 := Aside0.mk (show w5.heap[Ba]? = some (.cells #[.int .i64 (wrap64 (a + st))] 3 (0, 0)) from (by rw [hw]; exact (Below.heap_setCell _ ⟨Bo, 0, none⟩ _ Ba HAO.out).trans HBA4.out)); have HBO5 := Aside0.mk (show w5.heap[Bo]? = some (.cells #[.slice A2_ (xs ++ [wrap64 (a + st)]).length c2_] 30 (0, 0)) from (by rw [hw]; exact blk_put (cs := #[.slice A1_ xs.length c1_]) HBO4.out 0 _ rfl)); have HBF5 := Aside0.mk (show w5.heap[Bf]? = some (.cells cf 53 (0, 0)) from (by rw [hw]; exact (Below.heap_setCell _ ⟨Bo, 0, none⟩ _ Bf HFO.out).trans HBF4.out)); have HR5 := Aside0.mk (show Kd.R (Kd.int .i64) 3 w5 w.heap.size (fun k_ => k_ ≠ Ba) (.slice A2_ (xs ++ [wrap64 (a + st)]).length c2_) (xs ++ [wrap64 (a + st)]) from (by rw [hw]; exact Kd.R_set HR4.out HBO4.out (by decide) 0 _)); have HB5 := Aside0.mk (show Below w.heap.size w w5 from (by rw [hw]; exact below_set HB4.out HGO.out)); clear hw hxo4 hfo4 HBA4 HBO4 HBF4 HR4 HB4))
        go_roundg k1
        case measure => omega
        case rel => exact ⟨x10 + 1, wrap64 (a + st), xs ++ [wrap64 (a + st)], .slice A2_ (xs ++ [wrap64 (a + st)]).length c2_, (by rw [HW.out]), ⟨by have h2 := HI.out; have h3 := HC3.out; refine ⟨by omega, by omega, by omega, by rw [List.length_append, List.length_singleton]; omega⟩⟩, HA2, ⟨by (with_reducible repeat (first | refine blk_drewN ?_ _ | refine blk_drew ?_ | refine blk_alloc ?_ _)); exact HBA5.out⟩, ⟨by (with_reducible repeat (first | refine blk_drewN ?_ _ | refine blk_drew ?_ | refine blk_alloc ?_ _)); exact HBO5.out⟩, ⟨by (with_reducible repeat (first | refine blk_drewN ?_ _ | refine blk_drew ?_ | refine blk_alloc ?_ _)); exact HBF5.out⟩, ⟨by (with_reducible repeat (first | apply Kd.R_alloc | apply Kd.R_drewN | apply Kd.R_drew)); exact HR5.out⟩, ⟨by repeat (first | (with_reducible first | exact HB5.out | apply below_alloc | apply pw_below_drewN | apply below_drew1) | exact HB5.out)⟩⟩)
    · have c3b0 : decide (x10 < N) = false := decide_eq_false c3
      have h2 := HI.out
      have hA := HA.out
      rw [show N.toNat - x10.toNat = 0 by omega] at hA
      have HAE := Aside0.mk hA.symm
      clear hA h2 c3
      obtain ⟨A1_, c1_, e1_⟩ := Kd.R_slice HR.out
      subst e1_
      go_wp2
      go_end0
      rw [HAE.out]
      exact ⟨_, _, rfl, by (with_reducible repeat (first | refine blk_drewN ?_ _ | refine blk_drew ?_ | refine blk_alloc ?_ _)); exact HBA.out, by (with_reducible repeat (first | refine blk_drewN ?_ _ | refine blk_drew ?_ | refine blk_alloc ?_ _)); exact HBO.out, by (with_reducible repeat (first | refine blk_drewN ?_ _ | refine blk_drew ?_ | refine blk_alloc ?_ _)); exact HBF.out, by (with_reducible repeat (first | apply Kd.R_alloc | apply Kd.R_drewN | apply Kd.R_drew)); exact HR.out, by repeat (first | (with_reducible first | exact HB.out | apply below_alloc | apply pw_below_drewN | apply below_drew1) | exact HB.out)⟩
theorem impl_fabric_route.clo_len {step many : Int} (hm : -1000 ≤ many ∧ many ≤ 1000) (p : Int × List Int) : (impl_fabric_route.clo step many p).2.length ≤ p.2.length + 1000 := by
  unfold impl_fabric_route.clo
  rw [impl_fabric_route.along_len]
  have := impl_fabric_route.sg_bd hm
  omega
theorem impl_fabric_route.hop {w W W' : World} (h : Below w.heap.size w W) (h' : Below W.heap.size W W') : Below w.heap.size w W' := h.trans (h'.mono h.size)
set_option maxHeartbeats 16000000 in
set_option maxRecDepth 100000 in
theorem impl_fabric_route.calls (a0_0 : Int) (a0_1 : Int) (a1 : Int) (a2 : Int) (a3 : Bool) (r : List Int) (w : World) (h : impl_fabric_route.f a0_0 a0_1 a1 a2 a3 = some r) :
    Calls Try.prog 70 #[.agg #[.int .i64 a0_0, .int .i64 a0_1], .int .i64 a1, .int .i64 a2, .bool a3] w fun e w' => ∃ v0_ : Value, e = .returned (v0_) ∧ Kd.R (Kd.int .i64) 3 w' w.heap.size (fun _ => True) v0_ r ∧ Below w.heap.size w w' := by
  have hu_ := Try.underlying53
  obtain ⟨b1, A1, H⟩ := Option.bind_eq_some_iff.mp h
  have hb1 : Below w.heap.size w ((w.alloc (.cells #[.int .i64 a0_0, .int .i64 a0_1] 53)).alloc (.cells #[.int .i64 a1] 3)) := below_alloc (below_alloc (Below.refl _ _) _) _
  have HB := Aside0.mk hb1
  have HF0 := Aside0.mk (show ((w.alloc (.cells #[.int .i64 a0_0, .int .i64 a0_1] 53)).alloc (.cells #[.int .i64 a1] 3)).heap[w.heap.size]? = some (.cells #[.int .i64 a0_0, .int .i64 a0_1] 53 (0, 0)) from blk_alloc (blk_new w _) _)
  have HA0 := Aside0.mk (show ((w.alloc (.cells #[.int .i64 a0_0, .int .i64 a0_1] 53)).alloc (.cells #[.int .i64 a1] 3)).heap[w.heap.size + 1]? = some (.cells #[.int .i64 a1] 3 (0, 0)) from by simpa using blk_new (w.alloc (.cells #[.int .i64 a0_0, .int .i64 a0_1] 53)) (.cells #[.int .i64 a1] 3))
  have A1 := Aside0.mk A1
  clear hb1 h
  cases b1 with
  | false =>
    obtain rfl : [] = r := by simpa using H
    clear H
    go_enter Try.func70, Try.ntmps70
    go_wp2_with (go_at_call 82; (with_reducible refine (impl_fabric_node.calls a0_0 a0_1 a1 false _ A1.out).mono ?_); rintro e w1 ⟨rfl, hb'⟩; have HB1 := Aside0.mk hb'; clear hb')
    go_ret
    exact ⟨_, rfl, Kd.R_nil _ _ _ _ _, impl_fabric_route.hop HB.out HB1.out⟩
  | true =>
    obtain ⟨b2, A2, H⟩ := Option.bind_eq_some_iff.mp H
    have A2 := Aside0.mk A2
    cases b2 with
    | false =>
      obtain rfl : [] = r := by simpa using H
      clear H
      go_enter Try.func70, Try.ntmps70
      go_wp2_with (first
        | (go_at_call 82; (with_reducible refine (impl_fabric_node.calls a0_0 a0_1 a1 true _ A1.out).mono ?_); rintro e w1 ⟨rfl, hb'⟩; have HB1 := Aside0.mk hb'; clear hb'; have ka0 : w1.cell? ⟨w.heap.size, 0, none⟩ = some (.int .i64 a0_0) := (blk_cell (blk_below HF0.out HB1.out) 0).trans rfl; have ka1 : w1.cell? ⟨w.heap.size, 1, none⟩ = some (.int .i64 a0_1) := (blk_cell (blk_below HF0.out HB1.out) 1).trans rfl)
        | (go_at_call 82; (with_reducible refine (impl_fabric_node.calls a0_0 a0_1 a2 false _ A2.out).mono ?_); rintro e w2 ⟨rfl, hb'⟩; have HB2 := Aside0.mk (impl_fabric_route.hop HB1.out hb'); clear hb'))
      go_ret
      exact ⟨_, rfl, Kd.R_nil _ _ _ _ _, impl_fabric_route.hop HB.out HB2.out⟩
    | true =>
      replace H : (if a0_0 = 0 then none else if -1000 ≤ wrap64 (Int.tmod a2 a0_0 - Int.tmod a1 a0_0) ∧ wrap64 (Int.tmod a2 a0_0 - Int.tmod a1 a0_0) ≤ 1000 ∧ -1000 ≤ wrap64 (wrap64 (Int.tdiv a2 a0_0) - wrap64 (Int.tdiv a1 a0_0)) ∧ wrap64 (wrap64 (Int.tdiv a2 a0_0) - wrap64 (Int.tdiv a1 a0_0)) ≤ 1000 then some (if a3 = true then (impl_fabric_route.clo a0_0 (wrap64 (wrap64 (Int.tdiv a2 a0_0) - wrap64 (Int.tdiv a1 a0_0))) (impl_fabric_route.clo 1 (wrap64 (Int.tmod a2 a0_0 - Int.tmod a1 a0_0)) (a1, [a1]))).2 else (impl_fabric_route.clo 1 (wrap64 (Int.tmod a2 a0_0 - Int.tmod a1 a0_0)) (impl_fabric_route.clo a0_0 (wrap64 (wrap64 (Int.tdiv a2 a0_0) - wrap64 (Int.tdiv a1 a0_0))) (a1, [a1]))).2) else none) = some r := H
      by_cases c4 : a0_0 = 0
      · rw [if_pos c4] at H; exact absurd H (by simp)
      rw [if_neg c4] at H
      have c4b0 : (a0_0 == 0) = false := beq_eq_false_iff_ne.mpr c4
      have c4b1 : (a0_0 != 0) = true := bne_iff_ne.mpr c4
      obtain ⟨dx, hdx⟩ : ∃ dx, dx = wrap64 (Int.tmod a2 a0_0 - Int.tmod a1 a0_0) := ⟨_, rfl⟩
      obtain ⟨dy, hdy⟩ : ∃ dy, dy = wrap64 (wrap64 (Int.tdiv a2 a0_0) - wrap64 (Int.tdiv a1 a0_0)) := ⟨_, rfl⟩
      rw [← hdx, ← hdy] at H
      by_cases cD : -1000 ≤ dx ∧ dx ≤ 1000 ∧ -1000 ≤ dy ∧ dy ≤ 1000
      · rw [if_pos cD] at H
        have HD := Aside0.mk cD
        have HDX := Aside0.mk hdx
        have HDY := Aside0.mk hdy
        have HE := Aside0.mk (Option.some.inj H)
        clear H cD hdx hdy
        go_enter Try.func70, Try.ntmps70
        go_wp2_with (first
          | (go_at_call 82; (with_reducible refine (impl_fabric_node.calls a0_0 a0_1 a1 true _ A1.out).mono ?_); rintro e w1 ⟨rfl, hb'⟩; have HB1 := Aside0.mk hb'; clear hb'; have ka0 : w1.cell? ⟨w.heap.size, 0, none⟩ = some (.int .i64 a0_0) := (blk_cell (blk_below HF0.out HB1.out) 0).trans rfl; have ka1 : w1.cell? ⟨w.heap.size, 1, none⟩ = some (.int .i64 a0_1) := (blk_cell (blk_below HF0.out HB1.out) 1).trans rfl)
          | (go_at_call 82; (with_reducible refine (impl_fabric_node.calls a0_0 a0_1 a2 true _ A2.out).mono ?_); rintro e w2 ⟨rfl, hb'⟩; have HB2 := Aside0.mk (impl_fabric_route.hop HB1.out hb'); clear hb' ka0 ka1; have kb2 : w2.cell? ⟨w.heap.size + 1, 0, none⟩ = some (.int .i64 a1) := (blk_cell (blk_below HA0.out HB2.out) 0).trans rfl))
        have HS := Aside0.mk (show w.heap.size + 1 + 1 ≤ w2.heap.size from by simpa using HB2.out.size)
        have HDx : -1000 ≤ dx ∧ dx ≤ 1000 := ⟨HD.out.1, HD.out.2.1⟩
        have HDy : -1000 ≤ dy ∧ dy ≤ 1000 := HD.out.2.2
        have HBA3 := Aside0.mk (show ((w2.alloc (.cells #[.int .i64 a1] 3)).alloc (.cells #[.slice (some ⟨w2.heap.size, 0, none⟩) 1 1] 30)).heap[w.heap.size + 1]? = some (.cells #[.int .i64 a1] 3 (0, 0)) from blk_alloc (blk_alloc (blk_below HA0.out HB2.out) _) _)
        have HBF3 := Aside0.mk (show ((w2.alloc (.cells #[.int .i64 a1] 3)).alloc (.cells #[.slice (some ⟨w2.heap.size, 0, none⟩) 1 1] 30)).heap[w.heap.size]? = some (.cells #[.int .i64 a0_0, .int .i64 a0_1] 53 (0, 0)) from blk_alloc (blk_alloc (blk_below HF0.out HB2.out) _) _)
        have HBO3 := Aside0.mk (show ((w2.alloc (.cells #[.int .i64 a1] 3)).alloc (.cells #[.slice (some ⟨w2.heap.size, 0, none⟩) 1 1] 30)).heap[w2.heap.size + 1]? = some (.cells #[.slice (some ⟨w2.heap.size, 0, none⟩) 1 1] 30 (0, 0)) from by simpa using blk_new (w2.alloc (.cells #[.int .i64 a1] 3)) (.cells #[.slice (some ⟨w2.heap.size, 0, none⟩) 1 1] 30))
        have HR3 := Aside0.mk (show Kd.R (Kd.int .i64) 3 ((w2.alloc (.cells #[.int .i64 a1] 3)).alloc (.cells #[.slice (some ⟨w2.heap.size, 0, none⟩) 1 1] 30)) w.heap.size (fun k_ => k_ ≠ w.heap.size + 1) (.slice (some ⟨w2.heap.size, 0, none⟩) 1 1) [a1] from Kd.R_alloc (Kd.R_of_own (own_lit w2 w.heap.size 3 .i64 [a1] (by have := HS.out; omega) (by simp)) (fun k_ hk_ e_ => by have h1_ : w2.heap.size = k_ := (by simpa [Value.ownBlock] using hk_); have h2_ := HS.out; omega)) _)
        have HB3 := Aside0.mk (show Below w.heap.size w ((w2.alloc (.cells #[.int .i64 a1] 3)).alloc (.cells #[.slice (some ⟨w2.heap.size, 0, none⟩) 1 1] 30)) from below_alloc (below_alloc (impl_fabric_route.hop HB.out HB2.out) _) _)
        clear kb2
        generalize (w2.alloc (.cells #[.int .i64 a1] 3)).alloc (.cells #[.slice (some ⟨w2.heap.size, 0, none⟩) 1 1] 30) = w3 at HBA3 HBF3 HBO3 HR3 HB3 ⊢
        have kf3 : w3.cell? ⟨w.heap.size, 0, none⟩ = some (.int .i64 a0_0) := (blk_cell HBF3.out 0).trans rfl
        have ka3 : w3.cell? ⟨w.heap.size + 1, 0, none⟩ = some (.int .i64 a1) := (blk_cell HBA3.out 0).trans rfl
        go_quiet (fail)
        generalize hw4 : w3.drewN _ = w4
        have HBA4 := Aside0.mk (show w4.heap[w.heap.size + 1]? = some (.cells #[.int .i64 a1] 3 (0, 0)) from hw4 ▸ blk_drewN HBA3.out _)
        have HBF4 := Aside0.mk (show w4.heap[w.heap.size]? = some (.cells #[.int .i64 a0_0, .int .i64 a0_1] 53 (0, 0)) from hw4 ▸ blk_drewN HBF3.out _)
        have HBO4 := Aside0.mk (show w4.heap[w2.heap.size + 1]? = some (.cells #[.slice (some ⟨w2.heap.size, 0, none⟩) 1 1] 30 (0, 0)) from hw4 ▸ blk_drewN HBO3.out _)
        have HR4 := Aside0.mk (show Kd.R (Kd.int .i64) 3 w4 w.heap.size (fun k_ => k_ ≠ w.heap.size + 1) (.slice (some ⟨w2.heap.size, 0, none⟩) 1 1) [a1] from hw4 ▸ Kd.R_drewN HR3.out _)
        have HB4 := Aside0.mk (show Below w.heap.size w w4 from hw4 ▸ pw_below_drewN HB3.out _)
        clear hw4 kf3 ka3 HBA3 HBF3 HBO3 HR3 HB3
        have kf4 : w4.cell? ⟨w.heap.size, 0, none⟩ = some (.int .i64 a0_0) := (blk_cell HBF4.out 0).trans rfl
        try simp only [i64_w]
        simp only [← HDX.out, ← HDY.out]
        cases a3 with
        | true =>
          have hE := HE.out
          rw [if_pos rfl] at hE
          subst hE
          go_wp2_with (first
            | (refine (impl_fabric_route.walk 1 dx a1 [a1] (w.heap.size + 1) (w2.heap.size + 1) w.heap.size #[.int .i64 a0_0, .int .i64 a0_1] (.slice (some ⟨w2.heap.size, 0, none⟩) 1 1) w _ HDx (by simp) (by have := HS.out; omega) (by omega) (by have := HS.out; omega) (by omega) (by have := HS.out; omega) HBA4.out HBO4.out HBF4.out HR4.out HB4.out).mono ?_; rintro e w5 ⟨u_, v_, rfl, hba, hbo, hbf, hr, hb⟩; have HBA5 := Aside0.mk hba; have HBO5 := Aside0.mk hbo; have HBF5 := Aside0.mk hbf; have HR5 := Aside0.mk hr; have HB5 := Aside0.mk hb; have kf5 : w5.cell? ⟨w.heap.size, 0, none⟩ = some (.int .i64 a0_0) := (blk_cell HBF5.out 0).trans rfl; clear hba hbo hbf hr hb kf4 HBA4 HBO4 HBF4 HR4 HB4)
            | (refine (impl_fabric_route.walk a0_0 dy (impl_fabric_route.clo 1 dx (a1, [a1])).1 (impl_fabric_route.clo 1 dx (a1, [a1])).2 (w.heap.size + 1) (w2.heap.size + 1) w.heap.size #[.int .i64 a0_0, .int .i64 a0_1] v_ w _ HDy (by have := impl_fabric_route.clo_len (step := 1) HDx (a1, [a1]); simp at this; omega) (by have := HS.out; omega) (by omega) (by have := HS.out; omega) (by omega) (by have := HS.out; omega) (by (with_reducible repeat (first | refine blk_drewN ?_ _ | refine blk_drew ?_)); exact HBA5.out) (by (with_reducible repeat (first | refine blk_drewN ?_ _ | refine blk_drew ?_)); exact HBO5.out) (by (with_reducible repeat (first | refine blk_drewN ?_ _ | refine blk_drew ?_)); exact HBF5.out) (by (with_reducible repeat (first | apply Kd.R_drewN | apply Kd.R_drew)); exact HR5.out) (by repeat (first | (with_reducible first | exact HB5.out | apply pw_below_drewN | apply below_drew1) | exact HB5.out))).mono ?_; rintro e w6 ⟨u2_, v2_, rfl, hba, hbo, hbf, hr, hb⟩; obtain ⟨A6_, c6_, e6_⟩ := Kd.R_slice hr; subst e6_; have HR6 := Aside0.mk hr; have HB6 := Aside0.mk hb; have ko6 : w6.cell? ⟨w2.heap.size + 1, 0, none⟩ = some (.slice A6_ _ c6_) := (blk_cell hbo 0).trans rfl; clear hba hbo hbf hr hb kf5))
          go_ret
          exact ⟨_, rfl, by (with_reducible repeat (first | apply Kd.R_alloc | apply Kd.R_drewN | apply Kd.R_drew)); exact Kd.R_mono HR6.out (fun _ _ => trivial), by repeat (first | (with_reducible first | exact HB6.out | apply below_alloc | apply pw_below_drewN | apply below_drew1) | exact HB6.out)⟩
        | false =>
          have hE := HE.out
          rw [if_neg (by decide)] at hE
          subst hE
          go_wp2_with (first
            | (refine (impl_fabric_route.walk a0_0 dy a1 [a1] (w.heap.size + 1) (w2.heap.size + 1) w.heap.size #[.int .i64 a0_0, .int .i64 a0_1] (.slice (some ⟨w2.heap.size, 0, none⟩) 1 1) w _ HDy (by simp) (by have := HS.out; omega) (by omega) (by have := HS.out; omega) (by omega) (by have := HS.out; omega) HBA4.out HBO4.out HBF4.out HR4.out HB4.out).mono ?_; rintro e w5 ⟨u_, v_, rfl, hba, hbo, hbf, hr, hb⟩; have HBA5 := Aside0.mk hba; have HBO5 := Aside0.mk hbo; have HBF5 := Aside0.mk hbf; have HR5 := Aside0.mk hr; have HB5 := Aside0.mk hb; have kf5 : w5.cell? ⟨w.heap.size, 0, none⟩ = some (.int .i64 a0_0) := (blk_cell HBF5.out 0).trans rfl; clear hba hbo hbf hr hb kf4 HBA4 HBO4 HBF4 HR4 HB4)
            | (refine (impl_fabric_route.walk 1 dx (impl_fabric_route.clo a0_0 dy (a1, [a1])).1 (impl_fabric_route.clo a0_0 dy (a1, [a1])).2 (w.heap.size + 1) (w2.heap.size + 1) w.heap.size #[.int .i64 a0_0, .int .i64 a0_1] v_ w _ HDx (by have := impl_fabric_route.clo_len (step := a0_0) HDy (a1, [a1]); simp at this; omega) (by have := HS.out; omega) (by omega) (by have := HS.out; omega) (by omega) (by have := HS.out; omega) (by (with_reducible repeat (first | refine blk_drewN ?_ _ | refine blk_drew ?_)); exact HBA5.out) (by (with_reducible repeat (first | refine blk_drewN ?_ _ | refine blk_drew ?_)); exact HBO5.out) (by (with_reducible repeat (first | refine blk_drewN ?_ _ | refine blk_drew ?_)); exact HBF5.out) (by (with_reducible repeat (first | apply Kd.R_drewN | apply Kd.R_drew)); exact HR5.out) (by repeat (first | (with_reducible first | exact HB5.out | apply pw_below_drewN | apply below_drew1) | exact HB5.out))).mono ?_; rintro e w6 ⟨u2_, v2_, rfl, hba, hbo, hbf, hr, hb⟩; obtain ⟨A6_, c6_, e6_⟩ := Kd.R_slice hr; subst e6_; have HR6 := Aside0.mk hr; have HB6 := Aside0.mk hb; have ko6 : w6.cell? ⟨w2.heap.size + 1, 0, none⟩ = some (.slice A6_ _ c6_) := (blk_cell hbo 0).trans rfl; clear hba hbo hbf hr hb kf5))
          go_ret
          exact ⟨_, rfl, by (with_reducible repeat (first | apply Kd.R_alloc | apply Kd.R_drewN | apply Kd.R_drew)); exact Kd.R_mono HR6.out (fun _ _ => trivial), by repeat (first | (with_reducible first | exact HB6.out | apply below_alloc | apply pw_below_drewN | apply below_drew1) | exact HB6.out)⟩
      · rw [if_neg cD] at H
        exact absurd H (by simp)

/-! ### impl_RouteXY: function 29 -/
def impl_RouteXY.f (a0 : Int) (a1 : Int) (a2 : Int) (a3 : Int) : Option (List Int) := (impl_fabric_route.f a0 a1 a2 a3 true).bind fun t131 => (some t131)
set_option maxHeartbeats 8000000 in
set_option maxRecDepth 100000 in
theorem impl_RouteXY.calls (a0 : Int) (a1 : Int) (a2 : Int) (a3 : Int) (r : List Int) (w : World) (h : impl_RouteXY.f a0 a1 a2 a3 = some r) :
    Calls Try.prog 29 #[.int .i64 a0, .int .i64 a1, .int .i64 a2, .int .i64 a3] w fun e w' => ∃ v0_ : Value, e = .returned (v0_) ∧ Kd.R (Kd.int .i64) 3 w' w.heap.size (fun _ => True) v0_ r ∧ Below w.heap.size w w' := by
  have hu53 := Try.underlying53
  have HB := Aside0.mk (Below.refl w.heap.size w)
  have H : ((impl_fabric_route.f a0 a1 a2 a3 true).bind fun t131 => (some t131)) = some r := h
  clear h
  replace H := Option.bind_eq_some_iff.mp H
  obtain ⟨t131, A50, H⟩ := H
  replace H : (some t131) = some r := H
  have A5 := Aside0.mk A50
  clear A50
  obtain rfl := Option.some.inj H
  go_enter Try.func29, Try.ntmps29
  go_wp2_with (first | ((with_reducible refine gate_callee (f := 70) rfl ?_); refine goesL_ (some 14) rfl rfl Try.func70 (by kernel_rfl) rfl #[.agg #[.int .i64 a0, .int .i64 a1], .int .i64 a2, .int .i64 a3, .bool true] rfl (by (try simp only [List.map_toArray, List.map_cons, List.map_nil]); first | done | rfl | (simp only [List.length_drop, List.length_take]; rfl)) ?_; (with_reducible refine (impl_fabric_route.calls a0 a1 a2 a3 true t131 _ A5.out).mono ?_); rintro e w6 ⟨v132, rfl, ho0, hb⟩; refine ⟨_, rfl, ?_⟩; have n0_ := Aside0.mk (Kd.R_lower ho0 (below_size (by repeat (first | (with_reducible first | exact HB.out | apply below_alloc | apply pw_below_drewN | apply below_drew1) | exact HB.out)))); have n1_ := Aside0.mk (below_step (by repeat (first | (with_reducible first | exact HB.out | apply below_alloc | apply pw_below_drewN | apply below_drew1) | exact HB.out)) hb); clear HB; have HO133 := n0_; have HB := n1_; clear n0_ n1_; (try clear hb); (try clear hb2); (try clear hk); (try clear hi); (try clear ho0)))
  go_ret
  exact ⟨_, by first | rfl | (simp [errW_none, errW_some] <;> rfl) | (simp [*, errW_none, errW_some] <;> rfl), by (with_reducible repeat (first | apply Kd.R_alloc | apply Kd.R_drewN | apply Kd.R_drew)); exact HO133.out, by repeat (first | (with_reducible first | exact HB.out | apply below_alloc | apply pw_below_drewN | apply below_drew1) | exact HB.out)⟩

/-! ### spec_RouteYX: function 33 -/
def spec_RouteYX.f (k : Nat) (a0 : Int) (a1 : Int) (a2 : Int) (a3 : Int) : Option (List Int) := (spec_l16Nodes.f a0 a1 a2 a3).bind fun t134 => (if t134 = true then ((spec_l16Route.f k a0 a2 a3 false).bind fun t135 => (some t135)) else (some (([] : List Int))))
theorem spec_RouteYX.mono : ∀ a0 a1 a2 a3 k, LeO (spec_RouteYX.f k a0 a1 a2 a3) (spec_RouteYX.f (k + 1) a0 a1 a2 a3) := by
  intro a0 a1 a2 a3 k
  unfold spec_RouteYX.f
  repeat' first
      | (with_reducible exact spec_l16Route.mono _ _ _ _ _)
      | (with_reducible exact LeO.refl _)
      | (with_reducible exact LeO.none _)
      | (with_reducible refine LeO.ite ?_ ?_)
      | (with_reducible refine LeO.bind ?_ (fun _ => ?_))
      | exact spec_l16Route.mono _ _ _ _ _
      | exact LeO.none _
      | refine LeO.ite ?_ ?_
      | refine LeO.bind ?_ (fun _ => ?_)
set_option maxHeartbeats 8000000 in
set_option maxRecDepth 100000 in
theorem spec_RouteYX.calls (k : Nat) (a0 : Int) (a1 : Int) (a2 : Int) (a3 : Int) (r : List Int) (w : World) (h : spec_RouteYX.f k a0 a1 a2 a3 = some r) :
    Calls Try.prog 33 #[.int .i64 a0, .int .i64 a1, .int .i64 a2, .int .i64 a3] w fun e w' => ∃ v0_ : Value, e = .returned (v0_) ∧ Kd.R (Kd.int .i64) 3 w' w.heap.size (fun _ => True) v0_ r ∧ Below w.heap.size w w' := by
  have HB := Aside0.mk (Below.refl w.heap.size w)
  have H : ((spec_l16Nodes.f a0 a1 a2 a3).bind fun t134 => (if t134 = true then ((spec_l16Route.f k a0 a2 a3 false).bind fun t135 => (some t135)) else (some (([] : List Int))))) = some r := h
  clear h
  replace H := Option.bind_eq_some_iff.mp H
  obtain ⟨t134, A50, H⟩ := H
  replace H : (if t134 = true then ((spec_l16Route.f k a0 a2 a3 false).bind fun t135 => (some t135)) else (some (([] : List Int)))) = some r := H
  have A5 := Aside0.mk A50
  clear A50
  by_cases c6 : t134 = true
  · subst c6
    have H1 : ((spec_l16Route.f k a0 a2 a3 false).bind fun t135 => (some t135)) = some r := by rw [if_pos rfl] at H; exact H
    clear H
    have H := H1
    clear H1
    replace H := Option.bind_eq_some_iff.mp H
    obtain ⟨t135, A70, H⟩ := H
    replace H : (some t135) = some r := H
    have A7 := Aside0.mk A70
    clear A70
    obtain rfl := Option.some.inj H
    go_enter Try.func33, Try.ntmps33
    go_wp2_with (first | ((with_reducible refine gate_callee (f := 53) rfl ?_); refine goesL_ (some 13) rfl rfl Try.func53 (by kernel_rfl) rfl #[.int .i64 a0, .int .i64 a1, .int .i64 a2, .int .i64 a3] rfl (by (try simp only [List.map_toArray, List.map_cons, List.map_nil]); first | done | rfl | (simp only [List.length_drop, List.length_take]; rfl)) ?_; (with_reducible refine (spec_l16Nodes.calls a0 a1 a2 a3 true _ A5.out).mono ?_); rintro e w' ⟨rfl, ⟨nd, rfl⟩⟩; refine ⟨_, rfl, ?_⟩) | ((with_reducible refine gate_callee (f := 69) rfl ?_); refine goesL_ (some 19) rfl rfl Try.func69 (by kernel_rfl) rfl #[.int .i64 a0, .int .i64 a2, .int .i64 a3, .bool false] rfl (by (try simp only [List.map_toArray, List.map_cons, List.map_nil]); first | done | rfl | (simp only [List.length_drop, List.length_take]; rfl)) ?_; (with_reducible refine (spec_l16Route.calls k a0 a2 a3 false t135 _ A7.out).mono ?_); rintro e w8 ⟨v136, rfl, ho0, hb⟩; refine ⟨_, rfl, ?_⟩; have n0_ := Aside0.mk (Kd.R_lower ho0 (below_size (by repeat (first | (with_reducible first | exact HB.out | apply below_alloc | apply pw_below_drewN | apply below_drew1) | exact HB.out)))); have n1_ := Aside0.mk (below_step (by repeat (first | (with_reducible first | exact HB.out | apply below_alloc | apply pw_below_drewN | apply below_drew1) | exact HB.out)) hb); clear HB; have HO137 := n0_; have HB := n1_; clear n0_ n1_; (try clear hb); (try clear hb2); (try clear hk); (try clear hi); (try clear ho0)))
    go_ret
    exact ⟨_, by first | rfl | (simp [errW_none, errW_some] <;> rfl) | (simp [*, errW_none, errW_some] <;> rfl), by (with_reducible repeat (first | apply Kd.R_alloc | apply Kd.R_drewN | apply Kd.R_drew)); exact HO137.out, by repeat (first | (with_reducible first | exact HB.out | apply below_alloc | apply pw_below_drewN | apply below_drew1) | exact HB.out)⟩
  · replace c6 := Bool.eq_false_iff.mpr c6
    subst c6
    have H1 : (some (([] : List Int))) = some r := by rw [if_neg (show ¬ (false = true) by decide)] at H; exact H
    clear H
    have H := H1
    clear H1
    obtain ⟨y138, hy138⟩ : ∃ y_ : List Int, y_ = (([] : List Int)) := ⟨_, rfl⟩
    replace H : (some y138) = some r := by first | (rw [hy138]; with_reducible exact H) | (have H2_ := (Option.bind_some _ _).symm.trans H; rw [hy138]; with_reducible exact H2_) | (have H2_ := (Option.bind_some _ _).symm.trans H; with_reducible exact H2_) | with_reducible exact H | (rw [hy138]; exact H) | exact H
    have Ny138 := Aside0.mk hy138
    clear hy138
    obtain rfl := Option.some.inj H
    go_enter Try.func33, Try.ntmps33
    go_wp2_with (first | ((with_reducible refine gate_callee (f := 53) rfl ?_); refine goesL_ (some 13) rfl rfl Try.func53 (by kernel_rfl) rfl #[.int .i64 a0, .int .i64 a1, .int .i64 a2, .int .i64 a3] rfl (by (try simp only [List.map_toArray, List.map_cons, List.map_nil]); first | done | rfl | (simp only [List.length_drop, List.length_take]; rfl)) ?_; (with_reducible refine (spec_l16Nodes.calls a0 a1 a2 a3 false _ A5.out).mono ?_); rintro e w' ⟨rfl, ⟨nd, rfl⟩⟩; refine ⟨_, rfl, ?_⟩) | ((with_reducible refine gate_dst (N := 15) rfl ?_); refine Kd.R_lit (Kd.int .i64) _ 3 ?hg (N := 15) ?hd (xs := ([] : List Int)) (inner := []) (ok := fun _ => True) (okp := fun _ => True) ?hr ?hp (fun _ hk => hk) trivial (Below.refl _ _) (Nat.le_refl _) (by simp) ?_; (case hd => rfl); (case hg => rfl); (case hr => first | (go_simp; done) | (go_simp; rfl)); (case hp => exact (Reps.none _ _)); intro v139 w9 ho10 hb hg_ hnew_; clear hg_ hnew_; (first | rw [← Ny138.out] at ho10 | (simp only [Int.reduceToNat] at ho10; rw [← Ny138.out] at ho10)); have n0_ := Aside0.mk (Kd.R_lower ho10 (below_size (by repeat (first | (with_reducible first | exact HB.out | apply below_alloc | apply pw_below_drewN | apply below_drew1) | exact HB.out)))); have n1_ := Aside0.mk (below_step (by repeat (first | (with_reducible first | exact HB.out | apply below_alloc | apply pw_below_drewN | apply below_drew1) | exact HB.out)) hb); clear HB; have HO140 := n0_; have HB := n1_; clear n0_ n1_; clear hb ho10))
    go_ret
    exact ⟨_, by first | rfl | (simp [errW_none, errW_some] <;> rfl) | (simp [*, errW_none, errW_some] <;> rfl), by (with_reducible repeat (first | apply Kd.R_alloc | apply Kd.R_drewN | apply Kd.R_drew)); exact HO140.out, by repeat (first | (with_reducible first | exact HB.out | apply below_alloc | apply pw_below_drewN | apply below_drew1) | exact HB.out)⟩

/-! ### impl_RouteYX: function 34 -/
def impl_RouteYX.f (a0 : Int) (a1 : Int) (a2 : Int) (a3 : Int) : Option (List Int) := (impl_fabric_route.f a0 a1 a2 a3 false).bind fun t141 => (some t141)
set_option maxHeartbeats 8000000 in
set_option maxRecDepth 100000 in
theorem impl_RouteYX.calls (a0 : Int) (a1 : Int) (a2 : Int) (a3 : Int) (r : List Int) (w : World) (h : impl_RouteYX.f a0 a1 a2 a3 = some r) :
    Calls Try.prog 34 #[.int .i64 a0, .int .i64 a1, .int .i64 a2, .int .i64 a3] w fun e w' => ∃ v0_ : Value, e = .returned (v0_) ∧ Kd.R (Kd.int .i64) 3 w' w.heap.size (fun _ => True) v0_ r ∧ Below w.heap.size w w' := by
  have hu53 := Try.underlying53
  have HB := Aside0.mk (Below.refl w.heap.size w)
  have H : ((impl_fabric_route.f a0 a1 a2 a3 false).bind fun t141 => (some t141)) = some r := h
  clear h
  replace H := Option.bind_eq_some_iff.mp H
  obtain ⟨t141, A50, H⟩ := H
  replace H : (some t141) = some r := H
  have A5 := Aside0.mk A50
  clear A50
  obtain rfl := Option.some.inj H
  go_enter Try.func34, Try.ntmps34
  go_wp2_with (first | ((with_reducible refine gate_callee (f := 70) rfl ?_); refine goesL_ (some 14) rfl rfl Try.func70 (by kernel_rfl) rfl #[.agg #[.int .i64 a0, .int .i64 a1], .int .i64 a2, .int .i64 a3, .bool false] rfl (by (try simp only [List.map_toArray, List.map_cons, List.map_nil]); first | done | rfl | (simp only [List.length_drop, List.length_take]; rfl)) ?_; (with_reducible refine (impl_fabric_route.calls a0 a1 a2 a3 false t141 _ A5.out).mono ?_); rintro e w6 ⟨v142, rfl, ho0, hb⟩; refine ⟨_, rfl, ?_⟩; have n0_ := Aside0.mk (Kd.R_lower ho0 (below_size (by repeat (first | (with_reducible first | exact HB.out | apply below_alloc | apply pw_below_drewN | apply below_drew1) | exact HB.out)))); have n1_ := Aside0.mk (below_step (by repeat (first | (with_reducible first | exact HB.out | apply below_alloc | apply pw_below_drewN | apply below_drew1) | exact HB.out)) hb); clear HB; have HO143 := n0_; have HB := n1_; clear n0_ n1_; (try clear hb); (try clear hb2); (try clear hk); (try clear hi); (try clear ho0)))
  go_ret
  exact ⟨_, by first | rfl | (simp [errW_none, errW_some] <;> rfl) | (simp [*, errW_none, errW_some] <;> rfl), by (with_reducible repeat (first | apply Kd.R_alloc | apply Kd.R_drewN | apply Kd.R_drew)); exact HO143.out, by repeat (first | (with_reducible first | exact HB.out | apply below_alloc | apply pw_below_drewN | apply below_drew1) | exact HB.out)⟩

/-! ### impl_fabric_wire: function 55 -/
theorem impl_fabric_wire.hop {w W W' : World} (h : Below w.heap.size w W) (h' : Below W.heap.size W W') : Below w.heap.size w W' := h.trans (h'.mono h.size)
def impl_fabric_wire.s0 (i : Int) : Int := if i = 0 then 1 else if i = 1 then -1 else 0
def impl_fabric_wire.s1 (i : Int) : Int := if i = 2 then 1 else if i = 3 then -1 else 0
def impl_fabric_wire.l0 : Nat → Int → Int → Int → Int → Option Int
  | 0, _, _, _, _ => none
  | k + 1, a, d0, d1, i => if i < 4 then (if d0 = impl_fabric_wire.s0 i ∧ d1 = impl_fabric_wire.s1 i then some (wrap64 (wrap64 (4 * a) + i)) else impl_fabric_wire.l0 k a d0 d1 (i + 1)) else some (-1)
def impl_fabric_wire.f (a0_0 : Int) (a0_1 : Int) (a1 : Int) (a2 : Int) : Option (Int) := (impl_fabric_node.f a0_0 a0_1 a1).bind fun b1 => if b1 = true then ((impl_fabric_node.f a0_0 a0_1 a2).bind fun b2 => if b2 = true then (if a0_0 = 0 then none else impl_fabric_wire.l0 5 a1 (wrap64 (Int.tmod a2 a0_0 - Int.tmod a1 a0_0)) (wrap64 (wrap64 (Int.tdiv a2 a0_0) - wrap64 (Int.tdiv a1 a0_0))) 0) else some (-1)) else some (-1)
theorem impl_fabric_wire.ix0 (W : World) : Sem.run Try.prog (Instr.index 82 (.agg #[.int .i64 1, .int .i64 0, .int .i64 (-1), .int .i64 0, .int .i64 0, .int .i64 1, .int .i64 0, .int .i64 (-1)]) (.int .i64 0)) W = Result.ok (.agg #[.int .i64 1, .int .i64 0]) W := by kernel_rfl
theorem impl_fabric_wire.ix1 (W : World) : Sem.run Try.prog (Instr.index 82 (.agg #[.int .i64 1, .int .i64 0, .int .i64 (-1), .int .i64 0, .int .i64 0, .int .i64 1, .int .i64 0, .int .i64 (-1)]) (.int .i64 1)) W = Result.ok (.agg #[.int .i64 (-1), .int .i64 0]) W := by kernel_rfl
theorem impl_fabric_wire.ix2 (W : World) : Sem.run Try.prog (Instr.index 82 (.agg #[.int .i64 1, .int .i64 0, .int .i64 (-1), .int .i64 0, .int .i64 0, .int .i64 1, .int .i64 0, .int .i64 (-1)]) (.int .i64 2)) W = Result.ok (.agg #[.int .i64 0, .int .i64 1]) W := by kernel_rfl
theorem impl_fabric_wire.ix3 (W : World) : Sem.run Try.prog (Instr.index 82 (.agg #[.int .i64 1, .int .i64 0, .int .i64 (-1), .int .i64 0, .int .i64 0, .int .i64 1, .int .i64 0, .int .i64 (-1)]) (.int .i64 3)) W = Result.ok (.agg #[.int .i64 0, .int .i64 (-1)]) W := by kernel_rfl
set_option maxHeartbeats 8000000 in
set_option maxRecDepth 100000 in
theorem impl_fabric_wire.calls (a0_0 : Int) (a0_1 : Int) (a1 : Int) (a2 : Int) (r : Int) (w : World) (h : impl_fabric_wire.f a0_0 a0_1 a1 a2 = some r) :
    Calls Try.prog 55 #[.agg #[.int .i64 a0_0, .int .i64 a0_1], .int .i64 a1, .int .i64 a2] w fun e w' => e = .returned (.int .i64 r) ∧ Below w.heap.size w w' := by
  have hu_ := Try.underlying53
  have hu81 := Try.underlying81
  have hu82 := Try.underlying82
  obtain ⟨b1, A1, H⟩ := Option.bind_eq_some_iff.mp h
  have hb1 : Below w.heap.size w (w.alloc (.cells #[.int .i64 a0_0, .int .i64 a0_1] 53)) := below_alloc (Below.refl _ _) _
  have HB := Aside0.mk hb1
  have A1 := Aside0.mk A1
  clear hb1 h
  cases b1 with
  | false =>
    obtain rfl : -1 = r := by simpa using H
    clear H
    go_enter Try.func55, Try.ntmps55
    go_wp2_with (go_at_call 82; (with_reducible refine (impl_fabric_node.calls a0_0 a0_1 a1 false _ A1.out).mono ?_); rintro e w1 ⟨rfl, hb'⟩; have HB1 := Aside0.mk hb'; clear hb')
    go_ret
    exact ⟨rfl, impl_fabric_wire.hop HB.out HB1.out⟩
  | true =>
    obtain ⟨b2, A2, H⟩ := Option.bind_eq_some_iff.mp (show ((impl_fabric_node.f a0_0 a0_1 a2).bind fun b2 => if b2 = true then (if a0_0 = 0 then none else impl_fabric_wire.l0 5 a1 (wrap64 (Int.tmod a2 a0_0 - Int.tmod a1 a0_0)) (wrap64 (wrap64 (Int.tdiv a2 a0_0) - wrap64 (Int.tdiv a1 a0_0))) 0) else some (-1)) = some r from H)
    have A2 := Aside0.mk A2
    cases b2 with
    | false =>
      obtain rfl : -1 = r := by simpa using H
      clear H
      go_enter Try.func55, Try.ntmps55
      go_wp2_with (first
        | (go_at_call 82; (with_reducible refine (impl_fabric_node.calls a0_0 a0_1 a1 true _ A1.out).mono ?_); rintro e w1 ⟨rfl, hb'⟩; have HB1 := Aside0.mk hb'; clear hb'; have ka0 : w1.cell? ⟨w.heap.size, 0, none⟩ = some (.int .i64 a0_0) := (HB1.out.cell (p := ⟨w.heap.size, 0, none⟩) (by simp)).trans (by simp); have ka1 : w1.cell? ⟨w.heap.size, 1, none⟩ = some (.int .i64 a0_1) := (HB1.out.cell (p := ⟨w.heap.size, 1, none⟩) (by simp)).trans (by simp))
        | (go_at_call 82; (with_reducible refine (impl_fabric_node.calls a0_0 a0_1 a2 false _ A2.out).mono ?_); rintro e w2 ⟨rfl, hb'⟩; have HB2 := Aside0.mk (impl_fabric_wire.hop HB1.out hb'); clear hb'; have kb0 : w2.cell? ⟨w.heap.size, 0, none⟩ = some (.int .i64 a0_0) := (HB2.out.cell (p := ⟨w.heap.size, 0, none⟩) (by simp)).trans (by simp); have kb1 : w2.cell? ⟨w.heap.size, 1, none⟩ = some (.int .i64 a0_1) := (HB2.out.cell (p := ⟨w.heap.size, 1, none⟩) (by simp)).trans (by simp)))
      go_ret
      exact ⟨rfl, impl_fabric_wire.hop HB.out HB2.out⟩
    | true =>
      replace H : (if a0_0 = 0 then none else impl_fabric_wire.l0 5 a1 (wrap64 (Int.tmod a2 a0_0 - Int.tmod a1 a0_0)) (wrap64 (wrap64 (Int.tdiv a2 a0_0) - wrap64 (Int.tdiv a1 a0_0))) 0) = some r := H
      by_cases c4 : a0_0 = 0
      · rw [if_pos c4] at H; exact absurd H (by simp)
      rw [if_neg c4] at H
      have c4b0 : (a0_0 == 0) = false := beq_eq_false_iff_ne.mpr c4
      have c4b1 : (a0_0 != 0) = true := bne_iff_ne.mpr c4
      have HL := Aside0.mk H
      clear H
      go_enter Try.func55, Try.ntmps55
      go_wp2_with (first
        | (go_at_call 82; (with_reducible refine (impl_fabric_node.calls a0_0 a0_1 a1 true _ A1.out).mono ?_); rintro e w1 ⟨rfl, hb'⟩; have HB1 := Aside0.mk hb'; clear hb'; have ka0 : w1.cell? ⟨w.heap.size, 0, none⟩ = some (.int .i64 a0_0) := (HB1.out.cell (p := ⟨w.heap.size, 0, none⟩) (by simp)).trans (by simp); have ka1 : w1.cell? ⟨w.heap.size, 1, none⟩ = some (.int .i64 a0_1) := (HB1.out.cell (p := ⟨w.heap.size, 1, none⟩) (by simp)).trans (by simp))
        | (go_at_call 82; (with_reducible refine (impl_fabric_node.calls a0_0 a0_1 a2 true _ A2.out).mono ?_); rintro e w2 ⟨rfl, hb'⟩; have HB2 := Aside0.mk (impl_fabric_wire.hop HB1.out hb'); clear hb'; have kb0 : w2.cell? ⟨w.heap.size, 0, none⟩ = some (.int .i64 a0_0) := (HB2.out.cell (p := ⟨w.heap.size, 0, none⟩) (by simp)).trans (by simp); have kb1 : w2.cell? ⟨w.heap.size, 1, none⟩ = some (.int .i64 a0_1) := (HB2.out.cell (p := ⟨w.heap.size, 1, none⟩) (by simp)).trans (by simp)))
      go_quiet (fail)
      generalize hw3 : w2.drewN _ = w3
      have HB3 := Aside0.mk (show Below _ _ w3 from hw3 ▸ pw_below_drewN HB2.out _)
      clear hw3
      go_wp2
      have HBa := Aside0.mk (impl_fabric_wire.hop HB.out HB3.out)
      clear HB HB1 HB2 HB3 A1 A2 ka0 ka1 kb0 kb1
      go_loopg [46] 5 (fun kq v46 w' => ∃ (x46 : Int), v46 = .int .i64 x46 ∧ Aside0 (impl_fabric_wire.l0 kq a1 (wrap64 (Int.tmod a2 a0_0 - Int.tmod a1 a0_0)) (wrap64 (wrap64 (Int.tdiv a2 a0_0) - wrap64 (Int.tdiv a1 a0_0))) x46 = some r) ∧ Aside0 (kq ≤ 5) ∧ Aside0 (x46 = 0 ∨ x46 = 1 ∨ x46 = 2 ∨ x46 = 3 ∨ x46 = 4) ∧ Aside0 (Below w.heap.size w w'))
      case atStart => exact ⟨0, rfl, HL, ⟨Nat.le_refl _⟩, ⟨Or.inl rfl⟩, ⟨below_alloc HBa.out _⟩⟩
      case round =>
        clear HL HBa
        obtain ⟨x46, rfl, HA, HK1, HX, HB⟩ := hrel
        cases gk with
        | zero => exact absurd HA.out (by simp [impl_fabric_wire.l0])
        | succ k1 =>
          have H := HA.out
          clear HA
          simp only [impl_fabric_wire.l0] at H
          rcases HX.out with rfl | rfl | rfl | rfl | rfl
          · clear HX
            rw [if_pos (by decide), show impl_fabric_wire.s0 0 = (1 : Int) from by decide, show impl_fabric_wire.s1 0 = (0 : Int) from by decide] at H
            by_cases e0 : (wrap64 (Int.tmod a2 a0_0 - Int.tmod a1 a0_0)) = (1 : Int)
            · have q0 : ((wrap64 (Int.tmod a2 a0_0 - Int.tmod a1 a0_0)) == (1 : Int)) = true := beq_iff_eq.mpr e0
              by_cases e1 : (wrap64 (wrap64 (Int.tdiv a2 a0_0) - wrap64 (Int.tdiv a1 a0_0))) = (0 : Int)
              · have q1 : ((wrap64 (wrap64 (Int.tdiv a2 a0_0) - wrap64 (Int.tdiv a1 a0_0))) == (0 : Int)) = true := beq_iff_eq.mpr e1
                rw [if_pos ⟨e0, e1⟩] at H
                obtain rfl := Option.some.inj H
                clear H e0 e1
                go_wp2
                rw [impl_fabric_wire.ix0]
                go_wp2
                go_ret
                exact ⟨by first | rfl | (simp; done), by repeat (first | exact HB.out | apply below_alloc | apply pw_below_drewN | apply below_drew1)⟩
              · have q1 : ((wrap64 (wrap64 (Int.tdiv a2 a0_0) - wrap64 (Int.tdiv a1 a0_0))) == (0 : Int)) = false := beq_eq_false_iff_ne.mpr e1
                rw [if_neg (fun h => e1 h.2)] at H
                have H' := Aside0.mk H
                clear H e0 e1
                go_wp2
                rw [impl_fabric_wire.ix0]
                go_wp2
                go_roundg k1
                case measure => have := HK1.out; omega
                case rel => exact ⟨1, (by first | rfl | (simp; done) | decide), H', ⟨by have := HK1.out; omega⟩, ⟨by simp⟩, ⟨by repeat (first | exact HB.out | apply below_alloc | apply pw_below_drewN | apply below_drew1)⟩⟩
            · have q0 : ((wrap64 (Int.tmod a2 a0_0 - Int.tmod a1 a0_0)) == (1 : Int)) = false := beq_eq_false_iff_ne.mpr e0
              rw [if_neg (fun h => e0 h.1)] at H
              have H' := Aside0.mk H
              clear H e0
              go_wp2
              rw [impl_fabric_wire.ix0]
              go_wp2
              go_roundg k1
              case measure => have := HK1.out; omega
              case rel => exact ⟨1, (by first | rfl | (simp; done) | decide), H', ⟨by have := HK1.out; omega⟩, ⟨by simp⟩, ⟨by repeat (first | exact HB.out | apply below_alloc | apply pw_below_drewN | apply below_drew1)⟩⟩
          · clear HX
            rw [if_pos (by decide), show impl_fabric_wire.s0 1 = (-1 : Int) from by decide, show impl_fabric_wire.s1 1 = (0 : Int) from by decide] at H
            by_cases e0 : (wrap64 (Int.tmod a2 a0_0 - Int.tmod a1 a0_0)) = (-1 : Int)
            · have q0 : ((wrap64 (Int.tmod a2 a0_0 - Int.tmod a1 a0_0)) == (-1 : Int)) = true := beq_iff_eq.mpr e0
              by_cases e1 : (wrap64 (wrap64 (Int.tdiv a2 a0_0) - wrap64 (Int.tdiv a1 a0_0))) = (0 : Int)
              · have q1 : ((wrap64 (wrap64 (Int.tdiv a2 a0_0) - wrap64 (Int.tdiv a1 a0_0))) == (0 : Int)) = true := beq_iff_eq.mpr e1
                rw [if_pos ⟨e0, e1⟩] at H
                obtain rfl := Option.some.inj H
                clear H e0 e1
                go_wp2
                rw [impl_fabric_wire.ix1]
                go_wp2
                go_ret
                exact ⟨by first | rfl | (simp; done), by repeat (first | exact HB.out | apply below_alloc | apply pw_below_drewN | apply below_drew1)⟩
              · have q1 : ((wrap64 (wrap64 (Int.tdiv a2 a0_0) - wrap64 (Int.tdiv a1 a0_0))) == (0 : Int)) = false := beq_eq_false_iff_ne.mpr e1
                rw [if_neg (fun h => e1 h.2)] at H
                have H' := Aside0.mk H
                clear H e0 e1
                go_wp2
                rw [impl_fabric_wire.ix1]
                go_wp2
                go_roundg k1
                case measure => have := HK1.out; omega
                case rel => exact ⟨2, (by first | rfl | (simp; done) | decide), H', ⟨by have := HK1.out; omega⟩, ⟨by simp⟩, ⟨by repeat (first | exact HB.out | apply below_alloc | apply pw_below_drewN | apply below_drew1)⟩⟩
            · have q0 : ((wrap64 (Int.tmod a2 a0_0 - Int.tmod a1 a0_0)) == (-1 : Int)) = false := beq_eq_false_iff_ne.mpr e0
              rw [if_neg (fun h => e0 h.1)] at H
              have H' := Aside0.mk H
              clear H e0
              go_wp2
              rw [impl_fabric_wire.ix1]
              go_wp2
              go_roundg k1
              case measure => have := HK1.out; omega
              case rel => exact ⟨2, (by first | rfl | (simp; done) | decide), H', ⟨by have := HK1.out; omega⟩, ⟨by simp⟩, ⟨by repeat (first | exact HB.out | apply below_alloc | apply pw_below_drewN | apply below_drew1)⟩⟩
          · clear HX
            rw [if_pos (by decide), show impl_fabric_wire.s0 2 = (0 : Int) from by decide, show impl_fabric_wire.s1 2 = (1 : Int) from by decide] at H
            by_cases e0 : (wrap64 (Int.tmod a2 a0_0 - Int.tmod a1 a0_0)) = (0 : Int)
            · have q0 : ((wrap64 (Int.tmod a2 a0_0 - Int.tmod a1 a0_0)) == (0 : Int)) = true := beq_iff_eq.mpr e0
              by_cases e1 : (wrap64 (wrap64 (Int.tdiv a2 a0_0) - wrap64 (Int.tdiv a1 a0_0))) = (1 : Int)
              · have q1 : ((wrap64 (wrap64 (Int.tdiv a2 a0_0) - wrap64 (Int.tdiv a1 a0_0))) == (1 : Int)) = true := beq_iff_eq.mpr e1
                rw [if_pos ⟨e0, e1⟩] at H
                obtain rfl := Option.some.inj H
                clear H e0 e1
                go_wp2
                rw [impl_fabric_wire.ix2]
                go_wp2
                go_ret
                exact ⟨by first | rfl | (simp; done), by repeat (first | exact HB.out | apply below_alloc | apply pw_below_drewN | apply below_drew1)⟩
              · have q1 : ((wrap64 (wrap64 (Int.tdiv a2 a0_0) - wrap64 (Int.tdiv a1 a0_0))) == (1 : Int)) = false := beq_eq_false_iff_ne.mpr e1
                rw [if_neg (fun h => e1 h.2)] at H
                have H' := Aside0.mk H
                clear H e0 e1
                go_wp2
                rw [impl_fabric_wire.ix2]
                go_wp2
                go_roundg k1
                case measure => have := HK1.out; omega
                case rel => exact ⟨3, (by first | rfl | (simp; done) | decide), H', ⟨by have := HK1.out; omega⟩, ⟨by simp⟩, ⟨by repeat (first | exact HB.out | apply below_alloc | apply pw_below_drewN | apply below_drew1)⟩⟩
            · have q0 : ((wrap64 (Int.tmod a2 a0_0 - Int.tmod a1 a0_0)) == (0 : Int)) = false := beq_eq_false_iff_ne.mpr e0
              rw [if_neg (fun h => e0 h.1)] at H
              have H' := Aside0.mk H
              clear H e0
              go_wp2
              rw [impl_fabric_wire.ix2]
              go_wp2
              go_roundg k1
              case measure => have := HK1.out; omega
              case rel => exact ⟨3, (by first | rfl | (simp; done) | decide), H', ⟨by have := HK1.out; omega⟩, ⟨by simp⟩, ⟨by repeat (first | exact HB.out | apply below_alloc | apply pw_below_drewN | apply below_drew1)⟩⟩
          · clear HX
            rw [if_pos (by decide), show impl_fabric_wire.s0 3 = (0 : Int) from by decide, show impl_fabric_wire.s1 3 = (-1 : Int) from by decide] at H
            by_cases e0 : (wrap64 (Int.tmod a2 a0_0 - Int.tmod a1 a0_0)) = (0 : Int)
            · have q0 : ((wrap64 (Int.tmod a2 a0_0 - Int.tmod a1 a0_0)) == (0 : Int)) = true := beq_iff_eq.mpr e0
              by_cases e1 : (wrap64 (wrap64 (Int.tdiv a2 a0_0) - wrap64 (Int.tdiv a1 a0_0))) = (-1 : Int)
              · have q1 : ((wrap64 (wrap64 (Int.tdiv a2 a0_0) - wrap64 (Int.tdiv a1 a0_0))) == (-1 : Int)) = true := beq_iff_eq.mpr e1
                rw [if_pos ⟨e0, e1⟩] at H
                obtain rfl := Option.some.inj H
                clear H e0 e1
                go_wp2
                rw [impl_fabric_wire.ix3]
                go_wp2
                go_ret
                exact ⟨by first | rfl | (simp; done), by repeat (first | exact HB.out | apply below_alloc | apply pw_below_drewN | apply below_drew1)⟩
              · have q1 : ((wrap64 (wrap64 (Int.tdiv a2 a0_0) - wrap64 (Int.tdiv a1 a0_0))) == (-1 : Int)) = false := beq_eq_false_iff_ne.mpr e1
                rw [if_neg (fun h => e1 h.2)] at H
                have H' := Aside0.mk H
                clear H e0 e1
                go_wp2
                rw [impl_fabric_wire.ix3]
                go_wp2
                go_roundg k1
                case measure => have := HK1.out; omega
                case rel => exact ⟨4, (by first | rfl | (simp; done) | decide), H', ⟨by have := HK1.out; omega⟩, ⟨by simp⟩, ⟨by repeat (first | exact HB.out | apply below_alloc | apply pw_below_drewN | apply below_drew1)⟩⟩
            · have q0 : ((wrap64 (Int.tmod a2 a0_0 - Int.tmod a1 a0_0)) == (0 : Int)) = false := beq_eq_false_iff_ne.mpr e0
              rw [if_neg (fun h => e0 h.1)] at H
              have H' := Aside0.mk H
              clear H e0
              go_wp2
              rw [impl_fabric_wire.ix3]
              go_wp2
              go_roundg k1
              case measure => have := HK1.out; omega
              case rel => exact ⟨4, (by first | rfl | (simp; done) | decide), H', ⟨by have := HK1.out; omega⟩, ⟨by simp⟩, ⟨by repeat (first | exact HB.out | apply below_alloc | apply pw_below_drewN | apply below_drew1)⟩⟩
          · clear HX
            rw [if_neg (by decide)] at H
            obtain rfl := Option.some.inj H
            go_wp2
            go_ret
            exact ⟨by first | rfl | (simp; done), by repeat (first | exact HB.out | apply below_alloc | apply pw_below_drewN | apply below_drew1)⟩

-- function 118 (slices_IndexFunc_int_int): by its function value, where it is called

-- function 110 (slices_ContainsFunc_int_int): by its function value, where it is called

-- function 111 (impl_all_int_1): by its function value, where it is called

-- function 96 (impl_all_int): by its function value, where it is called

/-! ### predicates handed to slices.IndexFunc, ContainsFunc, all -/
def ixO {α : Type} (p : α → Option Bool) : List α → Int → Option Int
  | [], _ => some (-1)
  | x :: xs, i => (p x).bind fun b => if b = true then some i else ixO p xs (i + 1)
def anyO {α : Type} (p : α → Option Bool) : List α → Option Bool
  | [] => some false
  | x :: xs => (p x).bind fun b => if b = true then some true else anyO p xs
def allO {α : Type} (p : α → Option Bool) : List α → Option Bool
  | [] => some true
  | x :: xs => (p x).bind fun b => if b = true then allO p xs else some false
theorem ixO_step {α : Type} (p : α → Option Bool) (z : α) (l : List α) (i : Int) (hi : i.toNat < l.length) (h0 : 0 ≤ i) : ixO p (l.drop i.toNat) i = (p (l.getD i.toNat z)).bind fun b => if b = true then some i else ixO p (l.drop (i + 1).toNat) (i + 1) := by
  rw [List.drop_eq_getElem_cons hi, show (i + 1).toNat = i.toNat + 1 by omega, List.getD_eq_getElem?_getD, List.getElem?_eq_getElem hi]
  rfl
theorem ixO_any {α : Type} (p : α → Option Bool) : ∀ (l : List α) (i : Int) (b : Bool), 0 ≤ i → anyO p l = some b → ∃ r, ixO p l i = some r ∧ decide (0 ≤ r) = b
  | [], i, b, _, h => ⟨-1, rfl, by simp [anyO] at h; rw [h]; rfl⟩
  | x :: xs, i, b, hi, h => by
    obtain ⟨c, hc, hh⟩ := Option.bind_eq_some_iff.mp h
    cases c with
    | true => exact ⟨i, by simp [ixO, hc], by simp at hh; rw [hh]; simpa using hi⟩
    | false =>
      obtain ⟨r, hr, hd⟩ := ixO_any p xs (i + 1) b (by omega) (by simpa using hh)
      exact ⟨r, by simp [ixO, hc, hr], hd⟩
theorem anyO_all {α : Type} (p : α → Option Bool) : ∀ (l : List α) (b : Bool), allO p l = some b → anyO (fun x => (p x).map (! ·)) l = some (!b)
  | [], b, h => by simp [allO] at h; rw [h]; rfl
  | x :: xs, b, h => by
    obtain ⟨c, hc, hh⟩ := Option.bind_eq_some_iff.mp h
    cases c with
    | true => simpa [anyO, hc] using anyO_all p xs b (by simpa using hh)
    | false => simp at hh; simp [anyO, hc, hh]
theorem allO_mono {α : Type} (p : Nat → α → Option Bool) (hp : ∀ k x, LeO (p k x) (p (k + 1) x)) (k : Nat) : ∀ l, LeO (allO (p k) l) (allO (p (k + 1)) l)
  | [] => LeO.refl _
  | x :: xs => LeO.bind (hp k x) (fun _ => LeO.ite (allO_mono p hp k xs) (LeO.refl _))
theorem anyO_mono {α : Type} (p : Nat → α → Option Bool) (hp : ∀ k x, LeO (p k x) (p (k + 1) x)) (k : Nat) : ∀ l, LeO (anyO (p k) l) (anyO (p (k + 1)) l)
  | [] => LeO.refl _
  | x :: xs => LeO.bind (hp k x) (fun _ => LeO.ite (LeO.refl _) (anyO_mono p hp k xs))
/-- What is asked of a function value that answers one bool: its answer, where it has one; it may make memory of its own. -/
def PredK (P : Program) (g : Nat) (fs lb : Array Value) {α : Type} (d : Kd α) (v : List Value → Value) (p : α → Option Bool) (w : World) : Prop :=
  ∀ (W : World) (x : α) (b : Bool) (cs : List Value), Below w.heap.size w W → d.K W x cs → p x = some b → Calls P g (fs ++ #[v cs] ++ lb) W fun e w' => e = .returned (.bool b) ∧ Below W.heap.size W w'
theorem below_hop {w W W' : World} (h : Below w.heap.size w W) (h' : Below W.heap.size W W') : Below w.heap.size w W' := h.trans (h'.mono h.size)
theorem PredK.later {P : Program} {g : Nat} {fs lb : Array Value} {α : Type} {d : Kd α} {v : List Value → Value} {p : α → Option Bool} {w w1 : World} (h : PredK P g fs lb d v p w) (hb : Below w.heap.size w w1) : PredK P g fs lb d v p w1 :=
  fun W x b cs hW => h W x b cs (below_hop hb hW)
def valOne (cs : List Value) : Value := cs.headD (.int .i64 0)
def valAgg (cs : List Value) : Value := .agg cs.toArray
theorem one_of_len {α : Type} {cs : List α} (h : cs.length = 1) : ∃ c0, cs = [c0] := by
  match cs, h with
  | [c0], _ => exact ⟨c0, rfl⟩
theorem two_of_len {α : Type} {cs : List α} (h : cs.length = 2) : ∃ c0 c1, cs = [c0, c1] := by
  match cs, h with
  | [c0, c1], _ => exact ⟨c0, c1, rfl⟩
theorem three_of_len {α : Type} {cs : List α} (h : cs.length = 3) : ∃ c0 c1 c2, cs = [c0, c1, c2] := by
  match cs, h with
  | [c0, c1, c2], _ => exact ⟨c0, c1, c2, rfl⟩
theorem four_of_len {α : Type} {cs : List α} (h : cs.length = 4) : ∃ c0 c1 c2 c3, cs = [c0, c1, c2, c3] := by
  match cs, h with
  | [c0, c1, c2, c3], _ => exact ⟨c0, c1, c2, c3, rfl⟩

set_option maxHeartbeats 8000000 in
set_option maxRecDepth 100000 in
theorem index118 (p : Int → Option Bool) (g : Nat) (fs lb : Array Value) (eg : ∀ args w, (callFunc g args).run Try.prog w = .ok (.enter g args) w) (A : Option Addr) (c : Nat) (l : List Int) (r : Int) (w : World)
    (hr0 : Kd.C (Kd.int .i64) w A l.length l) (hc0 : l.length ≤ c) (hp : PredK Try.prog g fs lb (Kd.int .i64) valOne p w) (h : ixO p l 0 = some r) :
    Calls Try.prog 118 #[.slice A l.length c, .func (.func g) fs lb] w fun e w' => e = .returned (.int .i64 r) ∧ Below w.heap.size w w' := by
  have HR0 := Aside0.mk hr0
  have HL := Aside0.mk hr0.2.1
  have HP := Aside0.mk hp
  clear hr0 hc0 hp
  have H := Aside0.mk h
  clear h
  go_enter Try.func118, Try.ntmps118
  go_wp2
  go_loopg [5, 8] l.length (fun kq _ v8 w' => ∃ (i : Int), v8 = .int .i64 i ∧ Aside0 (ixO p (l.drop i.toNat) i = some r) ∧ Aside0 (0 ≤ i ∧ i ≤ l.length ∧ (l.length : Int) - i ≤ kq) ∧ Aside0 (Below w.heap.size w w'))
  case atStart => exact ⟨0, rfl, H, ⟨by omega, by omega, by omega⟩, ⟨Below.refl _ _⟩⟩
  case round =>
    clear H
    obtain ⟨i, rfl, HA, HK, HB0⟩ := hrel
    have HB := HB0
    by_cases hlt : i < (l.length : Int)
    · have p1 : 0 ≤ i := HK.out.1
      obtain ⟨ad, c_, e, hlen, hK, hcell⟩ := Kd.C_get HR0.out (0 : Int) i p1 hlt
      cases e
      have hK' := (Kd.int .i64).K_below HB.out hK
      have hn : i.toNat < l.length := by omega
      have hstep := HA.out
      rw [ixO_step p (0 : Int) l i hn p1] at hstep
      obtain ⟨b, hb, hif⟩ := Option.bind_eq_some_iff.mp hstep
      have hcall0 := HP.out wr _ b c_ HB.out hK' hb
      generalize l.getD i.toNat (0 : Int) = x at hK hK' hb hstep hcall0
      obtain rfl : c_ = [.int .i64 x] := hK
      have hcall1 : Calls Try.prog g (fs ++ #[.int .i64 x] ++ lb) wr (fun e w' => e = .returned (.bool b) ∧ Below wr.heap.size wr w') := hcall0
      have hsz_ : ((Kd.int .i64)).sz = 1 := rfl
      rw [hsz_] at hcell
      have hx0 := pw_cell_below HB.out (show w.cell? (ad.add i.toNat) = some (.int .i64 x) by have hq := hcell 0 _ rfl; rwa [Nat.mul_one, Nat.add_zero] at hq)
      try clear hK
      try clear l0_ g0_
      have HIF := Aside0.mk hif
      have H2 := Aside0.mk hlt
      have HC := Aside0.mk hcall1
      clear hstep hif hb HA hn hK' hcell hcall0 hcall1 hlen
      have q0 := decide_eq_true p1
      have q1 := decide_eq_true hlt
      replace p1 := eq_true p1
      replace hlt := eq_true hlt
      cases b with
      | true =>
        have ER := Aside0.mk (Option.some.inj ((if_pos rfl).symm.trans HIF.out))
        clear HIF
        go_wp2_with (go_at_fn g; (with_reducible refine calls_of_args (args' := fs ++ #[.int .i64 x] ++ lb) (by first | rfl | simp) ?_); (with_reducible refine HC.out.mono ?_); rintro e w' ⟨rfl, hb'⟩)
        go_ret
        exact ⟨by rw [← ER.out]; rfl, below_hop HB.out hb'⟩
      | false =>
        have ER := Aside0.mk ((if_neg (show ¬ (false = true) by decide)).symm.trans HIF.out)
        clear HIF
        go_wp2_with (go_at_fn g; (with_reducible refine calls_of_args (args' := fs ++ #[.int .i64 x] ++ lb) (by first | rfl | simp) ?_); (with_reducible refine HC.out.mono ?_); rintro e w' ⟨rfl, hb'⟩)
        go_roundg ((l.length : Int) - (i + 1)).toNat
        case measure => have := HK.out; have := H2.out; omega
        case rel =>
          have hw : wrap64 (i + 1) = i + 1 := by
            have := HK.out; have := H2.out; have := HL.out
            unfold wrap64; omega
          exact ⟨wrap64 (i + 1), rfl, ⟨by rw [hw]; exact ER.out⟩, ⟨by have := HK.out; have := H2.out; rw [hw]; omega⟩, ⟨below_hop HB.out hb'⟩⟩
    · have hr := HA.out
      rw [List.drop_eq_nil_of_le (by omega)] at hr
      simp only [ixO, Option.some.injEq] at hr
      subst hr
      have q1 := decide_eq_false hlt
      go_wp2
      go_ret
      exact ⟨rfl, HB.out⟩

set_option maxHeartbeats 8000000 in
set_option maxRecDepth 100000 in
theorem contains110 (p : Int → Option Bool) (g : Nat) (fs lb : Array Value) (eg : ∀ args w, (callFunc g args).run Try.prog w = .ok (.enter g args) w) (A : Option Addr) (c : Nat) (l : List Int) (r : Bool) (w : World)
    (hr0 : Kd.C (Kd.int .i64) w A l.length l) (hc0 : l.length ≤ c) (hp : PredK Try.prog g fs lb (Kd.int .i64) valOne p w) (h : anyO p l = some r) :
    Calls Try.prog 110 #[.slice A l.length c, .func (.func g) fs lb] w fun e w' => e = .returned (.bool r) ∧ Below w.heap.size w w' := by
  obtain ⟨i, hi, hd⟩ := ixO_any p l 0 r (by omega) h
  have HC := Aside0.mk (index118 p g fs lb eg A c l i w hr0 hc0 hp hi)
  have HD := Aside0.mk hd
  clear hr0 hc0 hp h hi hd
  go_enter Try.func110, Try.ntmps110
  go_wp2_with (go_at_call 118; (with_reducible refine HC.out.mono ?_); rintro e w' ⟨rfl, hb'⟩)
  go_ret
  exact ⟨by rw [← HD.out]; rfl, hb'⟩

set_option maxHeartbeats 8000000 in
set_option maxRecDepth 100000 in
/-- The closure of 'all': the predicate lies in the block B. -/
theorem not111 (p : Int → Option Bool) (g : Nat) (fs lb : Array Value) (eg : ∀ args w, (callFunc g args).run Try.prog w = .ok (.enter g args) w) (B : Nat) (w : World) (hB : B < w.heap.size) (hc : w.cell? ⟨B, 0, none⟩ = some (.func (.func g) fs lb))
    (hp : PredK Try.prog g fs lb (Kd.int .i64) valOne p w) : PredK Try.prog 111 #[] #[.pointer (some ⟨B, 0, none⟩)] (Kd.int .i64) valOne (fun x => (p x).map (! ·)) w := by
  intro W x b cs hb hK hx
  obtain ⟨c, hc0, rfl⟩ := Option.map_eq_some_iff.mp hx
  have hcell : W.cell? ⟨B, 0, none⟩ = some (.func (.func g) fs lb) := (hb.cell (p := ⟨B, 0, none⟩) hB).trans hc
  have hcall0 := hp W x c cs hb hK hc0
  obtain rfl : cs = [.int .i64 x] := hK
  have hcall1 : Calls Try.prog g (fs ++ #[.int .i64 x] ++ lb) W (fun e w' => e = .returned (.bool c) ∧ Below W.heap.size W w') := hcall0
  have HC := Aside0.mk hcall1
  clear hp hx hc0 hc hcall0 hcall1 hb hB
  try clear hK
  try clear l0_ g0_
  show Calls Try.prog 111 #[.int .i64 x, .pointer (some ⟨B, 0, none⟩)] W _
  go_enter Try.func111, Try.ntmps111
  go_wp2_with (go_at_fn g; (with_reducible refine calls_of_args (args' := fs ++ #[.int .i64 x] ++ lb) (by first | rfl | simp) ?_); (with_reducible refine HC.out.mono ?_); rintro e w' ⟨rfl, hb'⟩)
  go_ret
  exact ⟨rfl, hb'⟩

set_option maxHeartbeats 8000000 in
set_option maxRecDepth 100000 in
theorem all96 (p : Int → Option Bool) (g : Nat) (fs lb : Array Value) (eg : ∀ args w, (callFunc g args).run Try.prog w = .ok (.enter g args) w) (A : Option Addr) (c : Nat) (l : List Int) (r : Bool) (w : World)
    (hr0 : Kd.C (Kd.int .i64) w A l.length l) (hc0 : l.length ≤ c) (hp : PredK Try.prog g fs lb (Kd.int .i64) valOne p w) (h : allO p l = some r) :
    Calls Try.prog 96 #[.slice A l.length c, .func (.func g) fs lb] w fun e w' => e = .returned (.bool r) ∧ Below w.heap.size w w' := by
  have hb1 : Below w.heap.size w (w.alloc (.cells #[.func (.func g) fs lb] 80)) := below_alloc (Below.refl _ _) _
  have HC := Aside0.mk (contains110 (fun x => (p x).map (! ·)) 111 #[] #[.pointer (some ⟨w.heap.size, 0, none⟩)] (enters_of Try.func111 (by kernel_rfl) rfl) A c l (!r) (w.alloc (.cells #[.func (.func g) fs lb] 80)) (Kd.C_below hr0 hb1) hc0 (not111 p g fs lb eg w.heap.size _ (by simp) (by simp) (hp.later hb1)) (anyO_all p l r h))
  have HB := Aside0.mk hb1
  clear hr0 hc0 hp h hb1
  go_enter Try.func96, Try.ntmps96
  go_wp2_with (go_at_call 110; (with_reducible refine HC.out.mono ?_); rintro e w' ⟨rfl, hb'⟩)
  go_ret
  exact ⟨by first | rfl | (rw [Bool.not_not]; rfl), below_hop HB.out hb'⟩

/-! ### all_impl_fabric_node: function 96 at 82 -/
def all_impl_fabric_node.f (l0 : List Int) (a1_0 : Int) (a1_1 : Int) : Option (Bool) := allO (fun x => impl_fabric_node.f a1_0 a1_1 x) l0
set_option maxHeartbeats 1000000 in
theorem all_impl_fabric_node.calls (A0 : Option Addr) (c0 : Nat) (l0 : List Int) (a1_0 : Int) (a1_1 : Int) (r : Bool) (w : World) (hr0 : Kd.C (Kd.int .i64) w A0 l0.length l0) (hc0 : l0.length ≤ c0) (h : all_impl_fabric_node.f l0 a1_0 a1_1 = some r) :
    Calls Try.prog 96 #[.slice A0 l0.length c0, .func (.func 82) #[.agg #[.int .i64 a1_0, .int .i64 a1_1]] #[]] w fun e w' => e = .returned (.bool r) ∧ Below w.heap.size w w' := by
  refine all96 _ 82 #[.agg #[.int .i64 a1_0, .int .i64 a1_1]] #[] (enters_of Try.func82 (by kernel_rfl) rfl) A0 c0 l0 r w hr0 hc0 ?_ h
  intro W x b cs hb hK hx
  obtain rfl := hK
  refine (impl_fabric_node.calls a1_0 a1_1 x b W  hx).mono ?_
  rintro e w' ⟨rfl, hd⟩; exact ⟨rfl, hd⟩

end Go.Proofs.Ytmakbieljmldfaa.PFnRoutes
