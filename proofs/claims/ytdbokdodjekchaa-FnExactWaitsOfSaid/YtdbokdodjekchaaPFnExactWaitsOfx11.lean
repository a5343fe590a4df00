/- What the Go functions that this law reaches answer, function by function; conditions: those that each contract names. Made for this claim by a program of this session (wip/myprint) over the kit's print. -/
import Derived.Test.YtdbokdodjekchaaPFnExactWaitsOfx0
import Derived.Test.YtdbokdodjekchaaPFnExactWaitsOfx10
namespace Go.Proofs.Ytdbokdodjekchaa.PFnExactWaitsOf
open Go.RowKit Go.Proofs.YtdbokdodjekchaaW.PrintWords Go.Proofs.YtdbokdodjekchaaW.PrintLast Go.Proofs.YtdbokdodjekchaaW.PrintMore
attribute [local go_sem] max2_int min2_int max_two min_two max_three min_three max_four min_four   -- for this text's walks alone
set_option linter.unusedVariables false
set_option linter.unusedSimpArgs false

/-! ### laws_markIntSS: function 28 -/
/-- A row of whole numbers, told apart from what is handed over. -/
theorem s_foe {α : Type} {d : Kd α} {e base : Nat} {ok : Nat → Prop} {W : World} {v : Value} {xs : List α} (hE : d.E = []) (P : Nat → Prop) (h : d.R e W base ok v xs) (hf : ∀ k, some k = v.ownBlock → ¬ P k) : d.R e W base (fun k => ok k ∧ ¬ P k) v xs := Kd.R_mono (Kd.R_tight2 hE h) (fun k hk => ⟨hk.2, hf k hk.1⟩)
theorem s_foeT {α : Type} {d : Kd α} {e base : Nat} {ok : Nat → Prop} {W : World} {v : Value} {xs : List α} (hE : d.E = []) (P : Nat → Prop) {L : List Nat} (h : d.R e W base ok v xs) (hL : e ∉ L) (hP : ∀ k, P k → ∃ q, q ∈ L ∧ ∃ cells, W.heap[k]? = some (.cells cells q (0, 0))) : d.R e W base (fun k => ok k ∧ ¬ P k) v xs := s_foe hE P h (fun k hk hp => by
  obtain ⟨q, hq, c, hc⟩ := hP k hp
  obtain ⟨inner, ho⟩ := Kd.R_own h
  obtain ⟨c2, h2⟩ := own_typed ho k hk.symm
  rw [h2] at hc
  injection hc with hc
  injection hc with _ hc
  exact hL (hc ▸ hq))
def laws_markIntSS.g (k : Nat) : List (List Int) → Int → Option Int
  | [], a => some a
  | x :: xs, a => (laws_markIntS.f k x a).bind fun t => laws_markIntSS.g k xs t.1
theorem laws_markIntSS.gmono (k : Nat) : ∀ (l : List (List Int)) (a : Int), LeO (laws_markIntSS.g k l a) (laws_markIntSS.g (k + 1) l a)
  | [], _ => LeO.refl _
  | x :: xs, a => LeO.bind (laws_markIntS.mono _ _ _) (fun t => laws_markIntSS.gmono k xs t.1)
def laws_markIntSS.f (k : Nat) (l0 : List (List Int)) (a1 : Int) : Option (Int) := if l0.length ≤ 1000000000000 then laws_markIntSS.g k l0 a1 else none
theorem laws_markIntSS.mono : ∀ a0 a1 k, LeO (laws_markIntSS.f k a0 a1) (laws_markIntSS.f (k + 1) a0 a1) := fun a0 a1 k => LeO.ite (laws_markIntSS.gmono k a0 a1) (LeO.refl _)
set_option maxHeartbeats 8000000 in
set_option maxRecDepth 100000 in
theorem laws_markIntSS.calls (k : Nat) (P0_ : Nat → Prop) (u9000_ : Value) (l0 : List (List Int)) (a1 : Int) (r1 : Int) (w0 w : World) (hB : Below w0.heap.size w0 w) (ho0 : Kd.S (Kd.slice 3 (Kd.int .i64)) 28 w w0.heap.size P0_ u9000_ l0) (h : laws_markIntSS.f k l0 a1 = some r1) :
    Calls Try.prog 28 #[u9000_, .int .i64 a1] w fun e w' => e = .returned (.int .i64 r1) ∧ Below w0.heap.size w0 w' ∧ Kept w w' (fun k_ => P0_ k_) := by
  have HO0 := Aside0.mk ho0
  have HK := Aside0.mk (Kept.refl w (fun k_ => P0_ k_))
  have HB := Aside0.mk hB
  unfold laws_markIntSS.f at h
  by_cases hlen : l0.length ≤ 1000000000000
  · rw [if_pos hlen] at h
    have H' := Aside0.mk h
    have HL := Aside0.mk hlen
    clear hB ho0 h hlen
    go_enter Try.func28, Try.ntmps28
    go_wp2
    go_loopg [1, 5] (l0.length + 1) (fun kq v1 v5 w' => ∃ (x0_1 : List (List Int)) (x1_1 : Int) (x5_1 : Int), v1 = .int .i64 x1_1 ∧ v5 = .int .i64 x5_1 ∧ Aside0 (kq + x5_1.toNat = l0.length + 1 ∧ 0 ≤ x5_1 ∧ x5_1 ≤ l0.length ∧ x0_1.length = l0.length ∧ x0_1.drop x5_1.toNat = l0.drop x5_1.toNat) ∧ Aside0 (laws_markIntSS.g k (l0.drop x5_1.toNat) x1_1 = some r1) ∧ Aside0 (Kd.S (Kd.slice 3 (Kd.int .i64)) 28 w' w0.heap.size P0_ u9000_ x0_1) ∧ Aside0 (Kept w w' (fun k_ => P0_ k_)) ∧ Aside0 (Below w0.heap.size w0 w'))
    case atStart => exact ⟨l0, a1, 0, (by first | rfl | (simp; done) | (simp [*]; done)), (by first | rfl | (simp; done) | (simp [*]; done)), ⟨⟨by simp, by omega, by omega, rfl, rfl⟩⟩, ⟨by simpa using H'.out⟩, ⟨by (with_reducible repeat (first | apply Kd.S_alloc | apply Kd.S_drewN | apply Kd.S_drew)); exact HO0.out⟩, ⟨by repeat (first | (with_reducible first | exact HK.out | apply Kept.alloc | apply Kept.drewN | apply Kept.drew) | exact HK.out)⟩, ⟨by repeat (first | (with_reducible first | exact HB.out | apply below_alloc | apply pw_below_drewN | apply below_drew1) | exact HB.out)⟩⟩
    case round =>
      clear H' HO0 HK HB
      obtain ⟨x0_1, x1_1, x5_1, rfl, rfl, HI, HA, HO_0, HK, HB⟩ := hrel
      obtain ⟨Ao6, co6, eo6⟩ := Kd.S_slice HO_0.out
      subst eo6
      by_cases c3 : x5_1 < (x0_1.length : Int)
      · have c3b0 : decide (x5_1 < (x0_1.length : Int)) = true := decide_eq_true c3
        obtain ⟨k1, rfl⟩ : ∃ k1, gk = k1 + 1 := ⟨gk - 1, by have := HI.out; omega⟩
        have hi := HI.out
        obtain ⟨x, hx⟩ : ∃ x, l0.drop x5_1.toNat = x :: l0.drop (x5_1 + 1).toNat := by
          rw [List.drop_eq_getElem_cons (show x5_1.toNat < l0.length by omega), show (x5_1 + 1).toNat = x5_1.toNat + 1 by omega]
          exact ⟨_, rfl⟩
        have hx1 : x0_1.drop x5_1.toNat = x :: l0.drop (x5_1 + 1).toNat := hi.2.2.2.2.trans hx
        have hA := HA.out
        rw [hx] at hA
        obtain ⟨⟨t1, t2⟩, hA1, hA2⟩ := Option.bind_eq_some_iff.mp hA
        have A1 := Aside0.mk hA1
        have A2 := Aside0.mk hA2
        have hget : x0_1.getD x5_1.toNat x = x := by
          rw [List.getD_eq_getElem?_getD]
          have := congrArg (fun z => z[0]?) hx1
          simp at this
          rw [this]; rfl
        have hrest : x0_1.drop (x5_1 + 1).toNat = l0.drop (x5_1 + 1).toNat := by
          rw [List.drop_eq_getElem_cons (show x5_1.toNat < x0_1.length by omega)] at hx1
          rw [show (x5_1 + 1).toNat = x5_1.toNat + 1 by omega] at hx1 ⊢
          exact (List.cons.inj hx1).2
        have HR := Aside0.mk hrest
        have hnw : wrap64 (x5_1 + 1) = x5_1 + 1 := by have := HL.out; unfold wrap64; omega
        have HN := Aside0.mk hnw
        have p5 : 0 ≤ (x5_1 : Int) := hi.2.1
        have q5 : (x5_1 : Int) < ((x0_1.length : Int) : Int) := c3
        obtain ⟨go5, co5, eo5, gb5, gl5, cl5, HG5⟩ := Kd.S_form HO_0.out (by omega)
        (first | cases eo5 | (injection eo5 with ea_ en_ ec_; (first | subst ea_ | (injection ea_ with ea_; subst ea_)); subst ec_; clear en_))
        have GB5 := Aside0.mk gb5
        have HP0 := Aside0.mk (show P0_ go5 from (Kd.S_R HO_0.out).1 _ rfl)
        obtain ⟨oki, c, hcl, hM, hcc, hfr, hoki, hH⟩ := Kd.S_elem HO_0.out x (x5_1 : Int) p5 q5
        rw [hget] at hM
        obtain ⟨v2, rfl, hR2⟩ := hM
        obtain ⟨A2_, c2_, e2_⟩ := Kd.R_slice hR2
        subst e2_
        have hx0 : wr.cell? ⟨go5, x5_1.toNat, none⟩ = some (.slice A2_ x.length c2_) := by have hq := hcc 0 _ rfl; simpa [show (Kd.slice 3 (Kd.int .i64)).sz = 1 from rfl] using hq
        have HH := Aside0.mk hH
        have HR2 := Aside0.mk hR2
        have HOK := Aside0.mk hoki
        have P5 := Aside0.mk p5
        have Q5 := Aside0.mk q5
        replace p5 := eq_true p5
        replace q5 := eq_true q5
        clear hcl hcc hfr hoki hH hR2 hget hrest hnw hx hx1 hA hA1 hA2 gb5 gl5 HG5 c3 HO_0 hi HA
        go_wp2_with (go_at_call 57; (with_reducible refine (laws_markIntS.calls k oki _ x x1_1 t1 t2 w0 _ ?side1 ?side2 A1.out).mono ?_); (case side1 => exact HB.out); (case side2 => exact HR2.out); rintro e w10 ⟨rfl, hy, hb, hkp⟩; have HH10 := Aside0.mk (Kd.H_back (x' := t2) (Kd.H_step HH.out (fun k_ _ hn hlt => hkp.2 k_ hlt hn)) (Kd.M_row (d := Kd.int .i64) (e := 3) (v := .slice A2_ x.length c2_) (Kd.R_reok rfl hy (fun k_ e_ => HR2.out.1 k_ e_))) (fun _ hk_ => hk_)); have HK10 := Aside0.mk (Kept.then_ (S := (fun k_ => P0_ k_)) HK.out hkp (fun k_ hs_ => .inl (HOK.out k_ hs_).1)); have HB10 := Aside0.mk hb; clear hy hb hkp hx0 HH HR2 HK HB)
        go_roundg k1
        case measure => omega
        case rel =>
          refine ⟨x0_1.set x5_1.toNat t2, t1, x5_1 + 1, (by first | rfl | (simp; done) | (simp [*]; done)), (by rw [HN.out]), ⟨?_⟩, ⟨A2.out⟩, ⟨by (with_reducible repeat (first | apply Kd.S_alloc | apply Kd.S_drewN | apply Kd.S_drew)); exact HH10.out⟩, ⟨by repeat (first | (with_reducible first | exact HK10.out | apply Kept.alloc | apply Kept.drewN | apply Kept.drew) | exact HK10.out)⟩, ⟨by repeat (first | (with_reducible first | exact HB10.out | apply below_alloc | apply pw_below_drewN | apply below_drew1) | exact HB10.out)⟩⟩
          have hi := HI.out
          have q := Q5.out
          refine ⟨by omega, by omega, by omega, by rw [List.length_set]; exact hi.2.2.2.1, ?_⟩
          rw [List.drop_set_of_lt (by omega)]
          exact HR.out
      · have c3b0 : decide (x5_1 < (x0_1.length : Int)) = false := decide_eq_false c3
        have hi := HI.out
        have hA := HA.out
        rw [List.drop_eq_nil_of_le (by omega)] at hA
        obtain rfl : x1_1 = r1 := Option.some.inj hA
        clear hi hA c3
        go_wp2
        go_ret
        exact ⟨by first | rfl | (simp; done), by repeat (first | (with_reducible first | exact HB.out | apply below_alloc | apply pw_below_drewN | apply below_drew1) | exact HB.out), by repeat (first | (with_reducible first | exact HK.out | apply Kept.alloc | apply Kept.drewN | apply Kept.drew) | exact HK.out)⟩
  · rw [if_neg hlen] at h
    exact absurd h (by simp)
/-! what markIntSS leaves in the row -/
def remark.g (k : Nat) : List (List Int) → Int → Option (List (List Int) × Int)
  | [], a => some ([], a)
  | x :: xs, a => (laws_markIntS.f k x a).bind fun t => (remark.g k xs t.1).bind fun q => some (t.2 :: q.1, q.2)
theorem remark.gmono (k : Nat) : ∀ (l : List (List Int)) (a : Int), LeO (remark.g k l a) (remark.g (k + 1) l a)
  | [], _ => LeO.refl _
  | x :: xs, a => LeO.bind (laws_markIntS.mono _ _ _) (fun t => LeO.bind (remark.gmono k xs t.1) (fun _ => LeO.refl _))
def remark.f (k : Nat) (l0 : List (List Int)) (a1 : Int) : Option (List (List Int) × Int) := if l0.length ≤ 1000000000000 then remark.g k l0 a1 else none
theorem remark.mono : ∀ a0 a1 k, LeO (remark.f k a0 a1) (remark.f (k + 1) a0 a1) := fun a0 a1 k => LeO.ite (remark.gmono k a0 a1) (LeO.refl _)
set_option maxHeartbeats 8000000 in
set_option maxRecDepth 100000 in
theorem remark.calls (k : Nat) (P0_ : Nat → Prop) (u9000_ : Value) (l0 : List (List Int)) (a1 : Int) (r0 : List (List Int)) (r1 : Int) (w0 w : World) (hB : Below w0.heap.size w0 w) (ho0 : Kd.S (Kd.slice 3 (Kd.int .i64)) 28 w w0.heap.size P0_ u9000_ l0) (h : remark.f k l0 a1 = some (r0, r1)) :
    Calls Try.prog 28 #[u9000_, .int .i64 a1] w fun e w' => e = .returned (.int .i64 r1) ∧ Kd.S (Kd.slice 3 (Kd.int .i64)) 28 w' w0.heap.size P0_ u9000_ r0 ∧ Below w0.heap.size w0 w' ∧ Kept w w' (fun k_ => P0_ k_) := by
  have HO0 := Aside0.mk ho0
  have HK := Aside0.mk (Kept.refl w (fun k_ => P0_ k_))
  have HB := Aside0.mk hB
  unfold remark.f at h
  by_cases hlen : l0.length ≤ 1000000000000
  · rw [if_pos hlen] at h
    have H' := Aside0.mk h
    have HL := Aside0.mk hlen
    clear hB ho0 h hlen
    go_enter Try.func28, Try.ntmps28
    go_wp2
    go_loopg [1, 5] (l0.length + 1) (fun kq v1 v5 w' => ∃ (x0_1 : List (List Int)) (x1_1 : Int) (x5_1 : Int), v1 = .int .i64 x1_1 ∧ v5 = .int .i64 x5_1 ∧ Aside0 (kq + x5_1.toNat = l0.length + 1 ∧ 0 ≤ x5_1 ∧ x5_1 ≤ l0.length ∧ x0_1.length = l0.length ∧ x0_1.drop x5_1.toNat = l0.drop x5_1.toNat) ∧ Aside0 (remark.g k (l0.drop x5_1.toNat) x1_1 = some (r0.drop x5_1.toNat, r1)) ∧ Aside0 (x0_1.take x5_1.toNat = r0.take x5_1.toNat) ∧ Aside0 (Kd.S (Kd.slice 3 (Kd.int .i64)) 28 w' w0.heap.size P0_ u9000_ x0_1) ∧ Aside0 (Kept w w' (fun k_ => P0_ k_)) ∧ Aside0 (Below w0.heap.size w0 w'))
    case atStart => exact ⟨l0, a1, 0, (by first | rfl | (simp; done) | (simp [*]; done)), (by first | rfl | (simp; done) | (simp [*]; done)), ⟨⟨by simp, by omega, by omega, rfl, rfl⟩⟩, ⟨by simpa using H'.out⟩, ⟨by simp⟩, ⟨by (with_reducible repeat (first | apply Kd.S_alloc | apply Kd.S_drewN | apply Kd.S_drew)); exact HO0.out⟩, ⟨by repeat (first | (with_reducible first | exact HK.out | apply Kept.alloc | apply Kept.drewN | apply Kept.drew) | exact HK.out)⟩, ⟨by repeat (first | (with_reducible first | exact HB.out | apply below_alloc | apply pw_below_drewN | apply below_drew1) | exact HB.out)⟩⟩
    case round =>
      clear H' HO0 HK HB
      obtain ⟨x0_1, x1_1, x5_1, rfl, rfl, HI, HA, HT, HO_0, HK, HB⟩ := hrel
      obtain ⟨Ao6, co6, eo6⟩ := Kd.S_slice HO_0.out
      subst eo6
      by_cases c3 : x5_1 < (x0_1.length : Int)
      · have c3b0 : decide (x5_1 < (x0_1.length : Int)) = true := decide_eq_true c3
        obtain ⟨k1, rfl⟩ : ∃ k1, gk = k1 + 1 := ⟨gk - 1, by have := HI.out; omega⟩
        have hi := HI.out
        obtain ⟨x, hx⟩ : ∃ x, l0.drop x5_1.toNat = x :: l0.drop (x5_1 + 1).toNat := by
          rw [List.drop_eq_getElem_cons (show x5_1.toNat < l0.length by omega), show (x5_1 + 1).toNat = x5_1.toNat + 1 by omega]
          exact ⟨_, rfl⟩
        have hx1 : x0_1.drop x5_1.toNat = x :: l0.drop (x5_1 + 1).toNat := hi.2.2.2.2.trans hx
        have hA := HA.out
        rw [hx] at hA
        obtain ⟨⟨t1, t2⟩, hA1, hA2⟩ := Option.bind_eq_some_iff.mp hA
        obtain ⟨⟨q1, q2⟩, hA6, hA3⟩ := Option.bind_eq_some_iff.mp hA2
        obtain ⟨hA4, hA5⟩ := Prod.mk.inj (Option.some.inj hA3)
        dsimp only at hA4 hA5
        subst hA5
        have hr0 : r0.drop (x5_1 + 1).toNat = q1 := by rw [show (x5_1 + 1).toNat = x5_1.toNat + 1 by omega, ← List.drop_drop, ← hA4]; rfl
        rw [← hr0] at hA6
        have hr1 : r0[x5_1.toNat]? = some t2 := by have := congrArg (fun z => z[0]?) hA4; simp at this; exact this.symm
        have HR1 := Aside0.mk hr1
        have A1 := Aside0.mk hA1
        have A2 := Aside0.mk hA6
        have hget : x0_1.getD x5_1.toNat x = x := by
          rw [List.getD_eq_getElem?_getD]
          have := congrArg (fun z => z[0]?) hx1
          simp at this
          rw [this]; rfl
        have hrest : x0_1.drop (x5_1 + 1).toNat = l0.drop (x5_1 + 1).toNat := by
          rw [List.drop_eq_getElem_cons (show x5_1.toNat < x0_1.length by omega)] at hx1
          rw [show (x5_1 + 1).toNat = x5_1.toNat + 1 by omega] at hx1 ⊢
          exact (List.cons.inj hx1).2
        have HR := Aside0.mk hrest
        have hnw : wrap64 (x5_1 + 1) = x5_1 + 1 := by have := HL.out; unfold wrap64; omega
        have HN := Aside0.mk hnw
        have p5 : 0 ≤ (x5_1 : Int) := hi.2.1
        have q5 : (x5_1 : Int) < ((x0_1.length : Int) : Int) := c3
        obtain ⟨go5, co5, eo5, gb5, gl5, cl5, HG5⟩ := Kd.S_form HO_0.out (by omega)
        (first | cases eo5 | (injection eo5 with ea_ en_ ec_; (first | subst ea_ | (injection ea_ with ea_; subst ea_)); subst ec_; clear en_))
        have GB5 := Aside0.mk gb5
        have HP0 := Aside0.mk (show P0_ go5 from (Kd.S_R HO_0.out).1 _ rfl)
        obtain ⟨oki, c, hcl, hM, hcc, hfr, hoki, hH⟩ := Kd.S_elem HO_0.out x (x5_1 : Int) p5 q5
        rw [hget] at hM
        obtain ⟨v2, rfl, hR2⟩ := hM
        obtain ⟨A2_, c2_, e2_⟩ := Kd.R_slice hR2
        subst e2_
        have hx0 : wr.cell? ⟨go5, x5_1.toNat, none⟩ = some (.slice A2_ x.length c2_) := by have hq := hcc 0 _ rfl; simpa [show (Kd.slice 3 (Kd.int .i64)).sz = 1 from rfl] using hq
        have HH := Aside0.mk hH
        have HR2 := Aside0.mk hR2
        have HOK := Aside0.mk hoki
        have P5 := Aside0.mk p5
        have Q5 := Aside0.mk q5
        replace p5 := eq_true p5
        replace q5 := eq_true q5
        clear hr0 hr1 hA3 hA4
        clear hcl hcc hfr hoki hH hR2 hget hrest hnw hx hx1 hA hA1 hA2 hA6 gb5 gl5 HG5 c3 HO_0 hi HA
        go_wp2_with (go_at_call 57; (with_reducible refine (laws_markIntS.calls k oki _ x x1_1 t1 t2 w0 _ ?side1 ?side2 A1.out).mono ?_); (case side1 => exact HB.out); (case side2 => exact HR2.out); rintro e w10 ⟨rfl, hy, hb, hkp⟩; have HH10 := Aside0.mk (Kd.H_back (x' := t2) (Kd.H_step HH.out (fun k_ _ hn hlt => hkp.2 k_ hlt hn)) (Kd.M_row (d := Kd.int .i64) (e := 3) (v := .slice A2_ x.length c2_) (Kd.R_reok rfl hy (fun k_ e_ => HR2.out.1 k_ e_))) (fun _ hk_ => hk_)); have HK10 := Aside0.mk (Kept.then_ (S := (fun k_ => P0_ k_)) HK.out hkp (fun k_ hs_ => .inl (HOK.out k_ hs_).1)); have HB10 := Aside0.mk hb; clear hy hb hkp hx0 HH HR2 HK HB)
        go_roundg k1
        case measure => omega
        case rel =>
          refine ⟨x0_1.set x5_1.toNat t2, t1, x5_1 + 1, (by first | rfl | (simp; done) | (simp [*]; done)), (by rw [HN.out]), ⟨?_⟩, ⟨A2.out⟩, ⟨?_⟩, ⟨by (with_reducible repeat (first | apply Kd.S_alloc | apply Kd.S_drewN | apply Kd.S_drew)); exact HH10.out⟩, ⟨by repeat (first | (with_reducible first | exact HK10.out | apply Kept.alloc | apply Kept.drewN | apply Kept.drew) | exact HK10.out)⟩, ⟨by repeat (first | (with_reducible first | exact HB10.out | apply below_alloc | apply pw_below_drewN | apply below_drew1) | exact HB10.out)⟩⟩
          rotate_left
          · have hi := HI.out
            have q := Q5.out
            rw [show (x5_1 + 1).toNat = x5_1.toNat + 1 by omega, List.take_add_one, List.take_add_one, HR1.out, List.getElem?_set_self (by omega), List.take_set_of_le (by omega), HT.out]
          have hi := HI.out
          have q := Q5.out
          refine ⟨by omega, by omega, by omega, by rw [List.length_set]; exact hi.2.2.2.1, ?_⟩
          rw [List.drop_set_of_lt (by omega)]
          exact HR.out
      · have c3b0 : decide (x5_1 < (x0_1.length : Int)) = false := decide_eq_false c3
        have hi := HI.out
        have hA := HA.out
        rw [List.drop_eq_nil_of_le (by omega)] at hA
        obtain ⟨hA4, rfl⟩ := Prod.mk.inj (Option.some.inj hA)
        have hx0 : x0_1 = r0 := by
          have ht := HT.out
          have h4 : r0.drop x5_1.toNat = [] := hA4.symm
          rw [List.drop_eq_nil_iff] at h4
          rw [List.take_of_length_le (by omega), List.take_of_length_le h4] at ht
          exact ht
        have HX := Aside0.mk hx0
        clear hx0 hA4
        clear hi hA c3
        go_wp2
        go_ret
        exact ⟨by first | rfl | (simp; done), by rw [← HX.out]; (with_reducible repeat (first | apply Kd.S_alloc | apply Kd.S_drewN | apply Kd.S_drew)); exact HO_0.out, by repeat (first | (with_reducible first | exact HB.out | apply below_alloc | apply pw_below_drewN | apply below_drew1) | exact HB.out), by repeat (first | (with_reducible first | exact HK.out | apply Kept.alloc | apply Kept.drewN | apply Kept.drew) | exact HK.out)⟩
  · rw [if_neg hlen] at h
    exact absurd h (by simp)
/-- A row of rows of whole numbers, all of it in the blocks from lo to hi. -/
def SR (w : World) (lo hi : Nat) (v : Value) (xs : List (List Int)) : Prop := hi ≤ w.heap.size ∧ Kd.S (Kd.slice 3 (Kd.int .i64)) 28 w lo (fun k => k < hi) v xs
theorem SR.new {W w' : World} {v : Value} {xs : List (List Int)} (ho : Kd.S (Kd.slice 3 (Kd.int .i64)) 28 w' W.heap.size (fun _ => True) v xs) : ∃ lo hi, lo = W.heap.size ∧ SR w' lo hi v xs :=
  ⟨_, w'.heap.size, rfl, Nat.le_refl _, Kd.S_mono (Kd.S_bound ho) (fun k hk => hk.2.2.1)⟩
theorem SR.move {W w' : World} {lo hi : Nat} {v : Value} {xs : List (List Int)} (h : SR W lo hi v xs) (hs : W.heap.size ≤ w'.heap.size) (hk : ∀ k, lo ≤ k → k < hi → w'.heap[k]? = W.heap[k]?) : SR w' lo hi v xs := by
  obtain ⟨h1, f, h2⟩ := h
  refine ⟨Nat.le_trans h1 hs, f, Kd.R_mono (Kd.R_move (Kd.R_bound h2) (fun k hk' => hk k hk'.2.1 ?_)) (fun _ hk' => hk'.1)⟩
  exact hk'.1
theorem SR.below {W w' : World} {lo hi : Nat} {v : Value} {xs : List (List Int)} (h : SR W lo hi v xs) (hb : Below W.heap.size W w') : SR w' lo hi v xs := h.move hb.size (fun k _ h2 => hb.block k (Nat.lt_of_lt_of_le h2 h.1))
theorem SR.kept {W w' : World} {lo hi : Nat} {v : Value} {xs : List (List Int)} {P : Nat → Prop} (h : SR W lo hi v xs) (hk : Kept W w' P) (hd : ∀ k, lo ≤ k → k < hi → ¬ P k) : SR w' lo hi v xs := h.move hk.1 (fun k h1 h2 => hk.2 k (Nat.lt_of_lt_of_le h2 h.1) (hd k h1 h2))
theorem SR.drewN {W : World} {lo hi : Nat} {v : Value} {xs : List (List Int)} (h : SR W lo hi v xs) (n : Nat) : SR (W.drewN n) lo hi v xs := h.move (Nat.le_refl _) (fun _ _ _ => rfl)
theorem SR.drew {W : World} {lo hi : Nat} {v : Value} {xs : List (List Int)} (h : SR W lo hi v xs) : SR W.drew lo hi v xs := h.move (Nat.le_refl _) (fun _ _ _ => rfl)
theorem SR.own {W : World} {lo hi base : Nat} {v : Value} {xs : List (List Int)} (h : SR W lo hi v xs) (hb : base ≤ lo) : Kd.S (Kd.slice 3 (Kd.int .i64)) 28 W base (fun k => lo ≤ k ∧ k < hi) v xs := Kd.S_lower (Kd.S_mono (Kd.S_bound h.2) (fun _ hk => by first | exact ⟨hk.2.1, hk.1⟩ | (have hz_ := hk; (try simp only [and_assoc, true_and] at hz_); refine ⟨?_, ?_⟩ <;> first | exact hz_.1 | exact hz_.2.1 | exact hz_.2.2.1 | exact hz_.2.2.2.1 | exact hz_.2.2.2.2.1 | exact hz_.2.2.2.2 | exact hz_.2.2.2 | exact hz_.2.2 | exact hz_.2))) hb
theorem SR.c {W : World} {lo hi c : Nat} {A : Option Addr} {xs : List (List Int)} (h : SR W lo hi (.slice A xs.length c) xs) : Kd.C (Kd.slice 3 (Kd.int .i64)) W A xs.length xs := (Kd.S_reads' h.2).2.2
theorem SR.l {W : World} {lo hi c : Nat} {A : Option Addr} {xs : List (List Int)} (h : SR W lo hi (.slice A xs.length c) xs) : xs.length ≤ c := (Kd.S_reads' h.2).2.1
theorem SR.hi {W : World} {base : Nat} {P : Nat → Prop} {v : Value} {xs : List (List Int)} (h : Kd.S (Kd.slice 3 (Kd.int .i64)) 28 W base P v xs) : ∃ lo hi, SR W lo hi v xs := ⟨base, W.heap.size, Nat.le_refl _, Kd.S_mono (Kd.S_bound h) (fun _ hk => hk.2.2.1)⟩

/-! ### laws_heldIntS: function 60 -/
def laws_heldIntS.l0 : Nat → List Int → Int → Int → Option (Int)
  | 0, _, _, _ => none
  | k + 1, x0, x1, x5 => if x5 < (x0.length : Int) then (if 0 ≤ x5 then (if (rd x0 x5) = x1 then (laws_heldIntS.l0 k x0 (wrap64 (x1 + 1)) (wrap64 (x5 + 1))) else (some (-1))) else (none)) else (some x1)
def laws_heldIntS.f (k : Nat) (l0 : List Int) (a1 : Int) : Option (Int) := laws_heldIntS.l0 k l0 a1 0
theorem laws_heldIntS.mono_l : ∀ k, (∀ y0 y1 y2, LeO (laws_heldIntS.l0 k y0 y1 y2) (laws_heldIntS.l0 (k + 1) y0 y1 y2))
  | 0 => fun _ _ _ r h => by simp [laws_heldIntS.l0] at h
  | k + 1 => by
    have ih0 := laws_heldIntS.mono_l k
    · intro y0 y1 y2
      unfold laws_heldIntS.l0
      repeat' first
      | (with_reducible exact ih0 _ _ _)
      | (with_reducible exact LeO.refl _)
      | (with_reducible exact LeO.none _)
      | (with_reducible refine LeO.ite ?_ ?_)
      | (with_reducible refine LeO.bind ?_ (fun _ => ?_))
      | exact ih0 _ _ _
      | exact LeO.none _
      | refine LeO.ite ?_ ?_
      | refine LeO.bind ?_ (fun _ => ?_)
theorem laws_heldIntS.mono : ∀ a0 a1 k, LeO (laws_heldIntS.f k a0 a1) (laws_heldIntS.f (k + 1) a0 a1) := by
  intro a0 a1 k
  have ih0 := laws_heldIntS.mono_l k
  unfold laws_heldIntS.f
  repeat' first
      | (with_reducible exact ih0 _ _ _)
      | (with_reducible exact LeO.refl _)
      | (with_reducible exact LeO.none _)
      | (with_reducible refine LeO.ite ?_ ?_)
      | (with_reducible refine LeO.bind ?_ (fun _ => ?_))
      | exact ih0 _ _ _
      | exact LeO.none _
      | refine LeO.ite ?_ ?_
      | refine LeO.bind ?_ (fun _ => ?_)
set_option maxHeartbeats 8000000 in
set_option maxRecDepth 100000 in
theorem laws_heldIntS.calls (k : Nat) (A0 : Option Addr) (c0 : Nat) (l0 : List Int) (a1 : Int) (r : Int) (w : World) (hr0 : Kd.C (Kd.int .i64) w A0 l0.length l0) (hc0 : l0.length ≤ c0) (h : laws_heldIntS.f k l0 a1 = some r) :
    Calls Try.prog 60 #[.slice A0 l0.length c0, .int .i64 a1] w fun e w' => e = .returned (.int .i64 r) ∧ Drawn0 w w' := by
  have HR0 := Aside0.mk hr0
  have HC0 := Aside0.mk hc0
  clear hr0 hc0
  have H : (laws_heldIntS.l0 k l0 a1 0) = some r := h
  clear h
  have H' := Aside0.mk H
  clear H
  go_enter Try.func60, Try.ntmps60
  go_wp2
  go_loopg [1, 5] k (fun kq v1 v5 w' => ∃ (x1_1 : Int) (x5_1 : Int), v1 = .int .i64 x1_1 ∧ v5 = .int .i64 x5_1 ∧ Aside0 (laws_heldIntS.l0 kq l0 x1_1 x5_1 = some r) ∧ Aside0 (kq ≤ k) ∧ Drawn0 w w')
  case atStart => exact ⟨(a1), (0), (by first | rfl | (simp; done) | (simp [*]; done)), (by first | rfl | (simp; done) | (simp [*]; done)), H', ⟨Nat.le_refl _⟩, by repeat (first | exact Drawn0.refl _ | apply Drawn0.step)⟩
  case round =>
    clear H'
    try clear p2
    obtain ⟨x1_1, x5_1, rfl, rfl, HA, HK1, ⟨m1, rfl⟩⟩ := hrel
    cases gk with
    | zero => exact absurd HA.out (by simp [laws_heldIntS.l0])
    | succ k1 =>
      have H := HA.out
      clear HA
      simp only [laws_heldIntS.l0] at H
      by_cases c3 : x5_1 < (l0.length : Int)
      · rw [if_pos c3] at H
        have c3b0 : decide (x5_1 < (l0.length : Int)) = true := decide_eq_true c3
        clear c3
        by_cases c4 : 0 ≤ x5_1
        · rw [if_pos c4] at H
          have c4b0 : decide (0 ≤ x5_1) = true := decide_eq_true c4
          clear c4
          by_cases c5 : (rd l0 x5_1) = x1_1
          · rw [if_pos c5] at H
            have c5b0 : ((rd l0 x5_1) == x1_1) = true := beq_iff_eq.mpr c5
            have c5b1 : ((rd l0 x5_1) != x1_1) = false := bne_eq_false_iff_eq.mpr c5
            clear c5
            have H' := Aside0.mk H
            clear H
            have p186 : 0 ≤ (x5_1 : Int) := of_decide_eq_true (by first | (with_reducible assumption) | assumption)
            have q186 : x5_1 < (l0.length : Int) := of_decide_eq_true (by first | (with_reducible assumption) | assumption)
            obtain ⟨ad186, e186, hx186_0⟩ := Kd.at_int HR0.out x5_1 p186 q186
            cases e186
            replace p186 := eq_true p186
            replace q186 := eq_true q186
            go_wp2
            go_roundg k1
            case measure => have := HK1.out; omega
            case rel => exact ⟨(wrap64 (x1_1 + 1)), (wrap64 (x5_1 + 1)), (by first | rfl | (simp; done) | (simp [*]; done)), (by first | rfl | (simp; done) | (simp [*]; done)), H', ⟨by have := HK1.out; omega⟩, by repeat (first | exact Drawn0.refl _ | apply Drawn0.step)⟩
          · rw [if_neg c5] at H
            have c5b0 : ((rd l0 x5_1) == x1_1) = false := beq_eq_false_iff_ne.mpr c5
            have c5b1 : ((rd l0 x5_1) != x1_1) = true := bne_iff_ne.mpr c5
            obtain rfl := Option.some.inj H
            have p186 : 0 ≤ (x5_1 : Int) := of_decide_eq_true (by first | (with_reducible assumption) | assumption)
            have q186 : x5_1 < (l0.length : Int) := of_decide_eq_true (by first | (with_reducible assumption) | assumption)
            obtain ⟨ad186, e186, hx186_0⟩ := Kd.at_int HR0.out x5_1 p186 q186
            cases e186
            replace p186 := eq_true p186
            replace q186 := eq_true q186
            go_wp2
            go_ret
            exact ⟨by first | rfl | (simp; done) | (simp [*]; done), by repeat (first | exact Drawn0.refl _ | apply Drawn0.step)⟩
        · rw [if_neg c4] at H
          exact absurd H (by simp)
      · rw [if_neg c3] at H
        have c3b0 : decide (x5_1 < (l0.length : Int)) = false := decide_eq_false c3
        clear c3
        obtain rfl := Option.some.inj H
        go_wp2
        go_ret
        exact ⟨by first | rfl | (simp; done) | (simp [*]; done), by repeat (first | exact Drawn0.refl _ | apply Drawn0.step)⟩

/-! ### laws_heldIntSS: function 31 -/
def laws_heldIntSS.l0 : Nat → List (List Int) → Int → Int → Option (Int)
  | 0, _, _, _ => none
  | k + 1, x0, x1, x5 => if x5 < (x0.length : Int) then (if 0 ≤ x5 then ((laws_heldIntS.f k (rd_L2 x0 x5) x1).bind fun t188 => (if t188 < 0 then (some (-1)) else (laws_heldIntSS.l0 k x0 t188 (wrap64 (x5 + 1))))) else (none)) else (some x1)
def laws_heldIntSS.f (k : Nat) (l0 : List (List Int)) (a1 : Int) : Option (Int) := laws_heldIntSS.l0 k l0 a1 0
theorem laws_heldIntSS.mono_l : ∀ k, (∀ y0 y1 y2, LeO (laws_heldIntSS.l0 k y0 y1 y2) (laws_heldIntSS.l0 (k + 1) y0 y1 y2))
  | 0 => fun _ _ _ r h => by simp [laws_heldIntSS.l0] at h
  | k + 1 => by
    have ih0 := laws_heldIntSS.mono_l k
    · intro y0 y1 y2
      unfold laws_heldIntSS.l0
      repeat' first
      | (with_reducible exact ih0 _ _ _)
      | (with_reducible exact laws_heldIntS.mono _ _ _)
      | (with_reducible exact LeO.refl _)
      | (with_reducible exact LeO.none _)
      | (with_reducible refine LeO.ite ?_ ?_)
      | (with_reducible refine LeO.bind ?_ (fun _ => ?_))
      | exact ih0 _ _ _
      | exact laws_heldIntS.mono _ _ _
      | exact LeO.none _
      | refine LeO.ite ?_ ?_
      | refine LeO.bind ?_ (fun _ => ?_)
theorem laws_heldIntSS.mono : ∀ a0 a1 k, LeO (laws_heldIntSS.f k a0 a1) (laws_heldIntSS.f (k + 1) a0 a1) := by
  intro a0 a1 k
  have ih0 := laws_heldIntSS.mono_l k
  unfold laws_heldIntSS.f
  repeat' first
      | (with_reducible exact ih0 _ _ _)
      | (with_reducible exact laws_heldIntS.mono _ _ _)
      | (with_reducible exact LeO.refl _)
      | (with_reducible exact LeO.none _)
      | (with_reducible refine LeO.ite ?_ ?_)
      | (with_reducible refine LeO.bind ?_ (fun _ => ?_))
      | exact ih0 _ _ _
      | exact laws_heldIntS.mono _ _ _
      | exact LeO.none _
      | refine LeO.ite ?_ ?_
      | refine LeO.bind ?_ (fun _ => ?_)
set_option maxHeartbeats 8000000 in
set_option maxRecDepth 100000 in
theorem laws_heldIntSS.calls (k : Nat) (A0 : Option Addr) (c0 : Nat) (l0 : List (List Int)) (a1 : Int) (r : Int) (w : World) (hr0 : Kd.C (Kd.slice 3 (Kd.int .i64)) w A0 l0.length l0) (hc0 : l0.length ≤ c0) (h : laws_heldIntSS.f k l0 a1 = some r) :
    Calls Try.prog 31 #[.slice A0 l0.length c0, .int .i64 a1] w fun e w' => e = .returned (.int .i64 r) ∧ Drawn0 w w' := by
  have HR0 := Aside0.mk hr0
  have HC0 := Aside0.mk hc0
  clear hr0 hc0
  have H : (laws_heldIntSS.l0 k l0 a1 0) = some r := h
  clear h
  have H' := Aside0.mk H
  clear H
  go_enter Try.func31, Try.ntmps31
  go_wp2
  go_loopg [1, 5] k (fun kq v1 v5 w' => ∃ (x1_1 : Int) (x5_1 : Int), v1 = .int .i64 x1_1 ∧ v5 = .int .i64 x5_1 ∧ Aside0 (laws_heldIntSS.l0 kq l0 x1_1 x5_1 = some r) ∧ Aside0 (kq ≤ k) ∧ Drawn0 w w')
  case atStart => exact ⟨(a1), (0), (by first | rfl | (simp; done) | (simp [*]; done)), (by first | rfl | (simp; done) | (simp [*]; done)), H', ⟨Nat.le_refl _⟩, by repeat (first | exact Drawn0.refl _ | apply Drawn0.step)⟩
  case round =>
    clear H'
    try clear p2
    obtain ⟨x1_1, x5_1, rfl, rfl, HA, HK1, ⟨m1, rfl⟩⟩ := hrel
    cases gk with
    | zero => exact absurd HA.out (by simp [laws_heldIntSS.l0])
    | succ k1 =>
      have H := HA.out
      clear HA
      simp only [laws_heldIntSS.l0] at H
      by_cases c3 : x5_1 < (l0.length : Int)
      · rw [if_pos c3] at H
        have c3b0 : decide (x5_1 < (l0.length : Int)) = true := decide_eq_true c3
        clear c3
        by_cases c4 : 0 ≤ x5_1
        · rw [if_pos c4] at H
          have c4b0 : decide (0 ≤ x5_1) = true := decide_eq_true c4
          clear c4
          replace H := Option.bind_eq_some_iff.mp H
          obtain ⟨t188, A50, H⟩ := H
          replace H : (if t188 < 0 then (some (-1)) else (laws_heldIntSS.l0 k1 l0 t188 (wrap64 (x5_1 + 1)))) = some r := H
          have A5 := Aside0.mk A50
          clear A50
          by_cases c6 : t188 < 0
          · rw [if_pos c6] at H
            have c6b0 : decide (t188 < 0) = true := decide_eq_true c6
            clear c6
            obtain rfl := Option.some.inj H
            have p187 : 0 ≤ (x5_1 : Int) := of_decide_eq_true (by first | (with_reducible assumption) | assumption)
            have q187 : x5_1 < (l0.length : Int) := of_decide_eq_true (by first | (with_reducible assumption) | assumption)
            obtain ⟨ad187, A187_0, c187_0, e187, hx187_0, hl187_0, hi187_0⟩ := at_L2 HR0.out x5_1 p187 q187
            cases e187
            have HR187_0 := Aside0.mk hi187_0
            have HC187_0 := Aside0.mk hl187_0
            clear hi187_0 hl187_0
            replace p187 := eq_true p187
            replace q187 := eq_true q187
            go_wp2_with (first | ((with_reducible refine gate_callee (f := 60) rfl ?_); refine goesL_ (some 17) rfl rfl Try.func60 (by kernel_rfl) rfl #[.slice A187_0 (rd_L2 l0 x5_1).length c187_0, .int .i64 x1_1] rfl (by (try simp only [List.map_toArray, List.map_cons, List.map_nil]); first | done | rfl | (simp only [List.length_drop, List.length_take]; rfl)) ?_; (with_reducible refine (laws_heldIntS.calls k1 _ _ (rd_L2 l0 x5_1) x1_1 t188 _ ?side1 ?side2 A5.out).mono ?_); (case side1 => repeat (first | exact HR187_0.out | (with_reducible refine Kd.C_alloc ?_ _) | (with_reducible refine Kd.C_drewN ?_ _) | (with_reducible refine Kd.C_drew ?_))); (case side2 => exact HC187_0.out); rintro e w' ⟨rfl, ⟨nd, rfl⟩⟩; refine ⟨_, rfl, ?_⟩))
            go_ret
            exact ⟨by first | rfl | (simp; done) | (simp [*]; done), by repeat (first | exact Drawn0.refl _ | apply Drawn0.step)⟩
          · rw [if_neg c6] at H
            have c6b0 : decide (t188 < 0) = false := decide_eq_false c6
            clear c6
            have H' := Aside0.mk H
            clear H
            have p187 : 0 ≤ (x5_1 : Int) := of_decide_eq_true (by first | (with_reducible assumption) | assumption)
            have q187 : x5_1 < (l0.length : Int) := of_decide_eq_true (by first | (with_reducible assumption) | assumption)
            obtain ⟨ad187, A187_0, c187_0, e187, hx187_0, hl187_0, hi187_0⟩ := at_L2 HR0.out x5_1 p187 q187
            cases e187
            have HR187_0 := Aside0.mk hi187_0
            have HC187_0 := Aside0.mk hl187_0
            clear hi187_0 hl187_0
            replace p187 := eq_true p187
            replace q187 := eq_true q187
            go_wp2_with (first | ((with_reducible refine gate_callee (f := 60) rfl ?_); refine goesL_ (some 17) rfl rfl Try.func60 (by kernel_rfl) rfl #[.slice A187_0 (rd_L2 l0 x5_1).length c187_0, .int .i64 x1_1] rfl (by (try simp only [List.map_toArray, List.map_cons, List.map_nil]); first | done | rfl | (simp only [List.length_drop, List.length_take]; rfl)) ?_; (with_reducible refine (laws_heldIntS.calls k1 _ _ (rd_L2 l0 x5_1) x1_1 t188 _ ?side1 ?side2 A5.out).mono ?_); (case side1 => repeat (first | exact HR187_0.out | (with_reducible refine Kd.C_alloc ?_ _) | (with_reducible refine Kd.C_drewN ?_ _) | (with_reducible refine Kd.C_drew ?_))); (case side2 => exact HC187_0.out); rintro e w' ⟨rfl, ⟨nd, rfl⟩⟩; refine ⟨_, rfl, ?_⟩))
            go_roundg k1
            case measure => have := HK1.out; omega
            case rel => exact ⟨(t188), (wrap64 (x5_1 + 1)), (by first | rfl | (simp; done) | (simp [*]; done)), (by first | rfl | (simp; done) | (simp [*]; done)), H', ⟨by have := HK1.out; omega⟩, by repeat (first | exact Drawn0.refl _ | apply Drawn0.step)⟩
        · rw [if_neg c4] at H
          exact absurd H (by simp)
      · rw [if_neg c3] at H
        have c3b0 : decide (x5_1 < (l0.length : Int)) = false := decide_eq_false c3
        clear c3
        obtain rfl := Option.some.inj H
        go_wp2
        go_ret
        exact ⟨by first | rfl | (simp; done) | (simp [*]; done), by repeat (first | exact Drawn0.refl _ | apply Drawn0.step)⟩

-- NOT PRINTED: function 8 (laws_FnExactWaitsOf)

end Go.Proofs.Ytdbokdodjekchaa.PFnExactWaitsOf
