/- What both sides of FnRouteNoRound compute, in plain Lean. -/
import Derived.Test.YtdbokdodjekchaaPFnRouteNoRoundx16
import Derived.Laws.BitsLemmas
import Derived.OpenShut
namespace Go.Proofs.Ytdbokdodjekchaa.Pure
open Go.RowKit Go.Proofs.Ytdbokdodjekchaa.PFnRouteNoRound Go.Proofs.YtdbokdodjekchaaW.PrintWords Go.Proofs.YtdbokdodjekchaaW.PrintLast
theorem w_in {n : Int} (h0 : -9223372036854775808 ≤ n) (h1 : n ≤ 9223372036854775807) : wrap64 n = n:=by unfold wrap64; omega
theorem bs {α β : Type} {x : Option α} {a : α} {f : α → Option β} (h : x = some a) : x.bind f = f a:=by rw [h]; rfl
theorem b_rd {b : List Int} (hb : ∀ x ∈ b,0 ≤ x ∧ x ≤ 255) (i : Int) : 0 ≤ rd b i ∧ rd b i ≤ 255:=by
 unfold rd
 rw [List.getD_eq_getElem?_getD]
 cases h : b[i.toNat]? with
 | none => simp
 | some x => exact hb x (List.mem_of_getElem? h)
theorem xor_nn {x y : Int} (hx0 : 0 ≤ x) (hx : x < 4611686018427387904) (hy0 : 0 ≤ y) (hy : y < 4611686018427387904) : 0 ≤ Go.bits .xor .i64 x y:=by
 obtain ⟨a,rfl⟩:=Int.eq_ofNat_of_zero_le hx0
 obtain ⟨b,rfl⟩:=Int.eq_ofNat_of_zero_le hy0
 have ha : a < 2 ^ 62:=by simp; omega
 have hb : b < 2 ^ 62:=by simp; omega
 have hc : a ^^^ b < 2 ^ 62:=Nat.xor_lt_two_pow ha hb
 have ha' : a % 2 ^ 64 = a:=Nat.mod_eq_of_lt (by simp at ha ⊢; omega)
 have hb' : b % 2 ^ 64 = b:=Nat.mod_eq_of_lt (by simp at hb ⊢; omega)
 have key : (BitVec.ofNat 64 a ^^^ BitVec.ofNat 64 b).toNat = a ^^^ b:=by rw [BitVec.toNat_xor,BitVec.toNat_ofNat,BitVec.toNat_ofNat,ha',hb']
 have e : Go.bits .xor .i64 (a : Int) (b : Int) = IntKind.i64.wrap (((BitVec.ofNat 64 a ^^^ BitVec.ofNat 64 b).toNat : Nat) : Int):=by
  simp only [Go.bits,BitVec.ofInt_natCast]
  rfl
 rw [e,key,IntKind.wrap_i64]
 generalize a ^^^ b = c at hc
 simp at hc
 omega
theorem tm_bd {x n : Int} (hx : 0 ≤ x) (hn : 0 < n) : 0 ≤ Int.tmod x n ∧ Int.tmod x n < n:=by
 rw [Int.tmod_eq_emod_of_nonneg hx]
 exact ⟨Int.emod_nonneg _ (by omega),Int.emod_lt_of_pos _ hn⟩
theorem pick_ok {k : Nat} {b : List Int} {p n : Int} (hb : ∀ x ∈ b,0 ≤ x ∧ x ≤ 255) (hp0 : 0 ≤ p) (hp : p ≤ 100000000) (hn : 1 ≤ n) (hk : 0 < k) :
  ∃ v,spec_l21Rd_pick.f k b p n = some (v,p + 1) ∧ 0 ≤ v ∧ v < n:=by
 obtain ⟨k,rfl⟩ : ∃ m,k = m + 1:=⟨k - 1,by omega⟩
 have e1 : wrap64 (p + 1) = p + 1:=w_in (by omega) (by omega)
 have e2 : wrap64 (p + 1 - 1) = p:=by rw [show p + 1 - 1 = p by omega]; exact w_in (by omega) (by omega)
 unfold spec_l21Rd_pick.f
 rw [if_neg (by omega),e1]
 simp only [spec_l21Rd_pick.j0,e2]
 by_cases h0 : b.length = 0
 ·
  rw [if_pos (by simp [h0])]
  exact ⟨0,rfl,by omega,by omega⟩
 rw [if_neg (by simp; intro h; simp [h] at h0)]
 have hl : 0 < (b.length : Int):=by omega
 by_cases h1 : p < (b.length : Int)
 ·
  rw [if_pos h1,if_pos hp0,if_neg (by omega)]
  have:=b_rd hb p
  rw [w_in (n:=rd b p) (by omega) (by omega)]
  exact ⟨_,rfl,(tm_bd this.1 (by omega)).1,(tm_bd this.1 (by omega)).2⟩
 rw [if_neg h1,if_neg (by omega)]
 have m1:=tm_bd (x:=p) (n:=b.length) hp0 hl
 have e3 : wrap64 (p * 7) = p * 7:=w_in (by omega) (by omega)
 have e4 : wrap64 (p * 7 + 3) = p * 7 + 3:=w_in (by omega) (by omega)
 have m2:=tm_bd (x:=p * 7 + 3) (n:=b.length) (by omega) hl
 rw [e3,e4,if_pos m1.1,if_pos m1.2,if_pos m2.1,if_pos m2.2,if_neg (by omega)]
 have r1:=b_rd hb (Int.tmod p b.length)
 have r2:=b_rd hb (Int.tmod (p * 7 + 3) b.length)
 generalize rd b (Int.tmod p b.length) = u at r1
 generalize rd b (Int.tmod (p * 7 + 3) b.length) = v at r2
 have d1 : 0 ≤ Int.tdiv p b.length ∧ Int.tdiv p b.length ≤ p:=by
  rw [Int.tdiv_eq_ediv_of_nonneg hp0]
  exact ⟨Int.ediv_nonneg hp0 (by omega),Int.ediv_le_self _ hp0⟩
 generalize Int.tdiv p b.length = d at d1
 have e5 : wrap64 (wrap64 (wrap64 (wrap64 (wrap64 u * 131) + wrap64 (wrap64 v * 1117)) + wrap64 (p * 29)) + wrap64 (wrap64 d * 53)) = u * 131 + v * 1117 + p * 29 + d * 53:=by
  rw [w_in (n:=u) (by omega) (by omega),w_in (n:=v) (by omega) (by omega),w_in (n:=d) (by omega) (by omega),w_in (n:=u * 131) (by omega) (by omega),w_in (n:=v * 1117) (by omega) (by omega),w_in (n:=p * 29) (by omega) (by omega),w_in (n:=d * 53) (by omega) (by omega),w_in (n:=u * 131 + v * 1117) (by omega) (by omega),w_in (n:=u * 131 + v * 1117 + p * 29) (by omega) (by omega),w_in (by omega) (by omega)]
 rw [e5]
 have hx0 : 0 ≤ u * 131 + v * 1117 + p * 29 + d * 53:=by omega
 have hx1 : u * 131 + v * 1117 + p * 29 + d * 53 < 4611686018427387904:=by omega
 generalize u * 131 + v * 1117 + p * 29 + d * 53 = x at hx0 hx1
 have d2 : 0 ≤ Int.tdiv x 64 ∧ Int.tdiv x 64 < 4611686018427387904:=by
  rw [Int.tdiv_eq_ediv_of_nonneg hx0]
  omega
 rw [w_in (n:=Int.tdiv x 64) (by omega) (by omega)]
 have hz:=xor_nn hx0 hx1 d2.1 d2.2
 exact ⟨_,rfl,(tm_bd hz (by omega)).1,(tm_bd hz (by omega)).2⟩
theorem num_ok {k : Nat} {b : List Int} {p : Int} {xs : List Int} (hb : ∀ x ∈ b,0 ≤ x ∧ x ≤ 255) (hp0 : 0 ≤ p) (hp : p ≤ 100000000) (hn : 1 ≤ xs.length) (hk : 0 < k) :
  ∃ v,spec_l21Rd_num.f k b p xs = some (v,p + 1) ∧ v ∈ xs:=by
 obtain ⟨i,hi,h0,h1⟩:=pick_ok (n:=(xs.length : Int)) hb hp0 hp (by omega) hk
 refine ⟨rd xs i,?_,?_⟩
 ·
  unfold spec_l21Rd_num.f
  rw [hi]
  simp only [Option.bind_some]
  rw [if_pos h0,if_pos h1]
 ·
  unfold rd
  rw [List.getD_eq_getElem?_getD,List.getElem?_eq_getElem (by omega)]
  exact List.getElem_mem _
theorem open_ok {l : List Int} (hl : ∀ x ∈ l,(Lit.int .u8 x).wf = true) : ∃ b,spec_l21Open.f l = some (b,0) ∧ ∀ x ∈ b,0 ≤ x ∧ x ≤ 255:=by
 have hb : ∀ x ∈ l,0 ≤ x ∧ x ≤ 255:=fun x hx => bounds_u8 (hl x hx)
 unfold spec_l21Open.f
 by_cases h : (l.length : Int) > 2000
 ·
  rw [if_pos h,if_pos (by omega)]
  exact ⟨_,rfl,fun x hx => hb x (List.mem_of_mem_take hx)⟩
 ·
  rw [if_neg h]
  exact ⟨_,rfl,hb⟩
theorem allO_total {α : Type} {p : α → Option Bool} {q : α → Bool} : ∀ (l : List α),(∀ x ∈ l,p x = some (q x)) → allO p l = some (l.all q)
 | [],_ => rfl
 | x :: xs,h => by
  have ih:=allO_total xs (fun y hy => h y (List.mem_cons_of_mem _ hy))
  simp only [allO,h x (List.mem_cons_self),Option.bind_some,List.all_cons]
  cases q x
  ·
   simp
  ·
   simpa using ih
theorem rd_at {l : List Int} {i : Int} (h0 : 0 ≤ i) (h : i.toNat < l.length) : l.drop i.toNat = rd l i :: l.drop (i + 1).toNat:=by
 rw [List.drop_eq_getElem_cons h,show (i + 1).toNat = i.toNat + 1 by omega]
 unfold rd
 rw [List.getD_eq_getElem?_getD,List.getElem?_eq_getElem h]
 rfl
theorem rd_mem {l : List Int} {i : Int} (h0 : 0 ≤ i) (h : i < l.length) : rd l i ∈ l:=by
 unfold rd
 rw [List.getD_eq_getElem?_getD,List.getElem?_eq_getElem (by omega)]
 exact List.getElem_mem _
theorem s_in (a b c : Int) : spec_l1In.f a b c = some (decide (b ≤ a ∧ a ≤ c)):=by
 unfold spec_l1In.f
 by_cases h : b ≤ a <;> simp [h]
theorem i_in (a b c : Int) : impl_within.f a b c = some (decide (b ≤ a ∧ a ≤ c)):=by
 unfold impl_within.f
 by_cases h : b ≤ a <;> simp [h]
theorem wire_l0 (a d0 d1 : Int) : impl_fabric_wire.l0 5 a d0 d1 0 = if d0 = 1 ∧ d1 = 0 then some (wrap64 (wrap64 (4 * a) + 0)) else if d0 = -1 ∧ d1 = 0 then some (wrap64 (wrap64 (4 * a) + 1)) else if d0 = 0 ∧ d1 = 1 then some (wrap64 (wrap64 (4 * a) + 2)) else if d0 = 0 ∧ d1 = -1 then some (wrap64 (wrap64 (4 * a) + 3)) else some (-1):=by
 rfl
def nodes (w h a b : Int) : Bool:=decide (1 ≤ w ∧ w ≤ 5) && decide (1 ≤ h ∧ h ≤ 5) && decide (0 ≤ a ∧ a ≤ wrap64 (wrap64 (w * h) - 1)) && decide (0 ≤ b ∧ b ≤ wrap64 (wrap64 (w * h) - 1))
theorem spec_nodes (w h a b : Int) : spec_l16Nodes.f w h a b = some (nodes w h a b):=by
 unfold spec_l16Nodes.f spec_l16Fabric.f nodes
 simp only [s_in,Option.bind_some]
 generalize decide (1 ≤ w ∧ w ≤ 5) = x
 generalize decide (1 ≤ h ∧ h ≤ 5) = y
 generalize decide (0 ≤ a ∧ a ≤ wrap64 (wrap64 (w * h) - 1)) = z
 generalize decide (0 ≤ b ∧ b ≤ wrap64 (wrap64 (w * h) - 1)) = u
 cases x <;> cases y <;> cases z <;> cases u <;> rfl
theorem small {w h n : Int} (h1 : 1 ≤ w ∧ w ≤ 5) (h2 : 1 ≤ h ∧ h ≤ 5) (h3 : 0 ≤ n ∧ n ≤ wrap64 (wrap64 (w * h) - 1)) : 0 ≤ n ∧ n ≤ 24:=by
 have e : 0 ≤ w * h ∧ w * h ≤ 25:=by
  have hh : h = 1 ∨ h = 2 ∨ h = 3 ∨ h = 4 ∨ h = 5:=by omega
  rcases hh with rfl | rfl | rfl | rfl | rfl <;> omega
 rw [w_in (n:=w * h) (by omega) (by omega),w_in (n:=w * h - 1) (by omega) (by omega)] at h3
 omega
theorem tm {n w : Int} (h0 : 0 ≤ n ∧ n ≤ 24) (hw : 1 ≤ w ∧ w ≤ 5) : (0 ≤ Int.tmod n w ∧ Int.tmod n w ≤ 4) ∧ (0 ≤ Int.tdiv n w ∧ Int.tdiv n w ≤ 24):=by
 rw [Int.tmod_eq_emod_of_nonneg h0.1,Int.tdiv_eq_ediv_of_nonneg h0.1]
 have a:=Int.emod_nonneg n (show w ≠ 0 by omega)
 have b:=Int.emod_lt_of_pos n (show 0 < w by omega)
 have c:=Int.ediv_nonneg h0.1 (show 0 ≤ w by omega)
 have d:=Int.ediv_le_self w h0.1
 exact ⟨⟨a,by omega⟩,⟨c,by omega⟩⟩
theorem wires (a ax ay bx by_ : Int) (hax : 0 ≤ ax ∧ ax ≤ 4) (hay : 0 ≤ ay ∧ ay ≤ 24) (hbx : 0 ≤ bx ∧ bx ≤ 4) (hby : 0 ≤ by_ ∧ by_ ≤ 24) (ha : 0 ≤ a ∧ a ≤ 24) (k : Nat) :
  (if ay = by_ then spec_l16Wire.j0 (k + 3) a ax ay bx by_ (bx == wrap64 (ax + 1)) else spec_l16Wire.j0 (k + 3) a ax ay bx by_ false) = impl_fabric_wire.l0 5 a (wrap64 (bx - ax)) (wrap64 (by_ - ay)) 0:=by
 rw [wire_l0,w_in (n:=bx - ax) (by omega) (by omega),w_in (n:=by_ - ay) (by omega) (by omega),w_in (n:=ax + 1) (by omega) (by omega)]
 simp only [spec_l16Wire.j0,spec_l16Wire.j1,spec_l16Wire.j2]
 rw [w_in (n:=4 * a) (by omega) (by omega),w_in (n:=4 * a + 0) (by omega) (by omega),w_in (n:=ax - 1) (by omega) (by omega),w_in (n:=ay + 1) (by omega) (by omega),w_in (n:=ay - 1) (by omega) (by omega),Int.add_zero]
 by_cases e1 : ay = by_
 ·
  by_cases e2 : bx = ax + 1
  ·
   have q : (bx == ax + 1) = true:=beq_iff_eq.mpr e2
   rw [if_pos e1,if_pos q,if_pos (show (bx - ax = 1 ∧ by_ - ay = 0) by omega)]
  ·
   have q : ¬ ((bx == ax + 1) = true):=by simpa using e2
   rw [if_pos e1,if_neg q,if_pos e1,if_neg (show ¬ (bx - ax = 1 ∧ by_ - ay = 0) by omega)]
   by_cases e3 : bx = ax - 1
   ·
    have q : (bx == ax - 1) = true:=beq_iff_eq.mpr e3
    rw [if_pos q,if_pos (show (bx - ax = -1 ∧ by_ - ay = 0) by omega)]
   ·
    have q : ¬ ((bx == ax - 1) = true):=by simpa using e3
    rw [if_neg q,if_neg (show ¬ (bx - ax = -1 ∧ by_ - ay = 0) by omega),if_neg (show ¬ (bx - ax = 0 ∧ by_ - ay = 1) by omega),if_neg (show ¬ (bx - ax = 0 ∧ by_ - ay = -1) by omega)]
    by_cases e4 : ax = bx
    ·
     have q : ¬ ((by_ == ay + 1) = true):=by simp; omega
     rw [if_pos e4,if_neg q,if_pos e4,if_neg (show ¬ by_ = ay - 1 by omega)]
    ·
     rw [if_neg e4,if_neg (show ¬ (false = true) by decide),if_neg e4]
 ·
  rw [if_neg e1,if_neg (show ¬ (false = true) by decide),if_neg e1,if_neg (show ¬ (false = true) by decide),if_neg (show ¬ (bx - ax = 1 ∧ by_ - ay = 0) by omega),if_neg (show ¬ (bx - ax = -1 ∧ by_ - ay = 0) by omega)]
  by_cases e4 : ax = bx
  ·
   rw [if_pos e4]
   by_cases e5 : by_ = ay + 1
   ·
    have q : (by_ == ay + 1) = true:=beq_iff_eq.mpr e5
    rw [if_pos q,if_pos (show (bx - ax = 0 ∧ by_ - ay = 1) by omega)]
   ·
    have q : ¬ ((by_ == ay + 1) = true):=by simpa using e5
    rw [if_neg q,if_pos e4,if_neg (show ¬ (bx - ax = 0 ∧ by_ - ay = 1) by omega)]
    by_cases e6 : by_ = ay - 1
    ·
     rw [if_pos e6,if_pos (show (bx - ax = 0 ∧ by_ - ay = -1) by omega)]
    ·
     rw [if_neg e6,if_neg (show ¬ (bx - ax = 0 ∧ by_ - ay = -1) by omega)]
  ·
   rw [if_neg e4,if_neg (show ¬ (false = true) by decide),if_neg e4,if_neg (show ¬ (bx - ax = 0 ∧ by_ - ay = 1) by omega),if_neg (show ¬ (bx - ax = 0 ∧ by_ - ay = -1) by omega)]
def nd (w h x : Int) : Bool:=decide (1 ≤ w ∧ w ≤ 5) && decide (1 ≤ h ∧ h ≤ 5) && decide (0 ≤ x ∧ x ≤ wrap64 (wrap64 (w * h) - 1))
theorem nd_open {w h x : Int} (k : nd w h x = true) : (1 ≤ w ∧ w ≤ 5) ∧ (1 ≤ h ∧ h ≤ 5) ∧ (0 ≤ x ∧ x ≤ wrap64 (wrap64 (w * h) - 1)):=by
 simp only [nd,Bool.and_eq_true,decide_eq_true_eq] at k
 exact ⟨k.1.1,k.1.2,k.2⟩
theorem spec_nd (w h x : Int) : spec_l16Nodes.f w h x x = some (nd w h x):=by
 rw [spec_nodes]
 unfold nodes nd
 generalize decide (1 ≤ w ∧ w ≤ 5) = a
 generalize decide (1 ≤ h ∧ h ≤ 5) = b
 generalize decide (0 ≤ x ∧ x ≤ wrap64 (wrap64 (w * h) - 1)) = c
 cases a <;> cases b <;> cases c <;> rfl
theorem impl_nd (w h x : Int) : impl_fabric_node.f w h x = some (nd w h x):=by
 unfold impl_fabric_node.f impl_fabric_valid.f nd
 simp only [i_in,Option.bind_some]
 generalize decide (1 ≤ w ∧ w ≤ 5) = a
 generalize decide (1 ≤ h ∧ h ≤ 5) = b
 generalize decide (0 ≤ x ∧ x ≤ wrap64 (wrap64 (w * h) - 1)) = c
 cases a <;> cases b <;> cases c <;> rfl
def wr16 (w a b : Int) : Option Int:=impl_fabric_wire.l0 5 a (wrap64 (Int.tmod b w - Int.tmod a w)) (wrap64 (wrap64 (Int.tdiv b w) - wrap64 (Int.tdiv a w))) 0
theorem wr16_some (w a b : Int) : ∃ v,wr16 w a b = some v:=by
 unfold wr16
 rw [wire_l0]
 split
 ·
  exact ⟨_,rfl⟩
 ·
  split
  ·
   exact ⟨_,rfl⟩
  ·
   split
   ·
    exact ⟨_,rfl⟩
   ·
    split <;> exact ⟨_,rfl⟩
theorem spec_wire16 {w h a b : Int} (ka : nd w h a = true) (kb : nd w h b = true) {k : Nat} (hk : 3 ≤ k) : spec_l16Wire.f k w a b = wr16 w a b:=by
 obtain ⟨k,rfl⟩ : ∃ q,k = q + 3:=⟨k - 3,by omega⟩
 have oa:=nd_open ka
 have ob:=nd_open kb
 have ha:=small oa.1 oa.2.1 oa.2.2
 have hb:=small ob.1 ob.2.1 ob.2.2
 have ta:=tm ha oa.1
 have tb:=tm hb oa.1
 have hw : ¬ w = 0:=by omega
 unfold spec_l16Wire.f wr16
 rw [if_neg hw,w_in (n:=Int.tdiv a w) (by omega) (by omega),w_in (n:=Int.tdiv b w) (by omega) (by omega)]
 exact wires a _ _ _ _ ta.1 ta.2 tb.1 tb.2 ha k
theorem impl_wire16 {w h a b : Int} (ka : nd w h a = true) (kb : nd w h b = true) : impl_fabric_wire.f w h a b = wr16 w a b:=by
 have oa:=nd_open ka
 have hw : ¬ w = 0:=by omega
 unfold impl_fabric_wire.f wr16
 rw [impl_nd,impl_nd,ka,kb]
 simp only [Option.bind_some,if_true]
 rw [if_neg hw]
def ng (w a b : Int) : Bool:=match wr16 w a b with | some v => decide (v < 0) | none => false
theorem ng_eq {w a b v : Int} (h : wr16 w a b = some v) : ng w a b = decide (v < 0):=by unfold ng; rw [h]
def prs (w : Int) (l : List Int) : Int → Nat → Bool
 | _,0 => true
 | i,d + 1 => (decide (i ≤ 0) || !(ng w (rd l (i - 1)) (rd l i))) && prs w l (i + 1) d
theorem spec_way_loop (w h : Int) (l : List Int) (hl : l.length ≤ 9223372036854775806) (d : Nat) : ∀ (k : Nat) (i : Int),0 ≤ i → i + d = l.length → d + 5 < k → (i > 0 → nd w h (rd l (i - 1)) = true) →
  spec_WayValid.l0 k w h l i = some ((l.drop i.toNat).all (nd w h) && prs w l i d && decide (1 ≤ (l.length : Int) ∧ (l.length : Int) ≤ 30)):=by
 induction d with
 | zero =>
  intro k i h0 h1 hk hp
  obtain ⟨k,rfl⟩ : ∃ m,k = m + 1:=⟨k - 1,by omega⟩
  simp only [spec_WayValid.l0,s_in,Option.bind_some]
  rw [if_neg (by omega),List.drop_eq_nil_of_le (by omega)]
  simp only [List.all_nil,prs,Bool.true_and]
 | succ d ih =>
  intro k i h0 h1 hk hp
  obtain ⟨k,rfl⟩ : ∃ m,k = m + 1:=⟨k - 1,by omega⟩
  rw [rd_at h0 (by omega)]
  simp only [spec_WayValid.l0,spec_nd,Option.bind_some]
  rw [if_pos (by omega),if_pos h0,w_in (n:=i - 1) (by omega) (by omega),w_in (n:=i + 1) (by omega) (by omega)]
  simp only [List.all_cons,prs]
  by_cases hc : nd w h (rd l i) = true
  ·
   rw [if_pos hc,ih k (i + 1) (by omega) (by omega) (by omega) (fun _ => by rw [show i + 1 - 1 = i by omega]; exact hc)]
   simp only [hc,Bool.true_and]
   by_cases hi : i > 0
   ·
    have e : decide (i ≤ 0) = false:=by simp; omega
    obtain ⟨v,hv⟩:=wr16_some w (rd l (i - 1)) (rd l i)
    rw [if_pos hi,if_pos (by omega),if_pos (by omega),spec_wire16 (hp hi) hc (by omega),hv,ng_eq hv,e]
    simp only [Option.bind_some,Bool.false_or]
    by_cases q : v < 0
    ·
     rw [if_pos q]
     simp [q]
    ·
     rw [if_neg q]
     simp [q]
   ·
    have e : decide (i ≤ 0) = true:=by simp; omega
    rw [if_neg hi,e]
    simp
  ·
   rw [if_neg hc]
   simp [hc]
theorem rd_all {p : Int → Bool} {l : List Int} (h : l.all p = true) {i : Int} (h0 : 0 ≤ i) (h1 : i < l.length) : p (rd l i) = true:=List.all_eq_true.mp h _ (rd_mem h0 h1)
theorem impl_way_loop (w h : Int) (l : List Int) (hl : l.length ≤ 9223372036854775806) (ha : l.all (nd w h) = true) (d : Nat) : ∀ (k : Nat) (i : Int),1 ≤ i → i + d = l.length → d < k →
  impl_fabric_way.l0 k l i w h = some (prs w l i d):=by
 induction d with
 | zero =>
  intro k i h0 h1 hk
  obtain ⟨k,rfl⟩ : ∃ m,k = m + 1:=⟨k - 1,by omega⟩
  simp only [impl_fabric_way.l0]
  rw [if_neg (by omega)]
  rfl
 | succ d ih =>
  intro k i h0 h1 hk
  obtain ⟨k,rfl⟩ : ∃ m,k = m + 1:=⟨k - 1,by omega⟩
  simp only [impl_fabric_way.l0]
  have e : decide (i ≤ 0) = false:=by simp; omega
  obtain ⟨v,hv⟩:=wr16_some w (rd l (i - 1)) (rd l i)
  rw [if_pos (by omega),w_in (n:=i - 1) (by omega) (by omega),w_in (n:=i + 1) (by omega) (by omega),if_pos (by omega),if_pos (by omega),if_pos (by omega),impl_wire16 (rd_all ha (by omega) (by omega)) (rd_all ha (by omega) (by omega)),hv,ih k (i + 1) (by omega) (by omega) (by omega)]
  simp only [Option.bind_some,prs,ng_eq hv,e,Bool.false_or]
  by_cases q : v < 0
  ·
   rw [if_pos q]
   simp [q]
  ·
   rw [if_neg q]
   simp [q]
def wayv (w h : Int) (l : List Int) : Bool:=l.all (nd w h) && prs w l 0 l.length && decide (1 ≤ (l.length : Int) ∧ (l.length : Int) ≤ 30)
theorem spec_way {w h : Int} {l : List Int} (hl : l.length ≤ 9223372036854775806) {k : Nat} (hk : l.length + 5 < k) : spec_WayValid.f k w h l = some (wayv w h l):=by
 unfold spec_WayValid.f wayv
 rw [spec_way_loop w h l hl l.length k 0 (by omega) (by omega) hk (fun h => by omega)]
 simp
theorem impl_fway {w h : Int} {l : List Int} (hl : l.length ≤ 9223372036854775806) {k : Nat} (hk : l.length + 5 < k) : impl_fabric_way.f k w h l = some (wayv w h l):=by
 obtain ⟨k,rfl⟩ : ∃ m,k = m + 1:=⟨k - 1,by omega⟩
 unfold impl_fabric_way.f all_impl_fabric_node.f wayv
 rw [i_in,allO_total (q:=nd w h) l (fun x _ => impl_nd w h x)]
 simp only [Option.bind_some,impl_fabric_way.j0]
 by_cases h1 : 1 ≤ (l.length : Int) ∧ (l.length : Int) ≤ 30
 ·
  rw [if_pos (by simpa using h1)]
  by_cases ha : l.all (nd w h) = true
  ·
   rw [if_neg (by simp only [ha]; decide),impl_way_loop w h l hl ha (l.length - 1) k 1 (by omega) (by omega) (by omega),ha,decide_eq_true h1]
   obtain ⟨n,hn⟩ : ∃ n,l.length = n + 1:=⟨l.length - 1,by omega⟩
   rw [hn]
   simp [prs]
  ·
   have e : l.all (nd w h) = false:=by simpa using ha
   rw [if_pos (by simp only [e]; decide),e]
   rfl
 ·
  rw [if_neg (by simpa using h1),decide_eq_false h1]
  simp
def GoodL (L : List (List Int)) (N : Nat) : Prop:=L.length ≤ 12 ∧ N ≤ 1000 ∧ ∀ i : Nat,i < L.length → (rd_L2 L i).length ≤ 30 ∧ (∀ j : Int,0 ≤ j → j < (rd_L2 L i).length → 0 ≤ rd (rd_L2 L i) j ∧ rd (rd_L2 L i) j < N) ∧ (∀ j : Int,1 ≤ j → j < (rd_L2 L i).length → rd (rd_L2 L i) (j - 1) ≠ rd (rd_L2 L i) j)
def remw (r : List Int) (x : Int) (b : Bool) : Nat:=if b = true then 0 else r.length + 1 - x.toNat
def phi : List (List Int) → List Int → List Bool → Nat
 | r :: L,x :: a,b :: d => remw r x b + phi L a d
 | _,_,_ => 0
theorem phi_step : ∀ (L : List (List Int)) (a : List Int) (d : List Bool) (i : Nat),i < L.length → a.length = L.length → d.length = L.length → ∀ (x : Int) (b : Bool),remw (rd_L2 L i) x b + 1 ≤ remw (rd_L2 L i) (rd a i) (rdOf false d i) → phi L (a.set i x) (d.set i b) + 1 ≤ phi L a d
 | [],_,_,_,h,_,_,_,_,_ => absurd h (Nat.not_lt_zero _)
 | _ :: _,[],_,_,_,h,_,_,_,_ => by simp at h
 | _ :: _,_ :: _,[],_,_,_,h,_,_,_ => by simp at h
 | r :: L,y :: a,c :: d,0,_,_,_,x,b,h => by
  have h' : remw r x b + 1 ≤ remw r y c:=h
  simp only [List.set_cons_zero,phi]
  omega
 | r :: L,y :: a,c :: d,i + 1,h0,h1,h2,x,b,h => by
  have ih:=phi_step L a d i (by simpa using h0) (by simpa using h1) (by simpa using h2) x b (by
   have e1 : rd_L2 (r :: L) ((i + 1 : Nat) : Int) = rd_L2 L (i : Int):=by unfold rd_L2; simp [Int.toNat_natCast]
   have e2 : rd (y :: a) ((i + 1 : Nat) : Int) = rd a (i : Int):=by unfold rd; simp [Int.toNat_natCast]
   have e3 : rdOf false (c :: d) ((i + 1 : Nat) : Int) = rdOf false d (i : Int):=by unfold rdOf; simp [Int.toNat_natCast]
   rw [e1,e2,e3] at h
   exact h)
  simp only [List.set_cons_succ,phi]
  omega
def RelH (s : List (Int × Bool)) (H : List Bool) : Prop:=∀ x : Int,0 ≤ x → x < H.length → mget s x = rdOf false H x
theorem rdOf_set {H : List Bool} {y x : Int} (b : Bool) (hy : 0 ≤ y) (hy2 : y < H.length) (hx : 0 ≤ x) : rdOf false (H.set y.toNat b) x = if x = y then b else rdOf false H x:=by
 unfold rdOf
 rw [List.getD_eq_getElem?_getD,List.getD_eq_getElem?_getD]
 by_cases e : x = y
 ·
  subst e
  rw [if_pos rfl,List.getElem?_set_self (by omega)]
  rfl
 ·
  rw [if_neg e,List.getElem?_set_ne (by omega)]
theorem rel_set {s : List (Int × Bool)} {H : List Bool} (h : RelH s H) {y : Int} (b : Bool) (hy : 0 ≤ y) (hy2 : y < H.length) : RelH ((y,b) :: s) (H.set y.toNat b):=by
 intro x h0 h1
 rw [List.length_set] at h1
 rw [rdOf_set b hy hy2 h0]
 show (if x = y then b else mget s x) = _
 by_cases e : x = y
 ·
  rw [if_pos e,if_pos e]
 ·
  rw [if_neg e,if_neg e,h x h0 h1]
theorem rel_set2 {s : List (Int × Bool)} {H : List Bool} (h : RelH s H) {y z : Int} (hne : z ≠ y) (hy : 0 ≤ y) (hy2 : y < H.length) (hz : 0 ≤ z) (hz2 : z < H.length) : RelH ((y,true) :: ((z,false) :: s)) ((H.set y.toNat true).set z.toNat false):=by
 have h2:=rel_set (rel_set h false hz hz2) true hy (by simpa using hy2)
 rw [List.set_comm _ _ (by omega : z.toNat ≠ y.toNat)] at h2
 exact h2
def InvW (L : List (List Int)) (N : Nat) (a : List Int) (d H : List Bool) : Prop:=a.length = L.length ∧ d.length = L.length ∧ H.length = N ∧ ∀ i : Nat,i < L.length → 0 ≤ rd a i ∧ rd a i ≤ (rd_L2 L i).length
theorem rd_set_i {a : List Int} {i j : Nat} (x : Int) (hi : i < a.length) : rd (a.set i x) j = if j = i then x else rd a j:=by
 unfold rd
 rw [List.getD_eq_getElem?_getD,List.getD_eq_getElem?_getD,Int.toNat_natCast]
 by_cases e : j = i
 ·
  subst e
  rw [if_pos rfl,List.getElem?_set_self hi]
  rfl
 ·
  rw [if_neg e,List.getElem?_set_ne (fun h => e h.symm)]
theorem inv_a {L : List (List Int)} {N : Nat} {a : List Int} {d H : List Bool} (I : InvW L N a d H) {i : Nat} (hi : i < L.length) {x : Int} (h0 : 0 ≤ x) (h1 : x ≤ (rd_L2 L i).length) {H' : List Bool} (hH : H'.length = H.length) : InvW L N (a.set i x) d H':=by
 refine ⟨by rw [List.length_set]; exact I.1,I.2.1,by rw [hH]; exact I.2.2.1,fun j hj => ?_⟩
 rw [rd_set_i x (by rw [I.1]; exact hi)]
 by_cases e : j = i
 ·
  subst e; rw [if_pos rfl]; exact ⟨h0,h1⟩
 ·
  rw [if_neg e]; exact I.2.2.2 j hj
theorem inv_d {L : List (List Int)} {N : Nat} {a : List Int} {d H : List Bool} (I : InvW L N a d H) (i : Nat) (b : Bool) {H' : List Bool} (hH : H'.length = H.length) : InvW L N a (d.set i b) H' :=
 ⟨I.1,by rw [List.length_set]; exact I.2.1,by rw [hH]; exact I.2.2.1,I.2.2.2⟩
theorem set_same_b {d : List Bool} {i : Nat} (hi : i < d.length) : d.set i (rdOf false d i) = d:=by
 unfold rdOf
 rw [Int.toNat_natCast,List.getD_eq_getElem?_getD,List.getElem?_eq_getElem hi]
 simp
theorem set_same_i {a : List Int} {i : Nat} (hi : i < a.length) : a.set i (rd a i) = a:=by
 unfold rd
 rw [Int.toNat_natCast,List.getD_eq_getElem?_getD,List.getElem?_eq_getElem hi]
 simp
def decw (a : List Int) : List Int:=a.map fun x => x - 1
theorem decw_len (a : List Int) : (decw a).length = a.length:=by simp [decw]
theorem decw_rd {a : List Int} {i : Nat} (hi : i < a.length) : rd (decw a) i = rd a i - 1:=by
 unfold decw rd
 rw [Int.toNat_natCast,List.getD_eq_getElem?_getD,List.getD_eq_getElem?_getD,List.getElem?_map,List.getElem?_eq_getElem hi]
 rfl
theorem decw_set (a : List Int) (i : Nat) (x : Int) : (decw a).set i x = decw (a.set i (x + 1)):=by
 unfold decw
 rw [List.map_set]
 congr 1
 omega
def HInv (L : List (List Int)) (a : List Int) (d H : List Bool) : Prop:=∀ x : Int,0 ≤ x → rdOf false H x = true → ∃ j : Nat,j < L.length ∧ rdOf false d j = false ∧ 0 < rd a j ∧ rd (rd_L2 L j) (rd a j - 1) = x
def Blk (L : List (List Int)) (a : List Int) (d H : List Bool) (i : Nat) : Prop:=rdOf false d i = true ∨ (rd a i < ((rd_L2 L i).length : Int) ∧ rdOf false H (rd (rd_L2 L i) (rd a i)) = true)
theorem rdb_set {d : List Bool} {i j : Nat} (b : Bool) (hi : i < d.length) : rdOf false (d.set i b) j = if j = i then b else rdOf false d j:=by
 unfold rdOf
 rw [List.getD_eq_getElem?_getD,List.getD_eq_getElem?_getD,Int.toNat_natCast]
 by_cases e : j = i
 ·
  subst e
  rw [if_pos rfl,List.getElem?_set_self hi]
  rfl
 ·
  rw [if_neg e,List.getElem?_set_ne (fun h => e h.symm)]
theorem hinv_done {L : List (List Int)} {a : List Int} {d H : List Bool} {i : Nat} (hi : i < d.length) {y : Int} (hy : y = rd (rd_L2 L i) (rd a i - 1)) (hy0 : 0 ≤ y) (hy1 : y < H.length) (h : HInv L a d H) : HInv L a (d.set i true) (H.set y.toNat false):=by
 intro x hx hxt
 rw [rdOf_set false hy0 hy1 hx] at hxt
 by_cases e : x = y
 ·
  rw [if_pos e] at hxt; exact absurd hxt (by decide)
 ·
  rw [if_neg e] at hxt
  obtain ⟨j,j1,j2,j3,j4⟩:=h x hx hxt
  refine ⟨j,j1,?_,j3,j4⟩
  rw [rdb_set true hi,if_neg ?_]
  ·
   exact j2
  ·
   rintro rfl
   exact e (j4.symm.trans hy.symm)
theorem hinv_done0 {L : List (List Int)} {a : List Int} {d H : List Bool} {i : Nat} (hi : i < d.length) (h0 : ¬ rd a i > 0) (h : HInv L a d H) : HInv L a (d.set i true) H:=by
 intro x hx hxt
 obtain ⟨j,j1,j2,j3,j4⟩:=h x hx hxt
 refine ⟨j,j1,?_,j3,j4⟩
 rw [rdb_set true hi,if_neg ?_]
 ·
  exact j2
 ·
  rintro rfl
  exact h0 j3
theorem hinv_move {L : List (List Int)} {a : List Int} {d H : List Bool} {i : Nat} (hiL : i < L.length) (hi : i < a.length) (hd : rdOf false d i = false) {y z : Int} (hy : y = rd (rd_L2 L i) (rd a i)) (hy0 : 0 ≤ y) (hy1 : y < H.length) (hz : z = rd (rd_L2 L i) (rd a i - 1)) (hz0 : 0 ≤ z) (hz1 : z < H.length) (h0 : 0 ≤ rd a i) (h : HInv L a d H) : HInv L (a.set i (rd a i + 1)) d ((H.set y.toNat true).set z.toNat false):=by
 intro x hx hxt
 rw [rdOf_set false hz0 (by rw [List.length_set]; exact hz1) hx,rdOf_set true hy0 hy1 hx] at hxt
 by_cases e : x = z
 ·
  rw [if_pos e] at hxt; exact absurd hxt (by decide)
 rw [if_neg e] at hxt
 by_cases e2 : x = y
 ·
  refine ⟨i,hiL,hd,?_,?_⟩
  ·
   rw [rd_set_i _ hi,if_pos rfl]; omega
  ·
   rw [rd_set_i _ hi,if_pos rfl,show rd a i + 1 - 1 = rd a i by omega,e2,hy]
 ·
  rw [if_neg e2] at hxt
  obtain ⟨j,j1,j2,j3,j4⟩:=h x hx hxt
  have hj : ¬ j = i:=by
   rintro rfl
   exact e (j4.symm.trans hz.symm)
  refine ⟨j,j1,j2,?_,?_⟩
  ·
   rw [rd_set_i _ hi,if_neg hj]; exact j3
  ·
   rw [rd_set_i _ hi,if_neg hj]; exact j4
theorem hinv_move0 {L : List (List Int)} {a : List Int} {d H : List Bool} {i : Nat} (hiL : i < L.length) (hi : i < a.length) (hd : rdOf false d i = false) {y : Int} (hy : y = rd (rd_L2 L i) (rd a i)) (hy0 : 0 ≤ y) (hy1 : y < H.length) (h0 : 0 ≤ rd a i) (h00 : ¬ rd a i > 0) (h : HInv L a d H) : HInv L (a.set i (rd a i + 1)) d (H.set y.toNat true):=by
 intro x hx hxt
 rw [rdOf_set true hy0 hy1 hx] at hxt
 by_cases e2 : x = y
 ·
  refine ⟨i,hiL,hd,?_,?_⟩
  ·
   rw [rd_set_i _ hi,if_pos rfl]; omega
  ·
   rw [rd_set_i _ hi,if_pos rfl,show rd a i + 1 - 1 = rd a i by omega,e2,hy]
 ·
  rw [if_neg e2] at hxt
  obtain ⟨j,j1,j2,j3,j4⟩:=h x hx hxt
  have hj : ¬ j = i:=by
   rintro rfl
   exact h00 j3
  refine ⟨j,j1,j2,?_,?_⟩
  ·
   rw [rd_set_i _ hi,if_neg hj]; exact j3
  ·
   rw [rd_set_i _ hi,if_neg hj]; exact j4
theorem one_worm {L : List (List Int)} {N : Nat} (G : GoodL L N) {a : List Int} {d H : List Bool} (I : InvW L N a d H) {i : Nat} (hi : i < L.length) {s : List (Int × Bool)} (hR : RelH s H) (hs : s.length + 2 * phi L a d ≤ 1000) (m : Bool) :
  ∃ m' a' d' H' s',InvW L N a' d' H' ∧ RelH s' H' ∧ s'.length + 2 * phi L a' d' ≤ 1000 ∧ phi L a' d' ≤ phi L a d ∧ (m' = true → m = true ∨ phi L a' d' + 1 ≤ phi L a d) ∧
   (∀ k,spec_l16Step.l0 (k + 1) L (decw a) d H m i = spec_l16Step.l0 k L (decw a') d' H' m' ((i : Int) + 1)) ∧
   (∀ k st sk,impl_RunWorms.l1 (k + 1) L a s m L (L.length : Int) i d st sk = impl_RunWorms.l1 k L a' s' m' L (L.length : Int) ((i : Int) + 1) d' st sk) ∧
   (HInv L a d H → HInv L a' d' H') ∧ (m' = false → m = false ∧ a' = a ∧ d' = d ∧ H' = H ∧ Blk L a d H i):=by
 obtain ⟨g1,g2,g3⟩:=G
 obtain ⟨r1,r2,r3⟩:=g3 i hi
 obtain ⟨x0,x1⟩:=I.2.2.2 i hi
 have la:=I.1
 have ld:=I.2.1
 have lH:=I.2.2.1
 have e1:=Aside0.mk (show wrap64 ((i : Int) + 1) = (i : Int) + 1 from w_in (by omega) (by omega))
 have eW:=Aside0.mk (show wrap64 (((rd_L2 L i).length : Int) - 1) = ((rd_L2 L i).length : Int) - 1 from w_in (by omega) (by omega))
 have eX:=Aside0.mk (show wrap64 (rd a i - 1) = rd a i - 1 from w_in (by omega) (by omega))
 have eY:=Aside0.mk (show wrap64 (rd a i + 1) = rd a i + 1 from w_in (by omega) (by omega))
 have eZ:=Aside0.mk (show wrap64 (rd a i - 1 + 1) = rd a i from by rw [show rd a i - 1 + 1 = rd a i by omega]; exact w_in (by omega) (by omega))
 have eD:=Aside0.mk (show rd (decw a) i = rd a i - 1 from decw_rd (by omega))
 have eT:=Aside0.mk (show ((i : Int)).toNat = i from Int.toNat_natCast i)
 by_cases c1 : rdOf false d i = true
 ·
  refine ⟨m,a,d,H,s,I,hR,hs,Nat.le_refl _,fun h => .inl h,fun k => ?_,fun k st sk => ?_,id,fun h => ⟨h,rfl,rfl,rfl,.inl c1⟩⟩
  ·
   rw [spec_l16Step.l0,if_pos (by omega),if_pos (by omega),if_pos (by omega),if_pos c1,e1.out]
  ·
   rw [impl_RunWorms.l1,if_pos (by omega),if_pos (by omega),if_pos (by omega),if_pos (by omega),if_pos (by omega),if_pos (by omega),if_pos c1,e1.out]
 have c1' : rdOf false d i = false:=Bool.eq_false_iff.mpr c1
 by_cases c2 : rd a i = ((rd_L2 L i).length : Int)
 ·
  have hphi : phi L a (d.set i true) + 1 ≤ phi L a d:=by
   have:=phi_step L a d i hi la ld (rd a i) true (by unfold remw; rw [c1',if_pos rfl,if_neg (by decide)]; omega)
   rwa [set_same_i (by omega)] at this
  by_cases c3 : rd a i > 0
  ·
   obtain ⟨k0,k1⟩:=r2 (rd a i - 1) (by omega) (by omega)
   refine ⟨true,a,d.set i true,H.set (rd (rd_L2 L i) (rd a i - 1)).toNat false,(rd (rd_L2 L i) (rd a i - 1),false) :: s,inv_d I i true (by simp),rel_set hR false k0 (by omega),?_,by omega,fun _ => .inr hphi,fun k => ?_,fun k st sk => ?_,hinv_done (by omega) rfl k0 (by omega),fun h => absurd h (by decide)⟩
   ·
    rw [List.length_cons]; omega
   ·
    rw [spec_l16Step.l0,if_pos (by omega),if_pos (by omega),if_pos (by omega),if_neg c1,if_pos (by rw [decw_len]; omega),eW.out,eD.out,if_pos (by omega),if_pos (by omega),if_pos (by omega),if_pos (by omega),if_pos k0,if_pos (by omega),e1.out,eT.out]
   ·
    rw [impl_RunWorms.l1,if_pos (by omega),if_pos (by omega),if_pos (by omega),if_pos (by omega),if_pos (by omega),if_pos (by omega),if_neg c1,if_pos c2,if_pos c3,eX.out,if_pos (by omega),if_pos (by omega),e1.out,eT.out]
  ·
   refine ⟨true,a,d.set i true,H,s,inv_d I i true rfl,hR,by omega,by omega,fun _ => .inr hphi,fun k => ?_,fun k st sk => ?_,hinv_done0 (by omega) c3,fun h => absurd h (by decide)⟩
   ·
    rw [spec_l16Step.l0,if_pos (by omega),if_pos (by omega),if_pos (by omega),if_neg c1,if_pos (by rw [decw_len]; omega),eW.out,eD.out,if_pos (by omega),if_neg (by omega),e1.out,eT.out]
   ·
    rw [impl_RunWorms.l1,if_pos (by omega),if_pos (by omega),if_pos (by omega),if_pos (by omega),if_pos (by omega),if_pos (by omega),if_neg c1,if_pos c2,if_neg c3,e1.out,eT.out]
 obtain ⟨n0,n1⟩:=r2 (rd a i) (by omega) (by omega)
 have hm:=hR (rd (rd_L2 L i) (rd a i)) n0 (by omega)
 by_cases c4 : rdOf false H (rd (rd_L2 L i) (rd a i)) = true
 ·
  refine ⟨m,a,d,H,s,I,hR,hs,Nat.le_refl _,fun h => .inl h,fun k => ?_,fun k st sk => ?_,id,fun h => ⟨h,rfl,rfl,rfl,.inr ⟨by omega,c4⟩⟩⟩
  ·
   rw [spec_l16Step.l0,if_pos (by omega),if_pos (by omega),if_pos (by omega),if_neg c1,if_pos (by rw [decw_len]; omega),eW.out,eD.out,if_neg (by omega),eZ.out,if_pos (by omega),if_pos (by omega),if_pos n0,if_pos (by omega),if_pos c4,e1.out]
  ·
   rw [impl_RunWorms.l1,if_pos (by omega),if_pos (by omega),if_pos (by omega),if_pos (by omega),if_pos (by omega),if_pos (by omega),if_neg c1,if_neg c2,if_pos (by omega),if_pos (by omega),if_pos (hm.trans c4),e1.out]
 have c4' : ¬ mget s (rd (rd_L2 L i) (rd a i)) = true:=by rw [hm]; exact c4
 have hphi : phi L (a.set i (rd a i + 1)) d + 1 ≤ phi L a d:=by
  have:=phi_step L a d i hi la ld (rd a i + 1) (rdOf false d i) (by unfold remw; rw [c1',if_neg (by decide),if_neg (by decide)]; omega)
  rwa [set_same_b (by omega)] at this
 by_cases c3 : rd a i > 0
 ·
  obtain ⟨k0,k1⟩:=r2 (rd a i - 1) (by omega) (by omega)
  have hne:=r3 (rd a i) (by omega) (by omega)
  refine ⟨true,a.set i (rd a i + 1),d,(H.set (rd (rd_L2 L i) (rd a i)).toNat true).set (rd (rd_L2 L i) (rd a i - 1)).toNat false,(rd (rd_L2 L i) (rd a i),true) :: ((rd (rd_L2 L i) (rd a i - 1),false) :: s),inv_a I hi (by omega) (by omega) (by simp),rel_set2 hR hne n0 (by omega) k0 (by omega),?_,by omega,fun _ => .inr hphi,fun k => ?_,fun k st sk => ?_,hinv_move hi (by omega) c1' rfl n0 (by omega) rfl k0 (by omega) x0,fun h => absurd h (by decide)⟩
  ·
   rw [List.length_cons,List.length_cons]; omega
  ·
   rw [spec_l16Step.l0,if_pos (by omega),if_pos (by omega),if_pos (by omega),if_neg c1,if_pos (by rw [decw_len]; omega),eW.out,eD.out,if_neg (by omega),eZ.out,if_pos (by omega),if_pos (by omega),if_pos n0,if_pos (by omega),if_neg c4]
   rw [bs rfl,if_pos (by omega),if_pos (by omega),if_pos (by omega),if_pos k0,if_pos (by omega),e1.out,eT.out,decw_set]
  ·
   rw [impl_RunWorms.l1,if_pos (by omega),if_pos (by omega),if_pos (by omega),if_pos (by omega),if_pos (by omega),if_pos (by omega),if_neg c1,if_neg c2,if_pos (by omega),if_pos (by omega),if_neg c4',if_pos c3,eX.out,if_pos (by omega),if_pos (by omega),e1.out,eT.out,eY.out]
 ·
  refine ⟨true,a.set i (rd a i + 1),d,H.set (rd (rd_L2 L i) (rd a i)).toNat true,(rd (rd_L2 L i) (rd a i),true) :: s,inv_a I hi (by omega) (by omega) (by simp),rel_set hR true n0 (by omega),?_,by omega,fun _ => .inr hphi,fun k => ?_,fun k st sk => ?_,hinv_move0 hi (by omega) c1' rfl n0 (by omega) x0 c3,fun h => absurd h (by decide)⟩
  ·
   rw [List.length_cons]; omega
  ·
   rw [spec_l16Step.l0,if_pos (by omega),if_pos (by omega),if_pos (by omega),if_neg c1,if_pos (by rw [decw_len]; omega),eW.out,eD.out,if_neg (by omega),eZ.out,if_pos (by omega),if_pos (by omega),if_pos n0,if_pos (by omega),if_neg c4]
   rw [bs rfl,if_neg (by omega),e1.out,eT.out,decw_set]
  ·
   rw [impl_RunWorms.l1,if_pos (by omega),if_pos (by omega),if_pos (by omega),if_pos (by omega),if_pos (by omega),if_pos (by omega),if_neg c1,if_neg c2,if_pos (by omega),if_pos (by omega),if_neg c4',if_neg c3,e1.out,eT.out,eY.out]
theorem rdb_at {l : List Bool} {i : Int} (h0 : 0 ≤ i) (h : i.toNat < l.length) : l.drop i.toNat = rdOf false l i :: l.drop (i + 1).toNat:=by
 rw [List.drop_eq_getElem_cons h,show (i + 1).toNat = i.toNat + 1 by omega]
 unfold rdOf
 rw [List.getD_eq_getElem?_getD,List.getElem?_eq_getElem h]
 rfl
theorem idxb_loop (l : List Bool) (hl : l.length ≤ 1000000) (d : Nat) : ∀ (k : Nat) (i : Int),0 ≤ i → i + d = l.length → d < k →
  ∃ r,slices_Index_bool_bool.l0 k l false (l.length : Int) i = some r ∧ decide (r ≥ 0) = (l.drop i.toNat).contains false:=by
 induction d with
 | zero =>
  intro k i h0 h1 hk
  obtain ⟨k,rfl⟩ : ∃ m,k = m + 1:=⟨k - 1,by omega⟩
  refine ⟨-1,by simp only [slices_Index_bool_bool.l0]; rw [if_neg (by omega)],?_⟩
  rw [List.drop_eq_nil_of_le (by omega)]; rfl
 | succ d ih =>
  intro k i h0 h1 hk
  obtain ⟨k,rfl⟩ : ∃ m,k = m + 1:=⟨k - 1,by omega⟩
  rw [rdb_at h0 (by omega)]
  simp only [slices_Index_bool_bool.l0]
  rw [if_pos (by omega),if_pos h0,if_pos (by omega)]
  cases e : rdOf false l i with
  | false => exact ⟨i,by rw [if_pos (by decide)],by simp [h0]⟩
  | true =>
   obtain ⟨r,hr,hd⟩:=ih k (i + 1) (by omega) (by omega) (by omega)
   refine ⟨r,by rw [if_neg (by decide),w_in (by omega) (by omega)]; exact hr,?_⟩
   rw [hd,List.contains_cons]
   simp
theorem containsb_ok {l : List Bool} (hl : l.length ≤ 1000000) {k : Nat} (hk : l.length < k) : slices_Contains_bool_bool.f k l false = some (l.contains false):=by
 obtain ⟨r,hr,hd⟩:=idxb_loop l hl l.length k 0 (by omega) (by omega) hk
 unfold slices_Contains_bool_bool.f slices_Index_bool_bool.f
 rw [hr]
 simp only [Option.bind_some]
 rw [hd]; rfl
theorem left_loop (l : List Bool) (hl : l.length ≤ 1000000) (d : Nat) : ∀ (k : Nat) (i : Int),0 ≤ i → i + d = l.length → d < k → spec_l16Left.l0 k l i = some ((l.drop i.toNat).contains false):=by
 induction d with
 | zero =>
  intro k i h0 h1 hk
  obtain ⟨k,rfl⟩ : ∃ m,k = m + 1:=⟨k - 1,by omega⟩
  simp only [spec_l16Left.l0]
  rw [if_neg (by omega),List.drop_eq_nil_of_le (by omega)]; rfl
 | succ d ih =>
  intro k i h0 h1 hk
  obtain ⟨k,rfl⟩ : ∃ m,k = m + 1:=⟨k - 1,by omega⟩
  rw [rdb_at h0 (by omega)]
  simp only [spec_l16Left.l0]
  rw [if_pos (by omega),if_pos h0]
  cases e : rdOf false l i with
  | false => rw [if_neg (by decide)]; simp
  | true => rw [if_pos rfl,w_in (by omega) (by omega),ih k (i + 1) (by omega) (by omega) (by omega)]; simp
theorem left_ok {l : List Bool} (hl : l.length ≤ 1000000) {k : Nat} (hk : l.length < k) : spec_l16Left.f k l = some (l.contains false):=by
 unfold spec_l16Left.f
 rw [left_loop l hl l.length k 0 (by omega) (by omega) hk]; rfl
theorem all_worms {L : List (List Int)} {N : Nat} (G : GoodL L N) (r : Nat) : ∀ (i : Nat) (a : List Int) (d H : List Bool) (s : List (Int × Bool)) (m : Bool),i + r = L.length → InvW L N a d H → RelH s H → s.length + 2 * phi L a d ≤ 1000 →
  ∃ m' a' d' H' s',InvW L N a' d' H' ∧ RelH s' H' ∧ s'.length + 2 * phi L a' d' ≤ 1000 ∧ phi L a' d' ≤ phi L a d ∧ (m' = true → m = true ∨ phi L a' d' + 1 ≤ phi L a d) ∧
   (∀ k,r < k → spec_l16Step.l0 k L (decw a) d H m i = some (m',decw a',d',H')) ∧
   (∀ k st sk,impl_RunWorms.l1 (k + r + 1) L a s m L (L.length : Int) i d st sk = if m' = true then impl_RunWorms.l0 k L a' s' d' st sk else some (d',st,true,true)) ∧
   (HInv L a d H → HInv L a' d' H') ∧ (m' = false → m = false ∧ a' = a ∧ d' = d ∧ H' = H ∧ ∀ j,i ≤ j → j < L.length → Blk L a d H j):=by
 induction r with
 | zero =>
  intro i a d H s m hi I hR hs
  refine ⟨m,a,d,H,s,I,hR,hs,Nat.le_refl _,fun h => .inl h,fun k hk => ?_,fun k st sk => ?_,id,fun h => ⟨h,rfl,rfl,rfl,fun j j1 j2 => absurd j2 (by omega)⟩⟩
  ·
   obtain ⟨k,rfl⟩ : ∃ q,k = q + 1:=⟨k - 1,by omega⟩
   rw [spec_l16Step.l0,if_neg (by omega)]
  ·
   rw [show k + 0 + 1 = k + 1 by omega,impl_RunWorms.l1,if_pos (by omega),if_neg (by omega)]
 | succ r ih =>
  intro i a d H s m hi I hR hs
  obtain ⟨m1,a1,d1,H1,s1,I1,R1,b1,p1,q1,e1,f1,u1,w1⟩:=one_worm G I (show i < L.length by omega) hR hs m
  obtain ⟨m2,a2,d2,H2,s2,I2,R2,b2,p2,q2,e2,f2,u2,w2⟩:=ih (i + 1) a1 d1 H1 s1 m1 (by omega) I1 R1 b1
  refine ⟨m2,a2,d2,H2,s2,I2,R2,b2,by omega,fun h => ?_,fun k hk => ?_,fun k st sk => ?_,fun h => u2 (u1 h),fun h => ?_⟩
  ·
   rcases q2 h with h1 | h1
   ·
    rcases q1 h1 with h2 | h2
    ·
     exact .inl h2
    ·
     exact .inr (by omega)
   ·
    exact .inr (by omega)
  ·
   obtain ⟨k,rfl⟩ : ∃ q,k = q + 1:=⟨k - 1,by omega⟩
   rw [e1 k]
   exact e2 k (by omega)
  ·
   rw [show k + (r + 1) + 1 = (k + r + 1) + 1 by omega,f1]
   exact f2 k st sk
  ·
   obtain ⟨v1,v2,v3,v4,v5⟩:=w2 h
   obtain ⟨y1,y2,y3,y4,y5⟩:=w1 v1
   subst y2 y3 y4
   refine ⟨y1,v2,v3,v4,fun j j1 j2 => ?_⟩
   by_cases e : j = i
   ·
    subst e; exact y5
   ·
    exact v5 j (by omega) j2
def Jam (L : List (List Int)) (N : Nat) : Prop:=∃ a d H,InvW L N a d H ∧ HInv L a d H ∧ d.contains false = true ∧ ∀ j,j < L.length → Blk L a d H j
theorem rounds {L : List (List Int)} {N : Nat} (G : GoodL L N) (p : Nat) : ∀ (a : List Int) (d H : List Bool) (s : List (Int × Bool)) (st : Int) (sk : Bool),sk = false → HInv L a d H → phi L a d < p → InvW L N a d H → RelH s H → s.length + 2 * phi L a d ≤ 1000 →
  ∃ q : List Bool × Int × Bool,q.1.length = L.length ∧ q.2.2 = q.1.contains false ∧ (q.2.2 = true → Jam L N) ∧ ∀ k,p * 40 < k → impl_RunWorms.l0 k L a s d st sk = some (q.1,q.2.1,q.2.2,true) ∧ spec_RunWorms.l1 k L (decw a) H d st sk = some (q.1,q.2.1,q.2.2,true):=by
 have gl:=G.1
 induction p with
 | zero => intro a d H s st sk _ _ hp; omega
 | succ p ih =>
  intro a d H s st sk hsk hH hp I hR hs
  have ld:=I.2.1
  cases hc : d.contains false with
  | false =>
   refine ⟨(d,st,sk),ld,hsk.trans hc.symm,fun h => absurd (hsk.symm.trans h) (by decide),fun k hk => ?_⟩
   obtain ⟨k,rfl⟩ : ∃ q,k = q + 1:=⟨k - 1,by omega⟩
   refine ⟨?_,?_⟩
   ·
    rw [impl_RunWorms.l0,bs (containsb_ok (l:=d) (by omega) (by omega)),hc,if_neg (by decide)]
   ·
    rw [spec_RunWorms.l1,bs (left_ok (l:=d) (by omega) (by omega)),hc,if_neg (by decide)]
  | true =>
   obtain ⟨m,a',d',H',s',I',R',b',p',q',e',f',u',w'⟩:=all_worms G L.length 0 a d H s false (by omega) I hR hs
   have e0 : ∀ k,L.length < k → spec_l16Step.f k L (decw a) d H = some (m,decw a',d',H'):=fun k hk => e' k hk
   cases m with
   | false =>
    obtain ⟨_,v2,v3,v4,v5⟩:=w' rfl
    subst v2 v3 v4
    refine ⟨(d',wrap64 (st + 1),true),I'.2.1,hc.symm,fun _ => ⟨a',d',H',I',hH,hc,fun j hj => v5 j (Nat.zero_le _) hj⟩,fun k hk => ?_⟩
    obtain ⟨k,rfl⟩ : ∃ q,k = q + 1:=⟨k - 1,by omega⟩
    refine ⟨?_,?_⟩
    ·
     rw [impl_RunWorms.l0,bs (containsb_ok (l:=d') (by omega) (by omega)),hc,if_pos rfl]
     obtain ⟨j,rfl⟩ : ∃ j,k = j + L.length + 1:=⟨k - L.length - 1,by omega⟩
     have:=f' j (wrap64 (st + 1)) sk
     rw [if_neg (by decide)] at this
     exact this
    ·
     rw [spec_RunWorms.l1,bs (left_ok (l:=d') (by omega) (by omega)),hc,if_pos rfl,bs (e0 k (by omega))]
     dsimp only
     rw [if_neg (by decide)]
   | true =>
    have hlt : phi L a' d' < p:=by
     rcases q' rfl with h | h
     ·
      exact absurd h (by decide)
     ·
      omega
    obtain ⟨q,lq,cq,jq,hq⟩:=ih a' d' H' s' (wrap64 (st + 1)) sk hsk (u' hH) hlt I' R' b'
    refine ⟨q,lq,cq,jq,fun k hk => ?_⟩
    obtain ⟨k,rfl⟩ : ∃ q,k = q + 1:=⟨k - 1,by omega⟩
    refine ⟨?_,?_⟩
    ·
     rw [impl_RunWorms.l0,bs (containsb_ok (l:=d) (by omega) (by omega)),hc,if_pos rfl]
     obtain ⟨j,rfl⟩ : ∃ j,k = j + L.length + 1:=⟨k - L.length - 1,by omega⟩
     have:=f' j (wrap64 (st + 1)) sk
     rw [if_pos rfl] at this
     exact this.trans (hq j (by omega)).1
    ·
     rw [spec_RunWorms.l1,bs (left_ok (l:=d) (by omega) (by omega)),hc,if_pos rfl,bs (e0 k (by omega))]
     dsimp only
     rw [if_pos rfl]
     exact (hq k (by omega)).2
def wrs (w : Int) (l : List Int) : Int → Nat → List Int
 | _,0 => []
 | i,d + 1 => (wr16 w (rd l (i - 1)) (rd l i)).getD 0 :: wrs w l (i + 1) d
theorem wrs_len (w : Int) (l : List Int) : ∀ (d : Nat) (i : Int),(wrs w l i d).length = d
 | 0,_ => rfl
 | d + 1,i => by simp [wrs,wrs_len w l d (i + 1)]
theorem wrs_rd (w : Int) (l : List Int) : ∀ (d : Nat) (i : Int) (j : Nat),j < d → rd (wrs w l i d) j = (wr16 w (rd l (i + j - 1)) (rd l (i + j))).getD 0
 | 0,_,_,h => absurd h (Nat.not_lt_zero _)
 | d + 1,i,0,_ => by
  unfold rd
  simp [wrs,rd]
 | d + 1,i,j + 1,h => by
  have ih:=wrs_rd w l d (i + 1) j (by omega)
  have e : rd (wrs w l i (d + 1)) ((j + 1 : Nat) : Int) = rd (wrs w l (i + 1) d) (j : Int):=by
   unfold rd
   simp [wrs,Int.toNat_natCast]
  rw [e,ih,show i + 1 + (j : Int) = i + ((j + 1 : Nat) : Int) by omega]
theorem wr16_get {w a b v : Int} (h : wr16 w a b = some v) : (wr16 w a b).getD 0 = v:=by rw [h]; rfl
theorem impl_wires_loop (w h : Int) (l : List Int) (hl : l.length ≤ 30) (ha : l.all (nd w h) = true) (d : Nat) : ∀ (k : Nat) (i : Int) (out : List Int),1 ≤ i → i + d = l.length → out.length + d ≤ 100 → d < k →
  impl_fabric_wires_1.l0 k l out i w h = some (out ++ wrs w l i d):=by
 induction d with
 | zero =>
  intro k i out h0 h1 ho hk
  obtain ⟨k,rfl⟩ : ∃ m,k = m + 1:=⟨k - 1,by omega⟩
  rw [impl_fabric_wires_1.l0,if_neg (by omega),wrs,List.append_nil]
 | succ d ih =>
  intro k i out h0 h1 ho hk
  obtain ⟨k,rfl⟩ : ∃ m,k = m + 1:=⟨k - 1,by omega⟩
  obtain ⟨v,hv⟩:=wr16_some w (rd l (i - 1)) (rd l i)
  rw [impl_fabric_wires_1.l0,if_pos (by omega),w_in (n:=i - 1) (by omega) (by omega),w_in (n:=i + 1) (by omega) (by omega),if_pos (by omega),if_pos (by omega),if_pos (by omega),impl_wire16 (rd_all ha (by omega) (by omega)) (rd_all ha (by omega) (by omega)),bs hv,if_pos (by omega),ih k (i + 1) _ (by omega) (by omega) (by rw [List.length_append]; simp; omega) (by omega)]
  rw [wrs,wr16_get hv,List.append_assoc]
  rfl
theorem spec_wires_loop (w h : Int) (l : List Int) (hl : l.length ≤ 30) (ha : l.all (nd w h) = true) (d : Nat) : ∀ (k : Nat) (i : Int) (out : List Int),1 ≤ i → i + d = l.length → out.length + d ≤ 100 → d + 3 < k →
  spec_l16Wires.l0 k w l out i = some (out ++ wrs w l i d):=by
 induction d with
 | zero =>
  intro k i out h0 h1 ho hk
  obtain ⟨k,rfl⟩ : ∃ m,k = m + 1:=⟨k - 1,by omega⟩
  rw [spec_l16Wires.l0,if_neg (by omega),wrs,List.append_nil]
 | succ d ih =>
  intro k i out h0 h1 ho hk
  obtain ⟨k,rfl⟩ : ∃ m,k = m + 1:=⟨k - 1,by omega⟩
  obtain ⟨v,hv⟩:=wr16_some w (rd l (i - 1)) (rd l i)
  rw [spec_l16Wires.l0,if_pos (by omega),w_in (n:=i - 1) (by omega) (by omega),w_in (n:=i + 1) (by omega) (by omega),if_pos (by omega),if_pos (by omega),if_pos (by omega),spec_wire16 (rd_all ha (by omega) (by omega)) (rd_all ha (by omega) (by omega)) (by omega),bs hv,if_pos (by omega),ih k (i + 1) _ (by omega) (by omega) (by rw [List.length_append]; simp; omega) (by omega)]
  rw [wrs,wr16_get hv,List.append_assoc]
  rfl
def wof (w : Int) (l : List Int) : List Int:=wrs w l 1 (l.length - 1)
theorem wayv_open {w h : Int} {l : List Int} (k : wayv w h l = true) : l.all (nd w h) = true ∧ prs w l 0 l.length = true ∧ 1 ≤ l.length ∧ l.length ≤ 30:=by
 simp only [wayv,Bool.and_eq_true,decide_eq_true_eq] at k
 exact ⟨k.1.1,k.1.2,by omega,by omega⟩
theorem impl_wof {w h : Int} {l : List Int} (hv : wayv w h l = true) {k : Nat} (hk : 40 < k) : impl_fabric_wires_1.f k l w h = some (wof w l):=by
 obtain ⟨h1,h2,h3,h4⟩:=wayv_open hv
 unfold impl_fabric_wires_1.f
 rw [impl_wires_loop w h l h4 h1 (l.length - 1) k 1 [] (by omega) (by omega) (by simp; omega) (by omega)]
 rfl
theorem spec_wof {w h : Int} {l : List Int} (hv : wayv w h l = true) {k : Nat} (hk : 40 < k) : spec_l16Wires.f k w l = some (wof w l):=by
 obtain ⟨h1,h2,h3,h4⟩:=wayv_open hv
 unfold spec_l16Wires.f
 rw [spec_wires_loop w h l h4 h1 (l.length - 1) k 1 [] (by omega) (by omega) (by simp; omega) (by omega)]
 rfl
theorem prs_at {w : Int} {l : List Int} : ∀ (d : Nat) (i : Int),prs w l i d = true → ∀ j : Nat,j < d → 0 < i + j → ng w (rd l (i + j - 1)) (rd l (i + j)) = false
 | 0,_,_,_,h,_ => absurd h (Nat.not_lt_zero _)
 | d + 1,i,h,0,_,hp => by
  simp only [prs,Bool.and_eq_true,Bool.or_eq_true,decide_eq_true_eq] at h
  rcases h.1 with q | q
  ·
   omega
  ·
   rw [show i + ((0 : Nat) : Int) = i by omega]
   simpa using q
 | d + 1,i,h,j + 1,hj,hp => by
  simp only [prs,Bool.and_eq_true] at h
  have:=prs_at d (i + 1) h.2 j (by omega) (by omega)
  rw [show i + ((j + 1 : Nat) : Int) = i + 1 + (j : Int) by omega]
  exact this
theorem wr16_val {w h a b v : Int} (ka : nd w h a = true) (kb : nd w h b = true) (hv : wr16 w a b = some v) (h0 : 0 ≤ v) : 4 * a ≤ v ∧ v ≤ 4 * a + 3 ∧ a ≠ b:=by
 have oa:=nd_open ka
 have ob:=nd_open kb
 have ha:=small oa.1 oa.2.1 oa.2.2
 have ta:=tm ha oa.1
 unfold wr16 at hv
 rw [wire_l0,w_in (n:=4 * a) (by omega) (by omega),w_in (n:=4 * a + 0) (by omega) (by omega),w_in (n:=4 * a + 1) (by omega) (by omega),w_in (n:=4 * a + 2) (by omega) (by omega),w_in (n:=4 * a + 3) (by omega) (by omega)] at hv
 have hz : wrap64 0 = 0:=w_in (by omega) (by omega)
 by_cases e : a = b
 ·
  subst e
  rw [Int.sub_self,Int.sub_self,hz,if_neg (by omega),if_neg (by omega),if_neg (by omega),if_neg (by omega)] at hv
  injection hv with hv
  omega
 ·
  refine ⟨?_,?_,e⟩ <;>
  ·
   split at hv
   ·
    injection hv with hv; omega
   ·
    split at hv
    ·
     injection hv with hv; omega
    ·
     split at hv
     ·
      injection hv with hv; omega
     ·
      split at hv
      ·
       injection hv with hv; omega
      ·
       injection hv with hv; omega
theorem wof_at {w h : Int} {l : List Int} (hv : wayv w h l = true) {j : Nat} (hj : j < (wof w l).length) : ∃ v,wr16 w (rd l j) (rd l (j + 1)) = some v ∧ rd (wof w l) j = v ∧ 0 ≤ v ∧ nd w h (rd l j) = true ∧ nd w h (rd l (j + 1)) = true:=by
 obtain ⟨h1,h2,h3,h4⟩:=wayv_open hv
 unfold wof at hj ⊢
 rw [wrs_len] at hj
 obtain ⟨v,e⟩:=wr16_some w (rd l j) (rd l (j + 1))
 have hp:=prs_at l.length 0 h2 (j + 1) (by omega) (by omega)
 rw [show (0 : Int) + ((j + 1 : Nat) : Int) - 1 = j by omega,show (0 : Int) + ((j + 1 : Nat) : Int) = j + 1 by omega,ng_eq e] at hp
 refine ⟨v,e,?_,by simpa using hp,rd_all h1 (by omega) (by omega),rd_all h1 (by omega) (by omega)⟩
 rw [wrs_rd w l _ 1 j hj,show (1 : Int) + (j : Int) - 1 = j by omega,show (1 : Int) + (j : Int) = j + 1 by omega]
 exact wr16_get e
theorem nd_lt {w h x : Int} (k : nd w h x = true) : 0 ≤ x ∧ x + 1 ≤ w * h ∧ w * h ≤ 25:=by
 have o:=nd_open k
 have e : 0 ≤ w * h ∧ w * h ≤ 25:=by
  have hh : h = 1 ∨ h = 2 ∨ h = 3 ∨ h = 4 ∨ h = 5:=by omega
  rcases hh with e | e | e | e | e <;> rw [e] <;> omega
 have o3:=o.2.2
 rw [w_in (n:=w * h) (by omega) (by omega),w_in (n:=w * h - 1) (by omega) (by omega)] at o3
 omega
theorem wof_good {w h : Int} {l : List Int} (hv : wayv w h l = true) {N : Nat} (hN : (N : Int) = 4 * (w * h)) : (wof w l).length ≤ 30 ∧ (∀ j : Int,0 ≤ j → j < (wof w l).length → 0 ≤ rd (wof w l) j ∧ rd (wof w l) j < N) ∧ (∀ j : Int,1 ≤ j → j < (wof w l).length → rd (wof w l) (j - 1) ≠ rd (wof w l) j):=by
 obtain ⟨h1,h2,h3,h4⟩:=wayv_open hv
 have hlen : (wof w l).length = l.length - 1:=by unfold wof; rw [wrs_len]
 refine ⟨by omega,fun j j0 j1 => ?_,fun j j0 j1 => ?_⟩
 ·
  obtain ⟨n,rfl⟩ : ∃ n : Nat,j = n:=⟨j.toNat,by omega⟩
  obtain ⟨v,e1,e2,e3,e4,e5⟩:=wof_at hv (j:=n) (by omega)
  have:=wr16_val e4 e5 e1 e3
  have:=nd_lt e4
  rw [e2]
  omega
 ·
  obtain ⟨n,rfl⟩ : ∃ n : Nat,j = ((n + 1 : Nat) : Int):=⟨j.toNat - 1,by omega⟩
  rw [show ((n + 1 : Nat) : Int) - 1 = n by omega]
  obtain ⟨v,e1,e2,e3,e4,e5⟩:=wof_at hv (j:=n) (by omega)
  obtain ⟨u,f1,f2,f3,f4,f5⟩:=wof_at hv (j:=n + 1) (by omega)
  have a1:=wr16_val e4 e5 e1 e3
  have a2:=wr16_val f4 f5 f1 f3
  rw [e2,f2]
  rw [show ((n : Int) + 1) = ((n + 1 : Nat) : Int) by omega] at a1
  omega
theorem rdl_at {l : List (List Int)} {i : Int} (h0 : 0 ≤ i) (h : i.toNat < l.length) : l.drop i.toNat = rd_L2 l i :: l.drop (i + 1).toNat:=by
 rw [List.drop_eq_getElem_cons h,show (i + 1).toNat = i.toNat + 1 by omega]
 unfold rd_L2
 rw [List.getD_eq_getElem?_getD,List.getElem?_eq_getElem h]
 rfl
theorem rdl_mem {l : List (List Int)} {i : Int} (h0 : 0 ≤ i) (h : i < l.length) : rd_L2 l i ∈ l:=by
 unfold rd_L2
 rw [List.getD_eq_getElem?_getD,List.getElem?_eq_getElem (by omega)]
 exact List.getElem_mem _
theorem m_loop (w h : Int) (l : List (List Int)) (hl : l.length ≤ 12) (ha : ∀ x ∈ l,wayv w h x = true) (d : Nat) : ∀ (k : Nat) (i : Int) (out : List (List Int)),0 ≤ i → i + d = l.length → out.length + d ≤ 100 → d + 50 < k →
  impl_fabric_wires_m.l0 k out l (l.length : Int) i w h = some (out ++ (l.drop i.toNat).map (wof w)):=by
 induction d with
 | zero =>
  intro k i out h0 h1 ho hk
  obtain ⟨k,rfl⟩ : ∃ m,k = m + 1:=⟨k - 1,by omega⟩
  rw [impl_fabric_wires_m.l0,if_neg (by omega),List.drop_eq_nil_of_le (by omega),List.map_nil,List.append_nil]
 | succ d ih =>
  intro k i out h0 h1 ho hk
  obtain ⟨k,rfl⟩ : ∃ m,k = m + 1:=⟨k - 1,by omega⟩
  rw [impl_fabric_wires_m.l0,if_pos (by omega),if_pos (by omega),if_pos (by omega),bs (impl_wof (ha _ (rdl_mem h0 (by omega))) (by omega)),if_pos (by omega),w_in (n:=i + 1) (by omega) (by omega),ih k (i + 1) _ (by omega) (by omega) (by rw [List.length_append]; simp; omega) (by omega),rdl_at h0 (by omega),List.map_cons,List.append_assoc]
  rfl
def fab (w h : Int) : Bool:=decide (1 ≤ w ∧ w ≤ 5) && decide (1 ≤ h ∧ h ≤ 5)
def goodw (w h : Int) (l : List (List Int)) : Bool:=l.all (wayv w h) && fab w h && decide ((l.length : Int) ≤ 12)
theorem impl_fab (w h : Int) : impl_fabric_valid.f w h = some (fab w h):=by
 unfold impl_fabric_valid.f fab
 simp only [i_in,Option.bind_some]
 generalize decide (1 ≤ w ∧ w ≤ 5) = a
 generalize decide (1 ≤ h ∧ h ≤ 5) = b
 cases a <;> cases b <;> rfl
theorem spec_fab (w h : Int) : spec_l16Fabric.f w h = some (fab w h):=by
 unfold spec_l16Fabric.f fab
 simp only [s_in,Option.bind_some]
 generalize decide (1 ≤ w ∧ w ≤ 5) = a
 generalize decide (1 ≤ h ∧ h ≤ 5) = b
 cases a <;> cases b <;> rfl
theorem impl_wires_ok {w h : Int} {l : List (List Int)} {M : Nat} (hM : ∀ x ∈ l,x.length ≤ M) (hMb : M ≤ 2000000) {k : Nat} (hk : M + 100 < k) : impl_fabric_wires.f k w h l = some (if goodw w h l = true then (l.map (wof w),true) else ([],false)):=by
 unfold impl_fabric_wires.f goodw
 rw [bs (impl_fab w h)]
 have hall : all_impl_fabric_way.f k l w h = some (l.all (wayv w h)):=by
  unfold all_impl_fabric_way.f
  exact allO_total l (fun x hx => impl_fway (by have:=hM x hx; omega) (by have:=hM x hx; omega))
 cases e1 : fab w h with
 | false => rw [if_neg (by decide),if_neg (by simp)]
 | true =>
  rw [if_pos rfl]
  by_cases e2 : (l.length : Int) > 12
  ·
   rw [if_pos e2,if_neg (by simp; omega)]
  ·
   rw [if_neg e2,bs hall]
   cases e3 : l.all (wayv w h) with
   | false => rw [if_neg (by decide),if_neg (by simp)]
   | true =>
    have hm : impl_fabric_wires_m.f k l w h = some (l.map (wof w)):=by
     unfold impl_fabric_wires_m.f
     rw [m_loop w h l (by omega) (fun x hx => List.all_eq_true.mp e3 x hx) l.length k 0 [] (by omega) (by omega) (by simp; omega) (by omega)]
     rfl
    rw [if_pos rfl,bs hm,if_pos (by simp; omega)]
theorem ways_loop (w h : Int) (l : List (List Int)) {M : Nat} (hM : ∀ x ∈ l,x.length ≤ M) (hMb : M ≤ 2000000) (hl : l.length ≤ 2000000) (d : Nat) : ∀ (k : Nat) (i : Int),0 ≤ i → i + d = l.length → d + M + 100 < k →
  spec_l16Ways.l0 k w h l i = some ((l.drop i.toNat).all (wayv w h) && fab w h && decide ((l.length : Int) ≤ 12)):=by
 induction d with
 | zero =>
  intro k i h0 h1 hk
  obtain ⟨k,rfl⟩ : ∃ m,k = m + 1:=⟨k - 1,by omega⟩
  rw [spec_l16Ways.l0,if_neg (by omega),bs (spec_fab w h),List.drop_eq_nil_of_le (by omega)]
  cases fab w h <;> rfl
 | succ d ih =>
  intro k i h0 h1 hk
  obtain ⟨k,rfl⟩ : ∃ m,k = m + 1:=⟨k - 1,by omega⟩
  have hm:=hM _ (rdl_mem (l:=l) h0 (by omega))
  rw [spec_l16Ways.l0,if_pos (by omega),if_pos h0,bs (spec_way (by omega) (by omega)),rdl_at h0 (by omega),List.all_cons]
  cases e : wayv w h (rd_L2 l i) with
  | false => rw [if_neg (by decide)]; rfl
  | true => rw [if_pos rfl,w_in (n:=i + 1) (by omega) (by omega),ih k (i + 1) (by omega) (by omega) (by omega),Bool.true_and]
theorem ways_ok {w h : Int} {l : List (List Int)} {M : Nat} (hM : ∀ x ∈ l,x.length ≤ M) (hMb : M ≤ 2000000) (hl : l.length ≤ 2000000) {k : Nat} (hk : l.length + M + 100 < k) : spec_l16Ways.f k w h l = some (goodw w h l):=by
 unfold spec_l16Ways.f goodw
 rw [ways_loop w h l hM hMb hl l.length k 0 (by omega) (by omega) (by omega)]
 rfl
theorem strict_ext {α : Type} {lt : α → α → Prop} (hi : ∀ x,¬ lt x x) (ht : ∀ x y z,lt x y → lt y z → lt x z) : ∀ (l l' : List α),l.Pairwise lt → l'.Pairwise lt → (∀ x,x ∈ l ↔ x ∈ l') → l = l'
 | [],[],_,_,_ => rfl
 | [],y :: l',_,_,h => absurd ((h y).mpr List.mem_cons_self) (by simp)
 | x :: l,[],_,_,h => absurd ((h x).mp List.mem_cons_self) (by simp)
 | x :: l,y :: l',p,p',h => by
  obtain ⟨p1,p2⟩:=List.pairwise_cons.mp p
  obtain ⟨q1,q2⟩:=List.pairwise_cons.mp p'
  have hxy : x = y:=by
   rcases List.mem_cons.mp ((h x).mp List.mem_cons_self) with e | hx
   ·
    exact e
   rcases List.mem_cons.mp ((h y).mpr List.mem_cons_self) with e | hy
   ·
    exact e.symm
   exact absurd (ht _ _ _ (p1 y hy) (q1 x hx)) (hi x)
  subst hxy
  rw [strict_ext hi ht l l' p2 q2 (fun z => ⟨fun hz => by
   rcases List.mem_cons.mp ((h z).mp (List.mem_cons_of_mem _ hz)) with e | hz'
   ·
    exact absurd (e ▸ p1 z hz) (hi x)
   ·
    exact hz',fun hz => by
   rcases List.mem_cons.mp ((h z).mpr (List.mem_cons_of_mem _ hz)) with e | hz'
   ·
    exact absurd (e ▸ q1 z hz) (hi x)
   ·
    exact hz'⟩)]
def lt2 (x y : List Int) : Prop:=rd x 0 < rd y 0 ∨ rd x 0 = rd y 0 ∧ rd x 1 < rd y 1
theorem lt2_irrefl (x : List Int) : ¬ lt2 x x:=by unfold lt2; omega
theorem lt2_trans (x y z : List Int) (h1 : lt2 x y) (h2 : lt2 y z) : lt2 x z:=by unfold lt2 at *; omega
theorem le_lt (x y z : List Int) (h1 : le2 x y = true) (h2 : lt2 y z) : lt2 x z:=by rw [le2_iff] at h1; unfold lt2 at *; omega
theorem le_ne {x y : List Int} (hx : x.length = 2) (hy : y.length = 2) (h1 : le2 x y = true) (hne : ¬ y = x) : lt2 x y:=by
 rw [le2_iff] at h1
 unfold lt2
 by_cases e0 : rd x 0 = rd y 0
 ·
  by_cases e1 : rd x 1 = rd y 1
  ·
   exact absurd (by rw [len2 hx,len2 hy,e0,e1]) hne
  ·
   omega
 ·
  omega
def kpE (d : Array (List Int)) : Nat → Bool:=kpOf (fun a b => decide (a = b)) d
theorem kpE_zero (d : Array (List Int)) : kpE d 0 = true:=rfl
theorem kpE_succ (d : Array (List Int)) (j : Nat) : kpE d (j + 1) = !decide (d[j + 1]! = d[j]!):=by
 unfold kpE kpOf
 rw [show (j + 1 == 0) = false from by simp]
 rfl
theorem cUp_mem (d : Array (List Int)) : ∀ (m j : Nat),j < m → d[j]! ∈ cUp (kpE d) d m
 | 0,j,h => absurd h (Nat.not_lt_zero _)
 | m + 1,j,h => by
  rw [cUp_succ]
  by_cases hj : j < m
  ·
   exact List.mem_append_left _ (cUp_mem d m j hj)
  ·
   obtain rfl : j = m:=by omega
   cases hk : kpE d j with
   | true => exact List.mem_append_right _ (by simp)
   | false =>
    refine List.mem_append_left _ ?_
    cases j with
    | zero => rw [kpE_zero] at hk; exact absurd hk (by decide)
    | succ j =>
     rw [kpE_succ] at hk
     have e : d[j + 1]! = d[j]!:=by simpa using hk
     rw [e]
     exact cUp_mem d (j + 1) j (Nat.lt_succ_self _)
theorem mem_cUp {kp : Nat → Bool} {d : Array (List Int)} {m : Nat} {x : List Int} (h : x ∈ cUp kp d m) : ∃ j,j < m ∧ d[j]! = x:=by
 unfold cUp at h
 obtain ⟨j,hj,e⟩:=List.mem_map.mp h
 exact ⟨j,List.mem_range.mp (List.mem_filter.mp hj).1,e⟩
theorem cUp_strict (d : Array (List Int)) (h2 : ∀ j,j < d.size → d[j]!.length = 2) (hs : ∀ i j,i < j → j < d.size → le2 d[i]! d[j]! = true) : ∀ m,m ≤ d.size → (cUp (kpE d) d m).Pairwise lt2
 | 0,_ => by unfold cUp; simp
 | m + 1,hm => by
  rw [cUp_succ,List.pairwise_append]
  refine ⟨cUp_strict d h2 hs m (by omega),by cases kpE d m <;> simp,?_⟩
  intro x hx y hy
  cases hk : kpE d m with
  | false => rw [hk] at hy; simp at hy
  | true =>
   rw [hk] at hy
   obtain rfl : y = d[m]!:=by simpa using hy
   obtain ⟨j,hj,rfl⟩:=mem_cUp hx
   cases m with
   | zero => omega
   | succ m =>
    rw [kpE_succ] at hk
    have hne : ¬ d[m + 1]! = d[m]!:=by simpa using hk
    have h1:=le_ne (h2 m (by omega)) (h2 (m + 1) (by omega)) (hs m (m + 1) (by omega) (by omega)) hne
    by_cases e : j = m
    ·
     rw [e]; exact h1
    ·
     exact le_lt _ _ _ (hs j m (by omega) (by omega)) h1
theorem toArr_get {l : List (List Int)} {j : Nat} (hj : j < l.length) : l.toArray[j]! = l[j]:=by rw [getElem!_pos l.toArray j (by simpa using hj)]; simp
theorem compL_strict {l : List (List Int)} (h2 : ∀ x ∈ l,x.length = 2) (hs : l.Pairwise (fun x y => le2 x y = true)) : (compL l).Pairwise lt2:=by
 unfold compL
 have hl : l.length = l.toArray.size:=by simp
 rw [hl]
 refine cUp_strict l.toArray (fun j hj => ?_) (fun i j hij hj => ?_) _ (Nat.le_refl _)
 ·
  rw [toArr_get (by simpa using hj)]; exact h2 _ (List.getElem_mem _)
 ·
  have hj' : j < l.length:=by simpa using hj
  rw [toArr_get (show i < l.length by omega),toArr_get hj']
  exact List.pairwise_iff_getElem.mp hs i j (by omega) hj' hij
theorem mem_compL {l : List (List Int)} {x : List Int} : x ∈ compL l ↔ x ∈ l:=by
 unfold compL
 constructor
 ·
  intro h
  obtain ⟨j,hj,e⟩:=mem_cUp h
  rw [toArr_get hj] at e
  rw [← e]; exact List.getElem_mem _
 ·
  intro h
  obtain ⟨j,hj,e⟩:=List.mem_iff_getElem.mp h
  have:=cUp_mem l.toArray l.length j hj
  rw [toArr_get hj,e] at this
  exact this
theorem sortL_sorted (l : List (List Int)) : (sortL l).Pairwise (fun x y => le2 x y = true):=List.pairwise_mergeSort (fun a b c h1 h2 => le2_trans a b c h1 h2) (fun a b => le2_total a b) l
theorem mem_sortL {l : List (List Int)} {x : List Int} : x ∈ sortL l ↔ x ∈ l:=(List.mergeSort_perm l le2).mem_iff
def adjd (r : List Int) : Int → Nat → List (List Int)
 | _,0 => []
 | i,d + 1 => [rd r (i - 1),rd r i] :: adjd r (i + 1) d
def adj (r : List Int) : List (List Int):=adjd r 1 (r.length - 1)
theorem adjd_len (r : List Int) : ∀ (d : Nat) (i : Int),(adjd r i d).length = d
 | 0,_ => rfl
 | d + 1,i => by rw [adjd,List.length_cons,adjd_len r d]
theorem adjd_two (r : List Int) : ∀ (d : Nat) (i : Int),∀ x ∈ adjd r i d,x.length = 2
 | 0,_,x,h => by simp [adjd] at h
 | d + 1,i,x,h => by
  rw [adjd] at h
  rcases List.mem_cons.mp h with e | h
  ·
   rw [e]; rfl
  ·
   exact adjd_two r d _ x h
theorem mem_adjd (r : List Int) : ∀ (d : Nat) (i : Int) (x : List Int),x ∈ adjd r i d ↔ ∃ j : Nat,j < d ∧ x = [rd r (i + j - 1),rd r (i + j)]
 | 0,i,x => by simp [adjd]
 | d + 1,i,x => by
  rw [adjd,List.mem_cons,mem_adjd r d]
  constructor
  ·
   rintro (e | ⟨j,hj,e⟩)
   ·
    exact ⟨0,by omega,by rw [e]; simp⟩
   ·
    exact ⟨j + 1,by omega,by rw [e,show i + 1 + (j : Int) - 1 = i + ((j + 1 : Nat) : Int) - 1 by omega,show i + 1 + (j : Int) = i + ((j + 1 : Nat) : Int) by omega]⟩
  ·
   rintro ⟨j,hj,e⟩
   cases j with
   | zero => left; rw [e]; simp
   | succ j => right; exact ⟨j,by omega,by rw [e,show i + 1 + (j : Int) - 1 = i + ((j + 1 : Nat) : Int) - 1 by omega,show i + 1 + (j : Int) = i + ((j + 1 : Nat) : Int) by omega]⟩
def allP (L : List (List Int)) : List (List Int):=L.flatMap adj
theorem allP_two {L : List (List Int)} {x : List Int} (h : x ∈ allP L) : x.length = 2:=by
 obtain ⟨r,_,hr⟩:=List.mem_flatMap.mp h
 exact adjd_two r _ _ x hr
def specL (N : Nat) (on : List Bool) : Nat → Nat → List (List Int)
 | _,0 => []
 | c,d + 1 => if rdOf false on c = true then [((c / N : Nat) : Int),((c % N : Nat) : Int)] :: specL N on (c + 1) d else specL N on (c + 1) d
theorem mem_specL (N : Nat) (on : List Bool) : ∀ (d c : Nat) (x : List Int),x ∈ specL N on c d ↔ ∃ e : Nat,c ≤ e ∧ e < c + d ∧ rdOf false on e = true ∧ x = [((e / N : Nat) : Int),((e % N : Nat) : Int)]
 | 0,c,x => by simp [specL]; omega
 | d + 1,c,x => by
  rw [specL]
  have ih:=mem_specL N on d (c + 1) x
  by_cases h : rdOf false on c = true
  ·
   rw [if_pos h,List.mem_cons,ih]
   constructor
   ·
    rintro (e | ⟨e,h1,h2,h3,h4⟩)
    ·
     exact ⟨c,Nat.le_refl _,by omega,h,e⟩
    ·
     exact ⟨e,by omega,by omega,h3,h4⟩
   ·
    rintro ⟨e,h1,h2,h3,h4⟩
    by_cases he : e = c
    ·
     left; rw [h4,he]
    ·
     right; exact ⟨e,by omega,by omega,h3,h4⟩
  ·
   rw [if_neg h,ih]
   constructor
   ·
    rintro ⟨e,h1,h2,h3,h4⟩; exact ⟨e,by omega,by omega,h3,h4⟩
   ·
    rintro ⟨e,h1,h2,h3,h4⟩
    by_cases he : e = c
    ·
     subst he; exact absurd h3 h
    ·
     exact ⟨e,by omega,by omega,h3,h4⟩
theorem code_lt {N a b : Nat} (h : a < b) : lt2 [((a / N : Nat) : Int),((a % N : Nat) : Int)] [((b / N : Nat) : Int),((b % N : Nat) : Int)]:=by
 have h1:=Nat.div_add_mod a N
 have h2:=Nat.div_add_mod b N
 have h3 : a / N ≤ b / N:=Nat.div_le_div_right (Nat.le_of_lt h)
 show ((a / N : Nat) : Int) < ((b / N : Nat) : Int) ∨ ((a / N : Nat) : Int) = ((b / N : Nat) : Int) ∧ ((a % N : Nat) : Int) < ((b % N : Nat) : Int)
 by_cases e : a / N = b / N
 ·
  right
  refine ⟨by rw [e],?_⟩
  rw [e] at h1
  omega
 ·
  left; omega
theorem specL_strict (N : Nat) (on : List Bool) : ∀ (d c : Nat),(specL N on c d).Pairwise lt2
 | 0,_ => List.Pairwise.nil
 | d + 1,c => by
  rw [specL]
  split
  ·
   refine List.pairwise_cons.mpr ⟨fun y hy => ?_,specL_strict N on d _⟩
   obtain ⟨e,h1,h2,h3,rfl⟩:=(mem_specL N on d (c + 1) y).mp hy
   exact code_lt (by omega)
  ·
   exact specL_strict N on d _
theorem specL_len (N : Nat) (on : List Bool) : ∀ (d c : Nat),(specL N on c d).length ≤ d
 | 0,_ => Nat.le_refl _
 | d + 1,c => by
  rw [specL]
  have:=specL_len N on d (c + 1)
  split
  ·
   rw [List.length_cons]; omega
  ·
   omega
def codeP (N : Nat) (p : List Int) : Nat:=(rd p 0).toNat * N + (rd p 1).toNat
def setP (N : Nat) (on : List Bool) (p : List Int) : List Bool:=on.set (codeP N p) true
theorem setP_len (N : Nat) (ps : List (List Int)) : ∀ (on : List Bool),(ps.foldl (setP N) on).length = on.length:=by
 induction ps with
 | nil => intro on; rfl
 | cons p ps ih => intro on; rw [List.foldl_cons,ih]; simp [setP]
theorem fold_on (N : Nat) : ∀ (ps : List (List Int)) (on : List Bool) (c : Nat),(∀ p ∈ ps,codeP N p < on.length) → (rdOf false (ps.foldl (setP N) on) c = true ↔ (rdOf false on c = true ∨ ∃ p ∈ ps,codeP N p = c))
 | [],on,c,_ => by simp
 | p :: ps,on,c,h => by
  rw [List.foldl_cons,fold_on N ps (setP N on p) c (fun q hq => by have:=h q (List.mem_cons_of_mem _ hq); simpa [setP] using this)]
  have h0:=h p List.mem_cons_self
  have e : rdOf false (setP N on p) c = if c = codeP N p then true else rdOf false on c:=by
   unfold setP rdOf
   rw [Int.toNat_natCast,List.getD_eq_getElem?_getD,List.getD_eq_getElem?_getD]
   by_cases e : c = codeP N p
   ·
    rw [if_pos e,e,List.getElem?_set_self h0]; rfl
   ·
    rw [if_neg e,List.getElem?_set_ne (fun h => e h.symm)]
  rw [e]
  constructor
  ·
   rintro (h1 | ⟨q,hq,e2⟩)
   ·
    by_cases e3 : c = codeP N p
    ·
     exact .inr ⟨p,List.mem_cons_self,e3.symm⟩
    ·
     rw [if_neg e3] at h1; exact .inl h1
   ·
    exact .inr ⟨q,List.mem_cons_of_mem _ hq,e2⟩
  ·
   rintro (h1 | ⟨q,hq,e2⟩)
   ·
    left; split
    ·
     rfl
    ·
     exact h1
   ·
    rcases List.mem_cons.mp hq with rfl | hq
    ·
     left; rw [if_pos e2.symm]
    ·
     exact .inr ⟨q,hq,e2⟩
theorem rdb_rep' (n c : Nat) : rdOf false (List.replicate n false) c = false:=by
 unfold rdOf
 rw [List.getD_eq_getElem?_getD,List.getElem?_replicate]
 split <;> rfl
theorem waits_one {L : List (List Int)} {N : Nat} (hN : ∀ p ∈ allP L,0 ≤ rd p 0 ∧ rd p 0 < N ∧ 0 ≤ rd p 1 ∧ rd p 1 < N) :
  compL (sortL (allP L)) = specL N ((allP L).foldl (setP N) (List.replicate (N * N) false)) 0 (N * N):=by
 have hc : ∀ p ∈ allP L,codeP N p < N * N ∧ codeP N p / N = (rd p 0).toNat ∧ codeP N p % N = (rd p 1).toNat:=by
  intro p hp
  obtain ⟨a0,a1,b0,b1⟩:=hN p hp
  have hb : (rd p 1).toNat < N:=by omega
  have ha : (rd p 0).toNat < N:=by omega
  unfold codeP
  refine ⟨?_,?_,?_⟩
  ·
   calc (rd p 0).toNat * N + (rd p 1).toNat < (rd p 0).toNat * N + N:=by omega
    _ = ((rd p 0).toNat + 1) * N:=by rw [Nat.add_mul,Nat.one_mul]
    _ ≤ N * N:=Nat.mul_le_mul_right _ ha
  ·
   rw [Nat.mul_comm,Nat.mul_add_div (by omega),Nat.div_eq_of_lt hb]; rfl
  ·
   rw [Nat.mul_comm,Nat.mul_add_mod,Nat.mod_eq_of_lt hb]
 refine strict_ext lt2_irrefl lt2_trans _ _ (compL_strict (sortL_len (fun x hx => allP_two hx)) (sortL_sorted _)) (specL_strict N _ _ _) (fun x => ?_)
 rw [mem_compL,mem_sortL,mem_specL]
 constructor
 ·
  intro hx
  obtain ⟨c1,c2,c3⟩:=hc x hx
  obtain ⟨a0,a1,b0,b1⟩:=hN x hx
  refine ⟨codeP N x,Nat.zero_le _,by omega,(fold_on N _ _ _ (fun p hp => by rw [List.length_replicate]; exact (hc p hp).1)).mpr (.inr ⟨x,hx,rfl⟩),?_⟩
  rw [c2,c3,Int.toNat_of_nonneg a0,Int.toNat_of_nonneg b0]
  exact len2 (allP_two hx)
 ·
  rintro ⟨e,h1,h2,h3,rfl⟩
  rcases (fold_on N _ _ _ (fun p hp => by rw [List.length_replicate]; exact (hc p hp).1)).mp h3 with h | ⟨p,hp,rfl⟩
  ·
   rw [rdb_rep'] at h; exact absurd h (by decide)
  ·
   obtain ⟨c1,c2,c3⟩:=hc p hp
   obtain ⟨a0,a1,b0,b1⟩:=hN p hp
   rw [c2,c3,Int.toNat_of_nonneg a0,Int.toNat_of_nonneg b0,← len2 (allP_two hp)]
   exact hp
def finW (x : List (List Int)) : Option (List (List Int)):=if pairs2 x = true then (if x.length < 4611686018427387904 then some (compL (sortL x)) else none) else none
theorem impl_w1 (r : List Int) (L : List (List Int)) (hr : r.length ≤ 30) (x25 : Int) (d : Nat) : ∀ (k : Nat) (i : Int) (out : List (List Int)),1 ≤ i → (d = 0 → (r.length : Int) ≤ i) → (0 < d → i + d = r.length) → out.length + d ≤ 100000 →
  impl_WaitsOf.l1 (k + d + 1) out r i L (L.length : Int) x25 = impl_WaitsOf.l0 k (out ++ adjd r i d) L (L.length : Int) (wrap64 (x25 + 1)):=by
 induction d with
 | zero =>
  intro k i out h1 h2 _ _
  have:=h2 rfl
  rw [show k + 0 + 1 = k + 1 by omega,impl_WaitsOf.l1,if_neg (by omega),adjd,List.append_nil]
 | succ d ih =>
  intro k i out h1 _ h3 h4
  have:=h3 (by omega)
  rw [show k + (d + 1) + 1 = (k + d + 1) + 1 by omega,impl_WaitsOf.l1,if_pos (by omega),w_in (n:=i - 1) (by omega) (by omega),if_pos (by omega),if_pos (by omega),if_pos (by omega),if_pos (by omega),w_in (n:=i + 1) (by omega) (by omega),
   ih k (i + 1) _ (by omega) (by omega) (by omega) (by rw [List.length_append]; simp; omega),adjd,List.append_assoc]
  rfl
theorem impl_w0 (L : List (List Int)) (hL : ∀ r ∈ L,r.length ≤ 30) (hl : L.length ≤ 12) (d : Nat) : ∀ (k : Nat) (i : Int) (out : List (List Int)),0 ≤ i → i + d = L.length → out.length + d * 40 ≤ 100000 → d * 40 < k →
  impl_WaitsOf.l0 k out L (L.length : Int) i = finW (out ++ (L.drop i.toNat).flatMap adj):=by
 induction d with
 | zero =>
  intro k i out h0 h1 ho hk
  obtain ⟨k,rfl⟩ : ∃ m,k = m + 1:=⟨k - 1,by omega⟩
  rw [impl_WaitsOf.l0,if_neg (by omega),List.drop_eq_nil_of_le (by omega),List.flatMap_nil,List.append_nil]
  rfl
 | succ d ih =>
  intro k i out h0 h1 ho hk
  have hr:=hL _ (rdl_mem (l:=L) h0 (by omega))
  obtain ⟨k,rfl⟩ : ∃ m,k = (m + ((rd_L2 L i).length - 1) + 1) + 1:=⟨k - 2 - ((rd_L2 L i).length - 1),by omega⟩
  rw [impl_WaitsOf.l0,if_pos (by omega),if_pos (by omega),if_pos (by omega),impl_w1 (rd_L2 L i) L hr i _ k 1 out (by omega) (by omega) (by omega) (by omega),w_in (n:=i + 1) (by omega) (by omega),
   ih k (i + 1) _ (by omega) (by omega) (by rw [List.length_append,adjd_len]; omega) (by omega),rdl_at h0 (by omega),List.flatMap_cons,List.append_assoc]
  rfl
theorem finW_ok {L : List (List Int)} (h : (allP L).length ≤ 100000) : finW (allP L) = some (compL (sortL (allP L))):=by
 unfold finW
 rw [if_pos (show pairs2 (allP L) = true from List.all_eq_true.mpr fun x hx => by simp [allP_two hx]),if_pos (by omega)]
theorem allP_len : ∀ (L : List (List Int)),(∀ r ∈ L,r.length ≤ 30) → (allP L).length ≤ 30 * L.length
 | [],_ => by simp [allP]
 | r :: L,h => by
  have:=allP_len L (fun x hx => h x (List.mem_cons_of_mem _ hx))
  have h2:=h r List.mem_cons_self
  unfold allP at *
  rw [List.flatMap_cons,List.length_append,adj,adjd_len,List.length_cons]
  omega
theorem spec_w1 (w : Int) (l : List (List Int)) (r : List Int) (N : Nat) (hN : N ≤ 100) (hr : ∀ j : Int,0 ≤ j → j < r.length → 0 ≤ rd r j ∧ rd r j < N) (hl : r.length ≤ 30) (out : List (List Int)) (x10 : Int) (d : Nat) : ∀ (k : Nat) (i : Int) (on : List Bool),1 ≤ i → (d = 0 → (r.length : Int) ≤ i) → (0 < d → i + d = r.length) → on.length = N * N →
  spec_WaitsOf.l1 (k + d + 1) w l out (N : Int) on x10 r i = spec_WaitsOf.l0 k w l out (N : Int) ((adjd r i d).foldl (setP N) on) (wrap64 (x10 + 1)):=by
 induction d with
 | zero =>
  intro k i on h1 h2 _ _
  have:=h2 rfl
  rw [show k + 0 + 1 = k + 1 by omega,spec_WaitsOf.l1,if_neg (by omega),adjd]
  rfl
 | succ d ih =>
  intro k i on h1 _ h3 h4
  have h5:=h3 (by omega)
  obtain ⟨a0,a1⟩:=hr (i - 1) (by omega) (by omega)
  obtain ⟨b0,b1⟩:=hr i (by omega) (by omega)
  obtain ⟨a,ha⟩ : ∃ a : Nat,rd r (i - 1) = a:=⟨(rd r (i - 1)).toNat,by omega⟩
  obtain ⟨b,hb⟩ : ∃ b : Nat,rd r i = b:=⟨(rd r i).toNat,by omega⟩
  have hlt : a * N + b < N * N:=by
   calc a * N + b < a * N + N:=by omega
    _ = (a + 1) * N:=by rw [Nat.add_mul,Nat.one_mul]
    _ ≤ N * N:=Nat.mul_le_mul_right _ (by omega)
  have hNN : N * N ≤ 10000:=by
   calc N * N ≤ 100 * 100:=Nat.mul_le_mul hN hN
    _ = 10000:=rfl
  have hc : codeP N [rd r (i - 1),rd r i] = a * N + b:=by
   show (rd r (i - 1)).toNat * N + (rd r i).toNat = _
   rw [ha,hb]
   rfl
  have he : wrap64 (wrap64 (rd r (i - 1) * (N : Int)) + rd r i) = ((a * N + b : Nat) : Int):=by
   rw [ha,hb,show (a : Int) * (N : Int) = ((a * N : Nat) : Int) by rw [Int.natCast_mul],w_in (n:=((a * N : Nat) : Int)) (by omega) (by omega),show ((a * N : Nat) : Int) + (b : Int) = ((a * N + b : Nat) : Int) by omega,w_in (by omega) (by omega)]
  rw [show k + (d + 1) + 1 = (k + d + 1) + 1 by omega,spec_WaitsOf.l1,if_pos (by omega),w_in (n:=i - 1) (by omega) (by omega),if_pos (by omega),if_pos (by omega),if_pos (by omega),he,if_pos (by omega),if_pos (by rw [h4]; omega),w_in (n:=i + 1) (by omega) (by omega),
   Int.toNat_natCast,ih k (i + 1) _ (by omega) (by omega) (by omega) (by rw [List.length_set]; exact h4),adjd,List.foldl_cons]
  unfold setP
  rw [hc]
theorem spec_w2 (N : Nat) (hN : N ≤ 100) (hN0 : 0 < N) (on : List Bool) (hon : on.length = N * N) (d : Nat) : ∀ (k : Nat) (c : Nat) (out : List (List Int)),c + d = N * N → out.length + d ≤ 100000 → d < k →
  spec_WaitsOf.l2 k out (N : Int) on c = some (out ++ specL N on c d):=by
 have hNN : N * N ≤ 10000:=by
  calc N * N ≤ 100 * 100:=Nat.mul_le_mul hN hN
   _ = 10000:=rfl
 have hw : wrap64 ((N : Int) * (N : Int)) = ((N * N : Nat) : Int):=by rw [← Int.natCast_mul]; exact w_in (by omega) (by omega)
 induction d with
 | zero =>
  intro k c out h1 ho hk
  obtain ⟨k,rfl⟩ : ∃ m,k = m + 1:=⟨k - 1,by omega⟩
  rw [spec_WaitsOf.l2,hw,if_neg (by omega),specL,List.append_nil]
 | succ d ih =>
  intro k c out h1 ho hk
  obtain ⟨k,rfl⟩ : ∃ m,k = m + 1:=⟨k - 1,by omega⟩
  have e1 : wrap64 ((c : Int) + 1) = ((c + 1 : Nat) : Int):=by rw [w_in (by omega) (by omega)]; omega
  have hq : c / N ≤ c:=Nat.div_le_self c N
  have hq2 : wrap64 ((c / N : Nat) : Int) = ((c / N : Nat) : Int):=by generalize c / N = q at hq; exact w_in (by omega) (by omega)
  rw [spec_WaitsOf.l2,hw,if_pos (by omega),if_pos (by omega),if_pos (by rw [hon]; omega),specL]
  by_cases hb : rdOf false on c = true
  ·
   rw [if_pos hb,if_pos hb,if_neg (by omega),if_pos (by omega),← Int.ofNat_tdiv,← Int.ofNat_tmod,hq2,e1,ih k (c + 1) _ (by omega) (by rw [List.length_append]; simp; omega) (by omega),List.append_assoc]
   rfl
  ·
   rw [if_neg hb,if_neg hb,e1,ih k (c + 1) _ (by omega) (by omega) (by omega)]
theorem spec_w0 (w h : Int) (l : List (List Int)) (ha : ∀ x ∈ l,wayv w h x = true) (hl : l.length ≤ 12) (N : Nat) (hNe : (N : Int) = 4 * (w * h)) (hN : N ≤ 100) (hN0 : 0 < N) (d : Nat) : ∀ (k : Nat) (i : Int) (on : List Bool),0 ≤ i → i + d = l.length → on.length = N * N → d * 40 + 10100 < k →
  spec_WaitsOf.l0 k w l [] (N : Int) on i = some (specL N ((((l.drop i.toNat).map (wof w)).flatMap adj).foldl (setP N) on) 0 (N * N)):=by
 induction d with
 | zero =>
  intro k i on h0 h1 ho hk
  obtain ⟨k,rfl⟩ : ∃ m,k = m + 1:=⟨k - 1,by omega⟩
  have hNN : N * N ≤ 10000:=by
   calc N * N ≤ 100 * 100:=Nat.mul_le_mul hN hN
    _ = 10000:=rfl
  have:=spec_w2 N hN hN0 on ho (N * N) k 0 [] (by omega) (by simp; omega) (by omega)
  rw [spec_WaitsOf.l0,if_neg (by omega),List.drop_eq_nil_of_le (by omega)]
  exact this
 | succ d ih =>
  intro k i on h0 h1 ho hk
  have hv:=ha _ (rdl_mem (l:=l) h0 (by omega))
  obtain ⟨g1,g2,g3⟩:=wof_good hv hNe
  obtain ⟨k,rfl⟩ : ∃ m,k = (m + ((wof w (rd_L2 l i)).length - 1) + 1) + 1:=⟨k - 2 - ((wof w (rd_L2 l i)).length - 1),by omega⟩
  rw [spec_WaitsOf.l0,if_pos (by omega),if_pos (by omega),bs (spec_wof hv (by omega)),spec_w1 w l (wof w (rd_L2 l i)) N hN g2 g1 [] i _ k 1 on (by omega) (by omega) (by omega) ho,w_in (n:=i + 1) (by omega) (by omega),
   ih k (i + 1) _ (by omega) (by omega) (by rw [setP_len]; exact ho) (by omega),rdl_at h0 (by omega),List.map_cons,List.flatMap_cons,List.foldl_append]
  rfl
def waitsR (w h : Int) (l : List (List Int)) : List (List Int):=if goodw w h l = true then compL (sortL (allP (l.map (wof w)))) else []
theorem good_open {w h : Int} {l : List (List Int)} (g : goodw w h l = true) : (∀ x ∈ l,wayv w h x = true) ∧ (1 ≤ w ∧ w ≤ 5) ∧ (1 ≤ h ∧ h ≤ 5) ∧ l.length ≤ 12:=by
 unfold goodw fab at g
 simp only [Bool.and_eq_true,decide_eq_true_eq,List.all_eq_true] at g
 exact ⟨g.1.1,g.1.2.1,g.1.2.2,by omega⟩
theorem good_N {w h : Int} (hw : 1 ≤ w ∧ w ≤ 5) (hh : 1 ≤ h ∧ h ≤ 5) : ∃ N : Nat,(N : Int) = 4 * (w * h) ∧ N ≤ 100 ∧ 0 < N ∧ wrap64 (wrap64 (4 * w) * h) = (N : Int):=by
 have h1 : 1 ≤ w * h ∧ w * h ≤ 25:=by
  obtain ⟨a,b⟩:=hw
  obtain ⟨c,d⟩:=hh
  have h5 : w = 1 ∨ w = 2 ∨ w = 3 ∨ w = 4 ∨ w = 5:=by omega
  rcases h5 with rfl | rfl | rfl | rfl | rfl <;> omega
 refine ⟨(4 * (w * h)).toNat,by omega,by omega,by omega,?_⟩
 rw [w_in (n:=4 * w) (by omega) (by omega),Int.mul_assoc,w_in (by omega) (by omega)]
 omega
theorem allP_good {w h : Int} {l : List (List Int)} (g : goodw w h l = true) {N : Nat} (hN : (N : Int) = 4 * (w * h)) : ∀ p ∈ allP (l.map (wof w)),0 ≤ rd p 0 ∧ rd p 0 < N ∧ 0 ≤ rd p 1 ∧ rd p 1 < N:=by
 intro p hp
 obtain ⟨r,hr,hpr⟩:=List.mem_flatMap.mp hp
 obtain ⟨x,hx,rfl⟩:=List.mem_map.mp hr
 obtain ⟨g1,g2,g3⟩:=wof_good ((good_open g).1 x hx) hN
 obtain ⟨j,hj,rfl⟩:=(mem_adjd _ _ _ _).mp hpr
 have e0 : rd [rd (wof w x) (1 + (j : Int) - 1),rd (wof w x) (1 + (j : Int))] 0 = rd (wof w x) (1 + (j : Int) - 1):=rfl
 have e1 : rd [rd (wof w x) (1 + (j : Int) - 1),rd (wof w x) (1 + (j : Int))] 1 = rd (wof w x) (1 + (j : Int)):=rfl
 rw [e0,e1]
 have q0:=g2 (1 + (j : Int) - 1) (by omega) (by omega)
 have q1:=g2 (1 + (j : Int)) (by omega) (by omega)
 exact ⟨q0.1,q0.2,q1.1,q1.2⟩
theorem waitsR_two {w h : Int} {l : List (List Int)} : ∀ x ∈ waitsR w h l,x.length = 2:=by
 intro x hx
 unfold waitsR at hx
 split at hx
 ·
  exact allP_two (mem_sortL.mp (mem_compL.mp hx))
 ·
  simp at hx
theorem waitsR_len (w h : Int) (l : List (List Int)) : (waitsR w h l).length ≤ 10000:=by
 unfold waitsR
 split
 ·
  rename_i g
  obtain ⟨g1,g2,g3,g4⟩:=good_open g
  obtain ⟨N,hN,hN1,hN2,hN3⟩:=good_N g2 g3
  rw [waits_one (allP_good g hN)]
  have:=specL_len N ((allP (l.map (wof w))).foldl (setP N) (List.replicate (N * N) false)) (N * N) 0
  have hNN : N * N ≤ 10000:=by
   calc N * N ≤ 100 * 100:=Nat.mul_le_mul hN1 hN1
    _ = 10000:=rfl
  omega
 ·
  simp
theorem impl_waits {w h : Int} {l : List (List Int)} {M : Nat} (hM : ∀ x ∈ l,x.length ≤ M) (hMb : M ≤ 2000000) {k : Nat} (hk : M + 20000 < k) : impl_WaitsOf.f k w h l = some (waitsR w h l):=by
 unfold impl_WaitsOf.f waitsR
 rw [bs (impl_wires_ok hM hMb (by omega))]
 by_cases g : goodw w h l = true
 ·
  obtain ⟨g1,g2,g3,g4⟩:=good_open g
  obtain ⟨N,hN,hN1,hN2,hN3⟩:=good_N g2 g3
  have hL : ∀ r ∈ l.map (wof w),r.length ≤ 30:=fun r hr => by obtain ⟨x,hx,rfl⟩:=List.mem_map.mp hr; exact (wof_good (g1 x hx) hN).1
  have hlen:=allP_len (l.map (wof w)) hL
  rw [List.length_map] at hlen
  have h0:=impl_w0 (l.map (wof w)) hL (by rw [List.length_map]; exact g4) l.length k 0 [] (by omega) (by rw [List.length_map]; omega) (by simp; omega) (by omega)
  rw [if_pos g,if_pos g]
  dsimp only
  have e : ([] ++ ((l.map (wof w)).drop (0 : Int).toNat).flatMap adj) = allP (l.map (wof w)):=rfl
  rw [List.length_map] at h0
  rw [if_pos rfl,List.length_map,h0,e]
  exact finW_ok (by omega)
 ·
  rw [if_neg g,if_neg g]
  dsimp only
  rw [if_neg (by decide)]
theorem spec_waits {w h : Int} {l : List (List Int)} {M : Nat} (hM : ∀ x ∈ l,x.length ≤ M) (hMb : M ≤ 2000000) (hl : l.length ≤ 2000000) {k : Nat} (hk : l.length + M + 20000 < k) : spec_WaitsOf.f k w h l = some (waitsR w h l):=by
 unfold spec_WaitsOf.f waitsR
 rw [bs rfl,bs (ways_ok hM hMb hl (by omega))]
 by_cases g : goodw w h l = true
 ·
  obtain ⟨g1,g2,g3,g4⟩:=good_open g
  obtain ⟨N,hN,hN1,hN2,hN3⟩:=good_N g2 g3
  have hNN : N * N ≤ 10000:=by
   calc N * N ≤ 100 * 100:=Nat.mul_le_mul hN1 hN1
    _ = 10000:=rfl
  have hw : wrap64 ((N : Int) * (N : Int)) = ((N * N : Nat) : Int):=by rw [← Int.natCast_mul]; exact w_in (by omega) (by omega)
  have h0:=spec_w0 w h l g1 g4 N hN hN1 hN2 l.length k 0 (List.replicate (N * N) false) (by omega) (by omega) (by simp) (by omega)
  rw [if_pos g,if_pos g,hN3,hw,if_pos (by omega),Int.toNat_natCast,if_pos (by omega),h0,waits_one (allP_good g hN)]
  rfl
 ·
  rw [if_neg g,if_neg g]
theorem up {α : Type} {f : Nat → Option α} (hm : ∀ k,LeO (f k) (f (k + 1))) {k K : Nat} {v : α} (h : f k = some v) (hk : k ≤ K) : f K = some v:=by
 obtain ⟨d,rfl⟩:=Nat.exists_eq_add_of_le hk
 clear hk
 induction d with
 | zero => exact h
 | succ d ih => exact hm _ _ ih
def rch (ps : List (List Int)) : Nat → Int → Int → Prop
 | 0,x,y => y ∈ nxt ps x
 | n + 1,x,y => ∃ z,z ∈ nxt ps x ∧ rch ps n z y
def Reach (ps : List (List Int)) (x y : Int) : Prop:=∃ n,rch ps n x y
theorem reach_one {ps : List (List Int)} {x y : Int} (h : y ∈ nxt ps x) : Reach ps x y:=⟨0,h⟩
theorem reach_cons {ps : List (List Int)} {x y z : Int} (h : y ∈ nxt ps x) (h2 : Reach ps y z) : Reach ps x z:=by
 obtain ⟨n,h2⟩:=h2
 exact ⟨n + 1,y,h,h2⟩
theorem mem_nxt {ps : List (List Int)} {x y : Int} : y ∈ nxt ps x ↔ ∃ p ∈ ps,rd p 0 = x ∧ rd p 1 = y:=by
 unfold nxt
 constructor
 ·
  intro h
  obtain ⟨p,hp,e⟩:=List.mem_map.mp h
  obtain ⟨h1,h2⟩:=List.mem_filter.mp hp
  exact ⟨p,h1,by simpa using h2,e⟩
 ·
  rintro ⟨p,hp,e0,e1⟩
  exact List.mem_map.mpr ⟨p,List.mem_filter.mpr ⟨hp,by simpa using e0⟩,e1⟩
theorem drop1 (n : Int) (r : List Int) : (n :: r).drop (1 : Int).toNat = r:=rfl
theorem rd0 (n : Int) (r : List Int) : rd (n :: r) 0 = n:=rfl
theorem bfs_true {ps : List (List Int)} {s : Int} : ∀ (k : Nat) (seen : List (Int × Bool)) (todo : List Int),impl_HasRound.l2 k ps s seen todo = some true → ∃ t ∈ todo,t = s ∨ Reach ps t s
 | 0,_,_,h => by simp [impl_HasRound.l2] at h
 | k + 1,seen,[],h => by rw [impl_HasRound.l2,if_neg (by simp)] at h; simp at h
 | k + 1,seen,n :: r,h => by
  rw [impl_HasRound.l2,if_pos (by simp)] at h
  rw [rd0,drop1] at h
  by_cases c1 : (Lit.int .i64 n).wf = true
  ·
   rw [if_pos c1] at h
   by_cases c2 : n = s
   ·
    exact ⟨n,List.mem_cons_self,.inl c2⟩
   ·
    rw [if_neg c2] at h
    by_cases c3 : hget seen n = true
    ·
     rw [if_pos c3] at h
     obtain ⟨t,ht,h2⟩:=bfs_true k _ _ h
     exact ⟨t,List.mem_cons_of_mem _ ht,h2⟩
    ·
     rw [if_neg c3] at h
     by_cases c4 : r.length + (nxt ps n).length < 17592186044416 ∧ seen.length < 17592186044416
     ·
      rw [if_pos c4] at h
      obtain ⟨t,ht,h2⟩:=bfs_true k _ _ h
      rcases List.mem_append.mp ht with ht | ht
      ·
       exact ⟨t,List.mem_cons_of_mem _ ht,h2⟩
      ·
       refine ⟨n,List.mem_cons_self,.inr ?_⟩
       rcases h2 with rfl | h2
       ·
        exact reach_one ht
       ·
        exact reach_cons ht h2
     ·
      rw [if_neg c4] at h; simp at h
  ·
   rw [if_neg c1] at h; simp at h
theorem hget_cons (n : Int) (seen : List (Int × Bool)) (x : Int) : hget ((n,true) :: seen) x = if x = n then true else hget seen x:=rfl
theorem bfs_false {ps : List (List Int)} {s : Int} : ∀ (k : Nat) (seen : List (Int × Bool)) (todo : List Int),(∀ v,hget seen v = true → v ≠ s ∧ ∀ y ∈ nxt ps v,hget seen y = true ∨ y ∈ todo) → impl_HasRound.l2 k ps s seen todo = some false →
  ∃ S : Int → Prop,(∀ t ∈ todo,S t) ∧ (∀ v,hget seen v = true → S v) ∧ ∀ v,S v → v ≠ s ∧ ∀ y ∈ nxt ps v,S y
 | 0,_,_,_,h => by simp [impl_HasRound.l2] at h
 | k + 1,seen,[],hi,_ => ⟨fun v => hget seen v = true,fun t ht => by simp at ht,fun _ h => h,fun v hv => ⟨(hi v hv).1,fun y hy => by
   rcases (hi v hv).2 y hy with h | h
   ·
    exact h
   ·
    simp at h⟩⟩
 | k + 1,seen,n :: r,hi,h => by
  rw [impl_HasRound.l2,if_pos (by simp)] at h
  rw [rd0,drop1] at h
  by_cases c1 : (Lit.int .i64 n).wf = true
  ·
   rw [if_pos c1] at h
   by_cases c2 : n = s
   ·
    rw [if_pos c2] at h; simp at h
   ·
    rw [if_neg c2] at h
    by_cases c3 : hget seen n = true
    ·
     rw [if_pos c3] at h
     obtain ⟨S,s1,s2,s3⟩:=bfs_false k seen r (fun v hv => ⟨(hi v hv).1,fun y hy => by
      rcases (hi v hv).2 y hy with h1 | h1
      ·
       exact .inl h1
      ·
       rcases List.mem_cons.mp h1 with rfl | h1
       ·
        exact .inl c3
       ·
        exact .inr h1⟩) h
     refine ⟨S,fun t ht => ?_,s2,s3⟩
     rcases List.mem_cons.mp ht with rfl | ht
     ·
      exact s2 _ c3
     ·
      exact s1 t ht
    ·
     rw [if_neg c3] at h
     by_cases c4 : r.length + (nxt ps n).length < 17592186044416 ∧ seen.length < 17592186044416
     ·
      rw [if_pos c4] at h
      obtain ⟨S,s1,s2,s3⟩:=bfs_false k ((n,true) :: seen) (r ++ nxt ps n) (fun v hv => by
       rw [hget_cons] at hv
       by_cases e : v = n
       ·
        subst e
        exact ⟨c2,fun y hy => .inr (List.mem_append_right _ hy)⟩
       ·
        rw [if_neg e] at hv
        refine ⟨(hi v hv).1,fun y hy => ?_⟩
        rw [hget_cons]
        rcases (hi v hv).2 y hy with h1 | h1
        ·
         left; split
         ·
          rfl
         ·
          exact h1
        ·
         rcases List.mem_cons.mp h1 with rfl | h1
         ·
          left; rw [if_pos rfl]
         ·
          exact .inr (List.mem_append_left _ h1)) h
      refine ⟨S,fun t ht => ?_,fun v hv => s2 v (by rw [hget_cons]; split; rfl; exact hv),s3⟩
      rcases List.mem_cons.mp ht with rfl | ht
      ·
       exact s2 _ (by rw [hget_cons,if_pos rfl])
      ·
       exact s1 t (List.mem_append_left _ ht)
     ·
      rw [if_neg c4] at h; simp at h
  ·
   rw [if_neg c1] at h; simp at h
theorem closed_reach {ps : List (List Int)} {S : Int → Prop} (hS : ∀ v,S v → ∀ y ∈ nxt ps v,S y) : ∀ (n : Nat) (x y : Int),S x → rch ps n x y → S y
 | 0,x,y,h,hr => hS x h y hr
 | n + 1,x,y,h,hr => by
  obtain ⟨z,hz,hr⟩:=hr
  exact closed_reach hS n z y (hS x h z hz) hr
theorem bfs_iff {ps : List (List Int)} {s : Int} {k : Nat} {b : Bool} (h : impl_HasRound.l2 k ps s [] (nxt ps s) = some b) : b = true ↔ Reach ps s s:=by
 constructor
 ·
  rintro rfl
  obtain ⟨t,ht,h2⟩:=bfs_true k _ _ h
  rcases h2 with rfl | h2
  ·
   exact reach_one ht
  ·
   exact reach_cons ht h2
 ·
  intro hr
  cases b with
  | true => rfl
  | false =>
   obtain ⟨S,s1,_,s3⟩:=bfs_false k [] (nxt ps s) (fun v hv => by simp [hget] at hv) h
   obtain ⟨n,hr⟩:=hr
   have : S s:=by
    cases n with
    | zero => exact s1 s hr
    | succ n =>
     obtain ⟨z,hz,hr⟩:=hr
     exact closed_reach (fun v hv y hy => (s3 v hv).2 y hy) n z s (s1 z hz) hr
   exact absurd rfl (s3 s this).1
def unseen (ps : List (List Int)) (seen : List (Int × Bool)) : Nat:=(ps.filter fun p => !hget seen (rd p 0)).length
theorem unseen_add {seen : List (Int × Bool)} {n : Int} (h : hget seen n = false) : ∀ (ps : List (List Int)),unseen ps ((n,true) :: seen) + (nxt ps n).length = unseen ps seen
 | [] => rfl
 | p :: ps => by
  have ih:=unseen_add h ps
  unfold unseen at *
  have e : nxt (p :: ps) n = (if rd p 0 = n then [rd p 1] else []) ++ nxt ps n:=by
   unfold nxt
   by_cases e : rd p 0 = n <;> simp [e]
  rw [e,List.length_append,List.filter_cons,List.filter_cons]
  by_cases e2 : rd p 0 = n
  ·
   have h1 : (!hget ((n,true) :: seen) (rd p 0)) = false:=by rw [hget_cons,if_pos e2]; rfl
   have h2 : (!hget seen (rd p 0)) = true:=by rw [e2,h]; rfl
   rw [if_neg (by rw [h1]; decide),if_pos h2,if_pos e2,List.length_cons,List.length_cons,List.length_nil]
   omega
  ·
   have h1 : (!hget ((n,true) :: seen) (rd p 0)) = (!hget seen (rd p 0)):=by rw [hget_cons,if_neg e2]
   rw [h1,if_neg e2]
   split
   ·
    rw [List.length_cons,List.length_cons,List.length_nil]; omega
   ·
    rw [List.length_nil]; omega
theorem bfs_some {ps : List (List Int)} {s : Int} (hw : ∀ p ∈ ps,(Lit.int .i64 (rd p 1)).wf = true) (hp : ps.length ≤ 100000) : ∀ (m : Nat) (seen : List (Int × Bool)) (todo : List Int),todo.length + unseen ps seen ≤ m → (∀ t ∈ todo,(Lit.int .i64 t).wf = true) → seen.length + m ≤ 1000000 → ∃ k b,impl_HasRound.l2 k ps s seen todo = some b
 | _,seen,[],_,_,_ => ⟨1,false,by rw [impl_HasRound.l2,if_neg (by simp)]⟩
 | 0,_,n :: r,hm,_,_ => by simp at hm
 | m + 1,seen,n :: r,hm,ht,hs => by
  have hn:=ht n List.mem_cons_self
  rw [List.length_cons] at hm
  have step : ∀ k,impl_HasRound.l2 (k + 1) ps s seen (n :: r) = if n = s then some true else (if hget seen n = true then (impl_HasRound.l2 k ps s seen r) else (if r.length + (nxt ps n).length < 17592186044416 ∧ seen.length < 17592186044416 then (impl_HasRound.l2 k ps s ((n,true) :: seen) (r ++ nxt ps n)) else none)):=by
   intro k
   rw [impl_HasRound.l2,if_pos (by simp),rd0,drop1,if_pos hn]
  by_cases c2 : n = s
  ·
   exact ⟨1,true,by rw [step,if_pos c2]⟩
  by_cases c3 : hget seen n = true
  ·
   obtain ⟨k,b,hk⟩:=bfs_some hw hp m seen r (by omega) (fun t h => ht t (List.mem_cons_of_mem _ h)) (by omega)
   exact ⟨k + 1,b,by rw [step,if_neg c2,if_pos c3,hk]⟩
  ·
   have hu:=unseen_add (Bool.eq_false_iff.mpr c3) ps
   have hl:=nxt_len ps n
   obtain ⟨k,b,hk⟩:=bfs_some hw hp m ((n,true) :: seen) (r ++ nxt ps n) (by rw [List.length_append]; omega) (fun t h => by
    rcases List.mem_append.mp h with h | h
    ·
     exact ht t (List.mem_cons_of_mem _ h)
    ·
     obtain ⟨p,hp1,_,e⟩:=mem_nxt.mp h
     rw [← e]; exact hw p hp1) (by rw [List.length_cons]; omega)
   exact ⟨k + 1,b,by rw [step,if_neg c2,if_neg c3,if_pos ⟨by omega,by omega⟩,hk]⟩
theorem go_some {ps : List (List Int)} (hw : ∀ p ∈ ps,(Lit.int .i64 (rd p 1)).wf = true) (hp : ps.length ≤ 100000) : ∀ (l : List (List Int)),∃ k r,impl_HasRound.go k ps l = some r ∧ (r = true ↔ ∃ p ∈ l,Reach ps (rd p 0) (rd p 0))
 | [] => ⟨0,false,rfl,by simp⟩
 | p :: l => by
  obtain ⟨k1,r1,h1,e1⟩:=go_some hw hp l
  have hu : unseen ps [] ≤ ps.length:=List.length_filter_le _ _
  obtain ⟨k2,b,h2⟩:=bfs_some (s:=rd p 0) hw hp ((nxt ps (rd p 0)).length + unseen ps []) [] (nxt ps (rd p 0)) (Nat.le_refl _) (fun t h => by obtain ⟨q,hq,_,e⟩:=mem_nxt.mp h; rw [← e]; exact hw q hq) (by have:=nxt_len ps (rd p 0); simp; omega)
  have e2:=bfs_iff h2
  have h3:=up (fun k => impl_HasRound.mono_l k ps (rd p 0) [] (nxt ps (rd p 0))) h2 (Nat.le_add_left k2 k1)
  have h4:=up (fun k => impl_HasRound.mono_go k ps l) h1 (Nat.le_add_right k1 k2)
  refine ⟨k1 + k2,b || r1,by rw [impl_HasRound.go,bs h3,bs h4],?_⟩
  rw [Bool.or_eq_true,e1,e2]
  constructor
  ·
   rintro (h | ⟨q,hq,h⟩)
   ·
    exact ⟨p,List.mem_cons_self,h⟩
   ·
    exact ⟨q,List.mem_cons_of_mem _ hq,h⟩
  ·
   rintro ⟨q,hq,h⟩
   rcases List.mem_cons.mp hq with rfl | hq
   ·
    exact .inl h
   ·
    exact .inr ⟨q,hq,h⟩
def sup (L : List (List Int)) (p : List Int) : Bool:=L.any fun q => rd q 0 == rd p 1
def Sup (L : List (List Int)) : Prop:=∃ S : List Int → Prop,(∃ p ∈ L,S p) ∧ ∀ p ∈ L,S p → ∃ q ∈ L,S q ∧ rd q 0 = rd p 1
theorem s2_ex (L : List (List Int)) (h2 : ∀ x ∈ L,x.length = 2) (hl : L.length ≤ 10000) (x8 : List (List Int)) (h8 : x8.length ≤ 10000) (x9 : Int) (h9 : 0 ≤ x9) (h9l : x9 < L.length) (v : Bool) (d : Nat) : ∀ (i : Int) (b : Bool),0 ≤ i → i + d = L.length →
  (∃ k,spec_HasRound.l1 k L (if (b || (L.drop i.toNat).any (fun q => rd q 0 == rd (rd_L2 L x9) 1)) = true then x8 ++ [rd_L2 L x9] else x8) (wrap64 (x9 + 1)) = some v) → ∃ k,spec_HasRound.l2 k L x8 x9 b i = some v:=by
 have l9:=h2 _ (rdl_mem (l:=L) h9 h9l)
 induction d with
 | zero =>
  intro i b h0 h1 hk
  obtain ⟨k,hk⟩:=hk
  rw [List.drop_eq_nil_of_le (by omega),List.any_nil,Bool.or_false] at hk
  refine ⟨k + 1,?_⟩
  rw [spec_HasRound.l2,if_neg (by omega)]
  by_cases hb : b = true
  ·
   rw [if_pos hb] at hk ⊢
   rw [if_pos h9,if_pos h9l,if_pos (by omega)]
   exact hk
  ·
   rw [if_neg hb] at hk ⊢
   exact hk
 | succ d ih =>
  intro i b h0 h1 hk
  have li:=h2 _ (rdl_mem (l:=L) h0 (by omega))
  rw [rdl_at h0 (by omega),List.any_cons] at hk
  cases b with
  | true =>
   obtain ⟨k,hk⟩:=ih (i + 1) true (by omega) (by omega) (by simpa using hk)
   exact ⟨k + 1,by rw [spec_HasRound.l2,if_pos (by omega),if_pos rfl,w_in (by omega) (by omega)]; exact hk⟩
  | false =>
   obtain ⟨k,hk⟩:=ih (i + 1) (rd (rd_L2 L i) 0 == rd (rd_L2 L x9) 1) (by omega) (by omega) (by simpa using hk)
   exact ⟨k + 1,by rw [spec_HasRound.l2,if_pos (by omega),if_neg (by decide),if_pos h0,if_pos (by omega),if_pos h9,if_pos h9l,if_pos (by omega),w_in (n:=i + 1) (by omega) (by omega)]; exact hk⟩
theorem s1_ex (L : List (List Int)) (h2 : ∀ x ∈ L,x.length = 2) (hl : L.length ≤ 10000) (v : Bool) (d : Nat) : ∀ (i : Int) (x8 : List (List Int)),0 ≤ i → i + d = L.length → x8.length + d ≤ 10000 →
  (∃ k,(if ((x8 ++ (L.drop i.toNat).filter (sup L)).length : Int) = (L.length : Int) then some (decide (((x8 ++ (L.drop i.toNat).filter (sup L)).length : Int) > 0)) else spec_HasRound.l0 k (x8 ++ (L.drop i.toNat).filter (sup L))) = some v) → ∃ k,spec_HasRound.l1 k L x8 i = some v:=by
 induction d with
 | zero =>
  intro i x8 h0 h1 ho hk
  obtain ⟨k,hk⟩:=hk
  rw [List.drop_eq_nil_of_le (by omega),List.filter_nil,List.append_nil] at hk
  exact ⟨k + 1,by rw [spec_HasRound.l1,if_neg (by omega)]; exact hk⟩
 | succ d ih =>
  intro i x8 h0 h1 ho hk
  rw [rdl_at h0 (by omega),List.filter_cons] at hk
  have hs : (false || (L.drop (0 : Int).toNat).any (fun q => rd q 0 == rd (rd_L2 L i) 1)) = sup L (rd_L2 L i):=rfl
  have key : ∃ k,spec_HasRound.l1 k L (if (false || (L.drop (0 : Int).toNat).any (fun q => rd q 0 == rd (rd_L2 L i) 1)) = true then x8 ++ [rd_L2 L i] else x8) (wrap64 (i + 1)) = some v:=by
   rw [hs,w_in (by omega) (by omega)]
   by_cases c : sup L (rd_L2 L i) = true
   ·
    rw [if_pos c]
    rw [if_pos c] at hk
    refine ih (i + 1) (x8 ++ [rd_L2 L i]) (by omega) (by omega) (by rw [List.length_append]; simp; omega) ?_
    rw [List.append_assoc]
    exact hk
   ·
    rw [if_neg c]
    rw [if_neg c] at hk
    exact ih (i + 1) x8 (by omega) (by omega) (by omega) hk
  obtain ⟨k,hk⟩:=s2_ex L h2 hl x8 (by omega) i h0 (by omega) v L.length 0 false (by omega) (by omega) key
  exact ⟨k + 1,by rw [spec_HasRound.l1,if_pos (by omega)]; exact hk⟩
theorem filter_all {α : Type} {p : α → Bool} : ∀ {l : List α},(l.filter p).length = l.length → ∀ x ∈ l,p x = true
 | y :: l,h,x,hx => by
  rw [List.filter_cons] at h
  have hle:=List.length_filter_le p l
  by_cases c : p y = true
  ·
   rw [if_pos c,List.length_cons,List.length_cons] at h
   rcases List.mem_cons.mp hx with rfl | hx
   ·
    exact c
   ·
    exact filter_all (by omega) x hx
  ·
   rw [if_neg c,List.length_cons] at h
   omega
theorem sup_iff {L : List (List Int)} {p : List Int} : sup L p = true ↔ ∃ q ∈ L,rd q 0 = rd p 1:=by
 unfold sup
 rw [List.any_eq_true]
 constructor
 ·
  rintro ⟨q,hq,e⟩; exact ⟨q,hq,by simpa using e⟩
 ·
  rintro ⟨q,hq,e⟩; exact ⟨q,hq,by simpa using e⟩
theorem Sup_prune (L : List (List Int)) : Sup (L.filter (sup L)) ↔ Sup L:=by
 constructor
 ·
  rintro ⟨S,⟨p,hp,hs⟩,h⟩
  refine ⟨fun x => x ∈ L.filter (sup L) ∧ S x,⟨p,(List.mem_filter.mp hp).1,hp,hs⟩,fun x hx hsx => ?_⟩
  obtain ⟨q,hq,hsq,e⟩:=h x hsx.1 hsx.2
  exact ⟨q,(List.mem_filter.mp hq).1,⟨hq,hsq⟩,e⟩
 ·
  rintro ⟨S,⟨p,hp,hs⟩,h⟩
  have hm : ∀ x ∈ L,S x → x ∈ L.filter (sup L):=fun x hx hsx => by
   obtain ⟨q,hq,_,e⟩:=h x hx hsx
   exact List.mem_filter.mpr ⟨hx,sup_iff.mpr ⟨q,hq,e⟩⟩
  refine ⟨S,⟨p,hm p hp hs,hs⟩,fun x hx hsx => ?_⟩
  obtain ⟨q,hq,hsq,e⟩:=h x (List.mem_filter.mp hx).1 hsx
  exact ⟨q,hm q hq hsq,hsq,e⟩
theorem s0_ex : ∀ (n : Nat) (L : List (List Int)),L.length ≤ n → (∀ x ∈ L,x.length = 2) → L.length ≤ 10000 → ∃ v,(v = true ↔ Sup L) ∧ ∃ k,spec_HasRound.l0 k L = some v:=by
 intro n
 induction n with
 | zero =>
  intro L hn h2 hl
  obtain rfl : L = []:=List.eq_nil_of_length_eq_zero (by omega)
  exact ⟨false,⟨fun h => absurd h (by decide),fun ⟨S,⟨p,hp,_⟩,_⟩ => by simp at hp⟩,2,rfl⟩
 | succ n ih =>
  intro L hn h2 hl
  have main : ∀ v,(∃ k,(if ((L.filter (sup L)).length : Int) = (L.length : Int) then some (decide (((L.filter (sup L)).length : Int) > 0)) else spec_HasRound.l0 k (L.filter (sup L))) = some v) → ∃ k,spec_HasRound.l0 k L = some v:=by
   intro v hk
   obtain ⟨k,hk⟩:=s1_ex L h2 hl v L.length 0 [] (by omega) (by omega) (by simp; exact hl) hk
   exact ⟨k + 1,by rw [spec_HasRound.l0]; exact hk⟩
  have hle:=List.length_filter_le (sup L) L
  by_cases c : (L.filter (sup L)).length = L.length
  ·
   have hall:=filter_all c
   refine ⟨decide (((L.filter (sup L)).length : Int) > 0),?_,main _ ⟨0,by rw [if_pos (by omega)]⟩⟩
   rw [c]
   constructor
   ·
    intro h
    have hpos : 0 < L.length:=by have:=of_decide_eq_true h; omega
    refine ⟨fun _ => True,⟨L[0],List.getElem_mem _,trivial⟩,fun p hp _ => ?_⟩
    obtain ⟨q,hq,e⟩:=sup_iff.mp (hall p hp)
    exact ⟨q,hq,trivial,e⟩
   ·
    rintro ⟨S,⟨p,hp,_⟩,_⟩
    have:=List.length_pos_of_mem hp
    exact decide_eq_true (by omega)
  ·
   obtain ⟨v,hv,k,hk⟩:=ih (L.filter (sup L)) (by omega) (fun x hx => h2 x (List.mem_filter.mp hx).1) (by omega)
   exact ⟨v,hv.trans (Sup_prune L),main v ⟨k,by rw [if_neg (by omega)]; exact hk⟩⟩
theorem round_sup {ps : List (List Int)} {x : Int} (h : Reach ps x x) : Sup ps:=by
 refine ⟨fun p => Reach ps (rd p 1) x ∨ rd p 1 = x,?_,?_⟩
 ·
  obtain ⟨n,h⟩:=h
  cases n with
  | zero =>
   obtain ⟨p,hp,e0,e1⟩:=mem_nxt.mp h
   exact ⟨p,hp,.inr e1⟩
  | succ n =>
   obtain ⟨z,hz,h⟩:=h
   obtain ⟨p,hp,e0,e1⟩:=mem_nxt.mp hz
   exact ⟨p,hp,.inl ⟨n,by rw [e1]; exact h⟩⟩
 ·
  have hr : ∀ y,(Reach ps y x ∨ y = x) → Reach ps y x:=by
   rintro y (h1 | rfl)
   ·
    exact h1
   ·
    exact h
  intro p hp hs
  obtain ⟨n,h1⟩:=hr _ hs
  cases n with
  | zero =>
   obtain ⟨q,hq,e0,e1⟩:=mem_nxt.mp h1
   exact ⟨q,hq,.inr e1,e0⟩
  | succ n =>
   obtain ⟨z,hz,h1⟩:=h1
   obtain ⟨q,hq,e0,e1⟩:=mem_nxt.mp hz
   exact ⟨q,hq,.inl ⟨n,by rw [e1]; exact h1⟩,e0⟩
theorem filter_lt {α : Type} {p q : α → Bool} (hpq : ∀ x,p x = true → q x = true) {y : α} (hy1 : q y = true) (hy2 : p y = false) : ∀ {l : List α},y ∈ l → (l.filter p).length < (l.filter q).length
 | z :: l,h => by
  have hle : (l.filter p).length ≤ (l.filter q).length:=by
   clear h
   induction l with
   | nil => simp
   | cons a l ih =>
    rw [List.filter_cons,List.filter_cons]
    by_cases c : p a = true
    ·
     rw [if_pos c,if_pos (hpq a c),List.length_cons,List.length_cons]; omega
    ·
     rw [if_neg c]
     split
     ·
      rw [List.length_cons]; omega
     ·
      exact ih
  rw [List.filter_cons,List.filter_cons]
  rcases List.mem_cons.mp h with rfl | h
  ·
   rw [if_neg (by rw [hy2]; decide),if_pos hy1,List.length_cons]; omega
  ·
   have ih:=filter_lt hpq hy1 hy2 h
   by_cases c : p z = true
   ·
    rw [if_pos c,if_pos (hpq z c),List.length_cons,List.length_cons]; omega
   ·
    rw [if_neg c]
    split
    ·
     rw [List.length_cons]; omega
    ·
     exact ih
open Classical in
noncomputable def fan (ps : List (List Int)) (y : Int) : Nat:=(ps.filter fun p => decide (Reach ps y (rd p 1))).length
open Classical in
theorem sup_round {ps : List (List Int)} (h : Sup ps) : ∃ x,Reach ps x x ∧ ∃ p ∈ ps,rd p 0 = x:=by
 obtain ⟨S,hex,hS⟩:=h
 have main : ∀ (n : Nat),∀ p ∈ ps,S p → fan ps (rd p 1) < n → ∃ x,Reach ps x x ∧ ∃ q ∈ ps,rd q 0 = x:=by
  intro n
  induction n with
  | zero => intro p _ _ h; omega
  | succ n ih =>
   intro p hp hs hn
   obtain ⟨q,hq,hsq,e⟩:=hS p hp hs
   have hstep : rd q 1 ∈ nxt ps (rd p 1):=mem_nxt.mpr ⟨q,hq,e,rfl⟩
   by_cases hc : Reach ps (rd q 1) (rd q 1)
   ·
    refine ⟨rd q 1,hc,?_⟩
    obtain ⟨m,hc⟩:=hc
    cases m with
    | zero => obtain ⟨p',hp',e0,_⟩:=mem_nxt.mp hc; exact ⟨p',hp',e0⟩
    | succ m => obtain ⟨z,hz,_⟩:=hc; obtain ⟨p',hp',e0,_⟩:=mem_nxt.mp hz; exact ⟨p',hp',e0⟩
   ·
    have hlt : fan ps (rd q 1) < fan ps (rd p 1):=by
     unfold fan
     exact filter_lt (p:=fun x => decide (Reach ps (rd q 1) (rd x 1))) (q:=fun x => decide (Reach ps (rd p 1) (rd x 1))) (y:=q) (fun x hx => decide_eq_true (reach_cons hstep (of_decide_eq_true hx))) (decide_eq_true (reach_one hstep)) (decide_eq_false hc) hq
    exact ih q hq hsq (by omega)
 obtain ⟨p,hp,hs⟩:=hex
 exact main _ p hp hs (Nat.lt_succ_self _)
theorem sup_iff_round {ps : List (List Int)} : Sup ps ↔ ∃ p ∈ ps,Reach ps (rd p 0) (rd p 0):=by
 constructor
 ·
  intro h
  obtain ⟨x,hx,p,hp,rfl⟩:=sup_round h
  exact ⟨p,hp,hx⟩
 ·
  rintro ⟨p,_,h⟩
  exact round_sup h
theorem wf_small {x : Int} (h0 : 0 ≤ x) (h1 : x < 100) : (Lit.int .i64 x).wf = true:=by
 have h : ∀ n : Nat,n < 100 → (Lit.int .i64 (n : Int)).wf = true:=by decide +kernel
 obtain ⟨n,rfl⟩ : ∃ n : Nat,x = n:=⟨x.toNat,by omega⟩
 exact h n (by omega)
theorem waitsR_small {w h : Int} {l : List (List Int)} : ∀ p ∈ waitsR w h l,p.length = 2 ∧ 0 ≤ rd p 0 ∧ rd p 0 < 100 ∧ 0 ≤ rd p 1 ∧ rd p 1 < 100:=by
 intro p hp
 refine ⟨waitsR_two p hp,?_⟩
 unfold waitsR at hp
 split at hp
 ·
  rename_i g
  obtain ⟨g1,g2,g3,g4⟩:=good_open g
  obtain ⟨N,hN,hN1,hN2,hN3⟩:=good_N g2 g3
  have:=allP_good g hN p (mem_sortL.mp (mem_compL.mp hp))
  omega
 ·
  simp at hp
theorem waitsR_ok {w h : Int} {l : List (List Int)} : okR (waitsR w h l) = true:=by
 unfold okR hwfAll
 simp only [Bool.and_eq_true,List.all_eq_true,decide_eq_true_eq,beq_iff_eq]
 refine ⟨⟨fun p hp => (waitsR_small p hp).1,fun p hp x hx => ?_⟩,by have:=waitsR_len w h l; omega⟩
 obtain ⟨h2,a0,a1,b0,b1⟩:=waitsR_small p hp
 rw [len2 h2] at hx
 rcases List.mem_cons.mp hx with rfl | hx
 ·
  exact wf_small a0 a1
 ·
  rcases List.mem_cons.mp hx with rfl | hx
  ·
   exact wf_small b0 b1
  ·
   simp at hx
theorem round_both {w h : Int} {l : List (List Int)} {M : Nat} (hM : ∀ x ∈ l,x.length ≤ M) (hMb : M ≤ 2000000) (hl : l.length ≤ 2000000) : ∃ K r,(r = true ↔ ∃ p ∈ waitsR w h l,Reach (waitsR w h l) (rd p 0) (rd p 0)) ∧ ∀ k,K ≤ k → impl_HasRound.f k w h l = some r ∧ spec_HasRound.f k w h l = some r:=by
 have hs:=waitsR_small (w:=w) (h:=h) (l:=l)
 obtain ⟨k1,r,h1,e1⟩:=go_some (ps:=waitsR w h l) (fun p hp => wf_small (hs p hp).2.2.2.1 (hs p hp).2.2.2.2) (by have:=waitsR_len w h l; omega) (waitsR w h l)
 obtain ⟨v,e2,k2,h2⟩:=s0_ex _ (waitsR w h l) (Nat.le_refl _) waitsR_two (waitsR_len w h l)
 have hv : v = r:=by
  rw [sup_iff_round] at e2
  have:=e2.trans e1.symm
  cases v <;> cases r <;> simp_all
 subst hv
 refine ⟨l.length + M + 20001 + k1 + k2,v,e1,fun k hk => ⟨?_,?_⟩⟩
 ·
  unfold impl_HasRound.f
  rw [bs (impl_waits hM hMb (by omega)),if_pos waitsR_ok]
  exact up (fun k => impl_HasRound.mono_go k _ _) h1 (by omega)
 ·
  unfold spec_HasRound.f
  rw [bs (spec_waits hM hMb hl (by omega))]
  exact up (fun k => (spec_HasRound.mono_l k).1 _) h2 (by omega)
theorem spec_top (w h : Int) (l : List (List Int)) (hl : l.length ≤ 12) (ha : ∀ x ∈ l,wayv w h x = true) (d : Nat) : ∀ (k : Nat) (i : Int) (out : List (List Int)) (at_ : List Int),0 ≤ i → i + d = l.length → out.length + d ≤ 100 → at_.length + d ≤ 100 → 50 < k →
  spec_RunWorms.l0 (k + d + 1) w h l out at_ i = spec_RunWorms.l0 (k + 1) w h l (out ++ (l.drop i.toNat).map (wof w)) (at_ ++ List.replicate d (-1)) (l.length : Int):=by
 induction d with
 | zero =>
  intro k i out at_ h0 h1 ho hat hk
  rw [List.drop_eq_nil_of_le (by omega),List.map_nil,List.append_nil,List.replicate_zero,List.append_nil,show i = (l.length : Int) by omega]
 | succ d ih =>
  intro k i out at_ h0 h1 ho hat hk
  rw [show k + (d + 1) + 1 = (k + d + 1) + 1 by omega,spec_RunWorms.l0,if_pos (by omega),if_pos (by omega),bs (spec_wof (ha _ (rdl_mem h0 (by omega))) (by omega)),if_pos (by omega),if_pos (by omega),w_in (n:=i + 1) (by omega) (by omega),ih k (i + 1) _ _ (by omega) (by omega) (by rw [List.length_append]; simp; omega) (by rw [List.length_append]; simp; omega) hk,rdl_at h0 (by omega),List.map_cons,List.append_assoc,List.append_assoc,List.replicate_succ]
  rfl
theorem phi_le : ∀ (L : List (List Int)) (a : List Int) (d : List Bool),(∀ r ∈ L,r.length ≤ 30) → phi L a d ≤ 31 * L.length
 | [],_,_,_ => Nat.zero_le _
 | _ :: _,[],_,_ => Nat.zero_le _
 | _ :: _,_ :: _,[],_ => Nat.zero_le _
 | r :: L,x :: a,b :: d,h => by
  have ih:=phi_le L a d (fun q hq => h q (List.mem_cons_of_mem _ hq))
  have hr:=h r List.mem_cons_self
  have : remw r x b ≤ 31:=by
   unfold remw
   by_cases e : b = true
   ·
    rw [if_pos e]; omega
   ·
    rw [if_neg e]; omega
  simp only [phi,List.length_cons]
  omega
theorem rd_rep (n : Nat) (i : Int) : rd (List.replicate n 0) i = 0:=by
 unfold rd
 rw [List.getD_eq_getElem?_getD,List.getElem?_replicate]
 split <;> rfl
theorem rdb_rep (n : Nat) (i : Int) : rdOf false (List.replicate n false) i = false:=by
 unfold rdOf
 rw [List.getD_eq_getElem?_getD,List.getElem?_replicate]
 split <;> rfl
theorem map_rd {w : Int} {l : List (List Int)} {i : Nat} (hi : i < l.length) : rd_L2 (l.map (wof w)) i = wof w (rd_L2 l i):=by
 unfold rd_L2
 rw [Int.toNat_natCast,List.getD_eq_getElem?_getD,List.getD_eq_getElem?_getD,List.getElem?_map,List.getElem?_eq_getElem hi]
 rfl
theorem jam_sup {w h : Int} {l : List (List Int)} (g : goodw w h l = true) {N : Nat} (hN : (N : Int) = 4 * (w * h)) (J : Jam (l.map (wof w)) N) : Sup (waitsR w h l):=by
 obtain ⟨g1,g2,g3,g4⟩:=good_open g
 obtain ⟨a,d,H,I,hH,hc,hB⟩:=J
 have lL : (l.map (wof w)).length = l.length:=by simp
 have hgood : ∀ j : Nat,j < (l.map (wof w)).length → ∀ x : Int,0 ≤ x → x < (rd_L2 (l.map (wof w)) j).length → 0 ≤ rd (rd_L2 (l.map (wof w)) j) x:=by
  intro j hj x x0 x1
  rw [map_rd (by omega)] at x1 ⊢
  exact ((wof_good (g1 _ (rdl_mem (i:=(j : Int)) (by omega) (by omega))) hN).2.1 x x0 x1).1
 have hmem : ∀ j : Nat,j < (l.map (wof w)).length → rd_L2 (l.map (wof w)) j ∈ l.map (wof w):=fun j hj => rdl_mem (by omega) (by omega)
 generalize hLe : l.map (wof w) = L at I hH hB hgood hmem lL
 have hblk : ∀ j : Nat,j < L.length → rdOf false d j = false → rd a j < ((rd_L2 L j).length : Int) ∧ rdOf false H (rd (rd_L2 L j) (rd a j)) = true:=by
  intro j hj hd
  rcases hB j hj with h | h
  ·
   rw [hd] at h; exact absurd h (by decide)
  ·
   exact h
 have hold : ∀ j : Nat,j < L.length → rdOf false d j = false → ∃ i : Nat,i < L.length ∧ rdOf false d i = false ∧ 0 < rd a i ∧ rd (rd_L2 L i) (rd a i - 1) = rd (rd_L2 L j) (rd a j):=by
  intro j hj hd
  obtain ⟨b1,b2⟩:=hblk j hj hd
  exact hH _ (hgood j hj _ (I.2.2.2 j hj).1 b1) b2
 have hin : ∀ j : Nat,j < L.length → 0 < rd a j → rd a j < ((rd_L2 L j).length : Int) → [rd (rd_L2 L j) (rd a j - 1),rd (rd_L2 L j) (rd a j)] ∈ waitsR w h l:=by
  intro j hj h0 h1
  unfold waitsR
  rw [if_pos g,hLe]
  refine mem_compL.mpr (mem_sortL.mpr (List.mem_flatMap.mpr ⟨rd_L2 L j,hmem j hj,?_⟩))
  unfold adj
  refine (mem_adjd _ _ _ _).mpr ⟨(rd a j).toNat - 1,by omega,?_⟩
  rw [show (1 : Int) + (((rd a j).toNat - 1 : Nat) : Int) - 1 = rd a j - 1 by omega,show (1 : Int) + (((rd a j).toNat - 1 : Nat) : Int) = rd a j by omega]
 have hf : false ∈ d:=by simpa using hc
 obtain ⟨j0,hj0,e0⟩:=List.mem_iff_getElem.mp hf
 have hj0' : j0 < L.length:=by have:=I.2.1; omega
 have hd0 : rdOf false d j0 = false:=by
  unfold rdOf
  rw [Int.toNat_natCast,List.getD_eq_getElem?_getD,List.getElem?_eq_getElem hj0,e0]
  rfl
 obtain ⟨j1,q1,q2,q3,q4⟩:=hold j0 hj0' hd0
 refine ⟨fun p => ∃ j : Nat,j < L.length ∧ rdOf false d j = false ∧ 0 < rd a j ∧ p = [rd (rd_L2 L j) (rd a j - 1),rd (rd_L2 L j) (rd a j)],⟨_,hin j1 q1 q3 (hblk j1 q1 q2).1,j1,q1,q2,q3,rfl⟩,?_⟩
 rintro p _ ⟨j,c1,c2,c3,rfl⟩
 obtain ⟨i,i1,i2,i3,i4⟩:=hold j c1 c2
 exact ⟨_,hin i i1 i3 (hblk i i1 i2).1,⟨i,i1,i2,i3,rfl⟩,i4⟩
theorem both_ok2 (w h : Int) (l : List (List Int)) {M : Nat} (hM : ∀ x ∈ l,x.length ≤ M) (hMb : M ≤ 2000000) (hl : l.length ≤ 2000000) :
  ∃ q : List Bool × Int × Bool × Bool,q.1.length ≤ 12 ∧ q.2.2.2 = goodw w h l ∧ (goodw w h l = true → q.2.2.1 = q.1.contains false) ∧ (goodw w h l = false → q.2.2.1 = false) ∧ (q.2.2.1 = true → Sup (waitsR w h l)) ∧ ∀ k,l.length + M + 20000 < k → impl_RunWorms.f k w h l = some q ∧ spec_RunWorms.f k w h l = some q:=by
 cases hg : goodw w h l with
 | false =>
  refine ⟨([],0,false,false),by simp,rfl,fun h => absurd h (by decide),fun _ => rfl,fun h => absurd h (by decide),fun k hk => ⟨?_,?_⟩⟩
  ·
   unfold impl_RunWorms.f
   rw [bs (impl_wires_ok hM hMb (by omega)),hg]
   rw [if_neg (show ¬ (false = true) by decide)]
   rw [if_neg (show ¬ (false = true) by decide)]
  ·
   unfold spec_RunWorms.f
   rw [bs (ways_ok hM hMb hl (by omega)),hg,if_neg (by decide)]
 | true =>
  have hg':=hg
  simp only [goodw,fab,Bool.and_eq_true,decide_eq_true_eq] at hg'
  obtain ⟨⟨ha,hw,hh⟩,hl12⟩:=hg'
  have hway : ∀ x ∈ l,wayv w h x = true:=fun x hx => List.all_eq_true.mp ha x hx
  have e : 1 ≤ w * h ∧ w * h ≤ 25 ∧ 4 * w * h = 4 * (w * h):=by
   have hc : h = 1 ∨ h = 2 ∨ h = 3 ∨ h = 4 ∨ h = 5:=by omega
   rcases hc with e | e | e | e | e <;> rw [e] <;> omega
  obtain ⟨N,hN⟩ : ∃ N : Nat,(N : Int) = 4 * (w * h):=⟨(4 * (w * h)).toNat,by omega⟩
  have hwr : wrap64 (wrap64 (4 * w) * h) = (N : Int):=by
   rw [w_in (n:=4 * w) (by omega) (by omega),w_in (n:=4 * w * h) (by omega) (by omega)]
   omega
  obtain ⟨L,hL⟩ : ∃ L,L = l.map (wof w):=⟨_,rfl⟩
  have lL : L.length = l.length:=by rw [hL]; simp
  have G : GoodL L N:=by
   refine ⟨by omega,by omega,fun i hi => ?_⟩
   rw [hL,map_rd (by omega)]
   exact wof_good (hway _ (rdl_mem (by omega) (by omega))) hN
  have hrow : ∀ r ∈ L,r.length ≤ 30:=by
   intro r hr
   rw [hL] at hr
   obtain ⟨x,hx,rfl⟩:=List.mem_map.mp hr
   exact (wof_good (hway x hx) hN).1
  have hwf : wfAll L = true:=by
   refine List.all_eq_true.mpr fun r hr => List.all_eq_true.mpr fun y hy => ?_
   rw [hL] at hr
   obtain ⟨x,hx,rfl⟩:=List.mem_map.mp hr
   obtain ⟨j,hj,rfl⟩:=List.mem_iff_getElem.mp hy
   have hb:=(wof_good (hway x hx) hN).2.1 (j : Int) (by omega) (by omega)
   have er : rd (wof w x) (j : Int) = (wof w x)[j]:=by
    unfold rd
    rw [Int.toNat_natCast,List.getD_eq_getElem?_getD,List.getElem?_eq_getElem hj]
    rfl
   rw [er] at hb
   rw [← w_in (n:=(wof w x)[j]) (by omega) (by omega)]
   exact RowKit.wrap64_wf _
  have hphi:=phi_le L (List.replicate L.length 0) (List.replicate L.length false) hrow
  obtain ⟨q,lq,cq,jq,hq⟩:=rounds G 380 (List.replicate L.length 0) (List.replicate L.length false) (List.replicate N false) [] 0 false rfl (fun x _ hx => by rw [rdb_rep] at hx; exact absurd hx (by decide)) (by omega)
   ⟨by simp,by simp,by simp,fun i hi => by rw [rd_rep]; omega⟩ (fun x h0 h1 => by rw [rdb_rep]; rfl) (by simp; omega)
  have ed : decw (List.replicate L.length 0) = List.replicate L.length (-1):=by
   unfold decw
   rw [List.map_replicate]
   rfl
  rw [ed] at hq
  refine ⟨(q.1,q.2.1,q.2.2,true),by rw [lq]; omega,rfl,fun _ => cq,fun h => absurd h (by decide),fun h => jam_sup hg hN (by rw [← hL]; exact jq h),fun k hk => ⟨?_,?_⟩⟩
  ·
   unfold impl_RunWorms.f
   rw [bs (impl_wires_ok hM hMb (by omega)),hg,if_pos rfl]
   dsimp only
   rw [← hL,if_pos rfl,if_pos hwf,if_pos (by omega),Int.toNat_natCast,if_pos (by omega),if_pos (by omega)]
   exact (hq k (by omega)).1
  ·
   unfold spec_RunWorms.f
   rw [bs (ways_ok hM hMb hl (by omega)),hg,if_pos rfl]
   obtain ⟨j,rfl⟩ : ∃ j,k = j + l.length + 1:=⟨k - l.length - 1,by omega⟩
   rw [spec_top w h l (by omega) hway l.length j 0 [] [] (by omega) (by omega) (by simp; omega) (by simp; omega) (by omega),spec_RunWorms.l0,if_neg (by omega),if_pos (by omega),Int.toNat_natCast,if_pos (by omega),hwr,if_pos (by omega),Int.toNat_natCast,if_pos (by omega)]
   have:=(hq j (by omega)).2
   rw [hL,List.length_map] at this
   exact this
theorem wh_bd {w h : Int} (hw : 0 ≤ w ∧ w ≤ 6) (hh : 0 ≤ h ∧ h ≤ 6) : 0 ≤ w * h ∧ w * h ≤ 36:=by
 have : h = 0 ∨ h = 1 ∨ h = 2 ∨ h = 3 ∨ h = 4 ∨ h = 5 ∨ h = 6:=by omega
 rcases this with rfl | rfl | rfl | rfl | rfl | rfl | rfl <;> omega
theorem drawSize {b : List Int} (hb : ∀ x ∈ b,0 ≤ x ∧ x ≤ 255) {k : Nat} (hk : 0 < k) {p : Int} (hp : 0 ≤ p) (hp2 : p ≤ 1000000) :
  ∃ w h,spec_l16Size.f k b p = some (w,h,p + 1 + 1 + 1) ∧ (0 ≤ w ∧ w ≤ 6) ∧ (0 ≤ h ∧ h ≤ 6):=by
 unfold spec_l16Size.f
 obtain ⟨q,hq,_,_⟩:=pick_ok (k:=k) (n:=40) hb hp (by omega) (by omega) hk
 rw [bs hq]
 dsimp only
 by_cases e : q = 0
 ·
  rw [if_pos e]
  obtain ⟨w,hw,hm⟩:=num_ok (k:=k) (p:=p + 1) (xs:=[0,6,3]) hb (by omega) (by omega) (by simp) hk
  rw [bs hw]
  dsimp only
  obtain ⟨h,hh,hm2⟩:=num_ok (k:=k) (p:=p + 1 + 1) (xs:=[0,6,2]) hb (by omega) (by omega) (by simp) hk
  rw [bs hh]
  dsimp only
  have a1 : w = 0 ∨ w = 6 ∨ w = 3:=by simpa using hm
  have a2 : h = 0 ∨ h = 6 ∨ h = 2:=by simpa using hm2
  exact ⟨w,h,rfl,by omega,by omega⟩
 ·
  rw [if_neg e]
  obtain ⟨w,hw,hm⟩:=num_ok (k:=k) (p:=p + 1) (xs:=[3,2,4,5,1]) hb (by omega) (by omega) (by simp) hk
  rw [bs hw]
  dsimp only
  obtain ⟨h,hh,hm2⟩:=num_ok (k:=k) (p:=p + 1 + 1) (xs:=[3,2,2,5,1]) hb (by omega) (by omega) (by simp) hk
  rw [bs hh]
  dsimp only
  have a1 : w = 3 ∨ w = 2 ∨ w = 4 ∨ w = 5 ∨ w = 1:=by simpa using hm
  have a2 : h = 3 ∨ h = 2 ∨ h = 2 ∨ h = 5 ∨ h = 1:=by simpa using hm2
  exact ⟨w,h,rfl,by omega,by omega⟩
theorem nd_mk {w h x : Int} (hw : 1 ≤ w ∧ w ≤ 5) (hh : 1 ≤ h ∧ h ≤ 5) (hx : 0 ≤ x ∧ x ≤ w * h - 1) : nd w h x = true:=by
 have hwh:=wh_bd (w:=w) (h:=h) (by omega) (by omega)
 unfold nd
 rw [w_in (n:=w * h) (by omega) (by omega),w_in (n:=w * h - 1) (by omega) (by omega)]
 simp only [Bool.and_eq_true,decide_eq_true_eq]
 exact ⟨⟨hw,hh⟩,hx⟩
theorem walk_loop {b : List Int} (hb : ∀ x ∈ b,0 ≤ x ∧ x ≤ 255) {w h : Int} (hw : 1 ≤ w ∧ w ≤ 5) (hh : 1 ≤ h ∧ h ≤ 5) (d : Nat) : ∀ (k : Nat) (at_ p : Int) (acc : List Int),d + 20 < k → 0 ≤ p → p + d ≤ 1000000 → (0 ≤ at_ ∧ at_ ≤ w * h - 1) → acc.length + d ≤ 1000 → 1 ≤ acc.length →
  ∃ out,spec_l16Walk.l0 k w h at_ acc (d : Int) b p = some (out,p + d) ∧ out.length ≤ acc.length + d ∧ 1 ≤ out.length:=by
 have hwh:=wh_bd (w:=w) (h:=h) (by omega) (by omega)
 induction d with
 | zero =>
  intro k at_ p acc hk hp hp2 ha hl h1
  obtain ⟨k,rfl⟩ : ∃ m,k = m + 1:=⟨k - 1,by omega⟩
  simp only [spec_l16Walk.l0]
  rw [if_neg (by omega)]
  exact ⟨acc,by simp,by omega,h1⟩
 | succ d ih =>
  intro k at_ p acc hk hp hp2 ha hl h1
  obtain ⟨k,rfl⟩ : ∃ m,k = m + 1:=⟨k - 1,by omega⟩
  simp only [spec_l16Walk.l0]
  obtain ⟨v,hv,hm⟩:=num_ok (k:=k) (p:=p) (xs:=[1,-1,w,wrap64 (-w)]) hb hp (by omega) (by simp) (by omega)
  rw [w_in (n:=-w) (by omega) (by omega)] at hm hv
  have hv2 : v = 1 ∨ v = -1 ∨ v = w ∨ v = -w:=by simpa using hm
  rw [if_pos (by omega),w_in (n:=-w) (by omega) (by omega),bs hv]
  dsimp only
  rw [w_in (n:=at_ + v) (by omega) (by omega),s_in,w_in (n:=w * h) (by omega) (by omega),w_in (n:=w * h - 1) (by omega) (by omega),bs rfl,w_in (n:=((d + 1 : Nat) : Int) - 1) (by omega) (by omega),show ((d + 1 : Nat) : Int) - 1 = (d : Int) by omega,show p + ((d + 1 : Nat) : Int) = p + 1 + (d : Int) by omega]
  by_cases hin : 0 ≤ at_ + v ∧ at_ + v ≤ w * h - 1
  ·
   rw [if_pos (decide_eq_true hin),spec_wire16 (nd_mk hw hh ha) (nd_mk hw hh hin) (by omega)]
   obtain ⟨u,hu⟩:=wr16_some w at_ (at_ + v)
   rw [bs hu]
   by_cases hu0 : u ≥ 0
   ·
    rw [if_pos hu0,if_pos (by omega)]
    obtain ⟨out,e,e1,e2⟩:=ih k (at_ + v) (p + 1) (acc ++ [at_ + v]) (by omega) (by omega) (by omega) hin (by simp; omega) (by simp)
    exact ⟨out,e,by simp at e1; omega,e2⟩
   ·
    rw [if_neg hu0]
    obtain ⟨out,e,e1,e2⟩:=ih k at_ (p + 1) acc (by omega) (by omega) (by omega) ha (by omega) h1
    exact ⟨out,e,by omega,e2⟩
  ·
   rw [if_neg (by rw [decide_eq_false hin]; decide)]
   obtain ⟨out,e,e1,e2⟩:=ih k at_ (p + 1) acc (by omega) (by omega) (by omega) ha (by omega) h1
   exact ⟨out,e,by omega,e2⟩
theorem drawWalk {b : List Int} (hb : ∀ x ∈ b,0 ≤ x ∧ x ≤ 255) {w h : Int} (hw : 1 ≤ w ∧ w ≤ 5) (hh : 1 ≤ h ∧ h ≤ 5) {k : Nat} (hk : 40 < k) {p : Int} (hp : 0 ≤ p) (hp2 : p ≤ 100000) :
  ∃ out p',spec_l16Walk.f k b p w h = some (out,p') ∧ p ≤ p' ∧ p' ≤ p + 20 ∧ out.length ≤ 10 ∧ 1 ≤ out.length:=by
 have hwh:=wh_bd (w:=w) (h:=h) (by omega) (by omega)
 have hwh1 : 1 ≤ w * h:=by
  have : h = 1 ∨ h = 2 ∨ h = 3 ∨ h = 4 ∨ h = 5:=by omega
  rcases this with rfl | rfl | rfl | rfl | rfl <;> omega
 unfold spec_l16Walk.f
 rw [w_in (n:=w * h) (by omega) (by omega)]
 obtain ⟨a,ha,a0,a1⟩:=pick_ok (k:=k) (p:=p) (n:=w * h) hb hp (by omega) hwh1 (by omega)
 rw [bs ha]
 dsimp only
 obtain ⟨v,hv,hm⟩:=num_ok (k:=k) (p:=p + 1) (xs:=[3,5,2,1,9]) hb (by omega) (by omega) (by simp) (by omega)
 rw [bs hv]
 dsimp only
 have hv2 : v = 3 ∨ v = 5 ∨ v = 2 ∨ v = 1 ∨ v = 9:=by simpa using hm
 obtain ⟨n,rfl⟩ : ∃ n : Nat,v = n:=⟨v.toNat,by omega⟩
 obtain ⟨out,e,e1,e2⟩:=walk_loop hb hw hh n k a (p + 1 + 1) [a] (by omega) (by omega) (by omega) (by omega) (by simp; omega) (by simp)
 exact ⟨out,_,e,by omega,by omega,by simp at e1; omega,e2⟩
def beqO (x y : Option (List Int)) : Bool:=match x,y with
 | some a,some b => a == b
 | _,_ => false
def allc (c : Nat → Nat → Nat → Nat → Bool) : Bool:=(List.range 5).all fun w => (List.range 5).all fun h => (List.range ((w + 1) * (h + 1))).all fun a => (List.range ((w + 1) * (h + 1))).all fun b => c (w + 1) (h + 1) a b
theorem all_get {c : Nat → Nat → Nat → Nat → Bool} (hall : allc c = true) {W H A B : Nat} (hw : 1 ≤ W ∧ W ≤ 5) (hh : 1 ≤ H ∧ H ≤ 5) (ha : A < W * H) (hb : B < W * H) : c W H A B = true:=by
 obtain ⟨w,rfl⟩ : ∃ w,W = w + 1:=⟨W - 1,by omega⟩
 obtain ⟨h,rfl⟩ : ∃ h,H = h + 1:=⟨H - 1,by omega⟩
 unfold allc at hall
 have h1:=List.all_eq_true.mp hall w (List.mem_range.mpr (by omega))
 have h2:=List.all_eq_true.mp h1 h (List.mem_range.mpr (by omega))
 have h3:=List.all_eq_true.mp h2 A (List.mem_range.mpr ha)
 exact List.all_eq_true.mp h3 B (List.mem_range.mpr hb)
theorem to_fin {w h a b : Int} (ha : nd w h a = true) (hb : nd w h b = true) : ∃ W H A B : Nat,w = W ∧ h = H ∧ a = A ∧ b = B ∧ (1 ≤ W ∧ W ≤ 5) ∧ (1 ≤ H ∧ H ≤ 5) ∧ A < W * H ∧ B < W * H:=by
 have oa:=nd_open ha
 have ob:=nd_open hb
 obtain ⟨W,rfl⟩ : ∃ W : Nat,w = W:=⟨w.toNat,by omega⟩
 obtain ⟨H,rfl⟩ : ∃ H : Nat,h = H:=⟨h.toNat,by omega⟩
 obtain ⟨A,rfl⟩ : ∃ A : Nat,a = A:=⟨a.toNat,by omega⟩
 obtain ⟨B,rfl⟩ : ∃ B : Nat,b = B:=⟨b.toNat,by omega⟩
 have e : ((W * H : Nat) : Int) = (W : Int) * (H : Int):=by simp
 have hb2 : (W : Int) * (H : Int) ≤ 36 ∧ 0 ≤ (W : Int) * (H : Int):=by
  have : H = 1 ∨ H = 2 ∨ H = 3 ∨ H = 4 ∨ H = 5:=by omega
  rcases this with rfl | rfl | rfl | rfl | rfl <;> omega
 have h1:=oa.2.2.2
 have h2:=ob.2.2.2
 rw [← e] at hb2
 rw [← e,w_in (n:=((W * H : Nat) : Int)) (by omega) (by omega),w_in (n:=((W * H : Nat) : Int) - 1) (by omega) (by omega)] at h1 h2
 exact ⟨W,H,A,B,rfl,rfl,rfl,rfl,by omega,by omega,by omega,by omega⟩
theorem route_bad {w h a b : Int} (hn : ¬ (nd w h a = true ∧ nd w h b = true)) (c : Bool) : impl_fabric_route.f w h a b c = some []:=by
 unfold impl_fabric_route.f
 rw [impl_nd,impl_nd]
 simp only [Option.bind_some]
 by_cases ha : nd w h a = true
 ·
  rw [if_pos ha]
  by_cases hb : nd w h b = true
  ·
   exact absurd ⟨ha,hb⟩ hn
  ·
   rw [if_neg hb]
 ·
  rw [if_neg ha]
def rck (W _H A B : Nat) : Bool:=match spec_l16Route.f 40 W A B true,spec_l16Route.f 40 W A B false with
 | some p,some q => decide (p.length ≤ 10) && decide (q.length ≤ 10)
 | _,_ => false
theorem rck_all : allc rck = true:=by decide +kernel
theorem upK {α : Type} {f : Nat → Option α} (hm : ∀ k,LeO (f k) (f (k + 1))) {k K : Nat} {v : α} (h : f k = some v) (hk : k ≤ K) : f K = some v:=by
 obtain ⟨d,rfl⟩:=Nat.exists_eq_add_of_le hk
 clear hk
 induction d with
 | zero => exact h
 | succ d ih => exact hm _ _ ih
theorem route_tot {w h a b : Int} (hw : 1 ≤ w ∧ w ≤ 5) (hh : 1 ≤ h ∧ h ≤ 5) (ha : 0 ≤ a ∧ a ≤ w * h - 1) (hb : 0 ≤ b ∧ b ≤ w * h - 1) (c : Bool) {k : Nat} (hk : 40 ≤ k) : ∃ out,spec_l16Route.f k w a b c = some out ∧ out.length ≤ 10:=by
 obtain ⟨W,H,A,B,rfl,rfl,rfl,rfl,hW,hH,hA,hB⟩:=to_fin (nd_mk hw hh ha) (nd_mk hw hh hb)
 have hc:=all_get rck_all hW hH hA hB
 unfold rck at hc
 cases e1 : spec_l16Route.f 40 W A B true with
 | none => rw [e1] at hc; simp at hc
 | some p =>
  cases e2 : spec_l16Route.f 40 W A B false with
  | none => rw [e1,e2] at hc; simp at hc
  | some q =>
   rw [e1,e2] at hc
   simp only [Bool.and_eq_true,decide_eq_true_eq] at hc
   cases c with
   | true => exact ⟨p,upK (f:=fun k => spec_l16Route.f k W A B true) (fun k => spec_l16Route.mono _ _ _ _ k) e1 hk,hc.1⟩
   | false => exact ⟨q,upK (f:=fun k => spec_l16Route.f k W A B false) (fun k => spec_l16Route.mono _ _ _ _ k) e2 hk,hc.2⟩
def shortW (l : List (List Int)) : Prop:=∀ x ∈ l,x.length ≤ 10
theorem shortW_snoc {l : List (List Int)} {x : List Int} (h : shortW l) (hx : x.length ≤ 10) : shortW (l ++ [x]):=by
 intro y hy
 rcases List.mem_append.mp hy with hy | hy
 ·
  exact h y hy
 ·
  have e : y = x:=by simpa using hy
  rw [e]; exact hx
theorem shortW_lit (w : Int) : shortW (spec_l16Draw.lit w):=by
 intro y hy
 have e : y ∈ [[0,1,wrap64 (1 + w)],[1,wrap64 (1 + w),w],[wrap64 (1 + w),w,0],[w,0,1]]:=hy
 simp only [List.mem_cons,List.not_mem_nil,or_false] at e
 rcases e with rfl | rfl | rfl | rfl <;> simp
theorem lit_len (w : Int) : (spec_l16Draw.lit w).length = 4:=rfl
theorem ways_j2 {b : List Int} (hb : ∀ x ∈ b,0 ≤ x ∧ x ≤ 255) {w h : Int} {k : Nat} (hk : 3 < k) {p : Int} (hp : 0 ≤ p) (hp2 : p ≤ 100000) {ways : List (List Int)} (hs : shortW ways) (hl : ways.length ≤ 12) (x : Bool) :
  ∃ ways' p',spec_l16Draw.j2 k w h ways x b p = some (w,h,ways',p') ∧ shortW ways' ∧ ways'.length ≤ 14:=by
 obtain ⟨k,rfl⟩ : ∃ m,k = m + 1:=⟨k - 1,by omega⟩
 obtain ⟨q,hq,_,_⟩:=pick_ok (k:=k) (p:=p) (n:=25) hb hp (by omega) (by omega) (by omega)
 rw [spec_l16Draw.j2]
 cases x with
 | true =>
  rw [if_pos rfl,bs hq]
  dsimp only
  by_cases e : q = 0
  ·
   rw [if_pos e,lit_len,if_pos (by omega)]
   exact ⟨_,_,rfl,shortW_snoc (shortW_lit w) (by simp),by rw [List.length_append,lit_len]; simp⟩
  ·
   rw [if_neg e]
   exact ⟨_,_,rfl,shortW_lit w,by rw [lit_len]; omega⟩
 | false =>
  rw [if_neg (by decide),bs hq]
  dsimp only
  by_cases e : q = 0
  ·
   rw [if_pos e,if_pos (by omega)]
   exact ⟨_,_,rfl,shortW_snoc hs (by simp),by rw [List.length_append]; simp; omega⟩
  ·
   rw [if_neg e]
   exact ⟨_,_,rfl,hs,by omega⟩
theorem ways_j1f {b : List Int} (hb : ∀ x ∈ b,0 ≤ x ∧ x ≤ 255) {w h : Int} {k : Nat} (hk : 5 < k) {p : Int} (hp : 0 ≤ p) (hp2 : p ≤ 100000) {ways : List (List Int)} (hs : shortW ways) (hl : ways.length ≤ 12) (x8 x9 : Int) :
  ∃ ways' p',spec_l16Draw.j1 k w h ways x8 x9 false b p = some (w,h,ways',p') ∧ shortW ways' ∧ ways'.length ≤ 14:=by
 obtain ⟨k,rfl⟩ : ∃ m,k = m + 1:=⟨k - 1,by omega⟩
 rw [spec_l16Draw.j1,if_neg (by decide)]
 split
 ·
  split
  ·
   exact ways_j2 hb (by omega) hp hp2 hs hl _
  ·
   exact ways_j2 hb (by omega) hp hp2 hs hl _
 ·
  exact ways_j2 hb (by omega) hp hp2 hs hl _
theorem ways_l0 {b : List Int} (hb : ∀ x ∈ b,0 ≤ x ∧ x ≤ 255) {w h : Int} (hw : 0 ≤ w ∧ w ≤ 6) (hh : 0 ≤ h ∧ h ≤ 6) (x8 : Int) (d : Nat) : ∀ (k : Nat) (p : Int) (ways : List (List Int)),2 * d + 60 < k → 0 ≤ p → p + 40 * d ≤ 90000 → shortW ways → ways.length + d ≤ 12 →
  ∃ ways' p',spec_l16Draw.l0 k w h ways x8 (d : Int) b p = some (w,h,ways',p') ∧ shortW ways' ∧ ways'.length ≤ 14:=by
 induction d with
 | zero =>
  intro k p ways hk hp hp2 hs hl
  obtain ⟨k,rfl⟩ : ∃ m,k = m + 1:=⟨k - 1,by omega⟩
  rw [spec_l16Draw.l0,if_neg (by omega)]
  exact ways_j1f hb (by omega) hp (by omega) hs (by omega) _ _
 | succ d ih =>
  intro k p ways hk hp hp2 hs hl
  obtain ⟨k,rfl⟩ : ∃ m,k = m + 1 + 1:=⟨k - 2,by omega⟩
  rw [spec_l16Draw.l0,if_pos (by omega)]
  by_cases hf : (1 ≤ w ∧ w ≤ 5) ∧ (1 ≤ h ∧ h ≤ 5)
  ·
   obtain ⟨h1,h2⟩:=hf
   have hwh:=wh_bd hw hh
   have hwh1 : 1 ≤ w * h:=by
    have : h = 1 ∨ h = 2 ∨ h = 3 ∨ h = 4 ∨ h = 5:=by omega
    rcases this with rfl | rfl | rfl | rfl | rfl <;> omega
   have hfab : spec_l16Fabric.f w h = some true:=by
    unfold spec_l16Fabric.f
    rw [s_in,s_in,bs rfl,if_pos (decide_eq_true h1),bs rfl,decide_eq_true h2]
   obtain ⟨a,ha,a0,a1⟩:=pick_ok (k:=k) (p:=p) (n:=w * h) hb hp (by omega) hwh1 (by omega)
   obtain ⟨c,hc,c0,c1⟩:=pick_ok (k:=k) (p:=p + 1) (n:=w * h) hb (by omega) (by omega) hwh1 (by omega)
   rw [bs hfab,spec_l16Draw.j1,if_pos rfl,w_in (n:=w * h) (by omega) (by omega),bs ha]
   dsimp only
   rw [bs hc,w_in (n:=((d + 1 : Nat) : Int) - 1) (by omega) (by omega),show ((d + 1 : Nat) : Int) - 1 = (d : Int) by omega]
   dsimp only
   by_cases e0 : x8 = 0
   ·
    obtain ⟨r,hr,hr2⟩:=route_tot h1 h2 ⟨a0,by omega⟩ ⟨c0,by omega⟩ true (k:=k) (by omega)
    rw [if_pos e0,bs hr,if_pos (by omega)]
    exact ih k _ _ (by omega) (by omega) (by omega) (shortW_snoc hs hr2) (by rw [List.length_append]; simp; omega)
   ·
    rw [if_neg e0]
    by_cases e1 : x8 = 1
    ·
     obtain ⟨q,hq,_,_⟩:=pick_ok (k:=k) (p:=p + 1 + 1) (n:=2) hb (by omega) (by omega) (by omega) (by omega)
     obtain ⟨r,hr,hr2⟩:=route_tot h1 h2 ⟨a0,by omega⟩ ⟨c0,by omega⟩ (q == 0) (k:=k) (by omega)
     rw [if_pos e1,bs hq]
     dsimp only
     rw [bs hr,if_pos (by omega)]
     exact ih k _ _ (by omega) (by omega) (by omega) (shortW_snoc hs hr2) (by rw [List.length_append]; simp; omega)
    ·
     obtain ⟨out,p',e,e2,e3,e4,e5⟩:=drawWalk hb h1 h2 (k:=k) (by omega) (p:=p + 1 + 1) (by omega) (by omega)
     rw [if_neg e1,bs e]
     dsimp only
     rw [if_pos (by omega)]
     exact ih k _ _ (by omega) (by omega) (by omega) (shortW_snoc hs e4) (by rw [List.length_append]; simp; omega)
  ·
   have hfab : spec_l16Fabric.f w h = some false:=by
    unfold spec_l16Fabric.f
    rw [s_in,s_in,bs rfl]
    by_cases h1 : 1 ≤ w ∧ w ≤ 5
    ·
     have h2 : ¬ (1 ≤ h ∧ h ≤ 5):=fun h2 => hf ⟨h1,h2⟩
     rw [if_pos (decide_eq_true h1),bs rfl,decide_eq_false h2]
    ·
     rw [if_neg (by rw [decide_eq_false h1]; decide)]
   rw [bs hfab]
   exact ways_j1f hb (by omega) hp (by omega) hs (by omega) _ _
theorem drawAll {b : List Int} (hb : ∀ x ∈ b,0 ≤ x ∧ x ≤ 255) {k : Nat} (hk : 100 < k) : ∃ w h ways p,spec_l16Draw.f k b 0 = some (w,h,ways,p) ∧ shortW ways ∧ ways.length ≤ 14 ∧ (0 ≤ w ∧ w ≤ 6) ∧ (0 ≤ h ∧ h ≤ 6):=by
 unfold spec_l16Draw.f
 obtain ⟨w,h,hs,hw,hh⟩:=drawSize hb (k:=k) (by omega) (p:=0) (by omega) (by omega)
 rw [bs hs]
 dsimp only
 obtain ⟨q,hq,_,_⟩:=pick_ok (k:=k) (p:=0 + 1 + 1 + 1) (n:=4) hb (by omega) (by omega) (by omega) (by omega)
 rw [bs hq]
 dsimp only
 obtain ⟨v,hv,hm⟩:=num_ok (k:=k) (p:=0 + 1 + 1 + 1 + 1) (xs:=[4,2,6,1,0,12]) hb (by omega) (by omega) (by simp) (by omega)
 rw [bs hv]
 dsimp only
 have hv2 : v = 4 ∨ v = 2 ∨ v = 6 ∨ v = 1 ∨ v = 0 ∨ v = 12:=by simpa using hm
 obtain ⟨n,rfl⟩ : ∃ n : Nat,v = n:=⟨v.toNat,by omega⟩
 obtain ⟨ways,p',e,e1,e2⟩:=ways_l0 hb hw hh q n k (0 + 1 + 1 + 1 + 1 + 1) [] (by omega) (by omega) (by omega) (fun x hx => by simp at hx) (by simp; omega)
 exact ⟨w,h,ways,p',e,e1,e2,hw,hh⟩
theorem drawRound {l : List Int} (hl : ∀ x ∈ l,(Lit.int .u8 x).wf = true) {k : Nat} (hk : 100 < k) : ∃ w h ways,spec_DrawHasRound.f k l = some (w,h,ways) ∧ shortW ways ∧ ways.length ≤ 14 ∧ (0 ≤ w ∧ w ≤ 6) ∧ (0 ≤ h ∧ h ≤ 6):=by
 unfold spec_DrawHasRound.f
 obtain ⟨b,ho,hb⟩:=open_ok hl
 rw [bs ho]
 dsimp only
 obtain ⟨w,h,ways,p,e,e1,e2,e3,e4⟩:=drawAll hb hk
 rw [bs e]
 exact ⟨w,h,ways,rfl,e1,e2,e3,e4⟩
def rk (W v : Int) : Int:=if v % 4 = 0 then (v / 4) % W else if v % 4 = 1 then 10 - (v / 4) % W else if v % 4 = 2 then 20 + (v / 4) / W else 30 - (v / 4) / W
def rises (w : Int) (p : List Int) : Bool:=(adj (wof w p)).all fun q => decide (rk w (rd q 0) < rk w (rd q 1)) && decide (rk w (rd q 1) ≤ 100)
def rkc (W H A B : Nat) : Bool:=match impl_RouteXY.f W H A B with
 | some p => decide (p.length ≤ 10) && rises W p
 | none => false
theorem rkc_all : allc rkc = true:=by decide +kernel
theorem route_rk (w h a b : Int) : ∃ p,impl_RouteXY.f w h a b = some p ∧ p.length ≤ 10 ∧ rises w p = true:=by
 by_cases hn : nd w h a = true ∧ nd w h b = true
 ·
  obtain ⟨W,H,A,B,rfl,rfl,rfl,rfl,hW,hH,hA,hB⟩:=to_fin hn.1 hn.2
  have hc:=all_get rkc_all hW hH hA hB
  unfold rkc at hc
  cases e : impl_RouteXY.f W H A B with
  | none => rw [e] at hc; simp at hc
  | some p =>
   rw [e] at hc
   simp only [Bool.and_eq_true,decide_eq_true_eq] at hc
   exact ⟨p,rfl,hc.1,hc.2⟩
 ·
  refine ⟨[],?_,by simp,rfl⟩
  unfold impl_RouteXY.f
  rw [route_bad hn]
  rfl
def Rise (w : Int) (l : List (List Int)) : Prop:=∀ x ∈ l,x.length ≤ 10 ∧ rises w x = true
theorem rise_no {w h : Int} {l : List (List Int)} (hr : Rise w l) : ¬ Sup (waitsR w h l):=by
 rintro ⟨S,⟨p,hp,hs⟩,hS⟩
 have hrk : ∀ p ∈ waitsR w h l,rk w (rd p 0) < rk w (rd p 1) ∧ rk w (rd p 1) ≤ 100:=by
  intro p hp
  unfold waitsR at hp
  split at hp
  ·
   obtain ⟨r,hr1,hr2⟩:=List.mem_flatMap.mp (mem_sortL.mp (mem_compL.mp hp))
   obtain ⟨x,hx,rfl⟩:=List.mem_map.mp hr1
   have:=List.all_eq_true.mp (hr x hx).2 p hr2
   simpa using this
  ·
   simp at hp
 have main : ∀ n : Nat,∀ p ∈ waitsR w h l,S p → 100 - rk w (rd p 1) < (n : Int) → False:=by
  intro n
  induction n with
  | zero => intro p hp _ hlt; have:=hrk p hp; omega
  | succ n ih =>
   intro p hp hs hlt
   obtain ⟨q,hq,hsq,e⟩:=hS p hp hs
   have h1:=hrk q hq
   rw [e] at h1
   exact ih q hq hsq (by omega)
 exact main (100 - rk w (rd p 1) + 1).toNat p hp hs (by omega)
theorem rn_loop (x0 : List Int) {w h : Int} (hw : 0 ≤ w ∧ w ≤ 6) (hh : 0 ≤ h ∧ h ≤ 6) (n : Nat) : ∀ (i : Int) (l : List (List Int)),0 ≤ i → i + n = 12 → Rise w l → l.length + n ≤ 12 → ∃ k,laws_FnRouteNoRound.l0 k x0 w h l i = some true:=by
 have hwh:=wh_bd hw hh
 induction n with
 | zero =>
  intro i l h0 h1 hl hn
  have es : ∀ x ∈ l,x.length ≤ 10:=fun x hx => (hl x hx).1
  obtain ⟨q,lq,okq,cq,nq,sq,hq⟩:=both_ok2 w h l (M:=10) es (by omega) (by omega)
  obtain ⟨K,r,hr,hrk⟩:=round_both (w:=w) (h:=h) (l:=l) (M:=10) es (by omega) (by omega)
  obtain ⟨m1,m2⟩:=hq (K + 100000) (by omega)
  have m3:=(hrk (K + 100000) (by omega)).1
  have ns:=rise_no (h:=h) hl
  have hr0 : r = false:=by
   cases r with
   | false => rfl
   | true => exact absurd (sup_iff_round.mpr (hr.mp rfl)) ns
  have hs0 : q.2.2.1 = false:=by
   cases hq0 : q.2.2.1 with
   | false => rfl
   | true => exact absurd (sq hq0) ns
  refine ⟨K + 100000 + 1,?_⟩
  rw [laws_FnRouteNoRound.l0,if_neg (by omega),bs m1,bs m2,if_pos (by simp),if_pos (by simp),hs0,if_neg (by decide),bs m3,hr0]
  rfl
 | succ n ih =>
  intro i l h0 h1 hl hn
  have ei : wrap64 (i + 1) = i + 1:=w_in (by omega) (by omega)
  have skip : ∃ k,laws_FnRouteNoRound.l0 k x0 w h l (i + 1) = some true:=ih (i + 1) l (by omega) (by omega) hl (by omega)
  by_cases c1 : w > 0
  ·
   by_cases c2 : h > 0
   ·
    by_cases c3 : wrap64 (w * h) ≤ 25
    ·
     have hne : ¬ wrap64 (w * h) = 0:=by
      rw [w_in (by omega) (by omega)]
      have : h = 1 ∨ h = 2 ∨ h = 3 ∨ h = 4 ∨ h = 5 ∨ h = 6:=by omega
      rcases this with rfl | rfl | rfl | rfl | rfl | rfl <;> omega
     obtain ⟨p,e,p1,p2⟩:=route_rk w h (Int.tmod (wrap64 ((wrap64 (i * 7)) + (x0.length : Int))) (wrap64 (w * h))) (Int.tmod (wrap64 ((wrap64 ((wrap64 (i * i)) * 3)) + (wrap64 ((x0.length : Int) * 5)))) (wrap64 (w * h)))
     obtain ⟨k,hk⟩:=ih (i + 1) (l ++ [p]) (by omega) (by omega) (fun x hx => by
      rcases List.mem_append.mp hx with hx | hx
      ·
       exact hl x hx
      ·
       rw [List.mem_singleton.mp hx]; exact ⟨p1,p2⟩) (by rw [List.length_append]; simp; omega)
     refine ⟨k + 1,?_⟩
     rw [laws_FnRouteNoRound.l0,if_pos (by omega),if_pos c1,if_pos c2,if_pos c3,if_neg hne,bs e,if_pos (by omega),ei]
     exact hk
    ·
     obtain ⟨k,hk⟩:=skip
     exact ⟨k + 1,by rw [laws_FnRouteNoRound.l0,if_pos (by omega),if_pos c1,if_pos c2,if_neg c3,ei]; exact hk⟩
   ·
    obtain ⟨k,hk⟩:=skip
    exact ⟨k + 1,by rw [laws_FnRouteNoRound.l0,if_pos (by omega),if_pos c1,if_neg c2,ei]; exact hk⟩
  ·
   obtain ⟨k,hk⟩:=skip
   exact ⟨k + 1,by rw [laws_FnRouteNoRound.l0,if_pos (by omega),if_neg c1,ei]; exact hk⟩
theorem FnRouteNoRound : laws_FnRouteNoRound.Pure:=by
 intro l _ _ hl
 by_cases hlen : (l.length : Int) > 1048576
 ·
  refine ⟨0,?_⟩
  unfold laws_FnRouteNoRound.f
  rw [if_pos hlen]
 obtain ⟨w,h,ways,e0,es,el,hw,hh⟩:=drawRound hl (k:=101) (by omega)
 obtain ⟨K,r,hr,hrk⟩:=round_both (w:=w) (h:=h) (l:=ways) (M:=10) es (by omega) (by omega)
 obtain ⟨K2,hK2⟩:=rn_loop l hw hh 12 0 [] (by omega) (by omega) (fun x hx => by simp at hx) (by simp)
 obtain ⟨m1,m2⟩:=hrk (K + K2 + 200) (by omega)
 have m0 : spec_DrawHasRound.f (K + K2 + 200) l = some (w,h,ways):=upK (f:=fun k => spec_DrawHasRound.f k l) (fun k => spec_DrawHasRound.mono _ k) e0 (by omega)
 refine ⟨K + K2 + 200,?_⟩
 unfold laws_FnRouteNoRound.f
 rw [if_neg hlen,bs m0]
 dsimp only
 rw [bs m1,bs m2,if_neg (by simp)]
 exact upK (f:=fun k => laws_FnRouteNoRound.l0 k l w h [] 0) (fun k => laws_FnRouteNoRound.mono_l k _ _ _ _ _) hK2 (by omega)
end Go.Proofs.Ytdbokdodjekchaa.Pure
