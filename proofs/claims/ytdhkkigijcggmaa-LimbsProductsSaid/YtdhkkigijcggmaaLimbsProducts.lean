/- Layer 2 (limbs): the walk of LimbsProducts: it returns true. -/
import Derived.Test.YtdhkkigijcggmaaLimbsSums
import Derived.Test.YtdhkkigijcggmaaFresh
import Derived.Deep.RegionHeld3
namespace Go.Proofs.Ytdhkkigijcggmaa
open Go.ChangeShapes Go.WideShapes Go.ChangeAt Go.RowKit

theorem mulL_comm (a b : Nat) : mulL a b = mulL b a := by unfold mulL; rw [Nat.mul_comm]
theorem mulH_comm (a b : Nat) : mulH a b = mulH b a := by unfold mulH; rw [Nat.mul_comm]
theorem mul_ones {a : Nat} (ha : a < M256) : mulL a 1 = a ∧ mulH a 1 = 0 := by
  unfold mulL mulH
  rw [Nat.mul_one]
  exact ⟨Nat.mod_eq_of_lt ha, Nat.div_eq_of_lt ha⟩
theorem mul_noughts (b : Nat) : mulL 0 b = 0 ∧ mulH 0 b = 0 := by
  unfold mulL mulH
  rw [Nat.zero_mul]
  exact ⟨Nat.zero_mod _, Nat.zero_div _⟩
theorem prod_sum0 {a b c : Nat} (hc : c < M256) (h : addNC a b = 0) :
    mulL (addN a b) c = addN (mulL a c) (mulL b c) ∧ mulH (addN a b) c = addN (addN (mulH a c) (mulH b c)) (addNC (mulL a c) (mulL b c)) ∧
    addNC (mulH a c) (mulH b c) = 0 ∧ addNC (addN (mulH a c) (mulH b c)) (addNC (mulL a c) (mulL b c)) = 0 := by
  have hl := mulH_lt (addN_lt a b) hc
  have e : addN a b = a + b := by unfold addN; unfold addNC at h; unfold M256 at *; omega
  have e2 := Nat.add_mul a b c
  unfold mulH at *
  unfold mulL
  rw [e, e2] at hl
  rw [e, e2]
  clear e e2
  generalize a * c = X at *
  generalize b * c = Y at *
  unfold addN addNC
  unfold M256 at *
  refine ⟨?_, ?_, ?_, ?_⟩ <;> omega
theorem prod_sum1 {a b c : Nat} (h : addNC a b = 1) :
    mulL (addN a b) c = addN (mulL a c) (mulL b c) ∧ addN (mulH (addN a b) c) c = addN (addN (mulH a c) (mulH b c)) (addNC (mulL a c) (mulL b c)) := by
  have e : addN a b + M256 = a + b := by unfold addN; unfold addNC at h; unfold M256 at *; omega
  have e2 : addN a b * c + M256 * c = a * c + b * c := by rw [← Nat.add_mul, ← Nat.add_mul, e]
  unfold mulH mulL
  generalize addN a b * c = Z at *
  generalize a * c = X at *
  generalize b * c = Y at *
  unfold addN addNC
  unfold M256 at *
  refine ⟨?_, ?_⟩ <;> omega
theorem addNC_ltW {a b : Nat} (ha : a < M256) (hb : b < M256) : addNC a b < W64 := by have := addNC_le ha hb; unfold W64; omega
theorem lt_of_W {m : Nat} (h : m < W64) : m < M256 := by unfold W64 at h; unfold M256; omega
theorem one_lt_W : 1 < W64 := by unfold W64; omega
theorem one_lt_M : 1 < M256 := by unfold M256; omega
set_option maxRecDepth 20000 in
set_option maxHeartbeats 8000000 in
theorem limbsProducts_0 {a b c : Nat} (ha : a < M256) (hb : b < M256) (hc : c < M256) (hk : addNC a b = 0) (w : World) :
    Calls Try.prog 5 #[.agg #[.int .u64 (dgt W64 a 0), .int .u64 (dgt W64 a 1), .int .u64 (dgt W64 a 2), .int .u64 (dgt W64 a 3), .int .u64 (dgt W64 b 0), .int .u64 (dgt W64 b 1), .int .u64 (dgt W64 b 2), .int .u64 (dgt W64 b 3), .int .u64 (dgt W64 c 0), .int .u64 (dgt W64 c 1), .int .u64 (dgt W64 c 2), .int .u64 (dgt W64 c 3)]] w fun e w' => e = .returned (.bool true) ∧ Below w.heap.size w w' := by
  have heq := eq4
  have hne := ne_num
  obtain ⟨k1, hk1, hk1W, hmo⟩ : ∃ z : Nat, (1 : Int) = (z : Int) ∧ z < W64 ∧ mulL a z = a ∧ mulH a z = 0 := ⟨1, rfl, one_lt_W, mul_ones ha⟩
  obtain ⟨k0, hk0, hk0W, hmn⟩ : ∃ z : Nat, (0 : Int) = (z : Int) ∧ z < W64 ∧ mulL z b = 0 ∧ mulH z b = 0 := ⟨0, rfl, W64_pos, mul_noughts b⟩
  have hlaw := prod_sum0 (a := a) (b := b) hc hk
  have hl := mulL_lt a b
  have hh := mulH_lt ha hb
  have hlc := mulL_comm b a
  have hhc := mulH_comm b a
  have hs := addN_lt a b
  have hx := mulL_lt (addN a b) c
  have hy := mulH_lt hs hc
  have hp := mulL_lt a c
  have hq := mulH_lt ha hc
  have hr := mulL_lt b c
  have ht := mulH_lt hb hc
  have hm := addNC_ltW hp hr
  have hv0 := addN_lt (mulH a c) (mulH b c)
  obtain ⟨l, el⟩ : ∃ z, mulL a b = z := ⟨_, rfl⟩
  obtain ⟨h, eh⟩ : ∃ z, mulH a b = z := ⟨_, rfl⟩
  obtain ⟨s, es⟩ : ∃ z, addN a b = z := ⟨_, rfl⟩
  obtain ⟨p, ep⟩ : ∃ z, mulL a c = z := ⟨_, rfl⟩
  obtain ⟨q, eq⟩ : ∃ z, mulH a c = z := ⟨_, rfl⟩
  obtain ⟨r, er⟩ : ∃ z, mulL b c = z := ⟨_, rfl⟩
  obtain ⟨t, et⟩ : ∃ z, mulH b c = z := ⟨_, rfl⟩
  rw [el] at hl hlc
  rw [eh] at hh hhc
  rw [es] at hs hx hy hlaw
  rw [ep] at hp hm hlaw
  rw [eq] at hq hv0 hlaw
  rw [er] at hr hm hlaw
  rw [et] at ht hv0 hlaw
  obtain ⟨x, ex⟩ : ∃ z, mulL s c = z := ⟨_, rfl⟩
  obtain ⟨y, ey⟩ : ∃ z, mulH s c = z := ⟨_, rfl⟩
  obtain ⟨m, em⟩ : ∃ z, addNC p r = z := ⟨_, rfl⟩
  obtain ⟨v0, ev0⟩ : ∃ z, addN q t = z := ⟨_, rfl⟩
  rw [ex] at hx hlaw
  rw [ey] at hy hlaw
  rw [em] at hm hlaw
  rw [ev0] at hv0 hlaw
  obtain ⟨eu, ev, en, eo⟩ := hlaw
  have Hha := Lib.hid ha
  have Hhb := Lib.hid hb
  have Hhc := Lib.hid hc
  have Hhs := Lib.hid hs
  have Hhx := Lib.hid hx
  have Hhy := Lib.hid hy
  have Hhp := Lib.hid hp
  have Hhq := Lib.hid hq
  have Hhr := Lib.hid hr
  have Hht := Lib.hid ht
  have Hhm := Lib.hid hm
  have Hhv0 := Lib.hid hv0
  have Hhl := Lib.hid hl
  have Hhh := Lib.hid hh
  have Hel := Lib.hid el
  have Heh := Lib.hid eh
  have Hes := Lib.hid es
  have Hep := Lib.hid ep
  have Heq := Lib.hid eq
  have Her := Lib.hid er
  have Het := Lib.hid et
  have Hex := Lib.hid ex
  have Hey := Lib.hid ey
  have Hem := Lib.hid em
  have Hev0 := Lib.hid ev0
  have Heu := Lib.hid eu
  have Hev := Lib.hid ev
  have Hhlc := Lib.hid hlc
  have Hhhc := Lib.hid hhc
  have Hhmo := Lib.hid hmo
  have Hhmn := Lib.hid hmn
  have Hhk := Lib.hid hk
  have Hhk1 := Lib.hid hk1
  have Hhk1W := Lib.hid hk1W
  have Hhk0 := Lib.hid hk0
  have Hhk0W := Lib.hid hk0W
  have Hen := Lib.hid en
  have Heo := Lib.hid eo
  clear ha hb hc hs hx hy hp hq hr ht hm hv0 hl hh el eh es ep eq er et ex ey em ev0 eu ev hlc hhc hmo hmn hk hk1 hk1W hk0 hk0W en eo
  go_enter Try.func5, Try.ntmps5
  go_wp2_with fail
  refine (mul_any (a := a) (b := b) Hha.out Hhb.out _).mono ?_
  rintro _ w1 ⟨rfl, hb1⟩
  have Ua := Lib.hid (NumAt.later hb1 (((NumAt.new _ a (w.heap.size + 1) _ (by simp)).alloc _).alloc _))
  have Ub := Lib.hid (NumAt.later hb1 ((NumAt.new _ b (w.heap.size + 2) _ (by simp)).alloc _))
  have Uc := Lib.hid (NumAt.later hb1 (NumAt.new _ c (w.heap.size + 3) _ (by simp)))
  have BC := Lib.hid (below_later (below_new (below_new (below_new (below_new (Below.refl _ _) _) _) _) _) hb1)
  have Va := Ua
  clear Ua
  have Vb := Ub
  clear Ub
  have Vc := Uc
  clear Uc
  have BB := BC
  clear BC
  clear hb1
  rw [Hel.out, Heh.out]
  unfold numV words
  have l_a_0 := Va.out 0 (by omega)
  have l_a_1 := Va.out 1 (by omega)
  have l_a_2 := Va.out 2 (by omega)
  have l_a_3 := Va.out 3 (by omega)
  have t_a := Va.out.lt
  have u_a : w.heap.size < w1.heap.size := by omega
  have l_b_0 := Vb.out 0 (by omega)
  have l_b_1 := Vb.out 1 (by omega)
  have l_b_2 := Vb.out 2 (by omega)
  have l_b_3 := Vb.out 3 (by omega)
  have t_b := Vb.out.lt
  have u_b : w.heap.size + 1 < w1.heap.size := by omega
  go_wp2_with fail
  refine (mul_any (a := b) (b := a) Hhb.out Hha.out _).mono ?_
  rintro _ w2 ⟨rfl, hb2⟩
  clear l_a_0 l_a_1 l_a_2 l_a_3 t_a u_a l_b_0 l_b_1 l_b_2 l_b_3 t_b u_b
  have Ua := Lib.hid (NumAt.later hb2 (((Va.out).alloc _).alloc _))
  have Ub := Lib.hid (NumAt.later hb2 (((Vb.out).alloc _).alloc _))
  have Uc := Lib.hid (NumAt.later hb2 (((Vc.out).alloc _).alloc _))
  have Ul := Lib.hid (NumAt.later hb2 ((NumAt.new _ l (w1.heap.size) _ (by simp)).alloc _))
  have Uh := Lib.hid (NumAt.later hb2 (NumAt.new _ h (w1.heap.size + 1) _ (by simp)))
  have BC := Lib.hid (below_later (below_new (below_new (BB.out) _) _) hb2)
  clear Va
  clear Vb
  clear Vc
  clear BB
  have Va := Ua
  clear Ua
  have Vb := Ub
  clear Ub
  have Vc := Uc
  clear Uc
  have Vl := Ul
  clear Ul
  have Vh := Uh
  clear Uh
  have BB := BC
  clear BC
  clear hb2
  rw [Hhlc.out, Hhhc.out]
  unfold numV words
  have hl := Hhl.out
  have hh := Hhh.out
  have l_l_0 := Vl.out 0 (by omega)
  have l_l_1 := Vl.out 1 (by omega)
  have l_l_2 := Vl.out 2 (by omega)
  have l_l_3 := Vl.out 3 (by omega)
  have t_l := Vl.out.lt
  have l_h_0 := Vh.out 0 (by omega)
  have l_h_1 := Vh.out 1 (by omega)
  have l_h_2 := Vh.out 2 (by omega)
  have l_h_3 := Vh.out 3 (by omega)
  have t_h := Vh.out.lt
  have u_h : w1.heap.size < w2.heap.size := by omega
  have l_a_0 := Va.out 0 (by omega)
  have l_a_1 := Va.out 1 (by omega)
  have l_a_2 := Va.out 2 (by omega)
  have l_a_3 := Va.out 3 (by omega)
  have t_a := Va.out.lt
  have u_a : w.heap.size < w2.heap.size := by omega
  have l_b_0 := Vb.out 0 (by omega)
  have l_b_1 := Vb.out 1 (by omega)
  have l_b_2 := Vb.out 2 (by omega)
  have l_b_3 := Vb.out 3 (by omega)
  have t_b := Vb.out.lt
  have u_b : w.heap.size + 1 < w2.heap.size := by omega
  go_wp2_with fail
  refine (add_any (a := a) (b := b) Hha.out Hhb.out _).mono ?_
  rintro _ w3 ⟨rfl, hb3⟩
  clear l_l_0 l_l_1 l_l_2 l_l_3 t_l l_h_0 l_h_1 l_h_2 l_h_3 t_h u_h l_a_0 l_a_1 l_a_2 l_a_3 t_a u_a l_b_0 l_b_1 l_b_2 l_b_3 t_b u_b
  have Ua := Lib.hid (NumAt.later hb3 (((Va.out).alloc _).alloc _))
  have Ub := Lib.hid (NumAt.later hb3 (((Vb.out).alloc _).alloc _))
  have Uc := Lib.hid (NumAt.later hb3 (((Vc.out).alloc _).alloc _))
  have Ul := Lib.hid (NumAt.later hb3 (((Vl.out).alloc _).alloc _))
  have Uh := Lib.hid (NumAt.later hb3 (((Vh.out).alloc _).alloc _))
  have Ul2 := Lib.hid (NumAt.later hb3 ((NumAt.new _ l (w2.heap.size) _ (by simp)).alloc _))
  have Uh2 := Lib.hid (NumAt.later hb3 (NumAt.new _ h (w2.heap.size + 1) _ (by simp)))
  have BC := Lib.hid (below_later (below_new (below_new (BB.out) _) _) hb3)
  clear Va
  clear Vb
  clear Vc
  clear Vl
  clear Vh
  clear BB
  have Va := Ua
  clear Ua
  have Vb := Ub
  clear Ub
  have Vc := Uc
  clear Uc
  have Vl := Ul
  clear Ul
  have Vh := Uh
  clear Uh
  have Vl2 := Ul2
  clear Ul2
  have Vh2 := Uh2
  clear Uh2
  have BB := BC
  clear BC
  clear hb3
  clear hl hh
  rw [Hes.out, Hhk.out]
  unfold numV words
  clear Vl
  clear Vh
  clear Vl2
  clear Vh2
  have l_c_0 := Vc.out 0 (by omega)
  have l_c_1 := Vc.out 1 (by omega)
  have l_c_2 := Vc.out 2 (by omega)
  have l_c_3 := Vc.out 3 (by omega)
  have t_c := Vc.out.lt
  go_wp2_with fail
  refine (mul_any (a := s) (b := c) Hhs.out Hhc.out _).mono ?_
  rintro _ w4 ⟨rfl, hb4⟩
  clear l_c_0 l_c_1 l_c_2 l_c_3 t_c
  have Ua := Lib.hid (NumAt.later hb4 ((Va.out).alloc _))
  have Ub := Lib.hid (NumAt.later hb4 ((Vb.out).alloc _))
  have Uc := Lib.hid (NumAt.later hb4 ((Vc.out).alloc _))
  have Us := Lib.hid (NumAt.later hb4 (NumAt.new _ s (w3.heap.size) _ (by simp)))
  have BC := Lib.hid (below_later (below_new (BB.out) _) hb4)
  clear Va
  clear Vb
  clear Vc
  clear BB
  have Va := Ua
  clear Ua
  have Vb := Ub
  clear Ub
  have Vc := Uc
  clear Uc
  have Vs := Us
  clear Us
  have BB := BC
  clear BC
  clear hb4
  rw [Hex.out, Hey.out]
  unfold numV words
  clear Vs
  have l_a_0 := Va.out 0 (by omega)
  have l_a_1 := Va.out 1 (by omega)
  have l_a_2 := Va.out 2 (by omega)
  have l_a_3 := Va.out 3 (by omega)
  have t_a := Va.out.lt
  have u_a : w.heap.size < w4.heap.size := by omega
  have l_c_0 := Vc.out 0 (by omega)
  have l_c_1 := Vc.out 1 (by omega)
  have l_c_2 := Vc.out 2 (by omega)
  have l_c_3 := Vc.out 3 (by omega)
  have t_c := Vc.out.lt
  have u_c : w.heap.size + 2 < w4.heap.size := by omega
  go_wp2_with fail
  refine (mul_any (a := a) (b := c) Hha.out Hhc.out _).mono ?_
  rintro _ w5 ⟨rfl, hb5⟩
  clear l_a_0 l_a_1 l_a_2 l_a_3 t_a u_a l_c_0 l_c_1 l_c_2 l_c_3 t_c u_c
  have Ua := Lib.hid (NumAt.later hb5 (((Va.out).alloc _).alloc _))
  have Ub := Lib.hid (NumAt.later hb5 (((Vb.out).alloc _).alloc _))
  have Uc := Lib.hid (NumAt.later hb5 (((Vc.out).alloc _).alloc _))
  have Ux := Lib.hid (NumAt.later hb5 ((NumAt.new _ x (w4.heap.size) _ (by simp)).alloc _))
  have Uy := Lib.hid (NumAt.later hb5 (NumAt.new _ y (w4.heap.size + 1) _ (by simp)))
  have BC := Lib.hid (below_later (below_new (below_new (BB.out) _) _) hb5)
  clear Va
  clear Vb
  clear Vc
  clear BB
  have Va := Ua
  clear Ua
  have Vb := Ub
  clear Ub
  have Vc := Uc
  clear Uc
  have Vx := Ux
  clear Ux
  have Vy := Uy
  clear Uy
  have BB := BC
  clear BC
  clear hb5
  rw [Hep.out, Heq.out]
  unfold numV words
  have l_b_0 := Vb.out 0 (by omega)
  have l_b_1 := Vb.out 1 (by omega)
  have l_b_2 := Vb.out 2 (by omega)
  have l_b_3 := Vb.out 3 (by omega)
  have t_b := Vb.out.lt
  have u_b : w.heap.size + 1 < w5.heap.size := by omega
  have l_c_0 := Vc.out 0 (by omega)
  have l_c_1 := Vc.out 1 (by omega)
  have l_c_2 := Vc.out 2 (by omega)
  have l_c_3 := Vc.out 3 (by omega)
  have t_c := Vc.out.lt
  have u_c : w.heap.size + 2 < w5.heap.size := by omega
  go_wp2_with fail
  refine (mul_any (a := b) (b := c) Hhb.out Hhc.out _).mono ?_
  rintro _ w6 ⟨rfl, hb6⟩
  clear l_b_0 l_b_1 l_b_2 l_b_3 t_b u_b l_c_0 l_c_1 l_c_2 l_c_3 t_c u_c
  have Ua := Lib.hid (NumAt.later hb6 (((Va.out).alloc _).alloc _))
  have Ub := Lib.hid (NumAt.later hb6 (((Vb.out).alloc _).alloc _))
  have Uc := Lib.hid (NumAt.later hb6 (((Vc.out).alloc _).alloc _))
  have Ux := Lib.hid (NumAt.later hb6 (((Vx.out).alloc _).alloc _))
  have Uy := Lib.hid (NumAt.later hb6 (((Vy.out).alloc _).alloc _))
  have Up := Lib.hid (NumAt.later hb6 ((NumAt.new _ p (w5.heap.size) _ (by simp)).alloc _))
  have Uq := Lib.hid (NumAt.later hb6 (NumAt.new _ q (w5.heap.size + 1) _ (by simp)))
  have BC := Lib.hid (below_later (below_new (below_new (BB.out) _) _) hb6)
  clear Va
  clear Vb
  clear Vc
  clear Vx
  clear Vy
  clear BB
  have Va := Ua
  clear Ua
  have Vb := Ub
  clear Ub
  have Vc := Uc
  clear Uc
  have Vx := Ux
  clear Ux
  have Vy := Uy
  clear Uy
  have Vp := Up
  clear Up
  have Vq := Uq
  clear Uq
  have BB := BC
  clear BC
  clear hb6
  rw [Her.out, Het.out]
  unfold numV words
  have l_p_0 := Vp.out 0 (by omega)
  have l_p_1 := Vp.out 1 (by omega)
  have l_p_2 := Vp.out 2 (by omega)
  have l_p_3 := Vp.out 3 (by omega)
  have t_p := Vp.out.lt
  go_wp2_with fail
  refine (add_any (a := p) (b := r) Hhp.out Hhr.out _).mono ?_
  rintro _ w7 ⟨rfl, hb7⟩
  clear l_p_0 l_p_1 l_p_2 l_p_3 t_p
  have Ua := Lib.hid (NumAt.later hb7 (((Va.out).alloc _).alloc _))
  have Ub := Lib.hid (NumAt.later hb7 (((Vb.out).alloc _).alloc _))
  have Uc := Lib.hid (NumAt.later hb7 (((Vc.out).alloc _).alloc _))
  have Ux := Lib.hid (NumAt.later hb7 (((Vx.out).alloc _).alloc _))
  have Uy := Lib.hid (NumAt.later hb7 (((Vy.out).alloc _).alloc _))
  have Up := Lib.hid (NumAt.later hb7 (((Vp.out).alloc _).alloc _))
  have Uq := Lib.hid (NumAt.later hb7 (((Vq.out).alloc _).alloc _))
  have Ur := Lib.hid (NumAt.later hb7 ((NumAt.new _ r (w6.heap.size) _ (by simp)).alloc _))
  have Ut := Lib.hid (NumAt.later hb7 (NumAt.new _ t (w6.heap.size + 1) _ (by simp)))
  have BC := Lib.hid (below_later (below_new (below_new (BB.out) _) _) hb7)
  clear Va
  clear Vb
  clear Vc
  clear Vx
  clear Vy
  clear Vp
  clear Vq
  clear BB
  have Va := Ua
  clear Ua
  have Vb := Ub
  clear Ub
  have Vc := Uc
  clear Uc
  have Vx := Ux
  clear Ux
  have Vy := Uy
  clear Uy
  have Vp := Up
  clear Up
  have Vq := Uq
  clear Uq
  have Vr := Ur
  clear Ur
  have Vt := Ut
  clear Ut
  have BB := BC
  clear BC
  clear hb7
  rw [Hem.out, ← Heu.out]
  unfold numV words
  have l_q_0 := Vq.out 0 (by omega)
  have l_q_1 := Vq.out 1 (by omega)
  have l_q_2 := Vq.out 2 (by omega)
  have l_q_3 := Vq.out 3 (by omega)
  have t_q := Vq.out.lt
  have l_t_0 := Vt.out 0 (by omega)
  have l_t_1 := Vt.out 1 (by omega)
  have l_t_2 := Vt.out 2 (by omega)
  have l_t_3 := Vt.out 3 (by omega)
  have t_t := Vt.out.lt
  go_wp2_with fail
  refine (add_any (a := q) (b := t) Hhq.out Hht.out _).mono ?_
  rintro _ w8 ⟨rfl, hb8⟩
  clear l_q_0 l_q_1 l_q_2 l_q_3 t_q l_t_0 l_t_1 l_t_2 l_t_3 t_t
  have Ua := Lib.hid (NumAt.later hb8 ((Va.out).alloc _))
  have Ub := Lib.hid (NumAt.later hb8 ((Vb.out).alloc _))
  have Uc := Lib.hid (NumAt.later hb8 ((Vc.out).alloc _))
  have Ux := Lib.hid (NumAt.later hb8 ((Vx.out).alloc _))
  have Uy := Lib.hid (NumAt.later hb8 ((Vy.out).alloc _))
  have Up := Lib.hid (NumAt.later hb8 ((Vp.out).alloc _))
  have Uq := Lib.hid (NumAt.later hb8 ((Vq.out).alloc _))
  have Ur := Lib.hid (NumAt.later hb8 ((Vr.out).alloc _))
  have Ut := Lib.hid (NumAt.later hb8 ((Vt.out).alloc _))
  have Uu := Lib.hid (NumAt.later hb8 (NumAt.new _ x (w7.heap.size) _ (by simp)))
  have BC := Lib.hid (below_later (below_new (BB.out) _) hb8)
  clear Va
  clear Vb
  clear Vc
  clear Vx
  clear Vy
  clear Vp
  clear Vq
  clear Vr
  clear Vt
  clear BB
  have Va := Ua
  clear Ua
  have Vb := Ub
  clear Ub
  have Vc := Uc
  clear Uc
  have Vx := Ux
  clear Ux
  have Vy := Uy
  clear Uy
  have Vp := Up
  clear Up
  have Vq := Uq
  clear Uq
  have Vr := Ur
  clear Ur
  have Vt := Ut
  clear Ut
  have Vu := Uu
  clear Uu
  have BB := BC
  clear BC
  clear hb8
  rw [Hev0.out]
  rw [Hen.out]
  unfold numV words
  clear Vp
  clear Vq
  clear Vr
  clear Vt
  have C16 := Lib.hid (show ∀ w, Calls Try.prog 10 #[.agg #[.int .u64 (dgt W64 v0 0), .int .u64 (dgt W64 v0 1), .int .u64 (dgt W64 v0 2), .int .u64 (dgt W64 v0 3)], .agg #[.int .u64 (dgt W64 m 0), .int .u64 (dgt W64 m 1), .int .u64 (dgt W64 m 2), .int .u64 (dgt W64 m 3)]] w fun e w' => e = .returned (.tuple #[.agg #[.int .u64 (dgt W64 y 0), .int .u64 (dgt W64 y 1), .int .u64 (dgt W64 y 2), .int .u64 (dgt W64 y 3)], .int .u64 0]) ∧ Below w.heap.size w w' from fun w => by have h := add_any (a := v0) (b := m) Hhv0.out (lt_of_W Hhm.out) w; rw [← Hev.out] at h; rw [Heo.out] at h; unfold numV words at h; exact h)
  go_wp2_with fail
  have N_v_a := Lib.hid (show w.heap.size + 1 ≠ w8.heap.size by have := NumAt.lt Va.out; omega)
  have N_v_b := Lib.hid (show w.heap.size + 2 ≠ w8.heap.size by have := NumAt.lt Vb.out; omega)
  have N_v_c := Lib.hid (show w.heap.size + 3 ≠ w8.heap.size by have := NumAt.lt Vc.out; omega)
  have N_v_x := Lib.hid (show w4.heap.size ≠ w8.heap.size by have := NumAt.lt Vx.out; omega)
  have N_v_y := Lib.hid (show w4.heap.size + 1 ≠ w8.heap.size by have := NumAt.lt Vy.out; omega)
  have N_v_u := Lib.hid (show w7.heap.size ≠ w8.heap.size by have := NumAt.lt Vu.out; omega)
  have G_v := Lib.hid (show w.heap.size ≤ w8.heap.size by have := (BB.out).size; omega)
  refine region_in (fun W9 => NumAt W9 (w.heap.size + 1) a ∧ NumAt W9 (w.heap.size + 2) b ∧ NumAt W9 (w.heap.size + 3) c ∧ NumAt W9 (w4.heap.size) x ∧ NumAt W9 (w4.heap.size + 1) y ∧ NumAt W9 (w7.heap.size) x ∧ NumAt W9 (w8.heap.size) v0 ∧ FreeN W9 (w8.heap.size) 4 ∧ Below w.heap.size w W9) ⟨(Va.out).alloc _, (Vb.out).alloc _, (Vc.out).alloc _, (Vx.out).alloc _, (Vy.out).alloc _, (Vu.out).alloc _, NumAt.new _ v0 (w8.heap.size) _ (by simp), FreeN.made _ _ _ 4 (w8.heap.size) (by simp), below_new (BB.out) _⟩ ?_
  intro v9 hv9
  clear Va
  clear Vb
  clear Vc
  clear Vx
  clear Vy
  clear Vu
  clear BB
  obtain ⟨Va, Vb, Vc, Vx, Vy, Vu, Vv, Fv, BB⟩ := hv9
  have H9 := Lib.hid Va; clear Va; have Va := H9; clear H9
  have H9 := Lib.hid Vb; clear Vb; have Vb := H9; clear H9
  have H9 := Lib.hid Vc; clear Vc; have Vc := H9; clear H9
  have H9 := Lib.hid Vx; clear Vx; have Vx := H9; clear H9
  have H9 := Lib.hid Vy; clear Vy; have Vy := H9; clear H9
  have H9 := Lib.hid Vu; clear Vu; have Vu := H9; clear H9
  have H9 := Lib.hid Vv; clear Vv; have Vv := H9; clear H9
  have H9 := Lib.hid Fv; clear Fv; have Fv := H9; clear H9
  have H9 := Lib.hid BB; clear BB; have BB := H9; clear H9
  refine wp_region_fresh 7 (fun _ => none) (by kernel_rfl) (by kernel_rfl) (fun _ _ _ _ _ h => h) (fun F hn9 hcl hbl => ?_)
  have r_v_0 := fun X9 : Wd F => (NumAt.later (hbl X9.world X9.fact) Vv.out) 0 (by omega)
  have r_v_1 := fun X9 : Wd F => (NumAt.later (hbl X9.world X9.fact) Vv.out) 1 (by omega)
  have r_v_2 := fun X9 : Wd F => (NumAt.later (hbl X9.world X9.fact) Vv.out) 2 (by omega)
  have r_v_3 := fun X9 : Wd F => (NumAt.later (hbl X9.world X9.fact) Vv.out) 3 (by omega)
  have HCL := Lib.hid hcl
  clear hcl hbl
  refine wpF_seg 7 0 _ _ (fun _ _ _ => rfl) (by decide) ?_
  simp only [List.take_succ_cons, List.take_zero, List.drop_succ_cons, List.drop_zero, Nat.reduceAdd]
  repeat (go_big_quiet_step ((first
    | (go_at_call 16; exact to_class_num HCL.out (of_any m Hhm.out _))
    | (go_at_call 10; exact to_class HCL.out (C16.out _)))))
  refine wpQuiet_nil ?_
  refine wpF_nil ?_
  clear HCL hn9 r_v_0 r_v_1 r_v_2 r_v_3
  intro bs w9 hb9 hob hap
  clear hob hap
  simp only [over]
  have Ua := Lib.hid (NumAt.later hb9 Va.out)
  have Ub := Lib.hid (NumAt.later hb9 Vb.out)
  have Uc := Lib.hid (NumAt.later hb9 Vc.out)
  have Ux := Lib.hid (NumAt.later hb9 Vx.out)
  have Uy := Lib.hid (NumAt.later hb9 Vy.out)
  have Uu := Lib.hid (NumAt.later hb9 Vu.out)
  have Uv := Lib.hid (NumAt.later hb9 Vv.out)
  have Wv := Lib.hid (FreeN.later Fv.out hb9 (NumAt.lt Vv.out))
  have BC := Lib.hid (below_later BB.out hb9)
  clear BB Va Vb Vc Vx Vy Vu Vv Fv
  have BB := BC; clear BC
  have Va := Ua; clear Ua
  have Vb := Ub; clear Ub
  have Vc := Uc; clear Uc
  have Vx := Ux; clear Ux
  have Vy := Uy; clear Uy
  have Vu := Uu; clear Uu
  have Vv := Uv; clear Uv
  have Fv := Wv; clear Wv
  clear hb9
  have s_v_0 := Vv.out 0 (by omega); have f_v_0 := Fv.out 0 (by omega)
  have s_v_1 := Vv.out 1 (by omega); have f_v_1 := Fv.out 1 (by omega)
  have s_v_2 := Vv.out 2 (by omega); have f_v_2 := Fv.out 2 (by omega)
  have s_v_3 := Vv.out 3 (by omega); have f_v_3 := Fv.out 3 (by omega)
  have C17 := Lib.hid (show ∀ w, Calls Try.prog 12 #[.agg #[.int .u64 (dgt W64 a 0), .int .u64 (dgt W64 a 1), .int .u64 (dgt W64 a 2), .int .u64 (dgt W64 a 3)], .agg #[.int .u64 (dgt W64 k1 0), .int .u64 (dgt W64 k1 1), .int .u64 (dgt W64 k1 2), .int .u64 (dgt W64 k1 3)]] w fun e w' => e = .returned (.tuple #[.agg #[.int .u64 (dgt W64 a 0), .int .u64 (dgt W64 a 1), .int .u64 (dgt W64 a 2), .int .u64 (dgt W64 a 3)], .agg #[.int .u64 (dgt W64 0 0), .int .u64 (dgt W64 0 1), .int .u64 (dgt W64 0 2), .int .u64 (dgt W64 0 3)]]) ∧ Below w.heap.size w w' from fun w => by have h := mul_any (a := a) (b := k1) Hha.out (lt_of_W Hhk1W.out) w; rw [Hhmo.out.1] at h; rw [Hhmo.out.2] at h; unfold numV words at h; exact h)
  go_wp2_with fail
  refine region_in (fun W9 => NumAt W9 (w.heap.size + 1) a ∧ NumAt W9 (w.heap.size + 2) b ∧ NumAt W9 (w.heap.size + 3) c ∧ NumAt W9 (w4.heap.size) x ∧ NumAt W9 (w4.heap.size + 1) y ∧ NumAt W9 (w7.heap.size) x ∧ NumAt W9 (w8.heap.size) y ∧ FreeN W9 (w8.heap.size) 4 ∧ Below w.heap.size w W9) ⟨NumAt.other4 (Va.out) N_v_a.out _ _ _ _, NumAt.other4 (Vb.out) N_v_b.out _ _ _ _, NumAt.other4 (Vc.out) N_v_c.out _ _ _ _, NumAt.other4 (Vx.out) N_v_x.out _ _ _ _, NumAt.other4 (Vy.out) N_v_y.out _ _ _ _, NumAt.other4 (Vu.out) N_v_u.out _ _ _ _, NumAt.set4 (Vv.out) y, FreeN.set4 (Fv.out) _ _ _ _ _ _ _ _, below_set4 (BB.out) G_v.out _ _ _ _⟩ ?_
  intro v10 hv10
  clear Va
  clear Vb
  clear Vc
  clear Vx
  clear Vy
  clear Vu
  clear Vv
  clear Fv
  clear BB
  clear s_v_0 f_v_0 s_v_1 f_v_1 s_v_2 f_v_2 s_v_3 f_v_3
  obtain ⟨Va, Vb, Vc, Vx, Vy, Vu, Vv, Fv, BB⟩ := hv10
  have H9 := Lib.hid Va; clear Va; have Va := H9; clear H9
  have H9 := Lib.hid Vb; clear Vb; have Vb := H9; clear H9
  have H9 := Lib.hid Vc; clear Vc; have Vc := H9; clear H9
  have H9 := Lib.hid Vx; clear Vx; have Vx := H9; clear H9
  have H9 := Lib.hid Vy; clear Vy; have Vy := H9; clear H9
  have H9 := Lib.hid Vu; clear Vu; have Vu := H9; clear H9
  have H9 := Lib.hid Vv; clear Vv; have Vv := H9; clear H9
  have H9 := Lib.hid Fv; clear Fv; have Fv := H9; clear H9
  have H9 := Lib.hid BB; clear BB; have BB := H9; clear H9
  refine wp_region_fresh 8 (fun j => if j = 6 then some (.cells #[.int .u64 0, .int .u64 0, .int .u64 0, .int .u64 0] 24) else if j = 7 then some (.cells #[.int .u64 0, .int .u64 0, .int .u64 0, .int .u64 0] 24) else none) (by kernel_rfl) (by kernel_rfl) (fun _ _ _ _ _ h => h) (fun F hn9 hcl hbl => ?_)
  have r_a_0 := fun X9 : Wd F => (NumAt.later (hbl X9.world X9.fact) Va.out) 0 (by omega)
  have r_a_1 := fun X9 : Wd F => (NumAt.later (hbl X9.world X9.fact) Va.out) 1 (by omega)
  have r_a_2 := fun X9 : Wd F => (NumAt.later (hbl X9.world X9.fact) Va.out) 2 (by omega)
  have r_a_3 := fun X9 : Wd F => (NumAt.later (hbl X9.world X9.fact) Va.out) 3 (by omega)
  have HCL := Lib.hid hcl
  clear hcl hbl
  refine wpF_seg 6 0 _ _ (fun j h1 h2 => by have h6 : j ≠ 6 ∧ j ≠ 7 := (by omega); simp [h6]) (by decide) ?_
  simp only [List.take_succ_cons, List.take_zero, List.drop_succ_cons, List.drop_zero, Nat.reduceAdd]
  repeat (go_big_quiet_step ((first
    | (go_at_call 16; exact to_class_num HCL.out (of_lit k1 1 Hhk1.out Hhk1W.out _))
    | (go_at_call 12; exact to_class HCL.out (C17.out _)))))
  refine wpQuiet_nil ?_
  refine wpF_alloc rfl (fun _ => by go_simp) ?_
  refine wpF_alloc rfl (fun _ => by go_simp) ?_
  refine wpF_nil ?_
  clear HCL hn9 r_a_0 r_a_1 r_a_2 r_a_3
  intro bs w10 hb10 hob hap
  have ho_one := hob 6 _ (by omega) rfl
  have ho_none := hob 7 _ (by omega) rfl
  have hp_one_none := hap 6 7 (by omega) (by omega) (by simp) (by simp) (by omega)
  clear hob hap
  simp [over, dstOf, Act.put]
  generalize bs 6 = b_one at ho_one hp_one_none ⊢
  generalize bs 7 = b_none at ho_none hp_one_none ⊢
  clear bs
  have N_one_a := Lib.hid (show w.heap.size + 1 ≠ b_one by have := NumAt.lt Va.out; have := ho_one.1; omega)
  have N_none_a := Lib.hid (show w.heap.size + 1 ≠ b_none by have := NumAt.lt Va.out; have := ho_none.1; omega)
  have N_one_b := Lib.hid (show w.heap.size + 2 ≠ b_one by have := NumAt.lt Vb.out; have := ho_one.1; omega)
  have N_none_b := Lib.hid (show w.heap.size + 2 ≠ b_none by have := NumAt.lt Vb.out; have := ho_none.1; omega)
  have N_one_c := Lib.hid (show w.heap.size + 3 ≠ b_one by have := NumAt.lt Vc.out; have := ho_one.1; omega)
  have N_none_c := Lib.hid (show w.heap.size + 3 ≠ b_none by have := NumAt.lt Vc.out; have := ho_none.1; omega)
  have N_one_x := Lib.hid (show w4.heap.size ≠ b_one by have := NumAt.lt Vx.out; have := ho_one.1; omega)
  have N_none_x := Lib.hid (show w4.heap.size ≠ b_none by have := NumAt.lt Vx.out; have := ho_none.1; omega)
  have N_one_y := Lib.hid (show w4.heap.size + 1 ≠ b_one by have := NumAt.lt Vy.out; have := ho_one.1; omega)
  have N_none_y := Lib.hid (show w4.heap.size + 1 ≠ b_none by have := NumAt.lt Vy.out; have := ho_none.1; omega)
  have N_one_u := Lib.hid (show w7.heap.size ≠ b_one by have := NumAt.lt Vu.out; have := ho_one.1; omega)
  have N_none_u := Lib.hid (show w7.heap.size ≠ b_none by have := NumAt.lt Vu.out; have := ho_none.1; omega)
  have N_one_v := Lib.hid (show w8.heap.size ≠ b_one by have := NumAt.lt Vv.out; have := ho_one.1; omega)
  have N_none_v := Lib.hid (show w8.heap.size ≠ b_none by have := NumAt.lt Vv.out; have := ho_none.1; omega)
  have N_v_one := Lib.hid (show b_one ≠ w8.heap.size by have := NumAt.lt Vv.out; have := ho_one.1; omega)
  have N_v_none := Lib.hid (show b_none ≠ w8.heap.size by have := NumAt.lt Vv.out; have := ho_none.1; omega)
  have N_one_none := Lib.hid (show b_none ≠ b_one from fun h => hp_one_none h.symm)
  have N_none_one := Lib.hid (show b_one ≠ b_none from hp_one_none)
  have Ua := Lib.hid (NumAt.later hb10 Va.out)
  have Ub := Lib.hid (NumAt.later hb10 Vb.out)
  have Uc := Lib.hid (NumAt.later hb10 Vc.out)
  have Ux := Lib.hid (NumAt.later hb10 Vx.out)
  have Uy := Lib.hid (NumAt.later hb10 Vy.out)
  have Uu := Lib.hid (NumAt.later hb10 Vu.out)
  have Uv := Lib.hid (NumAt.later hb10 Vv.out)
  have Wv := Lib.hid (FreeN.later Fv.out hb10 (NumAt.lt Vv.out))
  have BC := Lib.hid (below_later BB.out hb10)
  have G_one := Lib.hid (show w.heap.size ≤ b_one by have := BB.out.size; have := ho_one.1; omega)
  have Vone := Lib.hid (NumAt.born ho_one.2); have Fone := Lib.hid (FreeN.born (n := 4) ho_one.2)
  have G_none := Lib.hid (show w.heap.size ≤ b_none by have := BB.out.size; have := ho_none.1; omega)
  have Vnone := Lib.hid (NumAt.born ho_none.2); have Fnone := Lib.hid (FreeN.born (n := 4) ho_none.2)
  clear BB Va Vb Vc Vx Vy Vu Vv Fv
  have BB := BC; clear BC
  have Va := Ua; clear Ua
  have Vb := Ub; clear Ub
  have Vc := Uc; clear Uc
  have Vx := Ux; clear Ux
  have Vy := Uy; clear Uy
  have Vu := Uu; clear Uu
  have Vv := Uv; clear Uv
  have Fv := Wv; clear Wv
  clear ho_one
  clear hp_one_none
  clear ho_none
  clear hb10
  have s_one_0 := Vone.out 0 (by omega); have f_one_0 := Fone.out 0 (by omega)
  have s_one_1 := Vone.out 1 (by omega); have f_one_1 := Fone.out 1 (by omega)
  have s_one_2 := Vone.out 2 (by omega); have f_one_2 := Fone.out 2 (by omega)
  have s_one_3 := Vone.out 3 (by omega); have f_one_3 := Fone.out 3 (by omega)
  have ne_one_none := N_one_none.out
  have s_none_0 := Vnone.out 0 (by omega); have f_none_0 := Fnone.out 0 (by omega)
  have s_none_1 := Vnone.out 1 (by omega); have f_none_1 := Fnone.out 1 (by omega)
  have s_none_2 := Vnone.out 2 (by omega); have f_none_2 := Fnone.out 2 (by omega)
  have s_none_3 := Vnone.out 3 (by omega); have f_none_3 := Fnone.out 3 (by omega)
  have ne_none_one := N_none_one.out
  have C18 := Lib.hid (show ∀ w, Calls Try.prog 12 #[.agg #[.int .u64 (dgt W64 k0 0), .int .u64 (dgt W64 k0 1), .int .u64 (dgt W64 k0 2), .int .u64 (dgt W64 k0 3)], .agg #[.int .u64 (dgt W64 b 0), .int .u64 (dgt W64 b 1), .int .u64 (dgt W64 b 2), .int .u64 (dgt W64 b 3)]] w fun e w' => e = .returned (.tuple #[.agg #[.int .u64 (dgt W64 0 0), .int .u64 (dgt W64 0 1), .int .u64 (dgt W64 0 2), .int .u64 (dgt W64 0 3)], .agg #[.int .u64 (dgt W64 0 0), .int .u64 (dgt W64 0 1), .int .u64 (dgt W64 0 2), .int .u64 (dgt W64 0 3)]]) ∧ Below w.heap.size w w' from fun w => by have h := mul_any (a := k0) (b := b) (lt_of_W Hhk0W.out) Hhb.out w; rw [Hhmn.out.1] at h; rw [Hhmn.out.2] at h; unfold numV words at h; exact h)
  go_wp2_with fail
  refine region_in (fun W9 => NumAt W9 (w.heap.size + 1) a ∧ NumAt W9 (w.heap.size + 2) b ∧ NumAt W9 (w.heap.size + 3) c ∧ NumAt W9 (w4.heap.size) x ∧ NumAt W9 (w4.heap.size + 1) y ∧ NumAt W9 (w7.heap.size) x ∧ NumAt W9 (w8.heap.size) y ∧ NumAt W9 (b_one) a ∧ NumAt W9 (b_none) 0 ∧ FreeN W9 (w8.heap.size) 4 ∧ FreeN W9 (b_one) 4 ∧ FreeN W9 (b_none) 4 ∧ Below w.heap.size w W9) ⟨NumAt.other4 (NumAt.other4 (Va.out) N_one_a.out _ _ _ _) N_none_a.out _ _ _ _, NumAt.other4 (NumAt.other4 (Vb.out) N_one_b.out _ _ _ _) N_none_b.out _ _ _ _, NumAt.other4 (NumAt.other4 (Vc.out) N_one_c.out _ _ _ _) N_none_c.out _ _ _ _, NumAt.other4 (NumAt.other4 (Vx.out) N_one_x.out _ _ _ _) N_none_x.out _ _ _ _, NumAt.other4 (NumAt.other4 (Vy.out) N_one_y.out _ _ _ _) N_none_y.out _ _ _ _, NumAt.other4 (NumAt.other4 (Vu.out) N_one_u.out _ _ _ _) N_none_u.out _ _ _ _, NumAt.other4 (NumAt.other4 (Vv.out) N_one_v.out _ _ _ _) N_none_v.out _ _ _ _, NumAt.other4 (NumAt.set4 (Vone.out) a) N_none_one.out _ _ _ _, NumAt.set4 (NumAt.other4 (Vnone.out) N_one_none.out _ _ _ _) 0, FreeN.set4 (FreeN.set4 (Fv.out) _ _ _ _ _ _ _ _) _ _ _ _ _ _ _ _, FreeN.set4 (FreeN.set4 (Fone.out) _ _ _ _ _ _ _ _) _ _ _ _ _ _ _ _, FreeN.set4 (FreeN.set4 (Fnone.out) _ _ _ _ _ _ _ _) _ _ _ _ _ _ _ _, below_set4 (below_set4 (BB.out) G_one.out _ _ _ _) G_none.out _ _ _ _⟩ ?_
  intro v11 hv11
  clear Va
  clear Vb
  clear Vc
  clear Vx
  clear Vy
  clear Vu
  clear Vv
  clear Vone
  clear Vnone
  clear Fv
  clear Fone
  clear Fnone
  clear BB
  clear s_one_0 f_one_0 s_one_1 f_one_1 s_one_2 f_one_2 s_one_3 f_one_3 ne_one_none s_none_0 f_none_0 s_none_1 f_none_1 s_none_2 f_none_2 s_none_3 f_none_3 ne_none_one
  obtain ⟨Va, Vb, Vc, Vx, Vy, Vu, Vv, Vone, Vnone, Fv, Fone, Fnone, BB⟩ := hv11
  have H9 := Lib.hid Va; clear Va; have Va := H9; clear H9
  have H9 := Lib.hid Vb; clear Vb; have Vb := H9; clear H9
  have H9 := Lib.hid Vc; clear Vc; have Vc := H9; clear H9
  have H9 := Lib.hid Vx; clear Vx; have Vx := H9; clear H9
  have H9 := Lib.hid Vy; clear Vy; have Vy := H9; clear H9
  have H9 := Lib.hid Vu; clear Vu; have Vu := H9; clear H9
  have H9 := Lib.hid Vv; clear Vv; have Vv := H9; clear H9
  have H9 := Lib.hid Vone; clear Vone; have Vone := H9; clear H9
  have H9 := Lib.hid Vnone; clear Vnone; have Vnone := H9; clear H9
  have H9 := Lib.hid Fv; clear Fv; have Fv := H9; clear H9
  have H9 := Lib.hid Fone; clear Fone; have Fone := H9; clear H9
  have H9 := Lib.hid Fnone; clear Fnone; have Fnone := H9; clear H9
  have H9 := Lib.hid BB; clear BB; have BB := H9; clear H9
  refine wp_region_fresh 8 (fun j => if j = 6 then some (.cells #[.int .u64 0, .int .u64 0, .int .u64 0, .int .u64 0] 24) else if j = 7 then some (.cells #[.int .u64 0, .int .u64 0, .int .u64 0, .int .u64 0] 24) else none) (by kernel_rfl) (by kernel_rfl) (fun _ _ _ _ _ h => h) (fun F hn9 hcl hbl => ?_)
  have r_b_0 := fun X9 : Wd F => (NumAt.later (hbl X9.world X9.fact) Vb.out) 0 (by omega)
  have r_b_1 := fun X9 : Wd F => (NumAt.later (hbl X9.world X9.fact) Vb.out) 1 (by omega)
  have r_b_2 := fun X9 : Wd F => (NumAt.later (hbl X9.world X9.fact) Vb.out) 2 (by omega)
  have r_b_3 := fun X9 : Wd F => (NumAt.later (hbl X9.world X9.fact) Vb.out) 3 (by omega)
  have HCL := Lib.hid hcl
  clear hcl hbl
  refine wpF_seg 6 0 _ _ (fun j h1 h2 => by have h6 : j ≠ 6 ∧ j ≠ 7 := (by omega); simp [h6]) (by decide) ?_
  simp only [List.take_succ_cons, List.take_zero, List.drop_succ_cons, List.drop_zero, Nat.reduceAdd]
  repeat (go_big_quiet_step ((first
    | (go_at_call 16; exact to_class_num HCL.out (of_lit k0 0 Hhk0.out Hhk0W.out _))
    | (go_at_call 12; exact to_class HCL.out (C18.out _)))))
  refine wpQuiet_nil ?_
  refine wpF_alloc rfl (fun _ => by go_simp) ?_
  refine wpF_alloc rfl (fun _ => by go_simp) ?_
  refine wpF_nil ?_
  clear HCL hn9 r_b_0 r_b_1 r_b_2 r_b_3
  intro bs w11 hb11 hob hap
  have ho_nought := hob 6 _ (by omega) rfl
  have ho_too := hob 7 _ (by omega) rfl
  have hp_nought_too := hap 6 7 (by omega) (by omega) (by simp) (by simp) (by omega)
  clear hob hap
  simp [over, dstOf, Act.put]
  generalize bs 6 = b_nought at ho_nought hp_nought_too ⊢
  generalize bs 7 = b_too at ho_too hp_nought_too ⊢
  clear bs
  have N_nought_a := Lib.hid (show w.heap.size + 1 ≠ b_nought by have := NumAt.lt Va.out; have := ho_nought.1; omega)
  have N_too_a := Lib.hid (show w.heap.size + 1 ≠ b_too by have := NumAt.lt Va.out; have := ho_too.1; omega)
  have N_nought_b := Lib.hid (show w.heap.size + 2 ≠ b_nought by have := NumAt.lt Vb.out; have := ho_nought.1; omega)
  have N_too_b := Lib.hid (show w.heap.size + 2 ≠ b_too by have := NumAt.lt Vb.out; have := ho_too.1; omega)
  have N_nought_c := Lib.hid (show w.heap.size + 3 ≠ b_nought by have := NumAt.lt Vc.out; have := ho_nought.1; omega)
  have N_too_c := Lib.hid (show w.heap.size + 3 ≠ b_too by have := NumAt.lt Vc.out; have := ho_too.1; omega)
  have N_nought_x := Lib.hid (show w4.heap.size ≠ b_nought by have := NumAt.lt Vx.out; have := ho_nought.1; omega)
  have N_too_x := Lib.hid (show w4.heap.size ≠ b_too by have := NumAt.lt Vx.out; have := ho_too.1; omega)
  have N_nought_y := Lib.hid (show w4.heap.size + 1 ≠ b_nought by have := NumAt.lt Vy.out; have := ho_nought.1; omega)
  have N_too_y := Lib.hid (show w4.heap.size + 1 ≠ b_too by have := NumAt.lt Vy.out; have := ho_too.1; omega)
  have N_nought_u := Lib.hid (show w7.heap.size ≠ b_nought by have := NumAt.lt Vu.out; have := ho_nought.1; omega)
  have N_too_u := Lib.hid (show w7.heap.size ≠ b_too by have := NumAt.lt Vu.out; have := ho_too.1; omega)
  have N_nought_v := Lib.hid (show w8.heap.size ≠ b_nought by have := NumAt.lt Vv.out; have := ho_nought.1; omega)
  have N_too_v := Lib.hid (show w8.heap.size ≠ b_too by have := NumAt.lt Vv.out; have := ho_too.1; omega)
  have N_nought_one := Lib.hid (show b_one ≠ b_nought by have := NumAt.lt Vone.out; have := ho_nought.1; omega)
  have N_too_one := Lib.hid (show b_one ≠ b_too by have := NumAt.lt Vone.out; have := ho_too.1; omega)
  have N_nought_none := Lib.hid (show b_none ≠ b_nought by have := NumAt.lt Vnone.out; have := ho_nought.1; omega)
  have N_too_none := Lib.hid (show b_none ≠ b_too by have := NumAt.lt Vnone.out; have := ho_too.1; omega)
  have N_v_nought := Lib.hid (show b_nought ≠ w8.heap.size by have := NumAt.lt Vv.out; have := ho_nought.1; omega)
  have N_one_nought := Lib.hid (show b_nought ≠ b_one by have := NumAt.lt Vone.out; have := ho_nought.1; omega)
  have N_none_nought := Lib.hid (show b_nought ≠ b_none by have := NumAt.lt Vnone.out; have := ho_nought.1; omega)
  have N_v_too := Lib.hid (show b_too ≠ w8.heap.size by have := NumAt.lt Vv.out; have := ho_too.1; omega)
  have N_one_too := Lib.hid (show b_too ≠ b_one by have := NumAt.lt Vone.out; have := ho_too.1; omega)
  have N_none_too := Lib.hid (show b_too ≠ b_none by have := NumAt.lt Vnone.out; have := ho_too.1; omega)
  have N_nought_too := Lib.hid (show b_too ≠ b_nought from fun h => hp_nought_too h.symm)
  have N_too_nought := Lib.hid (show b_nought ≠ b_too from hp_nought_too)
  have Ua := Lib.hid (NumAt.later hb11 Va.out)
  have Ub := Lib.hid (NumAt.later hb11 Vb.out)
  have Uc := Lib.hid (NumAt.later hb11 Vc.out)
  have Ux := Lib.hid (NumAt.later hb11 Vx.out)
  have Uy := Lib.hid (NumAt.later hb11 Vy.out)
  have Uu := Lib.hid (NumAt.later hb11 Vu.out)
  have Uv := Lib.hid (NumAt.later hb11 Vv.out)
  have Uone := Lib.hid (NumAt.later hb11 Vone.out)
  have Unone := Lib.hid (NumAt.later hb11 Vnone.out)
  have Wv := Lib.hid (FreeN.later Fv.out hb11 (NumAt.lt Vv.out))
  have Wone := Lib.hid (FreeN.later Fone.out hb11 (NumAt.lt Vone.out))
  have Wnone := Lib.hid (FreeN.later Fnone.out hb11 (NumAt.lt Vnone.out))
  have BC := Lib.hid (below_later BB.out hb11)
  have G_nought := Lib.hid (show w.heap.size ≤ b_nought by have := BB.out.size; have := ho_nought.1; omega)
  have Vnought := Lib.hid (NumAt.born ho_nought.2); have Fnought := Lib.hid (FreeN.born (n := 4) ho_nought.2)
  have G_too := Lib.hid (show w.heap.size ≤ b_too by have := BB.out.size; have := ho_too.1; omega)
  have Vtoo := Lib.hid (NumAt.born ho_too.2); have Ftoo := Lib.hid (FreeN.born (n := 4) ho_too.2)
  clear BB Va Vb Vc Vx Vy Vu Vv Vone Vnone Fv Fone Fnone
  have BB := BC; clear BC
  have Va := Ua; clear Ua
  have Vb := Ub; clear Ub
  have Vc := Uc; clear Uc
  have Vx := Ux; clear Ux
  have Vy := Uy; clear Uy
  have Vu := Uu; clear Uu
  have Vv := Uv; clear Uv
  have Vone := Uone; clear Uone
  have Vnone := Unone; clear Unone
  have Fv := Wv; clear Wv
  have Fone := Wone; clear Wone
  have Fnone := Wnone; clear Wnone
  clear ho_nought
  clear hp_nought_too
  clear ho_too
  clear hb11
  have s_nought_0 := Vnought.out 0 (by omega); have f_nought_0 := Fnought.out 0 (by omega)
  have s_nought_1 := Vnought.out 1 (by omega); have f_nought_1 := Fnought.out 1 (by omega)
  have s_nought_2 := Vnought.out 2 (by omega); have f_nought_2 := Fnought.out 2 (by omega)
  have s_nought_3 := Vnought.out 3 (by omega); have f_nought_3 := Fnought.out 3 (by omega)
  have ne_nought_too := N_nought_too.out
  have s_too_0 := Vtoo.out 0 (by omega); have f_too_0 := Ftoo.out 0 (by omega)
  have s_too_1 := Vtoo.out 1 (by omega); have f_too_1 := Ftoo.out 1 (by omega)
  have s_too_2 := Vtoo.out 2 (by omega); have f_too_2 := Ftoo.out 2 (by omega)
  have s_too_3 := Vtoo.out 3 (by omega); have f_too_3 := Ftoo.out 3 (by omega)
  have ne_too_nought := N_too_nought.out
  go_wp2_with fail
  refine wp_region_num w [(w.heap.size + 1, a), (w4.heap.size, x), (w7.heap.size, x), (w4.heap.size + 1, y), (w8.heap.size, y), (b_one, a), (b_none, 0), (b_nought, 0), (b_too, 0)] (by kernel_rfl) (by kernel_rfl) ?_ ?_ (fun F hne hcl hfa => ?_)
  · simp only [List.mem_cons, List.not_mem_nil, or_false, forall_eq_or_imp, forall_eq]
    exact ⟨NumAt.other4 (NumAt.other4 (Va.out) N_nought_a.out _ _ _ _) N_too_a.out _ _ _ _, NumAt.other4 (NumAt.other4 (Vx.out) N_nought_x.out _ _ _ _) N_too_x.out _ _ _ _, NumAt.other4 (NumAt.other4 (Vu.out) N_nought_u.out _ _ _ _) N_too_u.out _ _ _ _, NumAt.other4 (NumAt.other4 (Vy.out) N_nought_y.out _ _ _ _) N_too_y.out _ _ _ _, NumAt.other4 (NumAt.other4 (Vv.out) N_nought_v.out _ _ _ _) N_too_v.out _ _ _ _, NumAt.other4 (NumAt.other4 (Vone.out) N_nought_one.out _ _ _ _) N_too_one.out _ _ _ _, NumAt.other4 (NumAt.other4 (Vnone.out) N_nought_none.out _ _ _ _) N_too_none.out _ _ _ _, NumAt.other4 (NumAt.set4 (Vnought.out) 0) N_too_nought.out _ _ _ _, NumAt.set4 (NumAt.other4 (Vtoo.out) N_nought_too.out _ _ _ _) 0⟩
  · exact below_set4 (below_set4 (BB.out) G_nought.out _ _ _ _) G_too.out _ _ _ _
  have r_a_0 := fun X9 : Wd F => (hfa X9.world X9.fact).1 (w.heap.size + 1, a) (by simp) 0 (by omega)
  have r_a_1 := fun X9 : Wd F => (hfa X9.world X9.fact).1 (w.heap.size + 1, a) (by simp) 1 (by omega)
  have r_a_2 := fun X9 : Wd F => (hfa X9.world X9.fact).1 (w.heap.size + 1, a) (by simp) 2 (by omega)
  have r_a_3 := fun X9 : Wd F => (hfa X9.world X9.fact).1 (w.heap.size + 1, a) (by simp) 3 (by omega)
  have r_x_0 := fun X9 : Wd F => (hfa X9.world X9.fact).1 (w4.heap.size, x) (by simp) 0 (by omega)
  have r_x_1 := fun X9 : Wd F => (hfa X9.world X9.fact).1 (w4.heap.size, x) (by simp) 1 (by omega)
  have r_x_2 := fun X9 : Wd F => (hfa X9.world X9.fact).1 (w4.heap.size, x) (by simp) 2 (by omega)
  have r_x_3 := fun X9 : Wd F => (hfa X9.world X9.fact).1 (w4.heap.size, x) (by simp) 3 (by omega)
  have r_u_0 := fun X9 : Wd F => (hfa X9.world X9.fact).1 (w7.heap.size, x) (by simp) 0 (by omega)
  have r_u_1 := fun X9 : Wd F => (hfa X9.world X9.fact).1 (w7.heap.size, x) (by simp) 1 (by omega)
  have r_u_2 := fun X9 : Wd F => (hfa X9.world X9.fact).1 (w7.heap.size, x) (by simp) 2 (by omega)
  have r_u_3 := fun X9 : Wd F => (hfa X9.world X9.fact).1 (w7.heap.size, x) (by simp) 3 (by omega)
  have r_y_0 := fun X9 : Wd F => (hfa X9.world X9.fact).1 (w4.heap.size + 1, y) (by simp) 0 (by omega)
  have r_y_1 := fun X9 : Wd F => (hfa X9.world X9.fact).1 (w4.heap.size + 1, y) (by simp) 1 (by omega)
  have r_y_2 := fun X9 : Wd F => (hfa X9.world X9.fact).1 (w4.heap.size + 1, y) (by simp) 2 (by omega)
  have r_y_3 := fun X9 : Wd F => (hfa X9.world X9.fact).1 (w4.heap.size + 1, y) (by simp) 3 (by omega)
  have r_v_0 := fun X9 : Wd F => (hfa X9.world X9.fact).1 (w8.heap.size, y) (by simp) 0 (by omega)
  have r_v_1 := fun X9 : Wd F => (hfa X9.world X9.fact).1 (w8.heap.size, y) (by simp) 1 (by omega)
  have r_v_2 := fun X9 : Wd F => (hfa X9.world X9.fact).1 (w8.heap.size, y) (by simp) 2 (by omega)
  have r_v_3 := fun X9 : Wd F => (hfa X9.world X9.fact).1 (w8.heap.size, y) (by simp) 3 (by omega)
  have r_one_0 := fun X9 : Wd F => (hfa X9.world X9.fact).1 (b_one, a) (by simp) 0 (by omega)
  have r_one_1 := fun X9 : Wd F => (hfa X9.world X9.fact).1 (b_one, a) (by simp) 1 (by omega)
  have r_one_2 := fun X9 : Wd F => (hfa X9.world X9.fact).1 (b_one, a) (by simp) 2 (by omega)
  have r_one_3 := fun X9 : Wd F => (hfa X9.world X9.fact).1 (b_one, a) (by simp) 3 (by omega)
  have r_none_0 := fun X9 : Wd F => (hfa X9.world X9.fact).1 (b_none, 0) (by simp) 0 (by omega)
  have r_none_1 := fun X9 : Wd F => (hfa X9.world X9.fact).1 (b_none, 0) (by simp) 1 (by omega)
  have r_none_2 := fun X9 : Wd F => (hfa X9.world X9.fact).1 (b_none, 0) (by simp) 2 (by omega)
  have r_none_3 := fun X9 : Wd F => (hfa X9.world X9.fact).1 (b_none, 0) (by simp) 3 (by omega)
  have r_nought_0 := fun X9 : Wd F => (hfa X9.world X9.fact).1 (b_nought, 0) (by simp) 0 (by omega)
  have r_nought_1 := fun X9 : Wd F => (hfa X9.world X9.fact).1 (b_nought, 0) (by simp) 1 (by omega)
  have r_nought_2 := fun X9 : Wd F => (hfa X9.world X9.fact).1 (b_nought, 0) (by simp) 2 (by omega)
  have r_nought_3 := fun X9 : Wd F => (hfa X9.world X9.fact).1 (b_nought, 0) (by simp) 3 (by omega)
  have r_too_0 := fun X9 : Wd F => (hfa X9.world X9.fact).1 (b_too, 0) (by simp) 0 (by omega)
  have r_too_1 := fun X9 : Wd F => (hfa X9.world X9.fact).1 (b_too, 0) (by simp) 1 (by omega)
  have r_too_2 := fun X9 : Wd F => (hfa X9.world X9.fact).1 (b_too, 0) (by simp) 2 (by omega)
  have r_too_3 := fun X9 : Wd F => (hfa X9.world X9.fact).1 (b_too, 0) (by simp) 3 (by omega)
  have HFB := Lib.hid (fun x : Wd F => (hfa x.world x.fact).2)
  have HCL := Lib.hid hcl
  have hfa9 := fun x : Wd F => hfa x.world x.fact
  have HFA := Lib.hid hfa9
  clear hfa9
  clear hcl hfa
  try simp only [List.append_eq, List.cons_append, List.nil_append]
  repeat (go_big_quiet_step ((first
    | (go_at_call 16; exact to_class HCL.out (of_int _ (by omega) (by omega) _))
    | (go_at_call 26; exact to_class HCL.out (alive_any _)))))
  refine wpQuiet_nil ?_
  intro w9 hw9
  obtain ⟨x9, hw9⟩ := hw9
  have B9 := Lib.hid (HFB.out x9)
  have hfa9 := HFA.out
  rw [← hw9] at B9
  clear hw9 hfa9
  go_wp2
  go_ret
  exact ⟨rfl, B9.out⟩

set_option maxRecDepth 20000 in
set_option maxHeartbeats 8000000 in
theorem limbsProducts_1 {a b c : Nat} (ha : a < M256) (hb : b < M256) (hc : c < M256) (hk : addNC a b = 1) (w : World) :
    Calls Try.prog 5 #[.agg #[.int .u64 (dgt W64 a 0), .int .u64 (dgt W64 a 1), .int .u64 (dgt W64 a 2), .int .u64 (dgt W64 a 3), .int .u64 (dgt W64 b 0), .int .u64 (dgt W64 b 1), .int .u64 (dgt W64 b 2), .int .u64 (dgt W64 b 3), .int .u64 (dgt W64 c 0), .int .u64 (dgt W64 c 1), .int .u64 (dgt W64 c 2), .int .u64 (dgt W64 c 3)]] w fun e w' => e = .returned (.bool true) ∧ Below w.heap.size w w' := by
  have heq := eq4
  have hne := ne_num
  obtain ⟨k1, hk1, hk1W, hmo⟩ : ∃ z : Nat, (1 : Int) = (z : Int) ∧ z < W64 ∧ mulL a z = a ∧ mulH a z = 0 := ⟨1, rfl, one_lt_W, mul_ones ha⟩
  obtain ⟨k0, hk0, hk0W, hmn⟩ : ∃ z : Nat, (0 : Int) = (z : Int) ∧ z < W64 ∧ mulL z b = 0 ∧ mulH z b = 0 := ⟨0, rfl, W64_pos, mul_noughts b⟩
  have hlaw := prod_sum1 (c := c) hk
  have hl := mulL_lt a b
  have hh := mulH_lt ha hb
  have hlc := mulL_comm b a
  have hhc := mulH_comm b a
  have hs := addN_lt a b
  have hx := mulL_lt (addN a b) c
  have hy := mulH_lt hs hc
  have hp := mulL_lt a c
  have hq := mulH_lt ha hc
  have hr := mulL_lt b c
  have ht := mulH_lt hb hc
  have hm := addNC_ltW hp hr
  have hv0 := addN_lt (mulH a c) (mulH b c)
  obtain ⟨l, el⟩ : ∃ z, mulL a b = z := ⟨_, rfl⟩
  obtain ⟨h, eh⟩ : ∃ z, mulH a b = z := ⟨_, rfl⟩
  obtain ⟨s, es⟩ : ∃ z, addN a b = z := ⟨_, rfl⟩
  obtain ⟨p, ep⟩ : ∃ z, mulL a c = z := ⟨_, rfl⟩
  obtain ⟨q, eq⟩ : ∃ z, mulH a c = z := ⟨_, rfl⟩
  obtain ⟨r, er⟩ : ∃ z, mulL b c = z := ⟨_, rfl⟩
  obtain ⟨t, et⟩ : ∃ z, mulH b c = z := ⟨_, rfl⟩
  rw [el] at hl hlc
  rw [eh] at hh hhc
  rw [es] at hs hx hy hlaw
  rw [ep] at hp hm hlaw
  rw [eq] at hq hv0 hlaw
  rw [er] at hr hm hlaw
  rw [et] at ht hv0 hlaw
  obtain ⟨x, ex⟩ : ∃ z, mulL s c = z := ⟨_, rfl⟩
  obtain ⟨y, ey⟩ : ∃ z, mulH s c = z := ⟨_, rfl⟩
  obtain ⟨m, em⟩ : ∃ z, addNC p r = z := ⟨_, rfl⟩
  obtain ⟨v0, ev0⟩ : ∃ z, addN q t = z := ⟨_, rfl⟩
  rw [ex] at hx hlaw
  rw [ey] at hy hlaw
  rw [em] at hm hlaw
  rw [ev0] at hv0 hlaw
  obtain ⟨eu, ev⟩ := hlaw
  obtain ⟨v, ev1⟩ : ∃ z, addN y c = z := ⟨_, rfl⟩
  rw [ev1] at ev
  have Hha := Lib.hid ha
  have Hhb := Lib.hid hb
  have Hhc := Lib.hid hc
  have Hhs := Lib.hid hs
  have Hhx := Lib.hid hx
  have Hhy := Lib.hid hy
  have Hhp := Lib.hid hp
  have Hhq := Lib.hid hq
  have Hhr := Lib.hid hr
  have Hht := Lib.hid ht
  have Hhm := Lib.hid hm
  have Hhv0 := Lib.hid hv0
  have Hhl := Lib.hid hl
  have Hhh := Lib.hid hh
  have Hel := Lib.hid el
  have Heh := Lib.hid eh
  have Hes := Lib.hid es
  have Hep := Lib.hid ep
  have Heq := Lib.hid eq
  have Her := Lib.hid er
  have Het := Lib.hid et
  have Hex := Lib.hid ex
  have Hey := Lib.hid ey
  have Hem := Lib.hid em
  have Hev0 := Lib.hid ev0
  have Heu := Lib.hid eu
  have Hev := Lib.hid ev
  have Hhlc := Lib.hid hlc
  have Hhhc := Lib.hid hhc
  have Hhmo := Lib.hid hmo
  have Hhmn := Lib.hid hmn
  have Hhk := Lib.hid hk
  have Hhk1 := Lib.hid hk1
  have Hhk1W := Lib.hid hk1W
  have Hhk0 := Lib.hid hk0
  have Hhk0W := Lib.hid hk0W
  have Hev1 := Lib.hid ev1
  clear ha hb hc hs hx hy hp hq hr ht hm hv0 hl hh el eh es ep eq er et ex ey em ev0 eu ev hlc hhc hmo hmn hk hk1 hk1W hk0 hk0W ev1
  go_enter Try.func5, Try.ntmps5
  go_wp2_with fail
  refine (mul_any (a := a) (b := b) Hha.out Hhb.out _).mono ?_
  rintro _ w1 ⟨rfl, hb1⟩
  have Ua := Lib.hid (NumAt.later hb1 (((NumAt.new _ a (w.heap.size + 1) _ (by simp)).alloc _).alloc _))
  have Ub := Lib.hid (NumAt.later hb1 ((NumAt.new _ b (w.heap.size + 2) _ (by simp)).alloc _))
  have Uc := Lib.hid (NumAt.later hb1 (NumAt.new _ c (w.heap.size + 3) _ (by simp)))
  have BC := Lib.hid (below_later (below_new (below_new (below_new (below_new (Below.refl _ _) _) _) _) _) hb1)
  have Va := Ua
  clear Ua
  have Vb := Ub
  clear Ub
  have Vc := Uc
  clear Uc
  have BB := BC
  clear BC
  clear hb1
  rw [Hel.out, Heh.out]
  unfold numV words
  have l_a_0 := Va.out 0 (by omega)
  have l_a_1 := Va.out 1 (by omega)
  have l_a_2 := Va.out 2 (by omega)
  have l_a_3 := Va.out 3 (by omega)
  have t_a := Va.out.lt
  have u_a : w.heap.size < w1.heap.size := by omega
  have l_b_0 := Vb.out 0 (by omega)
  have l_b_1 := Vb.out 1 (by omega)
  have l_b_2 := Vb.out 2 (by omega)
  have l_b_3 := Vb.out 3 (by omega)
  have t_b := Vb.out.lt
  have u_b : w.heap.size + 1 < w1.heap.size := by omega
  go_wp2_with fail
  refine (mul_any (a := b) (b := a) Hhb.out Hha.out _).mono ?_
  rintro _ w2 ⟨rfl, hb2⟩
  clear l_a_0 l_a_1 l_a_2 l_a_3 t_a u_a l_b_0 l_b_1 l_b_2 l_b_3 t_b u_b
  have Ua := Lib.hid (NumAt.later hb2 (((Va.out).alloc _).alloc _))
  have Ub := Lib.hid (NumAt.later hb2 (((Vb.out).alloc _).alloc _))
  have Uc := Lib.hid (NumAt.later hb2 (((Vc.out).alloc _).alloc _))
  have Ul := Lib.hid (NumAt.later hb2 ((NumAt.new _ l (w1.heap.size) _ (by simp)).alloc _))
  have Uh := Lib.hid (NumAt.later hb2 (NumAt.new _ h (w1.heap.size + 1) _ (by simp)))
  have BC := Lib.hid (below_later (below_new (below_new (BB.out) _) _) hb2)
  clear Va
  clear Vb
  clear Vc
  clear BB
  have Va := Ua
  clear Ua
  have Vb := Ub
  clear Ub
  have Vc := Uc
  clear Uc
  have Vl := Ul
  clear Ul
  have Vh := Uh
  clear Uh
  have BB := BC
  clear BC
  clear hb2
  rw [Hhlc.out, Hhhc.out]
  unfold numV words
  have hl := Hhl.out
  have hh := Hhh.out
  have l_l_0 := Vl.out 0 (by omega)
  have l_l_1 := Vl.out 1 (by omega)
  have l_l_2 := Vl.out 2 (by omega)
  have l_l_3 := Vl.out 3 (by omega)
  have t_l := Vl.out.lt
  have l_h_0 := Vh.out 0 (by omega)
  have l_h_1 := Vh.out 1 (by omega)
  have l_h_2 := Vh.out 2 (by omega)
  have l_h_3 := Vh.out 3 (by omega)
  have t_h := Vh.out.lt
  have u_h : w1.heap.size < w2.heap.size := by omega
  have l_a_0 := Va.out 0 (by omega)
  have l_a_1 := Va.out 1 (by omega)
  have l_a_2 := Va.out 2 (by omega)
  have l_a_3 := Va.out 3 (by omega)
  have t_a := Va.out.lt
  have u_a : w.heap.size < w2.heap.size := by omega
  have l_b_0 := Vb.out 0 (by omega)
  have l_b_1 := Vb.out 1 (by omega)
  have l_b_2 := Vb.out 2 (by omega)
  have l_b_3 := Vb.out 3 (by omega)
  have t_b := Vb.out.lt
  have u_b : w.heap.size + 1 < w2.heap.size := by omega
  go_wp2_with fail
  refine (add_any (a := a) (b := b) Hha.out Hhb.out _).mono ?_
  rintro _ w3 ⟨rfl, hb3⟩
  clear l_l_0 l_l_1 l_l_2 l_l_3 t_l l_h_0 l_h_1 l_h_2 l_h_3 t_h u_h l_a_0 l_a_1 l_a_2 l_a_3 t_a u_a l_b_0 l_b_1 l_b_2 l_b_3 t_b u_b
  have Ua := Lib.hid (NumAt.later hb3 (((Va.out).alloc _).alloc _))
  have Ub := Lib.hid (NumAt.later hb3 (((Vb.out).alloc _).alloc _))
  have Uc := Lib.hid (NumAt.later hb3 (((Vc.out).alloc _).alloc _))
  have Ul := Lib.hid (NumAt.later hb3 (((Vl.out).alloc _).alloc _))
  have Uh := Lib.hid (NumAt.later hb3 (((Vh.out).alloc _).alloc _))
  have Ul2 := Lib.hid (NumAt.later hb3 ((NumAt.new _ l (w2.heap.size) _ (by simp)).alloc _))
  have Uh2 := Lib.hid (NumAt.later hb3 (NumAt.new _ h (w2.heap.size + 1) _ (by simp)))
  have BC := Lib.hid (below_later (below_new (below_new (BB.out) _) _) hb3)
  clear Va
  clear Vb
  clear Vc
  clear Vl
  clear Vh
  clear BB
  have Va := Ua
  clear Ua
  have Vb := Ub
  clear Ub
  have Vc := Uc
  clear Uc
  have Vl := Ul
  clear Ul
  have Vh := Uh
  clear Uh
  have Vl2 := Ul2
  clear Ul2
  have Vh2 := Uh2
  clear Uh2
  have BB := BC
  clear BC
  clear hb3
  clear hl hh
  rw [Hes.out, Hhk.out]
  unfold numV words
  clear Vl
  clear Vh
  clear Vl2
  clear Vh2
  have l_c_0 := Vc.out 0 (by omega)
  have l_c_1 := Vc.out 1 (by omega)
  have l_c_2 := Vc.out 2 (by omega)
  have l_c_3 := Vc.out 3 (by omega)
  have t_c := Vc.out.lt
  go_wp2_with fail
  refine (mul_any (a := s) (b := c) Hhs.out Hhc.out _).mono ?_
  rintro _ w4 ⟨rfl, hb4⟩
  clear l_c_0 l_c_1 l_c_2 l_c_3 t_c
  have Ua := Lib.hid (NumAt.later hb4 ((Va.out).alloc _))
  have Ub := Lib.hid (NumAt.later hb4 ((Vb.out).alloc _))
  have Uc := Lib.hid (NumAt.later hb4 ((Vc.out).alloc _))
  have Us := Lib.hid (NumAt.later hb4 (NumAt.new _ s (w3.heap.size) _ (by simp)))
  have BC := Lib.hid (below_later (below_new (BB.out) _) hb4)
  clear Va
  clear Vb
  clear Vc
  clear BB
  have Va := Ua
  clear Ua
  have Vb := Ub
  clear Ub
  have Vc := Uc
  clear Uc
  have Vs := Us
  clear Us
  have BB := BC
  clear BC
  clear hb4
  rw [Hex.out, Hey.out]
  unfold numV words
  clear Vs
  have l_c_0 := Vc.out 0 (by omega)
  have l_c_1 := Vc.out 1 (by omega)
  have l_c_2 := Vc.out 2 (by omega)
  have l_c_3 := Vc.out 3 (by omega)
  have t_c := Vc.out.lt
  have u_c : w.heap.size + 2 < w4.heap.size := by omega
  go_wp2_with fail
  refine (add_any (a := y) (b := c) Hhy.out Hhc.out _).mono ?_
  rintro _ w5 ⟨rfl, hb5⟩
  clear l_c_0 l_c_1 l_c_2 l_c_3 t_c u_c
  have N_y_a := Lib.hid (show w.heap.size + 1 ≠ w4.heap.size + 1 by have := NumAt.lt Va.out; omega)
  have N_y_b := Lib.hid (show w.heap.size + 2 ≠ w4.heap.size + 1 by have := NumAt.lt Vb.out; omega)
  have N_y_c := Lib.hid (show w.heap.size + 3 ≠ w4.heap.size + 1 by have := NumAt.lt Vc.out; omega)
  have N_y_x := Lib.hid (show w4.heap.size ≠ w4.heap.size + 1 by omega)
  have G_y := Lib.hid (show w.heap.size ≤ w4.heap.size + 1 by have := (BB.out).size; omega)
  have Wy := Lib.hid (FreeN.later (FreeN.made _ _ _ 4 (w4.heap.size + 1) (by simp)) hb5 (NumAt.lt (NumAt.new _ y (w4.heap.size + 1) _ (by simp))))
  have Ua := Lib.hid (NumAt.later hb5 (((Va.out).alloc _).alloc _))
  have Ub := Lib.hid (NumAt.later hb5 (((Vb.out).alloc _).alloc _))
  have Uc := Lib.hid (NumAt.later hb5 (((Vc.out).alloc _).alloc _))
  have Ux := Lib.hid (NumAt.later hb5 ((NumAt.new _ x (w4.heap.size) _ (by simp)).alloc _))
  have Uy := Lib.hid (NumAt.later hb5 (NumAt.new _ y (w4.heap.size + 1) _ (by simp)))
  have BC := Lib.hid (below_later (below_new (below_new (BB.out) _) _) hb5)
  clear Va
  clear Vb
  clear Vc
  clear BB
  have Va := Ua
  clear Ua
  have Vb := Ub
  clear Ub
  have Vc := Uc
  clear Uc
  have Vx := Ux
  clear Ux
  have Vy := Uy
  clear Uy
  have Fy := Wy
  clear Wy
  have BB := BC
  clear BC
  clear hb5
  rw [Hev1.out]
  unfold numV words
  have s_0 := Vy.out 0 (by omega)
  have f_0 := Fy.out 0 (by omega)
  have s_1 := Vy.out 1 (by omega)
  have f_1 := Fy.out 1 (by omega)
  have s_2 := Vy.out 2 (by omega)
  have f_2 := Fy.out 2 (by omega)
  have s_3 := Vy.out 3 (by omega)
  have f_3 := Fy.out 3 (by omega)
  have l_a_0 := Va.out 0 (by omega)
  have l_a_1 := Va.out 1 (by omega)
  have l_a_2 := Va.out 2 (by omega)
  have l_a_3 := Va.out 3 (by omega)
  have t_a := Va.out.lt
  have m_y_a := N_y_a.out
  have n_y_a : w.heap.size ≠ w4.heap.size := by omega
  have l_c_0 := Vc.out 0 (by omega)
  have l_c_1 := Vc.out 1 (by omega)
  have l_c_2 := Vc.out 2 (by omega)
  have l_c_3 := Vc.out 3 (by omega)
  have t_c := Vc.out.lt
  have m_y_c := N_y_c.out
  have n_y_c : w.heap.size + 2 ≠ w4.heap.size := by omega
  go_wp2_with fail
  refine (mul_any (a := a) (b := c) Hha.out Hhc.out _).mono ?_
  rintro _ w6 ⟨rfl, hb6⟩
  clear l_a_0 l_a_1 l_a_2 l_a_3 t_a m_y_a n_y_a l_c_0 l_c_1 l_c_2 l_c_3 t_c m_y_c n_y_c
  have Wy := Lib.hid (FreeN.later (FreeN.set4 (Fy.out) _ _ _ _ _ _ _ _) hb6 (NumAt.lt (NumAt.set4 (Vy.out) v)))
  have Ua := Lib.hid (NumAt.later hb6 (NumAt.other4 (Va.out) N_y_a.out _ _ _ _))
  have Ub := Lib.hid (NumAt.later hb6 (NumAt.other4 (Vb.out) N_y_b.out _ _ _ _))
  have Uc := Lib.hid (NumAt.later hb6 (NumAt.other4 (Vc.out) N_y_c.out _ _ _ _))
  have Ux := Lib.hid (NumAt.later hb6 (NumAt.other4 (Vx.out) N_y_x.out _ _ _ _))
  have Uy := Lib.hid (NumAt.later hb6 (NumAt.set4 (Vy.out) v))
  have BC := Lib.hid (below_later (below_set4 (BB.out) G_y.out _ _ _ _) hb6)
  clear Va
  clear Vb
  clear Vc
  clear Vx
  clear Vy
  clear Fy
  clear BB
  have Va := Ua
  clear Ua
  have Vb := Ub
  clear Ub
  have Vc := Uc
  clear Uc
  have Vx := Ux
  clear Ux
  have Vy := Uy
  clear Uy
  have Fy := Wy
  clear Wy
  have BB := BC
  clear BC
  clear s_0 f_0 s_1 f_1 s_2 f_2 s_3 f_3
  clear hb6
  rw [Hep.out, Heq.out]
  unfold numV words
  have l_b_0 := Vb.out 0 (by omega)
  have l_b_1 := Vb.out 1 (by omega)
  have l_b_2 := Vb.out 2 (by omega)
  have l_b_3 := Vb.out 3 (by omega)
  have t_b := Vb.out.lt
  have u_b : w.heap.size + 1 < w6.heap.size := by omega
  have l_c_0 := Vc.out 0 (by omega)
  have l_c_1 := Vc.out 1 (by omega)
  have l_c_2 := Vc.out 2 (by omega)
  have l_c_3 := Vc.out 3 (by omega)
  have t_c := Vc.out.lt
  have u_c : w.heap.size + 2 < w6.heap.size := by omega
  go_wp2_with fail
  refine (mul_any (a := b) (b := c) Hhb.out Hhc.out _).mono ?_
  rintro _ w7 ⟨rfl, hb7⟩
  clear l_b_0 l_b_1 l_b_2 l_b_3 t_b u_b l_c_0 l_c_1 l_c_2 l_c_3 t_c u_c
  have N_y_p := Lib.hid (show w6.heap.size ≠ w4.heap.size + 1 by have := NumAt.lt Vy.out; omega)
  have N_y_q := Lib.hid (show w6.heap.size + 1 ≠ w4.heap.size + 1 by have := NumAt.lt Vy.out; omega)
  have Wy := Lib.hid (FreeN.later (FreeN.alloc (FreeN.alloc (Fy.out) (by (try simp only [World.size_alloc]); have := NumAt.lt Vy.out; omega) _) (by (try simp only [World.size_alloc]); have := NumAt.lt Vy.out; omega) _) hb7 (NumAt.lt (((Vy.out).alloc _).alloc _)))
  have Ua := Lib.hid (NumAt.later hb7 (((Va.out).alloc _).alloc _))
  have Ub := Lib.hid (NumAt.later hb7 (((Vb.out).alloc _).alloc _))
  have Uc := Lib.hid (NumAt.later hb7 (((Vc.out).alloc _).alloc _))
  have Ux := Lib.hid (NumAt.later hb7 (((Vx.out).alloc _).alloc _))
  have Uy := Lib.hid (NumAt.later hb7 (((Vy.out).alloc _).alloc _))
  have Up := Lib.hid (NumAt.later hb7 ((NumAt.new _ p (w6.heap.size) _ (by simp)).alloc _))
  have Uq := Lib.hid (NumAt.later hb7 (NumAt.new _ q (w6.heap.size + 1) _ (by simp)))
  have BC := Lib.hid (below_later (below_new (below_new (BB.out) _) _) hb7)
  clear Va
  clear Vb
  clear Vc
  clear Vx
  clear Vy
  clear Fy
  clear BB
  have Va := Ua
  clear Ua
  have Vb := Ub
  clear Ub
  have Vc := Uc
  clear Uc
  have Vx := Ux
  clear Ux
  have Vy := Uy
  clear Uy
  have Vp := Up
  clear Up
  have Vq := Uq
  clear Uq
  have Fy := Wy
  clear Wy
  have BB := BC
  clear BC
  clear hb7
  rw [Her.out, Het.out]
  unfold numV words
  have l_p_0 := Vp.out 0 (by omega)
  have l_p_1 := Vp.out 1 (by omega)
  have l_p_2 := Vp.out 2 (by omega)
  have l_p_3 := Vp.out 3 (by omega)
  have t_p := Vp.out.lt
  go_wp2_with fail
  refine (add_any (a := p) (b := r) Hhp.out Hhr.out _).mono ?_
  rintro _ w8 ⟨rfl, hb8⟩
  clear l_p_0 l_p_1 l_p_2 l_p_3 t_p
  have N_y_r := Lib.hid (show w7.heap.size ≠ w4.heap.size + 1 by have := NumAt.lt Vy.out; omega)
  have N_y_t := Lib.hid (show w7.heap.size + 1 ≠ w4.heap.size + 1 by have := NumAt.lt Vy.out; omega)
  have Wy := Lib.hid (FreeN.later (FreeN.alloc (FreeN.alloc (Fy.out) (by (try simp only [World.size_alloc]); have := NumAt.lt Vy.out; omega) _) (by (try simp only [World.size_alloc]); have := NumAt.lt Vy.out; omega) _) hb8 (NumAt.lt (((Vy.out).alloc _).alloc _)))
  have Ua := Lib.hid (NumAt.later hb8 (((Va.out).alloc _).alloc _))
  have Ub := Lib.hid (NumAt.later hb8 (((Vb.out).alloc _).alloc _))
  have Uc := Lib.hid (NumAt.later hb8 (((Vc.out).alloc _).alloc _))
  have Ux := Lib.hid (NumAt.later hb8 (((Vx.out).alloc _).alloc _))
  have Uy := Lib.hid (NumAt.later hb8 (((Vy.out).alloc _).alloc _))
  have Up := Lib.hid (NumAt.later hb8 (((Vp.out).alloc _).alloc _))
  have Uq := Lib.hid (NumAt.later hb8 (((Vq.out).alloc _).alloc _))
  have Ur := Lib.hid (NumAt.later hb8 ((NumAt.new _ r (w7.heap.size) _ (by simp)).alloc _))
  have Ut := Lib.hid (NumAt.later hb8 (NumAt.new _ t (w7.heap.size + 1) _ (by simp)))
  have BC := Lib.hid (below_later (below_new (below_new (BB.out) _) _) hb8)
  clear Va
  clear Vb
  clear Vc
  clear Vx
  clear Vy
  clear Vp
  clear Vq
  clear Fy
  clear BB
  have Va := Ua
  clear Ua
  have Vb := Ub
  clear Ub
  have Vc := Uc
  clear Uc
  have Vx := Ux
  clear Ux
  have Vy := Uy
  clear Uy
  have Vp := Up
  clear Up
  have Vq := Uq
  clear Uq
  have Vr := Ur
  clear Ur
  have Vt := Ut
  clear Ut
  have Fy := Wy
  clear Wy
  have BB := BC
  clear BC
  clear hb8
  rw [Hem.out, ← Heu.out]
  unfold numV words
  have l_q_0 := Vq.out 0 (by omega)
  have l_q_1 := Vq.out 1 (by omega)
  have l_q_2 := Vq.out 2 (by omega)
  have l_q_3 := Vq.out 3 (by omega)
  have t_q := Vq.out.lt
  have l_t_0 := Vt.out 0 (by omega)
  have l_t_1 := Vt.out 1 (by omega)
  have l_t_2 := Vt.out 2 (by omega)
  have l_t_3 := Vt.out 3 (by omega)
  have t_t := Vt.out.lt
  go_wp2_with fail
  refine (add_any (a := q) (b := t) Hhq.out Hht.out _).mono ?_
  rintro _ w9 ⟨rfl, hb9⟩
  clear l_q_0 l_q_1 l_q_2 l_q_3 t_q l_t_0 l_t_1 l_t_2 l_t_3 t_t
  have N_y_u := Lib.hid (show w8.heap.size ≠ w4.heap.size + 1 by have := NumAt.lt Vy.out; omega)
  have Wy := Lib.hid (FreeN.later (FreeN.alloc (Fy.out) (by (try simp only [World.size_alloc]); have := NumAt.lt Vy.out; omega) _) hb9 (NumAt.lt ((Vy.out).alloc _)))
  have Ua := Lib.hid (NumAt.later hb9 ((Va.out).alloc _))
  have Ub := Lib.hid (NumAt.later hb9 ((Vb.out).alloc _))
  have Uc := Lib.hid (NumAt.later hb9 ((Vc.out).alloc _))
  have Ux := Lib.hid (NumAt.later hb9 ((Vx.out).alloc _))
  have Uy := Lib.hid (NumAt.later hb9 ((Vy.out).alloc _))
  have Up := Lib.hid (NumAt.later hb9 ((Vp.out).alloc _))
  have Uq := Lib.hid (NumAt.later hb9 ((Vq.out).alloc _))
  have Ur := Lib.hid (NumAt.later hb9 ((Vr.out).alloc _))
  have Ut := Lib.hid (NumAt.later hb9 ((Vt.out).alloc _))
  have Uu := Lib.hid (NumAt.later hb9 (NumAt.new _ x (w8.heap.size) _ (by simp)))
  have BC := Lib.hid (below_later (below_new (BB.out) _) hb9)
  clear Va
  clear Vb
  clear Vc
  clear Vx
  clear Vy
  clear Vp
  clear Vq
  clear Vr
  clear Vt
  clear Fy
  clear BB
  have Va := Ua
  clear Ua
  have Vb := Ub
  clear Ub
  have Vc := Uc
  clear Uc
  have Vx := Ux
  clear Ux
  have Vy := Uy
  clear Uy
  have Vp := Up
  clear Up
  have Vq := Uq
  clear Uq
  have Vr := Ur
  clear Ur
  have Vt := Ut
  clear Ut
  have Vu := Uu
  clear Uu
  have Fy := Wy
  clear Wy
  have BB := BC
  clear BC
  clear hb9
  rw [Hev0.out]
  unfold numV words
  clear Vp
  clear N_y_p
  clear Vq
  clear N_y_q
  clear Vr
  clear N_y_r
  clear Vt
  clear N_y_t
  have C16 := Lib.hid (show ∀ w, Calls Try.prog 10 #[.agg #[.int .u64 (dgt W64 v0 0), .int .u64 (dgt W64 v0 1), .int .u64 (dgt W64 v0 2), .int .u64 (dgt W64 v0 3)], .agg #[.int .u64 (dgt W64 m 0), .int .u64 (dgt W64 m 1), .int .u64 (dgt W64 m 2), .int .u64 (dgt W64 m 3)]] w fun e w' => e = .returned (.tuple #[.agg #[.int .u64 (dgt W64 v 0), .int .u64 (dgt W64 v 1), .int .u64 (dgt W64 v 2), .int .u64 (dgt W64 v 3)], .int .u64 (addNC v0 m)]) ∧ Below w.heap.size w w' from fun w => by have h := add_any (a := v0) (b := m) Hhv0.out (lt_of_W Hhm.out) w; rw [← Hev.out] at h; unfold numV words at h; exact h)
  go_wp2_with fail
  have N_v_a := Lib.hid (show w.heap.size + 1 ≠ w9.heap.size by have := NumAt.lt Va.out; omega)
  have N_v_b := Lib.hid (show w.heap.size + 2 ≠ w9.heap.size by have := NumAt.lt Vb.out; omega)
  have N_v_c := Lib.hid (show w.heap.size + 3 ≠ w9.heap.size by have := NumAt.lt Vc.out; omega)
  have N_v_x := Lib.hid (show w4.heap.size ≠ w9.heap.size by have := NumAt.lt Vx.out; omega)
  have N_v_y := Lib.hid (show w4.heap.size + 1 ≠ w9.heap.size by have := NumAt.lt Vy.out; omega)
  have N_v_u := Lib.hid (show w8.heap.size ≠ w9.heap.size by have := NumAt.lt Vu.out; omega)
  have G_v := Lib.hid (show w.heap.size ≤ w9.heap.size by have := (BB.out).size; omega)
  have N_y_v := Lib.hid (show w9.heap.size ≠ w4.heap.size + 1 by have := NumAt.lt Vy.out; omega)
  refine region_in (fun W9 => NumAt W9 (w.heap.size + 1) a ∧ NumAt W9 (w.heap.size + 2) b ∧ NumAt W9 (w.heap.size + 3) c ∧ NumAt W9 (w4.heap.size) x ∧ NumAt W9 (w4.heap.size + 1) v ∧ NumAt W9 (w8.heap.size) x ∧ NumAt W9 (w9.heap.size) v0 ∧ FreeN W9 (w4.heap.size + 1) 4 ∧ FreeN W9 (w9.heap.size) 4 ∧ Below w.heap.size w W9) ⟨(Va.out).alloc _, (Vb.out).alloc _, (Vc.out).alloc _, (Vx.out).alloc _, (Vy.out).alloc _, (Vu.out).alloc _, NumAt.new _ v0 (w9.heap.size) _ (by simp), FreeN.alloc (Fy.out) (by (try simp only [World.size_alloc]); have := NumAt.lt Vy.out; omega) _, FreeN.made _ _ _ 4 (w9.heap.size) (by simp), below_new (BB.out) _⟩ ?_
  intro v10 hv10
  clear Va
  clear Vb
  clear Vc
  clear Vx
  clear Vy
  clear Vu
  clear Fy
  clear BB
  obtain ⟨Va, Vb, Vc, Vx, Vy, Vu, Vv, Fy, Fv, BB⟩ := hv10
  have H9 := Lib.hid Va; clear Va; have Va := H9; clear H9
  have H9 := Lib.hid Vb; clear Vb; have Vb := H9; clear H9
  have H9 := Lib.hid Vc; clear Vc; have Vc := H9; clear H9
  have H9 := Lib.hid Vx; clear Vx; have Vx := H9; clear H9
  have H9 := Lib.hid Vy; clear Vy; have Vy := H9; clear H9
  have H9 := Lib.hid Vu; clear Vu; have Vu := H9; clear H9
  have H9 := Lib.hid Vv; clear Vv; have Vv := H9; clear H9
  have H9 := Lib.hid Fy; clear Fy; have Fy := H9; clear H9
  have H9 := Lib.hid Fv; clear Fv; have Fv := H9; clear H9
  have H9 := Lib.hid BB; clear BB; have BB := H9; clear H9
  refine wp_region_fresh 7 (fun _ => none) (by kernel_rfl) (by kernel_rfl) (fun _ _ _ _ _ h => h) (fun F hn9 hcl hbl => ?_)
  have r_v_0 := fun X9 : Wd F => (NumAt.later (hbl X9.world X9.fact) Vv.out) 0 (by omega)
  have r_v_1 := fun X9 : Wd F => (NumAt.later (hbl X9.world X9.fact) Vv.out) 1 (by omega)
  have r_v_2 := fun X9 : Wd F => (NumAt.later (hbl X9.world X9.fact) Vv.out) 2 (by omega)
  have r_v_3 := fun X9 : Wd F => (NumAt.later (hbl X9.world X9.fact) Vv.out) 3 (by omega)
  have HCL := Lib.hid hcl
  clear hcl hbl
  refine wpF_seg 7 0 _ _ (fun _ _ _ => rfl) (by decide) ?_
  simp only [List.take_succ_cons, List.take_zero, List.drop_succ_cons, List.drop_zero, Nat.reduceAdd]
  repeat (go_big_quiet_step ((first
    | (go_at_call 16; exact to_class_num HCL.out (of_any m Hhm.out _))
    | (go_at_call 10; exact to_class HCL.out (C16.out _)))))
  refine wpQuiet_nil ?_
  refine wpF_nil ?_
  clear HCL hn9 r_v_0 r_v_1 r_v_2 r_v_3
  intro bs w10 hb10 hob hap
  clear hob hap
  simp only [over]
  have Ua := Lib.hid (NumAt.later hb10 Va.out)
  have Ub := Lib.hid (NumAt.later hb10 Vb.out)
  have Uc := Lib.hid (NumAt.later hb10 Vc.out)
  have Ux := Lib.hid (NumAt.later hb10 Vx.out)
  have Uy := Lib.hid (NumAt.later hb10 Vy.out)
  have Uu := Lib.hid (NumAt.later hb10 Vu.out)
  have Uv := Lib.hid (NumAt.later hb10 Vv.out)
  have Wy := Lib.hid (FreeN.later Fy.out hb10 (NumAt.lt Vy.out))
  have Wv := Lib.hid (FreeN.later Fv.out hb10 (NumAt.lt Vv.out))
  have BC := Lib.hid (below_later BB.out hb10)
  clear BB Va Vb Vc Vx Vy Vu Vv Fy Fv
  have BB := BC; clear BC
  have Va := Ua; clear Ua
  have Vb := Ub; clear Ub
  have Vc := Uc; clear Uc
  have Vx := Ux; clear Ux
  have Vy := Uy; clear Uy
  have Vu := Uu; clear Uu
  have Vv := Uv; clear Uv
  have Fy := Wy; clear Wy
  have Fv := Wv; clear Wv
  clear hb10
  have s_v_0 := Vv.out 0 (by omega); have f_v_0 := Fv.out 0 (by omega)
  have s_v_1 := Vv.out 1 (by omega); have f_v_1 := Fv.out 1 (by omega)
  have s_v_2 := Vv.out 2 (by omega); have f_v_2 := Fv.out 2 (by omega)
  have s_v_3 := Vv.out 3 (by omega); have f_v_3 := Fv.out 3 (by omega)
  have C17 := Lib.hid (show ∀ w, Calls Try.prog 12 #[.agg #[.int .u64 (dgt W64 a 0), .int .u64 (dgt W64 a 1), .int .u64 (dgt W64 a 2), .int .u64 (dgt W64 a 3)], .agg #[.int .u64 (dgt W64 k1 0), .int .u64 (dgt W64 k1 1), .int .u64 (dgt W64 k1 2), .int .u64 (dgt W64 k1 3)]] w fun e w' => e = .returned (.tuple #[.agg #[.int .u64 (dgt W64 a 0), .int .u64 (dgt W64 a 1), .int .u64 (dgt W64 a 2), .int .u64 (dgt W64 a 3)], .agg #[.int .u64 (dgt W64 0 0), .int .u64 (dgt W64 0 1), .int .u64 (dgt W64 0 2), .int .u64 (dgt W64 0 3)]]) ∧ Below w.heap.size w w' from fun w => by have h := mul_any (a := a) (b := k1) Hha.out (lt_of_W Hhk1W.out) w; rw [Hhmo.out.1] at h; rw [Hhmo.out.2] at h; unfold numV words at h; exact h)
  go_wp2_with fail
  refine region_in (fun W9 => NumAt W9 (w.heap.size + 1) a ∧ NumAt W9 (w.heap.size + 2) b ∧ NumAt W9 (w.heap.size + 3) c ∧ NumAt W9 (w4.heap.size) x ∧ NumAt W9 (w4.heap.size + 1) v ∧ NumAt W9 (w8.heap.size) x ∧ NumAt W9 (w9.heap.size) v ∧ FreeN W9 (w4.heap.size + 1) 4 ∧ FreeN W9 (w9.heap.size) 4 ∧ Below w.heap.size w W9) ⟨NumAt.other4 (Va.out) N_v_a.out _ _ _ _, NumAt.other4 (Vb.out) N_v_b.out _ _ _ _, NumAt.other4 (Vc.out) N_v_c.out _ _ _ _, NumAt.other4 (Vx.out) N_v_x.out _ _ _ _, NumAt.other4 (Vy.out) N_v_y.out _ _ _ _, NumAt.other4 (Vu.out) N_v_u.out _ _ _ _, NumAt.set4 (Vv.out) v, FreeN.set4 (Fy.out) _ _ _ _ _ _ _ _, FreeN.set4 (Fv.out) _ _ _ _ _ _ _ _, below_set4 (BB.out) G_v.out _ _ _ _⟩ ?_
  intro v11 hv11
  clear Va
  clear Vb
  clear Vc
  clear Vx
  clear Vy
  clear Vu
  clear Vv
  clear Fy
  clear Fv
  clear BB
  clear s_v_0 f_v_0 s_v_1 f_v_1 s_v_2 f_v_2 s_v_3 f_v_3
  obtain ⟨Va, Vb, Vc, Vx, Vy, Vu, Vv, Fy, Fv, BB⟩ := hv11
  have H9 := Lib.hid Va; clear Va; have Va := H9; clear H9
  have H9 := Lib.hid Vb; clear Vb; have Vb := H9; clear H9
  have H9 := Lib.hid Vc; clear Vc; have Vc := H9; clear H9
  have H9 := Lib.hid Vx; clear Vx; have Vx := H9; clear H9
  have H9 := Lib.hid Vy; clear Vy; have Vy := H9; clear H9
  have H9 := Lib.hid Vu; clear Vu; have Vu := H9; clear H9
  have H9 := Lib.hid Vv; clear Vv; have Vv := H9; clear H9
  have H9 := Lib.hid Fy; clear Fy; have Fy := H9; clear H9
  have H9 := Lib.hid Fv; clear Fv; have Fv := H9; clear H9
  have H9 := Lib.hid BB; clear BB; have BB := H9; clear H9
  refine wp_region_fresh 8 (fun j => if j = 6 then some (.cells #[.int .u64 0, .int .u64 0, .int .u64 0, .int .u64 0] 24) else if j = 7 then some (.cells #[.int .u64 0, .int .u64 0, .int .u64 0, .int .u64 0] 24) else none) (by kernel_rfl) (by kernel_rfl) (fun _ _ _ _ _ h => h) (fun F hn9 hcl hbl => ?_)
  have r_a_0 := fun X9 : Wd F => (NumAt.later (hbl X9.world X9.fact) Va.out) 0 (by omega)
  have r_a_1 := fun X9 : Wd F => (NumAt.later (hbl X9.world X9.fact) Va.out) 1 (by omega)
  have r_a_2 := fun X9 : Wd F => (NumAt.later (hbl X9.world X9.fact) Va.out) 2 (by omega)
  have r_a_3 := fun X9 : Wd F => (NumAt.later (hbl X9.world X9.fact) Va.out) 3 (by omega)
  have HCL := Lib.hid hcl
  clear hcl hbl
  refine wpF_seg 6 0 _ _ (fun j h1 h2 => by have h6 : j ≠ 6 ∧ j ≠ 7 := (by omega); simp [h6]) (by decide) ?_
  simp only [List.take_succ_cons, List.take_zero, List.drop_succ_cons, List.drop_zero, Nat.reduceAdd]
  repeat (go_big_quiet_step ((first
    | (go_at_call 16; exact to_class_num HCL.out (of_lit k1 1 Hhk1.out Hhk1W.out _))
    | (go_at_call 12; exact to_class HCL.out (C17.out _)))))
  refine wpQuiet_nil ?_
  refine wpF_alloc rfl (fun _ => by go_simp) ?_
  refine wpF_alloc rfl (fun _ => by go_simp) ?_
  refine wpF_nil ?_
  clear HCL hn9 r_a_0 r_a_1 r_a_2 r_a_3
  intro bs w11 hb11 hob hap
  have ho_one := hob 6 _ (by omega) rfl
  have ho_none := hob 7 _ (by omega) rfl
  have hp_one_none := hap 6 7 (by omega) (by omega) (by simp) (by simp) (by omega)
  clear hob hap
  simp [over, dstOf, Act.put]
  generalize bs 6 = b_one at ho_one hp_one_none ⊢
  generalize bs 7 = b_none at ho_none hp_one_none ⊢
  clear bs
  have N_one_a := Lib.hid (show w.heap.size + 1 ≠ b_one by have := NumAt.lt Va.out; have := ho_one.1; omega)
  have N_none_a := Lib.hid (show w.heap.size + 1 ≠ b_none by have := NumAt.lt Va.out; have := ho_none.1; omega)
  have N_one_b := Lib.hid (show w.heap.size + 2 ≠ b_one by have := NumAt.lt Vb.out; have := ho_one.1; omega)
  have N_none_b := Lib.hid (show w.heap.size + 2 ≠ b_none by have := NumAt.lt Vb.out; have := ho_none.1; omega)
  have N_one_c := Lib.hid (show w.heap.size + 3 ≠ b_one by have := NumAt.lt Vc.out; have := ho_one.1; omega)
  have N_none_c := Lib.hid (show w.heap.size + 3 ≠ b_none by have := NumAt.lt Vc.out; have := ho_none.1; omega)
  have N_one_x := Lib.hid (show w4.heap.size ≠ b_one by have := NumAt.lt Vx.out; have := ho_one.1; omega)
  have N_none_x := Lib.hid (show w4.heap.size ≠ b_none by have := NumAt.lt Vx.out; have := ho_none.1; omega)
  have N_one_y := Lib.hid (show w4.heap.size + 1 ≠ b_one by have := NumAt.lt Vy.out; have := ho_one.1; omega)
  have N_none_y := Lib.hid (show w4.heap.size + 1 ≠ b_none by have := NumAt.lt Vy.out; have := ho_none.1; omega)
  have N_one_u := Lib.hid (show w8.heap.size ≠ b_one by have := NumAt.lt Vu.out; have := ho_one.1; omega)
  have N_none_u := Lib.hid (show w8.heap.size ≠ b_none by have := NumAt.lt Vu.out; have := ho_none.1; omega)
  have N_one_v := Lib.hid (show w9.heap.size ≠ b_one by have := NumAt.lt Vv.out; have := ho_one.1; omega)
  have N_none_v := Lib.hid (show w9.heap.size ≠ b_none by have := NumAt.lt Vv.out; have := ho_none.1; omega)
  have N_y_one := Lib.hid (show b_one ≠ w4.heap.size + 1 by have := NumAt.lt Vy.out; have := ho_one.1; omega)
  have N_v_one := Lib.hid (show b_one ≠ w9.heap.size by have := NumAt.lt Vv.out; have := ho_one.1; omega)
  have N_y_none := Lib.hid (show b_none ≠ w4.heap.size + 1 by have := NumAt.lt Vy.out; have := ho_none.1; omega)
  have N_v_none := Lib.hid (show b_none ≠ w9.heap.size by have := NumAt.lt Vv.out; have := ho_none.1; omega)
  have N_one_none := Lib.hid (show b_none ≠ b_one from fun h => hp_one_none h.symm)
  have N_none_one := Lib.hid (show b_one ≠ b_none from hp_one_none)
  have Ua := Lib.hid (NumAt.later hb11 Va.out)
  have Ub := Lib.hid (NumAt.later hb11 Vb.out)
  have Uc := Lib.hid (NumAt.later hb11 Vc.out)
  have Ux := Lib.hid (NumAt.later hb11 Vx.out)
  have Uy := Lib.hid (NumAt.later hb11 Vy.out)
  have Uu := Lib.hid (NumAt.later hb11 Vu.out)
  have Uv := Lib.hid (NumAt.later hb11 Vv.out)
  have Wy := Lib.hid (FreeN.later Fy.out hb11 (NumAt.lt Vy.out))
  have Wv := Lib.hid (FreeN.later Fv.out hb11 (NumAt.lt Vv.out))
  have BC := Lib.hid (below_later BB.out hb11)
  have G_one := Lib.hid (show w.heap.size ≤ b_one by have := BB.out.size; have := ho_one.1; omega)
  have Vone := Lib.hid (NumAt.born ho_one.2); have Fone := Lib.hid (FreeN.born (n := 4) ho_one.2)
  have G_none := Lib.hid (show w.heap.size ≤ b_none by have := BB.out.size; have := ho_none.1; omega)
  have Vnone := Lib.hid (NumAt.born ho_none.2); have Fnone := Lib.hid (FreeN.born (n := 4) ho_none.2)
  clear BB Va Vb Vc Vx Vy Vu Vv Fy Fv
  have BB := BC; clear BC
  have Va := Ua; clear Ua
  have Vb := Ub; clear Ub
  have Vc := Uc; clear Uc
  have Vx := Ux; clear Ux
  have Vy := Uy; clear Uy
  have Vu := Uu; clear Uu
  have Vv := Uv; clear Uv
  have Fy := Wy; clear Wy
  have Fv := Wv; clear Wv
  clear ho_one
  clear hp_one_none
  clear ho_none
  clear hb11
  have s_one_0 := Vone.out 0 (by omega); have f_one_0 := Fone.out 0 (by omega)
  have s_one_1 := Vone.out 1 (by omega); have f_one_1 := Fone.out 1 (by omega)
  have s_one_2 := Vone.out 2 (by omega); have f_one_2 := Fone.out 2 (by omega)
  have s_one_3 := Vone.out 3 (by omega); have f_one_3 := Fone.out 3 (by omega)
  have ne_one_none := N_one_none.out
  have s_none_0 := Vnone.out 0 (by omega); have f_none_0 := Fnone.out 0 (by omega)
  have s_none_1 := Vnone.out 1 (by omega); have f_none_1 := Fnone.out 1 (by omega)
  have s_none_2 := Vnone.out 2 (by omega); have f_none_2 := Fnone.out 2 (by omega)
  have s_none_3 := Vnone.out 3 (by omega); have f_none_3 := Fnone.out 3 (by omega)
  have ne_none_one := N_none_one.out
  have C18 := Lib.hid (show ∀ w, Calls Try.prog 12 #[.agg #[.int .u64 (dgt W64 k0 0), .int .u64 (dgt W64 k0 1), .int .u64 (dgt W64 k0 2), .int .u64 (dgt W64 k0 3)], .agg #[.int .u64 (dgt W64 b 0), .int .u64 (dgt W64 b 1), .int .u64 (dgt W64 b 2), .int .u64 (dgt W64 b 3)]] w fun e w' => e = .returned (.tuple #[.agg #[.int .u64 (dgt W64 0 0), .int .u64 (dgt W64 0 1), .int .u64 (dgt W64 0 2), .int .u64 (dgt W64 0 3)], .agg #[.int .u64 (dgt W64 0 0), .int .u64 (dgt W64 0 1), .int .u64 (dgt W64 0 2), .int .u64 (dgt W64 0 3)]]) ∧ Below w.heap.size w w' from fun w => by have h := mul_any (a := k0) (b := b) (lt_of_W Hhk0W.out) Hhb.out w; rw [Hhmn.out.1] at h; rw [Hhmn.out.2] at h; unfold numV words at h; exact h)
  go_wp2_with fail
  refine region_in (fun W9 => NumAt W9 (w.heap.size + 1) a ∧ NumAt W9 (w.heap.size + 2) b ∧ NumAt W9 (w.heap.size + 3) c ∧ NumAt W9 (w4.heap.size) x ∧ NumAt W9 (w4.heap.size + 1) v ∧ NumAt W9 (w8.heap.size) x ∧ NumAt W9 (w9.heap.size) v ∧ NumAt W9 (b_one) a ∧ NumAt W9 (b_none) 0 ∧ FreeN W9 (w4.heap.size + 1) 4 ∧ FreeN W9 (w9.heap.size) 4 ∧ FreeN W9 (b_one) 4 ∧ FreeN W9 (b_none) 4 ∧ Below w.heap.size w W9) ⟨NumAt.other4 (NumAt.other4 (Va.out) N_one_a.out _ _ _ _) N_none_a.out _ _ _ _, NumAt.other4 (NumAt.other4 (Vb.out) N_one_b.out _ _ _ _) N_none_b.out _ _ _ _, NumAt.other4 (NumAt.other4 (Vc.out) N_one_c.out _ _ _ _) N_none_c.out _ _ _ _, NumAt.other4 (NumAt.other4 (Vx.out) N_one_x.out _ _ _ _) N_none_x.out _ _ _ _, NumAt.other4 (NumAt.other4 (Vy.out) N_one_y.out _ _ _ _) N_none_y.out _ _ _ _, NumAt.other4 (NumAt.other4 (Vu.out) N_one_u.out _ _ _ _) N_none_u.out _ _ _ _, NumAt.other4 (NumAt.other4 (Vv.out) N_one_v.out _ _ _ _) N_none_v.out _ _ _ _, NumAt.other4 (NumAt.set4 (Vone.out) a) N_none_one.out _ _ _ _, NumAt.set4 (NumAt.other4 (Vnone.out) N_one_none.out _ _ _ _) 0, FreeN.set4 (FreeN.set4 (Fy.out) _ _ _ _ _ _ _ _) _ _ _ _ _ _ _ _, FreeN.set4 (FreeN.set4 (Fv.out) _ _ _ _ _ _ _ _) _ _ _ _ _ _ _ _, FreeN.set4 (FreeN.set4 (Fone.out) _ _ _ _ _ _ _ _) _ _ _ _ _ _ _ _, FreeN.set4 (FreeN.set4 (Fnone.out) _ _ _ _ _ _ _ _) _ _ _ _ _ _ _ _, below_set4 (below_set4 (BB.out) G_one.out _ _ _ _) G_none.out _ _ _ _⟩ ?_
  intro v12 hv12
  clear Va
  clear Vb
  clear Vc
  clear Vx
  clear Vy
  clear Vu
  clear Vv
  clear Vone
  clear Vnone
  clear Fy
  clear Fv
  clear Fone
  clear Fnone
  clear BB
  clear s_one_0 f_one_0 s_one_1 f_one_1 s_one_2 f_one_2 s_one_3 f_one_3 ne_one_none s_none_0 f_none_0 s_none_1 f_none_1 s_none_2 f_none_2 s_none_3 f_none_3 ne_none_one
  obtain ⟨Va, Vb, Vc, Vx, Vy, Vu, Vv, Vone, Vnone, Fy, Fv, Fone, Fnone, BB⟩ := hv12
  have H9 := Lib.hid Va; clear Va; have Va := H9; clear H9
  have H9 := Lib.hid Vb; clear Vb; have Vb := H9; clear H9
  have H9 := Lib.hid Vc; clear Vc; have Vc := H9; clear H9
  have H9 := Lib.hid Vx; clear Vx; have Vx := H9; clear H9
  have H9 := Lib.hid Vy; clear Vy; have Vy := H9; clear H9
  have H9 := Lib.hid Vu; clear Vu; have Vu := H9; clear H9
  have H9 := Lib.hid Vv; clear Vv; have Vv := H9; clear H9
  have H9 := Lib.hid Vone; clear Vone; have Vone := H9; clear H9
  have H9 := Lib.hid Vnone; clear Vnone; have Vnone := H9; clear H9
  have H9 := Lib.hid Fy; clear Fy; have Fy := H9; clear H9
  have H9 := Lib.hid Fv; clear Fv; have Fv := H9; clear H9
  have H9 := Lib.hid Fone; clear Fone; have Fone := H9; clear H9
  have H9 := Lib.hid Fnone; clear Fnone; have Fnone := H9; clear H9
  have H9 := Lib.hid BB; clear BB; have BB := H9; clear H9
  refine wp_region_fresh 8 (fun j => if j = 6 then some (.cells #[.int .u64 0, .int .u64 0, .int .u64 0, .int .u64 0] 24) else if j = 7 then some (.cells #[.int .u64 0, .int .u64 0, .int .u64 0, .int .u64 0] 24) else none) (by kernel_rfl) (by kernel_rfl) (fun _ _ _ _ _ h => h) (fun F hn9 hcl hbl => ?_)
  have r_b_0 := fun X9 : Wd F => (NumAt.later (hbl X9.world X9.fact) Vb.out) 0 (by omega)
  have r_b_1 := fun X9 : Wd F => (NumAt.later (hbl X9.world X9.fact) Vb.out) 1 (by omega)
  have r_b_2 := fun X9 : Wd F => (NumAt.later (hbl X9.world X9.fact) Vb.out) 2 (by omega)
  have r_b_3 := fun X9 : Wd F => (NumAt.later (hbl X9.world X9.fact) Vb.out) 3 (by omega)
  have HCL := Lib.hid hcl
  clear hcl hbl
  refine wpF_seg 6 0 _ _ (fun j h1 h2 => by have h6 : j ≠ 6 ∧ j ≠ 7 := (by omega); simp [h6]) (by decide) ?_
  simp only [List.take_succ_cons, List.take_zero, List.drop_succ_cons, List.drop_zero, Nat.reduceAdd]
  repeat (go_big_quiet_step ((first
    | (go_at_call 16; exact to_class_num HCL.out (of_lit k0 0 Hhk0.out Hhk0W.out _))
    | (go_at_call 12; exact to_class HCL.out (C18.out _)))))
  refine wpQuiet_nil ?_
  refine wpF_alloc rfl (fun _ => by go_simp) ?_
  refine wpF_alloc rfl (fun _ => by go_simp) ?_
  refine wpF_nil ?_
  clear HCL hn9 r_b_0 r_b_1 r_b_2 r_b_3
  intro bs w12 hb12 hob hap
  have ho_nought := hob 6 _ (by omega) rfl
  have ho_too := hob 7 _ (by omega) rfl
  have hp_nought_too := hap 6 7 (by omega) (by omega) (by simp) (by simp) (by omega)
  clear hob hap
  simp [over, dstOf, Act.put]
  generalize bs 6 = b_nought at ho_nought hp_nought_too ⊢
  generalize bs 7 = b_too at ho_too hp_nought_too ⊢
  clear bs
  have N_nought_a := Lib.hid (show w.heap.size + 1 ≠ b_nought by have := NumAt.lt Va.out; have := ho_nought.1; omega)
  have N_too_a := Lib.hid (show w.heap.size + 1 ≠ b_too by have := NumAt.lt Va.out; have := ho_too.1; omega)
  have N_nought_b := Lib.hid (show w.heap.size + 2 ≠ b_nought by have := NumAt.lt Vb.out; have := ho_nought.1; omega)
  have N_too_b := Lib.hid (show w.heap.size + 2 ≠ b_too by have := NumAt.lt Vb.out; have := ho_too.1; omega)
  have N_nought_c := Lib.hid (show w.heap.size + 3 ≠ b_nought by have := NumAt.lt Vc.out; have := ho_nought.1; omega)
  have N_too_c := Lib.hid (show w.heap.size + 3 ≠ b_too by have := NumAt.lt Vc.out; have := ho_too.1; omega)
  have N_nought_x := Lib.hid (show w4.heap.size ≠ b_nought by have := NumAt.lt Vx.out; have := ho_nought.1; omega)
  have N_too_x := Lib.hid (show w4.heap.size ≠ b_too by have := NumAt.lt Vx.out; have := ho_too.1; omega)
  have N_nought_y := Lib.hid (show w4.heap.size + 1 ≠ b_nought by have := NumAt.lt Vy.out; have := ho_nought.1; omega)
  have N_too_y := Lib.hid (show w4.heap.size + 1 ≠ b_too by have := NumAt.lt Vy.out; have := ho_too.1; omega)
  have N_nought_u := Lib.hid (show w8.heap.size ≠ b_nought by have := NumAt.lt Vu.out; have := ho_nought.1; omega)
  have N_too_u := Lib.hid (show w8.heap.size ≠ b_too by have := NumAt.lt Vu.out; have := ho_too.1; omega)
  have N_nought_v := Lib.hid (show w9.heap.size ≠ b_nought by have := NumAt.lt Vv.out; have := ho_nought.1; omega)
  have N_too_v := Lib.hid (show w9.heap.size ≠ b_too by have := NumAt.lt Vv.out; have := ho_too.1; omega)
  have N_nought_one := Lib.hid (show b_one ≠ b_nought by have := NumAt.lt Vone.out; have := ho_nought.1; omega)
  have N_too_one := Lib.hid (show b_one ≠ b_too by have := NumAt.lt Vone.out; have := ho_too.1; omega)
  have N_nought_none := Lib.hid (show b_none ≠ b_nought by have := NumAt.lt Vnone.out; have := ho_nought.1; omega)
  have N_too_none := Lib.hid (show b_none ≠ b_too by have := NumAt.lt Vnone.out; have := ho_too.1; omega)
  have N_y_nought := Lib.hid (show b_nought ≠ w4.heap.size + 1 by have := NumAt.lt Vy.out; have := ho_nought.1; omega)
  have N_v_nought := Lib.hid (show b_nought ≠ w9.heap.size by have := NumAt.lt Vv.out; have := ho_nought.1; omega)
  have N_one_nought := Lib.hid (show b_nought ≠ b_one by have := NumAt.lt Vone.out; have := ho_nought.1; omega)
  have N_none_nought := Lib.hid (show b_nought ≠ b_none by have := NumAt.lt Vnone.out; have := ho_nought.1; omega)
  have N_y_too := Lib.hid (show b_too ≠ w4.heap.size + 1 by have := NumAt.lt Vy.out; have := ho_too.1; omega)
  have N_v_too := Lib.hid (show b_too ≠ w9.heap.size by have := NumAt.lt Vv.out; have := ho_too.1; omega)
  have N_one_too := Lib.hid (show b_too ≠ b_one by have := NumAt.lt Vone.out; have := ho_too.1; omega)
  have N_none_too := Lib.hid (show b_too ≠ b_none by have := NumAt.lt Vnone.out; have := ho_too.1; omega)
  have N_nought_too := Lib.hid (show b_too ≠ b_nought from fun h => hp_nought_too h.symm)
  have N_too_nought := Lib.hid (show b_nought ≠ b_too from hp_nought_too)
  have Ua := Lib.hid (NumAt.later hb12 Va.out)
  have Ub := Lib.hid (NumAt.later hb12 Vb.out)
  have Uc := Lib.hid (NumAt.later hb12 Vc.out)
  have Ux := Lib.hid (NumAt.later hb12 Vx.out)
  have Uy := Lib.hid (NumAt.later hb12 Vy.out)
  have Uu := Lib.hid (NumAt.later hb12 Vu.out)
  have Uv := Lib.hid (NumAt.later hb12 Vv.out)
  have Uone := Lib.hid (NumAt.later hb12 Vone.out)
  have Unone := Lib.hid (NumAt.later hb12 Vnone.out)
  have Wy := Lib.hid (FreeN.later Fy.out hb12 (NumAt.lt Vy.out))
  have Wv := Lib.hid (FreeN.later Fv.out hb12 (NumAt.lt Vv.out))
  have Wone := Lib.hid (FreeN.later Fone.out hb12 (NumAt.lt Vone.out))
  have Wnone := Lib.hid (FreeN.later Fnone.out hb12 (NumAt.lt Vnone.out))
  have BC := Lib.hid (below_later BB.out hb12)
  have G_nought := Lib.hid (show w.heap.size ≤ b_nought by have := BB.out.size; have := ho_nought.1; omega)
  have Vnought := Lib.hid (NumAt.born ho_nought.2); have Fnought := Lib.hid (FreeN.born (n := 4) ho_nought.2)
  have G_too := Lib.hid (show w.heap.size ≤ b_too by have := BB.out.size; have := ho_too.1; omega)
  have Vtoo := Lib.hid (NumAt.born ho_too.2); have Ftoo := Lib.hid (FreeN.born (n := 4) ho_too.2)
  clear BB Va Vb Vc Vx Vy Vu Vv Vone Vnone Fy Fv Fone Fnone
  have BB := BC; clear BC
  have Va := Ua; clear Ua
  have Vb := Ub; clear Ub
  have Vc := Uc; clear Uc
  have Vx := Ux; clear Ux
  have Vy := Uy; clear Uy
  have Vu := Uu; clear Uu
  have Vv := Uv; clear Uv
  have Vone := Uone; clear Uone
  have Vnone := Unone; clear Unone
  have Fy := Wy; clear Wy
  have Fv := Wv; clear Wv
  have Fone := Wone; clear Wone
  have Fnone := Wnone; clear Wnone
  clear ho_nought
  clear hp_nought_too
  clear ho_too
  clear hb12
  have s_nought_0 := Vnought.out 0 (by omega); have f_nought_0 := Fnought.out 0 (by omega)
  have s_nought_1 := Vnought.out 1 (by omega); have f_nought_1 := Fnought.out 1 (by omega)
  have s_nought_2 := Vnought.out 2 (by omega); have f_nought_2 := Fnought.out 2 (by omega)
  have s_nought_3 := Vnought.out 3 (by omega); have f_nought_3 := Fnought.out 3 (by omega)
  have ne_nought_too := N_nought_too.out
  have s_too_0 := Vtoo.out 0 (by omega); have f_too_0 := Ftoo.out 0 (by omega)
  have s_too_1 := Vtoo.out 1 (by omega); have f_too_1 := Ftoo.out 1 (by omega)
  have s_too_2 := Vtoo.out 2 (by omega); have f_too_2 := Ftoo.out 2 (by omega)
  have s_too_3 := Vtoo.out 3 (by omega); have f_too_3 := Ftoo.out 3 (by omega)
  have ne_too_nought := N_too_nought.out
  go_wp2_with fail
  refine wp_region_num w [(w.heap.size + 1, a), (w4.heap.size, x), (w8.heap.size, x), (w4.heap.size + 1, v), (w9.heap.size, v), (b_one, a), (b_none, 0), (b_nought, 0), (b_too, 0)] (by kernel_rfl) (by kernel_rfl) ?_ ?_ (fun F hne hcl hfa => ?_)
  · simp only [List.mem_cons, List.not_mem_nil, or_false, forall_eq_or_imp, forall_eq]
    exact ⟨NumAt.other4 (NumAt.other4 (Va.out) N_nought_a.out _ _ _ _) N_too_a.out _ _ _ _, NumAt.other4 (NumAt.other4 (Vx.out) N_nought_x.out _ _ _ _) N_too_x.out _ _ _ _, NumAt.other4 (NumAt.other4 (Vu.out) N_nought_u.out _ _ _ _) N_too_u.out _ _ _ _, NumAt.other4 (NumAt.other4 (Vy.out) N_nought_y.out _ _ _ _) N_too_y.out _ _ _ _, NumAt.other4 (NumAt.other4 (Vv.out) N_nought_v.out _ _ _ _) N_too_v.out _ _ _ _, NumAt.other4 (NumAt.other4 (Vone.out) N_nought_one.out _ _ _ _) N_too_one.out _ _ _ _, NumAt.other4 (NumAt.other4 (Vnone.out) N_nought_none.out _ _ _ _) N_too_none.out _ _ _ _, NumAt.other4 (NumAt.set4 (Vnought.out) 0) N_too_nought.out _ _ _ _, NumAt.set4 (NumAt.other4 (Vtoo.out) N_nought_too.out _ _ _ _) 0⟩
  · exact below_set4 (below_set4 (BB.out) G_nought.out _ _ _ _) G_too.out _ _ _ _
  have r_a_0 := fun X9 : Wd F => (hfa X9.world X9.fact).1 (w.heap.size + 1, a) (by simp) 0 (by omega)
  have r_a_1 := fun X9 : Wd F => (hfa X9.world X9.fact).1 (w.heap.size + 1, a) (by simp) 1 (by omega)
  have r_a_2 := fun X9 : Wd F => (hfa X9.world X9.fact).1 (w.heap.size + 1, a) (by simp) 2 (by omega)
  have r_a_3 := fun X9 : Wd F => (hfa X9.world X9.fact).1 (w.heap.size + 1, a) (by simp) 3 (by omega)
  have r_x_0 := fun X9 : Wd F => (hfa X9.world X9.fact).1 (w4.heap.size, x) (by simp) 0 (by omega)
  have r_x_1 := fun X9 : Wd F => (hfa X9.world X9.fact).1 (w4.heap.size, x) (by simp) 1 (by omega)
  have r_x_2 := fun X9 : Wd F => (hfa X9.world X9.fact).1 (w4.heap.size, x) (by simp) 2 (by omega)
  have r_x_3 := fun X9 : Wd F => (hfa X9.world X9.fact).1 (w4.heap.size, x) (by simp) 3 (by omega)
  have r_u_0 := fun X9 : Wd F => (hfa X9.world X9.fact).1 (w8.heap.size, x) (by simp) 0 (by omega)
  have r_u_1 := fun X9 : Wd F => (hfa X9.world X9.fact).1 (w8.heap.size, x) (by simp) 1 (by omega)
  have r_u_2 := fun X9 : Wd F => (hfa X9.world X9.fact).1 (w8.heap.size, x) (by simp) 2 (by omega)
  have r_u_3 := fun X9 : Wd F => (hfa X9.world X9.fact).1 (w8.heap.size, x) (by simp) 3 (by omega)
  have r_y_0 := fun X9 : Wd F => (hfa X9.world X9.fact).1 (w4.heap.size + 1, v) (by simp) 0 (by omega)
  have r_y_1 := fun X9 : Wd F => (hfa X9.world X9.fact).1 (w4.heap.size + 1, v) (by simp) 1 (by omega)
  have r_y_2 := fun X9 : Wd F => (hfa X9.world X9.fact).1 (w4.heap.size + 1, v) (by simp) 2 (by omega)
  have r_y_3 := fun X9 : Wd F => (hfa X9.world X9.fact).1 (w4.heap.size + 1, v) (by simp) 3 (by omega)
  have r_v_0 := fun X9 : Wd F => (hfa X9.world X9.fact).1 (w9.heap.size, v) (by simp) 0 (by omega)
  have r_v_1 := fun X9 : Wd F => (hfa X9.world X9.fact).1 (w9.heap.size, v) (by simp) 1 (by omega)
  have r_v_2 := fun X9 : Wd F => (hfa X9.world X9.fact).1 (w9.heap.size, v) (by simp) 2 (by omega)
  have r_v_3 := fun X9 : Wd F => (hfa X9.world X9.fact).1 (w9.heap.size, v) (by simp) 3 (by omega)
  have r_one_0 := fun X9 : Wd F => (hfa X9.world X9.fact).1 (b_one, a) (by simp) 0 (by omega)
  have r_one_1 := fun X9 : Wd F => (hfa X9.world X9.fact).1 (b_one, a) (by simp) 1 (by omega)
  have r_one_2 := fun X9 : Wd F => (hfa X9.world X9.fact).1 (b_one, a) (by simp) 2 (by omega)
  have r_one_3 := fun X9 : Wd F => (hfa X9.world X9.fact).1 (b_one, a) (by simp) 3 (by omega)
  have r_none_0 := fun X9 : Wd F => (hfa X9.world X9.fact).1 (b_none, 0) (by simp) 0 (by omega)
  have r_none_1 := fun X9 : Wd F => (hfa X9.world X9.fact).1 (b_none, 0) (by simp) 1 (by omega)
  have r_none_2 := fun X9 : Wd F => (hfa X9.world X9.fact).1 (b_none, 0) (by simp) 2 (by omega)
  have r_none_3 := fun X9 : Wd F => (hfa X9.world X9.fact).1 (b_none, 0) (by simp) 3 (by omega)
  have r_nought_0 := fun X9 : Wd F => (hfa X9.world X9.fact).1 (b_nought, 0) (by simp) 0 (by omega)
  have r_nought_1 := fun X9 : Wd F => (hfa X9.world X9.fact).1 (b_nought, 0) (by simp) 1 (by omega)
  have r_nought_2 := fun X9 : Wd F => (hfa X9.world X9.fact).1 (b_nought, 0) (by simp) 2 (by omega)
  have r_nought_3 := fun X9 : Wd F => (hfa X9.world X9.fact).1 (b_nought, 0) (by simp) 3 (by omega)
  have r_too_0 := fun X9 : Wd F => (hfa X9.world X9.fact).1 (b_too, 0) (by simp) 0 (by omega)
  have r_too_1 := fun X9 : Wd F => (hfa X9.world X9.fact).1 (b_too, 0) (by simp) 1 (by omega)
  have r_too_2 := fun X9 : Wd F => (hfa X9.world X9.fact).1 (b_too, 0) (by simp) 2 (by omega)
  have r_too_3 := fun X9 : Wd F => (hfa X9.world X9.fact).1 (b_too, 0) (by simp) 3 (by omega)
  have HFB := Lib.hid (fun x : Wd F => (hfa x.world x.fact).2)
  have HCL := Lib.hid hcl
  have hfa9 := fun x : Wd F => hfa x.world x.fact
  have HFA := Lib.hid hfa9
  clear hfa9
  clear hcl hfa
  try simp only [List.append_eq, List.cons_append, List.nil_append]
  repeat (go_big_quiet_step ((first
    | (go_at_call 16; exact to_class HCL.out (of_int _ (by omega) (by omega) _))
    | (go_at_call 26; exact to_class HCL.out (alive_any _)))))
  refine wpQuiet_nil ?_
  intro w9 hw9
  obtain ⟨x9, hw9⟩ := hw9
  have B9 := Lib.hid (HFB.out x9)
  have hfa9 := HFA.out
  rw [← hw9] at B9
  clear hw9 hfa9
  go_wp2
  go_ret
  exact ⟨rfl, B9.out⟩

theorem limbsProducts_walk {a b c : Nat} (ha : a < M256) (hb : b < M256) (hc : c < M256) (w : World) :
    Calls Try.prog 5 #[.agg #[.int .u64 (dgt W64 a 0), .int .u64 (dgt W64 a 1), .int .u64 (dgt W64 a 2), .int .u64 (dgt W64 a 3), .int .u64 (dgt W64 b 0), .int .u64 (dgt W64 b 1), .int .u64 (dgt W64 b 2), .int .u64 (dgt W64 b 3), .int .u64 (dgt W64 c 0), .int .u64 (dgt W64 c 1), .int .u64 (dgt W64 c 2), .int .u64 (dgt W64 c 3)]] w fun e w' => e = .returned (.bool true) ∧ Below w.heap.size w w' := by
  have h := addNC_le ha hb
  by_cases h0 : addNC a b = 0
  · exact limbsProducts_0 ha hb hc h0 w
  · exact limbsProducts_1 ha hb hc (by omega) w
end Go.Proofs.Ytdhkkigijcggmaa
