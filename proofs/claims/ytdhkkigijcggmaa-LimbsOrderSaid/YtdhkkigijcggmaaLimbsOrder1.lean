/- Layer 2 (limbs): the walk of LimbsOrder: it returns true. -/
import Derived.Test.YtdhkkigijcggmaaLimbsSums
namespace Go.Proofs.Ytdhkkigijcggmaa
open Go.ChangeShapes Go.WideShapes Go.ChangeAt Go.RowKit

theorem cmpN_lt {a b : Nat} (h : a < b) : cmpN a b = -1 := by unfold cmpN; rw [if_pos h]
theorem cmpN_gt {a b : Nat} (h : b < a) : cmpN a b = 1 := by unfold cmpN; rw [if_neg (by omega), if_neg (by omega)]
theorem cmpN_eq (a : Nat) : cmpN a a = 0 := by unfold cmpN; rw [if_neg (by omega), if_pos rfl]
theorem subNB_lt {a b : Nat} (h : a < b) : ((subNB a b : Nat) : Int) = 1 := by unfold subNB; rw [if_pos h]; rfl
theorem subNB_ge {a b : Nat} (h : b ≤ a) : ((subNB a b : Nat) : Int) = 0 := by unfold subNB; rw [if_neg (by omega)]; rfl
theorem subN_ne {a b : Nat} (ha : a < M256) (hb : b < M256) (h : a ≠ b) : decide (subN a b = 0) = false := by
  rw [decide_eq_false_iff_not]
  unfold subN
  unfold M256 at *
  omega
theorem no_carry {a b c : Nat} (hp : ((addNC a c : Nat) : Int) = 0) (hq : ((addNC b c : Nat) : Int) = 0) : cmpN (addN a c) (addN b c) = cmpN a b := by
  have e1 : addN a c = a + c := by unfold addNC at hp; unfold addN; unfold M256 at *; omega
  have e2 : addN b c = b + c := by unfold addNC at hq; unfold addN; unfold M256 at *; omega
  rw [e1, e2]
  unfold cmpN
  by_cases h : a < b
  · rw [if_pos h, if_pos (by omega)]
  · rw [if_neg h, if_neg (by omega)]
    by_cases h' : a = b
    · rw [if_pos h', if_pos (by omega)]
    · rw [if_neg h', if_neg (by omega)]
theorem zero_lt_M : 0 < M256 := M256_pos
set_option maxHeartbeats 8000000 in
theorem limbsOrder_lt1_no {a b c : Nat} (ha : a < M256) (hb : b < M256) (hc : c < M256) (hab : a < b) (hbc : b < c) (hp : ((addNC a c : Nat) : Int) = 0) (hq : ((addNC b c : Nat) : Int) = 0) (w : World) :
    Calls Try.prog 8 #[.agg #[.int .u64 (dgt W64 a 0), .int .u64 (dgt W64 a 1), .int .u64 (dgt W64 a 2), .int .u64 (dgt W64 a 3), .int .u64 (dgt W64 b 0), .int .u64 (dgt W64 b 1), .int .u64 (dgt W64 b 2), .int .u64 (dgt W64 b 3), .int .u64 (dgt W64 c 0), .int .u64 (dgt W64 c 1), .int .u64 (dgt W64 c 2), .int .u64 (dgt W64 c 3)]] w fun e w' => e = .returned (.bool true) ∧ Below w.heap.size w w' := by
  have heq := eq_num
  have hz := zero_lt_M
  have Ha := Lib.hid ha
  have Hb := Lib.hid hb
  have Hc := Lib.hid hc
  have Hn := Lib.hid (cmpN_lt hab)
  have Hm := Lib.hid (cmpN_gt hab)
  have Hl := Lib.hid (subNB_lt hab)
  have Hd := Lib.hid (subN_ne ha hb (Nat.ne_of_lt hab))
  have He := Lib.hid (decide_eq_false (Nat.ne_of_lt hab))
  have Hbc := Lib.hid (cmpN_lt hbc)
  have Hac := Lib.hid (cmpN_lt (Nat.lt_trans hab hbc))
  obtain ⟨d, Hdd⟩ : ∃ d, Hid (subN a b = d) := ⟨_, Lib.hid rfl⟩
  have Hdl := Lib.hid (subN_lt a b)
  have hd2 := Hd.out
  have hd3 := Hdl.out
  rw [Hdd.out] at hd2 hd3
  clear Hd Hdl
  have Hd := Lib.hid hd2
  have Hdl := Lib.hid hd3
  clear hd2 hd3
  have Hr := Lib.hid (no_carry hp hq)
  have Hp := Lib.hid hp
  have Hq := Lib.hid hq
  clear hp hq
  clear hc
  clear hab
  clear hbc
  go_enter Try.func8, Try.ntmps8
  go_wp2_with fail
  refine (cmp_any (a := a) (b := b) Ha.out Hb.out _).mono ?_
  rintro _ w1 ⟨rfl, hb1⟩
  have Va := Lib.hid (NumAt.later hb1 (((NumAt.new _ a (w.heap.size + 1) _ (by simp)).alloc _).alloc _))
  have Vb := Lib.hid (NumAt.later hb1 ((NumAt.new _ b (w.heap.size + 2) _ (by simp)).alloc _))
  have Vc := Lib.hid (NumAt.later hb1 (NumAt.new _ c (w.heap.size + 3) _ (by simp)))
  have BB := Lib.hid (below_later (below_new (below_new (below_new (below_new (Below.refl _ _) _) _) _) _) hb1)
  clear hb1
  rw [Hn.out]
  have l_a_0 := Va.out 0 (by omega)
  have l_a_1 := Va.out 1 (by omega)
  have l_a_2 := Va.out 2 (by omega)
  have l_a_3 := Va.out 3 (by omega)
  have t_a := Va.out.lt
  have l_b_0 := Vb.out 0 (by omega)
  have l_b_1 := Vb.out 1 (by omega)
  have l_b_2 := Vb.out 2 (by omega)
  have l_b_3 := Vb.out 3 (by omega)
  have t_b := Vb.out.lt
  go_wp2_with fail
  refine (sub_any (a := a) (b := b) Ha.out Hb.out _).mono ?_
  rintro _ w2 ⟨rfl, hb2⟩
  clear l_a_0 l_a_1 l_a_2 l_a_3 t_a l_b_0 l_b_1 l_b_2 l_b_3 t_b
  have Ua := Lib.hid (NumAt.later hb2 (Va.out))
  clear Va
  have Va := Ua
  clear Ua
  have Ub := Lib.hid (NumAt.later hb2 (Vb.out))
  clear Vb
  have Vb := Ub
  clear Ub
  have Uc := Lib.hid (NumAt.later hb2 (Vc.out))
  clear Vc
  have Vc := Uc
  clear Uc
  have BC := Lib.hid (below_later (BB.out) hb2)
  clear BB
  have BB := BC
  clear BC
  clear hb2
  rw [Hl.out]
  rw [Hdd.out]
  unfold numV words
  have hd := Hd.out
  have he := He.out
  have hdl := Hdl.out
  go_wp2_with fail
  refine wp_region_num w [(w.heap.size + 1, a), (w.heap.size + 2, b), (w.heap.size + 3, c), (w2.heap.size, d)] (by kernel_rfl) (by kernel_rfl) ?_ ?_ (fun F hne hcl hfa => ?_)
  · simp only [List.mem_cons, List.not_mem_nil, or_false, forall_eq_or_imp, forall_eq]
    exact ⟨(Va.out).alloc _, (Vb.out).alloc _, (Vc.out).alloc _, NumAt.new _ d (w2.heap.size) _ (by simp)⟩
  · exact below_new (BB.out) _
  have r_a_0 := fun x : Wd F => (hfa x.world x.fact).1 (w.heap.size + 1, a) (by simp) 0 (by omega)
  have r_a_1 := fun x : Wd F => (hfa x.world x.fact).1 (w.heap.size + 1, a) (by simp) 1 (by omega)
  have r_a_2 := fun x : Wd F => (hfa x.world x.fact).1 (w.heap.size + 1, a) (by simp) 2 (by omega)
  have r_a_3 := fun x : Wd F => (hfa x.world x.fact).1 (w.heap.size + 1, a) (by simp) 3 (by omega)
  have r_b_0 := fun x : Wd F => (hfa x.world x.fact).1 (w.heap.size + 2, b) (by simp) 0 (by omega)
  have r_b_1 := fun x : Wd F => (hfa x.world x.fact).1 (w.heap.size + 2, b) (by simp) 1 (by omega)
  have r_b_2 := fun x : Wd F => (hfa x.world x.fact).1 (w.heap.size + 2, b) (by simp) 2 (by omega)
  have r_b_3 := fun x : Wd F => (hfa x.world x.fact).1 (w.heap.size + 2, b) (by simp) 3 (by omega)
  have r_c_0 := fun x : Wd F => (hfa x.world x.fact).1 (w.heap.size + 3, c) (by simp) 0 (by omega)
  have r_c_1 := fun x : Wd F => (hfa x.world x.fact).1 (w.heap.size + 3, c) (by simp) 1 (by omega)
  have r_c_2 := fun x : Wd F => (hfa x.world x.fact).1 (w.heap.size + 3, c) (by simp) 2 (by omega)
  have r_c_3 := fun x : Wd F => (hfa x.world x.fact).1 (w.heap.size + 3, c) (by simp) 3 (by omega)
  have r_d_0 := fun x : Wd F => (hfa x.world x.fact).1 (w2.heap.size, d) (by simp) 0 (by omega)
  have r_d_1 := fun x : Wd F => (hfa x.world x.fact).1 (w2.heap.size, d) (by simp) 1 (by omega)
  have r_d_2 := fun x : Wd F => (hfa x.world x.fact).1 (w2.heap.size, d) (by simp) 2 (by omega)
  have r_d_3 := fun x : Wd F => (hfa x.world x.fact).1 (w2.heap.size, d) (by simp) 3 (by omega)
  have HFB := Lib.hid (fun x : Wd F => (hfa x.world x.fact).2)
  have HCL := Lib.hid hcl
  have hfa9 := fun x : Wd F => hfa x.world x.fact
  have HFA := Lib.hid hfa9
  clear hfa9
  clear hcl hfa
  try simp only [List.append_eq, List.cons_append, List.nil_append]
  repeat (go_big_quiet_step ((first
    | (go_at_call 18; have c1 := cmp_any (a := b) (b := a) Hb.out Ha.out; rw [Hm.out] at c1; exact to_class HCL.out (c1 _))
    | (go_at_call 16; exact to_class HCL.out (of_int _ (by omega) (by omega) _))
    | (go_at_call 26; exact to_class HCL.out (alive_any _)))))
  refine wpQuiet_nil ?_
  intro w9 hw9
  obtain ⟨x9, hw9⟩ := hw9
  have B9 := Lib.hid (HFB.out x9)
  have hfa9 := HFA.out
  rw [← hw9] at B9
  have Va2 := Lib.hid ((hfa9 x9).1 (w.heap.size + 1, a) (by simp))
  have Vb2 := Lib.hid ((hfa9 x9).1 (w.heap.size + 2, b) (by simp))
  have Vc2 := Lib.hid ((hfa9 x9).1 (w.heap.size + 3, c) (by simp))
  rw [← hw9] at Va2 Vb2 Vc2
  clear hw9 hfa9 HFA HFB
  clear Va Vb Vc BB
  have Va := Va2
  clear Va2
  have Vb := Vb2
  clear Vb2
  have Vc := Vc2
  clear Vc2
  have BB := B9
  clear B9
  have l_b_0 := Vb.out 0 (by omega)
  have l_b_1 := Vb.out 1 (by omega)
  have l_b_2 := Vb.out 2 (by omega)
  have l_b_3 := Vb.out 3 (by omega)
  have t_b := Vb.out.lt
  have l_c_0 := Vc.out 0 (by omega)
  have l_c_1 := Vc.out 1 (by omega)
  have l_c_2 := Vc.out 2 (by omega)
  have l_c_3 := Vc.out 3 (by omega)
  have t_c := Vc.out.lt
  go_wp2_with fail
  refine (cmp_any (a := b) (b := c) Hb.out Hc.out _).mono ?_
  rintro _ w21 ⟨rfl, hb21⟩
  clear l_b_0 l_b_1 l_b_2 l_b_3 t_b l_c_0 l_c_1 l_c_2 l_c_3 t_c
  have Ua := Lib.hid (NumAt.later hb21 (Va.out))
  clear Va
  have Va := Ua
  clear Ua
  have Ub := Lib.hid (NumAt.later hb21 (Vb.out))
  clear Vb
  have Vb := Ub
  clear Ub
  have Uc := Lib.hid (NumAt.later hb21 (Vc.out))
  clear Vc
  have Vc := Uc
  clear Uc
  have BC := Lib.hid (below_later (BB.out) hb21)
  clear BB
  have BB := BC
  clear BC
  clear hb21
  rw [Hbc.out]
  have l_a_0 := Va.out 0 (by omega)
  have l_a_1 := Va.out 1 (by omega)
  have l_a_2 := Va.out 2 (by omega)
  have l_a_3 := Va.out 3 (by omega)
  have t_a := Va.out.lt
  have l_c_0 := Vc.out 0 (by omega)
  have l_c_1 := Vc.out 1 (by omega)
  have l_c_2 := Vc.out 2 (by omega)
  have l_c_3 := Vc.out 3 (by omega)
  have t_c := Vc.out.lt
  go_wp2_with fail
  refine (cmp_any (a := a) (b := c) Ha.out Hc.out _).mono ?_
  rintro _ w22 ⟨rfl, hb22⟩
  clear l_a_0 l_a_1 l_a_2 l_a_3 t_a l_c_0 l_c_1 l_c_2 l_c_3 t_c
  have Ua := Lib.hid (NumAt.later hb22 (Va.out))
  clear Va
  have Va := Ua
  clear Ua
  have Ub := Lib.hid (NumAt.later hb22 (Vb.out))
  clear Vb
  have Vb := Ub
  clear Ub
  have Uc := Lib.hid (NumAt.later hb22 (Vc.out))
  clear Vc
  have Vc := Uc
  clear Uc
  have BC := Lib.hid (below_later (BB.out) hb22)
  clear BB
  have BB := BC
  clear BC
  clear hb22
  rw [Hac.out]
  have l_a_0 := Va.out 0 (by omega)
  have l_a_1 := Va.out 1 (by omega)
  have l_a_2 := Va.out 2 (by omega)
  have l_a_3 := Va.out 3 (by omega)
  have t_a := Va.out.lt
  have l_c_0 := Vc.out 0 (by omega)
  have l_c_1 := Vc.out 1 (by omega)
  have l_c_2 := Vc.out 2 (by omega)
  have l_c_3 := Vc.out 3 (by omega)
  have t_c := Vc.out.lt
  go_wp2_with fail
  refine (add_any (a := a) (b := c) Ha.out Hc.out _).mono ?_
  rintro _ w23 ⟨rfl, hb23⟩
  clear l_a_0 l_a_1 l_a_2 l_a_3 t_a l_c_0 l_c_1 l_c_2 l_c_3 t_c
  have Ua := Lib.hid (NumAt.later hb23 (Va.out))
  clear Va
  have Va := Ua
  clear Ua
  have Ub := Lib.hid (NumAt.later hb23 (Vb.out))
  clear Vb
  have Vb := Ub
  clear Ub
  have Uc := Lib.hid (NumAt.later hb23 (Vc.out))
  clear Vc
  have Vc := Uc
  clear Uc
  have BC := Lib.hid (below_later (BB.out) hb23)
  clear BB
  have BB := BC
  clear BC
  clear hb23
  rw [Hp.out]
  unfold numV words
  have l_b_0 := Vb.out 0 (by omega)
  have l_b_1 := Vb.out 1 (by omega)
  have l_b_2 := Vb.out 2 (by omega)
  have l_b_3 := Vb.out 3 (by omega)
  have t_b := Vb.out.lt
  have l_c_0 := Vc.out 0 (by omega)
  have l_c_1 := Vc.out 1 (by omega)
  have l_c_2 := Vc.out 2 (by omega)
  have l_c_3 := Vc.out 3 (by omega)
  have t_c := Vc.out.lt
  go_wp2_with fail
  refine (add_any (a := b) (b := c) Hb.out Hc.out _).mono ?_
  rintro _ w24 ⟨rfl, hb24⟩
  clear l_b_0 l_b_1 l_b_2 l_b_3 t_b l_c_0 l_c_1 l_c_2 l_c_3 t_c
  have Ua := Lib.hid (NumAt.later hb24 ((Va.out).alloc _))
  clear Va
  have Va := Ua
  clear Ua
  have Ub := Lib.hid (NumAt.later hb24 ((Vb.out).alloc _))
  clear Vb
  have Vb := Ub
  clear Ub
  have Uc := Lib.hid (NumAt.later hb24 ((Vc.out).alloc _))
  clear Vc
  have Vc := Uc
  clear Uc
  have Vac := Lib.hid (NumAt.later hb24 (NumAt.new _ (addN a c) (w23.heap.size) _ (by simp)))
  have BC := Lib.hid (below_later (below_new (BB.out) _) hb24)
  clear BB
  have BB := BC
  clear BC
  clear hb24
  rw [Hq.out]
  unfold numV words
  have l_ac_0 := Vac.out 0 (by omega)
  have l_ac_1 := Vac.out 1 (by omega)
  have l_ac_2 := Vac.out 2 (by omega)
  have l_ac_3 := Vac.out 3 (by omega)
  have t_ac := Vac.out.lt
  go_wp2_with fail
  refine (cmp_any (a := addN a c) (b := addN b c) (addN_lt _ _) (addN_lt _ _) _).mono ?_
  rintro _ w25 ⟨rfl, hb25⟩
  clear l_ac_0 l_ac_1 l_ac_2 l_ac_3 t_ac
  have Ua := Lib.hid (NumAt.later hb25 ((Va.out).alloc _))
  clear Va
  have Va := Ua
  clear Ua
  have Ub := Lib.hid (NumAt.later hb25 ((Vb.out).alloc _))
  clear Vb
  have Vb := Ub
  clear Ub
  have Uc := Lib.hid (NumAt.later hb25 ((Vc.out).alloc _))
  clear Vc
  have Vc := Uc
  clear Uc
  have Uac := Lib.hid (NumAt.later hb25 ((Vac.out).alloc _))
  clear Vac
  have Vac := Uac
  clear Uac
  have Vbc := Lib.hid (NumAt.later hb25 (NumAt.new _ (addN b c) (w24.heap.size) _ (by simp)))
  have BC := Lib.hid (below_later (below_new (BB.out) _) hb25)
  clear BB
  have BB := BC
  clear BC
  clear hb25
  rw [Hr.out, Hn.out]
  go_wp2
  go_ret
  exact ⟨rfl, BB.out⟩

set_option maxHeartbeats 8000000 in
theorem limbsOrder_lt1_yes {a b c : Nat} (ha : a < M256) (hb : b < M256) (hc : c < M256) (hab : a < b) (hbc : b < c) (hcar : 0 < ((addNC a c : Nat) : Int) + ((addNC b c : Nat) : Int)) (w : World) :
    Calls Try.prog 8 #[.agg #[.int .u64 (dgt W64 a 0), .int .u64 (dgt W64 a 1), .int .u64 (dgt W64 a 2), .int .u64 (dgt W64 a 3), .int .u64 (dgt W64 b 0), .int .u64 (dgt W64 b 1), .int .u64 (dgt W64 b 2), .int .u64 (dgt W64 b 3), .int .u64 (dgt W64 c 0), .int .u64 (dgt W64 c 1), .int .u64 (dgt W64 c 2), .int .u64 (dgt W64 c 3)]] w fun e w' => e = .returned (.bool true) ∧ Below w.heap.size w w' := by
  have heq := eq_num
  have hz := zero_lt_M
  have Ha := Lib.hid ha
  have Hb := Lib.hid hb
  have Hc := Lib.hid hc
  have Hn := Lib.hid (cmpN_lt hab)
  have Hm := Lib.hid (cmpN_gt hab)
  have Hl := Lib.hid (subNB_lt hab)
  have Hd := Lib.hid (subN_ne ha hb (Nat.ne_of_lt hab))
  have He := Lib.hid (decide_eq_false (Nat.ne_of_lt hab))
  have Hbc := Lib.hid (cmpN_lt hbc)
  have Hac := Lib.hid (cmpN_lt (Nat.lt_trans hab hbc))
  obtain ⟨d, Hdd⟩ : ∃ d, Hid (subN a b = d) := ⟨_, Lib.hid rfl⟩
  have Hdl := Lib.hid (subN_lt a b)
  have hd2 := Hd.out
  have hd3 := Hdl.out
  rw [Hdd.out] at hd2 hd3
  clear Hd Hdl
  have Hd := Lib.hid hd2
  have Hdl := Lib.hid hd3
  clear hd2 hd3
  have p1 := addNC_int_le ha hc
  have p2 := addNC_int_le hb hc
  have Hcar := Lib.hid hcar
  have P1 := Lib.hid p1
  have P2 := Lib.hid p2
  clear hcar p1 p2
  clear hc
  clear hab
  clear hbc
  go_enter Try.func8, Try.ntmps8
  go_wp2_with fail
  refine (cmp_any (a := a) (b := b) Ha.out Hb.out _).mono ?_
  rintro _ w1 ⟨rfl, hb1⟩
  have Va := Lib.hid (NumAt.later hb1 (((NumAt.new _ a (w.heap.size + 1) _ (by simp)).alloc _).alloc _))
  have Vb := Lib.hid (NumAt.later hb1 ((NumAt.new _ b (w.heap.size + 2) _ (by simp)).alloc _))
  have Vc := Lib.hid (NumAt.later hb1 (NumAt.new _ c (w.heap.size + 3) _ (by simp)))
  have BB := Lib.hid (below_later (below_new (below_new (below_new (below_new (Below.refl _ _) _) _) _) _) hb1)
  clear hb1
  rw [Hn.out]
  have l_a_0 := Va.out 0 (by omega)
  have l_a_1 := Va.out 1 (by omega)
  have l_a_2 := Va.out 2 (by omega)
  have l_a_3 := Va.out 3 (by omega)
  have t_a := Va.out.lt
  have l_b_0 := Vb.out 0 (by omega)
  have l_b_1 := Vb.out 1 (by omega)
  have l_b_2 := Vb.out 2 (by omega)
  have l_b_3 := Vb.out 3 (by omega)
  have t_b := Vb.out.lt
  go_wp2_with fail
  refine (sub_any (a := a) (b := b) Ha.out Hb.out _).mono ?_
  rintro _ w2 ⟨rfl, hb2⟩
  clear l_a_0 l_a_1 l_a_2 l_a_3 t_a l_b_0 l_b_1 l_b_2 l_b_3 t_b
  have Ua := Lib.hid (NumAt.later hb2 (Va.out))
  clear Va
  have Va := Ua
  clear Ua
  have Ub := Lib.hid (NumAt.later hb2 (Vb.out))
  clear Vb
  have Vb := Ub
  clear Ub
  have Uc := Lib.hid (NumAt.later hb2 (Vc.out))
  clear Vc
  have Vc := Uc
  clear Uc
  have BC := Lib.hid (below_later (BB.out) hb2)
  clear BB
  have BB := BC
  clear BC
  clear hb2
  rw [Hl.out]
  rw [Hdd.out]
  unfold numV words
  have hd := Hd.out
  have he := He.out
  have hdl := Hdl.out
  go_wp2_with fail
  refine wp_region_num w [(w.heap.size + 1, a), (w.heap.size + 2, b), (w.heap.size + 3, c), (w2.heap.size, d)] (by kernel_rfl) (by kernel_rfl) ?_ ?_ (fun F hne hcl hfa => ?_)
  · simp only [List.mem_cons, List.not_mem_nil, or_false, forall_eq_or_imp, forall_eq]
    exact ⟨(Va.out).alloc _, (Vb.out).alloc _, (Vc.out).alloc _, NumAt.new _ d (w2.heap.size) _ (by simp)⟩
  · exact below_new (BB.out) _
  have r_a_0 := fun x : Wd F => (hfa x.world x.fact).1 (w.heap.size + 1, a) (by simp) 0 (by omega)
  have r_a_1 := fun x : Wd F => (hfa x.world x.fact).1 (w.heap.size + 1, a) (by simp) 1 (by omega)
  have r_a_2 := fun x : Wd F => (hfa x.world x.fact).1 (w.heap.size + 1, a) (by simp) 2 (by omega)
  have r_a_3 := fun x : Wd F => (hfa x.world x.fact).1 (w.heap.size + 1, a) (by simp) 3 (by omega)
  have r_b_0 := fun x : Wd F => (hfa x.world x.fact).1 (w.heap.size + 2, b) (by simp) 0 (by omega)
  have r_b_1 := fun x : Wd F => (hfa x.world x.fact).1 (w.heap.size + 2, b) (by simp) 1 (by omega)
  have r_b_2 := fun x : Wd F => (hfa x.world x.fact).1 (w.heap.size + 2, b) (by simp) 2 (by omega)
  have r_b_3 := fun x : Wd F => (hfa x.world x.fact).1 (w.heap.size + 2, b) (by simp) 3 (by omega)
  have r_c_0 := fun x : Wd F => (hfa x.world x.fact).1 (w.heap.size + 3, c) (by simp) 0 (by omega)
  have r_c_1 := fun x : Wd F => (hfa x.world x.fact).1 (w.heap.size + 3, c) (by simp) 1 (by omega)
  have r_c_2 := fun x : Wd F => (hfa x.world x.fact).1 (w.heap.size + 3, c) (by simp) 2 (by omega)
  have r_c_3 := fun x : Wd F => (hfa x.world x.fact).1 (w.heap.size + 3, c) (by simp) 3 (by omega)
  have r_d_0 := fun x : Wd F => (hfa x.world x.fact).1 (w2.heap.size, d) (by simp) 0 (by omega)
  have r_d_1 := fun x : Wd F => (hfa x.world x.fact).1 (w2.heap.size, d) (by simp) 1 (by omega)
  have r_d_2 := fun x : Wd F => (hfa x.world x.fact).1 (w2.heap.size, d) (by simp) 2 (by omega)
  have r_d_3 := fun x : Wd F => (hfa x.world x.fact).1 (w2.heap.size, d) (by simp) 3 (by omega)
  have HFB := Lib.hid (fun x : Wd F => (hfa x.world x.fact).2)
  have HCL := Lib.hid hcl
  have hfa9 := fun x : Wd F => hfa x.world x.fact
  have HFA := Lib.hid hfa9
  clear hfa9
  clear hcl hfa
  try simp only [List.append_eq, List.cons_append, List.nil_append]
  repeat (go_big_quiet_step ((first
    | (go_at_call 18; have c1 := cmp_any (a := b) (b := a) Hb.out Ha.out; rw [Hm.out] at c1; exact to_class HCL.out (c1 _))
    | (go_at_call 16; exact to_class HCL.out (of_int _ (by omega) (by omega) _))
    | (go_at_call 26; exact to_class HCL.out (alive_any _)))))
  refine wpQuiet_nil ?_
  intro w9 hw9
  obtain ⟨x9, hw9⟩ := hw9
  have B9 := Lib.hid (HFB.out x9)
  have hfa9 := HFA.out
  rw [← hw9] at B9
  have Va2 := Lib.hid ((hfa9 x9).1 (w.heap.size + 1, a) (by simp))
  have Vb2 := Lib.hid ((hfa9 x9).1 (w.heap.size + 2, b) (by simp))
  have Vc2 := Lib.hid ((hfa9 x9).1 (w.heap.size + 3, c) (by simp))
  rw [← hw9] at Va2 Vb2 Vc2
  clear hw9 hfa9 HFA HFB
  clear Va Vb Vc BB
  have Va := Va2
  clear Va2
  have Vb := Vb2
  clear Vb2
  have Vc := Vc2
  clear Vc2
  have BB := B9
  clear B9
  have l_b_0 := Vb.out 0 (by omega)
  have l_b_1 := Vb.out 1 (by omega)
  have l_b_2 := Vb.out 2 (by omega)
  have l_b_3 := Vb.out 3 (by omega)
  have t_b := Vb.out.lt
  have l_c_0 := Vc.out 0 (by omega)
  have l_c_1 := Vc.out 1 (by omega)
  have l_c_2 := Vc.out 2 (by omega)
  have l_c_3 := Vc.out 3 (by omega)
  have t_c := Vc.out.lt
  go_wp2_with fail
  refine (cmp_any (a := b) (b := c) Hb.out Hc.out _).mono ?_
  rintro _ w21 ⟨rfl, hb21⟩
  clear l_b_0 l_b_1 l_b_2 l_b_3 t_b l_c_0 l_c_1 l_c_2 l_c_3 t_c
  have Ua := Lib.hid (NumAt.later hb21 (Va.out))
  clear Va
  have Va := Ua
  clear Ua
  have Ub := Lib.hid (NumAt.later hb21 (Vb.out))
  clear Vb
  have Vb := Ub
  clear Ub
  have Uc := Lib.hid (NumAt.later hb21 (Vc.out))
  clear Vc
  have Vc := Uc
  clear Uc
  have BC := Lib.hid (below_later (BB.out) hb21)
  clear BB
  have BB := BC
  clear BC
  clear hb21
  rw [Hbc.out]
  have l_a_0 := Va.out 0 (by omega)
  have l_a_1 := Va.out 1 (by omega)
  have l_a_2 := Va.out 2 (by omega)
  have l_a_3 := Va.out 3 (by omega)
  have t_a := Va.out.lt
  have l_c_0 := Vc.out 0 (by omega)
  have l_c_1 := Vc.out 1 (by omega)
  have l_c_2 := Vc.out 2 (by omega)
  have l_c_3 := Vc.out 3 (by omega)
  have t_c := Vc.out.lt
  go_wp2_with fail
  refine (cmp_any (a := a) (b := c) Ha.out Hc.out _).mono ?_
  rintro _ w22 ⟨rfl, hb22⟩
  clear l_a_0 l_a_1 l_a_2 l_a_3 t_a l_c_0 l_c_1 l_c_2 l_c_3 t_c
  have Ua := Lib.hid (NumAt.later hb22 (Va.out))
  clear Va
  have Va := Ua
  clear Ua
  have Ub := Lib.hid (NumAt.later hb22 (Vb.out))
  clear Vb
  have Vb := Ub
  clear Ub
  have Uc := Lib.hid (NumAt.later hb22 (Vc.out))
  clear Vc
  have Vc := Uc
  clear Uc
  have BC := Lib.hid (below_later (BB.out) hb22)
  clear BB
  have BB := BC
  clear BC
  clear hb22
  rw [Hac.out]
  have l_a_0 := Va.out 0 (by omega)
  have l_a_1 := Va.out 1 (by omega)
  have l_a_2 := Va.out 2 (by omega)
  have l_a_3 := Va.out 3 (by omega)
  have t_a := Va.out.lt
  have l_c_0 := Vc.out 0 (by omega)
  have l_c_1 := Vc.out 1 (by omega)
  have l_c_2 := Vc.out 2 (by omega)
  have l_c_3 := Vc.out 3 (by omega)
  have t_c := Vc.out.lt
  go_wp2_with fail
  refine (add_any (a := a) (b := c) Ha.out Hc.out _).mono ?_
  rintro _ w23 ⟨rfl, hb23⟩
  clear l_a_0 l_a_1 l_a_2 l_a_3 t_a l_c_0 l_c_1 l_c_2 l_c_3 t_c
  have Ua := Lib.hid (NumAt.later hb23 (Va.out))
  clear Va
  have Va := Ua
  clear Ua
  have Ub := Lib.hid (NumAt.later hb23 (Vb.out))
  clear Vb
  have Vb := Ub
  clear Ub
  have Uc := Lib.hid (NumAt.later hb23 (Vc.out))
  clear Vc
  have Vc := Uc
  clear Uc
  have BC := Lib.hid (below_later (BB.out) hb23)
  clear BB
  have BB := BC
  clear BC
  clear hb23
  unfold numV words
  have l_b_0 := Vb.out 0 (by omega)
  have l_b_1 := Vb.out 1 (by omega)
  have l_b_2 := Vb.out 2 (by omega)
  have l_b_3 := Vb.out 3 (by omega)
  have t_b := Vb.out.lt
  have l_c_0 := Vc.out 0 (by omega)
  have l_c_1 := Vc.out 1 (by omega)
  have l_c_2 := Vc.out 2 (by omega)
  have l_c_3 := Vc.out 3 (by omega)
  have t_c := Vc.out.lt
  go_wp2_with fail
  refine (add_any (a := b) (b := c) Hb.out Hc.out _).mono ?_
  rintro _ w24 ⟨rfl, hb24⟩
  clear l_b_0 l_b_1 l_b_2 l_b_3 t_b l_c_0 l_c_1 l_c_2 l_c_3 t_c
  have Ua := Lib.hid (NumAt.later hb24 ((Va.out).alloc _))
  clear Va
  have Va := Ua
  clear Ua
  have Ub := Lib.hid (NumAt.later hb24 ((Vb.out).alloc _))
  clear Vb
  have Vb := Ub
  clear Ub
  have Uc := Lib.hid (NumAt.later hb24 ((Vc.out).alloc _))
  clear Vc
  have Vc := Uc
  clear Uc
  have Vac := Lib.hid (NumAt.later hb24 (NumAt.new _ (addN a c) (w23.heap.size) _ (by simp)))
  have BC := Lib.hid (below_later (below_new (BB.out) _) hb24)
  clear BB
  have BB := BC
  clear BC
  clear hb24
  have hcar := Hcar.out
  have p1 := P1.out
  have p2 := P2.out
  unfold numV words
  go_wp2
  go_ret
  exact ⟨rfl, below_new (BB.out) _⟩

set_option maxHeartbeats 8000000 in
theorem limbsOrder_lt2_no {a b c : Nat} (ha : a < M256) (hb : b < M256) (hc : c < M256) (hab : a < b) (hbc : ¬ b < c) (hp : ((addNC a c : Nat) : Int) = 0) (hq : ((addNC b c : Nat) : Int) = 0) (w : World) :
    Calls Try.prog 8 #[.agg #[.int .u64 (dgt W64 a 0), .int .u64 (dgt W64 a 1), .int .u64 (dgt W64 a 2), .int .u64 (dgt W64 a 3), .int .u64 (dgt W64 b 0), .int .u64 (dgt W64 b 1), .int .u64 (dgt W64 b 2), .int .u64 (dgt W64 b 3), .int .u64 (dgt W64 c 0), .int .u64 (dgt W64 c 1), .int .u64 (dgt W64 c 2), .int .u64 (dgt W64 c 3)]] w fun e w' => e = .returned (.bool true) ∧ Below w.heap.size w w' := by
  have heq := eq_num
  have hz := zero_lt_M
  have Ha := Lib.hid ha
  have Hb := Lib.hid hb
  have Hc := Lib.hid hc
  have Hn := Lib.hid (cmpN_lt hab)
  have Hm := Lib.hid (cmpN_gt hab)
  have Hl := Lib.hid (subNB_lt hab)
  have Hd := Lib.hid (subN_ne ha hb (Nat.ne_of_lt hab))
  have He := Lib.hid (decide_eq_false (Nat.ne_of_lt hab))
  have Hbc := Lib.hid (show 0 ≤ cmpN b c by unfold cmpN; rw [if_neg hbc]; split <;> omega)
  have Hbd := Lib.hid (show cmpN b c ≤ 1 by unfold cmpN; split <;> (try split) <;> omega)
  obtain ⟨d, Hdd⟩ : ∃ d, Hid (subN a b = d) := ⟨_, Lib.hid rfl⟩
  have Hdl := Lib.hid (subN_lt a b)
  have hd2 := Hd.out
  have hd3 := Hdl.out
  rw [Hdd.out] at hd2 hd3
  clear Hd Hdl
  have Hd := Lib.hid hd2
  have Hdl := Lib.hid hd3
  clear hd2 hd3
  have Hr := Lib.hid (no_carry hp hq)
  have Hp := Lib.hid hp
  have Hq := Lib.hid hq
  clear hp hq
  clear hc
  clear hab
  clear hbc
  go_enter Try.func8, Try.ntmps8
  go_wp2_with fail
  refine (cmp_any (a := a) (b := b) Ha.out Hb.out _).mono ?_
  rintro _ w1 ⟨rfl, hb1⟩
  have Va := Lib.hid (NumAt.later hb1 (((NumAt.new _ a (w.heap.size + 1) _ (by simp)).alloc _).alloc _))
  have Vb := Lib.hid (NumAt.later hb1 ((NumAt.new _ b (w.heap.size + 2) _ (by simp)).alloc _))
  have Vc := Lib.hid (NumAt.later hb1 (NumAt.new _ c (w.heap.size + 3) _ (by simp)))
  have BB := Lib.hid (below_later (below_new (below_new (below_new (below_new (Below.refl _ _) _) _) _) _) hb1)
  clear hb1
  rw [Hn.out]
  have l_a_0 := Va.out 0 (by omega)
  have l_a_1 := Va.out 1 (by omega)
  have l_a_2 := Va.out 2 (by omega)
  have l_a_3 := Va.out 3 (by omega)
  have t_a := Va.out.lt
  have l_b_0 := Vb.out 0 (by omega)
  have l_b_1 := Vb.out 1 (by omega)
  have l_b_2 := Vb.out 2 (by omega)
  have l_b_3 := Vb.out 3 (by omega)
  have t_b := Vb.out.lt
  go_wp2_with fail
  refine (sub_any (a := a) (b := b) Ha.out Hb.out _).mono ?_
  rintro _ w2 ⟨rfl, hb2⟩
  clear l_a_0 l_a_1 l_a_2 l_a_3 t_a l_b_0 l_b_1 l_b_2 l_b_3 t_b
  have Ua := Lib.hid (NumAt.later hb2 (Va.out))
  clear Va
  have Va := Ua
  clear Ua
  have Ub := Lib.hid (NumAt.later hb2 (Vb.out))
  clear Vb
  have Vb := Ub
  clear Ub
  have Uc := Lib.hid (NumAt.later hb2 (Vc.out))
  clear Vc
  have Vc := Uc
  clear Uc
  have BC := Lib.hid (below_later (BB.out) hb2)
  clear BB
  have BB := BC
  clear BC
  clear hb2
  rw [Hl.out]
  rw [Hdd.out]
  unfold numV words
  have hd := Hd.out
  have he := He.out
  have hdl := Hdl.out
  go_wp2_with fail
  refine wp_region_num w [(w.heap.size + 1, a), (w.heap.size + 2, b), (w.heap.size + 3, c), (w2.heap.size, d)] (by kernel_rfl) (by kernel_rfl) ?_ ?_ (fun F hne hcl hfa => ?_)
  · simp only [List.mem_cons, List.not_mem_nil, or_false, forall_eq_or_imp, forall_eq]
    exact ⟨(Va.out).alloc _, (Vb.out).alloc _, (Vc.out).alloc _, NumAt.new _ d (w2.heap.size) _ (by simp)⟩
  · exact below_new (BB.out) _
  have r_a_0 := fun x : Wd F => (hfa x.world x.fact).1 (w.heap.size + 1, a) (by simp) 0 (by omega)
  have r_a_1 := fun x : Wd F => (hfa x.world x.fact).1 (w.heap.size + 1, a) (by simp) 1 (by omega)
  have r_a_2 := fun x : Wd F => (hfa x.world x.fact).1 (w.heap.size + 1, a) (by simp) 2 (by omega)
  have r_a_3 := fun x : Wd F => (hfa x.world x.fact).1 (w.heap.size + 1, a) (by simp) 3 (by omega)
  have r_b_0 := fun x : Wd F => (hfa x.world x.fact).1 (w.heap.size + 2, b) (by simp) 0 (by omega)
  have r_b_1 := fun x : Wd F => (hfa x.world x.fact).1 (w.heap.size + 2, b) (by simp) 1 (by omega)
  have r_b_2 := fun x : Wd F => (hfa x.world x.fact).1 (w.heap.size + 2, b) (by simp) 2 (by omega)
  have r_b_3 := fun x : Wd F => (hfa x.world x.fact).1 (w.heap.size + 2, b) (by simp) 3 (by omega)
  have r_c_0 := fun x : Wd F => (hfa x.world x.fact).1 (w.heap.size + 3, c) (by simp) 0 (by omega)
  have r_c_1 := fun x : Wd F => (hfa x.world x.fact).1 (w.heap.size + 3, c) (by simp) 1 (by omega)
  have r_c_2 := fun x : Wd F => (hfa x.world x.fact).1 (w.heap.size + 3, c) (by simp) 2 (by omega)
  have r_c_3 := fun x : Wd F => (hfa x.world x.fact).1 (w.heap.size + 3, c) (by simp) 3 (by omega)
  have r_d_0 := fun x : Wd F => (hfa x.world x.fact).1 (w2.heap.size, d) (by simp) 0 (by omega)
  have r_d_1 := fun x : Wd F => (hfa x.world x.fact).1 (w2.heap.size, d) (by simp) 1 (by omega)
  have r_d_2 := fun x : Wd F => (hfa x.world x.fact).1 (w2.heap.size, d) (by simp) 2 (by omega)
  have r_d_3 := fun x : Wd F => (hfa x.world x.fact).1 (w2.heap.size, d) (by simp) 3 (by omega)
  have HFB := Lib.hid (fun x : Wd F => (hfa x.world x.fact).2)
  have HCL := Lib.hid hcl
  have hfa9 := fun x : Wd F => hfa x.world x.fact
  have HFA := Lib.hid hfa9
  clear hfa9
  clear hcl hfa
  try simp only [List.append_eq, List.cons_append, List.nil_append]
  repeat (go_big_quiet_step ((first
    | (go_at_call 18; have c1 := cmp_any (a := b) (b := a) Hb.out Ha.out; rw [Hm.out] at c1; exact to_class HCL.out (c1 _))
    | (go_at_call 16; exact to_class HCL.out (of_int _ (by omega) (by omega) _))
    | (go_at_call 26; exact to_class HCL.out (alive_any _)))))
  refine wpQuiet_nil ?_
  intro w9 hw9
  obtain ⟨x9, hw9⟩ := hw9
  have B9 := Lib.hid (HFB.out x9)
  have hfa9 := HFA.out
  rw [← hw9] at B9
  have Va2 := Lib.hid ((hfa9 x9).1 (w.heap.size + 1, a) (by simp))
  have Vb2 := Lib.hid ((hfa9 x9).1 (w.heap.size + 2, b) (by simp))
  have Vc2 := Lib.hid ((hfa9 x9).1 (w.heap.size + 3, c) (by simp))
  rw [← hw9] at Va2 Vb2 Vc2
  clear hw9 hfa9 HFA HFB
  clear Va Vb Vc BB
  have Va := Va2
  clear Va2
  have Vb := Vb2
  clear Vb2
  have Vc := Vc2
  clear Vc2
  have BB := B9
  clear B9
  have l_b_0 := Vb.out 0 (by omega)
  have l_b_1 := Vb.out 1 (by omega)
  have l_b_2 := Vb.out 2 (by omega)
  have l_b_3 := Vb.out 3 (by omega)
  have t_b := Vb.out.lt
  have l_c_0 := Vc.out 0 (by omega)
  have l_c_1 := Vc.out 1 (by omega)
  have l_c_2 := Vc.out 2 (by omega)
  have l_c_3 := Vc.out 3 (by omega)
  have t_c := Vc.out.lt
  go_wp2_with fail
  refine (cmp_any (a := b) (b := c) Hb.out Hc.out _).mono ?_
  rintro _ w21 ⟨rfl, hb21⟩
  clear l_b_0 l_b_1 l_b_2 l_b_3 t_b l_c_0 l_c_1 l_c_2 l_c_3 t_c
  have Ua := Lib.hid (NumAt.later hb21 (Va.out))
  clear Va
  have Va := Ua
  clear Ua
  have Ub := Lib.hid (NumAt.later hb21 (Vb.out))
  clear Vb
  have Vb := Ub
  clear Ub
  have Uc := Lib.hid (NumAt.later hb21 (Vc.out))
  clear Vc
  have Vc := Uc
  clear Uc
  have BC := Lib.hid (below_later (BB.out) hb21)
  clear BB
  have BB := BC
  clear BC
  clear hb21
  have hbc0 := Hbc.out
  have hbc1 := Hbd.out
  have l_a_0 := Va.out 0 (by omega)
  have l_a_1 := Va.out 1 (by omega)
  have l_a_2 := Va.out 2 (by omega)
  have l_a_3 := Va.out 3 (by omega)
  have t_a := Va.out.lt
  have l_c_0 := Vc.out 0 (by omega)
  have l_c_1 := Vc.out 1 (by omega)
  have l_c_2 := Vc.out 2 (by omega)
  have l_c_3 := Vc.out 3 (by omega)
  have t_c := Vc.out.lt
  go_wp2_with fail
  refine (add_any (a := a) (b := c) Ha.out Hc.out _).mono ?_
  rintro _ w22 ⟨rfl, hb22⟩
  clear l_a_0 l_a_1 l_a_2 l_a_3 t_a l_c_0 l_c_1 l_c_2 l_c_3 t_c
  have Ua := Lib.hid (NumAt.later hb22 (Va.out))
  clear Va
  have Va := Ua
  clear Ua
  have Ub := Lib.hid (NumAt.later hb22 (Vb.out))
  clear Vb
  have Vb := Ub
  clear Ub
  have Uc := Lib.hid (NumAt.later hb22 (Vc.out))
  clear Vc
  have Vc := Uc
  clear Uc
  have BC := Lib.hid (below_later (BB.out) hb22)
  clear BB
  have BB := BC
  clear BC
  clear hb22
  rw [Hp.out]
  unfold numV words
  have l_b_0 := Vb.out 0 (by omega)
  have l_b_1 := Vb.out 1 (by omega)
  have l_b_2 := Vb.out 2 (by omega)
  have l_b_3 := Vb.out 3 (by omega)
  have t_b := Vb.out.lt
  have l_c_0 := Vc.out 0 (by omega)
  have l_c_1 := Vc.out 1 (by omega)
  have l_c_2 := Vc.out 2 (by omega)
  have l_c_3 := Vc.out 3 (by omega)
  have t_c := Vc.out.lt
  go_wp2_with fail
  refine (add_any (a := b) (b := c) Hb.out Hc.out _).mono ?_
  rintro _ w23 ⟨rfl, hb23⟩
  clear l_b_0 l_b_1 l_b_2 l_b_3 t_b l_c_0 l_c_1 l_c_2 l_c_3 t_c
  have Ua := Lib.hid (NumAt.later hb23 ((Va.out).alloc _))
  clear Va
  have Va := Ua
  clear Ua
  have Ub := Lib.hid (NumAt.later hb23 ((Vb.out).alloc _))
  clear Vb
  have Vb := Ub
  clear Ub
  have Uc := Lib.hid (NumAt.later hb23 ((Vc.out).alloc _))
  clear Vc
  have Vc := Uc
  clear Uc
  have Vac := Lib.hid (NumAt.later hb23 (NumAt.new _ (addN a c) (w22.heap.size) _ (by simp)))
  have BC := Lib.hid (below_later (below_new (BB.out) _) hb23)
  clear BB
  have BB := BC
  clear BC
  clear hb23
  rw [Hq.out]
  unfold numV words
  have l_ac_0 := Vac.out 0 (by omega)
  have l_ac_1 := Vac.out 1 (by omega)
  have l_ac_2 := Vac.out 2 (by omega)
  have l_ac_3 := Vac.out 3 (by omega)
  have t_ac := Vac.out.lt
  go_wp2_with fail
  refine (cmp_any (a := addN a c) (b := addN b c) (addN_lt _ _) (addN_lt _ _) _).mono ?_
  rintro _ w24 ⟨rfl, hb24⟩
  clear l_ac_0 l_ac_1 l_ac_2 l_ac_3 t_ac
  have Ua := Lib.hid (NumAt.later hb24 ((Va.out).alloc _))
  clear Va
  have Va := Ua
  clear Ua
  have Ub := Lib.hid (NumAt.later hb24 ((Vb.out).alloc _))
  clear Vb
  have Vb := Ub
  clear Ub
  have Uc := Lib.hid (NumAt.later hb24 ((Vc.out).alloc _))
  clear Vc
  have Vc := Uc
  clear Uc
  have Uac := Lib.hid (NumAt.later hb24 ((Vac.out).alloc _))
  clear Vac
  have Vac := Uac
  clear Uac
  have Vbc := Lib.hid (NumAt.later hb24 (NumAt.new _ (addN b c) (w23.heap.size) _ (by simp)))
  have BC := Lib.hid (below_later (below_new (BB.out) _) hb24)
  clear BB
  have BB := BC
  clear BC
  clear hb24
  rw [Hr.out, Hn.out]
  go_wp2
  go_ret
  exact ⟨rfl, BB.out⟩

set_option maxHeartbeats 8000000 in
theorem limbsOrder_lt2_yes {a b c : Nat} (ha : a < M256) (hb : b < M256) (hc : c < M256) (hab : a < b) (hbc : ¬ b < c) (hcar : 0 < ((addNC a c : Nat) : Int) + ((addNC b c : Nat) : Int)) (w : World) :
    Calls Try.prog 8 #[.agg #[.int .u64 (dgt W64 a 0), .int .u64 (dgt W64 a 1), .int .u64 (dgt W64 a 2), .int .u64 (dgt W64 a 3), .int .u64 (dgt W64 b 0), .int .u64 (dgt W64 b 1), .int .u64 (dgt W64 b 2), .int .u64 (dgt W64 b 3), .int .u64 (dgt W64 c 0), .int .u64 (dgt W64 c 1), .int .u64 (dgt W64 c 2), .int .u64 (dgt W64 c 3)]] w fun e w' => e = .returned (.bool true) ∧ Below w.heap.size w w' := by
  have heq := eq_num
  have hz := zero_lt_M
  have Ha := Lib.hid ha
  have Hb := Lib.hid hb
  have Hc := Lib.hid hc
  have Hn := Lib.hid (cmpN_lt hab)
  have Hm := Lib.hid (cmpN_gt hab)
  have Hl := Lib.hid (subNB_lt hab)
  have Hd := Lib.hid (subN_ne ha hb (Nat.ne_of_lt hab))
  have He := Lib.hid (decide_eq_false (Nat.ne_of_lt hab))
  have Hbc := Lib.hid (show 0 ≤ cmpN b c by unfold cmpN; rw [if_neg hbc]; split <;> omega)
  have Hbd := Lib.hid (show cmpN b c ≤ 1 by unfold cmpN; split <;> (try split) <;> omega)
  obtain ⟨d, Hdd⟩ : ∃ d, Hid (subN a b = d) := ⟨_, Lib.hid rfl⟩
  have Hdl := Lib.hid (subN_lt a b)
  have hd2 := Hd.out
  have hd3 := Hdl.out
  rw [Hdd.out] at hd2 hd3
  clear Hd Hdl
  have Hd := Lib.hid hd2
  have Hdl := Lib.hid hd3
  clear hd2 hd3
  have p1 := addNC_int_le ha hc
  have p2 := addNC_int_le hb hc
  have Hcar := Lib.hid hcar
  have P1 := Lib.hid p1
  have P2 := Lib.hid p2
  clear hcar p1 p2
  clear hc
  clear hab
  clear hbc
  go_enter Try.func8, Try.ntmps8
  go_wp2_with fail
  refine (cmp_any (a := a) (b := b) Ha.out Hb.out _).mono ?_
  rintro _ w1 ⟨rfl, hb1⟩
  have Va := Lib.hid (NumAt.later hb1 (((NumAt.new _ a (w.heap.size + 1) _ (by simp)).alloc _).alloc _))
  have Vb := Lib.hid (NumAt.later hb1 ((NumAt.new _ b (w.heap.size + 2) _ (by simp)).alloc _))
  have Vc := Lib.hid (NumAt.later hb1 (NumAt.new _ c (w.heap.size + 3) _ (by simp)))
  have BB := Lib.hid (below_later (below_new (below_new (below_new (below_new (Below.refl _ _) _) _) _) _) hb1)
  clear hb1
  rw [Hn.out]
  have l_a_0 := Va.out 0 (by omega)
  have l_a_1 := Va.out 1 (by omega)
  have l_a_2 := Va.out 2 (by omega)
  have l_a_3 := Va.out 3 (by omega)
  have t_a := Va.out.lt
  have l_b_0 := Vb.out 0 (by omega)
  have l_b_1 := Vb.out 1 (by omega)
  have l_b_2 := Vb.out 2 (by omega)
  have l_b_3 := Vb.out 3 (by omega)
  have t_b := Vb.out.lt
  go_wp2_with fail
  refine (sub_any (a := a) (b := b) Ha.out Hb.out _).mono ?_
  rintro _ w2 ⟨rfl, hb2⟩
  clear l_a_0 l_a_1 l_a_2 l_a_3 t_a l_b_0 l_b_1 l_b_2 l_b_3 t_b
  have Ua := Lib.hid (NumAt.later hb2 (Va.out))
  clear Va
  have Va := Ua
  clear Ua
  have Ub := Lib.hid (NumAt.later hb2 (Vb.out))
  clear Vb
  have Vb := Ub
  clear Ub
  have Uc := Lib.hid (NumAt.later hb2 (Vc.out))
  clear Vc
  have Vc := Uc
  clear Uc
  have BC := Lib.hid (below_later (BB.out) hb2)
  clear BB
  have BB := BC
  clear BC
  clear hb2
  rw [Hl.out]
  rw [Hdd.out]
  unfold numV words
  have hd := Hd.out
  have he := He.out
  have hdl := Hdl.out
  go_wp2_with fail
  refine wp_region_num w [(w.heap.size + 1, a), (w.heap.size + 2, b), (w.heap.size + 3, c), (w2.heap.size, d)] (by kernel_rfl) (by kernel_rfl) ?_ ?_ (fun F hne hcl hfa => ?_)
  · simp only [List.mem_cons, List.not_mem_nil, or_false, forall_eq_or_imp, forall_eq]
    exact ⟨(Va.out).alloc _, (Vb.out).alloc _, (Vc.out).alloc _, NumAt.new _ d (w2.heap.size) _ (by simp)⟩
  · exact below_new (BB.out) _
  have r_a_0 := fun x : Wd F => (hfa x.world x.fact).1 (w.heap.size + 1, a) (by simp) 0 (by omega)
  have r_a_1 := fun x : Wd F => (hfa x.world x.fact).1 (w.heap.size + 1, a) (by simp) 1 (by omega)
  have r_a_2 := fun x : Wd F => (hfa x.world x.fact).1 (w.heap.size + 1, a) (by simp) 2 (by omega)
  have r_a_3 := fun x : Wd F => (hfa x.world x.fact).1 (w.heap.size + 1, a) (by simp) 3 (by omega)
  have r_b_0 := fun x : Wd F => (hfa x.world x.fact).1 (w.heap.size + 2, b) (by simp) 0 (by omega)
  have r_b_1 := fun x : Wd F => (hfa x.world x.fact).1 (w.heap.size + 2, b) (by simp) 1 (by omega)
  have r_b_2 := fun x : Wd F => (hfa x.world x.fact).1 (w.heap.size + 2, b) (by simp) 2 (by omega)
  have r_b_3 := fun x : Wd F => (hfa x.world x.fact).1 (w.heap.size + 2, b) (by simp) 3 (by omega)
  have r_c_0 := fun x : Wd F => (hfa x.world x.fact).1 (w.heap.size + 3, c) (by simp) 0 (by omega)
  have r_c_1 := fun x : Wd F => (hfa x.world x.fact).1 (w.heap.size + 3, c) (by simp) 1 (by omega)
  have r_c_2 := fun x : Wd F => (hfa x.world x.fact).1 (w.heap.size + 3, c) (by simp) 2 (by omega)
  have r_c_3 := fun x : Wd F => (hfa x.world x.fact).1 (w.heap.size + 3, c) (by simp) 3 (by omega)
  have r_d_0 := fun x : Wd F => (hfa x.world x.fact).1 (w2.heap.size, d) (by simp) 0 (by omega)
  have r_d_1 := fun x : Wd F => (hfa x.world x.fact).1 (w2.heap.size, d) (by simp) 1 (by omega)
  have r_d_2 := fun x : Wd F => (hfa x.world x.fact).1 (w2.heap.size, d) (by simp) 2 (by omega)
  have r_d_3 := fun x : Wd F => (hfa x.world x.fact).1 (w2.heap.size, d) (by simp) 3 (by omega)
  have HFB := Lib.hid (fun x : Wd F => (hfa x.world x.fact).2)
  have HCL := Lib.hid hcl
  have hfa9 := fun x : Wd F => hfa x.world x.fact
  have HFA := Lib.hid hfa9
  clear hfa9
  clear hcl hfa
  try simp only [List.append_eq, List.cons_append, List.nil_append]
  repeat (go_big_quiet_step ((first
    | (go_at_call 18; have c1 := cmp_any (a := b) (b := a) Hb.out Ha.out; rw [Hm.out] at c1; exact to_class HCL.out (c1 _))
    | (go_at_call 16; exact to_class HCL.out (of_int _ (by omega) (by omega) _))
    | (go_at_call 26; exact to_class HCL.out (alive_any _)))))
  refine wpQuiet_nil ?_
  intro w9 hw9
  obtain ⟨x9, hw9⟩ := hw9
  have B9 := Lib.hid (HFB.out x9)
  have hfa9 := HFA.out
  rw [← hw9] at B9
  have Va2 := Lib.hid ((hfa9 x9).1 (w.heap.size + 1, a) (by simp))
  have Vb2 := Lib.hid ((hfa9 x9).1 (w.heap.size + 2, b) (by simp))
  have Vc2 := Lib.hid ((hfa9 x9).1 (w.heap.size + 3, c) (by simp))
  rw [← hw9] at Va2 Vb2 Vc2
  clear hw9 hfa9 HFA HFB
  clear Va Vb Vc BB
  have Va := Va2
  clear Va2
  have Vb := Vb2
  clear Vb2
  have Vc := Vc2
  clear Vc2
  have BB := B9
  clear B9
  have l_b_0 := Vb.out 0 (by omega)
  have l_b_1 := Vb.out 1 (by omega)
  have l_b_2 := Vb.out 2 (by omega)
  have l_b_3 := Vb.out 3 (by omega)
  have t_b := Vb.out.lt
  have l_c_0 := Vc.out 0 (by omega)
  have l_c_1 := Vc.out 1 (by omega)
  have l_c_2 := Vc.out 2 (by omega)
  have l_c_3 := Vc.out 3 (by omega)
  have t_c := Vc.out.lt
  go_wp2_with fail
  refine (cmp_any (a := b) (b := c) Hb.out Hc.out _).mono ?_
  rintro _ w21 ⟨rfl, hb21⟩
  clear l_b_0 l_b_1 l_b_2 l_b_3 t_b l_c_0 l_c_1 l_c_2 l_c_3 t_c
  have Ua := Lib.hid (NumAt.later hb21 (Va.out))
  clear Va
  have Va := Ua
  clear Ua
  have Ub := Lib.hid (NumAt.later hb21 (Vb.out))
  clear Vb
  have Vb := Ub
  clear Ub
  have Uc := Lib.hid (NumAt.later hb21 (Vc.out))
  clear Vc
  have Vc := Uc
  clear Uc
  have BC := Lib.hid (below_later (BB.out) hb21)
  clear BB
  have BB := BC
  clear BC
  clear hb21
  have hbc0 := Hbc.out
  have hbc1 := Hbd.out
  have l_a_0 := Va.out 0 (by omega)
  have l_a_1 := Va.out 1 (by omega)
  have l_a_2 := Va.out 2 (by omega)
  have l_a_3 := Va.out 3 (by omega)
  have t_a := Va.out.lt
  have l_c_0 := Vc.out 0 (by omega)
  have l_c_1 := Vc.out 1 (by omega)
  have l_c_2 := Vc.out 2 (by omega)
  have l_c_3 := Vc.out 3 (by omega)
  have t_c := Vc.out.lt
  go_wp2_with fail
  refine (add_any (a := a) (b := c) Ha.out Hc.out _).mono ?_
  rintro _ w22 ⟨rfl, hb22⟩
  clear l_a_0 l_a_1 l_a_2 l_a_3 t_a l_c_0 l_c_1 l_c_2 l_c_3 t_c
  have Ua := Lib.hid (NumAt.later hb22 (Va.out))
  clear Va
  have Va := Ua
  clear Ua
  have Ub := Lib.hid (NumAt.later hb22 (Vb.out))
  clear Vb
  have Vb := Ub
  clear Ub
  have Uc := Lib.hid (NumAt.later hb22 (Vc.out))
  clear Vc
  have Vc := Uc
  clear Uc
  have BC := Lib.hid (below_later (BB.out) hb22)
  clear BB
  have BB := BC
  clear BC
  clear hb22
  unfold numV words
  have l_b_0 := Vb.out 0 (by omega)
  have l_b_1 := Vb.out 1 (by omega)
  have l_b_2 := Vb.out 2 (by omega)
  have l_b_3 := Vb.out 3 (by omega)
  have t_b := Vb.out.lt
  have l_c_0 := Vc.out 0 (by omega)
  have l_c_1 := Vc.out 1 (by omega)
  have l_c_2 := Vc.out 2 (by omega)
  have l_c_3 := Vc.out 3 (by omega)
  have t_c := Vc.out.lt
  go_wp2_with fail
  refine (add_any (a := b) (b := c) Hb.out Hc.out _).mono ?_
  rintro _ w23 ⟨rfl, hb23⟩
  clear l_b_0 l_b_1 l_b_2 l_b_3 t_b l_c_0 l_c_1 l_c_2 l_c_3 t_c
  have Ua := Lib.hid (NumAt.later hb23 ((Va.out).alloc _))
  clear Va
  have Va := Ua
  clear Ua
  have Ub := Lib.hid (NumAt.later hb23 ((Vb.out).alloc _))
  clear Vb
  have Vb := Ub
  clear Ub
  have Uc := Lib.hid (NumAt.later hb23 ((Vc.out).alloc _))
  clear Vc
  have Vc := Uc
  clear Uc
  have Vac := Lib.hid (NumAt.later hb23 (NumAt.new _ (addN a c) (w22.heap.size) _ (by simp)))
  have BC := Lib.hid (below_later (below_new (BB.out) _) hb23)
  clear BB
  have BB := BC
  clear BC
  clear hb23
  have hcar := Hcar.out
  have p1 := P1.out
  have p2 := P2.out
  unfold numV words
  go_wp2
  go_ret
  exact ⟨rfl, below_new (BB.out) _⟩

end Go.Proofs.Ytdhkkigijcggmaa
