/- Layer 2 (limbs): the walk of LimbsOf: it returns true. -/
import Derived.Test.YtdhkkigijcggmaaLimbsRef6
import Derived.Test.YtdhkkigijcggmaaLimbsSums
namespace Go.Proofs.Ytdhkkigijcggmaa
open Go.ChangeShapes Go.WideShapes Go.ChangeAt Go.RowKit

set_option maxRecDepth 40000 in
set_option maxHeartbeats 8000000 in
theorem limbsOf_walk {a b : Nat} (ha : a < M256) (hb : b < M256) (n : Int) (hn : -9223372036854775808 ≤ n ∧ n ≤ 9223372036854775807) (w : World) :
    Calls Try.prog 3 #[.agg #[.int .u64 (dgt W64 a 0), .int .u64 (dgt W64 a 1), .int .u64 (dgt W64 a 2), .int .u64 (dgt W64 a 3)], .agg #[.int .u64 (dgt W64 b 0), .int .u64 (dgt W64 b 1), .int .u64 (dgt W64 b 2), .int .u64 (dgt W64 b 3)], .int .i64 n] w fun e w' => e = .returned (.bool true) ∧ Below w.heap.size w w' := by
  have heq := eq4
  have Ha := Lib.hid ha
  have Hb := Lib.hid hb
  clear ha hb
  obtain ⟨s, es⟩ : ∃ s, s = addN a b := ⟨_, rfl⟩
  obtain ⟨y, ey⟩ : ∃ y, y = addNC a b := ⟨_, rfl⟩
  obtain ⟨d, ed⟩ : ∃ d, d = subN a b := ⟨_, rfl⟩
  obtain ⟨z, ez⟩ : ∃ z, z = subNB a b := ⟨_, rfl⟩
  obtain ⟨l, el⟩ : ∃ l, l = mulL a b := ⟨_, rfl⟩
  obtain ⟨h, eh⟩ : ∃ h, h = mulH a b := ⟨_, rfl⟩
  obtain ⟨cm, ecm⟩ : ∃ cm, cm = cmpN a b := ⟨_, rfl⟩
  obtain ⟨bs, ebs⟩ : ∃ bs, bs = bitsN a := ⟨_, rfl⟩
  obtain ⟨bi, ebi⟩ : ∃ bi, bi = bitN a n := ⟨_, rfl⟩
  obtain ⟨sh, esh⟩ : ∃ sh, sh = shiftN a n := ⟨_, rfl⟩
  have D1 := fun w => add_any Ha.out Hb.out w
  simp only [← es, ← ey] at D1
  unfold numV words at D1
  have C1 := Lib.hid D1
  clear D1
  have D2 := fun w => sub_any Ha.out Hb.out w
  simp only [← ed, ← ez] at D2
  unfold numV words at D2
  have C2 := Lib.hid D2
  clear D2
  have D3 := fun w => mul_any Ha.out Hb.out w
  simp only [← el, ← eh] at D3
  unfold numV words at D3
  have C3 := Lib.hid D3
  clear D3
  have D4 := fun w => Add_ref Ha.out Hb.out w
  simp only [← es, ← ey] at D4
  unfold numV words at D4
  have C4 := Lib.hid D4
  clear D4
  have D5 := fun w => Sub_ref Ha.out Hb.out w
  simp only [← ed, ← ez] at D5
  unfold numV words at D5
  have C5 := Lib.hid D5
  clear D5
  have D6 := fun w => Mul_ref Ha.out Hb.out w
  simp only [← el, ← eh] at D6
  unfold numV words at D6
  have C6 := Lib.hid D6
  clear D6
  have D7 := fun w => of_any (dgt W64 a 1) (dgtW_lt a 1) w
  unfold numV words at D7
  have C7 := Lib.hid D7
  clear D7
  have D8 := fun w => Of_ref (dgt W64 a 1) (dgtW_lt a 1) w
  unfold numV words at D8
  have C8 := Lib.hid D8
  clear D8
  have D9 := fun w => cmp_any Ha.out Hb.out w
  simp only [← ecm] at D9
  unfold numV words at D9
  have C9 := Lib.hid D9
  clear D9
  have D10 := fun w => Cmp_ref Ha.out Hb.out w
  simp only [← ecm] at D10
  unfold numV words at D10
  have C10 := Lib.hid D10
  clear D10
  have D11 := fun w => bits_any Ha.out w
  simp only [← ebs] at D11
  unfold numV words at D11
  have C11 := Lib.hid D11
  clear D11
  have D12 := fun w => Bits_ref Ha.out w
  simp only [← ebs] at D12
  unfold numV words at D12
  have C12 := Lib.hid D12
  clear D12
  have D13 := fun w => bit_any (a := a) n w hn.1 hn.2
  simp only [← ebi] at D13
  unfold numV words at D13
  have C13 := Lib.hid D13
  clear D13
  have D14 := fun w => Bit_ref a n w hn.1 hn.2
  simp only [← ebi] at D14
  unfold numV words at D14
  have C14 := Lib.hid D14
  clear D14
  have D15 := fun w => shift_any Ha.out n hn.1 hn.2 w
  simp only [← esh] at D15
  unfold numV words at D15
  have C15 := Lib.hid D15
  clear D15
  have D16 := fun w => Shift_ref Ha.out n hn.1 hn.2 w
  simp only [← esh] at D16
  unfold numV words at D16
  have C16 := Lib.hid D16
  clear D16
  clear es ey ed ez el eh ecm ebs ebi esh
  go_enter Try.func3, Try.ntmps3
  go_wp2_with fail
  refine (C1.out _).mono ?_
  rintro _ w1 ⟨rfl, hb1⟩
  have Ua := Lib.hid (NumAt.later hb1 ((NumAt.new _ a (w.heap.size) _ (by simp)).alloc _))
  have Ub := Lib.hid (NumAt.later hb1 (NumAt.new _ b (w.heap.size + 1) _ (by simp)))
  have BC := Lib.hid (below_later (below_new (below_new (Below.refl _ _) _) _) hb1)
  have Va := Ua
  clear Ua
  have Vb := Ub
  clear Ub
  have BB := BC
  clear BC
  clear hb1
  have l_a_0 := Va.out 0 (by omega)
  have l_a_1 := Va.out 1 (by omega)
  have l_a_2 := Va.out 2 (by omega)
  have l_a_3 := Va.out 3 (by omega)
  have t_a := Va.out.lt
  have l_b_0 := Vb.out 0 (by omega)
  have l_b_1 := Vb.out 1 (by omega)
  have l_b_2 := Vb.out 2 (by omega)
  have l_b_3 := Vb.out 3 (by omega)
  have t_b := Vb.out.lt
  go_wp2_with fail
  refine (C2.out _).mono ?_
  rintro _ w2 ⟨rfl, hb2⟩
  clear l_a_0 l_a_1 l_a_2 l_a_3 t_a l_b_0 l_b_1 l_b_2 l_b_3 t_b
  have Ua := Lib.hid (NumAt.later hb2 ((Va.out).alloc _))
  have Ub := Lib.hid (NumAt.later hb2 ((Vb.out).alloc _))
  have Us := Lib.hid (NumAt.later hb2 (NumAt.new _ s (w1.heap.size) _ (by simp)))
  have BC := Lib.hid (below_later (below_new (BB.out) _) hb2)
  clear Va
  clear Vb
  clear BB
  have Va := Ua
  clear Ua
  have Vb := Ub
  clear Ub
  have Vs := Us
  clear Us
  have BB := BC
  clear BC
  clear hb2
  have l_a_0 := Va.out 0 (by omega)
  have l_a_1 := Va.out 1 (by omega)
  have l_a_2 := Va.out 2 (by omega)
  have l_a_3 := Va.out 3 (by omega)
  have t_a := Va.out.lt
  have l_b_0 := Vb.out 0 (by omega)
  have l_b_1 := Vb.out 1 (by omega)
  have l_b_2 := Vb.out 2 (by omega)
  have l_b_3 := Vb.out 3 (by omega)
  have t_b := Vb.out.lt
  go_wp2_with fail
  refine (C3.out _).mono ?_
  rintro _ w3 ⟨rfl, hb3⟩
  clear l_a_0 l_a_1 l_a_2 l_a_3 t_a l_b_0 l_b_1 l_b_2 l_b_3 t_b
  have Ua := Lib.hid (NumAt.later hb3 ((Va.out).alloc _))
  have Ub := Lib.hid (NumAt.later hb3 ((Vb.out).alloc _))
  have Us := Lib.hid (NumAt.later hb3 ((Vs.out).alloc _))
  have Ud := Lib.hid (NumAt.later hb3 (NumAt.new _ d (w2.heap.size) _ (by simp)))
  have BC := Lib.hid (below_later (below_new (BB.out) _) hb3)
  clear Va
  clear Vb
  clear Vs
  clear BB
  have Va := Ua
  clear Ua
  have Vb := Ub
  clear Ub
  have Vs := Us
  clear Us
  have Vd := Ud
  clear Ud
  have BB := BC
  clear BC
  clear hb3
  have l_a_0 := Va.out 0 (by omega)
  have l_a_1 := Va.out 1 (by omega)
  have l_a_2 := Va.out 2 (by omega)
  have l_a_3 := Va.out 3 (by omega)
  have t_a := Va.out.lt
  have l_b_0 := Vb.out 0 (by omega)
  have l_b_1 := Vb.out 1 (by omega)
  have l_b_2 := Vb.out 2 (by omega)
  have l_b_3 := Vb.out 3 (by omega)
  have t_b := Vb.out.lt
  have u_b : w.heap.size < w3.heap.size := by omega
  go_wp2_with fail
  refine (C4.out _).mono ?_
  rintro _ w4 ⟨rfl, hb4⟩
  clear l_a_0 l_a_1 l_a_2 l_a_3 t_a l_b_0 l_b_1 l_b_2 l_b_3 t_b u_b
  have Ua := Lib.hid (NumAt.later hb4 (((Va.out).alloc _).alloc _))
  have Ub := Lib.hid (NumAt.later hb4 (((Vb.out).alloc _).alloc _))
  have Us := Lib.hid (NumAt.later hb4 (((Vs.out).alloc _).alloc _))
  have Ud := Lib.hid (NumAt.later hb4 (((Vd.out).alloc _).alloc _))
  have Ul := Lib.hid (NumAt.later hb4 ((NumAt.new _ l (w3.heap.size) _ (by simp)).alloc _))
  have Uh := Lib.hid (NumAt.later hb4 (NumAt.new _ h (w3.heap.size + 1) _ (by simp)))
  have BC := Lib.hid (below_later (below_new (below_new (BB.out) _) _) hb4)
  clear Va
  clear Vb
  clear Vs
  clear Vd
  clear BB
  have Va := Ua
  clear Ua
  have Vb := Ub
  clear Ub
  have Vs := Us
  clear Us
  have Vd := Ud
  clear Ud
  have Vl := Ul
  clear Ul
  have Vh := Uh
  clear Uh
  have BB := BC
  clear BC
  clear hb4
  have l_a_0 := Va.out 0 (by omega)
  have l_a_1 := Va.out 1 (by omega)
  have l_a_2 := Va.out 2 (by omega)
  have l_a_3 := Va.out 3 (by omega)
  have t_a := Va.out.lt
  have l_b_0 := Vb.out 0 (by omega)
  have l_b_1 := Vb.out 1 (by omega)
  have l_b_2 := Vb.out 2 (by omega)
  have l_b_3 := Vb.out 3 (by omega)
  have t_b := Vb.out.lt
  go_wp2_with fail
  refine (C5.out _).mono ?_
  rintro _ w5 ⟨rfl, hb5⟩
  clear l_a_0 l_a_1 l_a_2 l_a_3 t_a l_b_0 l_b_1 l_b_2 l_b_3 t_b
  have Ua := Lib.hid (NumAt.later hb5 ((Va.out).alloc _))
  have Ub := Lib.hid (NumAt.later hb5 ((Vb.out).alloc _))
  have Us := Lib.hid (NumAt.later hb5 ((Vs.out).alloc _))
  have Ud := Lib.hid (NumAt.later hb5 ((Vd.out).alloc _))
  have Ul := Lib.hid (NumAt.later hb5 ((Vl.out).alloc _))
  have Uh := Lib.hid (NumAt.later hb5 ((Vh.out).alloc _))
  have Ut := Lib.hid (NumAt.later hb5 (NumAt.new _ s (w4.heap.size) _ (by simp)))
  have BC := Lib.hid (below_later (below_new (BB.out) _) hb5)
  clear Va
  clear Vb
  clear Vs
  clear Vd
  clear Vl
  clear Vh
  clear BB
  have Va := Ua
  clear Ua
  have Vb := Ub
  clear Ub
  have Vs := Us
  clear Us
  have Vd := Ud
  clear Ud
  have Vl := Ul
  clear Ul
  have Vh := Uh
  clear Uh
  have Vt := Ut
  clear Ut
  have BB := BC
  clear BC
  clear hb5
  have l_a_0 := Va.out 0 (by omega)
  have l_a_1 := Va.out 1 (by omega)
  have l_a_2 := Va.out 2 (by omega)
  have l_a_3 := Va.out 3 (by omega)
  have t_a := Va.out.lt
  have l_b_0 := Vb.out 0 (by omega)
  have l_b_1 := Vb.out 1 (by omega)
  have l_b_2 := Vb.out 2 (by omega)
  have l_b_3 := Vb.out 3 (by omega)
  have t_b := Vb.out.lt
  go_wp2_with fail
  refine (C6.out _).mono ?_
  rintro _ w6 ⟨rfl, hb6⟩
  clear l_a_0 l_a_1 l_a_2 l_a_3 t_a l_b_0 l_b_1 l_b_2 l_b_3 t_b
  have Ua := Lib.hid (NumAt.later hb6 ((Va.out).alloc _))
  have Ub := Lib.hid (NumAt.later hb6 ((Vb.out).alloc _))
  have Us := Lib.hid (NumAt.later hb6 ((Vs.out).alloc _))
  have Ud := Lib.hid (NumAt.later hb6 ((Vd.out).alloc _))
  have Ul := Lib.hid (NumAt.later hb6 ((Vl.out).alloc _))
  have Uh := Lib.hid (NumAt.later hb6 ((Vh.out).alloc _))
  have Ut := Lib.hid (NumAt.later hb6 ((Vt.out).alloc _))
  have Uu := Lib.hid (NumAt.later hb6 (NumAt.new _ d (w5.heap.size) _ (by simp)))
  have BC := Lib.hid (below_later (below_new (BB.out) _) hb6)
  clear Va
  clear Vb
  clear Vs
  clear Vd
  clear Vl
  clear Vh
  clear Vt
  clear BB
  have Va := Ua
  clear Ua
  have Vb := Ub
  clear Ub
  have Vs := Us
  clear Us
  have Vd := Ud
  clear Ud
  have Vl := Ul
  clear Ul
  have Vh := Uh
  clear Uh
  have Vt := Ut
  clear Ut
  have Vu := Uu
  clear Uu
  have BB := BC
  clear BC
  clear hb6
  go_wp2_with fail
  refine wp_region_num w [(w.heap.size, a), (w.heap.size + 1, b), (w1.heap.size, s), (w2.heap.size, d), (w3.heap.size, l), (w3.heap.size + 1, h), (w4.heap.size, s), (w5.heap.size, d), (w6.heap.size, l), (w6.heap.size + 1, h)] (by kernel_rfl) (by kernel_rfl) ?_ ?_ (fun F hne hcl hfa => ?_)
  · simp only [List.mem_cons, List.not_mem_nil, or_false, forall_eq_or_imp, forall_eq]
    exact ⟨((Va.out).alloc _).alloc _, ((Vb.out).alloc _).alloc _, ((Vs.out).alloc _).alloc _, ((Vd.out).alloc _).alloc _, ((Vl.out).alloc _).alloc _, ((Vh.out).alloc _).alloc _, ((Vt.out).alloc _).alloc _, ((Vu.out).alloc _).alloc _, (NumAt.new _ l (w6.heap.size) _ (by simp)).alloc _, NumAt.new _ h (w6.heap.size + 1) _ (by simp)⟩
  · exact below_new (below_new (BB.out) _) _
  have r_a_0 := fun X9 : Wd F => (hfa X9.world X9.fact).1 (w.heap.size, a) (by simp) 0 (by omega)
  have r_a_1 := fun X9 : Wd F => (hfa X9.world X9.fact).1 (w.heap.size, a) (by simp) 1 (by omega)
  have r_a_2 := fun X9 : Wd F => (hfa X9.world X9.fact).1 (w.heap.size, a) (by simp) 2 (by omega)
  have r_a_3 := fun X9 : Wd F => (hfa X9.world X9.fact).1 (w.heap.size, a) (by simp) 3 (by omega)
  have r_b_0 := fun X9 : Wd F => (hfa X9.world X9.fact).1 (w.heap.size + 1, b) (by simp) 0 (by omega)
  have r_b_1 := fun X9 : Wd F => (hfa X9.world X9.fact).1 (w.heap.size + 1, b) (by simp) 1 (by omega)
  have r_b_2 := fun X9 : Wd F => (hfa X9.world X9.fact).1 (w.heap.size + 1, b) (by simp) 2 (by omega)
  have r_b_3 := fun X9 : Wd F => (hfa X9.world X9.fact).1 (w.heap.size + 1, b) (by simp) 3 (by omega)
  have r_s_0 := fun X9 : Wd F => (hfa X9.world X9.fact).1 (w1.heap.size, s) (by simp) 0 (by omega)
  have r_s_1 := fun X9 : Wd F => (hfa X9.world X9.fact).1 (w1.heap.size, s) (by simp) 1 (by omega)
  have r_s_2 := fun X9 : Wd F => (hfa X9.world X9.fact).1 (w1.heap.size, s) (by simp) 2 (by omega)
  have r_s_3 := fun X9 : Wd F => (hfa X9.world X9.fact).1 (w1.heap.size, s) (by simp) 3 (by omega)
  have r_d_0 := fun X9 : Wd F => (hfa X9.world X9.fact).1 (w2.heap.size, d) (by simp) 0 (by omega)
  have r_d_1 := fun X9 : Wd F => (hfa X9.world X9.fact).1 (w2.heap.size, d) (by simp) 1 (by omega)
  have r_d_2 := fun X9 : Wd F => (hfa X9.world X9.fact).1 (w2.heap.size, d) (by simp) 2 (by omega)
  have r_d_3 := fun X9 : Wd F => (hfa X9.world X9.fact).1 (w2.heap.size, d) (by simp) 3 (by omega)
  have r_l_0 := fun X9 : Wd F => (hfa X9.world X9.fact).1 (w3.heap.size, l) (by simp) 0 (by omega)
  have r_l_1 := fun X9 : Wd F => (hfa X9.world X9.fact).1 (w3.heap.size, l) (by simp) 1 (by omega)
  have r_l_2 := fun X9 : Wd F => (hfa X9.world X9.fact).1 (w3.heap.size, l) (by simp) 2 (by omega)
  have r_l_3 := fun X9 : Wd F => (hfa X9.world X9.fact).1 (w3.heap.size, l) (by simp) 3 (by omega)
  have r_h_0 := fun X9 : Wd F => (hfa X9.world X9.fact).1 (w3.heap.size + 1, h) (by simp) 0 (by omega)
  have r_h_1 := fun X9 : Wd F => (hfa X9.world X9.fact).1 (w3.heap.size + 1, h) (by simp) 1 (by omega)
  have r_h_2 := fun X9 : Wd F => (hfa X9.world X9.fact).1 (w3.heap.size + 1, h) (by simp) 2 (by omega)
  have r_h_3 := fun X9 : Wd F => (hfa X9.world X9.fact).1 (w3.heap.size + 1, h) (by simp) 3 (by omega)
  have r_t_0 := fun X9 : Wd F => (hfa X9.world X9.fact).1 (w4.heap.size, s) (by simp) 0 (by omega)
  have r_t_1 := fun X9 : Wd F => (hfa X9.world X9.fact).1 (w4.heap.size, s) (by simp) 1 (by omega)
  have r_t_2 := fun X9 : Wd F => (hfa X9.world X9.fact).1 (w4.heap.size, s) (by simp) 2 (by omega)
  have r_t_3 := fun X9 : Wd F => (hfa X9.world X9.fact).1 (w4.heap.size, s) (by simp) 3 (by omega)
  have r_u_0 := fun X9 : Wd F => (hfa X9.world X9.fact).1 (w5.heap.size, d) (by simp) 0 (by omega)
  have r_u_1 := fun X9 : Wd F => (hfa X9.world X9.fact).1 (w5.heap.size, d) (by simp) 1 (by omega)
  have r_u_2 := fun X9 : Wd F => (hfa X9.world X9.fact).1 (w5.heap.size, d) (by simp) 2 (by omega)
  have r_u_3 := fun X9 : Wd F => (hfa X9.world X9.fact).1 (w5.heap.size, d) (by simp) 3 (by omega)
  have r_p_0 := fun X9 : Wd F => (hfa X9.world X9.fact).1 (w6.heap.size, l) (by simp) 0 (by omega)
  have r_p_1 := fun X9 : Wd F => (hfa X9.world X9.fact).1 (w6.heap.size, l) (by simp) 1 (by omega)
  have r_p_2 := fun X9 : Wd F => (hfa X9.world X9.fact).1 (w6.heap.size, l) (by simp) 2 (by omega)
  have r_p_3 := fun X9 : Wd F => (hfa X9.world X9.fact).1 (w6.heap.size, l) (by simp) 3 (by omega)
  have r_q_0 := fun X9 : Wd F => (hfa X9.world X9.fact).1 (w6.heap.size + 1, h) (by simp) 0 (by omega)
  have r_q_1 := fun X9 : Wd F => (hfa X9.world X9.fact).1 (w6.heap.size + 1, h) (by simp) 1 (by omega)
  have r_q_2 := fun X9 : Wd F => (hfa X9.world X9.fact).1 (w6.heap.size + 1, h) (by simp) 2 (by omega)
  have r_q_3 := fun X9 : Wd F => (hfa X9.world X9.fact).1 (w6.heap.size + 1, h) (by simp) 3 (by omega)
  have HFB := Lib.hid (fun x : Wd F => (hfa x.world x.fact).2)
  have HCL := Lib.hid hcl
  have hfa9 := fun x : Wd F => hfa x.world x.fact
  have HFA := Lib.hid hfa9
  clear hfa9
  clear hcl hfa
  try simp only [List.append_eq, List.cons_append, List.nil_append]
  repeat (go_big_quiet_step ((first
    | (go_at_call 16; with_reducible exact to_class HCL.out (C7.out _))
    | (go_at_call 17; with_reducible exact to_class HCL.out (C8.out _))
    | (go_at_call 18; with_reducible exact to_class HCL.out (C9.out _))
    | (go_at_call 19; with_reducible exact to_class HCL.out (C10.out _))
    | (go_at_call 20; with_reducible exact to_class HCL.out (C11.out _))
    | (go_at_call 21; with_reducible exact to_class HCL.out (C12.out _))
    | (go_at_call 22; with_reducible exact to_class HCL.out (C13.out _))
    | (go_at_call 23; with_reducible exact to_class HCL.out (C14.out _))
    | (go_at_call 24; with_reducible exact to_class HCL.out (C15.out _))
    | (go_at_call 25; with_reducible exact to_class HCL.out (C16.out _)))))
  refine wpQuiet_nil ?_
  intro w9 hw9
  obtain ⟨x9, hw9⟩ := hw9
  have B9 := Lib.hid (HFB.out x9)
  have hfa9 := HFA.out
  rw [← hw9] at B9
  clear hw9 hfa9
  go_wp2
  go_ret
  exact ⟨rfl, B9.out⟩
end Go.Proofs.Ytdhkkigijcggmaa
