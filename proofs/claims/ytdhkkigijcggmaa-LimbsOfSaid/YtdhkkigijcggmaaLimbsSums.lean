/- Layer 2 (limbs): the walk of LimbsSums: it returns true. -/
import Derived.Test.YtdhkkigijcggmaaAlive
namespace Go.Proofs.Ytdhkkigijcggmaa
open Go.ChangeShapes Go.WideShapes Go.ChangeAt Go.RowKit

theorem addN_comm (a b : Nat) : addN a b = addN b a := by unfold addN; rw [Nat.add_comm]
theorem addNC_comm (a b : Nat) : addNC a b = addNC b a := by unfold addNC; rw [Nat.add_comm]
theorem addN_assoc (a b c : Nat) : addN (addN a b) c = addN a (addN b c) := by unfold addN M256; omega
theorem addNC_le {a b : Nat} (ha : a < M256) (hb : b < M256) : addNC a b ≤ 1 := by unfold addNC; unfold M256 at *; omega
theorem addNC_int_le {a b : Nat} (ha : a < M256) (hb : b < M256) : ((addNC a b : Nat) : Int) ≤ 1 := by have := addNC_le ha hb; omega
theorem carries_int (a b c : Nat) : ((addNC a b : Nat) : Int) + ((addNC (addN a b) c : Nat) : Int) = ((addNC b c : Nat) : Int) + ((addNC a (addN b c) : Nat) : Int) := by
  unfold addNC addN M256
  omega
theorem sub_add {a b : Nat} (ha : a < M256) (hb : b < M256) : subN (addN a b) b = a ∧ subNB (addN a b) b = addNC a b := by
  unfold subN subNB addN addNC
  unfold M256 at *
  constructor
  · omega
  · split <;> omega
theorem sub_self (a : Nat) : subN a a = 0 ∧ subNB a a = 0 := by
  unfold subN subNB M256
  constructor
  · omega
  · rw [if_neg (by omega)]

set_option maxHeartbeats 8000000 in
theorem limbsSums_walk {a b c : Nat} (ha : a < M256) (hb : b < M256) (hc : c < M256) (w : World) :
    Calls Try.prog 4 #[.agg #[.int .u64 (dgt W64 a 0), .int .u64 (dgt W64 a 1), .int .u64 (dgt W64 a 2), .int .u64 (dgt W64 a 3), .int .u64 (dgt W64 b 0), .int .u64 (dgt W64 b 1), .int .u64 (dgt W64 b 2), .int .u64 (dgt W64 b 3),
      .int .u64 (dgt W64 c 0), .int .u64 (dgt W64 c 1), .int .u64 (dgt W64 c 2), .int .u64 (dgt W64 c 3)]] w fun e w' => e = .returned (.bool true) ∧ Below w.heap.size w w' := by
  have heq := eq4
  have Ha := Lib.hid ha
  have Hb := Lib.hid hb
  have Hc := Lib.hid hc
  clear ha hb hc
  go_enter Try.func4, Try.ntmps4
  go_wp2_with fail
  refine (add_any (a := a) (b := b) Ha.out Hb.out _).mono ?_
  rintro _ w1 ⟨rfl, hb1⟩
  have Va := Lib.hid (NumAt.later hb1 (((NumAt.new _ a (w.heap.size + 1) _ (by simp)).alloc _).alloc _))
  have Vb := Lib.hid (NumAt.later hb1 ((NumAt.new _ b (w.heap.size + 2) _ (by simp)).alloc _))
  have Vc := Lib.hid (NumAt.later hb1 (NumAt.new _ c (w.heap.size + 3) _ (by simp)))
  have BB := Lib.hid (below_later (below_new (below_new (below_new (below_new (Below.refl _ _) _) _) _) _) hb1)
  clear hb1
  unfold numV words
  have l_a_0 := Va.out 0 (by omega)
  have l_a_1 := Va.out 1 (by omega)
  have l_a_2 := Va.out 2 (by omega)
  have l_a_3 := Va.out 3 (by omega)
  have t_a := Va.out.lt
  have l_b_0 := Vb.out 0 (by omega)
  have l_b_1 := Vb.out 1 (by omega)
  have l_b_2 := Vb.out 2 (by omega)
  have l_b_3 := Vb.out 3 (by omega)
  have t_b := Vb.out.lt
  go_wp2_with fail
  refine (add_any (a := b) (b := a) Hb.out Ha.out _).mono ?_
  rintro _ w2 ⟨rfl, hb2⟩
  clear l_a_0 l_a_1 l_a_2 l_a_3 t_a l_b_0 l_b_1 l_b_2 l_b_3 t_b
  have Ua := Lib.hid (NumAt.later hb2 ((Va.out).alloc _))
  clear Va
  have Va := Ua
  clear Ua
  have Ub := Lib.hid (NumAt.later hb2 ((Vb.out).alloc _))
  clear Vb
  have Vb := Ub
  clear Ub
  have Uc := Lib.hid (NumAt.later hb2 ((Vc.out).alloc _))
  clear Vc
  have Vc := Uc
  clear Uc
  have Vab := Lib.hid (NumAt.later hb2 (NumAt.new _ (addN a b) (w1.heap.size) _ (by simp)))
  have BC := Lib.hid (below_later (below_new (BB.out) _) hb2)
  clear BB
  have BB := BC
  clear BC
  clear hb2
  rw [addN_comm b a, addNC_comm b a]
  unfold numV words
  have l_ab_0 := Vab.out 0 (by omega)
  have l_ab_1 := Vab.out 1 (by omega)
  have l_ab_2 := Vab.out 2 (by omega)
  have l_ab_3 := Vab.out 3 (by omega)
  have t_ab := Vab.out.lt
  have l_c_0 := Vc.out 0 (by omega)
  have l_c_1 := Vc.out 1 (by omega)
  have l_c_2 := Vc.out 2 (by omega)
  have l_c_3 := Vc.out 3 (by omega)
  have t_c := Vc.out.lt
  go_wp2_with fail
  refine (add_any (a := (addN a b)) (b := c) (addN_lt _ _) Hc.out _).mono ?_
  rintro _ w3 ⟨rfl, hb3⟩
  clear l_ab_0 l_ab_1 l_ab_2 l_ab_3 t_ab l_c_0 l_c_1 l_c_2 l_c_3 t_c
  have Ua := Lib.hid (NumAt.later hb3 ((Va.out).alloc _))
  clear Va
  have Va := Ua
  clear Ua
  have Ub := Lib.hid (NumAt.later hb3 ((Vb.out).alloc _))
  clear Vb
  have Vb := Ub
  clear Ub
  have Uc := Lib.hid (NumAt.later hb3 ((Vc.out).alloc _))
  clear Vc
  have Vc := Uc
  clear Uc
  have Uab := Lib.hid (NumAt.later hb3 ((Vab.out).alloc _))
  clear Vab
  have Vab := Uab
  clear Uab
  have Vba := Lib.hid (NumAt.later hb3 (NumAt.new _ (addN a b) (w2.heap.size) _ (by simp)))
  have BC := Lib.hid (below_later (below_new (BB.out) _) hb3)
  clear BB
  have BB := BC
  clear BC
  clear hb3
  unfold numV words
  have l_b_0 := Vb.out 0 (by omega)
  have l_b_1 := Vb.out 1 (by omega)
  have l_b_2 := Vb.out 2 (by omega)
  have l_b_3 := Vb.out 3 (by omega)
  have t_b := Vb.out.lt
  have l_c_0 := Vc.out 0 (by omega)
  have l_c_1 := Vc.out 1 (by omega)
  have l_c_2 := Vc.out 2 (by omega)
  have l_c_3 := Vc.out 3 (by omega)
  have t_c := Vc.out.lt
  go_wp2_with fail
  refine (add_any (a := b) (b := c) Hb.out Hc.out _).mono ?_
  rintro _ w4 ⟨rfl, hb4⟩
  clear l_b_0 l_b_1 l_b_2 l_b_3 t_b l_c_0 l_c_1 l_c_2 l_c_3 t_c
  have Ua := Lib.hid (NumAt.later hb4 ((Va.out).alloc _))
  clear Va
  have Va := Ua
  clear Ua
  have Ub := Lib.hid (NumAt.later hb4 ((Vb.out).alloc _))
  clear Vb
  have Vb := Ub
  clear Ub
  have Uc := Lib.hid (NumAt.later hb4 ((Vc.out).alloc _))
  clear Vc
  have Vc := Uc
  clear Uc
  have Uab := Lib.hid (NumAt.later hb4 ((Vab.out).alloc _))
  clear Vab
  have Vab := Uab
  clear Uab
  have Uba := Lib.hid (NumAt.later hb4 ((Vba.out).alloc _))
  clear Vba
  have Vba := Uba
  clear Uba
  have Vleft := Lib.hid (NumAt.later hb4 (NumAt.new _ (addN (addN a b) c) (w3.heap.size) _ (by simp)))
  have BC := Lib.hid (below_later (below_new (BB.out) _) hb4)
  clear BB
  have BB := BC
  clear BC
  clear hb4
  unfold numV words
  have l_a_0 := Va.out 0 (by omega)
  have l_a_1 := Va.out 1 (by omega)
  have l_a_2 := Va.out 2 (by omega)
  have l_a_3 := Va.out 3 (by omega)
  have t_a := Va.out.lt
  go_wp2_with fail
  refine (add_any (a := a) (b := (addN b c)) Ha.out (addN_lt _ _) _).mono ?_
  rintro _ w5 ⟨rfl, hb5⟩
  clear l_a_0 l_a_1 l_a_2 l_a_3 t_a
  have Ua := Lib.hid (NumAt.later hb5 ((Va.out).alloc _))
  clear Va
  have Va := Ua
  clear Ua
  have Ub := Lib.hid (NumAt.later hb5 ((Vb.out).alloc _))
  clear Vb
  have Vb := Ub
  clear Ub
  have Uc := Lib.hid (NumAt.later hb5 ((Vc.out).alloc _))
  clear Vc
  have Vc := Uc
  clear Uc
  have Uab := Lib.hid (NumAt.later hb5 ((Vab.out).alloc _))
  clear Vab
  have Vab := Uab
  clear Uab
  have Uba := Lib.hid (NumAt.later hb5 ((Vba.out).alloc _))
  clear Vba
  have Vba := Uba
  clear Uba
  have Uleft := Lib.hid (NumAt.later hb5 ((Vleft.out).alloc _))
  clear Vleft
  have Vleft := Uleft
  clear Uleft
  have Vbc := Lib.hid (NumAt.later hb5 (NumAt.new _ (addN b c) (w4.heap.size) _ (by simp)))
  have BC := Lib.hid (below_later (below_new (BB.out) _) hb5)
  clear BB
  have BB := BC
  clear BC
  clear hb5
  rw [← addN_assoc a b c]
  unfold numV words
  have l_ab_0 := Vab.out 0 (by omega)
  have l_ab_1 := Vab.out 1 (by omega)
  have l_ab_2 := Vab.out 2 (by omega)
  have l_ab_3 := Vab.out 3 (by omega)
  have t_ab := Vab.out.lt
  have l_b_0 := Vb.out 0 (by omega)
  have l_b_1 := Vb.out 1 (by omega)
  have l_b_2 := Vb.out 2 (by omega)
  have l_b_3 := Vb.out 3 (by omega)
  have t_b := Vb.out.lt
  go_wp2_with fail
  refine (sub_any (a := (addN a b)) (b := b) (addN_lt _ _) Hb.out _).mono ?_
  rintro _ w6 ⟨rfl, hb6⟩
  clear l_ab_0 l_ab_1 l_ab_2 l_ab_3 t_ab l_b_0 l_b_1 l_b_2 l_b_3 t_b
  have Ua := Lib.hid (NumAt.later hb6 ((Va.out).alloc _))
  clear Va
  have Va := Ua
  clear Ua
  have Ub := Lib.hid (NumAt.later hb6 ((Vb.out).alloc _))
  clear Vb
  have Vb := Ub
  clear Ub
  have Uc := Lib.hid (NumAt.later hb6 ((Vc.out).alloc _))
  clear Vc
  have Vc := Uc
  clear Uc
  have Uab := Lib.hid (NumAt.later hb6 ((Vab.out).alloc _))
  clear Vab
  have Vab := Uab
  clear Uab
  have Uba := Lib.hid (NumAt.later hb6 ((Vba.out).alloc _))
  clear Vba
  have Vba := Uba
  clear Uba
  have Uleft := Lib.hid (NumAt.later hb6 ((Vleft.out).alloc _))
  clear Vleft
  have Vleft := Uleft
  clear Uleft
  have Ubc := Lib.hid (NumAt.later hb6 ((Vbc.out).alloc _))
  clear Vbc
  have Vbc := Ubc
  clear Ubc
  have Vright := Lib.hid (NumAt.later hb6 (NumAt.new _ (addN (addN a b) c) (w5.heap.size) _ (by simp)))
  have BC := Lib.hid (below_later (below_new (BB.out) _) hb6)
  clear BB
  have BB := BC
  clear BC
  clear hb6
  rw [(sub_add Ha.out Hb.out).1, (sub_add Ha.out Hb.out).2]
  unfold numV words
  have l_a_0 := Va.out 0 (by omega)
  have l_a_1 := Va.out 1 (by omega)
  have l_a_2 := Va.out 2 (by omega)
  have l_a_3 := Va.out 3 (by omega)
  have t_a := Va.out.lt
  go_wp2_with fail
  refine (sub_any (a := a) (b := a) Ha.out Ha.out _).mono ?_
  rintro _ w7 ⟨rfl, hb7⟩
  clear l_a_0 l_a_1 l_a_2 l_a_3 t_a
  have Ua := Lib.hid (NumAt.later hb7 ((Va.out).alloc _))
  clear Va
  have Va := Ua
  clear Ua
  have Ub := Lib.hid (NumAt.later hb7 ((Vb.out).alloc _))
  clear Vb
  have Vb := Ub
  clear Ub
  have Uc := Lib.hid (NumAt.later hb7 ((Vc.out).alloc _))
  clear Vc
  have Vc := Uc
  clear Uc
  have Uab := Lib.hid (NumAt.later hb7 ((Vab.out).alloc _))
  clear Vab
  have Vab := Uab
  clear Uab
  have Uba := Lib.hid (NumAt.later hb7 ((Vba.out).alloc _))
  clear Vba
  have Vba := Uba
  clear Uba
  have Uleft := Lib.hid (NumAt.later hb7 ((Vleft.out).alloc _))
  clear Vleft
  have Vleft := Uleft
  clear Uleft
  have Ubc := Lib.hid (NumAt.later hb7 ((Vbc.out).alloc _))
  clear Vbc
  have Vbc := Ubc
  clear Ubc
  have Uright := Lib.hid (NumAt.later hb7 ((Vright.out).alloc _))
  clear Vright
  have Vright := Uright
  clear Uright
  have Vback := Lib.hid (NumAt.later hb7 (NumAt.new _ a (w6.heap.size) _ (by simp)))
  have BC := Lib.hid (below_later (below_new (BB.out) _) hb7)
  clear BB
  have BB := BC
  clear BC
  clear hb7
  rw [(sub_self a).1, (sub_self a).2]
  unfold numV words
  have m1 := addNC_int_le Ha.out Hb.out
  have m2 := addNC_int_le (addN_lt a b) Hc.out
  have m3 := addNC_int_le Hb.out Hc.out
  have m4 := addNC_int_le Ha.out (addN_lt b c)
  have me := carries_int a b c
  go_wp2_with fail
  refine wp_region_num w [(w.heap.size + 1, a), (w.heap.size + 2, b), (w.heap.size + 3, c), (w1.heap.size, (addN a b)), (w2.heap.size, (addN a b)), (w3.heap.size, (addN (addN a b) c)), (w5.heap.size, (addN (addN a b) c)), (w6.heap.size, a), (w7.heap.size, 0)] (by kernel_rfl) (by kernel_rfl) ?_ ?_ (fun F hne hcl hfa => ?_)
  · simp only [List.mem_cons, List.not_mem_nil, or_false, forall_eq_or_imp, forall_eq]
    exact ⟨(Va.out).alloc _, (Vb.out).alloc _, (Vc.out).alloc _, (Vab.out).alloc _, (Vba.out).alloc _, (Vleft.out).alloc _, (Vright.out).alloc _, (Vback.out).alloc _, NumAt.new _ 0 (w7.heap.size) _ (by simp)⟩
  · exact below_new (BB.out) _
  have r_a_0 := fun x : Wd F => (hfa x.world x.fact).1 (w.heap.size + 1, a) (by simp) 0 (by omega)
  have r_a_1 := fun x : Wd F => (hfa x.world x.fact).1 (w.heap.size + 1, a) (by simp) 1 (by omega)
  have r_a_2 := fun x : Wd F => (hfa x.world x.fact).1 (w.heap.size + 1, a) (by simp) 2 (by omega)
  have r_a_3 := fun x : Wd F => (hfa x.world x.fact).1 (w.heap.size + 1, a) (by simp) 3 (by omega)
  have r_b_0 := fun x : Wd F => (hfa x.world x.fact).1 (w.heap.size + 2, b) (by simp) 0 (by omega)
  have r_b_1 := fun x : Wd F => (hfa x.world x.fact).1 (w.heap.size + 2, b) (by simp) 1 (by omega)
  have r_b_2 := fun x : Wd F => (hfa x.world x.fact).1 (w.heap.size + 2, b) (by simp) 2 (by omega)
  have r_b_3 := fun x : Wd F => (hfa x.world x.fact).1 (w.heap.size + 2, b) (by simp) 3 (by omega)
  have r_c_0 := fun x : Wd F => (hfa x.world x.fact).1 (w.heap.size + 3, c) (by simp) 0 (by omega)
  have r_c_1 := fun x : Wd F => (hfa x.world x.fact).1 (w.heap.size + 3, c) (by simp) 1 (by omega)
  have r_c_2 := fun x : Wd F => (hfa x.world x.fact).1 (w.heap.size + 3, c) (by simp) 2 (by omega)
  have r_c_3 := fun x : Wd F => (hfa x.world x.fact).1 (w.heap.size + 3, c) (by simp) 3 (by omega)
  have r_ab_0 := fun x : Wd F => (hfa x.world x.fact).1 (w1.heap.size, (addN a b)) (by simp) 0 (by omega)
  have r_ab_1 := fun x : Wd F => (hfa x.world x.fact).1 (w1.heap.size, (addN a b)) (by simp) 1 (by omega)
  have r_ab_2 := fun x : Wd F => (hfa x.world x.fact).1 (w1.heap.size, (addN a b)) (by simp) 2 (by omega)
  have r_ab_3 := fun x : Wd F => (hfa x.world x.fact).1 (w1.heap.size, (addN a b)) (by simp) 3 (by omega)
  have r_ba_0 := fun x : Wd F => (hfa x.world x.fact).1 (w2.heap.size, (addN a b)) (by simp) 0 (by omega)
  have r_ba_1 := fun x : Wd F => (hfa x.world x.fact).1 (w2.heap.size, (addN a b)) (by simp) 1 (by omega)
  have r_ba_2 := fun x : Wd F => (hfa x.world x.fact).1 (w2.heap.size, (addN a b)) (by simp) 2 (by omega)
  have r_ba_3 := fun x : Wd F => (hfa x.world x.fact).1 (w2.heap.size, (addN a b)) (by simp) 3 (by omega)
  have r_left_0 := fun x : Wd F => (hfa x.world x.fact).1 (w3.heap.size, (addN (addN a b) c)) (by simp) 0 (by omega)
  have r_left_1 := fun x : Wd F => (hfa x.world x.fact).1 (w3.heap.size, (addN (addN a b) c)) (by simp) 1 (by omega)
  have r_left_2 := fun x : Wd F => (hfa x.world x.fact).1 (w3.heap.size, (addN (addN a b) c)) (by simp) 2 (by omega)
  have r_left_3 := fun x : Wd F => (hfa x.world x.fact).1 (w3.heap.size, (addN (addN a b) c)) (by simp) 3 (by omega)
  have r_right_0 := fun x : Wd F => (hfa x.world x.fact).1 (w5.heap.size, (addN (addN a b) c)) (by simp) 0 (by omega)
  have r_right_1 := fun x : Wd F => (hfa x.world x.fact).1 (w5.heap.size, (addN (addN a b) c)) (by simp) 1 (by omega)
  have r_right_2 := fun x : Wd F => (hfa x.world x.fact).1 (w5.heap.size, (addN (addN a b) c)) (by simp) 2 (by omega)
  have r_right_3 := fun x : Wd F => (hfa x.world x.fact).1 (w5.heap.size, (addN (addN a b) c)) (by simp) 3 (by omega)
  have r_back_0 := fun x : Wd F => (hfa x.world x.fact).1 (w6.heap.size, a) (by simp) 0 (by omega)
  have r_back_1 := fun x : Wd F => (hfa x.world x.fact).1 (w6.heap.size, a) (by simp) 1 (by omega)
  have r_back_2 := fun x : Wd F => (hfa x.world x.fact).1 (w6.heap.size, a) (by simp) 2 (by omega)
  have r_back_3 := fun x : Wd F => (hfa x.world x.fact).1 (w6.heap.size, a) (by simp) 3 (by omega)
  have r_none_0 := fun x : Wd F => (hfa x.world x.fact).1 (w7.heap.size, 0) (by simp) 0 (by omega)
  have r_none_1 := fun x : Wd F => (hfa x.world x.fact).1 (w7.heap.size, 0) (by simp) 1 (by omega)
  have r_none_2 := fun x : Wd F => (hfa x.world x.fact).1 (w7.heap.size, 0) (by simp) 2 (by omega)
  have r_none_3 := fun x : Wd F => (hfa x.world x.fact).1 (w7.heap.size, 0) (by simp) 3 (by omega)
  have HFB := Lib.hid (fun x : Wd F => (hfa x.world x.fact).2)
  have HCL := Lib.hid hcl
  clear hcl hfa
  try simp only [List.append_eq, List.cons_append, List.nil_append]
  repeat (go_big_quiet_step ((first
    | (go_at_call 16; exact to_class HCL.out (of_int _ (by omega) (by omega) _))
    | (go_at_call 26; exact to_class HCL.out (alive_any _)))))
  refine wpQuiet_nil ?_
  intro w9 hw9
  obtain ⟨x9, hw9⟩ := hw9
  have B9 := Lib.hid (HFB.out x9)
  rw [← hw9] at B9
  clear hw9
  go_wp2
  go_ret
  exact ⟨rfl, B9.out⟩
end Go.Proofs.Ytdhkkigijcggmaa
