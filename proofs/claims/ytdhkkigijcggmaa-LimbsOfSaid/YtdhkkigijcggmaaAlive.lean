/- Layer 2 (limbs): the statements' own 'alive' returns true. -/
import Derived.Test.YtdhkkigijcggmaaNums4
import Derived.Deep.RegionWith
namespace Go.Proofs.Ytdhkkigijcggmaa
open Go.ChangeShapes Go.WideShapes Go.ChangeAt Go.RowKit

theorem lit_num (x a b c d : Nat) (ha : dgt W64 x 0 = a) (hb : dgt W64 x 1 = b) (hc : dgt W64 x 2 = c) (hd : dgt W64 x 3 = d) : numV x = .agg #[.int .u64 a, .int .u64 b, .int .u64 c, .int .u64 d] := by
  unfold numV words
  rw [ha, hb, hc, hd]
theorem M_lt : M256 - 1 < M256 := by unfold M256; omega
theorem small_lt {x : Nat} (h : x < W64) : x < M256 := by unfold W64 at h; unfold M256; omega
theorem all_any (w : World) : Calls Try.prog 33 #[] w fun e w' => e = .returned (numV (M256 - 1)) ∧ Below w.heap.size w w' := by
  have e : numV (M256 - 1) = .agg #[.int .u64 18446744073709551615, .int .u64 18446744073709551615, .int .u64 18446744073709551615, .int .u64 18446744073709551615] := lit_num _ 18446744073709551615 18446744073709551615 18446744073709551615 18446744073709551615 (by decide) (by decide) (by decide) (by decide)
  have E := Lib.hid e
  clear e
  go_enter Try.func33, Try.ntmps33
  go_wp2
  refine bodyPost_ret (v := numV (M256 - 1)) (by rw [E.out]; simp [results, Try.results33, go_sem]) rfl ⟨rfl, ?_⟩
  exact (Below.refl _ _).alloc (Nat.le_refl _) _
theorem al_add (w : World) : Calls Try.prog 10 #[numV (M256 - 1), numV 1] w fun e w' => e = .returned (.tuple #[numV 0, .int .u64 1]) ∧ Below w.heap.size w w' := by
  have h := add_any M_lt (small_lt (show 1 < W64 by decide)) w
  rw [show addN (M256 - 1) 1 = 0 by decide, show addNC (M256 - 1) 1 = 1 by decide] at h
  exact h
theorem al_sub (w : World) : Calls Try.prog 11 #[numV 0, numV 1] w fun e w' => e = .returned (.tuple #[numV (M256 - 1), .int .u64 1]) ∧ Below w.heap.size w w' := by
  have h := sub_any (small_lt (show 0 < W64 by decide)) (small_lt (show 1 < W64 by decide)) w
  rw [show subN 0 1 = M256 - 1 by decide, show subNB 0 1 = 1 by decide] at h
  exact h
theorem al_mul (w : World) : Calls Try.prog 12 #[.agg #[.int .u64 0, .int .u64 0, .int .u64 1, .int .u64 0], .agg #[.int .u64 0, .int .u64 0, .int .u64 1, .int .u64 0]] w fun e w' => e = .returned (.tuple #[numV 0, numV 1]) ∧ Below w.heap.size w w' := by
  have h := mul_any (a := 340282366920938463463374607431768211456) (b := 340282366920938463463374607431768211456) (by decide) (by decide) w
  rw [show mulL 340282366920938463463374607431768211456 340282366920938463463374607431768211456 = 0 by decide, show mulH 340282366920938463463374607431768211456 340282366920938463463374607431768211456 = 1 by decide,
    lit_num 340282366920938463463374607431768211456 0 0 1 0 (by decide) (by decide) (by decide) (by decide)] at h
  exact h
theorem al_shift1 (w : World) : Calls Try.prog 24 #[numV 5, .int .i64 64] w fun e w' => e = .returned (.agg #[.int .u64 0, .int .u64 5, .int .u64 0, .int .u64 0]) ∧ Below w.heap.size w w' := by
  have h := shift_any (a := 5) (by decide) 64 (by omega) (by omega) w
  rw [show shiftN 5 64 = 92233720368547758080 by decide, lit_num 92233720368547758080 0 5 0 0 (by decide) (by decide) (by decide) (by decide)] at h
  exact h
theorem al_shift2 (w : World) : Calls Try.prog 24 #[.agg #[.int .u64 0, .int .u64 0, .int .u64 0, .int .u64 9223372036854775808], .int .i64 (-255)] w fun e w' => e = .returned (numV 1) ∧ Below w.heap.size w w' := by
  have h := shift_any (a := 57896044618658097711785492504343953926634992332820282019728792003956564819968) (by decide) (-255) (by omega) (by omega) w
  rw [show shiftN 57896044618658097711785492504343953926634992332820282019728792003956564819968 (-255) = 1 by decide, lit_num 57896044618658097711785492504343953926634992332820282019728792003956564819968 0 0 0 9223372036854775808 (by decide) (by decide) (by decide) (by decide)] at h
  exact h
theorem al_cmp (w : World) : Calls Try.prog 18 #[numV 3, numV 5] w fun e w' => e = .returned (.int .i64 (-1)) ∧ Below w.heap.size w w' := cmp_any (a := 3) (b := 5) (by decide) (by decide) w
theorem al_bits0 (w : World) : Calls Try.prog 20 #[numV 0] w fun e w' => e = .returned (.int .i64 0) ∧ Below w.heap.size w w' := bits_any (a := 0) (by decide) w
theorem al_bits1 (w : World) : Calls Try.prog 20 #[.agg #[.int .u64 0, .int .u64 1, .int .u64 0, .int .u64 0]] w fun e w' => e = .returned (.int .i64 65) ∧ Below w.heap.size w w' := by
  have h := bits_any (a := 18446744073709551616) (by decide) w
  rw [← bitsN_unique (a := 18446744073709551616) (n := 65) (by decide) (by decide), lit_num 18446744073709551616 0 1 0 0 (by decide) (by decide) (by decide) (by decide)] at h
  exact h
theorem al_bit1 (w : World) : Calls Try.prog 22 #[numV 4, .int .i64 2] w fun e w' => e = .returned (.int .u64 1) ∧ Below w.heap.size w w' := by
  have h := bit_any (a := 4) 2 w (by omega) (by omega)
  rw [show bitN 4 2 = 1 by decide] at h
  exact h
theorem al_bit2 (w : World) : Calls Try.prog 22 #[numV 4, .int .i64 256] w fun e w' => e = .returned (.int .u64 0) ∧ Below w.heap.size w w' := by
  have h := bit_any (a := 4) 256 w (by omega) (by omega)
  rw [show bitN 4 256 = 0 by decide] at h
  exact h

set_option maxHeartbeats 4000000 in
theorem alive_any (w : World) : Calls Try.prog 26 #[] w fun e w' => e = .returned (.bool true) ∧ Below w.heap.size w w' := by
  have heq := eq4
  go_enter Try.func26, Try.ntmps26
  go_wp2_with fail
  refine (all_any _).mono ?_
  rintro _ w1 ⟨rfl, hb1⟩
  have BB := Lib.hid (below_later (Below.refl _ _) hb1)
  clear hb1
  unfold numV words
  go_wp2_with fail
  refine (of_lit 1 1 rfl (by unfold W64; omega) _).mono ?_
  rintro _ w2 ⟨rfl, hb2⟩
  have BC := Lib.hid (below_later (BB.out) hb2)
  clear BB
  have BB := BC
  clear BC
  clear hb2
  unfold numV words
  go_wp2_with fail
  refine (al_add _).mono ?_
  rintro _ w3 ⟨rfl, hb3⟩
  have BC := Lib.hid (below_later (BB.out) hb3)
  clear BB
  have BB := BC
  clear BC
  clear hb3
  unfold numV words
  go_wp2_with fail
  refine (of_lit 0 0 rfl (by unfold W64; omega) _).mono ?_
  rintro _ w4 ⟨rfl, hb4⟩
  have Va := Lib.hid (NumAt.later hb4 (NumAt.new _ 0 (w3.heap.size) _ (by simp)))
  have BC := Lib.hid (below_later (below_new (BB.out) _) hb4)
  clear BB
  have BB := BC
  clear BC
  clear hb4
  unfold numV words
  go_wp2_with fail
  refine (of_lit 1 1 rfl (by unfold W64; omega) _).mono ?_
  rintro _ w5 ⟨rfl, hb5⟩
  have Ua := Lib.hid (NumAt.later hb5 (Va.out))
  clear Va
  have Va := Ua
  clear Ua
  have BC := Lib.hid (below_later (BB.out) hb5)
  clear BB
  have BB := BC
  clear BC
  clear hb5
  unfold numV words
  go_wp2_with fail
  refine (al_sub _).mono ?_
  rintro _ w6 ⟨rfl, hb6⟩
  have Ua := Lib.hid (NumAt.later hb6 (Va.out))
  clear Va
  have Va := Ua
  clear Ua
  have BC := Lib.hid (below_later (BB.out) hb6)
  clear BB
  have BB := BC
  clear BC
  clear hb6
  unfold numV words
  go_wp2_with fail
  refine (al_mul _).mono ?_
  rintro _ w7 ⟨rfl, hb7⟩
  have Ua := Lib.hid (NumAt.later hb7 ((Va.out).alloc _))
  clear Va
  have Va := Ua
  clear Ua
  have Vc := Lib.hid (NumAt.later hb7 (NumAt.new _ (M256 - 1) (w6.heap.size) _ (by simp)))
  have BC := Lib.hid (below_later (below_new (BB.out) _) hb7)
  clear BB
  have BB := BC
  clear BC
  clear hb7
  unfold numV words
  go_wp2_with fail
  refine wp_region_num w [(w3.heap.size, 0), (w6.heap.size, (M256 - 1)), (w7.heap.size, 0), (w7.heap.size + 1, 1)] (by kernel_rfl) (by kernel_rfl) ?_ ?_ (fun F hne hcl hfa => ?_)
  · simp only [List.mem_cons, List.not_mem_nil, or_false, forall_eq_or_imp, forall_eq]
    exact ⟨((Va.out).alloc _).alloc _, ((Vc.out).alloc _).alloc _, (NumAt.new _ 0 (w7.heap.size) _ (by simp)).alloc _, NumAt.new _ 1 (w7.heap.size + 1) _ (by simp)⟩
  · exact below_new (below_new (BB.out) _) _
  have r_a_0 := fun x : Wd F => (hfa x.world x.fact).1 (w3.heap.size, 0) (by simp) 0 (by omega)
  have r_a_1 := fun x : Wd F => (hfa x.world x.fact).1 (w3.heap.size, 0) (by simp) 1 (by omega)
  have r_a_2 := fun x : Wd F => (hfa x.world x.fact).1 (w3.heap.size, 0) (by simp) 2 (by omega)
  have r_a_3 := fun x : Wd F => (hfa x.world x.fact).1 (w3.heap.size, 0) (by simp) 3 (by omega)
  have r_c_0 := fun x : Wd F => (hfa x.world x.fact).1 (w6.heap.size, (M256 - 1)) (by simp) 0 (by omega)
  have r_c_1 := fun x : Wd F => (hfa x.world x.fact).1 (w6.heap.size, (M256 - 1)) (by simp) 1 (by omega)
  have r_c_2 := fun x : Wd F => (hfa x.world x.fact).1 (w6.heap.size, (M256 - 1)) (by simp) 2 (by omega)
  have r_c_3 := fun x : Wd F => (hfa x.world x.fact).1 (w6.heap.size, (M256 - 1)) (by simp) 3 (by omega)
  have r_e_0 := fun x : Wd F => (hfa x.world x.fact).1 (w7.heap.size, 0) (by simp) 0 (by omega)
  have r_e_1 := fun x : Wd F => (hfa x.world x.fact).1 (w7.heap.size, 0) (by simp) 1 (by omega)
  have r_e_2 := fun x : Wd F => (hfa x.world x.fact).1 (w7.heap.size, 0) (by simp) 2 (by omega)
  have r_e_3 := fun x : Wd F => (hfa x.world x.fact).1 (w7.heap.size, 0) (by simp) 3 (by omega)
  have r_f_0 := fun x : Wd F => (hfa x.world x.fact).1 (w7.heap.size + 1, 1) (by simp) 0 (by omega)
  have r_f_1 := fun x : Wd F => (hfa x.world x.fact).1 (w7.heap.size + 1, 1) (by simp) 1 (by omega)
  have r_f_2 := fun x : Wd F => (hfa x.world x.fact).1 (w7.heap.size + 1, 1) (by simp) 2 (by omega)
  have r_f_3 := fun x : Wd F => (hfa x.world x.fact).1 (w7.heap.size + 1, 1) (by simp) 3 (by omega)
  have HFB := Lib.hid (fun x : Wd F => (hfa x.world x.fact).2)
  have HCL := Lib.hid hcl
  clear hcl hfa
  simp only [List.append_eq, List.cons_append, List.nil_append]
  repeat (go_big_quiet_step ((first
    | (go_at_call 16; exact to_class HCL.out (of_int _ (by omega) (by omega) _))
    | (go_at_call 33; exact to_class_num HCL.out (all_any _))
    | (go_at_call_of 24 (Value.int .i64 64); exact to_class HCL.out (al_shift1 _))
    | (go_at_call 24; exact to_class_num HCL.out (al_shift2 _))
    | (go_at_call 18; exact to_class HCL.out (al_cmp _))
    | (go_at_call_of 20 (Value.agg #[.int .u64 0, .int .u64 1, .int .u64 0, .int .u64 0]); exact to_class HCL.out (al_bits1 _))
    | (go_at_call 20; exact to_class HCL.out (al_bits0 _))
    | (go_at_call_of 22 (Value.int .i64 2); exact to_class HCL.out (al_bit1 _))
    | (go_at_call_of 22 (Value.int .i64 256); exact to_class HCL.out (al_bit2 _)))))
  refine wpQuiet_nil ?_
  intro w9 hw9
  obtain ⟨x9, hw9⟩ := hw9
  have B9 := Lib.hid (HFB.out x9)
  rw [← hw9] at B9
  clear hw9
  go_wp2
  go_ret
  exact ⟨rfl, B9.out⟩
end Go.Proofs.Ytdhkkigijcggmaa
