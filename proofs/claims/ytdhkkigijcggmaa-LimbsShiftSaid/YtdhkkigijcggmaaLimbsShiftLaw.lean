/- Layer 2 (limbs): the walk of LimbsShift: it returns true. -/
import Derived.Test.YtdhkkigijcggmaaLimbsBits
import Derived.Deep.Cut
namespace Go.Proofs.Ytdhkkigijcggmaa
open Go.ChangeShapes Go.WideShapes Go.ChangeAt Go.RowKit

theorem dgt_two {n : Nat} (_hn : n < 256) (j : Nat) : dgt W64 (2 ^ n) j = if j = n / 64 then 2 ^ (n % 64) else 0 := by
  unfold dgt
  rw [W64_eq, ← Nat.pow_mul]
  rcases Nat.lt_trichotomy j (n / 64) with h | h | h
  · rw [if_neg (by omega), Nat.pow_div (by omega) (by omega), show n - 64 * j = 64 + (n - 64 * j - 64) by omega, Nat.pow_add]
    exact Nat.mul_mod_right _ _
  · subst h
    rw [if_pos rfl, Nat.pow_div (by omega) (by omega), show n - 64 * (n / 64) = n % 64 by omega]
    exact Nat.mod_eq_of_lt (Nat.pow_lt_pow_right (by omega) (by omega))
  · rw [if_neg (by omega), Nat.div_eq_of_lt (Nat.pow_lt_pow_right (by omega) (by omega))]
theorem wrap_two (r : Nat) (h : r < 64) : IntKind.u64.wrap (2 ^ r) = ((2 ^ r : Nat) : Int) := by
  have h1 : 2 ^ r < 2 ^ 64 := Nat.pow_lt_pow_right (by omega) h
  rw [IntKind.wrap_u64, show ((2 : Int) ^ r) = ((2 ^ r : Nat) : Int) by simp]
  generalize 2 ^ r = p at *
  omega
theorem zeros_at {q : Nat} (h : q < 4) : ([.int .u64 0, .int .u64 0, .int .u64 0, .int .u64 0] : List Value)[q]? = some (.int .u64 0) := by
  have : q = 0 ∨ q = 1 ∨ q = 2 ∨ q = 3 := by omega
  rcases this with rfl | rfl | rfl | rfl <;> rfl
theorem NumAt.two {w : World} {b n : Nat} {t : TypeId} (hn : n < 256) (hb : b = w.heap.size) :
    NumAt (w.alloc (.cells ([.int .u64 0, .int .u64 0, .int .u64 0, .int .u64 0].set (n / 64) (.int .u64 (IntKind.u64.wrap (2 ^ (n % 64))))).toArray t)) b (2 ^ n) := by
  subst hb
  intro j hj
  rw [dgt_two hn, wrap_two _ (by omega)]
  have hq : n / 64 = 0 ∨ n / 64 = 1 ∨ n / 64 = 2 ∨ n / 64 = 3 := by omega
  have hj' : j = 0 ∨ j = 1 ∨ j = 2 ∨ j = 3 := by omega
  rcases hq with hq | hq | hq | hq <;> rw [hq] <;> rcases hj' with rfl | rfl | rfl | rfl <;> simp
theorem shl_mul {a n : Nat} : mulL a (2 ^ n) = shiftN a n := by
  unfold mulL shiftN
  rw [if_pos (by omega), Int.toNat_natCast]
theorem shr_mul {a n : Nat} (hn : n < 256) : mulH a (2 ^ n) = shiftN a ((n : Int) - 256) := by
  unfold mulH shiftN
  rw [if_neg (by omega), show (-((n : Int) - 256)).toNat = 256 - n by omega, M256_eq, show (256 : Nat) = (256 - n) + n by omega, Nat.pow_add, Nat.mul_div_mul_right _ _ (Nat.two_pow_pos n), show 256 - n + n - n = 256 - n by omega]
theorem shr_nat {a n : Nat} (ha : a < M256) : shiftN a (-(n : Int)) = a / 2 ^ n := by
  unfold shiftN
  by_cases h : n = 0
  · subst h
    rw [if_pos (by omega)]
    simp [Nat.mod_eq_of_lt ha]
  · rw [if_neg (by omega), show (-(-(n : Int))).toNat = n by omega]
theorem bit_nat (a : Nat) (i : Nat) (h : i < 256) : bitN a i = (a / 2 ^ i % 2) := bitN_nat a h
theorem bit_test (a i : Nat) : a / 2 ^ i % 2 = if a.testBit i = true then 1 else 0 := by
  rw [Nat.testBit_eq_decide_div_mod_eq]
  by_cases h : a / 2 ^ i % 2 = 1
  · simp [h]
  · have : a / 2 ^ i % 2 = 0 := by omega
    simp [this]
theorem bit_back {a n i : Nat} (hn : n < 256) (hi : i < 256) : bitN (shiftN (shiftN a n) (-(n : Int))) i = if 256 - n ≤ i then 0 else bitN a i := by
  have hl : shiftN a n < M256 := by unfold shiftN; rw [if_pos (by omega)]; exact Nat.mod_lt _ M256_pos
  rw [shr_nat hl, bitN_nat _ hi, bitN_nat _ hi]
  unfold shiftN
  rw [if_pos (by omega), Int.toNat_natCast, M256_eq, show (256 : Nat) = (256 - n) + n by omega, Nat.pow_add, Nat.mul_mod_mul_right, Nat.mul_div_cancel _ (Nat.two_pow_pos n), bit_test, bit_test, Nat.testBit_mod_two_pow]
  rw [show 256 - n + n - n = 256 - n by omega]
  by_cases h : 256 - n ≤ i
  · rw [if_pos h]
    simp [Nat.not_lt.2 h]
  · rw [if_neg h]
    simp [Nat.lt_of_not_le h]
theorem bit_on {a n i : Nat} (ha : a < M256) (hi : i < 256) : bitN (shiftN a (-(n : Int))) i = bitN a ((i : Int) + n) := by
  rw [shr_nat ha, bitN_nat _ hi, Nat.div_div_eq_div_mul, ← Nat.pow_add]
  unfold bitN
  by_cases h : 255 < (i : Int) + n
  · rw [if_pos (.inr h), Nat.div_eq_of_lt]
    rw [M256_eq] at ha
    exact Nat.lt_of_lt_of_le ha (Nat.pow_le_pow_right (by omega) (by omega))
  · rw [if_neg (by omega), show ((i : Int) + n).toNat = n + i by omega]
theorem shift_none {a : Nat} (ha : a < M256) : shiftN a 0 = a := by
  unfold shiftN
  rw [if_pos (by omega)]
  simp [Nat.mod_eq_of_lt ha]
theorem zero_cast {x : Nat} (h : x = 0) : ((x : Nat) : Int) = 0 := by omega
set_option maxRecDepth 20000 in
set_option maxHeartbeats 2000000 in
theorem limbsShift_walk {a n : Nat} (ha : a < M256) (hn : n ≤ 255) (w : World) :
    Calls Try.prog 6 #[.agg #[.int .u64 (dgt W64 a 0), .int .u64 (dgt W64 a 1), .int .u64 (dgt W64 a 2), .int .u64 (dgt W64 a 3)], .int .u8 n] w fun e w' => e = .returned (.bool true) ∧ Below w.heap.size w w' := by
  have heq := eq4
  have Ha := Lib.hid ha
  have hz := zeros_at (q := n / 64) (by omega)
  obtain ⟨lo, el⟩ : ∃ z, Hid (shiftN a n = z) := ⟨_, Lib.hid rfl⟩
  obtain ⟨hi, eh⟩ : ∃ z, Hid (shiftN a ((n : Int) - 256) = z) := ⟨_, Lib.hid rfl⟩
  obtain ⟨bk, eb⟩ : ∃ z, Hid (shiftN lo (-(n : Int)) = z) := ⟨_, Lib.hid rfl⟩
  obtain ⟨dn, ed⟩ : ∃ z, Hid (shiftN a (-(n : Int)) = z) := ⟨_, Lib.hid rfl⟩
  have Llo := Lib.hid (show lo < M256 by rw [← el.out]; exact shiftN_lt ha _)
  have Lhi := Lib.hid (show hi < M256 by rw [← eh.out]; exact shiftN_lt ha _)
  have Lbk := Lib.hid (show bk < M256 by rw [← eb.out]; exact shiftN_lt Llo.out _)
  have Ldn := Lib.hid (show dn < M256 by rw [← ed.out]; exact shiftN_lt ha _)
  have Lp := Lib.hid (show 2 ^ n < M256 from pow_lt_M (by omega))
  have hne1 : ∀ w, (binOp .neq 24 (.agg #[.int .u64 (dgt W64 lo 0), .int .u64 (dgt W64 lo 1), .int .u64 (dgt W64 lo 2), .int .u64 (dgt W64 lo 3)]) (.agg #[.int .u64 (dgt W64 lo 0), .int .u64 (dgt W64 lo 1), .int .u64 (dgt W64 lo 2), .int .u64 (dgt W64 lo 3)])).run Try.prog w = .ok (.bool false) w := fun w => by rw [ne_num lo lo Llo.out Llo.out]; simp
  have hne2 : ∀ w, (binOp .neq 24 (.agg #[.int .u64 (dgt W64 hi 0), .int .u64 (dgt W64 hi 1), .int .u64 (dgt W64 hi 2), .int .u64 (dgt W64 hi 3)]) (.agg #[.int .u64 (dgt W64 hi 0), .int .u64 (dgt W64 hi 1), .int .u64 (dgt W64 hi 2), .int .u64 (dgt W64 hi 3)])).run Try.prog w = .ok (.bool false) w := fun w => by rw [ne_num hi hi Lhi.out Lhi.out]; simp
  obtain ⟨p, ep⟩ : ∃ z, Hid (2 ^ n = z) := ⟨_, Lib.hid rfl⟩
  have C4 := Lib.hid (show ∀ w, Calls Try.prog 12 #[.agg #[.int .u64 (dgt W64 a 0), .int .u64 (dgt W64 a 1), .int .u64 (dgt W64 a 2), .int .u64 (dgt W64 a 3)], .agg #[.int .u64 (dgt W64 p 0), .int .u64 (dgt W64 p 1), .int .u64 (dgt W64 p 2), .int .u64 (dgt W64 p 3)]] w fun e w' => e = .returned (.tuple #[.agg #[.int .u64 (dgt W64 lo 0), .int .u64 (dgt W64 lo 1), .int .u64 (dgt W64 lo 2), .int .u64 (dgt W64 lo 3)], .agg #[.int .u64 (dgt W64 hi 0), .int .u64 (dgt W64 hi 1), .int .u64 (dgt W64 hi 2), .int .u64 (dgt W64 hi 3)]]) ∧ Below w.heap.size w w' from fun w => by have h := mul_any (a := a) (b := p) Ha.out (ep.out ▸ Lp.out) w; unfold numV words at h; rw [← ep.out] at h; rw [shl_mul, shr_mul (by omega), el.out, eh.out] at h; rw [ep.out] at h; exact h)
  have C5 := Lib.hid (show ∀ w, Calls Try.prog 24 #[.agg #[.int .u64 (dgt W64 a 0), .int .u64 (dgt W64 a 1), .int .u64 (dgt W64 a 2), .int .u64 (dgt W64 a 3)], .int .i64 n] w fun e w' => e = .returned (.agg #[.int .u64 (dgt W64 lo 0), .int .u64 (dgt W64 lo 1), .int .u64 (dgt W64 lo 2), .int .u64 (dgt W64 lo 3)]) ∧ Below w.heap.size w w' from fun w => by have h := shift_any (a := a) Ha.out n (by omega) (by omega) w; unfold numV words at h; rw [el.out] at h; exact h)
  have C6 := Lib.hid (show ∀ w, Calls Try.prog 24 #[.agg #[.int .u64 (dgt W64 a 0), .int .u64 (dgt W64 a 1), .int .u64 (dgt W64 a 2), .int .u64 (dgt W64 a 3)], .int .i64 ((n : Int) - 256)] w fun e w' => e = .returned (.agg #[.int .u64 (dgt W64 hi 0), .int .u64 (dgt W64 hi 1), .int .u64 (dgt W64 hi 2), .int .u64 (dgt W64 hi 3)]) ∧ Below w.heap.size w w' from fun w => by have h := shift_any (a := a) Ha.out ((n : Int) - 256) (by omega) (by omega) w; unfold numV words at h; rw [eh.out] at h; exact h)
  have C9 := Lib.hid (show ∀ w, Calls Try.prog 24 #[.agg #[.int .u64 (dgt W64 lo 0), .int .u64 (dgt W64 lo 1), .int .u64 (dgt W64 lo 2), .int .u64 (dgt W64 lo 3)], .int .i64 (-(n : Int))] w fun e w' => e = .returned (.agg #[.int .u64 (dgt W64 bk 0), .int .u64 (dgt W64 bk 1), .int .u64 (dgt W64 bk 2), .int .u64 (dgt W64 bk 3)]) ∧ Below w.heap.size w w' from fun w => by have h := shift_any (a := lo) Llo.out (-(n : Int)) (by omega) (by omega) w; unfold numV words at h; rw [eb.out] at h; exact h)
  have C16 := Lib.hid (show ∀ w, Calls Try.prog 24 #[.agg #[.int .u64 (dgt W64 a 0), .int .u64 (dgt W64 a 1), .int .u64 (dgt W64 a 2), .int .u64 (dgt W64 a 3)], .int .i64 (-(n : Int))] w fun e w' => e = .returned (.agg #[.int .u64 (dgt W64 dn 0), .int .u64 (dgt W64 dn 1), .int .u64 (dgt W64 dn 2), .int .u64 (dgt W64 dn 3)]) ∧ Below w.heap.size w w' from fun w => by have h := shift_any (a := a) Ha.out (-(n : Int)) (by omega) (by omega) w; unfold numV words at h; rw [ed.out] at h; exact h)
  have C18 := Lib.hid (show ∀ w, Calls Try.prog 24 #[.agg #[.int .u64 (dgt W64 a 0), .int .u64 (dgt W64 a 1), .int .u64 (dgt W64 a 2), .int .u64 (dgt W64 a 3)], .int .i64 256] w fun e w' => e = .returned (.agg #[.int .u64 (dgt W64 0 0), .int .u64 (dgt W64 0 1), .int .u64 (dgt W64 0 2), .int .u64 (dgt W64 0 3)]) ∧ Below w.heap.size w w' from fun w => by have h := shift_any (a := a) Ha.out 256 (by omega) (by omega) w; unfold numV words at h; rw [shiftN_far Ha.out (.inr (Int.le_refl _))] at h; exact h)
  have C18b := Lib.hid (show ∀ w, Calls Try.prog 24 #[.agg #[.int .u64 (dgt W64 a 0), .int .u64 (dgt W64 a 1), .int .u64 (dgt W64 a 2), .int .u64 (dgt W64 a 3)], .int .i64 (-256)] w fun e w' => e = .returned (.agg #[.int .u64 (dgt W64 0 0), .int .u64 (dgt W64 0 1), .int .u64 (dgt W64 0 2), .int .u64 (dgt W64 0 3)]) ∧ Below w.heap.size w w' from fun w => by have h := shift_any (a := a) Ha.out (-256) (by omega) (by omega) w; unfold numV words at h; rw [shiftN_far Ha.out (.inl (Int.le_refl _))] at h; exact h)
  have C18c := Lib.hid (show ∀ w, Calls Try.prog 24 #[.agg #[.int .u64 (dgt W64 a 0), .int .u64 (dgt W64 a 1), .int .u64 (dgt W64 a 2), .int .u64 (dgt W64 a 3)], .int .i64 0] w fun e w' => e = .returned (.agg #[.int .u64 (dgt W64 a 0), .int .u64 (dgt W64 a 1), .int .u64 (dgt W64 a 2), .int .u64 (dgt W64 a 3)]) ∧ Below w.heap.size w w' from fun w => by have h := shift_any (a := a) Ha.out 0 (by omega) (by omega) w; unfold numV words at h; rw [shift_none Ha.out] at h; exact h)
  have C2 := Lib.hid (show ∀ w, Calls Try.prog 16 #[.int .u64 0] w fun e w' => e = .returned (.agg #[.int .u64 (dgt W64 0 0), .int .u64 (dgt W64 0 1), .int .u64 (dgt W64 0 2), .int .u64 (dgt W64 0 3)]) ∧ Below w.heap.size w w' from fun w => by have h := of_lit 0 0 rfl W64_pos w; unfold numV words at h;  exact h)
  clear ha
  go_enter Try.func6, Try.ntmps6
  go_upto_region 4 with (fail)
  refine region_in (fun W9 => NumAt W9 (w.heap.size) a ∧ NumAt W9 (w.heap.size + 1) (2 ^ n) ∧ Below w.heap.size w W9) ⟨(NumAt.new w a w.heap.size _ rfl).alloc _, NumAt.two (by omega) (by simp), below_new (below_new (Below.refl _ _) _) _⟩ ?_
  intro v0 hv0
  obtain ⟨Va, Vtwo, BB⟩ := hv0
  rw [ep.out] at Vtwo
  have H9 := Lib.hid Va; clear Va; have Va := H9; clear H9
  have H9 := Lib.hid Vtwo; clear Vtwo; have Vtwo := H9; clear H9
  have H9 := Lib.hid BB; clear BB; have BB := H9; clear H9
  clear hz
  have l_a_0 := Va.out 0 (by omega)
  have l_a_1 := Va.out 1 (by omega)
  have l_a_2 := Va.out 2 (by omega)
  have l_a_3 := Va.out 3 (by omega)
  have t_a := Va.out.lt
  have l_two_0 := Vtwo.out 0 (by omega)
  have l_two_1 := Vtwo.out 1 (by omega)
  have l_two_2 := Vtwo.out 2 (by omega)
  have l_two_3 := Vtwo.out 3 (by omega)
  have t_two := Vtwo.out.lt
  go_wp2_with fail
  refine (C4.out _).mono ?_
  rintro _ w1 ⟨rfl, hb1⟩
  clear l_a_0 l_a_1 l_a_2 l_a_3 t_a l_two_0 l_two_1 l_two_2 l_two_3 t_two
  have Ua := Lib.hid (NumAt.later hb1 (Va.out))
  have Utwo := Lib.hid (NumAt.later hb1 (Vtwo.out))
  have BC := Lib.hid (below_later (BB.out) hb1)
  clear Va
  clear Vtwo
  clear BB
  have Va := Ua
  clear Ua
  have Vtwo := Utwo
  clear Utwo
  have BB := BC
  clear BC
  clear hb1
  have l_a_0 := Va.out 0 (by omega)
  have l_a_1 := Va.out 1 (by omega)
  have l_a_2 := Va.out 2 (by omega)
  have l_a_3 := Va.out 3 (by omega)
  have t_a := Va.out.lt
  go_wp2_with fail
  refine (C5.out _).mono ?_
  rintro _ w2 ⟨rfl, hb2⟩
  clear l_a_0 l_a_1 l_a_2 l_a_3 t_a
  have Ua := Lib.hid (NumAt.later hb2 (((Va.out).alloc _).alloc _))
  have Utwo := Lib.hid (NumAt.later hb2 (((Vtwo.out).alloc _).alloc _))
  have Ulow := Lib.hid (NumAt.later hb2 ((NumAt.new _ lo (w1.heap.size) _ (by simp)).alloc _))
  have Uhigh := Lib.hid (NumAt.later hb2 (NumAt.new _ hi (w1.heap.size + 1) _ (by simp)))
  have BC := Lib.hid (below_later (below_new (below_new (BB.out) _) _) hb2)
  clear Va
  clear Vtwo
  clear BB
  have Va := Ua
  clear Ua
  have Vtwo := Utwo
  clear Utwo
  have Vlow := Ulow
  clear Ulow
  have Vhigh := Uhigh
  clear Uhigh
  have BB := BC
  clear BC
  clear hb2
  have l_a_0 := Va.out 0 (by omega)
  have l_a_1 := Va.out 1 (by omega)
  have l_a_2 := Va.out 2 (by omega)
  have l_a_3 := Va.out 3 (by omega)
  have t_a := Va.out.lt
  go_wp2_with fail
  refine (C6.out _).mono ?_
  rintro _ w3 ⟨rfl, hb3⟩
  clear l_a_0 l_a_1 l_a_2 l_a_3 t_a
  have Ua := Lib.hid (NumAt.later hb3 ((Va.out).alloc _))
  have Utwo := Lib.hid (NumAt.later hb3 ((Vtwo.out).alloc _))
  have Ulow := Lib.hid (NumAt.later hb3 ((Vlow.out).alloc _))
  have Uhigh := Lib.hid (NumAt.later hb3 ((Vhigh.out).alloc _))
  have Uleft := Lib.hid (NumAt.later hb3 (NumAt.new _ lo (w2.heap.size) _ (by simp)))
  have BC := Lib.hid (below_later (below_new (BB.out) _) hb3)
  clear Va
  clear Vtwo
  clear Vlow
  clear Vhigh
  clear BB
  have Va := Ua
  clear Ua
  have Vtwo := Utwo
  clear Utwo
  have Vlow := Ulow
  clear Ulow
  have Vhigh := Uhigh
  clear Uhigh
  have Vleft := Uleft
  clear Uleft
  have BB := BC
  clear BC
  clear hb3
  go_wp2_with fail
  refine (alive_any _).mono ?_
  rintro _ w4 ⟨rfl, hb4⟩
  have Ua := Lib.hid (NumAt.later hb4 ((Va.out).alloc _))
  have Utwo := Lib.hid (NumAt.later hb4 ((Vtwo.out).alloc _))
  have Ulow := Lib.hid (NumAt.later hb4 ((Vlow.out).alloc _))
  have Uhigh := Lib.hid (NumAt.later hb4 ((Vhigh.out).alloc _))
  have Uleft := Lib.hid (NumAt.later hb4 ((Vleft.out).alloc _))
  have Uright := Lib.hid (NumAt.later hb4 (NumAt.new _ hi (w3.heap.size) _ (by simp)))
  have BC := Lib.hid (below_later (below_new (BB.out) _) hb4)
  clear Va
  clear Vtwo
  clear Vlow
  clear Vhigh
  clear Vleft
  clear BB
  have Va := Ua
  clear Ua
  have Vtwo := Utwo
  clear Utwo
  have Vlow := Ulow
  clear Ulow
  have Vhigh := Uhigh
  clear Uhigh
  have Vleft := Uleft
  clear Uleft
  have Vright := Uright
  clear Uright
  have BB := BC
  clear BC
  clear hb4
  clear Vtwo
  have l_left_0 := Vleft.out 0 (by omega)
  have l_left_1 := Vleft.out 1 (by omega)
  have l_left_2 := Vleft.out 2 (by omega)
  have l_left_3 := Vleft.out 3 (by omega)
  have t_left := Vleft.out.lt
  have l_low_0 := Vlow.out 0 (by omega)
  have l_low_1 := Vlow.out 1 (by omega)
  have l_low_2 := Vlow.out 2 (by omega)
  have l_low_3 := Vlow.out 3 (by omega)
  have t_low := Vlow.out.lt
  have l_right_0 := Vright.out 0 (by omega)
  have l_right_1 := Vright.out 1 (by omega)
  have l_right_2 := Vright.out 2 (by omega)
  have l_right_3 := Vright.out 3 (by omega)
  have t_right := Vright.out.lt
  have l_high_0 := Vhigh.out 0 (by omega)
  have l_high_1 := Vhigh.out 1 (by omega)
  have l_high_2 := Vhigh.out 2 (by omega)
  have l_high_3 := Vhigh.out 3 (by omega)
  have t_high := Vhigh.out.lt
  go_wp2_with fail
  refine (C9.out _).mono ?_
  rintro _ w5 ⟨rfl, hb5⟩
  clear l_left_0 l_left_1 l_left_2 l_left_3 t_left l_low_0 l_low_1 l_low_2 l_low_3 t_low l_right_0 l_right_1 l_right_2 l_right_3 t_right l_high_0 l_high_1 l_high_2 l_high_3 t_high
  have Ua := Lib.hid (NumAt.later hb5 (Va.out))
  have Ulow := Lib.hid (NumAt.later hb5 (Vlow.out))
  have Uhigh := Lib.hid (NumAt.later hb5 (Vhigh.out))
  have Uleft := Lib.hid (NumAt.later hb5 (Vleft.out))
  have Uright := Lib.hid (NumAt.later hb5 (Vright.out))
  have BC := Lib.hid (below_later (BB.out) hb5)
  clear Va
  clear Vlow
  clear Vhigh
  clear Vleft
  clear Vright
  clear BB
  have Va := Ua
  clear Ua
  have Vlow := Ulow
  clear Ulow
  have Vhigh := Uhigh
  clear Uhigh
  have Vleft := Uleft
  clear Uleft
  have Vright := Uright
  clear Uright
  have BB := BC
  clear BC
  clear hb5
  clear Vleft
  clear Vlow
  clear Vright
  clear Vhigh
  go_wp2
  go_loopw [12] (fun i wr => ∃ i' : Nat, i' ≤ 256 ∧ i = .int .i64 i' ∧ NumAt wr (w.heap.size) a ∧ NumAt wr (w5.heap.size) bk ∧ Below w.heap.size w wr) (fun i _ => 256 - (intOf i).toNat)
  case atStart => exact ⟨0, by omega, rfl, (Va.out).alloc _, NumAt.new _ bk (w5.heap.size) _ (by simp), below_new (BB.out) _⟩
  case round =>
    obtain ⟨i, hi9, rfl, hA, hB, hBB⟩ := hrel
    clear Va BB
    have Va := Lib.hid hA; clear hA
    have Vback := Lib.hid hB; clear hB
    have BB := Lib.hid hBB; clear hBB
    by_cases hlt : i < 256
    · obtain ⟨y, ey⟩ : ∃ z, Hid (bitN a i = z) := ⟨_, Lib.hid rfl⟩
      obtain ⟨z, ez⟩ : ∃ z, Hid (bitN a ((i : Int) + n) = z) := ⟨_, Lib.hid rfl⟩
      have HB := Lib.hid (show bitN bk i = if 256 - n ≤ i then 0 else y by rw [← eb.out, ← el.out, ← ey.out]; exact bit_back (by omega) hlt)
      have HD := Lib.hid (show bitN dn i = z by rw [← ed.out, ← ez.out]; exact bit_on Ha.out hlt)
      by_cases hge : 256 - n ≤ i
      · have HG := Lib.hid hge
        have hge1 : (256 : Int) - n ≤ i := by omega
        clear hge
        have C13 := Lib.hid (show ∀ w, Calls Try.prog 22 #[.agg #[.int .u64 (dgt W64 a 0), .int .u64 (dgt W64 a 1), .int .u64 (dgt W64 a 2), .int .u64 (dgt W64 a 3)], .int .i64 i] w fun e w' => e = .returned (.int .u64 y) ∧ Below w.heap.size w w' from fun w => by have h := bit_any (a := a) i (hi0 := by omega) (hi1 := by omega) (w := w); unfold numV words at h; rw [ey.out] at h; exact h)
        have C16b := Lib.hid (show ∀ w, Calls Try.prog 22 #[.agg #[.int .u64 (dgt W64 bk 0), .int .u64 (dgt W64 bk 1), .int .u64 (dgt W64 bk 2), .int .u64 (dgt W64 bk 3)], .int .i64 i] w fun e w' => e = .returned (.int .u64 0) ∧ Below w.heap.size w w' from fun w => by have h := bit_any (a := bk) i (hi0 := by omega) (hi1 := by omega) (w := w); unfold numV words at h; rw [zero_cast (HB.out.trans (if_pos HG.out))] at h; exact h)
        have C16c := Lib.hid (show ∀ w, Calls Try.prog 22 #[.agg #[.int .u64 (dgt W64 dn 0), .int .u64 (dgt W64 dn 1), .int .u64 (dgt W64 dn 2), .int .u64 (dgt W64 dn 3)], .int .i64 i] w fun e w' => e = .returned (.int .u64 z) ∧ Below w.heap.size w w' from fun w => by have h := bit_any (a := dn) i (hi0 := by omega) (hi1 := by omega) (w := w); unfold numV words at h; rw [HD.out] at h; exact h)
        have C16d := Lib.hid (show ∀ w, Calls Try.prog 22 #[.agg #[.int .u64 (dgt W64 a 0), .int .u64 (dgt W64 a 1), .int .u64 (dgt W64 a 2), .int .u64 (dgt W64 a 3)], .int .i64 ((i : Int) + n)] w fun e w' => e = .returned (.int .u64 z) ∧ Below w.heap.size w w' from fun w => by have h := bit_any (a := a) ((i : Int) + n) (hi0 := by omega) (hi1 := by omega) (w := w); unfold numV words at h; rw [ez.out] at h; exact h)
        have l_a_0 := Va.out 0 (by omega)
        have l_a_1 := Va.out 1 (by omega)
        have l_a_2 := Va.out 2 (by omega)
        have l_a_3 := Va.out 3 (by omega)
        have t_a := Va.out.lt
        go_wp2_with fail
        refine (C13.out _).mono ?_
        rintro _ w11 ⟨rfl, hb11⟩
        clear l_a_0 l_a_1 l_a_2 l_a_3 t_a
        have Ua := Lib.hid (NumAt.later hb11 (Va.out))
        have Uback := Lib.hid (NumAt.later hb11 (Vback.out))
        have BC := Lib.hid (below_later (BB.out) hb11)
        clear Va
        clear Vback
        clear BB
        have Va := Ua
        clear Ua
        have Vback := Uback
        clear Uback
        have BB := BC
        clear BC
        clear hb11
        go_wp2_with fail
        refine region_in (fun W9 => NumAt W9 (w.heap.size) a ∧ NumAt W9 (w5.heap.size) bk ∧ Below w.heap.size w W9) ⟨Va.out, Vback.out, BB.out⟩ ?_
        intro v12 hv12
        clear Va
        clear Vback
        clear BB
        obtain ⟨Va, Vback, BB⟩ := hv12
        have H9 := Lib.hid Va; clear Va; have Va := H9; clear H9
        have H9 := Lib.hid Vback; clear Vback; have Vback := H9; clear H9
        have H9 := Lib.hid BB; clear BB; have BB := H9; clear H9
        refine wp_region_fresh 19 (fun _ => none) (by kernel_rfl) (by kernel_rfl) (fun _ _ _ _ _ h => h) (fun F hn9 hcl hbl => ?_)
        have r_a_0 := fun X9 : Wd F => (NumAt.later (hbl X9.world X9.fact) Va.out) 0 (by omega)
        have r_a_1 := fun X9 : Wd F => (NumAt.later (hbl X9.world X9.fact) Va.out) 1 (by omega)
        have r_a_2 := fun X9 : Wd F => (NumAt.later (hbl X9.world X9.fact) Va.out) 2 (by omega)
        have r_a_3 := fun X9 : Wd F => (NumAt.later (hbl X9.world X9.fact) Va.out) 3 (by omega)
        have r_back_0 := fun X9 : Wd F => (NumAt.later (hbl X9.world X9.fact) Vback.out) 0 (by omega)
        have r_back_1 := fun X9 : Wd F => (NumAt.later (hbl X9.world X9.fact) Vback.out) 1 (by omega)
        have r_back_2 := fun X9 : Wd F => (NumAt.later (hbl X9.world X9.fact) Vback.out) 2 (by omega)
        have r_back_3 := fun X9 : Wd F => (NumAt.later (hbl X9.world X9.fact) Vback.out) 3 (by omega)
        have HCL := Lib.hid hcl
        clear hcl hbl
        refine wpF_seg 19 0 _ _ (fun _ _ _ => rfl) (by decide) ?_
        simp only [List.take_succ_cons, List.take_zero, List.drop_succ_cons, List.drop_zero, Nat.reduceAdd]
        repeat (go_big_quiet_step ((first
          | (go_at_call 22; with_reducible exact to_class HCL.out (C16b.out _))
          | (go_at_call 22; with_reducible exact to_class HCL.out (C16d.out _))
          | (go_at_call 22; with_reducible exact to_class HCL.out (C16c.out _))
          | (go_at_call 24; with_reducible exact to_class HCL.out (C16.out _)))))
        refine wpQuiet_nil ?_
        refine wpF_nil ?_
        clear HCL hn9 r_a_0 r_a_1 r_a_2 r_a_3 r_back_0 r_back_1 r_back_2 r_back_3
        intro bs w12 hb12 hob hap
        clear hob hap
        simp only [over]
        have Ua := Lib.hid (NumAt.later hb12 Va.out)
        have Uback := Lib.hid (NumAt.later hb12 Vback.out)
        have BC := Lib.hid (below_later BB.out hb12)
        clear BB Va Vback
        have BB := BC; clear BC
        have Va := Ua; clear Ua
        have Vback := Uback; clear Uback
        clear hb12
        go_wp2
        go_roundw
        case rel => exact ⟨i + 1, by omega, by go_num, Va.out, Vback.out, BB.out⟩
        case measure => simp [intOf]; omega
      · have HG := Lib.hid hge
        have hge1 : (i : Int) < 256 - n := by omega
        clear hge
        have C13 := Lib.hid (show ∀ w, Calls Try.prog 22 #[.agg #[.int .u64 (dgt W64 a 0), .int .u64 (dgt W64 a 1), .int .u64 (dgt W64 a 2), .int .u64 (dgt W64 a 3)], .int .i64 i] w fun e w' => e = .returned (.int .u64 y) ∧ Below w.heap.size w w' from fun w => by have h := bit_any (a := a) i (hi0 := by omega) (hi1 := by omega) (w := w); unfold numV words at h; rw [ey.out] at h; exact h)
        have C16b := Lib.hid (show ∀ w, Calls Try.prog 22 #[.agg #[.int .u64 (dgt W64 bk 0), .int .u64 (dgt W64 bk 1), .int .u64 (dgt W64 bk 2), .int .u64 (dgt W64 bk 3)], .int .i64 i] w fun e w' => e = .returned (.int .u64 y) ∧ Below w.heap.size w w' from fun w => by have h := bit_any (a := bk) i (hi0 := by omega) (hi1 := by omega) (w := w); unfold numV words at h; rw [HB.out, if_neg HG.out] at h; exact h)
        have C16c := Lib.hid (show ∀ w, Calls Try.prog 22 #[.agg #[.int .u64 (dgt W64 dn 0), .int .u64 (dgt W64 dn 1), .int .u64 (dgt W64 dn 2), .int .u64 (dgt W64 dn 3)], .int .i64 i] w fun e w' => e = .returned (.int .u64 z) ∧ Below w.heap.size w w' from fun w => by have h := bit_any (a := dn) i (hi0 := by omega) (hi1 := by omega) (w := w); unfold numV words at h; rw [HD.out] at h; exact h)
        have C16d := Lib.hid (show ∀ w, Calls Try.prog 22 #[.agg #[.int .u64 (dgt W64 a 0), .int .u64 (dgt W64 a 1), .int .u64 (dgt W64 a 2), .int .u64 (dgt W64 a 3)], .int .i64 ((i : Int) + n)] w fun e w' => e = .returned (.int .u64 z) ∧ Below w.heap.size w w' from fun w => by have h := bit_any (a := a) ((i : Int) + n) (hi0 := by omega) (hi1 := by omega) (w := w); unfold numV words at h; rw [ez.out] at h; exact h)
        have l_a_0 := Va.out 0 (by omega)
        have l_a_1 := Va.out 1 (by omega)
        have l_a_2 := Va.out 2 (by omega)
        have l_a_3 := Va.out 3 (by omega)
        have t_a := Va.out.lt
        go_wp2_with fail
        refine (C13.out _).mono ?_
        rintro _ w11 ⟨rfl, hb11⟩
        clear l_a_0 l_a_1 l_a_2 l_a_3 t_a
        have Ua := Lib.hid (NumAt.later hb11 (Va.out))
        have Uback := Lib.hid (NumAt.later hb11 (Vback.out))
        have BC := Lib.hid (below_later (BB.out) hb11)
        clear Va
        clear Vback
        clear BB
        have Va := Ua
        clear Ua
        have Vback := Uback
        clear Uback
        have BB := BC
        clear BC
        clear hb11
        go_wp2_with fail
        refine region_in (fun W9 => NumAt W9 (w.heap.size) a ∧ NumAt W9 (w5.heap.size) bk ∧ Below w.heap.size w W9) ⟨Va.out, Vback.out, BB.out⟩ ?_
        intro v12 hv12
        clear Va
        clear Vback
        clear BB
        obtain ⟨Va, Vback, BB⟩ := hv12
        have H9 := Lib.hid Va; clear Va; have Va := H9; clear H9
        have H9 := Lib.hid Vback; clear Vback; have Vback := H9; clear H9
        have H9 := Lib.hid BB; clear BB; have BB := H9; clear H9
        refine wp_region_fresh 19 (fun _ => none) (by kernel_rfl) (by kernel_rfl) (fun _ _ _ _ _ h => h) (fun F hn9 hcl hbl => ?_)
        have r_a_0 := fun X9 : Wd F => (NumAt.later (hbl X9.world X9.fact) Va.out) 0 (by omega)
        have r_a_1 := fun X9 : Wd F => (NumAt.later (hbl X9.world X9.fact) Va.out) 1 (by omega)
        have r_a_2 := fun X9 : Wd F => (NumAt.later (hbl X9.world X9.fact) Va.out) 2 (by omega)
        have r_a_3 := fun X9 : Wd F => (NumAt.later (hbl X9.world X9.fact) Va.out) 3 (by omega)
        have r_back_0 := fun X9 : Wd F => (NumAt.later (hbl X9.world X9.fact) Vback.out) 0 (by omega)
        have r_back_1 := fun X9 : Wd F => (NumAt.later (hbl X9.world X9.fact) Vback.out) 1 (by omega)
        have r_back_2 := fun X9 : Wd F => (NumAt.later (hbl X9.world X9.fact) Vback.out) 2 (by omega)
        have r_back_3 := fun X9 : Wd F => (NumAt.later (hbl X9.world X9.fact) Vback.out) 3 (by omega)
        have HCL := Lib.hid hcl
        clear hcl hbl
        refine wpF_seg 19 0 _ _ (fun _ _ _ => rfl) (by decide) ?_
        simp only [List.take_succ_cons, List.take_zero, List.drop_succ_cons, List.drop_zero, Nat.reduceAdd]
        repeat (go_big_quiet_step ((first
          | (go_at_call 22; with_reducible exact to_class HCL.out (C16b.out _))
          | (go_at_call 22; with_reducible exact to_class HCL.out (C16d.out _))
          | (go_at_call 22; with_reducible exact to_class HCL.out (C16c.out _))
          | (go_at_call 24; with_reducible exact to_class HCL.out (C16.out _)))))
        refine wpQuiet_nil ?_
        refine wpF_nil ?_
        clear HCL hn9 r_a_0 r_a_1 r_a_2 r_a_3 r_back_0 r_back_1 r_back_2 r_back_3
        intro bs w12 hb12 hob hap
        clear hob hap
        simp only [over]
        have Ua := Lib.hid (NumAt.later hb12 Va.out)
        have Uback := Lib.hid (NumAt.later hb12 Vback.out)
        have BC := Lib.hid (below_later BB.out hb12)
        clear BB Va Vback
        have BB := BC; clear BC
        have Va := Ua; clear Ua
        have Vback := Uback; clear Uback
        clear hb12
        go_wp2
        go_roundw
        case rel => exact ⟨i + 1, by omega, by go_num, Va.out, Vback.out, BB.out⟩
        case measure => simp [intOf]; omega
    · obtain rfl : i = 256 := by omega
      go_wp2_with fail
      refine region_in (fun W9 => NumAt W9 (w.heap.size) a ∧ NumAt W9 (w5.heap.size) bk ∧ Below w.heap.size w W9) ⟨Va.out, Vback.out, BB.out⟩ ?_
      intro v11 hv11
      clear Va
      clear Vback
      clear BB
      obtain ⟨Va, Vback, BB⟩ := hv11
      have H9 := Lib.hid Va; clear Va; have Va := H9; clear H9
      have H9 := Lib.hid Vback; clear Vback; have Vback := H9; clear H9
      have H9 := Lib.hid BB; clear BB; have BB := H9; clear H9
      refine wp_region_fresh 16 (fun _ => none) (by kernel_rfl) (by kernel_rfl) (fun _ _ _ _ _ h => h) (fun F hn9 hcl hbl => ?_)
      have r_a_0 := fun X9 : Wd F => (NumAt.later (hbl X9.world X9.fact) Va.out) 0 (by omega)
      have r_a_1 := fun X9 : Wd F => (NumAt.later (hbl X9.world X9.fact) Va.out) 1 (by omega)
      have r_a_2 := fun X9 : Wd F => (NumAt.later (hbl X9.world X9.fact) Va.out) 2 (by omega)
      have r_a_3 := fun X9 : Wd F => (NumAt.later (hbl X9.world X9.fact) Va.out) 3 (by omega)
      have HCL := Lib.hid hcl
      clear hcl hbl
      refine wpF_seg 16 0 _ _ (fun _ _ _ => rfl) (by decide) ?_
      simp only [List.take_succ_cons, List.take_zero, List.drop_succ_cons, List.drop_zero, Nat.reduceAdd]
      repeat (go_big_quiet_step ((first
        | (go_at_call 24; with_reducible exact to_class HCL.out (C18.out _))
        | (go_at_call 24; with_reducible exact to_class HCL.out (C18b.out _))
        | (go_at_call 24; with_reducible exact to_class HCL.out (C18c.out _))
        | (go_at_call 16; with_reducible exact to_class HCL.out (C2.out _)))))
      refine wpQuiet_nil ?_
      refine wpF_nil ?_
      clear HCL hn9 r_a_0 r_a_1 r_a_2 r_a_3
      intro bs w11 hb11 hob hap
      clear hob hap
      simp only [over]
      have Ua := Lib.hid (NumAt.later hb11 Va.out)
      have Uback := Lib.hid (NumAt.later hb11 Vback.out)
      have BC := Lib.hid (below_later BB.out hb11)
      clear BB Va Vback
      have BB := BC; clear BC
      have Va := Ua; clear Ua
      have Vback := Uback; clear Uback
      clear hb11
      go_wp2
      go_ret
      exact ⟨rfl, BB.out⟩
end Go.Proofs.Ytdhkkigijcggmaa
