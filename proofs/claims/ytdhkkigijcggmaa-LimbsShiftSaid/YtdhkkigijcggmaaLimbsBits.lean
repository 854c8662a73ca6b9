/- Layer 2 (limbs): the walk of LimbsBits: it returns true. -/
import Derived.Test.YtdhkkigijcggmaaFresh
import Derived.Test.YtdhkkigijcggmaaLimbsSums
import Derived.LoopTactic
namespace Go.Proofs.Ytdhkkigijcggmaa
open Go.ChangeShapes Go.WideShapes Go.ChangeAt Go.RowKit

theorem mod_bit (a i : Nat) : a % 2 ^ (i + 1) = a % 2 ^ i + a / 2 ^ i % 2 * 2 ^ i := by
  have h := Nat.mod_mul (x := a) (a := 2 ^ i) (b := 2)
  rw [← Nat.pow_succ] at h
  rw [h, Nat.mul_comm]
theorem pow_lt_M {i : Nat} (h : i < 256) : 2 ^ i < M256 := by
  rw [M256_eq]
  exact Nat.pow_lt_pow_right (by omega) h
theorem pow_le_M {i : Nat} (h : i ≤ 256) : 2 ^ i ≤ M256 := by
  rw [M256_eq]
  exact Nat.pow_le_pow_right (by omega) h
theorem shift_one {i : Nat} (h : i < 256) : shiftN 1 i = 2 ^ i := by
  unfold shiftN
  rw [if_pos (by omega), Int.toNat_natCast, Nat.one_mul, Nat.mod_eq_of_lt (pow_lt_M h)]
theorem bitN_nat (a : Nat) {i : Nat} (h : i < 256) : bitN a i = a / 2 ^ i % 2 := by
  unfold bitN
  rw [if_neg (by omega), Int.toNat_natCast]
theorem add_bit {a i : Nat} (hi : i < 256) (h : a / 2 ^ i % 2 = 1) : addN (a % 2 ^ i) (2 ^ i) = a % 2 ^ (i + 1) := by
  rw [mod_bit, h, Nat.one_mul]
  unfold addN
  refine Nat.mod_eq_of_lt ?_
  have h1 : a % 2 ^ i < 2 ^ i := Nat.mod_lt _ (Nat.two_pow_pos i)
  have h2 : 2 ^ (i + 1) ≤ M256 := pow_le_M hi
  rw [Nat.pow_succ] at h2
  omega
theorem no_bit {a i : Nat} (h : ¬ a / 2 ^ i % 2 = 1) : a % 2 ^ i = a % 2 ^ (i + 1) := by
  rw [mod_bit, show a / 2 ^ i % 2 = 0 by omega]
  omega
theorem bit_below {a i : Nat} (h : a / 2 ^ i % 2 = 1) : i < bitsN a := by
  rcases Nat.lt_or_ge i (bitsN a) with h' | h'
  · exact h'
  · have h1 := (bitsN_spec a).1
    have h2 : 2 ^ bitsN a ≤ 2 ^ i := Nat.pow_le_pow_right (by omega) h'
    rw [Nat.div_eq_of_lt (by omega)] at h
    omega
theorem top_bit {a : Nat} (ha : a < M256) (h : 0 < bitsN a) : bitN a ((bitsN a : Nat) - 1 : Int) = 1 := by
  have h1 := bitsN_spec a
  have h2 := bitsN_le ha
  have hne : a ≠ 0 := fun h0 => by subst h0; simp [bitsN] at h
  have h3 := h1.2 hne
  have h4 := h1.1
  rw [show ((bitsN a : Nat) - 1 : Int) = ((bitsN a - 1 : Nat) : Int) by omega, bitN_nat a (by omega)]
  obtain ⟨k, hk⟩ : ∃ k, bitsN a = k + 1 := ⟨bitsN a - 1, by omega⟩
  rw [hk] at h3 h4 ⊢
  rw [Nat.pow_succ] at h4
  simp only [Nat.add_sub_cancel] at h3 ⊢
  have h5 : a / 2 ^ k = 1 := by
    refine Nat.div_eq_of_lt_le ?_ ?_ <;> omega
  rw [h5]
theorem bits_less {a b : Nat} (h : bitsN a < bitsN b) : cmpN a b = -1 ∧ cmpN b a = 1 := by
  have h1 := (bitsN_spec a).1
  have hne : b ≠ 0 := fun h0 => by subst h0; simp [bitsN] at h
  have h3 := (bitsN_spec b).2 hne
  have h4 : 2 ^ bitsN a ≤ 2 ^ (bitsN b - 1) := Nat.pow_le_pow_right (by omega) (by omega)
  have hlt : a < b := by omega
  unfold cmpN
  rw [if_pos hlt, if_neg (by omega), if_neg (by omega)]
  exact ⟨rfl, rfl⟩
theorem one_lt_W9 : 1 < W64 := by unfold W64; omega
theorem one_lt_M9 : 1 < M256 := by unfold M256; omega
theorem one_int {x y : Nat} (h : x = y) (h1 : y = 1) : ((x : Nat) : Int) = 1 := by omega
theorem zero_int9 {x y : Nat} (h : x = y % 2) (h1 : ¬ y % 2 = 1) : ((x : Nat) : Int) = 0 := by omega
set_option maxRecDepth 20000 in
set_option maxHeartbeats 8000000 in
theorem limbsBits_walk {a b : Nat} (ha : a < M256) (hb : b < M256) (w : World) :
    Calls Try.prog 7 #[.agg #[.int .u64 (dgt W64 a 0), .int .u64 (dgt W64 a 1), .int .u64 (dgt W64 a 2), .int .u64 (dgt W64 a 3)], .agg #[.int .u64 (dgt W64 b 0), .int .u64 (dgt W64 b 1), .int .u64 (dgt W64 b 2), .int .u64 (dgt W64 b 3)]] w fun e w' => e = .returned (.bool true) ∧ Below w.heap.size w w' := by
  have heq := eq4
  have Ha := Lib.hid ha
  have Hb := Lib.hid hb
  obtain ⟨n, en⟩ : ∃ z, bitsN a = z := ⟨_, rfl⟩
  obtain ⟨m, em⟩ : ∃ z, bitsN b = z := ⟨_, rfl⟩
  have hn := bitsN_le ha
  have hm := bitsN_le hb
  rw [en] at hn
  rw [em] at hm
  have En := Lib.hid en
  have Em := Lib.hid em
  clear en em ha hb
  have C1 := Lib.hid (show ∀ w, Calls Try.prog 20 #[.agg #[.int .u64 (dgt W64 a 0), .int .u64 (dgt W64 a 1), .int .u64 (dgt W64 a 2), .int .u64 (dgt W64 a 3)]] w fun e w' => e = .returned (.int .i64 n) ∧ Below w.heap.size w w' from fun w => by have h := bits_any (a := a) Ha.out w; unfold numV words at h; rw [En.out] at h; exact h)
  have C1b := Lib.hid (show ∀ w, Calls Try.prog 20 #[.agg #[.int .u64 (dgt W64 b 0), .int .u64 (dgt W64 b 1), .int .u64 (dgt W64 b 2), .int .u64 (dgt W64 b 3)]] w fun e w' => e = .returned (.int .i64 m) ∧ Below w.heap.size w w' from fun w => by have h := bits_any (a := b) Hb.out w; unfold numV words at h; rw [Em.out] at h; exact h)
  have C2 := Lib.hid (show ∀ w, Calls Try.prog 16 #[.int .u64 0] w fun e w' => e = .returned (.agg #[.int .u64 (dgt W64 0 0), .int .u64 (dgt W64 0 1), .int .u64 (dgt W64 0 2), .int .u64 (dgt W64 0 3)]) ∧ Below w.heap.size w w' from fun w => by have h := of_lit 0 0 rfl W64_pos w; unfold numV words at h;  exact h)
  have C2b := Lib.hid (show ∀ w, Calls Try.prog 16 #[.int .u64 1] w fun e w' => e = .returned (.agg #[.int .u64 (dgt W64 1 0), .int .u64 (dgt W64 1 1), .int .u64 (dgt W64 1 2), .int .u64 (dgt W64 1 3)]) ∧ Below w.heap.size w w' from fun w => by have h := of_lit 1 1 rfl one_lt_W9 w; unfold numV words at h;  exact h)
  go_enter Try.func7, Try.ntmps7
  go_wp2_with fail
  refine (C1.out _).mono ?_
  rintro _ w1 ⟨rfl, hb1⟩
  have Ua := Lib.hid (NumAt.later hb1 ((NumAt.new _ a (w.heap.size) _ (by simp)).alloc _))
  have Ub := Lib.hid (NumAt.later hb1 (NumAt.new _ b (w.heap.size + 1) _ (by simp)))
  have BC := Lib.hid (below_later (below_new (below_new (Below.refl _ _) _) _) hb1)
  have Va := Ua
  clear Ua
  have Vb := Ub
  clear Ub
  have BB := BC
  clear BC
  clear hb1
  go_wp2_with fail
  refine (C2.out _).mono ?_
  rintro _ w2 ⟨rfl, hb2⟩
  have Ua := Lib.hid (NumAt.later hb2 (Va.out))
  have Ub := Lib.hid (NumAt.later hb2 (Vb.out))
  have BC := Lib.hid (below_later (BB.out) hb2)
  clear Va
  clear Vb
  clear BB
  have Va := Ua
  clear Ua
  have Vb := Ub
  clear Ub
  have BB := BC
  clear BC
  clear hb2
  go_wp2
  have na := Lib.hid (show w.heap.size ≠ w2.heap.size by have := NumAt.lt Va.out; omega)
  have nb := Lib.hid (show w.heap.size + 1 ≠ w2.heap.size by have := NumAt.lt Vb.out; omega)
  have gs := Lib.hid (show w.heap.size ≤ w2.heap.size from BB.out.size)
  go_loopw [7] (fun i wr => ∃ i' x : Nat, i' ≤ 256 ∧ i = .int .i64 i' ∧ Hid (x = a % 2 ^ i') ∧ NumAt wr (w.heap.size) a ∧ NumAt wr (w.heap.size + 1) b ∧ NumAt wr (w2.heap.size) x ∧ FreeN wr (w2.heap.size) 4 ∧ Below w.heap.size w wr) (fun i _ => 256 - (intOf i).toNat)
  case atStart => exact ⟨0, 0, by omega, rfl, Lib.hid (Nat.mod_one a).symm, (Va.out).alloc _, (Vb.out).alloc _, NumAt.new _ 0 (w2.heap.size) _ (by simp), FreeN.made _ _ _ 4 (w2.heap.size) (by simp), below_new (BB.out) _⟩
  case round =>
    obtain ⟨i, x, hi, rfl, hx, hA, hB, hS, hF, hBB⟩ := hrel
    clear Va Vb BB
    have Va := Lib.hid hA; clear hA
    have Vb := Lib.hid hB; clear hB
    have Vsum := Lib.hid hS; clear hS
    have Fsum := Lib.hid hF; clear hF
    have BB := Lib.hid hBB; clear hBB
    have N_sum_a := na; have N_sum_b := nb; have G_sum := gs
    by_cases hlt : i < 256
    · by_cases hbit : a / 2 ^ i % 2 = 1
      · have hin := bit_below hbit
        rw [En.out] at hin
        have HB1 := Lib.hid hbit; clear hbit
        have Lx := Lib.hid (show x < M256 by rw [hx.out]; have := Nat.mod_lt a (Nat.two_pow_pos i); have := pow_lt_M hlt; omega)
        obtain ⟨p, ep⟩ : ∃ z, Hid (2 ^ i = z) := ⟨_, Lib.hid rfl⟩
        obtain ⟨y, ey⟩ : ∃ z, Hid (addN x p = z) := ⟨_, Lib.hid rfl⟩
        have Lp := Lib.hid (show p < M256 by rw [← ep.out]; exact pow_lt_M hlt)
        have C6 := Lib.hid (show ∀ w, Calls Try.prog 22 #[.agg #[.int .u64 (dgt W64 a 0), .int .u64 (dgt W64 a 1), .int .u64 (dgt W64 a 2), .int .u64 (dgt W64 a 3)], .int .i64 i] w fun e w' => e = .returned (.int .u64 1) ∧ Below w.heap.size w w' from fun w => by have h := bit_any (a := a) i (hi0 := by omega) (hi1 := by omega) (w := w); unfold numV words at h; rw [(one_int (bitN_nat a hlt) HB1.out)] at h; exact h)
        have C9 := Lib.hid (show ∀ w, Calls Try.prog 24 #[.agg #[.int .u64 (dgt W64 1 0), .int .u64 (dgt W64 1 1), .int .u64 (dgt W64 1 2), .int .u64 (dgt W64 1 3)], .int .i64 i] w fun e w' => e = .returned (.agg #[.int .u64 (dgt W64 p 0), .int .u64 (dgt W64 p 1), .int .u64 (dgt W64 p 2), .int .u64 (dgt W64 p 3)]) ∧ Below w.heap.size w w' from fun w => by have h := shift_any (a := 1) one_lt_M9 i (by omega) (by omega) w; unfold numV words at h; rw [shift_one hlt, ep.out] at h; exact h)
        have C9b := Lib.hid (show ∀ w, Calls Try.prog 10 #[.agg #[.int .u64 (dgt W64 x 0), .int .u64 (dgt W64 x 1), .int .u64 (dgt W64 x 2), .int .u64 (dgt W64 x 3)], .agg #[.int .u64 (dgt W64 p 0), .int .u64 (dgt W64 p 1), .int .u64 (dgt W64 p 2), .int .u64 (dgt W64 p 3)]] w fun e w' => e = .returned (.tuple #[.agg #[.int .u64 (dgt W64 y 0), .int .u64 (dgt W64 y 1), .int .u64 (dgt W64 y 2), .int .u64 (dgt W64 y 3)], .int .u64 (addNC x p)]) ∧ Below w.heap.size w w' from fun w => by have h := add_any (a := x) (b := p) Lx.out Lp.out w; unfold numV words at h; rw [ey.out] at h; exact h)
        have l_a_0 := Va.out 0 (by omega)
        have l_a_1 := Va.out 1 (by omega)
        have l_a_2 := Va.out 2 (by omega)
        have l_a_3 := Va.out 3 (by omega)
        have t_a := Va.out.lt
        go_wp2_with fail
        refine (C6.out _).mono ?_
        rintro _ w11 ⟨rfl, hb11⟩
        clear l_a_0 l_a_1 l_a_2 l_a_3 t_a
        have Wsum := Lib.hid (FreeN.later (Fsum.out) hb11 (NumAt.lt (Vsum.out)))
        have Ua := Lib.hid (NumAt.later hb11 (Va.out))
        have Ub := Lib.hid (NumAt.later hb11 (Vb.out))
        have Usum := Lib.hid (NumAt.later hb11 (Vsum.out))
        have BC := Lib.hid (below_later (BB.out) hb11)
        clear Va
        clear Vb
        clear Vsum
        clear Fsum
        clear BB
        have Va := Ua
        clear Ua
        have Vb := Ub
        clear Ub
        have Vsum := Usum
        clear Usum
        have Fsum := Wsum
        clear Wsum
        have BB := BC
        clear BC
        clear hb11
        go_wp2_with fail
        refine region_in (fun W9 => NumAt W9 (w.heap.size) a ∧ NumAt W9 (w.heap.size + 1) b ∧ NumAt W9 (w2.heap.size) x ∧ FreeN W9 (w2.heap.size) 4 ∧ Below w.heap.size w W9) ⟨Va.out, Vb.out, Vsum.out, Fsum.out, BB.out⟩ ?_
        intro v12 hv12
        clear Va
        clear Vb
        clear Vsum
        clear Fsum
        clear BB
        obtain ⟨Va, Vb, Vsum, Fsum, BB⟩ := hv12
        have H9 := Lib.hid Va; clear Va; have Va := H9; clear H9
        have H9 := Lib.hid Vb; clear Vb; have Vb := H9; clear H9
        have H9 := Lib.hid Vsum; clear Vsum; have Vsum := H9; clear H9
        have H9 := Lib.hid Fsum; clear Fsum; have Fsum := H9; clear H9
        have H9 := Lib.hid BB; clear BB; have BB := H9; clear H9
        refine wp_region_fresh 8 (fun _ => none) (by kernel_rfl) (by kernel_rfl) (fun _ _ _ _ _ h => h) (fun F hn9 hcl hbl => ?_)
        have r_sum_0 := fun X9 : Wd F => (NumAt.later (hbl X9.world X9.fact) Vsum.out) 0 (by omega)
        have r_sum_1 := fun X9 : Wd F => (NumAt.later (hbl X9.world X9.fact) Vsum.out) 1 (by omega)
        have r_sum_2 := fun X9 : Wd F => (NumAt.later (hbl X9.world X9.fact) Vsum.out) 2 (by omega)
        have r_sum_3 := fun X9 : Wd F => (NumAt.later (hbl X9.world X9.fact) Vsum.out) 3 (by omega)
        have HCL := Lib.hid hcl
        clear hcl hbl
        refine wpF_seg 8 0 _ _ (fun _ _ _ => rfl) (by decide) ?_
        simp only [List.take_succ_cons, List.take_zero, List.drop_succ_cons, List.drop_zero, Nat.reduceAdd]
        repeat (go_big_quiet_step ((first
          | (go_at_call 16; exact to_class HCL.out (C2b.out _))
          | (go_at_call 24; exact to_class HCL.out (C9.out _))
          | (go_at_call 10; exact to_class HCL.out (C9b.out _)))))
        refine wpQuiet_nil ?_
        refine wpF_nil ?_
        clear HCL hn9 r_sum_0 r_sum_1 r_sum_2 r_sum_3
        intro bs w12 hb12 hob hap
        clear hob hap
        simp only [over]
        have Ua := Lib.hid (NumAt.later hb12 Va.out)
        have Ub := Lib.hid (NumAt.later hb12 Vb.out)
        have Usum := Lib.hid (NumAt.later hb12 Vsum.out)
        have Wsum := Lib.hid (FreeN.later Fsum.out hb12 (NumAt.lt Vsum.out))
        have BC := Lib.hid (below_later BB.out hb12)
        clear BB Va Vb Vsum Fsum
        have BB := BC; clear BC
        have Va := Ua; clear Ua
        have Vb := Ub; clear Ub
        have Vsum := Usum; clear Usum
        have Fsum := Wsum; clear Wsum
        clear hb12
        have s_sum_0 := Vsum.out 0 (by omega); have f_sum_0 := Fsum.out 0 (by omega)
        have s_sum_1 := Vsum.out 1 (by omega); have f_sum_1 := Fsum.out 1 (by omega)
        have s_sum_2 := Vsum.out 2 (by omega); have f_sum_2 := Fsum.out 2 (by omega)
        have s_sum_3 := Vsum.out 3 (by omega); have f_sum_3 := Fsum.out 3 (by omega)
        go_wp2
        go_roundw
        case rel => exact ⟨i + 1, y, by omega, by go_num, Lib.hid (by rw [← ey.out, ← ep.out, hx.out]; exact add_bit hlt HB1.out), NumAt.other4 (Va.out) N_sum_a.out _ _ _ _, NumAt.other4 (Vb.out) N_sum_b.out _ _ _ _, NumAt.set4 (Vsum.out) y, FreeN.set4 (Fsum.out) _ _ _ _ _ _ _ _, below_set4 (BB.out) G_sum.out _ _ _ _⟩
        case measure => simp [intOf]; omega
      · have HB0 := Lib.hid hbit; clear hbit
        have C6 := Lib.hid (show ∀ w, Calls Try.prog 22 #[.agg #[.int .u64 (dgt W64 a 0), .int .u64 (dgt W64 a 1), .int .u64 (dgt W64 a 2), .int .u64 (dgt W64 a 3)], .int .i64 i] w fun e w' => e = .returned (.int .u64 0) ∧ Below w.heap.size w w' from fun w => by have h := bit_any (a := a) i (hi0 := by omega) (hi1 := by omega) (w := w); unfold numV words at h; rw [(zero_int9 (bitN_nat a hlt) HB0.out)] at h; exact h)
        have l_a_0 := Va.out 0 (by omega)
        have l_a_1 := Va.out 1 (by omega)
        have l_a_2 := Va.out 2 (by omega)
        have l_a_3 := Va.out 3 (by omega)
        have t_a := Va.out.lt
        go_wp2_with fail
        refine (C6.out _).mono ?_
        rintro _ w11 ⟨rfl, hb11⟩
        clear l_a_0 l_a_1 l_a_2 l_a_3 t_a
        have Wsum := Lib.hid (FreeN.later (Fsum.out) hb11 (NumAt.lt (Vsum.out)))
        have Ua := Lib.hid (NumAt.later hb11 (Va.out))
        have Ub := Lib.hid (NumAt.later hb11 (Vb.out))
        have Usum := Lib.hid (NumAt.later hb11 (Vsum.out))
        have BC := Lib.hid (below_later (BB.out) hb11)
        clear Va
        clear Vb
        clear Vsum
        clear Fsum
        clear BB
        have Va := Ua
        clear Ua
        have Vb := Ub
        clear Ub
        have Vsum := Usum
        clear Usum
        have Fsum := Wsum
        clear Wsum
        have BB := BC
        clear BC
        clear hb11
        go_wp2
        go_roundw
        case rel => exact ⟨i + 1, x, by omega, by go_num, Lib.hid (by rw [hx.out]; exact no_bit HB0.out), Va.out, Vb.out, Vsum.out, Fsum.out, BB.out⟩
        case measure => simp [intOf]; omega
    · obtain rfl : i = 256 := by omega
      have hxa : x = a := by have h1 := hx.out; have h2 := Ha.out; rw [M256_eq] at h2; rw [h1]; exact Nat.mod_eq_of_lt h2
      clear hx
      subst hxa
      have Ct := Lib.hid (fun h : 0 < n => (show bitN x ((n : Int) - 1) = 1 by have := top_bit Ha.out (by rw [En.out]; exact h); rw [En.out] at this; exact this))
      have l_b_0 := Vb.out 0 (by omega)
      have l_b_1 := Vb.out 1 (by omega)
      have l_b_2 := Vb.out 2 (by omega)
      have l_b_3 := Vb.out 3 (by omega)
      have t_b := Vb.out.lt
      go_wp2_with fail
      refine (C1b.out _).mono ?_
      rintro _ w11 ⟨rfl, hb11⟩
      clear l_b_0 l_b_1 l_b_2 l_b_3 t_b
      have Wsum := Lib.hid (FreeN.later (Fsum.out) hb11 (NumAt.lt (Vsum.out)))
      have Ua := Lib.hid (NumAt.later hb11 (Va.out))
      have Ub := Lib.hid (NumAt.later hb11 (Vb.out))
      have Usum := Lib.hid (NumAt.later hb11 (Vsum.out))
      have BC := Lib.hid (below_later (BB.out) hb11)
      clear Va
      clear Vb
      clear Vsum
      clear Fsum
      clear BB
      have Va := Ua
      clear Ua
      have Vb := Ub
      clear Ub
      have Vsum := Usum
      clear Usum
      have Fsum := Wsum
      clear Wsum
      have BB := BC
      clear BC
      clear hb11
      go_wp2_with fail
      refine (alive_any _).mono ?_
      rintro _ w12 ⟨rfl, hb12⟩
      have Wsum := Lib.hid (FreeN.later (Fsum.out) hb12 (NumAt.lt (Vsum.out)))
      have Ua := Lib.hid (NumAt.later hb12 (Va.out))
      have Ub := Lib.hid (NumAt.later hb12 (Vb.out))
      have Usum := Lib.hid (NumAt.later hb12 (Vsum.out))
      have BC := Lib.hid (below_later (BB.out) hb12)
      clear Va
      clear Vb
      clear Vsum
      clear Fsum
      clear BB
      have Va := Ua
      clear Ua
      have Vb := Ub
      clear Ub
      have Vsum := Usum
      clear Usum
      have Fsum := Wsum
      clear Wsum
      have BB := BC
      clear BC
      clear hb12
      have hcase : (n ≤ 0 ∧ m ≤ 0) ∨ (n ≤ 0 ∧ 0 < m) ∨ (0 < n ∧ n = m) ∨ (0 < n ∧ n < m) ∨ (0 < n ∧ m < n) := by omega
      rcases hcase with ⟨h1, h2⟩ | ⟨h1, h2⟩ | ⟨h1, h2⟩ | ⟨h1, h2⟩ | ⟨h1, h2⟩
      · clear hlt
        have l_sum_0 := Vsum.out 0 (by omega)
        have l_sum_1 := Vsum.out 1 (by omega)
        have l_sum_2 := Vsum.out 2 (by omega)
        have l_sum_3 := Vsum.out 3 (by omega)
        have t_sum := Vsum.out.lt
        have l_a_0 := Va.out 0 (by omega)
        have l_a_1 := Va.out 1 (by omega)
        have l_a_2 := Va.out 2 (by omega)
        have l_a_3 := Va.out 3 (by omega)
        have t_a := Va.out.lt
        go_wp2
        go_ret
        exact ⟨rfl, BB.out⟩
      · clear hlt
        have C12 := Lib.hid (show ∀ w, Calls Try.prog 18 #[.agg #[.int .u64 (dgt W64 x 0), .int .u64 (dgt W64 x 1), .int .u64 (dgt W64 x 2), .int .u64 (dgt W64 x 3)], .agg #[.int .u64 (dgt W64 b 0), .int .u64 (dgt W64 b 1), .int .u64 (dgt W64 b 2), .int .u64 (dgt W64 b 3)]] w fun e w' => e = .returned (.int .i64 (-1)) ∧ Below w.heap.size w w' from fun w => by have h := cmp_any (a := x) (b := b) Ha.out Hb.out w; unfold numV words at h; rw [(bits_less (by rw [En.out, Em.out]; omega)).1] at h; exact h)
        have l_sum_0 := Vsum.out 0 (by omega)
        have l_sum_1 := Vsum.out 1 (by omega)
        have l_sum_2 := Vsum.out 2 (by omega)
        have l_sum_3 := Vsum.out 3 (by omega)
        have t_sum := Vsum.out.lt
        have l_a_0 := Va.out 0 (by omega)
        have l_a_1 := Va.out 1 (by omega)
        have l_a_2 := Va.out 2 (by omega)
        have l_a_3 := Va.out 3 (by omega)
        have t_a := Va.out.lt
        have l_b_0 := Vb.out 0 (by omega)
        have l_b_1 := Vb.out 1 (by omega)
        have l_b_2 := Vb.out 2 (by omega)
        have l_b_3 := Vb.out 3 (by omega)
        have t_b := Vb.out.lt
        go_wp2_with fail
        refine (C12.out _).mono ?_
        rintro _ w13 ⟨rfl, hb13⟩
        clear l_sum_0 l_sum_1 l_sum_2 l_sum_3 t_sum l_a_0 l_a_1 l_a_2 l_a_3 t_a l_b_0 l_b_1 l_b_2 l_b_3 t_b
        have Wsum := Lib.hid (FreeN.later (Fsum.out) hb13 (NumAt.lt (Vsum.out)))
        have Ua := Lib.hid (NumAt.later hb13 (Va.out))
        have Ub := Lib.hid (NumAt.later hb13 (Vb.out))
        have Usum := Lib.hid (NumAt.later hb13 (Vsum.out))
        have BC := Lib.hid (below_later (BB.out) hb13)
        clear Va
        clear Vb
        clear Vsum
        clear Fsum
        clear BB
        have Va := Ua
        clear Ua
        have Vb := Ub
        clear Ub
        have Vsum := Usum
        clear Usum
        have Fsum := Wsum
        clear Wsum
        have BB := BC
        clear BC
        clear hb13
        go_wp2
        go_ret
        exact ⟨rfl, BB.out⟩
      · clear hlt
        have h3 : n ≤ m := by omega
        have h4 : m ≤ n := by omega
        clear h2
        have C11 := Lib.hid (show ∀ w, Calls Try.prog 22 #[.agg #[.int .u64 (dgt W64 x 0), .int .u64 (dgt W64 x 1), .int .u64 (dgt W64 x 2), .int .u64 (dgt W64 x 3)], .int .i64 ((n : Int) - 1)] w fun e w' => e = .returned (.int .u64 1) ∧ Below w.heap.size w w' from fun w => by have h := bit_any (a := x) ((n : Int) - 1) (hi0 := by omega) (hi1 := by omega) (w := w); unfold numV words at h; rw [Ct.out h1] at h; exact h)
        have l_sum_0 := Vsum.out 0 (by omega)
        have l_sum_1 := Vsum.out 1 (by omega)
        have l_sum_2 := Vsum.out 2 (by omega)
        have l_sum_3 := Vsum.out 3 (by omega)
        have t_sum := Vsum.out.lt
        have l_a_0 := Va.out 0 (by omega)
        have l_a_1 := Va.out 1 (by omega)
        have l_a_2 := Va.out 2 (by omega)
        have l_a_3 := Va.out 3 (by omega)
        have t_a := Va.out.lt
        go_wp2_with fail
        refine (C11.out _).mono ?_
        rintro _ w13 ⟨rfl, hb13⟩
        clear l_sum_0 l_sum_1 l_sum_2 l_sum_3 t_sum l_a_0 l_a_1 l_a_2 l_a_3 t_a
        have Wsum := Lib.hid (FreeN.later (Fsum.out) hb13 (NumAt.lt (Vsum.out)))
        have Ua := Lib.hid (NumAt.later hb13 (Va.out))
        have Ub := Lib.hid (NumAt.later hb13 (Vb.out))
        have Usum := Lib.hid (NumAt.later hb13 (Vsum.out))
        have BC := Lib.hid (below_later (BB.out) hb13)
        clear Va
        clear Vb
        clear Vsum
        clear Fsum
        clear BB
        have Va := Ua
        clear Ua
        have Vb := Ub
        clear Ub
        have Vsum := Usum
        clear Usum
        have Fsum := Wsum
        clear Wsum
        have BB := BC
        clear BC
        clear hb13
        go_wp2
        go_ret
        exact ⟨rfl, BB.out⟩
      · clear hlt
        have C11 := Lib.hid (show ∀ w, Calls Try.prog 22 #[.agg #[.int .u64 (dgt W64 x 0), .int .u64 (dgt W64 x 1), .int .u64 (dgt W64 x 2), .int .u64 (dgt W64 x 3)], .int .i64 ((n : Int) - 1)] w fun e w' => e = .returned (.int .u64 1) ∧ Below w.heap.size w w' from fun w => by have h := bit_any (a := x) ((n : Int) - 1) (hi0 := by omega) (hi1 := by omega) (w := w); unfold numV words at h; rw [Ct.out h1] at h; exact h)
        have C12 := Lib.hid (show ∀ w, Calls Try.prog 18 #[.agg #[.int .u64 (dgt W64 x 0), .int .u64 (dgt W64 x 1), .int .u64 (dgt W64 x 2), .int .u64 (dgt W64 x 3)], .agg #[.int .u64 (dgt W64 b 0), .int .u64 (dgt W64 b 1), .int .u64 (dgt W64 b 2), .int .u64 (dgt W64 b 3)]] w fun e w' => e = .returned (.int .i64 (-1)) ∧ Below w.heap.size w w' from fun w => by have h := cmp_any (a := x) (b := b) Ha.out Hb.out w; unfold numV words at h; rw [(bits_less (by rw [En.out, Em.out]; exact h2)).1] at h; exact h)
        have l_sum_0 := Vsum.out 0 (by omega)
        have l_sum_1 := Vsum.out 1 (by omega)
        have l_sum_2 := Vsum.out 2 (by omega)
        have l_sum_3 := Vsum.out 3 (by omega)
        have t_sum := Vsum.out.lt
        have l_a_0 := Va.out 0 (by omega)
        have l_a_1 := Va.out 1 (by omega)
        have l_a_2 := Va.out 2 (by omega)
        have l_a_3 := Va.out 3 (by omega)
        have t_a := Va.out.lt
        go_wp2_with fail
        refine (C11.out _).mono ?_
        rintro _ w13 ⟨rfl, hb13⟩
        clear l_sum_0 l_sum_1 l_sum_2 l_sum_3 t_sum l_a_0 l_a_1 l_a_2 l_a_3 t_a
        have Wsum := Lib.hid (FreeN.later (Fsum.out) hb13 (NumAt.lt (Vsum.out)))
        have Ua := Lib.hid (NumAt.later hb13 (Va.out))
        have Ub := Lib.hid (NumAt.later hb13 (Vb.out))
        have Usum := Lib.hid (NumAt.later hb13 (Vsum.out))
        have BC := Lib.hid (below_later (BB.out) hb13)
        clear Va
        clear Vb
        clear Vsum
        clear Fsum
        clear BB
        have Va := Ua
        clear Ua
        have Vb := Ub
        clear Ub
        have Vsum := Usum
        clear Usum
        have Fsum := Wsum
        clear Wsum
        have BB := BC
        clear BC
        clear hb13
        have l_a_0 := Va.out 0 (by omega)
        have l_a_1 := Va.out 1 (by omega)
        have l_a_2 := Va.out 2 (by omega)
        have l_a_3 := Va.out 3 (by omega)
        have t_a := Va.out.lt
        have l_b_0 := Vb.out 0 (by omega)
        have l_b_1 := Vb.out 1 (by omega)
        have l_b_2 := Vb.out 2 (by omega)
        have l_b_3 := Vb.out 3 (by omega)
        have t_b := Vb.out.lt
        go_wp2_with fail
        refine (C12.out _).mono ?_
        rintro _ w14 ⟨rfl, hb14⟩
        clear l_a_0 l_a_1 l_a_2 l_a_3 t_a l_b_0 l_b_1 l_b_2 l_b_3 t_b
        have Wsum := Lib.hid (FreeN.later (Fsum.out) hb14 (NumAt.lt (Vsum.out)))
        have Ua := Lib.hid (NumAt.later hb14 (Va.out))
        have Ub := Lib.hid (NumAt.later hb14 (Vb.out))
        have Usum := Lib.hid (NumAt.later hb14 (Vsum.out))
        have BC := Lib.hid (below_later (BB.out) hb14)
        clear Va
        clear Vb
        clear Vsum
        clear Fsum
        clear BB
        have Va := Ua
        clear Ua
        have Vb := Ub
        clear Ub
        have Vsum := Usum
        clear Usum
        have Fsum := Wsum
        clear Wsum
        have BB := BC
        clear BC
        clear hb14
        go_wp2
        go_ret
        exact ⟨rfl, BB.out⟩
      · clear hlt
        have C11 := Lib.hid (show ∀ w, Calls Try.prog 22 #[.agg #[.int .u64 (dgt W64 x 0), .int .u64 (dgt W64 x 1), .int .u64 (dgt W64 x 2), .int .u64 (dgt W64 x 3)], .int .i64 ((n : Int) - 1)] w fun e w' => e = .returned (.int .u64 1) ∧ Below w.heap.size w w' from fun w => by have h := bit_any (a := x) ((n : Int) - 1) (hi0 := by omega) (hi1 := by omega) (w := w); unfold numV words at h; rw [Ct.out h1] at h; exact h)
        have C12 := Lib.hid (show ∀ w, Calls Try.prog 18 #[.agg #[.int .u64 (dgt W64 x 0), .int .u64 (dgt W64 x 1), .int .u64 (dgt W64 x 2), .int .u64 (dgt W64 x 3)], .agg #[.int .u64 (dgt W64 b 0), .int .u64 (dgt W64 b 1), .int .u64 (dgt W64 b 2), .int .u64 (dgt W64 b 3)]] w fun e w' => e = .returned (.int .i64 (1)) ∧ Below w.heap.size w w' from fun w => by have h := cmp_any (a := x) (b := b) Ha.out Hb.out w; unfold numV words at h; rw [(bits_less (by rw [En.out, Em.out]; exact h2)).2] at h; exact h)
        have l_sum_0 := Vsum.out 0 (by omega)
        have l_sum_1 := Vsum.out 1 (by omega)
        have l_sum_2 := Vsum.out 2 (by omega)
        have l_sum_3 := Vsum.out 3 (by omega)
        have t_sum := Vsum.out.lt
        have l_a_0 := Va.out 0 (by omega)
        have l_a_1 := Va.out 1 (by omega)
        have l_a_2 := Va.out 2 (by omega)
        have l_a_3 := Va.out 3 (by omega)
        have t_a := Va.out.lt
        go_wp2_with fail
        refine (C11.out _).mono ?_
        rintro _ w13 ⟨rfl, hb13⟩
        clear l_sum_0 l_sum_1 l_sum_2 l_sum_3 t_sum l_a_0 l_a_1 l_a_2 l_a_3 t_a
        have Wsum := Lib.hid (FreeN.later (Fsum.out) hb13 (NumAt.lt (Vsum.out)))
        have Ua := Lib.hid (NumAt.later hb13 (Va.out))
        have Ub := Lib.hid (NumAt.later hb13 (Vb.out))
        have Usum := Lib.hid (NumAt.later hb13 (Vsum.out))
        have BC := Lib.hid (below_later (BB.out) hb13)
        clear Va
        clear Vb
        clear Vsum
        clear Fsum
        clear BB
        have Va := Ua
        clear Ua
        have Vb := Ub
        clear Ub
        have Vsum := Usum
        clear Usum
        have Fsum := Wsum
        clear Wsum
        have BB := BC
        clear BC
        clear hb13
        have l_a_0 := Va.out 0 (by omega)
        have l_a_1 := Va.out 1 (by omega)
        have l_a_2 := Va.out 2 (by omega)
        have l_a_3 := Va.out 3 (by omega)
        have t_a := Va.out.lt
        have l_b_0 := Vb.out 0 (by omega)
        have l_b_1 := Vb.out 1 (by omega)
        have l_b_2 := Vb.out 2 (by omega)
        have l_b_3 := Vb.out 3 (by omega)
        have t_b := Vb.out.lt
        go_wp2_with fail
        refine (C12.out _).mono ?_
        rintro _ w14 ⟨rfl, hb14⟩
        clear l_a_0 l_a_1 l_a_2 l_a_3 t_a l_b_0 l_b_1 l_b_2 l_b_3 t_b
        have Wsum := Lib.hid (FreeN.later (Fsum.out) hb14 (NumAt.lt (Vsum.out)))
        have Ua := Lib.hid (NumAt.later hb14 (Va.out))
        have Ub := Lib.hid (NumAt.later hb14 (Vb.out))
        have Usum := Lib.hid (NumAt.later hb14 (Vsum.out))
        have BC := Lib.hid (below_later (BB.out) hb14)
        clear Va
        clear Vb
        clear Vsum
        clear Fsum
        clear BB
        have Va := Ua
        clear Ua
        have Vb := Ub
        clear Ub
        have Vsum := Usum
        clear Usum
        have Fsum := Wsum
        clear Wsum
        have BB := BC
        clear BC
        clear hb14
        go_wp2
        go_ret
        exact ⟨rfl, BB.out⟩
end Go.Proofs.Ytdhkkigijcggmaa
