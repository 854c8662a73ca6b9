/- Layer 4's reference -/
import Derived.Test.YtmijablfjigbhaaGreatDoorSZVG46
set_option linter.unusedSimpArgs false
set_option linter.unusedVariables false
set_option maxHeartbeats 4000000
set_option maxRecDepth 100000
namespace Go.Proofs.YtmijablfjigbhaaGreatDoor
open Go.ChangeShapes Go.WideShapes Go.ChangeAt Go.RowKit
theorem bit_word (n j : Nat) : bits .and .u64 (((jf jd n (j / 64) : Nat) : Int) / 2 ^ (j % 64)) 1 = ((n / 2 ^ j % 2 : Nat) : Int) := by
 have e : ((jf jd n (j / 64) : Nat) : Int) / 2 ^ (j % 64) = ((jf jd n (j / 64) / 2 ^ (j % 64) : Nat) : Int) := by simp
 have hl : jf jd n (j / 64) / 2 ^ (j % 64) < 18446744073709551616 := Nat.lt_of_le_of_lt (Nat.div_le_self _ _) (qO n _); rw [e, show (1 : Int) = ((1 : Nat) : Int) from rfl, u64_and_nat _ _ hl (by omega), Nat.and_one_is_mod, QZ, ZO 64 n (j / 64) (j % 64) (Nat.mod_lt _ (by omega)), show 64 * (j / 64) + j % 64 = j by omega]
theorem kU {a n m : Nat} (ha : a < m) (hn : n < jo) (h1 : 1 < m) (MC : m < jd) (w : World) :
  Calls Tryz.prog 215 #[.int .u64 (a : Nat), jj n, .int .u64 (m : Nat)] w fun e w' => e = .returned (.int .u64 ((a ^ n % m : Nat) : Int)) ∧ Below w.heap.size w w' := by
 obtain ⟨q, hq⟩ := je (a ^ n % m); rw [← hq]; have HQ := jh hq; obtain ⟨L, hL⟩ := je (jX n); have CB := jh (fun W => by have h9 := dR hn W; rewrite [← hL] at h9; unfold jj words at h9; exact h9); have hL6 : L ≤ 256 := by rw [hL]; exact Qe hn
 have HL := jh (show n / 2 ^ L = 0 by rw [hL]; exact AQ); have CX := jh (fun (x y : Nat) (hx : x < m) (hy : y < m) (w : World) => Tryz.bits_Mul64 x y (Nat.lt_trans hx MC) (Nat.lt_trans hy MC) w); have CD := jh (fun (x y : Nat) (hx : x < m) (hy : y < m) (w : World) => by have h9 := Qr (x * y / 18446744073709551616) (x * y % 18446744073709551616) m (Nat.mod_lt _ (by omega)) MC ((Nat.div_lt_iff_lt_mul (by omega)).2 (Nat.mul_lt_mul_of_lt_of_lt hx (Nat.lt_trans hy MC))) w; rewrite [show x * y / 18446744073709551616 * jd + x * y % 18446744073709551616 = x * y from by rw [Nat.mul_comm]; exact Nat.div_add_mod _ _] at h9; exact h9); have HA := jh ha; have HM := jh h1; have h1m : (1 : Int) % (m : Int) = 1 := Int.emod_eq_of_lt (by omega) (by omega); have h1t : (1 : Int).tmod (m : Int) = 1 := by rw [Int.tmod_eq_emod_of_nonneg (by omega)]; exact h1m
 have hm0 : ¬ (m : Int) = 0 := by omega
 clear hq hL hn ha h1 MC; unfold jj words
 go_enter Tryz.func215, Tryz.ntmps215
 go_upto_region 1 with fail
 obtain ⟨wz, NN, e9, J5, Z5, B, V8, Y9, hwNN, U1⟩ := Zp w 24 n; rw [e9, J5]; clear e9 J5; obtain ⟨V6, U6, P6, O6⟩ := jz Z5.out
 go_wp2_with fail
 clear V6 U6 P6 O6; refine (CB.out _).mono ?_; rintro _ w2 ⟨rfl, hb⟩; obtain ⟨Z5, U1, B⟩ := Zn hb Z5 U1 B; clear hb; clear h1m h1t
 go_wp2_with fail
 go_loopw [7, 8] (fun ov i wr => ∃ (z : Int) (k o : Nat), Hid (z = (k : Int) - 1) ∧ k ≤ L ∧ i = .int .i64 z ∧ ov = .int .u64 o ∧ o < m ∧ Hid (o = a ^ (n / 2 ^ k) % m) ∧ Hid (U0 wr NN n) ∧ Hid (Below w.heap.size w wr) ∧ NN < wr.heap.size) (fun _ i _ => (intOf i + 1).toNat)
 case atStart => exact ⟨(L : Int) - 1, L, 1, jh rfl, Nat.le_refl _, rfl, rfl, HM.out, jh (by rw [HL.out, Nat.pow_zero, Nat.mod_eq_of_lt HM.out]), Z5, B, U1⟩
 case round =>
  clear Z5 B U1; obtain ⟨z, k, o, hz, hk, rfl, rfl, iT, HO, Z5, B, U1⟩ := hrel
  by_cases hlt : 0 ≤ z
  ·obtain ⟨j, rfl⟩ : ∃ j : Nat, z = (j : Int) := ⟨z.toNat, by omega⟩; have hkj : k = j + 1 := by have := hz.out; omega
   rw [hkj] at HO hk; clear hz hkj; have hj : j < 256 := by omega
   obtain ⟨o2, ho2⟩ := je (o * o % m); have tX : o2 < m := by rw [ho2]; exact Nat.mod_lt _ (by have := HM.out; omega)
   obtain ⟨h, hh⟩ := je (o * o / 18446744073709551616); obtain ⟨l, hl⟩ := je (o * o % 18446744073709551616); obtain ⟨d, hd⟩ := je (o * o / m); have C1 := jh (fun w => by have h9 := CX.out o o iT iT w; rewrite [← hh, ← hl] at h9; exact h9); have C2 := jh (fun w => by have h9 := CD.out o o iT iT w; rewrite [← hh, ← hl, ← hd, ← ho2] at h9; exact h9); obtain ⟨b, hb⟩ := je (n / 2 ^ j % 2); have hb2 : b = 0 ∨ b = 1 := by omega
   have rN := Z5.out (j / 64) (by omega); have h64 : j / 64 < 4 := by omega
   have hbit := jh (show bits .and .u64 (((jf jd n (j / 64) : Nat) : Int) / 2 ^ (j % 64)) 1 = ((b : Nat) : Int) by rw [hb]; exact bit_word n j); have U9 := jh ho2; have HB := jh hb; clear hh hl hd ho2 hb
   go_wp2_with fail
   refine (C1.out _).mono ?_; rintro _ w3 ⟨rfl, rfl⟩
   go_wp2_with fail
   refine (C2.out _).mono ?_; rintro _ w4 ⟨rfl, hb⟩; have rN := jm rN hb; obtain ⟨Z5, U1, B⟩ := Zn hb Z5 U1 B; clear hb; have hbit9 := hbit.out
   rcases hb2 with rfl | rfl
   ·skip
    have HK := jh (show o2 = a ^ (n / 2 ^ j) % m by rw [U9.out, HO.out]; exact dP HB.out.symm)
    go_wp2_with fail
    go_roundw
    case rel => exact ⟨(j : Int) - 1, j, o2, jh rfl, by omega, by go_num, rfl, tX, HK, Z5, B, U1⟩
    case measure => (simp [intOf] <;> omega)
   ·skip
    obtain ⟨o3, ho3⟩ := je (o2 * a % m); have hom3 : o3 < m := by rw [ho3]; exact Nat.mod_lt _ (by have := HM.out; omega)
    obtain ⟨h2, hh⟩ := je (o2 * a / 18446744073709551616); obtain ⟨l2, hl⟩ := je (o2 * a % 18446744073709551616); obtain ⟨d2, hd⟩ := je (o2 * a / m); have C3 := jh (fun w => by have h9 := CX.out o2 a tX HA.out w; rewrite [← hh, ← hl] at h9; exact h9); have C4 := jh (fun w => by have h9 := CD.out o2 a tX HA.out w; rewrite [← hh, ← hl, ← hd, ← ho3] at h9; exact h9); have HK := jh (show o3 = a ^ (n / 2 ^ j) % m by rw [ho3, U9.out, HO.out]; exact bP HB.out.symm); clear hh hl hd ho3
    go_wp2_with fail
    refine (C3.out _).mono ?_; rintro _ w5 ⟨rfl, rfl⟩
    go_wp2_with fail
    refine (C4.out _).mono ?_; rintro _ w6 ⟨rfl, hb⟩; clear rN; obtain ⟨Z5, U1, B⟩ := Zn hb Z5 U1 B; clear hb
    go_wp2_with fail
    go_roundw
    case rel => exact ⟨(j : Int) - 1, j, o3, jh rfl, by omega, by go_num, rfl, hom3, HK, Z5, B, U1⟩
    case measure => (simp [intOf] <;> omega)
  ·have hk0 : k = 0 := by have := hz.out; omega
   have hoq : o = q := by have h9 := HO.out; rw [hk0, Nat.pow_zero, Nat.div_one] at h9; rw [h9, HQ.out]
   rw [hoq]; clear hz HO hk0 hoq iT
   go_wp2_with fail
   refine bodyPost_ret (v := .int .u64 (q : Nat)) ?_ rfl ⟨rfl, B.out⟩
   simp [results, Tryz.results215, go_sem]
theorem uY {a n m : Nat} (hn : n < jo) (hm : m < jo) (h1 : 1 < m) (ha : a < m) (MC : m < jd) (w : World) :
  Calls Tryz.prog 183 #[jj a, jj n, jj m] w fun e w' => e = .returned (.tuple #[jj (a ^ n % m), .int .i64 0]) ∧ Below w.heap.size w w' := by
 have haM := Nat.lt_trans ha hm; have CM := jh (fun W => by have h9 := Za haM haM hm W; rewrite [decide_eq_true (show (1 < m ∧ a < m ∧ a < m) from ⟨h1, ha, ha⟩)] at h9; unfold jj words at h9; exact h9); have CW := jh (fun W => by have h9 := JH hm W; rewrite [decide_eq_true MC] at h9; unfold jj words at h9; exact h9); obtain ⟨q, hq⟩ := je (a ^ n % m); rw [← hq]; have hqW : q < jd := by rw [hq]; exact Nat.lt_trans (Nat.mod_lt _ (by omega)) MC
 have CO := jh (fun W => by have h9 := oO q hqW W; unfold jj words at h9; exact h9); have CP := jh (fun W => by have h9 := kU ha hn h1 MC W; rewrite [← hq] at h9; unfold jj words at h9; exact h9); have da := jh (qy (Nat.lt_trans ha MC)).1; have dm := jh (qy MC).1; clear hn hm h1 ha MC haM hq hqW; unfold jj words
 go_enter Tryz.func183, Tryz.ntmps183
 go_wp2_with fail
 obtain ⟨wz, AA, NN, MM, RR, e9, J5, h_1, h_2, h_3, J3, Z5, J4, HRR, HF, B, V8, LC, TC, PI, Y9, D6, U1⟩ := zC w 24 a n m; rw [e9, J5, h_1, h_2, h_3]; clear e9 J5 h_1 h_2 h_3; refine (CM.out _).mono ?_; rintro _ w1 ⟨rfl, hb⟩; have J3 := jn hb J3; have Z5 := jn hb Z5; have J4 := jn hb J4; have HRR := jn hb HRR; have HF := jh (HF.out.later hb (by omega)); have U1 := Nat.lt_of_lt_of_le U1 hb.size; have B := jw B hb; clear hb; obtain ⟨V4, G5, F5, D5⟩ := jz J4.out
 go_wp2_with fail
 clear V4 G5 F5 D5; refine (CW.out _).mono ?_; rintro _ w2 ⟨rfl, hb⟩; have J3 := jn hb J3; have Z5 := jn hb Z5; have J4 := jn hb J4; have HRR := jn hb HRR; have HF := jh (HF.out.later hb (by omega)); have U1 := Nat.lt_of_lt_of_le U1 hb.size; have B := jw B hb; clear hb; obtain ⟨U3, I4, X3, V3⟩ := jz J3.out; obtain ⟨V6, U6, P6, O6⟩ := jz Z5.out; obtain ⟨V4, G5, F5, D5⟩ := jz J4.out; rw [da.out] at U3; rw [dm.out] at V4
 go_wp2_with fail
 clear U3 I4 X3 V3 V6 U6 P6 O6 V4 G5 F5 D5; refine (CP.out _).mono ?_; rintro _ w3 ⟨rfl, hb⟩; have J3 := jn hb J3; have Z5 := jn hb Z5; have J4 := jn hb J4; have HRR := jn hb HRR; have HF := jh (HF.out.later hb (by omega)); have U1 := Nat.lt_of_lt_of_le U1 hb.size; have B := jw B hb; clear hb
 go_wp2_with fail
 refine (CO.out _).mono ?_; rintro _ w4 ⟨rfl, hb⟩; have J3 := jn hb J3; have Z5 := jn hb Z5; have J4 := jn hb J4; have HRR := jn hb HRR; have HF := jh (HF.out.later hb (by omega)); have U1 := Nat.lt_of_lt_of_le U1 hb.size; have B := jw B hb; clear hb; obtain ⟨c0, c1, c2, c3, f0, f1, f2, f3⟩ := jL HRR.out HF.out
 go_wp2_with fail
 obtain ⟨Q7, B9⟩ := zw HRR B D6 q; obtain ⟨g0, g1, g2, g3⟩ := jz Q7.out; refine bodyPost_ret (v := .tuple #[jj q, .int .i64 0]) ?_ rfl ⟨rfl, B9.out⟩
 simp [results, Tryz.results183, go_sem, jj, words, g0, g1, g2, g3]
theorem vY {a n m : Nat} (hn : n < jo) (hm : m < jo) (h1 : 1 < m) (ha : a < m) (MC : ¬ m < jd) (w : World) :
  Calls Tryz.prog 183 #[jj a, jj n, jj m] w fun e w' => e = .returned (.tuple #[jj (a ^ n % m), .int .i64 0]) ∧ Below w.heap.size w w' := by
 have haM := Nat.lt_trans ha hm; have CM := jh (fun W => by have h9 := Za haM haM hm W; rewrite [decide_eq_true (show (1 < m ∧ a < m ∧ a < m) from ⟨h1, ha, ha⟩)] at h9; unfold jj words at h9; exact h9); have CW := jh (fun W => by have h9 := JH hm W; rewrite [decide_eq_false MC] at h9; unfold jj words at h9; exact h9); obtain ⟨q, hq⟩ := je (a ^ n % m); rw [← hq]; have HQ := jh hq; obtain ⟨L, hL⟩ := je (jX n); have CB := jh (fun W => by have h9 := dR hn W; rewrite [← hL] at h9; unfold jj words at h9; exact h9); have hL6 : L ≤ 256 := by rw [hL]; exact Qe hn
 have HL := jh (show n / 2 ^ L = 0 by rw [hL]; exact AQ); have CO := jh (fun W => by have h9 := dO 1 1 rfl (by unfold jd; omega) W; unfold jj words at h9; exact h9); have HA := jh ha; have HM := jh h1; have xU := jh hm; clear hn hm h1 ha MC haM hq hL; unfold jj words
 go_enter Tryz.func183, Tryz.ntmps183
 go_wp2_with fail
 obtain ⟨wz, AA, NN, MM, RR, e9, J5, h_1, h_2, h_3, J3, Z5, J4, HRR, HF, B, V8, LC, TC, PI, Y9, D6, U1⟩ := zC w 24 a n m; rw [e9, J5, h_1, h_2, h_3]; clear e9 J5 h_1 h_2 h_3; refine (CM.out _).mono ?_; rintro _ w1 ⟨rfl, hb⟩; have J3 := jn hb J3; have Z5 := jn hb Z5; have J4 := jn hb J4; have HRR := jn hb HRR; have HF := jh (HF.out.later hb (by omega)); have U1 := Nat.lt_of_lt_of_le U1 hb.size; have B := jw B hb; clear hb; obtain ⟨V4, G5, F5, D5⟩ := jz J4.out
 go_wp2_with fail
 clear V4 G5 F5 D5; refine (CW.out _).mono ?_; rintro _ w2 ⟨rfl, hb⟩; have J3 := jn hb J3; have Z5 := jn hb Z5; have J4 := jn hb J4; have HRR := jn hb HRR; have HF := jh (HF.out.later hb (by omega)); have U1 := Nat.lt_of_lt_of_le U1 hb.size; have B := jw B hb; clear hb
 go_wp2_with fail
 refine (CO.out _).mono ?_; rintro _ w3 ⟨rfl, hb⟩; have J3 := jn hb J3; have Z5 := jn hb Z5; have J4 := jn hb J4; have HRR := jn hb HRR; have HF := jh (HF.out.later hb (by omega)); have U1 := Nat.lt_of_lt_of_le U1 hb.size; have B := jw B hb; clear hb
 go_upto_region 6 with fail
 obtain ⟨w4, e9⟩ := je (w3.alloc (.cells #[.int .u64 (jf jd 1 0), .int .u64 (jf jd 1 1), .int .u64 (jf jd 1 2), .int .u64 (jf jd 1 3)] 24)); obtain ⟨OB, h9⟩ := je (w3.heap.size); have hb := jc e9; have n9 := jh (show U0 w4 OB 1 by rw [e9, h9]; exact U0.new _ _ _ _ rfl); have f9 := jh (show Y0 w4 OB 4 by rw [e9, h9]; exact Y0.made _ _ _ _ _ rfl); have l_OB : RR < OB := by omega
 have h8 : OB < w4.heap.size := by rw [e9, h9]; simp
 rw [← e9, ← h9]; clear e9 h9; have J3 := jn hb J3; have Z5 := jn hb Z5; have J4 := jn hb J4; have HRR := jn hb HRR; have HF := jh (HF.out.later hb (by omega)); have U1 := Nat.lt_of_lt_of_le U1 hb.size; have B := jw B hb; clear hb; have ED := n9; have DC := f9; have U1 := h8; clear n9 f9 h8; have hwOB : w.heap.size ≤ OB := by omega
 obtain ⟨V6, U6, P6, O6⟩ := jz Z5.out
 go_wp2_with fail
 clear V6 U6 P6 O6; refine (CB.out _).mono ?_; rintro _ w5 ⟨rfl, hb⟩; have J3 := jn hb J3; have Z5 := jn hb Z5; have J4 := jn hb J4; have HRR := jn hb HRR; have ED := jn hb ED; have HF := jh (HF.out.later hb (by omega)); have DC := jh (DC.out.later hb (by omega)); have U1 := Nat.lt_of_lt_of_le U1 hb.size; have B := jw B hb; clear hb
 go_wp2_with fail
 go_loopw [9] (fun i wr => ∃ (z : Int) (k o : Nat), Hid (z = (k : Int) - 1) ∧ k ≤ L ∧ i = .int .i64 z ∧ o < m ∧ Hid (o = a ^ (n / 2 ^ k) % m) ∧ Hid (U0 wr AA a) ∧ Hid (U0 wr NN n) ∧ Hid (U0 wr MM m) ∧ Hid (U0 wr RR 0) ∧ Hid (U0 wr OB o) ∧ Hid (Y0 wr RR 4) ∧ Hid (Y0 wr OB 4) ∧ Hid (Below w.heap.size w wr) ∧ OB < wr.heap.size) (fun i _ => (intOf i + 1).toNat)
 case atStart => exact ⟨(L : Int) - 1, L, 1, jh rfl, Nat.le_refl _, rfl, HM.out, jh (by rw [HL.out, Nat.pow_zero, Nat.mod_eq_of_lt HM.out]), J3, Z5, J4, HRR, ED, HF, DC, B, U1⟩
 case round =>
  clear J3 Z5 J4 HRR ED HF DC B U1; obtain ⟨z, k, o, hz, hk, rfl, iT, HO, J3, Z5, J4, HRR, ED, HF, DC, B, U1⟩ := hrel
  by_cases hlt : 0 ≤ z
  ·obtain ⟨j, rfl⟩ : ∃ j : Nat, z = (j : Int) := ⟨z.toNat, by omega⟩; have hkj : k = j + 1 := by have := hz.out; omega
   rw [hkj] at HO hk; clear hz hkj; have hj : j < 256 := by omega
   obtain ⟨o2, ho2⟩ := je (o * o % m); have tX : o2 < m := by rw [ho2]; exact Nat.mod_lt _ (by have := HM.out; omega)
   have C1 := jh (fun W => by have h9 := ZP xU.out iT iT W; rewrite [← ho2] at h9; unfold jj words at h9; exact h9); obtain ⟨b, hb⟩ := je (n / 2 ^ j % 2); have hb2 : b = 0 ∨ b = 1 := by omega
   have C2 := jh (fun W => by have h9 := xH n (j : Int) W (by omega) (by omega); rewrite [KE hj, ← hb] at h9; unfold jj words at h9; exact h9); have U9 := jh ho2; have HB := jh hb; clear ho2 hb; obtain ⟨LM, IM, GM, FM⟩ := jz ED.out; obtain ⟨V4, G5, F5, D5⟩ := jz J4.out
   go_wp2_with fail
   clear LM IM GM FM V4 G5 F5 D5; refine (C1.out _).mono ?_; rintro _ w6 ⟨rfl, hb⟩; have J3 := jn hb J3; have Z5 := jn hb Z5; have J4 := jn hb J4; have HRR := jn hb HRR; have ED := jn hb ED; have HF := jh (HF.out.later hb (by omega)); have DC := jh (DC.out.later hb (by omega)); have U1 := Nat.lt_of_lt_of_le U1 hb.size; have B := jw B hb; clear hb; obtain ⟨y0, y1, y2, y3, y4, y5, y6, y7⟩ := jL ED.out DC.out
   go_upto_region 10 with fail
   clear y0 y1 y2 y3 y4 y5 y6 y7; obtain ⟨w7, e9⟩ := je (((((w6.setCell ⟨OB, 0, none⟩ (.int .u64 (jf jd o2 0))).setCell ⟨OB, 1, none⟩ (.int .u64 (jf jd o2 1))).setCell ⟨OB, 2, none⟩ (.int .u64 (jf jd o2 2))).setCell ⟨OB, 3, none⟩ (.int .u64 (jf jd o2 3)))); rw [← e9]; have J3 := jh (show U0 w7 AA a by rw [e9]; exact U0.other4 J3.out (by omega) _ _ _ _); have Z5 := jh (show U0 w7 NN n by rw [e9]; exact U0.other4 Z5.out (by omega) _ _ _ _); have J4 := jh (show U0 w7 MM m by rw [e9]; exact U0.other4 J4.out (by omega) _ _ _ _); have HRR := jh (show U0 w7 RR 0 by rw [e9]; exact U0.other4 HRR.out (by omega) _ _ _ _); have ED := jh (show U0 w7 OB o2 by rw [e9]; exact U0.set4 ED.out _); have HF := jh (show Y0 w7 RR 4 by rw [e9]; exact Y0.set4 HF.out _ _ _ _ _ _ _ _); have DC := jh (show Y0 w7 OB 4 by rw [e9]; exact Y0.set4 DC.out _ _ _ _ _ _ _ _); have B := jh (show Below w.heap.size w w7 by rw [e9]; exact jK B.out hwOB _ _ _ _); have U1 : OB < w7.heap.size := by rw [e9]; simpa using U1
   clear e9; obtain ⟨V6, U6, P6, O6⟩ := jz Z5.out
   go_wp2_with fail
   clear V6 U6 P6 O6; refine (C2.out _).mono ?_; rintro _ w8 ⟨rfl, hb⟩; have J3 := jn hb J3; have Z5 := jn hb Z5; have J4 := jn hb J4; have HRR := jn hb HRR; have ED := jn hb ED; have HF := jh (HF.out.later hb (by omega)); have DC := jh (DC.out.later hb (by omega)); have U1 := Nat.lt_of_lt_of_le U1 hb.size; have B := jw B hb; clear hb
   rcases hb2 with rfl | rfl
   ·skip
    have HK := jh (show o2 = a ^ (n / 2 ^ j) % m by rw [U9.out, HO.out]; exact dP HB.out.symm)
    go_wp2_with fail
    go_roundw
    case rel => exact ⟨(j : Int) - 1, j, o2, jh rfl, by omega, by go_num, tX, HK, J3, Z5, J4, HRR, ED, HF, DC, B, U1⟩
    case measure => (simp [intOf] <;> omega)
   ·skip
    obtain ⟨o3, ho3⟩ := je (o2 * a % m); have hom3 : o3 < m := by rw [ho3]; exact Nat.mod_lt _ (by have := HM.out; omega)
    have C3 := jh (fun W => by have h9 := ZP xU.out tX HA.out W; rewrite [← ho3] at h9; unfold jj words at h9; exact h9); have HK := jh (show o3 = a ^ (n / 2 ^ j) % m by rw [ho3, U9.out, HO.out]; exact bP HB.out.symm); clear ho3; obtain ⟨LM, IM, GM, FM⟩ := jz ED.out; obtain ⟨U3, I4, X3, V3⟩ := jz J3.out; obtain ⟨V4, G5, F5, D5⟩ := jz J4.out
    go_wp2_with fail
    clear LM IM GM FM U3 I4 X3 V3 V4 G5 F5 D5; refine (C3.out _).mono ?_; rintro _ wb ⟨rfl, hb⟩; have J3 := jn hb J3; have Z5 := jn hb Z5; have J4 := jn hb J4; have HRR := jn hb HRR; have ED := jn hb ED; have HF := jh (HF.out.later hb (by omega)); have DC := jh (DC.out.later hb (by omega)); have U1 := Nat.lt_of_lt_of_le U1 hb.size; have B := jw B hb; clear hb; obtain ⟨y0, y1, y2, y3, y4, y5, y6, y7⟩ := jL ED.out DC.out
    go_upto_region 8 with fail
    clear y0 y1 y2 y3 y4 y5 y6 y7; obtain ⟨wa, e9⟩ := je (((((wb.setCell ⟨OB, 0, none⟩ (.int .u64 (jf jd o3 0))).setCell ⟨OB, 1, none⟩ (.int .u64 (jf jd o3 1))).setCell ⟨OB, 2, none⟩ (.int .u64 (jf jd o3 2))).setCell ⟨OB, 3, none⟩ (.int .u64 (jf jd o3 3)))); rw [← e9]; have J3 := jh (show U0 wa AA a by rw [e9]; exact U0.other4 J3.out (by omega) _ _ _ _); have Z5 := jh (show U0 wa NN n by rw [e9]; exact U0.other4 Z5.out (by omega) _ _ _ _); have J4 := jh (show U0 wa MM m by rw [e9]; exact U0.other4 J4.out (by omega) _ _ _ _); have HRR := jh (show U0 wa RR 0 by rw [e9]; exact U0.other4 HRR.out (by omega) _ _ _ _); have ED := jh (show U0 wa OB o3 by rw [e9]; exact U0.set4 ED.out _); have HF := jh (show Y0 wa RR 4 by rw [e9]; exact Y0.set4 HF.out _ _ _ _ _ _ _ _); have DC := jh (show Y0 wa OB 4 by rw [e9]; exact Y0.set4 DC.out _ _ _ _ _ _ _ _); have B := jh (show Below w.heap.size w wa by rw [e9]; exact jK B.out hwOB _ _ _ _); have U1 : OB < wa.heap.size := by rw [e9]; simpa using U1
    clear e9
    go_wp2_with fail
    go_roundw
    case rel => exact ⟨(j : Int) - 1, j, o3, jh rfl, by omega, by go_num, hom3, HK, J3, Z5, J4, HRR, ED, HF, DC, B, U1⟩
    case measure => (simp [intOf] <;> omega)
  ·have hk0 : k = 0 := by have := hz.out; omega
   have hoq : o = q := by have h9 := HO.out; rw [hk0, Nat.pow_zero, Nat.div_one] at h9; rw [h9, HQ.out]
   rw [hoq] at ED; clear hz HO hk0 hoq iT; obtain ⟨LM, IM, GM, FM⟩ := jz ED.out; obtain ⟨c0, c1, c2, c3, f0, f1, f2, f3⟩ := jL HRR.out HF.out
   go_wp2_with fail
   obtain ⟨Q7, B9⟩ := zw HRR B D6 q; obtain ⟨g0, g1, g2, g3⟩ := jz Q7.out; refine bodyPost_ret (v := .tuple #[jj q, .int .i64 0]) ?_ rfl ⟨rfl, B9.out⟩
   simp [results, Tryz.results183, go_sem, jj, words, g0, g1, g2, g3]
theorem RQ {a n m : Nat} (hn : n < jo) (hm : m < jo) (h1 : 1 < m) (ha : a < m) (w : World) :
  Calls Tryz.prog 183 #[jj a, jj n, jj m] w fun e w' => e = .returned (.tuple #[jj (a ^ n % m), .int .i64 0]) ∧ Below w.heap.size w w' := by
 by_cases h : m < jd
 ·exact uY hn hm h1 ha h w
 ·exact vY hn hm h1 ha h w
end Go.Proofs.YtmijablfjigbhaaGreatDoor
