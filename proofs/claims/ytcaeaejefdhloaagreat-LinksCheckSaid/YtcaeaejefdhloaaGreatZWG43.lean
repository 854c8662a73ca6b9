/- Layer 4's reference -/
import Derived.Test.YtcaeaejefdhloaaGreatZWG41
set_option linter.unusedSimpArgs false
set_option linter.unusedVariables false
set_option maxHeartbeats 4000000
set_option maxRecDepth 100000
namespace Go.Proofs.YtcaeaejefdhloaaGreat
open Go.ChangeShapes Go.WideShapes Go.ChangeAt Go.RowKit
theorem RTimes_word {a b m : Nat} (hm : m < jj) (ha : a < m) (hb9 : b < m) (hw9 : m < jd) (w : World) :
  Calls Tryz.prog 99 #[ji a, ji b, ji m] w fun e w' => e = .returned (ji (a * b % m)) ∧ Below w.heap.size w w' := by
 obtain ⟨q, hq⟩ := je (a * b % m); rw [← hq]; have CW := jh (fun W => by have h9 := Jh hm W; rewrite [decide_eq_true hw9] at h9; unfold ji words at h9; exact h9); have haW := Nat.lt_trans ha hw9; have hbW := Nat.lt_trans hb9 hw9; obtain ⟨h, hh⟩ := je (a * b / 18446744073709551616); obtain ⟨l, hl⟩ := je (a * b % 18446744073709551616); have CX := jh (fun w => by have h9 := Tryz.bits_Mul64 a b haW hbW w; rewrite [← hh, ← hl] at h9; exact h9); have hl9 : l < jd := by rw [hl]; exact Nat.mod_lt _ (by omega)
 have hh9 : h < m := by rw [hh]; exact (Nat.div_lt_iff_lt_mul (by omega)).2 (Nat.mul_lt_mul_of_lt_of_lt ha hbW)
 have hv : h * jd + l = a * b := by rw [hh, hl, Nat.mul_comm]; exact Nat.div_add_mod _ _
 obtain ⟨d, hd⟩ := je ((h * jd + l) / m); have CD := jh (fun w => by have h9 := JQ h l m hl9 hw9 hh9 w; rewrite [← hd, hv, ← hq] at h9; exact h9); have hqW : q < jd := by rw [hq]; exact Nat.lt_trans (Nat.mod_lt _ (by omega)) hw9
 have CO := jh (fun W => by have h9 := Of_ref q hqW W; unfold ji words at h9; exact h9); have da := jh (qf haW).1; have db := jh (qf hbW).1; have dm := jh (qf hw9).1; clear hq hm ha hb9 hw9 haW hbW hh hl hl9 hh9 hv hd hqW; unfold ji words
 go_enter Tryz.func99, Tryz.ntmps99
 go_wp2_with fail
 obtain ⟨w_0, e_0⟩ := je (w.alloc (.cells #[.int .u64 (jf jd a 0), .int .u64 (jf jd a 1), .int .u64 (jf jd a 2), .int .u64 (jf jd a 3)] 24)); have s_0 : w_0.heap.size = w.heap.size + 1 := by rw [e_0]; simp
 have b_0 := jc e_0; have n_0 : NumAt w_0 (w.heap.size) a := by rw [e_0]; exact NumAt.new w a _ _ rfl
 obtain ⟨w_1, e_1⟩ := je (w_0.alloc (.cells #[.int .u64 (jf jd b 0), .int .u64 (jf jd b 1), .int .u64 (jf jd b 2), .int .u64 (jf jd b 3)] 24)); have s_1 : w_1.heap.size = w.heap.size + 1 + 1 := by rw [e_1]; simp [s_0]
 have b_1 := jc e_1; have n_1 : NumAt w_1 (w.heap.size + 1) b := by rw [e_1]; exact NumAt.new w_0 b _ _ s_0.symm
 obtain ⟨w_2, e_2⟩ := je (w_1.alloc (.cells #[.int .u64 (jf jd m 0), .int .u64 (jf jd m 1), .int .u64 (jf jd m 2), .int .u64 (jf jd m 3)] 24)); have s_2 : w_2.heap.size = w.heap.size + 1 + 1 + 1 := by rw [e_2]; simp [s_1]
 have b_2 := jc e_2; have n_2 : NumAt w_2 (w.heap.size + 1 + 1) m := by rw [e_2]; exact NumAt.new w_1 m _ _ s_1.symm
 obtain ⟨wz, e_3⟩ := je (w_2.alloc (.cells #[.int .u64 0, .int .u64 0, .int .u64 0, .int .u64 0] 24)); have s_3 : wz.heap.size = w.heap.size + 1 + 1 + 1 + 1 := by rw [e_3]; simp [s_2]
 have b_3 := jc e_3; have n_3 : NumAt wz (w.heap.size + 1 + 1 + 1) 0 := by rw [e_3, ← s_2]; exact jz w_2 _
 have f_3 : FreeN wz (w.heap.size + 1 + 1 + 1) 4 := by rw [e_3]; exact FreeN.made w_2 _ _ 4 _ s_2.symm
 rw [← e_0, ← e_1, ← e_2, ← e_3]; obtain ⟨AA, h_0⟩ := je (w.heap.size); obtain ⟨BB, h_1⟩ := je (AA + 1); obtain ⟨MM, h_2⟩ := je (BB + 1); obtain ⟨RR, h_3⟩ := je (MM + 1); have hwL : w.heap.size ≤ AA := by omega
 have hRd : RR < wz.heap.size := by omega
 rw [← h_0] at n_0 n_1 n_2 n_3 f_3 ⊢; rw [← h_1] at n_1 n_2 n_3 f_3 ⊢; rw [← h_2] at n_2 n_3 f_3 ⊢; rw [← h_3] at n_3 f_3 ⊢; have l_1 : AA < BB := by omega
 have l_2 : BB < MM := by omega
 have l_3 : MM < RR := by omega
 have HAA := jh (NumAt.later b_3 (NumAt.later b_2 (NumAt.later b_1 n_0))); have HBB := jh (NumAt.later b_3 (NumAt.later b_2 n_1)); have HMM := jh (NumAt.later b_3 n_2); have HRR := jh n_3; have HF := jh f_3; have B := jh (((b_0.trans (b_1.mono (by omega))).trans (b_2.mono (by omega))).trans (b_3.mono (by omega))); have hwRR : w.heap.size ≤ RR := by omega
 have HSZ := jh (show wz.heap.size = RR + 1 by omega); clear e_0 s_0 b_0 n_0 h_0 e_1 s_1 b_1 n_1 h_1 e_2 s_2 b_2 n_2 h_2 e_3 s_3 b_3 n_3 h_3 f_3; refine (CW.out _).mono ?_; rintro _ w1 ⟨rfl, hb⟩; have HAA := jn hb HAA; have HBB := jn hb HBB; have HMM := jn hb HMM; have HRR := jn hb HRR; have HF := jh (HF.out.later hb (by omega)); have hRd := Nat.lt_of_lt_of_le hRd hb.size; have B := jw B hb; clear hb; obtain ⟨r_AA_0, r_AA_1, r_AA_2, r_AA_3⟩ := jy HAA.out; obtain ⟨r_BB_0, r_BB_1, r_BB_2, r_BB_3⟩ := jy HBB.out; rw [da.out] at r_AA_0; rw [db.out] at r_BB_0
 go_wp2_with fail
 clear r_AA_0 r_AA_1 r_AA_2 r_AA_3 r_BB_0 r_BB_1 r_BB_2 r_BB_3; refine (CX.out _).mono ?_; rintro _ w2 ⟨rfl, rfl⟩; obtain ⟨r_MM_0, r_MM_1, r_MM_2, r_MM_3⟩ := jy HMM.out; rw [dm.out] at r_MM_0
 go_wp2_with fail
 clear r_MM_0 r_MM_1 r_MM_2 r_MM_3; refine (CD.out _).mono ?_; rintro _ w3 ⟨rfl, hb⟩; have HAA := jn hb HAA; have HBB := jn hb HBB; have HMM := jn hb HMM; have HRR := jn hb HRR; have HF := jh (HF.out.later hb (by omega)); have hRd := Nat.lt_of_lt_of_le hRd hb.size; have B := jw B hb; clear hb
 go_wp2_with fail
 refine (CO.out _).mono ?_; rintro _ w4 ⟨rfl, hb⟩; have HAA := jn hb HAA; have HBB := jn hb HBB; have HMM := jn hb HMM; have HRR := jn hb HRR; have HF := jh (HF.out.later hb (by omega)); have hRd := Nat.lt_of_lt_of_le hRd hb.size; have B := jw B hb; clear hb; obtain ⟨c0, c1, c2, c3, f0, f1, f2, f3⟩ := jC HRR.out HF.out
 go_wp2_with fail
 have HRL := jh (NumAt.set4 HRR.out q); have B9 := jh (jp B.out hwRR (.int .u64 (jf jd q 0)) (.int .u64 (jf jd q 1)) (.int .u64 (jf jd q 2)) (.int .u64 (jf jd q 3))); obtain ⟨g0, g1, g2, g3⟩ := jy HRL.out; refine bodyPost_ret (v := .agg #[.int .u64 (jf jd q 0), .int .u64 (jf jd q 1), .int .u64 (jf jd q 2), .int .u64 (jf jd q 3)]) ?_ rfl ⟨rfl, B9.out⟩
 simp [results, Tryz.results99, go_sem, g0, g1, g2, g3]
theorem RTimes_long {a b m : Nat} (hm : m < jj) (ha : a < m) (hb9 : b < m) (hw9 : ¬ m < jd) (w : World) :
  Calls Tryz.prog 99 #[ji a, ji b, ji m] w fun e w' => e = .returned (ji (a * b % m)) ∧ Below w.heap.size w w' := by
 obtain ⟨q, hq⟩ := je (a * b % m); rw [← hq]; have CW := jh (fun W => by have h9 := Jh hm W; rewrite [decide_eq_false hw9] at h9; unfold ji words at h9; exact h9); have haM := Nat.lt_trans ha hm; have hbM := Nat.lt_trans hb9 hm; obtain ⟨x, hx⟩ := je (mulL a b); obtain ⟨y, hy⟩ := je (ZU a b); have CX := jh (fun W => by have h9 := Mul_ref haM hbM W; rewrite [← hx, ← hy] at h9; unfold ji words at h9; exact h9); have hxy : y * jj + x = a * b := by rw [hx, hy]; unfold mulL ZU; rw [Nat.mul_comm]; exact Nat.div_add_mod _ _
 have CD := jh (fun W => by have h9 := RWide_any (lo := x) (hi := y) (by rw [hx]; exact mulL_lt _ _) (by rw [hy]; exact mulH_lt haM hbM) hm (by omega) W; rewrite [hxy, ← hq] at h9; unfold ji words at h9; exact h9); clear hq hm ha hb9 hw9 haM hbM hx hy hxy; unfold ji words
 go_enter Tryz.func99, Tryz.ntmps99
 go_wp2_with fail
 obtain ⟨w_0, e_0⟩ := je (w.alloc (.cells #[.int .u64 (jf jd a 0), .int .u64 (jf jd a 1), .int .u64 (jf jd a 2), .int .u64 (jf jd a 3)] 24)); have s_0 : w_0.heap.size = w.heap.size + 1 := by rw [e_0]; simp
 have b_0 := jc e_0; have n_0 : NumAt w_0 (w.heap.size) a := by rw [e_0]; exact NumAt.new w a _ _ rfl
 obtain ⟨w_1, e_1⟩ := je (w_0.alloc (.cells #[.int .u64 (jf jd b 0), .int .u64 (jf jd b 1), .int .u64 (jf jd b 2), .int .u64 (jf jd b 3)] 24)); have s_1 : w_1.heap.size = w.heap.size + 1 + 1 := by rw [e_1]; simp [s_0]
 have b_1 := jc e_1; have n_1 : NumAt w_1 (w.heap.size + 1) b := by rw [e_1]; exact NumAt.new w_0 b _ _ s_0.symm
 obtain ⟨w_2, e_2⟩ := je (w_1.alloc (.cells #[.int .u64 (jf jd m 0), .int .u64 (jf jd m 1), .int .u64 (jf jd m 2), .int .u64 (jf jd m 3)] 24)); have s_2 : w_2.heap.size = w.heap.size + 1 + 1 + 1 := by rw [e_2]; simp [s_1]
 have b_2 := jc e_2; have n_2 : NumAt w_2 (w.heap.size + 1 + 1) m := by rw [e_2]; exact NumAt.new w_1 m _ _ s_1.symm
 obtain ⟨wz, e_3⟩ := je (w_2.alloc (.cells #[.int .u64 0, .int .u64 0, .int .u64 0, .int .u64 0] 24)); have s_3 : wz.heap.size = w.heap.size + 1 + 1 + 1 + 1 := by rw [e_3]; simp [s_2]
 have b_3 := jc e_3; have n_3 : NumAt wz (w.heap.size + 1 + 1 + 1) 0 := by rw [e_3, ← s_2]; exact jz w_2 _
 have f_3 : FreeN wz (w.heap.size + 1 + 1 + 1) 4 := by rw [e_3]; exact FreeN.made w_2 _ _ 4 _ s_2.symm
 rw [← e_0, ← e_1, ← e_2, ← e_3]; obtain ⟨AA, h_0⟩ := je (w.heap.size); obtain ⟨BB, h_1⟩ := je (AA + 1); obtain ⟨MM, h_2⟩ := je (BB + 1); obtain ⟨RR, h_3⟩ := je (MM + 1); have hwL : w.heap.size ≤ AA := by omega
 have hRd : RR < wz.heap.size := by omega
 rw [← h_0] at n_0 n_1 n_2 n_3 f_3 ⊢; rw [← h_1] at n_1 n_2 n_3 f_3 ⊢; rw [← h_2] at n_2 n_3 f_3 ⊢; rw [← h_3] at n_3 f_3 ⊢; have l_1 : AA < BB := by omega
 have l_2 : BB < MM := by omega
 have l_3 : MM < RR := by omega
 have HAA := jh (NumAt.later b_3 (NumAt.later b_2 (NumAt.later b_1 n_0))); have HBB := jh (NumAt.later b_3 (NumAt.later b_2 n_1)); have HMM := jh (NumAt.later b_3 n_2); have HRR := jh n_3; have HF := jh f_3; have B := jh (((b_0.trans (b_1.mono (by omega))).trans (b_2.mono (by omega))).trans (b_3.mono (by omega))); have hwRR : w.heap.size ≤ RR := by omega
 have HSZ := jh (show wz.heap.size = RR + 1 by omega); clear e_0 s_0 b_0 n_0 h_0 e_1 s_1 b_1 n_1 h_1 e_2 s_2 b_2 n_2 h_2 e_3 s_3 b_3 n_3 h_3 f_3; refine (CW.out _).mono ?_; rintro _ w1 ⟨rfl, hb⟩; have HAA := jn hb HAA; have HBB := jn hb HBB; have HMM := jn hb HMM; have HRR := jn hb HRR; have HF := jh (HF.out.later hb (by omega)); have hRd := Nat.lt_of_lt_of_le hRd hb.size; have B := jw B hb; clear hb; obtain ⟨r_AA_0, r_AA_1, r_AA_2, r_AA_3⟩ := jy HAA.out; obtain ⟨r_BB_0, r_BB_1, r_BB_2, r_BB_3⟩ := jy HBB.out
 go_wp2_with fail
 clear r_AA_0 r_AA_1 r_AA_2 r_AA_3 r_BB_0 r_BB_1 r_BB_2 r_BB_3; refine (CX.out _).mono ?_; rintro _ w2 ⟨rfl, hb⟩; have HAA := jn hb HAA; have HBB := jn hb HBB; have HMM := jn hb HMM; have HRR := jn hb HRR; have HF := jh (HF.out.later hb (by omega)); have hRd := Nat.lt_of_lt_of_le hRd hb.size; have B := jw B hb; clear hb
 go_upto_region 6 with fail
 obtain ⟨w3, e8⟩ := je ((w2.alloc (.cells #[.int .u64 (jf jd x 0), .int .u64 (jf jd x 1), .int .u64 (jf jd x 2), .int .u64 (jf jd x 3)] 24))); have s8 : w3.heap.size = w2.heap.size + 1 := by rw [e8]; simp
 rw [← e8, ← s8]; obtain ⟨XB, h9⟩ := je (w2.heap.size); have hb := jc e8; have n9 := jh (show NumAt w3 XB x by rw [e8, h9]; exact NumAt.new _ _ _ _ rfl); have f9 := jh (show FreeN w3 XB 4 by rw [e8, h9]; exact FreeN.made _ _ _ _ _ rfl); have l_XB : RR < XB := by omega
 have h8 : XB < w3.heap.size := by omega
 have hwXB : w.heap.size ≤ XB := by omega
 rw [← h9]; clear e8 h9; have HAA := jn hb HAA; have HBB := jn hb HBB; have HMM := jn hb HMM; have HRR := jn hb HRR; have HF := jh (HF.out.later hb (by omega)); have hRd := Nat.lt_of_lt_of_le hRd hb.size; have B := jw B hb; clear hb; have HXB := n9; have HFXB := f9; have hRd := h8; clear n9 f9 h8 s8; obtain ⟨w4, e9⟩ := je (w3.alloc (.cells #[.int .u64 (jf jd y 0), .int .u64 (jf jd y 1), .int .u64 (jf jd y 2), .int .u64 (jf jd y 3)] 24)); obtain ⟨YB, h9⟩ := je (w3.heap.size); have hb := jc e9; have n9 := jh (show NumAt w4 YB y by rw [e9, h9]; exact NumAt.new _ _ _ _ rfl); have f9 := jh (show FreeN w4 YB 4 by rw [e9, h9]; exact FreeN.made _ _ _ _ _ rfl); have l_YB : XB < YB := by omega
 have h8 : YB < w4.heap.size := by rw [e9, h9]; simp
 rw [← e9, ← h9]; clear e9 h9; have HAA := jn hb HAA; have HBB := jn hb HBB; have HMM := jn hb HMM; have HRR := jn hb HRR; have HXB := jn hb HXB; have HF := jh (HF.out.later hb (by omega)); have HFXB := jh (HFXB.out.later hb (by omega)); have hRd := Nat.lt_of_lt_of_le hRd hb.size; have B := jw B hb; clear hb; have HYB := n9; have HFYB := f9; have hRd := h8; clear n9 f9 h8; have hwYB : w.heap.size ≤ YB := by omega
 obtain ⟨r_XB_0, r_XB_1, r_XB_2, r_XB_3⟩ := jy HXB.out; obtain ⟨r_YB_0, r_YB_1, r_YB_2, r_YB_3⟩ := jy HYB.out; obtain ⟨r_MM_0, r_MM_1, r_MM_2, r_MM_3⟩ := jy HMM.out
 go_wp2_with fail
 clear r_XB_0 r_XB_1 r_XB_2 r_XB_3 r_YB_0 r_YB_1 r_YB_2 r_YB_3 r_MM_0 r_MM_1 r_MM_2 r_MM_3; refine (CD.out _).mono ?_; rintro _ w5 ⟨rfl, hb⟩; have HAA := jn hb HAA; have HBB := jn hb HBB; have HMM := jn hb HMM; have HRR := jn hb HRR; have HXB := jn hb HXB; have HYB := jn hb HYB; have HF := jh (HF.out.later hb (by omega)); have HFXB := jh (HFXB.out.later hb (by omega)); have HFYB := jh (HFYB.out.later hb (by omega)); have hRd := Nat.lt_of_lt_of_le hRd hb.size; have B := jw B hb; clear hb
 go_upto_region 7 with fail
 obtain ⟨w6, e9⟩ := je (w5.alloc (.cells #[.int .u64 (jf jd q 0), .int .u64 (jf jd q 1), .int .u64 (jf jd q 2), .int .u64 (jf jd q 3)] 24)); obtain ⟨ZB, h9⟩ := je (w5.heap.size); have hb := jc e9; have n9 := jh (show NumAt w6 ZB q by rw [e9, h9]; exact NumAt.new _ _ _ _ rfl); have f9 := jh (show FreeN w6 ZB 4 by rw [e9, h9]; exact FreeN.made _ _ _ _ _ rfl); have l_ZB : YB < ZB := by omega
 have h8 : ZB < w6.heap.size := by rw [e9, h9]; simp
 rw [← e9, ← h9]; clear e9 h9; have HAA := jn hb HAA; have HBB := jn hb HBB; have HMM := jn hb HMM; have HRR := jn hb HRR; have HXB := jn hb HXB; have HYB := jn hb HYB; have HF := jh (HF.out.later hb (by omega)); have HFXB := jh (HFXB.out.later hb (by omega)); have HFYB := jh (HFYB.out.later hb (by omega)); have hRd := Nat.lt_of_lt_of_le hRd hb.size; have B := jw B hb; clear hb; have HZB := n9; have HFZB := f9; have hRd := h8; clear n9 f9 h8; have hwZB : w.heap.size ≤ ZB := by omega
 obtain ⟨r_ZB_0, r_ZB_1, r_ZB_2, r_ZB_3⟩ := jy HZB.out; obtain ⟨c0, c1, c2, c3, f0, f1, f2, f3⟩ := jC HRR.out HF.out
 go_wp2_with fail
 have HRL := jh (NumAt.set4 HRR.out q); have B9 := jh (jp B.out hwRR (.int .u64 (jf jd q 0)) (.int .u64 (jf jd q 1)) (.int .u64 (jf jd q 2)) (.int .u64 (jf jd q 3))); obtain ⟨g0, g1, g2, g3⟩ := jy HRL.out; refine bodyPost_ret (v := .agg #[.int .u64 (jf jd q 0), .int .u64 (jf jd q 1), .int .u64 (jf jd q 2), .int .u64 (jf jd q 3)]) ?_ rfl ⟨rfl, B9.out⟩
 simp [results, Tryz.results99, go_sem, g0, g1, g2, g3]
theorem QV {a b m : Nat} (hm : m < jj) (ha : a < m) (hb : b < m) (w : World) :
  Calls Tryz.prog 99 #[ji a, ji b, ji m] w fun e w' => e = .returned (ji (a * b % m)) ∧ Below w.heap.size w w' := by
 by_cases h : m < jd
 ·exact RTimes_word hm ha hb h w
 ·exact RTimes_long hm ha hb h w
theorem RMulM_yes {a b m : Nat} (hm : m < jj) (hmay : 1 < m ∧ a < m ∧ b < m) (w : World) :
  Calls Tryz.prog 69 #[ji a, ji b, ji m] w fun e w' => e = .returned (.tuple #[ji (a * b % m), .int .i64 0]) ∧ Below w.heap.size w w' := by
 have ha := Nat.lt_trans hmay.2.1 hm; have hb9 := Nat.lt_trans hmay.2.2 hm; have CM := jh (fun W => by have h9 := Jt ha hb9 hm W; rewrite [decide_eq_true hmay] at h9; unfold ji words at h9; exact h9); obtain ⟨q, hq⟩ := je (a * b % m); rw [← hq]; have CT := jh (fun W => by have h9 := QV hm hmay.2.1 hmay.2.2 W; rewrite [← hq] at h9; unfold ji words at h9; exact h9); clear ha hb9 hm hmay hq; unfold ji words
 go_enter Tryz.func69, Tryz.ntmps69
 go_wp2_with fail
 obtain ⟨w_0, e_0⟩ := je (w.alloc (.cells #[.int .u64 (jf jd a 0), .int .u64 (jf jd a 1), .int .u64 (jf jd a 2), .int .u64 (jf jd a 3)] 24)); have s_0 : w_0.heap.size = w.heap.size + 1 := by rw [e_0]; simp
 have b_0 := jc e_0; have n_0 : NumAt w_0 (w.heap.size) a := by rw [e_0]; exact NumAt.new w a _ _ rfl
 obtain ⟨w_1, e_1⟩ := je (w_0.alloc (.cells #[.int .u64 (jf jd b 0), .int .u64 (jf jd b 1), .int .u64 (jf jd b 2), .int .u64 (jf jd b 3)] 24)); have s_1 : w_1.heap.size = w.heap.size + 1 + 1 := by rw [e_1]; simp [s_0]
 have b_1 := jc e_1; have n_1 : NumAt w_1 (w.heap.size + 1) b := by rw [e_1]; exact NumAt.new w_0 b _ _ s_0.symm
 obtain ⟨w_2, e_2⟩ := je (w_1.alloc (.cells #[.int .u64 (jf jd m 0), .int .u64 (jf jd m 1), .int .u64 (jf jd m 2), .int .u64 (jf jd m 3)] 24)); have s_2 : w_2.heap.size = w.heap.size + 1 + 1 + 1 := by rw [e_2]; simp [s_1]
 have b_2 := jc e_2; have n_2 : NumAt w_2 (w.heap.size + 1 + 1) m := by rw [e_2]; exact NumAt.new w_1 m _ _ s_1.symm
 obtain ⟨wz, e_3⟩ := je (w_2.alloc (.cells #[.int .u64 0, .int .u64 0, .int .u64 0, .int .u64 0] 24)); have s_3 : wz.heap.size = w.heap.size + 1 + 1 + 1 + 1 := by rw [e_3]; simp [s_2]
 have b_3 := jc e_3; have n_3 : NumAt wz (w.heap.size + 1 + 1 + 1) 0 := by rw [e_3, ← s_2]; exact jz w_2 _
 have f_3 : FreeN wz (w.heap.size + 1 + 1 + 1) 4 := by rw [e_3]; exact FreeN.made w_2 _ _ 4 _ s_2.symm
 rw [← e_0, ← e_1, ← e_2, ← e_3]; obtain ⟨AA, h_0⟩ := je (w.heap.size); obtain ⟨BB, h_1⟩ := je (AA + 1); obtain ⟨MM, h_2⟩ := je (BB + 1); obtain ⟨RR, h_3⟩ := je (MM + 1); have hwL : w.heap.size ≤ AA := by omega
 have hRd : RR < wz.heap.size := by omega
 rw [← h_0] at n_0 n_1 n_2 n_3 f_3 ⊢; rw [← h_1] at n_1 n_2 n_3 f_3 ⊢; rw [← h_2] at n_2 n_3 f_3 ⊢; rw [← h_3] at n_3 f_3 ⊢; have l_1 : AA < BB := by omega
 have l_2 : BB < MM := by omega
 have l_3 : MM < RR := by omega
 have HAA := jh (NumAt.later b_3 (NumAt.later b_2 (NumAt.later b_1 n_0))); have HBB := jh (NumAt.later b_3 (NumAt.later b_2 n_1)); have HMM := jh (NumAt.later b_3 n_2); have HRR := jh n_3; have HF := jh f_3; have B := jh (((b_0.trans (b_1.mono (by omega))).trans (b_2.mono (by omega))).trans (b_3.mono (by omega))); have hwRR : w.heap.size ≤ RR := by omega
 have HSZ := jh (show wz.heap.size = RR + 1 by omega); clear e_0 s_0 b_0 n_0 h_0 e_1 s_1 b_1 n_1 h_1 e_2 s_2 b_2 n_2 h_2 e_3 s_3 b_3 n_3 h_3 f_3; refine (CM.out _).mono ?_; rintro _ w1 ⟨rfl, hb⟩; have HAA := jn hb HAA; have HBB := jn hb HBB; have HMM := jn hb HMM; have HRR := jn hb HRR; have HF := jh (HF.out.later hb (by omega)); have hRd := Nat.lt_of_lt_of_le hRd hb.size; have B := jw B hb; clear hb; obtain ⟨r_AA_0, r_AA_1, r_AA_2, r_AA_3⟩ := jy HAA.out; obtain ⟨r_BB_0, r_BB_1, r_BB_2, r_BB_3⟩ := jy HBB.out; obtain ⟨r_MM_0, r_MM_1, r_MM_2, r_MM_3⟩ := jy HMM.out
 go_wp2_with fail
 clear r_AA_0 r_AA_1 r_AA_2 r_AA_3 r_BB_0 r_BB_1 r_BB_2 r_BB_3 r_MM_0 r_MM_1 r_MM_2 r_MM_3; refine (CT.out _).mono ?_; rintro _ w2 ⟨rfl, hb⟩; have HAA := jn hb HAA; have HBB := jn hb HBB; have HMM := jn hb HMM; have HRR := jn hb HRR; have HF := jh (HF.out.later hb (by omega)); have hRd := Nat.lt_of_lt_of_le hRd hb.size; have B := jw B hb; clear hb; obtain ⟨c0, c1, c2, c3, f0, f1, f2, f3⟩ := jC HRR.out HF.out
 go_wp2_with fail
 have HRL := jh (NumAt.set4 HRR.out q); have B9 := jh (jp B.out hwRR (.int .u64 (jf jd q 0)) (.int .u64 (jf jd q 1)) (.int .u64 (jf jd q 2)) (.int .u64 (jf jd q 3))); obtain ⟨g0, g1, g2, g3⟩ := jy HRL.out; refine bodyPost_ret (v := .tuple #[.agg #[.int .u64 (jf jd q 0), .int .u64 (jf jd q 1), .int .u64 (jf jd q 2), .int .u64 (jf jd q 3)], .int .i64 0]) ?_ rfl ⟨rfl, B9.out⟩
 simp [results, Tryz.results69, go_sem, g0, g1, g2, g3]
theorem bit_word (n j : Nat) : bits .and .u64 (((jf jd n (j / 64) : Nat) : Int) / 2 ^ (j % 64)) 1 = ((n / 2 ^ j % 2 : Nat) : Int) := by
 have e : ((jf jd n (j / 64) : Nat) : Int) / 2 ^ (j % 64) = ((jf jd n (j / 64) / 2 ^ (j % 64) : Nat) : Int) := by simp
 have hl : jf jd n (j / 64) / 2 ^ (j % 64) < 18446744073709551616 := Nat.lt_of_le_of_lt (Nat.div_le_self _ _) (qC n _); rw [e, show (1 : Int) = ((1 : Nat) : Int) from rfl, u64_and_nat _ _ hl (by omega), Nat.and_one_is_mod, Qs, QU 64 n (j / 64) (j % 64) (Nat.mod_lt _ (by omega)), show 64 * (j / 64) + j % 64 = j by omega]
theorem RWordP_any {a n m : Nat} (ha : a < m) (hn : n < jj) (h1 : 1 < m) (hw9 : m < jd) (w : World) :
  Calls Tryz.prog 97 #[.int .u64 (a : Nat), ji n, .int .u64 (m : Nat)] w fun e w' => e = .returned (.int .u64 ((a ^ n % m : Nat) : Int)) ∧ Below w.heap.size w w' := by
 obtain ⟨q, hq⟩ := je (a ^ n % m); rw [← hq]; have HQ := jh hq; obtain ⟨L, hL⟩ := je (jP n); have CB := jh (fun W => by have h9 := Bits_ref hn W; rewrite [← hL] at h9; unfold ji words at h9; exact h9); have hL6 : L ≤ 256 := by rw [hL]; exact JD hn
 have HL := jh (show n / 2 ^ L = 0 by rw [hL]; exact bits_top); have CX := jh (fun (x y : Nat) (hx : x < m) (hy : y < m) (w : World) => Tryz.bits_Mul64 x y (Nat.lt_trans hx hw9) (Nat.lt_trans hy hw9) w); have CD := jh (fun (x y : Nat) (hx : x < m) (hy : y < m) (w : World) => by have h9 := JQ (x * y / 18446744073709551616) (x * y % 18446744073709551616) m (Nat.mod_lt _ (by omega)) hw9 ((Nat.div_lt_iff_lt_mul (by omega)).2 (Nat.mul_lt_mul_of_lt_of_lt hx (Nat.lt_trans hy hw9))) w; rewrite [show x * y / 18446744073709551616 * jd + x * y % 18446744073709551616 = x * y from by rw [Nat.mul_comm]; exact Nat.div_add_mod _ _] at h9; exact h9); have HA := jh ha; have HM := jh h1; have h1m : (1 : Int) % (m : Int) = 1 := Int.emod_eq_of_lt (by omega) (by omega); have h1t : (1 : Int).tmod (m : Int) = 1 := by rw [Int.tmod_eq_emod_of_nonneg (by omega)]; exact h1m
 have hm0 : ¬ (m : Int) = 0 := by omega
 clear hq hL hn ha h1 hw9; unfold ji words
 go_enter Tryz.func97, Tryz.ntmps97
 go_upto_region 1 with fail
 obtain ⟨wz, e_0⟩ := je (w.alloc (.cells #[.int .u64 (jf jd n 0), .int .u64 (jf jd n 1), .int .u64 (jf jd n 2), .int .u64 (jf jd n 3)] 24)); have s_0 : wz.heap.size = w.heap.size + 1 := by rw [e_0]; simp
 have b_0 := jc e_0; have n_0 : NumAt wz (w.heap.size) n := by rw [e_0]; exact NumAt.new w n _ _ rfl
 rw [← e_0]; obtain ⟨NN, h_0⟩ := je (w.heap.size); have hwL : w.heap.size ≤ NN := by omega
 have hRd : NN < wz.heap.size := by omega
 rw [← h_0] at n_0 ⊢; have HNN := jh n_0; have B := jh b_0; have hwNN : w.heap.size ≤ NN := by omega
 have HSZ := jh (show wz.heap.size = NN + 1 by omega); clear e_0 s_0 b_0 n_0 h_0; obtain ⟨r_NN_0, r_NN_1, r_NN_2, r_NN_3⟩ := jy HNN.out
 go_wp2_with fail
 clear r_NN_0 r_NN_1 r_NN_2 r_NN_3; refine (CB.out _).mono ?_; rintro _ w2 ⟨rfl, hb⟩; have HNN := jn hb HNN; have hRd := Nat.lt_of_lt_of_le hRd hb.size; have B := jw B hb; clear hb; clear h1m h1t
 go_wp2_with fail
 go_loopw [7, 8] (fun ov i wr => ∃ (z : Int) (k o : Nat), Hid (z = (k : Int) - 1) ∧ k ≤ L ∧ i = .int .i64 z ∧ ov = .int .u64 o ∧ o < m ∧ Hid (o = a ^ (n / 2 ^ k) % m) ∧ Hid (NumAt wr NN n) ∧ Hid (Below w.heap.size w wr) ∧ NN < wr.heap.size) (fun _ i _ => (intOf i + 1).toNat)
 case atStart => exact ⟨(L : Int) - 1, L, 1, jh rfl, Nat.le_refl _, rfl, rfl, HM.out, jh (by rw [HL.out, Nat.pow_zero, Nat.mod_eq_of_lt HM.out]), HNN, B, hRd⟩
 case round =>
  clear HNN B hRd; obtain ⟨z, k, o, hz, hk, rfl, rfl, hom, HO, HNN, B, hRd⟩ := hrel
  by_cases hlt : 0 ≤ z
  ·obtain ⟨j, rfl⟩ : ∃ j : Nat, z = (j : Int) := ⟨z.toNat, by omega⟩; have hkj : k = j + 1 := by have := hz.out; omega
   rw [hkj] at HO hk; clear hz hkj; have hj : j < 256 := by omega
   obtain ⟨o2, ho2⟩ := je (o * o % m); have hom2 : o2 < m := by rw [ho2]; exact Nat.mod_lt _ (by have := HM.out; omega)
   obtain ⟨h, hh⟩ := je (o * o / 18446744073709551616); obtain ⟨l, hl⟩ := je (o * o % 18446744073709551616); obtain ⟨d, hd⟩ := je (o * o / m); have C1 := jh (fun w => by have h9 := CX.out o o hom hom w; rewrite [← hh, ← hl] at h9; exact h9); have C2 := jh (fun w => by have h9 := CD.out o o hom hom w; rewrite [← hh, ← hl, ← hd, ← ho2] at h9; exact h9); obtain ⟨b, hb⟩ := je (n / 2 ^ j % 2); have hb2 : b = 0 ∨ b = 1 := by omega
   have rN := HNN.out (j / 64) (by omega); have h64 : j / 64 < 4 := by omega
   have hbit := jh (show bits .and .u64 (((jf jd n (j / 64) : Nat) : Int) / 2 ^ (j % 64)) 1 = ((b : Nat) : Int) by rw [hb]; exact bit_word n j); have HO2 := jh ho2; have HB := jh hb; clear hh hl hd ho2 hb
   go_wp2_with fail
   refine (C1.out _).mono ?_; rintro _ w3 ⟨rfl, rfl⟩
   go_wp2_with fail
   refine (C2.out _).mono ?_; rintro _ w4 ⟨rfl, hb⟩; have rN := jm rN hb; have HNN := jn hb HNN; have hRd := Nat.lt_of_lt_of_le hRd hb.size; have B := jw B hb; clear hb; have hbit9 := hbit.out
   rcases hb2 with rfl | rfl
   ·skip
    have HK := jh (show o2 = a ^ (n / 2 ^ j) % m by rw [HO2.out, HO.out]; exact pow_top0 HB.out.symm)
    go_wp2_with fail
    go_roundw
    case rel => exact ⟨(j : Int) - 1, j, o2, jh rfl, by omega, by go_num, rfl, hom2, HK, HNN, B, hRd⟩
    case measure => (simp [intOf] <;> omega)
   ·skip
    obtain ⟨o3, ho3⟩ := je (o2 * a % m); have hom3 : o3 < m := by rw [ho3]; exact Nat.mod_lt _ (by have := HM.out; omega)
    obtain ⟨h2, hh⟩ := je (o2 * a / 18446744073709551616); obtain ⟨l2, hl⟩ := je (o2 * a % 18446744073709551616); obtain ⟨d2, hd⟩ := je (o2 * a / m); have C3 := jh (fun w => by have h9 := CX.out o2 a hom2 HA.out w; rewrite [← hh, ← hl] at h9; exact h9); have C4 := jh (fun w => by have h9 := CD.out o2 a hom2 HA.out w; rewrite [← hh, ← hl, ← hd, ← ho3] at h9; exact h9); have HK := jh (show o3 = a ^ (n / 2 ^ j) % m by rw [ho3, HO2.out, HO.out]; exact pow_top1 HB.out.symm); clear hh hl hd ho3
    go_wp2_with fail
    refine (C3.out _).mono ?_; rintro _ w5 ⟨rfl, rfl⟩
    go_wp2_with fail
    refine (C4.out _).mono ?_; rintro _ w6 ⟨rfl, hb⟩; clear rN; have HNN := jn hb HNN; have hRd := Nat.lt_of_lt_of_le hRd hb.size; have B := jw B hb; clear hb
    go_wp2_with fail
    go_roundw
    case rel => exact ⟨(j : Int) - 1, j, o3, jh rfl, by omega, by go_num, rfl, hom3, HK, HNN, B, hRd⟩
    case measure => (simp [intOf] <;> omega)
  ·have hk0 : k = 0 := by have := hz.out; omega
   have hoq : o = q := by have h9 := HO.out; rw [hk0, Nat.pow_zero, Nat.div_one] at h9; rw [h9, HQ.out]
   rw [hoq]; clear hz HO hk0 hoq hom
   go_wp2_with fail
   refine bodyPost_ret (v := .int .u64 (q : Nat)) ?_ rfl ⟨rfl, B.out⟩
   simp [results, Tryz.results97, go_sem]
theorem RExp_no {a n m : Nat} (ha : a < jj) (hm : m < jj) (hmay : ¬ (1 < m ∧ a < m)) (w : World) :
  Calls Tryz.prog 67 #[ji a, ji n, ji m] w fun e w' => e = .returned (.tuple #[ji 0, .int .i64 1]) ∧ Below w.heap.size w w' := by
 have CM := jh (fun W => by have h9 := Jt ha ha hm W; rewrite [decide_eq_false (show ¬ (1 < m ∧ a < m ∧ a < m) by omega)] at h9; unfold ji words at h9; exact h9); clear ha hm hmay; unfold ji words
 go_enter Tryz.func67, Tryz.ntmps67
 go_wp2_with fail
 obtain ⟨w_0, e_0⟩ := je (w.alloc (.cells #[.int .u64 (jf jd a 0), .int .u64 (jf jd a 1), .int .u64 (jf jd a 2), .int .u64 (jf jd a 3)] 24)); have s_0 : w_0.heap.size = w.heap.size + 1 := by rw [e_0]; simp
 have b_0 := jc e_0; have n_0 : NumAt w_0 (w.heap.size) a := by rw [e_0]; exact NumAt.new w a _ _ rfl
 obtain ⟨w_1, e_1⟩ := je (w_0.alloc (.cells #[.int .u64 (jf jd n 0), .int .u64 (jf jd n 1), .int .u64 (jf jd n 2), .int .u64 (jf jd n 3)] 24)); have s_1 : w_1.heap.size = w.heap.size + 1 + 1 := by rw [e_1]; simp [s_0]
 have b_1 := jc e_1; have n_1 : NumAt w_1 (w.heap.size + 1) n := by rw [e_1]; exact NumAt.new w_0 n _ _ s_0.symm
 obtain ⟨w_2, e_2⟩ := je (w_1.alloc (.cells #[.int .u64 (jf jd m 0), .int .u64 (jf jd m 1), .int .u64 (jf jd m 2), .int .u64 (jf jd m 3)] 24)); have s_2 : w_2.heap.size = w.heap.size + 1 + 1 + 1 := by rw [e_2]; simp [s_1]
 have b_2 := jc e_2; have n_2 : NumAt w_2 (w.heap.size + 1 + 1) m := by rw [e_2]; exact NumAt.new w_1 m _ _ s_1.symm
 obtain ⟨wz, e_3⟩ := je (w_2.alloc (.cells #[.int .u64 0, .int .u64 0, .int .u64 0, .int .u64 0] 24)); have s_3 : wz.heap.size = w.heap.size + 1 + 1 + 1 + 1 := by rw [e_3]; simp [s_2]
 have b_3 := jc e_3; have n_3 : NumAt wz (w.heap.size + 1 + 1 + 1) 0 := by rw [e_3, ← s_2]; exact jz w_2 _
 have f_3 : FreeN wz (w.heap.size + 1 + 1 + 1) 4 := by rw [e_3]; exact FreeN.made w_2 _ _ 4 _ s_2.symm
 rw [← e_0, ← e_1, ← e_2, ← e_3]; obtain ⟨AA, h_0⟩ := je (w.heap.size); obtain ⟨NN, h_1⟩ := je (AA + 1); obtain ⟨MM, h_2⟩ := je (NN + 1); obtain ⟨RR, h_3⟩ := je (MM + 1); have hwL : w.heap.size ≤ AA := by omega
 have hRd : RR < wz.heap.size := by omega
 rw [← h_0] at n_0 n_1 n_2 n_3 f_3 ⊢; rw [← h_1] at n_1 n_2 n_3 f_3 ⊢; rw [← h_2] at n_2 n_3 f_3 ⊢; rw [← h_3] at n_3 f_3 ⊢; have l_1 : AA < NN := by omega
 have l_2 : NN < MM := by omega
 have l_3 : MM < RR := by omega
 have HAA := jh (NumAt.later b_3 (NumAt.later b_2 (NumAt.later b_1 n_0))); have HNN := jh (NumAt.later b_3 (NumAt.later b_2 n_1)); have HMM := jh (NumAt.later b_3 n_2); have HRR := jh n_3; have HF := jh f_3; have B := jh (((b_0.trans (b_1.mono (by omega))).trans (b_2.mono (by omega))).trans (b_3.mono (by omega))); have hwRR : w.heap.size ≤ RR := by omega
 have HSZ := jh (show wz.heap.size = RR + 1 by omega); clear e_0 s_0 b_0 n_0 h_0 e_1 s_1 b_1 n_1 h_1 e_2 s_2 b_2 n_2 h_2 e_3 s_3 b_3 n_3 h_3 f_3; refine (CM.out _).mono ?_; rintro _ w1 ⟨rfl, hb⟩; have HAA := jn hb HAA; have HNN := jn hb HNN; have HMM := jn hb HMM; have HRR := jn hb HRR; have HF := jh (HF.out.later hb (by omega)); have hRd := Nat.lt_of_lt_of_le hRd hb.size; have B := jw B hb; clear hb; obtain ⟨c0, c1, c2, c3, f0, f1, f2, f3⟩ := jC HRR.out HF.out
 go_wp2_with fail
 have B9 := jh (jp B.out hwRR (.int .u64 0) (.int .u64 0) (.int .u64 0) (.int .u64 0)); refine bodyPost_ret (v := .tuple #[.agg #[.int .u64 0, .int .u64 0, .int .u64 0, .int .u64 0], .int .i64 1]) ?_ rfl ⟨by simp only [qo]; rfl, B9.out⟩
 simp [results, Tryz.results67, go_sem, c0, c1, c2, c3]
theorem RExp_word {a n m : Nat} (hn : n < jj) (hm : m < jj) (h1 : 1 < m) (ha : a < m) (hw9 : m < jd) (w : World) :
  Calls Tryz.prog 67 #[ji a, ji n, ji m] w fun e w' => e = .returned (.tuple #[ji (a ^ n % m), .int .i64 0]) ∧ Below w.heap.size w w' := by
 have haM := Nat.lt_trans ha hm; have CM := jh (fun W => by have h9 := Jt haM haM hm W; rewrite [decide_eq_true (show (1 < m ∧ a < m ∧ a < m) from ⟨h1, ha, ha⟩)] at h9; unfold ji words at h9; exact h9); have CW := jh (fun W => by have h9 := Jh hm W; rewrite [decide_eq_true hw9] at h9; unfold ji words at h9; exact h9); obtain ⟨q, hq⟩ := je (a ^ n % m); rw [← hq]; have hqW : q < jd := by rw [hq]; exact Nat.lt_trans (Nat.mod_lt _ (by omega)) hw9
 have CO := jh (fun W => by have h9 := Of_ref q hqW W; unfold ji words at h9; exact h9); have CP := jh (fun W => by have h9 := RWordP_any ha hn h1 hw9 W; rewrite [← hq] at h9; unfold ji words at h9; exact h9); have da := jh (qf (Nat.lt_trans ha hw9)).1; have dm := jh (qf hw9).1; clear hn hm h1 ha hw9 haM hq hqW; unfold ji words
 go_enter Tryz.func67, Tryz.ntmps67
 go_wp2_with fail
 obtain ⟨w_0, e_0⟩ := je (w.alloc (.cells #[.int .u64 (jf jd a 0), .int .u64 (jf jd a 1), .int .u64 (jf jd a 2), .int .u64 (jf jd a 3)] 24)); have s_0 : w_0.heap.size = w.heap.size + 1 := by rw [e_0]; simp
 have b_0 := jc e_0; have n_0 : NumAt w_0 (w.heap.size) a := by rw [e_0]; exact NumAt.new w a _ _ rfl
 obtain ⟨w_1, e_1⟩ := je (w_0.alloc (.cells #[.int .u64 (jf jd n 0), .int .u64 (jf jd n 1), .int .u64 (jf jd n 2), .int .u64 (jf jd n 3)] 24)); have s_1 : w_1.heap.size = w.heap.size + 1 + 1 := by rw [e_1]; simp [s_0]
 have b_1 := jc e_1; have n_1 : NumAt w_1 (w.heap.size + 1) n := by rw [e_1]; exact NumAt.new w_0 n _ _ s_0.symm
 obtain ⟨w_2, e_2⟩ := je (w_1.alloc (.cells #[.int .u64 (jf jd m 0), .int .u64 (jf jd m 1), .int .u64 (jf jd m 2), .int .u64 (jf jd m 3)] 24)); have s_2 : w_2.heap.size = w.heap.size + 1 + 1 + 1 := by rw [e_2]; simp [s_1]
 have b_2 := jc e_2; have n_2 : NumAt w_2 (w.heap.size + 1 + 1) m := by rw [e_2]; exact NumAt.new w_1 m _ _ s_1.symm
 obtain ⟨wz, e_3⟩ := je (w_2.alloc (.cells #[.int .u64 0, .int .u64 0, .int .u64 0, .int .u64 0] 24)); have s_3 : wz.heap.size = w.heap.size + 1 + 1 + 1 + 1 := by rw [e_3]; simp [s_2]
 have b_3 := jc e_3; have n_3 : NumAt wz (w.heap.size + 1 + 1 + 1) 0 := by rw [e_3, ← s_2]; exact jz w_2 _
 have f_3 : FreeN wz (w.heap.size + 1 + 1 + 1) 4 := by rw [e_3]; exact FreeN.made w_2 _ _ 4 _ s_2.symm
 rw [← e_0, ← e_1, ← e_2, ← e_3]; obtain ⟨AA, h_0⟩ := je (w.heap.size); obtain ⟨NN, h_1⟩ := je (AA + 1); obtain ⟨MM, h_2⟩ := je (NN + 1); obtain ⟨RR, h_3⟩ := je (MM + 1); have hwL : w.heap.size ≤ AA := by omega
 have hRd : RR < wz.heap.size := by omega
 rw [← h_0] at n_0 n_1 n_2 n_3 f_3 ⊢; rw [← h_1] at n_1 n_2 n_3 f_3 ⊢; rw [← h_2] at n_2 n_3 f_3 ⊢; rw [← h_3] at n_3 f_3 ⊢; have l_1 : AA < NN := by omega
 have l_2 : NN < MM := by omega
 have l_3 : MM < RR := by omega
 have HAA := jh (NumAt.later b_3 (NumAt.later b_2 (NumAt.later b_1 n_0))); have HNN := jh (NumAt.later b_3 (NumAt.later b_2 n_1)); have HMM := jh (NumAt.later b_3 n_2); have HRR := jh n_3; have HF := jh f_3; have B := jh (((b_0.trans (b_1.mono (by omega))).trans (b_2.mono (by omega))).trans (b_3.mono (by omega))); have hwRR : w.heap.size ≤ RR := by omega
 have HSZ := jh (show wz.heap.size = RR + 1 by omega); clear e_0 s_0 b_0 n_0 h_0 e_1 s_1 b_1 n_1 h_1 e_2 s_2 b_2 n_2 h_2 e_3 s_3 b_3 n_3 h_3 f_3; refine (CM.out _).mono ?_; rintro _ w1 ⟨rfl, hb⟩; have HAA := jn hb HAA; have HNN := jn hb HNN; have HMM := jn hb HMM; have HRR := jn hb HRR; have HF := jh (HF.out.later hb (by omega)); have hRd := Nat.lt_of_lt_of_le hRd hb.size; have B := jw B hb; clear hb; obtain ⟨r_MM_0, r_MM_1, r_MM_2, r_MM_3⟩ := jy HMM.out
 go_wp2_with fail
 clear r_MM_0 r_MM_1 r_MM_2 r_MM_3; refine (CW.out _).mono ?_; rintro _ w2 ⟨rfl, hb⟩; have HAA := jn hb HAA; have HNN := jn hb HNN; have HMM := jn hb HMM; have HRR := jn hb HRR; have HF := jh (HF.out.later hb (by omega)); have hRd := Nat.lt_of_lt_of_le hRd hb.size; have B := jw B hb; clear hb; obtain ⟨r_AA_0, r_AA_1, r_AA_2, r_AA_3⟩ := jy HAA.out; obtain ⟨r_NN_0, r_NN_1, r_NN_2, r_NN_3⟩ := jy HNN.out; obtain ⟨r_MM_0, r_MM_1, r_MM_2, r_MM_3⟩ := jy HMM.out; rw [da.out] at r_AA_0; rw [dm.out] at r_MM_0
 go_wp2_with fail
 clear r_AA_0 r_AA_1 r_AA_2 r_AA_3 r_NN_0 r_NN_1 r_NN_2 r_NN_3 r_MM_0 r_MM_1 r_MM_2 r_MM_3; refine (CP.out _).mono ?_; rintro _ w3 ⟨rfl, hb⟩; have HAA := jn hb HAA; have HNN := jn hb HNN; have HMM := jn hb HMM; have HRR := jn hb HRR; have HF := jh (HF.out.later hb (by omega)); have hRd := Nat.lt_of_lt_of_le hRd hb.size; have B := jw B hb; clear hb
 go_wp2_with fail
 refine (CO.out _).mono ?_; rintro _ w4 ⟨rfl, hb⟩; have HAA := jn hb HAA; have HNN := jn hb HNN; have HMM := jn hb HMM; have HRR := jn hb HRR; have HF := jh (HF.out.later hb (by omega)); have hRd := Nat.lt_of_lt_of_le hRd hb.size; have B := jw B hb; clear hb; obtain ⟨c0, c1, c2, c3, f0, f1, f2, f3⟩ := jC HRR.out HF.out
 go_wp2_with fail
 have HRL := jh (NumAt.set4 HRR.out q); have B9 := jh (jp B.out hwRR (.int .u64 (jf jd q 0)) (.int .u64 (jf jd q 1)) (.int .u64 (jf jd q 2)) (.int .u64 (jf jd q 3))); obtain ⟨g0, g1, g2, g3⟩ := jy HRL.out; refine bodyPost_ret (v := .tuple #[.agg #[.int .u64 (jf jd q 0), .int .u64 (jf jd q 1), .int .u64 (jf jd q 2), .int .u64 (jf jd q 3)], .int .i64 0]) ?_ rfl ⟨rfl, B9.out⟩
 simp [results, Tryz.results67, go_sem, g0, g1, g2, g3]
theorem RExp_long {a n m : Nat} (hn : n < jj) (hm : m < jj) (h1 : 1 < m) (ha : a < m) (hw9 : ¬ m < jd) (w : World) :
  Calls Tryz.prog 67 #[ji a, ji n, ji m] w fun e w' => e = .returned (.tuple #[ji (a ^ n % m), .int .i64 0]) ∧ Below w.heap.size w w' := by
 have haM := Nat.lt_trans ha hm; have CM := jh (fun W => by have h9 := Jt haM haM hm W; rewrite [decide_eq_true (show (1 < m ∧ a < m ∧ a < m) from ⟨h1, ha, ha⟩)] at h9; unfold ji words at h9; exact h9); have CW := jh (fun W => by have h9 := Jh hm W; rewrite [decide_eq_false hw9] at h9; unfold ji words at h9; exact h9); obtain ⟨q, hq⟩ := je (a ^ n % m); rw [← hq]; have HQ := jh hq; obtain ⟨L, hL⟩ := je (jP n); have CB := jh (fun W => by have h9 := Bits_ref hn W; rewrite [← hL] at h9; unfold ji words at h9; exact h9); have hL6 : L ≤ 256 := by rw [hL]; exact JD hn
 have HL := jh (show n / 2 ^ L = 0 by rw [hL]; exact bits_top); have CO := jh (fun W => by have h9 := ROf_lit 1 1 rfl (by unfold jd; omega) W; unfold ji words at h9; exact h9); have HA := jh ha; have HM := jh h1; have HM9 := jh hm; clear hn hm h1 ha hw9 haM hq hL; unfold ji words
 go_enter Tryz.func67, Tryz.ntmps67
 go_wp2_with fail
 obtain ⟨w_0, e_0⟩ := je (w.alloc (.cells #[.int .u64 (jf jd a 0), .int .u64 (jf jd a 1), .int .u64 (jf jd a 2), .int .u64 (jf jd a 3)] 24)); have s_0 : w_0.heap.size = w.heap.size + 1 := by rw [e_0]; simp
 have b_0 := jc e_0; have n_0 : NumAt w_0 (w.heap.size) a := by rw [e_0]; exact NumAt.new w a _ _ rfl
 obtain ⟨w_1, e_1⟩ := je (w_0.alloc (.cells #[.int .u64 (jf jd n 0), .int .u64 (jf jd n 1), .int .u64 (jf jd n 2), .int .u64 (jf jd n 3)] 24)); have s_1 : w_1.heap.size = w.heap.size + 1 + 1 := by rw [e_1]; simp [s_0]
 have b_1 := jc e_1; have n_1 : NumAt w_1 (w.heap.size + 1) n := by rw [e_1]; exact NumAt.new w_0 n _ _ s_0.symm
 obtain ⟨w_2, e_2⟩ := je (w_1.alloc (.cells #[.int .u64 (jf jd m 0), .int .u64 (jf jd m 1), .int .u64 (jf jd m 2), .int .u64 (jf jd m 3)] 24)); have s_2 : w_2.heap.size = w.heap.size + 1 + 1 + 1 := by rw [e_2]; simp [s_1]
 have b_2 := jc e_2; have n_2 : NumAt w_2 (w.heap.size + 1 + 1) m := by rw [e_2]; exact NumAt.new w_1 m _ _ s_1.symm
 obtain ⟨wz, e_3⟩ := je (w_2.alloc (.cells #[.int .u64 0, .int .u64 0, .int .u64 0, .int .u64 0] 24)); have s_3 : wz.heap.size = w.heap.size + 1 + 1 + 1 + 1 := by rw [e_3]; simp [s_2]
 have b_3 := jc e_3; have n_3 : NumAt wz (w.heap.size + 1 + 1 + 1) 0 := by rw [e_3, ← s_2]; exact jz w_2 _
 have f_3 : FreeN wz (w.heap.size + 1 + 1 + 1) 4 := by rw [e_3]; exact FreeN.made w_2 _ _ 4 _ s_2.symm
 rw [← e_0, ← e_1, ← e_2, ← e_3]; obtain ⟨AA, h_0⟩ := je (w.heap.size); obtain ⟨NN, h_1⟩ := je (AA + 1); obtain ⟨MM, h_2⟩ := je (NN + 1); obtain ⟨RR, h_3⟩ := je (MM + 1); have hwL : w.heap.size ≤ AA := by omega
 have hRd : RR < wz.heap.size := by omega
 rw [← h_0] at n_0 n_1 n_2 n_3 f_3 ⊢; rw [← h_1] at n_1 n_2 n_3 f_3 ⊢; rw [← h_2] at n_2 n_3 f_3 ⊢; rw [← h_3] at n_3 f_3 ⊢; have l_1 : AA < NN := by omega
 have l_2 : NN < MM := by omega
 have l_3 : MM < RR := by omega
 have HAA := jh (NumAt.later b_3 (NumAt.later b_2 (NumAt.later b_1 n_0))); have HNN := jh (NumAt.later b_3 (NumAt.later b_2 n_1)); have HMM := jh (NumAt.later b_3 n_2); have HRR := jh n_3; have HF := jh f_3; have B := jh (((b_0.trans (b_1.mono (by omega))).trans (b_2.mono (by omega))).trans (b_3.mono (by omega))); have hwRR : w.heap.size ≤ RR := by omega
 have HSZ := jh (show wz.heap.size = RR + 1 by omega); clear e_0 s_0 b_0 n_0 h_0 e_1 s_1 b_1 n_1 h_1 e_2 s_2 b_2 n_2 h_2 e_3 s_3 b_3 n_3 h_3 f_3; refine (CM.out _).mono ?_; rintro _ w1 ⟨rfl, hb⟩; have HAA := jn hb HAA; have HNN := jn hb HNN; have HMM := jn hb HMM; have HRR := jn hb HRR; have HF := jh (HF.out.later hb (by omega)); have hRd := Nat.lt_of_lt_of_le hRd hb.size; have B := jw B hb; clear hb; obtain ⟨r_MM_0, r_MM_1, r_MM_2, r_MM_3⟩ := jy HMM.out
 go_wp2_with fail
 clear r_MM_0 r_MM_1 r_MM_2 r_MM_3; refine (CW.out _).mono ?_; rintro _ w2 ⟨rfl, hb⟩; have HAA := jn hb HAA; have HNN := jn hb HNN; have HMM := jn hb HMM; have HRR := jn hb HRR; have HF := jh (HF.out.later hb (by omega)); have hRd := Nat.lt_of_lt_of_le hRd hb.size; have B := jw B hb; clear hb
 go_wp2_with fail
 refine (CO.out _).mono ?_; rintro _ w3 ⟨rfl, hb⟩; have HAA := jn hb HAA; have HNN := jn hb HNN; have HMM := jn hb HMM; have HRR := jn hb HRR; have HF := jh (HF.out.later hb (by omega)); have hRd := Nat.lt_of_lt_of_le hRd hb.size; have B := jw B hb; clear hb
 go_upto_region 6 with fail
 obtain ⟨w4, e9⟩ := je (w3.alloc (.cells #[.int .u64 (jf jd 1 0), .int .u64 (jf jd 1 1), .int .u64 (jf jd 1 2), .int .u64 (jf jd 1 3)] 24)); obtain ⟨OB, h9⟩ := je (w3.heap.size); have hb := jc e9; have n9 := jh (show NumAt w4 OB 1 by rw [e9, h9]; exact NumAt.new _ _ _ _ rfl); have f9 := jh (show FreeN w4 OB 4 by rw [e9, h9]; exact FreeN.made _ _ _ _ _ rfl); have l_OB : RR < OB := by omega
 have h8 : OB < w4.heap.size := by rw [e9, h9]; simp
 rw [← e9, ← h9]; clear e9 h9; have HAA := jn hb HAA; have HNN := jn hb HNN; have HMM := jn hb HMM; have HRR := jn hb HRR; have HF := jh (HF.out.later hb (by omega)); have hRd := Nat.lt_of_lt_of_le hRd hb.size; have B := jw B hb; clear hb; have HOB := n9; have HFOB := f9; have hRd := h8; clear n9 f9 h8; have hwOB : w.heap.size ≤ OB := by omega
 obtain ⟨r_NN_0, r_NN_1, r_NN_2, r_NN_3⟩ := jy HNN.out
 go_wp2_with fail
 clear r_NN_0 r_NN_1 r_NN_2 r_NN_3; refine (CB.out _).mono ?_; rintro _ w5 ⟨rfl, hb⟩; have HAA := jn hb HAA; have HNN := jn hb HNN; have HMM := jn hb HMM; have HRR := jn hb HRR; have HOB := jn hb HOB; have HF := jh (HF.out.later hb (by omega)); have HFOB := jh (HFOB.out.later hb (by omega)); have hRd := Nat.lt_of_lt_of_le hRd hb.size; have B := jw B hb; clear hb
 go_wp2_with fail
 go_loopw [9] (fun i wr => ∃ (z : Int) (k o : Nat), Hid (z = (k : Int) - 1) ∧ k ≤ L ∧ i = .int .i64 z ∧ o < m ∧ Hid (o = a ^ (n / 2 ^ k) % m) ∧ Hid (NumAt wr AA a) ∧ Hid (NumAt wr NN n) ∧ Hid (NumAt wr MM m) ∧ Hid (NumAt wr RR 0) ∧ Hid (NumAt wr OB o) ∧ Hid (FreeN wr RR 4) ∧ Hid (FreeN wr OB 4) ∧ Hid (Below w.heap.size w wr) ∧ OB < wr.heap.size) (fun i _ => (intOf i + 1).toNat)
 case atStart => exact ⟨(L : Int) - 1, L, 1, jh rfl, Nat.le_refl _, rfl, HM.out, jh (by rw [HL.out, Nat.pow_zero, Nat.mod_eq_of_lt HM.out]), HAA, HNN, HMM, HRR, HOB, HF, HFOB, B, hRd⟩
 case round =>
  clear HAA HNN HMM HRR HOB HF HFOB B hRd; obtain ⟨z, k, o, hz, hk, rfl, hom, HO, HAA, HNN, HMM, HRR, HOB, HF, HFOB, B, hRd⟩ := hrel
  by_cases hlt : 0 ≤ z
  ·obtain ⟨j, rfl⟩ : ∃ j : Nat, z = (j : Int) := ⟨z.toNat, by omega⟩; have hkj : k = j + 1 := by have := hz.out; omega
   rw [hkj] at HO hk; clear hz hkj; have hj : j < 256 := by omega
   obtain ⟨o2, ho2⟩ := je (o * o % m); have hom2 : o2 < m := by rw [ho2]; exact Nat.mod_lt _ (by have := HM.out; omega)
   have C1 := jh (fun W => by have h9 := QV HM9.out hom hom W; rewrite [← ho2] at h9; unfold ji words at h9; exact h9); obtain ⟨b, hb⟩ := je (n / 2 ^ j % 2); have hb2 : b = 0 ∨ b = 1 := by omega
   have C2 := jh (fun W => by have h9 := Bit_ref n (j : Int) W (by omega) (by omega); rewrite [Zo hj, ← hb] at h9; unfold ji words at h9; exact h9); have HO2 := jh ho2; have HB := jh hb; clear ho2 hb; obtain ⟨r_OB_0, r_OB_1, r_OB_2, r_OB_3⟩ := jy HOB.out; obtain ⟨r_MM_0, r_MM_1, r_MM_2, r_MM_3⟩ := jy HMM.out
   go_wp2_with fail
   clear r_OB_0 r_OB_1 r_OB_2 r_OB_3 r_MM_0 r_MM_1 r_MM_2 r_MM_3; refine (C1.out _).mono ?_; rintro _ w6 ⟨rfl, hb⟩; have HAA := jn hb HAA; have HNN := jn hb HNN; have HMM := jn hb HMM; have HRR := jn hb HRR; have HOB := jn hb HOB; have HF := jh (HF.out.later hb (by omega)); have HFOB := jh (HFOB.out.later hb (by omega)); have hRd := Nat.lt_of_lt_of_le hRd hb.size; have B := jw B hb; clear hb; obtain ⟨y0, y1, y2, y3, y4, y5, y6, y7⟩ := jC HOB.out HFOB.out
   go_upto_region 10 with fail
   clear y0 y1 y2 y3 y4 y5 y6 y7; obtain ⟨w7, e9⟩ := je (((((w6.setCell ⟨OB, 0, none⟩ (.int .u64 (jf jd o2 0))).setCell ⟨OB, 1, none⟩ (.int .u64 (jf jd o2 1))).setCell ⟨OB, 2, none⟩ (.int .u64 (jf jd o2 2))).setCell ⟨OB, 3, none⟩ (.int .u64 (jf jd o2 3)))); rw [← e9]; have HAA := jh (show NumAt w7 AA a by rw [e9]; exact NumAt.other4 HAA.out (by omega) _ _ _ _); have HNN := jh (show NumAt w7 NN n by rw [e9]; exact NumAt.other4 HNN.out (by omega) _ _ _ _); have HMM := jh (show NumAt w7 MM m by rw [e9]; exact NumAt.other4 HMM.out (by omega) _ _ _ _); have HRR := jh (show NumAt w7 RR 0 by rw [e9]; exact NumAt.other4 HRR.out (by omega) _ _ _ _); have HOB := jh (show NumAt w7 OB o2 by rw [e9]; exact NumAt.set4 HOB.out _); have HF := jh (show FreeN w7 RR 4 by rw [e9]; exact FreeN.set4 HF.out _ _ _ _ _ _ _ _); have HFOB := jh (show FreeN w7 OB 4 by rw [e9]; exact FreeN.set4 HFOB.out _ _ _ _ _ _ _ _); have B := jh (show Below w.heap.size w w7 by rw [e9]; exact jp B.out hwOB _ _ _ _); have hRd : OB < w7.heap.size := by rw [e9]; simpa using hRd
   clear e9; obtain ⟨r_NN_0, r_NN_1, r_NN_2, r_NN_3⟩ := jy HNN.out
   go_wp2_with fail
   clear r_NN_0 r_NN_1 r_NN_2 r_NN_3; refine (C2.out _).mono ?_; rintro _ w8 ⟨rfl, hb⟩; have HAA := jn hb HAA; have HNN := jn hb HNN; have HMM := jn hb HMM; have HRR := jn hb HRR; have HOB := jn hb HOB; have HF := jh (HF.out.later hb (by omega)); have HFOB := jh (HFOB.out.later hb (by omega)); have hRd := Nat.lt_of_lt_of_le hRd hb.size; have B := jw B hb; clear hb
   rcases hb2 with rfl | rfl
   ·skip
    have HK := jh (show o2 = a ^ (n / 2 ^ j) % m by rw [HO2.out, HO.out]; exact pow_top0 HB.out.symm)
    go_wp2_with fail
    go_roundw
    case rel => exact ⟨(j : Int) - 1, j, o2, jh rfl, by omega, by go_num, hom2, HK, HAA, HNN, HMM, HRR, HOB, HF, HFOB, B, hRd⟩
    case measure => (simp [intOf] <;> omega)
   ·skip
    obtain ⟨o3, ho3⟩ := je (o2 * a % m); have hom3 : o3 < m := by rw [ho3]; exact Nat.mod_lt _ (by have := HM.out; omega)
    have C3 := jh (fun W => by have h9 := QV HM9.out hom2 HA.out W; rewrite [← ho3] at h9; unfold ji words at h9; exact h9); have HK := jh (show o3 = a ^ (n / 2 ^ j) % m by rw [ho3, HO2.out, HO.out]; exact pow_top1 HB.out.symm); clear ho3; obtain ⟨r_OB_0, r_OB_1, r_OB_2, r_OB_3⟩ := jy HOB.out; obtain ⟨r_AA_0, r_AA_1, r_AA_2, r_AA_3⟩ := jy HAA.out; obtain ⟨r_MM_0, r_MM_1, r_MM_2, r_MM_3⟩ := jy HMM.out
    go_wp2_with fail
    clear r_OB_0 r_OB_1 r_OB_2 r_OB_3 r_AA_0 r_AA_1 r_AA_2 r_AA_3 r_MM_0 r_MM_1 r_MM_2 r_MM_3; refine (C3.out _).mono ?_; rintro _ wb ⟨rfl, hb⟩; have HAA := jn hb HAA; have HNN := jn hb HNN; have HMM := jn hb HMM; have HRR := jn hb HRR; have HOB := jn hb HOB; have HF := jh (HF.out.later hb (by omega)); have HFOB := jh (HFOB.out.later hb (by omega)); have hRd := Nat.lt_of_lt_of_le hRd hb.size; have B := jw B hb; clear hb; obtain ⟨y0, y1, y2, y3, y4, y5, y6, y7⟩ := jC HOB.out HFOB.out
    go_upto_region 8 with fail
    clear y0 y1 y2 y3 y4 y5 y6 y7; obtain ⟨wa, e9⟩ := je (((((wb.setCell ⟨OB, 0, none⟩ (.int .u64 (jf jd o3 0))).setCell ⟨OB, 1, none⟩ (.int .u64 (jf jd o3 1))).setCell ⟨OB, 2, none⟩ (.int .u64 (jf jd o3 2))).setCell ⟨OB, 3, none⟩ (.int .u64 (jf jd o3 3)))); rw [← e9]; have HAA := jh (show NumAt wa AA a by rw [e9]; exact NumAt.other4 HAA.out (by omega) _ _ _ _); have HNN := jh (show NumAt wa NN n by rw [e9]; exact NumAt.other4 HNN.out (by omega) _ _ _ _); have HMM := jh (show NumAt wa MM m by rw [e9]; exact NumAt.other4 HMM.out (by omega) _ _ _ _); have HRR := jh (show NumAt wa RR 0 by rw [e9]; exact NumAt.other4 HRR.out (by omega) _ _ _ _); have HOB := jh (show NumAt wa OB o3 by rw [e9]; exact NumAt.set4 HOB.out _); have HF := jh (show FreeN wa RR 4 by rw [e9]; exact FreeN.set4 HF.out _ _ _ _ _ _ _ _); have HFOB := jh (show FreeN wa OB 4 by rw [e9]; exact FreeN.set4 HFOB.out _ _ _ _ _ _ _ _); have B := jh (show Below w.heap.size w wa by rw [e9]; exact jp B.out hwOB _ _ _ _); have hRd : OB < wa.heap.size := by rw [e9]; simpa using hRd
    clear e9
    go_wp2_with fail
    go_roundw
    case rel => exact ⟨(j : Int) - 1, j, o3, jh rfl, by omega, by go_num, hom3, HK, HAA, HNN, HMM, HRR, HOB, HF, HFOB, B, hRd⟩
    case measure => (simp [intOf] <;> omega)
  ·have hk0 : k = 0 := by have := hz.out; omega
   have hoq : o = q := by have h9 := HO.out; rw [hk0, Nat.pow_zero, Nat.div_one] at h9; rw [h9, HQ.out]
   rw [hoq] at HOB; clear hz HO hk0 hoq hom; obtain ⟨r_OB_0, r_OB_1, r_OB_2, r_OB_3⟩ := jy HOB.out; obtain ⟨c0, c1, c2, c3, f0, f1, f2, f3⟩ := jC HRR.out HF.out
   go_wp2_with fail
   have HRL := jh (NumAt.set4 HRR.out q); have B9 := jh (jp B.out hwRR (.int .u64 (jf jd q 0)) (.int .u64 (jf jd q 1)) (.int .u64 (jf jd q 2)) (.int .u64 (jf jd q 3))); obtain ⟨g0, g1, g2, g3⟩ := jy HRL.out; refine bodyPost_ret (v := .tuple #[.agg #[.int .u64 (jf jd q 0), .int .u64 (jf jd q 1), .int .u64 (jf jd q 2), .int .u64 (jf jd q 3)], .int .i64 0]) ?_ rfl ⟨rfl, B9.out⟩
   simp [results, Tryz.results67, go_sem, g0, g1, g2, g3]
theorem RExp_yes {a n m : Nat} (hn : n < jj) (hm : m < jj) (h1 : 1 < m) (ha : a < m) (w : World) :
  Calls Tryz.prog 67 #[ji a, ji n, ji m] w fun e w' => e = .returned (.tuple #[ji (a ^ n % m), .int .i64 0]) ∧ Below w.heap.size w w' := by
 by_cases h : m < jd
 ·exact RExp_word hn hm h1 ha h w
 ·exact RExp_long hn hm h1 ha h w
end Go.Proofs.YtcaeaejefdhloaaGreat
