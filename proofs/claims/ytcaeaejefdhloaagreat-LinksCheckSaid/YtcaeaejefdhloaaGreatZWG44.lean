/- Layer 4's reference -/
import Derived.Test.YtcaeaejefdhloaaGreatZWG41
set_option linter.unusedSimpArgs false
set_option linter.unusedVariables false
set_option maxHeartbeats 4000000
set_option maxRecDepth 100000
namespace Go.Proofs.YtcaeaejefdhloaaGreat
open Go.ChangeShapes Go.WideShapes Go.ChangeAt Go.RowKit
theorem add_cases {a b m : Nat} (ha : a < m) (hb : b < m) (hm : m < jj) : (qA a b = a + b ∧ qr a b = 0 ∧ a + b < jj) ∨ (qA a b + jj = a + b ∧ qr a b = 1) := by
 unfold qA qr
 rcases Nat.lt_or_ge (a + b) jj with h | h
 ·exact .inl ⟨Nat.mod_eq_of_lt h, Nat.div_eq_of_lt h, h⟩
 ·refine .inr ⟨?_, ?_⟩
  ·rw [Nat.mod_eq_sub_mod h, Nat.mod_eq_of_lt (by omega)]; omega
  ·exact Nat.div_eq_of_lt_le (by omega) (by omega)
theorem add_mod_cases {a b m : Nat} (ha : a < m) (hb : b < m) (hm : m < jj) : (qr a b = 1 ∧ qV (qA a b) m = (a + b) % m) ∨ (qr a b = 0 ∧ m ≤ qA a b ∧ qV (qA a b) m = (a + b) % m) ∨ (qr a b = 0 ∧ qA a b < m ∧ qA a b = (a + b) % m) := by
 rcases add_cases ha hb hm with ⟨h1, h2, h3⟩ | ⟨h1, h2⟩
 ·rcases Nat.lt_or_ge (a + b) m with h | h
  ·exact .inr (.inr ⟨h2, by omega, by rw [h1, Nat.mod_eq_of_lt h]⟩)
  ·refine .inr (.inl ⟨h2, by omega, ?_⟩); rw [subN_ge (by omega) (JE a b), h1, Nat.mod_eq_sub_mod h, Nat.mod_eq_of_lt (by omega)]
 ·refine .inl ⟨h2, ?_⟩; unfold qV; rw [Nat.mod_eq_of_lt (by omega), Nat.mod_eq_sub_mod (by omega), Nat.mod_eq_of_lt (by omega)]; omega
theorem sub_mod_cases {a b m : Nat} (ha : a < m) (hb : b < m) (hm : m < jj) : (qp a b = 1 ∧ qA (qV a b) m = (a + m - b) % m) ∨ (qp a b = 0 ∧ qV a b = (a + m - b) % m) := by
 unfold qp
 rcases Nat.lt_or_ge a b with h | h
 ·refine .inl ⟨if_pos h, ?_⟩; unfold qA qV; rw [Nat.mod_eq_of_lt (a := a + jj - b) (by omega), Nat.mod_eq_of_lt (a := a + m - b) (by omega), show a + jj - b + m = (a + m - b) + jj by omega, Nat.add_mod_right, Nat.mod_eq_of_lt (by omega)]
 ·refine .inr ⟨if_neg (by omega), ?_⟩; rw [subN_ge h (by omega), show a + m - b = (a - b) + m by omega, Nat.add_mod_right, Nat.mod_eq_of_lt (by omega)]
theorem RAddM_no {a b m : Nat} (ha : a < jj) (hb9 : b < jj) (hm : m < jj) (hmay : ¬ (1 < m ∧ a < m ∧ b < m)) (w : World) :
  Calls Tryz.prog 94 #[ji a, ji b, ji m] w fun e w' => e = .returned (.tuple #[ji 0, .int .i64 1]) ∧ Below w.heap.size w w' := by
 have CM := jh (fun W => by have h9 := Jt ha hb9 hm W; rewrite [decide_eq_false hmay] at h9; unfold ji words at h9; exact h9); clear ha hb9 hm hmay; unfold ji words
 go_enter Tryz.func94, Tryz.ntmps94
 go_wp2_with fail
 obtain ⟨w_0, e_0⟩ := je (w.alloc (.cells #[.int .u64 (jf jd a 0), .int .u64 (jf jd a 1), .int .u64 (jf jd a 2), .int .u64 (jf jd a 3)] 24)); have s_0 : w_0.heap.size = w.heap.size + 1 := by rw [e_0]; simp
 have b_0 := jc e_0; have n_0 : NumAt w_0 (w.heap.size) a := by rw [e_0]; exact NumAt.new w a _ _ rfl
 obtain ⟨w_1, e_1⟩ := je (w_0.alloc (.cells #[.int .u64 (jf jd b 0), .int .u64 (jf jd b 1), .int .u64 (jf jd b 2), .int .u64 (jf jd b 3)] 24)); have s_1 : w_1.heap.size = w.heap.size + 1 + 1 := by rw [e_1]; simp [s_0]
 have b_1 := jc e_1; have n_1 : NumAt w_1 (w.heap.size + 1) b := by rw [e_1]; exact NumAt.new w_0 b _ _ s_0.symm
 obtain ⟨w_2, e_2⟩ := je (w_1.alloc (.cells #[.int .u64 (jf jd m 0), .int .u64 (jf jd m 1), .int .u64 (jf jd m 2), .int .u64 (jf jd m 3)] 24)); have s_2 : w_2.heap.size = w.heap.size + 1 + 1 + 1 := by rw [e_2]; simp [s_1]
 have b_2 := jc e_2; have n_2 : NumAt w_2 (w.heap.size + 1 + 1) m := by rw [e_2]; exact NumAt.new w_1 m _ _ s_1.symm
 obtain ⟨wz, e_3⟩ := je (w_2.alloc (.cells #[.int .u64 0, .int .u64 0, .int .u64 0, .int .u64 0] 24)); have s_3 : wz.heap.size = w.heap.size + 1 + 1 + 1 + 1 := by rw [e_3]; simp [s_2]
 have b_3 := jc e_3; have n_3 : NumAt wz (w.heap.size + 1 + 1 + 1) 0 := by rw [e_3, ← s_2]; exact jz w_2 _
 have f_3 : FreeN wz (w.heap.size + 1 + 1 + 1) 4 := by rw [e_3]; exact FreeN.made w_2 _ _ 4 _ s_2.symm
 rw [← e_0, ← e_1, ← e_2, ← e_3]; obtain ⟨AA, h_0⟩ := je (w.heap.size); obtain ⟨BB, h_1⟩ := je (AA + 1); obtain ⟨MM, h_2⟩ := je (BB + 1); obtain ⟨RR, h_3⟩ := je (MM + 1); have hwL : w.heap.size ≤ AA := by omega
 have hRd : RR < wz.heap.size := by omega
 rw [← h_0] at n_0 n_1 n_2 n_3 f_3 ⊢; rw [← h_1] at n_1 n_2 n_3 f_3 ⊢; rw [← h_2] at n_2 n_3 f_3 ⊢; rw [← h_3] at n_3 f_3 ⊢; have l_1 : AA < BB := by omega
 have l_2 : BB < MM := by omega
 have l_3 : MM < RR := by omega
 have HAA := jh (NumAt.later b_3 (NumAt.later b_2 (NumAt.later b_1 n_0))); have HBB := jh (NumAt.later b_3 (NumAt.later b_2 n_1)); have HMM := jh (NumAt.later b_3 n_2); have HRR := jh n_3; have HF := jh f_3; have B := jh (((b_0.trans (b_1.mono (by omega))).trans (b_2.mono (by omega))).trans (b_3.mono (by omega))); have hwRR : w.heap.size ≤ RR := by omega
 have HSZ := jh (show wz.heap.size = RR + 1 by omega); clear e_0 s_0 b_0 n_0 h_0 e_1 s_1 b_1 n_1 h_1 e_2 s_2 b_2 n_2 h_2 e_3 s_3 b_3 n_3 h_3 f_3; refine (CM.out _).mono ?_; rintro _ w1 ⟨rfl, hb⟩; have HAA := jn hb HAA; have HBB := jn hb HBB; have HMM := jn hb HMM; have HRR := jn hb HRR; have HF := jh (HF.out.later hb (by omega)); have hRd := Nat.lt_of_lt_of_le hRd hb.size; have B := jw B hb; clear hb; obtain ⟨c0, c1, c2, c3, f0, f1, f2, f3⟩ := jC HRR.out HF.out
 go_wp2_with fail
 have B9 := jh (jp B.out hwRR (.int .u64 0) (.int .u64 0) (.int .u64 0) (.int .u64 0)); refine bodyPost_ret (v := .tuple #[.agg #[.int .u64 0, .int .u64 0, .int .u64 0, .int .u64 0], .int .i64 1]) ?_ rfl ⟨by simp only [qo]; rfl, B9.out⟩
 simp [results, Tryz.results94, go_sem, c0, c1, c2, c3]
theorem RAddM_yes {a b m : Nat} (hm : m < jj) (hmay : 1 < m ∧ a < m ∧ b < m) (w : World) :
  Calls Tryz.prog 94 #[ji a, ji b, ji m] w fun e w' => e = .returned (.tuple #[ji ((a + b) % m), .int .i64 0]) ∧ Below w.heap.size w w' := by
 have ha := Nat.lt_trans hmay.2.1 hm; have hb9 := Nat.lt_trans hmay.2.2 hm; have CM := jh (fun W => by have h9 := Jt ha hb9 hm W; rewrite [decide_eq_true hmay] at h9; unfold ji words at h9; exact h9); obtain ⟨q, hq⟩ := je ((a + b) % m); rw [← hq]; obtain ⟨x, hx⟩ := je (qA a b); obtain ⟨c, hc⟩ := je (qr a b); have hxM : x < jj := by rw [hx]; exact JE a b
 have CA := jh (fun W => by have h9 := Add_ref ha hb9 W; rewrite [← hx, ← hc] at h9; unfold ji words at h9; exact h9); have h3 : (c = 1 ∧ qV x m = q) ∨ (c = 0 ∧ m ≤ x ∧ qV x m = q) ∨ (c = 0 ∧ x < m ∧ x = q) := by rw [hx, hc, hq]; exact add_mod_cases hmay.2.1 hmay.2.2 hm
 have CS := jh (fun W => Sub_ref hxM hm W); have CC := jh (fun W => Qd hxM hm W); unfold ji words at CS CC; clear hx hc hq ha hb9 hm hmay hxM; unfold ji words
 go_enter Tryz.func94, Tryz.ntmps94
 go_wp2_with fail
 obtain ⟨w_0, e_0⟩ := je (w.alloc (.cells #[.int .u64 (jf jd a 0), .int .u64 (jf jd a 1), .int .u64 (jf jd a 2), .int .u64 (jf jd a 3)] 24)); have s_0 : w_0.heap.size = w.heap.size + 1 := by rw [e_0]; simp
 have b_0 := jc e_0; have n_0 : NumAt w_0 (w.heap.size) a := by rw [e_0]; exact NumAt.new w a _ _ rfl
 obtain ⟨w_1, e_1⟩ := je (w_0.alloc (.cells #[.int .u64 (jf jd b 0), .int .u64 (jf jd b 1), .int .u64 (jf jd b 2), .int .u64 (jf jd b 3)] 24)); have s_1 : w_1.heap.size = w.heap.size + 1 + 1 := by rw [e_1]; simp [s_0]
 have b_1 := jc e_1; have n_1 : NumAt w_1 (w.heap.size + 1) b := by rw [e_1]; exact NumAt.new w_0 b _ _ s_0.symm
 obtain ⟨w_2, e_2⟩ := je (w_1.alloc (.cells #[.int .u64 (jf jd m 0), .int .u64 (jf jd m 1), .int .u64 (jf jd m 2), .int .u64 (jf jd m 3)] 24)); have s_2 : w_2.heap.size = w.heap.size + 1 + 1 + 1 := by rw [e_2]; simp [s_1]
 have b_2 := jc e_2; have n_2 : NumAt w_2 (w.heap.size + 1 + 1) m := by rw [e_2]; exact NumAt.new w_1 m _ _ s_1.symm
 obtain ⟨wz, e_3⟩ := je (w_2.alloc (.cells #[.int .u64 0, .int .u64 0, .int .u64 0, .int .u64 0] 24)); have s_3 : wz.heap.size = w.heap.size + 1 + 1 + 1 + 1 := by rw [e_3]; simp [s_2]
 have b_3 := jc e_3; have n_3 : NumAt wz (w.heap.size + 1 + 1 + 1) 0 := by rw [e_3, ← s_2]; exact jz w_2 _
 have f_3 : FreeN wz (w.heap.size + 1 + 1 + 1) 4 := by rw [e_3]; exact FreeN.made w_2 _ _ 4 _ s_2.symm
 rw [← e_0, ← e_1, ← e_2, ← e_3]; obtain ⟨AA, h_0⟩ := je (w.heap.size); obtain ⟨BB, h_1⟩ := je (AA + 1); obtain ⟨MM, h_2⟩ := je (BB + 1); obtain ⟨RR, h_3⟩ := je (MM + 1); have hwL : w.heap.size ≤ AA := by omega
 have hRd : RR < wz.heap.size := by omega
 rw [← h_0] at n_0 n_1 n_2 n_3 f_3 ⊢; rw [← h_1] at n_1 n_2 n_3 f_3 ⊢; rw [← h_2] at n_2 n_3 f_3 ⊢; rw [← h_3] at n_3 f_3 ⊢; have l_1 : AA < BB := by omega
 have l_2 : BB < MM := by omega
 have l_3 : MM < RR := by omega
 have HAA := jh (NumAt.later b_3 (NumAt.later b_2 (NumAt.later b_1 n_0))); have HBB := jh (NumAt.later b_3 (NumAt.later b_2 n_1)); have HMM := jh (NumAt.later b_3 n_2); have HRR := jh n_3; have HF := jh f_3; have B := jh (((b_0.trans (b_1.mono (by omega))).trans (b_2.mono (by omega))).trans (b_3.mono (by omega))); have hwRR : w.heap.size ≤ RR := by omega
 have HSZ := jh (show wz.heap.size = RR + 1 by omega); clear e_0 s_0 b_0 n_0 h_0 e_1 s_1 b_1 n_1 h_1 e_2 s_2 b_2 n_2 h_2 e_3 s_3 b_3 n_3 h_3 f_3; refine (CM.out _).mono ?_; rintro _ w1 ⟨rfl, hb⟩; have HAA := jn hb HAA; have HBB := jn hb HBB; have HMM := jn hb HMM; have HRR := jn hb HRR; have HF := jh (HF.out.later hb (by omega)); have hRd := Nat.lt_of_lt_of_le hRd hb.size; have B := jw B hb; clear hb; obtain ⟨r_AA_0, r_AA_1, r_AA_2, r_AA_3⟩ := jy HAA.out; obtain ⟨r_BB_0, r_BB_1, r_BB_2, r_BB_3⟩ := jy HBB.out
 go_wp2_with fail
 clear r_AA_0 r_AA_1 r_AA_2 r_AA_3 r_BB_0 r_BB_1 r_BB_2 r_BB_3; refine (CA.out _).mono ?_; rintro _ w2 ⟨rfl, hb⟩; have HAA := jn hb HAA; have HBB := jn hb HBB; have HMM := jn hb HMM; have HRR := jn hb HRR; have HF := jh (HF.out.later hb (by omega)); have hRd := Nat.lt_of_lt_of_le hRd hb.size; have B := jw B hb; clear hb
 go_upto_region 4 with fail
 obtain ⟨w3, e9⟩ := je (w2.alloc (.cells #[.int .u64 (jf jd x 0), .int .u64 (jf jd x 1), .int .u64 (jf jd x 2), .int .u64 (jf jd x 3)] 24)); obtain ⟨XB, h9⟩ := je (w2.heap.size); have hb := jc e9; have n9 := jh (show NumAt w3 XB x by rw [e9, h9]; exact NumAt.new _ _ _ _ rfl); have f9 := jh (show FreeN w3 XB 4 by rw [e9, h9]; exact FreeN.made _ _ _ _ _ rfl); have l_XB : RR < XB := by omega
 have h8 : XB < w3.heap.size := by rw [e9, h9]; simp
 rw [← e9, ← h9]; clear e9 h9; have HAA := jn hb HAA; have HBB := jn hb HBB; have HMM := jn hb HMM; have HRR := jn hb HRR; have HF := jh (HF.out.later hb (by omega)); have hRd := Nat.lt_of_lt_of_le hRd hb.size; have B := jw B hb; clear hb; have HXB := n9; have HFXB := f9; have hRd := h8; clear n9 f9 h8; have hwXB : w.heap.size ≤ XB := by omega
 rcases h3 with ⟨rfl, hs⟩ | ⟨rfl, hge, hs⟩ | ⟨rfl, hlt, hs⟩
 ·skip
  obtain ⟨z, hz⟩ := je (qp x m); rw [hs, ← hz] at CS; clear hs hz; obtain ⟨r_XB_0, r_XB_1, r_XB_2, r_XB_3⟩ := jy HXB.out; obtain ⟨r_MM_0, r_MM_1, r_MM_2, r_MM_3⟩ := jy HMM.out
  go_wp2_with fail
  clear r_XB_0 r_XB_1 r_XB_2 r_XB_3 r_MM_0 r_MM_1 r_MM_2 r_MM_3; refine (CS.out _).mono ?_; rintro _ w5 ⟨rfl, hb⟩; have HAA := jn hb HAA; have HBB := jn hb HBB; have HMM := jn hb HMM; have HRR := jn hb HRR; have HXB := jn hb HXB; have HF := jh (HF.out.later hb (by omega)); have HFXB := jh (HFXB.out.later hb (by omega)); have hRd := Nat.lt_of_lt_of_le hRd hb.size; have B := jw B hb; clear hb; obtain ⟨y0, y1, y2, y3, y4, y5, y6, y7⟩ := jC HXB.out HFXB.out
  go_upto_region 6 with fail
  clear y0 y1 y2 y3 y4 y5 y6 y7; obtain ⟨w6, e9⟩ := je (((((w5.setCell ⟨XB, 0, none⟩ (.int .u64 (jf jd q 0))).setCell ⟨XB, 1, none⟩ (.int .u64 (jf jd q 1))).setCell ⟨XB, 2, none⟩ (.int .u64 (jf jd q 2))).setCell ⟨XB, 3, none⟩ (.int .u64 (jf jd q 3)))); rw [← e9]; have HAA := jh (show NumAt w6 AA a by rw [e9]; exact NumAt.other4 HAA.out (by omega) _ _ _ _); have HBB := jh (show NumAt w6 BB b by rw [e9]; exact NumAt.other4 HBB.out (by omega) _ _ _ _); have HMM := jh (show NumAt w6 MM m by rw [e9]; exact NumAt.other4 HMM.out (by omega) _ _ _ _); have HRR := jh (show NumAt w6 RR 0 by rw [e9]; exact NumAt.other4 HRR.out (by omega) _ _ _ _); have HXB := jh (show NumAt w6 XB q by rw [e9]; exact NumAt.set4 HXB.out _); have HF := jh (show FreeN w6 RR 4 by rw [e9]; exact FreeN.set4 HF.out _ _ _ _ _ _ _ _); have HFXB := jh (show FreeN w6 XB 4 by rw [e9]; exact FreeN.set4 HFXB.out _ _ _ _ _ _ _ _); have B := jh (show Below w.heap.size w w6 by rw [e9]; exact jp B.out hwXB _ _ _ _); have hRd : XB < w6.heap.size := by rw [e9]; simpa using hRd
  clear e9; obtain ⟨r_XB_0, r_XB_1, r_XB_2, r_XB_3⟩ := jy HXB.out; obtain ⟨c0, c1, c2, c3, f0, f1, f2, f3⟩ := jC HRR.out HF.out
  go_wp2_with fail
  have HRL := jh (NumAt.set4 HRR.out q); have B9 := jh (jp B.out hwRR (.int .u64 (jf jd q 0)) (.int .u64 (jf jd q 1)) (.int .u64 (jf jd q 2)) (.int .u64 (jf jd q 3))); obtain ⟨g0, g1, g2, g3⟩ := jy HRL.out; refine bodyPost_ret (v := .tuple #[.agg #[.int .u64 (jf jd q 0), .int .u64 (jf jd q 1), .int .u64 (jf jd q 2), .int .u64 (jf jd q 3)], .int .i64 0]) ?_ rfl ⟨rfl, B9.out⟩
  simp [results, Tryz.results94, go_sem, g0, g1, g2, g3]
 ·skip
  obtain ⟨z, hz⟩ := je (qp x m); rw [hs, ← hz] at CS; clear hs hz; obtain ⟨k, hk⟩ := je (qw x m); rw [← hk] at CC; have hk0 : 0 ≤ k := by rw [hk]; exact cmpN_ge hge
  clear hk; obtain ⟨r_XB_0, r_XB_1, r_XB_2, r_XB_3⟩ := jy HXB.out; obtain ⟨r_MM_0, r_MM_1, r_MM_2, r_MM_3⟩ := jy HMM.out
  go_wp2_with fail
  clear r_XB_0 r_XB_1 r_XB_2 r_XB_3 r_MM_0 r_MM_1 r_MM_2 r_MM_3; refine (CC.out _).mono ?_; rintro _ w4 ⟨rfl, hb⟩; have HAA := jn hb HAA; have HBB := jn hb HBB; have HMM := jn hb HMM; have HRR := jn hb HRR; have HXB := jn hb HXB; have HF := jh (HF.out.later hb (by omega)); have HFXB := jh (HFXB.out.later hb (by omega)); have hRd := Nat.lt_of_lt_of_le hRd hb.size; have B := jw B hb; clear hb; obtain ⟨r_XB_0, r_XB_1, r_XB_2, r_XB_3⟩ := jy HXB.out; obtain ⟨r_MM_0, r_MM_1, r_MM_2, r_MM_3⟩ := jy HMM.out
  go_wp2_with fail
  clear r_XB_0 r_XB_1 r_XB_2 r_XB_3 r_MM_0 r_MM_1 r_MM_2 r_MM_3; refine (CS.out _).mono ?_; rintro _ w5 ⟨rfl, hb⟩; have HAA := jn hb HAA; have HBB := jn hb HBB; have HMM := jn hb HMM; have HRR := jn hb HRR; have HXB := jn hb HXB; have HF := jh (HF.out.later hb (by omega)); have HFXB := jh (HFXB.out.later hb (by omega)); have hRd := Nat.lt_of_lt_of_le hRd hb.size; have B := jw B hb; clear hb; obtain ⟨y0, y1, y2, y3, y4, y5, y6, y7⟩ := jC HXB.out HFXB.out
  go_upto_region 6 with fail
  clear y0 y1 y2 y3 y4 y5 y6 y7; obtain ⟨w6, e9⟩ := je (((((w5.setCell ⟨XB, 0, none⟩ (.int .u64 (jf jd q 0))).setCell ⟨XB, 1, none⟩ (.int .u64 (jf jd q 1))).setCell ⟨XB, 2, none⟩ (.int .u64 (jf jd q 2))).setCell ⟨XB, 3, none⟩ (.int .u64 (jf jd q 3)))); rw [← e9]; have HAA := jh (show NumAt w6 AA a by rw [e9]; exact NumAt.other4 HAA.out (by omega) _ _ _ _); have HBB := jh (show NumAt w6 BB b by rw [e9]; exact NumAt.other4 HBB.out (by omega) _ _ _ _); have HMM := jh (show NumAt w6 MM m by rw [e9]; exact NumAt.other4 HMM.out (by omega) _ _ _ _); have HRR := jh (show NumAt w6 RR 0 by rw [e9]; exact NumAt.other4 HRR.out (by omega) _ _ _ _); have HXB := jh (show NumAt w6 XB q by rw [e9]; exact NumAt.set4 HXB.out _); have HF := jh (show FreeN w6 RR 4 by rw [e9]; exact FreeN.set4 HF.out _ _ _ _ _ _ _ _); have HFXB := jh (show FreeN w6 XB 4 by rw [e9]; exact FreeN.set4 HFXB.out _ _ _ _ _ _ _ _); have B := jh (show Below w.heap.size w w6 by rw [e9]; exact jp B.out hwXB _ _ _ _); have hRd : XB < w6.heap.size := by rw [e9]; simpa using hRd
  clear e9; obtain ⟨r_XB_0, r_XB_1, r_XB_2, r_XB_3⟩ := jy HXB.out; obtain ⟨c0, c1, c2, c3, f0, f1, f2, f3⟩ := jC HRR.out HF.out
  go_wp2_with fail
  have HRL := jh (NumAt.set4 HRR.out q); have B9 := jh (jp B.out hwRR (.int .u64 (jf jd q 0)) (.int .u64 (jf jd q 1)) (.int .u64 (jf jd q 2)) (.int .u64 (jf jd q 3))); obtain ⟨g0, g1, g2, g3⟩ := jy HRL.out; refine bodyPost_ret (v := .tuple #[.agg #[.int .u64 (jf jd q 0), .int .u64 (jf jd q 1), .int .u64 (jf jd q 2), .int .u64 (jf jd q 3)], .int .i64 0]) ?_ rfl ⟨rfl, B9.out⟩
  simp [results, Tryz.results94, go_sem, g0, g1, g2, g3]
 ·skip
  have HS9 := jh hs; clear hs; obtain ⟨k, hk⟩ := je (qw x m); rw [← hk] at CC; have hk0 : k < 0 := by rw [hk]; rw [zM hlt]; decide
  clear hk; obtain ⟨r_XB_0, r_XB_1, r_XB_2, r_XB_3⟩ := jy HXB.out; obtain ⟨r_MM_0, r_MM_1, r_MM_2, r_MM_3⟩ := jy HMM.out
  go_wp2_with fail
  clear r_XB_0 r_XB_1 r_XB_2 r_XB_3 r_MM_0 r_MM_1 r_MM_2 r_MM_3; refine (CC.out _).mono ?_; rintro _ w4 ⟨rfl, hb⟩; have HAA := jn hb HAA; have HBB := jn hb HBB; have HMM := jn hb HMM; have HRR := jn hb HRR; have HXB := jn hb HXB; have HF := jh (HF.out.later hb (by omega)); have HFXB := jh (HFXB.out.later hb (by omega)); have hRd := Nat.lt_of_lt_of_le hRd hb.size; have B := jw B hb; clear hb
  go_upto_region 6 with fail
  rw [HS9.out] at HXB; obtain ⟨r_XB_0, r_XB_1, r_XB_2, r_XB_3⟩ := jy HXB.out; obtain ⟨c0, c1, c2, c3, f0, f1, f2, f3⟩ := jC HRR.out HF.out
  go_wp2_with fail
  have HRL := jh (NumAt.set4 HRR.out q); have B9 := jh (jp B.out hwRR (.int .u64 (jf jd q 0)) (.int .u64 (jf jd q 1)) (.int .u64 (jf jd q 2)) (.int .u64 (jf jd q 3))); obtain ⟨g0, g1, g2, g3⟩ := jy HRL.out; refine bodyPost_ret (v := .tuple #[.agg #[.int .u64 (jf jd q 0), .int .u64 (jf jd q 1), .int .u64 (jf jd q 2), .int .u64 (jf jd q 3)], .int .i64 0]) ?_ rfl ⟨rfl, B9.out⟩
  simp [results, Tryz.results94, go_sem, g0, g1, g2, g3]
theorem RSubM_yes {a b m : Nat} (hm : m < jj) (hmay : 1 < m ∧ a < m ∧ b < m) (w : World) :
  Calls Tryz.prog 68 #[ji a, ji b, ji m] w fun e w' => e = .returned (.tuple #[ji ((a + m - b) % m), .int .i64 0]) ∧ Below w.heap.size w w' := by
 have ha := Nat.lt_trans hmay.2.1 hm; have hb9 := Nat.lt_trans hmay.2.2 hm; have CM := jh (fun W => by have h9 := Jt ha hb9 hm W; rewrite [decide_eq_true hmay] at h9; unfold ji words at h9; exact h9); obtain ⟨q, hq⟩ := je ((a + m - b) % m); rw [← hq]; obtain ⟨x, hx⟩ := je (qV a b); obtain ⟨c, hc⟩ := je (qp a b); have hxM : x < jj := by rw [hx]; exact subN_lt a b
 have CA := jh (fun W => by have h9 := Sub_ref ha hb9 W; rewrite [← hx, ← hc] at h9; unfold ji words at h9; exact h9); have h3 : (c = 1 ∧ qA x m = q) ∨ (c = 0 ∧ x = q) := by rw [hx, hc, hq]; exact sub_mod_cases hmay.2.1 hmay.2.2 hm
 have CS := jh (fun W => Add_ref hxM hm W); unfold ji words at CS; clear hx hc hq ha hb9 hm hmay hxM; unfold ji words
 go_enter Tryz.func68, Tryz.ntmps68
 go_wp2_with fail
 obtain ⟨w_0, e_0⟩ := je (w.alloc (.cells #[.int .u64 (jf jd a 0), .int .u64 (jf jd a 1), .int .u64 (jf jd a 2), .int .u64 (jf jd a 3)] 24)); have s_0 : w_0.heap.size = w.heap.size + 1 := by rw [e_0]; simp
 have b_0 := jc e_0; have n_0 : NumAt w_0 (w.heap.size) a := by rw [e_0]; exact NumAt.new w a _ _ rfl
 obtain ⟨w_1, e_1⟩ := je (w_0.alloc (.cells #[.int .u64 (jf jd b 0), .int .u64 (jf jd b 1), .int .u64 (jf jd b 2), .int .u64 (jf jd b 3)] 24)); have s_1 : w_1.heap.size = w.heap.size + 1 + 1 := by rw [e_1]; simp [s_0]
 have b_1 := jc e_1; have n_1 : NumAt w_1 (w.heap.size + 1) b := by rw [e_1]; exact NumAt.new w_0 b _ _ s_0.symm
 obtain ⟨w_2, e_2⟩ := je (w_1.alloc (.cells #[.int .u64 (jf jd m 0), .int .u64 (jf jd m 1), .int .u64 (jf jd m 2), .int .u64 (jf jd m 3)] 24)); have s_2 : w_2.heap.size = w.heap.size + 1 + 1 + 1 := by rw [e_2]; simp [s_1]
 have b_2 := jc e_2; have n_2 : NumAt w_2 (w.heap.size + 1 + 1) m := by rw [e_2]; exact NumAt.new w_1 m _ _ s_1.symm
 obtain ⟨wz, e_3⟩ := je (w_2.alloc (.cells #[.int .u64 0, .int .u64 0, .int .u64 0, .int .u64 0] 24)); have s_3 : wz.heap.size = w.heap.size + 1 + 1 + 1 + 1 := by rw [e_3]; simp [s_2]
 have b_3 := jc e_3; have n_3 : NumAt wz (w.heap.size + 1 + 1 + 1) 0 := by rw [e_3, ← s_2]; exact jz w_2 _
 have f_3 : FreeN wz (w.heap.size + 1 + 1 + 1) 4 := by rw [e_3]; exact FreeN.made w_2 _ _ 4 _ s_2.symm
 rw [← e_0, ← e_1, ← e_2, ← e_3]; obtain ⟨AA, h_0⟩ := je (w.heap.size); obtain ⟨BB, h_1⟩ := je (AA + 1); obtain ⟨MM, h_2⟩ := je (BB + 1); obtain ⟨RR, h_3⟩ := je (MM + 1); have hwL : w.heap.size ≤ AA := by omega
 have hRd : RR < wz.heap.size := by omega
 rw [← h_0] at n_0 n_1 n_2 n_3 f_3 ⊢; rw [← h_1] at n_1 n_2 n_3 f_3 ⊢; rw [← h_2] at n_2 n_3 f_3 ⊢; rw [← h_3] at n_3 f_3 ⊢; have l_1 : AA < BB := by omega
 have l_2 : BB < MM := by omega
 have l_3 : MM < RR := by omega
 have HAA := jh (NumAt.later b_3 (NumAt.later b_2 (NumAt.later b_1 n_0))); have HBB := jh (NumAt.later b_3 (NumAt.later b_2 n_1)); have HMM := jh (NumAt.later b_3 n_2); have HRR := jh n_3; have HF := jh f_3; have B := jh (((b_0.trans (b_1.mono (by omega))).trans (b_2.mono (by omega))).trans (b_3.mono (by omega))); have hwRR : w.heap.size ≤ RR := by omega
 have HSZ := jh (show wz.heap.size = RR + 1 by omega); clear e_0 s_0 b_0 n_0 h_0 e_1 s_1 b_1 n_1 h_1 e_2 s_2 b_2 n_2 h_2 e_3 s_3 b_3 n_3 h_3 f_3; refine (CM.out _).mono ?_; rintro _ w1 ⟨rfl, hb⟩; have HAA := jn hb HAA; have HBB := jn hb HBB; have HMM := jn hb HMM; have HRR := jn hb HRR; have HF := jh (HF.out.later hb (by omega)); have hRd := Nat.lt_of_lt_of_le hRd hb.size; have B := jw B hb; clear hb; obtain ⟨r_AA_0, r_AA_1, r_AA_2, r_AA_3⟩ := jy HAA.out; obtain ⟨r_BB_0, r_BB_1, r_BB_2, r_BB_3⟩ := jy HBB.out
 go_wp2_with fail
 clear r_AA_0 r_AA_1 r_AA_2 r_AA_3 r_BB_0 r_BB_1 r_BB_2 r_BB_3; refine (CA.out _).mono ?_; rintro _ w2 ⟨rfl, hb⟩; have HAA := jn hb HAA; have HBB := jn hb HBB; have HMM := jn hb HMM; have HRR := jn hb HRR; have HF := jh (HF.out.later hb (by omega)); have hRd := Nat.lt_of_lt_of_le hRd hb.size; have B := jw B hb; clear hb
 go_upto_region 4 with fail
 obtain ⟨w3, e9⟩ := je (w2.alloc (.cells #[.int .u64 (jf jd x 0), .int .u64 (jf jd x 1), .int .u64 (jf jd x 2), .int .u64 (jf jd x 3)] 24)); obtain ⟨XB, h9⟩ := je (w2.heap.size); have hb := jc e9; have n9 := jh (show NumAt w3 XB x by rw [e9, h9]; exact NumAt.new _ _ _ _ rfl); have f9 := jh (show FreeN w3 XB 4 by rw [e9, h9]; exact FreeN.made _ _ _ _ _ rfl); have l_XB : RR < XB := by omega
 have h8 : XB < w3.heap.size := by rw [e9, h9]; simp
 rw [← e9, ← h9]; clear e9 h9; have HAA := jn hb HAA; have HBB := jn hb HBB; have HMM := jn hb HMM; have HRR := jn hb HRR; have HF := jh (HF.out.later hb (by omega)); have hRd := Nat.lt_of_lt_of_le hRd hb.size; have B := jw B hb; clear hb; have HXB := n9; have HFXB := f9; have hRd := h8; clear n9 f9 h8; have hwXB : w.heap.size ≤ XB := by omega
 rcases h3 with ⟨rfl, hs⟩ | ⟨rfl, hs⟩
 ·skip
  obtain ⟨z, hz⟩ := je (qr x m); rw [hs, ← hz] at CS; clear hs hz; obtain ⟨r_XB_0, r_XB_1, r_XB_2, r_XB_3⟩ := jy HXB.out; obtain ⟨r_MM_0, r_MM_1, r_MM_2, r_MM_3⟩ := jy HMM.out
  go_wp2_with fail
  clear r_XB_0 r_XB_1 r_XB_2 r_XB_3 r_MM_0 r_MM_1 r_MM_2 r_MM_3; refine (CS.out _).mono ?_; rintro _ w5 ⟨rfl, hb⟩; have HAA := jn hb HAA; have HBB := jn hb HBB; have HMM := jn hb HMM; have HRR := jn hb HRR; have HXB := jn hb HXB; have HF := jh (HF.out.later hb (by omega)); have HFXB := jh (HFXB.out.later hb (by omega)); have hRd := Nat.lt_of_lt_of_le hRd hb.size; have B := jw B hb; clear hb; obtain ⟨y0, y1, y2, y3, y4, y5, y6, y7⟩ := jC HXB.out HFXB.out
  go_upto_region 6 with fail
  clear y0 y1 y2 y3 y4 y5 y6 y7; obtain ⟨w6, e9⟩ := je (((((w5.setCell ⟨XB, 0, none⟩ (.int .u64 (jf jd q 0))).setCell ⟨XB, 1, none⟩ (.int .u64 (jf jd q 1))).setCell ⟨XB, 2, none⟩ (.int .u64 (jf jd q 2))).setCell ⟨XB, 3, none⟩ (.int .u64 (jf jd q 3)))); rw [← e9]; have HAA := jh (show NumAt w6 AA a by rw [e9]; exact NumAt.other4 HAA.out (by omega) _ _ _ _); have HBB := jh (show NumAt w6 BB b by rw [e9]; exact NumAt.other4 HBB.out (by omega) _ _ _ _); have HMM := jh (show NumAt w6 MM m by rw [e9]; exact NumAt.other4 HMM.out (by omega) _ _ _ _); have HRR := jh (show NumAt w6 RR 0 by rw [e9]; exact NumAt.other4 HRR.out (by omega) _ _ _ _); have HXB := jh (show NumAt w6 XB q by rw [e9]; exact NumAt.set4 HXB.out _); have HF := jh (show FreeN w6 RR 4 by rw [e9]; exact FreeN.set4 HF.out _ _ _ _ _ _ _ _); have HFXB := jh (show FreeN w6 XB 4 by rw [e9]; exact FreeN.set4 HFXB.out _ _ _ _ _ _ _ _); have B := jh (show Below w.heap.size w w6 by rw [e9]; exact jp B.out hwXB _ _ _ _); have hRd : XB < w6.heap.size := by rw [e9]; simpa using hRd
  clear e9; obtain ⟨r_XB_0, r_XB_1, r_XB_2, r_XB_3⟩ := jy HXB.out; obtain ⟨c0, c1, c2, c3, f0, f1, f2, f3⟩ := jC HRR.out HF.out
  go_wp2_with fail
  have HRL := jh (NumAt.set4 HRR.out q); have B9 := jh (jp B.out hwRR (.int .u64 (jf jd q 0)) (.int .u64 (jf jd q 1)) (.int .u64 (jf jd q 2)) (.int .u64 (jf jd q 3))); obtain ⟨g0, g1, g2, g3⟩ := jy HRL.out; refine bodyPost_ret (v := .tuple #[.agg #[.int .u64 (jf jd q 0), .int .u64 (jf jd q 1), .int .u64 (jf jd q 2), .int .u64 (jf jd q 3)], .int .i64 0]) ?_ rfl ⟨rfl, B9.out⟩
  simp [results, Tryz.results68, go_sem, g0, g1, g2, g3]
 ·skip
  have HS9 := jh hs; clear hs
  go_upto_region 6 with fail
  rw [HS9.out] at HXB; obtain ⟨r_XB_0, r_XB_1, r_XB_2, r_XB_3⟩ := jy HXB.out; obtain ⟨c0, c1, c2, c3, f0, f1, f2, f3⟩ := jC HRR.out HF.out
  go_wp2_with fail
  have HRL := jh (NumAt.set4 HRR.out q); have B9 := jh (jp B.out hwRR (.int .u64 (jf jd q 0)) (.int .u64 (jf jd q 1)) (.int .u64 (jf jd q 2)) (.int .u64 (jf jd q 3))); obtain ⟨g0, g1, g2, g3⟩ := jy HRL.out; refine bodyPost_ret (v := .tuple #[.agg #[.int .u64 (jf jd q 0), .int .u64 (jf jd q 1), .int .u64 (jf jd q 2), .int .u64 (jf jd q 3)], .int .i64 0]) ?_ rfl ⟨rfl, B9.out⟩
  simp [results, Tryz.results68, go_sem, g0, g1, g2, g3]
end Go.Proofs.YtcaeaejefdhloaaGreat
