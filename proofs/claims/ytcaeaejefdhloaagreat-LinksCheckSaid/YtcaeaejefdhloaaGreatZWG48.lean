/- The law LinksCheck, walked -/
import Derived.Test.YtcaeaejefdhloaaGreatZWG45
import Derived.Test.YtcaeaejefdhloaaGreatZWG42
import Derived.Test.YtcaeaejefdhloaaGreatZWG46
import Derived.Test.YtcaeaejefdhloaaGreatZWG47
set_option linter.unusedSimpArgs false
set_option linter.unusedVariables false
set_option maxHeartbeats 8000000
set_option maxRecDepth 100000
namespace Go.Proofs.YtcaeaejefdhloaaGreat
open Go.ChangeShapes Go.WideShapes Go.ChangeAt Go.RowKit
theorem RAddS_yes {gp gq gg gh a b : Nat} (ha : a < jj) (hb9 : b < jj) (hm : gq < jj) (hmay : (1 < gq ∧ a < gq ∧ b < gq)) (w : World) :
  Calls Tryz.prog 66 #[jM gp gq gg gh, ji a, ji b] w fun e w' => e = .returned (.tuple #[ji ((a + b) % gq), .int .i64 0]) ∧ Below w.heap.size w w' := by
 obtain ⟨q, hq⟩ := je ((a + b) % gq); have CE := jh (fun W => by have h9 := RAddM_yes hm hmay W; rewrite [← hq] at h9; unfold ji words at h9; exact h9); rw [← hq]; clear hq ha hb9 hm hmay; unfold jM ji words
 go_enter Tryz.func66, Tryz.ntmps66
 go_wp2_with fail
 obtain ⟨w0, e0⟩ := je (w.alloc (.cells #[.int .u64 (jf jd gp 0), .int .u64 (jf jd gp 1), .int .u64 (jf jd gp 2), .int .u64 (jf jd gp 3), .int .u64 (jf jd gq 0), .int .u64 (jf jd gq 1), .int .u64 (jf jd gq 2), .int .u64 (jf jd gq 3), .int .u64 (jf jd gg 0), .int .u64 (jf jd gg 1), .int .u64 (jf jd gg 2), .int .u64 (jf jd gg 3), .int .u64 (jf jd gh 0), .int .u64 (jf jd gh 1), .int .u64 (jf jd gh 2), .int .u64 (jf jd gh 3)] 26)); obtain ⟨GG, hGG⟩ := je (w.heap.size); have b0 := jc e0; have s0 : w0.heap.size = w.heap.size + 1 := by rw [e0]; simp
 have g0 : GrpAt w0 GG gp gq gg gh := by rw [e0, hGG]; exact GrpAt.new _ _ _ _ _ _
 rw [← e0, ← s0, ← hGG]; have HB0 := jh b0; clear e0 hGG b0 s0; obtain ⟨w_0, e_0⟩ := je (w0.alloc (.cells #[.int .u64 (jf jd a 0), .int .u64 (jf jd a 1), .int .u64 (jf jd a 2), .int .u64 (jf jd a 3)] 24)); have s_0 : w_0.heap.size = w0.heap.size + 1 := by rw [e_0]; simp
 have b_0 := jc e_0; have n_0 : NumAt w_0 (w0.heap.size) a := by rw [e_0]; exact NumAt.new w0 a _ _ rfl
 obtain ⟨w_1, e_1⟩ := je (w_0.alloc (.cells #[.int .u64 (jf jd b 0), .int .u64 (jf jd b 1), .int .u64 (jf jd b 2), .int .u64 (jf jd b 3)] 24)); have s_1 : w_1.heap.size = w0.heap.size + 1 + 1 := by rw [e_1]; simp [s_0]
 have b_1 := jc e_1; have n_1 : NumAt w_1 (w0.heap.size + 1) b := by rw [e_1]; exact NumAt.new w_0 b _ _ s_0.symm
 obtain ⟨wz, e_2⟩ := je (w_1.alloc (.cells #[.int .u64 0, .int .u64 0, .int .u64 0, .int .u64 0] 24)); have s_2 : wz.heap.size = w0.heap.size + 1 + 1 + 1 := by rw [e_2]; simp [s_1]
 have b_2 := jc e_2; have n_2 : NumAt wz (w0.heap.size + 1 + 1) 0 := by rw [e_2, ← s_1]; exact jz w_1 _
 have f_2 : FreeN wz (w0.heap.size + 1 + 1) 4 := by rw [e_2]; exact FreeN.made w_1 _ _ 4 _ s_1.symm
 rw [← e_0, ← e_1, ← e_2]; obtain ⟨AA, h_0⟩ := je (w0.heap.size); obtain ⟨BB, h_1⟩ := je (AA + 1); obtain ⟨RR, h_2⟩ := je (BB + 1); have hwL : w0.heap.size ≤ AA := by omega
 have hRd : RR < wz.heap.size := by omega
 rw [← h_0] at n_0 n_1 n_2 f_2 ⊢; rw [← h_1] at n_1 n_2 f_2 ⊢; rw [← h_2] at n_2 f_2 ⊢; have l_1 : AA < BB := by omega
 have l_2 : BB < RR := by omega
 have HAA := jh (NumAt.later b_2 (NumAt.later b_1 n_0)); have HBB := jh (NumAt.later b_2 n_1); have HRR := jh n_2; have HF := jh f_2; have B := jh ((b_0.trans (b_1.mono (by omega))).trans (b_2.mono (by omega))); have hwRR : w0.heap.size ≤ RR := by omega
 have HSZ := jh (show wz.heap.size = RR + 1 by omega); clear e_0 s_0 b_0 n_0 h_0 e_1 s_1 b_1 n_1 h_1 e_2 s_2 b_2 n_2 h_2 f_2; have G0 := jh (GrpAt.later B.out g0); clear g0; refine (CE.out _).mono ?_; rintro _ w1 ⟨rfl, hb⟩; have HAA := jn hb HAA; have HBB := jn hb HBB; have HRR := jn hb HRR; have HF := jh (HF.out.later hb (by omega)); have G0 := jh (GrpAt.later hb G0.out); have hRd := Nat.lt_of_lt_of_le hRd hb.size; have B := jw B hb; clear hb; obtain ⟨c0, c1, c2, c3, f0, f1, f2, f3⟩ := jC HRR.out HF.out
 go_wp2_with fail
 have HRL := jh (NumAt.set4 HRR.out q); have B9 := jh (jp B.out hwRR (.int .u64 (jf jd q 0)) (.int .u64 (jf jd q 1)) (.int .u64 (jf jd q 2)) (.int .u64 (jf jd q 3))); obtain ⟨g0, g1, g2, g3⟩ := jy HRL.out; refine bodyPost_ret (v := .tuple #[.agg #[.int .u64 (jf jd q 0), .int .u64 (jf jd q 1), .int .u64 (jf jd q 2), .int .u64 (jf jd q 3)], .int .i64 0]) ?_ rfl ⟨rfl, jk HB0.out B9.out⟩
 simp [results, Tryz.results66, go_sem, g0, g1, g2, g3]
theorem RAddS_no {gp gq gg gh a b : Nat} (ha : a < jj) (hb9 : b < jj) (hm : gq < jj) (hmay : ¬ (1 < gq ∧ a < gq ∧ b < gq)) (w : World) :
  Calls Tryz.prog 66 #[jM gp gq gg gh, ji a, ji b] w fun e w' => e = .returned (.tuple #[ji 0, .int .i64 1]) ∧ Below w.heap.size w w' := by
 obtain ⟨q, hq⟩ := je (0); have CE := jh (fun W => by have h9 := RAddM_no ha hb9 hm hmay W; rewrite [← hq] at h9; unfold ji words at h9; exact h9); rw [← hq]; clear hq ha hb9 hm hmay; unfold jM ji words
 go_enter Tryz.func66, Tryz.ntmps66
 go_wp2_with fail
 obtain ⟨w0, e0⟩ := je (w.alloc (.cells #[.int .u64 (jf jd gp 0), .int .u64 (jf jd gp 1), .int .u64 (jf jd gp 2), .int .u64 (jf jd gp 3), .int .u64 (jf jd gq 0), .int .u64 (jf jd gq 1), .int .u64 (jf jd gq 2), .int .u64 (jf jd gq 3), .int .u64 (jf jd gg 0), .int .u64 (jf jd gg 1), .int .u64 (jf jd gg 2), .int .u64 (jf jd gg 3), .int .u64 (jf jd gh 0), .int .u64 (jf jd gh 1), .int .u64 (jf jd gh 2), .int .u64 (jf jd gh 3)] 26)); obtain ⟨GG, hGG⟩ := je (w.heap.size); have b0 := jc e0; have s0 : w0.heap.size = w.heap.size + 1 := by rw [e0]; simp
 have g0 : GrpAt w0 GG gp gq gg gh := by rw [e0, hGG]; exact GrpAt.new _ _ _ _ _ _
 rw [← e0, ← s0, ← hGG]; have HB0 := jh b0; clear e0 hGG b0 s0; obtain ⟨w_0, e_0⟩ := je (w0.alloc (.cells #[.int .u64 (jf jd a 0), .int .u64 (jf jd a 1), .int .u64 (jf jd a 2), .int .u64 (jf jd a 3)] 24)); have s_0 : w_0.heap.size = w0.heap.size + 1 := by rw [e_0]; simp
 have b_0 := jc e_0; have n_0 : NumAt w_0 (w0.heap.size) a := by rw [e_0]; exact NumAt.new w0 a _ _ rfl
 obtain ⟨w_1, e_1⟩ := je (w_0.alloc (.cells #[.int .u64 (jf jd b 0), .int .u64 (jf jd b 1), .int .u64 (jf jd b 2), .int .u64 (jf jd b 3)] 24)); have s_1 : w_1.heap.size = w0.heap.size + 1 + 1 := by rw [e_1]; simp [s_0]
 have b_1 := jc e_1; have n_1 : NumAt w_1 (w0.heap.size + 1) b := by rw [e_1]; exact NumAt.new w_0 b _ _ s_0.symm
 obtain ⟨wz, e_2⟩ := je (w_1.alloc (.cells #[.int .u64 0, .int .u64 0, .int .u64 0, .int .u64 0] 24)); have s_2 : wz.heap.size = w0.heap.size + 1 + 1 + 1 := by rw [e_2]; simp [s_1]
 have b_2 := jc e_2; have n_2 : NumAt wz (w0.heap.size + 1 + 1) 0 := by rw [e_2, ← s_1]; exact jz w_1 _
 have f_2 : FreeN wz (w0.heap.size + 1 + 1) 4 := by rw [e_2]; exact FreeN.made w_1 _ _ 4 _ s_1.symm
 rw [← e_0, ← e_1, ← e_2]; obtain ⟨AA, h_0⟩ := je (w0.heap.size); obtain ⟨BB, h_1⟩ := je (AA + 1); obtain ⟨RR, h_2⟩ := je (BB + 1); have hwL : w0.heap.size ≤ AA := by omega
 have hRd : RR < wz.heap.size := by omega
 rw [← h_0] at n_0 n_1 n_2 f_2 ⊢; rw [← h_1] at n_1 n_2 f_2 ⊢; rw [← h_2] at n_2 f_2 ⊢; have l_1 : AA < BB := by omega
 have l_2 : BB < RR := by omega
 have HAA := jh (NumAt.later b_2 (NumAt.later b_1 n_0)); have HBB := jh (NumAt.later b_2 n_1); have HRR := jh n_2; have HF := jh f_2; have B := jh ((b_0.trans (b_1.mono (by omega))).trans (b_2.mono (by omega))); have hwRR : w0.heap.size ≤ RR := by omega
 have HSZ := jh (show wz.heap.size = RR + 1 by omega); clear e_0 s_0 b_0 n_0 h_0 e_1 s_1 b_1 n_1 h_1 e_2 s_2 b_2 n_2 h_2 f_2; have G0 := jh (GrpAt.later B.out g0); clear g0; refine (CE.out _).mono ?_; rintro _ w1 ⟨rfl, hb⟩; have HAA := jn hb HAA; have HBB := jn hb HBB; have HRR := jn hb HRR; have HF := jh (HF.out.later hb (by omega)); have G0 := jh (GrpAt.later hb G0.out); have hRd := Nat.lt_of_lt_of_le hRd hb.size; have B := jw B hb; clear hb; obtain ⟨c0, c1, c2, c3, f0, f1, f2, f3⟩ := jC HRR.out HF.out
 go_wp2_with fail
 have HRL := jh (NumAt.set4 HRR.out q); have B9 := jh (jp B.out hwRR (.int .u64 (jf jd q 0)) (.int .u64 (jf jd q 1)) (.int .u64 (jf jd q 2)) (.int .u64 (jf jd q 3))); obtain ⟨g0, g1, g2, g3⟩ := jy HRL.out; refine bodyPost_ret (v := .tuple #[.agg #[.int .u64 (jf jd q 0), .int .u64 (jf jd q 1), .int .u64 (jf jd q 2), .int .u64 (jf jd q 3)], .int .i64 1]) ?_ rfl ⟨rfl, jk HB0.out B9.out⟩
 simp [results, Tryz.results66, go_sem, g0, g1, g2, g3]
theorem RSubS_yes {gp gq gg gh a b : Nat} (ha : a < jj) (hb9 : b < jj) (hm : gq < jj) (hmay : (1 < gq ∧ a < gq ∧ b < gq)) (w : World) :
  Calls Tryz.prog 41 #[jM gp gq gg gh, ji a, ji b] w fun e w' => e = .returned (.tuple #[ji ((a + gq - b) % gq), .int .i64 0]) ∧ Below w.heap.size w w' := by
 obtain ⟨q, hq⟩ := je ((a + gq - b) % gq); have CE := jh (fun W => by have h9 := RSubM_yes hm hmay W; rewrite [← hq] at h9; unfold ji words at h9; exact h9); rw [← hq]; clear hq ha hb9 hm hmay; unfold jM ji words
 go_enter Tryz.func41, Tryz.ntmps41
 go_wp2_with fail
 obtain ⟨w0, e0⟩ := je (w.alloc (.cells #[.int .u64 (jf jd gp 0), .int .u64 (jf jd gp 1), .int .u64 (jf jd gp 2), .int .u64 (jf jd gp 3), .int .u64 (jf jd gq 0), .int .u64 (jf jd gq 1), .int .u64 (jf jd gq 2), .int .u64 (jf jd gq 3), .int .u64 (jf jd gg 0), .int .u64 (jf jd gg 1), .int .u64 (jf jd gg 2), .int .u64 (jf jd gg 3), .int .u64 (jf jd gh 0), .int .u64 (jf jd gh 1), .int .u64 (jf jd gh 2), .int .u64 (jf jd gh 3)] 26)); obtain ⟨GG, hGG⟩ := je (w.heap.size); have b0 := jc e0; have s0 : w0.heap.size = w.heap.size + 1 := by rw [e0]; simp
 have g0 : GrpAt w0 GG gp gq gg gh := by rw [e0, hGG]; exact GrpAt.new _ _ _ _ _ _
 rw [← e0, ← s0, ← hGG]; have HB0 := jh b0; clear e0 hGG b0 s0; obtain ⟨w_0, e_0⟩ := je (w0.alloc (.cells #[.int .u64 (jf jd a 0), .int .u64 (jf jd a 1), .int .u64 (jf jd a 2), .int .u64 (jf jd a 3)] 24)); have s_0 : w_0.heap.size = w0.heap.size + 1 := by rw [e_0]; simp
 have b_0 := jc e_0; have n_0 : NumAt w_0 (w0.heap.size) a := by rw [e_0]; exact NumAt.new w0 a _ _ rfl
 obtain ⟨w_1, e_1⟩ := je (w_0.alloc (.cells #[.int .u64 (jf jd b 0), .int .u64 (jf jd b 1), .int .u64 (jf jd b 2), .int .u64 (jf jd b 3)] 24)); have s_1 : w_1.heap.size = w0.heap.size + 1 + 1 := by rw [e_1]; simp [s_0]
 have b_1 := jc e_1; have n_1 : NumAt w_1 (w0.heap.size + 1) b := by rw [e_1]; exact NumAt.new w_0 b _ _ s_0.symm
 obtain ⟨wz, e_2⟩ := je (w_1.alloc (.cells #[.int .u64 0, .int .u64 0, .int .u64 0, .int .u64 0] 24)); have s_2 : wz.heap.size = w0.heap.size + 1 + 1 + 1 := by rw [e_2]; simp [s_1]
 have b_2 := jc e_2; have n_2 : NumAt wz (w0.heap.size + 1 + 1) 0 := by rw [e_2, ← s_1]; exact jz w_1 _
 have f_2 : FreeN wz (w0.heap.size + 1 + 1) 4 := by rw [e_2]; exact FreeN.made w_1 _ _ 4 _ s_1.symm
 rw [← e_0, ← e_1, ← e_2]; obtain ⟨AA, h_0⟩ := je (w0.heap.size); obtain ⟨BB, h_1⟩ := je (AA + 1); obtain ⟨RR, h_2⟩ := je (BB + 1); have hwL : w0.heap.size ≤ AA := by omega
 have hRd : RR < wz.heap.size := by omega
 rw [← h_0] at n_0 n_1 n_2 f_2 ⊢; rw [← h_1] at n_1 n_2 f_2 ⊢; rw [← h_2] at n_2 f_2 ⊢; have l_1 : AA < BB := by omega
 have l_2 : BB < RR := by omega
 have HAA := jh (NumAt.later b_2 (NumAt.later b_1 n_0)); have HBB := jh (NumAt.later b_2 n_1); have HRR := jh n_2; have HF := jh f_2; have B := jh ((b_0.trans (b_1.mono (by omega))).trans (b_2.mono (by omega))); have hwRR : w0.heap.size ≤ RR := by omega
 have HSZ := jh (show wz.heap.size = RR + 1 by omega); clear e_0 s_0 b_0 n_0 h_0 e_1 s_1 b_1 n_1 h_1 e_2 s_2 b_2 n_2 h_2 f_2; have G0 := jh (GrpAt.later B.out g0); clear g0; refine (CE.out _).mono ?_; rintro _ w1 ⟨rfl, hb⟩; have HAA := jn hb HAA; have HBB := jn hb HBB; have HRR := jn hb HRR; have HF := jh (HF.out.later hb (by omega)); have G0 := jh (GrpAt.later hb G0.out); have hRd := Nat.lt_of_lt_of_le hRd hb.size; have B := jw B hb; clear hb; obtain ⟨c0, c1, c2, c3, f0, f1, f2, f3⟩ := jC HRR.out HF.out
 go_wp2_with fail
 have HRL := jh (NumAt.set4 HRR.out q); have B9 := jh (jp B.out hwRR (.int .u64 (jf jd q 0)) (.int .u64 (jf jd q 1)) (.int .u64 (jf jd q 2)) (.int .u64 (jf jd q 3))); obtain ⟨g0, g1, g2, g3⟩ := jy HRL.out; refine bodyPost_ret (v := .tuple #[.agg #[.int .u64 (jf jd q 0), .int .u64 (jf jd q 1), .int .u64 (jf jd q 2), .int .u64 (jf jd q 3)], .int .i64 0]) ?_ rfl ⟨rfl, jk HB0.out B9.out⟩
 simp [results, Tryz.results41, go_sem, g0, g1, g2, g3]
theorem RExpo_yes {gp gq gg gh a : Nat} (ha : a < jj) (hm : gq < jj) (hmay : (1 < gq ∧ a < gq)) (w : World) :
  Calls Tryz.prog 39 #[jM gp gq gg gh, ji a] w fun e w' => e = .returned (.bool true) ∧ Below w.heap.size w w' := by
 obtain ⟨q, hq⟩ := je ((a + a) % gq); have CE := jh (fun W => by have h9 := RAddS_yes (gp := gp) (gg := gg) (gh := gh) ha ha hm (by omega) W; rewrite [← hq] at h9; unfold jM ji words at h9; exact h9); clear hq ha hm hmay; unfold jM ji words
 go_enter Tryz.func39, Tryz.ntmps39
 go_wp2_with fail
 obtain ⟨w0, e0⟩ := je (w.alloc (.cells #[.int .u64 (jf jd gp 0), .int .u64 (jf jd gp 1), .int .u64 (jf jd gp 2), .int .u64 (jf jd gp 3), .int .u64 (jf jd gq 0), .int .u64 (jf jd gq 1), .int .u64 (jf jd gq 2), .int .u64 (jf jd gq 3), .int .u64 (jf jd gg 0), .int .u64 (jf jd gg 1), .int .u64 (jf jd gg 2), .int .u64 (jf jd gg 3), .int .u64 (jf jd gh 0), .int .u64 (jf jd gh 1), .int .u64 (jf jd gh 2), .int .u64 (jf jd gh 3)] 26)); obtain ⟨GG, hGG⟩ := je (w.heap.size); have b0 := jc e0; have s0 : w0.heap.size = w.heap.size + 1 := by rw [e0]; simp
 have g0 : GrpAt w0 GG gp gq gg gh := by rw [e0, hGG]; exact GrpAt.new _ _ _ _ _ _
 rw [← e0, ← s0, ← hGG]; have HB0 := jh b0; clear e0 hGG b0 s0; obtain ⟨wz, e_0⟩ := je (w0.alloc (.cells #[.int .u64 (jf jd a 0), .int .u64 (jf jd a 1), .int .u64 (jf jd a 2), .int .u64 (jf jd a 3)] 24)); have s_0 : wz.heap.size = w0.heap.size + 1 := by rw [e_0]; simp
 have b_0 := jc e_0; have n_0 : NumAt wz (w0.heap.size) a := by rw [e_0]; exact NumAt.new w0 a _ _ rfl
 rw [← e_0]; obtain ⟨AA, h_0⟩ := je (w0.heap.size); have hwL : w0.heap.size ≤ AA := by omega
 have hRd : AA < wz.heap.size := by omega
 rw [← h_0] at n_0 ⊢; have HAA := jh n_0; have B := jh b_0; have hwAA : w0.heap.size ≤ AA := by omega
 have HSZ := jh (show wz.heap.size = AA + 1 by omega); clear e_0 s_0 b_0 n_0 h_0; have G0 := jh (GrpAt.later B.out g0); clear g0; refine (CE.out _).mono ?_; rintro _ w1 ⟨rfl, hb⟩; have HAA := jn hb HAA; have G0 := jh (GrpAt.later hb G0.out); have hRd := Nat.lt_of_lt_of_le hRd hb.size; have B := jw B hb; clear hb
 go_wp2_with fail
 refine bodyPost_ret (v := .bool true) ?_ rfl ⟨rfl, jk HB0.out (jk B.out (ja))⟩
 simp [results, Tryz.results39, go_sem]
theorem RExpo_no {gp gq gg gh a : Nat} (ha : a < jj) (hm : gq < jj) (hmay : ¬ (1 < gq ∧ a < gq)) (w : World) :
  Calls Tryz.prog 39 #[jM gp gq gg gh, ji a] w fun e w' => e = .returned (.bool false) ∧ Below w.heap.size w w' := by
 obtain ⟨q, hq⟩ := je (0); have CE := jh (fun W => by have h9 := RAddS_no (gp := gp) (gg := gg) (gh := gh) ha ha hm (by omega) W; rewrite [← hq] at h9; unfold jM ji words at h9; exact h9); clear hq ha hm hmay; unfold jM ji words
 go_enter Tryz.func39, Tryz.ntmps39
 go_wp2_with fail
 obtain ⟨w0, e0⟩ := je (w.alloc (.cells #[.int .u64 (jf jd gp 0), .int .u64 (jf jd gp 1), .int .u64 (jf jd gp 2), .int .u64 (jf jd gp 3), .int .u64 (jf jd gq 0), .int .u64 (jf jd gq 1), .int .u64 (jf jd gq 2), .int .u64 (jf jd gq 3), .int .u64 (jf jd gg 0), .int .u64 (jf jd gg 1), .int .u64 (jf jd gg 2), .int .u64 (jf jd gg 3), .int .u64 (jf jd gh 0), .int .u64 (jf jd gh 1), .int .u64 (jf jd gh 2), .int .u64 (jf jd gh 3)] 26)); obtain ⟨GG, hGG⟩ := je (w.heap.size); have b0 := jc e0; have s0 : w0.heap.size = w.heap.size + 1 := by rw [e0]; simp
 have g0 : GrpAt w0 GG gp gq gg gh := by rw [e0, hGG]; exact GrpAt.new _ _ _ _ _ _
 rw [← e0, ← s0, ← hGG]; have HB0 := jh b0; clear e0 hGG b0 s0; obtain ⟨wz, e_0⟩ := je (w0.alloc (.cells #[.int .u64 (jf jd a 0), .int .u64 (jf jd a 1), .int .u64 (jf jd a 2), .int .u64 (jf jd a 3)] 24)); have s_0 : wz.heap.size = w0.heap.size + 1 := by rw [e_0]; simp
 have b_0 := jc e_0; have n_0 : NumAt wz (w0.heap.size) a := by rw [e_0]; exact NumAt.new w0 a _ _ rfl
 rw [← e_0]; obtain ⟨AA, h_0⟩ := je (w0.heap.size); have hwL : w0.heap.size ≤ AA := by omega
 have hRd : AA < wz.heap.size := by omega
 rw [← h_0] at n_0 ⊢; have HAA := jh n_0; have B := jh b_0; have hwAA : w0.heap.size ≤ AA := by omega
 have HSZ := jh (show wz.heap.size = AA + 1 by omega); clear e_0 s_0 b_0 n_0 h_0; have G0 := jh (GrpAt.later B.out g0); clear g0; refine (CE.out _).mono ?_; rintro _ w1 ⟨rfl, hb⟩; have HAA := jn hb HAA; have G0 := jh (GrpAt.later hb G0.out); have hRd := Nat.lt_of_lt_of_le hRd hb.size; have B := jw B hb; clear hb
 go_wp2_with fail
 refine bodyPost_ret (v := .bool false) ?_ rfl ⟨rfl, jk HB0.out (jk B.out (ja))⟩
 simp [results, Tryz.results39, go_sem]
theorem RExpo_any {gp gq gg gh a : Nat} (ha : a < jj) (hm : gq < jj) (w : World) :
  Calls Tryz.prog 39 #[jM gp gq gg gh, ji a] w fun e w' => e = .returned (.bool (decide (1 < gq ∧ a < gq))) ∧ Below w.heap.size w w' := by
 by_cases h : 1 < gq ∧ a < gq
 ·rw [decide_eq_true h]; exact RExpo_yes ha hm h w
 ·rw [decide_eq_false h]; exact RExpo_no ha hm h w
theorem RKey_any {gp gq gg gh a : Nat} (ha : a < jj) (hq : gq < jj) (hm : gp < jj) (w : World) :
  Calls Tryz.prog 38 #[jM gp gq gg gh, ji a] w fun e w' => e = .returned (.bool (!qi gp gq a)) ∧ Below w.heap.size w w' := by
 obtain ⟨i9, hi9⟩ := je (decide (Zx gp gq a)); obtain ⟨e, he⟩ := je (decide (a = 1)); have hv : (!qi gp gq a) = (i9 && !e) := by unfold qi; rw [← hi9, ← he, Bool.not_or, Bool.not_not]
 rw [hv]; have CI := jh (fun (W : World) => by have h9 := RInG_any (gp := gp) (gg := gg) (gh := gh) ha hq hm W; rewrite [← hi9] at h9; unfold jM ji words at h9; exact h9); have heq : ∀ W : World, (binOp .neq 24 (.agg #[.int .u64 (jf jd a 0), .int .u64 (jf jd a 1), .int .u64 (jf jd a 2), .int .u64 (jf jd a 3)]) (.agg #[.int .u64 1, .int .u64 0, .int .u64 0, .int .u64 0])).run Tryz.prog W = .ok (.bool (!e)) W := fun W => by have h8 := JF a 1 ha (by decide) W; rewrite [← he] at h8; have z0 : ((jf jd 1 0 : Nat) : Int) = 1 := (by decide); have z1 : ((jf jd 1 1 : Nat) : Int) = 0 := (by decide); have z2 : ((jf jd 1 2 : Nat) : Int) = 0 := (by decide); have z3 : ((jf jd 1 3 : Nat) : Int) = 0 := (by decide); rewrite [z0, z1, z2, z3] at h8; exact h8
 have HEQ := jh heq; clear heq hi9 he hv ha hq hm; unfold jM ji words
 go_enter Tryz.func38, Tryz.ntmps38
 go_wp2_with fail
 obtain ⟨w0, e0⟩ := je (w.alloc (.cells #[.int .u64 (jf jd gp 0), .int .u64 (jf jd gp 1), .int .u64 (jf jd gp 2), .int .u64 (jf jd gp 3), .int .u64 (jf jd gq 0), .int .u64 (jf jd gq 1), .int .u64 (jf jd gq 2), .int .u64 (jf jd gq 3), .int .u64 (jf jd gg 0), .int .u64 (jf jd gg 1), .int .u64 (jf jd gg 2), .int .u64 (jf jd gg 3), .int .u64 (jf jd gh 0), .int .u64 (jf jd gh 1), .int .u64 (jf jd gh 2), .int .u64 (jf jd gh 3)] 26)); obtain ⟨GG, hGG⟩ := je (w.heap.size); have b0 := jc e0; have s0 : w0.heap.size = w.heap.size + 1 := by rw [e0]; simp
 have g0 : GrpAt w0 GG gp gq gg gh := by rw [e0, hGG]; exact GrpAt.new _ _ _ _ _ _
 rw [← e0, ← s0, ← hGG]; have HB0 := jh b0; clear e0 hGG b0 s0; obtain ⟨wz, e_0⟩ := je (w0.alloc (.cells #[.int .u64 (jf jd a 0), .int .u64 (jf jd a 1), .int .u64 (jf jd a 2), .int .u64 (jf jd a 3)] 24)); have s_0 : wz.heap.size = w0.heap.size + 1 := by rw [e_0]; simp
 have b_0 := jc e_0; have n_0 : NumAt wz (w0.heap.size) a := by rw [e_0]; exact NumAt.new w0 a _ _ rfl
 rw [← e_0]; obtain ⟨AA, h_0⟩ := je (w0.heap.size); have hwL : w0.heap.size ≤ AA := by omega
 have hRd : AA < wz.heap.size := by omega
 rw [← h_0] at n_0 ⊢; have HAA := jh n_0; have B := jh b_0; have hwAA : w0.heap.size ≤ AA := by omega
 have HSZ := jh (show wz.heap.size = AA + 1 by omega); clear e_0 s_0 b_0 n_0 h_0; have G0 := jh (GrpAt.later B.out g0); clear g0; refine (CI.out _).mono ?_; rintro _ w1 ⟨rfl, hb⟩; have HAA := jn hb HAA; have G0 := jh (GrpAt.later hb G0.out); have hRd := Nat.lt_of_lt_of_le hRd hb.size; have B := jw B hb; clear hb
 cases i9
 ·skip
  skip
  go_wp2_with fail
  refine bodyPost_ret (v := .bool false) ?_ rfl ⟨rfl, jk HB0.out B.out⟩
  simp [results, Tryz.results38, go_sem]
 ·skip
  obtain ⟨r_AA_0, r_AA_1, r_AA_2, r_AA_3⟩ := jy HAA.out; have heq := HEQ.out
  cases e
  ·simp only [Bool.not_true, Bool.not_false] at heq
   go_wp2_with fail
   refine bodyPost_ret (v := .bool true) ?_ rfl ⟨rfl, jk HB0.out B.out⟩
   simp [results, Tryz.results38, go_sem]
  ·simp only [Bool.not_true, Bool.not_false] at heq
   go_wp2_with fail
   refine bodyPost_ret (v := .bool false) ?_ rfl ⟨rfl, jk HB0.out B.out⟩
   simp [results, Tryz.results38, go_sem]
theorem RKey15_any {gp gq gg gh a : Nat} (ha : a < jj) (hq : gq < jj) (hm : gp < jj) (w : World) :
  Calls Tryz.prog 36 #[jM gp gq gg gh, ji a] w fun e w' => e = .returned (.bool (!qi gp gq a)) ∧ Below w.heap.size w w' := by
 obtain ⟨i9, hi9⟩ := je (decide (Zx gp gq a)); obtain ⟨e, he⟩ := je (decide (a = 1)); have hv : (!qi gp gq a) = (i9 && !e) := by unfold qi; rw [← hi9, ← he, Bool.not_or, Bool.not_not]
 rw [hv]; have CI := jh (fun (W : World) => by have h9 := RInG_any (gp := gp) (gg := gg) (gh := gh) ha hq hm W; rewrite [← hi9] at h9; unfold jM ji words at h9; exact h9); have heq : ∀ W : World, (binOp .neq 24 (.agg #[.int .u64 (jf jd a 0), .int .u64 (jf jd a 1), .int .u64 (jf jd a 2), .int .u64 (jf jd a 3)]) (.agg #[.int .u64 1, .int .u64 0, .int .u64 0, .int .u64 0])).run Tryz.prog W = .ok (.bool (!e)) W := fun W => by have h8 := JF a 1 ha (by decide) W; rewrite [← he] at h8; have z0 : ((jf jd 1 0 : Nat) : Int) = 1 := (by decide); have z1 : ((jf jd 1 1 : Nat) : Int) = 0 := (by decide); have z2 : ((jf jd 1 2 : Nat) : Int) = 0 := (by decide); have z3 : ((jf jd 1 3 : Nat) : Int) = 0 := (by decide); rewrite [z0, z1, z2, z3] at h8; exact h8
 have HEQ := jh heq; clear heq hi9 he hv ha hq hm; unfold jM ji words
 go_enter Tryz.func36, Tryz.ntmps36
 go_wp2_with fail
 obtain ⟨w0, e0⟩ := je (w.alloc (.cells #[.int .u64 (jf jd gp 0), .int .u64 (jf jd gp 1), .int .u64 (jf jd gp 2), .int .u64 (jf jd gp 3), .int .u64 (jf jd gq 0), .int .u64 (jf jd gq 1), .int .u64 (jf jd gq 2), .int .u64 (jf jd gq 3), .int .u64 (jf jd gg 0), .int .u64 (jf jd gg 1), .int .u64 (jf jd gg 2), .int .u64 (jf jd gg 3), .int .u64 (jf jd gh 0), .int .u64 (jf jd gh 1), .int .u64 (jf jd gh 2), .int .u64 (jf jd gh 3)] 26)); obtain ⟨GG, hGG⟩ := je (w.heap.size); have b0 := jc e0; have s0 : w0.heap.size = w.heap.size + 1 := by rw [e0]; simp
 have g0 : GrpAt w0 GG gp gq gg gh := by rw [e0, hGG]; exact GrpAt.new _ _ _ _ _ _
 rw [← e0, ← s0, ← hGG]; have HB0 := jh b0; clear e0 hGG b0 s0; obtain ⟨wz, e_0⟩ := je (w0.alloc (.cells #[.int .u64 (jf jd a 0), .int .u64 (jf jd a 1), .int .u64 (jf jd a 2), .int .u64 (jf jd a 3)] 24)); have s_0 : wz.heap.size = w0.heap.size + 1 := by rw [e_0]; simp
 have b_0 := jc e_0; have n_0 : NumAt wz (w0.heap.size) a := by rw [e_0]; exact NumAt.new w0 a _ _ rfl
 rw [← e_0]; obtain ⟨AA, h_0⟩ := je (w0.heap.size); have hwL : w0.heap.size ≤ AA := by omega
 have hRd : AA < wz.heap.size := by omega
 rw [← h_0] at n_0 ⊢; have HAA := jh n_0; have B := jh b_0; have hwAA : w0.heap.size ≤ AA := by omega
 have HSZ := jh (show wz.heap.size = AA + 1 by omega); clear e_0 s_0 b_0 n_0 h_0; have G0 := jh (GrpAt.later B.out g0); clear g0; refine (CI.out _).mono ?_; rintro _ w1 ⟨rfl, hb⟩; have HAA := jn hb HAA; have G0 := jh (GrpAt.later hb G0.out); have hRd := Nat.lt_of_lt_of_le hRd hb.size; have B := jw B hb; clear hb
 cases i9
 ·skip
  skip
  go_wp2_with fail
  refine bodyPost_ret (v := .bool false) ?_ rfl ⟨rfl, jk HB0.out B.out⟩
  simp [results, Tryz.results36, go_sem]
 ·skip
  obtain ⟨r_AA_0, r_AA_1, r_AA_2, r_AA_3⟩ := jy HAA.out; have heq := HEQ.out
  cases e
  ·simp only [Bool.not_true, Bool.not_false] at heq
   go_wp2_with fail
   refine bodyPost_ret (v := .bool true) ?_ rfl ⟨rfl, jk HB0.out B.out⟩
   simp [results, Tryz.results36, go_sem]
  ·simp only [Bool.not_true, Bool.not_false] at heq
   go_wp2_with fail
   refine bodyPost_ret (v := .bool false) ?_ rfl ⟨rfl, jk HB0.out B.out⟩
   simp [results, Tryz.results36, go_sem]
theorem unit_may {gp gq a : Nat} (h : Zx gp gq a) (hq : 0 < gq) (n : Nat) : zL gp (a ^ n % gp) := ⟨h.1.1, pow_ne h.1.1 hq h.2 n, Nat.mod_lt _ (by have := h.1.1; omega)⟩
theorem RCheck_all {gp gq gg gh key c s : Nat} {h : List Nat} (hg : Zx gp gq gg) (hgp : gp < jj) (hgg : gg < jj) (hgh : gh < jj) (hq1 : 1 < gq) (hq : gq < jj) (hk : Zx gp gq key) (hk1 : key ≠ 1) (hcM : c < jj) (hsM : s < jj) (hl : h.length = 32) (hb9 : jO h) (w : World) :
  Calls Tryz.prog 22 #[jM gp gq gg gh, ji key, .agg (jq .u8 h).toArray, sigV c s] w fun e w' => e = .returned (.bool (zC gp gq gg key c s h)) ∧ Below w.heap.size w w' := by
 have hkM : key < jj := Nat.lt_trans hk.1.2.2 hgp; have hp0 : 0 < gp := by have := hg.1.1; omega
 have CMAY := jh (fun (W : World) => by have h9 := Ji (gp := gp) (gq := gq) (gg := gg) (gh := gh) hgg hgp W; rewrite [decide_eq_true hg.1] at h9; unfold jM ji words at h9; exact h9); have CKEY := jh (fun (W : World) => by have h9 := RKey_any (gp := gp) (gq := gq) (gg := gg) (gh := gh) hkM hq hgp W; rewrite [show qi gp gq key = false by unfold qi; rw [decide_eq_true hk, decide_eq_false hk1]; rfl] at h9; unfold jM ji words at h9; exact h9); obtain ⟨ec, hec⟩ := je (decide (1 < gq ∧ c < gq)); obtain ⟨es, hes⟩ := je (decide (1 < gq ∧ s < gq)); have CEC := jh (fun (W : World) => by have h9 := RExpo_any (gp := gp) (gg := gg) (gh := gh) hcM hq W; rewrite [← hec] at h9; unfold jM ji words at h9; exact h9); have CES := jh (fun (W : World) => by have h9 := RExpo_any (gp := gp) (gg := gg) (gh := gh) hsM hq W; rewrite [← hes] at h9; unfold jM ji words at h9; exact h9); obtain ⟨n, hn⟩ := je ((if c = 0 then gq else gq - c)); obtain ⟨x, hx⟩ := je (gg ^ s % gp); obtain ⟨y, hy⟩ := je (key ^ n % gp); obtain ⟨r, hr⟩ := je (x * y % gp); have hnM : n < jj := by rw [hn]; split <;> omega
 have hxm : zL gp x := by rw [hx]; exact unit_may hg (by omega) s
 have hym : zL gp y := by rw [hy]; exact unit_may hk (by omega) n
 have CX := jh (fun (W : World) => by have h9 := RExpG_yes (gq := gq) (gg := gg) (gh := gh) hg.1 hgg hsM hgp W; rewrite [← hx] at h9; unfold jM ji words at h9; exact h9); have CY := jh (fun (W : World) => by have h9 := RExpG_yes (gq := gq) (gg := gg) (gh := gh) hk.1 hkM hnM hgp W; rewrite [← hy] at h9; unfold jM ji words at h9; exact h9); have CR := jh (fun (W : World) => by have h9 := RMulG_yes (gq := gq) (gg := gg) (gh := gh) hxm hym hgp W; rewrite [← hr] at h9; unfold jM ji words at h9; exact h9); obtain ⟨ch, hch⟩ := je (zs gq key r h); have hchM : ch < jj := by rw [hch]; unfold zs Ja; exact Nat.lt_trans (Nat.mod_lt _ (by omega)) hq
 have CC := jh (fun (W : World) => by have h9 := RChal_any (gp := gp) (gg := gg) (gh := gh) (key := key) (r := r) hl hb9 (by omega) hq W; rewrite [← hch] at h9; unfold jM ji words at h9; exact h9); obtain ⟨D, hD⟩ := je (decide (ch = c)); have heq : ∀ W : World, (binOp .eql 24 (.agg #[.int .u64 (jf jd ch 0), .int .u64 (jf jd ch 1), .int .u64 (jf jd ch 2), .int .u64 (jf jd ch 3)]) (.agg #[.int .u64 (jf jd c 0), .int .u64 (jf jd c 1), .int .u64 (jf jd c 2), .int .u64 (jf jd c 3)])).run Tryz.prog W = .ok (.bool D) W := fun W => by have h9 := zV ch c hchM hcM W; rewrite [← hD] at h9; exact h9
 have HEQ := jh heq; clear heq
 have HOK := jh (fun (h1 : c < gq) => show zC gp gq gg key c s h = (ec && es && D) by
  unfold zC; rw [← ref_back hk h1, ← hn, ← hx, ← hy, ← hr, ← hch, hec, hes, hD]; simp only [List.all_cons, List.all_nil, Bool.and_true]
  congr 1
  exact decide_eq_decide.2 ⟨fun h => h.symm, fun h => h.symm⟩)
 have HNO := jh (fun (h1 : (ec && es) = false) => show zC gp gq gg key c s h = false by
  unfold zC; simp only [List.all_cons, List.all_nil, Bool.and_true]
  rw [← hec, ← hes, h1, Bool.false_and])
 have HEC := jh (fun (h1 : ec = true) => show c < gq by rw [hec] at h1; exact (of_decide_eq_true h1).2); have CS := jh (fun (h0 : c ≠ 0) (h1 : c < gq) (W : World) => show Calls Tryz.prog 41 #[.agg #[.int .u64 (jf jd gp 0), .int .u64 (jf jd gp 1), .int .u64 (jf jd gp 2), .int .u64 (jf jd gp 3), .int .u64 (jf jd gq 0), .int .u64 (jf jd gq 1), .int .u64 (jf jd gq 2), .int .u64 (jf jd gq 3), .int .u64 (jf jd gg 0), .int .u64 (jf jd gg 1), .int .u64 (jf jd gg 2), .int .u64 (jf jd gg 3), .int .u64 (jf jd gh 0), .int .u64 (jf jd gh 1), .int .u64 (jf jd gh 2), .int .u64 (jf jd gh 3)], .agg #[.int .u64 0, .int .u64 0, .int .u64 0, .int .u64 0], .agg #[.int .u64 (jf jd c 0), .int .u64 (jf jd c 1), .int .u64 (jf jd c 2), .int .u64 (jf jd c 3)]] W (fun e w' => e = .returned (.tuple #[.agg #[.int .u64 (jf jd n 0), .int .u64 (jf jd n 1), .int .u64 (jf jd n 2), .int .u64 (jf jd n 3)], .int .i64 0]) ∧ Below W.heap.size W w') from by have h9 := RSubS_yes (gp := gp) (gg := gg) (gh := gh) (a := 0) (b := c) (by unfold jj; omega) hcM hq ⟨hq1, by omega, h1⟩ W; rewrite [show (0 + gq - c) % gq = n by rw [hn, if_neg h0, Nat.zero_add, Nat.mod_eq_of_lt (by omega)]] at h9; unfold jM ji words at h9; simp only [qo] at h9; exact h9); have HN0 := jh (fun (h0 : c = 0) => show gq = n by rw [hn, if_pos h0]); have hne : ∀ W : World, (binOp .neq 24 (.agg #[.int .u64 (jf jd c 0), .int .u64 (jf jd c 1), .int .u64 (jf jd c 2), .int .u64 (jf jd c 3)]) (.agg #[.int .u64 0, .int .u64 0, .int .u64 0, .int .u64 0])).run Tryz.prog W = .ok (.bool (!decide (c = 0))) W := fun W => by have h9 := JF c 0 hcM (by decide) W; simp only [qo] at h9; exact h9
 have HNE := jh hne; obtain ⟨T, hT⟩ := je ((jq .u8 h).toArray); have HT := jh hT; have HL := jh hl; rw [← hT] at CC ⊢; clear hkM hp0 hec hes hn hx hy hr hnM hxm hym hch hchM hD hne hT hg hgp hgg hgh hq1 hq hk hk1 hcM hsM hl hb9; unfold jM ji words sigV
 go_enter Tryz.func22, Tryz.ntmps22
 go_upto_region 1 with fail
 obtain ⟨v_0, e0⟩ := je (w.alloc (.cells #[.int .u64 (jf jd gp 0), .int .u64 (jf jd gp 1), .int .u64 (jf jd gp 2), .int .u64 (jf jd gp 3), .int .u64 (jf jd gq 0), .int .u64 (jf jd gq 1), .int .u64 (jf jd gq 2), .int .u64 (jf jd gq 3), .int .u64 (jf jd gg 0), .int .u64 (jf jd gg 1), .int .u64 (jf jd gg 2), .int .u64 (jf jd gg 3), .int .u64 (jf jd gh 0), .int .u64 (jf jd gh 1), .int .u64 (jf jd gh 2), .int .u64 (jf jd gh 3)] 26)); obtain ⟨v_1, e1⟩ := je (v_0.alloc (.cells #[.int .u64 (jf jd key 0), .int .u64 (jf jd key 1), .int .u64 (jf jd key 2), .int .u64 (jf jd key 3)] 24)); obtain ⟨v_2, e2⟩ := je (v_1.alloc (.cells T 55)); obtain ⟨v_3, e3⟩ := je (v_2.alloc (.cells #[.int .u64 (jf jd c 0), .int .u64 (jf jd c 1), .int .u64 (jf jd c 2), .int .u64 (jf jd c 3), .int .u64 (jf jd s 0), .int .u64 (jf jd s 1), .int .u64 (jf jd s 2), .int .u64 (jf jd s 3)] 32)); have s0 : v_0.heap.size = w.heap.size + 1 := by rw [e0]; simp
 have b0 := jc e0; have s1 : v_1.heap.size = v_0.heap.size + 1 := by rw [e1]; simp
 have b1 := jc e1; have s2 : v_2.heap.size = v_1.heap.size + 1 := by rw [e2]; simp
 have b2 := jc e2; have s3 : v_3.heap.size = v_2.heap.size + 1 := by rw [e3]; simp
 have b3 := jc e3; have f0 : GrpAt v_0 w.heap.size gp gq gg gh := by rw [e0]; exact GrpAt.new _ _ _ _ _ _
 have f1 : NumAt v_1 (w.heap.size + 1) key := by rw [← s0, e1]; exact NumAt.new _ _ _ _ rfl
 have f2 : v_2.heap[w.heap.size + 1 + 1]? = some (.cells (jq .u8 h).toArray 55 (0, 0)) := by rw [← s0, ← s1, e2, HT.out]; exact heap_alloc_new _ _
 have f3 := numo_row8 (show v_3.heap[w.heap.size + 1 + 1 + 1]? = some (.cells #[.int .u64 (jf jd c 0), .int .u64 (jf jd c 1), .int .u64 (jf jd c 2), .int .u64 (jf jd c 3), .int .u64 (jf jd s 0), .int .u64 (jf jd s 1), .int .u64 (jf jd s 2), .int .u64 (jf jd s 3)] 32 (0, 0)) by rw [← s0, ← s1, ← s2, e3]; exact heap_alloc_new _ _); rw [← e0, ← e1, ← e2, ← e3]; have HG := jh (((f0.later b1).later b2).later b3); have HK := jh (NumAt.later b3 (NumAt.later b2 f1)); have HH := jh ((b3.block _ (Array.getElem?_eq_some_iff.1 f2).1).trans f2); have HC := jh f3.1; have HS := jh f3.2; have HB := jh (jk (jk (jk b0 b1) b2) b3); have hsz : v_3.heap.size = w.heap.size + 1 + 1 + 1 + 1 := by omega
 clear e0 e1 e2 e3 s0 s1 s2 s3 b0 b1 b2 b3 f0 f1 f2 f3; obtain ⟨GB, hGB⟩ := je (w.heap.size); rw [← hGB] at HG HK HH HC HS hsz ⊢; have hw9 : w.heap.size ≤ GB := by omega
 obtain ⟨KB, hKB⟩ := je (GB + 1); rw [← hKB] at HK HH HC HS hsz ⊢; obtain ⟨HB9, hHB9⟩ := je (KB + 1); rw [← hHB9] at HH HC HS hsz ⊢; obtain ⟨SB, hSB⟩ := je (HB9 + 1); rw [← hSB] at HC HS hsz ⊢; have hSZ := jh (show w.heap.size ≤ v_3.heap.size by omega); clear hGB hKB hHB9 hSB hsz hw9; refine wp_region_lit ?_; refine jo rfl (jg (qu HG.out)) ?_; simp only [Act.put, pa, pb, pc]; refine jo (v := .pointer (some ⟨GB, 8, none⟩)) rfl (by kernel_rfl) ?_; simp only [Act.put, pa, pb, pc]; refine jo rfl (jg (ql HG.out.2.2.1)) ?_; simp only [Act.put, pa, pb, pc]
 go_wp2_with fail
 refine (CMAY.out _).mono ?_; rintro _ w1 ⟨rfl, hb⟩; have HG := jh (HG.out.later hb); have HK := jn hb HK; have HH := jb hb HH; have HC := jh (HC.out.later hb); have HS := jh (HS.out.later hb); have HB := jw HB hb; clear hb; dsimp only
 go_step
 iterate 2
  refine jo (v := .bool false) rfl (by kernel_rfl) ?_; simp only [Act.put, pa, pb, pc]
 refine ju (by kernel_rfl) (jg (qu HG.out)) ?_; simp only [Act.put, pa, pb, pc]; refine ju (by kernel_rfl) (jg (qW HK.out)) ?_; simp only [Act.put, pa, pb, pc]
 go_wp2_with fail
 refine (CKEY.out _).mono ?_; rintro _ w2 ⟨rfl, hb⟩; have HG := jh (HG.out.later hb); have HK := jn hb HK; have HH := jb hb HH; have HC := jh (HC.out.later hb); have HS := jh (HS.out.later hb); have HB := jw HB hb; clear hb; dsimp only
 go_step
 refine ju (v := .bool false) (by kernel_rfl) (by kernel_rfl) ?_
 iterate 2
  simp only [Act.put, pa, pb, pc]; refine jo (v := .bool false) rfl (by kernel_rfl) ?_
 simp only [Act.put, pa, pb, pc]; refine ju (by kernel_rfl) (jg (qu HG.out)) ?_; simp only [Act.put, pa, pb, pc]; refine ju (v := .pointer (some ⟨SB, 0, none⟩)) (by kernel_rfl) (by kernel_rfl) ?_; simp only [Act.put, pa, pb, pc]; refine ju (by kernel_rfl) (jg (ql HC.out)) ?_; simp only [Act.put, pa, pb, pc]
 go_wp2_with fail
 refine (CEC.out _).mono ?_; rintro _ w3 ⟨rfl, hb⟩; have HG := jh (HG.out.later hb); have HK := jn hb HK; have HH := jb hb HH; have HC := jh (HC.out.later hb); have HS := jh (HS.out.later hb); have HB := jw HB hb; clear hb
 cases ec
 ·skip
  go_wp2_with fail
  go_ret
  exact ⟨by rw [HNO.out rfl]; rfl, HB.out⟩
 have hc := HEC.out rfl; dsimp only
 go_step
 refine ju (v := .bool false) (by kernel_rfl) (by kernel_rfl) ?_
 iterate 2
  simp only [Act.put, pa, pb, pc]; refine jo (v := .bool false) rfl (by kernel_rfl) ?_
 simp only [Act.put, pa, pb, pc]; refine ju (by kernel_rfl) (jg (qu HG.out)) ?_; simp only [Act.put, pa, pb, pc]; refine ju (v := .pointer (some ⟨SB, 4, none⟩)) (by kernel_rfl) (by kernel_rfl) ?_; simp only [Act.put, pa, pb, pc]; refine ju (by kernel_rfl) (jg (ql HS.out)) ?_; simp only [Act.put, pa, pb, pc]
 go_wp2_with fail
 refine (CES.out _).mono ?_; rintro _ w4 ⟨rfl, hb⟩; have HG := jh (HG.out.later hb); have HK := jn hb HK; have HH := jb hb HH; have HC := jh (HC.out.later hb); have HS := jh (HS.out.later hb); have HB := jw HB hb; clear hb
 cases es
 ·skip
  go_wp2_with fail
  go_ret
  exact ⟨by rw [HNO.out rfl]; rfl, HB.out⟩
 have HOK := jh (HOK.out hc)
 go_upto_region 3 with fail
 refine wp_region_lit ?_; refine jo rfl (jg (qu HG.out)) ?_; simp only [Act.put, pa, pb, pc]; refine jo (v := .pointer (some ⟨GB, 8, none⟩)) rfl (by kernel_rfl) ?_; simp only [Act.put, pa, pb, pc]; refine jo rfl (jg (ql HG.out.2.2.1)) ?_; simp only [Act.put, pa, pb, pc]; refine jo (v := .pointer (some ⟨SB, 4, none⟩)) rfl (by kernel_rfl) ?_; simp only [Act.put, pa, pb, pc]; refine jo rfl (jg (ql HS.out)) ?_; simp only [Act.put, pa, pb, pc]
 go_wp2_with fail
 refine (CX.out _).mono ?_; rintro _ w5 ⟨rfl, hb⟩; have HG := jh (HG.out.later hb); have HK := jn hb HK; have HH := jb hb HH; have HC := jh (HC.out.later hb); have HS := jh (HS.out.later hb); have HB := jw HB hb; clear hb
 go_upto_region 4 with fail
 obtain ⟨w6, e9⟩ := je (w5.alloc (.cells #[.int .u64 (jf jd x 0), .int .u64 (jf jd x 1), .int .u64 (jf jd x 2), .int .u64 (jf jd x 3)] 24)); obtain ⟨XB, h9⟩ := je (w5.heap.size); have hb := jc e9; have HXB := jh (show NumAt w6 XB x by rw [e9, h9]; exact NumAt.new _ _ _ _ rfl); have LXB := jh (show XB < w6.heap.size by rw [e9, h9]; simp); have WXB := jh (show w5.heap.size = XB from h9.symm); rw [← e9, ← h9]; clear e9 h9; have HG := jh (HG.out.later hb); have HK := jn hb HK; have HH := jb hb HH; have HC := jh (HC.out.later hb); have HS := jh (HS.out.later hb); have HB := jw HB hb; clear hb; refine wp_region_lit ?_; refine jo (v := .pointer (some ⟨GB, 4, none⟩)) rfl (by kernel_rfl) ?_; simp only [Act.put, pa, pb, pc]; refine jo rfl (jg (ql HG.out.2.1)) ?_; simp only [Act.put, pa, pb, pc]
 go_upto_region 5 with fail
 have l1 := HG.out.lt; have l2 := NumAt.lt HK.out; have l3 := (Array.getElem?_eq_some_iff.1 HH.out).1; have l4 := HC.out.lt; have l5 := NumAt.lt HXB.out; have l6 := HB.out.size; obtain ⟨w7, e9⟩ := je (w6.alloc (.cells #[.int .u64 (jf jd gq 0), .int .u64 (jf jd gq 1), .int .u64 (jf jd gq 2), .int .u64 (jf jd gq 3)] 24)); obtain ⟨NB, h9⟩ := je (w6.heap.size); have hb := jc e9; have HNB := jh (show NumAt w7 NB gq by rw [e9, h9]; exact NumAt.new _ _ _ _ rfl); have HNF := jh (show FreeN w7 NB 4 by rw [e9, h9]; exact FreeN.new _ _ _ _); have LNB := jh (show NB < w7.heap.size by rw [e9, h9]; simp); have WNB := jh (show w6.heap.size = NB from h9.symm); rw [← e9, ← h9]; clear e9 h9; have HG := jh (HG.out.later hb); have HK := jn hb HK; have HH := jb hb HH; have HC := jh (HC.out.later hb); have HS := jh (HS.out.later hb); have HB := jw HB hb; have HXB := jn hb HXB; have LXB := jl LXB hb.size; clear hb; have n1 : GB ≠ NB := by have := WNB.out; omega
 have n2 : KB ≠ NB := by have := WNB.out; omega
 have n3 : HB9 ≠ NB := by have := WNB.out; omega
 have n4 : SB ≠ NB := by have := WNB.out; omega
 have n5 : XB ≠ NB := by have := WNB.out; omega
 have HWN := jh (show w.heap.size ≤ NB by have := WNB.out; omega); clear l1 l2 l3 l4 l5 l6; refine wp_region_lit ?_; refine jo (v := .pointer (some ⟨SB, 0, none⟩)) rfl (by kernel_rfl) ?_; simp only [Act.put, pa, pb, pc]; refine jo rfl (jg (ql HC.out)) ?_; simp only [Act.put, pa, pb, pc]; refine jo (v := .agg #[.int .u64 0, .int .u64 0, .int .u64 0, .int .u64 0]) rfl (by kernel_rfl) ?_; simp only [Act.put, pa, pb, pc]; refine jo (v := .bool (!decide (c = 0))) rfl (zj eqg_num rfl rfl rfl (HNE.out _)) ?_; simp only [Act.put, pa, pb, pc]
 by_cases h0 : c = 0
 ·skip
  rw [decide_eq_true h0]; have HNB := jh (show NumAt w7 NB n by rw [← HN0.out h0]; exact HNB.out); clear h0
  go_upto_region 7 with fail
  refine wp_region_lit ?_; refine jo rfl (jg (qu HG.out)) ?_; simp only [Act.put, pa, pb, pc]; refine jo rfl (jg (qW HK.out)) ?_; simp only [Act.put, pa, pb, pc]; refine jo rfl (jg (qW HNB.out)) ?_; simp only [Act.put, pa, pb, pc]
  go_wp2_with fail
  refine (CY.out _).mono ?_; rintro _ wa ⟨rfl, hb⟩; have HG := jh (HG.out.later hb); have HK := jn hb HK; have HH := jb hb HH; have HC := jh (HC.out.later hb); have HS := jh (HS.out.later hb); have HB := jw HB hb; have HXB := jn hb HXB; have HNB := jn hb HNB; have HNF := jh (HNF.out.later hb LNB.out); have LXB := jl LXB hb.size; have LNB := jl LNB hb.size; clear hb
  go_upto_region 8 with fail
  obtain ⟨wb, e9⟩ := je (wa.alloc (.cells #[.int .u64 (jf jd y 0), .int .u64 (jf jd y 1), .int .u64 (jf jd y 2), .int .u64 (jf jd y 3)] 24)); obtain ⟨YB, h9⟩ := je (wa.heap.size); have hb := jc e9; have HYB := jh (show NumAt wb YB y by rw [e9, h9]; exact NumAt.new _ _ _ _ rfl); have LYB := jh (show YB < wb.heap.size by rw [e9, h9]; simp); have WYB := jh (show wa.heap.size = YB from h9.symm); rw [← e9, ← h9]; clear e9 h9; have HG := jh (HG.out.later hb); have HK := jn hb HK; have HH := jb hb HH; have HC := jh (HC.out.later hb); have HS := jh (HS.out.later hb); have HB := jw HB hb; have HXB := jn hb HXB; have HNB := jn hb HNB; have HNF := jh (HNF.out.later hb LNB.out); have LXB := jl LXB hb.size; have LNB := jl LNB hb.size; clear hb; refine wp_region_lit ?_; refine jo rfl (jg (qu HG.out)) ?_; simp only [Act.put, pa, pb, pc]; refine jo rfl (jg (qW HXB.out)) ?_; simp only [Act.put, pa, pb, pc]; refine jo rfl (jg (qW HYB.out)) ?_; simp only [Act.put, pa, pb, pc]
  go_wp2_with fail
  refine (CR.out _).mono ?_; rintro _ wc ⟨rfl, hb⟩; have HG := jh (HG.out.later hb); have HK := jn hb HK; have HH := jb hb HH; have HC := jh (HC.out.later hb); have HS := jh (HS.out.later hb); have HB := jw HB hb; have HXB := jn hb HXB; have HNB := jn hb HNB; have HNF := jh (HNF.out.later hb LNB.out); have HYB := jn hb HYB; have LXB := jl LXB hb.size; have LNB := jl LNB hb.size; have LYB := jl LYB hb.size; clear hb
  go_upto_region 9 with fail
  obtain ⟨wd, e9⟩ := je (wc.alloc (.cells #[.int .u64 (jf jd r 0), .int .u64 (jf jd r 1), .int .u64 (jf jd r 2), .int .u64 (jf jd r 3)] 24)); obtain ⟨RB, h9⟩ := je (wc.heap.size); have hb := jc e9; have HRB := jh (show NumAt wd RB r by rw [e9, h9]; exact NumAt.new _ _ _ _ rfl); have LRB := jh (show RB < wd.heap.size by rw [e9, h9]; simp); have WRB := jh (show wc.heap.size = RB from h9.symm); rw [← e9, ← h9]; clear e9 h9; have HG := jh (HG.out.later hb); have HK := jn hb HK; have HH := jb hb HH; have HC := jh (HC.out.later hb); have HS := jh (HS.out.later hb); have HB := jw HB hb; have HXB := jn hb HXB; have HNB := jn hb HNB; have HNF := jh (HNF.out.later hb LNB.out); have HYB := jn hb HYB; have LXB := jl LXB hb.size; have LNB := jl LNB hb.size; have LYB := jl LYB hb.size; clear hb; refine jK (.take 0 (.take 1 (.take 2 (.take 3 (.take 5 (.take 6 (.step 4 (.take 7 (.take 8 .done))))))))) (fun w8 => w8.heap[HB9]? = some (.cells (jq .u8 h).toArray 55 (0, 0)) ∧ GrpAt w8 GB gp gq gg gh ∧ NumAt w8 KB key ∧ NumAt w8 RB r ∧ NumO w8 SB 0 c) (by kernel_rfl) (by kernel_rfl) (fun _ _ _ _ _ h => h) (⟨HH.out, HG.out, HK.out, HRB.out, HC.out⟩) (fun hHeld => ?_); obtain ⟨x1, e1⟩ := je (wd.drew); rw [← e1]; have hb : Below wd.heap.size wd x1 := by rw [e1]; exact (Below.refl _ _).drew
  have HG := jh (HG.out.later hb); have HK := jn hb HK; have HH := jb hb HH; have HC := jh (HC.out.later hb); have HS := jh (HS.out.later hb); have HB := jw HB hb; have HRB := jn hb HRB; clear hb e1; refine WT.take rfl (Or.inl ⟨by rfl, fun w8 hSw => jg (qu hSw.2.1)⟩) ?_
  try simp only [Act.put, pa, pb, pc]
  refine WT.take rfl (Or.inl ⟨by rfl, fun w8 hSw => jg (qW hSw.2.2.1)⟩) ?_
  try simp only [Act.put, pa, pb, pc]
  refine WT.take rfl (Or.inl ⟨by rfl, fun w8 hSw => jg (qW hSw.2.2.2.1)⟩) ?_
  try simp only [Act.put, pa, pb, pc]
  refine WT.tk (v := .agg T) rfl (fun w8 hSw => by have h9 := loadH hSw.1 HL.out; rw [← HT.out] at h9; exact jg h9) (k := ?_); refine WT.tk rfl (k := ?_); refine WT.take rfl (Or.inl ⟨by rfl, fun w8 hSw => jg (ql hSw.2.2.2.2)⟩) ?_
  try simp only [Act.put, pa, pb, pc]
  refine WT.step rfl (fun K hK => ?_)
  go_simp
  refine (CC.out _).mono ?_; rintro _ x2 ⟨rfl, hb⟩; have HG := jh (HG.out.later hb); have HK := jn hb HK; have HH := jb hb HH; have HC := jh (HC.out.later hb); have HS := jh (HS.out.later hb); have HB := jw HB hb; have HRB := jn hb HRB; clear hb; refine hK.out _ _ (⟨HH.out, HG.out, HK.out, HRB.out, HC.out⟩) (fun hHeld => ?_); clear hK K
  try simp only [Act.put, pa, pb, pc]
  refine WT.tk (v := .bool D) rfl (fun w8 hSw => zj eqg_num rfl (by kernel_rfl) (by kernel_rfl) (HEQ.out _)) (k := ?_); refine WT.tk rfl (k := ?_); refine WT.done ?_; clear hHeld
  go_wp2_with fail
  go_ret
  exact ⟨by rw [HOK.out]; rfl, HB.out⟩
 ·skip
  rw [decide_eq_false h0]
  go_upto_region 6 with fail
  refine wp_region_lit ?_; refine jo rfl (jg (qu HG.out)) ?_; simp only [Act.put, pa, pb, pc]; refine jo (v := .agg #[.int .u64 0, .int .u64 0, .int .u64 0, .int .u64 0]) rfl (by kernel_rfl) ?_; simp only [Act.put, pa, pb, pc]; refine jo (v := .pointer (some ⟨SB, 0, none⟩)) rfl (by kernel_rfl) ?_; simp only [Act.put, pa, pb, pc]; refine jo rfl (jg (ql HC.out)) ?_; simp only [Act.put, pa, pb, pc]
  go_wp2_with fail
  refine ((CS.out h0 hc) _).mono ?_; rintro _ w8 ⟨rfl, hb⟩; have HG := jh (HG.out.later hb); have HK := jn hb HK; have HH := jb hb HH; have HC := jh (HC.out.later hb); have HS := jh (HS.out.later hb); have HB := jw HB hb; have HXB := jn hb HXB; have HNB := jn hb HNB; have HNF := jh (HNF.out.later hb LNB.out); have LXB := jl LXB hb.size; have LNB := jl LNB hb.size; clear hb; obtain ⟨c0, c1, c2, c3, f0, f1, f2, f3⟩ := jC HNB.out HNF.out
  go_upto_region 7 with fail
  clear c0 c1 c2 c3 f0 f1 f2 f3; obtain ⟨w9x, e9⟩ := je (((((w8.setCell ⟨NB, 0, none⟩ (.int .u64 (jf jd n 0))).setCell ⟨NB, 1, none⟩ (.int .u64 (jf jd n 1))).setCell ⟨NB, 2, none⟩ (.int .u64 (jf jd n 2))).setCell ⟨NB, 3, none⟩ (.int .u64 (jf jd n 3)))); rw [← e9]; have hg9 : w8.grownBy w9x (some NB) := by rw [e9]; exact jt (jt (jt (jt (World.grownBy.refl w8 (some NB)) 0 _) 1 _) 2 _) 3 _
  have HG := jh (grp_keep HG.out hg9 n1); have HK := jh (num_keep HK.out hg9 n2); have HH := jh (row_keep HH.out hg9 n3); have HC := jh (show NumO w9x SB 0 c from fun j hj => hg9.cell (HC.out j hj) (fun e => n4 (by injection e))); have HS := jh (show NumO w9x SB 4 s from fun j hj => hg9.cell (HS.out j hj) (fun e => n4 (by injection e))); have HXB := jh (num_keep HXB.out hg9 n5); have HB := jh (show Below w.heap.size w w9x by rw [e9]; exact jp HB.out HWN.out (.int .u64 (jf jd n 0)) (.int .u64 (jf jd n 1)) (.int .u64 (jf jd n 2)) (.int .u64 (jf jd n 3))); have HNB := jh (show NumAt w9x NB n by rw [e9]; exact NumAt.set4 HNB.out n); clear hg9 e9; refine wp_region_lit ?_; refine jo rfl (jg (qu HG.out)) ?_; simp only [Act.put, pa, pb, pc]; refine jo rfl (jg (qW HK.out)) ?_; simp only [Act.put, pa, pb, pc]; refine jo rfl (jg (qW HNB.out)) ?_; simp only [Act.put, pa, pb, pc]
  go_wp2_with fail
  refine (CY.out _).mono ?_; rintro _ wa ⟨rfl, hb⟩; have HG := jh (HG.out.later hb); have HK := jn hb HK; have HH := jb hb HH; have HC := jh (HC.out.later hb); have HS := jh (HS.out.later hb); have HB := jw HB hb; have HXB := jn hb HXB; have HNB := jn hb HNB; clear hb
  go_upto_region 8 with fail
  obtain ⟨wb, e9⟩ := je (wa.alloc (.cells #[.int .u64 (jf jd y 0), .int .u64 (jf jd y 1), .int .u64 (jf jd y 2), .int .u64 (jf jd y 3)] 24)); obtain ⟨YB, h9⟩ := je (wa.heap.size); have hb := jc e9; have HYB := jh (show NumAt wb YB y by rw [e9, h9]; exact NumAt.new _ _ _ _ rfl); have LYB := jh (show YB < wb.heap.size by rw [e9, h9]; simp); have WYB := jh (show wa.heap.size = YB from h9.symm); rw [← e9, ← h9]; clear e9 h9; have HG := jh (HG.out.later hb); have HK := jn hb HK; have HH := jb hb HH; have HC := jh (HC.out.later hb); have HS := jh (HS.out.later hb); have HB := jw HB hb; have HXB := jn hb HXB; have HNB := jn hb HNB; clear hb; refine wp_region_lit ?_; refine jo rfl (jg (qu HG.out)) ?_; simp only [Act.put, pa, pb, pc]; refine jo rfl (jg (qW HXB.out)) ?_; simp only [Act.put, pa, pb, pc]; refine jo rfl (jg (qW HYB.out)) ?_; simp only [Act.put, pa, pb, pc]
  go_wp2_with fail
  refine (CR.out _).mono ?_; rintro _ wc ⟨rfl, hb⟩; have HG := jh (HG.out.later hb); have HK := jn hb HK; have HH := jb hb HH; have HC := jh (HC.out.later hb); have HS := jh (HS.out.later hb); have HB := jw HB hb; have HXB := jn hb HXB; have HNB := jn hb HNB; have HYB := jn hb HYB; have LYB := jl LYB hb.size; clear hb
  go_upto_region 9 with fail
  obtain ⟨wd, e9⟩ := je (wc.alloc (.cells #[.int .u64 (jf jd r 0), .int .u64 (jf jd r 1), .int .u64 (jf jd r 2), .int .u64 (jf jd r 3)] 24)); obtain ⟨RB, h9⟩ := je (wc.heap.size); have hb := jc e9; have HRB := jh (show NumAt wd RB r by rw [e9, h9]; exact NumAt.new _ _ _ _ rfl); have LRB := jh (show RB < wd.heap.size by rw [e9, h9]; simp); have WRB := jh (show wc.heap.size = RB from h9.symm); rw [← e9, ← h9]; clear e9 h9; have HG := jh (HG.out.later hb); have HK := jn hb HK; have HH := jb hb HH; have HC := jh (HC.out.later hb); have HS := jh (HS.out.later hb); have HB := jw HB hb; have HXB := jn hb HXB; have HNB := jn hb HNB; have HYB := jn hb HYB; have LYB := jl LYB hb.size; clear hb; refine jK (.take 0 (.take 1 (.take 2 (.take 3 (.take 5 (.take 6 (.step 4 (.take 7 (.take 8 .done))))))))) (fun w8 => w8.heap[HB9]? = some (.cells (jq .u8 h).toArray 55 (0, 0)) ∧ GrpAt w8 GB gp gq gg gh ∧ NumAt w8 KB key ∧ NumAt w8 RB r ∧ NumO w8 SB 0 c) (by kernel_rfl) (by kernel_rfl) (fun _ _ _ _ _ h => h) (⟨HH.out, HG.out, HK.out, HRB.out, HC.out⟩) (fun hHeld => ?_); obtain ⟨x1, e1⟩ := je (wd.drew); rw [← e1]; have hb : Below wd.heap.size wd x1 := by rw [e1]; exact (Below.refl _ _).drew
  have HG := jh (HG.out.later hb); have HK := jn hb HK; have HH := jb hb HH; have HC := jh (HC.out.later hb); have HS := jh (HS.out.later hb); have HB := jw HB hb; have HRB := jn hb HRB; clear hb e1; refine WT.take rfl (Or.inl ⟨by rfl, fun w8 hSw => jg (qu hSw.2.1)⟩) ?_
  try simp only [Act.put, pa, pb, pc]
  refine WT.take rfl (Or.inl ⟨by rfl, fun w8 hSw => jg (qW hSw.2.2.1)⟩) ?_
  try simp only [Act.put, pa, pb, pc]
  refine WT.take rfl (Or.inl ⟨by rfl, fun w8 hSw => jg (qW hSw.2.2.2.1)⟩) ?_
  try simp only [Act.put, pa, pb, pc]
  refine WT.tk (v := .agg T) rfl (fun w8 hSw => by have h9 := loadH hSw.1 HL.out; rw [← HT.out] at h9; exact jg h9) (k := ?_); refine WT.tk rfl (k := ?_); refine WT.take rfl (Or.inl ⟨by rfl, fun w8 hSw => jg (ql hSw.2.2.2.2)⟩) ?_
  try simp only [Act.put, pa, pb, pc]
  refine WT.step rfl (fun K hK => ?_)
  go_simp
  refine (CC.out _).mono ?_; rintro _ x2 ⟨rfl, hb⟩; have HG := jh (HG.out.later hb); have HK := jn hb HK; have HH := jb hb HH; have HC := jh (HC.out.later hb); have HS := jh (HS.out.later hb); have HB := jw HB hb; have HRB := jn hb HRB; clear hb; refine hK.out _ _ (⟨HH.out, HG.out, HK.out, HRB.out, HC.out⟩) (fun hHeld => ?_); clear hK K
  try simp only [Act.put, pa, pb, pc]
  refine WT.tk (v := .bool D) rfl (fun w8 hSw => zj eqg_num rfl (by kernel_rfl) (by kernel_rfl) (HEQ.out _)) (k := ?_); refine WT.tk rfl (k := ?_); refine WT.done ?_; clear hHeld
  go_wp2_with fail
  go_ret
  exact ⟨by rw [HOK.out]; rfl, HB.out⟩
theorem Zb {x y : Nat} (h : x ||| y = 0) : x = 0 ∧ y = 0 := by
 constructor
 ·refine Nat.eq_of_testBit_eq fun i => ?_
  have := congrArg (fun n => n.testBit i) h; simp only [Nat.testBit_or, Nat.zero_testBit, Bool.or_eq_false_iff] at this; rw [this.1, Nat.zero_testBit]
 ·refine Nat.eq_of_testBit_eq fun i => ?_
  have := congrArg (fun n => n.testBit i) h; simp only [Nat.testBit_or, Nat.zero_testBit, Bool.or_eq_false_iff] at this; rw [this.2, Nat.zero_testBit]
theorem RSetting_any {gp gq gg gh n cap : Nat} {fa se : Int} {ao : Option Addr} {ks : List (Nat × Nat)} (hx : ∀ k ∈ ks, k.1 < jj ∧ k.2 < jj) (hq : gq < jj) (hm : gp < jj) (hgg : gg < jj) (hgh : gh < jj) (hn : n = ks.length) (hfa : -9223372036854775808 ≤ fa ∧ fa ≤ 9223372036854775807) (hse : -9223372036854775808 ≤ se ∧ se ≤ 9223372036854775807) (hn9 : n ≤ 1000) (w : World) (hk : 0 < n → ∃ b o, ao = some ⟨b, o, none⟩ ∧ KeysAt w b o ks) :
  Calls Tryz.prog 20 #[qd gp gq gg gh fa se (.slice ao n cap)] w fun e w' => e = .returned (.bool (jB gp gq gg gh fa se n ks)) ∧ Below w.heap.size w w' := by
 obtain ⟨hf1, hf2⟩ := hfa; obtain ⟨hs1, hs2⟩ := hse; have CK := jh (fun (a : Nat) (ha : a < jj) (W : World) => by have h9 := RKey15_any (gp := gp) (gq := gq) (gg := gg) (gh := gh) ha hq hm W; unfold jM ji words at h9; exact h9); obtain ⟨R, hR⟩ := je (jB gp gq gg gh fa se n ks); rw [← hR]; have HR := jh hR; have HX := jh hx; have HN := jh hn; have HGG := jh hgg; have HGH := jh hgh; have HKH := jh hk; clear hR hx hq hm hgg hgh hn hk; unfold qd
 go_enter Tryz.func20, Tryz.ntmps20
 go_upto_region 1 with fail
 obtain ⟨w0, e0⟩ := je (w.alloc (.cells #[.int .u64 (jf jd gp 0), .int .u64 (jf jd gp 1), .int .u64 (jf jd gp 2), .int .u64 (jf jd gp 3), .int .u64 (jf jd gq 0), .int .u64 (jf jd gq 1), .int .u64 (jf jd gq 2), .int .u64 (jf jd gq 3), .int .u64 (jf jd gg 0), .int .u64 (jf jd gg 1), .int .u64 (jf jd gg 2), .int .u64 (jf jd gg 3), .int .u64 (jf jd gh 0), .int .u64 (jf jd gh 1), .int .u64 (jf jd gh 2), .int .u64 (jf jd gh 3), .int .i64 fa, .int .i64 se, .slice ao n cap] 29)); obtain ⟨SB, hSB⟩ := je (w.heap.size); have hb := jc e0; have HS := jh (show SAt w0 SB gp gq gg gh fa se (.slice ao n cap) by rw [e0, hSB]; exact SAt.new _ _ _ _ _ _ _ _ _); have HB := jh hb; rw [← e0, ← hSB]; clear e0 hSB; clear hb; have q18 := HS.out.nd
 go_upto_region 2 with fail
 clear q18; have q16 := HS.out.fa; have q17 := HS.out.se
 by_cases h0 : fa < 0
 ·skip
  have HR := jh (show R = false by rw [HR.out]; unfold jB; rw [if_pos h0]); have hn7 : (n : Int) ≤ 1000 := by omega
  go_wp2_with fail
  go_ret
  exact ⟨by rw [HR.out]; rfl, HB.out⟩
 by_cases h1 : 2 < fa
 ·skip
  have HR := jh (show R = false by rw [HR.out]; unfold jB; rw [if_neg h0, if_pos h1]); have hn7 : (n : Int) ≤ 1000 := by omega
  go_wp2_with fail
  go_ret
  exact ⟨by rw [HR.out]; rfl, HB.out⟩
 by_cases h2 : se < 1
 ·skip
  have HR := jh (show R = false by rw [HR.out]; unfold jB; rw [if_neg h0, if_neg h1, if_pos h2]); have hn7 : (n : Int) ≤ 1000 := by omega
  go_wp2_with fail
  go_ret
  exact ⟨by rw [HR.out]; rfl, HB.out⟩
 by_cases h8 : 3 < se
 ·skip
  have HR := jh (show R = false by rw [HR.out]; unfold jB; rw [if_neg h0, if_neg h1, if_neg h2, if_pos (show fa + 1 < se by omega)]); have hn7 : (n : Int) ≤ 1000 := by omega
  go_wp2_with fail
  go_ret
  exact ⟨by rw [HR.out]; rfl, HB.out⟩
 by_cases h3 : fa + 1 < se
 ·skip
  have HR := jh (show R = false by rw [HR.out]; unfold jB; rw [if_neg h0, if_neg h1, if_neg h2, if_pos h3]); have hn7 : (n : Int) ≤ 1000 := by omega
  go_wp2_with fail
  go_ret
  exact ⟨by rw [HR.out]; rfl, HB.out⟩
 by_cases h4 : (n : Int) < 3 * fa + 1
 ·skip
  have HR := jh (show R = false by rw [HR.out]; unfold jB; rw [if_neg h0, if_neg h1, if_neg h2, if_neg h3, if_pos h4]); have hn7 : (n : Int) ≤ 1000 := by omega
  go_wp2_with fail
  go_ret
  exact ⟨by rw [HR.out]; rfl, HB.out⟩
 by_cases h5 : (7 : Int) < (n : Int)
 ·skip
  have HR := jh (show R = false by rw [HR.out]; unfold jB; rw [if_neg h0, if_neg h1, if_neg h2, if_neg h3, if_neg h4, if_pos (show 7 < n by omega)]); have hn7 : (n : Int) ≤ 1000 := by omega
  go_wp2_with fail
  go_ret
  exact ⟨by rw [HR.out]; rfl, HB.out⟩
 have HR := jh (show R = (if zy gq (n + se.toNat) = false then false else if (qi gp gq gg || qi gp gq gh) = true then false else !ks.any (qF gp gq)) by rw [HR.out]; unfold jB; rw [if_neg h0, if_neg h1, if_neg h2, if_neg h3, if_neg h4, if_neg (show ¬ 7 < n by omega)]); obtain ⟨m, hm9⟩ := je (n + se.toNat); rw [← hm9] at HR; have hmI : (n : Int) + se = (m : Int) := by omega
 have hmb : m ≤ 1000 := by omega
 have hn7 : (n : Int) ≤ 7 := by omega
 go_upto_region 4 with fail
 clear q16 q17 h0 h1 h2 h8 h3 h4 h5 hm9; refine wp_region_lit ?_; refine jo (v := .pointer (some ⟨SB, 0, none⟩)) rfl (by kernel_rfl) ?_; simp only [Act.put, pa, pb, pc]; refine jo (v := .pointer (some ⟨SB, 4, none⟩)) rfl (by kernel_rfl) ?_; simp only [Act.put, pa, pb, pc]; refine jo rfl (jg (ql HS.out.grp.2.1)) ?_; simp only [Act.put, pa, pb, pc]
 go_upto_region 5 with fail
 obtain ⟨w1, e9⟩ := je (w0.alloc (.cells #[.int .u64 (jf jd gq 0), .int .u64 (jf jd gq 1), .int .u64 (jf jd gq 2), .int .u64 (jf jd gq 3)] 24)); obtain ⟨QB, h9⟩ := je (w0.heap.size); have hb := jc e9; have HQB := jh (show NumAt w1 QB gq by rw [e9, h9]; exact NumAt.new _ _ _ _ rfl); have LQB := jh (show QB < w1.heap.size by rw [e9, h9]; simp); have WQB := jh (show w0.heap.size = QB from h9.symm); rw [← e9, ← h9]; clear e9 h9; have HS := jh (HS.out.later hb); have HB := jw HB hb; clear hb; obtain ⟨ab, hab⟩ := je (zy gq m); rw [← hab] at HR; have HAB := jh hab; clear hab
 go_cut [72] (fun c wz => c = .bool (!ab) ∧ wz = w1)
 case first =>
  obtain ⟨r0, r1, r2, r3⟩ := jy HQB.out; have q17 := HS.out.se; have hv := HAB.out; unfold zy at hv
  generalize jf jd gq 0 = d0 at *
  generalize jf jd gq 1 = d1 at *
  generalize jf jd gq 2 = d2 at *
  generalize jf jd gq 3 = d3 at *
  have hw9 : IntKind.u64.wrap (m : Int) = (m : Int) := by rw [IntKind.wrap_u64]; omega
  have h9 : (d1 ≠ 0 ∧ ab = true) ∨ (d1 = 0 ∧ d2 ≠ 0 ∧ ab = true) ∨ (d1 = 0 ∧ d2 = 0 ∧ d3 ≠ 0 ∧ ab = true) ∨ (d1 = 0 ∧ d2 = 0 ∧ d3 = 0 ∧ m < d0 ∧ ab = true) ∨ (d1 = 0 ∧ d2 = 0 ∧ d3 = 0 ∧ ¬ m < d0 ∧ ab = false) := by
   by_cases z1 : d1 = 0
   ·by_cases z2 : d2 = 0
    ·by_cases z3 : d3 = 0
     ·rw [if_pos (by rw [z1, z2, z3]; rfl)] at hv
      by_cases z4 : m < d0
      ·exact .inr (.inr (.inr (.inl ⟨z1, z2, z3, z4, by rw [hv]; exact decide_eq_true z4⟩)))
      ·exact .inr (.inr (.inr (.inr ⟨z1, z2, z3, z4, by rw [hv]; exact decide_eq_false z4⟩)))
     ·exact .inr (.inr (.inl ⟨z1, z2, z3, by rw [hv, if_neg (fun h => z3 (Zb h).2)]⟩))
    ·exact .inr (.inl ⟨z1, z2, by rw [hv, if_neg (fun h => z2 (Zb (Zb h).1).2)]⟩)
   ·exact .inl ⟨z1, by rw [hv, if_neg (fun h => z1 (Zb (Zb h).1).1)]⟩
  clear hv HAB HR HQB
  rcases h9 with ⟨z1, rfl⟩ | ⟨rfl, z2, rfl⟩ | ⟨rfl, rfl, z3, rfl⟩ | ⟨rfl, rfl, rfl, z4, rfl⟩ | ⟨rfl, rfl, rfl, z4, rfl⟩
  ·skip
   have z1I : ((d1 : Int) == 0) = false := by simpa using z1
   go_wp2_with fail
   go_meet
   exact ⟨rfl, rfl⟩
  ·skip
   have z2I : ((d2 : Int) == 0) = false := by simpa using z2
   go_wp2_with fail
   go_meet
   exact ⟨rfl, rfl⟩
  ·skip
   have z3I : ((d3 : Int) == 0) = false := by simpa using z3
   go_wp2_with fail
   go_meet
   exact ⟨rfl, rfl⟩
  ·skip
   have z4I : ¬ (d0 : Int) ≤ (m : Int) := by omega
   go_wp2_with fail
   go_meet
   exact ⟨rfl, rfl⟩
  ·skip
   have z4I : (d0 : Int) ≤ (m : Int) := by omega
   go_wp2_with fail
   go_meet
   exact ⟨rfl, rfl⟩
 case rest =>
  obtain ⟨rfl, hw⟩ := hcut; rw [hw]; clear hw wc HAB HQB
  cases ab
  ·skip
   go_wp2_with fail
   go_ret
   exact ⟨by rw [HR.out]; rfl, HB.out⟩
  have HR := jh (show R = if (qi gp gq gg || qi gp gq gh) = true then false else !ks.any (qF gp gq) by rw [HR.out]; rfl); obtain ⟨kg, hkg⟩ := je (qi gp gq gg); obtain ⟨kh, hkh⟩ := je (qi gp gq gh); have CG := jh (CK.out gg HGG.out); have CH := jh (CK.out gh HGH.out); rw [← hkg] at HR CG; rw [← hkh] at HR CH; clear hkg hkh
  go_upto_region 7 with fail
  refine wp_region_lit ?_; refine jo (v := .pointer (some ⟨SB, 0, none⟩)) rfl (by kernel_rfl) ?_; simp only [Act.put, pa, pb, pc]; refine jo rfl (jg (qu HS.out.grp)) ?_; simp only [Act.put, pa, pb, pc]; refine jo (v := .pointer (some ⟨SB, 0, none⟩)) rfl (by kernel_rfl) ?_; simp only [Act.put, pa, pb, pc]; refine jo (v := .pointer (some ⟨SB, 8, none⟩)) rfl (by kernel_rfl) ?_; simp only [Act.put, pa, pb, pc]; refine jo rfl (jg (ql HS.out.grp.2.2.1)) ?_; simp only [Act.put, pa, pb, pc]
  go_wp2_with fail
  refine (CG.out _).mono ?_; rintro _ w2 ⟨rfl, hb⟩; have HS := jh (HS.out.later hb); have HB := jw HB hb; clear hb
  cases kg
  ·skip
   dsimp only
   go_step
   iterate 2
    refine jo (v := .bool false) rfl (by kernel_rfl) ?_; simp only [Act.put, pa, pb, pc]
   refine ju (v := .pointer (some ⟨SB, 0, none⟩)) (by kernel_rfl) (by kernel_rfl) ?_; simp only [Act.put, pa, pb, pc]; refine ju (by kernel_rfl) (jg (qu HS.out.grp)) ?_; simp only [Act.put, pa, pb, pc]; refine ju (v := .pointer (some ⟨SB, 0, none⟩)) (by kernel_rfl) (by kernel_rfl) ?_; simp only [Act.put, pa, pb, pc]; refine ju (v := .pointer (some ⟨SB, 12, none⟩)) (by kernel_rfl) (by kernel_rfl) ?_; simp only [Act.put, pa, pb, pc]; refine ju (by kernel_rfl) (jg (ql HS.out.grp.2.2.2)) ?_; simp only [Act.put, pa, pb, pc]
   go_wp2_with fail
   refine (CH.out _).mono ?_; rintro _ w3 ⟨rfl, hb⟩; have HS := jh (HS.out.later hb); have HB := jw HB hb; clear hb
   cases kh
   ·skip
    have HR := jh (show R = !ks.any (qF gp gq) by rw [HR.out]; rfl)
    go_wp2_with fail
    go_loopw [5] (fun i wr => ∃ k : Nat, k ≤ n ∧ i = .int .i64 k ∧ Hid ((ks.take k).any (qF gp gq) = false) ∧ Hid (SAt wr SB gp gq gg gh fa se (.slice ao n cap)) ∧ Hid (Below w.heap.size w wr)) (fun i _ => n - (intOf i).toNat)
    case atStart => exact ⟨0, Nat.zero_le _, rfl, jh rfl, HS, HB⟩
    case round =>
     clear HS HB; obtain ⟨k, hk, rfl, HAN, HS, HB⟩ := hrel
     by_cases hlt : k < n
     ·obtain ⟨KB, o, rfl, hks⟩ := HKH.out (by omega); obtain ⟨⟨x, y⟩, hki⟩ : ∃ p, ks[k]? = some p := ⟨_, List.getElem?_eq_getElem (by rw [← HN.out]; exact hlt)⟩; have hxy := HX.out (x, y) (List.mem_of_getElem? hki); have h1 := jh (show NumO wr KB (o + k * 8) x from fun j hj => jm ((hks k _ hki).1 j hj) HB.out); have h2 := jh (show NumO wr KB (o + k * 8 + 4) y from fun j hj => by rw [Nat.add_assoc]; exact jm ((hks k _ hki).2 j hj) HB.out); have HTK := jh (show (ks.take (k + 1)).any (qF gp gq) = (qi gp gq x || qi gp gq y) by rw [List.take_add_one, hki, List.any_append, HAN.out]; simp [qF]); have HAL := jh (fun (h : (qi gp gq x || qi gp gq y) = true) => show ks.any (qF gp gq) = true from List.any_eq_true.2 ⟨_, List.mem_of_getElem? hki, h⟩); obtain ⟨kx, hkx⟩ := je (qi gp gq x); obtain ⟨ky, hky⟩ := je (qi gp gq y); have C1 := jh (CK.out x hxy.1); have C2 := jh (CK.out y hxy.2); rw [← hkx] at C1 HTK HAL; rw [← hky] at C2 HTK HAL; have hltI : (k : Int) < (n : Int) := by omega
      have HLT := jh hlt; clear hxy hki hks hkx hky hlt
      go_upto_region 12 with fail
      cases kx
      ·skip
       refine jK (.take 0 (.take 1 (.take 2 (.take 3 (.take 4 (.take 5 (.take 6 (.take 7 (.step 8 (.take 9 (.take 10 (.take 11 (.take 12 (.take 13 (.take 14 (.take 15 (.take 16 (.take 17 (.take 18 (.step 19 (.take 20 (.take 21 .done)))))))))))))))))))))) (fun w8 => SAt w8 SB gp gq gg gh fa se (.slice (some ⟨KB, o, none⟩) n cap) ∧ NumO w8 KB (o + k * 8) x ∧ NumO w8 KB (o + k * 8 + 4) y) (by kernel_rfl) (by kernel_rfl) (fun _ _ _ _ _ h => h) (⟨HS.out.later ((Below.refl _ _).drew), NumO.later ((Below.refl _ _).drew) h1.out, NumO.later ((Below.refl _ _).drew) h2.out⟩) (fun hHeld => ?_); obtain ⟨x1, e1⟩ := je (wr.drew); rw [← e1]; have hb : Below wr.heap.size wr x1 := by rw [e1]; exact (Below.refl _ _).drew
       have HS := jh (HS.out.later hb); have HB := jw HB hb; have h1 := jh (h1.out.later hb); have h2 := jh (h2.out.later hb); clear hb e1; refine WT.tk rfl (k := ?_); refine WT.take rfl (Or.inl ⟨by rfl, fun w8 hSw => jg (qu hSw.1.grp)⟩) ?_
       try simp only [Act.put, pa, pb, pc]
       refine WT.tk rfl (k := ?_); refine WT.tk (v := .slice (some ⟨KB, o, none⟩) n cap) rfl (fun w8 hSw => jg (Qm hSw.1.nd)) (k := ?_); refine WT.tk rfl (k := ?_); refine WT.tk (v := .pointer (some ⟨KB, o + k * 8, none⟩)) rfl (fun w8 hSw => by simp [go_sem, hltI]) (k := ?_); refine WT.tk (v := .pointer (some ⟨KB, o + k * 8, none⟩)) rfl (fun w8 hSw => by simp [go_sem]) (k := ?_); refine WT.take rfl (Or.inl ⟨by rfl, fun w8 hSw => jg (ql hSw.2.1)⟩) ?_
       try simp only [Act.put, pa, pb, pc]
       refine WT.step rfl (fun K hK => ?_)
       go_simp
       refine (C1.out _).mono ?_; rintro _ x2 ⟨rfl, hb⟩; have HS := jh (HS.out.later hb); have HB := jw HB hb; have h1 := jh (h1.out.later hb); have h2 := jh (h2.out.later hb); clear hb; refine hK.out _ _ (⟨HS.out, h1.out, h2.out⟩) (fun hHeld => ?_); clear hK K
       try simp only [Act.put, pa, pb, pc]
       iterate 2
        refine WT.tk (v := .bool false) rfl (fun w8 hSw => by kernel_rfl) (k := ?_)
       refine WT.tk (v := .pointer (some ⟨SB, 0, none⟩)) rfl (fun w8 hSw => by kernel_rfl) (k := ?_); refine WT.take rfl (Or.inl ⟨by rfl, fun w8 hSw => jg (qu hSw.1.grp)⟩) ?_
       try simp only [Act.put, pa, pb, pc]
       refine WT.tk (v := .pointer (some ⟨SB, 18, none⟩)) rfl (fun w8 hSw => by kernel_rfl) (k := ?_); refine WT.tk (v := .slice (some ⟨KB, o, none⟩) n cap) rfl (fun w8 hSw => jg (Qm hSw.1.nd)) (k := ?_); refine WT.tk (v := .int .i64 k) rfl (fun w8 hSw => by kernel_rfl) (k := ?_); refine WT.tk (v := .pointer (some ⟨KB, o + k * 8, none⟩)) rfl (fun w8 hSw => by simp [go_sem, hltI]) (k := ?_); refine WT.tk (v := .pointer (some ⟨KB, o + k * 8 + 4, none⟩)) rfl (fun w8 hSw => by simp [go_sem]) (k := ?_); refine WT.take rfl (Or.inl ⟨by rfl, fun w8 hSw => jg (ql hSw.2.2)⟩) ?_
       try simp only [Act.put, pa, pb, pc]
       refine WT.step rfl (fun K hK => ?_)
       go_simp
       refine (C2.out _).mono ?_; rintro _ x3 ⟨rfl, hb⟩; have HS := jh (HS.out.later hb); have HB := jw HB hb; have h1 := jh (h1.out.later hb); have h2 := jh (h2.out.later hb); clear hb; refine hK.out _ _ (⟨HS.out, h1.out, h2.out⟩) (fun hHeld => ?_); clear hK K
       try simp only [Act.put, pa, pb, pc]
       iterate 2
        refine WT.tk rfl (k := ?_)
       refine WT.done ?_; clear hHeld
       cases ky
       ·go_wp2_with fail
        go_roundw
        case rel => exact ⟨k + 1, by have := HLT.out; omega, by go_num, jh (by rw [HTK.out]; rfl), HS, HB⟩
        case measure => (simp [intOf]; have := HLT.out; omega)
       ·go_wp2_with fail
        go_ret
        exact ⟨by rw [HR.out, HAL.out rfl]; rfl, HB.out⟩
      ·skip
       refine jK (.take 0 (.take 1 (.take 2 (.take 3 (.take 4 (.take 5 (.take 6 (.take 7 (.step 8 (.take 9 (.take 10 (.take 11 (.take 12 (.take 13 (.take 14 (.take 15 (.take 16 (.take 17 (.take 18 (.step 19 (.take 20 (.take 21 .done)))))))))))))))))))))) (fun w8 => SAt w8 SB gp gq gg gh fa se (.slice (some ⟨KB, o, none⟩) n cap) ∧ NumO w8 KB (o + k * 8) x ∧ NumO w8 KB (o + k * 8 + 4) y) (by kernel_rfl) (by kernel_rfl) (fun _ _ _ _ _ h => h) (⟨HS.out.later ((Below.refl _ _).drew), NumO.later ((Below.refl _ _).drew) h1.out, NumO.later ((Below.refl _ _).drew) h2.out⟩) (fun hHeld => ?_); obtain ⟨x1, e1⟩ := je (wr.drew); rw [← e1]; have hb : Below wr.heap.size wr x1 := by rw [e1]; exact (Below.refl _ _).drew
       have HS := jh (HS.out.later hb); have HB := jw HB hb; have h1 := jh (h1.out.later hb); have h2 := jh (h2.out.later hb); clear hb e1; refine WT.tk rfl (k := ?_); refine WT.take rfl (Or.inl ⟨by rfl, fun w8 hSw => jg (qu hSw.1.grp)⟩) ?_
       try simp only [Act.put, pa, pb, pc]
       refine WT.tk rfl (k := ?_); refine WT.tk (v := .slice (some ⟨KB, o, none⟩) n cap) rfl (fun w8 hSw => jg (Qm hSw.1.nd)) (k := ?_); refine WT.tk rfl (k := ?_); refine WT.tk (v := .pointer (some ⟨KB, o + k * 8, none⟩)) rfl (fun w8 hSw => by simp [go_sem, hltI]) (k := ?_); refine WT.tk (v := .pointer (some ⟨KB, o + k * 8, none⟩)) rfl (fun w8 hSw => by simp [go_sem]) (k := ?_); refine WT.take rfl (Or.inl ⟨by rfl, fun w8 hSw => jg (ql hSw.2.1)⟩) ?_
       try simp only [Act.put, pa, pb, pc]
       refine WT.step rfl (fun K hK => ?_)
       go_simp
       refine (C1.out _).mono ?_; rintro _ x2 ⟨rfl, hb⟩; have HS := jh (HS.out.later hb); have HB := jw HB hb; have h1 := jh (h1.out.later hb); have h2 := jh (h2.out.later hb); clear hb; refine hK.out _ _ (⟨HS.out, h1.out, h2.out⟩) (fun hHeld => ?_); clear hK K
       try simp only [Act.put, pa, pb, pc]
       iterate 2
        refine WT.tk (v := .bool true) rfl (fun w8 hSw => by kernel_rfl) (k := ?_)
       iterate 8
        refine WT.tu rfl (k := ?_)
       refine WT.step rfl (fun K hK => ?_); refine ite_else (by rfl) ?_; refine hK.out _ _ (hHeld) (fun hHeld => ?_); clear hK K
       try simp only [Act.put, pa, pb, pc]
       refine WT.tu rfl (k := ?_); refine WT.tk (v := .bool true) rfl (fun w8 hSw => by kernel_rfl) (k := ?_); refine WT.done ?_; clear hHeld
       go_wp2_with fail
       go_ret
       exact ⟨by rw [HR.out, HAL.out rfl]; rfl, HB.out⟩
     ·have hkn : k = n := by omega
      have HR := jh (show R = true by rw [HR.out]; have h9 := HAN.out; rw [List.take_of_length_le (by rw [← HN.out]; omega)] at h9; rw [h9]; rfl); have hltI : ¬ (k : Int) < (n : Int) := by omega
      clear hkn hlt
      go_wp2_with fail
      go_ret
      exact ⟨by rw [HR.out]; rfl, HB.out⟩
   ·skip
    go_wp2_with fail
    go_ret
    exact ⟨by rw [HR.out]; rfl, HB.out⟩
  ·skip
   go_wp2_with fail
   go_ret
   exact ⟨by rw [HR.out]; rfl, HB.out⟩
theorem RLCheck_any {gp gq gg gh n cap fr tt t c s m cb : Nat} {fa se : Int} {ao ab : Option Addr} {ks : List (Nat × Nat)} {b : List Nat} (hx : ∀ k ∈ ks, k.1 < jj ∧ k.2 < jj) (hq : gq < jj) (hm : gp < jj) (hgg : gg < jj) (hgh : gh < jj) (hn : n = ks.length) (hfa : -9223372036854775808 ≤ fa ∧ fa ≤ 9223372036854775807) (hse : -9223372036854775808 ≤ se ∧ se ≤ 9223372036854775807) (hn9 : n ≤ 1000) (hfr : fr < 256) (hto : tt < 256) (ht : t < 256) (hc : c < jj) (hs : s < jj) (hmb : m = b.length) (hby : jO b) (hbl : b.length ≤ 70000) (w : World) (hk : 0 < n → ∃ b o, ao = some ⟨b, o, none⟩ ∧ KeysAt w b o ks) (hb : KAt .u8 w (.slice ab m cb) b) :
  Calls Tryz.prog 8 #[qd gp gq gg gh fa se (.slice ao n cap), qy fr tt (.slice ab m cb) c s, .int .u8 t] w fun e w' => e = .returned (.int .i64 (checkR gp gq gg gh fa se n ks fr tt t b c s : Nat)) ∧ Below w.heap.size w w' := by
 obtain ⟨R, hR⟩ := je (checkR gp gq gg gh fa se n ks fr tt t b c s); rw [← hR]; obtain ⟨st, hst⟩ := je (jB gp gq gg gh fa se n ks); have CD := jh (fun (W : World) (hb : Below w.heap.size w W) => by have h9 := RSetting_any (cap := cap) (ao := ao) hx hq hm hgg hgh hn hfa hse (by omega) W (fun h0 => by obtain ⟨b, o, h1, h2⟩ := hk h0; exact ⟨b, o, h1, h2.later hb⟩); rewrite [← hst] at h9; unfold qd at h9; exact h9); have CH := jh (fun (W : World) (h : KAt .u8 W (.slice ab m cb) b) => by have h9 := RHash20_any (c := c) (s := s) hfr hto W h hby (by omega); unfold qy at h9; exact h9); have HALL := jh (fun (h : jB gp gq gg gh fa se n ks = true) => chk_all h); have CN := jh (fun (x : Nat) (hx : x < 256) (W : World) => by have h9 := RNode_any (gp := gp) (gq := gq) (gg := gg) (gh := gh) (cap := cap) (fa := fa) (se := se) (ao := ao) hx hn9 W; unfold qd at h9; exact h9); have CN1 := jh (CN.out fr hfr); have CN2 := jh (CN.out tt hto); obtain ⟨n1, hn1⟩ := je (decide (1 ≤ fr ∧ fr ≤ n)); obtain ⟨n2, hn2⟩ := je (decide (1 ≤ tt ∧ tt ≤ n)); rw [← hn1] at CN1; rw [← hn2] at CN2
 have HE := jh (show qR n fr tt = (n1 && n2 && !decide (fr = tt)) by
  rw [hn1, hn2]
  apply Bool.eq_iff_iff.2
  rw [ends_iff]
  simp only [Bool.and_eq_true, decide_eq_true_eq, Bool.not_eq_true', decide_eq_false_iff_not, and_assoc, ne_eq])
 have HR := jh (show R = (if st = false then 1 else if (qR n fr tt && decide (tt = t)) = false then 4 else if 65536 < m then 3 else if zC gp gq gg (ks.getD (fr - 1) (0, 0)).1 c s (qJ fr tt b) = true then 0 else 10) by rw [hR, hst, hmb]; rfl); rw [HE.out] at HR; have CK := jh (fun (h : st = true) (i key k9 : Nat) (hki : ks[i]? = some (key, k9)) (W : World) => by have h8 := HALL.out (by rw [← hst]; exact h); have h7 := h8.2.2.2.2 _ (List.mem_of_getElem? hki); have h9 := RCheck_all (gh := gh) h8.2.2.2.1 hm hgg hgh h8.2.2.1 hq h7.1 h7.2 hc hs (zO fr tt b) (Zl fr tt b) W; unfold sigV jM ji words at h9; exact h9); have H7 := jh (fun (h : st = true) => show n ≤ 7 from (HALL.out (by rw [← hst]; exact h)).2.1); have HKK := jh hk; have HN := jh hn; have KB9 := jh hb; have HEN := jh (show n1 = true → 1 ≤ fr ∧ fr ≤ n from fun h => by rw [hn1] at h; exact of_decide_eq_true h); obtain ⟨T, hT⟩ := je ((jq .u8 (qJ fr tt b)).toArray); rw [← hT] at CH CK; have hmI2 : m ≤ 70000 := by omega
 clear hR hst HALL CN hn1 hn2 HE hx hq hm hgg hgh hn hfa hse hc hs hmb hby hbl hb hT hn9; unfold qd qy
 go_enter Tryz.func8, Tryz.ntmps8
 go_upto_region 1 with fail
 obtain ⟨v_0, e0⟩ := je (w.alloc (.cells #[.int .u64 (jf jd gp 0), .int .u64 (jf jd gp 1), .int .u64 (jf jd gp 2), .int .u64 (jf jd gp 3), .int .u64 (jf jd gq 0), .int .u64 (jf jd gq 1), .int .u64 (jf jd gq 2), .int .u64 (jf jd gq 3), .int .u64 (jf jd gg 0), .int .u64 (jf jd gg 1), .int .u64 (jf jd gg 2), .int .u64 (jf jd gg 3), .int .u64 (jf jd gh 0), .int .u64 (jf jd gh 1), .int .u64 (jf jd gh 2), .int .u64 (jf jd gh 3), .int .i64 fa, .int .i64 se, .slice ao n cap] 29)); obtain ⟨v_1, e1⟩ := je (v_0.alloc (.cells #[.int .u8 fr, .int .u8 tt, .slice ab m cb, .int .u64 (jf jd c 0), .int .u64 (jf jd c 1), .int .u64 (jf jd c 2), .int .u64 (jf jd c 3), .int .u64 (jf jd s 0), .int .u64 (jf jd s 1), .int .u64 (jf jd s 2), .int .u64 (jf jd s 3)] 34)); have s0 : v_0.heap.size = w.heap.size + 1 := by rw [e0]; simp
 have b0 := jc e0; have b1 := jc e1; have f0 : SAt v_0 w.heap.size gp gq gg gh fa se (.slice ao n cap) := by rw [e0]; exact SAt.new _ _ _ _ _ _ _ _ _
 have f1 : FrAt v_1 (w.heap.size + 1) fr tt (.slice ab m cb) c s := by rw [← s0, e1]; exact FrAt.new _ _ _ _ _ _ _
 rw [← e0, ← e1]; obtain ⟨SB, hSB⟩ := je (w.heap.size); rw [← hSB] at f0 f1 ⊢; obtain ⟨FB, hFB⟩ := je (SB + 1); rw [← hFB] at f1 ⊢; have HS := jh (f0.later b1); have HF := jh f1; have HB := jh (jk b0 b1); have KB9 := jh (KB9.out.later HB.out); clear e0 e1 s0 b0 b1 f0 f1 hSB hFB; refine wp_region_lit ?_; refine jo rfl (jg (JG HS.out)) ?_; simp only [Act.put, pa, pb, pc]
 go_wp2_with fail
 refine (CD.out _ HB.out).mono ?_; rintro _ v_2 ⟨rfl, hb⟩; have HS := jh (HS.out.later hb); have HF := jh (HF.out.later hb); have HB := jw HB hb; have KB9 := jh (KB9.out.later hb); clear hb
 cases st
 ·skip
  have HR := jh (show R = 1 by rw [HR.out]; rfl)
  go_wp2_with fail
  go_ret
  exact ⟨by rw [HR.out]; rfl, HB.out⟩
 have H7b := jh (H7.out rfl); have CKb := jh (CK.out rfl); clear H7 CK; have HR := jh (show R = (if ((n1 && n2 && !decide (fr = tt)) && decide (tt = t)) = false then 4 else if 65536 < m then 3 else if zC gp gq gg (ks.getD (fr - 1) (0, 0)).1 c s (qJ fr tt b) = true then 0 else 10) by rw [HR.out]; rfl)
 go_upto_region 3 with fail
 refine wp_region_lit ?_; refine jo rfl (jg (JG HS.out)) ?_; simp only [Act.put, pa, pb, pc]; refine jo (v := .pointer (some ⟨FB, 0, none⟩)) rfl (by kernel_rfl) ?_; simp only [Act.put, pa, pb, pc]; refine jo (v := .int .u8 fr) rfl (jg (zF HF.out.fr)) ?_; simp only [Act.put, pa, pb, pc]
 go_wp2_with fail
 refine (CN1.out _).mono ?_; rintro _ v_3 ⟨rfl, hb⟩; have HS := jh (HS.out.later hb); have HF := jh (HF.out.later hb); have HB := jw HB hb; have KB9 := jh (KB9.out.later hb); clear hb
 cases n1
 ·skip
  have HR := jh (show R = 4 by rw [HR.out]; rfl)
  go_wp2_with fail
  go_ret
  exact ⟨by rw [HR.out]; rfl, HB.out⟩
 have HENb := jh (HEN.out rfl); clear HEN; dsimp only
 go_step
 iterate 2
  refine jo (v := .bool false) rfl (by kernel_rfl) ?_; simp only [Act.put, pa, pb, pc]
 refine ju (by kernel_rfl) (jg (JG HS.out)) ?_; simp only [Act.put, pa, pb, pc]; refine ju (v := .pointer (some ⟨FB, 1, none⟩)) (by kernel_rfl) (by kernel_rfl) ?_; simp only [Act.put, pa, pb, pc]; refine ju (v := .int .u8 tt) (by kernel_rfl) (jg (zF HF.out.tt)) ?_; simp only [Act.put, pa, pb, pc]
 go_wp2_with fail
 refine (CN2.out _).mono ?_; rintro _ v_4 ⟨rfl, hb⟩; have HS := jh (HS.out.later hb); have HF := jh (HF.out.later hb); have HB := jw HB hb; have KB9 := jh (KB9.out.later hb); clear hb
 cases n2
 ·skip
  have HR := jh (show R = 4 by rw [HR.out]; rfl)
  go_wp2_with fail
  go_ret
  exact ⟨by rw [HR.out]; rfl, HB.out⟩
 by_cases hft : fr = tt
 ·have HR := jh (show R = 4 by rw [HR.out, decide_eq_true hft]; rfl); have hneI : ((fr : Int) == (tt : Int)) = true := by rw [hft]; simp
  clear hft; have y1 := HF.out.tt; have y0 := HF.out.fr
  by_cases htt : tt = t
  ·have hn2I : ((tt : Int) != (t : Int)) = false := by rw [htt]; simp
   clear htt
   go_wp2_with fail
   go_ret
   exact ⟨by rw [HR.out]; rfl, HB.out⟩
  ·have hn2I : ((tt : Int) != (t : Int)) = true := by simp; omega
   clear htt
   go_wp2_with fail
   go_ret
   exact ⟨by rw [HR.out]; rfl, HB.out⟩
 have hneI : ((fr : Int) == (tt : Int)) = false := by simpa using (show ¬ ((fr : Int) = (tt : Int)) by omega)
 have HR := jh (show R = (if decide (tt = t) = false then 4 else if 65536 < m then 3 else if zC gp gq gg (ks.getD (fr - 1) (0, 0)).1 c s (qJ fr tt b) = true then 0 else 10) by rw [HR.out, decide_eq_false hft]; rfl); clear hft
 by_cases htt : tt = t
 ·have HR := jh (show R = (if 65536 < m then 3 else if zC gp gq gg (ks.getD (fr - 1) (0, 0)).1 c s (qJ fr tt b) = true then 0 else 10) by rw [HR.out, decide_eq_true htt]; rfl); have hntI : ((tt : Int) != (t : Int)) = false := by rw [htt]; simp
  clear htt; have y1 := HF.out.tt; have y0 := HF.out.fr
  go_upto_region 5 with fail
  clear y1 hntI y0 hneI; have y2 := HF.out.bv
  by_cases hlong : 65536 < m
  ·have HR := jh (show R = 3 by rw [HR.out, if_pos hlong]); have hlI : (65536 : Int) < (m : Int) := by omega
   clear hlong
   go_wp2_with fail
   go_ret
   exact ⟨by rw [HR.out]; rfl, HB.out⟩
  have hlI : ¬ (65536 : Int) < (m : Int) := by omega
  have HR := jh (show R = (if zC gp gq gg (ks.getD (fr - 1) (0, 0)).1 c s (qJ fr tt b) = true then 0 else 10) by rw [HR.out, if_neg hlong]); clear hlong
  go_upto_region 7 with fail
  clear y2 hlI; obtain ⟨i, hfi⟩ : ∃ i, fr = i + 1 := ⟨fr - 1, by have := HENb.out; omega⟩; have hin9 : i < n := by have := HENb.out; omega
  obtain ⟨⟨key, k9⟩, hki⟩ : ∃ p, ks[i]? = some p := ⟨_, List.getElem?_eq_getElem (by rw [← HN.out]; exact hin9)⟩; obtain ⟨KB, o, hao, hks⟩ := HKK.out (by omega); subst hao; have HKB := jh (show NumO v_4 KB (o + i * 8) key from fun j hj => jm ((hks i _ hki).1 j hj) HB.out); have CKc := jh (CKb.out i key k9 hki); clear CKb; have hgd : (ks.getD (fr - 1) (0, 0)).1 = key := by rw [hfi, Nat.add_sub_cancel, List.getD_eq_getElem?_getD, hki]; rfl
  obtain ⟨so, hso⟩ := je (zC gp gq gg key c s (qJ fr tt b)); have HR := jh (show R = (if so = true then 0 else 10) by rw [HR.out, hgd, hso]); rw [← hso] at CKc; have hiI : (i : Int) < (n : Int) := by omega
  have h256 : i < 256 := by omega
  have E9 := jh (show IntKind.u8.wrap ((fr : Int) - 1) = (i : Int) by rw [hfi, show (((i + 1 : Nat) : Int) - 1) = (i : Int) by omega]; simp [IntKind.wrap, IntKind.bits, IntKind.signed]; omega); clear hfi hin9 hki hks hgd hso; refine jK (.take 0 (.take 1 (.take 2 (.take 3 (.take 4 (.take 5 (.take 6 (.take 7 (.take 8 (.take 9 (.take 10 (.take 12 (.take 13 (.step 11 (.step 14 (.take 15 .done)))))))))))))))) (fun w8 => SAt w8 SB gp gq gg gh fa se (.slice (some ⟨KB, o, none⟩) n cap) ∧ FrAt w8 FB fr tt (.slice ab m cb) c s ∧ NumO w8 KB (o + i * 8) key) (by kernel_rfl) (by kernel_rfl) (fun _ _ _ _ _ h => h) (⟨HS.out.later ((Below.refl _ _).drew), HF.out.later ((Below.refl _ _).drew), NumO.later ((Below.refl _ _).drew) HKB.out⟩) (fun hHeld => ?_); obtain ⟨x1, e1⟩ := je (v_4.drew); rw [← e1]; have hb : Below v_4.heap.size v_4 x1 := by rw [e1]; exact (Below.refl _ _).drew
  have HKB := jh (NumO.later hb HKB.out); have HS := jh (HS.out.later hb); have HF := jh (HF.out.later hb); have HB := jw HB hb; have KB9 := jh (KB9.out.later hb); clear hb e1; refine WT.tk rfl (k := ?_); refine WT.take rfl (Or.inl ⟨by rfl, fun w8 hSw => jg (qu hSw.1.grp)⟩) ?_
  try simp only [Act.put, pa, pb, pc]
  refine WT.tk rfl (k := ?_); refine WT.tk (v := .slice (some ⟨KB, o, none⟩) n cap) rfl (fun w8 hSw => jg (Qm hSw.1.nd)) (k := ?_); refine WT.tk rfl (k := ?_); refine WT.tk (v := .int .u8 fr) rfl (fun w8 hSw => jg (zF hSw.2.1.fr)) (k := ?_); refine WT.tk (v := .int .u8 i) rfl (fun w8 hSw => by have e9 := E9.out; simp [go_sem, e9]) (k := ?_); refine WT.tk (v := .pointer (some ⟨KB, o + i * 8, none⟩)) rfl (fun w8 hSw => by simp [go_sem, hiI]) (k := ?_); refine WT.tk (v := .pointer (some ⟨KB, o + i * 8, none⟩)) rfl (fun w8 hSw => by simp [go_sem]) (k := ?_); refine WT.take rfl (Or.inl ⟨by rfl, fun w8 hSw => jg (ql hSw.2.2)⟩) ?_
  try simp only [Act.put, pa, pb, pc]
  refine WT.take rfl (Or.inl ⟨by rfl, fun w8 hSw => jg (QN hSw.2.1)⟩) ?_
  try simp only [Act.put, pa, pb, pc]
  refine WT.tk rfl (k := ?_); refine WT.take rfl (Or.inl ⟨by rfl, fun w8 hSw => jg (Qu hSw.2.1.c hSw.2.1.s)⟩) ?_
  try simp only [Act.put, pa, pb, pc]
  refine WT.step rfl (fun K hK => ?_)
  go_simp
  refine (CH.out _ KB9.out).mono ?_; rintro _ x2 ⟨rfl, hb⟩; have HKB := jh (NumO.later hb HKB.out); have HS := jh (HS.out.later hb); have HF := jh (HF.out.later hb); have HB := jw HB hb; have KB9 := jh (KB9.out.later hb); clear hb; refine hK.out _ _ (⟨HS.out, HF.out, HKB.out⟩) (fun hHeld => ?_); clear hK K
  try simp only [Act.put, pa, pb, pc]
  refine WT.step rfl (fun K hK => ?_)
  go_simp
  refine (CKc.out _).mono ?_; rintro _ x3 ⟨rfl, hb⟩; have HKB := jh (NumO.later hb HKB.out); have HS := jh (HS.out.later hb); have HF := jh (HF.out.later hb); have HB := jw HB hb; have KB9 := jh (KB9.out.later hb); clear hb; refine hK.out _ _ (⟨HS.out, HF.out, HKB.out⟩) (fun hHeld => ?_); clear hK K
  try simp only [Act.put, pa, pb, pc]
  refine WT.tk rfl (k := ?_); refine WT.done ?_; clear hHeld
  cases so
  ·have HR := jh (show R = 10 by rw [HR.out]; rfl)
   go_wp2_with fail
   go_ret
   exact ⟨by rw [HR.out]; rfl, HB.out⟩
  ·have HR := jh (show R = 0 by rw [HR.out]; rfl)
   go_wp2_with fail
   go_ret
   exact ⟨by rw [HR.out]; rfl, HB.out⟩
 ·have HR := jh (show R = 4 by rw [HR.out, decide_eq_false htt]; rfl); have hneI2 : ((tt : Int) != (t : Int)) = true := by simp; omega
  clear htt; have y1 := HF.out.tt; have y0 := HF.out.fr
  go_wp2_with fail
  go_ret
  exact ⟨by rw [HR.out]; rfl, HB.out⟩
theorem linksCheck_walk {gp gq gg gh n cap fr tt t c s m cb : Nat} {fa se : Int} {ao ab : Option Addr} {ks : List (Nat × Nat)} {b : List Nat} (hm : gp < jj) (hq : gq < jj) (hgg : gg < jj) (hgh : gh < jj) (hfa : -9223372036854775808 ≤ fa ∧ fa ≤ 9223372036854775807) (hse : -9223372036854775808 ≤ se ∧ se ≤ 9223372036854775807) (hn : n = ks.length) (hx : ∀ k ∈ ks, k.1 < jj ∧ k.2 < jj) (hnM : n ≤ 9223372036854775807) (hfr : fr < 256) (hto : tt < 256) (ht : t < 256) (hc : c < jj) (hs : s < jj) (hmb : m = b.length) (hmM : m ≤ 9223372036854775807) (hby : jO b) (w : World) (hk : 0 < n → ∃ b o, ao = some ⟨b, o, none⟩ ∧ KeysAt w b o ks) (hb : KAt .u8 w (.slice ab m cb) b) :
  Calls Tryz.prog 3 #[qd gp gq gg gh fa se (.slice ao n cap), qy fr tt (.slice ab m cb) c s, .int .u8 t] w fun e w' => e = .returned (.bool true) ∧ Below w.heap.size w w' := by
 obtain ⟨R, hR⟩ := je (checkR gp gq gg gh fa se n ks fr tt t b c s); have CT := jh (fun (h1 : n ≤ 1000) (W : World) (hw : Below w.heap.size w W) => by have h9 := ZV (gp := gp) (gq := gq) (gg := gg) (gh := gh) (fa := fa) (se := se) (cap := cap) (ao := ao) hn h1 W (fun h0 => by obtain ⟨b, o, h1, h2⟩ := hk h0; exact ⟨b, o, h1, h2.later hw⟩); unfold qd at h9; exact h9); have CF := jh (fun (h1 : m ≤ 70000) (W : World) (hw : Below w.heap.size w W) => by have h9 := TwinFrame_any (fr := fr) (tt := tt) (c := c) (s := s) hmb (by omega) W (hb.later hw); unfold qy at h9; exact h9); have C1 := jh (fun (h1 : n ≤ 1000) (h2 : m ≤ 70000) (g o c9 : Nat) (a9 : Option Addr) (c8 : Nat) (B1 B2 : Nat) (W : World) (hT : TwinK W B1 g o c9 ks) (hF : Twin W B2 (.slice a9 m c8) b) => by have h9 := LCheckA_any (cap := c9) (ao := some ⟨g, o, none⟩) (ab := a9) (cb := c8) hx hq hm hgg hgh hn hfa hse h1 hfr hto ht hc hs hmb hby (by omega) W (fun _ => ⟨g, o, rfl, hT.keys⟩) hF.own.at_; rewrite [← hR] at h9; unfold qd qy at h9; exact h9); have C2 := jh (fun (h1 : n ≤ 1000) (h2 : m ≤ 70000) (W : World) (hw : Below w.heap.size w W) => by have h9 := RLCheck_any (cap := cap) (ao := ao) (ab := ab) (cb := cb) hx hq hm hgg hgh hn hfa hse h1 hfr hto ht hc hs hmb hby (by omega) W (fun h0 => by obtain ⟨b, o, h1, h2⟩ := hk h0; exact ⟨b, o, h1, h2.later hw⟩) (hb.later hw); rewrite [← hR] at h9; unfold qd qy at h9; exact h9); have C3 := jh (fun (h1 : n ≤ 1000) (g o c9 B1 : Nat) (W : World) (hw : Below w.heap.size w W) (hT : TwinK W B1 g o c9 ks) => by have h9 := ZW (cap := cap) (ao := ao) (fa := fa) (se := se) hx hm hq hgg hgh hn h1 W hT (fun h0 => by obtain ⟨b, o, h1, h2⟩ := hk h0; exact ⟨b, o, h1, h2.later hw⟩); unfold qd at h9; exact h9); have C4 := jh (fun (a9 : Option Addr) (c8 B2 : Nat) (W : World) (hw : Below w.heap.size w W) (hF : Twin W B2 (.slice a9 m c8) b) => by have h9 := LeftFrame_any (fr := fr) (tt := tt) hc hs W hF (hb.later hw); unfold qy at h9; exact h9); clear hR hx hq hm hgg hgh hn hfa hse hfr hto ht hc hs hmb hby hk hb; unfold qd qy
 go_enter Tryz.func3, Tryz.ntmps3
 go_upto_region 1 with fail
 obtain ⟨v_0, e0⟩ := je (w.alloc (.cells #[.int .u64 (jf jd gp 0), .int .u64 (jf jd gp 1), .int .u64 (jf jd gp 2), .int .u64 (jf jd gp 3), .int .u64 (jf jd gq 0), .int .u64 (jf jd gq 1), .int .u64 (jf jd gq 2), .int .u64 (jf jd gq 3), .int .u64 (jf jd gg 0), .int .u64 (jf jd gg 1), .int .u64 (jf jd gg 2), .int .u64 (jf jd gg 3), .int .u64 (jf jd gh 0), .int .u64 (jf jd gh 1), .int .u64 (jf jd gh 2), .int .u64 (jf jd gh 3), .int .i64 fa, .int .i64 se, .slice ao n cap] 29)); obtain ⟨v_1, e1⟩ := je (v_0.alloc (.cells #[.int .u8 fr, .int .u8 tt, .slice ab m cb, .int .u64 (jf jd c 0), .int .u64 (jf jd c 1), .int .u64 (jf jd c 2), .int .u64 (jf jd c 3), .int .u64 (jf jd s 0), .int .u64 (jf jd s 1), .int .u64 (jf jd s 2), .int .u64 (jf jd s 3)] 34)); have s0 : v_0.heap.size = w.heap.size + 1 := by rw [e0]; simp
 have b0 := jc e0; have b1 := jc e1; have f0 : SAt v_0 w.heap.size gp gq gg gh fa se (.slice ao n cap) := by rw [e0]; exact SAt.new _ _ _ _ _ _ _ _ _
 have f1 : FrAt v_1 (w.heap.size + 1) fr tt (.slice ab m cb) c s := by rw [← s0, e1]; exact FrAt.new _ _ _ _ _ _ _
 rw [← e0, ← e1]; obtain ⟨SB, hSB⟩ := je (w.heap.size); rw [← hSB] at f0 f1 ⊢; obtain ⟨FB, hFB⟩ := je (SB + 1); rw [← hFB] at f1 ⊢; have HS := jh (f0.later b1); have HF := jh f1; have HB := jh (jk b0 b1); clear e0 e1 s0 b0 b1 f0 f1 hSB hFB; have y1 := HF.out.bv; have y2 := HS.out.nd
 by_cases h1 : 70000 < m
 ·have h1I : (70000 : Int) < (m : Int) := by omega
  go_wp2_with (first | (go_at_call 4; refine (Lv.lives_any _).mono ?_; rintro _ wl ⟨rfl, hbl⟩; have HB := jw HB hbl; clear hbl))
  go_ret
  exact ⟨rfl, HB.out⟩
 have h1I : ¬ (70000 : Int) < (m : Int) := by omega
 by_cases h2 : 100 < n
 ·have h2I : (100 : Int) < (n : Int) := by omega
  go_wp2_with (first | (go_at_call 4; refine (Lv.lives_any _).mono ?_; rintro _ wl ⟨rfl, hbl⟩; have HB := jw HB hbl; clear hbl))
  go_ret
  exact ⟨rfl, HB.out⟩
 have h2I : ¬ (100 : Int) < (n : Int) := by omega
 have CT9 := jh (CT.out (by omega)); have CF9 := jh (CF.out (by omega)); have C19 := jh (C1.out (by omega) (by omega)); have C29 := jh (C2.out (by omega) (by omega)); have C39 := jh (C3.out (by omega)); clear CT CF C1 C2 C3
 go_upto_region 3 with fail
 clear y1 y2 h1 h2 h1I h2I; refine wp_region_lit ?_; refine jo rfl (jg (JG HS.out)) ?_; simp only [Act.put, pa, pb, pc]
 go_wp2_with fail
 refine (CT9.out _ HB.out).mono ?_; rintro _ v_2 ⟨g9, o9, c9, rfl, ht, hb⟩; have HT := jh ht; clear ht; have HS := jh (HS.out.later hb); have HF := jh (HF.out.later hb); have HB := jw HB hb; clear hb; dsimp only
 go_step
 refine qM (v := .pointer (some ⟨v_2.heap.size, 0, none⟩)) (w' := v_2.alloc (.cells #[.int .u64 0, .int .u64 0, .int .u64 0, .int .u64 0, .int .u64 0, .int .u64 0, .int .u64 0, .int .u64 0, .int .u64 0, .int .u64 0, .int .u64 0, .int .u64 0, .int .u64 0, .int .u64 0, .int .u64 0, .int .u64 0, .int .i64 0, .int .i64 0, .slice none 0 0] 29)) rfl (by kernel_rfl) ?_; simp only [Act.put, pa, pb, pc]; refine qj rfl _ _ _ rfl #[.int .u64 0, .int .u64 0, .int .u64 0, .int .u64 0, .int .u64 0, .int .u64 0, .int .u64 0, .int .u64 0, .int .u64 0, .int .u64 0, .int .u64 0, .int .u64 0, .int .u64 0, .int .u64 0, .int .u64 0, .int .u64 0, .int .i64 0, .int .i64 0, .slice none 0 0] #[.int .u64 (jf jd gp 0), .int .u64 (jf jd gp 1), .int .u64 (jf jd gp 2), .int .u64 (jf jd gp 3), .int .u64 (jf jd gq 0), .int .u64 (jf jd gq 1), .int .u64 (jf jd gq 2), .int .u64 (jf jd gq 3), .int .u64 (jf jd gg 0), .int .u64 (jf jd gg 1), .int .u64 (jf jd gg 2), .int .u64 (jf jd gg 3), .int .u64 (jf jd gh 0), .int .u64 (jf jd gh 1), .int .u64 (jf jd gh 2), .int .u64 (jf jd gh 3), .int .i64 fa, .int .i64 se, .slice (some ⟨g9, o9, none⟩) n c9] (by kernel_rfl) (by kernel_rfl) (by rw [Zi]; rfl) rfl (by simp [Value.oneCell']) ?_; simp only [Act.put, pa, pb, pc]
 go_upto_region 4 with fail
 obtain ⟨v_3, e9⟩ := je (v_2.alloc (.cells #[.int .u64 (jf jd gp 0), .int .u64 (jf jd gp 1), .int .u64 (jf jd gp 2), .int .u64 (jf jd gp 3), .int .u64 (jf jd gq 0), .int .u64 (jf jd gq 1), .int .u64 (jf jd gq 2), .int .u64 (jf jd gq 3), .int .u64 (jf jd gg 0), .int .u64 (jf jd gg 1), .int .u64 (jf jd gg 2), .int .u64 (jf jd gg 3), .int .u64 (jf jd gh 0), .int .u64 (jf jd gh 1), .int .u64 (jf jd gh 2), .int .u64 (jf jd gh 3), .int .i64 fa, .int .i64 se, .slice (some ⟨g9, o9, none⟩) n c9] 29)); obtain ⟨XB, h9⟩ := je (v_2.heap.size); have hb := jc e9; have HXS := jh (show SAt v_3 XB gp gq gg gh fa se (.slice (some ⟨g9, o9, none⟩) n c9) by rw [e9, h9]; exact SAt.new _ _ _ _ _ _ _ _ _); have LXB := jh (show XB < v_3.heap.size by rw [e9, h9]; simp); have WXB := jh (show v_2.heap.size = XB from h9.symm); rw [← e9, ← h9]; clear e9 h9; have HS := jh (HS.out.later hb); have HF := jh (HF.out.later hb); have HB := jw HB hb; have HT := jh (HT.out.later hb); clear hb; refine wp_region_lit ?_; refine jo rfl (jg (QN HF.out)) ?_; simp only [Act.put, pa, pb, pc]
 go_wp2_with fail
 refine (CF9.out _ HB.out).mono ?_; rintro _ v_4 ⟨a8, c8, rfl, ht, hb⟩; have HT2 := jh ht; clear ht; have HS := jh (HS.out.later hb); have HF := jh (HF.out.later hb); have HB := jw HB hb; have HT := jh (HT.out.later hb); have HXS := jh (HXS.out.later hb); have LXB := jl LXB hb.size; clear hb; dsimp only
 go_step
 refine qM (v := .pointer (some ⟨v_4.heap.size, 0, none⟩)) (w' := v_4.alloc (.cells #[.int .u8 0, .int .u8 0, .slice none 0 0, .int .u64 0, .int .u64 0, .int .u64 0, .int .u64 0, .int .u64 0, .int .u64 0, .int .u64 0, .int .u64 0] 34)) rfl (by kernel_rfl) ?_; simp only [Act.put, pa, pb, pc]; refine qj rfl _ _ _ rfl #[.int .u8 0, .int .u8 0, .slice none 0 0, .int .u64 0, .int .u64 0, .int .u64 0, .int .u64 0, .int .u64 0, .int .u64 0, .int .u64 0, .int .u64 0] #[.int .u8 fr, .int .u8 tt, .slice a8 m c8, .int .u64 (jf jd c 0), .int .u64 (jf jd c 1), .int .u64 (jf jd c 2), .int .u64 (jf jd c 3), .int .u64 (jf jd s 0), .int .u64 (jf jd s 1), .int .u64 (jf jd s 2), .int .u64 (jf jd s 3)] (by kernel_rfl) (by kernel_rfl) (by rw [info_fr]; rfl) rfl (by simp [Value.oneCell']) ?_; simp only [Act.put, pa, pb, pc]
 go_upto_region 5 with fail
 obtain ⟨v_5, e9⟩ := je (v_4.alloc (.cells #[.int .u8 fr, .int .u8 tt, .slice a8 m c8, .int .u64 (jf jd c 0), .int .u64 (jf jd c 1), .int .u64 (jf jd c 2), .int .u64 (jf jd c 3), .int .u64 (jf jd s 0), .int .u64 (jf jd s 1), .int .u64 (jf jd s 2), .int .u64 (jf jd s 3)] 34)); obtain ⟨YB, h9⟩ := je (v_4.heap.size); have hb := jc e9; have HYF := jh (show FrAt v_5 YB fr tt (.slice a8 m c8) c s by rw [e9, h9]; exact FrAt.new _ _ _ _ _ _ _); have LYB := jh (show YB < v_5.heap.size by rw [e9, h9]; simp); have WYB := jh (show v_4.heap.size = YB from h9.symm); rw [← e9, ← h9]; clear e9 h9; have HS := jh (HS.out.later hb); have HF := jh (HF.out.later hb); have HB := jw HB hb; have HT := jh (HT.out.later hb); have HXS := jh (HXS.out.later hb); have HT2 := jh (HT2.out.later hb); have LXB := jl LXB hb.size; clear hb; refine jK (.take 0 (.take 1 (.take 2 (.take 4 (.take 5 (.take 6 (.step 3 (.step 7 (.take 8 (.take 9 (.take 10 (.take 11 (.step 12 (.take 13 (.take 14 (.take 15 (.take 16 (.step 17 (.take 18 (.take 19 (.step 20 (.take 21 (.take 22 .done))))))))))))))))))))))) (fun w8 => (SAt w8 XB gp gq gg gh fa se (.slice (some ⟨g9, o9, none⟩) n c9) ∧ FrAt w8 YB fr tt (.slice a8 m c8) c s) ∧ (SAt w8 SB gp gq gg gh fa se (.slice ao n cap) ∧ FrAt w8 FB fr tt (.slice ab m cb) c s)) (by kernel_rfl) (by kernel_rfl) (fun _ _ _ _ _ h => h) (⟨⟨HXS.out.later ((Below.refl _ _).drew), HYF.out.later ((Below.refl _ _).drew)⟩, ⟨HS.out.later ((Below.refl _ _).drew), HF.out.later ((Below.refl _ _).drew)⟩⟩) (fun hHeld => ?_); obtain ⟨x1, e1⟩ := je (v_5.drew); rw [← e1]; have hb : Below v_5.heap.size v_5 x1 := by rw [e1]; exact (Below.refl _ _).drew
 have HS := jh (HS.out.later hb); have HF := jh (HF.out.later hb); have HB := jw HB hb; have HT := jh (HT.out.later hb); have HXS := jh (HXS.out.later hb); have HT2 := jh (HT2.out.later hb); have HYF := jh (HYF.out.later hb); clear hb e1; refine WT.take rfl (Or.inl ⟨by rfl, fun w8 hSw => jg (JG hSw.1.1)⟩) ?_
 try simp only [Act.put, pa, pb, pc]
 refine WT.take rfl (Or.inl ⟨by rfl, fun w8 hSw => jg (QN hSw.1.2)⟩) ?_
 try simp only [Act.put, pa, pb, pc]
 refine WT.tk rfl (k := ?_); refine WT.take rfl (Or.inl ⟨by rfl, fun w8 hSw => jg (JG hSw.2.1)⟩) ?_
 try simp only [Act.put, pa, pb, pc]
 refine WT.take rfl (Or.inl ⟨by rfl, fun w8 hSw => jg (QN hSw.2.2)⟩) ?_
 try simp only [Act.put, pa, pb, pc]
 refine WT.tk rfl (k := ?_); refine WT.step rfl (fun K hK => ?_)
 go_simp
 refine (C19.out _ _ _ _ _ _ _ _ HT.out HT2.out).mono ?_; rintro _ x2 ⟨rfl, hb⟩; have HS := jh (HS.out.later hb); have HF := jh (HF.out.later hb); have HB := jw HB hb; have HT := jh (HT.out.later hb); have HXS := jh (HXS.out.later hb); have HT2 := jh (HT2.out.later hb); have HYF := jh (HYF.out.later hb); clear hb; refine hK.out _ _ (⟨⟨HXS.out, HYF.out⟩, ⟨HS.out, HF.out⟩⟩) (fun hHeld => ?_); clear hK K
 try simp only [Act.put, pa, pb, pc]
 refine WT.step rfl (fun K hK => ?_)
 go_simp
 refine (C29.out _ HB.out).mono ?_; rintro _ x3 ⟨rfl, hb⟩; have HS := jh (HS.out.later hb); have HF := jh (HF.out.later hb); have HB := jw HB hb; have HT := jh (HT.out.later hb); have HXS := jh (HXS.out.later hb); have HT2 := jh (HT2.out.later hb); have HYF := jh (HYF.out.later hb); clear hb; refine hK.out _ _ (⟨⟨HXS.out, HYF.out⟩, ⟨HS.out, HF.out⟩⟩) (fun hHeld => ?_); clear hK K
 try simp only [Act.put, pa, pb, pc]
 refine WT.tk (v := .bool true) rfl (fun w8 hSw => by simp [go_sem]) (k := ?_); refine WT.tk rfl (k := ?_); refine WT.take rfl (Or.inl ⟨by rfl, fun w8 hSw => jg (JG hSw.1.1)⟩) ?_
 try simp only [Act.put, pa, pb, pc]
 refine WT.take rfl (Or.inl ⟨by rfl, fun w8 hSw => jg (JG hSw.2.1)⟩) ?_
 try simp only [Act.put, pa, pb, pc]
 refine WT.step rfl (fun K hK => ?_)
 go_simp
 refine (C39.out _ _ _ _ _ HB.out HT.out).mono ?_; rintro _ x4 ⟨rfl, hb⟩; have HS := jh (HS.out.later hb); have HF := jh (HF.out.later hb); have HB := jw HB hb; have HT := jh (HT.out.later hb); have HXS := jh (HXS.out.later hb); have HT2 := jh (HT2.out.later hb); have HYF := jh (HYF.out.later hb); clear hb; refine hK.out _ _ (⟨⟨HXS.out, HYF.out⟩, ⟨HS.out, HF.out⟩⟩) (fun hHeld => ?_); clear hK K
 try simp only [Act.put, pa, pb, pc]
 iterate 2
  refine WT.tk rfl (k := ?_)
 refine WT.take rfl (Or.inl ⟨by rfl, fun w8 hSw => jg (QN hSw.1.2)⟩) ?_
 try simp only [Act.put, pa, pb, pc]
 refine WT.take rfl (Or.inl ⟨by rfl, fun w8 hSw => jg (QN hSw.2.2)⟩) ?_
 try simp only [Act.put, pa, pb, pc]
 refine WT.step rfl (fun K hK => ?_)
 go_simp
 refine (C4.out _ _ _ _ HB.out HT2.out).mono ?_; rintro _ x5 ⟨rfl, hb⟩; have HS := jh (HS.out.later hb); have HF := jh (HF.out.later hb); have HB := jw HB hb; have HT := jh (HT.out.later hb); have HXS := jh (HXS.out.later hb); have HT2 := jh (HT2.out.later hb); have HYF := jh (HYF.out.later hb); clear hb; refine hK.out _ _ (⟨⟨HXS.out, HYF.out⟩, ⟨HS.out, HF.out⟩⟩) (fun hHeld => ?_); clear hK K
 try simp only [Act.put, pa, pb, pc]
 iterate 2
  refine WT.tk rfl (k := ?_)
 refine WT.step rfl (fun K hK => ?_)
 go_simp
 refine (Lv.lives_any _).mono ?_; rintro _ x6 ⟨rfl, hb⟩; have HS := jh (HS.out.later hb); have HF := jh (HF.out.later hb); have HB := jw HB hb; have HT := jh (HT.out.later hb); have HXS := jh (HXS.out.later hb); have HT2 := jh (HT2.out.later hb); have HYF := jh (HYF.out.later hb); clear hb; refine hK.out _ _ (⟨⟨HXS.out, HYF.out⟩, ⟨HS.out, HF.out⟩⟩) (fun hHeld => ?_); clear hK K
 try simp only [Act.put, pa, pb, pc]
 iterate 2
  refine WT.tk rfl (k := ?_)
 refine WT.done ?_; clear hHeld
 go_wp2_with fail
 go_ret
 exact ⟨rfl, HB.out⟩
end Go.Proofs.YtcaeaejefdhloaaGreat
