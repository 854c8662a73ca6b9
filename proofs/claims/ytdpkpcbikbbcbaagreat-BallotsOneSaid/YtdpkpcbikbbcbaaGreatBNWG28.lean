/- Layer 8 (groups) -/
import Derived.Test.YtdpkpcbikbbcbaaGreatBNWG27
set_option linter.unusedSimpArgs false
set_option linter.unusedVariables false
set_option maxHeartbeats 4000000
set_option maxRecDepth 100000
namespace Go.Proofs.YtdpkpcbikbbcbaaGreat
open Go.ChangeShapes Go.WideShapes Go.ChangeAt Go.RowKit
def Jg (gp a : Nat) : Prop := 1 < gp ∧ a ≠ 0 ∧ a < gp
instance (gp a : Nat) : Decidable (Jg gp a) := by unfold Jg; exact inferInstance
theorem may_any {gp gq gg gh a : Nat} (ha9 : a < jk) (hm : gp < jk) (w : World) :
  Calls Tryz.prog 38 #[.agg #[.int .u64 (jf jd gp 0), .int .u64 (jf jd gp 1), .int .u64 (jf jd gp 2), .int .u64 (jf jd gp 3), .int .u64 (jf jd gq 0), .int .u64 (jf jd gq 1), .int .u64 (jf jd gq 2), .int .u64 (jf jd gq 3), .int .u64 (jf jd gg 0), .int .u64 (jf jd gg 1), .int .u64 (jf jd gg 2), .int .u64 (jf jd gg 3), .int .u64 (jf jd gh 0), .int .u64 (jf jd gh 1), .int .u64 (jf jd gh 2), .int .u64 (jf jd gh 3)], jo a] w fun e w' => e = .returned (.bool (decide (Jg gp a))) ∧ Below w.heap.size w w' := by
 by_cases h : Jg gp a
 ·rw [decide_eq_true h]; exact may_yes h.1 h.2.1 h.2.2 hm w
 ·rw [decide_eq_false h]; unfold Jg at h
  by_cases h1 : 1 < gp
  ·by_cases h0 : a = 0
   ·exact may_zero h1 h0 ha9 hm w
   ·rcases Nat.lt_trichotomy a gp with h9 | h9 | h9
    ·exact absurd ⟨h1, h0, h9⟩ h
    ·exact may_eq h1 h0 h9 ha9 hm w
    ·exact may_gt h1 h0 h9 ha9 hm w
  ·rcases Nat.lt_or_ge gp 1 with h9 | h9
   ·exact may_low0 h9 ha9 hm w
   ·exact may_low1 (by omega) ha9 hm w
theorem Ja {gp gq gg gh a n : Nat} (h : Jg gp a) (ha9 : a < jk) (hn : n < jk) (hm : gp < jk) (w : World) :
  Calls Tryz.prog 22 #[.agg #[.int .u64 (jf jd gp 0), .int .u64 (jf jd gp 1), .int .u64 (jf jd gp 2), .int .u64 (jf jd gp 3), .int .u64 (jf jd gq 0), .int .u64 (jf jd gq 1), .int .u64 (jf jd gq 2), .int .u64 (jf jd gq 3), .int .u64 (jf jd gg 0), .int .u64 (jf jd gg 1), .int .u64 (jf jd gg 2), .int .u64 (jf jd gg 3), .int .u64 (jf jd gh 0), .int .u64 (jf jd gh 1), .int .u64 (jf jd gh 2), .int .u64 (jf jd gh 3)], jo a, jo n] w fun e w' => e = .returned (.tuple #[jo (a ^ n % gp), .int .i64 0]) ∧ Below w.heap.size w w' := by
 have CM := jh (fun w => by have h9 := may_any (gq := gq) (gg := gg) (gh := gh) ha9 hm w; rw [decide_eq_true h] at h9; unfold jo words at h9; exact h9); obtain ⟨q, hq⟩ := je (a ^ n % gp); have CE := jh (fun w => by have h9 := Exp_any h.2.2 h.1 hn hm w; rw [← hq] at h9; unfold jo words at h9; exact h9); rw [← hq]; clear hq; clear h ha9 hn hm; unfold jo words
 go_enter Tryz.func22, Tryz.ntmps22
 go_wp2_with fail
 obtain ⟨w0, e0⟩ := je (w.alloc (.cells #[.int .u64 (jf jd gp 0), .int .u64 (jf jd gp 1), .int .u64 (jf jd gp 2), .int .u64 (jf jd gp 3), .int .u64 (jf jd gq 0), .int .u64 (jf jd gq 1), .int .u64 (jf jd gq 2), .int .u64 (jf jd gq 3), .int .u64 (jf jd gg 0), .int .u64 (jf jd gg 1), .int .u64 (jf jd gg 2), .int .u64 (jf jd gg 3), .int .u64 (jf jd gh 0), .int .u64 (jf jd gh 1), .int .u64 (jf jd gh 2), .int .u64 (jf jd gh 3)] 26)); obtain ⟨GG, hGG⟩ := je (w.heap.size); have b0 := jc e0; have s0 : w0.heap.size = w.heap.size + 1 := by rw [e0]; simp
 have g0 : GrpAt w0 GG gp gq gg gh := by rw [e0, hGG]; exact GrpAt.new _ _ _ _ _ _
 rw [← e0, ← s0, ← hGG]; have HB0 := jh b0; clear e0 hGG b0 s0; obtain ⟨w_0, e_0⟩ := je (w0.alloc (.cells #[.int .u64 (jf jd a 0), .int .u64 (jf jd a 1), .int .u64 (jf jd a 2), .int .u64 (jf jd a 3)] 24)); have s_0 : w_0.heap.size = w0.heap.size + 1 := by rw [e_0]; simp
 have b_0 := jc e_0; have n_0 : NumAt w_0 (w0.heap.size) a := by rw [e_0]; exact NumAt.new w0 a _ _ rfl
 obtain ⟨w_1, e_1⟩ := je (w_0.alloc (.cells #[.int .u64 (jf jd n 0), .int .u64 (jf jd n 1), .int .u64 (jf jd n 2), .int .u64 (jf jd n 3)] 24)); have s_1 : w_1.heap.size = w0.heap.size + 1 + 1 := by rw [e_1]; simp [s_0]
 have b_1 := jc e_1; have n_1 : NumAt w_1 (w0.heap.size + 1) n := by rw [e_1]; exact NumAt.new w_0 n _ _ s_0.symm
 obtain ⟨wz, e_2⟩ := je (w_1.alloc (.cells #[.int .u64 0, .int .u64 0, .int .u64 0, .int .u64 0] 24)); have s_2 : wz.heap.size = w0.heap.size + 1 + 1 + 1 := by rw [e_2]; simp [s_1]
 have b_2 := jc e_2; have n_2 : NumAt wz (w0.heap.size + 1 + 1) 0 := by rw [e_2, ← s_1]; exact jD w_1 _
 have f_2 : FreeN wz (w0.heap.size + 1 + 1) 4 := by rw [e_2]; exact FreeN.made w_1 _ _ 4 _ s_1.symm
 rw [← e_0, ← e_1, ← e_2]; obtain ⟨AA, h_0⟩ := je (w0.heap.size); obtain ⟨NN, h_1⟩ := je (AA + 1); obtain ⟨RR, h_2⟩ := je (NN + 1); have hwL : w0.heap.size ≤ AA := by omega
 have hRd : RR < wz.heap.size := by omega
 rw [← h_0] at n_0 n_1 n_2 f_2 ⊢; rw [← h_1] at n_1 n_2 f_2 ⊢; rw [← h_2] at n_2 f_2 ⊢; have l_1 : AA < NN := by omega
 have l_2 : NN < RR := by omega
 have HAA := jh (NumAt.later b_2 (NumAt.later b_1 n_0)); have HNN := jh (NumAt.later b_2 n_1); have HRR := jh n_2; have HF := jh f_2; have B := jh ((b_0.trans (b_1.mono (by omega))).trans (b_2.mono (by omega))); have hwRR : w0.heap.size ≤ RR := by omega
 have HSZ := jh (show wz.heap.size = RR + 1 by omega); clear e_0 s_0 b_0 n_0 h_0 e_1 s_1 b_1 n_1 h_1 e_2 s_2 b_2 n_2 h_2 f_2; have G0 := jh (GrpAt.later B.out g0); clear g0; refine (CM.out _).mono ?_; rintro _ w2 ⟨rfl, hb⟩; have G0 := jh (GrpAt.later hb G0.out); have HAA := jn hb HAA; have HNN := jn hb HNN; have HRR := jn hb HRR; have HF := jh (HF.out.later hb hRd); have hRd := Nat.lt_of_lt_of_le hRd hb.size; have B := jw B hb; clear hb; have r_G_0 := G0.out.1 0 (by omega); have r_G_1 := G0.out.1 1 (by omega); have r_G_2 := G0.out.1 2 (by omega); have r_G_3 := G0.out.1 3 (by omega); simp only [Nat.reduceAdd] at r_G_0 r_G_1 r_G_2 r_G_3; obtain ⟨r_AA_0, r_AA_1, r_AA_2, r_AA_3⟩ := jM HAA.out; obtain ⟨r_NN_0, r_NN_1, r_NN_2, r_NN_3⟩ := jM HNN.out
 go_wp2_with fail
 clear r_AA_0 r_AA_1 r_AA_2 r_AA_3 r_NN_0 r_NN_1 r_NN_2 r_NN_3; clear r_G_0 r_G_1 r_G_2 r_G_3; refine (CE.out _).mono ?_; rintro _ w3 ⟨rfl, hb⟩; have HAA := jn hb HAA; have HNN := jn hb HNN; have HRR := jn hb HRR; have HF := jh (HF.out.later hb hRd); have hRd := Nat.lt_of_lt_of_le hRd hb.size; have B := jw B hb; clear hb; obtain ⟨c0, c1, c2, c3, f0, f1, f2, f3⟩ := jR HRR.out HF.out
 go_wp2_with fail
 have HRL := jh (NumAt.set4 HRR.out q); have B9 := jh (jA B.out hwRR (.int .u64 (jf jd q 0)) (.int .u64 (jf jd q 1)) (.int .u64 (jf jd q 2)) (.int .u64 (jf jd q 3))); obtain ⟨g0, g1, g2, g3⟩ := jM HRL.out; refine bodyPost_ret (v := .tuple #[.agg #[.int .u64 (jf jd q 0), .int .u64 (jf jd q 1), .int .u64 (jf jd q 2), .int .u64 (jf jd q 3)], .int .i64 0]) ?_ rfl ⟨rfl, jm HB0.out B9.out⟩
 simp [results, Tryz.results22, go_sem, g0, g1, g2, g3]
theorem gexp_no {gp gq gg gh a n : Nat} (h : ¬ Jg gp a) (ha9 : a < jk) (hn : n < jk) (hm : gp < jk) (w : World) :
  Calls Tryz.prog 22 #[.agg #[.int .u64 (jf jd gp 0), .int .u64 (jf jd gp 1), .int .u64 (jf jd gp 2), .int .u64 (jf jd gp 3), .int .u64 (jf jd gq 0), .int .u64 (jf jd gq 1), .int .u64 (jf jd gq 2), .int .u64 (jf jd gq 3), .int .u64 (jf jd gg 0), .int .u64 (jf jd gg 1), .int .u64 (jf jd gg 2), .int .u64 (jf jd gg 3), .int .u64 (jf jd gh 0), .int .u64 (jf jd gh 1), .int .u64 (jf jd gh 2), .int .u64 (jf jd gh 3)], jo a, jo n] w fun e w' => e = .returned (.tuple #[jo (0), .int .i64 1]) ∧ Below w.heap.size w w' := by
 have CM := jh (fun w => by have h9 := may_any (gq := gq) (gg := gg) (gh := gh) ha9 hm w; rw [decide_eq_false h] at h9; unfold jo words at h9; exact h9); clear h ha9 hn hm; unfold jo words
 go_enter Tryz.func22, Tryz.ntmps22
 go_wp2_with fail
 obtain ⟨w0, e0⟩ := je (w.alloc (.cells #[.int .u64 (jf jd gp 0), .int .u64 (jf jd gp 1), .int .u64 (jf jd gp 2), .int .u64 (jf jd gp 3), .int .u64 (jf jd gq 0), .int .u64 (jf jd gq 1), .int .u64 (jf jd gq 2), .int .u64 (jf jd gq 3), .int .u64 (jf jd gg 0), .int .u64 (jf jd gg 1), .int .u64 (jf jd gg 2), .int .u64 (jf jd gg 3), .int .u64 (jf jd gh 0), .int .u64 (jf jd gh 1), .int .u64 (jf jd gh 2), .int .u64 (jf jd gh 3)] 26)); obtain ⟨GG, hGG⟩ := je (w.heap.size); have b0 := jc e0; have s0 : w0.heap.size = w.heap.size + 1 := by rw [e0]; simp
 have g0 : GrpAt w0 GG gp gq gg gh := by rw [e0, hGG]; exact GrpAt.new _ _ _ _ _ _
 rw [← e0, ← s0, ← hGG]; have HB0 := jh b0; clear e0 hGG b0 s0; obtain ⟨w_0, e_0⟩ := je (w0.alloc (.cells #[.int .u64 (jf jd a 0), .int .u64 (jf jd a 1), .int .u64 (jf jd a 2), .int .u64 (jf jd a 3)] 24)); have s_0 : w_0.heap.size = w0.heap.size + 1 := by rw [e_0]; simp
 have b_0 := jc e_0; have n_0 : NumAt w_0 (w0.heap.size) a := by rw [e_0]; exact NumAt.new w0 a _ _ rfl
 obtain ⟨w_1, e_1⟩ := je (w_0.alloc (.cells #[.int .u64 (jf jd n 0), .int .u64 (jf jd n 1), .int .u64 (jf jd n 2), .int .u64 (jf jd n 3)] 24)); have s_1 : w_1.heap.size = w0.heap.size + 1 + 1 := by rw [e_1]; simp [s_0]
 have b_1 := jc e_1; have n_1 : NumAt w_1 (w0.heap.size + 1) n := by rw [e_1]; exact NumAt.new w_0 n _ _ s_0.symm
 obtain ⟨wz, e_2⟩ := je (w_1.alloc (.cells #[.int .u64 0, .int .u64 0, .int .u64 0, .int .u64 0] 24)); have s_2 : wz.heap.size = w0.heap.size + 1 + 1 + 1 := by rw [e_2]; simp [s_1]
 have b_2 := jc e_2; have n_2 : NumAt wz (w0.heap.size + 1 + 1) 0 := by rw [e_2, ← s_1]; exact jD w_1 _
 have f_2 : FreeN wz (w0.heap.size + 1 + 1) 4 := by rw [e_2]; exact FreeN.made w_1 _ _ 4 _ s_1.symm
 rw [← e_0, ← e_1, ← e_2]; obtain ⟨AA, h_0⟩ := je (w0.heap.size); obtain ⟨NN, h_1⟩ := je (AA + 1); obtain ⟨RR, h_2⟩ := je (NN + 1); have hwL : w0.heap.size ≤ AA := by omega
 have hRd : RR < wz.heap.size := by omega
 rw [← h_0] at n_0 n_1 n_2 f_2 ⊢; rw [← h_1] at n_1 n_2 f_2 ⊢; rw [← h_2] at n_2 f_2 ⊢; have l_1 : AA < NN := by omega
 have l_2 : NN < RR := by omega
 have HAA := jh (NumAt.later b_2 (NumAt.later b_1 n_0)); have HNN := jh (NumAt.later b_2 n_1); have HRR := jh n_2; have HF := jh f_2; have B := jh ((b_0.trans (b_1.mono (by omega))).trans (b_2.mono (by omega))); have hwRR : w0.heap.size ≤ RR := by omega
 have HSZ := jh (show wz.heap.size = RR + 1 by omega); clear e_0 s_0 b_0 n_0 h_0 e_1 s_1 b_1 n_1 h_1 e_2 s_2 b_2 n_2 h_2 f_2; have G0 := jh (GrpAt.later B.out g0); clear g0; refine (CM.out _).mono ?_; rintro _ w2 ⟨rfl, hb⟩; have G0 := jh (GrpAt.later hb G0.out); have HAA := jn hb HAA; have HNN := jn hb HNN; have HRR := jn hb HRR; have HF := jh (HF.out.later hb hRd); have hRd := Nat.lt_of_lt_of_le hRd hb.size; have B := jw B hb; clear hb; obtain ⟨c0, c1, c2, c3, f0, f1, f2, f3⟩ := jR HRR.out HF.out
 go_wp2_with fail
 refine bodyPost_ret (v := .tuple #[.agg #[.int .u64 0, .int .u64 0, .int .u64 0, .int .u64 0], .int .i64 1]) ?_ rfl ⟨by simp only [jK]; rfl, jm HB0.out (jA B.out hwRR _ _ _ _)⟩; have n9 := NumAt.set4 HRR.out 0; have z0 : ((jf jd 0 0 : Nat) : Int) = 0 := by rw [jK]; rfl
 have z1 : ((jf jd 0 1 : Nat) : Int) = 0 := by rw [jK]; rfl
 have z2 : ((jf jd 0 2 : Nat) : Int) = 0 := by rw [jK]; rfl
 have z3 : ((jf jd 0 3 : Nat) : Int) = 0 := by rw [jK]; rfl
 rw [z0, z1, z2, z3] at n9; obtain ⟨g0, g1, g2, g3⟩ := jM n9; rw [z0] at g0; rw [z1] at g1; rw [z2] at g2; rw [z3] at g3
 simp [results, Tryz.results22, go_sem, g0, g1, g2, g3]
end Go.Proofs.YtdpkpcbikbbcbaaGreat
