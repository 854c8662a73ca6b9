/- Layer 8 (groups) -/
import Derived.Test.YtcaeaejefdhloaaGreatZWG31
import Derived.Deep.DeepCutAuto
set_option linter.unusedSimpArgs false
set_option linter.unusedVariables false
set_option maxHeartbeats 4000000
set_option maxRecDepth 100000
namespace Go.Proofs.YtcaeaejefdhloaaGreat
open Go.ChangeShapes Go.WideShapes Go.ChangeAt Go.RowKit
def jM (gp gq gg gh : Nat) : Value := .agg #[.int .u64 (jf jd gp 0), .int .u64 (jf jd gp 1), .int .u64 (jf jd gp 2), .int .u64 (jf jd gp 3), .int .u64 (jf jd gq 0), .int .u64 (jf jd gq 1), .int .u64 (jf jd gq 2), .int .u64 (jf jd gq 3), .int .u64 (jf jd gg 0), .int .u64 (jf jd gg 1), .int .u64 (jf jd gg 2), .int .u64 (jf jd gg 3), .int .u64 (jf jd gh 0), .int .u64 (jf jd gh 1), .int .u64 (jf jd gh 2), .int .u64 (jf jd gh 3)]
def Zx (gp gq a : Nat) : Prop := zL gp a ∧ a ^ gq % gp = 1
instance (gp gq a : Nat) : Decidable (Zx gp gq a) := by unfold Zx; exact inferInstance
theorem in_yes {gp gq gg gh a : Nat} (h : zL gp a) (ha9 : a < jj) (hq : gq < jj) (hm : gp < jj) (w : World) :
  Calls Tryz.prog 30 #[jM gp gq gg gh, ji a] w fun e w' => e = .returned (.bool (decide (Zx gp gq a))) ∧ Below w.heap.size w w' := by
 unfold jM; obtain ⟨x, hx⟩ := je (a ^ gq % gp); have hxl : x < jj := by rw [hx]; exact Nat.lt_trans (Nat.mod_lt _ (by have := h.1; omega)) hm
 have CE := jh (fun w => by have h9 := gexp_yes (gq := gq) (gg := gg) (gh := gh) h ha9 hq hm w; rw [← hx] at h9; unfold ji words at h9; exact h9); have heq := zV x 1 hxl (by decide); obtain ⟨d, hd⟩ := je (decide (x = 1)); have hdd : decide (Zx gp gq a) = d := by rw [hd]; exact decide_eq_decide.2 ⟨fun h9 => hx.trans h9.2, fun h9 => ⟨h, hx.symm.trans h9⟩⟩
 rw [hdd]; rw [← hd] at heq; have C1 := jh (fun w => by have h := qO 1 1 rfl (by decide) w; unfold ji words at h; exact h); clear hx hxl hd hdd; clear h ha9 hq hm; unfold ji words
 go_enter Tryz.func30, Tryz.ntmps30
 go_wp2_with fail
 obtain ⟨w0, e0⟩ := je (w.alloc (.cells #[.int .u64 (jf jd gp 0), .int .u64 (jf jd gp 1), .int .u64 (jf jd gp 2), .int .u64 (jf jd gp 3), .int .u64 (jf jd gq 0), .int .u64 (jf jd gq 1), .int .u64 (jf jd gq 2), .int .u64 (jf jd gq 3), .int .u64 (jf jd gg 0), .int .u64 (jf jd gg 1), .int .u64 (jf jd gg 2), .int .u64 (jf jd gg 3), .int .u64 (jf jd gh 0), .int .u64 (jf jd gh 1), .int .u64 (jf jd gh 2), .int .u64 (jf jd gh 3)] 26)); obtain ⟨GG, hGG⟩ := je (w.heap.size); have b0 := jc e0; have s0 : w0.heap.size = w.heap.size + 1 := by rw [e0]; simp
 have g0 : GrpAt w0 GG gp gq gg gh := by rw [e0, hGG]; exact GrpAt.new _ _ _ _ _ _
 rw [← e0, ← s0, ← hGG]; have HB0 := jh b0; clear e0 hGG b0 s0; obtain ⟨wz, e_0⟩ := je (w0.alloc (.cells #[.int .u64 (jf jd a 0), .int .u64 (jf jd a 1), .int .u64 (jf jd a 2), .int .u64 (jf jd a 3)] 24)); have s_0 : wz.heap.size = w0.heap.size + 1 := by rw [e_0]; simp
 have b_0 := jc e_0; have n_0 : NumAt wz (w0.heap.size) a := by rw [e_0]; exact NumAt.new w0 a _ _ rfl
 rw [← e_0]; obtain ⟨AA, h_0⟩ := je (w0.heap.size); have hwL : w0.heap.size ≤ AA := by omega
 have hRd : AA < wz.heap.size := by omega
 rw [← h_0] at n_0 ⊢; have HAA := jh n_0; have B := jh b_0; have hwAA : w0.heap.size ≤ AA := by omega
 have HSZ := jh (show wz.heap.size = AA + 1 by omega); clear e_0 s_0 b_0 n_0 h_0; clear g0; refine (CE.out _).mono ?_; rintro _ w2 ⟨rfl, hb⟩; have B := jw B hb; clear hb hRd HAA
 go_upto_region 2 with fail
 obtain ⟨w3, e3⟩ := je (w2.alloc (.cells #[.int .u64 (jf jd x 0), .int .u64 (jf jd x 1), .int .u64 (jf jd x 2), .int .u64 (jf jd x 3)] 24)); obtain ⟨XX, hXX⟩ := je (w2.heap.size); have hb := jc e3; have HXX := jh (show NumAt w3 XX x by rw [e3, hXX]; exact NumAt.new _ _ _ _ rfl); have hRd : XX < w3.heap.size := HXX.out.lt; have B := jw B hb; rw [← e3, ← hXX]; clear e3 hXX hb; refine jv 7 (fun _ => none) (by kernel_rfl) (by kernel_rfl) (fun _ _ _ _ _ h => h) (fun F hn9 hcl hbl => ?_); have r_XX_0 := jr hbl HXX 0 (by omega); have r_XX_1 := jr hbl HXX 1 (by omega); have r_XX_2 := jr hbl HXX 2 (by omega); have r_XX_3 := jr hbl HXX 3 (by omega); have HCL := jh hcl; clear hcl hbl; refine jG 7 0 _ _ (fun _ _ _ => rfl) (by decide) ?_; simp only [List.take_succ_cons, List.take_zero, List.drop_succ_cons, List.drop_zero, Nat.reduceAdd]
 repeat (go_big_quiet_step ((first | (go_at_call 49; with_reducible exact js HCL.out (C1.out _)))))
 refine wpQuiet_nil ?_; refine jI ?_; intro bs w4 hb _ _; clear r_XX_0 r_XX_1 r_XX_2 r_XX_3; have HXX := jn hb HXX; have hRd := Nat.lt_of_lt_of_le hRd hb.size; have B := jw B hb; clear hb; simp only [qx]
 go_wp2_with fail
 refine bodyPost_ret (v := .bool d) ?_ rfl ⟨rfl, jk HB0.out B.out⟩
 simp [results, Tryz.results30, go_sem]
theorem in_no {gp gq gg gh a : Nat} (h : ¬ zL gp a) (ha9 : a < jj) (hq : gq < jj) (hm : gp < jj) (w : World) :
  Calls Tryz.prog 30 #[jM gp gq gg gh, ji a] w fun e w' => e = .returned (.bool (decide (Zx gp gq a))) ∧ Below w.heap.size w w' := by
 unfold jM; obtain ⟨x, hx⟩ := je (0); have hx2 : ji 0 = ji x := by rw [hx]
 have CE := jh (fun w => by have h9 := gexp_no (gq := gq) (gg := gg) (gh := gh) h ha9 hq hm w; rw [hx2] at h9; unfold ji words at h9; exact h9); have hdd : decide (Zx gp gq a) = false := decide_eq_false (fun h9 => h h9.1); rw [hdd]; have C1 := jh (fun w => by have h := qO 1 1 rfl (by decide) w; unfold ji words at h; exact h); clear hdd hx hx2; clear h ha9 hq hm; unfold ji words
 go_enter Tryz.func30, Tryz.ntmps30
 go_wp2_with fail
 obtain ⟨w0, e0⟩ := je (w.alloc (.cells #[.int .u64 (jf jd gp 0), .int .u64 (jf jd gp 1), .int .u64 (jf jd gp 2), .int .u64 (jf jd gp 3), .int .u64 (jf jd gq 0), .int .u64 (jf jd gq 1), .int .u64 (jf jd gq 2), .int .u64 (jf jd gq 3), .int .u64 (jf jd gg 0), .int .u64 (jf jd gg 1), .int .u64 (jf jd gg 2), .int .u64 (jf jd gg 3), .int .u64 (jf jd gh 0), .int .u64 (jf jd gh 1), .int .u64 (jf jd gh 2), .int .u64 (jf jd gh 3)] 26)); obtain ⟨GG, hGG⟩ := je (w.heap.size); have b0 := jc e0; have s0 : w0.heap.size = w.heap.size + 1 := by rw [e0]; simp
 have g0 : GrpAt w0 GG gp gq gg gh := by rw [e0, hGG]; exact GrpAt.new _ _ _ _ _ _
 rw [← e0, ← s0, ← hGG]; have HB0 := jh b0; clear e0 hGG b0 s0; obtain ⟨wz, e_0⟩ := je (w0.alloc (.cells #[.int .u64 (jf jd a 0), .int .u64 (jf jd a 1), .int .u64 (jf jd a 2), .int .u64 (jf jd a 3)] 24)); have s_0 : wz.heap.size = w0.heap.size + 1 := by rw [e_0]; simp
 have b_0 := jc e_0; have n_0 : NumAt wz (w0.heap.size) a := by rw [e_0]; exact NumAt.new w0 a _ _ rfl
 rw [← e_0]; obtain ⟨AA, h_0⟩ := je (w0.heap.size); have hwL : w0.heap.size ≤ AA := by omega
 have hRd : AA < wz.heap.size := by omega
 rw [← h_0] at n_0 ⊢; have HAA := jh n_0; have B := jh b_0; have hwAA : w0.heap.size ≤ AA := by omega
 have HSZ := jh (show wz.heap.size = AA + 1 by omega); clear e_0 s_0 b_0 n_0 h_0; clear g0; refine (CE.out _).mono ?_; rintro _ w2 ⟨rfl, hb⟩; have B := jw B hb; clear hb hRd HAA
 go_upto_region 2 with fail
 obtain ⟨w3, e3⟩ := je (w2.alloc (.cells #[.int .u64 (jf jd x 0), .int .u64 (jf jd x 1), .int .u64 (jf jd x 2), .int .u64 (jf jd x 3)] 24)); obtain ⟨XX, hXX⟩ := je (w2.heap.size); have hb := jc e3; have HXX := jh (show NumAt w3 XX x by rw [e3, hXX]; exact NumAt.new _ _ _ _ rfl); have hRd : XX < w3.heap.size := HXX.out.lt; have B := jw B hb; rw [← e3, ← hXX]; clear e3 hXX hb; refine jv 7 (fun _ => none) (by kernel_rfl) (by kernel_rfl) (fun _ _ _ _ _ h => h) (fun F hn9 hcl hbl => ?_); have r_XX_0 := jr hbl HXX 0 (by omega); have r_XX_1 := jr hbl HXX 1 (by omega); have r_XX_2 := jr hbl HXX 2 (by omega); have r_XX_3 := jr hbl HXX 3 (by omega); have HCL := jh hcl; clear hcl hbl; refine jG 7 0 _ _ (fun _ _ _ => rfl) (by decide) ?_; simp only [List.take_succ_cons, List.take_zero, List.drop_succ_cons, List.drop_zero, Nat.reduceAdd]
 repeat (go_big_quiet_step ((first | (go_at_call 49; with_reducible exact js HCL.out (C1.out _)))))
 refine wpQuiet_nil ?_; refine jI ?_; intro bs w4 hb _ _; clear r_XX_0 r_XX_1 r_XX_2 r_XX_3; have HXX := jn hb HXX; have hRd := Nat.lt_of_lt_of_le hRd hb.size; have B := jw B hb; clear hb; simp only [qx]
 go_wp2_with fail
 refine bodyPost_ret (v := .bool false) ?_ rfl ⟨rfl, jk HB0.out B.out⟩
 simp [results, Tryz.results30, go_sem]
theorem In_any {gp gq gg gh a : Nat} (ha9 : a < jj) (hq : gq < jj) (hm : gp < jj) (w : World) :
  Calls Tryz.prog 30 #[jM gp gq gg gh, ji a] w fun e w' => e = .returned (.bool (decide (Zx gp gq a))) ∧ Below w.heap.size w w' := by
 by_cases h : zL gp a
 ·exact in_yes h ha9 hq hm w
 ·exact in_no h ha9 hq hm w
theorem SAdd_any {gp gq gg gh a b : Nat} (ha : a < gq) (hb9 : b < gq) (h1 : 1 < gq) (hm : gq < jj) (w : World) :
  Calls Tryz.prog 50 #[jM gp gq gg gh, ji a, ji b] w fun e w' => e = .returned (.tuple #[ji ((a + b) % gq), .int .i64 0]) ∧ Below w.heap.size w w' := by
 unfold jM; obtain ⟨q, hq⟩ := je ((a + b) % gq); have CE := jh (fun w => by have h9 := Add_any ha h1 hb9 hm w; rw [← hq] at h9; unfold ji words at h9; exact h9); rw [← hq]; clear hq ha hb9 h1 hm; unfold ji words
 go_enter Tryz.func50, Tryz.ntmps50
 go_upto_region 1 with fail
 obtain ⟨w0, e0⟩ := je (w.alloc (.cells #[.int .u64 (jf jd gp 0), .int .u64 (jf jd gp 1), .int .u64 (jf jd gp 2), .int .u64 (jf jd gp 3), .int .u64 (jf jd gq 0), .int .u64 (jf jd gq 1), .int .u64 (jf jd gq 2), .int .u64 (jf jd gq 3), .int .u64 (jf jd gg 0), .int .u64 (jf jd gg 1), .int .u64 (jf jd gg 2), .int .u64 (jf jd gg 3), .int .u64 (jf jd gh 0), .int .u64 (jf jd gh 1), .int .u64 (jf jd gh 2), .int .u64 (jf jd gh 3)] 26)); obtain ⟨GG, hGG⟩ := je (w.heap.size); have b0 := jc e0; have s0 : w0.heap.size = w.heap.size + 1 := by rw [e0]; simp
 have g0 : GrpAt w0 GG gp gq gg gh := by rw [e0, hGG]; exact GrpAt.new _ _ _ _ _ _
 rw [← e0, ← s0, ← hGG]; have HB0 := jh b0; clear e0 hGG b0 s0; obtain ⟨w_0, e_0⟩ := je (w0.alloc (.cells #[.int .u64 (jf jd a 0), .int .u64 (jf jd a 1), .int .u64 (jf jd a 2), .int .u64 (jf jd a 3)] 24)); have s_0 : w_0.heap.size = w0.heap.size + 1 := by rw [e_0]; simp
 have b_0 := jc e_0; have n_0 : NumAt w_0 (w0.heap.size) a := by rw [e_0]; exact NumAt.new w0 a _ _ rfl
 obtain ⟨w_1, e_1⟩ := je (w_0.alloc (.cells #[.int .u64 (jf jd b 0), .int .u64 (jf jd b 1), .int .u64 (jf jd b 2), .int .u64 (jf jd b 3)] 24)); have s_1 : w_1.heap.size = w0.heap.size + 1 + 1 := by rw [e_1]; simp [s_0]
 have b_1 := jc e_1; have n_1 : NumAt w_1 (w0.heap.size + 1) b := by rw [e_1]; exact NumAt.new w_0 b _ _ s_0.symm
 obtain ⟨wz, e_2⟩ := je (w_1.alloc (.cells #[.int .u64 0, .int .u64 0, .int .u64 0, .int .u64 0] 24)); have s_2 : wz.heap.size = w0.heap.size + 1 + 1 + 1 := by rw [e_2]; simp [s_1]
 have b_2 := jc e_2; have n_2 : NumAt wz (w0.heap.size + 1 + 1) 0 := by rw [e_2, ← s_1]; exact jz w_1 _
 have f_2 : FreeN wz (w0.heap.size + 1 + 1) 4 := by rw [e_2]; exact FreeN.made w_1 _ _ 4 _ s_1.symm
 rw [← e_0, ← e_1, ← e_2]; obtain ⟨AA, h_0⟩ := je (w0.heap.size); obtain ⟨BB, h_1⟩ := je (AA + 1); obtain ⟨RR, h_2⟩ := je (BB + 1); have hwL : w0.heap.size ≤ AA := by omega
 have hRd : RR < wz.heap.size := by omega
 rw [← h_0] at n_0 n_1 n_2 f_2 ⊢; rw [← h_1] at n_1 n_2 f_2 ⊢; rw [← h_2] at n_2 f_2 ⊢; have l_1 : AA < BB := by omega
 have l_2 : BB < RR := by omega
 have HAA := jh (NumAt.later b_2 (NumAt.later b_1 n_0)); have HBB := jh (NumAt.later b_2 n_1); have HRR := jh n_2; have HF := jh f_2; have B := jh ((b_0.trans (b_1.mono (by omega))).trans (b_2.mono (by omega))); have hwRR : w0.heap.size ≤ RR := by omega
 have HSZ := jh (show wz.heap.size = RR + 1 by omega); clear e_0 s_0 b_0 n_0 h_0 e_1 s_1 b_1 n_1 h_1 e_2 s_2 b_2 n_2 h_2 f_2; have G0 := jh (GrpAt.later B.out g0); clear g0; have r_G_0 := G0.out.2.1 0 (by omega); have r_G_1 := G0.out.2.1 1 (by omega); have r_G_2 := G0.out.2.1 2 (by omega); have r_G_3 := G0.out.2.1 3 (by omega); simp only [Nat.reduceAdd] at r_G_0 r_G_1 r_G_2 r_G_3; obtain ⟨r_AA_0, r_AA_1, r_AA_2, r_AA_3⟩ := jy HAA.out; obtain ⟨r_BB_0, r_BB_1, r_BB_2, r_BB_3⟩ := jy HBB.out
 go_wp2_with fail
 clear r_AA_0 r_AA_1 r_AA_2 r_AA_3 r_BB_0 r_BB_1 r_BB_2 r_BB_3; clear r_G_0 r_G_1 r_G_2 r_G_3; refine (CE.out _).mono ?_; rintro _ w3 ⟨rfl, hb⟩; have HAA := jn hb HAA; have HBB := jn hb HBB; have HRR := jn hb HRR; have HF := jh (HF.out.later hb hRd); have hRd := Nat.lt_of_lt_of_le hRd hb.size; have B := jw B hb; clear hb; obtain ⟨c0, c1, c2, c3, f0, f1, f2, f3⟩ := jC HRR.out HF.out
 go_wp2_with fail
 have HRL := jh (NumAt.set4 HRR.out q); have B9 := jh (jp B.out hwRR (.int .u64 (jf jd q 0)) (.int .u64 (jf jd q 1)) (.int .u64 (jf jd q 2)) (.int .u64 (jf jd q 3))); obtain ⟨g0, g1, g2, g3⟩ := jy HRL.out; refine bodyPost_ret (v := .tuple #[.agg #[.int .u64 (jf jd q 0), .int .u64 (jf jd q 1), .int .u64 (jf jd q 2), .int .u64 (jf jd q 3)], .int .i64 0]) ?_ rfl ⟨rfl, jk HB0.out B9.out⟩
 simp [results, Tryz.results50, go_sem, g0, g1, g2, g3]
theorem SSub_any {gp gq gg gh a b : Nat} (ha : a < gq) (hb9 : b < gq) (h1 : 1 < gq) (hm : gq < jj) (w : World) :
  Calls Tryz.prog 32 #[jM gp gq gg gh, ji a, ji b] w fun e w' => e = .returned (.tuple #[ji ((a + gq - b) % gq), .int .i64 0]) ∧ Below w.heap.size w w' := by
 unfold jM; obtain ⟨q, hq⟩ := je ((a + gq - b) % gq); have CE := jh (fun w => by have h9 := Sub_any ha h1 hb9 hm w; rw [← hq] at h9; unfold ji words at h9; exact h9); rw [← hq]; clear hq ha hb9 h1 hm; unfold ji words
 go_enter Tryz.func32, Tryz.ntmps32
 go_upto_region 1 with fail
 obtain ⟨w0, e0⟩ := je (w.alloc (.cells #[.int .u64 (jf jd gp 0), .int .u64 (jf jd gp 1), .int .u64 (jf jd gp 2), .int .u64 (jf jd gp 3), .int .u64 (jf jd gq 0), .int .u64 (jf jd gq 1), .int .u64 (jf jd gq 2), .int .u64 (jf jd gq 3), .int .u64 (jf jd gg 0), .int .u64 (jf jd gg 1), .int .u64 (jf jd gg 2), .int .u64 (jf jd gg 3), .int .u64 (jf jd gh 0), .int .u64 (jf jd gh 1), .int .u64 (jf jd gh 2), .int .u64 (jf jd gh 3)] 26)); obtain ⟨GG, hGG⟩ := je (w.heap.size); have b0 := jc e0; have s0 : w0.heap.size = w.heap.size + 1 := by rw [e0]; simp
 have g0 : GrpAt w0 GG gp gq gg gh := by rw [e0, hGG]; exact GrpAt.new _ _ _ _ _ _
 rw [← e0, ← s0, ← hGG]; have HB0 := jh b0; clear e0 hGG b0 s0; obtain ⟨w_0, e_0⟩ := je (w0.alloc (.cells #[.int .u64 (jf jd a 0), .int .u64 (jf jd a 1), .int .u64 (jf jd a 2), .int .u64 (jf jd a 3)] 24)); have s_0 : w_0.heap.size = w0.heap.size + 1 := by rw [e_0]; simp
 have b_0 := jc e_0; have n_0 : NumAt w_0 (w0.heap.size) a := by rw [e_0]; exact NumAt.new w0 a _ _ rfl
 obtain ⟨w_1, e_1⟩ := je (w_0.alloc (.cells #[.int .u64 (jf jd b 0), .int .u64 (jf jd b 1), .int .u64 (jf jd b 2), .int .u64 (jf jd b 3)] 24)); have s_1 : w_1.heap.size = w0.heap.size + 1 + 1 := by rw [e_1]; simp [s_0]
 have b_1 := jc e_1; have n_1 : NumAt w_1 (w0.heap.size + 1) b := by rw [e_1]; exact NumAt.new w_0 b _ _ s_0.symm
 obtain ⟨wz, e_2⟩ := je (w_1.alloc (.cells #[.int .u64 0, .int .u64 0, .int .u64 0, .int .u64 0] 24)); have s_2 : wz.heap.size = w0.heap.size + 1 + 1 + 1 := by rw [e_2]; simp [s_1]
 have b_2 := jc e_2; have n_2 : NumAt wz (w0.heap.size + 1 + 1) 0 := by rw [e_2, ← s_1]; exact jz w_1 _
 have f_2 : FreeN wz (w0.heap.size + 1 + 1) 4 := by rw [e_2]; exact FreeN.made w_1 _ _ 4 _ s_1.symm
 rw [← e_0, ← e_1, ← e_2]; obtain ⟨AA, h_0⟩ := je (w0.heap.size); obtain ⟨BB, h_1⟩ := je (AA + 1); obtain ⟨RR, h_2⟩ := je (BB + 1); have hwL : w0.heap.size ≤ AA := by omega
 have hRd : RR < wz.heap.size := by omega
 rw [← h_0] at n_0 n_1 n_2 f_2 ⊢; rw [← h_1] at n_1 n_2 f_2 ⊢; rw [← h_2] at n_2 f_2 ⊢; have l_1 : AA < BB := by omega
 have l_2 : BB < RR := by omega
 have HAA := jh (NumAt.later b_2 (NumAt.later b_1 n_0)); have HBB := jh (NumAt.later b_2 n_1); have HRR := jh n_2; have HF := jh f_2; have B := jh ((b_0.trans (b_1.mono (by omega))).trans (b_2.mono (by omega))); have hwRR : w0.heap.size ≤ RR := by omega
 have HSZ := jh (show wz.heap.size = RR + 1 by omega); clear e_0 s_0 b_0 n_0 h_0 e_1 s_1 b_1 n_1 h_1 e_2 s_2 b_2 n_2 h_2 f_2; have G0 := jh (GrpAt.later B.out g0); clear g0; have r_G_0 := G0.out.2.1 0 (by omega); have r_G_1 := G0.out.2.1 1 (by omega); have r_G_2 := G0.out.2.1 2 (by omega); have r_G_3 := G0.out.2.1 3 (by omega); simp only [Nat.reduceAdd] at r_G_0 r_G_1 r_G_2 r_G_3; obtain ⟨r_AA_0, r_AA_1, r_AA_2, r_AA_3⟩ := jy HAA.out; obtain ⟨r_BB_0, r_BB_1, r_BB_2, r_BB_3⟩ := jy HBB.out
 go_wp2_with fail
 clear r_AA_0 r_AA_1 r_AA_2 r_AA_3 r_BB_0 r_BB_1 r_BB_2 r_BB_3; clear r_G_0 r_G_1 r_G_2 r_G_3; refine (CE.out _).mono ?_; rintro _ w3 ⟨rfl, hb⟩; have HAA := jn hb HAA; have HBB := jn hb HBB; have HRR := jn hb HRR; have HF := jh (HF.out.later hb hRd); have hRd := Nat.lt_of_lt_of_le hRd hb.size; have B := jw B hb; clear hb; obtain ⟨c0, c1, c2, c3, f0, f1, f2, f3⟩ := jC HRR.out HF.out
 go_wp2_with fail
 have HRL := jh (NumAt.set4 HRR.out q); have B9 := jh (jp B.out hwRR (.int .u64 (jf jd q 0)) (.int .u64 (jf jd q 1)) (.int .u64 (jf jd q 2)) (.int .u64 (jf jd q 3))); obtain ⟨g0, g1, g2, g3⟩ := jy HRL.out; refine bodyPost_ret (v := .tuple #[.agg #[.int .u64 (jf jd q 0), .int .u64 (jf jd q 1), .int .u64 (jf jd q 2), .int .u64 (jf jd q 3)], .int .i64 0]) ?_ rfl ⟨rfl, jk HB0.out B9.out⟩
 simp [results, Tryz.results32, go_sem, g0, g1, g2, g3]
def NumsAt (w : World) (b o : Nat) (xs : List Nat) : Prop := ∀ i x, xs[i]? = some x → ∀ j, j < 4 → w.cell? ⟨b, o + i * 4 + j, none⟩ = some (.int .u64 (jf jd x j))
theorem NumsAt.later {w w' : World} {b o : Nat} {xs : List Nat} (h : NumsAt w b o xs) (hb : Below w.heap.size w w') : NumsAt w' b o xs := fun i x hx j hj => jm (h i x hx j hj) hb
theorem ZK {w : World} {b gp gq gg gh : Nat} (h : GrpAt w b gp gq gg gh) : w.cell? ⟨b, 0, none⟩ = some (.int .u64 (jf jd gp 0)) ∧ w.cell? ⟨b, 1, none⟩ = some (.int .u64 (jf jd gp 1)) ∧ w.cell? ⟨b, 2, none⟩ = some (.int .u64 (jf jd gp 2)) ∧ w.cell? ⟨b, 3, none⟩ = some (.int .u64 (jf jd gp 3)) ∧ w.cell? ⟨b, 4, none⟩ = some (.int .u64 (jf jd gq 0)) ∧ w.cell? ⟨b, 5, none⟩ = some (.int .u64 (jf jd gq 1)) ∧ w.cell? ⟨b, 6, none⟩ = some (.int .u64 (jf jd gq 2)) ∧ w.cell? ⟨b, 7, none⟩ = some (.int .u64 (jf jd gq 3)) ∧ w.cell? ⟨b, 8, none⟩ = some (.int .u64 (jf jd gg 0)) ∧ w.cell? ⟨b, 9, none⟩ = some (.int .u64 (jf jd gg 1)) ∧ w.cell? ⟨b, 10, none⟩ = some (.int .u64 (jf jd gg 2)) ∧ w.cell? ⟨b, 11, none⟩ = some (.int .u64 (jf jd gg 3)) ∧ w.cell? ⟨b, 12, none⟩ = some (.int .u64 (jf jd gh 0)) ∧ w.cell? ⟨b, 13, none⟩ = some (.int .u64 (jf jd gh 1)) ∧ w.cell? ⟨b, 14, none⟩ = some (.int .u64 (jf jd gh 2)) ∧ w.cell? ⟨b, 15, none⟩ = some (.int .u64 (jf jd gh 3)) := by
 obtain ⟨h0, h1, h2, h3⟩ := h; exact ⟨h0 0 (by decide), h0 1 (by decide), h0 2 (by decide), h0 3 (by decide), h1 0 (by decide), h1 1 (by decide), h1 2 (by decide), h1 3 (by decide), h2 0 (by decide), h2 1 (by decide), h2 2 (by decide), h2 3 (by decide), h3 0 (by decide), h3 1 (by decide), h3 2 (by decide), h3 3 (by decide)⟩
def zy (a n : Nat) : Bool := if (jf jd a 1 ||| jf jd a 2) ||| jf jd a 3 = 0 then decide (n < jf jd a 0) else true
theorem ZF {a n : Nat} (hn : n ≤ 1000) (w : World) : Calls Tryz.prog 26 #[ji a, .int .i64 n] w fun e w' => e = .returned (.bool (zy a n)) ∧ Below w.heap.size w w' := by
 have l1 := qC a 1; have l2 := qC a 2; have l3 := qC a 3; unfold jd at l1 l2 l3; obtain ⟨o1, h1⟩ := je (jf jd a 1 ||| jf jd a 2); obtain ⟨o2, h2⟩ := je (o1 ||| jf jd a 3); have lo1 : o1 < 18446744073709551616 := by rw [h1]; exact Nat.or_lt_two_pow (n := 64) l1 l2
 have b1 : bits BinOp.or IntKind.u64 (jf jd a 1 : Int) (jf jd a 2 : Int) = (o1 : Int) := by rw [h1]; exact u64_or_nat _ _ l1 l2
 have b2 : bits BinOp.or IntKind.u64 (o1 : Int) (jf jd a 3 : Int) = (o2 : Int) := by rw [h2]; exact u64_or_nat _ _ lo1 l3
 unfold zy; rw [← h1, ← h2]; clear h1 h2 lo1 l1 l2 l3; obtain ⟨d0, hd0⟩ := je (jf jd a 0); unfold ji words; rw [← hd0]; clear hd0
 by_cases hz : o2 = 0
 ·rw [if_pos hz]; subst hz
  by_cases hlt : n < d0
  ·rw [decide_eq_true hlt]; have hI : (n : Int) < (d0 : Int) := by omega
   clear hlt
   go_enter Tryz.func26, Tryz.ntmps26
   go_wp2_with fail
   go_ret
   exact ⟨rfl, ja⟩
  ·rw [decide_eq_false hlt]; have hI : ¬ (n : Int) < (d0 : Int) := by omega
   clear hlt
   go_enter Tryz.func26, Tryz.ntmps26
   go_wp2_with fail
   go_ret
   exact ⟨rfl, ja⟩
 ·rw [if_neg hz]; have hI : ¬ (o2 : Int) = 0 := by omega
  clear hz
  go_enter Tryz.func26, Tryz.ntmps26
  go_wp2_with fail
  go_ret
  exact ⟨rfl, ja⟩
theorem JS {l n : Nat} {P : Program} {ops : Array Oper} {rest : List Oper} {o : Oper} {a : Act} {w : World} {Q : Exit → Act → World → Prop} {v : Value} (hgd : o.guard = none) (hdf : ∀ c, o.op ≠ .defer c) (h : (execOp a.eval o).run P w = .ok (.value v) w)
  (k : wpListIn (Fence.wide.inRound l) n P ops Q rest (a.put o.dst v) w) : wpListIn (Fence.wide.inRound l) n P ops Q (o :: rest) a w :=
 wpListIn_plain hgd fun K hK => by
  refine ⟨fun _ _ => trivial, ?_⟩; have e : o.semAt (Fence.wide.inRound l).round a.eval = execOp a.eval o := Oper.semAt_some l _ _ hdf; rw [e, h]; exact hK _ _ k
theorem zH {W : World} {l : Nat} {o o' : Obj} (h : W.heap[l]? = some o) (ho : o.isCells = false) {p : Addr} {v : Value} (hp : W.cell? p = some v) : (W.putObj l o').cell? p = some v := by
 by_cases e : p.block = l
 ·exfalso
  unfold World.cell? at hp; rw [e, h] at hp
  cases o <;> first | (simp at hp; done) | (cases ho)
 ·exact (World.cell?_of_block (World.putObj_heap_other e)).trans hp
theorem QR {W : World} {l : Nat} {o o' : Obj} (h : W.heap[l]? = some o) (ho : o.isCells = false) {p : Addr} {v : Value} (hp : W.cell? p = some v) (hf : W.frozen? p = false) : (W.putObj l o').frozen? p = false := by
 by_cases e : p.block = l
 ·exfalso
  unfold World.cell? at hp; rw [e, h] at hp
  cases o <;> first | (simp at hp; done) | (cases ho)
 ·exact (World.frozen?_of_block (World.putObj_heap_other e)).trans hf
theorem StayK.trans {K : Nat → Prop} {w w1 w2 : World} (h : StayK K w w1) (h2 : StayK K w1 w2) : StayK K w w2 :=
 ⟨h2.os.trans h.os, h2.tape.trans h.tape, h2.output.trans h.output, Nat.le_trans h.size h2.size, fun g hg => (h2.block g hg).trans (h.block g hg)⟩
theorem range_made {n : Nat} (hn : 5 ≤ n) {g : Operand} {ps : Array Tmp} {assign body : Code} {Q : Exit → Act → World → Prop} {a : Act} {w : World} {itf : FuncId} {caps : Array Value} {encs : Nat → Array Value}
  (hg : a.eval g = .func (.func itf) #[] caps) (hent : ∀ (args : Array Value) (W : World), (callFunc itf args).run Tryz.prog W = .ok (.enter itf args) W)
  (K : Nat → Prop) (hKw : ∀ k, K k → k < w.heap.size) (N : Nat) (hps : ∀ i, ps.size = (encs i).size) (I : Nat → World → Prop)
  (hI : ∀ k A l o o', w.heap.size ≤ l → A.heap[l]? = some o → o.isCells = false → I k A → I k (A.putObj l o'))
  (hId : ∀ k W, I k W → I k W.drew)
  (h0 : ∀ o1 o2, I N ((w.alloc o1).alloc o2))
  (hit : ∀ (l : Nat) (J : Nat → World → Prop) (W : World), (∀ k W, J k W → J k W.drew) → (∀ i W0, i < N → J (i + 1) W0 → YieldAt Fence.wide (n - 1 - 1) Tryz.prog l (encs i) W0 fun e W' => e = .returned (.bool true) ∧ J i W' ∧ StayK K W0 W') → Below w.heap.size w W → J N W →
   CallsIn Fence.wide (n - 1) Tryz.prog itf (#[.func (.yield l) #[] #[]] ++ caps) W fun e W' => (∃ v, e = .returned v) ∧ J 0 W')
  (hround : ∀ (l i : Nat) (W : World) (KK : Act → World → Prop), i < N → I (i + 1) W → w.heap.size ≤ l → (∃ o, W.heap[l]? = some o ∧ o.isCells = false) →
   (∀ a1 W1, KeepsFrom w.heap.size W W1 → StayK K W W1 → (∀ o', body.wpIn (Fence.wide.inRound l) (n - 1 - 1) Tryz.prog (roundEndK w.heap.size K (I i) (W1.putObj l o')) a1 (W1.putObj l o')) → KK a1 W1) →
   assign.wpIn (Fence.wide.inRound l) (n - 1 - 1) Tryz.prog (Exit.then KK (fun _ _ _ => False)) { tmps := (ps.zip (encs i)).foldl (fun t (p, v) => t.setIfInBounds p v) a.tmps, defers := [] } W)
  (hdone : ∀ (D : Nat) (W : World), w.heap.size ≤ D → I 0 W → W.heap[D]? = some (.deferred (some [])) → Q .normal { a with defers := { target := .collected D, args := #[] } :: a.defers } W) :
  (Code.rangeFunc g ps assign body).wpIn Fence.wide n Tryz.prog Q a w := by
 refine wpIn_rangeFunc ?_; intro fn hfn; obtain ⟨rec, hrec⟩ : ∃ rec : LoopState → Option Code → Loop, rec = fun st pe => { state := st, pending := pe, fn, tmps := a.tmps, params := ps, assign, body, defers := w.heap.size } := ⟨_, rfl⟩
 obtain ⟨W1, hW1⟩ : ∃ W1, (w.alloc (.deferred (some []))).alloc (.loop (rec .ready none)) = W1 := ⟨_, rfl⟩
 have hL1 : W1.heap[w.heap.size + 1]? = some (.loop (rec .ready none)) := by
  rw [← hW1]; have := World.alloc_heap_new (w.alloc (.deferred (some []))) (.loop (rec .ready none)); rwa [World.size_alloc] at this
 have hK1 : W1.heap[w.heap.size]? = some (.deferred (some [])) := by
  rw [← hW1]; exact (Below.heap_alloc _ _ _ (by simp)).trans (World.alloc_heap_new w _)
 have hI1 : I N W1 := by rw [← hW1]; exact h0 _ _
 have hb1 : Below w.heap.size w W1 := by rw [← hW1]; exact ((Below.refl _ w).alloc (Nat.le_refl _) _).alloc (by simp) _
 refine ⟨w.heap.size + 1, [{ target := .collected w.heap.size, args := #[] }], W1, { target := .fn (.func itf) caps, args := #[.func (.yield (w.heap.size + 1)) #[] #[]] }, W1, itf,
  #[.func (.yield (w.heap.size + 1)) #[] #[]] ++ caps, W1, ?_, ?_, ?_, ?_, fun _ => (by omega), ?_⟩
 ·rw [← hW1, hrec]; exact run_enterLoop_outer _ _ _ _ _
 ·simp only [resolve, hg]
  simp [go_sem]
 ·intro f' hf'; exact trivial
 ·simp [invoke, go_sem, hent]
 ·refine (hit (w.heap.size + 1) (fun k W => I k W ∧ W.heap[w.heap.size + 1]? = some (.loop (rec .ready none)) ∧ W.heap[w.heap.size]? = some (.deferred (some []))) W1 (fun k W h => ⟨hId k W h.1, h.2⟩) ?_ hb1 ⟨hI1, hL1, hK1⟩).mono ?_
  ·rintro i Wx hiN ⟨hi, hlx, hkx⟩; have hy := run_yield (P := Tryz.prog) (args := encs i) hlx (by rw [hrec]; exact (hps i).symm); rw [hrec] at hy; refine ⟨fn, _, assign, body, hy, roundIn_of_wpIn hfn (hround (w.heap.size + 1) i Wx _ hiN hi (by omega) ⟨_, hlx, rfl⟩ (fun a1 Wy hkf hsk hbod => ?_))⟩; have hl' := hkf.same _ _ (by omega) hlx rfl; have hk' := hkf.same _ _ (Nat.le_refl _) hkx rfl; have hlt := qG hl'; refine ⟨_, run_beginRound hl' (by rw [hrec]), ?_⟩; have hl2 : (Wy.putObj (w.heap.size + 1) (.loop { rec .ready none with state := .busy })).heap[w.heap.size + 1]? = some (.loop { rec .ready none with state := .busy }) := World.putObj_heap_same hlt; have hk2 : (Wy.putObj (w.heap.size + 1) (.loop { rec .ready none with state := .busy })).heap[w.heap.size]? = some (.deferred (some [])) := (World.putObj_heap_other (by omega)).trans hk'; refine wpIn_mono (hbod _) ?_; rintro e a3 W3 hp
   cases e with
   | normal =>
    obtain ⟨hk3, hs3, hi3⟩ := hp; have hl3 := hk3.same _ _ (by omega) hl2 rfl; have hd3 := hk3.same _ _ (Nat.le_refl _) hk2 rfl; have hr := run_endRound (P := Tryz.prog) none hl3; rw [hrec] at hr; refine ⟨_, _, hr, rfl, ⟨hI _ _ _ _ _ (by omega) hl3 rfl hi3, ?_, (World.putObj_heap_other (by omega)).trans hd3⟩, ?_⟩
    ·rw [World.putObj_heap_same (qG hl3), hrec]
     rfl
    ·refine hsk.trans ⟨hs3.os, hs3.tape, hs3.output, Nat.le_trans (by simp) (Nat.le_trans hs3.size (by simp)), fun q hq => ?_⟩; have hqw := hKw q hq; rw [World.putObj_heap_other (by omega), hs3.block q hq, World.putObj_heap_other (by omega)]
   | ret => exact hp.elim
   | exit id => exact hp.elim
   | goto t => exact hp.elim
   | panic ch => exact hp.elim
   | outgrown => exact hp.elim
  ·rintro e W2 ⟨⟨v9, rfl⟩, hi, hl', hk'⟩; have hr := run_endLoop (P := Tryz.prog) hl' (by rw [hrec]; simp); rw [hrec] at hr; exact ⟨none, _, hr, hdone _ _ (Nat.le_refl _) (hI _ _ _ _ _ (by omega) hl' rfl hi) ((World.putObj_heap_other (by omega)).trans hk')⟩
theorem pairs_any (ao bo : Option Addr) (n c m d : Nat) (w : World) :
  Calls Tryz.prog 53 #[.slice ao n c, .slice bo m d] w fun e w' => e = .returned (.func (.func 82) #[] #[.pointer (some ⟨w.heap.size, 0, none⟩), .pointer (some ⟨w.heap.size + 1, 0, none⟩)]) ∧ w' = (w.alloc (.cells #[.slice ao n c] 73)).alloc (.cells #[.slice bo m d] 73) := by
 go_enter Tryz.func53, Tryz.ntmps53
 go_wp2
 go_ret
 exact ⟨rfl, rfl⟩
theorem pairs_in (n : Nat) (hn : 3 ≤ n) (l An Nn : Nat) (K : Nat → Prop) (hKA : K An) (hKN : K Nn) (xs ns : List Nat) (ba oa ca bn on cn : Nat) (J : Nat → World → Prop) (W : World) (hlen : xs.length ≤ 1000000) (hln : ns.length = xs.length)
  (hA : W.heap[An]? = some (.cells #[.slice (some ⟨ba, oa, none⟩) xs.length ca] 73 (0, 0))) (hN : W.heap[Nn]? = some (.cells #[.slice (some ⟨bn, on, none⟩) xs.length cn] 73 (0, 0)))
  (hx : NumsAt W ba oa xs) (hns : NumsAt W bn on ns) (hKa : K ba) (hKn : K bn) (hJd : ∀ k W, J k W → J k W.drew)
  (hY : ∀ i W0, i < xs.length → J (i + 1) W0 → YieldAt Fence.wide (n - 1) Tryz.prog l #[ji (xs.getD (xs.length - 1 - i) 0), ji (ns.getD (xs.length - 1 - i) 0)] W0 fun e W' => e = .returned (.bool true) ∧ J i W' ∧ StayK K W0 W') (h0 : J xs.length W) :
  CallsIn Fence.wide n Tryz.prog 82 #[.func (.yield l) #[] #[], .pointer (some ⟨An, 0, none⟩), .pointer (some ⟨Nn, 0, none⟩)] W fun e W' => (∃ v, e = .returned v) ∧ J 0 W' := by
 refine callsIn_of_wp Tryz.func82 rfl trivial ?_ rfl; simp only [Tryz.ntmps82, List.size_toArray, List.length_cons, List.length_nil, Nat.reduceAdd, Nat.reduceSub, Array.replicate_succ, Array.replicate_zero, List.push_toArray, List.append_toArray, List.nil_append, List.cons_append]; have HY := jh hY; have HX := jh hx; have HNS := jh hns; have HA := jh hA; have HN := jh hN; have HLN := jh hln; obtain ⟨m, hm⟩ := je (xs.length); have HM := jh hm; rw [← hm] at HA HN HY hlen h0 HLN; have H0 := jh h0; have hmI : (m : Int) ≤ 1000000 := by omega
 have c0 : W.cell? ⟨An, 0, none⟩ = some (.slice (some ⟨ba, oa, none⟩) m ca) := cell_of_row W An 0 _ _ (0, 0) HA.out; have hn1 : 1 ≤ n := by omega
 clear hm hA hN hY hx hns hln h0
 gi_wp2_with fail
 gi_loopg [7] m (fun g i wr => ∃ k : Nat, k ≤ m ∧ g = m - k ∧ i = .int .i64 (k : Int) ∧ Hid (J (m - k) wr) ∧ Hid (StayK K W wr))
 case atStart => exact ⟨0, Nat.zero_le _, rfl, rfl, jh (by rw [Nat.sub_zero]; exact H0.out), jh ⟨rfl, rfl, rfl, Nat.le_refl _, fun _ _ => rfl⟩⟩
 case round =>
  obtain ⟨k, hk, hg9, rfl, HJ, HS⟩ := hrel
  by_cases hlt : k < m
  ·have hltI : (k : Int) < (m : Int) := by omega
   obtain ⟨i, hi⟩ := je (m - 1 - k); have hik : m - k = i + 1 := by omega
   have hyy := HY.out i wr.drew (by omega) (hJd _ _ (by have := HJ.out; rwa [hik] at this)); rw [show m - 1 - i = k by omega] at hyy; obtain ⟨x, hx⟩ : ∃ x, xs.getD k 0 = x := ⟨_, rfl⟩; obtain ⟨y, hy⟩ : ∃ y, ns.getD k 0 = y := ⟨_, rfl⟩; have hxk : xs[k]? = some x := by rw [← hx, List.getD_eq_getElem?_getD, List.getElem?_eq_getElem (by rw [← HM.out]; omega)]; rfl
   have hyk : ns[k]? = some y := by rw [← hy, List.getD_eq_getElem?_getD, List.getElem?_eq_getElem (by rw [HLN.out]; omega)]; rfl
   rw [hx, hy] at hyy; unfold ji words at hyy; have c1 : wr.cell? ⟨An, 0, none⟩ = some (.slice (some ⟨ba, oa, none⟩) m ca) := cell_of_row wr An 0 _ _ (0, 0) ((HS.out.block An hKA).trans HA.out); have c2 : wr.cell? ⟨Nn, 0, none⟩ = some (.slice (some ⟨bn, on, none⟩) m cn) := cell_of_row wr Nn 0 _ _ (0, 0) ((HS.out.block Nn hKN).trans HN.out); have x0 : wr.cell? ⟨ba, oa + k * 4, none⟩ = _ := (World.cell?_of_block (HS.out.block ba hKa)).trans (HX.out k x hxk 0 (by decide)); have x1 := (World.cell?_of_block (a := ⟨ba, oa + k * 4 + 1, none⟩) (HS.out.block ba hKa)).trans (HX.out k x hxk 1 (by decide)); have x2 := (World.cell?_of_block (a := ⟨ba, oa + k * 4 + 2, none⟩) (HS.out.block ba hKa)).trans (HX.out k x hxk 2 (by decide)); have x3 := (World.cell?_of_block (a := ⟨ba, oa + k * 4 + 3, none⟩) (HS.out.block ba hKa)).trans (HX.out k x hxk 3 (by decide)); have y0 : wr.cell? ⟨bn, on + k * 4, none⟩ = _ := (World.cell?_of_block (HS.out.block bn hKn)).trans (HNS.out k y hyk 0 (by decide)); have y1 := (World.cell?_of_block (a := ⟨bn, on + k * 4 + 1, none⟩) (HS.out.block bn hKn)).trans (HNS.out k y hyk 1 (by decide)); have y2 := (World.cell?_of_block (a := ⟨bn, on + k * 4 + 2, none⟩) (HS.out.block bn hKn)).trans (HNS.out k y hyk 2 (by decide)); have y3 := (World.cell?_of_block (a := ⟨bn, on + k * 4 + 3, none⟩) (HS.out.block bn hKn)).trans (HNS.out k y hyk 3 (by decide)); obtain ⟨fn9, tmps9, assign9, body9, hy9, hR9⟩ := hyy; have HR9 := jh hR9; have HIK := jh (show m - (k + 1) = i ∧ i < m by omega); clear hR9 hx hy hxk hyk hik hi
   gi_wp2_with fail
   have hkI : ¬ ((k : Int) < 0) := by omega
   gi_region_with (have hy := hy9; refine HR9.out.mono ?_; rintro _ w9 ⟨rfl, hj9, hs9⟩)
   all_goals (
    have HJ9 := jh hj9; have HS9 := jh (show StayK K W w9 from ⟨hs9.os.trans HS.out.os, hs9.tape.trans HS.out.tape, hs9.output.trans HS.out.output, Nat.le_trans HS.out.size hs9.size, fun g hg => (hs9.block g hg).trans (HS.out.block g hg)⟩); clear hj9 hs9 c1 c2 x0 x1 x2 x3 y0 y1 y2 y3 hy
    gi_wp2_with fail
    gi_roundg i
    case rel => exact ⟨k + 1, by omega, HIK.out.1.symm, by go_num, jh (by rw [HIK.out.1]; exact HJ9.out), HS9⟩
    case measure => have := HIK.out; omega)
  ·have hkm : k = m := by omega
   subst hkm; have hltI : ¬ ((k : Int) < (k : Int)) := by omega
   gi_wp2_with fail
   exact ⟨rfl, _, results_none rfl _ _ _, ⟨_, rfl⟩, by have := HJ.out; rwa [Nat.sub_self] at this⟩
end Go.Proofs.YtcaeaejefdhloaaGreat
