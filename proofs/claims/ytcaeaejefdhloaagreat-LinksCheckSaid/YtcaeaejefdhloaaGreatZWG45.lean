/- Layer 8's reference -/
import Derived.Test.YtcaeaejefdhloaaGreatZWG43
import Derived.Test.YtcaeaejefdhloaaGreatZWG44
import Derived.Test.YtcaeaejefdhloaaGreatZWG32
set_option linter.unusedSimpArgs false
set_option linter.unusedVariables false
set_option maxHeartbeats 4000000
set_option maxRecDepth 100000
namespace Go.Proofs.YtcaeaejefdhloaaGreat
open Go.ChangeShapes Go.WideShapes Go.ChangeAt Go.RowKit
theorem ROne_any  (w : World) :
  Calls Tryz.prog 65 #[] w fun e w' => e = .returned (ji 1) ∧ Below w.heap.size w w' := by
 have C1 := jh (fun W => by have h9 := ROf_lit 1 1 rfl (by unfold jd; omega) W; unfold ji words at h9; exact h9); unfold ji words
 go_enter Tryz.func65, Tryz.ntmps65
 go_wp2_with fail
 obtain ⟨wz, e_0⟩ := je (w.alloc (.cells #[.int .u64 0, .int .u64 0, .int .u64 0, .int .u64 0] 24)); have s_0 : wz.heap.size = w.heap.size + 1 := by rw [e_0]; simp
 have b_0 := jc e_0; have n_0 : NumAt wz (w.heap.size) 0 := by rw [e_0]; exact jz w _
 have f_0 : FreeN wz (w.heap.size) 4 := by rw [e_0]; exact FreeN.made w _ _ 4 _ rfl
 rw [← e_0]; obtain ⟨RR, h_0⟩ := je (w.heap.size); have hwL : w.heap.size ≤ RR := by omega
 have hRd : RR < wz.heap.size := by omega
 rw [← h_0] at n_0 f_0 ⊢; have HRR := jh n_0; have HF := jh f_0; have B := jh b_0; have hwRR : w.heap.size ≤ RR := by omega
 have HSZ := jh (show wz.heap.size = RR + 1 by omega); clear e_0 s_0 b_0 n_0 h_0 f_0; refine (C1.out _).mono ?_; rintro _ w1 ⟨rfl, hb⟩; have HRR := jn hb HRR; have HF := jh (HF.out.later hb (by omega)); have hRd := Nat.lt_of_lt_of_le hRd hb.size; have B := jw B hb; clear hb; obtain ⟨c0, c1, c2, c3, f0, f1, f2, f3⟩ := jC HRR.out HF.out
 go_wp2_with fail
 have HRL := jh (NumAt.set4 HRR.out 1); have B9 := jh (jp B.out hwRR (.int .u64 (jf jd 1 0)) (.int .u64 (jf jd 1 1)) (.int .u64 (jf jd 1 2)) (.int .u64 (jf jd 1 3))); obtain ⟨g0, g1, g2, g3⟩ := jy HRL.out; refine bodyPost_ret (v := .agg #[.int .u64 (jf jd 1 0), .int .u64 (jf jd 1 1), .int .u64 (jf jd 1 2), .int .u64 (jf jd 1 3)]) ?_ rfl ⟨rfl, B9.out⟩
 simp [results, Tryz.results65, go_sem, g0, g1, g2, g3]
theorem Ji {gp gq gg gh a : Nat} (ha : a < jj) (hm : gp < jj) (w : World) :
  Calls Tryz.prog 37 #[jM gp gq gg gh, ji a] w fun e w' => e = .returned (.bool (decide (zL gp a))) ∧ Below w.heap.size w w' := by
 have C1 := jh (fun W => by have h9 := ROne_any W; unfold ji words at h9; exact h9); obtain ⟨z1, hz1⟩ := je (qw gp 1); have Kz1 := jh (fun W => by have h9 := Qd hm (show 1 < jj by unfold jj; omega) W; rewrite [← hz1] at h9; unfold ji words at h9; exact h9); obtain ⟨z2, hz2⟩ := je (qw a gp); have Kz2 := jh (fun W => by have h9 := Qd ha hm W; rewrite [← hz2] at h9; unfold ji words at h9; exact h9); obtain ⟨e, he⟩ := je (decide (a = 0)); have hne : ∀ W : World, (binOp .neq 24 (.agg #[.int .u64 (jf jd a 0), .int .u64 (jf jd a 1), .int .u64 (jf jd a 2), .int .u64 (jf jd a 3)]) (.agg #[.int .u64 0, .int .u64 0, .int .u64 0, .int .u64 0])).run Tryz.prog W = .ok (.bool (!e)) W := fun W => by have h9 := JF a 0 ha (by decide) W; rewrite [← he] at h9; simp only [qo] at h9; exact h9
 have HNE := jh hne; clear hne; obtain ⟨D, hD⟩ := je (decide (zL gp a)); rw [← hD]
 have h3 : (¬ 0 < z1 ∧ D = false) ∨ (0 < z1 ∧ e = true ∧ D = false) ∨ (0 < z1 ∧ e = false ∧ ¬ z2 < 0 ∧ D = false) ∨ (0 < z1 ∧ e = false ∧ z2 < 0 ∧ D = true) := by
  rw [hz1, hz2, hD, he, cmp_pos, cmp_neg]; unfold zL
  by_cases h1 : 1 < gp <;> by_cases h2 : a = 0 <;> by_cases h3 : a < gp <;> simp [h1, h2, h3]
 clear hz1 hz2 hD he ha hm; unfold jM ji words
 go_enter Tryz.func37, Tryz.ntmps37
 go_upto_region 1 with fail
 obtain ⟨w0, e0⟩ := je (w.alloc (.cells #[.int .u64 (jf jd gp 0), .int .u64 (jf jd gp 1), .int .u64 (jf jd gp 2), .int .u64 (jf jd gp 3), .int .u64 (jf jd gq 0), .int .u64 (jf jd gq 1), .int .u64 (jf jd gq 2), .int .u64 (jf jd gq 3), .int .u64 (jf jd gg 0), .int .u64 (jf jd gg 1), .int .u64 (jf jd gg 2), .int .u64 (jf jd gg 3), .int .u64 (jf jd gh 0), .int .u64 (jf jd gh 1), .int .u64 (jf jd gh 2), .int .u64 (jf jd gh 3)] 26)); obtain ⟨GG, hGG⟩ := je (w.heap.size); have b0 := jc e0; have s0 : w0.heap.size = w.heap.size + 1 := by rw [e0]; simp
 have g0 : GrpAt w0 GG gp gq gg gh := by rw [e0, hGG]; exact GrpAt.new _ _ _ _ _ _
 rw [← e0, ← s0, ← hGG]; have HB0 := jh b0; clear e0 hGG b0 s0; obtain ⟨wz, e_0⟩ := je (w0.alloc (.cells #[.int .u64 (jf jd a 0), .int .u64 (jf jd a 1), .int .u64 (jf jd a 2), .int .u64 (jf jd a 3)] 24)); have s_0 : wz.heap.size = w0.heap.size + 1 := by rw [e_0]; simp
 have b_0 := jc e_0; have n_0 : NumAt wz (w0.heap.size) a := by rw [e_0]; exact NumAt.new w0 a _ _ rfl
 rw [← e_0]; obtain ⟨AA, h_0⟩ := je (w0.heap.size); have hwL : w0.heap.size ≤ AA := by omega
 have hRd : AA < wz.heap.size := by omega
 rw [← h_0] at n_0 ⊢; have HAA := jh n_0; have B := jh b_0; have hwAA : w0.heap.size ≤ AA := by omega
 have HSZ := jh (show wz.heap.size = AA + 1 by omega); clear e_0 s_0 b_0 n_0 h_0; have G0 := jh (GrpAt.later B.out g0); clear g0
 rcases h3 with ⟨h1, rfl⟩ | ⟨h1, rfl, rfl⟩ | ⟨h1, rfl, h3, rfl⟩ | ⟨h1, rfl, h3, rfl⟩
 ·skip
  have hne := HNE.out; refine jv 17 (fun _ => none) (by kernel_rfl) (by kernel_rfl) (fun _ _ _ _ _ h => h) (fun F hn9 hcl hbl => ?_); have r_AA_0 := jr hbl HAA 0 (by omega); have r_AA_1 := jr hbl HAA 1 (by omega); have r_AA_2 := jr hbl HAA 2 (by omega); have r_AA_3 := jr hbl HAA 3 (by omega); have r_gp_0 := fun X9 : Wd F => (GrpAt.later (hbl X9.world X9.fact) G0.out).1 0 (by omega)
  have r_gp_1 := fun X9 : Wd F => (GrpAt.later (hbl X9.world X9.fact) G0.out).1 1 (by omega)
  have r_gp_2 := fun X9 : Wd F => (GrpAt.later (hbl X9.world X9.fact) G0.out).1 2 (by omega)
  have r_gp_3 := fun X9 : Wd F => (GrpAt.later (hbl X9.world X9.fact) G0.out).1 3 (by omega)
  simp only [Nat.reduceAdd] at r_gp_0 r_gp_1 r_gp_2 r_gp_3; have HCL := jh hcl; clear hcl hbl; refine jG 17 0 _ _ (fun _ _ _ => rfl) (by decide) ?_; simp only [List.take_succ_cons, List.take_zero, List.drop_succ_cons, List.drop_zero, Nat.reduceAdd]
  repeat (go_big_quiet_step ((first | (go_at_call 65; with_reducible exact js HCL.out (C1.out _)) | (go_at_call 64; with_reducible exact js HCL.out (Kz1.out _)))))
  refine wpQuiet_nil ?_; refine jI ?_; intro bs w2 hb _ _; clear r_AA_0 r_AA_1 r_AA_2 r_AA_3; have HAA := jn hb HAA; have G0 := jh (GrpAt.later hb G0.out); have hRd := Nat.lt_of_lt_of_le hRd hb.size; have B := jw B hb; clear hb; simp only [qx]; clear r_gp_0 r_gp_1 r_gp_2 r_gp_3 hne
  go_wp2_with fail
  refine bodyPost_ret (v := .bool false) ?_ rfl ⟨rfl, jk HB0.out B.out⟩
  simp [results, Tryz.results37, go_sem]
 ·skip
  have hne := HNE.out; simp only [Bool.not_true, Bool.not_false] at hne; refine jv 17 (fun _ => none) (by kernel_rfl) (by kernel_rfl) (fun _ _ _ _ _ h => h) (fun F hn9 hcl hbl => ?_); have r_AA_0 := jr hbl HAA 0 (by omega); have r_AA_1 := jr hbl HAA 1 (by omega); have r_AA_2 := jr hbl HAA 2 (by omega); have r_AA_3 := jr hbl HAA 3 (by omega); have r_gp_0 := fun X9 : Wd F => (GrpAt.later (hbl X9.world X9.fact) G0.out).1 0 (by omega)
  have r_gp_1 := fun X9 : Wd F => (GrpAt.later (hbl X9.world X9.fact) G0.out).1 1 (by omega)
  have r_gp_2 := fun X9 : Wd F => (GrpAt.later (hbl X9.world X9.fact) G0.out).1 2 (by omega)
  have r_gp_3 := fun X9 : Wd F => (GrpAt.later (hbl X9.world X9.fact) G0.out).1 3 (by omega)
  simp only [Nat.reduceAdd] at r_gp_0 r_gp_1 r_gp_2 r_gp_3; have HCL := jh hcl; clear hcl hbl; refine jG 17 0 _ _ (fun _ _ _ => rfl) (by decide) ?_; simp only [List.take_succ_cons, List.take_zero, List.drop_succ_cons, List.drop_zero, Nat.reduceAdd]
  repeat (go_big_quiet_step ((first | (go_at_call 65; with_reducible exact js HCL.out (C1.out _)) | (go_at_call 64; with_reducible exact js HCL.out (Kz1.out _)))))
  refine wpQuiet_nil ?_; refine jI ?_; intro bs w2 hb _ _; clear r_AA_0 r_AA_1 r_AA_2 r_AA_3; have HAA := jn hb HAA; have G0 := jh (GrpAt.later hb G0.out); have hRd := Nat.lt_of_lt_of_le hRd hb.size; have B := jw B hb; clear hb; simp only [qx]; clear r_gp_0 r_gp_1 r_gp_2 r_gp_3 hne
  go_wp2_with fail
  refine bodyPost_ret (v := .bool false) ?_ rfl ⟨rfl, jk HB0.out B.out⟩
  simp [results, Tryz.results37, go_sem]
 ·skip
  have hne := HNE.out; simp only [Bool.not_true, Bool.not_false] at hne; refine jv 17 (fun _ => none) (by kernel_rfl) (by kernel_rfl) (fun _ _ _ _ _ h => h) (fun F hn9 hcl hbl => ?_); have r_AA_0 := jr hbl HAA 0 (by omega); have r_AA_1 := jr hbl HAA 1 (by omega); have r_AA_2 := jr hbl HAA 2 (by omega); have r_AA_3 := jr hbl HAA 3 (by omega); have r_gp_0 := fun X9 : Wd F => (GrpAt.later (hbl X9.world X9.fact) G0.out).1 0 (by omega)
  have r_gp_1 := fun X9 : Wd F => (GrpAt.later (hbl X9.world X9.fact) G0.out).1 1 (by omega)
  have r_gp_2 := fun X9 : Wd F => (GrpAt.later (hbl X9.world X9.fact) G0.out).1 2 (by omega)
  have r_gp_3 := fun X9 : Wd F => (GrpAt.later (hbl X9.world X9.fact) G0.out).1 3 (by omega)
  simp only [Nat.reduceAdd] at r_gp_0 r_gp_1 r_gp_2 r_gp_3; have HCL := jh hcl; clear hcl hbl; refine jG 17 0 _ _ (fun _ _ _ => rfl) (by decide) ?_; simp only [List.take_succ_cons, List.take_zero, List.drop_succ_cons, List.drop_zero, Nat.reduceAdd]
  repeat (go_big_quiet_step ((first | (go_at_call 65; with_reducible exact js HCL.out (C1.out _)) | (go_at_call 64; with_reducible exact js HCL.out (Kz1.out _)) | (go_at_call 64; with_reducible exact js HCL.out (Kz2.out _)))))
  refine wpQuiet_nil ?_; refine jI ?_; intro bs w2 hb _ _; clear r_AA_0 r_AA_1 r_AA_2 r_AA_3; have HAA := jn hb HAA; have G0 := jh (GrpAt.later hb G0.out); have hRd := Nat.lt_of_lt_of_le hRd hb.size; have B := jw B hb; clear hb; simp only [qx]; clear r_gp_0 r_gp_1 r_gp_2 r_gp_3 hne
  go_wp2_with fail
  refine bodyPost_ret (v := .bool false) ?_ rfl ⟨rfl, jk HB0.out B.out⟩
  simp [results, Tryz.results37, go_sem] <;> omega
 ·skip
  have hne := HNE.out; simp only [Bool.not_true, Bool.not_false] at hne; refine jv 17 (fun _ => none) (by kernel_rfl) (by kernel_rfl) (fun _ _ _ _ _ h => h) (fun F hn9 hcl hbl => ?_); have r_AA_0 := jr hbl HAA 0 (by omega); have r_AA_1 := jr hbl HAA 1 (by omega); have r_AA_2 := jr hbl HAA 2 (by omega); have r_AA_3 := jr hbl HAA 3 (by omega); have r_gp_0 := fun X9 : Wd F => (GrpAt.later (hbl X9.world X9.fact) G0.out).1 0 (by omega)
  have r_gp_1 := fun X9 : Wd F => (GrpAt.later (hbl X9.world X9.fact) G0.out).1 1 (by omega)
  have r_gp_2 := fun X9 : Wd F => (GrpAt.later (hbl X9.world X9.fact) G0.out).1 2 (by omega)
  have r_gp_3 := fun X9 : Wd F => (GrpAt.later (hbl X9.world X9.fact) G0.out).1 3 (by omega)
  simp only [Nat.reduceAdd] at r_gp_0 r_gp_1 r_gp_2 r_gp_3; have HCL := jh hcl; clear hcl hbl; refine jG 17 0 _ _ (fun _ _ _ => rfl) (by decide) ?_; simp only [List.take_succ_cons, List.take_zero, List.drop_succ_cons, List.drop_zero, Nat.reduceAdd]
  repeat (go_big_quiet_step ((first | (go_at_call 65; with_reducible exact js HCL.out (C1.out _)) | (go_at_call 64; with_reducible exact js HCL.out (Kz1.out _)) | (go_at_call 64; with_reducible exact js HCL.out (Kz2.out _)))))
  refine wpQuiet_nil ?_; refine jI ?_; intro bs w2 hb _ _; clear r_AA_0 r_AA_1 r_AA_2 r_AA_3; have HAA := jn hb HAA; have G0 := jh (GrpAt.later hb G0.out); have hRd := Nat.lt_of_lt_of_le hRd hb.size; have B := jw B hb; clear hb; simp only [qx]; clear r_gp_0 r_gp_1 r_gp_2 r_gp_3 hne
  go_wp2_with fail
  refine bodyPost_ret (v := .bool true) ?_ rfl ⟨rfl, jk HB0.out B.out⟩
  simp [results, Tryz.results37, go_sem]
theorem RInG_yes {gp gq gg gh a : Nat} (h : zL gp a) (ha : a < jj) (hq : gq < jj) (hm : gp < jj) (w : World) :
  Calls Tryz.prog 63 #[jM gp gq gg gh, ji a] w fun e w' => e = .returned (.bool (decide (Zx gp gq a))) ∧ Below w.heap.size w w' := by
 have CM := jh (fun (W : World) => by have h9 := Ji (gp := gp) (gq := gq) (gg := gg) (gh := gh) ha hm W; rewrite [decide_eq_true h] at h9; unfold jM ji words at h9; exact h9); obtain ⟨x, hx⟩ := je (a ^ gq % gp); have hxl : x < jj := by rw [hx]; exact Nat.lt_trans (Nat.mod_lt _ (by have := h.1; omega)) hm
 have CE := jh (fun W => by have h9 := RExp_yes hq hm h.1 h.2.2 W; rewrite [← hx] at h9; unfold ji words at h9; exact h9); have heq := zV x 1 hxl (by decide); obtain ⟨d, hd⟩ := je (decide (x = 1)); have hdd : decide (Zx gp gq a) = d := by rw [hd]; exact decide_eq_decide.2 ⟨fun h9 => hx.trans h9.2, fun h9 => ⟨h, hx.symm.trans h9⟩⟩
 rw [hdd]; rw [← hd] at heq; have C1 := jh (fun W => by have h9 := ROne_any W; unfold ji words at h9; exact h9); clear hx hxl hd hdd; clear h ha hq hm; unfold jM ji words
 go_enter Tryz.func63, Tryz.ntmps63
 go_wp2_with fail
 obtain ⟨w0, e0⟩ := je (w.alloc (.cells #[.int .u64 (jf jd gp 0), .int .u64 (jf jd gp 1), .int .u64 (jf jd gp 2), .int .u64 (jf jd gp 3), .int .u64 (jf jd gq 0), .int .u64 (jf jd gq 1), .int .u64 (jf jd gq 2), .int .u64 (jf jd gq 3), .int .u64 (jf jd gg 0), .int .u64 (jf jd gg 1), .int .u64 (jf jd gg 2), .int .u64 (jf jd gg 3), .int .u64 (jf jd gh 0), .int .u64 (jf jd gh 1), .int .u64 (jf jd gh 2), .int .u64 (jf jd gh 3)] 26)); obtain ⟨GG, hGG⟩ := je (w.heap.size); have b0 := jc e0; have s0 : w0.heap.size = w.heap.size + 1 := by rw [e0]; simp
 have g0 : GrpAt w0 GG gp gq gg gh := by rw [e0, hGG]; exact GrpAt.new _ _ _ _ _ _
 rw [← e0, ← s0, ← hGG]; have HB0 := jh b0; clear e0 hGG b0 s0; obtain ⟨wz, e_0⟩ := je (w0.alloc (.cells #[.int .u64 (jf jd a 0), .int .u64 (jf jd a 1), .int .u64 (jf jd a 2), .int .u64 (jf jd a 3)] 24)); have s_0 : wz.heap.size = w0.heap.size + 1 := by rw [e_0]; simp
 have b_0 := jc e_0; have n_0 : NumAt wz (w0.heap.size) a := by rw [e_0]; exact NumAt.new w0 a _ _ rfl
 rw [← e_0]; obtain ⟨AA, h_0⟩ := je (w0.heap.size); have hwL : w0.heap.size ≤ AA := by omega
 have hRd : AA < wz.heap.size := by omega
 rw [← h_0] at n_0 ⊢; have HAA := jh n_0; have B := jh b_0; have hwAA : w0.heap.size ≤ AA := by omega
 have HSZ := jh (show wz.heap.size = AA + 1 by omega); clear e_0 s_0 b_0 n_0 h_0; have G0 := jh (GrpAt.later B.out g0); clear g0; refine (CM.out _).mono ?_; rintro _ w1 ⟨rfl, hb⟩; have HAA := jn hb HAA; have G0 := jh (GrpAt.later hb G0.out); have hRd := Nat.lt_of_lt_of_le hRd hb.size; have B := jw B hb; clear hb; have r_gq_0 := G0.out.2.1 0 (by omega); have r_gq_1 := G0.out.2.1 1 (by omega); have r_gq_2 := G0.out.2.1 2 (by omega); have r_gq_3 := G0.out.2.1 3 (by omega); simp only [Nat.reduceAdd] at r_gq_0 r_gq_1 r_gq_2 r_gq_3; have r_gp_0 := G0.out.1 0 (by omega); have r_gp_1 := G0.out.1 1 (by omega); have r_gp_2 := G0.out.1 2 (by omega); have r_gp_3 := G0.out.1 3 (by omega); simp only [Nat.reduceAdd] at r_gp_0 r_gp_1 r_gp_2 r_gp_3; obtain ⟨r_AA_0, r_AA_1, r_AA_2, r_AA_3⟩ := jy HAA.out
 go_wp2_with fail
 clear r_AA_0 r_AA_1 r_AA_2 r_AA_3; clear r_gq_0 r_gq_1 r_gq_2 r_gq_3 r_gp_0 r_gp_1 r_gp_2 r_gp_3; refine (CE.out _).mono ?_; rintro _ w2 ⟨rfl, hb⟩; have HAA := jn hb HAA; have G0 := jh (GrpAt.later hb G0.out); have hRd := Nat.lt_of_lt_of_le hRd hb.size; have B := jw B hb; clear hb
 go_upto_region 4 with fail
 obtain ⟨w3, e9⟩ := je (w2.alloc (.cells #[.int .u64 (jf jd x 0), .int .u64 (jf jd x 1), .int .u64 (jf jd x 2), .int .u64 (jf jd x 3)] 24)); obtain ⟨XX, h9⟩ := je (w2.heap.size); have hb := jc e9; have n9 := jh (show NumAt w3 XX x by rw [e9, h9]; exact NumAt.new _ _ _ _ rfl); have f9 := jh (show FreeN w3 XX 4 by rw [e9, h9]; exact FreeN.made _ _ _ _ _ rfl); have l_XX : AA < XX := by omega
 have h8 : XX < w3.heap.size := by rw [e9, h9]; simp
 rw [← e9, ← h9]; clear e9 h9; have HAA := jn hb HAA; have G0 := jh (GrpAt.later hb G0.out); have hRd := Nat.lt_of_lt_of_le hRd hb.size; have B := jw B hb; clear hb; have HXX := n9; have HFXX := f9; have hRd := h8; clear n9 f9 h8; have hwXX : w0.heap.size ≤ XX := by omega
 refine jv 3 (fun _ => none) (by kernel_rfl) (by kernel_rfl) (fun _ _ _ _ _ h => h) (fun F hn9 hcl hbl => ?_); have r_XX_0 := jr hbl HXX 0 (by omega); have r_XX_1 := jr hbl HXX 1 (by omega); have r_XX_2 := jr hbl HXX 2 (by omega); have r_XX_3 := jr hbl HXX 3 (by omega); have HCL := jh hcl; clear hcl hbl; refine jG 3 0 _ _ (fun _ _ _ => rfl) (by decide) ?_; simp only [List.take_succ_cons, List.take_zero, List.drop_succ_cons, List.drop_zero, Nat.reduceAdd]
 repeat (go_big_quiet_step ((first | (go_at_call 65; with_reducible exact js HCL.out (C1.out _)))))
 refine wpQuiet_nil ?_; refine jI ?_; intro bs w4 hb _ _; clear r_XX_0 r_XX_1 r_XX_2 r_XX_3; have HAA := jn hb HAA; have HXX := jn hb HXX; have HFXX := jh (HFXX.out.later hb (by omega)); have G0 := jh (GrpAt.later hb G0.out); have hRd := Nat.lt_of_lt_of_le hRd hb.size; have B := jw B hb; clear hb; simp only [qx]
 go_wp2_with fail
 refine bodyPost_ret (v := .bool d) ?_ rfl ⟨rfl, jk HB0.out B.out⟩
 simp [results, Tryz.results63, go_sem]
theorem RInG_no {gp gq gg gh a : Nat} (h : ¬ zL gp a) (ha : a < jj) (hq : gq < jj) (hm : gp < jj) (w : World) :
  Calls Tryz.prog 63 #[jM gp gq gg gh, ji a] w fun e w' => e = .returned (.bool (decide (Zx gp gq a))) ∧ Below w.heap.size w w' := by
 have CM := jh (fun (W : World) => by have h9 := Ji (gp := gp) (gq := gq) (gg := gg) (gh := gh) ha hm W; rewrite [decide_eq_false h] at h9; unfold jM ji words at h9; exact h9); have hdd : decide (Zx gp gq a) = false := decide_eq_false (fun h9 => h h9.1); rw [hdd]; clear hdd; clear h ha hq hm; unfold jM ji words
 go_enter Tryz.func63, Tryz.ntmps63
 go_wp2_with fail
 obtain ⟨w0, e0⟩ := je (w.alloc (.cells #[.int .u64 (jf jd gp 0), .int .u64 (jf jd gp 1), .int .u64 (jf jd gp 2), .int .u64 (jf jd gp 3), .int .u64 (jf jd gq 0), .int .u64 (jf jd gq 1), .int .u64 (jf jd gq 2), .int .u64 (jf jd gq 3), .int .u64 (jf jd gg 0), .int .u64 (jf jd gg 1), .int .u64 (jf jd gg 2), .int .u64 (jf jd gg 3), .int .u64 (jf jd gh 0), .int .u64 (jf jd gh 1), .int .u64 (jf jd gh 2), .int .u64 (jf jd gh 3)] 26)); obtain ⟨GG, hGG⟩ := je (w.heap.size); have b0 := jc e0; have s0 : w0.heap.size = w.heap.size + 1 := by rw [e0]; simp
 have g0 : GrpAt w0 GG gp gq gg gh := by rw [e0, hGG]; exact GrpAt.new _ _ _ _ _ _
 rw [← e0, ← s0, ← hGG]; have HB0 := jh b0; clear e0 hGG b0 s0; obtain ⟨wz, e_0⟩ := je (w0.alloc (.cells #[.int .u64 (jf jd a 0), .int .u64 (jf jd a 1), .int .u64 (jf jd a 2), .int .u64 (jf jd a 3)] 24)); have s_0 : wz.heap.size = w0.heap.size + 1 := by rw [e_0]; simp
 have b_0 := jc e_0; have n_0 : NumAt wz (w0.heap.size) a := by rw [e_0]; exact NumAt.new w0 a _ _ rfl
 rw [← e_0]; obtain ⟨AA, h_0⟩ := je (w0.heap.size); have hwL : w0.heap.size ≤ AA := by omega
 have hRd : AA < wz.heap.size := by omega
 rw [← h_0] at n_0 ⊢; have HAA := jh n_0; have B := jh b_0; have hwAA : w0.heap.size ≤ AA := by omega
 have HSZ := jh (show wz.heap.size = AA + 1 by omega); clear e_0 s_0 b_0 n_0 h_0; have G0 := jh (GrpAt.later B.out g0); clear g0; refine (CM.out _).mono ?_; rintro _ w1 ⟨rfl, hb⟩; have HAA := jn hb HAA; have G0 := jh (GrpAt.later hb G0.out); have hRd := Nat.lt_of_lt_of_le hRd hb.size; have B := jw B hb; clear hb
 go_wp2_with fail
 refine bodyPost_ret (v := .bool false) ?_ rfl ⟨rfl, jk HB0.out B.out⟩
 simp [results, Tryz.results63, go_sem]
theorem RInG_any {gp gq gg gh a : Nat} (ha : a < jj) (hq : gq < jj) (hm : gp < jj) (w : World) :
  Calls Tryz.prog 63 #[jM gp gq gg gh, ji a] w fun e w' => e = .returned (.bool (decide (Zx gp gq a))) ∧ Below w.heap.size w w' := by
 by_cases h : zL gp a
 ·exact RInG_yes h ha hq hm w
 ·exact RInG_no h ha hq hm w
theorem RExpG_yes {gp gq gg gh a n : Nat} (h : zL gp a) (ha : a < jj) (hn : n < jj) (hm : gp < jj) (w : World) :
  Calls Tryz.prog 40 #[jM gp gq gg gh, ji a, ji n] w fun e w' => e = .returned (.tuple #[ji (a ^ n % gp), .int .i64 0]) ∧ Below w.heap.size w w' := by
 have CM := jh (fun (W : World) => by have h9 := Ji (gp := gp) (gq := gq) (gg := gg) (gh := gh) ha hm W; rewrite [decide_eq_true h] at h9; unfold jM ji words at h9; exact h9); obtain ⟨q, hq⟩ := je (a ^ n % gp); have CE := jh (fun W => by have h9 := RExp_yes hn hm h.1 h.2.2 W; rewrite [← hq] at h9; unfold ji words at h9; exact h9); rw [← hq]; clear hq h ha hn hm; unfold jM ji words
 go_enter Tryz.func40, Tryz.ntmps40
 go_wp2_with fail
 obtain ⟨w0, e0⟩ := je (w.alloc (.cells #[.int .u64 (jf jd gp 0), .int .u64 (jf jd gp 1), .int .u64 (jf jd gp 2), .int .u64 (jf jd gp 3), .int .u64 (jf jd gq 0), .int .u64 (jf jd gq 1), .int .u64 (jf jd gq 2), .int .u64 (jf jd gq 3), .int .u64 (jf jd gg 0), .int .u64 (jf jd gg 1), .int .u64 (jf jd gg 2), .int .u64 (jf jd gg 3), .int .u64 (jf jd gh 0), .int .u64 (jf jd gh 1), .int .u64 (jf jd gh 2), .int .u64 (jf jd gh 3)] 26)); obtain ⟨GG, hGG⟩ := je (w.heap.size); have b0 := jc e0; have s0 : w0.heap.size = w.heap.size + 1 := by rw [e0]; simp
 have g0 : GrpAt w0 GG gp gq gg gh := by rw [e0, hGG]; exact GrpAt.new _ _ _ _ _ _
 rw [← e0, ← s0, ← hGG]; have HB0 := jh b0; clear e0 hGG b0 s0; obtain ⟨w_0, e_0⟩ := je (w0.alloc (.cells #[.int .u64 (jf jd a 0), .int .u64 (jf jd a 1), .int .u64 (jf jd a 2), .int .u64 (jf jd a 3)] 24)); have s_0 : w_0.heap.size = w0.heap.size + 1 := by rw [e_0]; simp
 have b_0 := jc e_0; have n_0 : NumAt w_0 (w0.heap.size) a := by rw [e_0]; exact NumAt.new w0 a _ _ rfl
 obtain ⟨w_1, e_1⟩ := je (w_0.alloc (.cells #[.int .u64 (jf jd n 0), .int .u64 (jf jd n 1), .int .u64 (jf jd n 2), .int .u64 (jf jd n 3)] 24)); have s_1 : w_1.heap.size = w0.heap.size + 1 + 1 := by rw [e_1]; simp [s_0]
 have b_1 := jc e_1; have n_1 : NumAt w_1 (w0.heap.size + 1) n := by rw [e_1]; exact NumAt.new w_0 n _ _ s_0.symm
 obtain ⟨wz, e_2⟩ := je (w_1.alloc (.cells #[.int .u64 0, .int .u64 0, .int .u64 0, .int .u64 0] 24)); have s_2 : wz.heap.size = w0.heap.size + 1 + 1 + 1 := by rw [e_2]; simp [s_1]
 have b_2 := jc e_2; have n_2 : NumAt wz (w0.heap.size + 1 + 1) 0 := by rw [e_2, ← s_1]; exact jz w_1 _
 have f_2 : FreeN wz (w0.heap.size + 1 + 1) 4 := by rw [e_2]; exact FreeN.made w_1 _ _ 4 _ s_1.symm
 rw [← e_0, ← e_1, ← e_2]; obtain ⟨AA, h_0⟩ := je (w0.heap.size); obtain ⟨NN, h_1⟩ := je (AA + 1); obtain ⟨RR, h_2⟩ := je (NN + 1); have hwL : w0.heap.size ≤ AA := by omega
 have hRd : RR < wz.heap.size := by omega
 rw [← h_0] at n_0 n_1 n_2 f_2 ⊢; rw [← h_1] at n_1 n_2 f_2 ⊢; rw [← h_2] at n_2 f_2 ⊢; have l_1 : AA < NN := by omega
 have l_2 : NN < RR := by omega
 have HAA := jh (NumAt.later b_2 (NumAt.later b_1 n_0)); have HNN := jh (NumAt.later b_2 n_1); have HRR := jh n_2; have HF := jh f_2; have B := jh ((b_0.trans (b_1.mono (by omega))).trans (b_2.mono (by omega))); have hwRR : w0.heap.size ≤ RR := by omega
 have HSZ := jh (show wz.heap.size = RR + 1 by omega); clear e_0 s_0 b_0 n_0 h_0 e_1 s_1 b_1 n_1 h_1 e_2 s_2 b_2 n_2 h_2 f_2; have G0 := jh (GrpAt.later B.out g0); clear g0; refine (CM.out _).mono ?_; rintro _ w1 ⟨rfl, hb⟩; have HAA := jn hb HAA; have HNN := jn hb HNN; have HRR := jn hb HRR; have HF := jh (HF.out.later hb (by omega)); have G0 := jh (GrpAt.later hb G0.out); have hRd := Nat.lt_of_lt_of_le hRd hb.size; have B := jw B hb; clear hb; have r_gp_0 := G0.out.1 0 (by omega); have r_gp_1 := G0.out.1 1 (by omega); have r_gp_2 := G0.out.1 2 (by omega); have r_gp_3 := G0.out.1 3 (by omega); simp only [Nat.reduceAdd] at r_gp_0 r_gp_1 r_gp_2 r_gp_3; obtain ⟨r_AA_0, r_AA_1, r_AA_2, r_AA_3⟩ := jy HAA.out; obtain ⟨r_NN_0, r_NN_1, r_NN_2, r_NN_3⟩ := jy HNN.out
 go_wp2_with fail
 clear r_AA_0 r_AA_1 r_AA_2 r_AA_3 r_NN_0 r_NN_1 r_NN_2 r_NN_3; clear r_gp_0 r_gp_1 r_gp_2 r_gp_3; refine (CE.out _).mono ?_; rintro _ w2 ⟨rfl, hb⟩; have HAA := jn hb HAA; have HNN := jn hb HNN; have HRR := jn hb HRR; have HF := jh (HF.out.later hb (by omega)); have G0 := jh (GrpAt.later hb G0.out); have hRd := Nat.lt_of_lt_of_le hRd hb.size; have B := jw B hb; clear hb; obtain ⟨c0, c1, c2, c3, f0, f1, f2, f3⟩ := jC HRR.out HF.out
 go_wp2_with fail
 have HRL := jh (NumAt.set4 HRR.out q); have B9 := jh (jp B.out hwRR (.int .u64 (jf jd q 0)) (.int .u64 (jf jd q 1)) (.int .u64 (jf jd q 2)) (.int .u64 (jf jd q 3))); obtain ⟨g0, g1, g2, g3⟩ := jy HRL.out; refine bodyPost_ret (v := .tuple #[.agg #[.int .u64 (jf jd q 0), .int .u64 (jf jd q 1), .int .u64 (jf jd q 2), .int .u64 (jf jd q 3)], .int .i64 0]) ?_ rfl ⟨rfl, jk HB0.out B9.out⟩
 simp [results, Tryz.results40, go_sem, g0, g1, g2, g3]
theorem RMulG_yes {gp gq gg gh a n : Nat} (h : zL gp a) (h2 : zL gp n) (hm : gp < jj) (w : World) :
  Calls Tryz.prog 42 #[jM gp gq gg gh, ji a, ji n] w fun e w' => e = .returned (.tuple #[ji (a * n % gp), .int .i64 0]) ∧ Below w.heap.size w w' := by
 have CM := jh (fun (W : World) => by have h9 := Ji (gp := gp) (gq := gq) (gg := gg) (gh := gh) (Nat.lt_trans h.2.2 hm) hm W; rewrite [decide_eq_true h] at h9; unfold jM ji words at h9; exact h9); have CM2 := jh (fun (W : World) => by have h9 := Ji (gp := gp) (gq := gq) (gg := gg) (gh := gh) (Nat.lt_trans h2.2.2 hm) hm W; rewrite [decide_eq_true h2] at h9; unfold jM ji words at h9; exact h9); obtain ⟨q, hq⟩ := je (a * n % gp); have CE := jh (fun W => by have h9 := RMulM_yes hm ⟨h.1, h.2.2, h2.2.2⟩ W; rewrite [← hq] at h9; unfold ji words at h9; exact h9); rw [← hq]; clear hq h h2 hm; unfold jM ji words
 go_enter Tryz.func42, Tryz.ntmps42
 go_wp2_with fail
 obtain ⟨w0, e0⟩ := je (w.alloc (.cells #[.int .u64 (jf jd gp 0), .int .u64 (jf jd gp 1), .int .u64 (jf jd gp 2), .int .u64 (jf jd gp 3), .int .u64 (jf jd gq 0), .int .u64 (jf jd gq 1), .int .u64 (jf jd gq 2), .int .u64 (jf jd gq 3), .int .u64 (jf jd gg 0), .int .u64 (jf jd gg 1), .int .u64 (jf jd gg 2), .int .u64 (jf jd gg 3), .int .u64 (jf jd gh 0), .int .u64 (jf jd gh 1), .int .u64 (jf jd gh 2), .int .u64 (jf jd gh 3)] 26)); obtain ⟨GG, hGG⟩ := je (w.heap.size); have b0 := jc e0; have s0 : w0.heap.size = w.heap.size + 1 := by rw [e0]; simp
 have g0 : GrpAt w0 GG gp gq gg gh := by rw [e0, hGG]; exact GrpAt.new _ _ _ _ _ _
 rw [← e0, ← s0, ← hGG]; have HB0 := jh b0; clear e0 hGG b0 s0; obtain ⟨w_0, e_0⟩ := je (w0.alloc (.cells #[.int .u64 (jf jd a 0), .int .u64 (jf jd a 1), .int .u64 (jf jd a 2), .int .u64 (jf jd a 3)] 24)); have s_0 : w_0.heap.size = w0.heap.size + 1 := by rw [e_0]; simp
 have b_0 := jc e_0; have n_0 : NumAt w_0 (w0.heap.size) a := by rw [e_0]; exact NumAt.new w0 a _ _ rfl
 obtain ⟨w_1, e_1⟩ := je (w_0.alloc (.cells #[.int .u64 (jf jd n 0), .int .u64 (jf jd n 1), .int .u64 (jf jd n 2), .int .u64 (jf jd n 3)] 24)); have s_1 : w_1.heap.size = w0.heap.size + 1 + 1 := by rw [e_1]; simp [s_0]
 have b_1 := jc e_1; have n_1 : NumAt w_1 (w0.heap.size + 1) n := by rw [e_1]; exact NumAt.new w_0 n _ _ s_0.symm
 obtain ⟨wz, e_2⟩ := je (w_1.alloc (.cells #[.int .u64 0, .int .u64 0, .int .u64 0, .int .u64 0] 24)); have s_2 : wz.heap.size = w0.heap.size + 1 + 1 + 1 := by rw [e_2]; simp [s_1]
 have b_2 := jc e_2; have n_2 : NumAt wz (w0.heap.size + 1 + 1) 0 := by rw [e_2, ← s_1]; exact jz w_1 _
 have f_2 : FreeN wz (w0.heap.size + 1 + 1) 4 := by rw [e_2]; exact FreeN.made w_1 _ _ 4 _ s_1.symm
 rw [← e_0, ← e_1, ← e_2]; obtain ⟨AA, h_0⟩ := je (w0.heap.size); obtain ⟨NN, h_1⟩ := je (AA + 1); obtain ⟨RR, h_2⟩ := je (NN + 1); have hwL : w0.heap.size ≤ AA := by omega
 have hRd : RR < wz.heap.size := by omega
 rw [← h_0] at n_0 n_1 n_2 f_2 ⊢; rw [← h_1] at n_1 n_2 f_2 ⊢; rw [← h_2] at n_2 f_2 ⊢; have l_1 : AA < NN := by omega
 have l_2 : NN < RR := by omega
 have HAA := jh (NumAt.later b_2 (NumAt.later b_1 n_0)); have HNN := jh (NumAt.later b_2 n_1); have HRR := jh n_2; have HF := jh f_2; have B := jh ((b_0.trans (b_1.mono (by omega))).trans (b_2.mono (by omega))); have hwRR : w0.heap.size ≤ RR := by omega
 have HSZ := jh (show wz.heap.size = RR + 1 by omega); clear e_0 s_0 b_0 n_0 h_0 e_1 s_1 b_1 n_1 h_1 e_2 s_2 b_2 n_2 h_2 f_2; have G0 := jh (GrpAt.later B.out g0); clear g0; refine (CM.out _).mono ?_; rintro _ w1 ⟨rfl, hb⟩; have HAA := jn hb HAA; have HNN := jn hb HNN; have HRR := jn hb HRR; have HF := jh (HF.out.later hb (by omega)); have G0 := jh (GrpAt.later hb G0.out); have hRd := Nat.lt_of_lt_of_le hRd hb.size; have B := jw B hb; clear hb; have r_gp_0 := G0.out.1 0 (by omega); have r_gp_1 := G0.out.1 1 (by omega); have r_gp_2 := G0.out.1 2 (by omega); have r_gp_3 := G0.out.1 3 (by omega); simp only [Nat.reduceAdd] at r_gp_0 r_gp_1 r_gp_2 r_gp_3; have r_gq_0 := G0.out.2.1 0 (by omega); have r_gq_1 := G0.out.2.1 1 (by omega); have r_gq_2 := G0.out.2.1 2 (by omega); have r_gq_3 := G0.out.2.1 3 (by omega); simp only [Nat.reduceAdd] at r_gq_0 r_gq_1 r_gq_2 r_gq_3; have r_gg_0 := G0.out.2.2.1 0 (by omega); have r_gg_1 := G0.out.2.2.1 1 (by omega); have r_gg_2 := G0.out.2.2.1 2 (by omega); have r_gg_3 := G0.out.2.2.1 3 (by omega); simp only [Nat.reduceAdd] at r_gg_0 r_gg_1 r_gg_2 r_gg_3; have r_gh_0 := G0.out.2.2.2 0 (by omega); have r_gh_1 := G0.out.2.2.2 1 (by omega); have r_gh_2 := G0.out.2.2.2 2 (by omega); have r_gh_3 := G0.out.2.2.2 3 (by omega); simp only [Nat.reduceAdd] at r_gh_0 r_gh_1 r_gh_2 r_gh_3; obtain ⟨r_NN_0, r_NN_1, r_NN_2, r_NN_3⟩ := jy HNN.out
 go_wp2_with fail
 clear r_NN_0 r_NN_1 r_NN_2 r_NN_3; clear r_gp_0 r_gp_1 r_gp_2 r_gp_3 r_gq_0 r_gq_1 r_gq_2 r_gq_3 r_gg_0 r_gg_1 r_gg_2 r_gg_3 r_gh_0 r_gh_1 r_gh_2 r_gh_3; refine (CM2.out _).mono ?_; rintro _ w2 ⟨rfl, hb⟩; have HAA := jn hb HAA; have HNN := jn hb HNN; have HRR := jn hb HRR; have HF := jh (HF.out.later hb (by omega)); have G0 := jh (GrpAt.later hb G0.out); have hRd := Nat.lt_of_lt_of_le hRd hb.size; have B := jw B hb; clear hb; have r_gp_0 := G0.out.1 0 (by omega); have r_gp_1 := G0.out.1 1 (by omega); have r_gp_2 := G0.out.1 2 (by omega); have r_gp_3 := G0.out.1 3 (by omega); simp only [Nat.reduceAdd] at r_gp_0 r_gp_1 r_gp_2 r_gp_3; obtain ⟨r_AA_0, r_AA_1, r_AA_2, r_AA_3⟩ := jy HAA.out; obtain ⟨r_NN_0, r_NN_1, r_NN_2, r_NN_3⟩ := jy HNN.out
 go_wp2_with fail
 clear r_AA_0 r_AA_1 r_AA_2 r_AA_3 r_NN_0 r_NN_1 r_NN_2 r_NN_3; clear r_gp_0 r_gp_1 r_gp_2 r_gp_3; refine (CE.out _).mono ?_; rintro _ w3 ⟨rfl, hb⟩; have HAA := jn hb HAA; have HNN := jn hb HNN; have HRR := jn hb HRR; have HF := jh (HF.out.later hb (by omega)); have G0 := jh (GrpAt.later hb G0.out); have hRd := Nat.lt_of_lt_of_le hRd hb.size; have B := jw B hb; clear hb; obtain ⟨c0, c1, c2, c3, f0, f1, f2, f3⟩ := jC HRR.out HF.out
 go_wp2_with fail
 have HRL := jh (NumAt.set4 HRR.out q); have B9 := jh (jp B.out hwRR (.int .u64 (jf jd q 0)) (.int .u64 (jf jd q 1)) (.int .u64 (jf jd q 2)) (.int .u64 (jf jd q 3))); obtain ⟨g0, g1, g2, g3⟩ := jy HRL.out; refine bodyPost_ret (v := .tuple #[.agg #[.int .u64 (jf jd q 0), .int .u64 (jf jd q 1), .int .u64 (jf jd q 2), .int .u64 (jf jd q 3)], .int .i64 0]) ?_ rfl ⟨rfl, jk HB0.out B9.out⟩
 simp [results, Tryz.results42, go_sem, g0, g1, g2, g3]
end Go.Proofs.YtcaeaejefdhloaaGreat
