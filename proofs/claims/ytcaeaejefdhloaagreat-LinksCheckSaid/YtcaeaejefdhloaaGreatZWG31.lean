/- Layer 8 (groups) -/
import Derived.Test.YtcaeaejefdhloaaGreatZWG30
set_option linter.unusedSimpArgs false
set_option linter.unusedVariables false
set_option maxHeartbeats 4000000
set_option maxRecDepth 100000
namespace Go.Proofs.YtcaeaejefdhloaaGreat
open Go.ChangeShapes Go.WideShapes Go.ChangeAt Go.RowKit
def NumO (w : World) (b o x : Nat) : Prop := ∀ j, j < 4 → w.cell? ⟨b, o + j, none⟩ = some (.int .u64 (jf jd x j))
def GrpAt (w : World) (b gp gq gg gh : Nat) : Prop := NumO w b 0 gp ∧ NumO w b 4 gq ∧ NumO w b 8 gg ∧ NumO w b 12 gh
theorem NumO.lt {w : World} {b o x : Nat} (h : NumO w b o x) : b < w.heap.size := World.block_lt_of_cell? (a := ⟨b, o + 0, none⟩) _ (h 0 (by omega))
theorem NumO.later {w w' : World} {b o x : Nat} (hb : Below w.heap.size w w') (h : NumO w b o x) : NumO w' b o x := fun j hj => (hb.cell (p := ⟨b, o + j, none⟩) h.lt).trans (h j hj)
theorem GrpAt.later {w w' : World} {b gp gq gg gh : Nat} (hb : Below w.heap.size w w') (h : GrpAt w b gp gq gg gh) : GrpAt w' b gp gq gg gh := ⟨h.1.later hb, h.2.1.later hb, h.2.2.1.later hb, h.2.2.2.later hb⟩
theorem GrpAt.lt {w : World} {b gp gq gg gh : Nat} (h : GrpAt w b gp gq gg gh) : b < w.heap.size := h.1.lt
theorem GrpAt.new (w : World) (gp gq gg gh : Nat) (t : TypeId) : GrpAt (w.alloc (.cells #[.int .u64 (jf jd gp 0), .int .u64 (jf jd gp 1), .int .u64 (jf jd gp 2), .int .u64 (jf jd gp 3), .int .u64 (jf jd gq 0), .int .u64 (jf jd gq 1), .int .u64 (jf jd gq 2), .int .u64 (jf jd gq 3), .int .u64 (jf jd gg 0), .int .u64 (jf jd gg 1), .int .u64 (jf jd gg 2), .int .u64 (jf jd gg 3), .int .u64 (jf jd gh 0), .int .u64 (jf jd gh 1), .int .u64 (jf jd gh 2), .int .u64 (jf jd gh 3)] t)) w.heap.size gp gq gg gh := by
 refine ⟨?_, ?_, ?_, ?_⟩ <;> (intro j hj; rcases (show j = 0 ∨ j = 1 ∨ j = 2 ∨ j = 3 by omega) with rfl | rfl | rfl | rfl <;> simp)
theorem may_yes {gp gq gg gh a : Nat} (h1 : 1 < gp) (ha0 : a ≠ 0) (ha : a < gp) (hm : gp < jj) (w : World) :
  Calls Tryz.prog 75 #[.agg #[.int .u64 (jf jd gp 0), .int .u64 (jf jd gp 1), .int .u64 (jf jd gp 2), .int .u64 (jf jd gp 3), .int .u64 (jf jd gq 0), .int .u64 (jf jd gq 1), .int .u64 (jf jd gq 2), .int .u64 (jf jd gq 3), .int .u64 (jf jd gg 0), .int .u64 (jf jd gg 1), .int .u64 (jf jd gg 2), .int .u64 (jf jd gg 3), .int .u64 (jf jd gh 0), .int .u64 (jf jd gh 1), .int .u64 (jf jd gh 2), .int .u64 (jf jd gh 3)], ji a] w fun e w' => e = .returned (.bool true) ∧ Below w.heap.size w w' := by
 have ha9 := Nat.lt_trans ha hm; have hne := JF a 0 (Nat.lt_trans ha hm) qB; rw [decide_eq_false ha0] at hne; have C1 := jh (fun w => by have h := qO 1 1 rfl (by decide) w; unfold ji words at h; exact h); have C0 := jh (fun w => by have h := qO 0 0 rfl (by decide) w; unfold ji words at h; exact h); have K1 := jh (fun w => by have h := qt hm (show 1 < jj by decide) w; rw [zm h1] at h; unfold ji words at h; exact h); have K2 := jh (fun w => by have h := qt ha9 hm w; rw [zM ha] at h; unfold ji words at h; exact h); clear ha9 h1 ha0 ha hm; unfold ji words
 go_enter Tryz.func75, Tryz.ntmps75
 go_wp2_with fail
 obtain ⟨w0, e0⟩ := je (w.alloc (.cells #[.int .u64 (jf jd gp 0), .int .u64 (jf jd gp 1), .int .u64 (jf jd gp 2), .int .u64 (jf jd gp 3), .int .u64 (jf jd gq 0), .int .u64 (jf jd gq 1), .int .u64 (jf jd gq 2), .int .u64 (jf jd gq 3), .int .u64 (jf jd gg 0), .int .u64 (jf jd gg 1), .int .u64 (jf jd gg 2), .int .u64 (jf jd gg 3), .int .u64 (jf jd gh 0), .int .u64 (jf jd gh 1), .int .u64 (jf jd gh 2), .int .u64 (jf jd gh 3)] 26)); obtain ⟨GG, hGG⟩ := je (w.heap.size); have b0 := jc e0; have s0 : w0.heap.size = w.heap.size + 1 := by rw [e0]; simp
 have g0 : GrpAt w0 GG gp gq gg gh := by rw [e0, hGG]; exact GrpAt.new _ _ _ _ _ _
 rw [← e0, ← s0, ← hGG]; have HB0 := jh b0; clear e0 hGG b0 s0; obtain ⟨wz, e_0⟩ := je (w0.alloc (.cells #[.int .u64 (jf jd a 0), .int .u64 (jf jd a 1), .int .u64 (jf jd a 2), .int .u64 (jf jd a 3)] 24)); have s_0 : wz.heap.size = w0.heap.size + 1 := by rw [e_0]; simp
 have b_0 := jc e_0; have n_0 : NumAt wz (w0.heap.size) a := by rw [e_0]; exact NumAt.new w0 a _ _ rfl
 rw [← e_0]; obtain ⟨AA, h_0⟩ := je (w0.heap.size); have hwL : w0.heap.size ≤ AA := by omega
 have hRd : AA < wz.heap.size := by omega
 rw [← h_0] at n_0 ⊢; have HAA := jh n_0; have B := jh b_0; have hwAA : w0.heap.size ≤ AA := by omega
 have HSZ := jh (show wz.heap.size = AA + 1 by omega); clear e_0 s_0 b_0 n_0 h_0; have G0 := jh (GrpAt.later B.out g0); clear g0; refine jv 17 (fun _ => none) (by kernel_rfl) (by kernel_rfl) (fun _ _ _ _ _ h => h) (fun F hn9 hcl hbl => ?_); have r_AA_0 := jr hbl HAA 0 (by omega); have r_AA_1 := jr hbl HAA 1 (by omega); have r_AA_2 := jr hbl HAA 2 (by omega); have r_AA_3 := jr hbl HAA 3 (by omega); have r_G_0 := fun X9 : Wd F => (GrpAt.later (hbl X9.world X9.fact) G0.out).1 0 (by omega)
 have r_G_1 := fun X9 : Wd F => (GrpAt.later (hbl X9.world X9.fact) G0.out).1 1 (by omega)
 have r_G_2 := fun X9 : Wd F => (GrpAt.later (hbl X9.world X9.fact) G0.out).1 2 (by omega)
 have r_G_3 := fun X9 : Wd F => (GrpAt.later (hbl X9.world X9.fact) G0.out).1 3 (by omega)
 simp only [Nat.reduceAdd] at r_G_0 r_G_1 r_G_2 r_G_3; have HCL := jh hcl; clear hcl hbl; refine jG 17 0 _ _ (fun _ _ _ => rfl) (by decide) ?_; simp only [List.take_succ_cons, List.take_zero, List.drop_succ_cons, List.drop_zero, Nat.reduceAdd]
 repeat (go_big_quiet_step ((first | (go_at_call 49; with_reducible exact js HCL.out (C1.out _)) | (go_at_call 49; with_reducible exact js HCL.out (C0.out _)) | (go_at_call 52; with_reducible exact js HCL.out (K1.out _)) | (go_at_call 52; with_reducible exact js HCL.out (K2.out _)))))
 refine wpQuiet_nil ?_; refine jI ?_; intro bs w2 hb _ _; clear r_AA_0 r_AA_1 r_AA_2 r_AA_3; have HAA := jn hb HAA; have hRd := Nat.lt_of_lt_of_le hRd hb.size; have B := jw B hb; clear hb; simp only [qx]; clear r_G_0 r_G_1 r_G_2 r_G_3
 go_wp2_with fail
 refine bodyPost_ret (v := .bool true) ?_ rfl ⟨rfl, jk HB0.out B.out⟩
 simp [results, Tryz.results75, go_sem]
theorem may_low0 {gp gq gg gh a : Nat} (h : gp < 1) (ha9 : a < jj) (hm : gp < jj) (w : World) :
  Calls Tryz.prog 75 #[.agg #[.int .u64 (jf jd gp 0), .int .u64 (jf jd gp 1), .int .u64 (jf jd gp 2), .int .u64 (jf jd gp 3), .int .u64 (jf jd gq 0), .int .u64 (jf jd gq 1), .int .u64 (jf jd gq 2), .int .u64 (jf jd gq 3), .int .u64 (jf jd gg 0), .int .u64 (jf jd gg 1), .int .u64 (jf jd gg 2), .int .u64 (jf jd gg 3), .int .u64 (jf jd gh 0), .int .u64 (jf jd gh 1), .int .u64 (jf jd gh 2), .int .u64 (jf jd gh 3)], ji a] w fun e w' => e = .returned (.bool false) ∧ Below w.heap.size w w' := by
 have hne := JF a 0 ha9 qB; have C1 := jh (fun w => by have h := qO 1 1 rfl (by decide) w; unfold ji words at h; exact h); have C0 := jh (fun w => by have h := qO 0 0 rfl (by decide) w; unfold ji words at h; exact h); have e1 : qw gp 1 = -1 := by exact zM h
 have K1 := jh (fun w => by have h := qt hm (show 1 < jj by decide) w; rw [e1] at h; unfold ji words at h; exact h); obtain ⟨c2, e2⟩ : ∃ c, qw a gp = c := ⟨_, rfl⟩; have K2 := jh (fun w => by have h := qt ha9 hm w; rw [e2] at h; unfold ji words at h; exact h); clear e1 e2 ha9 hm h; unfold ji words
 go_enter Tryz.func75, Tryz.ntmps75
 go_wp2_with fail
 obtain ⟨w0, e0⟩ := je (w.alloc (.cells #[.int .u64 (jf jd gp 0), .int .u64 (jf jd gp 1), .int .u64 (jf jd gp 2), .int .u64 (jf jd gp 3), .int .u64 (jf jd gq 0), .int .u64 (jf jd gq 1), .int .u64 (jf jd gq 2), .int .u64 (jf jd gq 3), .int .u64 (jf jd gg 0), .int .u64 (jf jd gg 1), .int .u64 (jf jd gg 2), .int .u64 (jf jd gg 3), .int .u64 (jf jd gh 0), .int .u64 (jf jd gh 1), .int .u64 (jf jd gh 2), .int .u64 (jf jd gh 3)] 26)); obtain ⟨GG, hGG⟩ := je (w.heap.size); have b0 := jc e0; have s0 : w0.heap.size = w.heap.size + 1 := by rw [e0]; simp
 have g0 : GrpAt w0 GG gp gq gg gh := by rw [e0, hGG]; exact GrpAt.new _ _ _ _ _ _
 rw [← e0, ← s0, ← hGG]; have HB0 := jh b0; clear e0 hGG b0 s0; obtain ⟨wz, e_0⟩ := je (w0.alloc (.cells #[.int .u64 (jf jd a 0), .int .u64 (jf jd a 1), .int .u64 (jf jd a 2), .int .u64 (jf jd a 3)] 24)); have s_0 : wz.heap.size = w0.heap.size + 1 := by rw [e_0]; simp
 have b_0 := jc e_0; have n_0 : NumAt wz (w0.heap.size) a := by rw [e_0]; exact NumAt.new w0 a _ _ rfl
 rw [← e_0]; obtain ⟨AA, h_0⟩ := je (w0.heap.size); have hwL : w0.heap.size ≤ AA := by omega
 have hRd : AA < wz.heap.size := by omega
 rw [← h_0] at n_0 ⊢; have HAA := jh n_0; have B := jh b_0; have hwAA : w0.heap.size ≤ AA := by omega
 have HSZ := jh (show wz.heap.size = AA + 1 by omega); clear e_0 s_0 b_0 n_0 h_0; have G0 := jh (GrpAt.later B.out g0); clear g0; refine jv 17 (fun _ => none) (by kernel_rfl) (by kernel_rfl) (fun _ _ _ _ _ h => h) (fun F hn9 hcl hbl => ?_); have r_AA_0 := jr hbl HAA 0 (by omega); have r_AA_1 := jr hbl HAA 1 (by omega); have r_AA_2 := jr hbl HAA 2 (by omega); have r_AA_3 := jr hbl HAA 3 (by omega); have r_G_0 := fun X9 : Wd F => (GrpAt.later (hbl X9.world X9.fact) G0.out).1 0 (by omega)
 have r_G_1 := fun X9 : Wd F => (GrpAt.later (hbl X9.world X9.fact) G0.out).1 1 (by omega)
 have r_G_2 := fun X9 : Wd F => (GrpAt.later (hbl X9.world X9.fact) G0.out).1 2 (by omega)
 have r_G_3 := fun X9 : Wd F => (GrpAt.later (hbl X9.world X9.fact) G0.out).1 3 (by omega)
 simp only [Nat.reduceAdd] at r_G_0 r_G_1 r_G_2 r_G_3; have HCL := jh hcl; clear hcl hbl; refine jG 17 0 _ _ (fun _ _ _ => rfl) (by decide) ?_; simp only [List.take_succ_cons, List.take_zero, List.drop_succ_cons, List.drop_zero, Nat.reduceAdd]
 repeat (go_big_quiet_step ((first | (go_at_call 49; with_reducible exact js HCL.out (C1.out _)) | (go_at_call 49; with_reducible exact js HCL.out (C0.out _)) | (go_at_call 52; with_reducible exact js HCL.out (K1.out _)) | (go_at_call 52; with_reducible exact js HCL.out (K2.out _)))))
 refine wpQuiet_nil ?_; refine jI ?_; intro bs w2 hb _ _; clear r_AA_0 r_AA_1 r_AA_2 r_AA_3; have HAA := jn hb HAA; have hRd := Nat.lt_of_lt_of_le hRd hb.size; have B := jw B hb; clear hb; simp only [qx]; clear r_G_0 r_G_1 r_G_2 r_G_3
 go_wp2_with fail
 refine bodyPost_ret (v := .bool false) ?_ rfl ⟨rfl, jk HB0.out B.out⟩
 simp [results, Tryz.results75, go_sem]
theorem may_low1 {gp gq gg gh a : Nat} (h : gp = 1) (ha9 : a < jj) (hm : gp < jj) (w : World) :
  Calls Tryz.prog 75 #[.agg #[.int .u64 (jf jd gp 0), .int .u64 (jf jd gp 1), .int .u64 (jf jd gp 2), .int .u64 (jf jd gp 3), .int .u64 (jf jd gq 0), .int .u64 (jf jd gq 1), .int .u64 (jf jd gq 2), .int .u64 (jf jd gq 3), .int .u64 (jf jd gg 0), .int .u64 (jf jd gg 1), .int .u64 (jf jd gg 2), .int .u64 (jf jd gg 3), .int .u64 (jf jd gh 0), .int .u64 (jf jd gh 1), .int .u64 (jf jd gh 2), .int .u64 (jf jd gh 3)], ji a] w fun e w' => e = .returned (.bool false) ∧ Below w.heap.size w w' := by
 have hne := JF a 0 ha9 qB; have C1 := jh (fun w => by have h := qO 1 1 rfl (by decide) w; unfold ji words at h; exact h); have C0 := jh (fun w => by have h := qO 0 0 rfl (by decide) w; unfold ji words at h; exact h); have e1 : qw gp 1 = 0 := by rw [h]; rfl
 have K1 := jh (fun w => by have h := qt hm (show 1 < jj by decide) w; rw [e1] at h; unfold ji words at h; exact h); obtain ⟨c2, e2⟩ : ∃ c, qw a gp = c := ⟨_, rfl⟩; have K2 := jh (fun w => by have h := qt ha9 hm w; rw [e2] at h; unfold ji words at h; exact h); clear e1 e2 ha9 hm h; unfold ji words
 go_enter Tryz.func75, Tryz.ntmps75
 go_wp2_with fail
 obtain ⟨w0, e0⟩ := je (w.alloc (.cells #[.int .u64 (jf jd gp 0), .int .u64 (jf jd gp 1), .int .u64 (jf jd gp 2), .int .u64 (jf jd gp 3), .int .u64 (jf jd gq 0), .int .u64 (jf jd gq 1), .int .u64 (jf jd gq 2), .int .u64 (jf jd gq 3), .int .u64 (jf jd gg 0), .int .u64 (jf jd gg 1), .int .u64 (jf jd gg 2), .int .u64 (jf jd gg 3), .int .u64 (jf jd gh 0), .int .u64 (jf jd gh 1), .int .u64 (jf jd gh 2), .int .u64 (jf jd gh 3)] 26)); obtain ⟨GG, hGG⟩ := je (w.heap.size); have b0 := jc e0; have s0 : w0.heap.size = w.heap.size + 1 := by rw [e0]; simp
 have g0 : GrpAt w0 GG gp gq gg gh := by rw [e0, hGG]; exact GrpAt.new _ _ _ _ _ _
 rw [← e0, ← s0, ← hGG]; have HB0 := jh b0; clear e0 hGG b0 s0; obtain ⟨wz, e_0⟩ := je (w0.alloc (.cells #[.int .u64 (jf jd a 0), .int .u64 (jf jd a 1), .int .u64 (jf jd a 2), .int .u64 (jf jd a 3)] 24)); have s_0 : wz.heap.size = w0.heap.size + 1 := by rw [e_0]; simp
 have b_0 := jc e_0; have n_0 : NumAt wz (w0.heap.size) a := by rw [e_0]; exact NumAt.new w0 a _ _ rfl
 rw [← e_0]; obtain ⟨AA, h_0⟩ := je (w0.heap.size); have hwL : w0.heap.size ≤ AA := by omega
 have hRd : AA < wz.heap.size := by omega
 rw [← h_0] at n_0 ⊢; have HAA := jh n_0; have B := jh b_0; have hwAA : w0.heap.size ≤ AA := by omega
 have HSZ := jh (show wz.heap.size = AA + 1 by omega); clear e_0 s_0 b_0 n_0 h_0; have G0 := jh (GrpAt.later B.out g0); clear g0; refine jv 17 (fun _ => none) (by kernel_rfl) (by kernel_rfl) (fun _ _ _ _ _ h => h) (fun F hn9 hcl hbl => ?_); have r_AA_0 := jr hbl HAA 0 (by omega); have r_AA_1 := jr hbl HAA 1 (by omega); have r_AA_2 := jr hbl HAA 2 (by omega); have r_AA_3 := jr hbl HAA 3 (by omega); have r_G_0 := fun X9 : Wd F => (GrpAt.later (hbl X9.world X9.fact) G0.out).1 0 (by omega)
 have r_G_1 := fun X9 : Wd F => (GrpAt.later (hbl X9.world X9.fact) G0.out).1 1 (by omega)
 have r_G_2 := fun X9 : Wd F => (GrpAt.later (hbl X9.world X9.fact) G0.out).1 2 (by omega)
 have r_G_3 := fun X9 : Wd F => (GrpAt.later (hbl X9.world X9.fact) G0.out).1 3 (by omega)
 simp only [Nat.reduceAdd] at r_G_0 r_G_1 r_G_2 r_G_3; have HCL := jh hcl; clear hcl hbl; refine jG 17 0 _ _ (fun _ _ _ => rfl) (by decide) ?_; simp only [List.take_succ_cons, List.take_zero, List.drop_succ_cons, List.drop_zero, Nat.reduceAdd]
 repeat (go_big_quiet_step ((first | (go_at_call 49; with_reducible exact js HCL.out (C1.out _)) | (go_at_call 49; with_reducible exact js HCL.out (C0.out _)) | (go_at_call 52; with_reducible exact js HCL.out (K1.out _)) | (go_at_call 52; with_reducible exact js HCL.out (K2.out _)))))
 refine wpQuiet_nil ?_; refine jI ?_; intro bs w2 hb _ _; clear r_AA_0 r_AA_1 r_AA_2 r_AA_3; have HAA := jn hb HAA; have hRd := Nat.lt_of_lt_of_le hRd hb.size; have B := jw B hb; clear hb; simp only [qx]; clear r_G_0 r_G_1 r_G_2 r_G_3
 go_wp2_with fail
 refine bodyPost_ret (v := .bool false) ?_ rfl ⟨rfl, jk HB0.out B.out⟩
 simp [results, Tryz.results75, go_sem]
theorem may_zero {gp gq gg gh a : Nat} (h1 : 1 < gp) (h : a = 0) (ha9 : a < jj) (hm : gp < jj) (w : World) :
  Calls Tryz.prog 75 #[.agg #[.int .u64 (jf jd gp 0), .int .u64 (jf jd gp 1), .int .u64 (jf jd gp 2), .int .u64 (jf jd gp 3), .int .u64 (jf jd gq 0), .int .u64 (jf jd gq 1), .int .u64 (jf jd gq 2), .int .u64 (jf jd gq 3), .int .u64 (jf jd gg 0), .int .u64 (jf jd gg 1), .int .u64 (jf jd gg 2), .int .u64 (jf jd gg 3), .int .u64 (jf jd gh 0), .int .u64 (jf jd gh 1), .int .u64 (jf jd gh 2), .int .u64 (jf jd gh 3)], ji a] w fun e w' => e = .returned (.bool false) ∧ Below w.heap.size w w' := by
 have hne := JF a 0 ha9 qB; rw [decide_eq_true h] at hne; have C1 := jh (fun w => by have h := qO 1 1 rfl (by decide) w; unfold ji words at h; exact h); have C0 := jh (fun w => by have h := qO 0 0 rfl (by decide) w; unfold ji words at h; exact h); have e1 : qw gp 1 = 1 := by exact zm h1
 have K1 := jh (fun w => by have h := qt hm (show 1 < jj by decide) w; rw [e1] at h; unfold ji words at h; exact h); obtain ⟨c2, e2⟩ : ∃ c, qw a gp = c := ⟨_, rfl⟩; have K2 := jh (fun w => by have h := qt ha9 hm w; rw [e2] at h; unfold ji words at h; exact h); clear e1 e2 ha9 hm h; unfold ji words
 go_enter Tryz.func75, Tryz.ntmps75
 go_wp2_with fail
 obtain ⟨w0, e0⟩ := je (w.alloc (.cells #[.int .u64 (jf jd gp 0), .int .u64 (jf jd gp 1), .int .u64 (jf jd gp 2), .int .u64 (jf jd gp 3), .int .u64 (jf jd gq 0), .int .u64 (jf jd gq 1), .int .u64 (jf jd gq 2), .int .u64 (jf jd gq 3), .int .u64 (jf jd gg 0), .int .u64 (jf jd gg 1), .int .u64 (jf jd gg 2), .int .u64 (jf jd gg 3), .int .u64 (jf jd gh 0), .int .u64 (jf jd gh 1), .int .u64 (jf jd gh 2), .int .u64 (jf jd gh 3)] 26)); obtain ⟨GG, hGG⟩ := je (w.heap.size); have b0 := jc e0; have s0 : w0.heap.size = w.heap.size + 1 := by rw [e0]; simp
 have g0 : GrpAt w0 GG gp gq gg gh := by rw [e0, hGG]; exact GrpAt.new _ _ _ _ _ _
 rw [← e0, ← s0, ← hGG]; have HB0 := jh b0; clear e0 hGG b0 s0; obtain ⟨wz, e_0⟩ := je (w0.alloc (.cells #[.int .u64 (jf jd a 0), .int .u64 (jf jd a 1), .int .u64 (jf jd a 2), .int .u64 (jf jd a 3)] 24)); have s_0 : wz.heap.size = w0.heap.size + 1 := by rw [e_0]; simp
 have b_0 := jc e_0; have n_0 : NumAt wz (w0.heap.size) a := by rw [e_0]; exact NumAt.new w0 a _ _ rfl
 rw [← e_0]; obtain ⟨AA, h_0⟩ := je (w0.heap.size); have hwL : w0.heap.size ≤ AA := by omega
 have hRd : AA < wz.heap.size := by omega
 rw [← h_0] at n_0 ⊢; have HAA := jh n_0; have B := jh b_0; have hwAA : w0.heap.size ≤ AA := by omega
 have HSZ := jh (show wz.heap.size = AA + 1 by omega); clear e_0 s_0 b_0 n_0 h_0; have G0 := jh (GrpAt.later B.out g0); clear g0; refine jv 17 (fun _ => none) (by kernel_rfl) (by kernel_rfl) (fun _ _ _ _ _ h => h) (fun F hn9 hcl hbl => ?_); have r_AA_0 := jr hbl HAA 0 (by omega); have r_AA_1 := jr hbl HAA 1 (by omega); have r_AA_2 := jr hbl HAA 2 (by omega); have r_AA_3 := jr hbl HAA 3 (by omega); have r_G_0 := fun X9 : Wd F => (GrpAt.later (hbl X9.world X9.fact) G0.out).1 0 (by omega)
 have r_G_1 := fun X9 : Wd F => (GrpAt.later (hbl X9.world X9.fact) G0.out).1 1 (by omega)
 have r_G_2 := fun X9 : Wd F => (GrpAt.later (hbl X9.world X9.fact) G0.out).1 2 (by omega)
 have r_G_3 := fun X9 : Wd F => (GrpAt.later (hbl X9.world X9.fact) G0.out).1 3 (by omega)
 simp only [Nat.reduceAdd] at r_G_0 r_G_1 r_G_2 r_G_3; have HCL := jh hcl; clear hcl hbl; refine jG 17 0 _ _ (fun _ _ _ => rfl) (by decide) ?_; simp only [List.take_succ_cons, List.take_zero, List.drop_succ_cons, List.drop_zero, Nat.reduceAdd]
 repeat (go_big_quiet_step ((first | (go_at_call 49; with_reducible exact js HCL.out (C1.out _)) | (go_at_call 49; with_reducible exact js HCL.out (C0.out _)) | (go_at_call 52; with_reducible exact js HCL.out (K1.out _)) | (go_at_call 52; with_reducible exact js HCL.out (K2.out _)))))
 refine wpQuiet_nil ?_; refine jI ?_; intro bs w2 hb _ _; clear r_AA_0 r_AA_1 r_AA_2 r_AA_3; have HAA := jn hb HAA; have hRd := Nat.lt_of_lt_of_le hRd hb.size; have B := jw B hb; clear hb; simp only [qx]; clear r_G_0 r_G_1 r_G_2 r_G_3
 go_wp2_with fail
 refine bodyPost_ret (v := .bool false) ?_ rfl ⟨rfl, jk HB0.out B.out⟩
 simp [results, Tryz.results75, go_sem]
theorem may_eq {gp gq gg gh a : Nat} (h1 : 1 < gp) (ha0 : a ≠ 0) (h : a = gp) (ha9 : a < jj) (hm : gp < jj) (w : World) :
  Calls Tryz.prog 75 #[.agg #[.int .u64 (jf jd gp 0), .int .u64 (jf jd gp 1), .int .u64 (jf jd gp 2), .int .u64 (jf jd gp 3), .int .u64 (jf jd gq 0), .int .u64 (jf jd gq 1), .int .u64 (jf jd gq 2), .int .u64 (jf jd gq 3), .int .u64 (jf jd gg 0), .int .u64 (jf jd gg 1), .int .u64 (jf jd gg 2), .int .u64 (jf jd gg 3), .int .u64 (jf jd gh 0), .int .u64 (jf jd gh 1), .int .u64 (jf jd gh 2), .int .u64 (jf jd gh 3)], ji a] w fun e w' => e = .returned (.bool false) ∧ Below w.heap.size w w' := by
 have hne := JF a 0 ha9 qB; rw [decide_eq_false ha0] at hne; have C1 := jh (fun w => by have h := qO 1 1 rfl (by decide) w; unfold ji words at h; exact h); have C0 := jh (fun w => by have h := qO 0 0 rfl (by decide) w; unfold ji words at h; exact h); have e1 : qw gp 1 = 1 := by exact zm h1
 have K1 := jh (fun w => by have h := qt hm (show 1 < jj by decide) w; rw [e1] at h; unfold ji words at h; exact h); have e2 : qw a gp = 0 := by rw [h]; unfold qw; rw [if_neg (by omega), if_pos rfl]
 have K2 := jh (fun w => by have h := qt ha9 hm w; rw [e2] at h; unfold ji words at h; exact h); clear e1 e2 ha9 hm h; unfold ji words
 go_enter Tryz.func75, Tryz.ntmps75
 go_wp2_with fail
 obtain ⟨w0, e0⟩ := je (w.alloc (.cells #[.int .u64 (jf jd gp 0), .int .u64 (jf jd gp 1), .int .u64 (jf jd gp 2), .int .u64 (jf jd gp 3), .int .u64 (jf jd gq 0), .int .u64 (jf jd gq 1), .int .u64 (jf jd gq 2), .int .u64 (jf jd gq 3), .int .u64 (jf jd gg 0), .int .u64 (jf jd gg 1), .int .u64 (jf jd gg 2), .int .u64 (jf jd gg 3), .int .u64 (jf jd gh 0), .int .u64 (jf jd gh 1), .int .u64 (jf jd gh 2), .int .u64 (jf jd gh 3)] 26)); obtain ⟨GG, hGG⟩ := je (w.heap.size); have b0 := jc e0; have s0 : w0.heap.size = w.heap.size + 1 := by rw [e0]; simp
 have g0 : GrpAt w0 GG gp gq gg gh := by rw [e0, hGG]; exact GrpAt.new _ _ _ _ _ _
 rw [← e0, ← s0, ← hGG]; have HB0 := jh b0; clear e0 hGG b0 s0; obtain ⟨wz, e_0⟩ := je (w0.alloc (.cells #[.int .u64 (jf jd a 0), .int .u64 (jf jd a 1), .int .u64 (jf jd a 2), .int .u64 (jf jd a 3)] 24)); have s_0 : wz.heap.size = w0.heap.size + 1 := by rw [e_0]; simp
 have b_0 := jc e_0; have n_0 : NumAt wz (w0.heap.size) a := by rw [e_0]; exact NumAt.new w0 a _ _ rfl
 rw [← e_0]; obtain ⟨AA, h_0⟩ := je (w0.heap.size); have hwL : w0.heap.size ≤ AA := by omega
 have hRd : AA < wz.heap.size := by omega
 rw [← h_0] at n_0 ⊢; have HAA := jh n_0; have B := jh b_0; have hwAA : w0.heap.size ≤ AA := by omega
 have HSZ := jh (show wz.heap.size = AA + 1 by omega); clear e_0 s_0 b_0 n_0 h_0; have G0 := jh (GrpAt.later B.out g0); clear g0; refine jv 17 (fun _ => none) (by kernel_rfl) (by kernel_rfl) (fun _ _ _ _ _ h => h) (fun F hn9 hcl hbl => ?_); have r_AA_0 := jr hbl HAA 0 (by omega); have r_AA_1 := jr hbl HAA 1 (by omega); have r_AA_2 := jr hbl HAA 2 (by omega); have r_AA_3 := jr hbl HAA 3 (by omega); have r_G_0 := fun X9 : Wd F => (GrpAt.later (hbl X9.world X9.fact) G0.out).1 0 (by omega)
 have r_G_1 := fun X9 : Wd F => (GrpAt.later (hbl X9.world X9.fact) G0.out).1 1 (by omega)
 have r_G_2 := fun X9 : Wd F => (GrpAt.later (hbl X9.world X9.fact) G0.out).1 2 (by omega)
 have r_G_3 := fun X9 : Wd F => (GrpAt.later (hbl X9.world X9.fact) G0.out).1 3 (by omega)
 simp only [Nat.reduceAdd] at r_G_0 r_G_1 r_G_2 r_G_3; have HCL := jh hcl; clear hcl hbl; refine jG 17 0 _ _ (fun _ _ _ => rfl) (by decide) ?_; simp only [List.take_succ_cons, List.take_zero, List.drop_succ_cons, List.drop_zero, Nat.reduceAdd]
 repeat (go_big_quiet_step ((first | (go_at_call 49; with_reducible exact js HCL.out (C1.out _)) | (go_at_call 49; with_reducible exact js HCL.out (C0.out _)) | (go_at_call 52; with_reducible exact js HCL.out (K1.out _)) | (go_at_call 52; with_reducible exact js HCL.out (K2.out _)))))
 refine wpQuiet_nil ?_; refine jI ?_; intro bs w2 hb _ _; clear r_AA_0 r_AA_1 r_AA_2 r_AA_3; have HAA := jn hb HAA; have hRd := Nat.lt_of_lt_of_le hRd hb.size; have B := jw B hb; clear hb; simp only [qx]; clear r_G_0 r_G_1 r_G_2 r_G_3
 go_wp2_with fail
 refine bodyPost_ret (v := .bool false) ?_ rfl ⟨rfl, jk HB0.out B.out⟩
 simp [results, Tryz.results75, go_sem]
theorem may_gt {gp gq gg gh a : Nat} (h1 : 1 < gp) (ha0 : a ≠ 0) (h : gp < a) (ha9 : a < jj) (hm : gp < jj) (w : World) :
  Calls Tryz.prog 75 #[.agg #[.int .u64 (jf jd gp 0), .int .u64 (jf jd gp 1), .int .u64 (jf jd gp 2), .int .u64 (jf jd gp 3), .int .u64 (jf jd gq 0), .int .u64 (jf jd gq 1), .int .u64 (jf jd gq 2), .int .u64 (jf jd gq 3), .int .u64 (jf jd gg 0), .int .u64 (jf jd gg 1), .int .u64 (jf jd gg 2), .int .u64 (jf jd gg 3), .int .u64 (jf jd gh 0), .int .u64 (jf jd gh 1), .int .u64 (jf jd gh 2), .int .u64 (jf jd gh 3)], ji a] w fun e w' => e = .returned (.bool false) ∧ Below w.heap.size w w' := by
 have hne := JF a 0 ha9 qB; rw [decide_eq_false ha0] at hne; have C1 := jh (fun w => by have h := qO 1 1 rfl (by decide) w; unfold ji words at h; exact h); have C0 := jh (fun w => by have h := qO 0 0 rfl (by decide) w; unfold ji words at h; exact h); have e1 : qw gp 1 = 1 := by exact zm h1
 have K1 := jh (fun w => by have h := qt hm (show 1 < jj by decide) w; rw [e1] at h; unfold ji words at h; exact h); have e2 : qw a gp = 1 := by exact zm h
 have K2 := jh (fun w => by have h := qt ha9 hm w; rw [e2] at h; unfold ji words at h; exact h); clear e1 e2 ha9 hm h; unfold ji words
 go_enter Tryz.func75, Tryz.ntmps75
 go_wp2_with fail
 obtain ⟨w0, e0⟩ := je (w.alloc (.cells #[.int .u64 (jf jd gp 0), .int .u64 (jf jd gp 1), .int .u64 (jf jd gp 2), .int .u64 (jf jd gp 3), .int .u64 (jf jd gq 0), .int .u64 (jf jd gq 1), .int .u64 (jf jd gq 2), .int .u64 (jf jd gq 3), .int .u64 (jf jd gg 0), .int .u64 (jf jd gg 1), .int .u64 (jf jd gg 2), .int .u64 (jf jd gg 3), .int .u64 (jf jd gh 0), .int .u64 (jf jd gh 1), .int .u64 (jf jd gh 2), .int .u64 (jf jd gh 3)] 26)); obtain ⟨GG, hGG⟩ := je (w.heap.size); have b0 := jc e0; have s0 : w0.heap.size = w.heap.size + 1 := by rw [e0]; simp
 have g0 : GrpAt w0 GG gp gq gg gh := by rw [e0, hGG]; exact GrpAt.new _ _ _ _ _ _
 rw [← e0, ← s0, ← hGG]; have HB0 := jh b0; clear e0 hGG b0 s0; obtain ⟨wz, e_0⟩ := je (w0.alloc (.cells #[.int .u64 (jf jd a 0), .int .u64 (jf jd a 1), .int .u64 (jf jd a 2), .int .u64 (jf jd a 3)] 24)); have s_0 : wz.heap.size = w0.heap.size + 1 := by rw [e_0]; simp
 have b_0 := jc e_0; have n_0 : NumAt wz (w0.heap.size) a := by rw [e_0]; exact NumAt.new w0 a _ _ rfl
 rw [← e_0]; obtain ⟨AA, h_0⟩ := je (w0.heap.size); have hwL : w0.heap.size ≤ AA := by omega
 have hRd : AA < wz.heap.size := by omega
 rw [← h_0] at n_0 ⊢; have HAA := jh n_0; have B := jh b_0; have hwAA : w0.heap.size ≤ AA := by omega
 have HSZ := jh (show wz.heap.size = AA + 1 by omega); clear e_0 s_0 b_0 n_0 h_0; have G0 := jh (GrpAt.later B.out g0); clear g0; refine jv 17 (fun _ => none) (by kernel_rfl) (by kernel_rfl) (fun _ _ _ _ _ h => h) (fun F hn9 hcl hbl => ?_); have r_AA_0 := jr hbl HAA 0 (by omega); have r_AA_1 := jr hbl HAA 1 (by omega); have r_AA_2 := jr hbl HAA 2 (by omega); have r_AA_3 := jr hbl HAA 3 (by omega); have r_G_0 := fun X9 : Wd F => (GrpAt.later (hbl X9.world X9.fact) G0.out).1 0 (by omega)
 have r_G_1 := fun X9 : Wd F => (GrpAt.later (hbl X9.world X9.fact) G0.out).1 1 (by omega)
 have r_G_2 := fun X9 : Wd F => (GrpAt.later (hbl X9.world X9.fact) G0.out).1 2 (by omega)
 have r_G_3 := fun X9 : Wd F => (GrpAt.later (hbl X9.world X9.fact) G0.out).1 3 (by omega)
 simp only [Nat.reduceAdd] at r_G_0 r_G_1 r_G_2 r_G_3; have HCL := jh hcl; clear hcl hbl; refine jG 17 0 _ _ (fun _ _ _ => rfl) (by decide) ?_; simp only [List.take_succ_cons, List.take_zero, List.drop_succ_cons, List.drop_zero, Nat.reduceAdd]
 repeat (go_big_quiet_step ((first | (go_at_call 49; with_reducible exact js HCL.out (C1.out _)) | (go_at_call 49; with_reducible exact js HCL.out (C0.out _)) | (go_at_call 52; with_reducible exact js HCL.out (K1.out _)) | (go_at_call 52; with_reducible exact js HCL.out (K2.out _)))))
 refine wpQuiet_nil ?_; refine jI ?_; intro bs w2 hb _ _; clear r_AA_0 r_AA_1 r_AA_2 r_AA_3; have HAA := jn hb HAA; have hRd := Nat.lt_of_lt_of_le hRd hb.size; have B := jw B hb; clear hb; simp only [qx]; clear r_G_0 r_G_1 r_G_2 r_G_3
 go_wp2_with fail
 refine bodyPost_ret (v := .bool false) ?_ rfl ⟨rfl, jk HB0.out B.out⟩
 simp [results, Tryz.results75, go_sem]
def zL (gp a : Nat) : Prop := 1 < gp ∧ a ≠ 0 ∧ a < gp
instance (gp a : Nat) : Decidable (zL gp a) := by unfold zL; exact inferInstance
theorem may_any {gp gq gg gh a : Nat} (ha9 : a < jj) (hm : gp < jj) (w : World) :
  Calls Tryz.prog 75 #[.agg #[.int .u64 (jf jd gp 0), .int .u64 (jf jd gp 1), .int .u64 (jf jd gp 2), .int .u64 (jf jd gp 3), .int .u64 (jf jd gq 0), .int .u64 (jf jd gq 1), .int .u64 (jf jd gq 2), .int .u64 (jf jd gq 3), .int .u64 (jf jd gg 0), .int .u64 (jf jd gg 1), .int .u64 (jf jd gg 2), .int .u64 (jf jd gg 3), .int .u64 (jf jd gh 0), .int .u64 (jf jd gh 1), .int .u64 (jf jd gh 2), .int .u64 (jf jd gh 3)], ji a] w fun e w' => e = .returned (.bool (decide (zL gp a))) ∧ Below w.heap.size w w' := by
 by_cases h : zL gp a
 ·rw [decide_eq_true h]; exact may_yes h.1 h.2.1 h.2.2 hm w
 ·rw [decide_eq_false h]; unfold zL at h
  by_cases h1 : 1 < gp
  ·by_cases h0 : a = 0
   ·exact may_zero h1 h0 ha9 hm w
   ·rcases Nat.lt_trichotomy a gp with h9 | h9 | h9
    ·exact absurd ⟨h1, h0, h9⟩ h
    ·exact may_eq h1 h0 h9 ha9 hm w
    ·exact may_gt h1 h0 h9 ha9 hm w
  ·rcases Nat.lt_or_ge gp 1 with h9 | h9
   ·exact may_low0 h9 ha9 hm w
   ·exact may_low1 (by omega) ha9 hm w
theorem gexp_yes {gp gq gg gh a n : Nat} (h : zL gp a) (ha9 : a < jj) (hn : n < jj) (hm : gp < jj) (w : World) :
  Calls Tryz.prog 48 #[.agg #[.int .u64 (jf jd gp 0), .int .u64 (jf jd gp 1), .int .u64 (jf jd gp 2), .int .u64 (jf jd gp 3), .int .u64 (jf jd gq 0), .int .u64 (jf jd gq 1), .int .u64 (jf jd gq 2), .int .u64 (jf jd gq 3), .int .u64 (jf jd gg 0), .int .u64 (jf jd gg 1), .int .u64 (jf jd gg 2), .int .u64 (jf jd gg 3), .int .u64 (jf jd gh 0), .int .u64 (jf jd gh 1), .int .u64 (jf jd gh 2), .int .u64 (jf jd gh 3)], ji a, ji n] w fun e w' => e = .returned (.tuple #[ji (a ^ n % gp), .int .i64 0]) ∧ Below w.heap.size w w' := by
 have CM := jh (fun w => by have h9 := may_any (gq := gq) (gg := gg) (gh := gh) ha9 hm w; rw [decide_eq_true h] at h9; unfold ji words at h9; exact h9); obtain ⟨q, hq⟩ := je (a ^ n % gp); have CE := jh (fun w => by have h9 := Exp_any h.2.2 h.1 hn hm w; rw [← hq] at h9; unfold ji words at h9; exact h9); rw [← hq]; clear hq; clear h ha9 hn hm; unfold ji words
 go_enter Tryz.func48, Tryz.ntmps48
 go_wp2_with fail
 obtain ⟨w0, e0⟩ := je (w.alloc (.cells #[.int .u64 (jf jd gp 0), .int .u64 (jf jd gp 1), .int .u64 (jf jd gp 2), .int .u64 (jf jd gp 3), .int .u64 (jf jd gq 0), .int .u64 (jf jd gq 1), .int .u64 (jf jd gq 2), .int .u64 (jf jd gq 3), .int .u64 (jf jd gg 0), .int .u64 (jf jd gg 1), .int .u64 (jf jd gg 2), .int .u64 (jf jd gg 3), .int .u64 (jf jd gh 0), .int .u64 (jf jd gh 1), .int .u64 (jf jd gh 2), .int .u64 (jf jd gh 3)] 26)); obtain ⟨GG, hGG⟩ := je (w.heap.size); have b0 := jc e0; have s0 : w0.heap.size = w.heap.size + 1 := by rw [e0]; simp
 have g0 : GrpAt w0 GG gp gq gg gh := by rw [e0, hGG]; exact GrpAt.new _ _ _ _ _ _
 rw [← e0, ← s0, ← hGG]; have HB0 := jh b0; clear e0 hGG b0 s0; obtain ⟨w_0, e_0⟩ := je (w0.alloc (.cells #[.int .u64 (jf jd a 0), .int .u64 (jf jd a 1), .int .u64 (jf jd a 2), .int .u64 (jf jd a 3)] 24)); have s_0 : w_0.heap.size = w0.heap.size + 1 := by rw [e_0]; simp
 have b_0 := jc e_0; have n_0 : NumAt w_0 (w0.heap.size) a := by rw [e_0]; exact NumAt.new w0 a _ _ rfl
 obtain ⟨w_1, e_1⟩ := je (w_0.alloc (.cells #[.int .u64 (jf jd n 0), .int .u64 (jf jd n 1), .int .u64 (jf jd n 2), .int .u64 (jf jd n 3)] 24)); have s_1 : w_1.heap.size = w0.heap.size + 1 + 1 := by rw [e_1]; simp [s_0]
 have b_1 := jc e_1; have n_1 : NumAt w_1 (w0.heap.size + 1) n := by rw [e_1]; exact NumAt.new w_0 n _ _ s_0.symm
 obtain ⟨wz, e_2⟩ := je (w_1.alloc (.cells #[.int .u64 0, .int .u64 0, .int .u64 0, .int .u64 0] 24)); have s_2 : wz.heap.size = w0.heap.size + 1 + 1 + 1 := by rw [e_2]; simp [s_1]
 have b_2 := jc e_2; have n_2 : NumAt wz (w0.heap.size + 1 + 1) 0 := by rw [e_2, ← s_1]; exact jz w_1 _
 have f_2 : FreeN wz (w0.heap.size + 1 + 1) 4 := by rw [e_2]; exact FreeN.made w_1 _ _ 4 _ s_1.symm
 rw [← e_0, ← e_1, ← e_2]; obtain ⟨AA, h_0⟩ := je (w0.heap.size); obtain ⟨NN, h_1⟩ := je (AA + 1); obtain ⟨RR, h_2⟩ := je (NN + 1); have hwL : w0.heap.size ≤ AA := by omega
 have hRd : RR < wz.heap.size := by omega
 rw [← h_0] at n_0 n_1 n_2 f_2 ⊢; rw [← h_1] at n_1 n_2 f_2 ⊢; rw [← h_2] at n_2 f_2 ⊢; have l_1 : AA < NN := by omega
 have l_2 : NN < RR := by omega
 have HAA := jh (NumAt.later b_2 (NumAt.later b_1 n_0)); have HNN := jh (NumAt.later b_2 n_1); have HRR := jh n_2; have HF := jh f_2; have B := jh ((b_0.trans (b_1.mono (by omega))).trans (b_2.mono (by omega))); have hwRR : w0.heap.size ≤ RR := by omega
 have HSZ := jh (show wz.heap.size = RR + 1 by omega); clear e_0 s_0 b_0 n_0 h_0 e_1 s_1 b_1 n_1 h_1 e_2 s_2 b_2 n_2 h_2 f_2; have G0 := jh (GrpAt.later B.out g0); clear g0; refine (CM.out _).mono ?_; rintro _ w2 ⟨rfl, hb⟩; have G0 := jh (GrpAt.later hb G0.out); have HAA := jn hb HAA; have HNN := jn hb HNN; have HRR := jn hb HRR; have HF := jh (HF.out.later hb hRd); have hRd := Nat.lt_of_lt_of_le hRd hb.size; have B := jw B hb; clear hb; have r_G_0 := G0.out.1 0 (by omega); have r_G_1 := G0.out.1 1 (by omega); have r_G_2 := G0.out.1 2 (by omega); have r_G_3 := G0.out.1 3 (by omega); simp only [Nat.reduceAdd] at r_G_0 r_G_1 r_G_2 r_G_3; obtain ⟨r_AA_0, r_AA_1, r_AA_2, r_AA_3⟩ := jy HAA.out; obtain ⟨r_NN_0, r_NN_1, r_NN_2, r_NN_3⟩ := jy HNN.out
 go_wp2_with fail
 clear r_AA_0 r_AA_1 r_AA_2 r_AA_3 r_NN_0 r_NN_1 r_NN_2 r_NN_3; clear r_G_0 r_G_1 r_G_2 r_G_3; refine (CE.out _).mono ?_; rintro _ w3 ⟨rfl, hb⟩; have HAA := jn hb HAA; have HNN := jn hb HNN; have HRR := jn hb HRR; have HF := jh (HF.out.later hb hRd); have hRd := Nat.lt_of_lt_of_le hRd hb.size; have B := jw B hb; clear hb; obtain ⟨c0, c1, c2, c3, f0, f1, f2, f3⟩ := jC HRR.out HF.out
 go_wp2_with fail
 have HRL := jh (NumAt.set4 HRR.out q); have B9 := jh (jp B.out hwRR (.int .u64 (jf jd q 0)) (.int .u64 (jf jd q 1)) (.int .u64 (jf jd q 2)) (.int .u64 (jf jd q 3))); obtain ⟨g0, g1, g2, g3⟩ := jy HRL.out; refine bodyPost_ret (v := .tuple #[.agg #[.int .u64 (jf jd q 0), .int .u64 (jf jd q 1), .int .u64 (jf jd q 2), .int .u64 (jf jd q 3)], .int .i64 0]) ?_ rfl ⟨rfl, jk HB0.out B9.out⟩
 simp [results, Tryz.results48, go_sem, g0, g1, g2, g3]
theorem gexp_no {gp gq gg gh a n : Nat} (h : ¬ zL gp a) (ha9 : a < jj) (hn : n < jj) (hm : gp < jj) (w : World) :
  Calls Tryz.prog 48 #[.agg #[.int .u64 (jf jd gp 0), .int .u64 (jf jd gp 1), .int .u64 (jf jd gp 2), .int .u64 (jf jd gp 3), .int .u64 (jf jd gq 0), .int .u64 (jf jd gq 1), .int .u64 (jf jd gq 2), .int .u64 (jf jd gq 3), .int .u64 (jf jd gg 0), .int .u64 (jf jd gg 1), .int .u64 (jf jd gg 2), .int .u64 (jf jd gg 3), .int .u64 (jf jd gh 0), .int .u64 (jf jd gh 1), .int .u64 (jf jd gh 2), .int .u64 (jf jd gh 3)], ji a, ji n] w fun e w' => e = .returned (.tuple #[ji (0), .int .i64 1]) ∧ Below w.heap.size w w' := by
 have CM := jh (fun w => by have h9 := may_any (gq := gq) (gg := gg) (gh := gh) ha9 hm w; rw [decide_eq_false h] at h9; unfold ji words at h9; exact h9); clear h ha9 hn hm; unfold ji words
 go_enter Tryz.func48, Tryz.ntmps48
 go_wp2_with fail
 obtain ⟨w0, e0⟩ := je (w.alloc (.cells #[.int .u64 (jf jd gp 0), .int .u64 (jf jd gp 1), .int .u64 (jf jd gp 2), .int .u64 (jf jd gp 3), .int .u64 (jf jd gq 0), .int .u64 (jf jd gq 1), .int .u64 (jf jd gq 2), .int .u64 (jf jd gq 3), .int .u64 (jf jd gg 0), .int .u64 (jf jd gg 1), .int .u64 (jf jd gg 2), .int .u64 (jf jd gg 3), .int .u64 (jf jd gh 0), .int .u64 (jf jd gh 1), .int .u64 (jf jd gh 2), .int .u64 (jf jd gh 3)] 26)); obtain ⟨GG, hGG⟩ := je (w.heap.size); have b0 := jc e0; have s0 : w0.heap.size = w.heap.size + 1 := by rw [e0]; simp
 have g0 : GrpAt w0 GG gp gq gg gh := by rw [e0, hGG]; exact GrpAt.new _ _ _ _ _ _
 rw [← e0, ← s0, ← hGG]; have HB0 := jh b0; clear e0 hGG b0 s0; obtain ⟨w_0, e_0⟩ := je (w0.alloc (.cells #[.int .u64 (jf jd a 0), .int .u64 (jf jd a 1), .int .u64 (jf jd a 2), .int .u64 (jf jd a 3)] 24)); have s_0 : w_0.heap.size = w0.heap.size + 1 := by rw [e_0]; simp
 have b_0 := jc e_0; have n_0 : NumAt w_0 (w0.heap.size) a := by rw [e_0]; exact NumAt.new w0 a _ _ rfl
 obtain ⟨w_1, e_1⟩ := je (w_0.alloc (.cells #[.int .u64 (jf jd n 0), .int .u64 (jf jd n 1), .int .u64 (jf jd n 2), .int .u64 (jf jd n 3)] 24)); have s_1 : w_1.heap.size = w0.heap.size + 1 + 1 := by rw [e_1]; simp [s_0]
 have b_1 := jc e_1; have n_1 : NumAt w_1 (w0.heap.size + 1) n := by rw [e_1]; exact NumAt.new w_0 n _ _ s_0.symm
 obtain ⟨wz, e_2⟩ := je (w_1.alloc (.cells #[.int .u64 0, .int .u64 0, .int .u64 0, .int .u64 0] 24)); have s_2 : wz.heap.size = w0.heap.size + 1 + 1 + 1 := by rw [e_2]; simp [s_1]
 have b_2 := jc e_2; have n_2 : NumAt wz (w0.heap.size + 1 + 1) 0 := by rw [e_2, ← s_1]; exact jz w_1 _
 have f_2 : FreeN wz (w0.heap.size + 1 + 1) 4 := by rw [e_2]; exact FreeN.made w_1 _ _ 4 _ s_1.symm
 rw [← e_0, ← e_1, ← e_2]; obtain ⟨AA, h_0⟩ := je (w0.heap.size); obtain ⟨NN, h_1⟩ := je (AA + 1); obtain ⟨RR, h_2⟩ := je (NN + 1); have hwL : w0.heap.size ≤ AA := by omega
 have hRd : RR < wz.heap.size := by omega
 rw [← h_0] at n_0 n_1 n_2 f_2 ⊢; rw [← h_1] at n_1 n_2 f_2 ⊢; rw [← h_2] at n_2 f_2 ⊢; have l_1 : AA < NN := by omega
 have l_2 : NN < RR := by omega
 have HAA := jh (NumAt.later b_2 (NumAt.later b_1 n_0)); have HNN := jh (NumAt.later b_2 n_1); have HRR := jh n_2; have HF := jh f_2; have B := jh ((b_0.trans (b_1.mono (by omega))).trans (b_2.mono (by omega))); have hwRR : w0.heap.size ≤ RR := by omega
 have HSZ := jh (show wz.heap.size = RR + 1 by omega); clear e_0 s_0 b_0 n_0 h_0 e_1 s_1 b_1 n_1 h_1 e_2 s_2 b_2 n_2 h_2 f_2; have G0 := jh (GrpAt.later B.out g0); clear g0; refine (CM.out _).mono ?_; rintro _ w2 ⟨rfl, hb⟩; have G0 := jh (GrpAt.later hb G0.out); have HAA := jn hb HAA; have HNN := jn hb HNN; have HRR := jn hb HRR; have HF := jh (HF.out.later hb hRd); have hRd := Nat.lt_of_lt_of_le hRd hb.size; have B := jw B hb; clear hb; obtain ⟨c0, c1, c2, c3, f0, f1, f2, f3⟩ := jC HRR.out HF.out
 go_wp2_with fail
 refine bodyPost_ret (v := .tuple #[.agg #[.int .u64 0, .int .u64 0, .int .u64 0, .int .u64 0], .int .i64 1]) ?_ rfl ⟨by simp only [qo]; rfl, jk HB0.out (jp B.out hwRR _ _ _ _)⟩; have n9 := NumAt.set4 HRR.out 0; have z0 : ((jf jd 0 0 : Nat) : Int) = 0 := by rw [qo]; rfl
 have z1 : ((jf jd 0 1 : Nat) : Int) = 0 := by rw [qo]; rfl
 have z2 : ((jf jd 0 2 : Nat) : Int) = 0 := by rw [qo]; rfl
 have z3 : ((jf jd 0 3 : Nat) : Int) = 0 := by rw [qo]; rfl
 rw [z0, z1, z2, z3] at n9; obtain ⟨g0, g1, g2, g3⟩ := jy n9; rw [z0] at g0; rw [z1] at g1; rw [z2] at g2; rw [z3] at g3
 simp [results, Tryz.results48, go_sem, g0, g1, g2, g3]
end Go.Proofs.YtcaeaejefdhloaaGreat
