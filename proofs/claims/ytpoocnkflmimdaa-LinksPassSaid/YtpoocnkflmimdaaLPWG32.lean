/- Layer 8 (groups): may, of what may not -/
import Derived.Test.YtpoocnkflmimdaaLPWG31
namespace Go.Proofs.Ytpoocnkflmimdaa
open Go.ChangeShapes Go.WideShapes Go.ChangeAt Go.RowKit
set_option linter.unusedVariables false in
set_option linter.unusedSimpArgs false in
set_option maxRecDepth 100000 in
set_option maxHeartbeats 4000000 in
theorem may_low0 {gp gq gg gh a : Nat} (h : gp < 1) (ha9 : a < M256) (hm : gp < M256) (w : World) :
    Calls Try.prog 25 #[.agg #[.int .u64 (dgt W64 gp 0), .int .u64 (dgt W64 gp 1), .int .u64 (dgt W64 gp 2), .int .u64 (dgt W64 gp 3), .int .u64 (dgt W64 gq 0), .int .u64 (dgt W64 gq 1), .int .u64 (dgt W64 gq 2), .int .u64 (dgt W64 gq 3), .int .u64 (dgt W64 gg 0), .int .u64 (dgt W64 gg 1), .int .u64 (dgt W64 gg 2), .int .u64 (dgt W64 gg 3), .int .u64 (dgt W64 gh 0), .int .u64 (dgt W64 gh 1), .int .u64 (dgt W64 gh 2), .int .u64 (dgt W64 gh 3)], numV a] w fun e w' => e = .returned (.bool false) ∧ Below w.heap.size w w' := by
  have hne := ne_num a 0 ha9 M256_pos
  have C1 := Lib.hid (fun w => by have h := of_lit 1 1 rfl (by decide) w; unfold numV words at h; exact h)
  have C0 := Lib.hid (fun w => by have h := of_lit 0 0 rfl (by decide) w; unfold numV words at h; exact h)
  have e1 : cmpN gp 1 = -1 := by exact cmpN_of_lt h
  have K1 := Lib.hid (fun w => by have h := cmp_any hm (show 1 < M256 by decide) w; rw [e1] at h; unfold numV words at h; exact h)
  obtain ⟨c2, e2⟩ : ∃ c, cmpN a gp = c := ⟨_, rfl⟩
  have K2 := Lib.hid (fun w => by have h := cmp_any ha9 hm w; rw [e2] at h; unfold numV words at h; exact h)
  clear e1 e2 ha9 hm h
  unfold numV words
  go_enter Try.func25, Try.ntmps25
  go_wp2_with fail
  obtain ⟨w0, e0⟩ : ∃ w0, w0 = w.alloc (.cells #[.int .u64 (dgt W64 gp 0), .int .u64 (dgt W64 gp 1), .int .u64 (dgt W64 gp 2), .int .u64 (dgt W64 gp 3), .int .u64 (dgt W64 gq 0), .int .u64 (dgt W64 gq 1), .int .u64 (dgt W64 gq 2), .int .u64 (dgt W64 gq 3), .int .u64 (dgt W64 gg 0), .int .u64 (dgt W64 gg 1), .int .u64 (dgt W64 gg 2), .int .u64 (dgt W64 gg 3), .int .u64 (dgt W64 gh 0), .int .u64 (dgt W64 gh 1), .int .u64 (dgt W64 gh 2), .int .u64 (dgt W64 gh 3)] 26) := ⟨_, rfl⟩
  obtain ⟨GG, hGG⟩ : ∃ b, b = w.heap.size := ⟨_, rfl⟩
  have b0 : Below w.heap.size w w0 := by rw [e0]; exact (Below.refl _ _).alloc (Nat.le_refl _) _
  have s0 : w0.heap.size = w.heap.size + 1 := by rw [e0]; simp
  have g0 : GrpAt w0 GG gp gq gg gh := by rw [e0, hGG]; exact GrpAt.new _ _ _ _ _ _
  rw [← e0, ← s0, ← hGG]
  have HB0 := Lib.hid b0
  clear e0 hGG b0 s0
  obtain ⟨wz, e_0⟩ : ∃ w9, w9 = w0.alloc (.cells #[.int .u64 (dgt W64 a 0), .int .u64 (dgt W64 a 1), .int .u64 (dgt W64 a 2), .int .u64 (dgt W64 a 3)] 24) := ⟨_, rfl⟩
  have s_0 : wz.heap.size = w0.heap.size + 1 := by rw [e_0]; simp
  have b_0 : Below w0.heap.size w0 wz := by rw [e_0]; exact (Below.refl _ _).alloc (Nat.le_refl _) _
  have n_0 : NumAt wz (w0.heap.size) a := by rw [e_0]; exact NumAt.new w0 a _ _ rfl
  rw [← e_0]
  obtain ⟨AA, h_0⟩ : ∃ b, b = w0.heap.size := ⟨_, rfl⟩
  have hwL : w0.heap.size ≤ AA := by omega
  have hRd : AA < wz.heap.size := by omega
  rw [← h_0] at n_0 ⊢
  have HAA := Lib.hid n_0
  have B := Lib.hid b_0
  have hwAA : w0.heap.size ≤ AA := by omega
  have HSZ := Lib.hid (show wz.heap.size = AA + 1 by omega)
  clear e_0 s_0 b_0 n_0 h_0
  have G0 := Lib.hid (GrpAt.later B.out g0)
  clear g0
  refine wp_region_fresh 17 (fun _ => none) (by kernel_rfl) (by kernel_rfl) (fun _ _ _ _ _ h => h) (fun F hn9 hcl hbl => ?_)
  have r_AA_0 := fun X9 : Wd F => (NumAt.later (hbl X9.world X9.fact) HAA.out) 0 (by omega)
  have r_AA_1 := fun X9 : Wd F => (NumAt.later (hbl X9.world X9.fact) HAA.out) 1 (by omega)
  have r_AA_2 := fun X9 : Wd F => (NumAt.later (hbl X9.world X9.fact) HAA.out) 2 (by omega)
  have r_AA_3 := fun X9 : Wd F => (NumAt.later (hbl X9.world X9.fact) HAA.out) 3 (by omega)
  have r_G_0 := fun X9 : Wd F => (GrpAt.later (hbl X9.world X9.fact) G0.out).1 0 (by omega)
  have r_G_1 := fun X9 : Wd F => (GrpAt.later (hbl X9.world X9.fact) G0.out).1 1 (by omega)
  have r_G_2 := fun X9 : Wd F => (GrpAt.later (hbl X9.world X9.fact) G0.out).1 2 (by omega)
  have r_G_3 := fun X9 : Wd F => (GrpAt.later (hbl X9.world X9.fact) G0.out).1 3 (by omega)
  simp only [Nat.reduceAdd] at r_G_0 r_G_1 r_G_2 r_G_3
  have HCL := Lib.hid hcl
  clear hcl hbl
  refine wpF_seg 17 0 _ _ (fun _ _ _ => rfl) (by decide) ?_
  simp only [List.take_succ_cons, List.take_zero, List.drop_succ_cons, List.drop_zero, Nat.reduceAdd]
  repeat (go_big_quiet_step ((first | (go_at_call 27; with_reducible exact to_class HCL.out (C1.out _)) | (go_at_call 27; with_reducible exact to_class HCL.out (C0.out _)) | (go_at_call 12; with_reducible exact to_class HCL.out (K1.out _)) | (go_at_call 12; with_reducible exact to_class HCL.out (K2.out _)))))
  refine wpQuiet_nil ?_
  refine wpF_nil ?_
  intro bs w2 hb _ _
  clear r_AA_0 r_AA_1 r_AA_2 r_AA_3
  have HAA := Lib.hid (NumAt.later hb HAA.out)
  have hRd := Nat.lt_of_lt_of_le hRd hb.size
  have B := Lib.hid (below_later B.out hb)
  clear hb
  simp only [over]
  clear r_G_0 r_G_1 r_G_2 r_G_3
  go_wp2_with fail
  refine bodyPost_ret (v := .bool false) ?_ rfl ⟨rfl, below_later HB0.out B.out⟩
  simp [results, Try.results25, go_sem]
set_option linter.unusedVariables false in
set_option linter.unusedSimpArgs false in
set_option maxRecDepth 100000 in
set_option maxHeartbeats 4000000 in
theorem may_low1 {gp gq gg gh a : Nat} (h : gp = 1) (ha9 : a < M256) (hm : gp < M256) (w : World) :
    Calls Try.prog 25 #[.agg #[.int .u64 (dgt W64 gp 0), .int .u64 (dgt W64 gp 1), .int .u64 (dgt W64 gp 2), .int .u64 (dgt W64 gp 3), .int .u64 (dgt W64 gq 0), .int .u64 (dgt W64 gq 1), .int .u64 (dgt W64 gq 2), .int .u64 (dgt W64 gq 3), .int .u64 (dgt W64 gg 0), .int .u64 (dgt W64 gg 1), .int .u64 (dgt W64 gg 2), .int .u64 (dgt W64 gg 3), .int .u64 (dgt W64 gh 0), .int .u64 (dgt W64 gh 1), .int .u64 (dgt W64 gh 2), .int .u64 (dgt W64 gh 3)], numV a] w fun e w' => e = .returned (.bool false) ∧ Below w.heap.size w w' := by
  have hne := ne_num a 0 ha9 M256_pos
  have C1 := Lib.hid (fun w => by have h := of_lit 1 1 rfl (by decide) w; unfold numV words at h; exact h)
  have C0 := Lib.hid (fun w => by have h := of_lit 0 0 rfl (by decide) w; unfold numV words at h; exact h)
  have e1 : cmpN gp 1 = 0 := by rw [h]; rfl
  have K1 := Lib.hid (fun w => by have h := cmp_any hm (show 1 < M256 by decide) w; rw [e1] at h; unfold numV words at h; exact h)
  obtain ⟨c2, e2⟩ : ∃ c, cmpN a gp = c := ⟨_, rfl⟩
  have K2 := Lib.hid (fun w => by have h := cmp_any ha9 hm w; rw [e2] at h; unfold numV words at h; exact h)
  clear e1 e2 ha9 hm h
  unfold numV words
  go_enter Try.func25, Try.ntmps25
  go_wp2_with fail
  obtain ⟨w0, e0⟩ : ∃ w0, w0 = w.alloc (.cells #[.int .u64 (dgt W64 gp 0), .int .u64 (dgt W64 gp 1), .int .u64 (dgt W64 gp 2), .int .u64 (dgt W64 gp 3), .int .u64 (dgt W64 gq 0), .int .u64 (dgt W64 gq 1), .int .u64 (dgt W64 gq 2), .int .u64 (dgt W64 gq 3), .int .u64 (dgt W64 gg 0), .int .u64 (dgt W64 gg 1), .int .u64 (dgt W64 gg 2), .int .u64 (dgt W64 gg 3), .int .u64 (dgt W64 gh 0), .int .u64 (dgt W64 gh 1), .int .u64 (dgt W64 gh 2), .int .u64 (dgt W64 gh 3)] 26) := ⟨_, rfl⟩
  obtain ⟨GG, hGG⟩ : ∃ b, b = w.heap.size := ⟨_, rfl⟩
  have b0 : Below w.heap.size w w0 := by rw [e0]; exact (Below.refl _ _).alloc (Nat.le_refl _) _
  have s0 : w0.heap.size = w.heap.size + 1 := by rw [e0]; simp
  have g0 : GrpAt w0 GG gp gq gg gh := by rw [e0, hGG]; exact GrpAt.new _ _ _ _ _ _
  rw [← e0, ← s0, ← hGG]
  have HB0 := Lib.hid b0
  clear e0 hGG b0 s0
  obtain ⟨wz, e_0⟩ : ∃ w9, w9 = w0.alloc (.cells #[.int .u64 (dgt W64 a 0), .int .u64 (dgt W64 a 1), .int .u64 (dgt W64 a 2), .int .u64 (dgt W64 a 3)] 24) := ⟨_, rfl⟩
  have s_0 : wz.heap.size = w0.heap.size + 1 := by rw [e_0]; simp
  have b_0 : Below w0.heap.size w0 wz := by rw [e_0]; exact (Below.refl _ _).alloc (Nat.le_refl _) _
  have n_0 : NumAt wz (w0.heap.size) a := by rw [e_0]; exact NumAt.new w0 a _ _ rfl
  rw [← e_0]
  obtain ⟨AA, h_0⟩ : ∃ b, b = w0.heap.size := ⟨_, rfl⟩
  have hwL : w0.heap.size ≤ AA := by omega
  have hRd : AA < wz.heap.size := by omega
  rw [← h_0] at n_0 ⊢
  have HAA := Lib.hid n_0
  have B := Lib.hid b_0
  have hwAA : w0.heap.size ≤ AA := by omega
  have HSZ := Lib.hid (show wz.heap.size = AA + 1 by omega)
  clear e_0 s_0 b_0 n_0 h_0
  have G0 := Lib.hid (GrpAt.later B.out g0)
  clear g0
  refine wp_region_fresh 17 (fun _ => none) (by kernel_rfl) (by kernel_rfl) (fun _ _ _ _ _ h => h) (fun F hn9 hcl hbl => ?_)
  have r_AA_0 := fun X9 : Wd F => (NumAt.later (hbl X9.world X9.fact) HAA.out) 0 (by omega)
  have r_AA_1 := fun X9 : Wd F => (NumAt.later (hbl X9.world X9.fact) HAA.out) 1 (by omega)
  have r_AA_2 := fun X9 : Wd F => (NumAt.later (hbl X9.world X9.fact) HAA.out) 2 (by omega)
  have r_AA_3 := fun X9 : Wd F => (NumAt.later (hbl X9.world X9.fact) HAA.out) 3 (by omega)
  have r_G_0 := fun X9 : Wd F => (GrpAt.later (hbl X9.world X9.fact) G0.out).1 0 (by omega)
  have r_G_1 := fun X9 : Wd F => (GrpAt.later (hbl X9.world X9.fact) G0.out).1 1 (by omega)
  have r_G_2 := fun X9 : Wd F => (GrpAt.later (hbl X9.world X9.fact) G0.out).1 2 (by omega)
  have r_G_3 := fun X9 : Wd F => (GrpAt.later (hbl X9.world X9.fact) G0.out).1 3 (by omega)
  simp only [Nat.reduceAdd] at r_G_0 r_G_1 r_G_2 r_G_3
  have HCL := Lib.hid hcl
  clear hcl hbl
  refine wpF_seg 17 0 _ _ (fun _ _ _ => rfl) (by decide) ?_
  simp only [List.take_succ_cons, List.take_zero, List.drop_succ_cons, List.drop_zero, Nat.reduceAdd]
  repeat (go_big_quiet_step ((first | (go_at_call 27; with_reducible exact to_class HCL.out (C1.out _)) | (go_at_call 27; with_reducible exact to_class HCL.out (C0.out _)) | (go_at_call 12; with_reducible exact to_class HCL.out (K1.out _)) | (go_at_call 12; with_reducible exact to_class HCL.out (K2.out _)))))
  refine wpQuiet_nil ?_
  refine wpF_nil ?_
  intro bs w2 hb _ _
  clear r_AA_0 r_AA_1 r_AA_2 r_AA_3
  have HAA := Lib.hid (NumAt.later hb HAA.out)
  have hRd := Nat.lt_of_lt_of_le hRd hb.size
  have B := Lib.hid (below_later B.out hb)
  clear hb
  simp only [over]
  clear r_G_0 r_G_1 r_G_2 r_G_3
  go_wp2_with fail
  refine bodyPost_ret (v := .bool false) ?_ rfl ⟨rfl, below_later HB0.out B.out⟩
  simp [results, Try.results25, go_sem]
set_option linter.unusedVariables false in
set_option linter.unusedSimpArgs false in
set_option maxRecDepth 100000 in
set_option maxHeartbeats 4000000 in
theorem may_zero {gp gq gg gh a : Nat} (h1 : 1 < gp) (h : a = 0) (ha9 : a < M256) (hm : gp < M256) (w : World) :
    Calls Try.prog 25 #[.agg #[.int .u64 (dgt W64 gp 0), .int .u64 (dgt W64 gp 1), .int .u64 (dgt W64 gp 2), .int .u64 (dgt W64 gp 3), .int .u64 (dgt W64 gq 0), .int .u64 (dgt W64 gq 1), .int .u64 (dgt W64 gq 2), .int .u64 (dgt W64 gq 3), .int .u64 (dgt W64 gg 0), .int .u64 (dgt W64 gg 1), .int .u64 (dgt W64 gg 2), .int .u64 (dgt W64 gg 3), .int .u64 (dgt W64 gh 0), .int .u64 (dgt W64 gh 1), .int .u64 (dgt W64 gh 2), .int .u64 (dgt W64 gh 3)], numV a] w fun e w' => e = .returned (.bool false) ∧ Below w.heap.size w w' := by
  have hne := ne_num a 0 ha9 M256_pos
  rw [decide_eq_true h] at hne
  have C1 := Lib.hid (fun w => by have h := of_lit 1 1 rfl (by decide) w; unfold numV words at h; exact h)
  have C0 := Lib.hid (fun w => by have h := of_lit 0 0 rfl (by decide) w; unfold numV words at h; exact h)
  have e1 : cmpN gp 1 = 1 := by exact cmpN_of_gt h1
  have K1 := Lib.hid (fun w => by have h := cmp_any hm (show 1 < M256 by decide) w; rw [e1] at h; unfold numV words at h; exact h)
  obtain ⟨c2, e2⟩ : ∃ c, cmpN a gp = c := ⟨_, rfl⟩
  have K2 := Lib.hid (fun w => by have h := cmp_any ha9 hm w; rw [e2] at h; unfold numV words at h; exact h)
  clear e1 e2 ha9 hm h
  unfold numV words
  go_enter Try.func25, Try.ntmps25
  go_wp2_with fail
  obtain ⟨w0, e0⟩ : ∃ w0, w0 = w.alloc (.cells #[.int .u64 (dgt W64 gp 0), .int .u64 (dgt W64 gp 1), .int .u64 (dgt W64 gp 2), .int .u64 (dgt W64 gp 3), .int .u64 (dgt W64 gq 0), .int .u64 (dgt W64 gq 1), .int .u64 (dgt W64 gq 2), .int .u64 (dgt W64 gq 3), .int .u64 (dgt W64 gg 0), .int .u64 (dgt W64 gg 1), .int .u64 (dgt W64 gg 2), .int .u64 (dgt W64 gg 3), .int .u64 (dgt W64 gh 0), .int .u64 (dgt W64 gh 1), .int .u64 (dgt W64 gh 2), .int .u64 (dgt W64 gh 3)] 26) := ⟨_, rfl⟩
  obtain ⟨GG, hGG⟩ : ∃ b, b = w.heap.size := ⟨_, rfl⟩
  have b0 : Below w.heap.size w w0 := by rw [e0]; exact (Below.refl _ _).alloc (Nat.le_refl _) _
  have s0 : w0.heap.size = w.heap.size + 1 := by rw [e0]; simp
  have g0 : GrpAt w0 GG gp gq gg gh := by rw [e0, hGG]; exact GrpAt.new _ _ _ _ _ _
  rw [← e0, ← s0, ← hGG]
  have HB0 := Lib.hid b0
  clear e0 hGG b0 s0
  obtain ⟨wz, e_0⟩ : ∃ w9, w9 = w0.alloc (.cells #[.int .u64 (dgt W64 a 0), .int .u64 (dgt W64 a 1), .int .u64 (dgt W64 a 2), .int .u64 (dgt W64 a 3)] 24) := ⟨_, rfl⟩
  have s_0 : wz.heap.size = w0.heap.size + 1 := by rw [e_0]; simp
  have b_0 : Below w0.heap.size w0 wz := by rw [e_0]; exact (Below.refl _ _).alloc (Nat.le_refl _) _
  have n_0 : NumAt wz (w0.heap.size) a := by rw [e_0]; exact NumAt.new w0 a _ _ rfl
  rw [← e_0]
  obtain ⟨AA, h_0⟩ : ∃ b, b = w0.heap.size := ⟨_, rfl⟩
  have hwL : w0.heap.size ≤ AA := by omega
  have hRd : AA < wz.heap.size := by omega
  rw [← h_0] at n_0 ⊢
  have HAA := Lib.hid n_0
  have B := Lib.hid b_0
  have hwAA : w0.heap.size ≤ AA := by omega
  have HSZ := Lib.hid (show wz.heap.size = AA + 1 by omega)
  clear e_0 s_0 b_0 n_0 h_0
  have G0 := Lib.hid (GrpAt.later B.out g0)
  clear g0
  refine wp_region_fresh 17 (fun _ => none) (by kernel_rfl) (by kernel_rfl) (fun _ _ _ _ _ h => h) (fun F hn9 hcl hbl => ?_)
  have r_AA_0 := fun X9 : Wd F => (NumAt.later (hbl X9.world X9.fact) HAA.out) 0 (by omega)
  have r_AA_1 := fun X9 : Wd F => (NumAt.later (hbl X9.world X9.fact) HAA.out) 1 (by omega)
  have r_AA_2 := fun X9 : Wd F => (NumAt.later (hbl X9.world X9.fact) HAA.out) 2 (by omega)
  have r_AA_3 := fun X9 : Wd F => (NumAt.later (hbl X9.world X9.fact) HAA.out) 3 (by omega)
  have r_G_0 := fun X9 : Wd F => (GrpAt.later (hbl X9.world X9.fact) G0.out).1 0 (by omega)
  have r_G_1 := fun X9 : Wd F => (GrpAt.later (hbl X9.world X9.fact) G0.out).1 1 (by omega)
  have r_G_2 := fun X9 : Wd F => (GrpAt.later (hbl X9.world X9.fact) G0.out).1 2 (by omega)
  have r_G_3 := fun X9 : Wd F => (GrpAt.later (hbl X9.world X9.fact) G0.out).1 3 (by omega)
  simp only [Nat.reduceAdd] at r_G_0 r_G_1 r_G_2 r_G_3
  have HCL := Lib.hid hcl
  clear hcl hbl
  refine wpF_seg 17 0 _ _ (fun _ _ _ => rfl) (by decide) ?_
  simp only [List.take_succ_cons, List.take_zero, List.drop_succ_cons, List.drop_zero, Nat.reduceAdd]
  repeat (go_big_quiet_step ((first | (go_at_call 27; with_reducible exact to_class HCL.out (C1.out _)) | (go_at_call 27; with_reducible exact to_class HCL.out (C0.out _)) | (go_at_call 12; with_reducible exact to_class HCL.out (K1.out _)) | (go_at_call 12; with_reducible exact to_class HCL.out (K2.out _)))))
  refine wpQuiet_nil ?_
  refine wpF_nil ?_
  intro bs w2 hb _ _
  clear r_AA_0 r_AA_1 r_AA_2 r_AA_3
  have HAA := Lib.hid (NumAt.later hb HAA.out)
  have hRd := Nat.lt_of_lt_of_le hRd hb.size
  have B := Lib.hid (below_later B.out hb)
  clear hb
  simp only [over]
  clear r_G_0 r_G_1 r_G_2 r_G_3
  go_wp2_with fail
  refine bodyPost_ret (v := .bool false) ?_ rfl ⟨rfl, below_later HB0.out B.out⟩
  simp [results, Try.results25, go_sem]
set_option linter.unusedVariables false in
set_option linter.unusedSimpArgs false in
set_option maxRecDepth 100000 in
set_option maxHeartbeats 4000000 in
theorem may_eq {gp gq gg gh a : Nat} (h1 : 1 < gp) (ha0 : a ≠ 0) (h : a = gp) (ha9 : a < M256) (hm : gp < M256) (w : World) :
    Calls Try.prog 25 #[.agg #[.int .u64 (dgt W64 gp 0), .int .u64 (dgt W64 gp 1), .int .u64 (dgt W64 gp 2), .int .u64 (dgt W64 gp 3), .int .u64 (dgt W64 gq 0), .int .u64 (dgt W64 gq 1), .int .u64 (dgt W64 gq 2), .int .u64 (dgt W64 gq 3), .int .u64 (dgt W64 gg 0), .int .u64 (dgt W64 gg 1), .int .u64 (dgt W64 gg 2), .int .u64 (dgt W64 gg 3), .int .u64 (dgt W64 gh 0), .int .u64 (dgt W64 gh 1), .int .u64 (dgt W64 gh 2), .int .u64 (dgt W64 gh 3)], numV a] w fun e w' => e = .returned (.bool false) ∧ Below w.heap.size w w' := by
  have hne := ne_num a 0 ha9 M256_pos
  rw [decide_eq_false ha0] at hne
  have C1 := Lib.hid (fun w => by have h := of_lit 1 1 rfl (by decide) w; unfold numV words at h; exact h)
  have C0 := Lib.hid (fun w => by have h := of_lit 0 0 rfl (by decide) w; unfold numV words at h; exact h)
  have e1 : cmpN gp 1 = 1 := by exact cmpN_of_gt h1
  have K1 := Lib.hid (fun w => by have h := cmp_any hm (show 1 < M256 by decide) w; rw [e1] at h; unfold numV words at h; exact h)
  have e2 : cmpN a gp = 0 := by rw [h]; unfold cmpN; rw [if_neg (by omega), if_pos rfl]
  have K2 := Lib.hid (fun w => by have h := cmp_any ha9 hm w; rw [e2] at h; unfold numV words at h; exact h)
  clear e1 e2 ha9 hm h
  unfold numV words
  go_enter Try.func25, Try.ntmps25
  go_wp2_with fail
  obtain ⟨w0, e0⟩ : ∃ w0, w0 = w.alloc (.cells #[.int .u64 (dgt W64 gp 0), .int .u64 (dgt W64 gp 1), .int .u64 (dgt W64 gp 2), .int .u64 (dgt W64 gp 3), .int .u64 (dgt W64 gq 0), .int .u64 (dgt W64 gq 1), .int .u64 (dgt W64 gq 2), .int .u64 (dgt W64 gq 3), .int .u64 (dgt W64 gg 0), .int .u64 (dgt W64 gg 1), .int .u64 (dgt W64 gg 2), .int .u64 (dgt W64 gg 3), .int .u64 (dgt W64 gh 0), .int .u64 (dgt W64 gh 1), .int .u64 (dgt W64 gh 2), .int .u64 (dgt W64 gh 3)] 26) := ⟨_, rfl⟩
  obtain ⟨GG, hGG⟩ : ∃ b, b = w.heap.size := ⟨_, rfl⟩
  have b0 : Below w.heap.size w w0 := by rw [e0]; exact (Below.refl _ _).alloc (Nat.le_refl _) _
  have s0 : w0.heap.size = w.heap.size + 1 := by rw [e0]; simp
  have g0 : GrpAt w0 GG gp gq gg gh := by rw [e0, hGG]; exact GrpAt.new _ _ _ _ _ _
  rw [← e0, ← s0, ← hGG]
  have HB0 := Lib.hid b0
  clear e0 hGG b0 s0
  obtain ⟨wz, e_0⟩ : ∃ w9, w9 = w0.alloc (.cells #[.int .u64 (dgt W64 a 0), .int .u64 (dgt W64 a 1), .int .u64 (dgt W64 a 2), .int .u64 (dgt W64 a 3)] 24) := ⟨_, rfl⟩
  have s_0 : wz.heap.size = w0.heap.size + 1 := by rw [e_0]; simp
  have b_0 : Below w0.heap.size w0 wz := by rw [e_0]; exact (Below.refl _ _).alloc (Nat.le_refl _) _
  have n_0 : NumAt wz (w0.heap.size) a := by rw [e_0]; exact NumAt.new w0 a _ _ rfl
  rw [← e_0]
  obtain ⟨AA, h_0⟩ : ∃ b, b = w0.heap.size := ⟨_, rfl⟩
  have hwL : w0.heap.size ≤ AA := by omega
  have hRd : AA < wz.heap.size := by omega
  rw [← h_0] at n_0 ⊢
  have HAA := Lib.hid n_0
  have B := Lib.hid b_0
  have hwAA : w0.heap.size ≤ AA := by omega
  have HSZ := Lib.hid (show wz.heap.size = AA + 1 by omega)
  clear e_0 s_0 b_0 n_0 h_0
  have G0 := Lib.hid (GrpAt.later B.out g0)
  clear g0
  refine wp_region_fresh 17 (fun _ => none) (by kernel_rfl) (by kernel_rfl) (fun _ _ _ _ _ h => h) (fun F hn9 hcl hbl => ?_)
  have r_AA_0 := fun X9 : Wd F => (NumAt.later (hbl X9.world X9.fact) HAA.out) 0 (by omega)
  have r_AA_1 := fun X9 : Wd F => (NumAt.later (hbl X9.world X9.fact) HAA.out) 1 (by omega)
  have r_AA_2 := fun X9 : Wd F => (NumAt.later (hbl X9.world X9.fact) HAA.out) 2 (by omega)
  have r_AA_3 := fun X9 : Wd F => (NumAt.later (hbl X9.world X9.fact) HAA.out) 3 (by omega)
  have r_G_0 := fun X9 : Wd F => (GrpAt.later (hbl X9.world X9.fact) G0.out).1 0 (by omega)
  have r_G_1 := fun X9 : Wd F => (GrpAt.later (hbl X9.world X9.fact) G0.out).1 1 (by omega)
  have r_G_2 := fun X9 : Wd F => (GrpAt.later (hbl X9.world X9.fact) G0.out).1 2 (by omega)
  have r_G_3 := fun X9 : Wd F => (GrpAt.later (hbl X9.world X9.fact) G0.out).1 3 (by omega)
  simp only [Nat.reduceAdd] at r_G_0 r_G_1 r_G_2 r_G_3
  have HCL := Lib.hid hcl
  clear hcl hbl
  refine wpF_seg 17 0 _ _ (fun _ _ _ => rfl) (by decide) ?_
  simp only [List.take_succ_cons, List.take_zero, List.drop_succ_cons, List.drop_zero, Nat.reduceAdd]
  repeat (go_big_quiet_step ((first | (go_at_call 27; with_reducible exact to_class HCL.out (C1.out _)) | (go_at_call 27; with_reducible exact to_class HCL.out (C0.out _)) | (go_at_call 12; with_reducible exact to_class HCL.out (K1.out _)) | (go_at_call 12; with_reducible exact to_class HCL.out (K2.out _)))))
  refine wpQuiet_nil ?_
  refine wpF_nil ?_
  intro bs w2 hb _ _
  clear r_AA_0 r_AA_1 r_AA_2 r_AA_3
  have HAA := Lib.hid (NumAt.later hb HAA.out)
  have hRd := Nat.lt_of_lt_of_le hRd hb.size
  have B := Lib.hid (below_later B.out hb)
  clear hb
  simp only [over]
  clear r_G_0 r_G_1 r_G_2 r_G_3
  go_wp2_with fail
  refine bodyPost_ret (v := .bool false) ?_ rfl ⟨rfl, below_later HB0.out B.out⟩
  simp [results, Try.results25, go_sem]
set_option linter.unusedVariables false in
set_option linter.unusedSimpArgs false in
set_option maxRecDepth 100000 in
set_option maxHeartbeats 4000000 in
theorem may_gt {gp gq gg gh a : Nat} (h1 : 1 < gp) (ha0 : a ≠ 0) (h : gp < a) (ha9 : a < M256) (hm : gp < M256) (w : World) :
    Calls Try.prog 25 #[.agg #[.int .u64 (dgt W64 gp 0), .int .u64 (dgt W64 gp 1), .int .u64 (dgt W64 gp 2), .int .u64 (dgt W64 gp 3), .int .u64 (dgt W64 gq 0), .int .u64 (dgt W64 gq 1), .int .u64 (dgt W64 gq 2), .int .u64 (dgt W64 gq 3), .int .u64 (dgt W64 gg 0), .int .u64 (dgt W64 gg 1), .int .u64 (dgt W64 gg 2), .int .u64 (dgt W64 gg 3), .int .u64 (dgt W64 gh 0), .int .u64 (dgt W64 gh 1), .int .u64 (dgt W64 gh 2), .int .u64 (dgt W64 gh 3)], numV a] w fun e w' => e = .returned (.bool false) ∧ Below w.heap.size w w' := by
  have hne := ne_num a 0 ha9 M256_pos
  rw [decide_eq_false ha0] at hne
  have C1 := Lib.hid (fun w => by have h := of_lit 1 1 rfl (by decide) w; unfold numV words at h; exact h)
  have C0 := Lib.hid (fun w => by have h := of_lit 0 0 rfl (by decide) w; unfold numV words at h; exact h)
  have e1 : cmpN gp 1 = 1 := by exact cmpN_of_gt h1
  have K1 := Lib.hid (fun w => by have h := cmp_any hm (show 1 < M256 by decide) w; rw [e1] at h; unfold numV words at h; exact h)
  have e2 : cmpN a gp = 1 := by exact cmpN_of_gt h
  have K2 := Lib.hid (fun w => by have h := cmp_any ha9 hm w; rw [e2] at h; unfold numV words at h; exact h)
  clear e1 e2 ha9 hm h
  unfold numV words
  go_enter Try.func25, Try.ntmps25
  go_wp2_with fail
  obtain ⟨w0, e0⟩ : ∃ w0, w0 = w.alloc (.cells #[.int .u64 (dgt W64 gp 0), .int .u64 (dgt W64 gp 1), .int .u64 (dgt W64 gp 2), .int .u64 (dgt W64 gp 3), .int .u64 (dgt W64 gq 0), .int .u64 (dgt W64 gq 1), .int .u64 (dgt W64 gq 2), .int .u64 (dgt W64 gq 3), .int .u64 (dgt W64 gg 0), .int .u64 (dgt W64 gg 1), .int .u64 (dgt W64 gg 2), .int .u64 (dgt W64 gg 3), .int .u64 (dgt W64 gh 0), .int .u64 (dgt W64 gh 1), .int .u64 (dgt W64 gh 2), .int .u64 (dgt W64 gh 3)] 26) := ⟨_, rfl⟩
  obtain ⟨GG, hGG⟩ : ∃ b, b = w.heap.size := ⟨_, rfl⟩
  have b0 : Below w.heap.size w w0 := by rw [e0]; exact (Below.refl _ _).alloc (Nat.le_refl _) _
  have s0 : w0.heap.size = w.heap.size + 1 := by rw [e0]; simp
  have g0 : GrpAt w0 GG gp gq gg gh := by rw [e0, hGG]; exact GrpAt.new _ _ _ _ _ _
  rw [← e0, ← s0, ← hGG]
  have HB0 := Lib.hid b0
  clear e0 hGG b0 s0
  obtain ⟨wz, e_0⟩ : ∃ w9, w9 = w0.alloc (.cells #[.int .u64 (dgt W64 a 0), .int .u64 (dgt W64 a 1), .int .u64 (dgt W64 a 2), .int .u64 (dgt W64 a 3)] 24) := ⟨_, rfl⟩
  have s_0 : wz.heap.size = w0.heap.size + 1 := by rw [e_0]; simp
  have b_0 : Below w0.heap.size w0 wz := by rw [e_0]; exact (Below.refl _ _).alloc (Nat.le_refl _) _
  have n_0 : NumAt wz (w0.heap.size) a := by rw [e_0]; exact NumAt.new w0 a _ _ rfl
  rw [← e_0]
  obtain ⟨AA, h_0⟩ : ∃ b, b = w0.heap.size := ⟨_, rfl⟩
  have hwL : w0.heap.size ≤ AA := by omega
  have hRd : AA < wz.heap.size := by omega
  rw [← h_0] at n_0 ⊢
  have HAA := Lib.hid n_0
  have B := Lib.hid b_0
  have hwAA : w0.heap.size ≤ AA := by omega
  have HSZ := Lib.hid (show wz.heap.size = AA + 1 by omega)
  clear e_0 s_0 b_0 n_0 h_0
  have G0 := Lib.hid (GrpAt.later B.out g0)
  clear g0
  refine wp_region_fresh 17 (fun _ => none) (by kernel_rfl) (by kernel_rfl) (fun _ _ _ _ _ h => h) (fun F hn9 hcl hbl => ?_)
  have r_AA_0 := fun X9 : Wd F => (NumAt.later (hbl X9.world X9.fact) HAA.out) 0 (by omega)
  have r_AA_1 := fun X9 : Wd F => (NumAt.later (hbl X9.world X9.fact) HAA.out) 1 (by omega)
  have r_AA_2 := fun X9 : Wd F => (NumAt.later (hbl X9.world X9.fact) HAA.out) 2 (by omega)
  have r_AA_3 := fun X9 : Wd F => (NumAt.later (hbl X9.world X9.fact) HAA.out) 3 (by omega)
  have r_G_0 := fun X9 : Wd F => (GrpAt.later (hbl X9.world X9.fact) G0.out).1 0 (by omega)
  have r_G_1 := fun X9 : Wd F => (GrpAt.later (hbl X9.world X9.fact) G0.out).1 1 (by omega)
  have r_G_2 := fun X9 : Wd F => (GrpAt.later (hbl X9.world X9.fact) G0.out).1 2 (by omega)
  have r_G_3 := fun X9 : Wd F => (GrpAt.later (hbl X9.world X9.fact) G0.out).1 3 (by omega)
  simp only [Nat.reduceAdd] at r_G_0 r_G_1 r_G_2 r_G_3
  have HCL := Lib.hid hcl
  clear hcl hbl
  refine wpF_seg 17 0 _ _ (fun _ _ _ => rfl) (by decide) ?_
  simp only [List.take_succ_cons, List.take_zero, List.drop_succ_cons, List.drop_zero, Nat.reduceAdd]
  repeat (go_big_quiet_step ((first | (go_at_call 27; with_reducible exact to_class HCL.out (C1.out _)) | (go_at_call 27; with_reducible exact to_class HCL.out (C0.out _)) | (go_at_call 12; with_reducible exact to_class HCL.out (K1.out _)) | (go_at_call 12; with_reducible exact to_class HCL.out (K2.out _)))))
  refine wpQuiet_nil ?_
  refine wpF_nil ?_
  intro bs w2 hb _ _
  clear r_AA_0 r_AA_1 r_AA_2 r_AA_3
  have HAA := Lib.hid (NumAt.later hb HAA.out)
  have hRd := Nat.lt_of_lt_of_le hRd hb.size
  have B := Lib.hid (below_later B.out hb)
  clear hb
  simp only [over]
  clear r_G_0 r_G_1 r_G_2 r_G_3
  go_wp2_with fail
  refine bodyPost_ret (v := .bool false) ?_ rfl ⟨rfl, below_later HB0.out B.out⟩
  simp [results, Try.results25, go_sem]
end Go.Proofs.Ytpoocnkflmimdaa
