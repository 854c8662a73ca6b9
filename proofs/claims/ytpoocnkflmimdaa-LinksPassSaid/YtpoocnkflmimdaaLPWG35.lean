/- Layer 9 (scalars): Add, Sub, Mul; Layer 13 (sigs): exponents, of numbers that are some -/
import Derived.Test.YtpoocnkflmimdaaLPWG34
namespace Go.Proofs.Ytpoocnkflmimdaa
open Go.ChangeShapes Go.WideShapes Go.ChangeAt Go.RowKit
set_option linter.unusedVariables false in
set_option linter.unusedSimpArgs false in
set_option maxRecDepth 100000 in
set_option maxHeartbeats 4000000 in
theorem SAdd_any {gp gq gg gh a b : Nat} (ha : a < gq) (hb9 : b < gq) (h1 : 1 < gq) (hm : gq < M256) (w : World) :
    Calls Try.prog 43 #[grpV gp gq gg gh, numV a, numV b] w fun e w' => e = .returned (.tuple #[numV ((a + b) % gq), .int .i64 0]) ∧ Below w.heap.size w w' := by
  unfold grpV
  obtain ⟨q, hq⟩ : ∃ q, q = (a + b) % gq := ⟨_, rfl⟩
  have CE := Lib.hid (fun w => by have h9 := Add_any ha h1 hb9 hm w; rw [← hq] at h9; unfold numV words at h9; exact h9)
  rw [← hq]
  clear hq ha hb9 h1 hm
  unfold numV words
  go_enter Try.func43, Try.ntmps43
  go_upto_region 1 with fail
  obtain ⟨w0, e0⟩ : ∃ w0, w0 = w.alloc (.cells #[.int .u64 (dgt W64 gp 0), .int .u64 (dgt W64 gp 1), .int .u64 (dgt W64 gp 2), .int .u64 (dgt W64 gp 3), .int .u64 (dgt W64 gq 0), .int .u64 (dgt W64 gq 1), .int .u64 (dgt W64 gq 2), .int .u64 (dgt W64 gq 3), .int .u64 (dgt W64 gg 0), .int .u64 (dgt W64 gg 1), .int .u64 (dgt W64 gg 2), .int .u64 (dgt W64 gg 3), .int .u64 (dgt W64 gh 0), .int .u64 (dgt W64 gh 1), .int .u64 (dgt W64 gh 2), .int .u64 (dgt W64 gh 3)] 26) := ⟨_, rfl⟩
  obtain ⟨GG, hGG⟩ : ∃ b, b = w.heap.size := ⟨_, rfl⟩
  have b0 : Below w.heap.size w w0 := by rw [e0]; exact (Below.refl _ _).alloc (Nat.le_refl _) _
  have s0 : w0.heap.size = w.heap.size + 1 := by rw [e0]; simp
  have g0 : GrpAt w0 GG gp gq gg gh := by rw [e0, hGG]; exact GrpAt.new _ _ _ _ _ _
  rw [← e0, ← s0, ← hGG]
  have HB0 := Lib.hid b0
  clear e0 hGG b0 s0
  obtain ⟨w_0, e_0⟩ : ∃ w9, w9 = w0.alloc (.cells #[.int .u64 (dgt W64 a 0), .int .u64 (dgt W64 a 1), .int .u64 (dgt W64 a 2), .int .u64 (dgt W64 a 3)] 24) := ⟨_, rfl⟩
  have s_0 : w_0.heap.size = w0.heap.size + 1 := by rw [e_0]; simp
  have b_0 : Below w0.heap.size w0 w_0 := by rw [e_0]; exact (Below.refl _ _).alloc (Nat.le_refl _) _
  have n_0 : NumAt w_0 (w0.heap.size) a := by rw [e_0]; exact NumAt.new w0 a _ _ rfl
  obtain ⟨w_1, e_1⟩ : ∃ w9, w9 = w_0.alloc (.cells #[.int .u64 (dgt W64 b 0), .int .u64 (dgt W64 b 1), .int .u64 (dgt W64 b 2), .int .u64 (dgt W64 b 3)] 24) := ⟨_, rfl⟩
  have s_1 : w_1.heap.size = w0.heap.size + 1 + 1 := by rw [e_1]; simp [s_0]
  have b_1 : Below w_0.heap.size w_0 w_1 := by rw [e_1]; exact (Below.refl _ _).alloc (Nat.le_refl _) _
  have n_1 : NumAt w_1 (w0.heap.size + 1) b := by rw [e_1]; exact NumAt.new w_0 b _ _ s_0.symm
  obtain ⟨wz, e_2⟩ : ∃ w9, w9 = w_1.alloc (.cells #[.int .u64 0, .int .u64 0, .int .u64 0, .int .u64 0] 24) := ⟨_, rfl⟩
  have s_2 : wz.heap.size = w0.heap.size + 1 + 1 + 1 := by rw [e_2]; simp [s_1]
  have b_2 : Below w_1.heap.size w_1 wz := by rw [e_2]; exact (Below.refl _ _).alloc (Nat.le_refl _) _
  have n_2 : NumAt wz (w0.heap.size + 1 + 1) 0 := by rw [e_2, ← s_1]; exact num_zero w_1 _
  have f_2 : FreeN wz (w0.heap.size + 1 + 1) 4 := by rw [e_2]; exact FreeN.made w_1 _ _ 4 _ s_1.symm
  rw [← e_0, ← e_1, ← e_2]
  obtain ⟨AA, h_0⟩ : ∃ b, b = w0.heap.size := ⟨_, rfl⟩
  obtain ⟨BB, h_1⟩ : ∃ b, b = AA + 1 := ⟨_, rfl⟩
  obtain ⟨RR, h_2⟩ : ∃ b, b = BB + 1 := ⟨_, rfl⟩
  have hwL : w0.heap.size ≤ AA := by omega
  have hRd : RR < wz.heap.size := by omega
  rw [← h_0] at n_0 n_1 n_2 f_2 ⊢
  rw [← h_1] at n_1 n_2 f_2 ⊢
  rw [← h_2] at n_2 f_2 ⊢
  have l_1 : AA < BB := by omega
  have l_2 : BB < RR := by omega
  have HAA := Lib.hid (NumAt.later b_2 (NumAt.later b_1 n_0))
  have HBB := Lib.hid (NumAt.later b_2 n_1)
  have HRR := Lib.hid n_2
  have HF := Lib.hid f_2
  have B := Lib.hid ((b_0.trans (b_1.mono (by omega))).trans (b_2.mono (by omega)))
  have hwRR : w0.heap.size ≤ RR := by omega
  have HSZ := Lib.hid (show wz.heap.size = RR + 1 by omega)
  clear e_0 s_0 b_0 n_0 h_0 e_1 s_1 b_1 n_1 h_1 e_2 s_2 b_2 n_2 h_2 f_2
  have G0 := Lib.hid (GrpAt.later B.out g0)
  clear g0
  have r_G_0 := G0.out.2.1 0 (by omega)
  have r_G_1 := G0.out.2.1 1 (by omega)
  have r_G_2 := G0.out.2.1 2 (by omega)
  have r_G_3 := G0.out.2.1 3 (by omega)
  simp only [Nat.reduceAdd] at r_G_0 r_G_1 r_G_2 r_G_3
  obtain ⟨r_AA_0, r_AA_1, r_AA_2, r_AA_3⟩ := num4 HAA.out
  obtain ⟨r_BB_0, r_BB_1, r_BB_2, r_BB_3⟩ := num4 HBB.out
  go_wp2_with fail
  clear r_AA_0 r_AA_1 r_AA_2 r_AA_3 r_BB_0 r_BB_1 r_BB_2 r_BB_3
  clear r_G_0 r_G_1 r_G_2 r_G_3
  refine (CE.out _).mono ?_
  rintro _ w3 ⟨rfl, hb⟩
  have HAA := Lib.hid (NumAt.later hb HAA.out)
  have HBB := Lib.hid (NumAt.later hb HBB.out)
  have HRR := Lib.hid (NumAt.later hb HRR.out)
  have HF := Lib.hid (HF.out.later hb hRd)
  have hRd := Nat.lt_of_lt_of_le hRd hb.size
  have B := Lib.hid (below_later B.out hb)
  clear hb
  obtain ⟨c0, c1, c2, c3, f0, f1, f2, f3⟩ := num4f HRR.out HF.out
  go_wp2_with fail
  have HRL := Lib.hid (NumAt.set4 HRR.out q)
  have B9 := Lib.hid (below_set4 B.out hwRR (.int .u64 (dgt W64 q 0)) (.int .u64 (dgt W64 q 1)) (.int .u64 (dgt W64 q 2)) (.int .u64 (dgt W64 q 3)))
  obtain ⟨g0, g1, g2, g3⟩ := num4 HRL.out
  refine bodyPost_ret (v := .tuple #[.agg #[.int .u64 (dgt W64 q 0), .int .u64 (dgt W64 q 1), .int .u64 (dgt W64 q 2), .int .u64 (dgt W64 q 3)], .int .i64 0]) ?_ rfl ⟨rfl, below_later HB0.out B9.out⟩
  simp [results, Try.results43, go_sem, g0, g1, g2, g3]
set_option linter.unusedVariables false in
set_option linter.unusedSimpArgs false in
set_option maxRecDepth 100000 in
set_option maxHeartbeats 4000000 in
theorem SMul_any {gp gq gg gh a b : Nat} (ha : a < gq) (hb9 : b < gq) (h1 : 1 < gq) (hm : gq < M256) (w : World) :
    Calls Try.prog 42 #[grpV gp gq gg gh, numV a, numV b] w fun e w' => e = .returned (.tuple #[numV (a * b % gq), .int .i64 0]) ∧ Below w.heap.size w w' := by
  unfold grpV
  obtain ⟨q, hq⟩ : ∃ q, q = a * b % gq := ⟨_, rfl⟩
  have CE := Lib.hid (fun w => by have h9 := Mul_any ha h1 hb9 hm w; rw [← hq] at h9; unfold numV words at h9; exact h9)
  rw [← hq]
  clear hq ha hb9 h1 hm
  unfold numV words
  go_enter Try.func42, Try.ntmps42
  go_upto_region 1 with fail
  obtain ⟨w0, e0⟩ : ∃ w0, w0 = w.alloc (.cells #[.int .u64 (dgt W64 gp 0), .int .u64 (dgt W64 gp 1), .int .u64 (dgt W64 gp 2), .int .u64 (dgt W64 gp 3), .int .u64 (dgt W64 gq 0), .int .u64 (dgt W64 gq 1), .int .u64 (dgt W64 gq 2), .int .u64 (dgt W64 gq 3), .int .u64 (dgt W64 gg 0), .int .u64 (dgt W64 gg 1), .int .u64 (dgt W64 gg 2), .int .u64 (dgt W64 gg 3), .int .u64 (dgt W64 gh 0), .int .u64 (dgt W64 gh 1), .int .u64 (dgt W64 gh 2), .int .u64 (dgt W64 gh 3)] 26) := ⟨_, rfl⟩
  obtain ⟨GG, hGG⟩ : ∃ b, b = w.heap.size := ⟨_, rfl⟩
  have b0 : Below w.heap.size w w0 := by rw [e0]; exact (Below.refl _ _).alloc (Nat.le_refl _) _
  have s0 : w0.heap.size = w.heap.size + 1 := by rw [e0]; simp
  have g0 : GrpAt w0 GG gp gq gg gh := by rw [e0, hGG]; exact GrpAt.new _ _ _ _ _ _
  rw [← e0, ← s0, ← hGG]
  have HB0 := Lib.hid b0
  clear e0 hGG b0 s0
  obtain ⟨w_0, e_0⟩ : ∃ w9, w9 = w0.alloc (.cells #[.int .u64 (dgt W64 a 0), .int .u64 (dgt W64 a 1), .int .u64 (dgt W64 a 2), .int .u64 (dgt W64 a 3)] 24) := ⟨_, rfl⟩
  have s_0 : w_0.heap.size = w0.heap.size + 1 := by rw [e_0]; simp
  have b_0 : Below w0.heap.size w0 w_0 := by rw [e_0]; exact (Below.refl _ _).alloc (Nat.le_refl _) _
  have n_0 : NumAt w_0 (w0.heap.size) a := by rw [e_0]; exact NumAt.new w0 a _ _ rfl
  obtain ⟨w_1, e_1⟩ : ∃ w9, w9 = w_0.alloc (.cells #[.int .u64 (dgt W64 b 0), .int .u64 (dgt W64 b 1), .int .u64 (dgt W64 b 2), .int .u64 (dgt W64 b 3)] 24) := ⟨_, rfl⟩
  have s_1 : w_1.heap.size = w0.heap.size + 1 + 1 := by rw [e_1]; simp [s_0]
  have b_1 : Below w_0.heap.size w_0 w_1 := by rw [e_1]; exact (Below.refl _ _).alloc (Nat.le_refl _) _
  have n_1 : NumAt w_1 (w0.heap.size + 1) b := by rw [e_1]; exact NumAt.new w_0 b _ _ s_0.symm
  obtain ⟨wz, e_2⟩ : ∃ w9, w9 = w_1.alloc (.cells #[.int .u64 0, .int .u64 0, .int .u64 0, .int .u64 0] 24) := ⟨_, rfl⟩
  have s_2 : wz.heap.size = w0.heap.size + 1 + 1 + 1 := by rw [e_2]; simp [s_1]
  have b_2 : Below w_1.heap.size w_1 wz := by rw [e_2]; exact (Below.refl _ _).alloc (Nat.le_refl _) _
  have n_2 : NumAt wz (w0.heap.size + 1 + 1) 0 := by rw [e_2, ← s_1]; exact num_zero w_1 _
  have f_2 : FreeN wz (w0.heap.size + 1 + 1) 4 := by rw [e_2]; exact FreeN.made w_1 _ _ 4 _ s_1.symm
  rw [← e_0, ← e_1, ← e_2]
  obtain ⟨AA, h_0⟩ : ∃ b, b = w0.heap.size := ⟨_, rfl⟩
  obtain ⟨BB, h_1⟩ : ∃ b, b = AA + 1 := ⟨_, rfl⟩
  obtain ⟨RR, h_2⟩ : ∃ b, b = BB + 1 := ⟨_, rfl⟩
  have hwL : w0.heap.size ≤ AA := by omega
  have hRd : RR < wz.heap.size := by omega
  rw [← h_0] at n_0 n_1 n_2 f_2 ⊢
  rw [← h_1] at n_1 n_2 f_2 ⊢
  rw [← h_2] at n_2 f_2 ⊢
  have l_1 : AA < BB := by omega
  have l_2 : BB < RR := by omega
  have HAA := Lib.hid (NumAt.later b_2 (NumAt.later b_1 n_0))
  have HBB := Lib.hid (NumAt.later b_2 n_1)
  have HRR := Lib.hid n_2
  have HF := Lib.hid f_2
  have B := Lib.hid ((b_0.trans (b_1.mono (by omega))).trans (b_2.mono (by omega)))
  have hwRR : w0.heap.size ≤ RR := by omega
  have HSZ := Lib.hid (show wz.heap.size = RR + 1 by omega)
  clear e_0 s_0 b_0 n_0 h_0 e_1 s_1 b_1 n_1 h_1 e_2 s_2 b_2 n_2 h_2 f_2
  have G0 := Lib.hid (GrpAt.later B.out g0)
  clear g0
  have r_G_0 := G0.out.2.1 0 (by omega)
  have r_G_1 := G0.out.2.1 1 (by omega)
  have r_G_2 := G0.out.2.1 2 (by omega)
  have r_G_3 := G0.out.2.1 3 (by omega)
  simp only [Nat.reduceAdd] at r_G_0 r_G_1 r_G_2 r_G_3
  obtain ⟨r_AA_0, r_AA_1, r_AA_2, r_AA_3⟩ := num4 HAA.out
  obtain ⟨r_BB_0, r_BB_1, r_BB_2, r_BB_3⟩ := num4 HBB.out
  go_wp2_with fail
  clear r_AA_0 r_AA_1 r_AA_2 r_AA_3 r_BB_0 r_BB_1 r_BB_2 r_BB_3
  clear r_G_0 r_G_1 r_G_2 r_G_3
  refine (CE.out _).mono ?_
  rintro _ w3 ⟨rfl, hb⟩
  have HAA := Lib.hid (NumAt.later hb HAA.out)
  have HBB := Lib.hid (NumAt.later hb HBB.out)
  have HRR := Lib.hid (NumAt.later hb HRR.out)
  have HF := Lib.hid (HF.out.later hb hRd)
  have hRd := Nat.lt_of_lt_of_le hRd hb.size
  have B := Lib.hid (below_later B.out hb)
  clear hb
  obtain ⟨c0, c1, c2, c3, f0, f1, f2, f3⟩ := num4f HRR.out HF.out
  go_wp2_with fail
  have HRL := Lib.hid (NumAt.set4 HRR.out q)
  have B9 := Lib.hid (below_set4 B.out hwRR (.int .u64 (dgt W64 q 0)) (.int .u64 (dgt W64 q 1)) (.int .u64 (dgt W64 q 2)) (.int .u64 (dgt W64 q 3)))
  obtain ⟨g0, g1, g2, g3⟩ := num4 HRL.out
  refine bodyPost_ret (v := .tuple #[.agg #[.int .u64 (dgt W64 q 0), .int .u64 (dgt W64 q 1), .int .u64 (dgt W64 q 2), .int .u64 (dgt W64 q 3)], .int .i64 0]) ?_ rfl ⟨rfl, below_later HB0.out B9.out⟩
  simp [results, Try.results42, go_sem, g0, g1, g2, g3]
set_option linter.unusedVariables false in
set_option linter.unusedSimpArgs false in
set_option maxRecDepth 100000 in
set_option maxHeartbeats 4000000 in
theorem SSub_any {gp gq gg gh a b : Nat} (ha : a < gq) (hb9 : b < gq) (h1 : 1 < gq) (hm : gq < M256) (w : World) :
    Calls Try.prog 45 #[grpV gp gq gg gh, numV a, numV b] w fun e w' => e = .returned (.tuple #[numV ((a + gq - b) % gq), .int .i64 0]) ∧ Below w.heap.size w w' := by
  unfold grpV
  obtain ⟨q, hq⟩ : ∃ q, q = (a + gq - b) % gq := ⟨_, rfl⟩
  have CE := Lib.hid (fun w => by have h9 := Sub_any ha h1 hb9 hm w; rw [← hq] at h9; unfold numV words at h9; exact h9)
  rw [← hq]
  clear hq ha hb9 h1 hm
  unfold numV words
  go_enter Try.func45, Try.ntmps45
  go_upto_region 1 with fail
  obtain ⟨w0, e0⟩ : ∃ w0, w0 = w.alloc (.cells #[.int .u64 (dgt W64 gp 0), .int .u64 (dgt W64 gp 1), .int .u64 (dgt W64 gp 2), .int .u64 (dgt W64 gp 3), .int .u64 (dgt W64 gq 0), .int .u64 (dgt W64 gq 1), .int .u64 (dgt W64 gq 2), .int .u64 (dgt W64 gq 3), .int .u64 (dgt W64 gg 0), .int .u64 (dgt W64 gg 1), .int .u64 (dgt W64 gg 2), .int .u64 (dgt W64 gg 3), .int .u64 (dgt W64 gh 0), .int .u64 (dgt W64 gh 1), .int .u64 (dgt W64 gh 2), .int .u64 (dgt W64 gh 3)] 26) := ⟨_, rfl⟩
  obtain ⟨GG, hGG⟩ : ∃ b, b = w.heap.size := ⟨_, rfl⟩
  have b0 : Below w.heap.size w w0 := by rw [e0]; exact (Below.refl _ _).alloc (Nat.le_refl _) _
  have s0 : w0.heap.size = w.heap.size + 1 := by rw [e0]; simp
  have g0 : GrpAt w0 GG gp gq gg gh := by rw [e0, hGG]; exact GrpAt.new _ _ _ _ _ _
  rw [← e0, ← s0, ← hGG]
  have HB0 := Lib.hid b0
  clear e0 hGG b0 s0
  obtain ⟨w_0, e_0⟩ : ∃ w9, w9 = w0.alloc (.cells #[.int .u64 (dgt W64 a 0), .int .u64 (dgt W64 a 1), .int .u64 (dgt W64 a 2), .int .u64 (dgt W64 a 3)] 24) := ⟨_, rfl⟩
  have s_0 : w_0.heap.size = w0.heap.size + 1 := by rw [e_0]; simp
  have b_0 : Below w0.heap.size w0 w_0 := by rw [e_0]; exact (Below.refl _ _).alloc (Nat.le_refl _) _
  have n_0 : NumAt w_0 (w0.heap.size) a := by rw [e_0]; exact NumAt.new w0 a _ _ rfl
  obtain ⟨w_1, e_1⟩ : ∃ w9, w9 = w_0.alloc (.cells #[.int .u64 (dgt W64 b 0), .int .u64 (dgt W64 b 1), .int .u64 (dgt W64 b 2), .int .u64 (dgt W64 b 3)] 24) := ⟨_, rfl⟩
  have s_1 : w_1.heap.size = w0.heap.size + 1 + 1 := by rw [e_1]; simp [s_0]
  have b_1 : Below w_0.heap.size w_0 w_1 := by rw [e_1]; exact (Below.refl _ _).alloc (Nat.le_refl _) _
  have n_1 : NumAt w_1 (w0.heap.size + 1) b := by rw [e_1]; exact NumAt.new w_0 b _ _ s_0.symm
  obtain ⟨wz, e_2⟩ : ∃ w9, w9 = w_1.alloc (.cells #[.int .u64 0, .int .u64 0, .int .u64 0, .int .u64 0] 24) := ⟨_, rfl⟩
  have s_2 : wz.heap.size = w0.heap.size + 1 + 1 + 1 := by rw [e_2]; simp [s_1]
  have b_2 : Below w_1.heap.size w_1 wz := by rw [e_2]; exact (Below.refl _ _).alloc (Nat.le_refl _) _
  have n_2 : NumAt wz (w0.heap.size + 1 + 1) 0 := by rw [e_2, ← s_1]; exact num_zero w_1 _
  have f_2 : FreeN wz (w0.heap.size + 1 + 1) 4 := by rw [e_2]; exact FreeN.made w_1 _ _ 4 _ s_1.symm
  rw [← e_0, ← e_1, ← e_2]
  obtain ⟨AA, h_0⟩ : ∃ b, b = w0.heap.size := ⟨_, rfl⟩
  obtain ⟨BB, h_1⟩ : ∃ b, b = AA + 1 := ⟨_, rfl⟩
  obtain ⟨RR, h_2⟩ : ∃ b, b = BB + 1 := ⟨_, rfl⟩
  have hwL : w0.heap.size ≤ AA := by omega
  have hRd : RR < wz.heap.size := by omega
  rw [← h_0] at n_0 n_1 n_2 f_2 ⊢
  rw [← h_1] at n_1 n_2 f_2 ⊢
  rw [← h_2] at n_2 f_2 ⊢
  have l_1 : AA < BB := by omega
  have l_2 : BB < RR := by omega
  have HAA := Lib.hid (NumAt.later b_2 (NumAt.later b_1 n_0))
  have HBB := Lib.hid (NumAt.later b_2 n_1)
  have HRR := Lib.hid n_2
  have HF := Lib.hid f_2
  have B := Lib.hid ((b_0.trans (b_1.mono (by omega))).trans (b_2.mono (by omega)))
  have hwRR : w0.heap.size ≤ RR := by omega
  have HSZ := Lib.hid (show wz.heap.size = RR + 1 by omega)
  clear e_0 s_0 b_0 n_0 h_0 e_1 s_1 b_1 n_1 h_1 e_2 s_2 b_2 n_2 h_2 f_2
  have G0 := Lib.hid (GrpAt.later B.out g0)
  clear g0
  have r_G_0 := G0.out.2.1 0 (by omega)
  have r_G_1 := G0.out.2.1 1 (by omega)
  have r_G_2 := G0.out.2.1 2 (by omega)
  have r_G_3 := G0.out.2.1 3 (by omega)
  simp only [Nat.reduceAdd] at r_G_0 r_G_1 r_G_2 r_G_3
  obtain ⟨r_AA_0, r_AA_1, r_AA_2, r_AA_3⟩ := num4 HAA.out
  obtain ⟨r_BB_0, r_BB_1, r_BB_2, r_BB_3⟩ := num4 HBB.out
  go_wp2_with fail
  clear r_AA_0 r_AA_1 r_AA_2 r_AA_3 r_BB_0 r_BB_1 r_BB_2 r_BB_3
  clear r_G_0 r_G_1 r_G_2 r_G_3
  refine (CE.out _).mono ?_
  rintro _ w3 ⟨rfl, hb⟩
  have HAA := Lib.hid (NumAt.later hb HAA.out)
  have HBB := Lib.hid (NumAt.later hb HBB.out)
  have HRR := Lib.hid (NumAt.later hb HRR.out)
  have HF := Lib.hid (HF.out.later hb hRd)
  have hRd := Nat.lt_of_lt_of_le hRd hb.size
  have B := Lib.hid (below_later B.out hb)
  clear hb
  obtain ⟨c0, c1, c2, c3, f0, f1, f2, f3⟩ := num4f HRR.out HF.out
  go_wp2_with fail
  have HRL := Lib.hid (NumAt.set4 HRR.out q)
  have B9 := Lib.hid (below_set4 B.out hwRR (.int .u64 (dgt W64 q 0)) (.int .u64 (dgt W64 q 1)) (.int .u64 (dgt W64 q 2)) (.int .u64 (dgt W64 q 3)))
  obtain ⟨g0, g1, g2, g3⟩ := num4 HRL.out
  refine bodyPost_ret (v := .tuple #[.agg #[.int .u64 (dgt W64 q 0), .int .u64 (dgt W64 q 1), .int .u64 (dgt W64 q 2), .int .u64 (dgt W64 q 3)], .int .i64 0]) ?_ rfl ⟨rfl, below_later HB0.out B9.out⟩
  simp [results, Try.results45, go_sem, g0, g1, g2, g3]
end Go.Proofs.Ytpoocnkflmimdaa
namespace Go.Proofs.Ytpoocnkflmimdaa
open Go.ChangeShapes Go.WideShapes Go.ChangeAt Go.RowKit
/-- Numbers in a row. -/
def NumsAt (w : World) (b o : Nat) (xs : List Nat) : Prop := ∀ i x, xs[i]? = some x → ∀ j, j < 4 → w.cell? ⟨b, o + i * 4 + j, none⟩ = some (.int .u64 (dgt W64 x j))
theorem NumsAt.later {w w' : World} {b o : Nat} {xs : List Nat} (h : NumsAt w b o xs) (hb : Below w.heap.size w w') : NumsAt w' b o xs := fun i x hx j hj => cell_on (h i x hx j hj) hb
theorem grp16 {w : World} {b gp gq gg gh : Nat} (h : GrpAt w b gp gq gg gh) : w.cell? ⟨b, 0, none⟩ = some (.int .u64 (dgt W64 gp 0)) ∧ w.cell? ⟨b, 1, none⟩ = some (.int .u64 (dgt W64 gp 1)) ∧ w.cell? ⟨b, 2, none⟩ = some (.int .u64 (dgt W64 gp 2)) ∧ w.cell? ⟨b, 3, none⟩ = some (.int .u64 (dgt W64 gp 3)) ∧ w.cell? ⟨b, 4, none⟩ = some (.int .u64 (dgt W64 gq 0)) ∧ w.cell? ⟨b, 5, none⟩ = some (.int .u64 (dgt W64 gq 1)) ∧ w.cell? ⟨b, 6, none⟩ = some (.int .u64 (dgt W64 gq 2)) ∧ w.cell? ⟨b, 7, none⟩ = some (.int .u64 (dgt W64 gq 3)) ∧ w.cell? ⟨b, 8, none⟩ = some (.int .u64 (dgt W64 gg 0)) ∧ w.cell? ⟨b, 9, none⟩ = some (.int .u64 (dgt W64 gg 1)) ∧ w.cell? ⟨b, 10, none⟩ = some (.int .u64 (dgt W64 gg 2)) ∧ w.cell? ⟨b, 11, none⟩ = some (.int .u64 (dgt W64 gg 3)) ∧ w.cell? ⟨b, 12, none⟩ = some (.int .u64 (dgt W64 gh 0)) ∧ w.cell? ⟨b, 13, none⟩ = some (.int .u64 (dgt W64 gh 1)) ∧ w.cell? ⟨b, 14, none⟩ = some (.int .u64 (dgt W64 gh 2)) ∧ w.cell? ⟨b, 15, none⟩ = some (.int .u64 (dgt W64 gh 3)) := by
  obtain ⟨h0, h1, h2, h3⟩ := h
  exact ⟨h0 0 (by decide), h0 1 (by decide), h0 2 (by decide), h0 3 (by decide), h1 0 (by decide), h1 1 (by decide), h1 2 (by decide), h1 3 (by decide), h2 0 (by decide), h2 1 (by decide), h2 2 (by decide), h2 3 (by decide), h3 0 (by decide), h3 1 (by decide), h3 2 (by decide), h3 3 (by decide)⟩
set_option linter.unusedVariables false in
set_option linter.unusedSimpArgs false in
set_option maxRecDepth 100000 in
set_option maxHeartbeats 4000000 in
theorem exponents_any {gp gq gg gh b o cap : Nat} {xs : List Nat} (hx : ∀ x ∈ xs, x < gq) (h1 : 1 < gq) (hm : gq < M256) (w : World) (h : NumsAt w b o xs) (hn0 : xs.length ≤ 1000) :
    Calls Try.prog 40 #[grpV gp gq gg gh, .slice (some ⟨b, o, none⟩) xs.length cap] w fun e w' => e = .returned (.bool true) ∧ Below w.heap.size w w' := by
  unfold grpV
  have HX := Lib.hid h
  obtain ⟨n, hn⟩ : ∃ n, n = xs.length := ⟨_, rfl⟩
  have HN := Lib.hid hn
  rw [← hn]
  have hnb : n ≤ 1000 := by omega
  have CE := Lib.hid (fun (x : Nat) (hx9 : x < gq) (w : World) => by have h9 := SAdd_any (gp := gp) (gg := gg) (gh := gh) hx9 hx9 h1 hm w; unfold numV words grpV at h9; exact h9)
  have HXL := Lib.hid hx
  clear h hn hx h1 hm hn0
  go_enter Try.func40, Try.ntmps40
  go_upto_region 1 with fail
  obtain ⟨w0, e0⟩ : ∃ w0, w0 = w.alloc (.cells #[.int .u64 (dgt W64 gp 0), .int .u64 (dgt W64 gp 1), .int .u64 (dgt W64 gp 2), .int .u64 (dgt W64 gp 3), .int .u64 (dgt W64 gq 0), .int .u64 (dgt W64 gq 1), .int .u64 (dgt W64 gq 2), .int .u64 (dgt W64 gq 3), .int .u64 (dgt W64 gg 0), .int .u64 (dgt W64 gg 1), .int .u64 (dgt W64 gg 2), .int .u64 (dgt W64 gg 3), .int .u64 (dgt W64 gh 0), .int .u64 (dgt W64 gh 1), .int .u64 (dgt W64 gh 2), .int .u64 (dgt W64 gh 3)] 26) := ⟨_, rfl⟩
  obtain ⟨GG, hGG⟩ : ∃ b, b = w.heap.size := ⟨_, rfl⟩
  have b0 : Below w.heap.size w w0 := by rw [e0]; exact (Below.refl _ _).alloc (Nat.le_refl _) _
  have s0 : w0.heap.size = w.heap.size + 1 := by rw [e0]; simp
  have g0 : GrpAt w0 GG gp gq gg gh := by rw [e0, hGG]; exact GrpAt.new _ _ _ _ _ _
  rw [← e0, ← hGG]
  have HB0 := Lib.hid b0
  clear e0 hGG b0 s0
  have G0 := Lib.hid g0
  clear g0
  go_wp2_with fail
  go_loopw [11] (fun i wr => ∃ k : Nat, k ≤ n ∧ i = .int .i64 k ∧ Hid (GrpAt wr GG gp gq gg gh) ∧ Hid (Below w.heap.size w wr)) (fun i _ => n - (intOf i).toNat)
  case atStart => exact ⟨0, Nat.zero_le _, rfl, G0, HB0⟩
  case round =>
    clear G0 HB0
    obtain ⟨k, hk, rfl, G0, HB0⟩ := hrel
    by_cases hlt : k < n
    · obtain ⟨x, hx⟩ : ∃ x, xs[k]? = some x := ⟨_, List.getElem?_eq_getElem (by rw [← HN.out]; exact hlt)⟩
      have hltI : (k : Int) < (n : Int) := by omega
      have HLT := Lib.hid hlt
      have HXX := Lib.hid (HXL.out x (List.mem_of_getElem? hx))
      have r0 := cell_on (HX.out k x hx 0 (by decide)) HB0.out
      have r1 := cell_on (HX.out k x hx 1 (by decide)) HB0.out
      have r2 := cell_on (HX.out k x hx 2 (by decide)) HB0.out
      have r3 := cell_on (HX.out k x hx 3 (by decide)) HB0.out
      rw [Nat.add_zero] at r0
      clear hx hlt
      go_upto_region 4 with fail
      obtain ⟨w3, e3⟩ : ∃ w9, w9 = wr.alloc (.cells #[.int .u64 (dgt W64 x 0), .int .u64 (dgt W64 x 1), .int .u64 (dgt W64 x 2), .int .u64 (dgt W64 x 3)] 24) := ⟨_, rfl⟩
      obtain ⟨XX, hXX⟩ : ∃ b, b = wr.heap.size := ⟨_, rfl⟩
      have hb : Below wr.heap.size wr w3 := by rw [e3]; exact (Below.refl _ _).alloc (Nat.le_refl _) _
      have HV := Lib.hid (show NumAt w3 XX x by rw [e3, hXX]; exact NumAt.new _ _ _ _ rfl)
      have HB0 := Lib.hid (below_later HB0.out hb)
      have G0 := Lib.hid (G0.out.later hb)
      rw [← e3, ← hXX]
      clear e3 hXX hb r0 r1 r2 r3
      obtain ⟨y0, y1, y2, y3, y4, y5, y6, y7, y8, y9, y10, y11, y12, y13, y14, y15⟩ := grp16 G0.out
      obtain ⟨r0, r1, r2, r3⟩ := num4 HV.out
      go_wp2_with fail
      clear y0 y1 y2 y3 y4 y5 y6 y7 y8 y9 y10 y11 y12 y13 y14 y15 r0 r1 r2 r3
      refine (CE.out x HXX.out _).mono ?_
      rintro _ w4 ⟨rfl, hb⟩
      have HB0 := Lib.hid (below_later HB0.out hb)
      have G0 := Lib.hid (G0.out.later hb)
      clear hb HV
      go_upto_region 5 with fail
      obtain ⟨z, hz⟩ : ∃ z, z = (x + x) % gq := ⟨_, rfl⟩
      rw [← hz]
      obtain ⟨w5, e5⟩ : ∃ w9, w9 = w4.alloc (.cells #[.int .u64 (dgt W64 z 0), .int .u64 (dgt W64 z 1), .int .u64 (dgt W64 z 2), .int .u64 (dgt W64 z 3)] 24) := ⟨_, rfl⟩
      have hb : Below w4.heap.size w4 w5 := by rw [e5]; exact (Below.refl _ _).alloc (Nat.le_refl _) _
      have HB0 := Lib.hid (below_later HB0.out hb)
      have G0 := Lib.hid (G0.out.later hb)
      rw [← e5]
      clear e5 hb hz
      go_wp2_with fail
      go_roundw
      case rel => exact ⟨k + 1, HLT.out, by go_num, G0, HB0⟩
      case measure => simp [intOf]; have := HLT.out; omega
    · obtain rfl : k = n := by omega
      clear hlt
      go_wp2_with fail
      go_ret
      exact ⟨rfl, HB0.out⟩
end Go.Proofs.Ytpoocnkflmimdaa
