/- Layer 4 (mods): Add, of numbers that may be; Layer 4 (mods): Sub, of numbers that may be; Layer 8 (groups): may -/
import Derived.Test.YtpoocnkflmimdaaLPWG30
namespace Go.Proofs.Ytpoocnkflmimdaa
open Go.ChangeShapes Go.WideShapes Go.ChangeAt Go.RowKit
theorem addM {a b m s : Nat} (ha : a < m) (hb : b < m) (hs : s = a + b) : (a + b) % m = if m ≤ s then s - m else s := by
  rw [← hs]
  split
  · rename_i h
    rw [Nat.mod_eq_sub_mod h, Nat.mod_eq_of_lt (by omega)]
  · exact Nat.mod_eq_of_lt (by omega)
set_option linter.unusedVariables false in
set_option linter.unusedSimpArgs false in
set_option maxRecDepth 100000 in
set_option maxHeartbeats 4000000 in
theorem add1_big {a b m : Nat} (ha : a < m) (hb9 : b < m) (hm : m < M256) (hs : M256 ≤ a + b) (w : World) :
    Calls Try.prog 88 #[numV a, numV b, numV m] w fun e w' => e = .returned (numV ((a + b) % m)) ∧ Below w.heap.size w w' := by
  have ha9 := Nat.lt_trans ha hm
  have hb8 := Nat.lt_trans hb9 hm
  have hM := addM ha hb9 rfl
  obtain ⟨x, hx⟩ : ∃ x, x = addN a b := ⟨_, rfl⟩
  have hx9 : x < M256 := by rw [hx]; exact addN_lt _ _
  obtain ⟨q, hq⟩ : ∃ q, q = (a + b) % m := ⟨_, rfl⟩
  have eC : addNC a b = 1 := by unfold addNC; unfold M256 at *; omega
  have hq9 : q = a + b - m := by rw [hq, hM]; unfold addN at hx; unfold M256 at *; split <;> omega
  have ex : x = a + b - M256 := by rw [hx]; unfold addN; unfold M256 at *; omega
  have ey : subN x m = q := by rw [ex, hq9]; unfold subN; unfold M256 at *; omega
  obtain ⟨l, hl⟩ : ∃ l, l = subNB x m := ⟨_, rfl⟩
  obtain ⟨y, hy⟩ : ∃ y, y = subN x m := ⟨_, rfl⟩
  have C1 := Lib.hid (fun w => by have h := add_any ha9 hb8 w; rw [eC, ← hx] at h; unfold numV words at h; exact h)
  have C2 := Lib.hid (fun w => by have h := sub_any hx9 hm w; rw [← hl, ← hy] at h; unfold numV words at h; exact h)
  have HY := Lib.hid (hy.trans ey)
  rw [← hq]
  clear hM hx hx9 hq eC hq9 ex ey hl hy ha hb9 hm hs ha9 hb8
  unfold numV words
  go_enter Try.func88, Try.ntmps88
  go_wp2_with fail
  obtain ⟨w_0, e_0⟩ : ∃ w9, w9 = w.alloc (.cells #[.int .u64 (dgt W64 a 0), .int .u64 (dgt W64 a 1), .int .u64 (dgt W64 a 2), .int .u64 (dgt W64 a 3)] 24) := ⟨_, rfl⟩
  have s_0 : w_0.heap.size = w.heap.size + 1 := by rw [e_0]; simp
  have b_0 : Below w.heap.size w w_0 := by rw [e_0]; exact (Below.refl _ _).alloc (Nat.le_refl _) _
  have n_0 : NumAt w_0 (w.heap.size) a := by rw [e_0]; exact NumAt.new w a _ _ rfl
  obtain ⟨w_1, e_1⟩ : ∃ w9, w9 = w_0.alloc (.cells #[.int .u64 (dgt W64 b 0), .int .u64 (dgt W64 b 1), .int .u64 (dgt W64 b 2), .int .u64 (dgt W64 b 3)] 24) := ⟨_, rfl⟩
  have s_1 : w_1.heap.size = w.heap.size + 1 + 1 := by rw [e_1]; simp [s_0]
  have b_1 : Below w_0.heap.size w_0 w_1 := by rw [e_1]; exact (Below.refl _ _).alloc (Nat.le_refl _) _
  have n_1 : NumAt w_1 (w.heap.size + 1) b := by rw [e_1]; exact NumAt.new w_0 b _ _ s_0.symm
  obtain ⟨w_2, e_2⟩ : ∃ w9, w9 = w_1.alloc (.cells #[.int .u64 (dgt W64 m 0), .int .u64 (dgt W64 m 1), .int .u64 (dgt W64 m 2), .int .u64 (dgt W64 m 3)] 24) := ⟨_, rfl⟩
  have s_2 : w_2.heap.size = w.heap.size + 1 + 1 + 1 := by rw [e_2]; simp [s_1]
  have b_2 : Below w_1.heap.size w_1 w_2 := by rw [e_2]; exact (Below.refl _ _).alloc (Nat.le_refl _) _
  have n_2 : NumAt w_2 (w.heap.size + 1 + 1) m := by rw [e_2]; exact NumAt.new w_1 m _ _ s_1.symm
  obtain ⟨wz, e_3⟩ : ∃ w9, w9 = w_2.alloc (.cells #[.int .u64 0, .int .u64 0, .int .u64 0, .int .u64 0] 24) := ⟨_, rfl⟩
  have s_3 : wz.heap.size = w.heap.size + 1 + 1 + 1 + 1 := by rw [e_3]; simp [s_2]
  have b_3 : Below w_2.heap.size w_2 wz := by rw [e_3]; exact (Below.refl _ _).alloc (Nat.le_refl _) _
  have n_3 : NumAt wz (w.heap.size + 1 + 1 + 1) 0 := by rw [e_3, ← s_2]; exact num_zero w_2 _
  have f_3 : FreeN wz (w.heap.size + 1 + 1 + 1) 4 := by rw [e_3]; exact FreeN.made w_2 _ _ 4 _ s_2.symm
  rw [← e_0, ← e_1, ← e_2, ← e_3]
  obtain ⟨AA, h_0⟩ : ∃ b, b = w.heap.size := ⟨_, rfl⟩
  obtain ⟨BB, h_1⟩ : ∃ b, b = AA + 1 := ⟨_, rfl⟩
  obtain ⟨MM, h_2⟩ : ∃ b, b = BB + 1 := ⟨_, rfl⟩
  obtain ⟨RR, h_3⟩ : ∃ b, b = MM + 1 := ⟨_, rfl⟩
  have hwL : w.heap.size ≤ AA := by omega
  have hRd : RR < wz.heap.size := by omega
  rw [← h_0] at n_0 n_1 n_2 n_3 f_3 ⊢
  rw [← h_1] at n_1 n_2 n_3 f_3 ⊢
  rw [← h_2] at n_2 n_3 f_3 ⊢
  rw [← h_3] at n_3 f_3 ⊢
  have l_1 : AA < BB := by omega
  have l_2 : BB < MM := by omega
  have l_3 : MM < RR := by omega
  have HAA := Lib.hid (NumAt.later b_3 (NumAt.later b_2 (NumAt.later b_1 n_0)))
  have HBB := Lib.hid (NumAt.later b_3 (NumAt.later b_2 n_1))
  have HMM := Lib.hid (NumAt.later b_3 n_2)
  have HRR := Lib.hid n_3
  have HF := Lib.hid f_3
  have B := Lib.hid (((b_0.trans (b_1.mono (by omega))).trans (b_2.mono (by omega))).trans (b_3.mono (by omega)))
  have hwRR : w.heap.size ≤ RR := by omega
  have HSZ := Lib.hid (show wz.heap.size = RR + 1 by omega)
  clear e_0 s_0 b_0 n_0 h_0 e_1 s_1 b_1 n_1 h_1 e_2 s_2 b_2 n_2 h_2 e_3 s_3 b_3 n_3 h_3 f_3
  refine (C1.out _).mono ?_
  rintro _ w2 ⟨rfl, hb⟩
  have HAA := Lib.hid (NumAt.later hb HAA.out)
  have HBB := Lib.hid (NumAt.later hb HBB.out)
  have HMM := Lib.hid (NumAt.later hb HMM.out)
  have HRR := Lib.hid (NumAt.later hb HRR.out)
  have HF := Lib.hid (HF.out.later hb hRd)
  have hRd := Nat.lt_of_lt_of_le hRd hb.size
  have B := Lib.hid (below_later B.out hb)
  clear hb
  have q_0 := fun o1 => (NumAt.alloc HMM.out o1) 0 (by omega)
  have q_1 := fun o1 => (NumAt.alloc HMM.out o1) 1 (by omega)
  have q_2 := fun o1 => (NumAt.alloc HMM.out o1) 2 (by omega)
  have q_3 := fun o1 => (NumAt.alloc HMM.out o1) 3 (by omega)
  go_wp2_with fail
  clear q_0 q_1 q_2 q_3
  obtain ⟨w3, e3⟩ : ∃ w9, w9 = w2.alloc (.cells #[.int .u64 (dgt W64 x 0), .int .u64 (dgt W64 x 1), .int .u64 (dgt W64 x 2), .int .u64 (dgt W64 x 3)] 24) := ⟨_, rfl⟩
  obtain ⟨XX, hX⟩ : ∃ b, b = w2.heap.size := ⟨_, rfl⟩
  have hb : Below w2.heap.size w2 w3 := by rw [e3]; exact (Below.refl _ _).alloc (Nat.le_refl _) _
  have HXX := Lib.hid (show NumAt w3 XX x by rw [e3]; exact NumAt.new w2 x _ _ hX)
  have nXR : XX ≠ RR := by omega
  rw [← e3, ← hX]
  clear e3 hX
  have HAA := Lib.hid (NumAt.later hb HAA.out)
  have HBB := Lib.hid (NumAt.later hb HBB.out)
  have HMM := Lib.hid (NumAt.later hb HMM.out)
  have HRR := Lib.hid (NumAt.later hb HRR.out)
  have HF := Lib.hid (HF.out.later hb hRd)
  have hRd := Nat.lt_of_lt_of_le hRd hb.size
  have B := Lib.hid (below_later B.out hb)
  clear hb
  refine (C2.out _).mono ?_
  rintro _ w4 ⟨rfl, hb⟩
  have HAA := Lib.hid (NumAt.later hb HAA.out)
  have HBB := Lib.hid (NumAt.later hb HBB.out)
  have HMM := Lib.hid (NumAt.later hb HMM.out)
  have HRR := Lib.hid (NumAt.later hb HRR.out)
  have HXX := Lib.hid (NumAt.later hb HXX.out)
  have HF := Lib.hid (HF.out.later hb hRd)
  have hRd := Nat.lt_of_lt_of_le hRd hb.size
  have B := Lib.hid (below_later B.out hb)
  clear hb
  obtain ⟨c0, c1, c2, c3, f0, f1, f2, f3⟩ := num4f HRR.out HF.out
  obtain ⟨r_XX_0, r_XX_1, r_XX_2, r_XX_3⟩ := num4 HXX.out
  go_wp2_with fail
  rw [HY.out]
  have HRL := Lib.hid (NumAt.set4 HRR.out q)
  have B9 := Lib.hid (below_set4 B.out hwRR (.int .u64 (dgt W64 q 0)) (.int .u64 (dgt W64 q 1)) (.int .u64 (dgt W64 q 2)) (.int .u64 (dgt W64 q 3)))
  have hba : ∀ W : World, Below W.heap.size W (W.alloc (.cells #[.int .u64 (dgt W64 q 0), .int .u64 (dgt W64 q 1), .int .u64 (dgt W64 q 2), .int .u64 (dgt W64 q 3)] 24)) := fun W => (Below.refl _ _).alloc (Nat.le_refl _) _
  have B9 := Lib.hid (below_later B9.out (hba _))
  have HRL := Lib.hid (NumAt.later (hba _) HRL.out)
  clear hba
  obtain ⟨g0, g1, g2, g3⟩ := num4 HRL.out
  refine bodyPost_ret (v := .agg #[.int .u64 (dgt W64 q 0), .int .u64 (dgt W64 q 1), .int .u64 (dgt W64 q 2), .int .u64 (dgt W64 q 3)]) ?_ rfl ⟨rfl, B9.out⟩
  simp [results, Try.results88, go_sem, g0, g1, g2, g3]
set_option linter.unusedVariables false in
set_option linter.unusedSimpArgs false in
set_option maxRecDepth 100000 in
set_option maxHeartbeats 4000000 in
theorem add1_over {a b m : Nat} (ha : a < m) (hb9 : b < m) (hm : m < M256) (hs : m ≤ a + b) (h256 : a + b < M256) (w : World) :
    Calls Try.prog 88 #[numV a, numV b, numV m] w fun e w' => e = .returned (numV ((a + b) % m)) ∧ Below w.heap.size w w' := by
  have ha9 := Nat.lt_trans ha hm
  have hb8 := Nat.lt_trans hb9 hm
  have hM := addM ha hb9 rfl
  obtain ⟨x, hx⟩ : ∃ x, x = addN a b := ⟨_, rfl⟩
  have hx9 : x < M256 := by rw [hx]; exact addN_lt _ _
  obtain ⟨q, hq⟩ : ∃ q, q = (a + b) % m := ⟨_, rfl⟩
  have eC : addNC a b = 0 := by unfold addNC; unfold M256 at *; omega
  have hq9 : q = a + b - m := by rw [hq, hM]; unfold addN at hx; unfold M256 at *; split <;> omega
  have ex : x = a + b := by rw [hx]; unfold addN; unfold M256 at *; omega
  have ey : subN x m = q := by rw [ex, hq9]; unfold subN; unfold M256 at *; omega
  have el : subNB x m = 0 := by unfold subNB; rw [if_neg (by omega)]
  obtain ⟨l, hl⟩ : ∃ l, l = subNB x m := ⟨_, rfl⟩
  obtain ⟨y, hy⟩ : ∃ y, y = subN x m := ⟨_, rfl⟩
  have C1 := Lib.hid (fun w => by have h := add_any ha9 hb8 w; rw [eC, ← hx] at h; unfold numV words at h; exact h)
  have C2 := Lib.hid (fun w => by have h := sub_any hx9 hm w; rw [← hl, ← hy] at h; unfold numV words at h; exact h)
  have HY := Lib.hid (hy.trans ey)
  have HLq := Lib.hid (hl.trans el)
  rw [hl.trans el] at C2
  rw [← hq]
  clear hM hx hx9 hq eC hq9 ex ey hl hy ha hb9 hm hs ha9 hb8 el h256
  unfold numV words
  go_enter Try.func88, Try.ntmps88
  go_wp2_with fail
  obtain ⟨w_0, e_0⟩ : ∃ w9, w9 = w.alloc (.cells #[.int .u64 (dgt W64 a 0), .int .u64 (dgt W64 a 1), .int .u64 (dgt W64 a 2), .int .u64 (dgt W64 a 3)] 24) := ⟨_, rfl⟩
  have s_0 : w_0.heap.size = w.heap.size + 1 := by rw [e_0]; simp
  have b_0 : Below w.heap.size w w_0 := by rw [e_0]; exact (Below.refl _ _).alloc (Nat.le_refl _) _
  have n_0 : NumAt w_0 (w.heap.size) a := by rw [e_0]; exact NumAt.new w a _ _ rfl
  obtain ⟨w_1, e_1⟩ : ∃ w9, w9 = w_0.alloc (.cells #[.int .u64 (dgt W64 b 0), .int .u64 (dgt W64 b 1), .int .u64 (dgt W64 b 2), .int .u64 (dgt W64 b 3)] 24) := ⟨_, rfl⟩
  have s_1 : w_1.heap.size = w.heap.size + 1 + 1 := by rw [e_1]; simp [s_0]
  have b_1 : Below w_0.heap.size w_0 w_1 := by rw [e_1]; exact (Below.refl _ _).alloc (Nat.le_refl _) _
  have n_1 : NumAt w_1 (w.heap.size + 1) b := by rw [e_1]; exact NumAt.new w_0 b _ _ s_0.symm
  obtain ⟨w_2, e_2⟩ : ∃ w9, w9 = w_1.alloc (.cells #[.int .u64 (dgt W64 m 0), .int .u64 (dgt W64 m 1), .int .u64 (dgt W64 m 2), .int .u64 (dgt W64 m 3)] 24) := ⟨_, rfl⟩
  have s_2 : w_2.heap.size = w.heap.size + 1 + 1 + 1 := by rw [e_2]; simp [s_1]
  have b_2 : Below w_1.heap.size w_1 w_2 := by rw [e_2]; exact (Below.refl _ _).alloc (Nat.le_refl _) _
  have n_2 : NumAt w_2 (w.heap.size + 1 + 1) m := by rw [e_2]; exact NumAt.new w_1 m _ _ s_1.symm
  obtain ⟨wz, e_3⟩ : ∃ w9, w9 = w_2.alloc (.cells #[.int .u64 0, .int .u64 0, .int .u64 0, .int .u64 0] 24) := ⟨_, rfl⟩
  have s_3 : wz.heap.size = w.heap.size + 1 + 1 + 1 + 1 := by rw [e_3]; simp [s_2]
  have b_3 : Below w_2.heap.size w_2 wz := by rw [e_3]; exact (Below.refl _ _).alloc (Nat.le_refl _) _
  have n_3 : NumAt wz (w.heap.size + 1 + 1 + 1) 0 := by rw [e_3, ← s_2]; exact num_zero w_2 _
  have f_3 : FreeN wz (w.heap.size + 1 + 1 + 1) 4 := by rw [e_3]; exact FreeN.made w_2 _ _ 4 _ s_2.symm
  rw [← e_0, ← e_1, ← e_2, ← e_3]
  obtain ⟨AA, h_0⟩ : ∃ b, b = w.heap.size := ⟨_, rfl⟩
  obtain ⟨BB, h_1⟩ : ∃ b, b = AA + 1 := ⟨_, rfl⟩
  obtain ⟨MM, h_2⟩ : ∃ b, b = BB + 1 := ⟨_, rfl⟩
  obtain ⟨RR, h_3⟩ : ∃ b, b = MM + 1 := ⟨_, rfl⟩
  have hwL : w.heap.size ≤ AA := by omega
  have hRd : RR < wz.heap.size := by omega
  rw [← h_0] at n_0 n_1 n_2 n_3 f_3 ⊢
  rw [← h_1] at n_1 n_2 n_3 f_3 ⊢
  rw [← h_2] at n_2 n_3 f_3 ⊢
  rw [← h_3] at n_3 f_3 ⊢
  have l_1 : AA < BB := by omega
  have l_2 : BB < MM := by omega
  have l_3 : MM < RR := by omega
  have HAA := Lib.hid (NumAt.later b_3 (NumAt.later b_2 (NumAt.later b_1 n_0)))
  have HBB := Lib.hid (NumAt.later b_3 (NumAt.later b_2 n_1))
  have HMM := Lib.hid (NumAt.later b_3 n_2)
  have HRR := Lib.hid n_3
  have HF := Lib.hid f_3
  have B := Lib.hid (((b_0.trans (b_1.mono (by omega))).trans (b_2.mono (by omega))).trans (b_3.mono (by omega)))
  have hwRR : w.heap.size ≤ RR := by omega
  have HSZ := Lib.hid (show wz.heap.size = RR + 1 by omega)
  clear e_0 s_0 b_0 n_0 h_0 e_1 s_1 b_1 n_1 h_1 e_2 s_2 b_2 n_2 h_2 e_3 s_3 b_3 n_3 h_3 f_3
  refine (C1.out _).mono ?_
  rintro _ w2 ⟨rfl, hb⟩
  have HAA := Lib.hid (NumAt.later hb HAA.out)
  have HBB := Lib.hid (NumAt.later hb HBB.out)
  have HMM := Lib.hid (NumAt.later hb HMM.out)
  have HRR := Lib.hid (NumAt.later hb HRR.out)
  have HF := Lib.hid (HF.out.later hb hRd)
  have hRd := Nat.lt_of_lt_of_le hRd hb.size
  have B := Lib.hid (below_later B.out hb)
  clear hb
  have q_0 := fun o1 => (NumAt.alloc HMM.out o1) 0 (by omega)
  have q_1 := fun o1 => (NumAt.alloc HMM.out o1) 1 (by omega)
  have q_2 := fun o1 => (NumAt.alloc HMM.out o1) 2 (by omega)
  have q_3 := fun o1 => (NumAt.alloc HMM.out o1) 3 (by omega)
  go_wp2_with fail
  clear q_0 q_1 q_2 q_3
  obtain ⟨w3, e3⟩ : ∃ w9, w9 = w2.alloc (.cells #[.int .u64 (dgt W64 x 0), .int .u64 (dgt W64 x 1), .int .u64 (dgt W64 x 2), .int .u64 (dgt W64 x 3)] 24) := ⟨_, rfl⟩
  obtain ⟨XX, hX⟩ : ∃ b, b = w2.heap.size := ⟨_, rfl⟩
  have hb : Below w2.heap.size w2 w3 := by rw [e3]; exact (Below.refl _ _).alloc (Nat.le_refl _) _
  have HXX := Lib.hid (show NumAt w3 XX x by rw [e3]; exact NumAt.new w2 x _ _ hX)
  have nXR : XX ≠ RR := by omega
  rw [← e3, ← hX]
  clear e3 hX
  have HAA := Lib.hid (NumAt.later hb HAA.out)
  have HBB := Lib.hid (NumAt.later hb HBB.out)
  have HMM := Lib.hid (NumAt.later hb HMM.out)
  have HRR := Lib.hid (NumAt.later hb HRR.out)
  have HF := Lib.hid (HF.out.later hb hRd)
  have hRd := Nat.lt_of_lt_of_le hRd hb.size
  have B := Lib.hid (below_later B.out hb)
  clear hb
  refine (C2.out _).mono ?_
  rintro _ w4 ⟨rfl, hb⟩
  have HAA := Lib.hid (NumAt.later hb HAA.out)
  have HBB := Lib.hid (NumAt.later hb HBB.out)
  have HMM := Lib.hid (NumAt.later hb HMM.out)
  have HRR := Lib.hid (NumAt.later hb HRR.out)
  have HXX := Lib.hid (NumAt.later hb HXX.out)
  have HF := Lib.hid (HF.out.later hb hRd)
  have hRd := Nat.lt_of_lt_of_le hRd hb.size
  have B := Lib.hid (below_later B.out hb)
  clear hb
  obtain ⟨c0, c1, c2, c3, f0, f1, f2, f3⟩ := num4f HRR.out HF.out
  obtain ⟨r_XX_0, r_XX_1, r_XX_2, r_XX_3⟩ := num4 HXX.out
  go_wp2_with fail
  rw [HY.out]
  have HRL := Lib.hid (NumAt.set4 HRR.out q)
  have B9 := Lib.hid (below_set4 B.out hwRR (.int .u64 (dgt W64 q 0)) (.int .u64 (dgt W64 q 1)) (.int .u64 (dgt W64 q 2)) (.int .u64 (dgt W64 q 3)))
  have hba : ∀ W : World, Below W.heap.size W (W.alloc (.cells #[.int .u64 (dgt W64 q 0), .int .u64 (dgt W64 q 1), .int .u64 (dgt W64 q 2), .int .u64 (dgt W64 q 3)] 24)) := fun W => (Below.refl _ _).alloc (Nat.le_refl _) _
  have B9 := Lib.hid (below_later B9.out (hba _))
  have HRL := Lib.hid (NumAt.later (hba _) HRL.out)
  clear hba
  obtain ⟨g0, g1, g2, g3⟩ := num4 HRL.out
  refine bodyPost_ret (v := .agg #[.int .u64 (dgt W64 q 0), .int .u64 (dgt W64 q 1), .int .u64 (dgt W64 q 2), .int .u64 (dgt W64 q 3)]) ?_ rfl ⟨rfl, B9.out⟩
  simp [results, Try.results88, go_sem, g0, g1, g2, g3]
set_option linter.unusedVariables false in
set_option linter.unusedSimpArgs false in
set_option maxRecDepth 100000 in
set_option maxHeartbeats 4000000 in
theorem add1_small {a b m : Nat} (ha : a < m) (hb9 : b < m) (hm : m < M256) (hs : a + b < m) (w : World) :
    Calls Try.prog 88 #[numV a, numV b, numV m] w fun e w' => e = .returned (numV ((a + b) % m)) ∧ Below w.heap.size w w' := by
  have ha9 := Nat.lt_trans ha hm
  have hb8 := Nat.lt_trans hb9 hm
  have hM := addM ha hb9 rfl
  obtain ⟨x, hx⟩ : ∃ x, x = addN a b := ⟨_, rfl⟩
  have hx9 : x < M256 := by rw [hx]; exact addN_lt _ _
  obtain ⟨q, hq⟩ : ∃ q, q = (a + b) % m := ⟨_, rfl⟩
  have eC : addNC a b = 0 := by unfold addNC; unfold M256 at *; omega
  have hq9 : q = a + b := by rw [hq, hM]; unfold addN at hx; unfold M256 at *; split <;> omega
  have ex : x = a + b := by rw [hx]; unfold addN; unfold M256 at *; omega
  have ey : x = q := by omega
  have el : subNB x m = 1 := by unfold subNB; rw [if_pos (by omega)]
  obtain ⟨l, hl⟩ : ∃ l, l = subNB x m := ⟨_, rfl⟩
  obtain ⟨y, hy⟩ : ∃ y, y = subN x m := ⟨_, rfl⟩
  have C1 := Lib.hid (fun w => by have h := add_any ha9 hb8 w; rw [eC, ← hx] at h; unfold numV words at h; exact h)
  have C2 := Lib.hid (fun w => by have h := sub_any hx9 hm w; rw [← hl, ← hy] at h; unfold numV words at h; exact h)
  have HY := Lib.hid ey
  have HLq := Lib.hid (hl.trans el)
  rw [hl.trans el] at C2
  rw [← hq]
  clear hM hx hx9 hq eC hq9 ex ey hl hy ha hb9 hm hs ha9 hb8 el
  unfold numV words
  go_enter Try.func88, Try.ntmps88
  go_wp2_with fail
  obtain ⟨w_0, e_0⟩ : ∃ w9, w9 = w.alloc (.cells #[.int .u64 (dgt W64 a 0), .int .u64 (dgt W64 a 1), .int .u64 (dgt W64 a 2), .int .u64 (dgt W64 a 3)] 24) := ⟨_, rfl⟩
  have s_0 : w_0.heap.size = w.heap.size + 1 := by rw [e_0]; simp
  have b_0 : Below w.heap.size w w_0 := by rw [e_0]; exact (Below.refl _ _).alloc (Nat.le_refl _) _
  have n_0 : NumAt w_0 (w.heap.size) a := by rw [e_0]; exact NumAt.new w a _ _ rfl
  obtain ⟨w_1, e_1⟩ : ∃ w9, w9 = w_0.alloc (.cells #[.int .u64 (dgt W64 b 0), .int .u64 (dgt W64 b 1), .int .u64 (dgt W64 b 2), .int .u64 (dgt W64 b 3)] 24) := ⟨_, rfl⟩
  have s_1 : w_1.heap.size = w.heap.size + 1 + 1 := by rw [e_1]; simp [s_0]
  have b_1 : Below w_0.heap.size w_0 w_1 := by rw [e_1]; exact (Below.refl _ _).alloc (Nat.le_refl _) _
  have n_1 : NumAt w_1 (w.heap.size + 1) b := by rw [e_1]; exact NumAt.new w_0 b _ _ s_0.symm
  obtain ⟨w_2, e_2⟩ : ∃ w9, w9 = w_1.alloc (.cells #[.int .u64 (dgt W64 m 0), .int .u64 (dgt W64 m 1), .int .u64 (dgt W64 m 2), .int .u64 (dgt W64 m 3)] 24) := ⟨_, rfl⟩
  have s_2 : w_2.heap.size = w.heap.size + 1 + 1 + 1 := by rw [e_2]; simp [s_1]
  have b_2 : Below w_1.heap.size w_1 w_2 := by rw [e_2]; exact (Below.refl _ _).alloc (Nat.le_refl _) _
  have n_2 : NumAt w_2 (w.heap.size + 1 + 1) m := by rw [e_2]; exact NumAt.new w_1 m _ _ s_1.symm
  obtain ⟨wz, e_3⟩ : ∃ w9, w9 = w_2.alloc (.cells #[.int .u64 0, .int .u64 0, .int .u64 0, .int .u64 0] 24) := ⟨_, rfl⟩
  have s_3 : wz.heap.size = w.heap.size + 1 + 1 + 1 + 1 := by rw [e_3]; simp [s_2]
  have b_3 : Below w_2.heap.size w_2 wz := by rw [e_3]; exact (Below.refl _ _).alloc (Nat.le_refl _) _
  have n_3 : NumAt wz (w.heap.size + 1 + 1 + 1) 0 := by rw [e_3, ← s_2]; exact num_zero w_2 _
  have f_3 : FreeN wz (w.heap.size + 1 + 1 + 1) 4 := by rw [e_3]; exact FreeN.made w_2 _ _ 4 _ s_2.symm
  rw [← e_0, ← e_1, ← e_2, ← e_3]
  obtain ⟨AA, h_0⟩ : ∃ b, b = w.heap.size := ⟨_, rfl⟩
  obtain ⟨BB, h_1⟩ : ∃ b, b = AA + 1 := ⟨_, rfl⟩
  obtain ⟨MM, h_2⟩ : ∃ b, b = BB + 1 := ⟨_, rfl⟩
  obtain ⟨RR, h_3⟩ : ∃ b, b = MM + 1 := ⟨_, rfl⟩
  have hwL : w.heap.size ≤ AA := by omega
  have hRd : RR < wz.heap.size := by omega
  rw [← h_0] at n_0 n_1 n_2 n_3 f_3 ⊢
  rw [← h_1] at n_1 n_2 n_3 f_3 ⊢
  rw [← h_2] at n_2 n_3 f_3 ⊢
  rw [← h_3] at n_3 f_3 ⊢
  have l_1 : AA < BB := by omega
  have l_2 : BB < MM := by omega
  have l_3 : MM < RR := by omega
  have HAA := Lib.hid (NumAt.later b_3 (NumAt.later b_2 (NumAt.later b_1 n_0)))
  have HBB := Lib.hid (NumAt.later b_3 (NumAt.later b_2 n_1))
  have HMM := Lib.hid (NumAt.later b_3 n_2)
  have HRR := Lib.hid n_3
  have HF := Lib.hid f_3
  have B := Lib.hid (((b_0.trans (b_1.mono (by omega))).trans (b_2.mono (by omega))).trans (b_3.mono (by omega)))
  have hwRR : w.heap.size ≤ RR := by omega
  have HSZ := Lib.hid (show wz.heap.size = RR + 1 by omega)
  clear e_0 s_0 b_0 n_0 h_0 e_1 s_1 b_1 n_1 h_1 e_2 s_2 b_2 n_2 h_2 e_3 s_3 b_3 n_3 h_3 f_3
  refine (C1.out _).mono ?_
  rintro _ w2 ⟨rfl, hb⟩
  have HAA := Lib.hid (NumAt.later hb HAA.out)
  have HBB := Lib.hid (NumAt.later hb HBB.out)
  have HMM := Lib.hid (NumAt.later hb HMM.out)
  have HRR := Lib.hid (NumAt.later hb HRR.out)
  have HF := Lib.hid (HF.out.later hb hRd)
  have hRd := Nat.lt_of_lt_of_le hRd hb.size
  have B := Lib.hid (below_later B.out hb)
  clear hb
  have q_0 := fun o1 => (NumAt.alloc HMM.out o1) 0 (by omega)
  have q_1 := fun o1 => (NumAt.alloc HMM.out o1) 1 (by omega)
  have q_2 := fun o1 => (NumAt.alloc HMM.out o1) 2 (by omega)
  have q_3 := fun o1 => (NumAt.alloc HMM.out o1) 3 (by omega)
  go_wp2_with fail
  clear q_0 q_1 q_2 q_3
  obtain ⟨w3, e3⟩ : ∃ w9, w9 = w2.alloc (.cells #[.int .u64 (dgt W64 x 0), .int .u64 (dgt W64 x 1), .int .u64 (dgt W64 x 2), .int .u64 (dgt W64 x 3)] 24) := ⟨_, rfl⟩
  obtain ⟨XX, hX⟩ : ∃ b, b = w2.heap.size := ⟨_, rfl⟩
  have hb : Below w2.heap.size w2 w3 := by rw [e3]; exact (Below.refl _ _).alloc (Nat.le_refl _) _
  have HXX := Lib.hid (show NumAt w3 XX x by rw [e3]; exact NumAt.new w2 x _ _ hX)
  have nXR : XX ≠ RR := by omega
  rw [← e3, ← hX]
  clear e3 hX
  have HAA := Lib.hid (NumAt.later hb HAA.out)
  have HBB := Lib.hid (NumAt.later hb HBB.out)
  have HMM := Lib.hid (NumAt.later hb HMM.out)
  have HRR := Lib.hid (NumAt.later hb HRR.out)
  have HF := Lib.hid (HF.out.later hb hRd)
  have hRd := Nat.lt_of_lt_of_le hRd hb.size
  have B := Lib.hid (below_later B.out hb)
  clear hb
  refine (C2.out _).mono ?_
  rintro _ w4 ⟨rfl, hb⟩
  have HAA := Lib.hid (NumAt.later hb HAA.out)
  have HBB := Lib.hid (NumAt.later hb HBB.out)
  have HMM := Lib.hid (NumAt.later hb HMM.out)
  have HRR := Lib.hid (NumAt.later hb HRR.out)
  have HXX := Lib.hid (NumAt.later hb HXX.out)
  have HF := Lib.hid (HF.out.later hb hRd)
  have hRd := Nat.lt_of_lt_of_le hRd hb.size
  have B := Lib.hid (below_later B.out hb)
  clear hb
  obtain ⟨c0, c1, c2, c3, f0, f1, f2, f3⟩ := num4f HRR.out HF.out
  have q_0 := fun o1 => (NumAt.alloc HXX.out o1) 0 (by omega)
  have q_1 := fun o1 => (NumAt.alloc HXX.out o1) 1 (by omega)
  have q_2 := fun o1 => (NumAt.alloc HXX.out o1) 2 (by omega)
  have q_3 := fun o1 => (NumAt.alloc HXX.out o1) 3 (by omega)
  go_wp2_with fail
  rw [HY.out]
  have HRL := Lib.hid (NumAt.set4 HRR.out q)
  have B9 := Lib.hid (below_set4 B.out hwRR (.int .u64 (dgt W64 q 0)) (.int .u64 (dgt W64 q 1)) (.int .u64 (dgt W64 q 2)) (.int .u64 (dgt W64 q 3)))
  have hba : ∀ W : World, Below W.heap.size W (W.alloc (.cells #[.int .u64 (dgt W64 y 0), .int .u64 (dgt W64 y 1), .int .u64 (dgt W64 y 2), .int .u64 (dgt W64 y 3)] 24)) := fun W => (Below.refl _ _).alloc (Nat.le_refl _) _
  have B9 := Lib.hid (below_later B9.out (hba _))
  have HRL := Lib.hid (NumAt.later (hba _) HRL.out)
  clear hba
  obtain ⟨g0, g1, g2, g3⟩ := num4 HRL.out
  refine bodyPost_ret (v := .agg #[.int .u64 (dgt W64 q 0), .int .u64 (dgt W64 q 1), .int .u64 (dgt W64 q 2), .int .u64 (dgt W64 q 3)]) ?_ rfl ⟨rfl, B9.out⟩
  simp [results, Try.results88, go_sem, g0, g1, g2, g3]
theorem add1_any {a b m : Nat} (ha : a < m) (hb : b < m) (hm : m < M256) (w : World) :
    Calls Try.prog 88 #[numV a, numV b, numV m] w fun e w' => e = .returned (numV ((a + b) % m)) ∧ Below w.heap.size w w' := by
  rcases Nat.lt_or_ge (a + b) m with h | h
  · exact add1_small ha hb hm h w
  · rcases Nat.lt_or_ge (a + b) M256 with h9 | h9
    · exact add1_over ha hb hm h h9 w
    · exact add1_big ha hb hm h9 w
set_option linter.unusedVariables false in
set_option linter.unusedSimpArgs false in
set_option maxRecDepth 100000 in
set_option maxHeartbeats 4000000 in
theorem Add_any {a n m : Nat} (ha : a < m) (h1 : 1 < m) (hn : n < m) (hm : m < M256) (w : World) :
    Calls Try.prog 74 #[numV a, numV n, numV m] w fun e w' => e = .returned (.tuple #[numV ((a + n) % m), .int .i64 0]) ∧ Below w.heap.size w w' := by
  obtain ⟨q, hq⟩ : ∃ q, q = (a + n) % m := ⟨_, rfl⟩
  rw [← hq]
  have HQ := Lib.hid hq
  have HA9 := Lib.hid ha
  have HM1 := Lib.hid h1
  have HN9 := Lib.hid hn
  have HM9 := Lib.hid hm
  clear hq ha h1 hn hm
  unfold numV words
  go_enter Try.func74, Try.ntmps74
  go_wp2_with fail
  obtain ⟨w_0, e_0⟩ : ∃ w9, w9 = w.alloc (.cells #[.int .u64 (dgt W64 a 0), .int .u64 (dgt W64 a 1), .int .u64 (dgt W64 a 2), .int .u64 (dgt W64 a 3)] 24) := ⟨_, rfl⟩
  have s_0 : w_0.heap.size = w.heap.size + 1 := by rw [e_0]; simp
  have b_0 : Below w.heap.size w w_0 := by rw [e_0]; exact (Below.refl _ _).alloc (Nat.le_refl _) _
  have n_0 : NumAt w_0 (w.heap.size) a := by rw [e_0]; exact NumAt.new w a _ _ rfl
  obtain ⟨w_1, e_1⟩ : ∃ w9, w9 = w_0.alloc (.cells #[.int .u64 (dgt W64 n 0), .int .u64 (dgt W64 n 1), .int .u64 (dgt W64 n 2), .int .u64 (dgt W64 n 3)] 24) := ⟨_, rfl⟩
  have s_1 : w_1.heap.size = w.heap.size + 1 + 1 := by rw [e_1]; simp [s_0]
  have b_1 : Below w_0.heap.size w_0 w_1 := by rw [e_1]; exact (Below.refl _ _).alloc (Nat.le_refl _) _
  have n_1 : NumAt w_1 (w.heap.size + 1) n := by rw [e_1]; exact NumAt.new w_0 n _ _ s_0.symm
  obtain ⟨w_2, e_2⟩ : ∃ w9, w9 = w_1.alloc (.cells #[.int .u64 (dgt W64 m 0), .int .u64 (dgt W64 m 1), .int .u64 (dgt W64 m 2), .int .u64 (dgt W64 m 3)] 24) := ⟨_, rfl⟩
  have s_2 : w_2.heap.size = w.heap.size + 1 + 1 + 1 := by rw [e_2]; simp [s_1]
  have b_2 : Below w_1.heap.size w_1 w_2 := by rw [e_2]; exact (Below.refl _ _).alloc (Nat.le_refl _) _
  have n_2 : NumAt w_2 (w.heap.size + 1 + 1) m := by rw [e_2]; exact NumAt.new w_1 m _ _ s_1.symm
  obtain ⟨wz, e_3⟩ : ∃ w9, w9 = w_2.alloc (.cells #[.int .u64 0, .int .u64 0, .int .u64 0, .int .u64 0] 24) := ⟨_, rfl⟩
  have s_3 : wz.heap.size = w.heap.size + 1 + 1 + 1 + 1 := by rw [e_3]; simp [s_2]
  have b_3 : Below w_2.heap.size w_2 wz := by rw [e_3]; exact (Below.refl _ _).alloc (Nat.le_refl _) _
  have n_3 : NumAt wz (w.heap.size + 1 + 1 + 1) 0 := by rw [e_3, ← s_2]; exact num_zero w_2 _
  have f_3 : FreeN wz (w.heap.size + 1 + 1 + 1) 4 := by rw [e_3]; exact FreeN.made w_2 _ _ 4 _ s_2.symm
  rw [← e_0, ← e_1, ← e_2, ← e_3]
  obtain ⟨AA, h_0⟩ : ∃ b, b = w.heap.size := ⟨_, rfl⟩
  obtain ⟨NN, h_1⟩ : ∃ b, b = AA + 1 := ⟨_, rfl⟩
  obtain ⟨MM, h_2⟩ : ∃ b, b = NN + 1 := ⟨_, rfl⟩
  obtain ⟨RR, h_3⟩ : ∃ b, b = MM + 1 := ⟨_, rfl⟩
  have hwL : w.heap.size ≤ AA := by omega
  have hRd : RR < wz.heap.size := by omega
  rw [← h_0] at n_0 n_1 n_2 n_3 f_3 ⊢
  rw [← h_1] at n_1 n_2 n_3 f_3 ⊢
  rw [← h_2] at n_2 n_3 f_3 ⊢
  rw [← h_3] at n_3 f_3 ⊢
  have l_1 : AA < NN := by omega
  have l_2 : NN < MM := by omega
  have l_3 : MM < RR := by omega
  have HAA := Lib.hid (NumAt.later b_3 (NumAt.later b_2 (NumAt.later b_1 n_0)))
  have HNN := Lib.hid (NumAt.later b_3 (NumAt.later b_2 n_1))
  have HMM := Lib.hid (NumAt.later b_3 n_2)
  have HRR := Lib.hid n_3
  have HF := Lib.hid f_3
  have B := Lib.hid (((b_0.trans (b_1.mono (by omega))).trans (b_2.mono (by omega))).trans (b_3.mono (by omega)))
  have hwRR : w.heap.size ≤ RR := by omega
  have HSZ := Lib.hid (show wz.heap.size = RR + 1 by omega)
  clear e_0 s_0 b_0 n_0 h_0 e_1 s_1 b_1 n_1 h_1 e_2 s_2 b_2 n_2 h_2 e_3 s_3 b_3 n_3 h_3 f_3
  have CO := of_may (q := q) (f := 88) (caps := #[]) HA9.out HN9.out HM1.out HM9.out wz (by intro args W; simp [go_sem]) (fun W hb => by have h := add1_any HA9.out HN9.out HM9.out W; rw [← HQ.out] at h; exact h)
  unfold numV words at CO
  refine CO.mono ?_
  rintro _ w3 ⟨rfl, hb⟩
  clear CO
  have HAA := Lib.hid (NumAt.later hb HAA.out)
  have HNN := Lib.hid (NumAt.later hb HNN.out)
  have HMM := Lib.hid (NumAt.later hb HMM.out)
  have HRR := Lib.hid (NumAt.later hb HRR.out)
  have HF := Lib.hid (HF.out.later hb hRd)
  have hRd := Nat.lt_of_lt_of_le hRd hb.size
  have B := Lib.hid (below_later B.out hb)
  clear hb
  obtain ⟨c0, c1, c2, c3, f0, f1, f2, f3⟩ := num4f HRR.out HF.out
  go_wp2_with fail
  have HRL := Lib.hid (NumAt.set4 HRR.out q)
  have B9 := Lib.hid (below_set4 B.out hwRR (.int .u64 (dgt W64 q 0)) (.int .u64 (dgt W64 q 1)) (.int .u64 (dgt W64 q 2)) (.int .u64 (dgt W64 q 3)))
  obtain ⟨g0, g1, g2, g3⟩ := num4 HRL.out
  refine bodyPost_ret (v := .tuple #[.agg #[.int .u64 (dgt W64 q 0), .int .u64 (dgt W64 q 1), .int .u64 (dgt W64 q 2), .int .u64 (dgt W64 q 3)], .int .i64 0]) ?_ rfl ⟨rfl, B9.out⟩
  simp [results, Try.results74, go_sem, g0, g1, g2, g3]
end Go.Proofs.Ytpoocnkflmimdaa
namespace Go.Proofs.Ytpoocnkflmimdaa
open Go.ChangeShapes Go.WideShapes Go.ChangeAt Go.RowKit
set_option linter.unusedVariables false in
set_option linter.unusedSimpArgs false in
set_option maxRecDepth 100000 in
set_option maxHeartbeats 4000000 in
theorem sub1_less {a b m : Nat} (ha : a < m) (hb9 : b < m) (hm : m < M256) (hs : a < b) (w : World) :
    Calls Try.prog 89 #[numV a, numV b, numV m] w fun e w' => e = .returned (numV ((a + m - b) % m)) ∧ Below w.heap.size w w' := by
  have ha9 := Nat.lt_trans ha hm
  have hb8 := Nat.lt_trans hb9 hm
  obtain ⟨x, hx⟩ : ∃ x, x = subN a b := ⟨_, rfl⟩
  have hx9 : x < M256 := by rw [hx]; exact subN_lt _ _
  obtain ⟨q, hq⟩ : ∃ q, q = (a + m - b) % m := ⟨_, rfl⟩
  have hq9 : q = a + m - b := by rw [hq]; exact Nat.mod_eq_of_lt (by omega)
  have el : subNB a b = 1 := by unfold subNB; rw [if_pos hs]
  have ey : addN x m = q := by rw [hx, hq9]; unfold addN subN; unfold M256 at *; omega
  obtain ⟨c, hc⟩ : ∃ c, c = addNC x m := ⟨_, rfl⟩
  have C2 := Lib.hid (fun w => by have h := add_any hx9 hm w; rw [ey, ← hc] at h; unfold numV words at h; exact h)
  have C1 := Lib.hid (fun w => by have h := sub_any ha9 hb8 w; rw [el, ← hx] at h; unfold numV words at h; exact h)
  have HY := Lib.hid ey
  rw [← hq]
  clear hx hx9 hq hq9 ey el ha hb9 hm hs ha9 hb8 hc
  unfold numV words
  go_enter Try.func89, Try.ntmps89
  go_wp2_with fail
  obtain ⟨w_0, e_0⟩ : ∃ w9, w9 = w.alloc (.cells #[.int .u64 (dgt W64 a 0), .int .u64 (dgt W64 a 1), .int .u64 (dgt W64 a 2), .int .u64 (dgt W64 a 3)] 24) := ⟨_, rfl⟩
  have s_0 : w_0.heap.size = w.heap.size + 1 := by rw [e_0]; simp
  have b_0 : Below w.heap.size w w_0 := by rw [e_0]; exact (Below.refl _ _).alloc (Nat.le_refl _) _
  have n_0 : NumAt w_0 (w.heap.size) a := by rw [e_0]; exact NumAt.new w a _ _ rfl
  obtain ⟨w_1, e_1⟩ : ∃ w9, w9 = w_0.alloc (.cells #[.int .u64 (dgt W64 b 0), .int .u64 (dgt W64 b 1), .int .u64 (dgt W64 b 2), .int .u64 (dgt W64 b 3)] 24) := ⟨_, rfl⟩
  have s_1 : w_1.heap.size = w.heap.size + 1 + 1 := by rw [e_1]; simp [s_0]
  have b_1 : Below w_0.heap.size w_0 w_1 := by rw [e_1]; exact (Below.refl _ _).alloc (Nat.le_refl _) _
  have n_1 : NumAt w_1 (w.heap.size + 1) b := by rw [e_1]; exact NumAt.new w_0 b _ _ s_0.symm
  obtain ⟨w_2, e_2⟩ : ∃ w9, w9 = w_1.alloc (.cells #[.int .u64 (dgt W64 m 0), .int .u64 (dgt W64 m 1), .int .u64 (dgt W64 m 2), .int .u64 (dgt W64 m 3)] 24) := ⟨_, rfl⟩
  have s_2 : w_2.heap.size = w.heap.size + 1 + 1 + 1 := by rw [e_2]; simp [s_1]
  have b_2 : Below w_1.heap.size w_1 w_2 := by rw [e_2]; exact (Below.refl _ _).alloc (Nat.le_refl _) _
  have n_2 : NumAt w_2 (w.heap.size + 1 + 1) m := by rw [e_2]; exact NumAt.new w_1 m _ _ s_1.symm
  obtain ⟨wz, e_3⟩ : ∃ w9, w9 = w_2.alloc (.cells #[.int .u64 0, .int .u64 0, .int .u64 0, .int .u64 0] 24) := ⟨_, rfl⟩
  have s_3 : wz.heap.size = w.heap.size + 1 + 1 + 1 + 1 := by rw [e_3]; simp [s_2]
  have b_3 : Below w_2.heap.size w_2 wz := by rw [e_3]; exact (Below.refl _ _).alloc (Nat.le_refl _) _
  have n_3 : NumAt wz (w.heap.size + 1 + 1 + 1) 0 := by rw [e_3, ← s_2]; exact num_zero w_2 _
  have f_3 : FreeN wz (w.heap.size + 1 + 1 + 1) 4 := by rw [e_3]; exact FreeN.made w_2 _ _ 4 _ s_2.symm
  rw [← e_0, ← e_1, ← e_2, ← e_3]
  obtain ⟨AA, h_0⟩ : ∃ b, b = w.heap.size := ⟨_, rfl⟩
  obtain ⟨BB, h_1⟩ : ∃ b, b = AA + 1 := ⟨_, rfl⟩
  obtain ⟨MM, h_2⟩ : ∃ b, b = BB + 1 := ⟨_, rfl⟩
  obtain ⟨RR, h_3⟩ : ∃ b, b = MM + 1 := ⟨_, rfl⟩
  have hwL : w.heap.size ≤ AA := by omega
  have hRd : RR < wz.heap.size := by omega
  rw [← h_0] at n_0 n_1 n_2 n_3 f_3 ⊢
  rw [← h_1] at n_1 n_2 n_3 f_3 ⊢
  rw [← h_2] at n_2 n_3 f_3 ⊢
  rw [← h_3] at n_3 f_3 ⊢
  have l_1 : AA < BB := by omega
  have l_2 : BB < MM := by omega
  have l_3 : MM < RR := by omega
  have HAA := Lib.hid (NumAt.later b_3 (NumAt.later b_2 (NumAt.later b_1 n_0)))
  have HBB := Lib.hid (NumAt.later b_3 (NumAt.later b_2 n_1))
  have HMM := Lib.hid (NumAt.later b_3 n_2)
  have HRR := Lib.hid n_3
  have HF := Lib.hid f_3
  have B := Lib.hid (((b_0.trans (b_1.mono (by omega))).trans (b_2.mono (by omega))).trans (b_3.mono (by omega)))
  have hwRR : w.heap.size ≤ RR := by omega
  have HSZ := Lib.hid (show wz.heap.size = RR + 1 by omega)
  clear e_0 s_0 b_0 n_0 h_0 e_1 s_1 b_1 n_1 h_1 e_2 s_2 b_2 n_2 h_2 e_3 s_3 b_3 n_3 h_3 f_3
  refine (C1.out _).mono ?_
  rintro _ w2 ⟨rfl, hb⟩
  have HAA := Lib.hid (NumAt.later hb HAA.out)
  have HBB := Lib.hid (NumAt.later hb HBB.out)
  have HMM := Lib.hid (NumAt.later hb HMM.out)
  have HRR := Lib.hid (NumAt.later hb HRR.out)
  have HF := Lib.hid (HF.out.later hb hRd)
  have hRd := Nat.lt_of_lt_of_le hRd hb.size
  have B := Lib.hid (below_later B.out hb)
  clear hb
  have q_0 := fun o1 => (NumAt.alloc HMM.out o1) 0 (by omega)
  have q_1 := fun o1 => (NumAt.alloc HMM.out o1) 1 (by omega)
  have q_2 := fun o1 => (NumAt.alloc HMM.out o1) 2 (by omega)
  have q_3 := fun o1 => (NumAt.alloc HMM.out o1) 3 (by omega)
  go_wp2_with fail
  clear q_0 q_1 q_2 q_3
  obtain ⟨w3, e3⟩ : ∃ w9, w9 = w2.alloc (.cells #[.int .u64 (dgt W64 x 0), .int .u64 (dgt W64 x 1), .int .u64 (dgt W64 x 2), .int .u64 (dgt W64 x 3)] 24) := ⟨_, rfl⟩
  obtain ⟨XX, hX⟩ : ∃ b, b = w2.heap.size := ⟨_, rfl⟩
  have hb : Below w2.heap.size w2 w3 := by rw [e3]; exact (Below.refl _ _).alloc (Nat.le_refl _) _
  have HXX := Lib.hid (show NumAt w3 XX x by rw [e3]; exact NumAt.new w2 x _ _ hX)
  have HFX := Lib.hid (show FreeN w3 XX 4 by rw [e3]; exact FreeN.made w2 _ _ 4 _ hX)
  have nRX : RR ≠ XX := by omega
  have hXl : XX < w3.heap.size := by rw [e3, hX]; simp
  have hwX : w.heap.size ≤ XX := by omega
  rw [← e3, ← hX]
  clear e3 hX
  have HAA := Lib.hid (NumAt.later hb HAA.out)
  have HBB := Lib.hid (NumAt.later hb HBB.out)
  have HMM := Lib.hid (NumAt.later hb HMM.out)
  have HRR := Lib.hid (NumAt.later hb HRR.out)
  have HF := Lib.hid (HF.out.later hb hRd)
  have hRd := Nat.lt_of_lt_of_le hRd hb.size
  have B := Lib.hid (below_later B.out hb)
  clear hb
  refine (C2.out _).mono ?_
  rintro _ w4 ⟨rfl, hb⟩
  have HFX := Lib.hid (HFX.out.later hb hXl)
  have hXl := Nat.lt_of_lt_of_le hXl hb.size
  have HAA := Lib.hid (NumAt.later hb HAA.out)
  have HBB := Lib.hid (NumAt.later hb HBB.out)
  have HMM := Lib.hid (NumAt.later hb HMM.out)
  have HRR := Lib.hid (NumAt.later hb HRR.out)
  have HXX := Lib.hid (NumAt.later hb HXX.out)
  have HF := Lib.hid (HF.out.later hb hRd)
  have hRd := Nat.lt_of_lt_of_le hRd hb.size
  have B := Lib.hid (below_later B.out hb)
  clear hb
  have n4 := NumAt.set4 HXX.out q
  have f4 := FreeN.set4 HF.out ⟨XX, 0, none⟩ ⟨XX, 1, none⟩ ⟨XX, 2, none⟩ ⟨XX, 3, none⟩ (.int .u64 (dgt W64 q 0)) (.int .u64 (dgt W64 q 1)) (.int .u64 (dgt W64 q 2)) (.int .u64 (dgt W64 q 3))
  have hXX4 := num4f HXX.out HFX.out
  obtain ⟨r0, r1, r2, r3, f0, f1, f2, f3⟩ := hXX4
  clear n4 f4
  obtain ⟨c0, c1, c2, c3, d0, d1, d2, d3⟩ := num4f HRR.out HF.out
  go_wp2_with fail
  clear c0 c1 c2 c3 d0 d1 d2 d3 r0 r1 r2 r3 f0 f1 f2 f3
  obtain ⟨w5, e9⟩ : ∃ w9, w9 = (((w4.setCell ⟨XX, 0, none⟩ (.int .u64 (dgt W64 q 0))).setCell ⟨XX, 1, none⟩ (.int .u64 (dgt W64 q 1))).setCell ⟨XX, 2, none⟩ (.int .u64 (dgt W64 q 2))).setCell ⟨XX, 3, none⟩ (.int .u64 (dgt W64 q 3)) := ⟨_, rfl⟩
  have HRR := Lib.hid (show NumAt w5 RR 0 by rw [e9]; exact NumAt.other4 HRR.out nRX _ _ _ _)
  have B := Lib.hid (show Below w.heap.size w w5 by rw [e9]; exact below_set4 B.out hwX _ _ _ _)
  rw [← e9]
  have HRL := Lib.hid (NumAt.set4 HRR.out q)
  have B9 := Lib.hid (below_set4 B.out hwRR (.int .u64 (dgt W64 q 0)) (.int .u64 (dgt W64 q 1)) (.int .u64 (dgt W64 q 2)) (.int .u64 (dgt W64 q 3)))
  obtain ⟨g0, g1, g2, g3⟩ := num4 HRL.out
  refine bodyPost_ret (v := .agg #[.int .u64 (dgt W64 q 0), .int .u64 (dgt W64 q 1), .int .u64 (dgt W64 q 2), .int .u64 (dgt W64 q 3)]) ?_ rfl ⟨rfl, B9.out⟩
  simp [results, Try.results89, go_sem, g0, g1, g2, g3]
set_option linter.unusedVariables false in
set_option linter.unusedSimpArgs false in
set_option maxRecDepth 100000 in
set_option maxHeartbeats 4000000 in
theorem sub1_ge {a b m : Nat} (ha : a < m) (hb9 : b < m) (hm : m < M256) (hs : b ≤ a) (w : World) :
    Calls Try.prog 89 #[numV a, numV b, numV m] w fun e w' => e = .returned (numV ((a + m - b) % m)) ∧ Below w.heap.size w w' := by
  have ha9 := Nat.lt_trans ha hm
  have hb8 := Nat.lt_trans hb9 hm
  obtain ⟨x, hx⟩ : ∃ x, x = subN a b := ⟨_, rfl⟩
  have hx9 : x < M256 := by rw [hx]; exact subN_lt _ _
  obtain ⟨q, hq⟩ : ∃ q, q = (a + m - b) % m := ⟨_, rfl⟩
  have hq9 : q = a - b := by rw [hq, show a + m - b = a - b + m by omega, Nat.add_mod_right]; exact Nat.mod_eq_of_lt (by omega)
  have el : subNB a b = 0 := by unfold subNB; rw [if_neg (by omega)]
  have ey : x = q := by rw [hx, hq9]; unfold subN; unfold M256 at *; omega
  have C1 := Lib.hid (fun w => by have h := sub_any ha9 hb8 w; rw [el, ← hx] at h; unfold numV words at h; exact h)
  have HY := Lib.hid ey
  rw [← hq]
  clear hx hx9 hq hq9 ey el ha hb9 hm hs ha9 hb8
  unfold numV words
  go_enter Try.func89, Try.ntmps89
  go_wp2_with fail
  obtain ⟨w_0, e_0⟩ : ∃ w9, w9 = w.alloc (.cells #[.int .u64 (dgt W64 a 0), .int .u64 (dgt W64 a 1), .int .u64 (dgt W64 a 2), .int .u64 (dgt W64 a 3)] 24) := ⟨_, rfl⟩
  have s_0 : w_0.heap.size = w.heap.size + 1 := by rw [e_0]; simp
  have b_0 : Below w.heap.size w w_0 := by rw [e_0]; exact (Below.refl _ _).alloc (Nat.le_refl _) _
  have n_0 : NumAt w_0 (w.heap.size) a := by rw [e_0]; exact NumAt.new w a _ _ rfl
  obtain ⟨w_1, e_1⟩ : ∃ w9, w9 = w_0.alloc (.cells #[.int .u64 (dgt W64 b 0), .int .u64 (dgt W64 b 1), .int .u64 (dgt W64 b 2), .int .u64 (dgt W64 b 3)] 24) := ⟨_, rfl⟩
  have s_1 : w_1.heap.size = w.heap.size + 1 + 1 := by rw [e_1]; simp [s_0]
  have b_1 : Below w_0.heap.size w_0 w_1 := by rw [e_1]; exact (Below.refl _ _).alloc (Nat.le_refl _) _
  have n_1 : NumAt w_1 (w.heap.size + 1) b := by rw [e_1]; exact NumAt.new w_0 b _ _ s_0.symm
  obtain ⟨w_2, e_2⟩ : ∃ w9, w9 = w_1.alloc (.cells #[.int .u64 (dgt W64 m 0), .int .u64 (dgt W64 m 1), .int .u64 (dgt W64 m 2), .int .u64 (dgt W64 m 3)] 24) := ⟨_, rfl⟩
  have s_2 : w_2.heap.size = w.heap.size + 1 + 1 + 1 := by rw [e_2]; simp [s_1]
  have b_2 : Below w_1.heap.size w_1 w_2 := by rw [e_2]; exact (Below.refl _ _).alloc (Nat.le_refl _) _
  have n_2 : NumAt w_2 (w.heap.size + 1 + 1) m := by rw [e_2]; exact NumAt.new w_1 m _ _ s_1.symm
  obtain ⟨wz, e_3⟩ : ∃ w9, w9 = w_2.alloc (.cells #[.int .u64 0, .int .u64 0, .int .u64 0, .int .u64 0] 24) := ⟨_, rfl⟩
  have s_3 : wz.heap.size = w.heap.size + 1 + 1 + 1 + 1 := by rw [e_3]; simp [s_2]
  have b_3 : Below w_2.heap.size w_2 wz := by rw [e_3]; exact (Below.refl _ _).alloc (Nat.le_refl _) _
  have n_3 : NumAt wz (w.heap.size + 1 + 1 + 1) 0 := by rw [e_3, ← s_2]; exact num_zero w_2 _
  have f_3 : FreeN wz (w.heap.size + 1 + 1 + 1) 4 := by rw [e_3]; exact FreeN.made w_2 _ _ 4 _ s_2.symm
  rw [← e_0, ← e_1, ← e_2, ← e_3]
  obtain ⟨AA, h_0⟩ : ∃ b, b = w.heap.size := ⟨_, rfl⟩
  obtain ⟨BB, h_1⟩ : ∃ b, b = AA + 1 := ⟨_, rfl⟩
  obtain ⟨MM, h_2⟩ : ∃ b, b = BB + 1 := ⟨_, rfl⟩
  obtain ⟨RR, h_3⟩ : ∃ b, b = MM + 1 := ⟨_, rfl⟩
  have hwL : w.heap.size ≤ AA := by omega
  have hRd : RR < wz.heap.size := by omega
  rw [← h_0] at n_0 n_1 n_2 n_3 f_3 ⊢
  rw [← h_1] at n_1 n_2 n_3 f_3 ⊢
  rw [← h_2] at n_2 n_3 f_3 ⊢
  rw [← h_3] at n_3 f_3 ⊢
  have l_1 : AA < BB := by omega
  have l_2 : BB < MM := by omega
  have l_3 : MM < RR := by omega
  have HAA := Lib.hid (NumAt.later b_3 (NumAt.later b_2 (NumAt.later b_1 n_0)))
  have HBB := Lib.hid (NumAt.later b_3 (NumAt.later b_2 n_1))
  have HMM := Lib.hid (NumAt.later b_3 n_2)
  have HRR := Lib.hid n_3
  have HF := Lib.hid f_3
  have B := Lib.hid (((b_0.trans (b_1.mono (by omega))).trans (b_2.mono (by omega))).trans (b_3.mono (by omega)))
  have hwRR : w.heap.size ≤ RR := by omega
  have HSZ := Lib.hid (show wz.heap.size = RR + 1 by omega)
  clear e_0 s_0 b_0 n_0 h_0 e_1 s_1 b_1 n_1 h_1 e_2 s_2 b_2 n_2 h_2 e_3 s_3 b_3 n_3 h_3 f_3
  refine (C1.out _).mono ?_
  rintro _ w2 ⟨rfl, hb⟩
  have HAA := Lib.hid (NumAt.later hb HAA.out)
  have HBB := Lib.hid (NumAt.later hb HBB.out)
  have HMM := Lib.hid (NumAt.later hb HMM.out)
  have HRR := Lib.hid (NumAt.later hb HRR.out)
  have HF := Lib.hid (HF.out.later hb hRd)
  have hRd := Nat.lt_of_lt_of_le hRd hb.size
  have B := Lib.hid (below_later B.out hb)
  clear hb
  obtain ⟨c0, c1, c2, c3, f0, f1, f2, f3⟩ := num4f HRR.out HF.out
  go_wp2_with fail
  rw [HY.out]
  have HRL := Lib.hid (NumAt.set4 HRR.out q)
  have B9 := Lib.hid (below_set4 B.out hwRR (.int .u64 (dgt W64 q 0)) (.int .u64 (dgt W64 q 1)) (.int .u64 (dgt W64 q 2)) (.int .u64 (dgt W64 q 3)))
  have hba : ∀ W : World, Below W.heap.size W (W.alloc (.cells #[.int .u64 (dgt W64 q 0), .int .u64 (dgt W64 q 1), .int .u64 (dgt W64 q 2), .int .u64 (dgt W64 q 3)] 24)) := fun W => (Below.refl _ _).alloc (Nat.le_refl _) _
  have B9 := Lib.hid (below_later B9.out (hba _))
  have HRL := Lib.hid (NumAt.later (hba _) HRL.out)
  clear hba
  obtain ⟨g0, g1, g2, g3⟩ := num4 HRL.out
  refine bodyPost_ret (v := .agg #[.int .u64 (dgt W64 q 0), .int .u64 (dgt W64 q 1), .int .u64 (dgt W64 q 2), .int .u64 (dgt W64 q 3)]) ?_ rfl ⟨rfl, B9.out⟩
  simp [results, Try.results89, go_sem, g0, g1, g2, g3]
theorem sub1_any {a b m : Nat} (ha : a < m) (hb : b < m) (hm : m < M256) (w : World) :
    Calls Try.prog 89 #[numV a, numV b, numV m] w fun e w' => e = .returned (numV ((a + m - b) % m)) ∧ Below w.heap.size w w' := by
  rcases Nat.lt_or_ge a b with h | h
  · exact sub1_less ha hb hm h w
  · exact sub1_ge ha hb hm h w
set_option linter.unusedVariables false in
set_option linter.unusedSimpArgs false in
set_option maxRecDepth 100000 in
set_option maxHeartbeats 4000000 in
theorem Sub_any {a n m : Nat} (ha : a < m) (h1 : 1 < m) (hn : n < m) (hm : m < M256) (w : World) :
    Calls Try.prog 75 #[numV a, numV n, numV m] w fun e w' => e = .returned (.tuple #[numV ((a + m - n) % m), .int .i64 0]) ∧ Below w.heap.size w w' := by
  obtain ⟨q, hq⟩ : ∃ q, q = (a + m - n) % m := ⟨_, rfl⟩
  rw [← hq]
  have HQ := Lib.hid hq
  have HA9 := Lib.hid ha
  have HM1 := Lib.hid h1
  have HN9 := Lib.hid hn
  have HM9 := Lib.hid hm
  clear hq ha h1 hn hm
  unfold numV words
  go_enter Try.func75, Try.ntmps75
  go_wp2_with fail
  obtain ⟨w_0, e_0⟩ : ∃ w9, w9 = w.alloc (.cells #[.int .u64 (dgt W64 a 0), .int .u64 (dgt W64 a 1), .int .u64 (dgt W64 a 2), .int .u64 (dgt W64 a 3)] 24) := ⟨_, rfl⟩
  have s_0 : w_0.heap.size = w.heap.size + 1 := by rw [e_0]; simp
  have b_0 : Below w.heap.size w w_0 := by rw [e_0]; exact (Below.refl _ _).alloc (Nat.le_refl _) _
  have n_0 : NumAt w_0 (w.heap.size) a := by rw [e_0]; exact NumAt.new w a _ _ rfl
  obtain ⟨w_1, e_1⟩ : ∃ w9, w9 = w_0.alloc (.cells #[.int .u64 (dgt W64 n 0), .int .u64 (dgt W64 n 1), .int .u64 (dgt W64 n 2), .int .u64 (dgt W64 n 3)] 24) := ⟨_, rfl⟩
  have s_1 : w_1.heap.size = w.heap.size + 1 + 1 := by rw [e_1]; simp [s_0]
  have b_1 : Below w_0.heap.size w_0 w_1 := by rw [e_1]; exact (Below.refl _ _).alloc (Nat.le_refl _) _
  have n_1 : NumAt w_1 (w.heap.size + 1) n := by rw [e_1]; exact NumAt.new w_0 n _ _ s_0.symm
  obtain ⟨w_2, e_2⟩ : ∃ w9, w9 = w_1.alloc (.cells #[.int .u64 (dgt W64 m 0), .int .u64 (dgt W64 m 1), .int .u64 (dgt W64 m 2), .int .u64 (dgt W64 m 3)] 24) := ⟨_, rfl⟩
  have s_2 : w_2.heap.size = w.heap.size + 1 + 1 + 1 := by rw [e_2]; simp [s_1]
  have b_2 : Below w_1.heap.size w_1 w_2 := by rw [e_2]; exact (Below.refl _ _).alloc (Nat.le_refl _) _
  have n_2 : NumAt w_2 (w.heap.size + 1 + 1) m := by rw [e_2]; exact NumAt.new w_1 m _ _ s_1.symm
  obtain ⟨wz, e_3⟩ : ∃ w9, w9 = w_2.alloc (.cells #[.int .u64 0, .int .u64 0, .int .u64 0, .int .u64 0] 24) := ⟨_, rfl⟩
  have s_3 : wz.heap.size = w.heap.size + 1 + 1 + 1 + 1 := by rw [e_3]; simp [s_2]
  have b_3 : Below w_2.heap.size w_2 wz := by rw [e_3]; exact (Below.refl _ _).alloc (Nat.le_refl _) _
  have n_3 : NumAt wz (w.heap.size + 1 + 1 + 1) 0 := by rw [e_3, ← s_2]; exact num_zero w_2 _
  have f_3 : FreeN wz (w.heap.size + 1 + 1 + 1) 4 := by rw [e_3]; exact FreeN.made w_2 _ _ 4 _ s_2.symm
  rw [← e_0, ← e_1, ← e_2, ← e_3]
  obtain ⟨AA, h_0⟩ : ∃ b, b = w.heap.size := ⟨_, rfl⟩
  obtain ⟨NN, h_1⟩ : ∃ b, b = AA + 1 := ⟨_, rfl⟩
  obtain ⟨MM, h_2⟩ : ∃ b, b = NN + 1 := ⟨_, rfl⟩
  obtain ⟨RR, h_3⟩ : ∃ b, b = MM + 1 := ⟨_, rfl⟩
  have hwL : w.heap.size ≤ AA := by omega
  have hRd : RR < wz.heap.size := by omega
  rw [← h_0] at n_0 n_1 n_2 n_3 f_3 ⊢
  rw [← h_1] at n_1 n_2 n_3 f_3 ⊢
  rw [← h_2] at n_2 n_3 f_3 ⊢
  rw [← h_3] at n_3 f_3 ⊢
  have l_1 : AA < NN := by omega
  have l_2 : NN < MM := by omega
  have l_3 : MM < RR := by omega
  have HAA := Lib.hid (NumAt.later b_3 (NumAt.later b_2 (NumAt.later b_1 n_0)))
  have HNN := Lib.hid (NumAt.later b_3 (NumAt.later b_2 n_1))
  have HMM := Lib.hid (NumAt.later b_3 n_2)
  have HRR := Lib.hid n_3
  have HF := Lib.hid f_3
  have B := Lib.hid (((b_0.trans (b_1.mono (by omega))).trans (b_2.mono (by omega))).trans (b_3.mono (by omega)))
  have hwRR : w.heap.size ≤ RR := by omega
  have HSZ := Lib.hid (show wz.heap.size = RR + 1 by omega)
  clear e_0 s_0 b_0 n_0 h_0 e_1 s_1 b_1 n_1 h_1 e_2 s_2 b_2 n_2 h_2 e_3 s_3 b_3 n_3 h_3 f_3
  have CO := of_may (q := q) (f := 89) (caps := #[]) HA9.out HN9.out HM1.out HM9.out wz (by intro args W; simp [go_sem]) (fun W hb => by have h := sub1_any HA9.out HN9.out HM9.out W; rw [← HQ.out] at h; exact h)
  unfold numV words at CO
  refine CO.mono ?_
  rintro _ w3 ⟨rfl, hb⟩
  clear CO
  have HAA := Lib.hid (NumAt.later hb HAA.out)
  have HNN := Lib.hid (NumAt.later hb HNN.out)
  have HMM := Lib.hid (NumAt.later hb HMM.out)
  have HRR := Lib.hid (NumAt.later hb HRR.out)
  have HF := Lib.hid (HF.out.later hb hRd)
  have hRd := Nat.lt_of_lt_of_le hRd hb.size
  have B := Lib.hid (below_later B.out hb)
  clear hb
  obtain ⟨c0, c1, c2, c3, f0, f1, f2, f3⟩ := num4f HRR.out HF.out
  go_wp2_with fail
  have HRL := Lib.hid (NumAt.set4 HRR.out q)
  have B9 := Lib.hid (below_set4 B.out hwRR (.int .u64 (dgt W64 q 0)) (.int .u64 (dgt W64 q 1)) (.int .u64 (dgt W64 q 2)) (.int .u64 (dgt W64 q 3)))
  obtain ⟨g0, g1, g2, g3⟩ := num4 HRL.out
  refine bodyPost_ret (v := .tuple #[.agg #[.int .u64 (dgt W64 q 0), .int .u64 (dgt W64 q 1), .int .u64 (dgt W64 q 2), .int .u64 (dgt W64 q 3)], .int .i64 0]) ?_ rfl ⟨rfl, B9.out⟩
  simp [results, Try.results75, go_sem, g0, g1, g2, g3]
end Go.Proofs.Ytpoocnkflmimdaa
namespace Go.Proofs.Ytpoocnkflmimdaa
open Go.ChangeShapes Go.WideShapes Go.ChangeAt Go.RowKit
/-- Block b holds x from cell o on. -/
def NumO (w : World) (b o x : Nat) : Prop := ∀ j, j < 4 → w.cell? ⟨b, o + j, none⟩ = some (.int .u64 (dgt W64 x j))
/-- Block b holds a group. -/
def GrpAt (w : World) (b gp gq gg gh : Nat) : Prop := NumO w b 0 gp ∧ NumO w b 4 gq ∧ NumO w b 8 gg ∧ NumO w b 12 gh
theorem NumO.lt {w : World} {b o x : Nat} (h : NumO w b o x) : b < w.heap.size := World.block_lt_of_cell? (a := ⟨b, o + 0, none⟩) _ (h 0 (by omega))
theorem NumO.later {w w' : World} {b o x : Nat} (hb : Below w.heap.size w w') (h : NumO w b o x) : NumO w' b o x := fun j hj => (hb.cell (p := ⟨b, o + j, none⟩) h.lt).trans (h j hj)
theorem GrpAt.later {w w' : World} {b gp gq gg gh : Nat} (hb : Below w.heap.size w w') (h : GrpAt w b gp gq gg gh) : GrpAt w' b gp gq gg gh := ⟨h.1.later hb, h.2.1.later hb, h.2.2.1.later hb, h.2.2.2.later hb⟩
theorem GrpAt.lt {w : World} {b gp gq gg gh : Nat} (h : GrpAt w b gp gq gg gh) : b < w.heap.size := h.1.lt
theorem GrpAt.new (w : World) (gp gq gg gh : Nat) (t : TypeId) : GrpAt (w.alloc (.cells #[.int .u64 (dgt W64 gp 0), .int .u64 (dgt W64 gp 1), .int .u64 (dgt W64 gp 2), .int .u64 (dgt W64 gp 3), .int .u64 (dgt W64 gq 0), .int .u64 (dgt W64 gq 1), .int .u64 (dgt W64 gq 2), .int .u64 (dgt W64 gq 3), .int .u64 (dgt W64 gg 0), .int .u64 (dgt W64 gg 1), .int .u64 (dgt W64 gg 2), .int .u64 (dgt W64 gg 3), .int .u64 (dgt W64 gh 0), .int .u64 (dgt W64 gh 1), .int .u64 (dgt W64 gh 2), .int .u64 (dgt W64 gh 3)] t)) w.heap.size gp gq gg gh := by
  refine ⟨?_, ?_, ?_, ?_⟩ <;> (intro j hj; rcases (show j = 0 ∨ j = 1 ∨ j = 2 ∨ j = 3 by omega) with rfl | rfl | rfl | rfl <;> simp)
set_option linter.unusedVariables false in
set_option linter.unusedSimpArgs false in
set_option maxRecDepth 100000 in
set_option maxHeartbeats 4000000 in
theorem may_yes {gp gq gg gh a : Nat} (h1 : 1 < gp) (ha0 : a ≠ 0) (ha : a < gp) (hm : gp < M256) (w : World) :
    Calls Try.prog 25 #[.agg #[.int .u64 (dgt W64 gp 0), .int .u64 (dgt W64 gp 1), .int .u64 (dgt W64 gp 2), .int .u64 (dgt W64 gp 3), .int .u64 (dgt W64 gq 0), .int .u64 (dgt W64 gq 1), .int .u64 (dgt W64 gq 2), .int .u64 (dgt W64 gq 3), .int .u64 (dgt W64 gg 0), .int .u64 (dgt W64 gg 1), .int .u64 (dgt W64 gg 2), .int .u64 (dgt W64 gg 3), .int .u64 (dgt W64 gh 0), .int .u64 (dgt W64 gh 1), .int .u64 (dgt W64 gh 2), .int .u64 (dgt W64 gh 3)], numV a] w fun e w' => e = .returned (.bool true) ∧ Below w.heap.size w w' := by
  have ha9 := Nat.lt_trans ha hm
  have hne := ne_num a 0 (Nat.lt_trans ha hm) M256_pos
  rw [decide_eq_false ha0] at hne
  have C1 := Lib.hid (fun w => by have h := of_lit 1 1 rfl (by decide) w; unfold numV words at h; exact h)
  have C0 := Lib.hid (fun w => by have h := of_lit 0 0 rfl (by decide) w; unfold numV words at h; exact h)
  have K1 := Lib.hid (fun w => by have h := cmp_any hm (show 1 < M256 by decide) w; rw [cmpN_of_gt h1] at h; unfold numV words at h; exact h)
  have K2 := Lib.hid (fun w => by have h := cmp_any ha9 hm w; rw [cmpN_of_lt ha] at h; unfold numV words at h; exact h)
  clear ha9 h1 ha0 ha hm
  unfold numV words
  go_enter Try.func25, Try.ntmps25
  go_wp2_with fail
  obtain ⟨w0, e0⟩ : ∃ w0, w0 = w.alloc (.cells #[.int .u64 (dgt W64 gp 0), .int .u64 (dgt W64 gp 1), .int .u64 (dgt W64 gp 2), .int .u64 (dgt W64 gp 3), .int .u64 (dgt W64 gq 0), .int .u64 (dgt W64 gq 1), .int .u64 (dgt W64 gq 2), .int .u64 (dgt W64 gq 3), .int .u64 (dgt W64 gg 0), .int .u64 (dgt W64 gg 1), .int .u64 (dgt W64 gg 2), .int .u64 (dgt W64 gg 3), .int .u64 (dgt W64 gh 0), .int .u64 (dgt W64 gh 1), .int .u64 (dgt W64 gh 2), .int .u64 (dgt W64 gh 3)] 26) := ⟨_, rfl⟩
  obtain ⟨GG, hGG⟩ : ∃ b, b = w.heap.size := ⟨_, rfl⟩
  have b0 : Below w.heap.size w w0 := by rw [e0]; exact (Below.refl _ _).alloc (Nat.le_refl _) _
  have s0 : w0.heap.size = w.heap.size + 1 := by rw [e0]; simp
  have g0 : GrpAt w0 GG gp gq gg gh := by rw [e0, hGG]; exact GrpAt.new _ _ _ _ _ _
  rw [← e0, ← s0, ← hGG]
  have HB0 := Lib.hid b0
  clear e0 hGG b0 s0
  obtain ⟨wz, e_0⟩ : ∃ w9, w9 = w0.alloc (.cells #[.int .u64 (dgt W64 a 0), .int .u64 (dgt W64 a 1), .int .u64 (dgt W64 a 2), .int .u64 (dgt W64 a 3)] 24) := ⟨_, rfl⟩
  have s_0 : wz.heap.size = w0.heap.size + 1 := by rw [e_0]; simp
  have b_0 : Below w0.heap.size w0 wz := by rw [e_0]; exact (Below.refl _ _).alloc (Nat.le_refl _) _
  have n_0 : NumAt wz (w0.heap.size) a := by rw [e_0]; exact NumAt.new w0 a _ _ rfl
  rw [← e_0]
  obtain ⟨AA, h_0⟩ : ∃ b, b = w0.heap.size := ⟨_, rfl⟩
  have hwL : w0.heap.size ≤ AA := by omega
  have hRd : AA < wz.heap.size := by omega
  rw [← h_0] at n_0 ⊢
  have HAA := Lib.hid n_0
  have B := Lib.hid b_0
  have hwAA : w0.heap.size ≤ AA := by omega
  have HSZ := Lib.hid (show wz.heap.size = AA + 1 by omega)
  clear e_0 s_0 b_0 n_0 h_0
  have G0 := Lib.hid (GrpAt.later B.out g0)
  clear g0
  refine wp_region_fresh 17 (fun _ => none) (by kernel_rfl) (by kernel_rfl) (fun _ _ _ _ _ h => h) (fun F hn9 hcl hbl => ?_)
  have r_AA_0 := fun X9 : Wd F => (NumAt.later (hbl X9.world X9.fact) HAA.out) 0 (by omega)
  have r_AA_1 := fun X9 : Wd F => (NumAt.later (hbl X9.world X9.fact) HAA.out) 1 (by omega)
  have r_AA_2 := fun X9 : Wd F => (NumAt.later (hbl X9.world X9.fact) HAA.out) 2 (by omega)
  have r_AA_3 := fun X9 : Wd F => (NumAt.later (hbl X9.world X9.fact) HAA.out) 3 (by omega)
  have r_G_0 := fun X9 : Wd F => (GrpAt.later (hbl X9.world X9.fact) G0.out).1 0 (by omega)
  have r_G_1 := fun X9 : Wd F => (GrpAt.later (hbl X9.world X9.fact) G0.out).1 1 (by omega)
  have r_G_2 := fun X9 : Wd F => (GrpAt.later (hbl X9.world X9.fact) G0.out).1 2 (by omega)
  have r_G_3 := fun X9 : Wd F => (GrpAt.later (hbl X9.world X9.fact) G0.out).1 3 (by omega)
  simp only [Nat.reduceAdd] at r_G_0 r_G_1 r_G_2 r_G_3
  have HCL := Lib.hid hcl
  clear hcl hbl
  refine wpF_seg 17 0 _ _ (fun _ _ _ => rfl) (by decide) ?_
  simp only [List.take_succ_cons, List.take_zero, List.drop_succ_cons, List.drop_zero, Nat.reduceAdd]
  repeat (go_big_quiet_step ((first | (go_at_call 27; with_reducible exact to_class HCL.out (C1.out _)) | (go_at_call 27; with_reducible exact to_class HCL.out (C0.out _)) | (go_at_call 12; with_reducible exact to_class HCL.out (K1.out _)) | (go_at_call 12; with_reducible exact to_class HCL.out (K2.out _)))))
  refine wpQuiet_nil ?_
  refine wpF_nil ?_
  intro bs w2 hb _ _
  clear r_AA_0 r_AA_1 r_AA_2 r_AA_3
  have HAA := Lib.hid (NumAt.later hb HAA.out)
  have hRd := Nat.lt_of_lt_of_le hRd hb.size
  have B := Lib.hid (below_later B.out hb)
  clear hb
  simp only [over]
  clear r_G_0 r_G_1 r_G_2 r_G_3
  go_wp2_with fail
  refine bodyPost_ret (v := .bool true) ?_ rfl ⟨rfl, below_later HB0.out B.out⟩
  simp [results, Try.results25, go_sem]
end Go.Proofs.Ytpoocnkflmimdaa
