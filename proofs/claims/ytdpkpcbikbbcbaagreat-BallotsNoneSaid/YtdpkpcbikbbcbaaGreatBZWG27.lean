/- Layer 8 (groups) -/
import Derived.Test.YtdpkpcbikbbcbaaGreatBZWG26
set_option linter.unusedSimpArgs false
set_option linter.unusedVariables false
set_option maxHeartbeats 4000000
set_option maxRecDepth 100000
namespace Go.Proofs.YtdpkpcbikbbcbaaGreat
open Go.ChangeShapes Go.WideShapes Go.ChangeAt Go.RowKit
theorem exp1_any {a n m N : Nat} (ha : a < m) (h1 : 1 < m) (hn : n < jk) (hm : m < jk) (w : World) (hN : NumAt w N n) :
  Calls Tryz.prog 63 #[jo a, jo a, jo m, .pointer (some ⟨N, 0, none⟩)] w fun e w' => e = .returned (jo (a ^ n % m)) ∧ Below w.heap.size w w' := by
 rcases Nat.lt_or_ge m jd with h | h
 ·exact exp1_short ha h1 hn h (.bool true) w hN
 ·exact exp1_long ha h1 hn h hm (.bool true) w hN
theorem Exp_any {a n m : Nat} (ha : a < m) (h1 : 1 < m) (hn : n < jk) (hm : m < jk) (w : World) :
  Calls Tryz.prog 39 #[jo a, jo n, jo m] w fun e w' => e = .returned (.tuple #[jo (a ^ n % m), .int .i64 0]) ∧ Below w.heap.size w w' := by
 obtain ⟨q, hq⟩ := je (a ^ n % m); rw [← hq]; have HQ := jh hq; have HA9 := jh ha; have HM1 := jh h1; have HN9 := jh hn; have HM9 := jh hm; clear hq ha h1 hn hm; unfold jo words
 go_enter Tryz.func39, Tryz.ntmps39
 go_wp2_with fail
 obtain ⟨w_0, e_0⟩ := je (w.alloc (.cells #[.int .u64 (jf jd a 0), .int .u64 (jf jd a 1), .int .u64 (jf jd a 2), .int .u64 (jf jd a 3)] 24)); have s_0 : w_0.heap.size = w.heap.size + 1 := by rw [e_0]; simp
 have b_0 := jc e_0; have n_0 : NumAt w_0 (w.heap.size) a := by rw [e_0]; exact NumAt.new w a _ _ rfl
 obtain ⟨w_1, e_1⟩ := je (w_0.alloc (.cells #[.int .u64 (jf jd n 0), .int .u64 (jf jd n 1), .int .u64 (jf jd n 2), .int .u64 (jf jd n 3)] 24)); have s_1 : w_1.heap.size = w.heap.size + 1 + 1 := by rw [e_1]; simp [s_0]
 have b_1 := jc e_1; have n_1 : NumAt w_1 (w.heap.size + 1) n := by rw [e_1]; exact NumAt.new w_0 n _ _ s_0.symm
 obtain ⟨w_2, e_2⟩ := je (w_1.alloc (.cells #[.int .u64 (jf jd m 0), .int .u64 (jf jd m 1), .int .u64 (jf jd m 2), .int .u64 (jf jd m 3)] 24)); have s_2 : w_2.heap.size = w.heap.size + 1 + 1 + 1 := by rw [e_2]; simp [s_1]
 have b_2 := jc e_2; have n_2 : NumAt w_2 (w.heap.size + 1 + 1) m := by rw [e_2]; exact NumAt.new w_1 m _ _ s_1.symm
 obtain ⟨wz, e_3⟩ := je (w_2.alloc (.cells #[.int .u64 0, .int .u64 0, .int .u64 0, .int .u64 0] 24)); have s_3 : wz.heap.size = w.heap.size + 1 + 1 + 1 + 1 := by rw [e_3]; simp [s_2]
 have b_3 := jc e_3; have n_3 : NumAt wz (w.heap.size + 1 + 1 + 1) 0 := by rw [e_3, ← s_2]; exact jF w_2 _
 have f_3 : FreeN wz (w.heap.size + 1 + 1 + 1) 4 := by rw [e_3]; exact FreeN.made w_2 _ _ 4 _ s_2.symm
 rw [← e_0, ← e_1, ← e_2, ← e_3]; obtain ⟨AA, h_0⟩ := je (w.heap.size); obtain ⟨NN, h_1⟩ := je (AA + 1); obtain ⟨MM, h_2⟩ := je (NN + 1); obtain ⟨RR, h_3⟩ := je (MM + 1); have hwL : w.heap.size ≤ AA := by omega
 have hRd : RR < wz.heap.size := by omega
 rw [← h_0] at n_0 n_1 n_2 n_3 f_3 ⊢; rw [← h_1] at n_1 n_2 n_3 f_3 ⊢; rw [← h_2] at n_2 n_3 f_3 ⊢; rw [← h_3] at n_3 f_3 ⊢; have l_1 : AA < NN := by omega
 have l_2 : NN < MM := by omega
 have l_3 : MM < RR := by omega
 have HAA := jh (NumAt.later b_3 (NumAt.later b_2 (NumAt.later b_1 n_0))); have HNN := jh (NumAt.later b_3 (NumAt.later b_2 n_1)); have HMM := jh (NumAt.later b_3 n_2); have HRR := jh n_3; have HF := jh f_3; have B := jh (((b_0.trans (b_1.mono (by omega))).trans (b_2.mono (by omega))).trans (b_3.mono (by omega))); have hwRR : w.heap.size ≤ RR := by omega
 have HSZ := jh (show wz.heap.size = RR + 1 by omega); clear e_0 s_0 b_0 n_0 h_0 e_1 s_1 b_1 n_1 h_1 e_2 s_2 b_2 n_2 h_2 e_3 s_3 b_3 n_3 h_3 f_3; have CO := of_may (q := q) (f := 63) (caps := #[.pointer (some ⟨NN, 0, none⟩)]) HA9.out HA9.out HM1.out HM9.out wz (by intro args W; simp [go_sem]) (fun W hb => by have h := exp1_any HA9.out HM1.out HN9.out HM9.out W (NumAt.later hb HNN.out); rw [← HQ.out] at h; exact h); unfold jo words at CO; refine CO.mono ?_; rintro _ w3 ⟨rfl, hb⟩; clear CO; have HAA := jn hb HAA; have HNN := jn hb HNN; have HMM := jn hb HMM; have HRR := jn hb HRR; have HF := jh (HF.out.later hb hRd); have hRd := Nat.lt_of_lt_of_le hRd hb.size; have B := jw B hb; clear hb; obtain ⟨c0, c1, c2, c3, f0, f1, f2, f3⟩ := jY HRR.out HF.out
 go_wp2_with fail
 have HRL := jh (NumAt.set4 HRR.out q); have B9 := jh (jz B.out hwRR (.int .u64 (jf jd q 0)) (.int .u64 (jf jd q 1)) (.int .u64 (jf jd q 2)) (.int .u64 (jf jd q 3))); obtain ⟨g0, g1, g2, g3⟩ := jR HRL.out; refine bodyPost_ret (v := .tuple #[.agg #[.int .u64 (jf jd q 0), .int .u64 (jf jd q 1), .int .u64 (jf jd q 2), .int .u64 (jf jd q 3)], .int .i64 0]) ?_ rfl ⟨rfl, B9.out⟩
 simp [results, Tryz.results39, go_sem, g0, g1, g2, g3]
theorem Mul_any {a n m : Nat} (ha : a < m) (h1 : 1 < m) (hn : n < m) (hm : m < jk) (w : World) :
  Calls Tryz.prog 93 #[jo a, jo n, jo m] w fun e w' => e = .returned (.tuple #[jo (a * n % m), .int .i64 0]) ∧ Below w.heap.size w w' := by
 obtain ⟨q, hq⟩ := je (a * n % m); rw [← hq]; have HQ := jh hq; have HA9 := jh ha; have HM1 := jh h1; have HN9 := jh hn; have HM9 := jh hm; clear hq ha h1 hn hm; unfold jo words
 go_enter Tryz.func93, Tryz.ntmps93
 go_wp2_with fail
 obtain ⟨w_0, e_0⟩ := je (w.alloc (.cells #[.int .u64 (jf jd a 0), .int .u64 (jf jd a 1), .int .u64 (jf jd a 2), .int .u64 (jf jd a 3)] 24)); have s_0 : w_0.heap.size = w.heap.size + 1 := by rw [e_0]; simp
 have b_0 := jc e_0; have n_0 : NumAt w_0 (w.heap.size) a := by rw [e_0]; exact NumAt.new w a _ _ rfl
 obtain ⟨w_1, e_1⟩ := je (w_0.alloc (.cells #[.int .u64 (jf jd n 0), .int .u64 (jf jd n 1), .int .u64 (jf jd n 2), .int .u64 (jf jd n 3)] 24)); have s_1 : w_1.heap.size = w.heap.size + 1 + 1 := by rw [e_1]; simp [s_0]
 have b_1 := jc e_1; have n_1 : NumAt w_1 (w.heap.size + 1) n := by rw [e_1]; exact NumAt.new w_0 n _ _ s_0.symm
 obtain ⟨w_2, e_2⟩ := je (w_1.alloc (.cells #[.int .u64 (jf jd m 0), .int .u64 (jf jd m 1), .int .u64 (jf jd m 2), .int .u64 (jf jd m 3)] 24)); have s_2 : w_2.heap.size = w.heap.size + 1 + 1 + 1 := by rw [e_2]; simp [s_1]
 have b_2 := jc e_2; have n_2 : NumAt w_2 (w.heap.size + 1 + 1) m := by rw [e_2]; exact NumAt.new w_1 m _ _ s_1.symm
 obtain ⟨wz, e_3⟩ := je (w_2.alloc (.cells #[.int .u64 0, .int .u64 0, .int .u64 0, .int .u64 0] 24)); have s_3 : wz.heap.size = w.heap.size + 1 + 1 + 1 + 1 := by rw [e_3]; simp [s_2]
 have b_3 := jc e_3; have n_3 : NumAt wz (w.heap.size + 1 + 1 + 1) 0 := by rw [e_3, ← s_2]; exact jF w_2 _
 have f_3 : FreeN wz (w.heap.size + 1 + 1 + 1) 4 := by rw [e_3]; exact FreeN.made w_2 _ _ 4 _ s_2.symm
 rw [← e_0, ← e_1, ← e_2, ← e_3]; obtain ⟨AA, h_0⟩ := je (w.heap.size); obtain ⟨NN, h_1⟩ := je (AA + 1); obtain ⟨MM, h_2⟩ := je (NN + 1); obtain ⟨RR, h_3⟩ := je (MM + 1); have hwL : w.heap.size ≤ AA := by omega
 have hRd : RR < wz.heap.size := by omega
 rw [← h_0] at n_0 n_1 n_2 n_3 f_3 ⊢; rw [← h_1] at n_1 n_2 n_3 f_3 ⊢; rw [← h_2] at n_2 n_3 f_3 ⊢; rw [← h_3] at n_3 f_3 ⊢; have l_1 : AA < NN := by omega
 have l_2 : NN < MM := by omega
 have l_3 : MM < RR := by omega
 have HAA := jh (NumAt.later b_3 (NumAt.later b_2 (NumAt.later b_1 n_0))); have HNN := jh (NumAt.later b_3 (NumAt.later b_2 n_1)); have HMM := jh (NumAt.later b_3 n_2); have HRR := jh n_3; have HF := jh f_3; have B := jh (((b_0.trans (b_1.mono (by omega))).trans (b_2.mono (by omega))).trans (b_3.mono (by omega))); have hwRR : w.heap.size ≤ RR := by omega
 have HSZ := jh (show wz.heap.size = RR + 1 by omega); clear e_0 s_0 b_0 n_0 h_0 e_1 s_1 b_1 n_1 h_1 e_2 s_2 b_2 n_2 h_2 e_3 s_3 b_3 n_3 h_3 f_3; have CO := of_may (q := q) (f := 70) (caps := #[]) HA9.out HN9.out HM1.out HM9.out wz (by intro args W; simp [go_sem]) (fun W hb => by have h := mtimes_any HA9.out HN9.out HM9.out W; rw [← HQ.out] at h; exact h); unfold jo words at CO; refine CO.mono ?_; rintro _ w3 ⟨rfl, hb⟩; clear CO; have HAA := jn hb HAA; have HNN := jn hb HNN; have HMM := jn hb HMM; have HRR := jn hb HRR; have HF := jh (HF.out.later hb hRd); have hRd := Nat.lt_of_lt_of_le hRd hb.size; have B := jw B hb; clear hb; obtain ⟨c0, c1, c2, c3, f0, f1, f2, f3⟩ := jY HRR.out HF.out
 go_wp2_with fail
 have HRL := jh (NumAt.set4 HRR.out q); have B9 := jh (jz B.out hwRR (.int .u64 (jf jd q 0)) (.int .u64 (jf jd q 1)) (.int .u64 (jf jd q 2)) (.int .u64 (jf jd q 3))); obtain ⟨g0, g1, g2, g3⟩ := jR HRL.out; refine bodyPost_ret (v := .tuple #[.agg #[.int .u64 (jf jd q 0), .int .u64 (jf jd q 1), .int .u64 (jf jd q 2), .int .u64 (jf jd q 3)], .int .i64 0]) ?_ rfl ⟨rfl, B9.out⟩
 simp [results, Tryz.results93, go_sem, g0, g1, g2, g3]
theorem addM {a b m s : Nat} (ha : a < m) (hb : b < m) (hs : s = a + b) : (a + b) % m = if m ≤ s then s - m else s := by
 rw [← hs]
 split
 ·rename_i h
  rw [Nat.mod_eq_sub_mod h, Nat.mod_eq_of_lt (by omega)]
 ·exact Nat.mod_eq_of_lt (by omega)
theorem add1_big {a b m : Nat} (ha : a < m) (hb9 : b < m) (hm : m < jk) (hs : jk ≤ a + b) (w : World) :
  Calls Tryz.prog 137 #[jo a, jo b, jo m] w fun e w' => e = .returned (jo ((a + b) % m)) ∧ Below w.heap.size w w' := by
 have ha9 := Nat.lt_trans ha hm; have hb8 := Nat.lt_trans hb9 hm; have hM := addM ha hb9 rfl; obtain ⟨x, hx⟩ := je (JN a b); have hx9 : x < jk := by rw [hx]; exact addN_lt _ _
 obtain ⟨q, hq⟩ := je ((a + b) % m); have eC : JM a b = 1 := by unfold JM; unfold jk at *; omega
 have hq9 : q = a + b - m := by rw [hq, hM]; unfold JN at hx; unfold jk at *; split <;> omega
 have ex : x = a + b - jk := by rw [hx]; unfold JN; unfold jk at *; omega
 have ey : Qt x m = q := by rw [ex, hq9]; unfold Qt; unfold jk at *; omega
 obtain ⟨l, hl⟩ := je (zs x m); obtain ⟨y, hy⟩ := je (Qt x m); have C1 := jh (fun w => by have h := Zm ha9 hb8 w; rw [eC, ← hx] at h; unfold jo words at h; exact h); have C2 := jh (fun w => by have h := JR hx9 hm w; rw [← hl, ← hy] at h; unfold jo words at h; exact h); have HY := jh (hy.trans ey); rw [← hq]; clear hM hx hx9 hq eC hq9 ex ey hl hy ha hb9 hm hs ha9 hb8; unfold jo words
 go_enter Tryz.func137, Tryz.ntmps137
 go_wp2_with fail
 obtain ⟨w_0, e_0⟩ := je (w.alloc (.cells #[.int .u64 (jf jd a 0), .int .u64 (jf jd a 1), .int .u64 (jf jd a 2), .int .u64 (jf jd a 3)] 24)); have s_0 : w_0.heap.size = w.heap.size + 1 := by rw [e_0]; simp
 have b_0 := jc e_0; have n_0 : NumAt w_0 (w.heap.size) a := by rw [e_0]; exact NumAt.new w a _ _ rfl
 obtain ⟨w_1, e_1⟩ := je (w_0.alloc (.cells #[.int .u64 (jf jd b 0), .int .u64 (jf jd b 1), .int .u64 (jf jd b 2), .int .u64 (jf jd b 3)] 24)); have s_1 : w_1.heap.size = w.heap.size + 1 + 1 := by rw [e_1]; simp [s_0]
 have b_1 := jc e_1; have n_1 : NumAt w_1 (w.heap.size + 1) b := by rw [e_1]; exact NumAt.new w_0 b _ _ s_0.symm
 obtain ⟨w_2, e_2⟩ := je (w_1.alloc (.cells #[.int .u64 (jf jd m 0), .int .u64 (jf jd m 1), .int .u64 (jf jd m 2), .int .u64 (jf jd m 3)] 24)); have s_2 : w_2.heap.size = w.heap.size + 1 + 1 + 1 := by rw [e_2]; simp [s_1]
 have b_2 := jc e_2; have n_2 : NumAt w_2 (w.heap.size + 1 + 1) m := by rw [e_2]; exact NumAt.new w_1 m _ _ s_1.symm
 obtain ⟨wz, e_3⟩ := je (w_2.alloc (.cells #[.int .u64 0, .int .u64 0, .int .u64 0, .int .u64 0] 24)); have s_3 : wz.heap.size = w.heap.size + 1 + 1 + 1 + 1 := by rw [e_3]; simp [s_2]
 have b_3 := jc e_3; have n_3 : NumAt wz (w.heap.size + 1 + 1 + 1) 0 := by rw [e_3, ← s_2]; exact jF w_2 _
 have f_3 : FreeN wz (w.heap.size + 1 + 1 + 1) 4 := by rw [e_3]; exact FreeN.made w_2 _ _ 4 _ s_2.symm
 rw [← e_0, ← e_1, ← e_2, ← e_3]; obtain ⟨AA, h_0⟩ := je (w.heap.size); obtain ⟨BB, h_1⟩ := je (AA + 1); obtain ⟨MM, h_2⟩ := je (BB + 1); obtain ⟨RR, h_3⟩ := je (MM + 1); have hwL : w.heap.size ≤ AA := by omega
 have hRd : RR < wz.heap.size := by omega
 rw [← h_0] at n_0 n_1 n_2 n_3 f_3 ⊢; rw [← h_1] at n_1 n_2 n_3 f_3 ⊢; rw [← h_2] at n_2 n_3 f_3 ⊢; rw [← h_3] at n_3 f_3 ⊢; have l_1 : AA < BB := by omega
 have l_2 : BB < MM := by omega
 have l_3 : MM < RR := by omega
 have HAA := jh (NumAt.later b_3 (NumAt.later b_2 (NumAt.later b_1 n_0))); have HBB := jh (NumAt.later b_3 (NumAt.later b_2 n_1)); have HMM := jh (NumAt.later b_3 n_2); have HRR := jh n_3; have HF := jh f_3; have B := jh (((b_0.trans (b_1.mono (by omega))).trans (b_2.mono (by omega))).trans (b_3.mono (by omega))); have hwRR : w.heap.size ≤ RR := by omega
 have HSZ := jh (show wz.heap.size = RR + 1 by omega); clear e_0 s_0 b_0 n_0 h_0 e_1 s_1 b_1 n_1 h_1 e_2 s_2 b_2 n_2 h_2 e_3 s_3 b_3 n_3 h_3 f_3; refine (C1.out _).mono ?_; rintro _ w2 ⟨rfl, hb⟩; have HAA := jn hb HAA; have HBB := jn hb HBB; have HMM := jn hb HMM; have HRR := jn hb HRR; have HF := jh (HF.out.later hb hRd); have hRd := Nat.lt_of_lt_of_le hRd hb.size; have B := jw B hb; clear hb; have q_0 := fun o1 => (NumAt.alloc HMM.out o1) 0 (by omega)
 have q_1 := fun o1 => (NumAt.alloc HMM.out o1) 1 (by omega)
 have q_2 := fun o1 => (NumAt.alloc HMM.out o1) 2 (by omega)
 have q_3 := fun o1 => (NumAt.alloc HMM.out o1) 3 (by omega)
 go_wp2_with fail
 clear q_0 q_1 q_2 q_3; obtain ⟨w3, e3⟩ := je (w2.alloc (.cells #[.int .u64 (jf jd x 0), .int .u64 (jf jd x 1), .int .u64 (jf jd x 2), .int .u64 (jf jd x 3)] 24)); obtain ⟨XX, hX⟩ := je (w2.heap.size); have hb := jc e3; have HXX := jh (show NumAt w3 XX x by rw [e3]; exact NumAt.new w2 x _ _ hX); have nXR : XX ≠ RR := by omega
 rw [← e3, ← hX]; clear e3 hX; have HAA := jn hb HAA; have HBB := jn hb HBB; have HMM := jn hb HMM; have HRR := jn hb HRR; have HF := jh (HF.out.later hb hRd); have hRd := Nat.lt_of_lt_of_le hRd hb.size; have B := jw B hb; clear hb; refine (C2.out _).mono ?_; rintro _ w4 ⟨rfl, hb⟩; have HAA := jn hb HAA; have HBB := jn hb HBB; have HMM := jn hb HMM; have HRR := jn hb HRR; have HXX := jn hb HXX; have HF := jh (HF.out.later hb hRd); have hRd := Nat.lt_of_lt_of_le hRd hb.size; have B := jw B hb; clear hb; obtain ⟨c0, c1, c2, c3, f0, f1, f2, f3⟩ := jY HRR.out HF.out; obtain ⟨r_XX_0, r_XX_1, r_XX_2, r_XX_3⟩ := jR HXX.out
 go_wp2_with fail
 rw [HY.out]; have HRL := jh (NumAt.set4 HRR.out q); have B9 := jh (jz B.out hwRR (.int .u64 (jf jd q 0)) (.int .u64 (jf jd q 1)) (.int .u64 (jf jd q 2)) (.int .u64 (jf jd q 3))); have hba : ∀ W : World, Below W.heap.size W (W.alloc (.cells #[.int .u64 (jf jd q 0), .int .u64 (jf jd q 1), .int .u64 (jf jd q 2), .int .u64 (jf jd q 3)] 24)) := fun W => ja
 have B9 := jh (jm B9.out (hba _)); have HRL := jh (NumAt.later (hba _) HRL.out); clear hba; obtain ⟨g0, g1, g2, g3⟩ := jR HRL.out; refine bodyPost_ret (v := .agg #[.int .u64 (jf jd q 0), .int .u64 (jf jd q 1), .int .u64 (jf jd q 2), .int .u64 (jf jd q 3)]) ?_ rfl ⟨rfl, B9.out⟩
 simp [results, Tryz.results137, go_sem, g0, g1, g2, g3]
theorem add1_over {a b m : Nat} (ha : a < m) (hb9 : b < m) (hm : m < jk) (hs : m ≤ a + b) (h256 : a + b < jk) (w : World) :
  Calls Tryz.prog 137 #[jo a, jo b, jo m] w fun e w' => e = .returned (jo ((a + b) % m)) ∧ Below w.heap.size w w' := by
 have ha9 := Nat.lt_trans ha hm; have hb8 := Nat.lt_trans hb9 hm; have hM := addM ha hb9 rfl; obtain ⟨x, hx⟩ := je (JN a b); have hx9 : x < jk := by rw [hx]; exact addN_lt _ _
 obtain ⟨q, hq⟩ := je ((a + b) % m); have eC : JM a b = 0 := by unfold JM; unfold jk at *; omega
 have hq9 : q = a + b - m := by rw [hq, hM]; unfold JN at hx; unfold jk at *; split <;> omega
 have ex : x = a + b := by rw [hx]; unfold JN; unfold jk at *; omega
 have ey : Qt x m = q := by rw [ex, hq9]; unfold Qt; unfold jk at *; omega
 have el : zs x m = 0 := by unfold zs; rw [if_neg (by omega)]
 obtain ⟨l, hl⟩ := je (zs x m); obtain ⟨y, hy⟩ := je (Qt x m); have C1 := jh (fun w => by have h := Zm ha9 hb8 w; rw [eC, ← hx] at h; unfold jo words at h; exact h); have C2 := jh (fun w => by have h := JR hx9 hm w; rw [← hl, ← hy] at h; unfold jo words at h; exact h); have HY := jh (hy.trans ey); have HLq := jh (hl.trans el); rw [hl.trans el] at C2; rw [← hq]; clear hM hx hx9 hq eC hq9 ex ey hl hy ha hb9 hm hs ha9 hb8 el h256; unfold jo words
 go_enter Tryz.func137, Tryz.ntmps137
 go_wp2_with fail
 obtain ⟨w_0, e_0⟩ := je (w.alloc (.cells #[.int .u64 (jf jd a 0), .int .u64 (jf jd a 1), .int .u64 (jf jd a 2), .int .u64 (jf jd a 3)] 24)); have s_0 : w_0.heap.size = w.heap.size + 1 := by rw [e_0]; simp
 have b_0 := jc e_0; have n_0 : NumAt w_0 (w.heap.size) a := by rw [e_0]; exact NumAt.new w a _ _ rfl
 obtain ⟨w_1, e_1⟩ := je (w_0.alloc (.cells #[.int .u64 (jf jd b 0), .int .u64 (jf jd b 1), .int .u64 (jf jd b 2), .int .u64 (jf jd b 3)] 24)); have s_1 : w_1.heap.size = w.heap.size + 1 + 1 := by rw [e_1]; simp [s_0]
 have b_1 := jc e_1; have n_1 : NumAt w_1 (w.heap.size + 1) b := by rw [e_1]; exact NumAt.new w_0 b _ _ s_0.symm
 obtain ⟨w_2, e_2⟩ := je (w_1.alloc (.cells #[.int .u64 (jf jd m 0), .int .u64 (jf jd m 1), .int .u64 (jf jd m 2), .int .u64 (jf jd m 3)] 24)); have s_2 : w_2.heap.size = w.heap.size + 1 + 1 + 1 := by rw [e_2]; simp [s_1]
 have b_2 := jc e_2; have n_2 : NumAt w_2 (w.heap.size + 1 + 1) m := by rw [e_2]; exact NumAt.new w_1 m _ _ s_1.symm
 obtain ⟨wz, e_3⟩ := je (w_2.alloc (.cells #[.int .u64 0, .int .u64 0, .int .u64 0, .int .u64 0] 24)); have s_3 : wz.heap.size = w.heap.size + 1 + 1 + 1 + 1 := by rw [e_3]; simp [s_2]
 have b_3 := jc e_3; have n_3 : NumAt wz (w.heap.size + 1 + 1 + 1) 0 := by rw [e_3, ← s_2]; exact jF w_2 _
 have f_3 : FreeN wz (w.heap.size + 1 + 1 + 1) 4 := by rw [e_3]; exact FreeN.made w_2 _ _ 4 _ s_2.symm
 rw [← e_0, ← e_1, ← e_2, ← e_3]; obtain ⟨AA, h_0⟩ := je (w.heap.size); obtain ⟨BB, h_1⟩ := je (AA + 1); obtain ⟨MM, h_2⟩ := je (BB + 1); obtain ⟨RR, h_3⟩ := je (MM + 1); have hwL : w.heap.size ≤ AA := by omega
 have hRd : RR < wz.heap.size := by omega
 rw [← h_0] at n_0 n_1 n_2 n_3 f_3 ⊢; rw [← h_1] at n_1 n_2 n_3 f_3 ⊢; rw [← h_2] at n_2 n_3 f_3 ⊢; rw [← h_3] at n_3 f_3 ⊢; have l_1 : AA < BB := by omega
 have l_2 : BB < MM := by omega
 have l_3 : MM < RR := by omega
 have HAA := jh (NumAt.later b_3 (NumAt.later b_2 (NumAt.later b_1 n_0))); have HBB := jh (NumAt.later b_3 (NumAt.later b_2 n_1)); have HMM := jh (NumAt.later b_3 n_2); have HRR := jh n_3; have HF := jh f_3; have B := jh (((b_0.trans (b_1.mono (by omega))).trans (b_2.mono (by omega))).trans (b_3.mono (by omega))); have hwRR : w.heap.size ≤ RR := by omega
 have HSZ := jh (show wz.heap.size = RR + 1 by omega); clear e_0 s_0 b_0 n_0 h_0 e_1 s_1 b_1 n_1 h_1 e_2 s_2 b_2 n_2 h_2 e_3 s_3 b_3 n_3 h_3 f_3; refine (C1.out _).mono ?_; rintro _ w2 ⟨rfl, hb⟩; have HAA := jn hb HAA; have HBB := jn hb HBB; have HMM := jn hb HMM; have HRR := jn hb HRR; have HF := jh (HF.out.later hb hRd); have hRd := Nat.lt_of_lt_of_le hRd hb.size; have B := jw B hb; clear hb; have q_0 := fun o1 => (NumAt.alloc HMM.out o1) 0 (by omega)
 have q_1 := fun o1 => (NumAt.alloc HMM.out o1) 1 (by omega)
 have q_2 := fun o1 => (NumAt.alloc HMM.out o1) 2 (by omega)
 have q_3 := fun o1 => (NumAt.alloc HMM.out o1) 3 (by omega)
 go_wp2_with fail
 clear q_0 q_1 q_2 q_3; obtain ⟨w3, e3⟩ := je (w2.alloc (.cells #[.int .u64 (jf jd x 0), .int .u64 (jf jd x 1), .int .u64 (jf jd x 2), .int .u64 (jf jd x 3)] 24)); obtain ⟨XX, hX⟩ := je (w2.heap.size); have hb := jc e3; have HXX := jh (show NumAt w3 XX x by rw [e3]; exact NumAt.new w2 x _ _ hX); have nXR : XX ≠ RR := by omega
 rw [← e3, ← hX]; clear e3 hX; have HAA := jn hb HAA; have HBB := jn hb HBB; have HMM := jn hb HMM; have HRR := jn hb HRR; have HF := jh (HF.out.later hb hRd); have hRd := Nat.lt_of_lt_of_le hRd hb.size; have B := jw B hb; clear hb; refine (C2.out _).mono ?_; rintro _ w4 ⟨rfl, hb⟩; have HAA := jn hb HAA; have HBB := jn hb HBB; have HMM := jn hb HMM; have HRR := jn hb HRR; have HXX := jn hb HXX; have HF := jh (HF.out.later hb hRd); have hRd := Nat.lt_of_lt_of_le hRd hb.size; have B := jw B hb; clear hb; obtain ⟨c0, c1, c2, c3, f0, f1, f2, f3⟩ := jY HRR.out HF.out; obtain ⟨r_XX_0, r_XX_1, r_XX_2, r_XX_3⟩ := jR HXX.out
 go_wp2_with fail
 rw [HY.out]; have HRL := jh (NumAt.set4 HRR.out q); have B9 := jh (jz B.out hwRR (.int .u64 (jf jd q 0)) (.int .u64 (jf jd q 1)) (.int .u64 (jf jd q 2)) (.int .u64 (jf jd q 3))); have hba : ∀ W : World, Below W.heap.size W (W.alloc (.cells #[.int .u64 (jf jd q 0), .int .u64 (jf jd q 1), .int .u64 (jf jd q 2), .int .u64 (jf jd q 3)] 24)) := fun W => ja
 have B9 := jh (jm B9.out (hba _)); have HRL := jh (NumAt.later (hba _) HRL.out); clear hba; obtain ⟨g0, g1, g2, g3⟩ := jR HRL.out; refine bodyPost_ret (v := .agg #[.int .u64 (jf jd q 0), .int .u64 (jf jd q 1), .int .u64 (jf jd q 2), .int .u64 (jf jd q 3)]) ?_ rfl ⟨rfl, B9.out⟩
 simp [results, Tryz.results137, go_sem, g0, g1, g2, g3]
theorem add1_small {a b m : Nat} (ha : a < m) (hb9 : b < m) (hm : m < jk) (hs : a + b < m) (w : World) :
  Calls Tryz.prog 137 #[jo a, jo b, jo m] w fun e w' => e = .returned (jo ((a + b) % m)) ∧ Below w.heap.size w w' := by
 have ha9 := Nat.lt_trans ha hm; have hb8 := Nat.lt_trans hb9 hm; have hM := addM ha hb9 rfl; obtain ⟨x, hx⟩ := je (JN a b); have hx9 : x < jk := by rw [hx]; exact addN_lt _ _
 obtain ⟨q, hq⟩ := je ((a + b) % m); have eC : JM a b = 0 := by unfold JM; unfold jk at *; omega
 have hq9 : q = a + b := by rw [hq, hM]; unfold JN at hx; unfold jk at *; split <;> omega
 have ex : x = a + b := by rw [hx]; unfold JN; unfold jk at *; omega
 have ey : x = q := by omega
 have el : zs x m = 1 := by unfold zs; rw [if_pos (by omega)]
 obtain ⟨l, hl⟩ := je (zs x m); obtain ⟨y, hy⟩ := je (Qt x m); have C1 := jh (fun w => by have h := Zm ha9 hb8 w; rw [eC, ← hx] at h; unfold jo words at h; exact h); have C2 := jh (fun w => by have h := JR hx9 hm w; rw [← hl, ← hy] at h; unfold jo words at h; exact h); have HY := jh ey; have HLq := jh (hl.trans el); rw [hl.trans el] at C2; rw [← hq]; clear hM hx hx9 hq eC hq9 ex ey hl hy ha hb9 hm hs ha9 hb8 el; unfold jo words
 go_enter Tryz.func137, Tryz.ntmps137
 go_wp2_with fail
 obtain ⟨w_0, e_0⟩ := je (w.alloc (.cells #[.int .u64 (jf jd a 0), .int .u64 (jf jd a 1), .int .u64 (jf jd a 2), .int .u64 (jf jd a 3)] 24)); have s_0 : w_0.heap.size = w.heap.size + 1 := by rw [e_0]; simp
 have b_0 := jc e_0; have n_0 : NumAt w_0 (w.heap.size) a := by rw [e_0]; exact NumAt.new w a _ _ rfl
 obtain ⟨w_1, e_1⟩ := je (w_0.alloc (.cells #[.int .u64 (jf jd b 0), .int .u64 (jf jd b 1), .int .u64 (jf jd b 2), .int .u64 (jf jd b 3)] 24)); have s_1 : w_1.heap.size = w.heap.size + 1 + 1 := by rw [e_1]; simp [s_0]
 have b_1 := jc e_1; have n_1 : NumAt w_1 (w.heap.size + 1) b := by rw [e_1]; exact NumAt.new w_0 b _ _ s_0.symm
 obtain ⟨w_2, e_2⟩ := je (w_1.alloc (.cells #[.int .u64 (jf jd m 0), .int .u64 (jf jd m 1), .int .u64 (jf jd m 2), .int .u64 (jf jd m 3)] 24)); have s_2 : w_2.heap.size = w.heap.size + 1 + 1 + 1 := by rw [e_2]; simp [s_1]
 have b_2 := jc e_2; have n_2 : NumAt w_2 (w.heap.size + 1 + 1) m := by rw [e_2]; exact NumAt.new w_1 m _ _ s_1.symm
 obtain ⟨wz, e_3⟩ := je (w_2.alloc (.cells #[.int .u64 0, .int .u64 0, .int .u64 0, .int .u64 0] 24)); have s_3 : wz.heap.size = w.heap.size + 1 + 1 + 1 + 1 := by rw [e_3]; simp [s_2]
 have b_3 := jc e_3; have n_3 : NumAt wz (w.heap.size + 1 + 1 + 1) 0 := by rw [e_3, ← s_2]; exact jF w_2 _
 have f_3 : FreeN wz (w.heap.size + 1 + 1 + 1) 4 := by rw [e_3]; exact FreeN.made w_2 _ _ 4 _ s_2.symm
 rw [← e_0, ← e_1, ← e_2, ← e_3]; obtain ⟨AA, h_0⟩ := je (w.heap.size); obtain ⟨BB, h_1⟩ := je (AA + 1); obtain ⟨MM, h_2⟩ := je (BB + 1); obtain ⟨RR, h_3⟩ := je (MM + 1); have hwL : w.heap.size ≤ AA := by omega
 have hRd : RR < wz.heap.size := by omega
 rw [← h_0] at n_0 n_1 n_2 n_3 f_3 ⊢; rw [← h_1] at n_1 n_2 n_3 f_3 ⊢; rw [← h_2] at n_2 n_3 f_3 ⊢; rw [← h_3] at n_3 f_3 ⊢; have l_1 : AA < BB := by omega
 have l_2 : BB < MM := by omega
 have l_3 : MM < RR := by omega
 have HAA := jh (NumAt.later b_3 (NumAt.later b_2 (NumAt.later b_1 n_0))); have HBB := jh (NumAt.later b_3 (NumAt.later b_2 n_1)); have HMM := jh (NumAt.later b_3 n_2); have HRR := jh n_3; have HF := jh f_3; have B := jh (((b_0.trans (b_1.mono (by omega))).trans (b_2.mono (by omega))).trans (b_3.mono (by omega))); have hwRR : w.heap.size ≤ RR := by omega
 have HSZ := jh (show wz.heap.size = RR + 1 by omega); clear e_0 s_0 b_0 n_0 h_0 e_1 s_1 b_1 n_1 h_1 e_2 s_2 b_2 n_2 h_2 e_3 s_3 b_3 n_3 h_3 f_3; refine (C1.out _).mono ?_; rintro _ w2 ⟨rfl, hb⟩; have HAA := jn hb HAA; have HBB := jn hb HBB; have HMM := jn hb HMM; have HRR := jn hb HRR; have HF := jh (HF.out.later hb hRd); have hRd := Nat.lt_of_lt_of_le hRd hb.size; have B := jw B hb; clear hb; have q_0 := fun o1 => (NumAt.alloc HMM.out o1) 0 (by omega)
 have q_1 := fun o1 => (NumAt.alloc HMM.out o1) 1 (by omega)
 have q_2 := fun o1 => (NumAt.alloc HMM.out o1) 2 (by omega)
 have q_3 := fun o1 => (NumAt.alloc HMM.out o1) 3 (by omega)
 go_wp2_with fail
 clear q_0 q_1 q_2 q_3; obtain ⟨w3, e3⟩ := je (w2.alloc (.cells #[.int .u64 (jf jd x 0), .int .u64 (jf jd x 1), .int .u64 (jf jd x 2), .int .u64 (jf jd x 3)] 24)); obtain ⟨XX, hX⟩ := je (w2.heap.size); have hb := jc e3; have HXX := jh (show NumAt w3 XX x by rw [e3]; exact NumAt.new w2 x _ _ hX); have nXR : XX ≠ RR := by omega
 rw [← e3, ← hX]; clear e3 hX; have HAA := jn hb HAA; have HBB := jn hb HBB; have HMM := jn hb HMM; have HRR := jn hb HRR; have HF := jh (HF.out.later hb hRd); have hRd := Nat.lt_of_lt_of_le hRd hb.size; have B := jw B hb; clear hb; refine (C2.out _).mono ?_; rintro _ w4 ⟨rfl, hb⟩; have HAA := jn hb HAA; have HBB := jn hb HBB; have HMM := jn hb HMM; have HRR := jn hb HRR; have HXX := jn hb HXX; have HF := jh (HF.out.later hb hRd); have hRd := Nat.lt_of_lt_of_le hRd hb.size; have B := jw B hb; clear hb; obtain ⟨c0, c1, c2, c3, f0, f1, f2, f3⟩ := jY HRR.out HF.out; have q_0 := fun o1 => (NumAt.alloc HXX.out o1) 0 (by omega)
 have q_1 := fun o1 => (NumAt.alloc HXX.out o1) 1 (by omega)
 have q_2 := fun o1 => (NumAt.alloc HXX.out o1) 2 (by omega)
 have q_3 := fun o1 => (NumAt.alloc HXX.out o1) 3 (by omega)
 go_wp2_with fail
 rw [HY.out]; have HRL := jh (NumAt.set4 HRR.out q); have B9 := jh (jz B.out hwRR (.int .u64 (jf jd q 0)) (.int .u64 (jf jd q 1)) (.int .u64 (jf jd q 2)) (.int .u64 (jf jd q 3))); have hba : ∀ W : World, Below W.heap.size W (W.alloc (.cells #[.int .u64 (jf jd y 0), .int .u64 (jf jd y 1), .int .u64 (jf jd y 2), .int .u64 (jf jd y 3)] 24)) := fun W => ja
 have B9 := jh (jm B9.out (hba _)); have HRL := jh (NumAt.later (hba _) HRL.out); clear hba; obtain ⟨g0, g1, g2, g3⟩ := jR HRL.out; refine bodyPost_ret (v := .agg #[.int .u64 (jf jd q 0), .int .u64 (jf jd q 1), .int .u64 (jf jd q 2), .int .u64 (jf jd q 3)]) ?_ rfl ⟨rfl, B9.out⟩
 simp [results, Tryz.results137, go_sem, g0, g1, g2, g3]
theorem add1_any {a b m : Nat} (ha : a < m) (hb : b < m) (hm : m < jk) (w : World) :
  Calls Tryz.prog 137 #[jo a, jo b, jo m] w fun e w' => e = .returned (jo ((a + b) % m)) ∧ Below w.heap.size w w' := by
 rcases Nat.lt_or_ge (a + b) m with h | h
 ·exact add1_small ha hb hm h w
 ·rcases Nat.lt_or_ge (a + b) jk with h9 | h9
  ·exact add1_over ha hb hm h h9 w
  ·exact add1_big ha hb hm h9 w
theorem Add_any {a n m : Nat} (ha : a < m) (h1 : 1 < m) (hn : n < m) (hm : m < jk) (w : World) :
  Calls Tryz.prog 120 #[jo a, jo n, jo m] w fun e w' => e = .returned (.tuple #[jo ((a + n) % m), .int .i64 0]) ∧ Below w.heap.size w w' := by
 obtain ⟨q, hq⟩ := je ((a + n) % m); rw [← hq]; have HQ := jh hq; have HA9 := jh ha; have HM1 := jh h1; have HN9 := jh hn; have HM9 := jh hm; clear hq ha h1 hn hm; unfold jo words
 go_enter Tryz.func120, Tryz.ntmps120
 go_wp2_with fail
 obtain ⟨w_0, e_0⟩ := je (w.alloc (.cells #[.int .u64 (jf jd a 0), .int .u64 (jf jd a 1), .int .u64 (jf jd a 2), .int .u64 (jf jd a 3)] 24)); have s_0 : w_0.heap.size = w.heap.size + 1 := by rw [e_0]; simp
 have b_0 := jc e_0; have n_0 : NumAt w_0 (w.heap.size) a := by rw [e_0]; exact NumAt.new w a _ _ rfl
 obtain ⟨w_1, e_1⟩ := je (w_0.alloc (.cells #[.int .u64 (jf jd n 0), .int .u64 (jf jd n 1), .int .u64 (jf jd n 2), .int .u64 (jf jd n 3)] 24)); have s_1 : w_1.heap.size = w.heap.size + 1 + 1 := by rw [e_1]; simp [s_0]
 have b_1 := jc e_1; have n_1 : NumAt w_1 (w.heap.size + 1) n := by rw [e_1]; exact NumAt.new w_0 n _ _ s_0.symm
 obtain ⟨w_2, e_2⟩ := je (w_1.alloc (.cells #[.int .u64 (jf jd m 0), .int .u64 (jf jd m 1), .int .u64 (jf jd m 2), .int .u64 (jf jd m 3)] 24)); have s_2 : w_2.heap.size = w.heap.size + 1 + 1 + 1 := by rw [e_2]; simp [s_1]
 have b_2 := jc e_2; have n_2 : NumAt w_2 (w.heap.size + 1 + 1) m := by rw [e_2]; exact NumAt.new w_1 m _ _ s_1.symm
 obtain ⟨wz, e_3⟩ := je (w_2.alloc (.cells #[.int .u64 0, .int .u64 0, .int .u64 0, .int .u64 0] 24)); have s_3 : wz.heap.size = w.heap.size + 1 + 1 + 1 + 1 := by rw [e_3]; simp [s_2]
 have b_3 := jc e_3; have n_3 : NumAt wz (w.heap.size + 1 + 1 + 1) 0 := by rw [e_3, ← s_2]; exact jF w_2 _
 have f_3 : FreeN wz (w.heap.size + 1 + 1 + 1) 4 := by rw [e_3]; exact FreeN.made w_2 _ _ 4 _ s_2.symm
 rw [← e_0, ← e_1, ← e_2, ← e_3]; obtain ⟨AA, h_0⟩ := je (w.heap.size); obtain ⟨NN, h_1⟩ := je (AA + 1); obtain ⟨MM, h_2⟩ := je (NN + 1); obtain ⟨RR, h_3⟩ := je (MM + 1); have hwL : w.heap.size ≤ AA := by omega
 have hRd : RR < wz.heap.size := by omega
 rw [← h_0] at n_0 n_1 n_2 n_3 f_3 ⊢; rw [← h_1] at n_1 n_2 n_3 f_3 ⊢; rw [← h_2] at n_2 n_3 f_3 ⊢; rw [← h_3] at n_3 f_3 ⊢; have l_1 : AA < NN := by omega
 have l_2 : NN < MM := by omega
 have l_3 : MM < RR := by omega
 have HAA := jh (NumAt.later b_3 (NumAt.later b_2 (NumAt.later b_1 n_0))); have HNN := jh (NumAt.later b_3 (NumAt.later b_2 n_1)); have HMM := jh (NumAt.later b_3 n_2); have HRR := jh n_3; have HF := jh f_3; have B := jh (((b_0.trans (b_1.mono (by omega))).trans (b_2.mono (by omega))).trans (b_3.mono (by omega))); have hwRR : w.heap.size ≤ RR := by omega
 have HSZ := jh (show wz.heap.size = RR + 1 by omega); clear e_0 s_0 b_0 n_0 h_0 e_1 s_1 b_1 n_1 h_1 e_2 s_2 b_2 n_2 h_2 e_3 s_3 b_3 n_3 h_3 f_3; have CO := of_may (q := q) (f := 137) (caps := #[]) HA9.out HN9.out HM1.out HM9.out wz (by intro args W; simp [go_sem]) (fun W hb => by have h := add1_any HA9.out HN9.out HM9.out W; rw [← HQ.out] at h; exact h); unfold jo words at CO; refine CO.mono ?_; rintro _ w3 ⟨rfl, hb⟩; clear CO; have HAA := jn hb HAA; have HNN := jn hb HNN; have HMM := jn hb HMM; have HRR := jn hb HRR; have HF := jh (HF.out.later hb hRd); have hRd := Nat.lt_of_lt_of_le hRd hb.size; have B := jw B hb; clear hb; obtain ⟨c0, c1, c2, c3, f0, f1, f2, f3⟩ := jY HRR.out HF.out
 go_wp2_with fail
 have HRL := jh (NumAt.set4 HRR.out q); have B9 := jh (jz B.out hwRR (.int .u64 (jf jd q 0)) (.int .u64 (jf jd q 1)) (.int .u64 (jf jd q 2)) (.int .u64 (jf jd q 3))); obtain ⟨g0, g1, g2, g3⟩ := jR HRL.out; refine bodyPost_ret (v := .tuple #[.agg #[.int .u64 (jf jd q 0), .int .u64 (jf jd q 1), .int .u64 (jf jd q 2), .int .u64 (jf jd q 3)], .int .i64 0]) ?_ rfl ⟨rfl, B9.out⟩
 simp [results, Tryz.results120, go_sem, g0, g1, g2, g3]
theorem sub1_less {a b m : Nat} (ha : a < m) (hb9 : b < m) (hm : m < jk) (hs : a < b) (w : World) :
  Calls Tryz.prog 121 #[jo a, jo b, jo m] w fun e w' => e = .returned (jo ((a + m - b) % m)) ∧ Below w.heap.size w w' := by
 have ha9 := Nat.lt_trans ha hm; have hb8 := Nat.lt_trans hb9 hm; obtain ⟨x, hx⟩ := je (Qt a b); have hx9 : x < jk := by rw [hx]; exact subN_lt _ _
 obtain ⟨q, hq⟩ := je ((a + m - b) % m); have hq9 : q = a + m - b := by rw [hq]; exact Nat.mod_eq_of_lt (by omega)
 have el : zs a b = 1 := by unfold zs; rw [if_pos hs]
 have ey : JN x m = q := by rw [hx, hq9]; unfold JN Qt; unfold jk at *; omega
 obtain ⟨c, hc⟩ := je (JM x m); have C2 := jh (fun w => by have h := Zm hx9 hm w; rw [ey, ← hc] at h; unfold jo words at h; exact h); have C1 := jh (fun w => by have h := JR ha9 hb8 w; rw [el, ← hx] at h; unfold jo words at h; exact h); have HY := jh ey; rw [← hq]; clear hx hx9 hq hq9 ey el ha hb9 hm hs ha9 hb8 hc; unfold jo words
 go_enter Tryz.func121, Tryz.ntmps121
 go_wp2_with fail
 obtain ⟨w_0, e_0⟩ := je (w.alloc (.cells #[.int .u64 (jf jd a 0), .int .u64 (jf jd a 1), .int .u64 (jf jd a 2), .int .u64 (jf jd a 3)] 24)); have s_0 : w_0.heap.size = w.heap.size + 1 := by rw [e_0]; simp
 have b_0 := jc e_0; have n_0 : NumAt w_0 (w.heap.size) a := by rw [e_0]; exact NumAt.new w a _ _ rfl
 obtain ⟨w_1, e_1⟩ := je (w_0.alloc (.cells #[.int .u64 (jf jd b 0), .int .u64 (jf jd b 1), .int .u64 (jf jd b 2), .int .u64 (jf jd b 3)] 24)); have s_1 : w_1.heap.size = w.heap.size + 1 + 1 := by rw [e_1]; simp [s_0]
 have b_1 := jc e_1; have n_1 : NumAt w_1 (w.heap.size + 1) b := by rw [e_1]; exact NumAt.new w_0 b _ _ s_0.symm
 obtain ⟨w_2, e_2⟩ := je (w_1.alloc (.cells #[.int .u64 (jf jd m 0), .int .u64 (jf jd m 1), .int .u64 (jf jd m 2), .int .u64 (jf jd m 3)] 24)); have s_2 : w_2.heap.size = w.heap.size + 1 + 1 + 1 := by rw [e_2]; simp [s_1]
 have b_2 := jc e_2; have n_2 : NumAt w_2 (w.heap.size + 1 + 1) m := by rw [e_2]; exact NumAt.new w_1 m _ _ s_1.symm
 obtain ⟨wz, e_3⟩ := je (w_2.alloc (.cells #[.int .u64 0, .int .u64 0, .int .u64 0, .int .u64 0] 24)); have s_3 : wz.heap.size = w.heap.size + 1 + 1 + 1 + 1 := by rw [e_3]; simp [s_2]
 have b_3 := jc e_3; have n_3 : NumAt wz (w.heap.size + 1 + 1 + 1) 0 := by rw [e_3, ← s_2]; exact jF w_2 _
 have f_3 : FreeN wz (w.heap.size + 1 + 1 + 1) 4 := by rw [e_3]; exact FreeN.made w_2 _ _ 4 _ s_2.symm
 rw [← e_0, ← e_1, ← e_2, ← e_3]; obtain ⟨AA, h_0⟩ := je (w.heap.size); obtain ⟨BB, h_1⟩ := je (AA + 1); obtain ⟨MM, h_2⟩ := je (BB + 1); obtain ⟨RR, h_3⟩ := je (MM + 1); have hwL : w.heap.size ≤ AA := by omega
 have hRd : RR < wz.heap.size := by omega
 rw [← h_0] at n_0 n_1 n_2 n_3 f_3 ⊢; rw [← h_1] at n_1 n_2 n_3 f_3 ⊢; rw [← h_2] at n_2 n_3 f_3 ⊢; rw [← h_3] at n_3 f_3 ⊢; have l_1 : AA < BB := by omega
 have l_2 : BB < MM := by omega
 have l_3 : MM < RR := by omega
 have HAA := jh (NumAt.later b_3 (NumAt.later b_2 (NumAt.later b_1 n_0))); have HBB := jh (NumAt.later b_3 (NumAt.later b_2 n_1)); have HMM := jh (NumAt.later b_3 n_2); have HRR := jh n_3; have HF := jh f_3; have B := jh (((b_0.trans (b_1.mono (by omega))).trans (b_2.mono (by omega))).trans (b_3.mono (by omega))); have hwRR : w.heap.size ≤ RR := by omega
 have HSZ := jh (show wz.heap.size = RR + 1 by omega); clear e_0 s_0 b_0 n_0 h_0 e_1 s_1 b_1 n_1 h_1 e_2 s_2 b_2 n_2 h_2 e_3 s_3 b_3 n_3 h_3 f_3; refine (C1.out _).mono ?_; rintro _ w2 ⟨rfl, hb⟩; have HAA := jn hb HAA; have HBB := jn hb HBB; have HMM := jn hb HMM; have HRR := jn hb HRR; have HF := jh (HF.out.later hb hRd); have hRd := Nat.lt_of_lt_of_le hRd hb.size; have B := jw B hb; clear hb; have q_0 := fun o1 => (NumAt.alloc HMM.out o1) 0 (by omega)
 have q_1 := fun o1 => (NumAt.alloc HMM.out o1) 1 (by omega)
 have q_2 := fun o1 => (NumAt.alloc HMM.out o1) 2 (by omega)
 have q_3 := fun o1 => (NumAt.alloc HMM.out o1) 3 (by omega)
 go_wp2_with fail
 clear q_0 q_1 q_2 q_3; obtain ⟨w3, e3⟩ := je (w2.alloc (.cells #[.int .u64 (jf jd x 0), .int .u64 (jf jd x 1), .int .u64 (jf jd x 2), .int .u64 (jf jd x 3)] 24)); obtain ⟨XX, hX⟩ := je (w2.heap.size); have hb := jc e3; have HXX := jh (show NumAt w3 XX x by rw [e3]; exact NumAt.new w2 x _ _ hX); have HFX := jh (show FreeN w3 XX 4 by rw [e3]; exact FreeN.made w2 _ _ 4 _ hX); have nRX : RR ≠ XX := by omega
 have hXl : XX < w3.heap.size := by rw [e3, hX]; simp
 have hwX : w.heap.size ≤ XX := by omega
 rw [← e3, ← hX]; clear e3 hX; have HAA := jn hb HAA; have HBB := jn hb HBB; have HMM := jn hb HMM; have HRR := jn hb HRR; have HF := jh (HF.out.later hb hRd); have hRd := Nat.lt_of_lt_of_le hRd hb.size; have B := jw B hb; clear hb; refine (C2.out _).mono ?_; rintro _ w4 ⟨rfl, hb⟩; have HFX := jh (HFX.out.later hb hXl); have hXl := Nat.lt_of_lt_of_le hXl hb.size; have HAA := jn hb HAA; have HBB := jn hb HBB; have HMM := jn hb HMM; have HRR := jn hb HRR; have HXX := jn hb HXX; have HF := jh (HF.out.later hb hRd); have hRd := Nat.lt_of_lt_of_le hRd hb.size; have B := jw B hb; clear hb; have n4 := NumAt.set4 HXX.out q; have f4 := FreeN.set4 HF.out ⟨XX, 0, none⟩ ⟨XX, 1, none⟩ ⟨XX, 2, none⟩ ⟨XX, 3, none⟩ (.int .u64 (jf jd q 0)) (.int .u64 (jf jd q 1)) (.int .u64 (jf jd q 2)) (.int .u64 (jf jd q 3)); have hXX4 := jY HXX.out HFX.out; obtain ⟨r0, r1, r2, r3, f0, f1, f2, f3⟩ := hXX4; clear n4 f4; obtain ⟨c0, c1, c2, c3, d0, d1, d2, d3⟩ := jY HRR.out HF.out
 go_wp2_with fail
 clear c0 c1 c2 c3 d0 d1 d2 d3 r0 r1 r2 r3 f0 f1 f2 f3; obtain ⟨w5, e9⟩ := je ((((w4.setCell ⟨XX, 0, none⟩ (.int .u64 (jf jd q 0))).setCell ⟨XX, 1, none⟩ (.int .u64 (jf jd q 1))).setCell ⟨XX, 2, none⟩ (.int .u64 (jf jd q 2))).setCell ⟨XX, 3, none⟩ (.int .u64 (jf jd q 3))); have HRR := jh (show NumAt w5 RR 0 by rw [e9]; exact NumAt.other4 HRR.out nRX _ _ _ _); have B := jh (show Below w.heap.size w w5 by rw [e9]; exact jz B.out hwX _ _ _ _); rw [← e9]; have HRL := jh (NumAt.set4 HRR.out q); have B9 := jh (jz B.out hwRR (.int .u64 (jf jd q 0)) (.int .u64 (jf jd q 1)) (.int .u64 (jf jd q 2)) (.int .u64 (jf jd q 3))); obtain ⟨g0, g1, g2, g3⟩ := jR HRL.out; refine bodyPost_ret (v := .agg #[.int .u64 (jf jd q 0), .int .u64 (jf jd q 1), .int .u64 (jf jd q 2), .int .u64 (jf jd q 3)]) ?_ rfl ⟨rfl, B9.out⟩
 simp [results, Tryz.results121, go_sem, g0, g1, g2, g3]
theorem sub1_ge {a b m : Nat} (ha : a < m) (hb9 : b < m) (hm : m < jk) (hs : b ≤ a) (w : World) :
  Calls Tryz.prog 121 #[jo a, jo b, jo m] w fun e w' => e = .returned (jo ((a + m - b) % m)) ∧ Below w.heap.size w w' := by
 have ha9 := Nat.lt_trans ha hm; have hb8 := Nat.lt_trans hb9 hm; obtain ⟨x, hx⟩ := je (Qt a b); have hx9 : x < jk := by rw [hx]; exact subN_lt _ _
 obtain ⟨q, hq⟩ := je ((a + m - b) % m); have hq9 : q = a - b := by rw [hq, show a + m - b = a - b + m by omega, Nat.add_mod_right]; exact Nat.mod_eq_of_lt (by omega)
 have el : zs a b = 0 := by unfold zs; rw [if_neg (by omega)]
 have ey : x = q := by rw [hx, hq9]; unfold Qt; unfold jk at *; omega
 have C1 := jh (fun w => by have h := JR ha9 hb8 w; rw [el, ← hx] at h; unfold jo words at h; exact h); have HY := jh ey; rw [← hq]; clear hx hx9 hq hq9 ey el ha hb9 hm hs ha9 hb8; unfold jo words
 go_enter Tryz.func121, Tryz.ntmps121
 go_wp2_with fail
 obtain ⟨w_0, e_0⟩ := je (w.alloc (.cells #[.int .u64 (jf jd a 0), .int .u64 (jf jd a 1), .int .u64 (jf jd a 2), .int .u64 (jf jd a 3)] 24)); have s_0 : w_0.heap.size = w.heap.size + 1 := by rw [e_0]; simp
 have b_0 := jc e_0; have n_0 : NumAt w_0 (w.heap.size) a := by rw [e_0]; exact NumAt.new w a _ _ rfl
 obtain ⟨w_1, e_1⟩ := je (w_0.alloc (.cells #[.int .u64 (jf jd b 0), .int .u64 (jf jd b 1), .int .u64 (jf jd b 2), .int .u64 (jf jd b 3)] 24)); have s_1 : w_1.heap.size = w.heap.size + 1 + 1 := by rw [e_1]; simp [s_0]
 have b_1 := jc e_1; have n_1 : NumAt w_1 (w.heap.size + 1) b := by rw [e_1]; exact NumAt.new w_0 b _ _ s_0.symm
 obtain ⟨w_2, e_2⟩ := je (w_1.alloc (.cells #[.int .u64 (jf jd m 0), .int .u64 (jf jd m 1), .int .u64 (jf jd m 2), .int .u64 (jf jd m 3)] 24)); have s_2 : w_2.heap.size = w.heap.size + 1 + 1 + 1 := by rw [e_2]; simp [s_1]
 have b_2 := jc e_2; have n_2 : NumAt w_2 (w.heap.size + 1 + 1) m := by rw [e_2]; exact NumAt.new w_1 m _ _ s_1.symm
 obtain ⟨wz, e_3⟩ := je (w_2.alloc (.cells #[.int .u64 0, .int .u64 0, .int .u64 0, .int .u64 0] 24)); have s_3 : wz.heap.size = w.heap.size + 1 + 1 + 1 + 1 := by rw [e_3]; simp [s_2]
 have b_3 := jc e_3; have n_3 : NumAt wz (w.heap.size + 1 + 1 + 1) 0 := by rw [e_3, ← s_2]; exact jF w_2 _
 have f_3 : FreeN wz (w.heap.size + 1 + 1 + 1) 4 := by rw [e_3]; exact FreeN.made w_2 _ _ 4 _ s_2.symm
 rw [← e_0, ← e_1, ← e_2, ← e_3]; obtain ⟨AA, h_0⟩ := je (w.heap.size); obtain ⟨BB, h_1⟩ := je (AA + 1); obtain ⟨MM, h_2⟩ := je (BB + 1); obtain ⟨RR, h_3⟩ := je (MM + 1); have hwL : w.heap.size ≤ AA := by omega
 have hRd : RR < wz.heap.size := by omega
 rw [← h_0] at n_0 n_1 n_2 n_3 f_3 ⊢; rw [← h_1] at n_1 n_2 n_3 f_3 ⊢; rw [← h_2] at n_2 n_3 f_3 ⊢; rw [← h_3] at n_3 f_3 ⊢; have l_1 : AA < BB := by omega
 have l_2 : BB < MM := by omega
 have l_3 : MM < RR := by omega
 have HAA := jh (NumAt.later b_3 (NumAt.later b_2 (NumAt.later b_1 n_0))); have HBB := jh (NumAt.later b_3 (NumAt.later b_2 n_1)); have HMM := jh (NumAt.later b_3 n_2); have HRR := jh n_3; have HF := jh f_3; have B := jh (((b_0.trans (b_1.mono (by omega))).trans (b_2.mono (by omega))).trans (b_3.mono (by omega))); have hwRR : w.heap.size ≤ RR := by omega
 have HSZ := jh (show wz.heap.size = RR + 1 by omega); clear e_0 s_0 b_0 n_0 h_0 e_1 s_1 b_1 n_1 h_1 e_2 s_2 b_2 n_2 h_2 e_3 s_3 b_3 n_3 h_3 f_3; refine (C1.out _).mono ?_; rintro _ w2 ⟨rfl, hb⟩; have HAA := jn hb HAA; have HBB := jn hb HBB; have HMM := jn hb HMM; have HRR := jn hb HRR; have HF := jh (HF.out.later hb hRd); have hRd := Nat.lt_of_lt_of_le hRd hb.size; have B := jw B hb; clear hb; obtain ⟨c0, c1, c2, c3, f0, f1, f2, f3⟩ := jY HRR.out HF.out
 go_wp2_with fail
 rw [HY.out]; have HRL := jh (NumAt.set4 HRR.out q); have B9 := jh (jz B.out hwRR (.int .u64 (jf jd q 0)) (.int .u64 (jf jd q 1)) (.int .u64 (jf jd q 2)) (.int .u64 (jf jd q 3))); have hba : ∀ W : World, Below W.heap.size W (W.alloc (.cells #[.int .u64 (jf jd q 0), .int .u64 (jf jd q 1), .int .u64 (jf jd q 2), .int .u64 (jf jd q 3)] 24)) := fun W => ja
 have B9 := jh (jm B9.out (hba _)); have HRL := jh (NumAt.later (hba _) HRL.out); clear hba; obtain ⟨g0, g1, g2, g3⟩ := jR HRL.out; refine bodyPost_ret (v := .agg #[.int .u64 (jf jd q 0), .int .u64 (jf jd q 1), .int .u64 (jf jd q 2), .int .u64 (jf jd q 3)]) ?_ rfl ⟨rfl, B9.out⟩
 simp [results, Tryz.results121, go_sem, g0, g1, g2, g3]
theorem sub1_any {a b m : Nat} (ha : a < m) (hb : b < m) (hm : m < jk) (w : World) :
  Calls Tryz.prog 121 #[jo a, jo b, jo m] w fun e w' => e = .returned (jo ((a + m - b) % m)) ∧ Below w.heap.size w w' := by
 rcases Nat.lt_or_ge a b with h | h
 ·exact sub1_less ha hb hm h w
 ·exact sub1_ge ha hb hm h w
theorem Sub_any {a n m : Nat} (ha : a < m) (h1 : 1 < m) (hn : n < m) (hm : m < jk) (w : World) :
  Calls Tryz.prog 91 #[jo a, jo n, jo m] w fun e w' => e = .returned (.tuple #[jo ((a + m - n) % m), .int .i64 0]) ∧ Below w.heap.size w w' := by
 obtain ⟨q, hq⟩ := je ((a + m - n) % m); rw [← hq]; have HQ := jh hq; have HA9 := jh ha; have HM1 := jh h1; have HN9 := jh hn; have HM9 := jh hm; clear hq ha h1 hn hm; unfold jo words
 go_enter Tryz.func91, Tryz.ntmps91
 go_wp2_with fail
 obtain ⟨w_0, e_0⟩ := je (w.alloc (.cells #[.int .u64 (jf jd a 0), .int .u64 (jf jd a 1), .int .u64 (jf jd a 2), .int .u64 (jf jd a 3)] 24)); have s_0 : w_0.heap.size = w.heap.size + 1 := by rw [e_0]; simp
 have b_0 := jc e_0; have n_0 : NumAt w_0 (w.heap.size) a := by rw [e_0]; exact NumAt.new w a _ _ rfl
 obtain ⟨w_1, e_1⟩ := je (w_0.alloc (.cells #[.int .u64 (jf jd n 0), .int .u64 (jf jd n 1), .int .u64 (jf jd n 2), .int .u64 (jf jd n 3)] 24)); have s_1 : w_1.heap.size = w.heap.size + 1 + 1 := by rw [e_1]; simp [s_0]
 have b_1 := jc e_1; have n_1 : NumAt w_1 (w.heap.size + 1) n := by rw [e_1]; exact NumAt.new w_0 n _ _ s_0.symm
 obtain ⟨w_2, e_2⟩ := je (w_1.alloc (.cells #[.int .u64 (jf jd m 0), .int .u64 (jf jd m 1), .int .u64 (jf jd m 2), .int .u64 (jf jd m 3)] 24)); have s_2 : w_2.heap.size = w.heap.size + 1 + 1 + 1 := by rw [e_2]; simp [s_1]
 have b_2 := jc e_2; have n_2 : NumAt w_2 (w.heap.size + 1 + 1) m := by rw [e_2]; exact NumAt.new w_1 m _ _ s_1.symm
 obtain ⟨wz, e_3⟩ := je (w_2.alloc (.cells #[.int .u64 0, .int .u64 0, .int .u64 0, .int .u64 0] 24)); have s_3 : wz.heap.size = w.heap.size + 1 + 1 + 1 + 1 := by rw [e_3]; simp [s_2]
 have b_3 := jc e_3; have n_3 : NumAt wz (w.heap.size + 1 + 1 + 1) 0 := by rw [e_3, ← s_2]; exact jF w_2 _
 have f_3 : FreeN wz (w.heap.size + 1 + 1 + 1) 4 := by rw [e_3]; exact FreeN.made w_2 _ _ 4 _ s_2.symm
 rw [← e_0, ← e_1, ← e_2, ← e_3]; obtain ⟨AA, h_0⟩ := je (w.heap.size); obtain ⟨NN, h_1⟩ := je (AA + 1); obtain ⟨MM, h_2⟩ := je (NN + 1); obtain ⟨RR, h_3⟩ := je (MM + 1); have hwL : w.heap.size ≤ AA := by omega
 have hRd : RR < wz.heap.size := by omega
 rw [← h_0] at n_0 n_1 n_2 n_3 f_3 ⊢; rw [← h_1] at n_1 n_2 n_3 f_3 ⊢; rw [← h_2] at n_2 n_3 f_3 ⊢; rw [← h_3] at n_3 f_3 ⊢; have l_1 : AA < NN := by omega
 have l_2 : NN < MM := by omega
 have l_3 : MM < RR := by omega
 have HAA := jh (NumAt.later b_3 (NumAt.later b_2 (NumAt.later b_1 n_0))); have HNN := jh (NumAt.later b_3 (NumAt.later b_2 n_1)); have HMM := jh (NumAt.later b_3 n_2); have HRR := jh n_3; have HF := jh f_3; have B := jh (((b_0.trans (b_1.mono (by omega))).trans (b_2.mono (by omega))).trans (b_3.mono (by omega))); have hwRR : w.heap.size ≤ RR := by omega
 have HSZ := jh (show wz.heap.size = RR + 1 by omega); clear e_0 s_0 b_0 n_0 h_0 e_1 s_1 b_1 n_1 h_1 e_2 s_2 b_2 n_2 h_2 e_3 s_3 b_3 n_3 h_3 f_3; have CO := of_may (q := q) (f := 121) (caps := #[]) HA9.out HN9.out HM1.out HM9.out wz (by intro args W; simp [go_sem]) (fun W hb => by have h := sub1_any HA9.out HN9.out HM9.out W; rw [← HQ.out] at h; exact h); unfold jo words at CO; refine CO.mono ?_; rintro _ w3 ⟨rfl, hb⟩; clear CO; have HAA := jn hb HAA; have HNN := jn hb HNN; have HMM := jn hb HMM; have HRR := jn hb HRR; have HF := jh (HF.out.later hb hRd); have hRd := Nat.lt_of_lt_of_le hRd hb.size; have B := jw B hb; clear hb; obtain ⟨c0, c1, c2, c3, f0, f1, f2, f3⟩ := jY HRR.out HF.out
 go_wp2_with fail
 have HRL := jh (NumAt.set4 HRR.out q); have B9 := jh (jz B.out hwRR (.int .u64 (jf jd q 0)) (.int .u64 (jf jd q 1)) (.int .u64 (jf jd q 2)) (.int .u64 (jf jd q 3))); obtain ⟨g0, g1, g2, g3⟩ := jR HRL.out; refine bodyPost_ret (v := .tuple #[.agg #[.int .u64 (jf jd q 0), .int .u64 (jf jd q 1), .int .u64 (jf jd q 2), .int .u64 (jf jd q 3)], .int .i64 0]) ?_ rfl ⟨rfl, B9.out⟩
 simp [results, Tryz.results91, go_sem, g0, g1, g2, g3]
def NumO (w : World) (b o x : Nat) : Prop := ∀ j, j < 4 → w.cell? ⟨b, o + j, none⟩ = some (.int .u64 (jf jd x j))
def GrpAt (w : World) (b gp gq gg gh : Nat) : Prop := NumO w b 0 gp ∧ NumO w b 4 gq ∧ NumO w b 8 gg ∧ NumO w b 12 gh
theorem NumO.lt {w : World} {b o x : Nat} (h : NumO w b o x) : b < w.heap.size := World.block_lt_of_cell? (a := ⟨b, o + 0, none⟩) _ (h 0 (by omega))
theorem NumO.later {w w' : World} {b o x : Nat} (hb : Below w.heap.size w w') (h : NumO w b o x) : NumO w' b o x := fun j hj => (hb.cell (p := ⟨b, o + j, none⟩) h.lt).trans (h j hj)
theorem GrpAt.later {w w' : World} {b gp gq gg gh : Nat} (hb : Below w.heap.size w w') (h : GrpAt w b gp gq gg gh) : GrpAt w' b gp gq gg gh := ⟨h.1.later hb, h.2.1.later hb, h.2.2.1.later hb, h.2.2.2.later hb⟩
theorem GrpAt.lt {w : World} {b gp gq gg gh : Nat} (h : GrpAt w b gp gq gg gh) : b < w.heap.size := h.1.lt
theorem GrpAt.new (w : World) (gp gq gg gh : Nat) (t : TypeId) : GrpAt (w.alloc (.cells #[.int .u64 (jf jd gp 0), .int .u64 (jf jd gp 1), .int .u64 (jf jd gp 2), .int .u64 (jf jd gp 3), .int .u64 (jf jd gq 0), .int .u64 (jf jd gq 1), .int .u64 (jf jd gq 2), .int .u64 (jf jd gq 3), .int .u64 (jf jd gg 0), .int .u64 (jf jd gg 1), .int .u64 (jf jd gg 2), .int .u64 (jf jd gg 3), .int .u64 (jf jd gh 0), .int .u64 (jf jd gh 1), .int .u64 (jf jd gh 2), .int .u64 (jf jd gh 3)] t)) w.heap.size gp gq gg gh := by
 refine ⟨?_, ?_, ?_, ?_⟩ <;> (intro j hj; rcases (show j = 0 ∨ j = 1 ∨ j = 2 ∨ j = 3 by omega) with rfl | rfl | rfl | rfl <;> simp)
theorem may_yes {gp gq gg gh a : Nat} (h1 : 1 < gp) (ha0 : a ≠ 0) (ha : a < gp) (hm : gp < jk) (w : World) :
  Calls Tryz.prog 38 #[.agg #[.int .u64 (jf jd gp 0), .int .u64 (jf jd gp 1), .int .u64 (jf jd gp 2), .int .u64 (jf jd gp 3), .int .u64 (jf jd gq 0), .int .u64 (jf jd gq 1), .int .u64 (jf jd gq 2), .int .u64 (jf jd gq 3), .int .u64 (jf jd gg 0), .int .u64 (jf jd gg 1), .int .u64 (jf jd gg 2), .int .u64 (jf jd gg 3), .int .u64 (jf jd gh 0), .int .u64 (jf jd gh 1), .int .u64 (jf jd gh 2), .int .u64 (jf jd gh 3)], jo a] w fun e w' => e = .returned (.bool true) ∧ Below w.heap.size w w' := by
 have ha9 := Nat.lt_trans ha hm; have hne := ne_num a 0 (Nat.lt_trans ha hm) qU; rw [decide_eq_false ha0] at hne; have C1 := jh (fun w => by have h := zx 1 1 rfl (by decide) w; unfold jo words at h; exact h); have C0 := jh (fun w => by have h := zx 0 0 rfl (by decide) w; unfold jo words at h; exact h); have K1 := jh (fun w => by have h := qF hm (show 1 < jk by decide) w; rw [zQ h1] at h; unfold jo words at h; exact h); have K2 := jh (fun w => by have h := qF ha9 hm w; rw [QD ha] at h; unfold jo words at h; exact h); clear ha9 h1 ha0 ha hm; unfold jo words
 go_enter Tryz.func38, Tryz.ntmps38
 go_wp2_with fail
 obtain ⟨w0, e0⟩ := je (w.alloc (.cells #[.int .u64 (jf jd gp 0), .int .u64 (jf jd gp 1), .int .u64 (jf jd gp 2), .int .u64 (jf jd gp 3), .int .u64 (jf jd gq 0), .int .u64 (jf jd gq 1), .int .u64 (jf jd gq 2), .int .u64 (jf jd gq 3), .int .u64 (jf jd gg 0), .int .u64 (jf jd gg 1), .int .u64 (jf jd gg 2), .int .u64 (jf jd gg 3), .int .u64 (jf jd gh 0), .int .u64 (jf jd gh 1), .int .u64 (jf jd gh 2), .int .u64 (jf jd gh 3)] 26)); obtain ⟨GG, hGG⟩ := je (w.heap.size); have b0 := jc e0; have s0 : w0.heap.size = w.heap.size + 1 := by rw [e0]; simp
 have g0 : GrpAt w0 GG gp gq gg gh := by rw [e0, hGG]; exact GrpAt.new _ _ _ _ _ _
 rw [← e0, ← s0, ← hGG]; have HB0 := jh b0; clear e0 hGG b0 s0; obtain ⟨wz, e_0⟩ := je (w0.alloc (.cells #[.int .u64 (jf jd a 0), .int .u64 (jf jd a 1), .int .u64 (jf jd a 2), .int .u64 (jf jd a 3)] 24)); have s_0 : wz.heap.size = w0.heap.size + 1 := by rw [e_0]; simp
 have b_0 := jc e_0; have n_0 : NumAt wz (w0.heap.size) a := by rw [e_0]; exact NumAt.new w0 a _ _ rfl
 rw [← e_0]; obtain ⟨AA, h_0⟩ := je (w0.heap.size); have hwL : w0.heap.size ≤ AA := by omega
 have hRd : AA < wz.heap.size := by omega
 rw [← h_0] at n_0 ⊢; have HAA := jh n_0; have B := jh b_0; have hwAA : w0.heap.size ≤ AA := by omega
 have HSZ := jh (show wz.heap.size = AA + 1 by omega); clear e_0 s_0 b_0 n_0 h_0; have G0 := jh (GrpAt.later B.out g0); clear g0; refine jx 17 (fun _ => none) (by kernel_rfl) (by kernel_rfl) (fun _ _ _ _ _ h => h) (fun F hn9 hcl hbl => ?_); have r_AA_0 := jr hbl HAA 0 (by omega); have r_AA_1 := jr hbl HAA 1 (by omega); have r_AA_2 := jr hbl HAA 2 (by omega); have r_AA_3 := jr hbl HAA 3 (by omega); have r_G_0 := fun X9 : Wd F => (GrpAt.later (hbl X9.world X9.fact) G0.out).1 0 (by omega)
 have r_G_1 := fun X9 : Wd F => (GrpAt.later (hbl X9.world X9.fact) G0.out).1 1 (by omega)
 have r_G_2 := fun X9 : Wd F => (GrpAt.later (hbl X9.world X9.fact) G0.out).1 2 (by omega)
 have r_G_3 := fun X9 : Wd F => (GrpAt.later (hbl X9.world X9.fact) G0.out).1 3 (by omega)
 simp only [Nat.reduceAdd] at r_G_0 r_G_1 r_G_2 r_G_3; have HCL := jh hcl; clear hcl hbl; refine qj 17 0 _ _ (fun _ _ _ => rfl) (by decide) ?_; simp only [List.take_succ_cons, List.take_zero, List.drop_succ_cons, List.drop_zero, Nat.reduceAdd]
 repeat (go_big_quiet_step ((first | (go_at_call 40; with_reducible exact jv HCL.out (C1.out _)) | (go_at_call 40; with_reducible exact jv HCL.out (C0.out _)) | (go_at_call 24; with_reducible exact jv HCL.out (K1.out _)) | (go_at_call 24; with_reducible exact jv HCL.out (K2.out _)))))
 refine wpQuiet_nil ?_; refine qn ?_; intro bs w2 hb _ _; clear r_AA_0 r_AA_1 r_AA_2 r_AA_3; have HAA := jn hb HAA; have hRd := Nat.lt_of_lt_of_le hRd hb.size; have B := jw B hb; clear hb; simp only [zq]; clear r_G_0 r_G_1 r_G_2 r_G_3
 go_wp2_with fail
 refine bodyPost_ret (v := .bool true) ?_ rfl ⟨rfl, jm HB0.out B.out⟩
 simp [results, Tryz.results38, go_sem]
theorem may_low0 {gp gq gg gh a : Nat} (h : gp < 1) (ha9 : a < jk) (hm : gp < jk) (w : World) :
  Calls Tryz.prog 38 #[.agg #[.int .u64 (jf jd gp 0), .int .u64 (jf jd gp 1), .int .u64 (jf jd gp 2), .int .u64 (jf jd gp 3), .int .u64 (jf jd gq 0), .int .u64 (jf jd gq 1), .int .u64 (jf jd gq 2), .int .u64 (jf jd gq 3), .int .u64 (jf jd gg 0), .int .u64 (jf jd gg 1), .int .u64 (jf jd gg 2), .int .u64 (jf jd gg 3), .int .u64 (jf jd gh 0), .int .u64 (jf jd gh 1), .int .u64 (jf jd gh 2), .int .u64 (jf jd gh 3)], jo a] w fun e w' => e = .returned (.bool false) ∧ Below w.heap.size w w' := by
 have hne := ne_num a 0 ha9 qU; have C1 := jh (fun w => by have h := zx 1 1 rfl (by decide) w; unfold jo words at h; exact h); have C0 := jh (fun w => by have h := zx 0 0 rfl (by decide) w; unfold jo words at h; exact h); have e1 : Je gp 1 = -1 := by exact QD h
 have K1 := jh (fun w => by have h := qF hm (show 1 < jk by decide) w; rw [e1] at h; unfold jo words at h; exact h); obtain ⟨c2, e2⟩ : ∃ c, Je a gp = c := ⟨_, rfl⟩; have K2 := jh (fun w => by have h := qF ha9 hm w; rw [e2] at h; unfold jo words at h; exact h); clear e1 e2 ha9 hm h; unfold jo words
 go_enter Tryz.func38, Tryz.ntmps38
 go_wp2_with fail
 obtain ⟨w0, e0⟩ := je (w.alloc (.cells #[.int .u64 (jf jd gp 0), .int .u64 (jf jd gp 1), .int .u64 (jf jd gp 2), .int .u64 (jf jd gp 3), .int .u64 (jf jd gq 0), .int .u64 (jf jd gq 1), .int .u64 (jf jd gq 2), .int .u64 (jf jd gq 3), .int .u64 (jf jd gg 0), .int .u64 (jf jd gg 1), .int .u64 (jf jd gg 2), .int .u64 (jf jd gg 3), .int .u64 (jf jd gh 0), .int .u64 (jf jd gh 1), .int .u64 (jf jd gh 2), .int .u64 (jf jd gh 3)] 26)); obtain ⟨GG, hGG⟩ := je (w.heap.size); have b0 := jc e0; have s0 : w0.heap.size = w.heap.size + 1 := by rw [e0]; simp
 have g0 : GrpAt w0 GG gp gq gg gh := by rw [e0, hGG]; exact GrpAt.new _ _ _ _ _ _
 rw [← e0, ← s0, ← hGG]; have HB0 := jh b0; clear e0 hGG b0 s0; obtain ⟨wz, e_0⟩ := je (w0.alloc (.cells #[.int .u64 (jf jd a 0), .int .u64 (jf jd a 1), .int .u64 (jf jd a 2), .int .u64 (jf jd a 3)] 24)); have s_0 : wz.heap.size = w0.heap.size + 1 := by rw [e_0]; simp
 have b_0 := jc e_0; have n_0 : NumAt wz (w0.heap.size) a := by rw [e_0]; exact NumAt.new w0 a _ _ rfl
 rw [← e_0]; obtain ⟨AA, h_0⟩ := je (w0.heap.size); have hwL : w0.heap.size ≤ AA := by omega
 have hRd : AA < wz.heap.size := by omega
 rw [← h_0] at n_0 ⊢; have HAA := jh n_0; have B := jh b_0; have hwAA : w0.heap.size ≤ AA := by omega
 have HSZ := jh (show wz.heap.size = AA + 1 by omega); clear e_0 s_0 b_0 n_0 h_0; have G0 := jh (GrpAt.later B.out g0); clear g0; refine jx 17 (fun _ => none) (by kernel_rfl) (by kernel_rfl) (fun _ _ _ _ _ h => h) (fun F hn9 hcl hbl => ?_); have r_AA_0 := jr hbl HAA 0 (by omega); have r_AA_1 := jr hbl HAA 1 (by omega); have r_AA_2 := jr hbl HAA 2 (by omega); have r_AA_3 := jr hbl HAA 3 (by omega); have r_G_0 := fun X9 : Wd F => (GrpAt.later (hbl X9.world X9.fact) G0.out).1 0 (by omega)
 have r_G_1 := fun X9 : Wd F => (GrpAt.later (hbl X9.world X9.fact) G0.out).1 1 (by omega)
 have r_G_2 := fun X9 : Wd F => (GrpAt.later (hbl X9.world X9.fact) G0.out).1 2 (by omega)
 have r_G_3 := fun X9 : Wd F => (GrpAt.later (hbl X9.world X9.fact) G0.out).1 3 (by omega)
 simp only [Nat.reduceAdd] at r_G_0 r_G_1 r_G_2 r_G_3; have HCL := jh hcl; clear hcl hbl; refine qj 17 0 _ _ (fun _ _ _ => rfl) (by decide) ?_; simp only [List.take_succ_cons, List.take_zero, List.drop_succ_cons, List.drop_zero, Nat.reduceAdd]
 repeat (go_big_quiet_step ((first | (go_at_call 40; with_reducible exact jv HCL.out (C1.out _)) | (go_at_call 40; with_reducible exact jv HCL.out (C0.out _)) | (go_at_call 24; with_reducible exact jv HCL.out (K1.out _)) | (go_at_call 24; with_reducible exact jv HCL.out (K2.out _)))))
 refine wpQuiet_nil ?_; refine qn ?_; intro bs w2 hb _ _; clear r_AA_0 r_AA_1 r_AA_2 r_AA_3; have HAA := jn hb HAA; have hRd := Nat.lt_of_lt_of_le hRd hb.size; have B := jw B hb; clear hb; simp only [zq]; clear r_G_0 r_G_1 r_G_2 r_G_3
 go_wp2_with fail
 refine bodyPost_ret (v := .bool false) ?_ rfl ⟨rfl, jm HB0.out B.out⟩
 simp [results, Tryz.results38, go_sem]
theorem may_low1 {gp gq gg gh a : Nat} (h : gp = 1) (ha9 : a < jk) (hm : gp < jk) (w : World) :
  Calls Tryz.prog 38 #[.agg #[.int .u64 (jf jd gp 0), .int .u64 (jf jd gp 1), .int .u64 (jf jd gp 2), .int .u64 (jf jd gp 3), .int .u64 (jf jd gq 0), .int .u64 (jf jd gq 1), .int .u64 (jf jd gq 2), .int .u64 (jf jd gq 3), .int .u64 (jf jd gg 0), .int .u64 (jf jd gg 1), .int .u64 (jf jd gg 2), .int .u64 (jf jd gg 3), .int .u64 (jf jd gh 0), .int .u64 (jf jd gh 1), .int .u64 (jf jd gh 2), .int .u64 (jf jd gh 3)], jo a] w fun e w' => e = .returned (.bool false) ∧ Below w.heap.size w w' := by
 have hne := ne_num a 0 ha9 qU; have C1 := jh (fun w => by have h := zx 1 1 rfl (by decide) w; unfold jo words at h; exact h); have C0 := jh (fun w => by have h := zx 0 0 rfl (by decide) w; unfold jo words at h; exact h); have e1 : Je gp 1 = 0 := by rw [h]; rfl
 have K1 := jh (fun w => by have h := qF hm (show 1 < jk by decide) w; rw [e1] at h; unfold jo words at h; exact h); obtain ⟨c2, e2⟩ : ∃ c, Je a gp = c := ⟨_, rfl⟩; have K2 := jh (fun w => by have h := qF ha9 hm w; rw [e2] at h; unfold jo words at h; exact h); clear e1 e2 ha9 hm h; unfold jo words
 go_enter Tryz.func38, Tryz.ntmps38
 go_wp2_with fail
 obtain ⟨w0, e0⟩ := je (w.alloc (.cells #[.int .u64 (jf jd gp 0), .int .u64 (jf jd gp 1), .int .u64 (jf jd gp 2), .int .u64 (jf jd gp 3), .int .u64 (jf jd gq 0), .int .u64 (jf jd gq 1), .int .u64 (jf jd gq 2), .int .u64 (jf jd gq 3), .int .u64 (jf jd gg 0), .int .u64 (jf jd gg 1), .int .u64 (jf jd gg 2), .int .u64 (jf jd gg 3), .int .u64 (jf jd gh 0), .int .u64 (jf jd gh 1), .int .u64 (jf jd gh 2), .int .u64 (jf jd gh 3)] 26)); obtain ⟨GG, hGG⟩ := je (w.heap.size); have b0 := jc e0; have s0 : w0.heap.size = w.heap.size + 1 := by rw [e0]; simp
 have g0 : GrpAt w0 GG gp gq gg gh := by rw [e0, hGG]; exact GrpAt.new _ _ _ _ _ _
 rw [← e0, ← s0, ← hGG]; have HB0 := jh b0; clear e0 hGG b0 s0; obtain ⟨wz, e_0⟩ := je (w0.alloc (.cells #[.int .u64 (jf jd a 0), .int .u64 (jf jd a 1), .int .u64 (jf jd a 2), .int .u64 (jf jd a 3)] 24)); have s_0 : wz.heap.size = w0.heap.size + 1 := by rw [e_0]; simp
 have b_0 := jc e_0; have n_0 : NumAt wz (w0.heap.size) a := by rw [e_0]; exact NumAt.new w0 a _ _ rfl
 rw [← e_0]; obtain ⟨AA, h_0⟩ := je (w0.heap.size); have hwL : w0.heap.size ≤ AA := by omega
 have hRd : AA < wz.heap.size := by omega
 rw [← h_0] at n_0 ⊢; have HAA := jh n_0; have B := jh b_0; have hwAA : w0.heap.size ≤ AA := by omega
 have HSZ := jh (show wz.heap.size = AA + 1 by omega); clear e_0 s_0 b_0 n_0 h_0; have G0 := jh (GrpAt.later B.out g0); clear g0; refine jx 17 (fun _ => none) (by kernel_rfl) (by kernel_rfl) (fun _ _ _ _ _ h => h) (fun F hn9 hcl hbl => ?_); have r_AA_0 := jr hbl HAA 0 (by omega); have r_AA_1 := jr hbl HAA 1 (by omega); have r_AA_2 := jr hbl HAA 2 (by omega); have r_AA_3 := jr hbl HAA 3 (by omega); have r_G_0 := fun X9 : Wd F => (GrpAt.later (hbl X9.world X9.fact) G0.out).1 0 (by omega)
 have r_G_1 := fun X9 : Wd F => (GrpAt.later (hbl X9.world X9.fact) G0.out).1 1 (by omega)
 have r_G_2 := fun X9 : Wd F => (GrpAt.later (hbl X9.world X9.fact) G0.out).1 2 (by omega)
 have r_G_3 := fun X9 : Wd F => (GrpAt.later (hbl X9.world X9.fact) G0.out).1 3 (by omega)
 simp only [Nat.reduceAdd] at r_G_0 r_G_1 r_G_2 r_G_3; have HCL := jh hcl; clear hcl hbl; refine qj 17 0 _ _ (fun _ _ _ => rfl) (by decide) ?_; simp only [List.take_succ_cons, List.take_zero, List.drop_succ_cons, List.drop_zero, Nat.reduceAdd]
 repeat (go_big_quiet_step ((first | (go_at_call 40; with_reducible exact jv HCL.out (C1.out _)) | (go_at_call 40; with_reducible exact jv HCL.out (C0.out _)) | (go_at_call 24; with_reducible exact jv HCL.out (K1.out _)) | (go_at_call 24; with_reducible exact jv HCL.out (K2.out _)))))
 refine wpQuiet_nil ?_; refine qn ?_; intro bs w2 hb _ _; clear r_AA_0 r_AA_1 r_AA_2 r_AA_3; have HAA := jn hb HAA; have hRd := Nat.lt_of_lt_of_le hRd hb.size; have B := jw B hb; clear hb; simp only [zq]; clear r_G_0 r_G_1 r_G_2 r_G_3
 go_wp2_with fail
 refine bodyPost_ret (v := .bool false) ?_ rfl ⟨rfl, jm HB0.out B.out⟩
 simp [results, Tryz.results38, go_sem]
theorem may_zero {gp gq gg gh a : Nat} (h1 : 1 < gp) (h : a = 0) (ha9 : a < jk) (hm : gp < jk) (w : World) :
  Calls Tryz.prog 38 #[.agg #[.int .u64 (jf jd gp 0), .int .u64 (jf jd gp 1), .int .u64 (jf jd gp 2), .int .u64 (jf jd gp 3), .int .u64 (jf jd gq 0), .int .u64 (jf jd gq 1), .int .u64 (jf jd gq 2), .int .u64 (jf jd gq 3), .int .u64 (jf jd gg 0), .int .u64 (jf jd gg 1), .int .u64 (jf jd gg 2), .int .u64 (jf jd gg 3), .int .u64 (jf jd gh 0), .int .u64 (jf jd gh 1), .int .u64 (jf jd gh 2), .int .u64 (jf jd gh 3)], jo a] w fun e w' => e = .returned (.bool false) ∧ Below w.heap.size w w' := by
 have hne := ne_num a 0 ha9 qU; rw [decide_eq_true h] at hne; have C1 := jh (fun w => by have h := zx 1 1 rfl (by decide) w; unfold jo words at h; exact h); have C0 := jh (fun w => by have h := zx 0 0 rfl (by decide) w; unfold jo words at h; exact h); have e1 : Je gp 1 = 1 := by exact zQ h1
 have K1 := jh (fun w => by have h := qF hm (show 1 < jk by decide) w; rw [e1] at h; unfold jo words at h; exact h); obtain ⟨c2, e2⟩ : ∃ c, Je a gp = c := ⟨_, rfl⟩; have K2 := jh (fun w => by have h := qF ha9 hm w; rw [e2] at h; unfold jo words at h; exact h); clear e1 e2 ha9 hm h; unfold jo words
 go_enter Tryz.func38, Tryz.ntmps38
 go_wp2_with fail
 obtain ⟨w0, e0⟩ := je (w.alloc (.cells #[.int .u64 (jf jd gp 0), .int .u64 (jf jd gp 1), .int .u64 (jf jd gp 2), .int .u64 (jf jd gp 3), .int .u64 (jf jd gq 0), .int .u64 (jf jd gq 1), .int .u64 (jf jd gq 2), .int .u64 (jf jd gq 3), .int .u64 (jf jd gg 0), .int .u64 (jf jd gg 1), .int .u64 (jf jd gg 2), .int .u64 (jf jd gg 3), .int .u64 (jf jd gh 0), .int .u64 (jf jd gh 1), .int .u64 (jf jd gh 2), .int .u64 (jf jd gh 3)] 26)); obtain ⟨GG, hGG⟩ := je (w.heap.size); have b0 := jc e0; have s0 : w0.heap.size = w.heap.size + 1 := by rw [e0]; simp
 have g0 : GrpAt w0 GG gp gq gg gh := by rw [e0, hGG]; exact GrpAt.new _ _ _ _ _ _
 rw [← e0, ← s0, ← hGG]; have HB0 := jh b0; clear e0 hGG b0 s0; obtain ⟨wz, e_0⟩ := je (w0.alloc (.cells #[.int .u64 (jf jd a 0), .int .u64 (jf jd a 1), .int .u64 (jf jd a 2), .int .u64 (jf jd a 3)] 24)); have s_0 : wz.heap.size = w0.heap.size + 1 := by rw [e_0]; simp
 have b_0 := jc e_0; have n_0 : NumAt wz (w0.heap.size) a := by rw [e_0]; exact NumAt.new w0 a _ _ rfl
 rw [← e_0]; obtain ⟨AA, h_0⟩ := je (w0.heap.size); have hwL : w0.heap.size ≤ AA := by omega
 have hRd : AA < wz.heap.size := by omega
 rw [← h_0] at n_0 ⊢; have HAA := jh n_0; have B := jh b_0; have hwAA : w0.heap.size ≤ AA := by omega
 have HSZ := jh (show wz.heap.size = AA + 1 by omega); clear e_0 s_0 b_0 n_0 h_0; have G0 := jh (GrpAt.later B.out g0); clear g0; refine jx 17 (fun _ => none) (by kernel_rfl) (by kernel_rfl) (fun _ _ _ _ _ h => h) (fun F hn9 hcl hbl => ?_); have r_AA_0 := jr hbl HAA 0 (by omega); have r_AA_1 := jr hbl HAA 1 (by omega); have r_AA_2 := jr hbl HAA 2 (by omega); have r_AA_3 := jr hbl HAA 3 (by omega); have r_G_0 := fun X9 : Wd F => (GrpAt.later (hbl X9.world X9.fact) G0.out).1 0 (by omega)
 have r_G_1 := fun X9 : Wd F => (GrpAt.later (hbl X9.world X9.fact) G0.out).1 1 (by omega)
 have r_G_2 := fun X9 : Wd F => (GrpAt.later (hbl X9.world X9.fact) G0.out).1 2 (by omega)
 have r_G_3 := fun X9 : Wd F => (GrpAt.later (hbl X9.world X9.fact) G0.out).1 3 (by omega)
 simp only [Nat.reduceAdd] at r_G_0 r_G_1 r_G_2 r_G_3; have HCL := jh hcl; clear hcl hbl; refine qj 17 0 _ _ (fun _ _ _ => rfl) (by decide) ?_; simp only [List.take_succ_cons, List.take_zero, List.drop_succ_cons, List.drop_zero, Nat.reduceAdd]
 repeat (go_big_quiet_step ((first | (go_at_call 40; with_reducible exact jv HCL.out (C1.out _)) | (go_at_call 40; with_reducible exact jv HCL.out (C0.out _)) | (go_at_call 24; with_reducible exact jv HCL.out (K1.out _)) | (go_at_call 24; with_reducible exact jv HCL.out (K2.out _)))))
 refine wpQuiet_nil ?_; refine qn ?_; intro bs w2 hb _ _; clear r_AA_0 r_AA_1 r_AA_2 r_AA_3; have HAA := jn hb HAA; have hRd := Nat.lt_of_lt_of_le hRd hb.size; have B := jw B hb; clear hb; simp only [zq]; clear r_G_0 r_G_1 r_G_2 r_G_3
 go_wp2_with fail
 refine bodyPost_ret (v := .bool false) ?_ rfl ⟨rfl, jm HB0.out B.out⟩
 simp [results, Tryz.results38, go_sem]
theorem may_eq {gp gq gg gh a : Nat} (h1 : 1 < gp) (ha0 : a ≠ 0) (h : a = gp) (ha9 : a < jk) (hm : gp < jk) (w : World) :
  Calls Tryz.prog 38 #[.agg #[.int .u64 (jf jd gp 0), .int .u64 (jf jd gp 1), .int .u64 (jf jd gp 2), .int .u64 (jf jd gp 3), .int .u64 (jf jd gq 0), .int .u64 (jf jd gq 1), .int .u64 (jf jd gq 2), .int .u64 (jf jd gq 3), .int .u64 (jf jd gg 0), .int .u64 (jf jd gg 1), .int .u64 (jf jd gg 2), .int .u64 (jf jd gg 3), .int .u64 (jf jd gh 0), .int .u64 (jf jd gh 1), .int .u64 (jf jd gh 2), .int .u64 (jf jd gh 3)], jo a] w fun e w' => e = .returned (.bool false) ∧ Below w.heap.size w w' := by
 have hne := ne_num a 0 ha9 qU; rw [decide_eq_false ha0] at hne; have C1 := jh (fun w => by have h := zx 1 1 rfl (by decide) w; unfold jo words at h; exact h); have C0 := jh (fun w => by have h := zx 0 0 rfl (by decide) w; unfold jo words at h; exact h); have e1 : Je gp 1 = 1 := by exact zQ h1
 have K1 := jh (fun w => by have h := qF hm (show 1 < jk by decide) w; rw [e1] at h; unfold jo words at h; exact h); have e2 : Je a gp = 0 := by rw [h]; unfold Je; rw [if_neg (by omega), if_pos rfl]
 have K2 := jh (fun w => by have h := qF ha9 hm w; rw [e2] at h; unfold jo words at h; exact h); clear e1 e2 ha9 hm h; unfold jo words
 go_enter Tryz.func38, Tryz.ntmps38
 go_wp2_with fail
 obtain ⟨w0, e0⟩ := je (w.alloc (.cells #[.int .u64 (jf jd gp 0), .int .u64 (jf jd gp 1), .int .u64 (jf jd gp 2), .int .u64 (jf jd gp 3), .int .u64 (jf jd gq 0), .int .u64 (jf jd gq 1), .int .u64 (jf jd gq 2), .int .u64 (jf jd gq 3), .int .u64 (jf jd gg 0), .int .u64 (jf jd gg 1), .int .u64 (jf jd gg 2), .int .u64 (jf jd gg 3), .int .u64 (jf jd gh 0), .int .u64 (jf jd gh 1), .int .u64 (jf jd gh 2), .int .u64 (jf jd gh 3)] 26)); obtain ⟨GG, hGG⟩ := je (w.heap.size); have b0 := jc e0; have s0 : w0.heap.size = w.heap.size + 1 := by rw [e0]; simp
 have g0 : GrpAt w0 GG gp gq gg gh := by rw [e0, hGG]; exact GrpAt.new _ _ _ _ _ _
 rw [← e0, ← s0, ← hGG]; have HB0 := jh b0; clear e0 hGG b0 s0; obtain ⟨wz, e_0⟩ := je (w0.alloc (.cells #[.int .u64 (jf jd a 0), .int .u64 (jf jd a 1), .int .u64 (jf jd a 2), .int .u64 (jf jd a 3)] 24)); have s_0 : wz.heap.size = w0.heap.size + 1 := by rw [e_0]; simp
 have b_0 := jc e_0; have n_0 : NumAt wz (w0.heap.size) a := by rw [e_0]; exact NumAt.new w0 a _ _ rfl
 rw [← e_0]; obtain ⟨AA, h_0⟩ := je (w0.heap.size); have hwL : w0.heap.size ≤ AA := by omega
 have hRd : AA < wz.heap.size := by omega
 rw [← h_0] at n_0 ⊢; have HAA := jh n_0; have B := jh b_0; have hwAA : w0.heap.size ≤ AA := by omega
 have HSZ := jh (show wz.heap.size = AA + 1 by omega); clear e_0 s_0 b_0 n_0 h_0; have G0 := jh (GrpAt.later B.out g0); clear g0; refine jx 17 (fun _ => none) (by kernel_rfl) (by kernel_rfl) (fun _ _ _ _ _ h => h) (fun F hn9 hcl hbl => ?_); have r_AA_0 := jr hbl HAA 0 (by omega); have r_AA_1 := jr hbl HAA 1 (by omega); have r_AA_2 := jr hbl HAA 2 (by omega); have r_AA_3 := jr hbl HAA 3 (by omega); have r_G_0 := fun X9 : Wd F => (GrpAt.later (hbl X9.world X9.fact) G0.out).1 0 (by omega)
 have r_G_1 := fun X9 : Wd F => (GrpAt.later (hbl X9.world X9.fact) G0.out).1 1 (by omega)
 have r_G_2 := fun X9 : Wd F => (GrpAt.later (hbl X9.world X9.fact) G0.out).1 2 (by omega)
 have r_G_3 := fun X9 : Wd F => (GrpAt.later (hbl X9.world X9.fact) G0.out).1 3 (by omega)
 simp only [Nat.reduceAdd] at r_G_0 r_G_1 r_G_2 r_G_3; have HCL := jh hcl; clear hcl hbl; refine qj 17 0 _ _ (fun _ _ _ => rfl) (by decide) ?_; simp only [List.take_succ_cons, List.take_zero, List.drop_succ_cons, List.drop_zero, Nat.reduceAdd]
 repeat (go_big_quiet_step ((first | (go_at_call 40; with_reducible exact jv HCL.out (C1.out _)) | (go_at_call 40; with_reducible exact jv HCL.out (C0.out _)) | (go_at_call 24; with_reducible exact jv HCL.out (K1.out _)) | (go_at_call 24; with_reducible exact jv HCL.out (K2.out _)))))
 refine wpQuiet_nil ?_; refine qn ?_; intro bs w2 hb _ _; clear r_AA_0 r_AA_1 r_AA_2 r_AA_3; have HAA := jn hb HAA; have hRd := Nat.lt_of_lt_of_le hRd hb.size; have B := jw B hb; clear hb; simp only [zq]; clear r_G_0 r_G_1 r_G_2 r_G_3
 go_wp2_with fail
 refine bodyPost_ret (v := .bool false) ?_ rfl ⟨rfl, jm HB0.out B.out⟩
 simp [results, Tryz.results38, go_sem]
theorem may_gt {gp gq gg gh a : Nat} (h1 : 1 < gp) (ha0 : a ≠ 0) (h : gp < a) (ha9 : a < jk) (hm : gp < jk) (w : World) :
  Calls Tryz.prog 38 #[.agg #[.int .u64 (jf jd gp 0), .int .u64 (jf jd gp 1), .int .u64 (jf jd gp 2), .int .u64 (jf jd gp 3), .int .u64 (jf jd gq 0), .int .u64 (jf jd gq 1), .int .u64 (jf jd gq 2), .int .u64 (jf jd gq 3), .int .u64 (jf jd gg 0), .int .u64 (jf jd gg 1), .int .u64 (jf jd gg 2), .int .u64 (jf jd gg 3), .int .u64 (jf jd gh 0), .int .u64 (jf jd gh 1), .int .u64 (jf jd gh 2), .int .u64 (jf jd gh 3)], jo a] w fun e w' => e = .returned (.bool false) ∧ Below w.heap.size w w' := by
 have hne := ne_num a 0 ha9 qU; rw [decide_eq_false ha0] at hne; have C1 := jh (fun w => by have h := zx 1 1 rfl (by decide) w; unfold jo words at h; exact h); have C0 := jh (fun w => by have h := zx 0 0 rfl (by decide) w; unfold jo words at h; exact h); have e1 : Je gp 1 = 1 := by exact zQ h1
 have K1 := jh (fun w => by have h := qF hm (show 1 < jk by decide) w; rw [e1] at h; unfold jo words at h; exact h); have e2 : Je a gp = 1 := by exact zQ h
 have K2 := jh (fun w => by have h := qF ha9 hm w; rw [e2] at h; unfold jo words at h; exact h); clear e1 e2 ha9 hm h; unfold jo words
 go_enter Tryz.func38, Tryz.ntmps38
 go_wp2_with fail
 obtain ⟨w0, e0⟩ := je (w.alloc (.cells #[.int .u64 (jf jd gp 0), .int .u64 (jf jd gp 1), .int .u64 (jf jd gp 2), .int .u64 (jf jd gp 3), .int .u64 (jf jd gq 0), .int .u64 (jf jd gq 1), .int .u64 (jf jd gq 2), .int .u64 (jf jd gq 3), .int .u64 (jf jd gg 0), .int .u64 (jf jd gg 1), .int .u64 (jf jd gg 2), .int .u64 (jf jd gg 3), .int .u64 (jf jd gh 0), .int .u64 (jf jd gh 1), .int .u64 (jf jd gh 2), .int .u64 (jf jd gh 3)] 26)); obtain ⟨GG, hGG⟩ := je (w.heap.size); have b0 := jc e0; have s0 : w0.heap.size = w.heap.size + 1 := by rw [e0]; simp
 have g0 : GrpAt w0 GG gp gq gg gh := by rw [e0, hGG]; exact GrpAt.new _ _ _ _ _ _
 rw [← e0, ← s0, ← hGG]; have HB0 := jh b0; clear e0 hGG b0 s0; obtain ⟨wz, e_0⟩ := je (w0.alloc (.cells #[.int .u64 (jf jd a 0), .int .u64 (jf jd a 1), .int .u64 (jf jd a 2), .int .u64 (jf jd a 3)] 24)); have s_0 : wz.heap.size = w0.heap.size + 1 := by rw [e_0]; simp
 have b_0 := jc e_0; have n_0 : NumAt wz (w0.heap.size) a := by rw [e_0]; exact NumAt.new w0 a _ _ rfl
 rw [← e_0]; obtain ⟨AA, h_0⟩ := je (w0.heap.size); have hwL : w0.heap.size ≤ AA := by omega
 have hRd : AA < wz.heap.size := by omega
 rw [← h_0] at n_0 ⊢; have HAA := jh n_0; have B := jh b_0; have hwAA : w0.heap.size ≤ AA := by omega
 have HSZ := jh (show wz.heap.size = AA + 1 by omega); clear e_0 s_0 b_0 n_0 h_0; have G0 := jh (GrpAt.later B.out g0); clear g0; refine jx 17 (fun _ => none) (by kernel_rfl) (by kernel_rfl) (fun _ _ _ _ _ h => h) (fun F hn9 hcl hbl => ?_); have r_AA_0 := jr hbl HAA 0 (by omega); have r_AA_1 := jr hbl HAA 1 (by omega); have r_AA_2 := jr hbl HAA 2 (by omega); have r_AA_3 := jr hbl HAA 3 (by omega); have r_G_0 := fun X9 : Wd F => (GrpAt.later (hbl X9.world X9.fact) G0.out).1 0 (by omega)
 have r_G_1 := fun X9 : Wd F => (GrpAt.later (hbl X9.world X9.fact) G0.out).1 1 (by omega)
 have r_G_2 := fun X9 : Wd F => (GrpAt.later (hbl X9.world X9.fact) G0.out).1 2 (by omega)
 have r_G_3 := fun X9 : Wd F => (GrpAt.later (hbl X9.world X9.fact) G0.out).1 3 (by omega)
 simp only [Nat.reduceAdd] at r_G_0 r_G_1 r_G_2 r_G_3; have HCL := jh hcl; clear hcl hbl; refine qj 17 0 _ _ (fun _ _ _ => rfl) (by decide) ?_; simp only [List.take_succ_cons, List.take_zero, List.drop_succ_cons, List.drop_zero, Nat.reduceAdd]
 repeat (go_big_quiet_step ((first | (go_at_call 40; with_reducible exact jv HCL.out (C1.out _)) | (go_at_call 40; with_reducible exact jv HCL.out (C0.out _)) | (go_at_call 24; with_reducible exact jv HCL.out (K1.out _)) | (go_at_call 24; with_reducible exact jv HCL.out (K2.out _)))))
 refine wpQuiet_nil ?_; refine qn ?_; intro bs w2 hb _ _; clear r_AA_0 r_AA_1 r_AA_2 r_AA_3; have HAA := jn hb HAA; have hRd := Nat.lt_of_lt_of_le hRd hb.size; have B := jw B hb; clear hb; simp only [zq]; clear r_G_0 r_G_1 r_G_2 r_G_3
 go_wp2_with fail
 refine bodyPost_ret (v := .bool false) ?_ rfl ⟨rfl, jm HB0.out B.out⟩
 simp [results, Tryz.results38, go_sem]
def Jh (gp a : Nat) : Prop := 1 < gp ∧ a ≠ 0 ∧ a < gp
instance (gp a : Nat) : Decidable (Jh gp a) := by unfold Jh; exact inferInstance
theorem may_any {gp gq gg gh a : Nat} (ha9 : a < jk) (hm : gp < jk) (w : World) :
  Calls Tryz.prog 38 #[.agg #[.int .u64 (jf jd gp 0), .int .u64 (jf jd gp 1), .int .u64 (jf jd gp 2), .int .u64 (jf jd gp 3), .int .u64 (jf jd gq 0), .int .u64 (jf jd gq 1), .int .u64 (jf jd gq 2), .int .u64 (jf jd gq 3), .int .u64 (jf jd gg 0), .int .u64 (jf jd gg 1), .int .u64 (jf jd gg 2), .int .u64 (jf jd gg 3), .int .u64 (jf jd gh 0), .int .u64 (jf jd gh 1), .int .u64 (jf jd gh 2), .int .u64 (jf jd gh 3)], jo a] w fun e w' => e = .returned (.bool (decide (Jh gp a))) ∧ Below w.heap.size w w' := by
 by_cases h : Jh gp a
 ·rw [decide_eq_true h]; exact may_yes h.1 h.2.1 h.2.2 hm w
 ·rw [decide_eq_false h]; unfold Jh at h
  by_cases h1 : 1 < gp
  ·by_cases h0 : a = 0
   ·exact may_zero h1 h0 ha9 hm w
   ·rcases Nat.lt_trichotomy a gp with h9 | h9 | h9
    ·exact absurd ⟨h1, h0, h9⟩ h
    ·exact may_eq h1 h0 h9 ha9 hm w
    ·exact may_gt h1 h0 h9 ha9 hm w
  ·rcases Nat.lt_or_ge gp 1 with h9 | h9
   ·exact may_low0 h9 ha9 hm w
   ·exact may_low1 (by omega) ha9 hm w
theorem Jc {gp gq gg gh a n : Nat} (h : Jh gp a) (ha9 : a < jk) (hn : n < jk) (hm : gp < jk) (w : World) :
  Calls Tryz.prog 22 #[.agg #[.int .u64 (jf jd gp 0), .int .u64 (jf jd gp 1), .int .u64 (jf jd gp 2), .int .u64 (jf jd gp 3), .int .u64 (jf jd gq 0), .int .u64 (jf jd gq 1), .int .u64 (jf jd gq 2), .int .u64 (jf jd gq 3), .int .u64 (jf jd gg 0), .int .u64 (jf jd gg 1), .int .u64 (jf jd gg 2), .int .u64 (jf jd gg 3), .int .u64 (jf jd gh 0), .int .u64 (jf jd gh 1), .int .u64 (jf jd gh 2), .int .u64 (jf jd gh 3)], jo a, jo n] w fun e w' => e = .returned (.tuple #[jo (a ^ n % gp), .int .i64 0]) ∧ Below w.heap.size w w' := by
 have CM := jh (fun w => by have h9 := may_any (gq := gq) (gg := gg) (gh := gh) ha9 hm w; rw [decide_eq_true h] at h9; unfold jo words at h9; exact h9); obtain ⟨q, hq⟩ := je (a ^ n % gp); have CE := jh (fun w => by have h9 := Exp_any h.2.2 h.1 hn hm w; rw [← hq] at h9; unfold jo words at h9; exact h9); rw [← hq]; clear hq; clear h ha9 hn hm; unfold jo words
 go_enter Tryz.func22, Tryz.ntmps22
 go_wp2_with fail
 obtain ⟨w0, e0⟩ := je (w.alloc (.cells #[.int .u64 (jf jd gp 0), .int .u64 (jf jd gp 1), .int .u64 (jf jd gp 2), .int .u64 (jf jd gp 3), .int .u64 (jf jd gq 0), .int .u64 (jf jd gq 1), .int .u64 (jf jd gq 2), .int .u64 (jf jd gq 3), .int .u64 (jf jd gg 0), .int .u64 (jf jd gg 1), .int .u64 (jf jd gg 2), .int .u64 (jf jd gg 3), .int .u64 (jf jd gh 0), .int .u64 (jf jd gh 1), .int .u64 (jf jd gh 2), .int .u64 (jf jd gh 3)] 26)); obtain ⟨GG, hGG⟩ := je (w.heap.size); have b0 := jc e0; have s0 : w0.heap.size = w.heap.size + 1 := by rw [e0]; simp
 have g0 : GrpAt w0 GG gp gq gg gh := by rw [e0, hGG]; exact GrpAt.new _ _ _ _ _ _
 rw [← e0, ← s0, ← hGG]; have HB0 := jh b0; clear e0 hGG b0 s0; obtain ⟨w_0, e_0⟩ := je (w0.alloc (.cells #[.int .u64 (jf jd a 0), .int .u64 (jf jd a 1), .int .u64 (jf jd a 2), .int .u64 (jf jd a 3)] 24)); have s_0 : w_0.heap.size = w0.heap.size + 1 := by rw [e_0]; simp
 have b_0 := jc e_0; have n_0 : NumAt w_0 (w0.heap.size) a := by rw [e_0]; exact NumAt.new w0 a _ _ rfl
 obtain ⟨w_1, e_1⟩ := je (w_0.alloc (.cells #[.int .u64 (jf jd n 0), .int .u64 (jf jd n 1), .int .u64 (jf jd n 2), .int .u64 (jf jd n 3)] 24)); have s_1 : w_1.heap.size = w0.heap.size + 1 + 1 := by rw [e_1]; simp [s_0]
 have b_1 := jc e_1; have n_1 : NumAt w_1 (w0.heap.size + 1) n := by rw [e_1]; exact NumAt.new w_0 n _ _ s_0.symm
 obtain ⟨wz, e_2⟩ := je (w_1.alloc (.cells #[.int .u64 0, .int .u64 0, .int .u64 0, .int .u64 0] 24)); have s_2 : wz.heap.size = w0.heap.size + 1 + 1 + 1 := by rw [e_2]; simp [s_1]
 have b_2 := jc e_2; have n_2 : NumAt wz (w0.heap.size + 1 + 1) 0 := by rw [e_2, ← s_1]; exact jF w_1 _
 have f_2 : FreeN wz (w0.heap.size + 1 + 1) 4 := by rw [e_2]; exact FreeN.made w_1 _ _ 4 _ s_1.symm
 rw [← e_0, ← e_1, ← e_2]; obtain ⟨AA, h_0⟩ := je (w0.heap.size); obtain ⟨NN, h_1⟩ := je (AA + 1); obtain ⟨RR, h_2⟩ := je (NN + 1); have hwL : w0.heap.size ≤ AA := by omega
 have hRd : RR < wz.heap.size := by omega
 rw [← h_0] at n_0 n_1 n_2 f_2 ⊢; rw [← h_1] at n_1 n_2 f_2 ⊢; rw [← h_2] at n_2 f_2 ⊢; have l_1 : AA < NN := by omega
 have l_2 : NN < RR := by omega
 have HAA := jh (NumAt.later b_2 (NumAt.later b_1 n_0)); have HNN := jh (NumAt.later b_2 n_1); have HRR := jh n_2; have HF := jh f_2; have B := jh ((b_0.trans (b_1.mono (by omega))).trans (b_2.mono (by omega))); have hwRR : w0.heap.size ≤ RR := by omega
 have HSZ := jh (show wz.heap.size = RR + 1 by omega); clear e_0 s_0 b_0 n_0 h_0 e_1 s_1 b_1 n_1 h_1 e_2 s_2 b_2 n_2 h_2 f_2; have G0 := jh (GrpAt.later B.out g0); clear g0; refine (CM.out _).mono ?_; rintro _ w2 ⟨rfl, hb⟩; have G0 := jh (GrpAt.later hb G0.out); have HAA := jn hb HAA; have HNN := jn hb HNN; have HRR := jn hb HRR; have HF := jh (HF.out.later hb hRd); have hRd := Nat.lt_of_lt_of_le hRd hb.size; have B := jw B hb; clear hb; have r_G_0 := G0.out.1 0 (by omega); have r_G_1 := G0.out.1 1 (by omega); have r_G_2 := G0.out.1 2 (by omega); have r_G_3 := G0.out.1 3 (by omega); simp only [Nat.reduceAdd] at r_G_0 r_G_1 r_G_2 r_G_3; obtain ⟨r_AA_0, r_AA_1, r_AA_2, r_AA_3⟩ := jR HAA.out; obtain ⟨r_NN_0, r_NN_1, r_NN_2, r_NN_3⟩ := jR HNN.out
 go_wp2_with fail
 clear r_AA_0 r_AA_1 r_AA_2 r_AA_3 r_NN_0 r_NN_1 r_NN_2 r_NN_3; clear r_G_0 r_G_1 r_G_2 r_G_3; refine (CE.out _).mono ?_; rintro _ w3 ⟨rfl, hb⟩; have HAA := jn hb HAA; have HNN := jn hb HNN; have HRR := jn hb HRR; have HF := jh (HF.out.later hb hRd); have hRd := Nat.lt_of_lt_of_le hRd hb.size; have B := jw B hb; clear hb; obtain ⟨c0, c1, c2, c3, f0, f1, f2, f3⟩ := jY HRR.out HF.out
 go_wp2_with fail
 have HRL := jh (NumAt.set4 HRR.out q); have B9 := jh (jz B.out hwRR (.int .u64 (jf jd q 0)) (.int .u64 (jf jd q 1)) (.int .u64 (jf jd q 2)) (.int .u64 (jf jd q 3))); obtain ⟨g0, g1, g2, g3⟩ := jR HRL.out; refine bodyPost_ret (v := .tuple #[.agg #[.int .u64 (jf jd q 0), .int .u64 (jf jd q 1), .int .u64 (jf jd q 2), .int .u64 (jf jd q 3)], .int .i64 0]) ?_ rfl ⟨rfl, jm HB0.out B9.out⟩
 simp [results, Tryz.results22, go_sem, g0, g1, g2, g3]
theorem gexp_no {gp gq gg gh a n : Nat} (h : ¬ Jh gp a) (ha9 : a < jk) (hn : n < jk) (hm : gp < jk) (w : World) :
  Calls Tryz.prog 22 #[.agg #[.int .u64 (jf jd gp 0), .int .u64 (jf jd gp 1), .int .u64 (jf jd gp 2), .int .u64 (jf jd gp 3), .int .u64 (jf jd gq 0), .int .u64 (jf jd gq 1), .int .u64 (jf jd gq 2), .int .u64 (jf jd gq 3), .int .u64 (jf jd gg 0), .int .u64 (jf jd gg 1), .int .u64 (jf jd gg 2), .int .u64 (jf jd gg 3), .int .u64 (jf jd gh 0), .int .u64 (jf jd gh 1), .int .u64 (jf jd gh 2), .int .u64 (jf jd gh 3)], jo a, jo n] w fun e w' => e = .returned (.tuple #[jo (0), .int .i64 1]) ∧ Below w.heap.size w w' := by
 have CM := jh (fun w => by have h9 := may_any (gq := gq) (gg := gg) (gh := gh) ha9 hm w; rw [decide_eq_false h] at h9; unfold jo words at h9; exact h9); clear h ha9 hn hm; unfold jo words
 go_enter Tryz.func22, Tryz.ntmps22
 go_wp2_with fail
 obtain ⟨w0, e0⟩ := je (w.alloc (.cells #[.int .u64 (jf jd gp 0), .int .u64 (jf jd gp 1), .int .u64 (jf jd gp 2), .int .u64 (jf jd gp 3), .int .u64 (jf jd gq 0), .int .u64 (jf jd gq 1), .int .u64 (jf jd gq 2), .int .u64 (jf jd gq 3), .int .u64 (jf jd gg 0), .int .u64 (jf jd gg 1), .int .u64 (jf jd gg 2), .int .u64 (jf jd gg 3), .int .u64 (jf jd gh 0), .int .u64 (jf jd gh 1), .int .u64 (jf jd gh 2), .int .u64 (jf jd gh 3)] 26)); obtain ⟨GG, hGG⟩ := je (w.heap.size); have b0 := jc e0; have s0 : w0.heap.size = w.heap.size + 1 := by rw [e0]; simp
 have g0 : GrpAt w0 GG gp gq gg gh := by rw [e0, hGG]; exact GrpAt.new _ _ _ _ _ _
 rw [← e0, ← s0, ← hGG]; have HB0 := jh b0; clear e0 hGG b0 s0; obtain ⟨w_0, e_0⟩ := je (w0.alloc (.cells #[.int .u64 (jf jd a 0), .int .u64 (jf jd a 1), .int .u64 (jf jd a 2), .int .u64 (jf jd a 3)] 24)); have s_0 : w_0.heap.size = w0.heap.size + 1 := by rw [e_0]; simp
 have b_0 := jc e_0; have n_0 : NumAt w_0 (w0.heap.size) a := by rw [e_0]; exact NumAt.new w0 a _ _ rfl
 obtain ⟨w_1, e_1⟩ := je (w_0.alloc (.cells #[.int .u64 (jf jd n 0), .int .u64 (jf jd n 1), .int .u64 (jf jd n 2), .int .u64 (jf jd n 3)] 24)); have s_1 : w_1.heap.size = w0.heap.size + 1 + 1 := by rw [e_1]; simp [s_0]
 have b_1 := jc e_1; have n_1 : NumAt w_1 (w0.heap.size + 1) n := by rw [e_1]; exact NumAt.new w_0 n _ _ s_0.symm
 obtain ⟨wz, e_2⟩ := je (w_1.alloc (.cells #[.int .u64 0, .int .u64 0, .int .u64 0, .int .u64 0] 24)); have s_2 : wz.heap.size = w0.heap.size + 1 + 1 + 1 := by rw [e_2]; simp [s_1]
 have b_2 := jc e_2; have n_2 : NumAt wz (w0.heap.size + 1 + 1) 0 := by rw [e_2, ← s_1]; exact jF w_1 _
 have f_2 : FreeN wz (w0.heap.size + 1 + 1) 4 := by rw [e_2]; exact FreeN.made w_1 _ _ 4 _ s_1.symm
 rw [← e_0, ← e_1, ← e_2]; obtain ⟨AA, h_0⟩ := je (w0.heap.size); obtain ⟨NN, h_1⟩ := je (AA + 1); obtain ⟨RR, h_2⟩ := je (NN + 1); have hwL : w0.heap.size ≤ AA := by omega
 have hRd : RR < wz.heap.size := by omega
 rw [← h_0] at n_0 n_1 n_2 f_2 ⊢; rw [← h_1] at n_1 n_2 f_2 ⊢; rw [← h_2] at n_2 f_2 ⊢; have l_1 : AA < NN := by omega
 have l_2 : NN < RR := by omega
 have HAA := jh (NumAt.later b_2 (NumAt.later b_1 n_0)); have HNN := jh (NumAt.later b_2 n_1); have HRR := jh n_2; have HF := jh f_2; have B := jh ((b_0.trans (b_1.mono (by omega))).trans (b_2.mono (by omega))); have hwRR : w0.heap.size ≤ RR := by omega
 have HSZ := jh (show wz.heap.size = RR + 1 by omega); clear e_0 s_0 b_0 n_0 h_0 e_1 s_1 b_1 n_1 h_1 e_2 s_2 b_2 n_2 h_2 f_2; have G0 := jh (GrpAt.later B.out g0); clear g0; refine (CM.out _).mono ?_; rintro _ w2 ⟨rfl, hb⟩; have G0 := jh (GrpAt.later hb G0.out); have HAA := jn hb HAA; have HNN := jn hb HNN; have HRR := jn hb HRR; have HF := jh (HF.out.later hb hRd); have hRd := Nat.lt_of_lt_of_le hRd hb.size; have B := jw B hb; clear hb; obtain ⟨c0, c1, c2, c3, f0, f1, f2, f3⟩ := jY HRR.out HF.out
 go_wp2_with fail
 refine bodyPost_ret (v := .tuple #[.agg #[.int .u64 0, .int .u64 0, .int .u64 0, .int .u64 0], .int .i64 1]) ?_ rfl ⟨by simp only [jP]; rfl, jm HB0.out (jz B.out hwRR _ _ _ _)⟩; have n9 := NumAt.set4 HRR.out 0; have z0 : ((jf jd 0 0 : Nat) : Int) = 0 := by rw [jP]; rfl
 have z1 : ((jf jd 0 1 : Nat) : Int) = 0 := by rw [jP]; rfl
 have z2 : ((jf jd 0 2 : Nat) : Int) = 0 := by rw [jP]; rfl
 have z3 : ((jf jd 0 3 : Nat) : Int) = 0 := by rw [jP]; rfl
 rw [z0, z1, z2, z3] at n9; obtain ⟨g0, g1, g2, g3⟩ := jR n9; rw [z0] at g0; rw [z1] at g1; rw [z2] at g2; rw [z3] at g3
 simp [results, Tryz.results22, go_sem, g0, g1, g2, g3]
end Go.Proofs.YtdpkpcbikbbcbaaGreat
