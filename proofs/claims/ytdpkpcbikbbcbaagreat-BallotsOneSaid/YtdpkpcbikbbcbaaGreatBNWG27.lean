/- Layer 8 (groups) -/
import Derived.Test.YtdpkpcbikbbcbaaGreatBNWG26
set_option linter.unusedSimpArgs false
set_option linter.unusedVariables false
set_option maxHeartbeats 4000000
set_option maxRecDepth 100000
namespace Go.Proofs.YtdpkpcbikbbcbaaGreat
open Go.ChangeShapes Go.WideShapes Go.ChangeAt Go.RowKit
theorem exp_word {x y m M : Nat} (hx : x < m) (hy : y < m) (hm : m < jd) (w : World) (hM : NumAt w M m) :
  Calls Tryz.prog 66 #[.int .u64 (x : Nat), .int .u64 (y : Nat), .pointer (some ⟨M, 0, none⟩)] w fun e w' => e = .returned (.int .u64 ((x * y % m : Nat) : Int)) ∧ Below w.heap.size w w' := by
 have CW := jh (fun w => word_any (Nat.lt_trans hx hm) (Nat.lt_trans hy hm) hm (Nat.mul_lt_mul_of_lt_of_lt hx (Nat.lt_trans hy hm)) w); obtain ⟨q, hq⟩ := je (x * y % m); rw [← hq] at CW ⊢; obtain ⟨dm, _, _, _⟩ := zR hm; obtain ⟨r0, r1, r2, r3⟩ := jM hM; rw [dm] at r0; clear dm hq hx hy hm hM
 go_enter Tryz.func66, Tryz.ntmps66
 go_wp2_with fail
 refine (CW.out _).mono ?_; rintro _ w2 ⟨rfl, hb⟩
 go_wp2_with fail
 refine bodyPost_ret (v := .int .u64 (q : Nat)) ?_ rfl ⟨rfl, hb⟩
 simp [results, Tryz.results66, go_sem]
theorem exp_long {x y m M : Nat} (hx : x < m) (hy : y < m) (hm : m < jk) (w : World) (hM : NumAt w M m) :
  Calls Tryz.prog 69 #[jo x, jo y, .pointer (some ⟨M, 0, none⟩)] w fun e w' => e = .returned (jo (x * y % m)) ∧ Below w.heap.size w w' := by
 have CT := jh (fun w => mtimes_any hx hy hm w); obtain ⟨q, hq⟩ := je (x * y % m); rw [← hq] at CT ⊢; have hMl := hM.lt; have HM := jh hM; clear hq hx hy hm hM; unfold jo words at *
 go_enter Tryz.func69, Tryz.ntmps69
 have q_0 := fun o1 o2 o3 => (NumAt.alloc (NumAt.alloc (NumAt.alloc HM.out o1) o2) o3) 0 (by omega)
 have q_1 := fun o1 o2 o3 => (NumAt.alloc (NumAt.alloc (NumAt.alloc HM.out o1) o2) o3) 1 (by omega)
 have q_2 := fun o1 o2 o3 => (NumAt.alloc (NumAt.alloc (NumAt.alloc HM.out o1) o2) o3) 2 (by omega)
 have q_3 := fun o1 o2 o3 => (NumAt.alloc (NumAt.alloc (NumAt.alloc HM.out o1) o2) o3) 3 (by omega)
 go_wp2_with fail
 clear q_0 q_1 q_2 q_3; obtain ⟨w_0, e_0⟩ := je (w.alloc (.cells #[.int .u64 (jf jd x 0), .int .u64 (jf jd x 1), .int .u64 (jf jd x 2), .int .u64 (jf jd x 3)] 24)); have s_0 : w_0.heap.size = w.heap.size + 1 := by rw [e_0]; simp
 have b_0 := jc e_0; have n_0 : NumAt w_0 (w.heap.size) x := by rw [e_0]; exact NumAt.new w x _ _ rfl
 obtain ⟨w_1, e_1⟩ := je (w_0.alloc (.cells #[.int .u64 (jf jd y 0), .int .u64 (jf jd y 1), .int .u64 (jf jd y 2), .int .u64 (jf jd y 3)] 24)); have s_1 : w_1.heap.size = w.heap.size + 1 + 1 := by rw [e_1]; simp [s_0]
 have b_1 := jc e_1; have n_1 : NumAt w_1 (w.heap.size + 1) y := by rw [e_1]; exact NumAt.new w_0 y _ _ s_0.symm
 obtain ⟨wz, e_2⟩ := je (w_1.alloc (.cells #[.int .u64 0, .int .u64 0, .int .u64 0, .int .u64 0] 24)); have s_2 : wz.heap.size = w.heap.size + 1 + 1 + 1 := by rw [e_2]; simp [s_1]
 have b_2 := jc e_2; have n_2 : NumAt wz (w.heap.size + 1 + 1) 0 := by rw [e_2, ← s_1]; exact jD w_1 _
 have f_2 : FreeN wz (w.heap.size + 1 + 1) 4 := by rw [e_2]; exact FreeN.made w_1 _ _ 4 _ s_1.symm
 rw [← e_0, ← e_1, ← e_2]; obtain ⟨XX, h_0⟩ := je (w.heap.size); obtain ⟨YY, h_1⟩ := je (XX + 1); obtain ⟨RR, h_2⟩ := je (YY + 1); have hwL : w.heap.size ≤ XX := by omega
 have hRd : RR < wz.heap.size := by omega
 rw [← h_0] at n_0 n_1 n_2 f_2 ⊢; rw [← h_1] at n_1 n_2 f_2 ⊢; rw [← h_2] at n_2 f_2 ⊢; have l_1 : XX < YY := by omega
 have l_2 : YY < RR := by omega
 have HXX := jh (NumAt.later b_2 (NumAt.later b_1 n_0)); have HYY := jh (NumAt.later b_2 n_1); have HRR := jh n_2; have HF := jh f_2; have B := jh ((b_0.trans (b_1.mono (by omega))).trans (b_2.mono (by omega))); have hwRR : w.heap.size ≤ RR := by omega
 have HSZ := jh (show wz.heap.size = RR + 1 by omega); clear e_0 s_0 b_0 n_0 h_0 e_1 s_1 b_1 n_1 h_1 e_2 s_2 b_2 n_2 h_2 f_2; refine (CT.out _).mono ?_; rintro _ w2 ⟨rfl, hb⟩; have HXX := jn hb HXX; have HYY := jn hb HYY; have HRR := jn hb HRR; have HF := jh (HF.out.later hb hRd); have hRd := Nat.lt_of_lt_of_le hRd hb.size; have B := jw B hb; clear hb; obtain ⟨c0, c1, c2, c3, f0, f1, f2, f3⟩ := jR HRR.out HF.out
 go_wp2_with fail
 have HRL := jh (NumAt.set4 HRR.out q); have B9 := jh (jA B.out hwRR (.int .u64 (jf jd q 0)) (.int .u64 (jf jd q 1)) (.int .u64 (jf jd q 2)) (.int .u64 (jf jd q 3))); obtain ⟨g0, g1, g2, g3⟩ := jM HRL.out; refine bodyPost_ret (v := .agg #[.int .u64 (jf jd q 0), .int .u64 (jf jd q 1), .int .u64 (jf jd q 2), .int .u64 (jf jd q 3)]) ?_ rfl ⟨rfl, B9.out⟩
 simp [results, Tryz.results69, go_sem, g0, g1, g2, g3]
theorem exp1_short {a n m N : Nat} (ha : a < m) (h1 : 1 < m) (hn : n < jk) (hml : m < jd) (u : Value) (w : World) (hN : NumAt w N n) :
  Calls Tryz.prog 63 #[jo a, jo a, jo m, .pointer (some ⟨N, 0, none⟩)] w fun e w' => e = .returned (jo (a ^ n % m)) ∧ Below w.heap.size w w' := by
 obtain ⟨q, hq⟩ := je (a ^ n % m); rw [← hq]; have hqm : q < m := by rw [hq]; exact Nat.mod_lt _ (by omega)
 have hm : m < jk := by unfold jk; unfold jd at hml; omega
 have da := jh (zR (Nat.lt_trans ha hml)).1; have hqw := Nat.lt_trans hqm hml; have CO := jh (fun w => by have h := zY q hqw w; unfold jo words at h; exact h); obtain ⟨L, hL⟩ := je (jX m); have hLI : (L : Int) ≤ 64 := by have := bits_short.2 hml; omega
 have CB := jh (fun w => by have h := JN hm w; rw [← hL] at h; unfold jo words at h; exact h); have HAM := jh ha; have HM1 := jh h1; have HN9 := jh hn; have HML := jh hml; have HMM9 := jh hm; have HQ := jh hq; have hNl := hN.lt; have HN := jh hN; clear hq hL ha h1 hn hml hm hqm hqw hN; unfold jo words
 go_enter Tryz.func63, Tryz.ntmps63
 go_wp2_with fail
 obtain ⟨w_0, e_0⟩ := je (w.alloc (.cells #[.int .u64 (jf jd a 0), .int .u64 (jf jd a 1), .int .u64 (jf jd a 2), .int .u64 (jf jd a 3)] 24)); have s_0 : w_0.heap.size = w.heap.size + 1 := by rw [e_0]; simp
 have b_0 := jc e_0; have n_0 : NumAt w_0 (w.heap.size) a := by rw [e_0]; exact NumAt.new w a _ _ rfl
 obtain ⟨w_1, e_1⟩ := je (w_0.alloc (.cells #[.int .u64 (jf jd a 0), .int .u64 (jf jd a 1), .int .u64 (jf jd a 2), .int .u64 (jf jd a 3)] 24)); have s_1 : w_1.heap.size = w.heap.size + 1 + 1 := by rw [e_1]; simp [s_0]
 have b_1 := jc e_1; have n_1 : NumAt w_1 (w.heap.size + 1) a := by rw [e_1]; exact NumAt.new w_0 a _ _ s_0.symm
 obtain ⟨w_2, e_2⟩ := je (w_1.alloc (.cells #[.int .u64 (jf jd m 0), .int .u64 (jf jd m 1), .int .u64 (jf jd m 2), .int .u64 (jf jd m 3)] 24)); have s_2 : w_2.heap.size = w.heap.size + 1 + 1 + 1 := by rw [e_2]; simp [s_1]
 have b_2 := jc e_2; have n_2 : NumAt w_2 (w.heap.size + 1 + 1) m := by rw [e_2]; exact NumAt.new w_1 m _ _ s_1.symm
 obtain ⟨wz, e_3⟩ := je (w_2.alloc (.cells #[.int .u64 0, .int .u64 0, .int .u64 0, .int .u64 0] 24)); have s_3 : wz.heap.size = w.heap.size + 1 + 1 + 1 + 1 := by rw [e_3]; simp [s_2]
 have b_3 := jc e_3; have n_3 : NumAt wz (w.heap.size + 1 + 1 + 1) 0 := by rw [e_3, ← s_2]; exact jD w_2 _
 have f_3 : FreeN wz (w.heap.size + 1 + 1 + 1) 4 := by rw [e_3]; exact FreeN.made w_2 _ _ 4 _ s_2.symm
 rw [← e_0, ← e_1, ← e_2, ← e_3]; obtain ⟨AA, h_0⟩ := je (w.heap.size); obtain ⟨BB, h_1⟩ := je (AA + 1); obtain ⟨MM, h_2⟩ := je (BB + 1); obtain ⟨RR, h_3⟩ := je (MM + 1); have hwL : w.heap.size ≤ AA := by omega
 have hRd : RR < wz.heap.size := by omega
 rw [← h_0] at n_0 n_1 n_2 n_3 f_3 ⊢; rw [← h_1] at n_1 n_2 n_3 f_3 ⊢; rw [← h_2] at n_2 n_3 f_3 ⊢; rw [← h_3] at n_3 f_3 ⊢; have l_1 : AA < BB := by omega
 have l_2 : BB < MM := by omega
 have l_3 : MM < RR := by omega
 have HAA := jh (NumAt.later b_3 (NumAt.later b_2 (NumAt.later b_1 n_0))); have HBB := jh (NumAt.later b_3 (NumAt.later b_2 n_1)); have HMM := jh (NumAt.later b_3 n_2); have HRR := jh n_3; have HF := jh f_3; have B := jh (((b_0.trans (b_1.mono (by omega))).trans (b_2.mono (by omega))).trans (b_3.mono (by omega))); have hwRR : w.heap.size ≤ RR := by omega
 have HSZ := jh (show wz.heap.size = RR + 1 by omega); clear e_0 s_0 b_0 n_0 h_0 e_1 s_1 b_1 n_1 h_1 e_2 s_2 b_2 n_2 h_2 e_3 s_3 b_3 n_3 h_3 f_3; have HNN := jh (NumAt.later (B.out.mono (Nat.le_refl _)) HN.out); clear HN; obtain ⟨NN, hNN9⟩ := je (N); rw [← hNN9] at HNN hNl ⊢; clear hNN9; refine (CB.out _).mono ?_; rintro _ w2 ⟨rfl, hb⟩; have HAA := jn hb HAA; have HBB := jn hb HBB; have HMM := jn hb HMM; have HRR := jn hb HRR; have HNN := jn hb HNN; have HF := jh (HF.out.later hb hRd); have hRd := Nat.lt_of_lt_of_le hRd hb.size; have B := jw B hb; clear hb; obtain ⟨r_AA_0, r_AA_1, r_AA_2, r_AA_3⟩ := jM HAA.out; obtain ⟨r_NN_0, r_NN_1, r_NN_2, r_NN_3⟩ := jM HNN.out; rw [da.out] at r_AA_0
 go_wp2_with fail
 clear r_AA_0 r_AA_1 r_AA_2 r_AA_3 r_NN_0 r_NN_1 r_NN_2 r_NN_3; have CP := power_word (f := 66) (caps := #[.pointer (some ⟨MM, 0, none⟩)]) HAM.out HM1.out HN9.out w2 (by intro args W; simp [go_sem]) (fun x y W hx hy hb => exp_word hx hy HML.out W (NumAt.later hb HMM.out)); rw [← HQ.out] at CP; unfold jo words at CP; refine CP.mono ?_; rintro _ w3 ⟨rfl, hb⟩; clear CP; have HAA := jn hb HAA; have HBB := jn hb HBB; have HMM := jn hb HMM; have HRR := jn hb HRR; have HNN := jn hb HNN; have HF := jh (HF.out.later hb hRd); have hRd := Nat.lt_of_lt_of_le hRd hb.size; have B := jw B hb; clear hb
 go_wp2_with fail
 refine (CO.out _).mono ?_; rintro _ w4 ⟨rfl, hb⟩; have HAA := jn hb HAA; have HBB := jn hb HBB; have HMM := jn hb HMM; have HRR := jn hb HRR; have HNN := jn hb HNN; have HF := jh (HF.out.later hb hRd); have hRd := Nat.lt_of_lt_of_le hRd hb.size; have B := jw B hb; clear hb; obtain ⟨c0, c1, c2, c3, f0, f1, f2, f3⟩ := jR HRR.out HF.out
 go_wp2_with fail
 have HRL := jh (NumAt.set4 HRR.out q); have B9 := jh (jA B.out hwRR (.int .u64 (jf jd q 0)) (.int .u64 (jf jd q 1)) (.int .u64 (jf jd q 2)) (.int .u64 (jf jd q 3))); obtain ⟨g0, g1, g2, g3⟩ := jM HRL.out; refine bodyPost_ret (v := .agg #[.int .u64 (jf jd q 0), .int .u64 (jf jd q 1), .int .u64 (jf jd q 2), .int .u64 (jf jd q 3)]) ?_ rfl ⟨rfl, B9.out⟩
 simp [results, Tryz.results63, go_sem, g0, g1, g2, g3]
theorem exp1_long {a n m N : Nat} (ha : a < m) (h1 : 1 < m) (hn : n < jk) (hml : jd ≤ m) (hm : m < jk) (u : Value) (w : World) (hN : NumAt w N n) :
  Calls Tryz.prog 63 #[jo a, jo a, jo m, .pointer (some ⟨N, 0, none⟩)] w fun e w' => e = .returned (jo (a ^ n % m)) ∧ Below w.heap.size w w' := by
 obtain ⟨q, hq⟩ := je (a ^ n % m); rw [← hq]; have hqm : q < m := by rw [hq]; exact Nat.mod_lt _ (by omega)
 have C1 := jh (fun w => by have h := zt 1 1 rfl (by decide) w; unfold jo words at h; exact h); obtain ⟨L, hL⟩ := je (jX m); have hLI : ¬ (L : Int) ≤ 64 := by have := mt bits_short.1 (show ¬ m < jd by omega); omega
 have CB := jh (fun w => by have h := JN hm w; rw [← hL] at h; unfold jo words at h; exact h); have HAM := jh ha; have HM1 := jh h1; have HN9 := jh hn; have HML := jh hml; have HMM9 := jh hm; have HQ := jh hq; have hNl := hN.lt; have HN := jh hN; clear hq hL ha h1 hn hml hm hqm hN; unfold jo words
 go_enter Tryz.func63, Tryz.ntmps63
 go_wp2_with fail
 obtain ⟨w_0, e_0⟩ := je (w.alloc (.cells #[.int .u64 (jf jd a 0), .int .u64 (jf jd a 1), .int .u64 (jf jd a 2), .int .u64 (jf jd a 3)] 24)); have s_0 : w_0.heap.size = w.heap.size + 1 := by rw [e_0]; simp
 have b_0 := jc e_0; have n_0 : NumAt w_0 (w.heap.size) a := by rw [e_0]; exact NumAt.new w a _ _ rfl
 obtain ⟨w_1, e_1⟩ := je (w_0.alloc (.cells #[.int .u64 (jf jd a 0), .int .u64 (jf jd a 1), .int .u64 (jf jd a 2), .int .u64 (jf jd a 3)] 24)); have s_1 : w_1.heap.size = w.heap.size + 1 + 1 := by rw [e_1]; simp [s_0]
 have b_1 := jc e_1; have n_1 : NumAt w_1 (w.heap.size + 1) a := by rw [e_1]; exact NumAt.new w_0 a _ _ s_0.symm
 obtain ⟨w_2, e_2⟩ := je (w_1.alloc (.cells #[.int .u64 (jf jd m 0), .int .u64 (jf jd m 1), .int .u64 (jf jd m 2), .int .u64 (jf jd m 3)] 24)); have s_2 : w_2.heap.size = w.heap.size + 1 + 1 + 1 := by rw [e_2]; simp [s_1]
 have b_2 := jc e_2; have n_2 : NumAt w_2 (w.heap.size + 1 + 1) m := by rw [e_2]; exact NumAt.new w_1 m _ _ s_1.symm
 obtain ⟨wz, e_3⟩ := je (w_2.alloc (.cells #[.int .u64 0, .int .u64 0, .int .u64 0, .int .u64 0] 24)); have s_3 : wz.heap.size = w.heap.size + 1 + 1 + 1 + 1 := by rw [e_3]; simp [s_2]
 have b_3 := jc e_3; have n_3 : NumAt wz (w.heap.size + 1 + 1 + 1) 0 := by rw [e_3, ← s_2]; exact jD w_2 _
 have f_3 : FreeN wz (w.heap.size + 1 + 1 + 1) 4 := by rw [e_3]; exact FreeN.made w_2 _ _ 4 _ s_2.symm
 rw [← e_0, ← e_1, ← e_2, ← e_3]; obtain ⟨AA, h_0⟩ := je (w.heap.size); obtain ⟨BB, h_1⟩ := je (AA + 1); obtain ⟨MM, h_2⟩ := je (BB + 1); obtain ⟨RR, h_3⟩ := je (MM + 1); have hwL : w.heap.size ≤ AA := by omega
 have hRd : RR < wz.heap.size := by omega
 rw [← h_0] at n_0 n_1 n_2 n_3 f_3 ⊢; rw [← h_1] at n_1 n_2 n_3 f_3 ⊢; rw [← h_2] at n_2 n_3 f_3 ⊢; rw [← h_3] at n_3 f_3 ⊢; have l_1 : AA < BB := by omega
 have l_2 : BB < MM := by omega
 have l_3 : MM < RR := by omega
 have HAA := jh (NumAt.later b_3 (NumAt.later b_2 (NumAt.later b_1 n_0))); have HBB := jh (NumAt.later b_3 (NumAt.later b_2 n_1)); have HMM := jh (NumAt.later b_3 n_2); have HRR := jh n_3; have HF := jh f_3; have B := jh (((b_0.trans (b_1.mono (by omega))).trans (b_2.mono (by omega))).trans (b_3.mono (by omega))); have hwRR : w.heap.size ≤ RR := by omega
 have HSZ := jh (show wz.heap.size = RR + 1 by omega); clear e_0 s_0 b_0 n_0 h_0 e_1 s_1 b_1 n_1 h_1 e_2 s_2 b_2 n_2 h_2 e_3 s_3 b_3 n_3 h_3 f_3; have HNN := jh (NumAt.later (B.out.mono (Nat.le_refl _)) HN.out); clear HN; obtain ⟨NN, hNN9⟩ := je (N); rw [← hNN9] at HNN hNl ⊢; clear hNN9; refine (CB.out _).mono ?_; rintro _ w2 ⟨rfl, hb⟩; have HAA := jn hb HAA; have HBB := jn hb HBB; have HMM := jn hb HMM; have HRR := jn hb HRR; have HNN := jn hb HNN; have HF := jh (HF.out.later hb hRd); have hRd := Nat.lt_of_lt_of_le hRd hb.size; have B := jw B hb; clear hb; obtain ⟨r_AA_0, r_AA_1, r_AA_2, r_AA_3⟩ := jM HAA.out; obtain ⟨r_NN_0, r_NN_1, r_NN_2, r_NN_3⟩ := jM HNN.out
 go_wp2_with fail
 clear r_AA_0 r_AA_1 r_AA_2 r_AA_3 r_NN_0 r_NN_1 r_NN_2 r_NN_3; refine jz 5 (fun _ => none) (by kernel_rfl) (by kernel_rfl) (fun _ _ _ _ _ h => h) (fun F hn9 hcl hbl => ?_); have r_AA_0 := jr hbl HAA 0 (by omega); have r_AA_1 := jr hbl HAA 1 (by omega); have r_AA_2 := jr hbl HAA 2 (by omega); have r_AA_3 := jr hbl HAA 3 (by omega); have r_NN_0 := jr hbl HNN 0 (by omega); have r_NN_1 := jr hbl HNN 1 (by omega); have r_NN_2 := jr hbl HNN 2 (by omega); have r_NN_3 := jr hbl HNN 3 (by omega); have CP := jh (fun X9 : Wd F => by have h := power_num (f := 69) (caps := #[.pointer (some ⟨MM, 0, none⟩)]) HAM.out HM1.out HMM9.out HN9.out X9.world (by intro args W; simp [go_sem]) (fun x y W hx hy hb => exp_long hx hy HMM9.out W (NumAt.later hb (NumAt.later (hbl X9.world X9.fact) HMM.out))); rw [← HQ.out] at h; unfold jo words at h; exact h); have HCL := jh hcl; clear hcl hbl; refine qe 5 0 _ _ (fun _ _ _ => rfl) (by decide) ?_; simp only [List.take_succ_cons, List.take_zero, List.drop_succ_cons, List.drop_zero, Nat.reduceAdd]
 repeat (go_big_quiet_step ((first | (go_at_call 40; with_reducible exact jy HCL.out (C1.out _)) | (go_at_call 68; with_reducible exact jy HCL.out (CP.out _)))))
 refine wpQuiet_nil ?_; refine qj ?_; intro bs w3 hb _ _; clear r_AA_0 r_AA_1 r_AA_2 r_AA_3 r_NN_0 r_NN_1 r_NN_2 r_NN_3; have HAA := jn hb HAA; have HBB := jn hb HBB; have HMM := jn hb HMM; have HRR := jn hb HRR; have HNN := jn hb HNN; have HF := jh (HF.out.later hb hRd); have hRd := Nat.lt_of_lt_of_le hRd hb.size; have B := jw B hb; clear hb; simp only [zn]; obtain ⟨c0, c1, c2, c3, f0, f1, f2, f3⟩ := jR HRR.out HF.out
 go_wp2_with fail
 have HRL := jh (NumAt.set4 HRR.out q); have B9 := jh (jA B.out hwRR (.int .u64 (jf jd q 0)) (.int .u64 (jf jd q 1)) (.int .u64 (jf jd q 2)) (.int .u64 (jf jd q 3))); obtain ⟨g0, g1, g2, g3⟩ := jM HRL.out; refine bodyPost_ret (v := .agg #[.int .u64 (jf jd q 0), .int .u64 (jf jd q 1), .int .u64 (jf jd q 2), .int .u64 (jf jd q 3)]) ?_ rfl ⟨rfl, B9.out⟩
 simp [results, Tryz.results63, go_sem, g0, g1, g2, g3]
theorem exp1_any {a n m N : Nat} (ha : a < m) (h1 : 1 < m) (hn : n < jk) (hm : m < jk) (w : World) (hN : NumAt w N n) :
  Calls Tryz.prog 63 #[jo a, jo a, jo m, .pointer (some ⟨N, 0, none⟩)] w fun e w' => e = .returned (jo (a ^ n % m)) ∧ Below w.heap.size w w' := by
 rcases Nat.lt_or_ge m jd with h | h
 ·exact exp1_short ha h1 hn h (.bool true) w hN
 ·exact exp1_long ha h1 hn h hm (.bool true) w hN
theorem Exp_any {a n m : Nat} (ha : a < m) (h1 : 1 < m) (hn : n < jk) (hm : m < jk) (w : World) :
  Calls Tryz.prog 39 #[jo a, jo n, jo m] w fun e w' => e = .returned (.tuple #[jo (a ^ n % m), .int .i64 0]) ∧ Below w.heap.size w w' := by
 obtain ⟨q, hq⟩ := je (a ^ n % m); rw [← hq]; have HQ := jh hq; have HA9 := jh ha; have HM1 := jh h1; have HN9 := jh hn; have HM9 := jh hm; clear hq ha h1 hn hm; unfold jo words
 go_enter Tryz.func39, Tryz.ntmps39
 go_wp2_with fail
 obtain ⟨w_0, e_0⟩ := je (w.alloc (.cells #[.int .u64 (jf jd a 0), .int .u64 (jf jd a 1), .int .u64 (jf jd a 2), .int .u64 (jf jd a 3)] 24)); have s_0 : w_0.heap.size = w.heap.size + 1 := by rw [e_0]; simp
 have b_0 := jc e_0; have n_0 : NumAt w_0 (w.heap.size) a := by rw [e_0]; exact NumAt.new w a _ _ rfl
 obtain ⟨w_1, e_1⟩ := je (w_0.alloc (.cells #[.int .u64 (jf jd n 0), .int .u64 (jf jd n 1), .int .u64 (jf jd n 2), .int .u64 (jf jd n 3)] 24)); have s_1 : w_1.heap.size = w.heap.size + 1 + 1 := by rw [e_1]; simp [s_0]
 have b_1 := jc e_1; have n_1 : NumAt w_1 (w.heap.size + 1) n := by rw [e_1]; exact NumAt.new w_0 n _ _ s_0.symm
 obtain ⟨w_2, e_2⟩ := je (w_1.alloc (.cells #[.int .u64 (jf jd m 0), .int .u64 (jf jd m 1), .int .u64 (jf jd m 2), .int .u64 (jf jd m 3)] 24)); have s_2 : w_2.heap.size = w.heap.size + 1 + 1 + 1 := by rw [e_2]; simp [s_1]
 have b_2 := jc e_2; have n_2 : NumAt w_2 (w.heap.size + 1 + 1) m := by rw [e_2]; exact NumAt.new w_1 m _ _ s_1.symm
 obtain ⟨wz, e_3⟩ := je (w_2.alloc (.cells #[.int .u64 0, .int .u64 0, .int .u64 0, .int .u64 0] 24)); have s_3 : wz.heap.size = w.heap.size + 1 + 1 + 1 + 1 := by rw [e_3]; simp [s_2]
 have b_3 := jc e_3; have n_3 : NumAt wz (w.heap.size + 1 + 1 + 1) 0 := by rw [e_3, ← s_2]; exact jD w_2 _
 have f_3 : FreeN wz (w.heap.size + 1 + 1 + 1) 4 := by rw [e_3]; exact FreeN.made w_2 _ _ 4 _ s_2.symm
 rw [← e_0, ← e_1, ← e_2, ← e_3]; obtain ⟨AA, h_0⟩ := je (w.heap.size); obtain ⟨NN, h_1⟩ := je (AA + 1); obtain ⟨MM, h_2⟩ := je (NN + 1); obtain ⟨RR, h_3⟩ := je (MM + 1); have hwL : w.heap.size ≤ AA := by omega
 have hRd : RR < wz.heap.size := by omega
 rw [← h_0] at n_0 n_1 n_2 n_3 f_3 ⊢; rw [← h_1] at n_1 n_2 n_3 f_3 ⊢; rw [← h_2] at n_2 n_3 f_3 ⊢; rw [← h_3] at n_3 f_3 ⊢; have l_1 : AA < NN := by omega
 have l_2 : NN < MM := by omega
 have l_3 : MM < RR := by omega
 have HAA := jh (NumAt.later b_3 (NumAt.later b_2 (NumAt.later b_1 n_0))); have HNN := jh (NumAt.later b_3 (NumAt.later b_2 n_1)); have HMM := jh (NumAt.later b_3 n_2); have HRR := jh n_3; have HF := jh f_3; have B := jh (((b_0.trans (b_1.mono (by omega))).trans (b_2.mono (by omega))).trans (b_3.mono (by omega))); have hwRR : w.heap.size ≤ RR := by omega
 have HSZ := jh (show wz.heap.size = RR + 1 by omega); clear e_0 s_0 b_0 n_0 h_0 e_1 s_1 b_1 n_1 h_1 e_2 s_2 b_2 n_2 h_2 e_3 s_3 b_3 n_3 h_3 f_3; have CO := of_may (q := q) (f := 63) (caps := #[.pointer (some ⟨NN, 0, none⟩)]) HA9.out HA9.out HM1.out HM9.out wz (by intro args W; simp [go_sem]) (fun W hb => by have h := exp1_any HA9.out HM1.out HN9.out HM9.out W (NumAt.later hb HNN.out); rw [← HQ.out] at h; exact h); unfold jo words at CO; refine CO.mono ?_; rintro _ w3 ⟨rfl, hb⟩; clear CO; have HAA := jn hb HAA; have HNN := jn hb HNN; have HMM := jn hb HMM; have HRR := jn hb HRR; have HF := jh (HF.out.later hb hRd); have hRd := Nat.lt_of_lt_of_le hRd hb.size; have B := jw B hb; clear hb; obtain ⟨c0, c1, c2, c3, f0, f1, f2, f3⟩ := jR HRR.out HF.out
 go_wp2_with fail
 have HRL := jh (NumAt.set4 HRR.out q); have B9 := jh (jA B.out hwRR (.int .u64 (jf jd q 0)) (.int .u64 (jf jd q 1)) (.int .u64 (jf jd q 2)) (.int .u64 (jf jd q 3))); obtain ⟨g0, g1, g2, g3⟩ := jM HRL.out; refine bodyPost_ret (v := .tuple #[.agg #[.int .u64 (jf jd q 0), .int .u64 (jf jd q 1), .int .u64 (jf jd q 2), .int .u64 (jf jd q 3)], .int .i64 0]) ?_ rfl ⟨rfl, B9.out⟩
 simp [results, Tryz.results39, go_sem, g0, g1, g2, g3]
theorem Mul_any {a n m : Nat} (ha : a < m) (h1 : 1 < m) (hn : n < m) (hm : m < jk) (w : World) :
  Calls Tryz.prog 93 #[jo a, jo n, jo m] w fun e w' => e = .returned (.tuple #[jo (a * n % m), .int .i64 0]) ∧ Below w.heap.size w w' := by
 obtain ⟨q, hq⟩ := je (a * n % m); rw [← hq]; have HQ := jh hq; have HA9 := jh ha; have HM1 := jh h1; have HN9 := jh hn; have HM9 := jh hm; clear hq ha h1 hn hm; unfold jo words
 go_enter Tryz.func93, Tryz.ntmps93
 go_wp2_with fail
 obtain ⟨w_0, e_0⟩ := je (w.alloc (.cells #[.int .u64 (jf jd a 0), .int .u64 (jf jd a 1), .int .u64 (jf jd a 2), .int .u64 (jf jd a 3)] 24)); have s_0 : w_0.heap.size = w.heap.size + 1 := by rw [e_0]; simp
 have b_0 := jc e_0; have n_0 : NumAt w_0 (w.heap.size) a := by rw [e_0]; exact NumAt.new w a _ _ rfl
 obtain ⟨w_1, e_1⟩ := je (w_0.alloc (.cells #[.int .u64 (jf jd n 0), .int .u64 (jf jd n 1), .int .u64 (jf jd n 2), .int .u64 (jf jd n 3)] 24)); have s_1 : w_1.heap.size = w.heap.size + 1 + 1 := by rw [e_1]; simp [s_0]
 have b_1 := jc e_1; have n_1 : NumAt w_1 (w.heap.size + 1) n := by rw [e_1]; exact NumAt.new w_0 n _ _ s_0.symm
 obtain ⟨w_2, e_2⟩ := je (w_1.alloc (.cells #[.int .u64 (jf jd m 0), .int .u64 (jf jd m 1), .int .u64 (jf jd m 2), .int .u64 (jf jd m 3)] 24)); have s_2 : w_2.heap.size = w.heap.size + 1 + 1 + 1 := by rw [e_2]; simp [s_1]
 have b_2 := jc e_2; have n_2 : NumAt w_2 (w.heap.size + 1 + 1) m := by rw [e_2]; exact NumAt.new w_1 m _ _ s_1.symm
 obtain ⟨wz, e_3⟩ := je (w_2.alloc (.cells #[.int .u64 0, .int .u64 0, .int .u64 0, .int .u64 0] 24)); have s_3 : wz.heap.size = w.heap.size + 1 + 1 + 1 + 1 := by rw [e_3]; simp [s_2]
 have b_3 := jc e_3; have n_3 : NumAt wz (w.heap.size + 1 + 1 + 1) 0 := by rw [e_3, ← s_2]; exact jD w_2 _
 have f_3 : FreeN wz (w.heap.size + 1 + 1 + 1) 4 := by rw [e_3]; exact FreeN.made w_2 _ _ 4 _ s_2.symm
 rw [← e_0, ← e_1, ← e_2, ← e_3]; obtain ⟨AA, h_0⟩ := je (w.heap.size); obtain ⟨NN, h_1⟩ := je (AA + 1); obtain ⟨MM, h_2⟩ := je (NN + 1); obtain ⟨RR, h_3⟩ := je (MM + 1); have hwL : w.heap.size ≤ AA := by omega
 have hRd : RR < wz.heap.size := by omega
 rw [← h_0] at n_0 n_1 n_2 n_3 f_3 ⊢; rw [← h_1] at n_1 n_2 n_3 f_3 ⊢; rw [← h_2] at n_2 n_3 f_3 ⊢; rw [← h_3] at n_3 f_3 ⊢; have l_1 : AA < NN := by omega
 have l_2 : NN < MM := by omega
 have l_3 : MM < RR := by omega
 have HAA := jh (NumAt.later b_3 (NumAt.later b_2 (NumAt.later b_1 n_0))); have HNN := jh (NumAt.later b_3 (NumAt.later b_2 n_1)); have HMM := jh (NumAt.later b_3 n_2); have HRR := jh n_3; have HF := jh f_3; have B := jh (((b_0.trans (b_1.mono (by omega))).trans (b_2.mono (by omega))).trans (b_3.mono (by omega))); have hwRR : w.heap.size ≤ RR := by omega
 have HSZ := jh (show wz.heap.size = RR + 1 by omega); clear e_0 s_0 b_0 n_0 h_0 e_1 s_1 b_1 n_1 h_1 e_2 s_2 b_2 n_2 h_2 e_3 s_3 b_3 n_3 h_3 f_3; have CO := of_may (q := q) (f := 70) (caps := #[]) HA9.out HN9.out HM1.out HM9.out wz (by intro args W; simp [go_sem]) (fun W hb => by have h := mtimes_any HA9.out HN9.out HM9.out W; rw [← HQ.out] at h; exact h); unfold jo words at CO; refine CO.mono ?_; rintro _ w3 ⟨rfl, hb⟩; clear CO; have HAA := jn hb HAA; have HNN := jn hb HNN; have HMM := jn hb HMM; have HRR := jn hb HRR; have HF := jh (HF.out.later hb hRd); have hRd := Nat.lt_of_lt_of_le hRd hb.size; have B := jw B hb; clear hb; obtain ⟨c0, c1, c2, c3, f0, f1, f2, f3⟩ := jR HRR.out HF.out
 go_wp2_with fail
 have HRL := jh (NumAt.set4 HRR.out q); have B9 := jh (jA B.out hwRR (.int .u64 (jf jd q 0)) (.int .u64 (jf jd q 1)) (.int .u64 (jf jd q 2)) (.int .u64 (jf jd q 3))); obtain ⟨g0, g1, g2, g3⟩ := jM HRL.out; refine bodyPost_ret (v := .tuple #[.agg #[.int .u64 (jf jd q 0), .int .u64 (jf jd q 1), .int .u64 (jf jd q 2), .int .u64 (jf jd q 3)], .int .i64 0]) ?_ rfl ⟨rfl, B9.out⟩
 simp [results, Tryz.results93, go_sem, g0, g1, g2, g3]
theorem addM {a b m s : Nat} (ha : a < m) (hb : b < m) (hs : s = a + b) : (a + b) % m = if m ≤ s then s - m else s := by
 rw [← hs]
 split
 ·rename_i h
  rw [Nat.mod_eq_sub_mod h, Nat.mod_eq_of_lt (by omega)]
 ·exact Nat.mod_eq_of_lt (by omega)
theorem add1_big {a b m : Nat} (ha : a < m) (hb9 : b < m) (hm : m < jk) (hs : jk ≤ a + b) (w : World) :
  Calls Tryz.prog 137 #[jo a, jo b, jo m] w fun e w' => e = .returned (jo ((a + b) % m)) ∧ Below w.heap.size w w' := by
 have ha9 := Nat.lt_trans ha hm; have hb8 := Nat.lt_trans hb9 hm; have hM := addM ha hb9 rfl; obtain ⟨x, hx⟩ := je (JQ a b); have hx9 : x < jk := by rw [hx]; exact addN_lt _ _
 obtain ⟨q, hq⟩ := je ((a + b) % m); have eC : JO a b = 1 := by unfold JO; unfold jk at *; omega
 have hq9 : q = a + b - m := by rw [hq, hM]; unfold JQ at hx; unfold jk at *; split <;> omega
 have ex : x = a + b - jk := by rw [hx]; unfold JQ; unfold jk at *; omega
 have ey : Qw x m = q := by rw [ex, hq9]; unfold Qw; unfold jk at *; omega
 obtain ⟨l, hl⟩ := je (zp x m); obtain ⟨y, hy⟩ := je (Qw x m); have C1 := jh (fun w => by have h := Zm ha9 hb8 w; rw [eC, ← hx] at h; unfold jo words at h; exact h); have C2 := jh (fun w => by have h := JU hx9 hm w; rw [← hl, ← hy] at h; unfold jo words at h; exact h); have HY := jh (hy.trans ey); rw [← hq]; clear hM hx hx9 hq eC hq9 ex ey hl hy ha hb9 hm hs ha9 hb8; unfold jo words
 go_enter Tryz.func137, Tryz.ntmps137
 go_wp2_with fail
 obtain ⟨w_0, e_0⟩ := je (w.alloc (.cells #[.int .u64 (jf jd a 0), .int .u64 (jf jd a 1), .int .u64 (jf jd a 2), .int .u64 (jf jd a 3)] 24)); have s_0 : w_0.heap.size = w.heap.size + 1 := by rw [e_0]; simp
 have b_0 := jc e_0; have n_0 : NumAt w_0 (w.heap.size) a := by rw [e_0]; exact NumAt.new w a _ _ rfl
 obtain ⟨w_1, e_1⟩ := je (w_0.alloc (.cells #[.int .u64 (jf jd b 0), .int .u64 (jf jd b 1), .int .u64 (jf jd b 2), .int .u64 (jf jd b 3)] 24)); have s_1 : w_1.heap.size = w.heap.size + 1 + 1 := by rw [e_1]; simp [s_0]
 have b_1 := jc e_1; have n_1 : NumAt w_1 (w.heap.size + 1) b := by rw [e_1]; exact NumAt.new w_0 b _ _ s_0.symm
 obtain ⟨w_2, e_2⟩ := je (w_1.alloc (.cells #[.int .u64 (jf jd m 0), .int .u64 (jf jd m 1), .int .u64 (jf jd m 2), .int .u64 (jf jd m 3)] 24)); have s_2 : w_2.heap.size = w.heap.size + 1 + 1 + 1 := by rw [e_2]; simp [s_1]
 have b_2 := jc e_2; have n_2 : NumAt w_2 (w.heap.size + 1 + 1) m := by rw [e_2]; exact NumAt.new w_1 m _ _ s_1.symm
 obtain ⟨wz, e_3⟩ := je (w_2.alloc (.cells #[.int .u64 0, .int .u64 0, .int .u64 0, .int .u64 0] 24)); have s_3 : wz.heap.size = w.heap.size + 1 + 1 + 1 + 1 := by rw [e_3]; simp [s_2]
 have b_3 := jc e_3; have n_3 : NumAt wz (w.heap.size + 1 + 1 + 1) 0 := by rw [e_3, ← s_2]; exact jD w_2 _
 have f_3 : FreeN wz (w.heap.size + 1 + 1 + 1) 4 := by rw [e_3]; exact FreeN.made w_2 _ _ 4 _ s_2.symm
 rw [← e_0, ← e_1, ← e_2, ← e_3]; obtain ⟨AA, h_0⟩ := je (w.heap.size); obtain ⟨BB, h_1⟩ := je (AA + 1); obtain ⟨MM, h_2⟩ := je (BB + 1); obtain ⟨RR, h_3⟩ := je (MM + 1); have hwL : w.heap.size ≤ AA := by omega
 have hRd : RR < wz.heap.size := by omega
 rw [← h_0] at n_0 n_1 n_2 n_3 f_3 ⊢; rw [← h_1] at n_1 n_2 n_3 f_3 ⊢; rw [← h_2] at n_2 n_3 f_3 ⊢; rw [← h_3] at n_3 f_3 ⊢; have l_1 : AA < BB := by omega
 have l_2 : BB < MM := by omega
 have l_3 : MM < RR := by omega
 have HAA := jh (NumAt.later b_3 (NumAt.later b_2 (NumAt.later b_1 n_0))); have HBB := jh (NumAt.later b_3 (NumAt.later b_2 n_1)); have HMM := jh (NumAt.later b_3 n_2); have HRR := jh n_3; have HF := jh f_3; have B := jh (((b_0.trans (b_1.mono (by omega))).trans (b_2.mono (by omega))).trans (b_3.mono (by omega))); have hwRR : w.heap.size ≤ RR := by omega
 have HSZ := jh (show wz.heap.size = RR + 1 by omega); clear e_0 s_0 b_0 n_0 h_0 e_1 s_1 b_1 n_1 h_1 e_2 s_2 b_2 n_2 h_2 e_3 s_3 b_3 n_3 h_3 f_3; refine (C1.out _).mono ?_; rintro _ w2 ⟨rfl, hb⟩; have HAA := jn hb HAA; have HBB := jn hb HBB; have HMM := jn hb HMM; have HRR := jn hb HRR; have HF := jh (HF.out.later hb hRd); have hRd := Nat.lt_of_lt_of_le hRd hb.size; have B := jw B hb; clear hb; have q_0 := fun o1 => (NumAt.alloc HMM.out o1) 0 (by omega)
 have q_1 := fun o1 => (NumAt.alloc HMM.out o1) 1 (by omega)
 have q_2 := fun o1 => (NumAt.alloc HMM.out o1) 2 (by omega)
 have q_3 := fun o1 => (NumAt.alloc HMM.out o1) 3 (by omega)
 go_wp2_with fail
 clear q_0 q_1 q_2 q_3; obtain ⟨w3, e3⟩ := je (w2.alloc (.cells #[.int .u64 (jf jd x 0), .int .u64 (jf jd x 1), .int .u64 (jf jd x 2), .int .u64 (jf jd x 3)] 24)); obtain ⟨XX, hX⟩ := je (w2.heap.size); have hb := jc e3; have HXX := jh (show NumAt w3 XX x by rw [e3]; exact NumAt.new w2 x _ _ hX); have nXR : XX ≠ RR := by omega
 rw [← e3, ← hX]; clear e3 hX; have HAA := jn hb HAA; have HBB := jn hb HBB; have HMM := jn hb HMM; have HRR := jn hb HRR; have HF := jh (HF.out.later hb hRd); have hRd := Nat.lt_of_lt_of_le hRd hb.size; have B := jw B hb; clear hb; refine (C2.out _).mono ?_; rintro _ w4 ⟨rfl, hb⟩; have HAA := jn hb HAA; have HBB := jn hb HBB; have HMM := jn hb HMM; have HRR := jn hb HRR; have HXX := jn hb HXX; have HF := jh (HF.out.later hb hRd); have hRd := Nat.lt_of_lt_of_le hRd hb.size; have B := jw B hb; clear hb; obtain ⟨c0, c1, c2, c3, f0, f1, f2, f3⟩ := jR HRR.out HF.out; obtain ⟨r_XX_0, r_XX_1, r_XX_2, r_XX_3⟩ := jM HXX.out
 go_wp2_with fail
 rw [HY.out]; have HRL := jh (NumAt.set4 HRR.out q); have B9 := jh (jA B.out hwRR (.int .u64 (jf jd q 0)) (.int .u64 (jf jd q 1)) (.int .u64 (jf jd q 2)) (.int .u64 (jf jd q 3))); have hba : ∀ W : World, Below W.heap.size W (W.alloc (.cells #[.int .u64 (jf jd q 0), .int .u64 (jf jd q 1), .int .u64 (jf jd q 2), .int .u64 (jf jd q 3)] 24)) := fun W => ja
 have B9 := jh (jm B9.out (hba _)); have HRL := jh (NumAt.later (hba _) HRL.out); clear hba; obtain ⟨g0, g1, g2, g3⟩ := jM HRL.out; refine bodyPost_ret (v := .agg #[.int .u64 (jf jd q 0), .int .u64 (jf jd q 1), .int .u64 (jf jd q 2), .int .u64 (jf jd q 3)]) ?_ rfl ⟨rfl, B9.out⟩
 simp [results, Tryz.results137, go_sem, g0, g1, g2, g3]
theorem add1_over {a b m : Nat} (ha : a < m) (hb9 : b < m) (hm : m < jk) (hs : m ≤ a + b) (h256 : a + b < jk) (w : World) :
  Calls Tryz.prog 137 #[jo a, jo b, jo m] w fun e w' => e = .returned (jo ((a + b) % m)) ∧ Below w.heap.size w w' := by
 have ha9 := Nat.lt_trans ha hm; have hb8 := Nat.lt_trans hb9 hm; have hM := addM ha hb9 rfl; obtain ⟨x, hx⟩ := je (JQ a b); have hx9 : x < jk := by rw [hx]; exact addN_lt _ _
 obtain ⟨q, hq⟩ := je ((a + b) % m); have eC : JO a b = 0 := by unfold JO; unfold jk at *; omega
 have hq9 : q = a + b - m := by rw [hq, hM]; unfold JQ at hx; unfold jk at *; split <;> omega
 have ex : x = a + b := by rw [hx]; unfold JQ; unfold jk at *; omega
 have ey : Qw x m = q := by rw [ex, hq9]; unfold Qw; unfold jk at *; omega
 have el : zp x m = 0 := by unfold zp; rw [if_neg (by omega)]
 obtain ⟨l, hl⟩ := je (zp x m); obtain ⟨y, hy⟩ := je (Qw x m); have C1 := jh (fun w => by have h := Zm ha9 hb8 w; rw [eC, ← hx] at h; unfold jo words at h; exact h); have C2 := jh (fun w => by have h := JU hx9 hm w; rw [← hl, ← hy] at h; unfold jo words at h; exact h); have HY := jh (hy.trans ey); have HLq := jh (hl.trans el); rw [hl.trans el] at C2; rw [← hq]; clear hM hx hx9 hq eC hq9 ex ey hl hy ha hb9 hm hs ha9 hb8 el h256; unfold jo words
 go_enter Tryz.func137, Tryz.ntmps137
 go_wp2_with fail
 obtain ⟨w_0, e_0⟩ := je (w.alloc (.cells #[.int .u64 (jf jd a 0), .int .u64 (jf jd a 1), .int .u64 (jf jd a 2), .int .u64 (jf jd a 3)] 24)); have s_0 : w_0.heap.size = w.heap.size + 1 := by rw [e_0]; simp
 have b_0 := jc e_0; have n_0 : NumAt w_0 (w.heap.size) a := by rw [e_0]; exact NumAt.new w a _ _ rfl
 obtain ⟨w_1, e_1⟩ := je (w_0.alloc (.cells #[.int .u64 (jf jd b 0), .int .u64 (jf jd b 1), .int .u64 (jf jd b 2), .int .u64 (jf jd b 3)] 24)); have s_1 : w_1.heap.size = w.heap.size + 1 + 1 := by rw [e_1]; simp [s_0]
 have b_1 := jc e_1; have n_1 : NumAt w_1 (w.heap.size + 1) b := by rw [e_1]; exact NumAt.new w_0 b _ _ s_0.symm
 obtain ⟨w_2, e_2⟩ := je (w_1.alloc (.cells #[.int .u64 (jf jd m 0), .int .u64 (jf jd m 1), .int .u64 (jf jd m 2), .int .u64 (jf jd m 3)] 24)); have s_2 : w_2.heap.size = w.heap.size + 1 + 1 + 1 := by rw [e_2]; simp [s_1]
 have b_2 := jc e_2; have n_2 : NumAt w_2 (w.heap.size + 1 + 1) m := by rw [e_2]; exact NumAt.new w_1 m _ _ s_1.symm
 obtain ⟨wz, e_3⟩ := je (w_2.alloc (.cells #[.int .u64 0, .int .u64 0, .int .u64 0, .int .u64 0] 24)); have s_3 : wz.heap.size = w.heap.size + 1 + 1 + 1 + 1 := by rw [e_3]; simp [s_2]
 have b_3 := jc e_3; have n_3 : NumAt wz (w.heap.size + 1 + 1 + 1) 0 := by rw [e_3, ← s_2]; exact jD w_2 _
 have f_3 : FreeN wz (w.heap.size + 1 + 1 + 1) 4 := by rw [e_3]; exact FreeN.made w_2 _ _ 4 _ s_2.symm
 rw [← e_0, ← e_1, ← e_2, ← e_3]; obtain ⟨AA, h_0⟩ := je (w.heap.size); obtain ⟨BB, h_1⟩ := je (AA + 1); obtain ⟨MM, h_2⟩ := je (BB + 1); obtain ⟨RR, h_3⟩ := je (MM + 1); have hwL : w.heap.size ≤ AA := by omega
 have hRd : RR < wz.heap.size := by omega
 rw [← h_0] at n_0 n_1 n_2 n_3 f_3 ⊢; rw [← h_1] at n_1 n_2 n_3 f_3 ⊢; rw [← h_2] at n_2 n_3 f_3 ⊢; rw [← h_3] at n_3 f_3 ⊢; have l_1 : AA < BB := by omega
 have l_2 : BB < MM := by omega
 have l_3 : MM < RR := by omega
 have HAA := jh (NumAt.later b_3 (NumAt.later b_2 (NumAt.later b_1 n_0))); have HBB := jh (NumAt.later b_3 (NumAt.later b_2 n_1)); have HMM := jh (NumAt.later b_3 n_2); have HRR := jh n_3; have HF := jh f_3; have B := jh (((b_0.trans (b_1.mono (by omega))).trans (b_2.mono (by omega))).trans (b_3.mono (by omega))); have hwRR : w.heap.size ≤ RR := by omega
 have HSZ := jh (show wz.heap.size = RR + 1 by omega); clear e_0 s_0 b_0 n_0 h_0 e_1 s_1 b_1 n_1 h_1 e_2 s_2 b_2 n_2 h_2 e_3 s_3 b_3 n_3 h_3 f_3; refine (C1.out _).mono ?_; rintro _ w2 ⟨rfl, hb⟩; have HAA := jn hb HAA; have HBB := jn hb HBB; have HMM := jn hb HMM; have HRR := jn hb HRR; have HF := jh (HF.out.later hb hRd); have hRd := Nat.lt_of_lt_of_le hRd hb.size; have B := jw B hb; clear hb; have q_0 := fun o1 => (NumAt.alloc HMM.out o1) 0 (by omega)
 have q_1 := fun o1 => (NumAt.alloc HMM.out o1) 1 (by omega)
 have q_2 := fun o1 => (NumAt.alloc HMM.out o1) 2 (by omega)
 have q_3 := fun o1 => (NumAt.alloc HMM.out o1) 3 (by omega)
 go_wp2_with fail
 clear q_0 q_1 q_2 q_3; obtain ⟨w3, e3⟩ := je (w2.alloc (.cells #[.int .u64 (jf jd x 0), .int .u64 (jf jd x 1), .int .u64 (jf jd x 2), .int .u64 (jf jd x 3)] 24)); obtain ⟨XX, hX⟩ := je (w2.heap.size); have hb := jc e3; have HXX := jh (show NumAt w3 XX x by rw [e3]; exact NumAt.new w2 x _ _ hX); have nXR : XX ≠ RR := by omega
 rw [← e3, ← hX]; clear e3 hX; have HAA := jn hb HAA; have HBB := jn hb HBB; have HMM := jn hb HMM; have HRR := jn hb HRR; have HF := jh (HF.out.later hb hRd); have hRd := Nat.lt_of_lt_of_le hRd hb.size; have B := jw B hb; clear hb; refine (C2.out _).mono ?_; rintro _ w4 ⟨rfl, hb⟩; have HAA := jn hb HAA; have HBB := jn hb HBB; have HMM := jn hb HMM; have HRR := jn hb HRR; have HXX := jn hb HXX; have HF := jh (HF.out.later hb hRd); have hRd := Nat.lt_of_lt_of_le hRd hb.size; have B := jw B hb; clear hb; obtain ⟨c0, c1, c2, c3, f0, f1, f2, f3⟩ := jR HRR.out HF.out; obtain ⟨r_XX_0, r_XX_1, r_XX_2, r_XX_3⟩ := jM HXX.out
 go_wp2_with fail
 rw [HY.out]; have HRL := jh (NumAt.set4 HRR.out q); have B9 := jh (jA B.out hwRR (.int .u64 (jf jd q 0)) (.int .u64 (jf jd q 1)) (.int .u64 (jf jd q 2)) (.int .u64 (jf jd q 3))); have hba : ∀ W : World, Below W.heap.size W (W.alloc (.cells #[.int .u64 (jf jd q 0), .int .u64 (jf jd q 1), .int .u64 (jf jd q 2), .int .u64 (jf jd q 3)] 24)) := fun W => ja
 have B9 := jh (jm B9.out (hba _)); have HRL := jh (NumAt.later (hba _) HRL.out); clear hba; obtain ⟨g0, g1, g2, g3⟩ := jM HRL.out; refine bodyPost_ret (v := .agg #[.int .u64 (jf jd q 0), .int .u64 (jf jd q 1), .int .u64 (jf jd q 2), .int .u64 (jf jd q 3)]) ?_ rfl ⟨rfl, B9.out⟩
 simp [results, Tryz.results137, go_sem, g0, g1, g2, g3]
theorem add1_small {a b m : Nat} (ha : a < m) (hb9 : b < m) (hm : m < jk) (hs : a + b < m) (w : World) :
  Calls Tryz.prog 137 #[jo a, jo b, jo m] w fun e w' => e = .returned (jo ((a + b) % m)) ∧ Below w.heap.size w w' := by
 have ha9 := Nat.lt_trans ha hm; have hb8 := Nat.lt_trans hb9 hm; have hM := addM ha hb9 rfl; obtain ⟨x, hx⟩ := je (JQ a b); have hx9 : x < jk := by rw [hx]; exact addN_lt _ _
 obtain ⟨q, hq⟩ := je ((a + b) % m); have eC : JO a b = 0 := by unfold JO; unfold jk at *; omega
 have hq9 : q = a + b := by rw [hq, hM]; unfold JQ at hx; unfold jk at *; split <;> omega
 have ex : x = a + b := by rw [hx]; unfold JQ; unfold jk at *; omega
 have ey : x = q := by omega
 have el : zp x m = 1 := by unfold zp; rw [if_pos (by omega)]
 obtain ⟨l, hl⟩ := je (zp x m); obtain ⟨y, hy⟩ := je (Qw x m); have C1 := jh (fun w => by have h := Zm ha9 hb8 w; rw [eC, ← hx] at h; unfold jo words at h; exact h); have C2 := jh (fun w => by have h := JU hx9 hm w; rw [← hl, ← hy] at h; unfold jo words at h; exact h); have HY := jh ey; have HLq := jh (hl.trans el); rw [hl.trans el] at C2; rw [← hq]; clear hM hx hx9 hq eC hq9 ex ey hl hy ha hb9 hm hs ha9 hb8 el; unfold jo words
 go_enter Tryz.func137, Tryz.ntmps137
 go_wp2_with fail
 obtain ⟨w_0, e_0⟩ := je (w.alloc (.cells #[.int .u64 (jf jd a 0), .int .u64 (jf jd a 1), .int .u64 (jf jd a 2), .int .u64 (jf jd a 3)] 24)); have s_0 : w_0.heap.size = w.heap.size + 1 := by rw [e_0]; simp
 have b_0 := jc e_0; have n_0 : NumAt w_0 (w.heap.size) a := by rw [e_0]; exact NumAt.new w a _ _ rfl
 obtain ⟨w_1, e_1⟩ := je (w_0.alloc (.cells #[.int .u64 (jf jd b 0), .int .u64 (jf jd b 1), .int .u64 (jf jd b 2), .int .u64 (jf jd b 3)] 24)); have s_1 : w_1.heap.size = w.heap.size + 1 + 1 := by rw [e_1]; simp [s_0]
 have b_1 := jc e_1; have n_1 : NumAt w_1 (w.heap.size + 1) b := by rw [e_1]; exact NumAt.new w_0 b _ _ s_0.symm
 obtain ⟨w_2, e_2⟩ := je (w_1.alloc (.cells #[.int .u64 (jf jd m 0), .int .u64 (jf jd m 1), .int .u64 (jf jd m 2), .int .u64 (jf jd m 3)] 24)); have s_2 : w_2.heap.size = w.heap.size + 1 + 1 + 1 := by rw [e_2]; simp [s_1]
 have b_2 := jc e_2; have n_2 : NumAt w_2 (w.heap.size + 1 + 1) m := by rw [e_2]; exact NumAt.new w_1 m _ _ s_1.symm
 obtain ⟨wz, e_3⟩ := je (w_2.alloc (.cells #[.int .u64 0, .int .u64 0, .int .u64 0, .int .u64 0] 24)); have s_3 : wz.heap.size = w.heap.size + 1 + 1 + 1 + 1 := by rw [e_3]; simp [s_2]
 have b_3 := jc e_3; have n_3 : NumAt wz (w.heap.size + 1 + 1 + 1) 0 := by rw [e_3, ← s_2]; exact jD w_2 _
 have f_3 : FreeN wz (w.heap.size + 1 + 1 + 1) 4 := by rw [e_3]; exact FreeN.made w_2 _ _ 4 _ s_2.symm
 rw [← e_0, ← e_1, ← e_2, ← e_3]; obtain ⟨AA, h_0⟩ := je (w.heap.size); obtain ⟨BB, h_1⟩ := je (AA + 1); obtain ⟨MM, h_2⟩ := je (BB + 1); obtain ⟨RR, h_3⟩ := je (MM + 1); have hwL : w.heap.size ≤ AA := by omega
 have hRd : RR < wz.heap.size := by omega
 rw [← h_0] at n_0 n_1 n_2 n_3 f_3 ⊢; rw [← h_1] at n_1 n_2 n_3 f_3 ⊢; rw [← h_2] at n_2 n_3 f_3 ⊢; rw [← h_3] at n_3 f_3 ⊢; have l_1 : AA < BB := by omega
 have l_2 : BB < MM := by omega
 have l_3 : MM < RR := by omega
 have HAA := jh (NumAt.later b_3 (NumAt.later b_2 (NumAt.later b_1 n_0))); have HBB := jh (NumAt.later b_3 (NumAt.later b_2 n_1)); have HMM := jh (NumAt.later b_3 n_2); have HRR := jh n_3; have HF := jh f_3; have B := jh (((b_0.trans (b_1.mono (by omega))).trans (b_2.mono (by omega))).trans (b_3.mono (by omega))); have hwRR : w.heap.size ≤ RR := by omega
 have HSZ := jh (show wz.heap.size = RR + 1 by omega); clear e_0 s_0 b_0 n_0 h_0 e_1 s_1 b_1 n_1 h_1 e_2 s_2 b_2 n_2 h_2 e_3 s_3 b_3 n_3 h_3 f_3; refine (C1.out _).mono ?_; rintro _ w2 ⟨rfl, hb⟩; have HAA := jn hb HAA; have HBB := jn hb HBB; have HMM := jn hb HMM; have HRR := jn hb HRR; have HF := jh (HF.out.later hb hRd); have hRd := Nat.lt_of_lt_of_le hRd hb.size; have B := jw B hb; clear hb; have q_0 := fun o1 => (NumAt.alloc HMM.out o1) 0 (by omega)
 have q_1 := fun o1 => (NumAt.alloc HMM.out o1) 1 (by omega)
 have q_2 := fun o1 => (NumAt.alloc HMM.out o1) 2 (by omega)
 have q_3 := fun o1 => (NumAt.alloc HMM.out o1) 3 (by omega)
 go_wp2_with fail
 clear q_0 q_1 q_2 q_3; obtain ⟨w3, e3⟩ := je (w2.alloc (.cells #[.int .u64 (jf jd x 0), .int .u64 (jf jd x 1), .int .u64 (jf jd x 2), .int .u64 (jf jd x 3)] 24)); obtain ⟨XX, hX⟩ := je (w2.heap.size); have hb := jc e3; have HXX := jh (show NumAt w3 XX x by rw [e3]; exact NumAt.new w2 x _ _ hX); have nXR : XX ≠ RR := by omega
 rw [← e3, ← hX]; clear e3 hX; have HAA := jn hb HAA; have HBB := jn hb HBB; have HMM := jn hb HMM; have HRR := jn hb HRR; have HF := jh (HF.out.later hb hRd); have hRd := Nat.lt_of_lt_of_le hRd hb.size; have B := jw B hb; clear hb; refine (C2.out _).mono ?_; rintro _ w4 ⟨rfl, hb⟩; have HAA := jn hb HAA; have HBB := jn hb HBB; have HMM := jn hb HMM; have HRR := jn hb HRR; have HXX := jn hb HXX; have HF := jh (HF.out.later hb hRd); have hRd := Nat.lt_of_lt_of_le hRd hb.size; have B := jw B hb; clear hb; obtain ⟨c0, c1, c2, c3, f0, f1, f2, f3⟩ := jR HRR.out HF.out; have q_0 := fun o1 => (NumAt.alloc HXX.out o1) 0 (by omega)
 have q_1 := fun o1 => (NumAt.alloc HXX.out o1) 1 (by omega)
 have q_2 := fun o1 => (NumAt.alloc HXX.out o1) 2 (by omega)
 have q_3 := fun o1 => (NumAt.alloc HXX.out o1) 3 (by omega)
 go_wp2_with fail
 rw [HY.out]; have HRL := jh (NumAt.set4 HRR.out q); have B9 := jh (jA B.out hwRR (.int .u64 (jf jd q 0)) (.int .u64 (jf jd q 1)) (.int .u64 (jf jd q 2)) (.int .u64 (jf jd q 3))); have hba : ∀ W : World, Below W.heap.size W (W.alloc (.cells #[.int .u64 (jf jd y 0), .int .u64 (jf jd y 1), .int .u64 (jf jd y 2), .int .u64 (jf jd y 3)] 24)) := fun W => ja
 have B9 := jh (jm B9.out (hba _)); have HRL := jh (NumAt.later (hba _) HRL.out); clear hba; obtain ⟨g0, g1, g2, g3⟩ := jM HRL.out; refine bodyPost_ret (v := .agg #[.int .u64 (jf jd q 0), .int .u64 (jf jd q 1), .int .u64 (jf jd q 2), .int .u64 (jf jd q 3)]) ?_ rfl ⟨rfl, B9.out⟩
 simp [results, Tryz.results137, go_sem, g0, g1, g2, g3]
theorem add1_any {a b m : Nat} (ha : a < m) (hb : b < m) (hm : m < jk) (w : World) :
  Calls Tryz.prog 137 #[jo a, jo b, jo m] w fun e w' => e = .returned (jo ((a + b) % m)) ∧ Below w.heap.size w w' := by
 rcases Nat.lt_or_ge (a + b) m with h | h
 ·exact add1_small ha hb hm h w
 ·rcases Nat.lt_or_ge (a + b) jk with h9 | h9
  ·exact add1_over ha hb hm h h9 w
  ·exact add1_big ha hb hm h9 w
theorem Add_any {a n m : Nat} (ha : a < m) (h1 : 1 < m) (hn : n < m) (hm : m < jk) (w : World) :
  Calls Tryz.prog 120 #[jo a, jo n, jo m] w fun e w' => e = .returned (.tuple #[jo ((a + n) % m), .int .i64 0]) ∧ Below w.heap.size w w' := by
 obtain ⟨q, hq⟩ := je ((a + n) % m); rw [← hq]; have HQ := jh hq; have HA9 := jh ha; have HM1 := jh h1; have HN9 := jh hn; have HM9 := jh hm; clear hq ha h1 hn hm; unfold jo words
 go_enter Tryz.func120, Tryz.ntmps120
 go_wp2_with fail
 obtain ⟨w_0, e_0⟩ := je (w.alloc (.cells #[.int .u64 (jf jd a 0), .int .u64 (jf jd a 1), .int .u64 (jf jd a 2), .int .u64 (jf jd a 3)] 24)); have s_0 : w_0.heap.size = w.heap.size + 1 := by rw [e_0]; simp
 have b_0 := jc e_0; have n_0 : NumAt w_0 (w.heap.size) a := by rw [e_0]; exact NumAt.new w a _ _ rfl
 obtain ⟨w_1, e_1⟩ := je (w_0.alloc (.cells #[.int .u64 (jf jd n 0), .int .u64 (jf jd n 1), .int .u64 (jf jd n 2), .int .u64 (jf jd n 3)] 24)); have s_1 : w_1.heap.size = w.heap.size + 1 + 1 := by rw [e_1]; simp [s_0]
 have b_1 := jc e_1; have n_1 : NumAt w_1 (w.heap.size + 1) n := by rw [e_1]; exact NumAt.new w_0 n _ _ s_0.symm
 obtain ⟨w_2, e_2⟩ := je (w_1.alloc (.cells #[.int .u64 (jf jd m 0), .int .u64 (jf jd m 1), .int .u64 (jf jd m 2), .int .u64 (jf jd m 3)] 24)); have s_2 : w_2.heap.size = w.heap.size + 1 + 1 + 1 := by rw [e_2]; simp [s_1]
 have b_2 := jc e_2; have n_2 : NumAt w_2 (w.heap.size + 1 + 1) m := by rw [e_2]; exact NumAt.new w_1 m _ _ s_1.symm
 obtain ⟨wz, e_3⟩ := je (w_2.alloc (.cells #[.int .u64 0, .int .u64 0, .int .u64 0, .int .u64 0] 24)); have s_3 : wz.heap.size = w.heap.size + 1 + 1 + 1 + 1 := by rw [e_3]; simp [s_2]
 have b_3 := jc e_3; have n_3 : NumAt wz (w.heap.size + 1 + 1 + 1) 0 := by rw [e_3, ← s_2]; exact jD w_2 _
 have f_3 : FreeN wz (w.heap.size + 1 + 1 + 1) 4 := by rw [e_3]; exact FreeN.made w_2 _ _ 4 _ s_2.symm
 rw [← e_0, ← e_1, ← e_2, ← e_3]; obtain ⟨AA, h_0⟩ := je (w.heap.size); obtain ⟨NN, h_1⟩ := je (AA + 1); obtain ⟨MM, h_2⟩ := je (NN + 1); obtain ⟨RR, h_3⟩ := je (MM + 1); have hwL : w.heap.size ≤ AA := by omega
 have hRd : RR < wz.heap.size := by omega
 rw [← h_0] at n_0 n_1 n_2 n_3 f_3 ⊢; rw [← h_1] at n_1 n_2 n_3 f_3 ⊢; rw [← h_2] at n_2 n_3 f_3 ⊢; rw [← h_3] at n_3 f_3 ⊢; have l_1 : AA < NN := by omega
 have l_2 : NN < MM := by omega
 have l_3 : MM < RR := by omega
 have HAA := jh (NumAt.later b_3 (NumAt.later b_2 (NumAt.later b_1 n_0))); have HNN := jh (NumAt.later b_3 (NumAt.later b_2 n_1)); have HMM := jh (NumAt.later b_3 n_2); have HRR := jh n_3; have HF := jh f_3; have B := jh (((b_0.trans (b_1.mono (by omega))).trans (b_2.mono (by omega))).trans (b_3.mono (by omega))); have hwRR : w.heap.size ≤ RR := by omega
 have HSZ := jh (show wz.heap.size = RR + 1 by omega); clear e_0 s_0 b_0 n_0 h_0 e_1 s_1 b_1 n_1 h_1 e_2 s_2 b_2 n_2 h_2 e_3 s_3 b_3 n_3 h_3 f_3; have CO := of_may (q := q) (f := 137) (caps := #[]) HA9.out HN9.out HM1.out HM9.out wz (by intro args W; simp [go_sem]) (fun W hb => by have h := add1_any HA9.out HN9.out HM9.out W; rw [← HQ.out] at h; exact h); unfold jo words at CO; refine CO.mono ?_; rintro _ w3 ⟨rfl, hb⟩; clear CO; have HAA := jn hb HAA; have HNN := jn hb HNN; have HMM := jn hb HMM; have HRR := jn hb HRR; have HF := jh (HF.out.later hb hRd); have hRd := Nat.lt_of_lt_of_le hRd hb.size; have B := jw B hb; clear hb; obtain ⟨c0, c1, c2, c3, f0, f1, f2, f3⟩ := jR HRR.out HF.out
 go_wp2_with fail
 have HRL := jh (NumAt.set4 HRR.out q); have B9 := jh (jA B.out hwRR (.int .u64 (jf jd q 0)) (.int .u64 (jf jd q 1)) (.int .u64 (jf jd q 2)) (.int .u64 (jf jd q 3))); obtain ⟨g0, g1, g2, g3⟩ := jM HRL.out; refine bodyPost_ret (v := .tuple #[.agg #[.int .u64 (jf jd q 0), .int .u64 (jf jd q 1), .int .u64 (jf jd q 2), .int .u64 (jf jd q 3)], .int .i64 0]) ?_ rfl ⟨rfl, B9.out⟩
 simp [results, Tryz.results120, go_sem, g0, g1, g2, g3]
theorem sub1_less {a b m : Nat} (ha : a < m) (hb9 : b < m) (hm : m < jk) (hs : a < b) (w : World) :
  Calls Tryz.prog 121 #[jo a, jo b, jo m] w fun e w' => e = .returned (jo ((a + m - b) % m)) ∧ Below w.heap.size w w' := by
 have ha9 := Nat.lt_trans ha hm; have hb8 := Nat.lt_trans hb9 hm; obtain ⟨x, hx⟩ := je (Qw a b); have hx9 : x < jk := by rw [hx]; exact subN_lt _ _
 obtain ⟨q, hq⟩ := je ((a + m - b) % m); have hq9 : q = a + m - b := by rw [hq]; exact Nat.mod_eq_of_lt (by omega)
 have el : zp a b = 1 := by unfold zp; rw [if_pos hs]
 have ey : JQ x m = q := by rw [hx, hq9]; unfold JQ Qw; unfold jk at *; omega
 obtain ⟨c, hc⟩ := je (JO x m); have C2 := jh (fun w => by have h := Zm hx9 hm w; rw [ey, ← hc] at h; unfold jo words at h; exact h); have C1 := jh (fun w => by have h := JU ha9 hb8 w; rw [el, ← hx] at h; unfold jo words at h; exact h); have HY := jh ey; rw [← hq]; clear hx hx9 hq hq9 ey el ha hb9 hm hs ha9 hb8 hc; unfold jo words
 go_enter Tryz.func121, Tryz.ntmps121
 go_wp2_with fail
 obtain ⟨w_0, e_0⟩ := je (w.alloc (.cells #[.int .u64 (jf jd a 0), .int .u64 (jf jd a 1), .int .u64 (jf jd a 2), .int .u64 (jf jd a 3)] 24)); have s_0 : w_0.heap.size = w.heap.size + 1 := by rw [e_0]; simp
 have b_0 := jc e_0; have n_0 : NumAt w_0 (w.heap.size) a := by rw [e_0]; exact NumAt.new w a _ _ rfl
 obtain ⟨w_1, e_1⟩ := je (w_0.alloc (.cells #[.int .u64 (jf jd b 0), .int .u64 (jf jd b 1), .int .u64 (jf jd b 2), .int .u64 (jf jd b 3)] 24)); have s_1 : w_1.heap.size = w.heap.size + 1 + 1 := by rw [e_1]; simp [s_0]
 have b_1 := jc e_1; have n_1 : NumAt w_1 (w.heap.size + 1) b := by rw [e_1]; exact NumAt.new w_0 b _ _ s_0.symm
 obtain ⟨w_2, e_2⟩ := je (w_1.alloc (.cells #[.int .u64 (jf jd m 0), .int .u64 (jf jd m 1), .int .u64 (jf jd m 2), .int .u64 (jf jd m 3)] 24)); have s_2 : w_2.heap.size = w.heap.size + 1 + 1 + 1 := by rw [e_2]; simp [s_1]
 have b_2 := jc e_2; have n_2 : NumAt w_2 (w.heap.size + 1 + 1) m := by rw [e_2]; exact NumAt.new w_1 m _ _ s_1.symm
 obtain ⟨wz, e_3⟩ := je (w_2.alloc (.cells #[.int .u64 0, .int .u64 0, .int .u64 0, .int .u64 0] 24)); have s_3 : wz.heap.size = w.heap.size + 1 + 1 + 1 + 1 := by rw [e_3]; simp [s_2]
 have b_3 := jc e_3; have n_3 : NumAt wz (w.heap.size + 1 + 1 + 1) 0 := by rw [e_3, ← s_2]; exact jD w_2 _
 have f_3 : FreeN wz (w.heap.size + 1 + 1 + 1) 4 := by rw [e_3]; exact FreeN.made w_2 _ _ 4 _ s_2.symm
 rw [← e_0, ← e_1, ← e_2, ← e_3]; obtain ⟨AA, h_0⟩ := je (w.heap.size); obtain ⟨BB, h_1⟩ := je (AA + 1); obtain ⟨MM, h_2⟩ := je (BB + 1); obtain ⟨RR, h_3⟩ := je (MM + 1); have hwL : w.heap.size ≤ AA := by omega
 have hRd : RR < wz.heap.size := by omega
 rw [← h_0] at n_0 n_1 n_2 n_3 f_3 ⊢; rw [← h_1] at n_1 n_2 n_3 f_3 ⊢; rw [← h_2] at n_2 n_3 f_3 ⊢; rw [← h_3] at n_3 f_3 ⊢; have l_1 : AA < BB := by omega
 have l_2 : BB < MM := by omega
 have l_3 : MM < RR := by omega
 have HAA := jh (NumAt.later b_3 (NumAt.later b_2 (NumAt.later b_1 n_0))); have HBB := jh (NumAt.later b_3 (NumAt.later b_2 n_1)); have HMM := jh (NumAt.later b_3 n_2); have HRR := jh n_3; have HF := jh f_3; have B := jh (((b_0.trans (b_1.mono (by omega))).trans (b_2.mono (by omega))).trans (b_3.mono (by omega))); have hwRR : w.heap.size ≤ RR := by omega
 have HSZ := jh (show wz.heap.size = RR + 1 by omega); clear e_0 s_0 b_0 n_0 h_0 e_1 s_1 b_1 n_1 h_1 e_2 s_2 b_2 n_2 h_2 e_3 s_3 b_3 n_3 h_3 f_3; refine (C1.out _).mono ?_; rintro _ w2 ⟨rfl, hb⟩; have HAA := jn hb HAA; have HBB := jn hb HBB; have HMM := jn hb HMM; have HRR := jn hb HRR; have HF := jh (HF.out.later hb hRd); have hRd := Nat.lt_of_lt_of_le hRd hb.size; have B := jw B hb; clear hb; have q_0 := fun o1 => (NumAt.alloc HMM.out o1) 0 (by omega)
 have q_1 := fun o1 => (NumAt.alloc HMM.out o1) 1 (by omega)
 have q_2 := fun o1 => (NumAt.alloc HMM.out o1) 2 (by omega)
 have q_3 := fun o1 => (NumAt.alloc HMM.out o1) 3 (by omega)
 go_wp2_with fail
 clear q_0 q_1 q_2 q_3; obtain ⟨w3, e3⟩ := je (w2.alloc (.cells #[.int .u64 (jf jd x 0), .int .u64 (jf jd x 1), .int .u64 (jf jd x 2), .int .u64 (jf jd x 3)] 24)); obtain ⟨XX, hX⟩ := je (w2.heap.size); have hb := jc e3; have HXX := jh (show NumAt w3 XX x by rw [e3]; exact NumAt.new w2 x _ _ hX); have HFX := jh (show FreeN w3 XX 4 by rw [e3]; exact FreeN.made w2 _ _ 4 _ hX); have nRX : RR ≠ XX := by omega
 have hXl : XX < w3.heap.size := by rw [e3, hX]; simp
 have hwX : w.heap.size ≤ XX := by omega
 rw [← e3, ← hX]; clear e3 hX; have HAA := jn hb HAA; have HBB := jn hb HBB; have HMM := jn hb HMM; have HRR := jn hb HRR; have HF := jh (HF.out.later hb hRd); have hRd := Nat.lt_of_lt_of_le hRd hb.size; have B := jw B hb; clear hb; refine (C2.out _).mono ?_; rintro _ w4 ⟨rfl, hb⟩; have HFX := jh (HFX.out.later hb hXl); have hXl := Nat.lt_of_lt_of_le hXl hb.size; have HAA := jn hb HAA; have HBB := jn hb HBB; have HMM := jn hb HMM; have HRR := jn hb HRR; have HXX := jn hb HXX; have HF := jh (HF.out.later hb hRd); have hRd := Nat.lt_of_lt_of_le hRd hb.size; have B := jw B hb; clear hb; have n4 := NumAt.set4 HXX.out q; have f4 := FreeN.set4 HF.out ⟨XX, 0, none⟩ ⟨XX, 1, none⟩ ⟨XX, 2, none⟩ ⟨XX, 3, none⟩ (.int .u64 (jf jd q 0)) (.int .u64 (jf jd q 1)) (.int .u64 (jf jd q 2)) (.int .u64 (jf jd q 3)); have hXX4 := jR HXX.out HFX.out; obtain ⟨r0, r1, r2, r3, f0, f1, f2, f3⟩ := hXX4; clear n4 f4; obtain ⟨c0, c1, c2, c3, d0, d1, d2, d3⟩ := jR HRR.out HF.out
 go_wp2_with fail
 clear c0 c1 c2 c3 d0 d1 d2 d3 r0 r1 r2 r3 f0 f1 f2 f3; obtain ⟨w5, e9⟩ := je ((((w4.setCell ⟨XX, 0, none⟩ (.int .u64 (jf jd q 0))).setCell ⟨XX, 1, none⟩ (.int .u64 (jf jd q 1))).setCell ⟨XX, 2, none⟩ (.int .u64 (jf jd q 2))).setCell ⟨XX, 3, none⟩ (.int .u64 (jf jd q 3))); have HRR := jh (show NumAt w5 RR 0 by rw [e9]; exact NumAt.other4 HRR.out nRX _ _ _ _); have B := jh (show Below w.heap.size w w5 by rw [e9]; exact jA B.out hwX _ _ _ _); rw [← e9]; have HRL := jh (NumAt.set4 HRR.out q); have B9 := jh (jA B.out hwRR (.int .u64 (jf jd q 0)) (.int .u64 (jf jd q 1)) (.int .u64 (jf jd q 2)) (.int .u64 (jf jd q 3))); obtain ⟨g0, g1, g2, g3⟩ := jM HRL.out; refine bodyPost_ret (v := .agg #[.int .u64 (jf jd q 0), .int .u64 (jf jd q 1), .int .u64 (jf jd q 2), .int .u64 (jf jd q 3)]) ?_ rfl ⟨rfl, B9.out⟩
 simp [results, Tryz.results121, go_sem, g0, g1, g2, g3]
theorem sub1_ge {a b m : Nat} (ha : a < m) (hb9 : b < m) (hm : m < jk) (hs : b ≤ a) (w : World) :
  Calls Tryz.prog 121 #[jo a, jo b, jo m] w fun e w' => e = .returned (jo ((a + m - b) % m)) ∧ Below w.heap.size w w' := by
 have ha9 := Nat.lt_trans ha hm; have hb8 := Nat.lt_trans hb9 hm; obtain ⟨x, hx⟩ := je (Qw a b); have hx9 : x < jk := by rw [hx]; exact subN_lt _ _
 obtain ⟨q, hq⟩ := je ((a + m - b) % m); have hq9 : q = a - b := by rw [hq, show a + m - b = a - b + m by omega, Nat.add_mod_right]; exact Nat.mod_eq_of_lt (by omega)
 have el : zp a b = 0 := by unfold zp; rw [if_neg (by omega)]
 have ey : x = q := by rw [hx, hq9]; unfold Qw; unfold jk at *; omega
 have C1 := jh (fun w => by have h := JU ha9 hb8 w; rw [el, ← hx] at h; unfold jo words at h; exact h); have HY := jh ey; rw [← hq]; clear hx hx9 hq hq9 ey el ha hb9 hm hs ha9 hb8; unfold jo words
 go_enter Tryz.func121, Tryz.ntmps121
 go_wp2_with fail
 obtain ⟨w_0, e_0⟩ := je (w.alloc (.cells #[.int .u64 (jf jd a 0), .int .u64 (jf jd a 1), .int .u64 (jf jd a 2), .int .u64 (jf jd a 3)] 24)); have s_0 : w_0.heap.size = w.heap.size + 1 := by rw [e_0]; simp
 have b_0 := jc e_0; have n_0 : NumAt w_0 (w.heap.size) a := by rw [e_0]; exact NumAt.new w a _ _ rfl
 obtain ⟨w_1, e_1⟩ := je (w_0.alloc (.cells #[.int .u64 (jf jd b 0), .int .u64 (jf jd b 1), .int .u64 (jf jd b 2), .int .u64 (jf jd b 3)] 24)); have s_1 : w_1.heap.size = w.heap.size + 1 + 1 := by rw [e_1]; simp [s_0]
 have b_1 := jc e_1; have n_1 : NumAt w_1 (w.heap.size + 1) b := by rw [e_1]; exact NumAt.new w_0 b _ _ s_0.symm
 obtain ⟨w_2, e_2⟩ := je (w_1.alloc (.cells #[.int .u64 (jf jd m 0), .int .u64 (jf jd m 1), .int .u64 (jf jd m 2), .int .u64 (jf jd m 3)] 24)); have s_2 : w_2.heap.size = w.heap.size + 1 + 1 + 1 := by rw [e_2]; simp [s_1]
 have b_2 := jc e_2; have n_2 : NumAt w_2 (w.heap.size + 1 + 1) m := by rw [e_2]; exact NumAt.new w_1 m _ _ s_1.symm
 obtain ⟨wz, e_3⟩ := je (w_2.alloc (.cells #[.int .u64 0, .int .u64 0, .int .u64 0, .int .u64 0] 24)); have s_3 : wz.heap.size = w.heap.size + 1 + 1 + 1 + 1 := by rw [e_3]; simp [s_2]
 have b_3 := jc e_3; have n_3 : NumAt wz (w.heap.size + 1 + 1 + 1) 0 := by rw [e_3, ← s_2]; exact jD w_2 _
 have f_3 : FreeN wz (w.heap.size + 1 + 1 + 1) 4 := by rw [e_3]; exact FreeN.made w_2 _ _ 4 _ s_2.symm
 rw [← e_0, ← e_1, ← e_2, ← e_3]; obtain ⟨AA, h_0⟩ := je (w.heap.size); obtain ⟨BB, h_1⟩ := je (AA + 1); obtain ⟨MM, h_2⟩ := je (BB + 1); obtain ⟨RR, h_3⟩ := je (MM + 1); have hwL : w.heap.size ≤ AA := by omega
 have hRd : RR < wz.heap.size := by omega
 rw [← h_0] at n_0 n_1 n_2 n_3 f_3 ⊢; rw [← h_1] at n_1 n_2 n_3 f_3 ⊢; rw [← h_2] at n_2 n_3 f_3 ⊢; rw [← h_3] at n_3 f_3 ⊢; have l_1 : AA < BB := by omega
 have l_2 : BB < MM := by omega
 have l_3 : MM < RR := by omega
 have HAA := jh (NumAt.later b_3 (NumAt.later b_2 (NumAt.later b_1 n_0))); have HBB := jh (NumAt.later b_3 (NumAt.later b_2 n_1)); have HMM := jh (NumAt.later b_3 n_2); have HRR := jh n_3; have HF := jh f_3; have B := jh (((b_0.trans (b_1.mono (by omega))).trans (b_2.mono (by omega))).trans (b_3.mono (by omega))); have hwRR : w.heap.size ≤ RR := by omega
 have HSZ := jh (show wz.heap.size = RR + 1 by omega); clear e_0 s_0 b_0 n_0 h_0 e_1 s_1 b_1 n_1 h_1 e_2 s_2 b_2 n_2 h_2 e_3 s_3 b_3 n_3 h_3 f_3; refine (C1.out _).mono ?_; rintro _ w2 ⟨rfl, hb⟩; have HAA := jn hb HAA; have HBB := jn hb HBB; have HMM := jn hb HMM; have HRR := jn hb HRR; have HF := jh (HF.out.later hb hRd); have hRd := Nat.lt_of_lt_of_le hRd hb.size; have B := jw B hb; clear hb; obtain ⟨c0, c1, c2, c3, f0, f1, f2, f3⟩ := jR HRR.out HF.out
 go_wp2_with fail
 rw [HY.out]; have HRL := jh (NumAt.set4 HRR.out q); have B9 := jh (jA B.out hwRR (.int .u64 (jf jd q 0)) (.int .u64 (jf jd q 1)) (.int .u64 (jf jd q 2)) (.int .u64 (jf jd q 3))); have hba : ∀ W : World, Below W.heap.size W (W.alloc (.cells #[.int .u64 (jf jd q 0), .int .u64 (jf jd q 1), .int .u64 (jf jd q 2), .int .u64 (jf jd q 3)] 24)) := fun W => ja
 have B9 := jh (jm B9.out (hba _)); have HRL := jh (NumAt.later (hba _) HRL.out); clear hba; obtain ⟨g0, g1, g2, g3⟩ := jM HRL.out; refine bodyPost_ret (v := .agg #[.int .u64 (jf jd q 0), .int .u64 (jf jd q 1), .int .u64 (jf jd q 2), .int .u64 (jf jd q 3)]) ?_ rfl ⟨rfl, B9.out⟩
 simp [results, Tryz.results121, go_sem, g0, g1, g2, g3]
theorem sub1_any {a b m : Nat} (ha : a < m) (hb : b < m) (hm : m < jk) (w : World) :
  Calls Tryz.prog 121 #[jo a, jo b, jo m] w fun e w' => e = .returned (jo ((a + m - b) % m)) ∧ Below w.heap.size w w' := by
 rcases Nat.lt_or_ge a b with h | h
 ·exact sub1_less ha hb hm h w
 ·exact sub1_ge ha hb hm h w
theorem Sub_any {a n m : Nat} (ha : a < m) (h1 : 1 < m) (hn : n < m) (hm : m < jk) (w : World) :
  Calls Tryz.prog 91 #[jo a, jo n, jo m] w fun e w' => e = .returned (.tuple #[jo ((a + m - n) % m), .int .i64 0]) ∧ Below w.heap.size w w' := by
 obtain ⟨q, hq⟩ := je ((a + m - n) % m); rw [← hq]; have HQ := jh hq; have HA9 := jh ha; have HM1 := jh h1; have HN9 := jh hn; have HM9 := jh hm; clear hq ha h1 hn hm; unfold jo words
 go_enter Tryz.func91, Tryz.ntmps91
 go_wp2_with fail
 obtain ⟨w_0, e_0⟩ := je (w.alloc (.cells #[.int .u64 (jf jd a 0), .int .u64 (jf jd a 1), .int .u64 (jf jd a 2), .int .u64 (jf jd a 3)] 24)); have s_0 : w_0.heap.size = w.heap.size + 1 := by rw [e_0]; simp
 have b_0 := jc e_0; have n_0 : NumAt w_0 (w.heap.size) a := by rw [e_0]; exact NumAt.new w a _ _ rfl
 obtain ⟨w_1, e_1⟩ := je (w_0.alloc (.cells #[.int .u64 (jf jd n 0), .int .u64 (jf jd n 1), .int .u64 (jf jd n 2), .int .u64 (jf jd n 3)] 24)); have s_1 : w_1.heap.size = w.heap.size + 1 + 1 := by rw [e_1]; simp [s_0]
 have b_1 := jc e_1; have n_1 : NumAt w_1 (w.heap.size + 1) n := by rw [e_1]; exact NumAt.new w_0 n _ _ s_0.symm
 obtain ⟨w_2, e_2⟩ := je (w_1.alloc (.cells #[.int .u64 (jf jd m 0), .int .u64 (jf jd m 1), .int .u64 (jf jd m 2), .int .u64 (jf jd m 3)] 24)); have s_2 : w_2.heap.size = w.heap.size + 1 + 1 + 1 := by rw [e_2]; simp [s_1]
 have b_2 := jc e_2; have n_2 : NumAt w_2 (w.heap.size + 1 + 1) m := by rw [e_2]; exact NumAt.new w_1 m _ _ s_1.symm
 obtain ⟨wz, e_3⟩ := je (w_2.alloc (.cells #[.int .u64 0, .int .u64 0, .int .u64 0, .int .u64 0] 24)); have s_3 : wz.heap.size = w.heap.size + 1 + 1 + 1 + 1 := by rw [e_3]; simp [s_2]
 have b_3 := jc e_3; have n_3 : NumAt wz (w.heap.size + 1 + 1 + 1) 0 := by rw [e_3, ← s_2]; exact jD w_2 _
 have f_3 : FreeN wz (w.heap.size + 1 + 1 + 1) 4 := by rw [e_3]; exact FreeN.made w_2 _ _ 4 _ s_2.symm
 rw [← e_0, ← e_1, ← e_2, ← e_3]; obtain ⟨AA, h_0⟩ := je (w.heap.size); obtain ⟨NN, h_1⟩ := je (AA + 1); obtain ⟨MM, h_2⟩ := je (NN + 1); obtain ⟨RR, h_3⟩ := je (MM + 1); have hwL : w.heap.size ≤ AA := by omega
 have hRd : RR < wz.heap.size := by omega
 rw [← h_0] at n_0 n_1 n_2 n_3 f_3 ⊢; rw [← h_1] at n_1 n_2 n_3 f_3 ⊢; rw [← h_2] at n_2 n_3 f_3 ⊢; rw [← h_3] at n_3 f_3 ⊢; have l_1 : AA < NN := by omega
 have l_2 : NN < MM := by omega
 have l_3 : MM < RR := by omega
 have HAA := jh (NumAt.later b_3 (NumAt.later b_2 (NumAt.later b_1 n_0))); have HNN := jh (NumAt.later b_3 (NumAt.later b_2 n_1)); have HMM := jh (NumAt.later b_3 n_2); have HRR := jh n_3; have HF := jh f_3; have B := jh (((b_0.trans (b_1.mono (by omega))).trans (b_2.mono (by omega))).trans (b_3.mono (by omega))); have hwRR : w.heap.size ≤ RR := by omega
 have HSZ := jh (show wz.heap.size = RR + 1 by omega); clear e_0 s_0 b_0 n_0 h_0 e_1 s_1 b_1 n_1 h_1 e_2 s_2 b_2 n_2 h_2 e_3 s_3 b_3 n_3 h_3 f_3; have CO := of_may (q := q) (f := 121) (caps := #[]) HA9.out HN9.out HM1.out HM9.out wz (by intro args W; simp [go_sem]) (fun W hb => by have h := sub1_any HA9.out HN9.out HM9.out W; rw [← HQ.out] at h; exact h); unfold jo words at CO; refine CO.mono ?_; rintro _ w3 ⟨rfl, hb⟩; clear CO; have HAA := jn hb HAA; have HNN := jn hb HNN; have HMM := jn hb HMM; have HRR := jn hb HRR; have HF := jh (HF.out.later hb hRd); have hRd := Nat.lt_of_lt_of_le hRd hb.size; have B := jw B hb; clear hb; obtain ⟨c0, c1, c2, c3, f0, f1, f2, f3⟩ := jR HRR.out HF.out
 go_wp2_with fail
 have HRL := jh (NumAt.set4 HRR.out q); have B9 := jh (jA B.out hwRR (.int .u64 (jf jd q 0)) (.int .u64 (jf jd q 1)) (.int .u64 (jf jd q 2)) (.int .u64 (jf jd q 3))); obtain ⟨g0, g1, g2, g3⟩ := jM HRL.out; refine bodyPost_ret (v := .tuple #[.agg #[.int .u64 (jf jd q 0), .int .u64 (jf jd q 1), .int .u64 (jf jd q 2), .int .u64 (jf jd q 3)], .int .i64 0]) ?_ rfl ⟨rfl, B9.out⟩
 simp [results, Tryz.results91, go_sem, g0, g1, g2, g3]
def NumO (w : World) (b o x : Nat) : Prop := ∀ j, j < 4 → w.cell? ⟨b, o + j, none⟩ = some (.int .u64 (jf jd x j))
def GrpAt (w : World) (b gp gq gg gh : Nat) : Prop := NumO w b 0 gp ∧ NumO w b 4 gq ∧ NumO w b 8 gg ∧ NumO w b 12 gh
theorem NumO.lt {w : World} {b o x : Nat} (h : NumO w b o x) : b < w.heap.size := World.block_lt_of_cell? (a := ⟨b, o + 0, none⟩) _ (h 0 (by omega))
theorem NumO.later {w w' : World} {b o x : Nat} (hb : Below w.heap.size w w') (h : NumO w b o x) : NumO w' b o x := fun j hj => (hb.cell (p := ⟨b, o + j, none⟩) h.lt).trans (h j hj)
theorem GrpAt.later {w w' : World} {b gp gq gg gh : Nat} (hb : Below w.heap.size w w') (h : GrpAt w b gp gq gg gh) : GrpAt w' b gp gq gg gh := ⟨h.1.later hb, h.2.1.later hb, h.2.2.1.later hb, h.2.2.2.later hb⟩
theorem GrpAt.lt {w : World} {b gp gq gg gh : Nat} (h : GrpAt w b gp gq gg gh) : b < w.heap.size := h.1.lt
theorem GrpAt.new (w : World) (gp gq gg gh : Nat) (t : TypeId) : GrpAt (w.alloc (.cells #[.int .u64 (jf jd gp 0), .int .u64 (jf jd gp 1), .int .u64 (jf jd gp 2), .int .u64 (jf jd gp 3), .int .u64 (jf jd gq 0), .int .u64 (jf jd gq 1), .int .u64 (jf jd gq 2), .int .u64 (jf jd gq 3), .int .u64 (jf jd gg 0), .int .u64 (jf jd gg 1), .int .u64 (jf jd gg 2), .int .u64 (jf jd gg 3), .int .u64 (jf jd gh 0), .int .u64 (jf jd gh 1), .int .u64 (jf jd gh 2), .int .u64 (jf jd gh 3)] t)) w.heap.size gp gq gg gh := by
 refine ⟨?_, ?_, ?_, ?_⟩ <;> (intro j hj; rcases (show j = 0 ∨ j = 1 ∨ j = 2 ∨ j = 3 by omega) with rfl | rfl | rfl | rfl <;> simp)
theorem may_yes {gp gq gg gh a : Nat} (h1 : 1 < gp) (ha0 : a ≠ 0) (ha : a < gp) (hm : gp < jk) (w : World) :
  Calls Tryz.prog 38 #[.agg #[.int .u64 (jf jd gp 0), .int .u64 (jf jd gp 1), .int .u64 (jf jd gp 2), .int .u64 (jf jd gp 3), .int .u64 (jf jd gq 0), .int .u64 (jf jd gq 1), .int .u64 (jf jd gq 2), .int .u64 (jf jd gq 3), .int .u64 (jf jd gg 0), .int .u64 (jf jd gg 1), .int .u64 (jf jd gg 2), .int .u64 (jf jd gg 3), .int .u64 (jf jd gh 0), .int .u64 (jf jd gh 1), .int .u64 (jf jd gh 2), .int .u64 (jf jd gh 3)], jo a] w fun e w' => e = .returned (.bool true) ∧ Below w.heap.size w w' := by
 have ha9 := Nat.lt_trans ha hm; have hne := ne_num a 0 (Nat.lt_trans ha hm) qP; rw [decide_eq_false ha0] at hne; have C1 := jh (fun w => by have h := zt 1 1 rfl (by decide) w; unfold jo words at h; exact h); have C0 := jh (fun w => by have h := zt 0 0 rfl (by decide) w; unfold jo words at h; exact h); have K1 := jh (fun w => by have h := qD hm (show 1 < jk by decide) w; rw [zN h1] at h; unfold jo words at h; exact h); have K2 := jh (fun w => by have h := qD ha9 hm w; rw [QH ha] at h; unfold jo words at h; exact h); clear ha9 h1 ha0 ha hm; unfold jo words
 go_enter Tryz.func38, Tryz.ntmps38
 go_wp2_with fail
 obtain ⟨w0, e0⟩ := je (w.alloc (.cells #[.int .u64 (jf jd gp 0), .int .u64 (jf jd gp 1), .int .u64 (jf jd gp 2), .int .u64 (jf jd gp 3), .int .u64 (jf jd gq 0), .int .u64 (jf jd gq 1), .int .u64 (jf jd gq 2), .int .u64 (jf jd gq 3), .int .u64 (jf jd gg 0), .int .u64 (jf jd gg 1), .int .u64 (jf jd gg 2), .int .u64 (jf jd gg 3), .int .u64 (jf jd gh 0), .int .u64 (jf jd gh 1), .int .u64 (jf jd gh 2), .int .u64 (jf jd gh 3)] 26)); obtain ⟨GG, hGG⟩ := je (w.heap.size); have b0 := jc e0; have s0 : w0.heap.size = w.heap.size + 1 := by rw [e0]; simp
 have g0 : GrpAt w0 GG gp gq gg gh := by rw [e0, hGG]; exact GrpAt.new _ _ _ _ _ _
 rw [← e0, ← s0, ← hGG]; have HB0 := jh b0; clear e0 hGG b0 s0; obtain ⟨wz, e_0⟩ := je (w0.alloc (.cells #[.int .u64 (jf jd a 0), .int .u64 (jf jd a 1), .int .u64 (jf jd a 2), .int .u64 (jf jd a 3)] 24)); have s_0 : wz.heap.size = w0.heap.size + 1 := by rw [e_0]; simp
 have b_0 := jc e_0; have n_0 : NumAt wz (w0.heap.size) a := by rw [e_0]; exact NumAt.new w0 a _ _ rfl
 rw [← e_0]; obtain ⟨AA, h_0⟩ := je (w0.heap.size); have hwL : w0.heap.size ≤ AA := by omega
 have hRd : AA < wz.heap.size := by omega
 rw [← h_0] at n_0 ⊢; have HAA := jh n_0; have B := jh b_0; have hwAA : w0.heap.size ≤ AA := by omega
 have HSZ := jh (show wz.heap.size = AA + 1 by omega); clear e_0 s_0 b_0 n_0 h_0; have G0 := jh (GrpAt.later B.out g0); clear g0; refine jz 17 (fun _ => none) (by kernel_rfl) (by kernel_rfl) (fun _ _ _ _ _ h => h) (fun F hn9 hcl hbl => ?_); have r_AA_0 := jr hbl HAA 0 (by omega); have r_AA_1 := jr hbl HAA 1 (by omega); have r_AA_2 := jr hbl HAA 2 (by omega); have r_AA_3 := jr hbl HAA 3 (by omega); have r_G_0 := fun X9 : Wd F => (GrpAt.later (hbl X9.world X9.fact) G0.out).1 0 (by omega)
 have r_G_1 := fun X9 : Wd F => (GrpAt.later (hbl X9.world X9.fact) G0.out).1 1 (by omega)
 have r_G_2 := fun X9 : Wd F => (GrpAt.later (hbl X9.world X9.fact) G0.out).1 2 (by omega)
 have r_G_3 := fun X9 : Wd F => (GrpAt.later (hbl X9.world X9.fact) G0.out).1 3 (by omega)
 simp only [Nat.reduceAdd] at r_G_0 r_G_1 r_G_2 r_G_3; have HCL := jh hcl; clear hcl hbl; refine qe 17 0 _ _ (fun _ _ _ => rfl) (by decide) ?_; simp only [List.take_succ_cons, List.take_zero, List.drop_succ_cons, List.drop_zero, Nat.reduceAdd]
 repeat (go_big_quiet_step ((first | (go_at_call 40; with_reducible exact jy HCL.out (C1.out _)) | (go_at_call 40; with_reducible exact jy HCL.out (C0.out _)) | (go_at_call 24; with_reducible exact jy HCL.out (K1.out _)) | (go_at_call 24; with_reducible exact jy HCL.out (K2.out _)))))
 refine wpQuiet_nil ?_; refine qj ?_; intro bs w2 hb _ _; clear r_AA_0 r_AA_1 r_AA_2 r_AA_3; have HAA := jn hb HAA; have hRd := Nat.lt_of_lt_of_le hRd hb.size; have B := jw B hb; clear hb; simp only [zn]; clear r_G_0 r_G_1 r_G_2 r_G_3
 go_wp2_with fail
 refine bodyPost_ret (v := .bool true) ?_ rfl ⟨rfl, jm HB0.out B.out⟩
 simp [results, Tryz.results38, go_sem]
theorem may_low0 {gp gq gg gh a : Nat} (h : gp < 1) (ha9 : a < jk) (hm : gp < jk) (w : World) :
  Calls Tryz.prog 38 #[.agg #[.int .u64 (jf jd gp 0), .int .u64 (jf jd gp 1), .int .u64 (jf jd gp 2), .int .u64 (jf jd gp 3), .int .u64 (jf jd gq 0), .int .u64 (jf jd gq 1), .int .u64 (jf jd gq 2), .int .u64 (jf jd gq 3), .int .u64 (jf jd gg 0), .int .u64 (jf jd gg 1), .int .u64 (jf jd gg 2), .int .u64 (jf jd gg 3), .int .u64 (jf jd gh 0), .int .u64 (jf jd gh 1), .int .u64 (jf jd gh 2), .int .u64 (jf jd gh 3)], jo a] w fun e w' => e = .returned (.bool false) ∧ Below w.heap.size w w' := by
 have hne := ne_num a 0 ha9 qP; have C1 := jh (fun w => by have h := zt 1 1 rfl (by decide) w; unfold jo words at h; exact h); have C0 := jh (fun w => by have h := zt 0 0 rfl (by decide) w; unfold jo words at h; exact h); have e1 : Jc gp 1 = -1 := by exact QH h
 have K1 := jh (fun w => by have h := qD hm (show 1 < jk by decide) w; rw [e1] at h; unfold jo words at h; exact h); obtain ⟨c2, e2⟩ : ∃ c, Jc a gp = c := ⟨_, rfl⟩; have K2 := jh (fun w => by have h := qD ha9 hm w; rw [e2] at h; unfold jo words at h; exact h); clear e1 e2 ha9 hm h; unfold jo words
 go_enter Tryz.func38, Tryz.ntmps38
 go_wp2_with fail
 obtain ⟨w0, e0⟩ := je (w.alloc (.cells #[.int .u64 (jf jd gp 0), .int .u64 (jf jd gp 1), .int .u64 (jf jd gp 2), .int .u64 (jf jd gp 3), .int .u64 (jf jd gq 0), .int .u64 (jf jd gq 1), .int .u64 (jf jd gq 2), .int .u64 (jf jd gq 3), .int .u64 (jf jd gg 0), .int .u64 (jf jd gg 1), .int .u64 (jf jd gg 2), .int .u64 (jf jd gg 3), .int .u64 (jf jd gh 0), .int .u64 (jf jd gh 1), .int .u64 (jf jd gh 2), .int .u64 (jf jd gh 3)] 26)); obtain ⟨GG, hGG⟩ := je (w.heap.size); have b0 := jc e0; have s0 : w0.heap.size = w.heap.size + 1 := by rw [e0]; simp
 have g0 : GrpAt w0 GG gp gq gg gh := by rw [e0, hGG]; exact GrpAt.new _ _ _ _ _ _
 rw [← e0, ← s0, ← hGG]; have HB0 := jh b0; clear e0 hGG b0 s0; obtain ⟨wz, e_0⟩ := je (w0.alloc (.cells #[.int .u64 (jf jd a 0), .int .u64 (jf jd a 1), .int .u64 (jf jd a 2), .int .u64 (jf jd a 3)] 24)); have s_0 : wz.heap.size = w0.heap.size + 1 := by rw [e_0]; simp
 have b_0 := jc e_0; have n_0 : NumAt wz (w0.heap.size) a := by rw [e_0]; exact NumAt.new w0 a _ _ rfl
 rw [← e_0]; obtain ⟨AA, h_0⟩ := je (w0.heap.size); have hwL : w0.heap.size ≤ AA := by omega
 have hRd : AA < wz.heap.size := by omega
 rw [← h_0] at n_0 ⊢; have HAA := jh n_0; have B := jh b_0; have hwAA : w0.heap.size ≤ AA := by omega
 have HSZ := jh (show wz.heap.size = AA + 1 by omega); clear e_0 s_0 b_0 n_0 h_0; have G0 := jh (GrpAt.later B.out g0); clear g0; refine jz 17 (fun _ => none) (by kernel_rfl) (by kernel_rfl) (fun _ _ _ _ _ h => h) (fun F hn9 hcl hbl => ?_); have r_AA_0 := jr hbl HAA 0 (by omega); have r_AA_1 := jr hbl HAA 1 (by omega); have r_AA_2 := jr hbl HAA 2 (by omega); have r_AA_3 := jr hbl HAA 3 (by omega); have r_G_0 := fun X9 : Wd F => (GrpAt.later (hbl X9.world X9.fact) G0.out).1 0 (by omega)
 have r_G_1 := fun X9 : Wd F => (GrpAt.later (hbl X9.world X9.fact) G0.out).1 1 (by omega)
 have r_G_2 := fun X9 : Wd F => (GrpAt.later (hbl X9.world X9.fact) G0.out).1 2 (by omega)
 have r_G_3 := fun X9 : Wd F => (GrpAt.later (hbl X9.world X9.fact) G0.out).1 3 (by omega)
 simp only [Nat.reduceAdd] at r_G_0 r_G_1 r_G_2 r_G_3; have HCL := jh hcl; clear hcl hbl; refine qe 17 0 _ _ (fun _ _ _ => rfl) (by decide) ?_; simp only [List.take_succ_cons, List.take_zero, List.drop_succ_cons, List.drop_zero, Nat.reduceAdd]
 repeat (go_big_quiet_step ((first | (go_at_call 40; with_reducible exact jy HCL.out (C1.out _)) | (go_at_call 40; with_reducible exact jy HCL.out (C0.out _)) | (go_at_call 24; with_reducible exact jy HCL.out (K1.out _)) | (go_at_call 24; with_reducible exact jy HCL.out (K2.out _)))))
 refine wpQuiet_nil ?_; refine qj ?_; intro bs w2 hb _ _; clear r_AA_0 r_AA_1 r_AA_2 r_AA_3; have HAA := jn hb HAA; have hRd := Nat.lt_of_lt_of_le hRd hb.size; have B := jw B hb; clear hb; simp only [zn]; clear r_G_0 r_G_1 r_G_2 r_G_3
 go_wp2_with fail
 refine bodyPost_ret (v := .bool false) ?_ rfl ⟨rfl, jm HB0.out B.out⟩
 simp [results, Tryz.results38, go_sem]
theorem may_low1 {gp gq gg gh a : Nat} (h : gp = 1) (ha9 : a < jk) (hm : gp < jk) (w : World) :
  Calls Tryz.prog 38 #[.agg #[.int .u64 (jf jd gp 0), .int .u64 (jf jd gp 1), .int .u64 (jf jd gp 2), .int .u64 (jf jd gp 3), .int .u64 (jf jd gq 0), .int .u64 (jf jd gq 1), .int .u64 (jf jd gq 2), .int .u64 (jf jd gq 3), .int .u64 (jf jd gg 0), .int .u64 (jf jd gg 1), .int .u64 (jf jd gg 2), .int .u64 (jf jd gg 3), .int .u64 (jf jd gh 0), .int .u64 (jf jd gh 1), .int .u64 (jf jd gh 2), .int .u64 (jf jd gh 3)], jo a] w fun e w' => e = .returned (.bool false) ∧ Below w.heap.size w w' := by
 have hne := ne_num a 0 ha9 qP; have C1 := jh (fun w => by have h := zt 1 1 rfl (by decide) w; unfold jo words at h; exact h); have C0 := jh (fun w => by have h := zt 0 0 rfl (by decide) w; unfold jo words at h; exact h); have e1 : Jc gp 1 = 0 := by rw [h]; rfl
 have K1 := jh (fun w => by have h := qD hm (show 1 < jk by decide) w; rw [e1] at h; unfold jo words at h; exact h); obtain ⟨c2, e2⟩ : ∃ c, Jc a gp = c := ⟨_, rfl⟩; have K2 := jh (fun w => by have h := qD ha9 hm w; rw [e2] at h; unfold jo words at h; exact h); clear e1 e2 ha9 hm h; unfold jo words
 go_enter Tryz.func38, Tryz.ntmps38
 go_wp2_with fail
 obtain ⟨w0, e0⟩ := je (w.alloc (.cells #[.int .u64 (jf jd gp 0), .int .u64 (jf jd gp 1), .int .u64 (jf jd gp 2), .int .u64 (jf jd gp 3), .int .u64 (jf jd gq 0), .int .u64 (jf jd gq 1), .int .u64 (jf jd gq 2), .int .u64 (jf jd gq 3), .int .u64 (jf jd gg 0), .int .u64 (jf jd gg 1), .int .u64 (jf jd gg 2), .int .u64 (jf jd gg 3), .int .u64 (jf jd gh 0), .int .u64 (jf jd gh 1), .int .u64 (jf jd gh 2), .int .u64 (jf jd gh 3)] 26)); obtain ⟨GG, hGG⟩ := je (w.heap.size); have b0 := jc e0; have s0 : w0.heap.size = w.heap.size + 1 := by rw [e0]; simp
 have g0 : GrpAt w0 GG gp gq gg gh := by rw [e0, hGG]; exact GrpAt.new _ _ _ _ _ _
 rw [← e0, ← s0, ← hGG]; have HB0 := jh b0; clear e0 hGG b0 s0; obtain ⟨wz, e_0⟩ := je (w0.alloc (.cells #[.int .u64 (jf jd a 0), .int .u64 (jf jd a 1), .int .u64 (jf jd a 2), .int .u64 (jf jd a 3)] 24)); have s_0 : wz.heap.size = w0.heap.size + 1 := by rw [e_0]; simp
 have b_0 := jc e_0; have n_0 : NumAt wz (w0.heap.size) a := by rw [e_0]; exact NumAt.new w0 a _ _ rfl
 rw [← e_0]; obtain ⟨AA, h_0⟩ := je (w0.heap.size); have hwL : w0.heap.size ≤ AA := by omega
 have hRd : AA < wz.heap.size := by omega
 rw [← h_0] at n_0 ⊢; have HAA := jh n_0; have B := jh b_0; have hwAA : w0.heap.size ≤ AA := by omega
 have HSZ := jh (show wz.heap.size = AA + 1 by omega); clear e_0 s_0 b_0 n_0 h_0; have G0 := jh (GrpAt.later B.out g0); clear g0; refine jz 17 (fun _ => none) (by kernel_rfl) (by kernel_rfl) (fun _ _ _ _ _ h => h) (fun F hn9 hcl hbl => ?_); have r_AA_0 := jr hbl HAA 0 (by omega); have r_AA_1 := jr hbl HAA 1 (by omega); have r_AA_2 := jr hbl HAA 2 (by omega); have r_AA_3 := jr hbl HAA 3 (by omega); have r_G_0 := fun X9 : Wd F => (GrpAt.later (hbl X9.world X9.fact) G0.out).1 0 (by omega)
 have r_G_1 := fun X9 : Wd F => (GrpAt.later (hbl X9.world X9.fact) G0.out).1 1 (by omega)
 have r_G_2 := fun X9 : Wd F => (GrpAt.later (hbl X9.world X9.fact) G0.out).1 2 (by omega)
 have r_G_3 := fun X9 : Wd F => (GrpAt.later (hbl X9.world X9.fact) G0.out).1 3 (by omega)
 simp only [Nat.reduceAdd] at r_G_0 r_G_1 r_G_2 r_G_3; have HCL := jh hcl; clear hcl hbl; refine qe 17 0 _ _ (fun _ _ _ => rfl) (by decide) ?_; simp only [List.take_succ_cons, List.take_zero, List.drop_succ_cons, List.drop_zero, Nat.reduceAdd]
 repeat (go_big_quiet_step ((first | (go_at_call 40; with_reducible exact jy HCL.out (C1.out _)) | (go_at_call 40; with_reducible exact jy HCL.out (C0.out _)) | (go_at_call 24; with_reducible exact jy HCL.out (K1.out _)) | (go_at_call 24; with_reducible exact jy HCL.out (K2.out _)))))
 refine wpQuiet_nil ?_; refine qj ?_; intro bs w2 hb _ _; clear r_AA_0 r_AA_1 r_AA_2 r_AA_3; have HAA := jn hb HAA; have hRd := Nat.lt_of_lt_of_le hRd hb.size; have B := jw B hb; clear hb; simp only [zn]; clear r_G_0 r_G_1 r_G_2 r_G_3
 go_wp2_with fail
 refine bodyPost_ret (v := .bool false) ?_ rfl ⟨rfl, jm HB0.out B.out⟩
 simp [results, Tryz.results38, go_sem]
theorem may_zero {gp gq gg gh a : Nat} (h1 : 1 < gp) (h : a = 0) (ha9 : a < jk) (hm : gp < jk) (w : World) :
  Calls Tryz.prog 38 #[.agg #[.int .u64 (jf jd gp 0), .int .u64 (jf jd gp 1), .int .u64 (jf jd gp 2), .int .u64 (jf jd gp 3), .int .u64 (jf jd gq 0), .int .u64 (jf jd gq 1), .int .u64 (jf jd gq 2), .int .u64 (jf jd gq 3), .int .u64 (jf jd gg 0), .int .u64 (jf jd gg 1), .int .u64 (jf jd gg 2), .int .u64 (jf jd gg 3), .int .u64 (jf jd gh 0), .int .u64 (jf jd gh 1), .int .u64 (jf jd gh 2), .int .u64 (jf jd gh 3)], jo a] w fun e w' => e = .returned (.bool false) ∧ Below w.heap.size w w' := by
 have hne := ne_num a 0 ha9 qP; rw [decide_eq_true h] at hne; have C1 := jh (fun w => by have h := zt 1 1 rfl (by decide) w; unfold jo words at h; exact h); have C0 := jh (fun w => by have h := zt 0 0 rfl (by decide) w; unfold jo words at h; exact h); have e1 : Jc gp 1 = 1 := by exact zN h1
 have K1 := jh (fun w => by have h := qD hm (show 1 < jk by decide) w; rw [e1] at h; unfold jo words at h; exact h); obtain ⟨c2, e2⟩ : ∃ c, Jc a gp = c := ⟨_, rfl⟩; have K2 := jh (fun w => by have h := qD ha9 hm w; rw [e2] at h; unfold jo words at h; exact h); clear e1 e2 ha9 hm h; unfold jo words
 go_enter Tryz.func38, Tryz.ntmps38
 go_wp2_with fail
 obtain ⟨w0, e0⟩ := je (w.alloc (.cells #[.int .u64 (jf jd gp 0), .int .u64 (jf jd gp 1), .int .u64 (jf jd gp 2), .int .u64 (jf jd gp 3), .int .u64 (jf jd gq 0), .int .u64 (jf jd gq 1), .int .u64 (jf jd gq 2), .int .u64 (jf jd gq 3), .int .u64 (jf jd gg 0), .int .u64 (jf jd gg 1), .int .u64 (jf jd gg 2), .int .u64 (jf jd gg 3), .int .u64 (jf jd gh 0), .int .u64 (jf jd gh 1), .int .u64 (jf jd gh 2), .int .u64 (jf jd gh 3)] 26)); obtain ⟨GG, hGG⟩ := je (w.heap.size); have b0 := jc e0; have s0 : w0.heap.size = w.heap.size + 1 := by rw [e0]; simp
 have g0 : GrpAt w0 GG gp gq gg gh := by rw [e0, hGG]; exact GrpAt.new _ _ _ _ _ _
 rw [← e0, ← s0, ← hGG]; have HB0 := jh b0; clear e0 hGG b0 s0; obtain ⟨wz, e_0⟩ := je (w0.alloc (.cells #[.int .u64 (jf jd a 0), .int .u64 (jf jd a 1), .int .u64 (jf jd a 2), .int .u64 (jf jd a 3)] 24)); have s_0 : wz.heap.size = w0.heap.size + 1 := by rw [e_0]; simp
 have b_0 := jc e_0; have n_0 : NumAt wz (w0.heap.size) a := by rw [e_0]; exact NumAt.new w0 a _ _ rfl
 rw [← e_0]; obtain ⟨AA, h_0⟩ := je (w0.heap.size); have hwL : w0.heap.size ≤ AA := by omega
 have hRd : AA < wz.heap.size := by omega
 rw [← h_0] at n_0 ⊢; have HAA := jh n_0; have B := jh b_0; have hwAA : w0.heap.size ≤ AA := by omega
 have HSZ := jh (show wz.heap.size = AA + 1 by omega); clear e_0 s_0 b_0 n_0 h_0; have G0 := jh (GrpAt.later B.out g0); clear g0; refine jz 17 (fun _ => none) (by kernel_rfl) (by kernel_rfl) (fun _ _ _ _ _ h => h) (fun F hn9 hcl hbl => ?_); have r_AA_0 := jr hbl HAA 0 (by omega); have r_AA_1 := jr hbl HAA 1 (by omega); have r_AA_2 := jr hbl HAA 2 (by omega); have r_AA_3 := jr hbl HAA 3 (by omega); have r_G_0 := fun X9 : Wd F => (GrpAt.later (hbl X9.world X9.fact) G0.out).1 0 (by omega)
 have r_G_1 := fun X9 : Wd F => (GrpAt.later (hbl X9.world X9.fact) G0.out).1 1 (by omega)
 have r_G_2 := fun X9 : Wd F => (GrpAt.later (hbl X9.world X9.fact) G0.out).1 2 (by omega)
 have r_G_3 := fun X9 : Wd F => (GrpAt.later (hbl X9.world X9.fact) G0.out).1 3 (by omega)
 simp only [Nat.reduceAdd] at r_G_0 r_G_1 r_G_2 r_G_3; have HCL := jh hcl; clear hcl hbl; refine qe 17 0 _ _ (fun _ _ _ => rfl) (by decide) ?_; simp only [List.take_succ_cons, List.take_zero, List.drop_succ_cons, List.drop_zero, Nat.reduceAdd]
 repeat (go_big_quiet_step ((first | (go_at_call 40; with_reducible exact jy HCL.out (C1.out _)) | (go_at_call 40; with_reducible exact jy HCL.out (C0.out _)) | (go_at_call 24; with_reducible exact jy HCL.out (K1.out _)) | (go_at_call 24; with_reducible exact jy HCL.out (K2.out _)))))
 refine wpQuiet_nil ?_; refine qj ?_; intro bs w2 hb _ _; clear r_AA_0 r_AA_1 r_AA_2 r_AA_3; have HAA := jn hb HAA; have hRd := Nat.lt_of_lt_of_le hRd hb.size; have B := jw B hb; clear hb; simp only [zn]; clear r_G_0 r_G_1 r_G_2 r_G_3
 go_wp2_with fail
 refine bodyPost_ret (v := .bool false) ?_ rfl ⟨rfl, jm HB0.out B.out⟩
 simp [results, Tryz.results38, go_sem]
theorem may_eq {gp gq gg gh a : Nat} (h1 : 1 < gp) (ha0 : a ≠ 0) (h : a = gp) (ha9 : a < jk) (hm : gp < jk) (w : World) :
  Calls Tryz.prog 38 #[.agg #[.int .u64 (jf jd gp 0), .int .u64 (jf jd gp 1), .int .u64 (jf jd gp 2), .int .u64 (jf jd gp 3), .int .u64 (jf jd gq 0), .int .u64 (jf jd gq 1), .int .u64 (jf jd gq 2), .int .u64 (jf jd gq 3), .int .u64 (jf jd gg 0), .int .u64 (jf jd gg 1), .int .u64 (jf jd gg 2), .int .u64 (jf jd gg 3), .int .u64 (jf jd gh 0), .int .u64 (jf jd gh 1), .int .u64 (jf jd gh 2), .int .u64 (jf jd gh 3)], jo a] w fun e w' => e = .returned (.bool false) ∧ Below w.heap.size w w' := by
 have hne := ne_num a 0 ha9 qP; rw [decide_eq_false ha0] at hne; have C1 := jh (fun w => by have h := zt 1 1 rfl (by decide) w; unfold jo words at h; exact h); have C0 := jh (fun w => by have h := zt 0 0 rfl (by decide) w; unfold jo words at h; exact h); have e1 : Jc gp 1 = 1 := by exact zN h1
 have K1 := jh (fun w => by have h := qD hm (show 1 < jk by decide) w; rw [e1] at h; unfold jo words at h; exact h); have e2 : Jc a gp = 0 := by rw [h]; unfold Jc; rw [if_neg (by omega), if_pos rfl]
 have K2 := jh (fun w => by have h := qD ha9 hm w; rw [e2] at h; unfold jo words at h; exact h); clear e1 e2 ha9 hm h; unfold jo words
 go_enter Tryz.func38, Tryz.ntmps38
 go_wp2_with fail
 obtain ⟨w0, e0⟩ := je (w.alloc (.cells #[.int .u64 (jf jd gp 0), .int .u64 (jf jd gp 1), .int .u64 (jf jd gp 2), .int .u64 (jf jd gp 3), .int .u64 (jf jd gq 0), .int .u64 (jf jd gq 1), .int .u64 (jf jd gq 2), .int .u64 (jf jd gq 3), .int .u64 (jf jd gg 0), .int .u64 (jf jd gg 1), .int .u64 (jf jd gg 2), .int .u64 (jf jd gg 3), .int .u64 (jf jd gh 0), .int .u64 (jf jd gh 1), .int .u64 (jf jd gh 2), .int .u64 (jf jd gh 3)] 26)); obtain ⟨GG, hGG⟩ := je (w.heap.size); have b0 := jc e0; have s0 : w0.heap.size = w.heap.size + 1 := by rw [e0]; simp
 have g0 : GrpAt w0 GG gp gq gg gh := by rw [e0, hGG]; exact GrpAt.new _ _ _ _ _ _
 rw [← e0, ← s0, ← hGG]; have HB0 := jh b0; clear e0 hGG b0 s0; obtain ⟨wz, e_0⟩ := je (w0.alloc (.cells #[.int .u64 (jf jd a 0), .int .u64 (jf jd a 1), .int .u64 (jf jd a 2), .int .u64 (jf jd a 3)] 24)); have s_0 : wz.heap.size = w0.heap.size + 1 := by rw [e_0]; simp
 have b_0 := jc e_0; have n_0 : NumAt wz (w0.heap.size) a := by rw [e_0]; exact NumAt.new w0 a _ _ rfl
 rw [← e_0]; obtain ⟨AA, h_0⟩ := je (w0.heap.size); have hwL : w0.heap.size ≤ AA := by omega
 have hRd : AA < wz.heap.size := by omega
 rw [← h_0] at n_0 ⊢; have HAA := jh n_0; have B := jh b_0; have hwAA : w0.heap.size ≤ AA := by omega
 have HSZ := jh (show wz.heap.size = AA + 1 by omega); clear e_0 s_0 b_0 n_0 h_0; have G0 := jh (GrpAt.later B.out g0); clear g0; refine jz 17 (fun _ => none) (by kernel_rfl) (by kernel_rfl) (fun _ _ _ _ _ h => h) (fun F hn9 hcl hbl => ?_); have r_AA_0 := jr hbl HAA 0 (by omega); have r_AA_1 := jr hbl HAA 1 (by omega); have r_AA_2 := jr hbl HAA 2 (by omega); have r_AA_3 := jr hbl HAA 3 (by omega); have r_G_0 := fun X9 : Wd F => (GrpAt.later (hbl X9.world X9.fact) G0.out).1 0 (by omega)
 have r_G_1 := fun X9 : Wd F => (GrpAt.later (hbl X9.world X9.fact) G0.out).1 1 (by omega)
 have r_G_2 := fun X9 : Wd F => (GrpAt.later (hbl X9.world X9.fact) G0.out).1 2 (by omega)
 have r_G_3 := fun X9 : Wd F => (GrpAt.later (hbl X9.world X9.fact) G0.out).1 3 (by omega)
 simp only [Nat.reduceAdd] at r_G_0 r_G_1 r_G_2 r_G_3; have HCL := jh hcl; clear hcl hbl; refine qe 17 0 _ _ (fun _ _ _ => rfl) (by decide) ?_; simp only [List.take_succ_cons, List.take_zero, List.drop_succ_cons, List.drop_zero, Nat.reduceAdd]
 repeat (go_big_quiet_step ((first | (go_at_call 40; with_reducible exact jy HCL.out (C1.out _)) | (go_at_call 40; with_reducible exact jy HCL.out (C0.out _)) | (go_at_call 24; with_reducible exact jy HCL.out (K1.out _)) | (go_at_call 24; with_reducible exact jy HCL.out (K2.out _)))))
 refine wpQuiet_nil ?_; refine qj ?_; intro bs w2 hb _ _; clear r_AA_0 r_AA_1 r_AA_2 r_AA_3; have HAA := jn hb HAA; have hRd := Nat.lt_of_lt_of_le hRd hb.size; have B := jw B hb; clear hb; simp only [zn]; clear r_G_0 r_G_1 r_G_2 r_G_3
 go_wp2_with fail
 refine bodyPost_ret (v := .bool false) ?_ rfl ⟨rfl, jm HB0.out B.out⟩
 simp [results, Tryz.results38, go_sem]
theorem may_gt {gp gq gg gh a : Nat} (h1 : 1 < gp) (ha0 : a ≠ 0) (h : gp < a) (ha9 : a < jk) (hm : gp < jk) (w : World) :
  Calls Tryz.prog 38 #[.agg #[.int .u64 (jf jd gp 0), .int .u64 (jf jd gp 1), .int .u64 (jf jd gp 2), .int .u64 (jf jd gp 3), .int .u64 (jf jd gq 0), .int .u64 (jf jd gq 1), .int .u64 (jf jd gq 2), .int .u64 (jf jd gq 3), .int .u64 (jf jd gg 0), .int .u64 (jf jd gg 1), .int .u64 (jf jd gg 2), .int .u64 (jf jd gg 3), .int .u64 (jf jd gh 0), .int .u64 (jf jd gh 1), .int .u64 (jf jd gh 2), .int .u64 (jf jd gh 3)], jo a] w fun e w' => e = .returned (.bool false) ∧ Below w.heap.size w w' := by
 have hne := ne_num a 0 ha9 qP; rw [decide_eq_false ha0] at hne; have C1 := jh (fun w => by have h := zt 1 1 rfl (by decide) w; unfold jo words at h; exact h); have C0 := jh (fun w => by have h := zt 0 0 rfl (by decide) w; unfold jo words at h; exact h); have e1 : Jc gp 1 = 1 := by exact zN h1
 have K1 := jh (fun w => by have h := qD hm (show 1 < jk by decide) w; rw [e1] at h; unfold jo words at h; exact h); have e2 : Jc a gp = 1 := by exact zN h
 have K2 := jh (fun w => by have h := qD ha9 hm w; rw [e2] at h; unfold jo words at h; exact h); clear e1 e2 ha9 hm h; unfold jo words
 go_enter Tryz.func38, Tryz.ntmps38
 go_wp2_with fail
 obtain ⟨w0, e0⟩ := je (w.alloc (.cells #[.int .u64 (jf jd gp 0), .int .u64 (jf jd gp 1), .int .u64 (jf jd gp 2), .int .u64 (jf jd gp 3), .int .u64 (jf jd gq 0), .int .u64 (jf jd gq 1), .int .u64 (jf jd gq 2), .int .u64 (jf jd gq 3), .int .u64 (jf jd gg 0), .int .u64 (jf jd gg 1), .int .u64 (jf jd gg 2), .int .u64 (jf jd gg 3), .int .u64 (jf jd gh 0), .int .u64 (jf jd gh 1), .int .u64 (jf jd gh 2), .int .u64 (jf jd gh 3)] 26)); obtain ⟨GG, hGG⟩ := je (w.heap.size); have b0 := jc e0; have s0 : w0.heap.size = w.heap.size + 1 := by rw [e0]; simp
 have g0 : GrpAt w0 GG gp gq gg gh := by rw [e0, hGG]; exact GrpAt.new _ _ _ _ _ _
 rw [← e0, ← s0, ← hGG]; have HB0 := jh b0; clear e0 hGG b0 s0; obtain ⟨wz, e_0⟩ := je (w0.alloc (.cells #[.int .u64 (jf jd a 0), .int .u64 (jf jd a 1), .int .u64 (jf jd a 2), .int .u64 (jf jd a 3)] 24)); have s_0 : wz.heap.size = w0.heap.size + 1 := by rw [e_0]; simp
 have b_0 := jc e_0; have n_0 : NumAt wz (w0.heap.size) a := by rw [e_0]; exact NumAt.new w0 a _ _ rfl
 rw [← e_0]; obtain ⟨AA, h_0⟩ := je (w0.heap.size); have hwL : w0.heap.size ≤ AA := by omega
 have hRd : AA < wz.heap.size := by omega
 rw [← h_0] at n_0 ⊢; have HAA := jh n_0; have B := jh b_0; have hwAA : w0.heap.size ≤ AA := by omega
 have HSZ := jh (show wz.heap.size = AA + 1 by omega); clear e_0 s_0 b_0 n_0 h_0; have G0 := jh (GrpAt.later B.out g0); clear g0; refine jz 17 (fun _ => none) (by kernel_rfl) (by kernel_rfl) (fun _ _ _ _ _ h => h) (fun F hn9 hcl hbl => ?_); have r_AA_0 := jr hbl HAA 0 (by omega); have r_AA_1 := jr hbl HAA 1 (by omega); have r_AA_2 := jr hbl HAA 2 (by omega); have r_AA_3 := jr hbl HAA 3 (by omega); have r_G_0 := fun X9 : Wd F => (GrpAt.later (hbl X9.world X9.fact) G0.out).1 0 (by omega)
 have r_G_1 := fun X9 : Wd F => (GrpAt.later (hbl X9.world X9.fact) G0.out).1 1 (by omega)
 have r_G_2 := fun X9 : Wd F => (GrpAt.later (hbl X9.world X9.fact) G0.out).1 2 (by omega)
 have r_G_3 := fun X9 : Wd F => (GrpAt.later (hbl X9.world X9.fact) G0.out).1 3 (by omega)
 simp only [Nat.reduceAdd] at r_G_0 r_G_1 r_G_2 r_G_3; have HCL := jh hcl; clear hcl hbl; refine qe 17 0 _ _ (fun _ _ _ => rfl) (by decide) ?_; simp only [List.take_succ_cons, List.take_zero, List.drop_succ_cons, List.drop_zero, Nat.reduceAdd]
 repeat (go_big_quiet_step ((first | (go_at_call 40; with_reducible exact jy HCL.out (C1.out _)) | (go_at_call 40; with_reducible exact jy HCL.out (C0.out _)) | (go_at_call 24; with_reducible exact jy HCL.out (K1.out _)) | (go_at_call 24; with_reducible exact jy HCL.out (K2.out _)))))
 refine wpQuiet_nil ?_; refine qj ?_; intro bs w2 hb _ _; clear r_AA_0 r_AA_1 r_AA_2 r_AA_3; have HAA := jn hb HAA; have hRd := Nat.lt_of_lt_of_le hRd hb.size; have B := jw B hb; clear hb; simp only [zn]; clear r_G_0 r_G_1 r_G_2 r_G_3
 go_wp2_with fail
 refine bodyPost_ret (v := .bool false) ?_ rfl ⟨rfl, jm HB0.out B.out⟩
 simp [results, Tryz.results38, go_sem]
end Go.Proofs.YtdpkpcbikbbcbaaGreat
