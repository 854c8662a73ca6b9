/- Layer 4 (mods) -/
import Derived.Test.YtcaeaejefdhloaaGreatZWG29
set_option linter.unusedSimpArgs false
set_option linter.unusedVariables false
set_option maxHeartbeats 4000000
set_option maxRecDepth 100000
namespace Go.Proofs.YtcaeaejefdhloaaGreat
open Go.ChangeShapes Go.WideShapes Go.ChangeAt Go.RowKit
theorem power_word {a n m : Nat} (ha : a < m) (h1 : 1 < m) (hn : n < jj) {f : FuncId} {caps : Array Value} (w : World) (hent : ∀ (args : Array Value) (W : World), (callFunc f args).run Tryz.prog W = .ok (.enter f args) W)
  (ht : ∀ x y W, x < m → y < m → Below w.heap.size w W → Calls Tryz.prog f (#[.int .u64 (x : Nat), .int .u64 (y : Nat)] ++ caps) W fun e w' => e = .returned (.int .u64 ((x * y % m : Nat) : Int)) ∧ Below W.heap.size W w') :
  Calls Tryz.prog 111 #[.int .u64 (a : Nat), .int .u64 1, ji n, .func (.func f) #[] caps] w fun e w' => e = .returned (.int .u64 ((a ^ n % m : Nat) : Int)) ∧ Below w.heap.size w w' := by
 obtain ⟨L, hL⟩ := je (jP n); have hL2 : L ≤ 256 := by rw [hL]; exact JD hn
 have hLn : n < 2 ^ L := by rw [hL]; exact (zo n).1
 have CB := jh (fun w => by have h := Jr hn w; rw [← hL] at h; unfold ji words at h; exact h); have HE := jh hent; have HT := jh ht; have HAM := jh ha; have HN9 := jh hn; have HM1 := jh h1; have HLn := jh hLn; obtain ⟨Q, hQ⟩ := je (a ^ n % m); rw [← hQ]; have HQ := jh hQ; clear hL hLn hQ ha hn hent ht; unfold ji words at *
 go_enter Tryz.func111, Tryz.ntmps111
 go_wp2_with fail
 obtain ⟨wz, e_0⟩ := je (w.alloc (.cells #[.int .u64 (jf jd n 0), .int .u64 (jf jd n 1), .int .u64 (jf jd n 2), .int .u64 (jf jd n 3)] 24)); have s_0 : wz.heap.size = w.heap.size + 1 := by rw [e_0]; simp
 have b_0 := jc e_0; have n_0 : NumAt wz (w.heap.size) n := by rw [e_0]; exact NumAt.new w n _ _ rfl
 rw [← e_0]; obtain ⟨NN, h_0⟩ := je (w.heap.size); have hwL : w.heap.size ≤ NN := by omega
 have hRd : NN < wz.heap.size := by omega
 rw [← h_0] at n_0 ⊢; have HNN := jh n_0; have B := jh b_0; have hwNN : w.heap.size ≤ NN := by omega
 have HSZ := jh (show wz.heap.size = NN + 1 by omega); clear e_0 s_0 b_0 n_0 h_0; obtain ⟨r_NN_0, r_NN_1, r_NN_2, r_NN_3⟩ := jy HNN.out
 go_wp2_with fail
 clear r_NN_0 r_NN_1 r_NN_2 r_NN_3; refine (CB.out _).mono ?_; rintro _ w2 ⟨rfl, hb⟩; have HNN := jn hb HNN; have hRd := Nat.lt_of_lt_of_le hRd hb.size; have B := jw B hb; clear hb
 go_wp2_with fail
 go_loopw [9, 14] (fun ov i wr => ∃ k o : Nat, k ≤ L ∧ i = .int .i64 k ∧ ov = .int .u64 o ∧ o < m ∧ Hid (o = a ^ (n / 2 ^ (L - k)) % m) ∧ Hid (NumAt wr NN n) ∧ Hid (Below w.heap.size w wr) ∧ NN < wr.heap.size) (fun _ i _ => L - (intOf i).toNat)
 case atStart => exact ⟨0, 1, Nat.zero_le _, rfl, rfl, h1, jh (pow_start HLn.out h1), HNN, B, hRd⟩
 case round =>
  clear HNN B hRd; obtain ⟨k, o, hk, rfl, rfl, hom, HO, HNN, B, hRd⟩ := hrel
  by_cases hlt : k < L
  ·have hltI : (k : Int) < (L : Int) := by omega
   obtain ⟨oo, hoo⟩ := je (o * o % m); have hoom : oo < m := by rw [hoo]; exact Nat.mod_lt _ (by omega)
   have C2 := jh (fun W hb => by have h := HT.out o o W hom hom hb; rw [← hoo] at h; exact h); obtain ⟨j, hj⟩ := je (L - 1 - k); have eI : ((L : Int) - 1 - (k : Int)) = (j : Int) := by omega
   obtain ⟨b, hb⟩ := je (n / 2 ^ j % 2); have CT := jh (fun w => by have h := bit_any (a := n) (j : Int) w (by omega) (by omega); rw [Zo (by omega), ← hb] at h; unfold ji words at h; exact h); have he := HE.out; have hb2 : b = 0 ∨ b = 1 := by omega
   have HB := jh (show b = n / 2 ^ (L - 1 - k) % 2 by rw [hb, hj]); have HOO2 := jh hoo; clear hb hoo hj
   go_wp2_with fail
   refine (C2.out _ B.out).mono ?_; rintro _ w3 ⟨rfl, hb⟩; clear he; have HNN := jn hb HNN; have hRd := Nat.lt_of_lt_of_le hRd hb.size; have B := jw B hb; clear hb
   go_wp2_with fail
   rcases hb2 with rfl | rfl
   ·skip
    refine jv 8 (fun _ => none) (by kernel_rfl) (by kernel_rfl) (fun _ _ _ _ _ h => h) (fun F hn9 hcl hbl => ?_); have r_NN_0 := jr hbl HNN 0 (by omega); have r_NN_1 := jr hbl HNN 1 (by omega); have r_NN_2 := jr hbl HNN 2 (by omega); have r_NN_3 := jr hbl HNN 3 (by omega); have HCL := jh hcl; clear hcl hbl; refine jG 8 0 _ _ (fun _ _ _ => rfl) (by decide) ?_; simp only [List.take_succ_cons, List.take_zero, List.drop_succ_cons, List.drop_zero, Nat.reduceAdd]
    repeat (go_big_quiet_step ((first | (go_at_call 110; with_reducible exact js HCL.out (CB.out _)) | (go_at_call 126; with_reducible exact js HCL.out (CT.out _)))))
    refine wpQuiet_nil ?_; refine jI ?_; intro bs w5 hb _ _; clear r_NN_0 r_NN_1 r_NN_2 r_NN_3; have HNN := jn hb HNN; have hRd := Nat.lt_of_lt_of_le hRd hb.size; have B := jw B hb; clear hb; simp only [qx]
    go_wp2_with fail
    have HK2 := jh (show oo = a ^ (n / 2 ^ (L - (k + 1))) % m by rw [HOO2.out]; exact pow_even hlt HO.out HB.out.symm)
    go_roundw
    case rel => exact ⟨k + 1, oo, by omega, by go_num, rfl, hoom, HK2, HNN, B, hRd⟩
    case measure => simp [intOf]; omega
   ·skip
    refine jv 8 (fun _ => none) (by kernel_rfl) (by kernel_rfl) (fun _ _ _ _ _ h => h) (fun F hn9 hcl hbl => ?_); have r_NN_0 := jr hbl HNN 0 (by omega); have r_NN_1 := jr hbl HNN 1 (by omega); have r_NN_2 := jr hbl HNN 2 (by omega); have r_NN_3 := jr hbl HNN 3 (by omega); have HCL := jh hcl; clear hcl hbl; refine jG 8 0 _ _ (fun _ _ _ => rfl) (by decide) ?_; simp only [List.take_succ_cons, List.take_zero, List.drop_succ_cons, List.drop_zero, Nat.reduceAdd]
    repeat (go_big_quiet_step ((first | (go_at_call 110; with_reducible exact js HCL.out (CB.out _)) | (go_at_call 126; with_reducible exact js HCL.out (CT.out _)))))
    refine wpQuiet_nil ?_; refine jI ?_; intro bs w5 hb _ _; clear r_NN_0 r_NN_1 r_NN_2 r_NN_3; have HNN := jn hb HNN; have hRd := Nat.lt_of_lt_of_le hRd hb.size; have B := jw B hb; clear hb; simp only [qx]; obtain ⟨q2, hq2⟩ := je (oo * a % m); have hq2m : q2 < m := by rw [hq2]; exact Nat.mod_lt _ (by omega)
    have C3 := jh (fun W hb => by have h := HT.out oo a W hoom HAM.out hb; rw [← hq2] at h; exact h); have HK2 := jh (show q2 = a ^ (n / 2 ^ (L - (k + 1))) % m by rw [hq2, HOO2.out]; exact pow_odd hlt HO.out HB.out.symm); clear hq2; have he := HE.out
    go_wp2_with fail
    refine (C3.out _ B.out).mono ?_; rintro _ w6 ⟨rfl, hb⟩; clear he; have HNN := jn hb HNN; have hRd := Nat.lt_of_lt_of_le hRd hb.size; have B := jw B hb; clear hb
    go_wp2_with fail
    go_roundw
    case rel => exact ⟨k + 1, q2, by omega, by go_num, rfl, hq2m, HK2, HNN, B, hRd⟩
    case measure => simp [intOf]; omega
  ·have hkL : k = L := by omega
   rw [hkL] at HO ⊢; have hltI : ¬ ((L : Int) < (L : Int)) := by omega
   have HOQ := jh (show o = Q by rw [HQ.out]; exact pow_end HO.out); clear hkL HO
   go_wp2_with fail
   rw [HOQ.out]; refine bodyPost_ret (v := .int .u64 (Q : Nat)) ?_ rfl ⟨rfl, B.out⟩
   simp [results, Tryz.results111, go_sem]
theorem exp_word {x y m M : Nat} (hx : x < m) (hy : y < m) (hm : m < jd) (w : World) (hM : NumAt w M m) :
  Calls Tryz.prog 112 #[.int .u64 (x : Nat), .int .u64 (y : Nat), .pointer (some ⟨M, 0, none⟩)] w fun e w' => e = .returned (.int .u64 ((x * y % m : Nat) : Int)) ∧ Below w.heap.size w w' := by
 have CW := jh (fun w => word_any (Nat.lt_trans hx hm) (Nat.lt_trans hy hm) hm (Nat.mul_lt_mul_of_lt_of_lt hx (Nat.lt_trans hy hm)) w); obtain ⟨q, hq⟩ := je (x * y % m); rw [← hq] at CW ⊢; obtain ⟨dm, _, _, _⟩ := qf hm; obtain ⟨r0, r1, r2, r3⟩ := jy hM; rw [dm] at r0; clear dm hq hx hy hm hM
 go_enter Tryz.func112, Tryz.ntmps112
 go_wp2_with fail
 refine (CW.out _).mono ?_; rintro _ w2 ⟨rfl, hb⟩
 go_wp2_with fail
 refine bodyPost_ret (v := .int .u64 (q : Nat)) ?_ rfl ⟨rfl, hb⟩
 simp [results, Tryz.results112, go_sem]
theorem exp_long {x y m M : Nat} (hx : x < m) (hy : y < m) (hm : m < jj) (w : World) (hM : NumAt w M m) :
  Calls Tryz.prog 115 #[ji x, ji y, .pointer (some ⟨M, 0, none⟩)] w fun e w' => e = .returned (ji (x * y % m)) ∧ Below w.heap.size w w' := by
 have CT := jh (fun w => mtimes_any hx hy hm w); obtain ⟨q, hq⟩ := je (x * y % m); rw [← hq] at CT ⊢; have hMl := hM.lt; have HM := jh hM; clear hq hx hy hm hM; unfold ji words at *
 go_enter Tryz.func115, Tryz.ntmps115
 have q_0 := fun o1 o2 o3 => (NumAt.alloc (NumAt.alloc (NumAt.alloc HM.out o1) o2) o3) 0 (by omega)
 have q_1 := fun o1 o2 o3 => (NumAt.alloc (NumAt.alloc (NumAt.alloc HM.out o1) o2) o3) 1 (by omega)
 have q_2 := fun o1 o2 o3 => (NumAt.alloc (NumAt.alloc (NumAt.alloc HM.out o1) o2) o3) 2 (by omega)
 have q_3 := fun o1 o2 o3 => (NumAt.alloc (NumAt.alloc (NumAt.alloc HM.out o1) o2) o3) 3 (by omega)
 go_wp2_with fail
 clear q_0 q_1 q_2 q_3; obtain ⟨w_0, e_0⟩ := je (w.alloc (.cells #[.int .u64 (jf jd x 0), .int .u64 (jf jd x 1), .int .u64 (jf jd x 2), .int .u64 (jf jd x 3)] 24)); have s_0 : w_0.heap.size = w.heap.size + 1 := by rw [e_0]; simp
 have b_0 := jc e_0; have n_0 : NumAt w_0 (w.heap.size) x := by rw [e_0]; exact NumAt.new w x _ _ rfl
 obtain ⟨w_1, e_1⟩ := je (w_0.alloc (.cells #[.int .u64 (jf jd y 0), .int .u64 (jf jd y 1), .int .u64 (jf jd y 2), .int .u64 (jf jd y 3)] 24)); have s_1 : w_1.heap.size = w.heap.size + 1 + 1 := by rw [e_1]; simp [s_0]
 have b_1 := jc e_1; have n_1 : NumAt w_1 (w.heap.size + 1) y := by rw [e_1]; exact NumAt.new w_0 y _ _ s_0.symm
 obtain ⟨wz, e_2⟩ := je (w_1.alloc (.cells #[.int .u64 0, .int .u64 0, .int .u64 0, .int .u64 0] 24)); have s_2 : wz.heap.size = w.heap.size + 1 + 1 + 1 := by rw [e_2]; simp [s_1]
 have b_2 := jc e_2; have n_2 : NumAt wz (w.heap.size + 1 + 1) 0 := by rw [e_2, ← s_1]; exact jz w_1 _
 have f_2 : FreeN wz (w.heap.size + 1 + 1) 4 := by rw [e_2]; exact FreeN.made w_1 _ _ 4 _ s_1.symm
 rw [← e_0, ← e_1, ← e_2]; obtain ⟨XX, h_0⟩ := je (w.heap.size); obtain ⟨YY, h_1⟩ := je (XX + 1); obtain ⟨RR, h_2⟩ := je (YY + 1); have hwL : w.heap.size ≤ XX := by omega
 have hRd : RR < wz.heap.size := by omega
 rw [← h_0] at n_0 n_1 n_2 f_2 ⊢; rw [← h_1] at n_1 n_2 f_2 ⊢; rw [← h_2] at n_2 f_2 ⊢; have l_1 : XX < YY := by omega
 have l_2 : YY < RR := by omega
 have HXX := jh (NumAt.later b_2 (NumAt.later b_1 n_0)); have HYY := jh (NumAt.later b_2 n_1); have HRR := jh n_2; have HF := jh f_2; have B := jh ((b_0.trans (b_1.mono (by omega))).trans (b_2.mono (by omega))); have hwRR : w.heap.size ≤ RR := by omega
 have HSZ := jh (show wz.heap.size = RR + 1 by omega); clear e_0 s_0 b_0 n_0 h_0 e_1 s_1 b_1 n_1 h_1 e_2 s_2 b_2 n_2 h_2 f_2; refine (CT.out _).mono ?_; rintro _ w2 ⟨rfl, hb⟩; have HXX := jn hb HXX; have HYY := jn hb HYY; have HRR := jn hb HRR; have HF := jh (HF.out.later hb hRd); have hRd := Nat.lt_of_lt_of_le hRd hb.size; have B := jw B hb; clear hb; obtain ⟨c0, c1, c2, c3, f0, f1, f2, f3⟩ := jC HRR.out HF.out
 go_wp2_with fail
 have HRL := jh (NumAt.set4 HRR.out q); have B9 := jh (jp B.out hwRR (.int .u64 (jf jd q 0)) (.int .u64 (jf jd q 1)) (.int .u64 (jf jd q 2)) (.int .u64 (jf jd q 3))); obtain ⟨g0, g1, g2, g3⟩ := jy HRL.out; refine bodyPost_ret (v := .agg #[.int .u64 (jf jd q 0), .int .u64 (jf jd q 1), .int .u64 (jf jd q 2), .int .u64 (jf jd q 3)]) ?_ rfl ⟨rfl, B9.out⟩
 simp [results, Tryz.results115, go_sem, g0, g1, g2, g3]
theorem exp1_short {a n m N : Nat} (ha : a < m) (h1 : 1 < m) (hn : n < jj) (hml : m < jd) (u : Value) (w : World) (hN : NumAt w N n) :
  Calls Tryz.prog 109 #[ji a, ji a, ji m, .pointer (some ⟨N, 0, none⟩)] w fun e w' => e = .returned (ji (a ^ n % m)) ∧ Below w.heap.size w w' := by
 obtain ⟨q, hq⟩ := je (a ^ n % m); rw [← hq]; have hqm : q < m := by rw [hq]; exact Nat.mod_lt _ (by omega)
 have hm : m < jj := by unfold jj; unfold jd at hml; omega
 have da := jh (qf (Nat.lt_trans ha hml)).1; have hqw := Nat.lt_trans hqm hml; have CO := jh (fun w => by have h := of_any q hqw w; unfold ji words at h; exact h); obtain ⟨L, hL⟩ := je (jP m); have hLI : (L : Int) ≤ 64 := by have := bits_short.2 hml; omega
 have CB := jh (fun w => by have h := Jr hm w; rw [← hL] at h; unfold ji words at h; exact h); have HAM := jh ha; have HM1 := jh h1; have HN9 := jh hn; have HML := jh hml; have HMM9 := jh hm; have HQ := jh hq; have hNl := hN.lt; have HN := jh hN; clear hq hL ha h1 hn hml hm hqm hqw hN; unfold ji words
 go_enter Tryz.func109, Tryz.ntmps109
 go_wp2_with fail
 obtain ⟨w_0, e_0⟩ := je (w.alloc (.cells #[.int .u64 (jf jd a 0), .int .u64 (jf jd a 1), .int .u64 (jf jd a 2), .int .u64 (jf jd a 3)] 24)); have s_0 : w_0.heap.size = w.heap.size + 1 := by rw [e_0]; simp
 have b_0 := jc e_0; have n_0 : NumAt w_0 (w.heap.size) a := by rw [e_0]; exact NumAt.new w a _ _ rfl
 obtain ⟨w_1, e_1⟩ := je (w_0.alloc (.cells #[.int .u64 (jf jd a 0), .int .u64 (jf jd a 1), .int .u64 (jf jd a 2), .int .u64 (jf jd a 3)] 24)); have s_1 : w_1.heap.size = w.heap.size + 1 + 1 := by rw [e_1]; simp [s_0]
 have b_1 := jc e_1; have n_1 : NumAt w_1 (w.heap.size + 1) a := by rw [e_1]; exact NumAt.new w_0 a _ _ s_0.symm
 obtain ⟨w_2, e_2⟩ := je (w_1.alloc (.cells #[.int .u64 (jf jd m 0), .int .u64 (jf jd m 1), .int .u64 (jf jd m 2), .int .u64 (jf jd m 3)] 24)); have s_2 : w_2.heap.size = w.heap.size + 1 + 1 + 1 := by rw [e_2]; simp [s_1]
 have b_2 := jc e_2; have n_2 : NumAt w_2 (w.heap.size + 1 + 1) m := by rw [e_2]; exact NumAt.new w_1 m _ _ s_1.symm
 obtain ⟨wz, e_3⟩ := je (w_2.alloc (.cells #[.int .u64 0, .int .u64 0, .int .u64 0, .int .u64 0] 24)); have s_3 : wz.heap.size = w.heap.size + 1 + 1 + 1 + 1 := by rw [e_3]; simp [s_2]
 have b_3 := jc e_3; have n_3 : NumAt wz (w.heap.size + 1 + 1 + 1) 0 := by rw [e_3, ← s_2]; exact jz w_2 _
 have f_3 : FreeN wz (w.heap.size + 1 + 1 + 1) 4 := by rw [e_3]; exact FreeN.made w_2 _ _ 4 _ s_2.symm
 rw [← e_0, ← e_1, ← e_2, ← e_3]; obtain ⟨AA, h_0⟩ := je (w.heap.size); obtain ⟨BB, h_1⟩ := je (AA + 1); obtain ⟨MM, h_2⟩ := je (BB + 1); obtain ⟨RR, h_3⟩ := je (MM + 1); have hwL : w.heap.size ≤ AA := by omega
 have hRd : RR < wz.heap.size := by omega
 rw [← h_0] at n_0 n_1 n_2 n_3 f_3 ⊢; rw [← h_1] at n_1 n_2 n_3 f_3 ⊢; rw [← h_2] at n_2 n_3 f_3 ⊢; rw [← h_3] at n_3 f_3 ⊢; have l_1 : AA < BB := by omega
 have l_2 : BB < MM := by omega
 have l_3 : MM < RR := by omega
 have HAA := jh (NumAt.later b_3 (NumAt.later b_2 (NumAt.later b_1 n_0))); have HBB := jh (NumAt.later b_3 (NumAt.later b_2 n_1)); have HMM := jh (NumAt.later b_3 n_2); have HRR := jh n_3; have HF := jh f_3; have B := jh (((b_0.trans (b_1.mono (by omega))).trans (b_2.mono (by omega))).trans (b_3.mono (by omega))); have hwRR : w.heap.size ≤ RR := by omega
 have HSZ := jh (show wz.heap.size = RR + 1 by omega); clear e_0 s_0 b_0 n_0 h_0 e_1 s_1 b_1 n_1 h_1 e_2 s_2 b_2 n_2 h_2 e_3 s_3 b_3 n_3 h_3 f_3; have HNN := jh (NumAt.later (B.out.mono (Nat.le_refl _)) HN.out); clear HN; obtain ⟨NN, hNN9⟩ := je (N); rw [← hNN9] at HNN hNl ⊢; clear hNN9; refine (CB.out _).mono ?_; rintro _ w2 ⟨rfl, hb⟩; have HAA := jn hb HAA; have HBB := jn hb HBB; have HMM := jn hb HMM; have HRR := jn hb HRR; have HNN := jn hb HNN; have HF := jh (HF.out.later hb hRd); have hRd := Nat.lt_of_lt_of_le hRd hb.size; have B := jw B hb; clear hb; obtain ⟨r_AA_0, r_AA_1, r_AA_2, r_AA_3⟩ := jy HAA.out; obtain ⟨r_NN_0, r_NN_1, r_NN_2, r_NN_3⟩ := jy HNN.out; rw [da.out] at r_AA_0
 go_wp2_with fail
 clear r_AA_0 r_AA_1 r_AA_2 r_AA_3 r_NN_0 r_NN_1 r_NN_2 r_NN_3; have CP := power_word (f := 112) (caps := #[.pointer (some ⟨MM, 0, none⟩)]) HAM.out HM1.out HN9.out w2 (by intro args W; simp [go_sem]) (fun x y W hx hy hb => exp_word hx hy HML.out W (NumAt.later hb HMM.out)); rw [← HQ.out] at CP; unfold ji words at CP; refine CP.mono ?_; rintro _ w3 ⟨rfl, hb⟩; clear CP; have HAA := jn hb HAA; have HBB := jn hb HBB; have HMM := jn hb HMM; have HRR := jn hb HRR; have HNN := jn hb HNN; have HF := jh (HF.out.later hb hRd); have hRd := Nat.lt_of_lt_of_le hRd hb.size; have B := jw B hb; clear hb
 go_wp2_with fail
 refine (CO.out _).mono ?_; rintro _ w4 ⟨rfl, hb⟩; have HAA := jn hb HAA; have HBB := jn hb HBB; have HMM := jn hb HMM; have HRR := jn hb HRR; have HNN := jn hb HNN; have HF := jh (HF.out.later hb hRd); have hRd := Nat.lt_of_lt_of_le hRd hb.size; have B := jw B hb; clear hb; obtain ⟨c0, c1, c2, c3, f0, f1, f2, f3⟩ := jC HRR.out HF.out
 go_wp2_with fail
 have HRL := jh (NumAt.set4 HRR.out q); have B9 := jh (jp B.out hwRR (.int .u64 (jf jd q 0)) (.int .u64 (jf jd q 1)) (.int .u64 (jf jd q 2)) (.int .u64 (jf jd q 3))); obtain ⟨g0, g1, g2, g3⟩ := jy HRL.out; refine bodyPost_ret (v := .agg #[.int .u64 (jf jd q 0), .int .u64 (jf jd q 1), .int .u64 (jf jd q 2), .int .u64 (jf jd q 3)]) ?_ rfl ⟨rfl, B9.out⟩
 simp [results, Tryz.results109, go_sem, g0, g1, g2, g3]
theorem exp1_long {a n m N : Nat} (ha : a < m) (h1 : 1 < m) (hn : n < jj) (hml : jd ≤ m) (hm : m < jj) (u : Value) (w : World) (hN : NumAt w N n) :
  Calls Tryz.prog 109 #[ji a, ji a, ji m, .pointer (some ⟨N, 0, none⟩)] w fun e w' => e = .returned (ji (a ^ n % m)) ∧ Below w.heap.size w w' := by
 obtain ⟨q, hq⟩ := je (a ^ n % m); rw [← hq]; have hqm : q < m := by rw [hq]; exact Nat.mod_lt _ (by omega)
 have C1 := jh (fun w => by have h := qO 1 1 rfl (by decide) w; unfold ji words at h; exact h); obtain ⟨L, hL⟩ := je (jP m); have hLI : ¬ (L : Int) ≤ 64 := by have := mt bits_short.1 (show ¬ m < jd by omega); omega
 have CB := jh (fun w => by have h := Jr hm w; rw [← hL] at h; unfold ji words at h; exact h); have HAM := jh ha; have HM1 := jh h1; have HN9 := jh hn; have HML := jh hml; have HMM9 := jh hm; have HQ := jh hq; have hNl := hN.lt; have HN := jh hN; clear hq hL ha h1 hn hml hm hqm hN; unfold ji words
 go_enter Tryz.func109, Tryz.ntmps109
 go_wp2_with fail
 obtain ⟨w_0, e_0⟩ := je (w.alloc (.cells #[.int .u64 (jf jd a 0), .int .u64 (jf jd a 1), .int .u64 (jf jd a 2), .int .u64 (jf jd a 3)] 24)); have s_0 : w_0.heap.size = w.heap.size + 1 := by rw [e_0]; simp
 have b_0 := jc e_0; have n_0 : NumAt w_0 (w.heap.size) a := by rw [e_0]; exact NumAt.new w a _ _ rfl
 obtain ⟨w_1, e_1⟩ := je (w_0.alloc (.cells #[.int .u64 (jf jd a 0), .int .u64 (jf jd a 1), .int .u64 (jf jd a 2), .int .u64 (jf jd a 3)] 24)); have s_1 : w_1.heap.size = w.heap.size + 1 + 1 := by rw [e_1]; simp [s_0]
 have b_1 := jc e_1; have n_1 : NumAt w_1 (w.heap.size + 1) a := by rw [e_1]; exact NumAt.new w_0 a _ _ s_0.symm
 obtain ⟨w_2, e_2⟩ := je (w_1.alloc (.cells #[.int .u64 (jf jd m 0), .int .u64 (jf jd m 1), .int .u64 (jf jd m 2), .int .u64 (jf jd m 3)] 24)); have s_2 : w_2.heap.size = w.heap.size + 1 + 1 + 1 := by rw [e_2]; simp [s_1]
 have b_2 := jc e_2; have n_2 : NumAt w_2 (w.heap.size + 1 + 1) m := by rw [e_2]; exact NumAt.new w_1 m _ _ s_1.symm
 obtain ⟨wz, e_3⟩ := je (w_2.alloc (.cells #[.int .u64 0, .int .u64 0, .int .u64 0, .int .u64 0] 24)); have s_3 : wz.heap.size = w.heap.size + 1 + 1 + 1 + 1 := by rw [e_3]; simp [s_2]
 have b_3 := jc e_3; have n_3 : NumAt wz (w.heap.size + 1 + 1 + 1) 0 := by rw [e_3, ← s_2]; exact jz w_2 _
 have f_3 : FreeN wz (w.heap.size + 1 + 1 + 1) 4 := by rw [e_3]; exact FreeN.made w_2 _ _ 4 _ s_2.symm
 rw [← e_0, ← e_1, ← e_2, ← e_3]; obtain ⟨AA, h_0⟩ := je (w.heap.size); obtain ⟨BB, h_1⟩ := je (AA + 1); obtain ⟨MM, h_2⟩ := je (BB + 1); obtain ⟨RR, h_3⟩ := je (MM + 1); have hwL : w.heap.size ≤ AA := by omega
 have hRd : RR < wz.heap.size := by omega
 rw [← h_0] at n_0 n_1 n_2 n_3 f_3 ⊢; rw [← h_1] at n_1 n_2 n_3 f_3 ⊢; rw [← h_2] at n_2 n_3 f_3 ⊢; rw [← h_3] at n_3 f_3 ⊢; have l_1 : AA < BB := by omega
 have l_2 : BB < MM := by omega
 have l_3 : MM < RR := by omega
 have HAA := jh (NumAt.later b_3 (NumAt.later b_2 (NumAt.later b_1 n_0))); have HBB := jh (NumAt.later b_3 (NumAt.later b_2 n_1)); have HMM := jh (NumAt.later b_3 n_2); have HRR := jh n_3; have HF := jh f_3; have B := jh (((b_0.trans (b_1.mono (by omega))).trans (b_2.mono (by omega))).trans (b_3.mono (by omega))); have hwRR : w.heap.size ≤ RR := by omega
 have HSZ := jh (show wz.heap.size = RR + 1 by omega); clear e_0 s_0 b_0 n_0 h_0 e_1 s_1 b_1 n_1 h_1 e_2 s_2 b_2 n_2 h_2 e_3 s_3 b_3 n_3 h_3 f_3; have HNN := jh (NumAt.later (B.out.mono (Nat.le_refl _)) HN.out); clear HN; obtain ⟨NN, hNN9⟩ := je (N); rw [← hNN9] at HNN hNl ⊢; clear hNN9; refine (CB.out _).mono ?_; rintro _ w2 ⟨rfl, hb⟩; have HAA := jn hb HAA; have HBB := jn hb HBB; have HMM := jn hb HMM; have HRR := jn hb HRR; have HNN := jn hb HNN; have HF := jh (HF.out.later hb hRd); have hRd := Nat.lt_of_lt_of_le hRd hb.size; have B := jw B hb; clear hb; obtain ⟨r_AA_0, r_AA_1, r_AA_2, r_AA_3⟩ := jy HAA.out; obtain ⟨r_NN_0, r_NN_1, r_NN_2, r_NN_3⟩ := jy HNN.out
 go_wp2_with fail
 clear r_AA_0 r_AA_1 r_AA_2 r_AA_3 r_NN_0 r_NN_1 r_NN_2 r_NN_3; refine jv 5 (fun _ => none) (by kernel_rfl) (by kernel_rfl) (fun _ _ _ _ _ h => h) (fun F hn9 hcl hbl => ?_); have r_AA_0 := jr hbl HAA 0 (by omega); have r_AA_1 := jr hbl HAA 1 (by omega); have r_AA_2 := jr hbl HAA 2 (by omega); have r_AA_3 := jr hbl HAA 3 (by omega); have r_NN_0 := jr hbl HNN 0 (by omega); have r_NN_1 := jr hbl HNN 1 (by omega); have r_NN_2 := jr hbl HNN 2 (by omega); have r_NN_3 := jr hbl HNN 3 (by omega); have CP := jh (fun X9 : Wd F => by have h := power_num (f := 115) (caps := #[.pointer (some ⟨MM, 0, none⟩)]) HAM.out HM1.out HMM9.out HN9.out X9.world (by intro args W; simp [go_sem]) (fun x y W hx hy hb => exp_long hx hy HMM9.out W (NumAt.later hb (NumAt.later (hbl X9.world X9.fact) HMM.out))); rw [← HQ.out] at h; unfold ji words at h; exact h); have HCL := jh hcl; clear hcl hbl; refine jG 5 0 _ _ (fun _ _ _ => rfl) (by decide) ?_; simp only [List.take_succ_cons, List.take_zero, List.drop_succ_cons, List.drop_zero, Nat.reduceAdd]
 repeat (go_big_quiet_step ((first | (go_at_call 49; with_reducible exact js HCL.out (C1.out _)) | (go_at_call 114; with_reducible exact js HCL.out (CP.out _)))))
 refine wpQuiet_nil ?_; refine jI ?_; intro bs w3 hb _ _; clear r_AA_0 r_AA_1 r_AA_2 r_AA_3 r_NN_0 r_NN_1 r_NN_2 r_NN_3; have HAA := jn hb HAA; have HBB := jn hb HBB; have HMM := jn hb HMM; have HRR := jn hb HRR; have HNN := jn hb HNN; have HF := jh (HF.out.later hb hRd); have hRd := Nat.lt_of_lt_of_le hRd hb.size; have B := jw B hb; clear hb; simp only [qx]; obtain ⟨c0, c1, c2, c3, f0, f1, f2, f3⟩ := jC HRR.out HF.out
 go_wp2_with fail
 have HRL := jh (NumAt.set4 HRR.out q); have B9 := jh (jp B.out hwRR (.int .u64 (jf jd q 0)) (.int .u64 (jf jd q 1)) (.int .u64 (jf jd q 2)) (.int .u64 (jf jd q 3))); obtain ⟨g0, g1, g2, g3⟩ := jy HRL.out; refine bodyPost_ret (v := .agg #[.int .u64 (jf jd q 0), .int .u64 (jf jd q 1), .int .u64 (jf jd q 2), .int .u64 (jf jd q 3)]) ?_ rfl ⟨rfl, B9.out⟩
 simp [results, Tryz.results109, go_sem, g0, g1, g2, g3]
theorem exp1_any {a n m N : Nat} (ha : a < m) (h1 : 1 < m) (hn : n < jj) (hm : m < jj) (w : World) (hN : NumAt w N n) :
  Calls Tryz.prog 109 #[ji a, ji a, ji m, .pointer (some ⟨N, 0, none⟩)] w fun e w' => e = .returned (ji (a ^ n % m)) ∧ Below w.heap.size w w' := by
 rcases Nat.lt_or_ge m jd with h | h
 ·exact exp1_short ha h1 hn h (.bool true) w hN
 ·exact exp1_long ha h1 hn h hm (.bool true) w hN
theorem Exp_any {a n m : Nat} (ha : a < m) (h1 : 1 < m) (hn : n < jj) (hm : m < jj) (w : World) :
  Calls Tryz.prog 76 #[ji a, ji n, ji m] w fun e w' => e = .returned (.tuple #[ji (a ^ n % m), .int .i64 0]) ∧ Below w.heap.size w w' := by
 obtain ⟨q, hq⟩ := je (a ^ n % m); rw [← hq]; have HQ := jh hq; have HA9 := jh ha; have HM1 := jh h1; have HN9 := jh hn; have HM9 := jh hm; clear hq ha h1 hn hm; unfold ji words
 go_enter Tryz.func76, Tryz.ntmps76
 go_wp2_with fail
 obtain ⟨w_0, e_0⟩ := je (w.alloc (.cells #[.int .u64 (jf jd a 0), .int .u64 (jf jd a 1), .int .u64 (jf jd a 2), .int .u64 (jf jd a 3)] 24)); have s_0 : w_0.heap.size = w.heap.size + 1 := by rw [e_0]; simp
 have b_0 := jc e_0; have n_0 : NumAt w_0 (w.heap.size) a := by rw [e_0]; exact NumAt.new w a _ _ rfl
 obtain ⟨w_1, e_1⟩ := je (w_0.alloc (.cells #[.int .u64 (jf jd n 0), .int .u64 (jf jd n 1), .int .u64 (jf jd n 2), .int .u64 (jf jd n 3)] 24)); have s_1 : w_1.heap.size = w.heap.size + 1 + 1 := by rw [e_1]; simp [s_0]
 have b_1 := jc e_1; have n_1 : NumAt w_1 (w.heap.size + 1) n := by rw [e_1]; exact NumAt.new w_0 n _ _ s_0.symm
 obtain ⟨w_2, e_2⟩ := je (w_1.alloc (.cells #[.int .u64 (jf jd m 0), .int .u64 (jf jd m 1), .int .u64 (jf jd m 2), .int .u64 (jf jd m 3)] 24)); have s_2 : w_2.heap.size = w.heap.size + 1 + 1 + 1 := by rw [e_2]; simp [s_1]
 have b_2 := jc e_2; have n_2 : NumAt w_2 (w.heap.size + 1 + 1) m := by rw [e_2]; exact NumAt.new w_1 m _ _ s_1.symm
 obtain ⟨wz, e_3⟩ := je (w_2.alloc (.cells #[.int .u64 0, .int .u64 0, .int .u64 0, .int .u64 0] 24)); have s_3 : wz.heap.size = w.heap.size + 1 + 1 + 1 + 1 := by rw [e_3]; simp [s_2]
 have b_3 := jc e_3; have n_3 : NumAt wz (w.heap.size + 1 + 1 + 1) 0 := by rw [e_3, ← s_2]; exact jz w_2 _
 have f_3 : FreeN wz (w.heap.size + 1 + 1 + 1) 4 := by rw [e_3]; exact FreeN.made w_2 _ _ 4 _ s_2.symm
 rw [← e_0, ← e_1, ← e_2, ← e_3]; obtain ⟨AA, h_0⟩ := je (w.heap.size); obtain ⟨NN, h_1⟩ := je (AA + 1); obtain ⟨MM, h_2⟩ := je (NN + 1); obtain ⟨RR, h_3⟩ := je (MM + 1); have hwL : w.heap.size ≤ AA := by omega
 have hRd : RR < wz.heap.size := by omega
 rw [← h_0] at n_0 n_1 n_2 n_3 f_3 ⊢; rw [← h_1] at n_1 n_2 n_3 f_3 ⊢; rw [← h_2] at n_2 n_3 f_3 ⊢; rw [← h_3] at n_3 f_3 ⊢; have l_1 : AA < NN := by omega
 have l_2 : NN < MM := by omega
 have l_3 : MM < RR := by omega
 have HAA := jh (NumAt.later b_3 (NumAt.later b_2 (NumAt.later b_1 n_0))); have HNN := jh (NumAt.later b_3 (NumAt.later b_2 n_1)); have HMM := jh (NumAt.later b_3 n_2); have HRR := jh n_3; have HF := jh f_3; have B := jh (((b_0.trans (b_1.mono (by omega))).trans (b_2.mono (by omega))).trans (b_3.mono (by omega))); have hwRR : w.heap.size ≤ RR := by omega
 have HSZ := jh (show wz.heap.size = RR + 1 by omega); clear e_0 s_0 b_0 n_0 h_0 e_1 s_1 b_1 n_1 h_1 e_2 s_2 b_2 n_2 h_2 e_3 s_3 b_3 n_3 h_3 f_3; have CO := of_may (q := q) (f := 109) (caps := #[.pointer (some ⟨NN, 0, none⟩)]) HA9.out HA9.out HM1.out HM9.out wz (by intro args W; simp [go_sem]) (fun W hb => by have h := exp1_any HA9.out HM1.out HN9.out HM9.out W (NumAt.later hb HNN.out); rw [← HQ.out] at h; exact h); unfold ji words at CO; refine CO.mono ?_; rintro _ w3 ⟨rfl, hb⟩; clear CO; have HAA := jn hb HAA; have HNN := jn hb HNN; have HMM := jn hb HMM; have HRR := jn hb HRR; have HF := jh (HF.out.later hb hRd); have hRd := Nat.lt_of_lt_of_le hRd hb.size; have B := jw B hb; clear hb; obtain ⟨c0, c1, c2, c3, f0, f1, f2, f3⟩ := jC HRR.out HF.out
 go_wp2_with fail
 have HRL := jh (NumAt.set4 HRR.out q); have B9 := jh (jp B.out hwRR (.int .u64 (jf jd q 0)) (.int .u64 (jf jd q 1)) (.int .u64 (jf jd q 2)) (.int .u64 (jf jd q 3))); obtain ⟨g0, g1, g2, g3⟩ := jy HRL.out; refine bodyPost_ret (v := .tuple #[.agg #[.int .u64 (jf jd q 0), .int .u64 (jf jd q 1), .int .u64 (jf jd q 2), .int .u64 (jf jd q 3)], .int .i64 0]) ?_ rfl ⟨rfl, B9.out⟩
 simp [results, Tryz.results76, go_sem, g0, g1, g2, g3]
theorem Mul_any {a n m : Nat} (ha : a < m) (h1 : 1 < m) (hn : n < m) (hm : m < jj) (w : World) :
  Calls Tryz.prog 54 #[ji a, ji n, ji m] w fun e w' => e = .returned (.tuple #[ji (a * n % m), .int .i64 0]) ∧ Below w.heap.size w w' := by
 obtain ⟨q, hq⟩ := je (a * n % m); rw [← hq]; have HQ := jh hq; have HA9 := jh ha; have HM1 := jh h1; have HN9 := jh hn; have HM9 := jh hm; clear hq ha h1 hn hm; unfold ji words
 go_enter Tryz.func54, Tryz.ntmps54
 go_wp2_with fail
 obtain ⟨w_0, e_0⟩ := je (w.alloc (.cells #[.int .u64 (jf jd a 0), .int .u64 (jf jd a 1), .int .u64 (jf jd a 2), .int .u64 (jf jd a 3)] 24)); have s_0 : w_0.heap.size = w.heap.size + 1 := by rw [e_0]; simp
 have b_0 := jc e_0; have n_0 : NumAt w_0 (w.heap.size) a := by rw [e_0]; exact NumAt.new w a _ _ rfl
 obtain ⟨w_1, e_1⟩ := je (w_0.alloc (.cells #[.int .u64 (jf jd n 0), .int .u64 (jf jd n 1), .int .u64 (jf jd n 2), .int .u64 (jf jd n 3)] 24)); have s_1 : w_1.heap.size = w.heap.size + 1 + 1 := by rw [e_1]; simp [s_0]
 have b_1 := jc e_1; have n_1 : NumAt w_1 (w.heap.size + 1) n := by rw [e_1]; exact NumAt.new w_0 n _ _ s_0.symm
 obtain ⟨w_2, e_2⟩ := je (w_1.alloc (.cells #[.int .u64 (jf jd m 0), .int .u64 (jf jd m 1), .int .u64 (jf jd m 2), .int .u64 (jf jd m 3)] 24)); have s_2 : w_2.heap.size = w.heap.size + 1 + 1 + 1 := by rw [e_2]; simp [s_1]
 have b_2 := jc e_2; have n_2 : NumAt w_2 (w.heap.size + 1 + 1) m := by rw [e_2]; exact NumAt.new w_1 m _ _ s_1.symm
 obtain ⟨wz, e_3⟩ := je (w_2.alloc (.cells #[.int .u64 0, .int .u64 0, .int .u64 0, .int .u64 0] 24)); have s_3 : wz.heap.size = w.heap.size + 1 + 1 + 1 + 1 := by rw [e_3]; simp [s_2]
 have b_3 := jc e_3; have n_3 : NumAt wz (w.heap.size + 1 + 1 + 1) 0 := by rw [e_3, ← s_2]; exact jz w_2 _
 have f_3 : FreeN wz (w.heap.size + 1 + 1 + 1) 4 := by rw [e_3]; exact FreeN.made w_2 _ _ 4 _ s_2.symm
 rw [← e_0, ← e_1, ← e_2, ← e_3]; obtain ⟨AA, h_0⟩ := je (w.heap.size); obtain ⟨NN, h_1⟩ := je (AA + 1); obtain ⟨MM, h_2⟩ := je (NN + 1); obtain ⟨RR, h_3⟩ := je (MM + 1); have hwL : w.heap.size ≤ AA := by omega
 have hRd : RR < wz.heap.size := by omega
 rw [← h_0] at n_0 n_1 n_2 n_3 f_3 ⊢; rw [← h_1] at n_1 n_2 n_3 f_3 ⊢; rw [← h_2] at n_2 n_3 f_3 ⊢; rw [← h_3] at n_3 f_3 ⊢; have l_1 : AA < NN := by omega
 have l_2 : NN < MM := by omega
 have l_3 : MM < RR := by omega
 have HAA := jh (NumAt.later b_3 (NumAt.later b_2 (NumAt.later b_1 n_0))); have HNN := jh (NumAt.later b_3 (NumAt.later b_2 n_1)); have HMM := jh (NumAt.later b_3 n_2); have HRR := jh n_3; have HF := jh f_3; have B := jh (((b_0.trans (b_1.mono (by omega))).trans (b_2.mono (by omega))).trans (b_3.mono (by omega))); have hwRR : w.heap.size ≤ RR := by omega
 have HSZ := jh (show wz.heap.size = RR + 1 by omega); clear e_0 s_0 b_0 n_0 h_0 e_1 s_1 b_1 n_1 h_1 e_2 s_2 b_2 n_2 h_2 e_3 s_3 b_3 n_3 h_3 f_3; have CO := of_may (q := q) (f := 83) (caps := #[]) HA9.out HN9.out HM1.out HM9.out wz (by intro args W; simp [go_sem]) (fun W hb => by have h := mtimes_any HA9.out HN9.out HM9.out W; rw [← HQ.out] at h; exact h); unfold ji words at CO; refine CO.mono ?_; rintro _ w3 ⟨rfl, hb⟩; clear CO; have HAA := jn hb HAA; have HNN := jn hb HNN; have HMM := jn hb HMM; have HRR := jn hb HRR; have HF := jh (HF.out.later hb hRd); have hRd := Nat.lt_of_lt_of_le hRd hb.size; have B := jw B hb; clear hb; obtain ⟨c0, c1, c2, c3, f0, f1, f2, f3⟩ := jC HRR.out HF.out
 go_wp2_with fail
 have HRL := jh (NumAt.set4 HRR.out q); have B9 := jh (jp B.out hwRR (.int .u64 (jf jd q 0)) (.int .u64 (jf jd q 1)) (.int .u64 (jf jd q 2)) (.int .u64 (jf jd q 3))); obtain ⟨g0, g1, g2, g3⟩ := jy HRL.out; refine bodyPost_ret (v := .tuple #[.agg #[.int .u64 (jf jd q 0), .int .u64 (jf jd q 1), .int .u64 (jf jd q 2), .int .u64 (jf jd q 3)], .int .i64 0]) ?_ rfl ⟨rfl, B9.out⟩
 simp [results, Tryz.results54, go_sem, g0, g1, g2, g3]
theorem addM {a b m s : Nat} (ha : a < m) (hb : b < m) (hs : s = a + b) : (a + b) % m = if m ≤ s then s - m else s := by
 rw [← hs]
 split
 ·rename_i h
  rw [Nat.mod_eq_sub_mod h, Nat.mod_eq_of_lt (by omega)]
 ·exact Nat.mod_eq_of_lt (by omega)
theorem add1_big {a b m : Nat} (ha : a < m) (hb9 : b < m) (hm : m < jj) (hs : jj ≤ a + b) (w : World) :
  Calls Tryz.prog 116 #[ji a, ji b, ji m] w fun e w' => e = .returned (ji ((a + b) % m)) ∧ Below w.heap.size w w' := by
 have ha9 := Nat.lt_trans ha hm; have hb8 := Nat.lt_trans hb9 hm; have hM := addM ha hb9 rfl; obtain ⟨x, hx⟩ := je (qA a b); have hx9 : x < jj := by rw [hx]; exact JE _ _
 obtain ⟨q, hq⟩ := je ((a + b) % m); have eC : qr a b = 1 := by unfold qr; unfold jj at *; omega
 have hq9 : q = a + b - m := by rw [hq, hM]; unfold qA at hx; unfold jj at *; split <;> omega
 have ex : x = a + b - jj := by rw [hx]; unfold qA; unfold jj at *; omega
 have ey : qV x m = q := by rw [ex, hq9]; unfold qV; unfold jj at *; omega
 obtain ⟨l, hl⟩ := je (qp x m); obtain ⟨y, hy⟩ := je (qV x m); have C1 := jh (fun w => by have h := Qv ha9 hb8 w; rw [eC, ← hx] at h; unfold ji words at h; exact h); have C2 := jh (fun w => by have h := Jy hx9 hm w; rw [← hl, ← hy] at h; unfold ji words at h; exact h); have HY := jh (hy.trans ey); rw [← hq]; clear hM hx hx9 hq eC hq9 ex ey hl hy ha hb9 hm hs ha9 hb8; unfold ji words
 go_enter Tryz.func116, Tryz.ntmps116
 go_wp2_with fail
 obtain ⟨w_0, e_0⟩ := je (w.alloc (.cells #[.int .u64 (jf jd a 0), .int .u64 (jf jd a 1), .int .u64 (jf jd a 2), .int .u64 (jf jd a 3)] 24)); have s_0 : w_0.heap.size = w.heap.size + 1 := by rw [e_0]; simp
 have b_0 := jc e_0; have n_0 : NumAt w_0 (w.heap.size) a := by rw [e_0]; exact NumAt.new w a _ _ rfl
 obtain ⟨w_1, e_1⟩ := je (w_0.alloc (.cells #[.int .u64 (jf jd b 0), .int .u64 (jf jd b 1), .int .u64 (jf jd b 2), .int .u64 (jf jd b 3)] 24)); have s_1 : w_1.heap.size = w.heap.size + 1 + 1 := by rw [e_1]; simp [s_0]
 have b_1 := jc e_1; have n_1 : NumAt w_1 (w.heap.size + 1) b := by rw [e_1]; exact NumAt.new w_0 b _ _ s_0.symm
 obtain ⟨w_2, e_2⟩ := je (w_1.alloc (.cells #[.int .u64 (jf jd m 0), .int .u64 (jf jd m 1), .int .u64 (jf jd m 2), .int .u64 (jf jd m 3)] 24)); have s_2 : w_2.heap.size = w.heap.size + 1 + 1 + 1 := by rw [e_2]; simp [s_1]
 have b_2 := jc e_2; have n_2 : NumAt w_2 (w.heap.size + 1 + 1) m := by rw [e_2]; exact NumAt.new w_1 m _ _ s_1.symm
 obtain ⟨wz, e_3⟩ := je (w_2.alloc (.cells #[.int .u64 0, .int .u64 0, .int .u64 0, .int .u64 0] 24)); have s_3 : wz.heap.size = w.heap.size + 1 + 1 + 1 + 1 := by rw [e_3]; simp [s_2]
 have b_3 := jc e_3; have n_3 : NumAt wz (w.heap.size + 1 + 1 + 1) 0 := by rw [e_3, ← s_2]; exact jz w_2 _
 have f_3 : FreeN wz (w.heap.size + 1 + 1 + 1) 4 := by rw [e_3]; exact FreeN.made w_2 _ _ 4 _ s_2.symm
 rw [← e_0, ← e_1, ← e_2, ← e_3]; obtain ⟨AA, h_0⟩ := je (w.heap.size); obtain ⟨BB, h_1⟩ := je (AA + 1); obtain ⟨MM, h_2⟩ := je (BB + 1); obtain ⟨RR, h_3⟩ := je (MM + 1); have hwL : w.heap.size ≤ AA := by omega
 have hRd : RR < wz.heap.size := by omega
 rw [← h_0] at n_0 n_1 n_2 n_3 f_3 ⊢; rw [← h_1] at n_1 n_2 n_3 f_3 ⊢; rw [← h_2] at n_2 n_3 f_3 ⊢; rw [← h_3] at n_3 f_3 ⊢; have l_1 : AA < BB := by omega
 have l_2 : BB < MM := by omega
 have l_3 : MM < RR := by omega
 have HAA := jh (NumAt.later b_3 (NumAt.later b_2 (NumAt.later b_1 n_0))); have HBB := jh (NumAt.later b_3 (NumAt.later b_2 n_1)); have HMM := jh (NumAt.later b_3 n_2); have HRR := jh n_3; have HF := jh f_3; have B := jh (((b_0.trans (b_1.mono (by omega))).trans (b_2.mono (by omega))).trans (b_3.mono (by omega))); have hwRR : w.heap.size ≤ RR := by omega
 have HSZ := jh (show wz.heap.size = RR + 1 by omega); clear e_0 s_0 b_0 n_0 h_0 e_1 s_1 b_1 n_1 h_1 e_2 s_2 b_2 n_2 h_2 e_3 s_3 b_3 n_3 h_3 f_3; refine (C1.out _).mono ?_; rintro _ w2 ⟨rfl, hb⟩; have HAA := jn hb HAA; have HBB := jn hb HBB; have HMM := jn hb HMM; have HRR := jn hb HRR; have HF := jh (HF.out.later hb hRd); have hRd := Nat.lt_of_lt_of_le hRd hb.size; have B := jw B hb; clear hb; have q_0 := fun o1 => (NumAt.alloc HMM.out o1) 0 (by omega)
 have q_1 := fun o1 => (NumAt.alloc HMM.out o1) 1 (by omega)
 have q_2 := fun o1 => (NumAt.alloc HMM.out o1) 2 (by omega)
 have q_3 := fun o1 => (NumAt.alloc HMM.out o1) 3 (by omega)
 go_wp2_with fail
 clear q_0 q_1 q_2 q_3; obtain ⟨w3, e3⟩ := je (w2.alloc (.cells #[.int .u64 (jf jd x 0), .int .u64 (jf jd x 1), .int .u64 (jf jd x 2), .int .u64 (jf jd x 3)] 24)); obtain ⟨XX, hX⟩ := je (w2.heap.size); have hb := jc e3; have HXX := jh (show NumAt w3 XX x by rw [e3]; exact NumAt.new w2 x _ _ hX); have nXR : XX ≠ RR := by omega
 rw [← e3, ← hX]; clear e3 hX; have HAA := jn hb HAA; have HBB := jn hb HBB; have HMM := jn hb HMM; have HRR := jn hb HRR; have HF := jh (HF.out.later hb hRd); have hRd := Nat.lt_of_lt_of_le hRd hb.size; have B := jw B hb; clear hb; refine (C2.out _).mono ?_; rintro _ w4 ⟨rfl, hb⟩; have HAA := jn hb HAA; have HBB := jn hb HBB; have HMM := jn hb HMM; have HRR := jn hb HRR; have HXX := jn hb HXX; have HF := jh (HF.out.later hb hRd); have hRd := Nat.lt_of_lt_of_le hRd hb.size; have B := jw B hb; clear hb; obtain ⟨c0, c1, c2, c3, f0, f1, f2, f3⟩ := jC HRR.out HF.out; obtain ⟨r_XX_0, r_XX_1, r_XX_2, r_XX_3⟩ := jy HXX.out
 go_wp2_with fail
 rw [HY.out]; have HRL := jh (NumAt.set4 HRR.out q); have B9 := jh (jp B.out hwRR (.int .u64 (jf jd q 0)) (.int .u64 (jf jd q 1)) (.int .u64 (jf jd q 2)) (.int .u64 (jf jd q 3))); have hba : ∀ W : World, Below W.heap.size W (W.alloc (.cells #[.int .u64 (jf jd q 0), .int .u64 (jf jd q 1), .int .u64 (jf jd q 2), .int .u64 (jf jd q 3)] 24)) := fun W => ja
 have B9 := jh (jk B9.out (hba _)); have HRL := jh (NumAt.later (hba _) HRL.out); clear hba; obtain ⟨g0, g1, g2, g3⟩ := jy HRL.out; refine bodyPost_ret (v := .agg #[.int .u64 (jf jd q 0), .int .u64 (jf jd q 1), .int .u64 (jf jd q 2), .int .u64 (jf jd q 3)]) ?_ rfl ⟨rfl, B9.out⟩
 simp [results, Tryz.results116, go_sem, g0, g1, g2, g3]
theorem add1_over {a b m : Nat} (ha : a < m) (hb9 : b < m) (hm : m < jj) (hs : m ≤ a + b) (h256 : a + b < jj) (w : World) :
  Calls Tryz.prog 116 #[ji a, ji b, ji m] w fun e w' => e = .returned (ji ((a + b) % m)) ∧ Below w.heap.size w w' := by
 have ha9 := Nat.lt_trans ha hm; have hb8 := Nat.lt_trans hb9 hm; have hM := addM ha hb9 rfl; obtain ⟨x, hx⟩ := je (qA a b); have hx9 : x < jj := by rw [hx]; exact JE _ _
 obtain ⟨q, hq⟩ := je ((a + b) % m); have eC : qr a b = 0 := by unfold qr; unfold jj at *; omega
 have hq9 : q = a + b - m := by rw [hq, hM]; unfold qA at hx; unfold jj at *; split <;> omega
 have ex : x = a + b := by rw [hx]; unfold qA; unfold jj at *; omega
 have ey : qV x m = q := by rw [ex, hq9]; unfold qV; unfold jj at *; omega
 have el : qp x m = 0 := by unfold qp; rw [if_neg (by omega)]
 obtain ⟨l, hl⟩ := je (qp x m); obtain ⟨y, hy⟩ := je (qV x m); have C1 := jh (fun w => by have h := Qv ha9 hb8 w; rw [eC, ← hx] at h; unfold ji words at h; exact h); have C2 := jh (fun w => by have h := Jy hx9 hm w; rw [← hl, ← hy] at h; unfold ji words at h; exact h); have HY := jh (hy.trans ey); have HLq := jh (hl.trans el); rw [hl.trans el] at C2; rw [← hq]; clear hM hx hx9 hq eC hq9 ex ey hl hy ha hb9 hm hs ha9 hb8 el h256; unfold ji words
 go_enter Tryz.func116, Tryz.ntmps116
 go_wp2_with fail
 obtain ⟨w_0, e_0⟩ := je (w.alloc (.cells #[.int .u64 (jf jd a 0), .int .u64 (jf jd a 1), .int .u64 (jf jd a 2), .int .u64 (jf jd a 3)] 24)); have s_0 : w_0.heap.size = w.heap.size + 1 := by rw [e_0]; simp
 have b_0 := jc e_0; have n_0 : NumAt w_0 (w.heap.size) a := by rw [e_0]; exact NumAt.new w a _ _ rfl
 obtain ⟨w_1, e_1⟩ := je (w_0.alloc (.cells #[.int .u64 (jf jd b 0), .int .u64 (jf jd b 1), .int .u64 (jf jd b 2), .int .u64 (jf jd b 3)] 24)); have s_1 : w_1.heap.size = w.heap.size + 1 + 1 := by rw [e_1]; simp [s_0]
 have b_1 := jc e_1; have n_1 : NumAt w_1 (w.heap.size + 1) b := by rw [e_1]; exact NumAt.new w_0 b _ _ s_0.symm
 obtain ⟨w_2, e_2⟩ := je (w_1.alloc (.cells #[.int .u64 (jf jd m 0), .int .u64 (jf jd m 1), .int .u64 (jf jd m 2), .int .u64 (jf jd m 3)] 24)); have s_2 : w_2.heap.size = w.heap.size + 1 + 1 + 1 := by rw [e_2]; simp [s_1]
 have b_2 := jc e_2; have n_2 : NumAt w_2 (w.heap.size + 1 + 1) m := by rw [e_2]; exact NumAt.new w_1 m _ _ s_1.symm
 obtain ⟨wz, e_3⟩ := je (w_2.alloc (.cells #[.int .u64 0, .int .u64 0, .int .u64 0, .int .u64 0] 24)); have s_3 : wz.heap.size = w.heap.size + 1 + 1 + 1 + 1 := by rw [e_3]; simp [s_2]
 have b_3 := jc e_3; have n_3 : NumAt wz (w.heap.size + 1 + 1 + 1) 0 := by rw [e_3, ← s_2]; exact jz w_2 _
 have f_3 : FreeN wz (w.heap.size + 1 + 1 + 1) 4 := by rw [e_3]; exact FreeN.made w_2 _ _ 4 _ s_2.symm
 rw [← e_0, ← e_1, ← e_2, ← e_3]; obtain ⟨AA, h_0⟩ := je (w.heap.size); obtain ⟨BB, h_1⟩ := je (AA + 1); obtain ⟨MM, h_2⟩ := je (BB + 1); obtain ⟨RR, h_3⟩ := je (MM + 1); have hwL : w.heap.size ≤ AA := by omega
 have hRd : RR < wz.heap.size := by omega
 rw [← h_0] at n_0 n_1 n_2 n_3 f_3 ⊢; rw [← h_1] at n_1 n_2 n_3 f_3 ⊢; rw [← h_2] at n_2 n_3 f_3 ⊢; rw [← h_3] at n_3 f_3 ⊢; have l_1 : AA < BB := by omega
 have l_2 : BB < MM := by omega
 have l_3 : MM < RR := by omega
 have HAA := jh (NumAt.later b_3 (NumAt.later b_2 (NumAt.later b_1 n_0))); have HBB := jh (NumAt.later b_3 (NumAt.later b_2 n_1)); have HMM := jh (NumAt.later b_3 n_2); have HRR := jh n_3; have HF := jh f_3; have B := jh (((b_0.trans (b_1.mono (by omega))).trans (b_2.mono (by omega))).trans (b_3.mono (by omega))); have hwRR : w.heap.size ≤ RR := by omega
 have HSZ := jh (show wz.heap.size = RR + 1 by omega); clear e_0 s_0 b_0 n_0 h_0 e_1 s_1 b_1 n_1 h_1 e_2 s_2 b_2 n_2 h_2 e_3 s_3 b_3 n_3 h_3 f_3; refine (C1.out _).mono ?_; rintro _ w2 ⟨rfl, hb⟩; have HAA := jn hb HAA; have HBB := jn hb HBB; have HMM := jn hb HMM; have HRR := jn hb HRR; have HF := jh (HF.out.later hb hRd); have hRd := Nat.lt_of_lt_of_le hRd hb.size; have B := jw B hb; clear hb; have q_0 := fun o1 => (NumAt.alloc HMM.out o1) 0 (by omega)
 have q_1 := fun o1 => (NumAt.alloc HMM.out o1) 1 (by omega)
 have q_2 := fun o1 => (NumAt.alloc HMM.out o1) 2 (by omega)
 have q_3 := fun o1 => (NumAt.alloc HMM.out o1) 3 (by omega)
 go_wp2_with fail
 clear q_0 q_1 q_2 q_3; obtain ⟨w3, e3⟩ := je (w2.alloc (.cells #[.int .u64 (jf jd x 0), .int .u64 (jf jd x 1), .int .u64 (jf jd x 2), .int .u64 (jf jd x 3)] 24)); obtain ⟨XX, hX⟩ := je (w2.heap.size); have hb := jc e3; have HXX := jh (show NumAt w3 XX x by rw [e3]; exact NumAt.new w2 x _ _ hX); have nXR : XX ≠ RR := by omega
 rw [← e3, ← hX]; clear e3 hX; have HAA := jn hb HAA; have HBB := jn hb HBB; have HMM := jn hb HMM; have HRR := jn hb HRR; have HF := jh (HF.out.later hb hRd); have hRd := Nat.lt_of_lt_of_le hRd hb.size; have B := jw B hb; clear hb; refine (C2.out _).mono ?_; rintro _ w4 ⟨rfl, hb⟩; have HAA := jn hb HAA; have HBB := jn hb HBB; have HMM := jn hb HMM; have HRR := jn hb HRR; have HXX := jn hb HXX; have HF := jh (HF.out.later hb hRd); have hRd := Nat.lt_of_lt_of_le hRd hb.size; have B := jw B hb; clear hb; obtain ⟨c0, c1, c2, c3, f0, f1, f2, f3⟩ := jC HRR.out HF.out; obtain ⟨r_XX_0, r_XX_1, r_XX_2, r_XX_3⟩ := jy HXX.out
 go_wp2_with fail
 rw [HY.out]; have HRL := jh (NumAt.set4 HRR.out q); have B9 := jh (jp B.out hwRR (.int .u64 (jf jd q 0)) (.int .u64 (jf jd q 1)) (.int .u64 (jf jd q 2)) (.int .u64 (jf jd q 3))); have hba : ∀ W : World, Below W.heap.size W (W.alloc (.cells #[.int .u64 (jf jd q 0), .int .u64 (jf jd q 1), .int .u64 (jf jd q 2), .int .u64 (jf jd q 3)] 24)) := fun W => ja
 have B9 := jh (jk B9.out (hba _)); have HRL := jh (NumAt.later (hba _) HRL.out); clear hba; obtain ⟨g0, g1, g2, g3⟩ := jy HRL.out; refine bodyPost_ret (v := .agg #[.int .u64 (jf jd q 0), .int .u64 (jf jd q 1), .int .u64 (jf jd q 2), .int .u64 (jf jd q 3)]) ?_ rfl ⟨rfl, B9.out⟩
 simp [results, Tryz.results116, go_sem, g0, g1, g2, g3]
theorem add1_small {a b m : Nat} (ha : a < m) (hb9 : b < m) (hm : m < jj) (hs : a + b < m) (w : World) :
  Calls Tryz.prog 116 #[ji a, ji b, ji m] w fun e w' => e = .returned (ji ((a + b) % m)) ∧ Below w.heap.size w w' := by
 have ha9 := Nat.lt_trans ha hm; have hb8 := Nat.lt_trans hb9 hm; have hM := addM ha hb9 rfl; obtain ⟨x, hx⟩ := je (qA a b); have hx9 : x < jj := by rw [hx]; exact JE _ _
 obtain ⟨q, hq⟩ := je ((a + b) % m); have eC : qr a b = 0 := by unfold qr; unfold jj at *; omega
 have hq9 : q = a + b := by rw [hq, hM]; unfold qA at hx; unfold jj at *; split <;> omega
 have ex : x = a + b := by rw [hx]; unfold qA; unfold jj at *; omega
 have ey : x = q := by omega
 have el : qp x m = 1 := by unfold qp; rw [if_pos (by omega)]
 obtain ⟨l, hl⟩ := je (qp x m); obtain ⟨y, hy⟩ := je (qV x m); have C1 := jh (fun w => by have h := Qv ha9 hb8 w; rw [eC, ← hx] at h; unfold ji words at h; exact h); have C2 := jh (fun w => by have h := Jy hx9 hm w; rw [← hl, ← hy] at h; unfold ji words at h; exact h); have HY := jh ey; have HLq := jh (hl.trans el); rw [hl.trans el] at C2; rw [← hq]; clear hM hx hx9 hq eC hq9 ex ey hl hy ha hb9 hm hs ha9 hb8 el; unfold ji words
 go_enter Tryz.func116, Tryz.ntmps116
 go_wp2_with fail
 obtain ⟨w_0, e_0⟩ := je (w.alloc (.cells #[.int .u64 (jf jd a 0), .int .u64 (jf jd a 1), .int .u64 (jf jd a 2), .int .u64 (jf jd a 3)] 24)); have s_0 : w_0.heap.size = w.heap.size + 1 := by rw [e_0]; simp
 have b_0 := jc e_0; have n_0 : NumAt w_0 (w.heap.size) a := by rw [e_0]; exact NumAt.new w a _ _ rfl
 obtain ⟨w_1, e_1⟩ := je (w_0.alloc (.cells #[.int .u64 (jf jd b 0), .int .u64 (jf jd b 1), .int .u64 (jf jd b 2), .int .u64 (jf jd b 3)] 24)); have s_1 : w_1.heap.size = w.heap.size + 1 + 1 := by rw [e_1]; simp [s_0]
 have b_1 := jc e_1; have n_1 : NumAt w_1 (w.heap.size + 1) b := by rw [e_1]; exact NumAt.new w_0 b _ _ s_0.symm
 obtain ⟨w_2, e_2⟩ := je (w_1.alloc (.cells #[.int .u64 (jf jd m 0), .int .u64 (jf jd m 1), .int .u64 (jf jd m 2), .int .u64 (jf jd m 3)] 24)); have s_2 : w_2.heap.size = w.heap.size + 1 + 1 + 1 := by rw [e_2]; simp [s_1]
 have b_2 := jc e_2; have n_2 : NumAt w_2 (w.heap.size + 1 + 1) m := by rw [e_2]; exact NumAt.new w_1 m _ _ s_1.symm
 obtain ⟨wz, e_3⟩ := je (w_2.alloc (.cells #[.int .u64 0, .int .u64 0, .int .u64 0, .int .u64 0] 24)); have s_3 : wz.heap.size = w.heap.size + 1 + 1 + 1 + 1 := by rw [e_3]; simp [s_2]
 have b_3 := jc e_3; have n_3 : NumAt wz (w.heap.size + 1 + 1 + 1) 0 := by rw [e_3, ← s_2]; exact jz w_2 _
 have f_3 : FreeN wz (w.heap.size + 1 + 1 + 1) 4 := by rw [e_3]; exact FreeN.made w_2 _ _ 4 _ s_2.symm
 rw [← e_0, ← e_1, ← e_2, ← e_3]; obtain ⟨AA, h_0⟩ := je (w.heap.size); obtain ⟨BB, h_1⟩ := je (AA + 1); obtain ⟨MM, h_2⟩ := je (BB + 1); obtain ⟨RR, h_3⟩ := je (MM + 1); have hwL : w.heap.size ≤ AA := by omega
 have hRd : RR < wz.heap.size := by omega
 rw [← h_0] at n_0 n_1 n_2 n_3 f_3 ⊢; rw [← h_1] at n_1 n_2 n_3 f_3 ⊢; rw [← h_2] at n_2 n_3 f_3 ⊢; rw [← h_3] at n_3 f_3 ⊢; have l_1 : AA < BB := by omega
 have l_2 : BB < MM := by omega
 have l_3 : MM < RR := by omega
 have HAA := jh (NumAt.later b_3 (NumAt.later b_2 (NumAt.later b_1 n_0))); have HBB := jh (NumAt.later b_3 (NumAt.later b_2 n_1)); have HMM := jh (NumAt.later b_3 n_2); have HRR := jh n_3; have HF := jh f_3; have B := jh (((b_0.trans (b_1.mono (by omega))).trans (b_2.mono (by omega))).trans (b_3.mono (by omega))); have hwRR : w.heap.size ≤ RR := by omega
 have HSZ := jh (show wz.heap.size = RR + 1 by omega); clear e_0 s_0 b_0 n_0 h_0 e_1 s_1 b_1 n_1 h_1 e_2 s_2 b_2 n_2 h_2 e_3 s_3 b_3 n_3 h_3 f_3; refine (C1.out _).mono ?_; rintro _ w2 ⟨rfl, hb⟩; have HAA := jn hb HAA; have HBB := jn hb HBB; have HMM := jn hb HMM; have HRR := jn hb HRR; have HF := jh (HF.out.later hb hRd); have hRd := Nat.lt_of_lt_of_le hRd hb.size; have B := jw B hb; clear hb; have q_0 := fun o1 => (NumAt.alloc HMM.out o1) 0 (by omega)
 have q_1 := fun o1 => (NumAt.alloc HMM.out o1) 1 (by omega)
 have q_2 := fun o1 => (NumAt.alloc HMM.out o1) 2 (by omega)
 have q_3 := fun o1 => (NumAt.alloc HMM.out o1) 3 (by omega)
 go_wp2_with fail
 clear q_0 q_1 q_2 q_3; obtain ⟨w3, e3⟩ := je (w2.alloc (.cells #[.int .u64 (jf jd x 0), .int .u64 (jf jd x 1), .int .u64 (jf jd x 2), .int .u64 (jf jd x 3)] 24)); obtain ⟨XX, hX⟩ := je (w2.heap.size); have hb := jc e3; have HXX := jh (show NumAt w3 XX x by rw [e3]; exact NumAt.new w2 x _ _ hX); have nXR : XX ≠ RR := by omega
 rw [← e3, ← hX]; clear e3 hX; have HAA := jn hb HAA; have HBB := jn hb HBB; have HMM := jn hb HMM; have HRR := jn hb HRR; have HF := jh (HF.out.later hb hRd); have hRd := Nat.lt_of_lt_of_le hRd hb.size; have B := jw B hb; clear hb; refine (C2.out _).mono ?_; rintro _ w4 ⟨rfl, hb⟩; have HAA := jn hb HAA; have HBB := jn hb HBB; have HMM := jn hb HMM; have HRR := jn hb HRR; have HXX := jn hb HXX; have HF := jh (HF.out.later hb hRd); have hRd := Nat.lt_of_lt_of_le hRd hb.size; have B := jw B hb; clear hb; obtain ⟨c0, c1, c2, c3, f0, f1, f2, f3⟩ := jC HRR.out HF.out; have q_0 := fun o1 => (NumAt.alloc HXX.out o1) 0 (by omega)
 have q_1 := fun o1 => (NumAt.alloc HXX.out o1) 1 (by omega)
 have q_2 := fun o1 => (NumAt.alloc HXX.out o1) 2 (by omega)
 have q_3 := fun o1 => (NumAt.alloc HXX.out o1) 3 (by omega)
 go_wp2_with fail
 rw [HY.out]; have HRL := jh (NumAt.set4 HRR.out q); have B9 := jh (jp B.out hwRR (.int .u64 (jf jd q 0)) (.int .u64 (jf jd q 1)) (.int .u64 (jf jd q 2)) (.int .u64 (jf jd q 3))); have hba : ∀ W : World, Below W.heap.size W (W.alloc (.cells #[.int .u64 (jf jd y 0), .int .u64 (jf jd y 1), .int .u64 (jf jd y 2), .int .u64 (jf jd y 3)] 24)) := fun W => ja
 have B9 := jh (jk B9.out (hba _)); have HRL := jh (NumAt.later (hba _) HRL.out); clear hba; obtain ⟨g0, g1, g2, g3⟩ := jy HRL.out; refine bodyPost_ret (v := .agg #[.int .u64 (jf jd q 0), .int .u64 (jf jd q 1), .int .u64 (jf jd q 2), .int .u64 (jf jd q 3)]) ?_ rfl ⟨rfl, B9.out⟩
 simp [results, Tryz.results116, go_sem, g0, g1, g2, g3]
theorem add1_any {a b m : Nat} (ha : a < m) (hb : b < m) (hm : m < jj) (w : World) :
  Calls Tryz.prog 116 #[ji a, ji b, ji m] w fun e w' => e = .returned (ji ((a + b) % m)) ∧ Below w.heap.size w w' := by
 rcases Nat.lt_or_ge (a + b) m with h | h
 ·exact add1_small ha hb hm h w
 ·rcases Nat.lt_or_ge (a + b) jj with h9 | h9
  ·exact add1_over ha hb hm h h9 w
  ·exact add1_big ha hb hm h9 w
theorem Add_any {a n m : Nat} (ha : a < m) (h1 : 1 < m) (hn : n < m) (hm : m < jj) (w : World) :
  Calls Tryz.prog 77 #[ji a, ji n, ji m] w fun e w' => e = .returned (.tuple #[ji ((a + n) % m), .int .i64 0]) ∧ Below w.heap.size w w' := by
 obtain ⟨q, hq⟩ := je ((a + n) % m); rw [← hq]; have HQ := jh hq; have HA9 := jh ha; have HM1 := jh h1; have HN9 := jh hn; have HM9 := jh hm; clear hq ha h1 hn hm; unfold ji words
 go_enter Tryz.func77, Tryz.ntmps77
 go_wp2_with fail
 obtain ⟨w_0, e_0⟩ := je (w.alloc (.cells #[.int .u64 (jf jd a 0), .int .u64 (jf jd a 1), .int .u64 (jf jd a 2), .int .u64 (jf jd a 3)] 24)); have s_0 : w_0.heap.size = w.heap.size + 1 := by rw [e_0]; simp
 have b_0 := jc e_0; have n_0 : NumAt w_0 (w.heap.size) a := by rw [e_0]; exact NumAt.new w a _ _ rfl
 obtain ⟨w_1, e_1⟩ := je (w_0.alloc (.cells #[.int .u64 (jf jd n 0), .int .u64 (jf jd n 1), .int .u64 (jf jd n 2), .int .u64 (jf jd n 3)] 24)); have s_1 : w_1.heap.size = w.heap.size + 1 + 1 := by rw [e_1]; simp [s_0]
 have b_1 := jc e_1; have n_1 : NumAt w_1 (w.heap.size + 1) n := by rw [e_1]; exact NumAt.new w_0 n _ _ s_0.symm
 obtain ⟨w_2, e_2⟩ := je (w_1.alloc (.cells #[.int .u64 (jf jd m 0), .int .u64 (jf jd m 1), .int .u64 (jf jd m 2), .int .u64 (jf jd m 3)] 24)); have s_2 : w_2.heap.size = w.heap.size + 1 + 1 + 1 := by rw [e_2]; simp [s_1]
 have b_2 := jc e_2; have n_2 : NumAt w_2 (w.heap.size + 1 + 1) m := by rw [e_2]; exact NumAt.new w_1 m _ _ s_1.symm
 obtain ⟨wz, e_3⟩ := je (w_2.alloc (.cells #[.int .u64 0, .int .u64 0, .int .u64 0, .int .u64 0] 24)); have s_3 : wz.heap.size = w.heap.size + 1 + 1 + 1 + 1 := by rw [e_3]; simp [s_2]
 have b_3 := jc e_3; have n_3 : NumAt wz (w.heap.size + 1 + 1 + 1) 0 := by rw [e_3, ← s_2]; exact jz w_2 _
 have f_3 : FreeN wz (w.heap.size + 1 + 1 + 1) 4 := by rw [e_3]; exact FreeN.made w_2 _ _ 4 _ s_2.symm
 rw [← e_0, ← e_1, ← e_2, ← e_3]; obtain ⟨AA, h_0⟩ := je (w.heap.size); obtain ⟨NN, h_1⟩ := je (AA + 1); obtain ⟨MM, h_2⟩ := je (NN + 1); obtain ⟨RR, h_3⟩ := je (MM + 1); have hwL : w.heap.size ≤ AA := by omega
 have hRd : RR < wz.heap.size := by omega
 rw [← h_0] at n_0 n_1 n_2 n_3 f_3 ⊢; rw [← h_1] at n_1 n_2 n_3 f_3 ⊢; rw [← h_2] at n_2 n_3 f_3 ⊢; rw [← h_3] at n_3 f_3 ⊢; have l_1 : AA < NN := by omega
 have l_2 : NN < MM := by omega
 have l_3 : MM < RR := by omega
 have HAA := jh (NumAt.later b_3 (NumAt.later b_2 (NumAt.later b_1 n_0))); have HNN := jh (NumAt.later b_3 (NumAt.later b_2 n_1)); have HMM := jh (NumAt.later b_3 n_2); have HRR := jh n_3; have HF := jh f_3; have B := jh (((b_0.trans (b_1.mono (by omega))).trans (b_2.mono (by omega))).trans (b_3.mono (by omega))); have hwRR : w.heap.size ≤ RR := by omega
 have HSZ := jh (show wz.heap.size = RR + 1 by omega); clear e_0 s_0 b_0 n_0 h_0 e_1 s_1 b_1 n_1 h_1 e_2 s_2 b_2 n_2 h_2 e_3 s_3 b_3 n_3 h_3 f_3; have CO := of_may (q := q) (f := 116) (caps := #[]) HA9.out HN9.out HM1.out HM9.out wz (by intro args W; simp [go_sem]) (fun W hb => by have h := add1_any HA9.out HN9.out HM9.out W; rw [← HQ.out] at h; exact h); unfold ji words at CO; refine CO.mono ?_; rintro _ w3 ⟨rfl, hb⟩; clear CO; have HAA := jn hb HAA; have HNN := jn hb HNN; have HMM := jn hb HMM; have HRR := jn hb HRR; have HF := jh (HF.out.later hb hRd); have hRd := Nat.lt_of_lt_of_le hRd hb.size; have B := jw B hb; clear hb; obtain ⟨c0, c1, c2, c3, f0, f1, f2, f3⟩ := jC HRR.out HF.out
 go_wp2_with fail
 have HRL := jh (NumAt.set4 HRR.out q); have B9 := jh (jp B.out hwRR (.int .u64 (jf jd q 0)) (.int .u64 (jf jd q 1)) (.int .u64 (jf jd q 2)) (.int .u64 (jf jd q 3))); obtain ⟨g0, g1, g2, g3⟩ := jy HRL.out; refine bodyPost_ret (v := .tuple #[.agg #[.int .u64 (jf jd q 0), .int .u64 (jf jd q 1), .int .u64 (jf jd q 2), .int .u64 (jf jd q 3)], .int .i64 0]) ?_ rfl ⟨rfl, B9.out⟩
 simp [results, Tryz.results77, go_sem, g0, g1, g2, g3]
theorem sub1_less {a b m : Nat} (ha : a < m) (hb9 : b < m) (hm : m < jj) (hs : a < b) (w : World) :
  Calls Tryz.prog 78 #[ji a, ji b, ji m] w fun e w' => e = .returned (ji ((a + m - b) % m)) ∧ Below w.heap.size w w' := by
 have ha9 := Nat.lt_trans ha hm; have hb8 := Nat.lt_trans hb9 hm; obtain ⟨x, hx⟩ := je (qV a b); have hx9 : x < jj := by rw [hx]; exact subN_lt _ _
 obtain ⟨q, hq⟩ := je ((a + m - b) % m); have hq9 : q = a + m - b := by rw [hq]; exact Nat.mod_eq_of_lt (by omega)
 have el : qp a b = 1 := by unfold qp; rw [if_pos hs]
 have ey : qA x m = q := by rw [hx, hq9]; unfold qA qV; unfold jj at *; omega
 obtain ⟨c, hc⟩ := je (qr x m); have C2 := jh (fun w => by have h := Qv hx9 hm w; rw [ey, ← hc] at h; unfold ji words at h; exact h); have C1 := jh (fun w => by have h := Jy ha9 hb8 w; rw [el, ← hx] at h; unfold ji words at h; exact h); have HY := jh ey; rw [← hq]; clear hx hx9 hq hq9 ey el ha hb9 hm hs ha9 hb8 hc; unfold ji words
 go_enter Tryz.func78, Tryz.ntmps78
 go_wp2_with fail
 obtain ⟨w_0, e_0⟩ := je (w.alloc (.cells #[.int .u64 (jf jd a 0), .int .u64 (jf jd a 1), .int .u64 (jf jd a 2), .int .u64 (jf jd a 3)] 24)); have s_0 : w_0.heap.size = w.heap.size + 1 := by rw [e_0]; simp
 have b_0 := jc e_0; have n_0 : NumAt w_0 (w.heap.size) a := by rw [e_0]; exact NumAt.new w a _ _ rfl
 obtain ⟨w_1, e_1⟩ := je (w_0.alloc (.cells #[.int .u64 (jf jd b 0), .int .u64 (jf jd b 1), .int .u64 (jf jd b 2), .int .u64 (jf jd b 3)] 24)); have s_1 : w_1.heap.size = w.heap.size + 1 + 1 := by rw [e_1]; simp [s_0]
 have b_1 := jc e_1; have n_1 : NumAt w_1 (w.heap.size + 1) b := by rw [e_1]; exact NumAt.new w_0 b _ _ s_0.symm
 obtain ⟨w_2, e_2⟩ := je (w_1.alloc (.cells #[.int .u64 (jf jd m 0), .int .u64 (jf jd m 1), .int .u64 (jf jd m 2), .int .u64 (jf jd m 3)] 24)); have s_2 : w_2.heap.size = w.heap.size + 1 + 1 + 1 := by rw [e_2]; simp [s_1]
 have b_2 := jc e_2; have n_2 : NumAt w_2 (w.heap.size + 1 + 1) m := by rw [e_2]; exact NumAt.new w_1 m _ _ s_1.symm
 obtain ⟨wz, e_3⟩ := je (w_2.alloc (.cells #[.int .u64 0, .int .u64 0, .int .u64 0, .int .u64 0] 24)); have s_3 : wz.heap.size = w.heap.size + 1 + 1 + 1 + 1 := by rw [e_3]; simp [s_2]
 have b_3 := jc e_3; have n_3 : NumAt wz (w.heap.size + 1 + 1 + 1) 0 := by rw [e_3, ← s_2]; exact jz w_2 _
 have f_3 : FreeN wz (w.heap.size + 1 + 1 + 1) 4 := by rw [e_3]; exact FreeN.made w_2 _ _ 4 _ s_2.symm
 rw [← e_0, ← e_1, ← e_2, ← e_3]; obtain ⟨AA, h_0⟩ := je (w.heap.size); obtain ⟨BB, h_1⟩ := je (AA + 1); obtain ⟨MM, h_2⟩ := je (BB + 1); obtain ⟨RR, h_3⟩ := je (MM + 1); have hwL : w.heap.size ≤ AA := by omega
 have hRd : RR < wz.heap.size := by omega
 rw [← h_0] at n_0 n_1 n_2 n_3 f_3 ⊢; rw [← h_1] at n_1 n_2 n_3 f_3 ⊢; rw [← h_2] at n_2 n_3 f_3 ⊢; rw [← h_3] at n_3 f_3 ⊢; have l_1 : AA < BB := by omega
 have l_2 : BB < MM := by omega
 have l_3 : MM < RR := by omega
 have HAA := jh (NumAt.later b_3 (NumAt.later b_2 (NumAt.later b_1 n_0))); have HBB := jh (NumAt.later b_3 (NumAt.later b_2 n_1)); have HMM := jh (NumAt.later b_3 n_2); have HRR := jh n_3; have HF := jh f_3; have B := jh (((b_0.trans (b_1.mono (by omega))).trans (b_2.mono (by omega))).trans (b_3.mono (by omega))); have hwRR : w.heap.size ≤ RR := by omega
 have HSZ := jh (show wz.heap.size = RR + 1 by omega); clear e_0 s_0 b_0 n_0 h_0 e_1 s_1 b_1 n_1 h_1 e_2 s_2 b_2 n_2 h_2 e_3 s_3 b_3 n_3 h_3 f_3; refine (C1.out _).mono ?_; rintro _ w2 ⟨rfl, hb⟩; have HAA := jn hb HAA; have HBB := jn hb HBB; have HMM := jn hb HMM; have HRR := jn hb HRR; have HF := jh (HF.out.later hb hRd); have hRd := Nat.lt_of_lt_of_le hRd hb.size; have B := jw B hb; clear hb; have q_0 := fun o1 => (NumAt.alloc HMM.out o1) 0 (by omega)
 have q_1 := fun o1 => (NumAt.alloc HMM.out o1) 1 (by omega)
 have q_2 := fun o1 => (NumAt.alloc HMM.out o1) 2 (by omega)
 have q_3 := fun o1 => (NumAt.alloc HMM.out o1) 3 (by omega)
 go_wp2_with fail
 clear q_0 q_1 q_2 q_3; obtain ⟨w3, e3⟩ := je (w2.alloc (.cells #[.int .u64 (jf jd x 0), .int .u64 (jf jd x 1), .int .u64 (jf jd x 2), .int .u64 (jf jd x 3)] 24)); obtain ⟨XX, hX⟩ := je (w2.heap.size); have hb := jc e3; have HXX := jh (show NumAt w3 XX x by rw [e3]; exact NumAt.new w2 x _ _ hX); have HFX := jh (show FreeN w3 XX 4 by rw [e3]; exact FreeN.made w2 _ _ 4 _ hX); have nRX : RR ≠ XX := by omega
 have hXl : XX < w3.heap.size := by rw [e3, hX]; simp
 have hwX : w.heap.size ≤ XX := by omega
 rw [← e3, ← hX]; clear e3 hX; have HAA := jn hb HAA; have HBB := jn hb HBB; have HMM := jn hb HMM; have HRR := jn hb HRR; have HF := jh (HF.out.later hb hRd); have hRd := Nat.lt_of_lt_of_le hRd hb.size; have B := jw B hb; clear hb; refine (C2.out _).mono ?_; rintro _ w4 ⟨rfl, hb⟩; have HFX := jh (HFX.out.later hb hXl); have hXl := Nat.lt_of_lt_of_le hXl hb.size; have HAA := jn hb HAA; have HBB := jn hb HBB; have HMM := jn hb HMM; have HRR := jn hb HRR; have HXX := jn hb HXX; have HF := jh (HF.out.later hb hRd); have hRd := Nat.lt_of_lt_of_le hRd hb.size; have B := jw B hb; clear hb; have n4 := NumAt.set4 HXX.out q; have f4 := FreeN.set4 HF.out ⟨XX, 0, none⟩ ⟨XX, 1, none⟩ ⟨XX, 2, none⟩ ⟨XX, 3, none⟩ (.int .u64 (jf jd q 0)) (.int .u64 (jf jd q 1)) (.int .u64 (jf jd q 2)) (.int .u64 (jf jd q 3)); have hXX4 := jC HXX.out HFX.out; obtain ⟨r0, r1, r2, r3, f0, f1, f2, f3⟩ := hXX4; clear n4 f4; obtain ⟨c0, c1, c2, c3, d0, d1, d2, d3⟩ := jC HRR.out HF.out
 go_wp2_with fail
 clear c0 c1 c2 c3 d0 d1 d2 d3 r0 r1 r2 r3 f0 f1 f2 f3; obtain ⟨w5, e9⟩ := je ((((w4.setCell ⟨XX, 0, none⟩ (.int .u64 (jf jd q 0))).setCell ⟨XX, 1, none⟩ (.int .u64 (jf jd q 1))).setCell ⟨XX, 2, none⟩ (.int .u64 (jf jd q 2))).setCell ⟨XX, 3, none⟩ (.int .u64 (jf jd q 3))); have HRR := jh (show NumAt w5 RR 0 by rw [e9]; exact NumAt.other4 HRR.out nRX _ _ _ _); have B := jh (show Below w.heap.size w w5 by rw [e9]; exact jp B.out hwX _ _ _ _); rw [← e9]; have HRL := jh (NumAt.set4 HRR.out q); have B9 := jh (jp B.out hwRR (.int .u64 (jf jd q 0)) (.int .u64 (jf jd q 1)) (.int .u64 (jf jd q 2)) (.int .u64 (jf jd q 3))); obtain ⟨g0, g1, g2, g3⟩ := jy HRL.out; refine bodyPost_ret (v := .agg #[.int .u64 (jf jd q 0), .int .u64 (jf jd q 1), .int .u64 (jf jd q 2), .int .u64 (jf jd q 3)]) ?_ rfl ⟨rfl, B9.out⟩
 simp [results, Tryz.results78, go_sem, g0, g1, g2, g3]
theorem sub1_ge {a b m : Nat} (ha : a < m) (hb9 : b < m) (hm : m < jj) (hs : b ≤ a) (w : World) :
  Calls Tryz.prog 78 #[ji a, ji b, ji m] w fun e w' => e = .returned (ji ((a + m - b) % m)) ∧ Below w.heap.size w w' := by
 have ha9 := Nat.lt_trans ha hm; have hb8 := Nat.lt_trans hb9 hm; obtain ⟨x, hx⟩ := je (qV a b); have hx9 : x < jj := by rw [hx]; exact subN_lt _ _
 obtain ⟨q, hq⟩ := je ((a + m - b) % m); have hq9 : q = a - b := by rw [hq, show a + m - b = a - b + m by omega, Nat.add_mod_right]; exact Nat.mod_eq_of_lt (by omega)
 have el : qp a b = 0 := by unfold qp; rw [if_neg (by omega)]
 have ey : x = q := by rw [hx, hq9]; unfold qV; unfold jj at *; omega
 have C1 := jh (fun w => by have h := Jy ha9 hb8 w; rw [el, ← hx] at h; unfold ji words at h; exact h); have HY := jh ey; rw [← hq]; clear hx hx9 hq hq9 ey el ha hb9 hm hs ha9 hb8; unfold ji words
 go_enter Tryz.func78, Tryz.ntmps78
 go_wp2_with fail
 obtain ⟨w_0, e_0⟩ := je (w.alloc (.cells #[.int .u64 (jf jd a 0), .int .u64 (jf jd a 1), .int .u64 (jf jd a 2), .int .u64 (jf jd a 3)] 24)); have s_0 : w_0.heap.size = w.heap.size + 1 := by rw [e_0]; simp
 have b_0 := jc e_0; have n_0 : NumAt w_0 (w.heap.size) a := by rw [e_0]; exact NumAt.new w a _ _ rfl
 obtain ⟨w_1, e_1⟩ := je (w_0.alloc (.cells #[.int .u64 (jf jd b 0), .int .u64 (jf jd b 1), .int .u64 (jf jd b 2), .int .u64 (jf jd b 3)] 24)); have s_1 : w_1.heap.size = w.heap.size + 1 + 1 := by rw [e_1]; simp [s_0]
 have b_1 := jc e_1; have n_1 : NumAt w_1 (w.heap.size + 1) b := by rw [e_1]; exact NumAt.new w_0 b _ _ s_0.symm
 obtain ⟨w_2, e_2⟩ := je (w_1.alloc (.cells #[.int .u64 (jf jd m 0), .int .u64 (jf jd m 1), .int .u64 (jf jd m 2), .int .u64 (jf jd m 3)] 24)); have s_2 : w_2.heap.size = w.heap.size + 1 + 1 + 1 := by rw [e_2]; simp [s_1]
 have b_2 := jc e_2; have n_2 : NumAt w_2 (w.heap.size + 1 + 1) m := by rw [e_2]; exact NumAt.new w_1 m _ _ s_1.symm
 obtain ⟨wz, e_3⟩ := je (w_2.alloc (.cells #[.int .u64 0, .int .u64 0, .int .u64 0, .int .u64 0] 24)); have s_3 : wz.heap.size = w.heap.size + 1 + 1 + 1 + 1 := by rw [e_3]; simp [s_2]
 have b_3 := jc e_3; have n_3 : NumAt wz (w.heap.size + 1 + 1 + 1) 0 := by rw [e_3, ← s_2]; exact jz w_2 _
 have f_3 : FreeN wz (w.heap.size + 1 + 1 + 1) 4 := by rw [e_3]; exact FreeN.made w_2 _ _ 4 _ s_2.symm
 rw [← e_0, ← e_1, ← e_2, ← e_3]; obtain ⟨AA, h_0⟩ := je (w.heap.size); obtain ⟨BB, h_1⟩ := je (AA + 1); obtain ⟨MM, h_2⟩ := je (BB + 1); obtain ⟨RR, h_3⟩ := je (MM + 1); have hwL : w.heap.size ≤ AA := by omega
 have hRd : RR < wz.heap.size := by omega
 rw [← h_0] at n_0 n_1 n_2 n_3 f_3 ⊢; rw [← h_1] at n_1 n_2 n_3 f_3 ⊢; rw [← h_2] at n_2 n_3 f_3 ⊢; rw [← h_3] at n_3 f_3 ⊢; have l_1 : AA < BB := by omega
 have l_2 : BB < MM := by omega
 have l_3 : MM < RR := by omega
 have HAA := jh (NumAt.later b_3 (NumAt.later b_2 (NumAt.later b_1 n_0))); have HBB := jh (NumAt.later b_3 (NumAt.later b_2 n_1)); have HMM := jh (NumAt.later b_3 n_2); have HRR := jh n_3; have HF := jh f_3; have B := jh (((b_0.trans (b_1.mono (by omega))).trans (b_2.mono (by omega))).trans (b_3.mono (by omega))); have hwRR : w.heap.size ≤ RR := by omega
 have HSZ := jh (show wz.heap.size = RR + 1 by omega); clear e_0 s_0 b_0 n_0 h_0 e_1 s_1 b_1 n_1 h_1 e_2 s_2 b_2 n_2 h_2 e_3 s_3 b_3 n_3 h_3 f_3; refine (C1.out _).mono ?_; rintro _ w2 ⟨rfl, hb⟩; have HAA := jn hb HAA; have HBB := jn hb HBB; have HMM := jn hb HMM; have HRR := jn hb HRR; have HF := jh (HF.out.later hb hRd); have hRd := Nat.lt_of_lt_of_le hRd hb.size; have B := jw B hb; clear hb; obtain ⟨c0, c1, c2, c3, f0, f1, f2, f3⟩ := jC HRR.out HF.out
 go_wp2_with fail
 rw [HY.out]; have HRL := jh (NumAt.set4 HRR.out q); have B9 := jh (jp B.out hwRR (.int .u64 (jf jd q 0)) (.int .u64 (jf jd q 1)) (.int .u64 (jf jd q 2)) (.int .u64 (jf jd q 3))); have hba : ∀ W : World, Below W.heap.size W (W.alloc (.cells #[.int .u64 (jf jd q 0), .int .u64 (jf jd q 1), .int .u64 (jf jd q 2), .int .u64 (jf jd q 3)] 24)) := fun W => ja
 have B9 := jh (jk B9.out (hba _)); have HRL := jh (NumAt.later (hba _) HRL.out); clear hba; obtain ⟨g0, g1, g2, g3⟩ := jy HRL.out; refine bodyPost_ret (v := .agg #[.int .u64 (jf jd q 0), .int .u64 (jf jd q 1), .int .u64 (jf jd q 2), .int .u64 (jf jd q 3)]) ?_ rfl ⟨rfl, B9.out⟩
 simp [results, Tryz.results78, go_sem, g0, g1, g2, g3]
theorem sub1_any {a b m : Nat} (ha : a < m) (hb : b < m) (hm : m < jj) (w : World) :
  Calls Tryz.prog 78 #[ji a, ji b, ji m] w fun e w' => e = .returned (ji ((a + m - b) % m)) ∧ Below w.heap.size w w' := by
 rcases Nat.lt_or_ge a b with h | h
 ·exact sub1_less ha hb hm h w
 ·exact sub1_ge ha hb hm h w
theorem Sub_any {a n m : Nat} (ha : a < m) (h1 : 1 < m) (hn : n < m) (hm : m < jj) (w : World) :
  Calls Tryz.prog 51 #[ji a, ji n, ji m] w fun e w' => e = .returned (.tuple #[ji ((a + m - n) % m), .int .i64 0]) ∧ Below w.heap.size w w' := by
 obtain ⟨q, hq⟩ := je ((a + m - n) % m); rw [← hq]; have HQ := jh hq; have HA9 := jh ha; have HM1 := jh h1; have HN9 := jh hn; have HM9 := jh hm; clear hq ha h1 hn hm; unfold ji words
 go_enter Tryz.func51, Tryz.ntmps51
 go_wp2_with fail
 obtain ⟨w_0, e_0⟩ := je (w.alloc (.cells #[.int .u64 (jf jd a 0), .int .u64 (jf jd a 1), .int .u64 (jf jd a 2), .int .u64 (jf jd a 3)] 24)); have s_0 : w_0.heap.size = w.heap.size + 1 := by rw [e_0]; simp
 have b_0 := jc e_0; have n_0 : NumAt w_0 (w.heap.size) a := by rw [e_0]; exact NumAt.new w a _ _ rfl
 obtain ⟨w_1, e_1⟩ := je (w_0.alloc (.cells #[.int .u64 (jf jd n 0), .int .u64 (jf jd n 1), .int .u64 (jf jd n 2), .int .u64 (jf jd n 3)] 24)); have s_1 : w_1.heap.size = w.heap.size + 1 + 1 := by rw [e_1]; simp [s_0]
 have b_1 := jc e_1; have n_1 : NumAt w_1 (w.heap.size + 1) n := by rw [e_1]; exact NumAt.new w_0 n _ _ s_0.symm
 obtain ⟨w_2, e_2⟩ := je (w_1.alloc (.cells #[.int .u64 (jf jd m 0), .int .u64 (jf jd m 1), .int .u64 (jf jd m 2), .int .u64 (jf jd m 3)] 24)); have s_2 : w_2.heap.size = w.heap.size + 1 + 1 + 1 := by rw [e_2]; simp [s_1]
 have b_2 := jc e_2; have n_2 : NumAt w_2 (w.heap.size + 1 + 1) m := by rw [e_2]; exact NumAt.new w_1 m _ _ s_1.symm
 obtain ⟨wz, e_3⟩ := je (w_2.alloc (.cells #[.int .u64 0, .int .u64 0, .int .u64 0, .int .u64 0] 24)); have s_3 : wz.heap.size = w.heap.size + 1 + 1 + 1 + 1 := by rw [e_3]; simp [s_2]
 have b_3 := jc e_3; have n_3 : NumAt wz (w.heap.size + 1 + 1 + 1) 0 := by rw [e_3, ← s_2]; exact jz w_2 _
 have f_3 : FreeN wz (w.heap.size + 1 + 1 + 1) 4 := by rw [e_3]; exact FreeN.made w_2 _ _ 4 _ s_2.symm
 rw [← e_0, ← e_1, ← e_2, ← e_3]; obtain ⟨AA, h_0⟩ := je (w.heap.size); obtain ⟨NN, h_1⟩ := je (AA + 1); obtain ⟨MM, h_2⟩ := je (NN + 1); obtain ⟨RR, h_3⟩ := je (MM + 1); have hwL : w.heap.size ≤ AA := by omega
 have hRd : RR < wz.heap.size := by omega
 rw [← h_0] at n_0 n_1 n_2 n_3 f_3 ⊢; rw [← h_1] at n_1 n_2 n_3 f_3 ⊢; rw [← h_2] at n_2 n_3 f_3 ⊢; rw [← h_3] at n_3 f_3 ⊢; have l_1 : AA < NN := by omega
 have l_2 : NN < MM := by omega
 have l_3 : MM < RR := by omega
 have HAA := jh (NumAt.later b_3 (NumAt.later b_2 (NumAt.later b_1 n_0))); have HNN := jh (NumAt.later b_3 (NumAt.later b_2 n_1)); have HMM := jh (NumAt.later b_3 n_2); have HRR := jh n_3; have HF := jh f_3; have B := jh (((b_0.trans (b_1.mono (by omega))).trans (b_2.mono (by omega))).trans (b_3.mono (by omega))); have hwRR : w.heap.size ≤ RR := by omega
 have HSZ := jh (show wz.heap.size = RR + 1 by omega); clear e_0 s_0 b_0 n_0 h_0 e_1 s_1 b_1 n_1 h_1 e_2 s_2 b_2 n_2 h_2 e_3 s_3 b_3 n_3 h_3 f_3; have CO := of_may (q := q) (f := 78) (caps := #[]) HA9.out HN9.out HM1.out HM9.out wz (by intro args W; simp [go_sem]) (fun W hb => by have h := sub1_any HA9.out HN9.out HM9.out W; rw [← HQ.out] at h; exact h); unfold ji words at CO; refine CO.mono ?_; rintro _ w3 ⟨rfl, hb⟩; clear CO; have HAA := jn hb HAA; have HNN := jn hb HNN; have HMM := jn hb HMM; have HRR := jn hb HRR; have HF := jh (HF.out.later hb hRd); have hRd := Nat.lt_of_lt_of_le hRd hb.size; have B := jw B hb; clear hb; obtain ⟨c0, c1, c2, c3, f0, f1, f2, f3⟩ := jC HRR.out HF.out
 go_wp2_with fail
 have HRL := jh (NumAt.set4 HRR.out q); have B9 := jh (jp B.out hwRR (.int .u64 (jf jd q 0)) (.int .u64 (jf jd q 1)) (.int .u64 (jf jd q 2)) (.int .u64 (jf jd q 3))); obtain ⟨g0, g1, g2, g3⟩ := jy HRL.out; refine bodyPost_ret (v := .tuple #[.agg #[.int .u64 (jf jd q 0), .int .u64 (jf jd q 1), .int .u64 (jf jd q 2), .int .u64 (jf jd q 3)], .int .i64 0]) ?_ rfl ⟨rfl, B9.out⟩
 simp [results, Tryz.results51, go_sem, g0, g1, g2, g3]
end Go.Proofs.YtcaeaejefdhloaaGreat
