/- Layers 3 and 4's references -/
import Derived.Test.YtcaeaejefdhloaaGreatZWG29
set_option linter.unusedSimpArgs false
set_option linter.unusedVariables false
set_option maxHeartbeats 4000000
set_option maxRecDepth 100000
namespace Go.Proofs.YtcaeaejefdhloaaGreat
open Go.ChangeShapes Go.WideShapes Go.ChangeAt Go.RowKit
theorem cmpN_ge {a b : Nat} (h : b ≤ a) : 0 ≤ qw a b := by
 unfold qw; rw [if_neg (by omega)]
 split <;> omega
theorem cmpN_le {a b : Nat} (h : a ≤ b) : qw a b ≤ 0 := by
 unfold qw
 split
 ·omega
 ·rw [if_pos (by omega)]; omega
theorem of_low {a b m : Nat} (h1 : m ≤ 1) (hm : m < jj) (ha : a < jj) (hb9 : b < jj) {f : FuncId} {caps : Array Value} (w : World) :
  Calls Tryz.prog 81 #[.agg #[.func (.func f) #[] caps], ji a, ji b, ji m] w fun e w' => e = .returned (.tuple #[ji 0, .int .i64 1]) ∧ Below w.heap.size w w' := by
 have C1 := jh (fun w => by have h := qO 1 1 rfl (by decide) w; unfold ji words at h; exact h); obtain ⟨z, hz⟩ := je (qw m 1); have K1 := jh (fun w => by have h := qt hm (show 1 < jj by decide) w; rewrite [← hz] at h; unfold ji words at h; exact h); have hz0 : z ≤ 0 := by rw [hz]; exact cmpN_le h1
 clear h1 hm ha hb9 hz; unfold ji words at *
 go_enter Tryz.func81, Tryz.ntmps81
 go_wp2_with fail
 obtain ⟨w0, e0⟩ := je (w.alloc (.cells #[.func (.func f) #[] caps] 103)); have b0 := jc e0; have s0 : w0.heap.size = w.heap.size + 1 := by rw [e0]; simp
 rw [← e0, ← s0]; have HB0 := jh b0; clear e0 b0 s0; obtain ⟨w_0, e_0⟩ := je (w0.alloc (.cells #[.int .u64 (jf jd a 0), .int .u64 (jf jd a 1), .int .u64 (jf jd a 2), .int .u64 (jf jd a 3)] 24)); have s_0 : w_0.heap.size = w0.heap.size + 1 := by rw [e_0]; simp
 have b_0 := jc e_0; have n_0 : NumAt w_0 (w0.heap.size) a := by rw [e_0]; exact NumAt.new w0 a _ _ rfl
 obtain ⟨w_1, e_1⟩ := je (w_0.alloc (.cells #[.int .u64 (jf jd b 0), .int .u64 (jf jd b 1), .int .u64 (jf jd b 2), .int .u64 (jf jd b 3)] 24)); have s_1 : w_1.heap.size = w0.heap.size + 1 + 1 := by rw [e_1]; simp [s_0]
 have b_1 := jc e_1; have n_1 : NumAt w_1 (w0.heap.size + 1) b := by rw [e_1]; exact NumAt.new w_0 b _ _ s_0.symm
 obtain ⟨w_2, e_2⟩ := je (w_1.alloc (.cells #[.int .u64 (jf jd m 0), .int .u64 (jf jd m 1), .int .u64 (jf jd m 2), .int .u64 (jf jd m 3)] 24)); have s_2 : w_2.heap.size = w0.heap.size + 1 + 1 + 1 := by rw [e_2]; simp [s_1]
 have b_2 := jc e_2; have n_2 : NumAt w_2 (w0.heap.size + 1 + 1) m := by rw [e_2]; exact NumAt.new w_1 m _ _ s_1.symm
 obtain ⟨wz, e_3⟩ := je (w_2.alloc (.cells #[.int .u64 0, .int .u64 0, .int .u64 0, .int .u64 0] 24)); have s_3 : wz.heap.size = w0.heap.size + 1 + 1 + 1 + 1 := by rw [e_3]; simp [s_2]
 have b_3 := jc e_3; have n_3 : NumAt wz (w0.heap.size + 1 + 1 + 1) 0 := by rw [e_3, ← s_2]; exact jz w_2 _
 have f_3 : FreeN wz (w0.heap.size + 1 + 1 + 1) 4 := by rw [e_3]; exact FreeN.made w_2 _ _ 4 _ s_2.symm
 rw [← e_0, ← e_1, ← e_2, ← e_3]; obtain ⟨AA, h_0⟩ := je (w0.heap.size); obtain ⟨BB, h_1⟩ := je (AA + 1); obtain ⟨MM, h_2⟩ := je (BB + 1); obtain ⟨RR, h_3⟩ := je (MM + 1); have hwL : w0.heap.size ≤ AA := by omega
 have hRd : RR < wz.heap.size := by omega
 rw [← h_0] at n_0 n_1 n_2 n_3 f_3 ⊢; rw [← h_1] at n_1 n_2 n_3 f_3 ⊢; rw [← h_2] at n_2 n_3 f_3 ⊢; rw [← h_3] at n_3 f_3 ⊢; have l_1 : AA < BB := by omega
 have l_2 : BB < MM := by omega
 have l_3 : MM < RR := by omega
 have HAA := jh (NumAt.later b_3 (NumAt.later b_2 (NumAt.later b_1 n_0))); have HBB := jh (NumAt.later b_3 (NumAt.later b_2 n_1)); have HMM := jh (NumAt.later b_3 n_2); have HRR := jh n_3; have HF := jh f_3; have B := jh (((b_0.trans (b_1.mono (by omega))).trans (b_2.mono (by omega))).trans (b_3.mono (by omega))); have hwRR : w0.heap.size ≤ RR := by omega
 have HSZ := jh (show wz.heap.size = RR + 1 by omega); clear e_0 s_0 b_0 n_0 h_0 e_1 s_1 b_1 n_1 h_1 e_2 s_2 b_2 n_2 h_2 e_3 s_3 b_3 n_3 h_3 f_3; refine jv 16 (fun _ => none) (by kernel_rfl) (by kernel_rfl) (fun _ _ _ _ _ h => h) (fun F hn9 hcl hbl => ?_); have r_AA_0 := jr hbl HAA 0 (by omega); have r_AA_1 := jr hbl HAA 1 (by omega); have r_AA_2 := jr hbl HAA 2 (by omega); have r_AA_3 := jr hbl HAA 3 (by omega); have r_BB_0 := jr hbl HBB 0 (by omega); have r_BB_1 := jr hbl HBB 1 (by omega); have r_BB_2 := jr hbl HBB 2 (by omega); have r_BB_3 := jr hbl HBB 3 (by omega); have r_MM_0 := jr hbl HMM 0 (by omega); have r_MM_1 := jr hbl HMM 1 (by omega); have r_MM_2 := jr hbl HMM 2 (by omega); have r_MM_3 := jr hbl HMM 3 (by omega); have HCL := jh hcl; clear hcl hbl; refine jG 16 0 _ _ (fun _ _ _ => rfl) (by decide) ?_; simp only [List.take_succ_cons, List.take_zero, List.drop_succ_cons, List.drop_zero, Nat.reduceAdd]
 repeat (go_big_quiet_step ((first | (go_at_call 49; with_reducible exact js HCL.out (C1.out _)) | (go_at_call 52; with_reducible exact js HCL.out (K1.out _)))))
 refine wpQuiet_nil ?_; refine jI ?_; intro bs w2 hb _ _; clear r_AA_0 r_AA_1 r_AA_2 r_AA_3 r_BB_0 r_BB_1 r_BB_2 r_BB_3 r_MM_0 r_MM_1 r_MM_2 r_MM_3; have HAA := jn hb HAA; have HBB := jn hb HBB; have HMM := jn hb HMM; have HRR := jn hb HRR; have HF := jh (HF.out.later hb hRd); have hRd := Nat.lt_of_lt_of_le hRd hb.size; have B := jw B hb; clear hb; simp only [qx]; obtain ⟨c0, c1, c2, c3, f0, f1, f2, f3⟩ := jC HRR.out HF.out
 go_wp2_with fail
 have B9 := jh (jp B.out hwRR (.int .u64 0) (.int .u64 0) (.int .u64 0) (.int .u64 0)); refine bodyPost_ret (v := .tuple #[.agg #[.int .u64 0, .int .u64 0, .int .u64 0, .int .u64 0], .int .i64 1]) ?_ rfl ⟨by simp only [qo]; rfl, jk HB0.out B9.out⟩
 simp [results, Tryz.results81, go_sem, c0, c1, c2, c3]
theorem of_no {a b m : Nat} (h1 : 1 < m) (hge : m ≤ a) (hm : m < jj) (ha : a < jj) (hb9 : b < jj) {f : FuncId} {caps : Array Value} (w : World) :
  Calls Tryz.prog 81 #[.agg #[.func (.func f) #[] caps], ji a, ji b, ji m] w fun e w' => e = .returned (.tuple #[ji 0, .int .i64 1]) ∧ Below w.heap.size w w' := by
 have C1 := jh (fun w => by have h := qO 1 1 rfl (by decide) w; unfold ji words at h; exact h); obtain ⟨z, hz⟩ := je (qw a m); have K1 := jh (fun w => by have h := qt hm (show 1 < jj by decide) w; rewrite [zm h1] at h; unfold ji words at h; exact h); have K2 := jh (fun w => by have h := qt ha hm w; rewrite [← hz] at h; unfold ji words at h; exact h); have hz0 : 0 ≤ z := by rw [hz]; exact cmpN_ge hge
 clear h1 hge hm ha hb9 hz; unfold ji words at *
 go_enter Tryz.func81, Tryz.ntmps81
 go_wp2_with fail
 obtain ⟨w0, e0⟩ := je (w.alloc (.cells #[.func (.func f) #[] caps] 103)); have b0 := jc e0; have s0 : w0.heap.size = w.heap.size + 1 := by rw [e0]; simp
 rw [← e0, ← s0]; have HB0 := jh b0; clear e0 b0 s0; obtain ⟨w_0, e_0⟩ := je (w0.alloc (.cells #[.int .u64 (jf jd a 0), .int .u64 (jf jd a 1), .int .u64 (jf jd a 2), .int .u64 (jf jd a 3)] 24)); have s_0 : w_0.heap.size = w0.heap.size + 1 := by rw [e_0]; simp
 have b_0 := jc e_0; have n_0 : NumAt w_0 (w0.heap.size) a := by rw [e_0]; exact NumAt.new w0 a _ _ rfl
 obtain ⟨w_1, e_1⟩ := je (w_0.alloc (.cells #[.int .u64 (jf jd b 0), .int .u64 (jf jd b 1), .int .u64 (jf jd b 2), .int .u64 (jf jd b 3)] 24)); have s_1 : w_1.heap.size = w0.heap.size + 1 + 1 := by rw [e_1]; simp [s_0]
 have b_1 := jc e_1; have n_1 : NumAt w_1 (w0.heap.size + 1) b := by rw [e_1]; exact NumAt.new w_0 b _ _ s_0.symm
 obtain ⟨w_2, e_2⟩ := je (w_1.alloc (.cells #[.int .u64 (jf jd m 0), .int .u64 (jf jd m 1), .int .u64 (jf jd m 2), .int .u64 (jf jd m 3)] 24)); have s_2 : w_2.heap.size = w0.heap.size + 1 + 1 + 1 := by rw [e_2]; simp [s_1]
 have b_2 := jc e_2; have n_2 : NumAt w_2 (w0.heap.size + 1 + 1) m := by rw [e_2]; exact NumAt.new w_1 m _ _ s_1.symm
 obtain ⟨wz, e_3⟩ := je (w_2.alloc (.cells #[.int .u64 0, .int .u64 0, .int .u64 0, .int .u64 0] 24)); have s_3 : wz.heap.size = w0.heap.size + 1 + 1 + 1 + 1 := by rw [e_3]; simp [s_2]
 have b_3 := jc e_3; have n_3 : NumAt wz (w0.heap.size + 1 + 1 + 1) 0 := by rw [e_3, ← s_2]; exact jz w_2 _
 have f_3 : FreeN wz (w0.heap.size + 1 + 1 + 1) 4 := by rw [e_3]; exact FreeN.made w_2 _ _ 4 _ s_2.symm
 rw [← e_0, ← e_1, ← e_2, ← e_3]; obtain ⟨AA, h_0⟩ := je (w0.heap.size); obtain ⟨BB, h_1⟩ := je (AA + 1); obtain ⟨MM, h_2⟩ := je (BB + 1); obtain ⟨RR, h_3⟩ := je (MM + 1); have hwL : w0.heap.size ≤ AA := by omega
 have hRd : RR < wz.heap.size := by omega
 rw [← h_0] at n_0 n_1 n_2 n_3 f_3 ⊢; rw [← h_1] at n_1 n_2 n_3 f_3 ⊢; rw [← h_2] at n_2 n_3 f_3 ⊢; rw [← h_3] at n_3 f_3 ⊢; have l_1 : AA < BB := by omega
 have l_2 : BB < MM := by omega
 have l_3 : MM < RR := by omega
 have HAA := jh (NumAt.later b_3 (NumAt.later b_2 (NumAt.later b_1 n_0))); have HBB := jh (NumAt.later b_3 (NumAt.later b_2 n_1)); have HMM := jh (NumAt.later b_3 n_2); have HRR := jh n_3; have HF := jh f_3; have B := jh (((b_0.trans (b_1.mono (by omega))).trans (b_2.mono (by omega))).trans (b_3.mono (by omega))); have hwRR : w0.heap.size ≤ RR := by omega
 have HSZ := jh (show wz.heap.size = RR + 1 by omega); clear e_0 s_0 b_0 n_0 h_0 e_1 s_1 b_1 n_1 h_1 e_2 s_2 b_2 n_2 h_2 e_3 s_3 b_3 n_3 h_3 f_3; refine jv 16 (fun _ => none) (by kernel_rfl) (by kernel_rfl) (fun _ _ _ _ _ h => h) (fun F hn9 hcl hbl => ?_); have r_AA_0 := jr hbl HAA 0 (by omega); have r_AA_1 := jr hbl HAA 1 (by omega); have r_AA_2 := jr hbl HAA 2 (by omega); have r_AA_3 := jr hbl HAA 3 (by omega); have r_BB_0 := jr hbl HBB 0 (by omega); have r_BB_1 := jr hbl HBB 1 (by omega); have r_BB_2 := jr hbl HBB 2 (by omega); have r_BB_3 := jr hbl HBB 3 (by omega); have r_MM_0 := jr hbl HMM 0 (by omega); have r_MM_1 := jr hbl HMM 1 (by omega); have r_MM_2 := jr hbl HMM 2 (by omega); have r_MM_3 := jr hbl HMM 3 (by omega); have HCL := jh hcl; clear hcl hbl; refine jG 16 0 _ _ (fun _ _ _ => rfl) (by decide) ?_; simp only [List.take_succ_cons, List.take_zero, List.drop_succ_cons, List.drop_zero, Nat.reduceAdd]
 repeat (go_big_quiet_step ((first | (go_at_call 49; with_reducible exact js HCL.out (C1.out _)) | (go_at_call 52; with_reducible exact js HCL.out (K1.out _)) | (go_at_call 52; with_reducible exact js HCL.out (K2.out _)))))
 refine wpQuiet_nil ?_; refine jI ?_; intro bs w2 hb _ _; clear r_AA_0 r_AA_1 r_AA_2 r_AA_3 r_BB_0 r_BB_1 r_BB_2 r_BB_3 r_MM_0 r_MM_1 r_MM_2 r_MM_3; have HAA := jn hb HAA; have HBB := jn hb HBB; have HMM := jn hb HMM; have HRR := jn hb HRR; have HF := jh (HF.out.later hb hRd); have hRd := Nat.lt_of_lt_of_le hRd hb.size; have B := jw B hb; clear hb; simp only [qx]; obtain ⟨c0, c1, c2, c3, f0, f1, f2, f3⟩ := jC HRR.out HF.out
 go_wp2_with fail
 have B9 := jh (jp B.out hwRR (.int .u64 0) (.int .u64 0) (.int .u64 0) (.int .u64 0)); refine bodyPost_ret (v := .tuple #[.agg #[.int .u64 0, .int .u64 0, .int .u64 0, .int .u64 0], .int .i64 1]) ?_ rfl ⟨by simp only [qo]; rfl, jk HB0.out B9.out⟩
 simp [results, Tryz.results81, go_sem, c0, c1, c2, c3]
theorem M256_even : jj % 2 = 0 := by unfold jj; rfl
theorem Jb {r m : Nat} (hr : r < m) (hm : m < jj) : (qA r r = r + r ∧ qr r r = 0 ∧ r + r < jj) ∨ (qA r r + jj = r + r ∧ qr r r = 1) := by
 unfold qA qr
 rcases Nat.lt_or_ge (r + r) jj with h | h
 ·exact .inl ⟨Nat.mod_eq_of_lt h, Nat.div_eq_of_lt h, h⟩
 ·refine .inr ⟨?_, ?_⟩
  ·rw [Nat.mod_eq_sub_mod h, Nat.mod_eq_of_lt (by omega)]; omega
  ·exact Nat.div_eq_of_lt_le (by omega) (by omega)
theorem ZO {r m : Nat} (hr : r < m) (hm : m < jj) : qA r r % 2 = 0 := by
 have := M256_even
 rcases Jb hr hm with ⟨h, _⟩ | ⟨h, _⟩ <;> omega
theorem double_lt {r b m : Nat} (hr : r < m) (hm : m < jj) (hb : b ≤ 1) : qA r r + b < jj := by
 have := M256_even; have := ZO hr hm; have := JE r r; omega
theorem dgt_even {x b j : Nat} (hx : x % 2 = 0) (hb : b ≤ 1) (hj : 1 ≤ j) : jf jd x j = jf jd (x + b) j := by
 obtain ⟨i, rfl⟩ : ∃ i, j = i + 1 := ⟨j - 1, by omega⟩; unfold jf; rw [Nat.pow_succ, Nat.mul_comm, ← Nat.div_div_eq_div_mul, ← Nat.div_div_eq_div_mul]; have : (x + b) / jd = x / jd := by unfold jd; omega
 rw [this]
theorem dgt0_even {x b : Nat} (hx : x % 2 = 0) (hb : b ≤ 1) : IntKind.u64.wrap (((jf jd x 0 : Nat) : Int) + (b : Int)) = ((jf jd (x + b) 0 : Nat) : Int) := by
 have e : jf jd (x + b) 0 = jf jd x 0 + b := by unfold jf jd; rw [Nat.pow_zero, Nat.div_one, Nat.div_one]; omega
 have h := qC (x + b) 0; rw [e] at h ⊢; rw [← Int.natCast_add, jU]
 congr 1
 exact Nat.mod_eq_of_lt h
theorem subN_ge {y m : Nat} (h : m ≤ y) (hy : y < jj) : qV y m = y - m := by
 unfold qV; rw [show y + jj - m = (y - m) + jj by omega, Nat.add_mod_right, Nat.mod_eq_of_lt (by omega)]
theorem twice_sub {r b m : Nat} (hr : r < m) (hm : m < jj) (hb : b ≤ 1) (h : qr r r = 1 ∨ m ≤ qA r r + b) : qV (qA r r + b) m = (2 * r + b) % m := by
 rw [← twice_mod hr hb]
 rcases Jb hr hm with ⟨h1, h2, h3⟩ | ⟨h1, h2⟩
 ·rw [subN_ge (by omega) (double_lt hr hm hb), h1, if_pos (by omega)]; omega
 ·unfold qV; rw [Nat.mod_eq_of_lt (by omega), if_pos (by omega)]; omega
theorem twice_not {r b m : Nat} (hr : r < m) (hm : m < jj) (hb : b ≤ 1) (h0 : qr r r = 0) (h : qA r r + b < m) : qA r r + b = (2 * r + b) % m := by
 rw [← twice_mod hr hb]
 rcases Jb hr hm with ⟨h1, h2, h3⟩ | ⟨h1, h2⟩
 ·rw [if_neg (by omega)]; omega
 ·omega
theorem addNC_bit {r m : Nat} (hr : r < m) (hm : m < jj) : qr r r = 0 ∨ qr r r = 1 := by
 rcases Jb hr hm with ⟨_, h, _⟩ | ⟨_, h⟩
 ·exact .inl h
 ·exact .inr h
theorem word_iff {m : Nat} (hm : m < jj) : m < jd ↔ jf jd m 1 = 0 ∧ jf jd m 2 = 0 ∧ jf jd m 3 = 0 := by
 constructor
 ·intro h; exact (qf h).2
 ·rintro ⟨h1, h2, h3⟩; have h := Js (k := 1) hm (fun j hj hj4 => by rcases (show j = 1 ∨ j = 2 ∨ j = 3 by omega) with rfl | rfl | rfl <;> assumption) (by omega)
  rwa [Nat.pow_one] at h
theorem dgt_lowpart {lo hi j : Nat} (hj : j < 4) : (hi * jj + lo) / jd ^ j % jd = jf jd lo j := by
 unfold jf; obtain ⟨k, hk⟩ : ∃ k, jj = jd ^ j * jd * k := ⟨jd ^ (3 - j), by rw [← Qc, ← Nat.pow_succ, ← Nat.pow_add]; congr 1; omega⟩; rw [show hi * jj + lo = lo + jd ^ j * (jd * (hi * k)) by rw [hk, Nat.add_comm]; congr 1; ac_rfl, Nat.add_mul_div_left _ _ (Nat.pow_pos qD), Nat.add_mul_mod_self_left]
theorem dgt_highpart {lo hi j : Nat} (hlo : lo < jj) : (hi * jj + lo) / jd ^ (j + 4) % jd = jf jd hi j := by
 unfold jf; rw [Nat.add_comm j 4, Nat.pow_add, Qc, ← Nat.div_div_eq_div_mul, Nat.add_comm, Nat.add_mul_div_right _ _ qB, Nat.div_eq_of_lt hlo, Nat.zero_add]
theorem bit_lowpart {lo hi j : Nat} (hj : j < 256) : (hi * jj + lo) / 2 ^ j % 2 = lo / 2 ^ j % 2 := by
 obtain ⟨k, hk⟩ : ∃ k, jj = 2 ^ j * 2 * k := ⟨2 ^ (255 - j), by rw [M256_eq, ← Nat.pow_succ, ← Nat.pow_add]; congr 1; omega⟩; rw [show hi * jj + lo = lo + 2 ^ j * (2 * (hi * k)) by rw [hk, Nat.add_comm]; congr 1; ac_rfl, Nat.add_mul_div_left _ _ (Nat.two_pow_pos j), Nat.add_mul_mod_self_left]
theorem bit_highpart {lo hi j : Nat} (hlo : lo < jj) : (hi * jj + lo) / 2 ^ (j + 256) % 2 = hi / 2 ^ j % 2 := by
 rw [Nat.add_comm j 256, Nat.pow_add, ← M256_eq, ← Nat.div_div_eq_div_mul, Nat.add_comm, Nat.add_mul_div_right _ _ qB, Nat.div_eq_of_lt hlo, Nat.zero_add]
theorem wide_top8 {lo hi m : Nat} (hlo : lo < jj) (hhi : hi < jj) : (hi * jj + lo) / jd ^ 8 % m = 0 := by
 rw [Nat.div_eq_of_lt, Nat.zero_mod]; rw [show 8 = 4 + 4 from rfl, Nat.pow_add, Qc]; have : (hi + 1) * jj ≤ jj * jj := Nat.mul_le_mul_right _ hhi; rw [Nat.succ_mul] at this; omega
def topB (x m n : Nat) : Nat := x / 2 ^ n % m
theorem topB_zero (x m : Nat) : topB x m 0 = x % m := by unfold topB; rw [Nat.pow_zero, Nat.div_one]
theorem topB_lt {x m n : Nat} (h : 0 < m) : topB x m n < m := Nat.mod_lt _ h
theorem top_none {x k m n : Nat} (h : x < 2 ^ k * 2 ^ n) : topB x m (k + n) = 0 := by
 unfold topB; rw [Nat.pow_add, Nat.div_eq_of_lt h, Nat.zero_mod]
theorem topB_all {lo hi m : Nat} (hlo : lo < jj) (hhi : hi < jj) : topB (hi * jj + lo) m (256 + 256) = 0 := by
 refine top_none ?_; have h : (hi + 1) * jj ≤ jj * jj := Nat.mul_le_mul_right _ hhi; rw [Nat.succ_mul] at h; have e : (2 : Nat) ^ 256 = jj := M256_eq.symm
 calc hi * jj + lo < jj * jj := by omega
  _ = 2 ^ 256 * 2 ^ 256 := by rw [e]
end Go.Proofs.YtcaeaejefdhloaaGreat
