/- Layer 4's reference -/
import Derived.Test.YtcaeaejefdhloaaGreatZWG37
import Derived.Test.YtcaeaejefdhloaaGreatZWG40
set_option linter.unusedSimpArgs false
set_option linter.unusedVariables false
set_option maxHeartbeats 4000000
set_option maxRecDepth 100000
namespace Go.Proofs.YtcaeaejefdhloaaGreat
open Go.ChangeShapes Go.WideShapes Go.ChangeAt Go.RowKit
theorem Jh {m : Nat} (hm : m < jj) (w : World) :
  Calls Tryz.prog 96 #[ji m] w fun e w' => e = .returned (.bool (decide (m < jd))) ∧ Below w.heap.size w w' := by
 obtain ⟨b, hb⟩ : ∃ b : Bool, b = decide (m < jd) := ⟨_, rfl⟩; rw [← hb]; have hi : b = true ↔ jf jd m 1 = 0 ∧ jf jd m 2 = 0 ∧ jf jd m 3 = 0 := by rw [hb, decide_eq_true_iff]; exact word_iff hm
 clear hb hm; unfold ji words
 generalize jf jd m 1 = d1 at *
 generalize jf jd m 2 = d2 at *
 generalize jf jd m 3 = d3 at *
 generalize jf jd m 0 = d0 at *
 have h3 : (d1 = 0 ∧ d2 = 0 ∧ d3 = 0 ∧ b = true) ∨ (¬ d1 = 0 ∧ b = false) ∨ (d1 = 0 ∧ ¬ d2 = 0 ∧ b = false) ∨ (d1 = 0 ∧ d2 = 0 ∧ ¬ d3 = 0 ∧ b = false) := by
  cases b <;> simp at hi ⊢ <;> omega
 clear hi
 rcases h3 with ⟨rfl, rfl, rfl, rfl⟩ | ⟨h1, rfl⟩ | ⟨rfl, h2, rfl⟩ | ⟨rfl, rfl, h3, rfl⟩
 ·skip
  go_enter Tryz.func96, Tryz.ntmps96
  go_wp2_with fail
  refine bodyPost_ret (v := .bool true) ?_ rfl ⟨rfl, ja⟩
  simp [results, Tryz.results96, go_sem]
 ·skip
  have h1 : ¬ (d1 : Int) = 0 := by omega
  go_enter Tryz.func96, Tryz.ntmps96
  go_wp2_with fail
  refine bodyPost_ret (v := .bool false) ?_ rfl ⟨rfl, ja⟩
  simp [results, Tryz.results96, go_sem]
 ·skip
  have h2 : ¬ (d2 : Int) = 0 := by omega
  go_enter Tryz.func96, Tryz.ntmps96
  go_wp2_with fail
  refine bodyPost_ret (v := .bool false) ?_ rfl ⟨rfl, ja⟩
  simp [results, Tryz.results96, go_sem]
 ·skip
  have h3 : ¬ (d3 : Int) = 0 := by omega
  go_enter Tryz.func96, Tryz.ntmps96
  go_wp2_with fail
  refine bodyPost_ret (v := .bool false) ?_ rfl ⟨rfl, ja⟩
  simp [results, Tryz.results96, go_sem]
  omega
theorem RTwice_any {r b m : Nat} (hr : r < m) (hb9 : b ≤ 1) (hm : m < jj) (w : World) :
  Calls Tryz.prog 133 #[ji r, .int .u64 b, ji m] w fun e w' => e = .returned (ji ((2 * r + b) % m)) ∧ Below w.heap.size w w' := by
 obtain ⟨q, hq⟩ := je ((2 * r + b) % m); rw [← hq]; obtain ⟨x, hx⟩ := je (qA r r); obtain ⟨y, hy⟩ := je (x + b); obtain ⟨c, hc⟩ := je (qr r r); have hrM := Nat.lt_trans hr hm; have hev : x % 2 = 0 := by rw [hx]; exact ZO hr hm
 have hyM : y < jj := by rw [hy, hx]; exact double_lt hr hm hb9
 have hc2 : c = 0 ∨ c = 1 := by rw [hc]; exact addNC_bit hr hm
 have CA := jh (fun W => by have h9 := Add_ref hrM hrM W; rewrite [← hx, ← hc] at h9; unfold ji words at h9; rewrite [dgt_even (j := 1) hev hb9 (by omega), dgt_even (j := 2) hev hb9 (by omega), dgt_even (j := 3) hev hb9 (by omega), ← hy] at h9; exact h9); have hx0 : IntKind.u64.wrap (((jf jd x 0 : Nat) : Int) + (b : Int)) = ((jf jd y 0 : Nat) : Int) := by rw [hy]; exact dgt0_even hev hb9
 obtain ⟨x0, hx9⟩ := je (jf jd x 0); rw [← hx9] at CA hx0
 have h3 : (c = 1 ∧ qV y m = q) ∨ (c = 0 ∧ m ≤ y ∧ qV y m = q) ∨ (c = 0 ∧ y < m ∧ y = q) := by
  rcases hc2 with h | h
  ·rcases Nat.lt_or_ge y m with h2 | h2
   ·exact .inr (.inr ⟨h, h2, by rw [hq, hy, hx]; exact twice_not hr hm hb9 (by rw [← hc]; exact h) (by rw [← hx, ← hy]; exact h2)⟩)
   ·exact .inr (.inl ⟨h, h2, by rw [hq, hy, hx]; exact twice_sub hr hm hb9 (.inr (by rw [← hx, ← hy]; exact h2))⟩)
  ·exact .inl ⟨h, by rw [hq, hy, hx]; exact twice_sub hr hm hb9 (.inl (by rw [← hc]; exact h))⟩
 have CS := jh (fun W => Sub_ref hyM hm W); have CC := jh (fun W => Qd hyM hm W); clear hq hx hy hc hr hb9 hm hrM hev hyM hc2 hx9; unfold ji words at CS CC; unfold ji words
 go_enter Tryz.func133, Tryz.ntmps133
 go_wp2_with fail
 obtain ⟨w_0, e_0⟩ := je (w.alloc (.cells #[.int .u64 (jf jd r 0), .int .u64 (jf jd r 1), .int .u64 (jf jd r 2), .int .u64 (jf jd r 3)] 24)); have s_0 : w_0.heap.size = w.heap.size + 1 := by rw [e_0]; simp
 have b_0 := jc e_0; have n_0 : NumAt w_0 (w.heap.size) r := by rw [e_0]; exact NumAt.new w r _ _ rfl
 obtain ⟨w_1, e_1⟩ := je (w_0.alloc (.cells #[.int .u64 (jf jd m 0), .int .u64 (jf jd m 1), .int .u64 (jf jd m 2), .int .u64 (jf jd m 3)] 24)); have s_1 : w_1.heap.size = w.heap.size + 1 + 1 := by rw [e_1]; simp [s_0]
 have b_1 := jc e_1; have n_1 : NumAt w_1 (w.heap.size + 1) m := by rw [e_1]; exact NumAt.new w_0 m _ _ s_0.symm
 obtain ⟨wz, e_2⟩ := je (w_1.alloc (.cells #[.int .u64 0, .int .u64 0, .int .u64 0, .int .u64 0] 24)); have s_2 : wz.heap.size = w.heap.size + 1 + 1 + 1 := by rw [e_2]; simp [s_1]
 have b_2 := jc e_2; have n_2 : NumAt wz (w.heap.size + 1 + 1) 0 := by rw [e_2, ← s_1]; exact jz w_1 _
 have f_2 : FreeN wz (w.heap.size + 1 + 1) 4 := by rw [e_2]; exact FreeN.made w_1 _ _ 4 _ s_1.symm
 rw [← e_0, ← e_1, ← e_2]; obtain ⟨RB, h_0⟩ := je (w.heap.size); obtain ⟨MB, h_1⟩ := je (RB + 1); obtain ⟨RR, h_2⟩ := je (MB + 1); have hwL : w.heap.size ≤ RB := by omega
 have hRd : RR < wz.heap.size := by omega
 rw [← h_0] at n_0 n_1 n_2 f_2 ⊢; rw [← h_1] at n_1 n_2 f_2 ⊢; rw [← h_2] at n_2 f_2 ⊢; have l_1 : RB < MB := by omega
 have l_2 : MB < RR := by omega
 have HRB := jh (NumAt.later b_2 (NumAt.later b_1 n_0)); have HMB := jh (NumAt.later b_2 n_1); have HRR := jh n_2; have HF := jh f_2; have B := jh ((b_0.trans (b_1.mono (by omega))).trans (b_2.mono (by omega))); have hwRR : w.heap.size ≤ RR := by omega
 have HSZ := jh (show wz.heap.size = RR + 1 by omega); clear e_0 s_0 b_0 n_0 h_0 e_1 s_1 b_1 n_1 h_1 e_2 s_2 b_2 n_2 h_2 f_2; refine (CA.out _).mono ?_; rintro _ w1 ⟨rfl, hb⟩; have HRB := jn hb HRB; have HMB := jn hb HMB; have HRR := jn hb HRR; have HF := jh (HF.out.later hb (by omega)); have hRd := Nat.lt_of_lt_of_le hRd hb.size; have B := jw B hb; clear hb
 go_upto_region 3 with fail
 clear hx0; obtain ⟨w2, e9⟩ := je (w1.alloc (.cells #[.int .u64 (jf jd y 0), .int .u64 (jf jd y 1), .int .u64 (jf jd y 2), .int .u64 (jf jd y 3)] 24)); obtain ⟨YB, h9⟩ := je (w1.heap.size); have hb := jc e9; have n9 := jh (show NumAt w2 YB y by rw [e9, h9]; exact NumAt.new _ _ _ _ rfl); have f9 := jh (show FreeN w2 YB 4 by rw [e9, h9]; exact FreeN.made _ _ _ _ _ rfl); have l_YB : RR < YB := by omega
 have h8 : YB < w2.heap.size := by rw [e9, h9]; simp
 rw [← e9, ← h9]; clear e9 h9; have HRB := jn hb HRB; have HMB := jn hb HMB; have HRR := jn hb HRR; have HF := jh (HF.out.later hb (by omega)); have hRd := Nat.lt_of_lt_of_le hRd hb.size; have B := jw B hb; clear hb; have HYB := n9; have HFYB := f9; have hRd := h8; clear n9 f9 h8; have hwYB : w.heap.size ≤ YB := by omega
 rcases h3 with ⟨rfl, hs⟩ | ⟨rfl, hge, hs⟩ | ⟨rfl, hlt, hs⟩
 ·skip
  obtain ⟨z, hz⟩ := je (qp y m); rw [hs, ← hz] at CS; clear hs hz; obtain ⟨r_YB_0, r_YB_1, r_YB_2, r_YB_3⟩ := jy HYB.out; obtain ⟨r_MB_0, r_MB_1, r_MB_2, r_MB_3⟩ := jy HMB.out
  go_wp2_with fail
  clear r_YB_0 r_YB_1 r_YB_2 r_YB_3 r_MB_0 r_MB_1 r_MB_2 r_MB_3; refine (CS.out _).mono ?_; rintro _ w4 ⟨rfl, hb⟩; have HRB := jn hb HRB; have HMB := jn hb HMB; have HRR := jn hb HRR; have HYB := jn hb HYB; have HF := jh (HF.out.later hb (by omega)); have HFYB := jh (HFYB.out.later hb (by omega)); have hRd := Nat.lt_of_lt_of_le hRd hb.size; have B := jw B hb; clear hb; obtain ⟨y0, y1, y2, y3, y4, y5, y6, y7⟩ := jC HYB.out HFYB.out
  go_upto_region 5 with fail
  clear y0 y1 y2 y3 y4 y5 y6 y7; obtain ⟨w5, e9⟩ := je (((((w4.setCell ⟨YB, 0, none⟩ (.int .u64 (jf jd q 0))).setCell ⟨YB, 1, none⟩ (.int .u64 (jf jd q 1))).setCell ⟨YB, 2, none⟩ (.int .u64 (jf jd q 2))).setCell ⟨YB, 3, none⟩ (.int .u64 (jf jd q 3)))); rw [← e9]; have HRB := jh (show NumAt w5 RB r by rw [e9]; exact NumAt.other4 HRB.out (by omega) _ _ _ _); have HMB := jh (show NumAt w5 MB m by rw [e9]; exact NumAt.other4 HMB.out (by omega) _ _ _ _); have HRR := jh (show NumAt w5 RR 0 by rw [e9]; exact NumAt.other4 HRR.out (by omega) _ _ _ _); have HYB := jh (show NumAt w5 YB q by rw [e9]; exact NumAt.set4 HYB.out _); have HF := jh (show FreeN w5 RR 4 by rw [e9]; exact FreeN.set4 HF.out _ _ _ _ _ _ _ _); have HFYB := jh (show FreeN w5 YB 4 by rw [e9]; exact FreeN.set4 HFYB.out _ _ _ _ _ _ _ _); have B := jh (show Below w.heap.size w w5 by rw [e9]; exact jp B.out hwYB _ _ _ _); have hRd : YB < w5.heap.size := by rw [e9]; simpa using hRd
  clear e9; obtain ⟨r_YB_0, r_YB_1, r_YB_2, r_YB_3⟩ := jy HYB.out; obtain ⟨c0, c1, c2, c3, f0, f1, f2, f3⟩ := jC HRR.out HF.out
  go_wp2_with fail
  have HRL := jh (NumAt.set4 HRR.out q); have B9 := jh (jp B.out hwRR (.int .u64 (jf jd q 0)) (.int .u64 (jf jd q 1)) (.int .u64 (jf jd q 2)) (.int .u64 (jf jd q 3))); obtain ⟨g0, g1, g2, g3⟩ := jy HRL.out; refine bodyPost_ret (v := .agg #[.int .u64 (jf jd q 0), .int .u64 (jf jd q 1), .int .u64 (jf jd q 2), .int .u64 (jf jd q 3)]) ?_ rfl ⟨rfl, B9.out⟩
  simp [results, Tryz.results133, go_sem, g0, g1, g2, g3]
 ·skip
  obtain ⟨z, hz⟩ := je (qp y m); rw [hs, ← hz] at CS; clear hs hz; obtain ⟨k, hk⟩ := je (qw y m); rw [← hk] at CC; have hk0 : 0 ≤ k := by rw [hk]; exact cmpN_ge hge
  clear hk; obtain ⟨r_YB_0, r_YB_1, r_YB_2, r_YB_3⟩ := jy HYB.out; obtain ⟨r_MB_0, r_MB_1, r_MB_2, r_MB_3⟩ := jy HMB.out
  go_wp2_with fail
  clear r_YB_0 r_YB_1 r_YB_2 r_YB_3 r_MB_0 r_MB_1 r_MB_2 r_MB_3; refine (CC.out _).mono ?_; rintro _ w3 ⟨rfl, hb⟩; have HRB := jn hb HRB; have HMB := jn hb HMB; have HRR := jn hb HRR; have HYB := jn hb HYB; have HF := jh (HF.out.later hb (by omega)); have HFYB := jh (HFYB.out.later hb (by omega)); have hRd := Nat.lt_of_lt_of_le hRd hb.size; have B := jw B hb; clear hb; obtain ⟨r_YB_0, r_YB_1, r_YB_2, r_YB_3⟩ := jy HYB.out; obtain ⟨r_MB_0, r_MB_1, r_MB_2, r_MB_3⟩ := jy HMB.out
  go_wp2_with fail
  clear r_YB_0 r_YB_1 r_YB_2 r_YB_3 r_MB_0 r_MB_1 r_MB_2 r_MB_3; refine (CS.out _).mono ?_; rintro _ w4 ⟨rfl, hb⟩; have HRB := jn hb HRB; have HMB := jn hb HMB; have HRR := jn hb HRR; have HYB := jn hb HYB; have HF := jh (HF.out.later hb (by omega)); have HFYB := jh (HFYB.out.later hb (by omega)); have hRd := Nat.lt_of_lt_of_le hRd hb.size; have B := jw B hb; clear hb; obtain ⟨y0, y1, y2, y3, y4, y5, y6, y7⟩ := jC HYB.out HFYB.out
  go_upto_region 5 with fail
  clear y0 y1 y2 y3 y4 y5 y6 y7; obtain ⟨w5, e9⟩ := je (((((w4.setCell ⟨YB, 0, none⟩ (.int .u64 (jf jd q 0))).setCell ⟨YB, 1, none⟩ (.int .u64 (jf jd q 1))).setCell ⟨YB, 2, none⟩ (.int .u64 (jf jd q 2))).setCell ⟨YB, 3, none⟩ (.int .u64 (jf jd q 3)))); rw [← e9]; have HRB := jh (show NumAt w5 RB r by rw [e9]; exact NumAt.other4 HRB.out (by omega) _ _ _ _); have HMB := jh (show NumAt w5 MB m by rw [e9]; exact NumAt.other4 HMB.out (by omega) _ _ _ _); have HRR := jh (show NumAt w5 RR 0 by rw [e9]; exact NumAt.other4 HRR.out (by omega) _ _ _ _); have HYB := jh (show NumAt w5 YB q by rw [e9]; exact NumAt.set4 HYB.out _); have HF := jh (show FreeN w5 RR 4 by rw [e9]; exact FreeN.set4 HF.out _ _ _ _ _ _ _ _); have HFYB := jh (show FreeN w5 YB 4 by rw [e9]; exact FreeN.set4 HFYB.out _ _ _ _ _ _ _ _); have B := jh (show Below w.heap.size w w5 by rw [e9]; exact jp B.out hwYB _ _ _ _); have hRd : YB < w5.heap.size := by rw [e9]; simpa using hRd
  clear e9; obtain ⟨r_YB_0, r_YB_1, r_YB_2, r_YB_3⟩ := jy HYB.out; obtain ⟨c0, c1, c2, c3, f0, f1, f2, f3⟩ := jC HRR.out HF.out
  go_wp2_with fail
  have HRL := jh (NumAt.set4 HRR.out q); have B9 := jh (jp B.out hwRR (.int .u64 (jf jd q 0)) (.int .u64 (jf jd q 1)) (.int .u64 (jf jd q 2)) (.int .u64 (jf jd q 3))); obtain ⟨g0, g1, g2, g3⟩ := jy HRL.out; refine bodyPost_ret (v := .agg #[.int .u64 (jf jd q 0), .int .u64 (jf jd q 1), .int .u64 (jf jd q 2), .int .u64 (jf jd q 3)]) ?_ rfl ⟨rfl, B9.out⟩
  simp [results, Tryz.results133, go_sem, g0, g1, g2, g3]
 ·skip
  have HS9 := jh hs; clear hs; obtain ⟨k, hk⟩ := je (qw y m); rw [← hk] at CC; have hk0 : k < 0 := by rw [hk]; rw [zM hlt]; decide
  clear hk; obtain ⟨r_YB_0, r_YB_1, r_YB_2, r_YB_3⟩ := jy HYB.out; obtain ⟨r_MB_0, r_MB_1, r_MB_2, r_MB_3⟩ := jy HMB.out
  go_wp2_with fail
  clear r_YB_0 r_YB_1 r_YB_2 r_YB_3 r_MB_0 r_MB_1 r_MB_2 r_MB_3; refine (CC.out _).mono ?_; rintro _ w3 ⟨rfl, hb⟩; have HRB := jn hb HRB; have HMB := jn hb HMB; have HRR := jn hb HRR; have HYB := jn hb HYB; have HF := jh (HF.out.later hb (by omega)); have HFYB := jh (HFYB.out.later hb (by omega)); have hRd := Nat.lt_of_lt_of_le hRd hb.size; have B := jw B hb; clear hb
  go_upto_region 5 with fail
  rw [HS9.out] at HYB; obtain ⟨r_YB_0, r_YB_1, r_YB_2, r_YB_3⟩ := jy HYB.out; obtain ⟨c0, c1, c2, c3, f0, f1, f2, f3⟩ := jC HRR.out HF.out
  go_wp2_with fail
  have HRL := jh (NumAt.set4 HRR.out q); have B9 := jh (jp B.out hwRR (.int .u64 (jf jd q 0)) (.int .u64 (jf jd q 1)) (.int .u64 (jf jd q 2)) (.int .u64 (jf jd q 3))); obtain ⟨g0, g1, g2, g3⟩ := jy HRL.out; refine bodyPost_ret (v := .agg #[.int .u64 (jf jd q 0), .int .u64 (jf jd q 1), .int .u64 (jf jd q 2), .int .u64 (jf jd q 3)]) ?_ rfl ⟨rfl, B9.out⟩
  simp [results, Tryz.results133, go_sem, g0, g1, g2, g3]
theorem RWide_word {lo hi m : Nat} (hlo : lo < jj) (hhi : hi < jj) (hm : m < jj) (h0 : 0 < m) (hw9 : m < jd) (w : World) :
  Calls Tryz.prog 104 #[ji lo, ji hi, ji m] w fun e w' => e = .returned (.tuple #[ji ((hi * jj + lo) % m), .int .i64 0]) ∧ Below w.heap.size w w' := by
 obtain ⟨x, hx⟩ := je (hi * jj + lo); obtain ⟨q, hq⟩ := je (x % m); rw [← hx, ← hq]; have heq : ∀ W : World, (binOp .eql 24 (.agg #[.int .u64 (jf jd m 0), .int .u64 (jf jd m 1), .int .u64 (jf jd m 2), .int .u64 (jf jd m 3)]) (.agg #[.int .u64 0, .int .u64 0, .int .u64 0, .int .u64 0])).run Tryz.prog W = .ok (.bool false) W := fun W => by have h9 := zV m 0 hm (by decide) W; rewrite [decide_eq_false (by omega)] at h9; simp only [qo] at h9; exact h9
 have CW := jh (fun W => by have h9 := Jh hm W; rewrite [decide_eq_true hw9] at h9; unfold ji words at h9; exact h9); have H8 := jh (show x / jd ^ 8 % m = 0 by rw [hx]; exact wide_top8 hlo hhi); have HL := jh (fun j (hj : j < 4) => show jf jd lo j = x / jd ^ j % jd by rw [hx]; exact (dgt_lowpart hj).symm); have HH := jh (fun j (hj : j < 4) => show jf jd hi j = x / jd ^ (j + 4) % jd by rw [hx]; exact (dgt_highpart hlo).symm); have hqW : q < jd := by rw [hq]; exact Nat.lt_trans (Nat.mod_lt _ h0) hw9
 have CO := jh (fun W => by have h9 := Of_ref q hqW W; unfold ji words at h9; exact h9); have DM := jh (qf hw9).1; have HQ := jh hq; have HM0 := jh h0; have HW9 := jh hw9; have HM9 := jh hm; clear hx hq hlo hhi hm h0 hw9 hqW; unfold ji words
 go_enter Tryz.func104, Tryz.ntmps104
 go_wp2_with fail
 obtain ⟨w_0, e_0⟩ := je (w.alloc (.cells #[.int .u64 (jf jd lo 0), .int .u64 (jf jd lo 1), .int .u64 (jf jd lo 2), .int .u64 (jf jd lo 3)] 24)); have s_0 : w_0.heap.size = w.heap.size + 1 := by rw [e_0]; simp
 have b_0 := jc e_0; have n_0 : NumAt w_0 (w.heap.size) lo := by rw [e_0]; exact NumAt.new w lo _ _ rfl
 obtain ⟨w_1, e_1⟩ := je (w_0.alloc (.cells #[.int .u64 (jf jd hi 0), .int .u64 (jf jd hi 1), .int .u64 (jf jd hi 2), .int .u64 (jf jd hi 3)] 24)); have s_1 : w_1.heap.size = w.heap.size + 1 + 1 := by rw [e_1]; simp [s_0]
 have b_1 := jc e_1; have n_1 : NumAt w_1 (w.heap.size + 1) hi := by rw [e_1]; exact NumAt.new w_0 hi _ _ s_0.symm
 obtain ⟨w_2, e_2⟩ := je (w_1.alloc (.cells #[.int .u64 (jf jd m 0), .int .u64 (jf jd m 1), .int .u64 (jf jd m 2), .int .u64 (jf jd m 3)] 24)); have s_2 : w_2.heap.size = w.heap.size + 1 + 1 + 1 := by rw [e_2]; simp [s_1]
 have b_2 := jc e_2; have n_2 : NumAt w_2 (w.heap.size + 1 + 1) m := by rw [e_2]; exact NumAt.new w_1 m _ _ s_1.symm
 obtain ⟨wz, e_3⟩ := je (w_2.alloc (.cells #[.int .u64 0, .int .u64 0, .int .u64 0, .int .u64 0] 24)); have s_3 : wz.heap.size = w.heap.size + 1 + 1 + 1 + 1 := by rw [e_3]; simp [s_2]
 have b_3 := jc e_3; have n_3 : NumAt wz (w.heap.size + 1 + 1 + 1) 0 := by rw [e_3, ← s_2]; exact jz w_2 _
 have f_3 : FreeN wz (w.heap.size + 1 + 1 + 1) 4 := by rw [e_3]; exact FreeN.made w_2 _ _ 4 _ s_2.symm
 rw [← e_0, ← e_1, ← e_2, ← e_3]; obtain ⟨LB, h_0⟩ := je (w.heap.size); obtain ⟨HB, h_1⟩ := je (LB + 1); obtain ⟨MB, h_2⟩ := je (HB + 1); obtain ⟨RR, h_3⟩ := je (MB + 1); have hwL : w.heap.size ≤ LB := by omega
 have hRd : RR < wz.heap.size := by omega
 rw [← h_0] at n_0 n_1 n_2 n_3 f_3 ⊢; rw [← h_1] at n_1 n_2 n_3 f_3 ⊢; rw [← h_2] at n_2 n_3 f_3 ⊢; rw [← h_3] at n_3 f_3 ⊢; have l_1 : LB < HB := by omega
 have l_2 : HB < MB := by omega
 have l_3 : MB < RR := by omega
 have HLB := jh (NumAt.later b_3 (NumAt.later b_2 (NumAt.later b_1 n_0))); have HHB := jh (NumAt.later b_3 (NumAt.later b_2 n_1)); have HMB := jh (NumAt.later b_3 n_2); have HRR := jh n_3; have HF := jh f_3; have B := jh (((b_0.trans (b_1.mono (by omega))).trans (b_2.mono (by omega))).trans (b_3.mono (by omega))); have hwRR : w.heap.size ≤ RR := by omega
 have HSZ := jh (show wz.heap.size = RR + 1 by omega); clear e_0 s_0 b_0 n_0 h_0 e_1 s_1 b_1 n_1 h_1 e_2 s_2 b_2 n_2 h_2 e_3 s_3 b_3 n_3 h_3 f_3; clear heq; refine (CW.out _).mono ?_; rintro _ w1 ⟨rfl, hb⟩; have HLB := jn hb HLB; have HHB := jn hb HHB; have HMB := jn hb HMB; have HRR := jn hb HRR; have HF := jh (HF.out.later hb (by omega)); have hRd := Nat.lt_of_lt_of_le hRd hb.size; have B := jw B hb; clear hb
 go_wp2_with fail
 go_loopw [8, 9] (fun rv i wr => ∃ (z : Int) (n r : Nat), Hid (z = (n : Int) - 1) ∧ n ≤ 8 ∧ rv = .int .u64 r ∧ i = .int .i64 z ∧ Hid (r = x / jd ^ n % m) ∧ Hid (NumAt wr LB lo) ∧ Hid (NumAt wr HB hi) ∧ Hid (NumAt wr MB m) ∧ Hid (NumAt wr RR 0) ∧ Hid (FreeN wr RR 4) ∧ Hid (Below w.heap.size w wr) ∧ RR < wr.heap.size) (fun _ i _ => (intOf i + 1).toNat)
 case atStart => exact ⟨7, 8, 0, jh rfl, Nat.le_refl _, rfl, rfl, jh H8.out.symm, HLB, HHB, HMB, HRR, HF, B, hRd⟩
 case round =>
  clear HLB HHB HMB HRR HF B hRd; obtain ⟨z, n, r, hz, hn8, rfl, rfl, hr, HLB, HHB, HMB, HRR, HF, B, hRd⟩ := hrel
  by_cases hlt : 0 ≤ z
  ·obtain ⟨j, rfl⟩ : ∃ j : Nat, z = (j : Int) := ⟨z.toNat, by omega⟩; have hnj : n = j + 1 := by have := hz.out; omega
   rw [hnj] at hr hn8; clear hz hnj; obtain ⟨d, hd⟩ := je (x / jd ^ j % jd); have hdW : d < jd := by rw [hd]; exact Nat.mod_lt _ qD
   have hrm : r < m := by rw [hr.out]; exact Nat.mod_lt _ HM0.out
   obtain ⟨r2, hr2⟩ := je ((r * jd + d) % m); obtain ⟨q2, hq2⟩ := je ((r * jd + d) / m); have CD := jh (fun W => by have h9 := JQ r d m hdW HW9.out hrm W; rewrite [← hr2, ← hq2] at h9; exact h9); have HR2 := jh (show r2 = x / jd ^ j % m by rw [hr2, hr.out, hd]; exact wtop_mod x m j); clear hr2 hq2 hdW hrm
   by_cases h4 : j < 4
   ·skip
    have r_l := HLB.out j h4; rw [HL.out j h4, ← hd] at r_l; have h4I : ¬ (4 : Int) ≤ (j : Int) := by omega
    have hmod : (j : Int).tmod 4 = (j : Int) := by rw [Int.tmod_eq_emod_of_nonneg (by omega)]; omega
    have hmod2 : (j : Int) % 4 = (j : Int) := by omega
    clear hd; obtain ⟨r_MB_0, r_MB_1, r_MB_2, r_MB_3⟩ := jy HMB.out; rw [DM.out] at r_MB_0
    go_wp2_with fail
    clear r_MB_0 r_MB_1 r_MB_2 r_MB_3; clear r_l hmod hmod2; refine (CD.out _).mono ?_; rintro _ w3 ⟨rfl, hb⟩; have HLB := jn hb HLB; have HHB := jn hb HHB; have HMB := jn hb HMB; have HRR := jn hb HRR; have HF := jh (HF.out.later hb (by omega)); have hRd := Nat.lt_of_lt_of_le hRd hb.size; have B := jw B hb; clear hb
    go_wp2_with fail
    go_roundw
    case rel => exact ⟨(j : Int) - 1, j, r2, jh rfl, by omega, rfl, by go_num, HR2, HLB, HHB, HMB, HRR, HF, B, hRd⟩
    case measure => (simp [intOf] <;> omega)
   ·skip
    obtain ⟨p, hp⟩ := je (j - 4); have hp4 : p < 4 := by omega
    have r_l := HHB.out p hp4; rw [HH.out p hp4, show p + 4 = j by omega, ← hd] at r_l; have h4I : (4 : Int) ≤ (j : Int) := by omega
    have eI : (j : Int) - 4 = (p : Int) := by omega
    obtain ⟨p9, hp9⟩ := je (j % 4); have hp5 : p9 < 4 := by omega
    have hmod : (j : Int).tmod 4 = (p9 : Int) := by rw [Int.tmod_eq_emod_of_nonneg (by omega)]; omega
    have hmod2 : (j : Int) % 4 = (p9 : Int) := by omega
    have r_k := HLB.out p9 hp5; clear hp hp9; clear hd; obtain ⟨r_MB_0, r_MB_1, r_MB_2, r_MB_3⟩ := jy HMB.out; rw [DM.out] at r_MB_0
    go_wp2_with fail
    clear r_MB_0 r_MB_1 r_MB_2 r_MB_3; clear r_l hmod hmod2 eI r_k; refine (CD.out _).mono ?_; rintro _ w3 ⟨rfl, hb⟩; have HLB := jn hb HLB; have HHB := jn hb HHB; have HMB := jn hb HMB; have HRR := jn hb HRR; have HF := jh (HF.out.later hb (by omega)); have hRd := Nat.lt_of_lt_of_le hRd hb.size; have B := jw B hb; clear hb
    go_wp2_with fail
    go_roundw
    case rel => exact ⟨(j : Int) - 1, j, r2, jh rfl, by omega, rfl, by go_num, HR2, HLB, HHB, HMB, HRR, HF, B, hRd⟩
    case measure => (simp [intOf] <;> omega)
  ·have hn0 : n = 0 := by have := hz.out; omega
   have hrq : r = q := by have := hr.out; rw [hn0, Nat.pow_zero, Nat.div_one] at this; rw [this, HQ.out]
   rw [hrq]; clear hz hr hn0 hrq
   go_wp2_with fail
   refine (CO.out _).mono ?_; rintro _ w4 ⟨rfl, hb⟩; have HLB := jn hb HLB; have HHB := jn hb HHB; have HMB := jn hb HMB; have HRR := jn hb HRR; have HF := jh (HF.out.later hb (by omega)); have hRd := Nat.lt_of_lt_of_le hRd hb.size; have B := jw B hb; clear hb; obtain ⟨c0, c1, c2, c3, f0, f1, f2, f3⟩ := jC HRR.out HF.out
   go_wp2_with fail
   have HRL := jh (NumAt.set4 HRR.out q); have B9 := jh (jp B.out hwRR (.int .u64 (jf jd q 0)) (.int .u64 (jf jd q 1)) (.int .u64 (jf jd q 2)) (.int .u64 (jf jd q 3))); obtain ⟨g0, g1, g2, g3⟩ := jy HRL.out; refine bodyPost_ret (v := .tuple #[.agg #[.int .u64 (jf jd q 0), .int .u64 (jf jd q 1), .int .u64 (jf jd q 2), .int .u64 (jf jd q 3)], .int .i64 0]) ?_ rfl ⟨rfl, B9.out⟩
   simp [results, Tryz.results104, go_sem, g0, g1, g2, g3]
theorem RWide_long {lo hi m : Nat} (hlo : lo < jj) (hhi : hi < jj) (hm : m < jj) (h0 : 0 < m) (hw9 : ¬ m < jd) (w : World) :
  Calls Tryz.prog 104 #[ji lo, ji hi, ji m] w fun e w' => e = .returned (.tuple #[ji ((hi * jj + lo) % m), .int .i64 0]) ∧ Below w.heap.size w w' := by
 obtain ⟨x, hx⟩ := je (hi * jj + lo); obtain ⟨q, hq⟩ := je (x % m); rw [← hx, ← hq]; have heq : ∀ W : World, (binOp .eql 24 (.agg #[.int .u64 (jf jd m 0), .int .u64 (jf jd m 1), .int .u64 (jf jd m 2), .int .u64 (jf jd m 3)]) (.agg #[.int .u64 0, .int .u64 0, .int .u64 0, .int .u64 0])).run Tryz.prog W = .ok (.bool false) W := fun W => by have h9 := zV m 0 hm (by decide) W; rewrite [decide_eq_false (by omega)] at h9; simp only [qo] at h9; exact h9
 have CW := jh (fun W => by have h9 := Jh hm W; rewrite [decide_eq_false hw9] at h9; unfold ji words at h9; exact h9); have H8 := jh (show topB x m (256 + 256) = 0 by rw [hx]; exact topB_all hlo hhi); have HL := jh (fun j (hj : j < 256) => show lo / 2 ^ j % 2 = x / 2 ^ j % 2 by rw [hx]; exact (bit_lowpart hj).symm); have HH := jh (fun j => show hi / 2 ^ j % 2 = x / 2 ^ (j + 256) % 2 by rw [hx]; exact (bit_highpart hlo).symm); have HQ := jh hq; have HM0 := jh h0; have HW9 := jh hw9; have HM9 := jh hm; clear hx hq hlo hhi hm h0 hw9; unfold ji words
 go_enter Tryz.func104, Tryz.ntmps104
 go_wp2_with fail
 obtain ⟨w_0, e_0⟩ := je (w.alloc (.cells #[.int .u64 (jf jd lo 0), .int .u64 (jf jd lo 1), .int .u64 (jf jd lo 2), .int .u64 (jf jd lo 3)] 24)); have s_0 : w_0.heap.size = w.heap.size + 1 := by rw [e_0]; simp
 have b_0 := jc e_0; have n_0 : NumAt w_0 (w.heap.size) lo := by rw [e_0]; exact NumAt.new w lo _ _ rfl
 obtain ⟨w_1, e_1⟩ := je (w_0.alloc (.cells #[.int .u64 (jf jd hi 0), .int .u64 (jf jd hi 1), .int .u64 (jf jd hi 2), .int .u64 (jf jd hi 3)] 24)); have s_1 : w_1.heap.size = w.heap.size + 1 + 1 := by rw [e_1]; simp [s_0]
 have b_1 := jc e_1; have n_1 : NumAt w_1 (w.heap.size + 1) hi := by rw [e_1]; exact NumAt.new w_0 hi _ _ s_0.symm
 obtain ⟨w_2, e_2⟩ := je (w_1.alloc (.cells #[.int .u64 (jf jd m 0), .int .u64 (jf jd m 1), .int .u64 (jf jd m 2), .int .u64 (jf jd m 3)] 24)); have s_2 : w_2.heap.size = w.heap.size + 1 + 1 + 1 := by rw [e_2]; simp [s_1]
 have b_2 := jc e_2; have n_2 : NumAt w_2 (w.heap.size + 1 + 1) m := by rw [e_2]; exact NumAt.new w_1 m _ _ s_1.symm
 obtain ⟨wz, e_3⟩ := je (w_2.alloc (.cells #[.int .u64 0, .int .u64 0, .int .u64 0, .int .u64 0] 24)); have s_3 : wz.heap.size = w.heap.size + 1 + 1 + 1 + 1 := by rw [e_3]; simp [s_2]
 have b_3 := jc e_3; have n_3 : NumAt wz (w.heap.size + 1 + 1 + 1) 0 := by rw [e_3, ← s_2]; exact jz w_2 _
 have f_3 : FreeN wz (w.heap.size + 1 + 1 + 1) 4 := by rw [e_3]; exact FreeN.made w_2 _ _ 4 _ s_2.symm
 rw [← e_0, ← e_1, ← e_2, ← e_3]; obtain ⟨LB, h_0⟩ := je (w.heap.size); obtain ⟨HB, h_1⟩ := je (LB + 1); obtain ⟨MB, h_2⟩ := je (HB + 1); obtain ⟨RR, h_3⟩ := je (MB + 1); have hwL : w.heap.size ≤ LB := by omega
 have hRd : RR < wz.heap.size := by omega
 rw [← h_0] at n_0 n_1 n_2 n_3 f_3 ⊢; rw [← h_1] at n_1 n_2 n_3 f_3 ⊢; rw [← h_2] at n_2 n_3 f_3 ⊢; rw [← h_3] at n_3 f_3 ⊢; have l_1 : LB < HB := by omega
 have l_2 : HB < MB := by omega
 have l_3 : MB < RR := by omega
 have HLB := jh (NumAt.later b_3 (NumAt.later b_2 (NumAt.later b_1 n_0))); have HHB := jh (NumAt.later b_3 (NumAt.later b_2 n_1)); have HMB := jh (NumAt.later b_3 n_2); have HRR := jh n_3; have HF := jh f_3; have B := jh (((b_0.trans (b_1.mono (by omega))).trans (b_2.mono (by omega))).trans (b_3.mono (by omega))); have hwRR : w.heap.size ≤ RR := by omega
 have HSZ := jh (show wz.heap.size = RR + 1 by omega); clear e_0 s_0 b_0 n_0 h_0 e_1 s_1 b_1 n_1 h_1 e_2 s_2 b_2 n_2 h_2 e_3 s_3 b_3 n_3 h_3 f_3; clear heq; refine (CW.out _).mono ?_; rintro _ w1 ⟨rfl, hb⟩; have HLB := jn hb HLB; have HHB := jn hb HHB; have HMB := jn hb HMB; have HRR := jn hb HRR; have HF := jh (HF.out.later hb (by omega)); have hRd := Nat.lt_of_lt_of_le hRd hb.size; have B := jw B hb; clear hb
 go_upto_region 14 with fail
 obtain ⟨w2, e9⟩ := je (w1.alloc (.cells #[.int .u64 0, .int .u64 0, .int .u64 0, .int .u64 0] 24)); obtain ⟨BB, h9⟩ := je (w1.heap.size); have hb := jc e9; have n9 := jh (show NumAt w2 BB 0 by rw [e9, h9]; exact jz _ _); have f9 := jh (show FreeN w2 BB 4 by rw [e9, h9]; exact FreeN.made _ _ _ _ _ rfl); have l_BB : RR < BB := by omega
 have h8 : BB < w2.heap.size := by rw [e9, h9]; simp
 rw [← e9, ← h9]; clear e9 h9; have HLB := jn hb HLB; have HHB := jn hb HHB; have HMB := jn hb HMB; have HRR := jn hb HRR; have HF := jh (HF.out.later hb (by omega)); have hRd := Nat.lt_of_lt_of_le hRd hb.size; have B := jw B hb; clear hb; have HBB := n9; have HFBB := f9; have hRd := h8; clear n9 f9 h8; have hwBB : w.heap.size ≤ BB := by omega
 have h09 := jh (show 0 = topB x m (256 + 256) from H8.out.symm)
 go_wp2_with fail
 go_loopw [12] (fun i wr => ∃ (z : Int) (n r : Nat), Hid (z = (n : Int) - 1) ∧ n ≤ 256 ∧ i = .int .i64 z ∧ Hid (r = topB x m (n + 256)) ∧ Hid (NumAt wr LB lo) ∧ Hid (NumAt wr HB hi) ∧ Hid (NumAt wr MB m) ∧ Hid (NumAt wr RR 0) ∧ Hid (NumAt wr BB r) ∧ Hid (FreeN wr RR 4) ∧ Hid (FreeN wr BB 4) ∧ Hid (Below w.heap.size w wr) ∧ BB < wr.heap.size) (fun i _ => (intOf i + 1).toNat)
 case atStart => exact ⟨255, 256, 0, jh rfl, Nat.le_refl _, rfl, h09, HLB, HHB, HMB, HRR, HBB, HF, HFBB, B, hRd⟩
 case round =>
  clear HLB HHB HMB HRR HBB HF HFBB B hRd h09; obtain ⟨z, n, r, hz, hn8, rfl, HR, HLB, HHB, HMB, HRR, HBB, HF, HFBB, B, hRd⟩ := hrel
  by_cases hlt : 0 ≤ z
  ·obtain ⟨j, rfl⟩ : ∃ j : Nat, z = (j : Int) := ⟨z.toNat, by omega⟩; have hnj : n = j + 1 := by have := hz.out; omega
   rw [hnj] at HR hn8; clear hz hnj; have hj : j < 256 := by omega
   obtain ⟨b, hb⟩ := je (x / 2 ^ (j + 256) % 2); have hb1 : b ≤ 1 := by omega
   have hrm : r < m := by rw [HR.out]; exact topB_lt HM0.out
   have CB := jh (fun W => by have h9 := Bit_ref hi (j : Int) W (by omega) (by omega); rewrite [Zo hj, HH.out j, ← hb] at h9; unfold ji words at h9; exact h9); obtain ⟨r2, hr2⟩ := je ((2 * r + b) % m); have CT := jh (fun W => by have h9 := RTwice_any hrm hb1 HM9.out W; rewrite [← hr2] at h9; unfold ji words at h9; exact h9); have HR2 := jh (show r2 = x / 2 ^ (j + 256) % m by rw [hr2, HR.out, hb]; rw [show j + 1 + 256 = j + 256 + 1 by omega]; exact top_mod x m _); clear hb hr2 hb1 hrm HR
   go_upto_region 17 with fail
   refine jv 6 (fun _ => none) (by kernel_rfl) (by kernel_rfl) (fun _ _ _ _ _ h => h) (fun F hn9 hcl hbl => ?_); have r_BB_0 := jr hbl HBB 0 (by omega); have r_BB_1 := jr hbl HBB 1 (by omega); have r_BB_2 := jr hbl HBB 2 (by omega); have r_BB_3 := jr hbl HBB 3 (by omega); have r_HB_0 := jr hbl HHB 0 (by omega); have r_HB_1 := jr hbl HHB 1 (by omega); have r_HB_2 := jr hbl HHB 2 (by omega); have r_HB_3 := jr hbl HHB 3 (by omega); have r_MB_0 := jr hbl HMB 0 (by omega); have r_MB_1 := jr hbl HMB 1 (by omega); have r_MB_2 := jr hbl HMB 2 (by omega); have r_MB_3 := jr hbl HMB 3 (by omega); have HCL := jh hcl; clear hcl hbl; refine jG 6 0 _ _ (fun _ _ _ => rfl) (by decide) ?_; simp only [List.take_succ_cons, List.take_zero, List.drop_succ_cons, List.drop_zero, Nat.reduceAdd]
   repeat (go_big_quiet_step ((first | (go_at_call 100; with_reducible exact js HCL.out (CB.out _)) | (go_at_call 133; with_reducible exact js HCL.out (CT.out _)))))
   refine wpQuiet_nil ?_; refine jI ?_; intro bs w5 hb _ _; clear r_BB_0 r_BB_1 r_BB_2 r_BB_3 r_HB_0 r_HB_1 r_HB_2 r_HB_3 r_MB_0 r_MB_1 r_MB_2 r_MB_3; have HLB := jn hb HLB; have HHB := jn hb HHB; have HMB := jn hb HMB; have HRR := jn hb HRR; have HBB := jn hb HBB; have HF := jh (HF.out.later hb (by omega)); have HFBB := jh (HFBB.out.later hb (by omega)); have hRd := Nat.lt_of_lt_of_le hRd hb.size; have B := jw B hb; clear hb; simp only [qx]; obtain ⟨y0, y1, y2, y3, y4, y5, y6, y7⟩ := jC HBB.out HFBB.out
   go_upto_region 16 with fail
   clear y0 y1 y2 y3 y4 y5 y6 y7; obtain ⟨w6, e9⟩ := je (((((w5.setCell ⟨BB, 0, none⟩ (.int .u64 (jf jd r2 0))).setCell ⟨BB, 1, none⟩ (.int .u64 (jf jd r2 1))).setCell ⟨BB, 2, none⟩ (.int .u64 (jf jd r2 2))).setCell ⟨BB, 3, none⟩ (.int .u64 (jf jd r2 3)))); rw [← e9]; have HLB := jh (show NumAt w6 LB lo by rw [e9]; exact NumAt.other4 HLB.out (by omega) _ _ _ _); have HHB := jh (show NumAt w6 HB hi by rw [e9]; exact NumAt.other4 HHB.out (by omega) _ _ _ _); have HMB := jh (show NumAt w6 MB m by rw [e9]; exact NumAt.other4 HMB.out (by omega) _ _ _ _); have HRR := jh (show NumAt w6 RR 0 by rw [e9]; exact NumAt.other4 HRR.out (by omega) _ _ _ _); have HBB := jh (show NumAt w6 BB r2 by rw [e9]; exact NumAt.set4 HBB.out _); have HF := jh (show FreeN w6 RR 4 by rw [e9]; exact FreeN.set4 HF.out _ _ _ _ _ _ _ _); have HFBB := jh (show FreeN w6 BB 4 by rw [e9]; exact FreeN.set4 HFBB.out _ _ _ _ _ _ _ _); have B := jh (show Below w.heap.size w w6 by rw [e9]; exact jp B.out hwBB _ _ _ _); have hRd : BB < w6.heap.size := by rw [e9]; simpa using hRd
   clear e9
   go_wp2_with fail
   go_roundw
   case rel => exact ⟨(j : Int) - 1, j, r2, jh rfl, by omega, by go_num, HR2, HLB, HHB, HMB, HRR, HBB, HF, HFBB, B, hRd⟩
   case measure => (simp [intOf] <;> omega)
  ·have hn0 : n = 0 := by have := hz.out; omega
   rw [hn0] at HR; have HR := jh (show r = topB x m 256 from by have h9 := HR.out; rwa [Nat.zero_add] at h9); clear hz hn0 hn8; obtain ⟨wo, rfl⟩ : ∃ wo : World, wo = wr := ⟨_, rfl⟩
   go_wp2_with fail
   go_loopw [13] (fun i wr => ∃ (z : Int) (n r : Nat), Hid (z = (n : Int) - 1) ∧ n ≤ 256 ∧ i = .int .i64 z ∧ Hid (r = topB x m (n)) ∧ Hid (NumAt wr LB lo) ∧ Hid (NumAt wr HB hi) ∧ Hid (NumAt wr MB m) ∧ Hid (NumAt wr RR 0) ∧ Hid (NumAt wr BB r) ∧ Hid (FreeN wr RR 4) ∧ Hid (FreeN wr BB 4) ∧ Hid (Below w.heap.size w wr) ∧ BB < wr.heap.size) (fun i _ => (intOf i + 1).toNat)
   case atStart => exact ⟨255, 256, r, jh rfl, Nat.le_refl _, rfl, HR, HLB, HHB, HMB, HRR, HBB, HF, HFBB, B, hRd⟩
   case round =>
    clear HLB HHB HMB HRR HBB HF HFBB B hRd HR; obtain ⟨z, n, r, hz, hn8, rfl, HR, HLB, HHB, HMB, HRR, HBB, HF, HFBB, B, hRd⟩ := hrel
    by_cases hlt : 0 ≤ z
    ·obtain ⟨j, rfl⟩ : ∃ j : Nat, z = (j : Int) := ⟨z.toNat, by omega⟩; have hnj : n = j + 1 := by have := hz.out; omega
     rw [hnj] at HR hn8; clear hz hnj; have hj : j < 256 := by omega
     obtain ⟨b, hb⟩ := je (x / 2 ^ (j) % 2); have hb1 : b ≤ 1 := by omega
     have hrm : r < m := by rw [HR.out]; exact topB_lt HM0.out
     have CB := jh (fun W => by have h9 := Bit_ref lo (j : Int) W (by omega) (by omega); rewrite [Zo hj, HL.out j hj, ← hb] at h9; unfold ji words at h9; exact h9); obtain ⟨r2, hr2⟩ := je ((2 * r + b) % m); have CT := jh (fun W => by have h9 := RTwice_any hrm hb1 HM9.out W; rewrite [← hr2] at h9; unfold ji words at h9; exact h9); have HR2 := jh (show r2 = x / 2 ^ (j) % m by rw [hr2, HR.out, hb]; exact top_mod x m _); clear hb hr2 hb1 hrm HR
     go_upto_region 21 with fail
     refine jv 6 (fun _ => none) (by kernel_rfl) (by kernel_rfl) (fun _ _ _ _ _ h => h) (fun F hn9 hcl hbl => ?_); have r_BB_0 := jr hbl HBB 0 (by omega); have r_BB_1 := jr hbl HBB 1 (by omega); have r_BB_2 := jr hbl HBB 2 (by omega); have r_BB_3 := jr hbl HBB 3 (by omega); have r_LB_0 := jr hbl HLB 0 (by omega); have r_LB_1 := jr hbl HLB 1 (by omega); have r_LB_2 := jr hbl HLB 2 (by omega); have r_LB_3 := jr hbl HLB 3 (by omega); have r_MB_0 := jr hbl HMB 0 (by omega); have r_MB_1 := jr hbl HMB 1 (by omega); have r_MB_2 := jr hbl HMB 2 (by omega); have r_MB_3 := jr hbl HMB 3 (by omega); have HCL := jh hcl; clear hcl hbl; refine jG 6 0 _ _ (fun _ _ _ => rfl) (by decide) ?_; simp only [List.take_succ_cons, List.take_zero, List.drop_succ_cons, List.drop_zero, Nat.reduceAdd]
     repeat (go_big_quiet_step ((first | (go_at_call 100; with_reducible exact js HCL.out (CB.out _)) | (go_at_call 133; with_reducible exact js HCL.out (CT.out _)))))
     refine wpQuiet_nil ?_; refine jI ?_; intro bs w5 hb _ _; clear r_BB_0 r_BB_1 r_BB_2 r_BB_3 r_LB_0 r_LB_1 r_LB_2 r_LB_3 r_MB_0 r_MB_1 r_MB_2 r_MB_3; have HLB := jn hb HLB; have HHB := jn hb HHB; have HMB := jn hb HMB; have HRR := jn hb HRR; have HBB := jn hb HBB; have HF := jh (HF.out.later hb (by omega)); have HFBB := jh (HFBB.out.later hb (by omega)); have hRd := Nat.lt_of_lt_of_le hRd hb.size; have B := jw B hb; clear hb; simp only [qx]; obtain ⟨y0, y1, y2, y3, y4, y5, y6, y7⟩ := jC HBB.out HFBB.out
     go_upto_region 20 with fail
     clear y0 y1 y2 y3 y4 y5 y6 y7; obtain ⟨w6, e9⟩ := je (((((w5.setCell ⟨BB, 0, none⟩ (.int .u64 (jf jd r2 0))).setCell ⟨BB, 1, none⟩ (.int .u64 (jf jd r2 1))).setCell ⟨BB, 2, none⟩ (.int .u64 (jf jd r2 2))).setCell ⟨BB, 3, none⟩ (.int .u64 (jf jd r2 3)))); rw [← e9]; have HLB := jh (show NumAt w6 LB lo by rw [e9]; exact NumAt.other4 HLB.out (by omega) _ _ _ _); have HHB := jh (show NumAt w6 HB hi by rw [e9]; exact NumAt.other4 HHB.out (by omega) _ _ _ _); have HMB := jh (show NumAt w6 MB m by rw [e9]; exact NumAt.other4 HMB.out (by omega) _ _ _ _); have HRR := jh (show NumAt w6 RR 0 by rw [e9]; exact NumAt.other4 HRR.out (by omega) _ _ _ _); have HBB := jh (show NumAt w6 BB r2 by rw [e9]; exact NumAt.set4 HBB.out _); have HF := jh (show FreeN w6 RR 4 by rw [e9]; exact FreeN.set4 HF.out _ _ _ _ _ _ _ _); have HFBB := jh (show FreeN w6 BB 4 by rw [e9]; exact FreeN.set4 HFBB.out _ _ _ _ _ _ _ _); have B := jh (show Below w.heap.size w w6 by rw [e9]; exact jp B.out hwBB _ _ _ _); have hRd : BB < w6.heap.size := by rw [e9]; simpa using hRd
     clear e9
     go_wp2_with fail
     go_roundw
     case rel => exact ⟨(j : Int) - 1, j, r2, jh rfl, by omega, by go_num, HR2, HLB, HHB, HMB, HRR, HBB, HF, HFBB, B, hRd⟩
     case measure => (simp [intOf] <;> omega)
    ·have hn0 : n = 0 := by have := hz.out; omega
     have hrq : r = q := by have h9 := HR.out; rw [hn0, topB_zero] at h9; rw [h9, HQ.out]
     rw [hrq] at HBB; clear hz HR hn0 hrq; obtain ⟨r_BB_0, r_BB_1, r_BB_2, r_BB_3⟩ := jy HBB.out; obtain ⟨c0, c1, c2, c3, f0, f1, f2, f3⟩ := jC HRR.out HF.out
     go_wp2_with fail
     have HRL := jh (NumAt.set4 HRR.out q); have B9 := jh (jp B.out hwRR (.int .u64 (jf jd q 0)) (.int .u64 (jf jd q 1)) (.int .u64 (jf jd q 2)) (.int .u64 (jf jd q 3))); obtain ⟨g0, g1, g2, g3⟩ := jy HRL.out; refine bodyPost_ret (v := .tuple #[.agg #[.int .u64 (jf jd q 0), .int .u64 (jf jd q 1), .int .u64 (jf jd q 2), .int .u64 (jf jd q 3)], .int .i64 0]) ?_ rfl ⟨rfl, B9.out⟩
     simp [results, Tryz.results104, go_sem, g0, g1, g2, g3]
theorem RWide_any {lo hi m : Nat} (hlo : lo < jj) (hhi : hi < jj) (hm : m < jj) (h0 : 0 < m) (w : World) :
  Calls Tryz.prog 104 #[ji lo, ji hi, ji m] w fun e w' => e = .returned (.tuple #[ji ((hi * jj + lo) % m), .int .i64 0]) ∧ Below w.heap.size w w' := by
 by_cases h : m < jd
 ·exact RWide_word hlo hhi hm h0 h w
 ·exact RWide_long hlo hhi hm h0 h w
theorem ROf_lit (k : Nat) (n : Int) (h : n = k) (hk : k < jd) (w : World) : Calls Tryz.prog 93 #[.int .u64 n] w fun e w' => e = .returned (ji k) ∧ Below w.heap.size w w' := by
 subst h; exact Of_ref k hk w
theorem cmp_pos {a b : Nat} : 0 < qw a b ↔ b < a := by unfold qw; split <;> (try split) <;> omega
theorem cmp_neg {a b : Nat} : qw a b < 0 ↔ a < b := by unfold qw; split <;> (try split) <;> omega
theorem Jt {a b m : Nat} (ha : a < jj) (hb9 : b < jj) (hm : m < jj) (w : World) :
  Calls Tryz.prog 95 #[ji a, ji b, ji m] w fun e w' => e = .returned (.bool (decide (1 < m ∧ a < m ∧ b < m))) ∧ Below w.heap.size w w' := by
 have C1 := jh (fun W => by have h9 := ROf_lit 1 1 rfl (by unfold jd; omega) W; unfold ji words at h9; exact h9); obtain ⟨z1, hz1⟩ := je (qw m 1); have Kz1 := jh (fun W => by have h9 := Qd hm (show 1 < jj by unfold jj; omega) W; rewrite [← hz1] at h9; unfold ji words at h9; exact h9); obtain ⟨z2, hz2⟩ := je (qw a m); have Kz2 := jh (fun W => by have h9 := Qd ha hm W; rewrite [← hz2] at h9; unfold ji words at h9; exact h9); obtain ⟨z3, hz3⟩ := je (qw b m); have Kz3 := jh (fun W => by have h9 := Qd hb9 hm W; rewrite [← hz3] at h9; unfold ji words at h9; exact h9); obtain ⟨D, hD⟩ := je (decide (1 < m ∧ a < m ∧ b < m)); rw [← hD]
 have h3 : (¬ 0 < z1 ∧ D = false) ∨ (0 < z1 ∧ ¬ z2 < 0 ∧ D = false) ∨ (0 < z1 ∧ z2 < 0 ∧ ¬ z3 < 0 ∧ D = false) ∨ (0 < z1 ∧ z2 < 0 ∧ z3 < 0 ∧ D = true) := by
  rw [hz1, hz2, hz3, hD, cmp_pos, cmp_neg, cmp_neg]
  by_cases h1 : 1 < m <;> by_cases h2 : a < m <;> by_cases h3 : b < m <;> simp [h1, h2, h3]
 clear hz1 hz2 hz3 hD ha hb9 hm; unfold ji words
 go_enter Tryz.func95, Tryz.ntmps95
 go_upto_region 1 with fail
 obtain ⟨w_0, e_0⟩ := je (w.alloc (.cells #[.int .u64 (jf jd a 0), .int .u64 (jf jd a 1), .int .u64 (jf jd a 2), .int .u64 (jf jd a 3)] 24)); have s_0 : w_0.heap.size = w.heap.size + 1 := by rw [e_0]; simp
 have b_0 := jc e_0; have n_0 : NumAt w_0 (w.heap.size) a := by rw [e_0]; exact NumAt.new w a _ _ rfl
 obtain ⟨w_1, e_1⟩ := je (w_0.alloc (.cells #[.int .u64 (jf jd b 0), .int .u64 (jf jd b 1), .int .u64 (jf jd b 2), .int .u64 (jf jd b 3)] 24)); have s_1 : w_1.heap.size = w.heap.size + 1 + 1 := by rw [e_1]; simp [s_0]
 have b_1 := jc e_1; have n_1 : NumAt w_1 (w.heap.size + 1) b := by rw [e_1]; exact NumAt.new w_0 b _ _ s_0.symm
 obtain ⟨wz, e_2⟩ := je (w_1.alloc (.cells #[.int .u64 (jf jd m 0), .int .u64 (jf jd m 1), .int .u64 (jf jd m 2), .int .u64 (jf jd m 3)] 24)); have s_2 : wz.heap.size = w.heap.size + 1 + 1 + 1 := by rw [e_2]; simp [s_1]
 have b_2 := jc e_2; have n_2 : NumAt wz (w.heap.size + 1 + 1) m := by rw [e_2]; exact NumAt.new w_1 m _ _ s_1.symm
 rw [← e_0, ← e_1, ← e_2]; obtain ⟨AA, h_0⟩ := je (w.heap.size); obtain ⟨BB, h_1⟩ := je (AA + 1); obtain ⟨MM, h_2⟩ := je (BB + 1); have hwL : w.heap.size ≤ AA := by omega
 have hRd : MM < wz.heap.size := by omega
 rw [← h_0] at n_0 n_1 n_2 ⊢; rw [← h_1] at n_1 n_2 ⊢; rw [← h_2] at n_2 ⊢; have l_1 : AA < BB := by omega
 have l_2 : BB < MM := by omega
 have HAA := jh (NumAt.later b_2 (NumAt.later b_1 n_0)); have HBB := jh (NumAt.later b_2 n_1); have HMM := jh n_2; have B := jh ((b_0.trans (b_1.mono (by omega))).trans (b_2.mono (by omega))); have hwMM : w.heap.size ≤ MM := by omega
 have HSZ := jh (show wz.heap.size = MM + 1 by omega); clear e_0 s_0 b_0 n_0 h_0 e_1 s_1 b_1 n_1 h_1 e_2 s_2 b_2 n_2 h_2
 rcases h3 with ⟨h1, rfl⟩ | ⟨h1, h2, rfl⟩ | ⟨h1, h2, h3, rfl⟩ | ⟨h1, h2, h3, rfl⟩
 ·skip
  refine jv 16 (fun _ => none) (by kernel_rfl) (by kernel_rfl) (fun _ _ _ _ _ h => h) (fun F hn9 hcl hbl => ?_); have r_AA_0 := jr hbl HAA 0 (by omega); have r_AA_1 := jr hbl HAA 1 (by omega); have r_AA_2 := jr hbl HAA 2 (by omega); have r_AA_3 := jr hbl HAA 3 (by omega); have r_BB_0 := jr hbl HBB 0 (by omega); have r_BB_1 := jr hbl HBB 1 (by omega); have r_BB_2 := jr hbl HBB 2 (by omega); have r_BB_3 := jr hbl HBB 3 (by omega); have r_MM_0 := jr hbl HMM 0 (by omega); have r_MM_1 := jr hbl HMM 1 (by omega); have r_MM_2 := jr hbl HMM 2 (by omega); have r_MM_3 := jr hbl HMM 3 (by omega); have HCL := jh hcl; clear hcl hbl; refine jG 16 0 _ _ (fun _ _ _ => rfl) (by decide) ?_; simp only [List.take_succ_cons, List.take_zero, List.drop_succ_cons, List.drop_zero, Nat.reduceAdd]
  repeat (go_big_quiet_step ((first | (go_at_call 93; with_reducible exact js HCL.out (C1.out _)) | (go_at_call 64; with_reducible exact js HCL.out (Kz1.out _)))))
  refine wpQuiet_nil ?_; refine jI ?_; intro bs w2 hb _ _; clear r_AA_0 r_AA_1 r_AA_2 r_AA_3 r_BB_0 r_BB_1 r_BB_2 r_BB_3 r_MM_0 r_MM_1 r_MM_2 r_MM_3; have HAA := jn hb HAA; have HBB := jn hb HBB; have HMM := jn hb HMM; have hRd := Nat.lt_of_lt_of_le hRd hb.size; have B := jw B hb; clear hb; simp only [qx]
  go_wp2_with fail
  refine bodyPost_ret (v := .bool false) ?_ rfl ⟨rfl, B.out⟩
  simp [results, Tryz.results95, go_sem]
 ·skip
  refine jv 16 (fun _ => none) (by kernel_rfl) (by kernel_rfl) (fun _ _ _ _ _ h => h) (fun F hn9 hcl hbl => ?_); have r_AA_0 := jr hbl HAA 0 (by omega); have r_AA_1 := jr hbl HAA 1 (by omega); have r_AA_2 := jr hbl HAA 2 (by omega); have r_AA_3 := jr hbl HAA 3 (by omega); have r_BB_0 := jr hbl HBB 0 (by omega); have r_BB_1 := jr hbl HBB 1 (by omega); have r_BB_2 := jr hbl HBB 2 (by omega); have r_BB_3 := jr hbl HBB 3 (by omega); have r_MM_0 := jr hbl HMM 0 (by omega); have r_MM_1 := jr hbl HMM 1 (by omega); have r_MM_2 := jr hbl HMM 2 (by omega); have r_MM_3 := jr hbl HMM 3 (by omega); have HCL := jh hcl; clear hcl hbl; refine jG 16 0 _ _ (fun _ _ _ => rfl) (by decide) ?_; simp only [List.take_succ_cons, List.take_zero, List.drop_succ_cons, List.drop_zero, Nat.reduceAdd]
  repeat (go_big_quiet_step ((first | (go_at_call 93; with_reducible exact js HCL.out (C1.out _)) | (go_at_call 64; with_reducible exact js HCL.out (Kz1.out _)) | (go_at_call 64; with_reducible exact js HCL.out (Kz2.out _)))))
  refine wpQuiet_nil ?_; refine jI ?_; intro bs w2 hb _ _; clear r_AA_0 r_AA_1 r_AA_2 r_AA_3 r_BB_0 r_BB_1 r_BB_2 r_BB_3 r_MM_0 r_MM_1 r_MM_2 r_MM_3; have HAA := jn hb HAA; have HBB := jn hb HBB; have HMM := jn hb HMM; have hRd := Nat.lt_of_lt_of_le hRd hb.size; have B := jw B hb; clear hb; simp only [qx]
  go_wp2_with fail
  refine bodyPost_ret (v := .bool false) ?_ rfl ⟨rfl, B.out⟩
  simp [results, Tryz.results95, go_sem] <;> omega
 ·skip
  refine jv 16 (fun _ => none) (by kernel_rfl) (by kernel_rfl) (fun _ _ _ _ _ h => h) (fun F hn9 hcl hbl => ?_); have r_AA_0 := jr hbl HAA 0 (by omega); have r_AA_1 := jr hbl HAA 1 (by omega); have r_AA_2 := jr hbl HAA 2 (by omega); have r_AA_3 := jr hbl HAA 3 (by omega); have r_BB_0 := jr hbl HBB 0 (by omega); have r_BB_1 := jr hbl HBB 1 (by omega); have r_BB_2 := jr hbl HBB 2 (by omega); have r_BB_3 := jr hbl HBB 3 (by omega); have r_MM_0 := jr hbl HMM 0 (by omega); have r_MM_1 := jr hbl HMM 1 (by omega); have r_MM_2 := jr hbl HMM 2 (by omega); have r_MM_3 := jr hbl HMM 3 (by omega); have HCL := jh hcl; clear hcl hbl; refine jG 16 0 _ _ (fun _ _ _ => rfl) (by decide) ?_; simp only [List.take_succ_cons, List.take_zero, List.drop_succ_cons, List.drop_zero, Nat.reduceAdd]
  repeat (go_big_quiet_step ((first | (go_at_call 93; with_reducible exact js HCL.out (C1.out _)) | (go_at_call 64; with_reducible exact js HCL.out (Kz1.out _)) | (go_at_call 64; with_reducible exact js HCL.out (Kz2.out _)) | (go_at_call 64; with_reducible exact js HCL.out (Kz3.out _)))))
  refine wpQuiet_nil ?_; refine jI ?_; intro bs w2 hb _ _; clear r_AA_0 r_AA_1 r_AA_2 r_AA_3 r_BB_0 r_BB_1 r_BB_2 r_BB_3 r_MM_0 r_MM_1 r_MM_2 r_MM_3; have HAA := jn hb HAA; have HBB := jn hb HBB; have HMM := jn hb HMM; have hRd := Nat.lt_of_lt_of_le hRd hb.size; have B := jw B hb; clear hb; simp only [qx]
  go_wp2_with fail
  refine bodyPost_ret (v := .bool false) ?_ rfl ⟨rfl, B.out⟩
  simp [results, Tryz.results95, go_sem] <;> omega
 ·skip
  refine jv 16 (fun _ => none) (by kernel_rfl) (by kernel_rfl) (fun _ _ _ _ _ h => h) (fun F hn9 hcl hbl => ?_); have r_AA_0 := jr hbl HAA 0 (by omega); have r_AA_1 := jr hbl HAA 1 (by omega); have r_AA_2 := jr hbl HAA 2 (by omega); have r_AA_3 := jr hbl HAA 3 (by omega); have r_BB_0 := jr hbl HBB 0 (by omega); have r_BB_1 := jr hbl HBB 1 (by omega); have r_BB_2 := jr hbl HBB 2 (by omega); have r_BB_3 := jr hbl HBB 3 (by omega); have r_MM_0 := jr hbl HMM 0 (by omega); have r_MM_1 := jr hbl HMM 1 (by omega); have r_MM_2 := jr hbl HMM 2 (by omega); have r_MM_3 := jr hbl HMM 3 (by omega); have HCL := jh hcl; clear hcl hbl; refine jG 16 0 _ _ (fun _ _ _ => rfl) (by decide) ?_; simp only [List.take_succ_cons, List.take_zero, List.drop_succ_cons, List.drop_zero, Nat.reduceAdd]
  repeat (go_big_quiet_step ((first | (go_at_call 93; with_reducible exact js HCL.out (C1.out _)) | (go_at_call 64; with_reducible exact js HCL.out (Kz1.out _)) | (go_at_call 64; with_reducible exact js HCL.out (Kz2.out _)) | (go_at_call 64; with_reducible exact js HCL.out (Kz3.out _)))))
  refine wpQuiet_nil ?_; refine jI ?_; intro bs w2 hb _ _; clear r_AA_0 r_AA_1 r_AA_2 r_AA_3 r_BB_0 r_BB_1 r_BB_2 r_BB_3 r_MM_0 r_MM_1 r_MM_2 r_MM_3; have HAA := jn hb HAA; have HBB := jn hb HBB; have HMM := jn hb HMM; have hRd := Nat.lt_of_lt_of_le hRd hb.size; have B := jw B hb; clear hb; simp only [qx]
  go_wp2_with fail
  refine bodyPost_ret (v := .bool true) ?_ rfl ⟨rfl, B.out⟩
  simp [results, Tryz.results95, go_sem]
end Go.Proofs.YtcaeaejefdhloaaGreat
