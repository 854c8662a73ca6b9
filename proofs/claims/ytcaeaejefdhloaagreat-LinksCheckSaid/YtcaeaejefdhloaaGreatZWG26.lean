/- Layer 3 (divides) -/
import Derived.Test.YtcaeaejefdhloaaGreatZWG25
import Derived.Test.YtcaeaejefdhloaaGreatZWG12
set_option linter.unusedSimpArgs false
set_option linter.unusedVariables false
set_option maxHeartbeats 8000000
set_option maxRecDepth 100000
namespace Go.Proofs.YtcaeaejefdhloaaGreat
open Go.ChangeShapes Go.WideShapes Go.ChangeAt Go.RowKit
theorem qo (j : Nat) : jf jd 0 j = 0 := by unfold jf; simp
theorem eq_zero (m : Nat) (hm : m < jj) (w : World) : (binOp .eql 24 (.agg #[.int .u64 (jf jd m 0), .int .u64 (jf jd m 1), .int .u64 (jf jd m 2), .int .u64 (jf jd m 3)]) (.agg #[.int .u64 0, .int .u64 0, .int .u64 0, .int .u64 0])).run Tryz.prog w = .ok (.bool (decide (m = 0))) w := by
 have h := zV m 0 hm qB w; simp only [qo] at h; exact h
theorem jz (w : World) (t : TypeId) : NumAt (w.alloc (.cells #[.int .u64 0, .int .u64 0, .int .u64 0, .int .u64 0] t)) w.heap.size 0 := fun j hj => by
 rw [qo]; have : j = 0 ∨ j = 1 ∨ j = 2 ∨ j = 3 := by omega
 rcases this with rfl | rfl | rfl | rfl <;> simp
theorem idx0 (a0 a1 a2 a3 a4 a5 a6 a7 : Value) (w : World) : (Instr.index 144 (.agg #[a0, a1, a2, a3, a4, a5, a6, a7]) (.int .i64 0)).run Tryz.prog w = .ok (.agg #[a0, a1, a2, a3]) w := by kernel_rfl
theorem idx1 (a0 a1 a2 a3 a4 a5 a6 a7 : Value) (w : World) : (Instr.index 144 (.agg #[a0, a1, a2, a3, a4, a5, a6, a7]) (.int .i64 1)).run Tryz.prog w = .ok (.agg #[a4, a5, a6, a7]) w := by kernel_rfl
theorem bit_step {P A k m r : Nat} (hk : k < 256) (hr : r = (P * 2 ^ k + A / 2 ^ (256 - k)) % m) (hm : 0 < m) : JN r (zW A ((255 - k : Nat) : Int)) m = (P * 2 ^ (k + 1) + A / 2 ^ (256 - (k + 1))) % m := by
 have hb : zW A ((255 - k : Nat) : Int) = A / 2 ^ (255 - k) % 2 := by
  unfold zW; rw [if_neg (by omega), Int.toNat_natCast]
 have hr9 : r < m := by rw [hr]; exact Nat.mod_lt _ hm
 rw [nextR_eq hr9 (by rw [hb]; omega), hb, hr]; obtain ⟨i, hi⟩ := je (255 - k); rw [← hi, show 256 - k = i + 1 by omega, show 256 - (k + 1) = i by omega]; have e1 : A / 2 ^ (i + 1) = A / 2 ^ i / 2 := by rw [Nat.pow_succ, Nat.div_div_eq_div_mul]
 have e2 : P * 2 ^ (k + 1) = 2 * (P * 2 ^ k) := by rw [Nat.pow_succ]; rw [← Nat.mul_assoc, Nat.mul_comm]
 rw [e1, e2]; obtain ⟨x, hx⟩ := je (P * 2 ^ k); obtain ⟨y, hy⟩ := je (A / 2 ^ i); rw [← hx, ← hy]; have h2 : 2 * x + y = 2 * (x + y / 2) + y % 2 := by omega
 rw [h2, Nat.add_mod, Nat.mul_mod, Nat.mod_mod, ← Nat.mul_mod, ← Nat.add_mod]
theorem start_step {P A m : Nat} (hA : A < jj) (hP : P < m) : P = (P * 2 ^ 0 + A / 2 ^ (256 - 0)) % m := by
 rw [show A / 2 ^ (256 - 0) = 0 from Nat.div_eq_of_lt (by rw [← M256_eq]; exact hA), Nat.pow_zero, Nat.mul_one, Nat.add_zero, Nat.mod_eq_of_lt hP]
theorem end_step {P A m r : Nat} (h : r = (P * 2 ^ 256 + A / 2 ^ (256 - 256)) % m) : r = (P * jj + A) % m := by
 rw [h, ← M256_eq, Nat.sub_self, Nat.pow_zero, Nat.div_one]
theorem last_step {hi lo m r P Q : Nat} (h2 : r = (P * jj + lo) % m) (h1 : P = (0 * jj + hi) % m) (hQ : Q = (hi * jj + lo) % m) : r = Q := by
 rw [h2, h1, hQ, Nat.zero_mul, Nat.zero_add, Nat.add_mod, Nat.mul_mod, Nat.mod_mod, ← Nat.mul_mod, ← Nat.add_mod]
theorem bitN_le (a : Nat) (i : Int) : zW a i ≤ 1 := by
 unfold zW
 split
 ·omega
 ·omega
theorem wide_long {lo hi m : Nat} (hlo : lo < jj) (hhi : hi < jj) (hm : m < jj) (hml : jd ≤ m) (w : World) : Calls Tryz.prog 86 #[ji lo, ji hi, ji m] w fun e w' => e = .returned (.tuple #[ji ((hi * jj + lo) % m), .int .i64 0]) ∧ Below w.heap.size w w' := by
 have i0 := idx0; have i1 := idx1; have hm0 : 0 < m := by unfold jd at hml; omega
 have HLO := jh hlo; have HHI := jh hhi; have HMM := jh hm; have HM0 := jh hm0; have hz := fun w => eq_zero m hm w
 rw [decide_eq_false (show ¬ m = 0 by omega)] at hz; have CS := jh (fun w => by have h := short_any hm w; rw [decide_eq_false (show ¬ m < jd by omega)] at h; exact h); obtain ⟨Q9, hQ9⟩ := je ((hi * jj + lo) % m); rw [← hQ9]; have HQ9 := jh hQ9; clear hQ9 hlo hhi hm hml hm0; unfold ji words at *
 go_enter Tryz.func86, Tryz.ntmps86
 go_wp2_with fail
 obtain ⟨wa, ea⟩ := je (w.alloc (.cells #[.int .u64 (jf jd lo 0), .int .u64 (jf jd lo 1), .int .u64 (jf jd lo 2), .int .u64 (jf jd lo 3)] 24)); obtain ⟨wb, eb⟩ := je (wa.alloc (.cells #[.int .u64 (jf jd hi 0), .int .u64 (jf jd hi 1), .int .u64 (jf jd hi 2), .int .u64 (jf jd hi 3)] 24)); obtain ⟨wc, ec⟩ := je (wb.alloc (.cells #[.int .u64 (jf jd m 0), .int .u64 (jf jd m 1), .int .u64 (jf jd m 2), .int .u64 (jf jd m 3)] 24)); obtain ⟨wd, ed⟩ := je (wc.alloc (.cells #[.int .u64 0, .int .u64 0, .int .u64 0, .int .u64 0] 24)); have sa : wa.heap.size = w.heap.size + 1 := by rw [ea]; simp
 have sb : wb.heap.size = w.heap.size + 1 + 1 := by rw [eb]; simp [sa]
 have sc : wc.heap.size = w.heap.size + 1 + 1 + 1 := by rw [ec]; simp [sb]
 have sd : wd.heap.size = w.heap.size + 1 + 1 + 1 + 1 := by rw [ed]; simp [sc]
 have ba := jc ea; have bb := jc eb; have bc := jc ec; have bd := jc ed; have na : NumAt wa w.heap.size lo := by rw [ea]; exact NumAt.new w lo _ _ rfl
 have nb : NumAt wb (w.heap.size + 1) hi := by rw [eb]; exact NumAt.new wa hi _ _ sa.symm
 have nc : NumAt wc (w.heap.size + 1 + 1) m := by rw [ec]; exact NumAt.new wb m _ _ sb.symm
 have nd : NumAt wd (w.heap.size + 1 + 1 + 1) 0 := by rw [ed, ← sc]; exact jz wc _
 have fd : FreeN wd (w.heap.size + 1 + 1 + 1) 4 := by rw [ed]; exact FreeN.made wc _ _ 4 _ sc.symm
 rw [← ea, ← eb, ← ec, ← ed]; obtain ⟨LL, hL⟩ := je (w.heap.size); obtain ⟨HH, hH⟩ := je (LL + 1); obtain ⟨MM, hM⟩ := je (HH + 1); obtain ⟨RR, hR⟩ := je (MM + 1); have hwL : w.heap.size ≤ LL := by omega
 have hRd : RR < wd.heap.size := by omega
 rw [← hL] at na nb nc nd fd ⊢; rw [← hH] at nb nc nd fd ⊢; rw [← hM] at nc nd fd ⊢; rw [← hR] at nd fd ⊢; have hLH : LL < HH := by omega
 have hHM : HH < MM := by omega
 have hMR : MM < RR := by omega
 have HA := jh (NumAt.later bd (NumAt.later bc (NumAt.later bb na))); have HB := jh (NumAt.later bd (NumAt.later bc nb)); have HC := jh (NumAt.later bd nc); have HR := jh nd; have HF := jh fd; have B := jh (((ba.trans (bb.mono (by omega))).trans (bc.mono (by omega))).trans (bd.mono (by omega))); clear ea eb ec ed sa sb sc sd ba bb bc bd na nb nc nd fd hL hH hM hR; refine (CS.out wd).mono ?_; rintro _ w2 ⟨rfl, hb⟩; have hR2 : RR < w2.heap.size := Nat.lt_of_lt_of_le hRd hb.size; have HF := jh (HF.out.later hb hRd); have HA := jn hb HA; have HB := jn hb HB; have HC := jn hb HC; have HR := jn hb HR; have B := jw B hb; clear hb hRd; obtain ⟨a0, a1, a2, a3⟩ := jy HA.out; obtain ⟨b0, b1, b2, b3⟩ := jy HB.out
 go_wp2_with fail
 refine wp_loop_rounds 3 ?_; rw [rounds_succ]
 skip
 go_wp2_with fail
 have hwR : w.heap.size ≤ RR := by omega
 obtain ⟨wx, ex⟩ := je (w2.alloc (.cells #[.int .u64 (jf jd hi 0), .int .u64 (jf jd hi 1), .int .u64 (jf jd hi 2), .int .u64 (jf jd hi 3)] 24)); have hb := jc ex; obtain ⟨AA, hAA⟩ := je (w2.heap.size); have HN := jh (show NumAt wx AA hi by rw [ex]; exact NumAt.new w2 hi _ _ hAA); have hRA : RR ≠ AA := by omega
 have hMA : MM ≠ RR := by omega
 have hAR : AA ≠ RR := by omega
 have HAlt := jh (show AA < wx.heap.size by rw [ex, hAA]; simp); have hR3 : RR < wx.heap.size := Nat.lt_of_lt_of_le hR2 hb.size; rw [← ex, ← hAA]; have HF := jh (HF.out.later hb hR2); have HC := jn hb HC; have HR := jn hb HR; have B := jw B hb; clear hb ex hAA
 go_loopw [47] (fun i wr => ∃ k r : Nat, k ≤ 256 ∧ i = .int .i64 k ∧ r < m ∧ Hid (r = (0 * 2 ^ k + hi / 2 ^ (256 - k)) % m) ∧ Hid (NumAt wr RR r) ∧ Hid (FreeN wr RR 4) ∧ Hid (NumAt wr AA hi) ∧ Hid (NumAt wr MM m) ∧ Hid (Below w.heap.size w wr) ∧ RR < wr.heap.size) (fun i _ => 256 - (intOf i).toNat)
 case atStart => exact ⟨0, 0, by omega, rfl, HM0.out, jh (start_step HHI.out HM0.out), HR, HF, HN, HC, B, hR3⟩
 case round =>
  obtain ⟨k, r, hk, rfl, hrm, HK, HR, HF, HN, HC, B, hRlt⟩ := hrel
  by_cases hlt : k < 256
  ·have hltI : (k : Int) < 256 := by omega
   obtain ⟨j, hj⟩ := je (255 - k); have e255 : (255 : Int) - (k : Int) = (j : Int) := by omega
   obtain ⟨b, hb⟩ := je (zW hi ((255 - k : Nat) : Int)); have hb1 : b ≤ 1 := by rw [hb]; exact bitN_le _ _
   obtain ⟨r2, hr2⟩ := je (JN r b m); obtain ⟨fl, hfl⟩ := je (Ze r b m); have CB := jh (fun w => by have h := bit_any (a := hi) (j : Int) w (by omega) (by omega); rw [hj, ← hb, ← hj] at h; unfold ji words at h; exact h); have CN := jh (fun w => by have h := next_any hrm hb1 HMM.out w; rw [← hr2, ← hfl] at h; unfold ji words at h; exact h); have hr2m : r2 < m := by rw [hr2]; exact nextR_lt hrm hb1
   have HK2 := jh (show r2 = (0 * 2 ^ (k + 1) + hi / 2 ^ (256 - (k + 1))) % m by rw [hr2, hb]; exact bit_step hlt HK.out HM0.out); clear hj hb hr2 hfl
   go_wp2_with fail
   refine jv 10 (fun _ => none) (by kernel_rfl) (by kernel_rfl) (fun _ _ _ _ _ h => h) (fun F hn9 hcl hbl => ?_); have r_R_0 := jr hbl HR 0 (by omega); have r_R_1 := jr hbl HR 1 (by omega); have r_R_2 := jr hbl HR 2 (by omega); have r_R_3 := jr hbl HR 3 (by omega); have r_A_0 := jr hbl HN 0 (by omega); have r_A_1 := jr hbl HN 1 (by omega); have r_A_2 := jr hbl HN 2 (by omega); have r_A_3 := jr hbl HN 3 (by omega); have r_M_0 := jr hbl HC 0 (by omega); have r_M_1 := jr hbl HC 1 (by omega); have r_M_2 := jr hbl HC 2 (by omega); have r_M_3 := jr hbl HC 3 (by omega); have HCL := jh hcl; clear hcl hbl; refine jG 10 0 _ _ (fun _ _ _ => rfl) (by decide) ?_; simp only [List.take_succ_cons, List.take_zero, List.drop_succ_cons, List.drop_zero, Nat.reduceAdd]
   repeat (go_big_quiet_step ((first | (go_at_call 126; exact js HCL.out (CB.out _)) | (go_at_call 125; exact js HCL.out (CN.out _)))))
   refine wpQuiet_nil ?_; refine jI ?_; intro bs w5 hb5 _ _; clear r_R_0 r_R_1 r_R_2 r_R_3 r_A_0 r_A_1 r_A_2 r_A_3 r_M_0 r_M_1 r_M_2 r_M_3; have HR5 := jn hb5 HR; have HF5 := jh (HF.out.later hb5 hRlt); have HN5 := jn hb5 HN; have HC5 := jn hb5 HC; have B5 := jw B hb5; have hRlt5 : RR < w5.heap.size := Nat.lt_of_lt_of_le hRlt hb5.size; clear hb5; simp only [qx]; obtain ⟨c0, c1, c2, c3, f0, f1, f2, f3⟩ := jC HR5.out HF5.out
   go_wp2_with fail
   go_roundw
   case rel => exact ⟨k + 1, r2, by omega, by go_num, hr2m, HK2, jh (NumAt.set4 HR5.out r2), jh (FreeN.set4 HF5.out _ _ _ _ _ _ _ _), jh (NumAt.other4 HN5.out hAR _ _ _ _), jh (NumAt.other4 HC5.out hMA _ _ _ _), jh (jp B5.out hwR _ _ _ _), by simpa using hRlt5⟩
   case measure => simp [intOf]; omega
  ·obtain rfl : k = 256 := by omega
   have hltI : ¬ (((256 : Nat) : Int) < 256) := by omega
   have HE := jh (end_step HK.out); have hPm := hrm; obtain ⟨P9, hP9⟩ := je (r); rw [← hP9] at HE HR hPm; have HEx := HE; clear hP9 HK; have hR2 := hRlt
   go_wp2_with fail
   rw [rounds_succ]
   go_wp2_with fail
   obtain ⟨wy, ey⟩ := je (wr.alloc (.cells #[.int .u64 (jf jd lo 0), .int .u64 (jf jd lo 1), .int .u64 (jf jd lo 2), .int .u64 (jf jd lo 3)] 24)); have hb := jc ey; obtain ⟨AA, hAA⟩ := je (wr.heap.size); have HN := jh (show NumAt wy AA lo by rw [ey]; exact NumAt.new wr lo _ _ hAA); have hRA : RR ≠ AA := by omega
   have hMA : MM ≠ RR := by omega
   have hAR : AA ≠ RR := by omega
   have HAlt := jh (show AA < wy.heap.size by rw [ey, hAA]; simp); have hR3 : RR < wy.heap.size := Nat.lt_of_lt_of_le hR2 hb.size; rw [← ey, ← hAA]; have HF := jh (HF.out.later hb hR2); have HC := jn hb HC; have HR := jn hb HR; have B := jw B hb; clear hb ey hAA
   go_loopw [47] (fun i wr => ∃ k r : Nat, k ≤ 256 ∧ i = .int .i64 k ∧ r < m ∧ Hid (r = (P9 * 2 ^ k + lo / 2 ^ (256 - k)) % m) ∧ Hid (NumAt wr RR r) ∧ Hid (FreeN wr RR 4) ∧ Hid (NumAt wr AA lo) ∧ Hid (NumAt wr MM m) ∧ Hid (Below w.heap.size w wr) ∧ RR < wr.heap.size) (fun i _ => 256 - (intOf i).toNat)
   case atStart => exact ⟨0, P9, by omega, rfl, hPm, jh (start_step HLO.out hPm), HR, HF, HN, HC, B, hR3⟩
   case round =>
    obtain ⟨k, r, hk, rfl, hrm, HK, HR, HF, HN, HC, B, hRlt⟩ := hrel
    by_cases hlt : k < 256
    ·have hltI : (k : Int) < 256 := by omega
     obtain ⟨j, hj⟩ := je (255 - k); have e255 : (255 : Int) - (k : Int) = (j : Int) := by omega
     obtain ⟨b, hb⟩ := je (zW lo ((255 - k : Nat) : Int)); have hb1 : b ≤ 1 := by rw [hb]; exact bitN_le _ _
     obtain ⟨r2, hr2⟩ := je (JN r b m); obtain ⟨fl, hfl⟩ := je (Ze r b m); have CB := jh (fun w => by have h := bit_any (a := lo) (j : Int) w (by omega) (by omega); rw [hj, ← hb, ← hj] at h; unfold ji words at h; exact h); have CN := jh (fun w => by have h := next_any hrm hb1 HMM.out w; rw [← hr2, ← hfl] at h; unfold ji words at h; exact h); have hr2m : r2 < m := by rw [hr2]; exact nextR_lt hrm hb1
     have HK2 := jh (show r2 = (P9 * 2 ^ (k + 1) + lo / 2 ^ (256 - (k + 1))) % m by rw [hr2, hb]; exact bit_step hlt HK.out HM0.out); clear hj hb hr2 hfl
     go_wp2_with fail
     refine jv 10 (fun _ => none) (by kernel_rfl) (by kernel_rfl) (fun _ _ _ _ _ h => h) (fun F hn9 hcl hbl => ?_); have r_R_0 := jr hbl HR 0 (by omega); have r_R_1 := jr hbl HR 1 (by omega); have r_R_2 := jr hbl HR 2 (by omega); have r_R_3 := jr hbl HR 3 (by omega); have r_A_0 := jr hbl HN 0 (by omega); have r_A_1 := jr hbl HN 1 (by omega); have r_A_2 := jr hbl HN 2 (by omega); have r_A_3 := jr hbl HN 3 (by omega); have r_M_0 := jr hbl HC 0 (by omega); have r_M_1 := jr hbl HC 1 (by omega); have r_M_2 := jr hbl HC 2 (by omega); have r_M_3 := jr hbl HC 3 (by omega); have HCL := jh hcl; clear hcl hbl; refine jG 10 0 _ _ (fun _ _ _ => rfl) (by decide) ?_; simp only [List.take_succ_cons, List.take_zero, List.drop_succ_cons, List.drop_zero, Nat.reduceAdd]
     repeat (go_big_quiet_step ((first | (go_at_call 126; exact js HCL.out (CB.out _)) | (go_at_call 125; exact js HCL.out (CN.out _)))))
     refine wpQuiet_nil ?_; refine jI ?_; intro bs w5 hb5 _ _; clear r_R_0 r_R_1 r_R_2 r_R_3 r_A_0 r_A_1 r_A_2 r_A_3 r_M_0 r_M_1 r_M_2 r_M_3; have HR5 := jn hb5 HR; have HF5 := jh (HF.out.later hb5 hRlt); have HN5 := jn hb5 HN; have HC5 := jn hb5 HC; have B5 := jw B hb5; have hRlt5 : RR < w5.heap.size := Nat.lt_of_lt_of_le hRlt hb5.size; clear hb5; simp only [qx]; obtain ⟨c0, c1, c2, c3, f0, f1, f2, f3⟩ := jC HR5.out HF5.out
     go_wp2_with fail
     go_roundw
     case rel => exact ⟨k + 1, r2, by omega, by go_num, hr2m, HK2, jh (NumAt.set4 HR5.out r2), jh (FreeN.set4 HF5.out _ _ _ _ _ _ _ _), jh (NumAt.other4 HN5.out hAR _ _ _ _), jh (NumAt.other4 HC5.out hMA _ _ _ _), jh (jp B5.out hwR _ _ _ _), by simpa using hRlt5⟩
     case measure => simp [intOf]; omega
    ·obtain rfl : k = 256 := by omega
     have hltI : ¬ (((256 : Nat) : Int) < 256) := by omega
     have HE := jh (end_step HK.out); obtain ⟨c0, c1, c2, c3, f0, f1, f2, f3⟩ := jC HR.out HF.out; have HQ := jh (last_step HE.out HEx.out HQ9.out)
     go_wp2_with fail
     rw [rounds_succ]
     go_wp2_with fail
     have HRL := jh (NumAt.set4 HR.out r); have B9 := jh (jp B.out hwR (.int .u64 (jf jd r 0)) (.int .u64 (jf jd r 1)) (.int .u64 (jf jd r 2)) (.int .u64 (jf jd r 3))); obtain ⟨g0, g1, g2, g3⟩ := jy HRL.out; rw [HQ.out] at g0 g1 g2 g3 B9 ⊢; refine bodyPost_ret (v := .tuple #[.agg #[.int .u64 (jf jd Q9 0), .int .u64 (jf jd Q9 1), .int .u64 (jf jd Q9 2), .int .u64 (jf jd Q9 3)], .int .i64 0]) ?_ rfl ⟨rfl, B9.out⟩
     simp [results, Tryz.results86, go_sem, g0, g1, g2, g3]
end Go.Proofs.YtcaeaejefdhloaaGreat
