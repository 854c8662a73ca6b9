/- Layer 3 (divides) -/
import Derived.Test.YtmijablfjigbhaaGreatDoorSZVG26
import Derived.Test.YtmijablfjigbhaaGreatDoorSZVG12
set_option linter.unusedSimpArgs false
set_option linter.unusedVariables false
set_option maxHeartbeats 8000000
set_option maxRecDepth 100000
namespace Go.Proofs.YtmijablfjigbhaaGreatDoor
open Go.ChangeShapes Go.WideShapes Go.ChangeAt Go.RowKit
theorem GN (m : Nat) (hm : m < jo) (w : World) : (binOp .eql 24 (.agg #[.int .u64 (jf jd m 0), .int .u64 (jf jd m 1), .int .u64 (jf jd m 2), .int .u64 (jf jd m 3)]) (.agg #[.int .u64 0, .int .u64 0, .int .u64 0, .int .u64 0])).run Tryz.prog w = .ok (.bool (decide (m = 0))) w := by
 have h := zp m 0 hm qN w; simp only [jI] at h; exact h
theorem jP (w : World) (t : TypeId) : U0 (w.alloc (.cells #[.int .u64 0, .int .u64 0, .int .u64 0, .int .u64 0] t)) w.heap.size 0 := fun j hj => by
 rw [jI]; have : j = 0 ∨ j = 1 ∨ j = 2 ∨ j = 3 := by omega
 rcases this with rfl | rfl | rfl | rfl <;> simp
theorem idx0 (a0 a1 a2 a3 a4 a5 a6 a7 : Value) (w : World) : (Instr.index 237 (.agg #[a0, a1, a2, a3, a4, a5, a6, a7]) (.int .i64 0)).run Tryz.prog w = .ok (.agg #[a0, a1, a2, a3]) w := by kernel_rfl
theorem idx1 (a0 a1 a2 a3 a4 a5 a6 a7 : Value) (w : World) : (Instr.index 237 (.agg #[a0, a1, a2, a3, a4, a5, a6, a7]) (.int .i64 1)).run Tryz.prog w = .ok (.agg #[a4, a5, a6, a7]) w := by kernel_rfl
theorem BQ {P A k m r : Nat} (hk : k < 256) (hr : r = (P * 2 ^ k + A / 2 ^ (256 - k)) % m) (hm : 0 < m) : Qo r (Ju A ((255 - k : Nat) : Int)) m = (P * 2 ^ (k + 1) + A / 2 ^ (256 - (k + 1))) % m := by
 have hb : Ju A ((255 - k : Nat) : Int) = A / 2 ^ (255 - k) % 2 := by
  unfold Ju; rw [if_neg (by omega), Int.toNat_natCast]
 have D7 : r < m := by rw [hr]; exact Nat.mod_lt _ hm
 rw [uP D7 (by rw [hb]; omega), hb, hr]; obtain ⟨i, hi⟩ := je (255 - k); rw [← hi, show 256 - k = i + 1 by omega, show 256 - (k + 1) = i by omega]; have e1 : A / 2 ^ (i + 1) = A / 2 ^ i / 2 := by rw [Nat.pow_succ, Nat.div_div_eq_div_mul]
 have e2 : P * 2 ^ (k + 1) = 2 * (P * 2 ^ k) := by rw [Nat.pow_succ]; rw [← Nat.mul_assoc, Nat.mul_comm]
 rw [e1, e2]; obtain ⟨x, hx⟩ := je (P * 2 ^ k); obtain ⟨y, hy⟩ := je (A / 2 ^ i); rw [← hx, ← hy]; have h2 : 2 * x + y = 2 * (x + y / 2) + y % 2 := by omega
 rw [h2, Nat.add_mod, Nat.mul_mod, Nat.mod_mod, ← Nat.mul_mod, ← Nat.add_mod]
theorem NH {P A m : Nat} (hA : A < jo) (hP : P < m) : P = (P * 2 ^ 0 + A / 2 ^ (256 - 0)) % m := by
 rw [show A / 2 ^ (256 - 0) = 0 from Nat.div_eq_of_lt (by rw [← dC]; exact hA), Nat.pow_zero, Nat.mul_one, Nat.add_zero, Nat.mod_eq_of_lt hP]
theorem lQ {P A m r : Nat} (h : r = (P * 2 ^ 256 + A / 2 ^ (256 - 256)) % m) : r = (P * jo + A) % m := by
 rw [h, ← dC, Nat.sub_self, Nat.pow_zero, Nat.div_one]
theorem aX {hi lo m r P Q : Nat} (h2 : r = (P * jo + lo) % m) (h1 : P = (0 * jo + hi) % m) (hQ : Q = (hi * jo + lo) % m) : r = Q := by
 rw [h2, h1, hQ, Nat.zero_mul, Nat.zero_add, Nat.add_mod, Nat.mul_mod, Nat.mod_mod, ← Nat.mul_mod, ← Nat.add_mod]
theorem wV (a : Nat) (i : Int) : Ju a i ≤ 1 := by
 unfold Ju
 split
 ·omega
 ·omega
theorem SV {lo hi m : Nat} (hlo : lo < jo) (hhi : hi < jo) (hm : m < jo) (hml : jd ≤ m) (w : World) : Calls Tryz.prog 100 #[jj lo, jj hi, jj m] w fun e w' => e = .returned (.tuple #[jj ((hi * jo + lo) % m), .int .i64 0]) ∧ Below w.heap.size w w' := by
 have i0 := idx0; have i1 := idx1; have hm0 : 0 < m := by unfold jd at hml; omega
 have HLO := jh hlo; have HHI := jh hhi; have J4 := jh hm; have AU := jh hm0; have hz := fun w => GN m hm w
 rw [decide_eq_false (show ¬ m = 0 by omega)] at hz; have CS := jh (fun w => by have h := short_any hm w; rw [decide_eq_false (show ¬ m < jd by omega)] at h; exact h); obtain ⟨Q9, hQ9⟩ := je ((hi * jo + lo) % m); rw [← hQ9]; have HQ9 := jh hQ9; clear hQ9 hlo hhi hm hml hm0; unfold jj words at *
 go_enter Tryz.func100, Tryz.ntmps100
 go_wp2_with fail
 obtain ⟨wa, ea⟩ := je (w.alloc (.cells (jD lo) 24)); obtain ⟨wb, eb⟩ := je (wa.alloc (.cells (jD hi) 24)); obtain ⟨wc, ec⟩ := je (wb.alloc (.cells (jD m) 24)); obtain ⟨wd, ed⟩ := je (wc.alloc (.cells jA 24)); have sa : wa.heap.size = w.heap.size + 1 := by rw [ea]; simp
 have sb : wb.heap.size = w.heap.size + 1 + 1 := by rw [eb]; simp [sa]
 have sc : wc.heap.size = w.heap.size + 1 + 1 + 1 := by rw [ec]; simp [sb]
 have sd : wd.heap.size = w.heap.size + 1 + 1 + 1 + 1 := by rw [ed]; simp [sc]
 have ba := jc ea; have bb := jc eb; have bc := jc ec; have bd := jc ed; have na : U0 wa w.heap.size lo := by rw [ea]; exact U0.new w lo _ _ rfl
 have nb : U0 wb (w.heap.size + 1) hi := by rw [eb]; exact U0.new wa hi _ _ sa.symm
 have nc : U0 wc (w.heap.size + 1 + 1) m := by rw [ec]; exact U0.new wb m _ _ sb.symm
 have nd : U0 wd (w.heap.size + 1 + 1 + 1) 0 := by rw [ed, ← sc]; exact jP wc _
 have fd : Y0 wd (w.heap.size + 1 + 1 + 1) 4 := by rw [ed]; exact Y0.made wc _ _ 4 _ sc.symm
 rw [← ea, ← eb, ← ec, ← ed]; obtain ⟨LL, hL⟩ := je (w.heap.size); obtain ⟨HH, hH⟩ := je (LL + 1); obtain ⟨MM, hM⟩ := je (HH + 1); obtain ⟨RR, hR⟩ := je (MM + 1); have Y9 : w.heap.size ≤ LL := by omega
 have U1 : RR < wd.heap.size := by omega
 rw [← hL] at na nb nc nd fd ⊢; rw [← hH] at nb nc nd fd ⊢; rw [← hM] at nc nd fd ⊢; rw [← hR] at nd fd ⊢; have hLH : LL < HH := by omega
 have hHM : HH < MM := by omega
 have hMR : MM < RR := by omega
 have HA := jh (U0.later bd (U0.later bc (U0.later bb na))); have HB := jh (U0.later bd (U0.later bc nb)); have HC := jh (U0.later bd nc); have HR := jh nd; have HF := jh fd; have B := jh (((ba.trans (bb.mono (by omega))).trans (bc.mono (by omega))).trans (bd.mono (by omega))); clear ea eb ec ed sa sb sc sd ba bb bc bd na nb nc nd fd hL hH hM hR; refine (CS.out wd).mono ?_; rintro _ w2 ⟨rfl, hb⟩; have hR2 : RR < w2.heap.size := Nat.lt_of_lt_of_le U1 hb.size; have HF := jh (HF.out.later hb U1); have HA := jn hb HA; have HB := jn hb HB; have HC := jn hb HC; have HR := jn hb HR; have B := jw B hb; clear hb U1; obtain ⟨a0, a1, a2, a3⟩ := jz HA.out; obtain ⟨b0, b1, b2, b3⟩ := jz HB.out
 go_wp2_with fail
 refine wp_loop_rounds 3 ?_; rw [rounds_succ]
 skip
 go_wp2_with fail
 have hwR : w.heap.size ≤ RR := by omega
 obtain ⟨wx, ex⟩ := je (w2.alloc (.cells (jD hi) 24)); have hb := jc ex; obtain ⟨AA, hAA⟩ := je (w2.heap.size); have HN := jh (show U0 wx AA hi by rw [ex]; exact U0.new w2 hi _ _ hAA); have hRA : RR ≠ AA := by omega
 have hMA : MM ≠ RR := by omega
 have hAR : AA ≠ RR := by omega
 have HAlt := jh (show AA < wx.heap.size by rw [ex, hAA]; simp); have hR3 : RR < wx.heap.size := Nat.lt_of_lt_of_le hR2 hb.size; rw [← ex, ← hAA]; have HF := jh (HF.out.later hb hR2); have HC := jn hb HC; have HR := jn hb HR; have B := jw B hb; clear hb ex hAA
 go_loopw [47] (fun i wr => ∃ k r : Nat, k ≤ 256 ∧ i = .int .i64 k ∧ r < m ∧ Hid (r = (0 * 2 ^ k + hi / 2 ^ (256 - k)) % m) ∧ Hid (U0 wr RR r) ∧ Hid (Y0 wr RR 4) ∧ Hid (U0 wr AA hi) ∧ Hid (U0 wr MM m) ∧ Hid (Below w.heap.size w wr) ∧ RR < wr.heap.size) (fun i _ => 256 - (intOf i).toNat)
 case atStart => exact ⟨0, 0, by omega, rfl, AU.out, jh (NH HHI.out AU.out), HR, HF, HN, HC, B, hR3⟩
 case round =>
  obtain ⟨k, r, hk, rfl, hrm, HK, HR, HF, HN, HC, B, xX⟩ := hrel
  by_cases hlt : k < 256
  ·have N8 : (k : Int) < 256 := by omega
   obtain ⟨j, hj⟩ := je (255 - k); have e255 : (255 : Int) - (k : Int) = (j : Int) := by omega
   obtain ⟨b, hb⟩ := je (Ju hi ((255 - k : Nat) : Int)); have hb1 : b ≤ 1 := by rw [hb]; exact wV _ _
   obtain ⟨r2, hr2⟩ := je (Qo r b m); obtain ⟨fl, hfl⟩ := je (nextB r b m); have CB := jh (fun w => by have h := tH (a := hi) (j : Int) w (by omega) (by omega); rw [hj, ← hb, ← hj] at h; unfold jj words at h; exact h); have CN := jh (fun w => by have h := next_any hrm hb1 J4.out w; rw [← hr2, ← hfl] at h; unfold jj words at h; exact h); have hr2m : r2 < m := by rw [hr2]; exact rP hrm hb1
   have PK := jh (show r2 = (0 * 2 ^ (k + 1) + hi / 2 ^ (256 - (k + 1))) % m by rw [hr2, hb]; exact BQ hlt HK.out AU.out); clear hj hb hr2 hfl
   go_wp2_with fail
   refine js 10 (fun _ => none) (by kernel_rfl) (by kernel_rfl) (fun _ _ _ _ _ h => h) (fun F X8 hcl hbl => ?_); have VZ := jr hbl HR 0 (by omega); have UZ := jr hbl HR 1 (by omega); have TZ := jr hbl HR 2 (by omega); have RZ := jr hbl HR 3 (by omega); have r_A_0 := jr hbl HN 0 (by omega); have r_A_1 := jr hbl HN 1 (by omega); have r_A_2 := jr hbl HN 2 (by omega); have r_A_3 := jr hbl HN 3 (by omega); have r_M_0 := jr hbl HC 0 (by omega); have YZ := jr hbl HC 1 (by omega); have XZ := jr hbl HC 2 (by omega); have WZ := jr hbl HC 3 (by omega); have U5 := jh hcl; clear hcl hbl; refine jN 10 0 _ _ (fun _ _ _ => rfl) (by decide) ?_; simp only [List.take_succ_cons, List.take_zero, List.drop_succ_cons, List.drop_zero, Nat.reduceAdd]
   repeat (go_big_quiet_step ((first | (go_at_call 170; exact jq U5.out (CB.out _)) | (go_at_call 169; exact jq U5.out (CN.out _)))))
   refine wpQuiet_nil ?_; refine jR ?_; intro bs w5 hb5 _ _; clear VZ UZ TZ RZ r_A_0 r_A_1 r_A_2 r_A_3 r_M_0 YZ XZ WZ; have AO := jn hb5 HR; have HF5 := jh (HF.out.later hb5 xX); have HN5 := jn hb5 HN; have HC5 := jn hb5 HC; have B5 := jw B hb5; have hRlt5 : RR < w5.heap.size := Nat.lt_of_lt_of_le xX hb5.size; clear hb5; simp only [over]; obtain ⟨c0, c1, c2, c3, f0, f1, f2, f3⟩ := jL AO.out HF5.out
   go_wp2_with fail
   go_roundw
   case rel => exact ⟨k + 1, r2, by omega, by go_num, hr2m, PK, jh (U0.set4 AO.out r2), jh (Y0.set4 HF5.out _ _ _ _ _ _ _ _), jh (U0.other4 HN5.out hAR _ _ _ _), jh (U0.other4 HC5.out hMA _ _ _ _), jh (jK B5.out hwR _ _ _ _), by simpa using hRlt5⟩
   case measure => simp [intOf]; omega
  ·obtain rfl : k = 256 := by omega
   have N8 : ¬ (((256 : Nat) : Int) < 256) := by omega
   have HE := jh (lQ HK.out); have hPm := hrm; obtain ⟨P9, hP9⟩ := je (r); rw [← hP9] at HE HR hPm; have HEx := HE; clear hP9 HK; have hR2 := xX
   go_wp2_with fail
   rw [rounds_succ]
   go_wp2_with fail
   obtain ⟨wy, ey⟩ := je (wr.alloc (.cells (jD lo) 24)); have hb := jc ey; obtain ⟨AA, hAA⟩ := je (wr.heap.size); have HN := jh (show U0 wy AA lo by rw [ey]; exact U0.new wr lo _ _ hAA); have hRA : RR ≠ AA := by omega
   have hMA : MM ≠ RR := by omega
   have hAR : AA ≠ RR := by omega
   have HAlt := jh (show AA < wy.heap.size by rw [ey, hAA]; simp); have hR3 : RR < wy.heap.size := Nat.lt_of_lt_of_le hR2 hb.size; rw [← ey, ← hAA]; have HF := jh (HF.out.later hb hR2); have HC := jn hb HC; have HR := jn hb HR; have B := jw B hb; clear hb ey hAA
   go_loopw [47] (fun i wr => ∃ k r : Nat, k ≤ 256 ∧ i = .int .i64 k ∧ r < m ∧ Hid (r = (P9 * 2 ^ k + lo / 2 ^ (256 - k)) % m) ∧ Hid (U0 wr RR r) ∧ Hid (Y0 wr RR 4) ∧ Hid (U0 wr AA lo) ∧ Hid (U0 wr MM m) ∧ Hid (Below w.heap.size w wr) ∧ RR < wr.heap.size) (fun i _ => 256 - (intOf i).toNat)
   case atStart => exact ⟨0, P9, by omega, rfl, hPm, jh (NH HLO.out hPm), HR, HF, HN, HC, B, hR3⟩
   case round =>
    obtain ⟨k, r, hk, rfl, hrm, HK, HR, HF, HN, HC, B, xX⟩ := hrel
    by_cases hlt : k < 256
    ·have N8 : (k : Int) < 256 := by omega
     obtain ⟨j, hj⟩ := je (255 - k); have e255 : (255 : Int) - (k : Int) = (j : Int) := by omega
     obtain ⟨b, hb⟩ := je (Ju lo ((255 - k : Nat) : Int)); have hb1 : b ≤ 1 := by rw [hb]; exact wV _ _
     obtain ⟨r2, hr2⟩ := je (Qo r b m); obtain ⟨fl, hfl⟩ := je (nextB r b m); have CB := jh (fun w => by have h := tH (a := lo) (j : Int) w (by omega) (by omega); rw [hj, ← hb, ← hj] at h; unfold jj words at h; exact h); have CN := jh (fun w => by have h := next_any hrm hb1 J4.out w; rw [← hr2, ← hfl] at h; unfold jj words at h; exact h); have hr2m : r2 < m := by rw [hr2]; exact rP hrm hb1
     have PK := jh (show r2 = (P9 * 2 ^ (k + 1) + lo / 2 ^ (256 - (k + 1))) % m by rw [hr2, hb]; exact BQ hlt HK.out AU.out); clear hj hb hr2 hfl
     go_wp2_with fail
     refine js 10 (fun _ => none) (by kernel_rfl) (by kernel_rfl) (fun _ _ _ _ _ h => h) (fun F X8 hcl hbl => ?_); have VZ := jr hbl HR 0 (by omega); have UZ := jr hbl HR 1 (by omega); have TZ := jr hbl HR 2 (by omega); have RZ := jr hbl HR 3 (by omega); have r_A_0 := jr hbl HN 0 (by omega); have r_A_1 := jr hbl HN 1 (by omega); have r_A_2 := jr hbl HN 2 (by omega); have r_A_3 := jr hbl HN 3 (by omega); have r_M_0 := jr hbl HC 0 (by omega); have YZ := jr hbl HC 1 (by omega); have XZ := jr hbl HC 2 (by omega); have WZ := jr hbl HC 3 (by omega); have U5 := jh hcl; clear hcl hbl; refine jN 10 0 _ _ (fun _ _ _ => rfl) (by decide) ?_; simp only [List.take_succ_cons, List.take_zero, List.drop_succ_cons, List.drop_zero, Nat.reduceAdd]
     repeat (go_big_quiet_step ((first | (go_at_call 170; exact jq U5.out (CB.out _)) | (go_at_call 169; exact jq U5.out (CN.out _)))))
     refine wpQuiet_nil ?_; refine jR ?_; intro bs w5 hb5 _ _; clear VZ UZ TZ RZ r_A_0 r_A_1 r_A_2 r_A_3 r_M_0 YZ XZ WZ; have AO := jn hb5 HR; have HF5 := jh (HF.out.later hb5 xX); have HN5 := jn hb5 HN; have HC5 := jn hb5 HC; have B5 := jw B hb5; have hRlt5 : RR < w5.heap.size := Nat.lt_of_lt_of_le xX hb5.size; clear hb5; simp only [over]; obtain ⟨c0, c1, c2, c3, f0, f1, f2, f3⟩ := jL AO.out HF5.out
     go_wp2_with fail
     go_roundw
     case rel => exact ⟨k + 1, r2, by omega, by go_num, hr2m, PK, jh (U0.set4 AO.out r2), jh (Y0.set4 HF5.out _ _ _ _ _ _ _ _), jh (U0.other4 HN5.out hAR _ _ _ _), jh (U0.other4 HC5.out hMA _ _ _ _), jh (jK B5.out hwR _ _ _ _), by simpa using hRlt5⟩
     case measure => simp [intOf]; omega
    ·obtain rfl : k = 256 := by omega
     have N8 : ¬ (((256 : Nat) : Int) < 256) := by omega
     have HE := jh (lQ HK.out); obtain ⟨c0, c1, c2, c3, f0, f1, f2, f3⟩ := jL HR.out HF.out; have HQ := jh (aX HE.out HEx.out HQ9.out)
     go_wp2_with fail
     rw [rounds_succ]
     go_wp2_with fail
     have Q7 := jh (U0.set4 HR.out r); have B9 := jh (jK B.out hwR (.int .u64 (jf jd r 0)) (.int .u64 (jf jd r 1)) (.int .u64 (jf jd r 2)) (.int .u64 (jf jd r 3))); obtain ⟨g0, g1, g2, g3⟩ := jz Q7.out; rw [HQ.out] at g0 g1 g2 g3 B9 ⊢; refine bodyPost_ret (v := .tuple #[jj Q9, .int .i64 0]) ?_ rfl ⟨rfl, B9.out⟩
     simp [results, Tryz.results100, go_sem, jj, words, g0, g1, g2, g3]
end Go.Proofs.YtmijablfjigbhaaGreatDoor
