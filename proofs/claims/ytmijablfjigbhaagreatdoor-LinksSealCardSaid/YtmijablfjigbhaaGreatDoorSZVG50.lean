/- Layer 8's reference -/
import Derived.Test.YtmijablfjigbhaaGreatDoorSZVG48
import Derived.Test.YtmijablfjigbhaaGreatDoorSZVG49
import Derived.Test.YtmijablfjigbhaaGreatDoorSZVG33
set_option linter.unusedSimpArgs false
set_option linter.unusedVariables false
set_option maxHeartbeats 4000000
set_option maxRecDepth 100000
namespace Go.Proofs.YtmijablfjigbhaaGreatDoor
open Go.ChangeShapes Go.WideShapes Go.ChangeAt Go.RowKit
theorem OQ  (w : World) :
  Calls Tryz.prog 182 #[] w fun e w' => e = .returned (jj 1) ∧ Below w.heap.size w w' := by
 have C1 := jh (fun W => by have h9 := dO 1 1 rfl (by unfold jd; omega) W; unfold jj words at h9; exact h9); unfold jj words
 go_enter Tryz.func182, Tryz.ntmps182
 go_wp2_with fail
 obtain ⟨wz, RR, e9, J5, HRR, HF, B, V8, Y9, D6, U1⟩ := box0r w 24; rw [e9, J5]; clear e9 J5; refine (C1.out _).mono ?_; rintro _ w1 ⟨rfl, hb⟩; have HRR := jn hb HRR; have HF := jh (HF.out.later hb (by omega)); have U1 := Nat.lt_of_lt_of_le U1 hb.size; have B := jw B hb; clear hb; obtain ⟨c0, c1, c2, c3, f0, f1, f2, f3⟩ := jL HRR.out HF.out
 go_wp2_with fail
 obtain ⟨Q7, B9⟩ := zw HRR B D6 1; obtain ⟨g0, g1, g2, g3⟩ := jz Q7.out; refine bodyPost_ret (v := jj 1) ?_ rfl ⟨rfl, B9.out⟩
 simp [results, Tryz.results182, go_sem, jj, words, g0, g1, g2, g3]
theorem Zl {gp gq gg gh a : Nat} (ha : a < jo) (hm : gp < jo) (w : World) :
  Calls Tryz.prog 111 #[qd gp gq gg gh, jj a] w fun e w' => e = .returned (.bool (decide (Jq gp a))) ∧ Below w.heap.size w w' := by
 have C1 := jh (fun W => by have h9 := OQ W; unfold jj words at h9; exact h9); obtain ⟨z1, hz1⟩ := je (qL gp 1); have Kz1 := jh (fun W => by have h9 := QG hm (show 1 < jo by unfold jo; omega) W; rewrite [← hz1] at h9; unfold jj words at h9; exact h9); obtain ⟨z2, hz2⟩ := je (qL a gp); have Kz2 := jh (fun W => by have h9 := QG ha hm W; rewrite [← hz2] at h9; unfold jj words at h9; exact h9); obtain ⟨e, he⟩ := je (decide (a = 0)); have hne : ∀ W : World, (binOp .neq 24 (.agg #[.int .u64 (jf jd a 0), .int .u64 (jf jd a 1), .int .u64 (jf jd a 2), .int .u64 (jf jd a 3)]) (.agg #[.int .u64 0, .int .u64 0, .int .u64 0, .int .u64 0])).run Tryz.prog W = .ok (.bool (!e)) W := fun W => by have h9 := QR a 0 ha (by decide) W; rewrite [← he] at h9; simp only [jI] at h9; exact h9
 have eH := jh hne; clear hne; obtain ⟨D, hD⟩ := je (decide (Jq gp a)); rw [← hD]
 have h3 : (¬ 0 < z1 ∧ D = false) ∨ (0 < z1 ∧ e = true ∧ D = false) ∨ (0 < z1 ∧ e = false ∧ ¬ z2 < 0 ∧ D = false) ∨ (0 < z1 ∧ e = false ∧ z2 < 0 ∧ D = true) := by
  rw [hz1, hz2, hD, he, uV, cmp_neg]; unfold Jq
  by_cases h1 : 1 < gp <;> by_cases h2 : a = 0 <;> by_cases h3 : a < gp <;> simp [h1, h2, h3]
 clear hz1 hz2 hD he ha hm; unfold qd jj words
 go_enter Tryz.func111, Tryz.ntmps111
 go_upto_region 1 with fail
 obtain ⟨w0, GG, e0, s0, P7, g0, HB0⟩ := JR w 26 gp gq gg gh; rw [e0, s0, P7]; clear e0 s0 P7; obtain ⟨wz, AA, e9, J5, J3, B, V8, Y9, sF, U1⟩ := Zp w0 24 a; rw [e9, J5]; clear e9 J5; have G0 := jh (U2.later B.out g0); clear g0
 rcases h3 with ⟨h1, rfl⟩ | ⟨h1, rfl, rfl⟩ | ⟨h1, rfl, h3, rfl⟩ | ⟨h1, rfl, h3, rfl⟩
 ·skip
  have hne := eH.out; refine js 17 (fun _ => none) (by kernel_rfl) (by kernel_rfl) (fun _ _ _ _ _ h => h) (fun F X8 hcl hbl => ?_); have U3 := jr hbl J3 0 (by omega); have I4 := jr hbl J3 1 (by omega); have X3 := jr hbl J3 2 (by omega); have V3 := jr hbl J3 3 (by omega); have U8 := fun X9 : Wd F => (U2.later (hbl X9.world X9.fact) G0.out).1 0 (by omega)
  have Q8 := fun X9 : Wd F => (U2.later (hbl X9.world X9.fact) G0.out).1 1 (by omega)
  have P8 := fun X9 : Wd F => (U2.later (hbl X9.world X9.fact) G0.out).1 2 (by omega)
  have O8 := fun X9 : Wd F => (U2.later (hbl X9.world X9.fact) G0.out).1 3 (by omega)
  simp only [Nat.reduceAdd] at U8 Q8 P8 O8; have U5 := jh hcl; clear hcl hbl; refine jN 17 0 _ _ (fun _ _ _ => rfl) (by decide) ?_; simp only [List.take_succ_cons, List.take_zero, List.drop_succ_cons, List.drop_zero, Nat.reduceAdd]
  repeat (go_big_quiet_step ((first | (go_at_call 182; with_reducible exact jq U5.out (C1.out _)) | (go_at_call 181; with_reducible exact jq U5.out (Kz1.out _)))))
  refine wpQuiet_nil ?_; refine jR ?_; intro bs w2 hb _ _; clear U3 I4 X3 V3; have J3 := jn hb J3; have G0 := jh (U2.later hb G0.out); have U1 := Nat.lt_of_lt_of_le U1 hb.size; have B := jw B hb; clear hb; simp only [over]; clear U8 Q8 P8 O8 hne
  go_wp2_with fail
  refine bodyPost_ret (v := .bool false) ?_ rfl ⟨rfl, jk HB0.out B.out⟩
  simp [results, Tryz.results111, go_sem]
 ·skip
  have hne := eH.out; simp only [Bool.not_true, Bool.not_false] at hne; refine js 17 (fun _ => none) (by kernel_rfl) (by kernel_rfl) (fun _ _ _ _ _ h => h) (fun F X8 hcl hbl => ?_); have U3 := jr hbl J3 0 (by omega); have I4 := jr hbl J3 1 (by omega); have X3 := jr hbl J3 2 (by omega); have V3 := jr hbl J3 3 (by omega); have U8 := fun X9 : Wd F => (U2.later (hbl X9.world X9.fact) G0.out).1 0 (by omega)
  have Q8 := fun X9 : Wd F => (U2.later (hbl X9.world X9.fact) G0.out).1 1 (by omega)
  have P8 := fun X9 : Wd F => (U2.later (hbl X9.world X9.fact) G0.out).1 2 (by omega)
  have O8 := fun X9 : Wd F => (U2.later (hbl X9.world X9.fact) G0.out).1 3 (by omega)
  simp only [Nat.reduceAdd] at U8 Q8 P8 O8; have U5 := jh hcl; clear hcl hbl; refine jN 17 0 _ _ (fun _ _ _ => rfl) (by decide) ?_; simp only [List.take_succ_cons, List.take_zero, List.drop_succ_cons, List.drop_zero, Nat.reduceAdd]
  repeat (go_big_quiet_step ((first | (go_at_call 182; with_reducible exact jq U5.out (C1.out _)) | (go_at_call 181; with_reducible exact jq U5.out (Kz1.out _)))))
  refine wpQuiet_nil ?_; refine jR ?_; intro bs w2 hb _ _; clear U3 I4 X3 V3; have J3 := jn hb J3; have G0 := jh (U2.later hb G0.out); have U1 := Nat.lt_of_lt_of_le U1 hb.size; have B := jw B hb; clear hb; simp only [over]; clear U8 Q8 P8 O8 hne
  go_wp2_with fail
  refine bodyPost_ret (v := .bool false) ?_ rfl ⟨rfl, jk HB0.out B.out⟩
  simp [results, Tryz.results111, go_sem]
 ·skip
  have hne := eH.out; simp only [Bool.not_true, Bool.not_false] at hne; refine js 17 (fun _ => none) (by kernel_rfl) (by kernel_rfl) (fun _ _ _ _ _ h => h) (fun F X8 hcl hbl => ?_); have U3 := jr hbl J3 0 (by omega); have I4 := jr hbl J3 1 (by omega); have X3 := jr hbl J3 2 (by omega); have V3 := jr hbl J3 3 (by omega); have U8 := fun X9 : Wd F => (U2.later (hbl X9.world X9.fact) G0.out).1 0 (by omega)
  have Q8 := fun X9 : Wd F => (U2.later (hbl X9.world X9.fact) G0.out).1 1 (by omega)
  have P8 := fun X9 : Wd F => (U2.later (hbl X9.world X9.fact) G0.out).1 2 (by omega)
  have O8 := fun X9 : Wd F => (U2.later (hbl X9.world X9.fact) G0.out).1 3 (by omega)
  simp only [Nat.reduceAdd] at U8 Q8 P8 O8; have U5 := jh hcl; clear hcl hbl; refine jN 17 0 _ _ (fun _ _ _ => rfl) (by decide) ?_; simp only [List.take_succ_cons, List.take_zero, List.drop_succ_cons, List.drop_zero, Nat.reduceAdd]
  repeat (go_big_quiet_step ((first | (go_at_call 182; with_reducible exact jq U5.out (C1.out _)) | (go_at_call 181; with_reducible exact jq U5.out (Kz1.out _)) | (go_at_call 181; with_reducible exact jq U5.out (Kz2.out _)))))
  refine wpQuiet_nil ?_; refine jR ?_; intro bs w2 hb _ _; clear U3 I4 X3 V3; have J3 := jn hb J3; have G0 := jh (U2.later hb G0.out); have U1 := Nat.lt_of_lt_of_le U1 hb.size; have B := jw B hb; clear hb; simp only [over]; clear U8 Q8 P8 O8 hne
  go_wp2_with fail
  refine bodyPost_ret (v := .bool false) ?_ rfl ⟨rfl, jk HB0.out B.out⟩
  simp [results, Tryz.results111, go_sem] <;> omega
 ·skip
  have hne := eH.out; simp only [Bool.not_true, Bool.not_false] at hne; refine js 17 (fun _ => none) (by kernel_rfl) (by kernel_rfl) (fun _ _ _ _ _ h => h) (fun F X8 hcl hbl => ?_); have U3 := jr hbl J3 0 (by omega); have I4 := jr hbl J3 1 (by omega); have X3 := jr hbl J3 2 (by omega); have V3 := jr hbl J3 3 (by omega); have U8 := fun X9 : Wd F => (U2.later (hbl X9.world X9.fact) G0.out).1 0 (by omega)
  have Q8 := fun X9 : Wd F => (U2.later (hbl X9.world X9.fact) G0.out).1 1 (by omega)
  have P8 := fun X9 : Wd F => (U2.later (hbl X9.world X9.fact) G0.out).1 2 (by omega)
  have O8 := fun X9 : Wd F => (U2.later (hbl X9.world X9.fact) G0.out).1 3 (by omega)
  simp only [Nat.reduceAdd] at U8 Q8 P8 O8; have U5 := jh hcl; clear hcl hbl; refine jN 17 0 _ _ (fun _ _ _ => rfl) (by decide) ?_; simp only [List.take_succ_cons, List.take_zero, List.drop_succ_cons, List.drop_zero, Nat.reduceAdd]
  repeat (go_big_quiet_step ((first | (go_at_call 182; with_reducible exact jq U5.out (C1.out _)) | (go_at_call 181; with_reducible exact jq U5.out (Kz1.out _)) | (go_at_call 181; with_reducible exact jq U5.out (Kz2.out _)))))
  refine wpQuiet_nil ?_; refine jR ?_; intro bs w2 hb _ _; clear U3 I4 X3 V3; have J3 := jn hb J3; have G0 := jh (U2.later hb G0.out); have U1 := Nat.lt_of_lt_of_le U1 hb.size; have B := jw B hb; clear hb; simp only [over]; clear U8 Q8 P8 O8 hne
  go_wp2_with fail
  refine bodyPost_ret (v := .bool true) ?_ rfl ⟨rfl, jk HB0.out B.out⟩
  simp [results, Tryz.results111, go_sem]
theorem RInG_yes {gp gq gg gh a : Nat} (h : Jq gp a) (ha : a < jo) (hq : gq < jo) (hm : gp < jo) (w : World) :
  Calls Tryz.prog 163 #[qd gp gq gg gh, jj a] w fun e w' => e = .returned (.bool (decide (YJ gp gq a))) ∧ Below w.heap.size w w' := by
 have CM := jh (fun (W : World) => by have h9 := Zl (gp := gp) (gq := gq) (gg := gg) (gh := gh) ha hm W; rewrite [decide_eq_true h] at h9; unfold qd jj words at h9; exact h9); obtain ⟨x, hx⟩ := je (a ^ gq % gp); have hxl : x < jo := by rw [hx]; exact Nat.lt_trans (Nat.mod_lt _ (by have := h.1; omega)) hm
 have CE := jh (fun W => by have h9 := RQ hq hm h.1 h.2.2 W; rewrite [← hx] at h9; unfold jj words at h9; exact h9); have heq := zp x 1 hxl (by decide); obtain ⟨d, hd⟩ := je (decide (x = 1)); have hdd : decide (YJ gp gq a) = d := by rw [hd]; exact decide_eq_decide.2 ⟨fun h9 => hx.trans h9.2, fun h9 => ⟨h, hx.symm.trans h9⟩⟩
 rw [hdd]; rw [← hd] at heq; have C1 := jh (fun W => by have h9 := OQ W; unfold jj words at h9; exact h9); clear hx hxl hd hdd; clear h ha hq hm; unfold qd jj words
 go_enter Tryz.func163, Tryz.ntmps163
 go_wp2_with fail
 obtain ⟨w0, GG, e0, s0, P7, g0, HB0⟩ := JR w 26 gp gq gg gh; rw [e0, s0, P7]; clear e0 s0 P7; obtain ⟨wz, AA, e9, J5, J3, B, V8, Y9, sF, U1⟩ := Zp w0 24 a; rw [e9, J5]; clear e9 J5; have G0 := jh (U2.later B.out g0); clear g0; refine (CM.out _).mono ?_; rintro _ w1 ⟨rfl, hb⟩; have J3 := jn hb J3; have G0 := jh (U2.later hb G0.out); have U1 := Nat.lt_of_lt_of_le U1 hb.size; have B := jw B hb; clear hb; have PZ := G0.out.2.1 0 (by omega); have OZ := G0.out.2.1 1 (by omega); have NZ := G0.out.2.1 2 (by omega); have MZ := G0.out.2.1 3 (by omega); simp only [Nat.reduceAdd] at PZ OZ NZ MZ; have U8 := G0.out.1 0 (by omega); have Q8 := G0.out.1 1 (by omega); have P8 := G0.out.1 2 (by omega); have O8 := G0.out.1 3 (by omega); simp only [Nat.reduceAdd] at U8 Q8 P8 O8; obtain ⟨U3, I4, X3, V3⟩ := jz J3.out
 go_wp2_with fail
 clear U3 I4 X3 V3; clear PZ OZ NZ MZ U8 Q8 P8 O8; refine (CE.out _).mono ?_; rintro _ w2 ⟨rfl, hb⟩; have J3 := jn hb J3; have G0 := jh (U2.later hb G0.out); have U1 := Nat.lt_of_lt_of_le U1 hb.size; have B := jw B hb; clear hb
 go_upto_region 4 with fail
 obtain ⟨w3, e9⟩ := je (w2.alloc (.cells (jD x) 24)); obtain ⟨XX, h9⟩ := je (w2.heap.size); have hb := jc e9; have n9 := jh (show U0 w3 XX x by rw [e9, h9]; exact U0.new _ _ _ _ rfl); have f9 := jh (show Y0 w3 XX 4 by rw [e9, h9]; exact Y0.made _ _ _ _ _ rfl); have l_XX : AA < XX := by omega
 have h8 : XX < w3.heap.size := by rw [e9, h9]; simp
 rw [← e9, ← h9]; clear e9 h9; have J3 := jn hb J3; have G0 := jh (U2.later hb G0.out); have U1 := Nat.lt_of_lt_of_le U1 hb.size; have B := jw B hb; clear hb; have VA := n9; have HFXX := f9; have U1 := h8; clear n9 f9 h8; have hwXX : w0.heap.size ≤ XX := by omega
 refine js 3 (fun _ => none) (by kernel_rfl) (by kernel_rfl) (fun _ _ _ _ _ h => h) (fun F X8 hcl hbl => ?_); have mD := jr hbl VA 0 (by omega); have lD := jr hbl VA 1 (by omega); have kD := jr hbl VA 2 (by omega); have iD := jr hbl VA 3 (by omega); have U5 := jh hcl; clear hcl hbl; refine jN 3 0 _ _ (fun _ _ _ => rfl) (by decide) ?_; simp only [List.take_succ_cons, List.take_zero, List.drop_succ_cons, List.drop_zero, Nat.reduceAdd]
 repeat (go_big_quiet_step ((first | (go_at_call 182; with_reducible exact jq U5.out (C1.out _)))))
 refine wpQuiet_nil ?_; refine jR ?_; intro bs w4 hb _ _; clear mD lD kD iD; have J3 := jn hb J3; have VA := jn hb VA; have HFXX := jh (HFXX.out.later hb (by omega)); have G0 := jh (U2.later hb G0.out); have U1 := Nat.lt_of_lt_of_le U1 hb.size; have B := jw B hb; clear hb; simp only [over]
 go_wp2_with fail
 refine bodyPost_ret (v := .bool d) ?_ rfl ⟨rfl, jk HB0.out B.out⟩
 simp [results, Tryz.results163, go_sem]
theorem RInG_no {gp gq gg gh a : Nat} (h : ¬ Jq gp a) (ha : a < jo) (hq : gq < jo) (hm : gp < jo) (w : World) :
  Calls Tryz.prog 163 #[qd gp gq gg gh, jj a] w fun e w' => e = .returned (.bool (decide (YJ gp gq a))) ∧ Below w.heap.size w w' := by
 have CM := jh (fun (W : World) => by have h9 := Zl (gp := gp) (gq := gq) (gg := gg) (gh := gh) ha hm W; rewrite [decide_eq_false h] at h9; unfold qd jj words at h9; exact h9); have hdd : decide (YJ gp gq a) = false := decide_eq_false (fun h9 => h h9.1); rw [hdd]; clear hdd; clear h ha hq hm; unfold qd jj words
 go_enter Tryz.func163, Tryz.ntmps163
 go_wp2_with fail
 obtain ⟨w0, GG, e0, s0, P7, g0, HB0⟩ := JR w 26 gp gq gg gh; rw [e0, s0, P7]; clear e0 s0 P7; obtain ⟨wz, AA, e9, J5, J3, B, V8, Y9, sF, U1⟩ := Zp w0 24 a; rw [e9, J5]; clear e9 J5; have G0 := jh (U2.later B.out g0); clear g0; refine (CM.out _).mono ?_; rintro _ w1 ⟨rfl, hb⟩; have J3 := jn hb J3; have G0 := jh (U2.later hb G0.out); have U1 := Nat.lt_of_lt_of_le U1 hb.size; have B := jw B hb; clear hb
 go_wp2_with fail
 refine bodyPost_ret (v := .bool false) ?_ rfl ⟨rfl, jk HB0.out B.out⟩
 simp [results, Tryz.results163, go_sem]
theorem RInG_any {gp gq gg gh a : Nat} (ha : a < jo) (hq : gq < jo) (hm : gp < jo) (w : World) :
  Calls Tryz.prog 163 #[qd gp gq gg gh, jj a] w fun e w' => e = .returned (.bool (decide (YJ gp gq a))) ∧ Below w.heap.size w w' := by
 by_cases h : Jq gp a
 ·exact RInG_yes h ha hq hm w
 ·exact RInG_no h ha hq hm w
theorem lM {gp gq gg gh a n : Nat} (h : Jq gp a) (ha : a < jo) (hn : n < jo) (hm : gp < jo) (w : World) :
  Calls Tryz.prog 113 #[qd gp gq gg gh, jj a, jj n] w fun e w' => e = .returned (.tuple #[jj (a ^ n % gp), .int .i64 0]) ∧ Below w.heap.size w w' := by
 have CM := jh (fun (W : World) => by have h9 := Zl (gp := gp) (gq := gq) (gg := gg) (gh := gh) ha hm W; rewrite [decide_eq_true h] at h9; unfold qd jj words at h9; exact h9); obtain ⟨q, hq⟩ := je (a ^ n % gp); have CE := jh (fun W => by have h9 := RQ hn hm h.1 h.2.2 W; rewrite [← hq] at h9; unfold jj words at h9; exact h9); rw [← hq]; clear hq h ha hn hm; unfold qd jj words
 go_enter Tryz.func113, Tryz.ntmps113
 go_wp2_with fail
 obtain ⟨w0, GG, e0, s0, P7, g0, HB0⟩ := JR w 26 gp gq gg gh; rw [e0, s0, P7]; clear e0 s0 P7; obtain ⟨wz, AA, NN, RR, e9, J5, h_1, h_2, J3, Z5, HRR, HF, B, V8, LC, TC, Y9, D6, U1⟩ := QY w0 24 a n; rw [e9, J5, h_1, h_2]; clear e9 J5 h_1 h_2; have G0 := jh (U2.later B.out g0); clear g0; refine (CM.out _).mono ?_; rintro _ w1 ⟨rfl, hb⟩; have J3 := jn hb J3; have Z5 := jn hb Z5; have HRR := jn hb HRR; have HF := jh (HF.out.later hb (by omega)); have G0 := jh (U2.later hb G0.out); have U1 := Nat.lt_of_lt_of_le U1 hb.size; have B := jw B hb; clear hb; have U8 := G0.out.1 0 (by omega); have Q8 := G0.out.1 1 (by omega); have P8 := G0.out.1 2 (by omega); have O8 := G0.out.1 3 (by omega); simp only [Nat.reduceAdd] at U8 Q8 P8 O8; obtain ⟨U3, I4, X3, V3⟩ := jz J3.out; obtain ⟨V6, U6, P6, O6⟩ := jz Z5.out
 go_wp2_with fail
 clear U3 I4 X3 V3 V6 U6 P6 O6; clear U8 Q8 P8 O8; refine (CE.out _).mono ?_; rintro _ w2 ⟨rfl, hb⟩; have J3 := jn hb J3; have Z5 := jn hb Z5; have HRR := jn hb HRR; have HF := jh (HF.out.later hb (by omega)); have G0 := jh (U2.later hb G0.out); have U1 := Nat.lt_of_lt_of_le U1 hb.size; have B := jw B hb; clear hb; obtain ⟨c0, c1, c2, c3, f0, f1, f2, f3⟩ := jL HRR.out HF.out
 go_wp2_with fail
 obtain ⟨Q7, B9⟩ := zw HRR B D6 q; obtain ⟨g0, g1, g2, g3⟩ := jz Q7.out; refine bodyPost_ret (v := .tuple #[jj q, .int .i64 0]) ?_ rfl ⟨rfl, jk HB0.out B9.out⟩
 simp [results, Tryz.results113, go_sem, jj, words, g0, g1, g2, g3]
end Go.Proofs.YtmijablfjigbhaaGreatDoor
