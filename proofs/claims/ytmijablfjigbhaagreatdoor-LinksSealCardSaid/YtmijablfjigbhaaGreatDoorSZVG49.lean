/- Layer 4's reference -/
import Derived.Test.YtmijablfjigbhaaGreatDoorSZVG46
set_option linter.unusedSimpArgs false
set_option linter.unusedVariables false
set_option maxHeartbeats 4000000
set_option maxRecDepth 100000
namespace Go.Proofs.YtmijablfjigbhaaGreatDoor
open Go.ChangeShapes Go.WideShapes Go.ChangeAt Go.RowKit
theorem dY {a b m : Nat} (ha : a < m) (hb : b < m) (hm : m < jo) : (qY a b = a + b ∧ qK a b = 0 ∧ a + b < jo) ∨ (qY a b + jo = a + b ∧ qK a b = 1) := by
 unfold qY qK
 rcases Nat.lt_or_ge (a + b) jo with h | h
 ·exact .inl ⟨Nat.mod_eq_of_lt h, Nat.div_eq_of_lt h, h⟩
 ·refine .inr ⟨?_, ?_⟩
  ·rw [Nat.mod_eq_sub_mod h, Nat.mod_eq_of_lt (by omega)]; omega
  ·exact Nat.div_eq_of_lt_le (by omega) (by omega)
theorem EK {a b m : Nat} (ha : a < m) (hb : b < m) (hm : m < jo) : (qK a b = 1 ∧ Jj (qY a b) m = (a + b) % m) ∨ (qK a b = 0 ∧ m ≤ qY a b ∧ Jj (qY a b) m = (a + b) % m) ∨ (qK a b = 0 ∧ qY a b < m ∧ qY a b = (a + b) % m) := by
 rcases dY ha hb hm with ⟨h1, h2, h3⟩ | ⟨h1, h2⟩
 ·rcases Nat.lt_or_ge (a + b) m with h | h
  ·exact .inr (.inr ⟨h2, by omega, by rw [h1, Nat.mod_eq_of_lt h]⟩)
  ·refine .inr (.inl ⟨h2, by omega, ?_⟩); rw [NU (by omega) (Qf a b), h1, Nat.mod_eq_sub_mod h, Nat.mod_eq_of_lt (by omega)]
 ·refine .inl ⟨h2, ?_⟩; unfold Jj; rw [Nat.mod_eq_of_lt (by omega), Nat.mod_eq_sub_mod (by omega), Nat.mod_eq_of_lt (by omega)]; omega
theorem RAddM_no {a b m : Nat} (ha : a < jo) (Z4 : b < jo) (hm : m < jo) (hmay : ¬ (1 < m ∧ a < m ∧ b < m)) (w : World) :
  Calls Tryz.prog 185 #[jj a, jj b, jj m] w fun e w' => e = .returned (.tuple #[jj 0, .int .i64 1]) ∧ Below w.heap.size w w' := by
 have CM := jh (fun W => by have h9 := Za ha Z4 hm W; rewrite [decide_eq_false hmay] at h9; unfold jj words at h9; exact h9); clear ha Z4 hm hmay; unfold jj words
 go_enter Tryz.func185, Tryz.ntmps185
 go_wp2_with fail
 obtain ⟨wz, AA, BB, MM, RR, e9, J5, h_1, h_2, h_3, J3, U4, J4, HRR, HF, B, V8, LC, TC, PI, Y9, D6, U1⟩ := zC w 24 a b m; rw [e9, J5, h_1, h_2, h_3]; clear e9 J5 h_1 h_2 h_3; refine (CM.out _).mono ?_; rintro _ w1 ⟨rfl, hb⟩; have J3 := jn hb J3; have U4 := jn hb U4; have J4 := jn hb J4; have HRR := jn hb HRR; have HF := jh (HF.out.later hb (by omega)); have U1 := Nat.lt_of_lt_of_le U1 hb.size; have B := jw B hb; clear hb; obtain ⟨c0, c1, c2, c3, f0, f1, f2, f3⟩ := jL HRR.out HF.out
 go_wp2_with fail
 have B9 := jh (jK B.out D6 (.int .u64 0) (.int .u64 0) (.int .u64 0) (.int .u64 0)); refine bodyPost_ret (v := .tuple #[.agg #[.int .u64 0, .int .u64 0, .int .u64 0, .int .u64 0], .int .i64 1]) ?_ rfl ⟨by simp only [jI]; rfl, B9.out⟩
 simp [results, Tryz.results185, go_sem, c0, c1, c2, c3]
theorem xY {a b m : Nat} (hm : m < jo) (hmay : 1 < m ∧ a < m ∧ b < m) (w : World) :
  Calls Tryz.prog 185 #[jj a, jj b, jj m] w fun e w' => e = .returned (.tuple #[jj ((a + b) % m), .int .i64 0]) ∧ Below w.heap.size w w' := by
 have ha := Nat.lt_trans hmay.2.1 hm; have Z4 := Nat.lt_trans hmay.2.2 hm; have CM := jh (fun W => by have h9 := Za ha Z4 hm W; rewrite [decide_eq_true hmay] at h9; unfold jj words at h9; exact h9); obtain ⟨q, hq⟩ := je ((a + b) % m); rw [← hq]; obtain ⟨x, hx⟩ := je (qY a b); obtain ⟨c, hc⟩ := je (qK a b); have hxM : x < jo := by rw [hx]; exact Qf a b
 have CA := jh (fun W => by have h9 := LV ha Z4 W; rewrite [← hx, ← hc] at h9; unfold jj words at h9; exact h9); have h3 : (c = 1 ∧ Jj x m = q) ∨ (c = 0 ∧ m ≤ x ∧ Jj x m = q) ∨ (c = 0 ∧ x < m ∧ x = q) := by rw [hx, hc, hq]; exact EK hmay.2.1 hmay.2.2 hm
 have CS := jh (fun W => CV hxM hm W); have CC := jh (fun W => QG hxM hm W); unfold jj words at CS CC; clear hx hc hq ha Z4 hm hmay hxM; unfold jj words
 go_enter Tryz.func185, Tryz.ntmps185
 go_wp2_with fail
 obtain ⟨wz, AA, BB, MM, RR, e9, J5, h_1, h_2, h_3, J3, U4, J4, HRR, HF, B, V8, LC, TC, PI, Y9, D6, U1⟩ := zC w 24 a b m; rw [e9, J5, h_1, h_2, h_3]; clear e9 J5 h_1 h_2 h_3; refine (CM.out _).mono ?_; rintro _ w1 ⟨rfl, hb⟩; have J3 := jn hb J3; have U4 := jn hb U4; have J4 := jn hb J4; have HRR := jn hb HRR; have HF := jh (HF.out.later hb (by omega)); have U1 := Nat.lt_of_lt_of_le U1 hb.size; have B := jw B hb; clear hb; obtain ⟨U3, I4, X3, V3⟩ := jz J3.out; obtain ⟨I5, Y5, X5, V5⟩ := jz U4.out
 go_wp2_with fail
 clear U3 I4 X3 V3 I5 Y5 X5 V5; refine (CA.out _).mono ?_; rintro _ w2 ⟨rfl, hb⟩; have J3 := jn hb J3; have U4 := jn hb U4; have J4 := jn hb J4; have HRR := jn hb HRR; have HF := jh (HF.out.later hb (by omega)); have U1 := Nat.lt_of_lt_of_le U1 hb.size; have B := jw B hb; clear hb
 go_upto_region 4 with fail
 obtain ⟨w3, e9⟩ := je (w2.alloc (.cells (jD x) 24)); obtain ⟨XB, h9⟩ := je (w2.heap.size); have hb := jc e9; have n9 := jh (show U0 w3 XB x by rw [e9, h9]; exact U0.new _ _ _ _ rfl); have f9 := jh (show Y0 w3 XB 4 by rw [e9, h9]; exact Y0.made _ _ _ _ _ rfl); have l_XB : RR < XB := by omega
 have h8 : XB < w3.heap.size := by rw [e9, h9]; simp
 rw [← e9, ← h9]; clear e9 h9; have J3 := jn hb J3; have U4 := jn hb U4; have J4 := jn hb J4; have HRR := jn hb HRR; have HF := jh (HF.out.later hb (by omega)); have U1 := Nat.lt_of_lt_of_le U1 hb.size; have B := jw B hb; clear hb; have HXB := n9; have nC := f9; have U1 := h8; clear n9 f9 h8; have hwXB : w.heap.size ≤ XB := by omega
 rcases h3 with ⟨rfl, hs⟩ | ⟨rfl, hge, hs⟩ | ⟨rfl, hlt, hs⟩
 ·skip
  obtain ⟨z, hz⟩ := je (zk x m); rw [hs, ← hz] at CS; clear hs hz; obtain ⟨OA, KA, IA, BA⟩ := jz HXB.out; obtain ⟨V4, G5, F5, D5⟩ := jz J4.out
  go_wp2_with fail
  clear OA KA IA BA V4 G5 F5 D5; refine (CS.out _).mono ?_; rintro _ w5 ⟨rfl, hb⟩; have J3 := jn hb J3; have U4 := jn hb U4; have J4 := jn hb J4; have HRR := jn hb HRR; have HXB := jn hb HXB; have HF := jh (HF.out.later hb (by omega)); have nC := jh (nC.out.later hb (by omega)); have U1 := Nat.lt_of_lt_of_le U1 hb.size; have B := jw B hb; clear hb; obtain ⟨y0, y1, y2, y3, y4, y5, y6, y7⟩ := jL HXB.out nC.out
  go_upto_region 6 with fail
  clear y0 y1 y2 y3 y4 y5 y6 y7; obtain ⟨w6, e9⟩ := je (((((w5.setCell ⟨XB, 0, none⟩ (.int .u64 (jf jd q 0))).setCell ⟨XB, 1, none⟩ (.int .u64 (jf jd q 1))).setCell ⟨XB, 2, none⟩ (.int .u64 (jf jd q 2))).setCell ⟨XB, 3, none⟩ (.int .u64 (jf jd q 3)))); rw [← e9]; have J3 := jh (show U0 w6 AA a by rw [e9]; exact U0.other4 J3.out (by omega) _ _ _ _); have U4 := jh (show U0 w6 BB b by rw [e9]; exact U0.other4 U4.out (by omega) _ _ _ _); have J4 := jh (show U0 w6 MM m by rw [e9]; exact U0.other4 J4.out (by omega) _ _ _ _); have HRR := jh (show U0 w6 RR 0 by rw [e9]; exact U0.other4 HRR.out (by omega) _ _ _ _); have HXB := jh (show U0 w6 XB q by rw [e9]; exact U0.set4 HXB.out _); have HF := jh (show Y0 w6 RR 4 by rw [e9]; exact Y0.set4 HF.out _ _ _ _ _ _ _ _); have nC := jh (show Y0 w6 XB 4 by rw [e9]; exact Y0.set4 nC.out _ _ _ _ _ _ _ _); have B := jh (show Below w.heap.size w w6 by rw [e9]; exact jK B.out hwXB _ _ _ _); have U1 : XB < w6.heap.size := by rw [e9]; simpa using U1
  clear e9; obtain ⟨OA, KA, IA, BA⟩ := jz HXB.out; obtain ⟨c0, c1, c2, c3, f0, f1, f2, f3⟩ := jL HRR.out HF.out
  go_wp2_with fail
  obtain ⟨Q7, B9⟩ := zw HRR B D6 q; obtain ⟨g0, g1, g2, g3⟩ := jz Q7.out; refine bodyPost_ret (v := .tuple #[jj q, .int .i64 0]) ?_ rfl ⟨rfl, B9.out⟩
  simp [results, Tryz.results185, go_sem, jj, words, g0, g1, g2, g3]
 ·skip
  obtain ⟨z, hz⟩ := je (zk x m); rw [hs, ← hz] at CS; clear hs hz; obtain ⟨k, hk⟩ := je (qL x m); rw [← hk] at CC; have hk0 : 0 ≤ k := by rw [hk]; exact SN hge
  clear hk; obtain ⟨OA, KA, IA, BA⟩ := jz HXB.out; obtain ⟨V4, G5, F5, D5⟩ := jz J4.out
  go_wp2_with fail
  clear OA KA IA BA V4 G5 F5 D5; refine (CC.out _).mono ?_; rintro _ w4 ⟨rfl, hb⟩; have J3 := jn hb J3; have U4 := jn hb U4; have J4 := jn hb J4; have HRR := jn hb HRR; have HXB := jn hb HXB; have HF := jh (HF.out.later hb (by omega)); have nC := jh (nC.out.later hb (by omega)); have U1 := Nat.lt_of_lt_of_le U1 hb.size; have B := jw B hb; clear hb; obtain ⟨OA, KA, IA, BA⟩ := jz HXB.out; obtain ⟨V4, G5, F5, D5⟩ := jz J4.out
  go_wp2_with fail
  clear OA KA IA BA V4 G5 F5 D5; refine (CS.out _).mono ?_; rintro _ w5 ⟨rfl, hb⟩; have J3 := jn hb J3; have U4 := jn hb U4; have J4 := jn hb J4; have HRR := jn hb HRR; have HXB := jn hb HXB; have HF := jh (HF.out.later hb (by omega)); have nC := jh (nC.out.later hb (by omega)); have U1 := Nat.lt_of_lt_of_le U1 hb.size; have B := jw B hb; clear hb; obtain ⟨y0, y1, y2, y3, y4, y5, y6, y7⟩ := jL HXB.out nC.out
  go_upto_region 6 with fail
  clear y0 y1 y2 y3 y4 y5 y6 y7; obtain ⟨w6, e9⟩ := je (((((w5.setCell ⟨XB, 0, none⟩ (.int .u64 (jf jd q 0))).setCell ⟨XB, 1, none⟩ (.int .u64 (jf jd q 1))).setCell ⟨XB, 2, none⟩ (.int .u64 (jf jd q 2))).setCell ⟨XB, 3, none⟩ (.int .u64 (jf jd q 3)))); rw [← e9]; have J3 := jh (show U0 w6 AA a by rw [e9]; exact U0.other4 J3.out (by omega) _ _ _ _); have U4 := jh (show U0 w6 BB b by rw [e9]; exact U0.other4 U4.out (by omega) _ _ _ _); have J4 := jh (show U0 w6 MM m by rw [e9]; exact U0.other4 J4.out (by omega) _ _ _ _); have HRR := jh (show U0 w6 RR 0 by rw [e9]; exact U0.other4 HRR.out (by omega) _ _ _ _); have HXB := jh (show U0 w6 XB q by rw [e9]; exact U0.set4 HXB.out _); have HF := jh (show Y0 w6 RR 4 by rw [e9]; exact Y0.set4 HF.out _ _ _ _ _ _ _ _); have nC := jh (show Y0 w6 XB 4 by rw [e9]; exact Y0.set4 nC.out _ _ _ _ _ _ _ _); have B := jh (show Below w.heap.size w w6 by rw [e9]; exact jK B.out hwXB _ _ _ _); have U1 : XB < w6.heap.size := by rw [e9]; simpa using U1
  clear e9; obtain ⟨OA, KA, IA, BA⟩ := jz HXB.out; obtain ⟨c0, c1, c2, c3, f0, f1, f2, f3⟩ := jL HRR.out HF.out
  go_wp2_with fail
  obtain ⟨Q7, B9⟩ := zw HRR B D6 q; obtain ⟨g0, g1, g2, g3⟩ := jz Q7.out; refine bodyPost_ret (v := .tuple #[jj q, .int .i64 0]) ?_ rfl ⟨rfl, B9.out⟩
  simp [results, Tryz.results185, go_sem, jj, words, g0, g1, g2, g3]
 ·skip
  have HS9 := jh hs; clear hs; obtain ⟨k, hk⟩ := je (qL x m); rw [← hk] at CC; have hk0 : k < 0 := by rw [hk]; rw [Jl hlt]; decide
  clear hk; obtain ⟨OA, KA, IA, BA⟩ := jz HXB.out; obtain ⟨V4, G5, F5, D5⟩ := jz J4.out
  go_wp2_with fail
  clear OA KA IA BA V4 G5 F5 D5; refine (CC.out _).mono ?_; rintro _ w4 ⟨rfl, hb⟩; have J3 := jn hb J3; have U4 := jn hb U4; have J4 := jn hb J4; have HRR := jn hb HRR; have HXB := jn hb HXB; have HF := jh (HF.out.later hb (by omega)); have nC := jh (nC.out.later hb (by omega)); have U1 := Nat.lt_of_lt_of_le U1 hb.size; have B := jw B hb; clear hb
  go_upto_region 6 with fail
  rw [HS9.out] at HXB; obtain ⟨OA, KA, IA, BA⟩ := jz HXB.out; obtain ⟨c0, c1, c2, c3, f0, f1, f2, f3⟩ := jL HRR.out HF.out
  go_wp2_with fail
  obtain ⟨Q7, B9⟩ := zw HRR B D6 q; obtain ⟨g0, g1, g2, g3⟩ := jz Q7.out; refine bodyPost_ret (v := .tuple #[jj q, .int .i64 0]) ?_ rfl ⟨rfl, B9.out⟩
  simp [results, Tryz.results185, go_sem, jj, words, g0, g1, g2, g3]
end Go.Proofs.YtmijablfjigbhaaGreatDoor
