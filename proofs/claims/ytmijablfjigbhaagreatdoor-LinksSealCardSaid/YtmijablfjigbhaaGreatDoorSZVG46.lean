/- Layer 4's reference -/
import Derived.Test.YtmijablfjigbhaaGreatDoorSZVG32
import Derived.Test.YtmijablfjigbhaaGreatDoorSZVG45
set_option linter.unusedSimpArgs false
set_option linter.unusedVariables false
set_option maxHeartbeats 4000000
set_option maxRecDepth 100000
namespace Go.Proofs.YtmijablfjigbhaaGreatDoor
open Go.ChangeShapes Go.WideShapes Go.ChangeAt Go.RowKit
theorem JH {m : Nat} (hm : m < jo) (w : World) :
  Calls Tryz.prog 177 #[jj m] w fun e w' => e = .returned (.bool (decide (m < jd))) ∧ Below w.heap.size w w' := by
 obtain ⟨b, hb⟩ : ∃ b : Bool, b = decide (m < jd) := ⟨_, rfl⟩; rw [← hb]; have hi : b = true ↔ jf jd m 1 = 0 ∧ jf jd m 2 = 0 ∧ jf jd m 3 = 0 := by rw [hb, decide_eq_true_iff]; exact cZ hm
 clear hb hm; unfold jj words
 generalize jf jd m 1 = d1 at *
 generalize jf jd m 2 = d2 at *
 generalize jf jd m 3 = d3 at *
 generalize jf jd m 0 = d0 at *
 have h3 : (d1 = 0 ∧ d2 = 0 ∧ d3 = 0 ∧ b = true) ∨ (¬ d1 = 0 ∧ b = false) ∨ (d1 = 0 ∧ ¬ d2 = 0 ∧ b = false) ∨ (d1 = 0 ∧ d2 = 0 ∧ ¬ d3 = 0 ∧ b = false) := by
  cases b <;> simp at hi ⊢ <;> omega
 clear hi
 rcases h3 with ⟨rfl, rfl, rfl, rfl⟩ | ⟨h1, rfl⟩ | ⟨rfl, h2, rfl⟩ | ⟨rfl, rfl, h3, rfl⟩
 ·skip
  go_enter Tryz.func177, Tryz.ntmps177
  go_wp2_with fail
  refine bodyPost_ret (v := .bool true) ?_ rfl ⟨rfl, ja⟩
  simp [results, Tryz.results177, go_sem]
 ·skip
  have h1 : ¬ (d1 : Int) = 0 := by omega
  go_enter Tryz.func177, Tryz.ntmps177
  go_wp2_with fail
  refine bodyPost_ret (v := .bool false) ?_ rfl ⟨rfl, ja⟩
  simp [results, Tryz.results177, go_sem]
 ·skip
  have h2 : ¬ (d2 : Int) = 0 := by omega
  go_enter Tryz.func177, Tryz.ntmps177
  go_wp2_with fail
  refine bodyPost_ret (v := .bool false) ?_ rfl ⟨rfl, ja⟩
  simp [results, Tryz.results177, go_sem]
 ·skip
  have h3 : ¬ (d3 : Int) = 0 := by omega
  go_enter Tryz.func177, Tryz.ntmps177
  go_wp2_with fail
  refine bodyPost_ret (v := .bool false) ?_ rfl ⟨rfl, ja⟩
  simp [results, Tryz.results177, go_sem]
  omega
theorem uJ {r b m : Nat} (hr : r < m) (Z4 : b ≤ 1) (hm : m < jo) (w : World) :
  Calls Tryz.prog 179 #[jj r, .int .u64 b, jj m] w fun e w' => e = .returned (jj ((2 * r + b) % m)) ∧ Below w.heap.size w w' := by
 obtain ⟨q, hq⟩ := je ((2 * r + b) % m); rw [← hq]; obtain ⟨x, hx⟩ := je (qY r r); obtain ⟨y, hy⟩ := je (x + b); obtain ⟨c, hc⟩ := je (qK r r); have hrM := Nat.lt_trans hr hm; have hev : x % 2 = 0 := by rw [hx]; exact rG hr hm
 have hyM : y < jo := by rw [hy, hx]; exact YL hr hm Z4
 have hc2 : c = 0 ∨ c = 1 := by rw [hc]; exact gY hr hm
 have CA := jh (fun W => by have h9 := LV hrM hrM W; rewrite [← hx, ← hc] at h9; unfold jj words at h9; rewrite [lJ (j := 1) hev Z4 (by omega), lJ (j := 2) hev Z4 (by omega), lJ (j := 3) hev Z4 (by omega), ← hy] at h9; exact h9); have hx0 : IntKind.u64.wrap (((jf jd x 0 : Nat) : Int) + (b : Int)) = ((jf jd y 0 : Nat) : Int) := by rw [hy]; exact MX hev Z4
 obtain ⟨x0, V9⟩ := je (jf jd x 0); rw [← V9] at CA hx0
 have h3 : (c = 1 ∧ Jj y m = q) ∨ (c = 0 ∧ m ≤ y ∧ Jj y m = q) ∨ (c = 0 ∧ y < m ∧ y = q) := by
  rcases hc2 with h | h
  ·rcases Nat.lt_or_ge y m with h2 | h2
   ·exact .inr (.inr ⟨h, h2, by rw [hq, hy, hx]; exact YV hr hm Z4 (by rw [← hc]; exact h) (by rw [← hx, ← hy]; exact h2)⟩)
   ·exact .inr (.inl ⟨h, h2, by rw [hq, hy, hx]; exact YK hr hm Z4 (.inr (by rw [← hx, ← hy]; exact h2))⟩)
  ·exact .inl ⟨h, by rw [hq, hy, hx]; exact YK hr hm Z4 (.inl (by rw [← hc]; exact h))⟩
 have CS := jh (fun W => CV hyM hm W); have CC := jh (fun W => QG hyM hm W); clear hq hx hy hc hr Z4 hm hrM hev hyM hc2 V9; unfold jj words at CS CC; unfold jj words
 go_enter Tryz.func179, Tryz.ntmps179
 go_wp2_with fail
 obtain ⟨wz, RB, MB, RR, e9, J5, h_1, h_2, SC, Y6, HRR, HF, B, V8, LC, TC, Y9, D6, U1⟩ := QY w 24 r m; rw [e9, J5, h_1, h_2]; clear e9 J5 h_1 h_2; refine (CA.out _).mono ?_; rintro _ w1 ⟨rfl, hb⟩; have SC := jn hb SC; have Y6 := jn hb Y6; have HRR := jn hb HRR; have HF := jh (HF.out.later hb (by omega)); have U1 := Nat.lt_of_lt_of_le U1 hb.size; have B := jw B hb; clear hb
 go_upto_region 3 with fail
 clear hx0; obtain ⟨w2, e9⟩ := je (w1.alloc (.cells (jD y) 24)); obtain ⟨YB, h9⟩ := je (w1.heap.size); have hb := jc e9; have n9 := jh (show U0 w2 YB y by rw [e9, h9]; exact U0.new _ _ _ _ rfl); have f9 := jh (show Y0 w2 YB 4 by rw [e9, h9]; exact Y0.made _ _ _ _ _ rfl); have l_YB : RR < YB := by omega
 have h8 : YB < w2.heap.size := by rw [e9, h9]; simp
 rw [← e9, ← h9]; clear e9 h9; have SC := jn hb SC; have Y6 := jn hb Y6; have HRR := jn hb HRR; have HF := jh (HF.out.later hb (by omega)); have U1 := Nat.lt_of_lt_of_le U1 hb.size; have B := jw B hb; clear hb; have WE := n9; have BC := f9; have U1 := h8; clear n9 f9 h8; have hwYB : w.heap.size ≤ YB := by omega
 rcases h3 with ⟨rfl, hs⟩ | ⟨rfl, hge, hs⟩ | ⟨rfl, hlt, hs⟩
 ·skip
  obtain ⟨z, hz⟩ := je (zk y m); rw [hs, ← hz] at CS; clear hs hz; obtain ⟨yA, xA, uA, fA⟩ := jz WE.out; obtain ⟨G7, X7, V7, U7⟩ := jz Y6.out
  go_wp2_with fail
  clear yA xA uA fA G7 X7 V7 U7; refine (CS.out _).mono ?_; rintro _ w4 ⟨rfl, hb⟩; have SC := jn hb SC; have Y6 := jn hb Y6; have HRR := jn hb HRR; have WE := jn hb WE; have HF := jh (HF.out.later hb (by omega)); have BC := jh (BC.out.later hb (by omega)); have U1 := Nat.lt_of_lt_of_le U1 hb.size; have B := jw B hb; clear hb; obtain ⟨y0, y1, y2, y3, y4, y5, y6, y7⟩ := jL WE.out BC.out
  go_upto_region 5 with fail
  clear y0 y1 y2 y3 y4 y5 y6 y7; obtain ⟨w5, e9⟩ := je (((((w4.setCell ⟨YB, 0, none⟩ (.int .u64 (jf jd q 0))).setCell ⟨YB, 1, none⟩ (.int .u64 (jf jd q 1))).setCell ⟨YB, 2, none⟩ (.int .u64 (jf jd q 2))).setCell ⟨YB, 3, none⟩ (.int .u64 (jf jd q 3)))); rw [← e9]; have SC := jh (show U0 w5 RB r by rw [e9]; exact U0.other4 SC.out (by omega) _ _ _ _); have Y6 := jh (show U0 w5 MB m by rw [e9]; exact U0.other4 Y6.out (by omega) _ _ _ _); have HRR := jh (show U0 w5 RR 0 by rw [e9]; exact U0.other4 HRR.out (by omega) _ _ _ _); have WE := jh (show U0 w5 YB q by rw [e9]; exact U0.set4 WE.out _); have HF := jh (show Y0 w5 RR 4 by rw [e9]; exact Y0.set4 HF.out _ _ _ _ _ _ _ _); have BC := jh (show Y0 w5 YB 4 by rw [e9]; exact Y0.set4 BC.out _ _ _ _ _ _ _ _); have B := jh (show Below w.heap.size w w5 by rw [e9]; exact jK B.out hwYB _ _ _ _); have U1 : YB < w5.heap.size := by rw [e9]; simpa using U1
  clear e9; obtain ⟨yA, xA, uA, fA⟩ := jz WE.out; obtain ⟨c0, c1, c2, c3, f0, f1, f2, f3⟩ := jL HRR.out HF.out
  go_wp2_with fail
  obtain ⟨Q7, B9⟩ := zw HRR B D6 q; obtain ⟨g0, g1, g2, g3⟩ := jz Q7.out; refine bodyPost_ret (v := jj q) ?_ rfl ⟨rfl, B9.out⟩
  simp [results, Tryz.results179, go_sem, jj, words, g0, g1, g2, g3]
 ·skip
  obtain ⟨z, hz⟩ := je (zk y m); rw [hs, ← hz] at CS; clear hs hz; obtain ⟨k, hk⟩ := je (qL y m); rw [← hk] at CC; have hk0 : 0 ≤ k := by rw [hk]; exact SN hge
  clear hk; obtain ⟨yA, xA, uA, fA⟩ := jz WE.out; obtain ⟨G7, X7, V7, U7⟩ := jz Y6.out
  go_wp2_with fail
  clear yA xA uA fA G7 X7 V7 U7; refine (CC.out _).mono ?_; rintro _ w3 ⟨rfl, hb⟩; have SC := jn hb SC; have Y6 := jn hb Y6; have HRR := jn hb HRR; have WE := jn hb WE; have HF := jh (HF.out.later hb (by omega)); have BC := jh (BC.out.later hb (by omega)); have U1 := Nat.lt_of_lt_of_le U1 hb.size; have B := jw B hb; clear hb; obtain ⟨yA, xA, uA, fA⟩ := jz WE.out; obtain ⟨G7, X7, V7, U7⟩ := jz Y6.out
  go_wp2_with fail
  clear yA xA uA fA G7 X7 V7 U7; refine (CS.out _).mono ?_; rintro _ w4 ⟨rfl, hb⟩; have SC := jn hb SC; have Y6 := jn hb Y6; have HRR := jn hb HRR; have WE := jn hb WE; have HF := jh (HF.out.later hb (by omega)); have BC := jh (BC.out.later hb (by omega)); have U1 := Nat.lt_of_lt_of_le U1 hb.size; have B := jw B hb; clear hb; obtain ⟨y0, y1, y2, y3, y4, y5, y6, y7⟩ := jL WE.out BC.out
  go_upto_region 5 with fail
  clear y0 y1 y2 y3 y4 y5 y6 y7; obtain ⟨w5, e9⟩ := je (((((w4.setCell ⟨YB, 0, none⟩ (.int .u64 (jf jd q 0))).setCell ⟨YB, 1, none⟩ (.int .u64 (jf jd q 1))).setCell ⟨YB, 2, none⟩ (.int .u64 (jf jd q 2))).setCell ⟨YB, 3, none⟩ (.int .u64 (jf jd q 3)))); rw [← e9]; have SC := jh (show U0 w5 RB r by rw [e9]; exact U0.other4 SC.out (by omega) _ _ _ _); have Y6 := jh (show U0 w5 MB m by rw [e9]; exact U0.other4 Y6.out (by omega) _ _ _ _); have HRR := jh (show U0 w5 RR 0 by rw [e9]; exact U0.other4 HRR.out (by omega) _ _ _ _); have WE := jh (show U0 w5 YB q by rw [e9]; exact U0.set4 WE.out _); have HF := jh (show Y0 w5 RR 4 by rw [e9]; exact Y0.set4 HF.out _ _ _ _ _ _ _ _); have BC := jh (show Y0 w5 YB 4 by rw [e9]; exact Y0.set4 BC.out _ _ _ _ _ _ _ _); have B := jh (show Below w.heap.size w w5 by rw [e9]; exact jK B.out hwYB _ _ _ _); have U1 : YB < w5.heap.size := by rw [e9]; simpa using U1
  clear e9; obtain ⟨yA, xA, uA, fA⟩ := jz WE.out; obtain ⟨c0, c1, c2, c3, f0, f1, f2, f3⟩ := jL HRR.out HF.out
  go_wp2_with fail
  obtain ⟨Q7, B9⟩ := zw HRR B D6 q; obtain ⟨g0, g1, g2, g3⟩ := jz Q7.out; refine bodyPost_ret (v := jj q) ?_ rfl ⟨rfl, B9.out⟩
  simp [results, Tryz.results179, go_sem, jj, words, g0, g1, g2, g3]
 ·skip
  have HS9 := jh hs; clear hs; obtain ⟨k, hk⟩ := je (qL y m); rw [← hk] at CC; have hk0 : k < 0 := by rw [hk]; rw [Jl hlt]; decide
  clear hk; obtain ⟨yA, xA, uA, fA⟩ := jz WE.out; obtain ⟨G7, X7, V7, U7⟩ := jz Y6.out
  go_wp2_with fail
  clear yA xA uA fA G7 X7 V7 U7; refine (CC.out _).mono ?_; rintro _ w3 ⟨rfl, hb⟩; have SC := jn hb SC; have Y6 := jn hb Y6; have HRR := jn hb HRR; have WE := jn hb WE; have HF := jh (HF.out.later hb (by omega)); have BC := jh (BC.out.later hb (by omega)); have U1 := Nat.lt_of_lt_of_le U1 hb.size; have B := jw B hb; clear hb
  go_upto_region 5 with fail
  rw [HS9.out] at WE; obtain ⟨yA, xA, uA, fA⟩ := jz WE.out; obtain ⟨c0, c1, c2, c3, f0, f1, f2, f3⟩ := jL HRR.out HF.out
  go_wp2_with fail
  obtain ⟨Q7, B9⟩ := zw HRR B D6 q; obtain ⟨g0, g1, g2, g3⟩ := jz Q7.out; refine bodyPost_ret (v := jj q) ?_ rfl ⟨rfl, B9.out⟩
  simp [results, Tryz.results179, go_sem, jj, words, g0, g1, g2, g3]
theorem lU {lo hi m : Nat} (hlo : lo < jo) (hhi : hi < jo) (hm : m < jo) (h0 : 0 < m) (MC : m < jd) (w : World) :
  Calls Tryz.prog 109 #[jj lo, jj hi, jj m] w fun e w' => e = .returned (.tuple #[jj ((hi * jo + lo) % m), .int .i64 0]) ∧ Below w.heap.size w w' := by
 obtain ⟨x, hx⟩ := je (hi * jo + lo); obtain ⟨q, hq⟩ := je (x % m); rw [← hx, ← hq]; have heq : ∀ W : World, (binOp .eql 24 (.agg #[.int .u64 (jf jd m 0), .int .u64 (jf jd m 1), .int .u64 (jf jd m 2), .int .u64 (jf jd m 3)]) (.agg #[.int .u64 0, .int .u64 0, .int .u64 0, .int .u64 0])).run Tryz.prog W = .ok (.bool false) W := fun W => by have h9 := zp m 0 hm (by decide) W; rewrite [decide_eq_false (by omega)] at h9; simp only [jI] at h9; exact h9
 have CW := jh (fun W => by have h9 := JH hm W; rewrite [decide_eq_true MC] at h9; unfold jj words at h9; exact h9); have H8 := jh (show x / jd ^ 8 % m = 0 by rw [hx]; exact RV hlo hhi); have HL := jh (fun j (hj : j < 4) => show jf jd lo j = x / jd ^ j % jd by rw [hx]; exact (uQ hj).symm); have HH := jh (fun j (hj : j < 4) => show jf jd hi j = x / jd ^ (j + 4) % jd by rw [hx]; exact (PN hlo).symm); have hqW : q < jd := by rw [hq]; exact Nat.lt_trans (Nat.mod_lt _ h0) MC
 have CO := jh (fun W => by have h9 := oO q hqW W; unfold jj words at h9; exact h9); have DM := jh (qy MC).1; have HQ := jh hq; have AU := jh h0; have HW9 := jh MC; have xU := jh hm; clear hx hq hlo hhi hm h0 MC hqW; unfold jj words
 go_enter Tryz.func109, Tryz.ntmps109
 go_wp2_with fail
 obtain ⟨wz, LB, HB, MB, RR, e9, J5, h_1, h_2, h_3, xB, AC, Y6, HRR, HF, B, V8, LC, TC, PI, Y9, D6, U1⟩ := zC w 24 lo hi m; rw [e9, J5, h_1, h_2, h_3]; clear e9 J5 h_1 h_2 h_3; clear heq; refine (CW.out _).mono ?_; rintro _ w1 ⟨rfl, hb⟩; have xB := jn hb xB; have AC := jn hb AC; have Y6 := jn hb Y6; have HRR := jn hb HRR; have HF := jh (HF.out.later hb (by omega)); have U1 := Nat.lt_of_lt_of_le U1 hb.size; have B := jw B hb; clear hb
 go_wp2_with fail
 go_loopw [8, 9] (fun rv i wr => ∃ (z : Int) (n r : Nat), Hid (z = (n : Int) - 1) ∧ n ≤ 8 ∧ rv = .int .u64 r ∧ i = .int .i64 z ∧ Hid (r = x / jd ^ n % m) ∧ Hid (U0 wr LB lo) ∧ Hid (U0 wr HB hi) ∧ Hid (U0 wr MB m) ∧ Hid (U0 wr RR 0) ∧ Hid (Y0 wr RR 4) ∧ Hid (Below w.heap.size w wr) ∧ RR < wr.heap.size) (fun _ i _ => (intOf i + 1).toNat)
 case atStart => exact ⟨7, 8, 0, jh rfl, Nat.le_refl _, rfl, rfl, jh H8.out.symm, xB, AC, Y6, HRR, HF, B, U1⟩
 case round =>
  clear xB AC Y6 HRR HF B U1; obtain ⟨z, n, r, hz, hn8, rfl, rfl, hr, xB, AC, Y6, HRR, HF, B, U1⟩ := hrel
  by_cases hlt : 0 ≤ z
  ·obtain ⟨j, rfl⟩ : ∃ j : Nat, z = (j : Int) := ⟨z.toNat, by omega⟩; have hnj : n = j + 1 := by have := hz.out; omega
   rw [hnj] at hr hn8; clear hz hnj; obtain ⟨d, hd⟩ := je (x / jd ^ j % jd); have hdW : d < jd := by rw [hd]; exact Nat.mod_lt _ qQ
   have hrm : r < m := by rw [hr.out]; exact Nat.mod_lt _ AU.out
   obtain ⟨r2, hr2⟩ := je ((r * jd + d) % m); obtain ⟨q2, hq2⟩ := je ((r * jd + d) / m); have CD := jh (fun W => by have h9 := Qr r d m hdW HW9.out hrm W; rewrite [← hr2, ← hq2] at h9; exact h9); have HR2 := jh (show r2 = x / jd ^ j % m by rw [hr2, hr.out, hd]; exact WY x m j); clear hr2 hq2 hdW hrm
   by_cases h4 : j < 4
   ·skip
    have r_l := xB.out j h4; rw [HL.out j h4, ← hd] at r_l; have h4I : ¬ (4 : Int) ≤ (j : Int) := by omega
    have hmod : (j : Int).tmod 4 = (j : Int) := by rw [Int.tmod_eq_emod_of_nonneg (by omega)]; omega
    have hmod2 : (j : Int) % 4 = (j : Int) := by omega
    clear hd; obtain ⟨G7, X7, V7, U7⟩ := jz Y6.out; rw [DM.out] at G7
    go_wp2_with fail
    clear G7 X7 V7 U7; clear r_l hmod hmod2; refine (CD.out _).mono ?_; rintro _ w3 ⟨rfl, hb⟩; have xB := jn hb xB; have AC := jn hb AC; have Y6 := jn hb Y6; have HRR := jn hb HRR; have HF := jh (HF.out.later hb (by omega)); have U1 := Nat.lt_of_lt_of_le U1 hb.size; have B := jw B hb; clear hb
    go_wp2_with fail
    go_roundw
    case rel => exact ⟨(j : Int) - 1, j, r2, jh rfl, by omega, rfl, by go_num, HR2, xB, AC, Y6, HRR, HF, B, U1⟩
    case measure => (simp [intOf] <;> omega)
   ·skip
    obtain ⟨p, hp⟩ := je (j - 4); have LY : p < 4 := by omega
    have r_l := AC.out p LY; rw [HH.out p LY, show p + 4 = j by omega, ← hd] at r_l; have h4I : (4 : Int) ≤ (j : Int) := by omega
    have eI : (j : Int) - 4 = (p : Int) := by omega
    obtain ⟨p9, hp9⟩ := je (j % 4); have hp5 : p9 < 4 := by omega
    have hmod : (j : Int).tmod 4 = (p9 : Int) := by rw [Int.tmod_eq_emod_of_nonneg (by omega)]; omega
    have hmod2 : (j : Int) % 4 = (p9 : Int) := by omega
    have r_k := xB.out p9 hp5; clear hp hp9; clear hd; obtain ⟨G7, X7, V7, U7⟩ := jz Y6.out; rw [DM.out] at G7
    go_wp2_with fail
    clear G7 X7 V7 U7; clear r_l hmod hmod2 eI r_k; refine (CD.out _).mono ?_; rintro _ w3 ⟨rfl, hb⟩; have xB := jn hb xB; have AC := jn hb AC; have Y6 := jn hb Y6; have HRR := jn hb HRR; have HF := jh (HF.out.later hb (by omega)); have U1 := Nat.lt_of_lt_of_le U1 hb.size; have B := jw B hb; clear hb
    go_wp2_with fail
    go_roundw
    case rel => exact ⟨(j : Int) - 1, j, r2, jh rfl, by omega, rfl, by go_num, HR2, xB, AC, Y6, HRR, HF, B, U1⟩
    case measure => (simp [intOf] <;> omega)
  ·have hn0 : n = 0 := by have := hz.out; omega
   have hrq : r = q := by have := hr.out; rw [hn0, Nat.pow_zero, Nat.div_one] at this; rw [this, HQ.out]
   rw [hrq]; clear hz hr hn0 hrq
   go_wp2_with fail
   refine (CO.out _).mono ?_; rintro _ w4 ⟨rfl, hb⟩; have xB := jn hb xB; have AC := jn hb AC; have Y6 := jn hb Y6; have HRR := jn hb HRR; have HF := jh (HF.out.later hb (by omega)); have U1 := Nat.lt_of_lt_of_le U1 hb.size; have B := jw B hb; clear hb; obtain ⟨c0, c1, c2, c3, f0, f1, f2, f3⟩ := jL HRR.out HF.out
   go_wp2_with fail
   obtain ⟨Q7, B9⟩ := zw HRR B D6 q; obtain ⟨g0, g1, g2, g3⟩ := jz Q7.out; refine bodyPost_ret (v := .tuple #[jj q, .int .i64 0]) ?_ rfl ⟨rfl, B9.out⟩
   simp [results, Tryz.results109, go_sem, jj, words, g0, g1, g2, g3]
theorem nU {lo hi m : Nat} (hlo : lo < jo) (hhi : hi < jo) (hm : m < jo) (h0 : 0 < m) (MC : ¬ m < jd) (w : World) :
  Calls Tryz.prog 109 #[jj lo, jj hi, jj m] w fun e w' => e = .returned (.tuple #[jj ((hi * jo + lo) % m), .int .i64 0]) ∧ Below w.heap.size w w' := by
 obtain ⟨x, hx⟩ := je (hi * jo + lo); obtain ⟨q, hq⟩ := je (x % m); rw [← hx, ← hq]; have heq : ∀ W : World, (binOp .eql 24 (.agg #[.int .u64 (jf jd m 0), .int .u64 (jf jd m 1), .int .u64 (jf jd m 2), .int .u64 (jf jd m 3)]) (.agg #[.int .u64 0, .int .u64 0, .int .u64 0, .int .u64 0])).run Tryz.prog W = .ok (.bool false) W := fun W => by have h9 := zp m 0 hm (by decide) W; rewrite [decide_eq_false (by omega)] at h9; simp only [jI] at h9; exact h9
 have CW := jh (fun W => by have h9 := JH hm W; rewrite [decide_eq_false MC] at h9; unfold jj words at h9; exact h9); have H8 := jh (show KH x m (256 + 256) = 0 by rw [hx]; exact mZ hlo hhi); have HL := jh (fun j (hj : j < 256) => show lo / 2 ^ j % 2 = x / 2 ^ j % 2 by rw [hx]; exact (CQ hj).symm); have HH := jh (fun j => show hi / 2 ^ j % 2 = x / 2 ^ (j + 256) % 2 by rw [hx]; exact (UN hlo).symm); have HQ := jh hq; have AU := jh h0; have HW9 := jh MC; have xU := jh hm; clear hx hq hlo hhi hm h0 MC; unfold jj words
 go_enter Tryz.func109, Tryz.ntmps109
 go_wp2_with fail
 obtain ⟨wz, LB, HB, MB, RR, e9, J5, h_1, h_2, h_3, xB, AC, Y6, HRR, HF, B, V8, LC, TC, PI, Y9, D6, U1⟩ := zC w 24 lo hi m; rw [e9, J5, h_1, h_2, h_3]; clear e9 J5 h_1 h_2 h_3; clear heq; refine (CW.out _).mono ?_; rintro _ w1 ⟨rfl, hb⟩; have xB := jn hb xB; have AC := jn hb AC; have Y6 := jn hb Y6; have HRR := jn hb HRR; have HF := jh (HF.out.later hb (by omega)); have U1 := Nat.lt_of_lt_of_le U1 hb.size; have B := jw B hb; clear hb
 go_upto_region 14 with fail
 obtain ⟨w2, e9⟩ := je (w1.alloc (.cells jA 24)); obtain ⟨BB, h9⟩ := je (w1.heap.size); have hb := jc e9; have n9 := jh (show U0 w2 BB 0 by rw [e9, h9]; exact jP _ _); have f9 := jh (show Y0 w2 BB 4 by rw [e9, h9]; exact Y0.made _ _ _ _ _ rfl); have l_BB : RR < BB := by omega
 have h8 : BB < w2.heap.size := by rw [e9, h9]; simp
 rw [← e9, ← h9]; clear e9 h9; have xB := jn hb xB; have AC := jn hb AC; have Y6 := jn hb Y6; have HRR := jn hb HRR; have HF := jh (HF.out.later hb (by omega)); have U1 := Nat.lt_of_lt_of_le U1 hb.size; have B := jw B hb; clear hb; have U4 := n9; have NC := f9; have U1 := h8; clear n9 f9 h8; have hwBB : w.heap.size ≤ BB := by omega
 have h09 := jh (show 0 = KH x m (256 + 256) from H8.out.symm)
 go_wp2_with fail
 go_loopw [12] (fun i wr => ∃ (z : Int) (n r : Nat), Hid (z = (n : Int) - 1) ∧ n ≤ 256 ∧ i = .int .i64 z ∧ Hid (r = KH x m (n + 256)) ∧ Hid (U0 wr LB lo) ∧ Hid (U0 wr HB hi) ∧ Hid (U0 wr MB m) ∧ Hid (U0 wr RR 0) ∧ Hid (U0 wr BB r) ∧ Hid (Y0 wr RR 4) ∧ Hid (Y0 wr BB 4) ∧ Hid (Below w.heap.size w wr) ∧ BB < wr.heap.size) (fun i _ => (intOf i + 1).toNat)
 case atStart => exact ⟨255, 256, 0, jh rfl, Nat.le_refl _, rfl, h09, xB, AC, Y6, HRR, U4, HF, NC, B, U1⟩
 case round =>
  clear xB AC Y6 HRR U4 HF NC B U1 h09; obtain ⟨z, n, r, hz, hn8, rfl, HR, xB, AC, Y6, HRR, U4, HF, NC, B, U1⟩ := hrel
  by_cases hlt : 0 ≤ z
  ·obtain ⟨j, rfl⟩ : ∃ j : Nat, z = (j : Int) := ⟨z.toNat, by omega⟩; have hnj : n = j + 1 := by have := hz.out; omega
   rw [hnj] at HR hn8; clear hz hnj; have hj : j < 256 := by omega
   obtain ⟨b, hb⟩ := je (x / 2 ^ (j + 256) % 2); have hb1 : b ≤ 1 := by omega
   have hrm : r < m := by rw [HR.out]; exact KU AU.out
   have CB := jh (fun W => by have h9 := xH hi (j : Int) W (by omega) (by omega); rewrite [KE hj, HH.out j, ← hb] at h9; unfold jj words at h9; exact h9); obtain ⟨r2, hr2⟩ := je ((2 * r + b) % m); have CT := jh (fun W => by have h9 := uJ hrm hb1 xU.out W; rewrite [← hr2] at h9; unfold jj words at h9; exact h9); have HR2 := jh (show r2 = x / 2 ^ (j + 256) % m by rw [hr2, HR.out, hb]; rw [show j + 1 + 256 = j + 256 + 1 by omega]; exact IU x m _); clear hb hr2 hb1 hrm HR
   go_upto_region 17 with fail
   refine js 6 (fun _ => none) (by kernel_rfl) (by kernel_rfl) (fun _ _ _ _ _ h => h) (fun F X8 hcl hbl => ?_); have I5 := jr hbl U4 0 (by omega); have Y5 := jr hbl U4 1 (by omega); have X5 := jr hbl U4 2 (by omega); have V5 := jr hbl U4 3 (by omega); have r_HB_0 := jr hbl AC 0 (by omega); have r_HB_1 := jr hbl AC 1 (by omega); have r_HB_2 := jr hbl AC 2 (by omega); have r_HB_3 := jr hbl AC 3 (by omega); have G7 := jr hbl Y6 0 (by omega); have X7 := jr hbl Y6 1 (by omega); have V7 := jr hbl Y6 2 (by omega); have U7 := jr hbl Y6 3 (by omega); have U5 := jh hcl; clear hcl hbl; refine jN 6 0 _ _ (fun _ _ _ => rfl) (by decide) ?_; simp only [List.take_succ_cons, List.take_zero, List.drop_succ_cons, List.drop_zero, Nat.reduceAdd]
   repeat (go_big_quiet_step ((first | (go_at_call 180; with_reducible exact jq U5.out (CB.out _)) | (go_at_call 179; with_reducible exact jq U5.out (CT.out _)))))
   refine wpQuiet_nil ?_; refine jR ?_; intro bs w5 hb _ _; clear I5 Y5 X5 V5 r_HB_0 r_HB_1 r_HB_2 r_HB_3 G7 X7 V7 U7; have xB := jn hb xB; have AC := jn hb AC; have Y6 := jn hb Y6; have HRR := jn hb HRR; have U4 := jn hb U4; have HF := jh (HF.out.later hb (by omega)); have NC := jh (NC.out.later hb (by omega)); have U1 := Nat.lt_of_lt_of_le U1 hb.size; have B := jw B hb; clear hb; simp only [over]; obtain ⟨y0, y1, y2, y3, y4, y5, y6, y7⟩ := jL U4.out NC.out
   go_upto_region 16 with fail
   clear y0 y1 y2 y3 y4 y5 y6 y7; obtain ⟨w6, e9⟩ := je (((((w5.setCell ⟨BB, 0, none⟩ (.int .u64 (jf jd r2 0))).setCell ⟨BB, 1, none⟩ (.int .u64 (jf jd r2 1))).setCell ⟨BB, 2, none⟩ (.int .u64 (jf jd r2 2))).setCell ⟨BB, 3, none⟩ (.int .u64 (jf jd r2 3)))); rw [← e9]; have xB := jh (show U0 w6 LB lo by rw [e9]; exact U0.other4 xB.out (by omega) _ _ _ _); have AC := jh (show U0 w6 HB hi by rw [e9]; exact U0.other4 AC.out (by omega) _ _ _ _); have Y6 := jh (show U0 w6 MB m by rw [e9]; exact U0.other4 Y6.out (by omega) _ _ _ _); have HRR := jh (show U0 w6 RR 0 by rw [e9]; exact U0.other4 HRR.out (by omega) _ _ _ _); have U4 := jh (show U0 w6 BB r2 by rw [e9]; exact U0.set4 U4.out _); have HF := jh (show Y0 w6 RR 4 by rw [e9]; exact Y0.set4 HF.out _ _ _ _ _ _ _ _); have NC := jh (show Y0 w6 BB 4 by rw [e9]; exact Y0.set4 NC.out _ _ _ _ _ _ _ _); have B := jh (show Below w.heap.size w w6 by rw [e9]; exact jK B.out hwBB _ _ _ _); have U1 : BB < w6.heap.size := by rw [e9]; simpa using U1
   clear e9
   go_wp2_with fail
   go_roundw
   case rel => exact ⟨(j : Int) - 1, j, r2, jh rfl, by omega, by go_num, HR2, xB, AC, Y6, HRR, U4, HF, NC, B, U1⟩
   case measure => (simp [intOf] <;> omega)
  ·have hn0 : n = 0 := by have := hz.out; omega
   rw [hn0] at HR; have HR := jh (show r = KH x m 256 from by have h9 := HR.out; rwa [Nat.zero_add] at h9); clear hz hn0 hn8; obtain ⟨wo, rfl⟩ : ∃ wo : World, wo = wr := ⟨_, rfl⟩
   go_wp2_with fail
   go_loopw [13] (fun i wr => ∃ (z : Int) (n r : Nat), Hid (z = (n : Int) - 1) ∧ n ≤ 256 ∧ i = .int .i64 z ∧ Hid (r = KH x m (n)) ∧ Hid (U0 wr LB lo) ∧ Hid (U0 wr HB hi) ∧ Hid (U0 wr MB m) ∧ Hid (U0 wr RR 0) ∧ Hid (U0 wr BB r) ∧ Hid (Y0 wr RR 4) ∧ Hid (Y0 wr BB 4) ∧ Hid (Below w.heap.size w wr) ∧ BB < wr.heap.size) (fun i _ => (intOf i + 1).toNat)
   case atStart => exact ⟨255, 256, r, jh rfl, Nat.le_refl _, rfl, HR, xB, AC, Y6, HRR, U4, HF, NC, B, U1⟩
   case round =>
    clear xB AC Y6 HRR U4 HF NC B U1 HR; obtain ⟨z, n, r, hz, hn8, rfl, HR, xB, AC, Y6, HRR, U4, HF, NC, B, U1⟩ := hrel
    by_cases hlt : 0 ≤ z
    ·obtain ⟨j, rfl⟩ : ∃ j : Nat, z = (j : Int) := ⟨z.toNat, by omega⟩; have hnj : n = j + 1 := by have := hz.out; omega
     rw [hnj] at HR hn8; clear hz hnj; have hj : j < 256 := by omega
     obtain ⟨b, hb⟩ := je (x / 2 ^ (j) % 2); have hb1 : b ≤ 1 := by omega
     have hrm : r < m := by rw [HR.out]; exact KU AU.out
     have CB := jh (fun W => by have h9 := xH lo (j : Int) W (by omega) (by omega); rewrite [KE hj, HL.out j hj, ← hb] at h9; unfold jj words at h9; exact h9); obtain ⟨r2, hr2⟩ := je ((2 * r + b) % m); have CT := jh (fun W => by have h9 := uJ hrm hb1 xU.out W; rewrite [← hr2] at h9; unfold jj words at h9; exact h9); have HR2 := jh (show r2 = x / 2 ^ (j) % m by rw [hr2, HR.out, hb]; exact IU x m _); clear hb hr2 hb1 hrm HR
     go_upto_region 21 with fail
     refine js 6 (fun _ => none) (by kernel_rfl) (by kernel_rfl) (fun _ _ _ _ _ h => h) (fun F X8 hcl hbl => ?_); have I5 := jr hbl U4 0 (by omega); have Y5 := jr hbl U4 1 (by omega); have X5 := jr hbl U4 2 (by omega); have V5 := jr hbl U4 3 (by omega); have r_LB_0 := jr hbl xB 0 (by omega); have r_LB_1 := jr hbl xB 1 (by omega); have r_LB_2 := jr hbl xB 2 (by omega); have r_LB_3 := jr hbl xB 3 (by omega); have G7 := jr hbl Y6 0 (by omega); have X7 := jr hbl Y6 1 (by omega); have V7 := jr hbl Y6 2 (by omega); have U7 := jr hbl Y6 3 (by omega); have U5 := jh hcl; clear hcl hbl; refine jN 6 0 _ _ (fun _ _ _ => rfl) (by decide) ?_; simp only [List.take_succ_cons, List.take_zero, List.drop_succ_cons, List.drop_zero, Nat.reduceAdd]
     repeat (go_big_quiet_step ((first | (go_at_call 180; with_reducible exact jq U5.out (CB.out _)) | (go_at_call 179; with_reducible exact jq U5.out (CT.out _)))))
     refine wpQuiet_nil ?_; refine jR ?_; intro bs w5 hb _ _; clear I5 Y5 X5 V5 r_LB_0 r_LB_1 r_LB_2 r_LB_3 G7 X7 V7 U7; have xB := jn hb xB; have AC := jn hb AC; have Y6 := jn hb Y6; have HRR := jn hb HRR; have U4 := jn hb U4; have HF := jh (HF.out.later hb (by omega)); have NC := jh (NC.out.later hb (by omega)); have U1 := Nat.lt_of_lt_of_le U1 hb.size; have B := jw B hb; clear hb; simp only [over]; obtain ⟨y0, y1, y2, y3, y4, y5, y6, y7⟩ := jL U4.out NC.out
     go_upto_region 20 with fail
     clear y0 y1 y2 y3 y4 y5 y6 y7; obtain ⟨w6, e9⟩ := je (((((w5.setCell ⟨BB, 0, none⟩ (.int .u64 (jf jd r2 0))).setCell ⟨BB, 1, none⟩ (.int .u64 (jf jd r2 1))).setCell ⟨BB, 2, none⟩ (.int .u64 (jf jd r2 2))).setCell ⟨BB, 3, none⟩ (.int .u64 (jf jd r2 3)))); rw [← e9]; have xB := jh (show U0 w6 LB lo by rw [e9]; exact U0.other4 xB.out (by omega) _ _ _ _); have AC := jh (show U0 w6 HB hi by rw [e9]; exact U0.other4 AC.out (by omega) _ _ _ _); have Y6 := jh (show U0 w6 MB m by rw [e9]; exact U0.other4 Y6.out (by omega) _ _ _ _); have HRR := jh (show U0 w6 RR 0 by rw [e9]; exact U0.other4 HRR.out (by omega) _ _ _ _); have U4 := jh (show U0 w6 BB r2 by rw [e9]; exact U0.set4 U4.out _); have HF := jh (show Y0 w6 RR 4 by rw [e9]; exact Y0.set4 HF.out _ _ _ _ _ _ _ _); have NC := jh (show Y0 w6 BB 4 by rw [e9]; exact Y0.set4 NC.out _ _ _ _ _ _ _ _); have B := jh (show Below w.heap.size w w6 by rw [e9]; exact jK B.out hwBB _ _ _ _); have U1 : BB < w6.heap.size := by rw [e9]; simpa using U1
     clear e9
     go_wp2_with fail
     go_roundw
     case rel => exact ⟨(j : Int) - 1, j, r2, jh rfl, by omega, by go_num, HR2, xB, AC, Y6, HRR, U4, HF, NC, B, U1⟩
     case measure => (simp [intOf] <;> omega)
    ·have hn0 : n = 0 := by have := hz.out; omega
     have hrq : r = q := by have h9 := HR.out; rw [hn0, aW] at h9; rw [h9, HQ.out]
     rw [hrq] at U4; clear hz HR hn0 hrq; obtain ⟨I5, Y5, X5, V5⟩ := jz U4.out; obtain ⟨c0, c1, c2, c3, f0, f1, f2, f3⟩ := jL HRR.out HF.out
     go_wp2_with fail
     obtain ⟨Q7, B9⟩ := zw HRR B D6 q; obtain ⟨g0, g1, g2, g3⟩ := jz Q7.out; refine bodyPost_ret (v := .tuple #[jj q, .int .i64 0]) ?_ rfl ⟨rfl, B9.out⟩
     simp [results, Tryz.results109, go_sem, jj, words, g0, g1, g2, g3]
theorem fM {lo hi m : Nat} (hlo : lo < jo) (hhi : hi < jo) (hm : m < jo) (h0 : 0 < m) (w : World) :
  Calls Tryz.prog 109 #[jj lo, jj hi, jj m] w fun e w' => e = .returned (.tuple #[jj ((hi * jo + lo) % m), .int .i64 0]) ∧ Below w.heap.size w w' := by
 by_cases h : m < jd
 ·exact lU hlo hhi hm h0 h w
 ·exact nU hlo hhi hm h0 h w
theorem dO (k : Nat) (n : Int) (h : n = k) (hk : k < jd) (w : World) : Calls Tryz.prog 178 #[.int .u64 n] w fun e w' => e = .returned (jj k) ∧ Below w.heap.size w w' := by
 subst h; exact oO k hk w
theorem uV {a b : Nat} : 0 < qL a b ↔ b < a := by unfold qL; split <;> (try split) <;> omega
theorem cmp_neg {a b : Nat} : qL a b < 0 ↔ a < b := by unfold qL; split <;> (try split) <;> omega
theorem Za {a b m : Nat} (ha : a < jo) (Z4 : b < jo) (hm : m < jo) (w : World) :
  Calls Tryz.prog 214 #[jj a, jj b, jj m] w fun e w' => e = .returned (.bool (decide (1 < m ∧ a < m ∧ b < m))) ∧ Below w.heap.size w w' := by
 have C1 := jh (fun W => by have h9 := dO 1 1 rfl (by unfold jd; omega) W; unfold jj words at h9; exact h9); obtain ⟨z1, hz1⟩ := je (qL m 1); have Kz1 := jh (fun W => by have h9 := QG hm (show 1 < jo by unfold jo; omega) W; rewrite [← hz1] at h9; unfold jj words at h9; exact h9); obtain ⟨z2, hz2⟩ := je (qL a m); have Kz2 := jh (fun W => by have h9 := QG ha hm W; rewrite [← hz2] at h9; unfold jj words at h9; exact h9); obtain ⟨z3, hz3⟩ := je (qL b m); have Kz3 := jh (fun W => by have h9 := QG Z4 hm W; rewrite [← hz3] at h9; unfold jj words at h9; exact h9); obtain ⟨D, hD⟩ := je (decide (1 < m ∧ a < m ∧ b < m)); rw [← hD]
 have h3 : (¬ 0 < z1 ∧ D = false) ∨ (0 < z1 ∧ ¬ z2 < 0 ∧ D = false) ∨ (0 < z1 ∧ z2 < 0 ∧ ¬ z3 < 0 ∧ D = false) ∨ (0 < z1 ∧ z2 < 0 ∧ z3 < 0 ∧ D = true) := by
  rw [hz1, hz2, hz3, hD, uV, cmp_neg, cmp_neg]
  by_cases h1 : 1 < m <;> by_cases h2 : a < m <;> by_cases h3 : b < m <;> simp [h1, h2, h3]
 clear hz1 hz2 hz3 hD ha Z4 hm; unfold jj words
 go_enter Tryz.func214, Tryz.ntmps214
 go_upto_region 1 with fail
 obtain ⟨wz, AA, BB, MM, e9, J5, h_1, h_2, J3, U4, J4, B, V8, LC, TC, Y9, hwMM, U1⟩ := box3 w 24 a b m; rw [e9, J5, h_1, h_2]; clear e9 J5 h_1 h_2
 rcases h3 with ⟨h1, rfl⟩ | ⟨h1, h2, rfl⟩ | ⟨h1, h2, h3, rfl⟩ | ⟨h1, h2, h3, rfl⟩
 ·skip
  refine js 16 (fun _ => none) (by kernel_rfl) (by kernel_rfl) (fun _ _ _ _ _ h => h) (fun F X8 hcl hbl => ?_); have U3 := jr hbl J3 0 (by omega); have I4 := jr hbl J3 1 (by omega); have X3 := jr hbl J3 2 (by omega); have V3 := jr hbl J3 3 (by omega); have I5 := jr hbl U4 0 (by omega); have Y5 := jr hbl U4 1 (by omega); have X5 := jr hbl U4 2 (by omega); have V5 := jr hbl U4 3 (by omega); have V4 := jr hbl J4 0 (by omega); have G5 := jr hbl J4 1 (by omega); have F5 := jr hbl J4 2 (by omega); have D5 := jr hbl J4 3 (by omega); have U5 := jh hcl; clear hcl hbl; refine jN 16 0 _ _ (fun _ _ _ => rfl) (by decide) ?_; simp only [List.take_succ_cons, List.take_zero, List.drop_succ_cons, List.drop_zero, Nat.reduceAdd]
  repeat (go_big_quiet_step ((first | (go_at_call 178; with_reducible exact jq U5.out (C1.out _)) | (go_at_call 181; with_reducible exact jq U5.out (Kz1.out _)))))
  refine wpQuiet_nil ?_; refine jR ?_; intro bs w2 hb _ _; clear U3 I4 X3 V3 I5 Y5 X5 V5 V4 G5 F5 D5; obtain ⟨J3, U4, J4, U1, B⟩ := lat3 hb J3 U4 J4 U1 B; clear hb; simp only [over]
  go_wp2_with fail
  refine bodyPost_ret (v := .bool false) ?_ rfl ⟨rfl, B.out⟩
  simp [results, Tryz.results214, go_sem]
 ·skip
  refine js 16 (fun _ => none) (by kernel_rfl) (by kernel_rfl) (fun _ _ _ _ _ h => h) (fun F X8 hcl hbl => ?_); have U3 := jr hbl J3 0 (by omega); have I4 := jr hbl J3 1 (by omega); have X3 := jr hbl J3 2 (by omega); have V3 := jr hbl J3 3 (by omega); have I5 := jr hbl U4 0 (by omega); have Y5 := jr hbl U4 1 (by omega); have X5 := jr hbl U4 2 (by omega); have V5 := jr hbl U4 3 (by omega); have V4 := jr hbl J4 0 (by omega); have G5 := jr hbl J4 1 (by omega); have F5 := jr hbl J4 2 (by omega); have D5 := jr hbl J4 3 (by omega); have U5 := jh hcl; clear hcl hbl; refine jN 16 0 _ _ (fun _ _ _ => rfl) (by decide) ?_; simp only [List.take_succ_cons, List.take_zero, List.drop_succ_cons, List.drop_zero, Nat.reduceAdd]
  repeat (go_big_quiet_step ((first | (go_at_call 178; with_reducible exact jq U5.out (C1.out _)) | (go_at_call 181; with_reducible exact jq U5.out (Kz1.out _)) | (go_at_call 181; with_reducible exact jq U5.out (Kz2.out _)))))
  refine wpQuiet_nil ?_; refine jR ?_; intro bs w2 hb _ _; clear U3 I4 X3 V3 I5 Y5 X5 V5 V4 G5 F5 D5; obtain ⟨J3, U4, J4, U1, B⟩ := lat3 hb J3 U4 J4 U1 B; clear hb; simp only [over]
  go_wp2_with fail
  refine bodyPost_ret (v := .bool false) ?_ rfl ⟨rfl, B.out⟩
  simp [results, Tryz.results214, go_sem] <;> omega
 ·skip
  refine js 16 (fun _ => none) (by kernel_rfl) (by kernel_rfl) (fun _ _ _ _ _ h => h) (fun F X8 hcl hbl => ?_); have U3 := jr hbl J3 0 (by omega); have I4 := jr hbl J3 1 (by omega); have X3 := jr hbl J3 2 (by omega); have V3 := jr hbl J3 3 (by omega); have I5 := jr hbl U4 0 (by omega); have Y5 := jr hbl U4 1 (by omega); have X5 := jr hbl U4 2 (by omega); have V5 := jr hbl U4 3 (by omega); have V4 := jr hbl J4 0 (by omega); have G5 := jr hbl J4 1 (by omega); have F5 := jr hbl J4 2 (by omega); have D5 := jr hbl J4 3 (by omega); have U5 := jh hcl; clear hcl hbl; refine jN 16 0 _ _ (fun _ _ _ => rfl) (by decide) ?_; simp only [List.take_succ_cons, List.take_zero, List.drop_succ_cons, List.drop_zero, Nat.reduceAdd]
  repeat (go_big_quiet_step ((first | (go_at_call 178; with_reducible exact jq U5.out (C1.out _)) | (go_at_call 181; with_reducible exact jq U5.out (Kz1.out _)) | (go_at_call 181; with_reducible exact jq U5.out (Kz2.out _)) | (go_at_call 181; with_reducible exact jq U5.out (Kz3.out _)))))
  refine wpQuiet_nil ?_; refine jR ?_; intro bs w2 hb _ _; clear U3 I4 X3 V3 I5 Y5 X5 V5 V4 G5 F5 D5; obtain ⟨J3, U4, J4, U1, B⟩ := lat3 hb J3 U4 J4 U1 B; clear hb; simp only [over]
  go_wp2_with fail
  refine bodyPost_ret (v := .bool false) ?_ rfl ⟨rfl, B.out⟩
  simp [results, Tryz.results214, go_sem] <;> omega
 ·skip
  refine js 16 (fun _ => none) (by kernel_rfl) (by kernel_rfl) (fun _ _ _ _ _ h => h) (fun F X8 hcl hbl => ?_); have U3 := jr hbl J3 0 (by omega); have I4 := jr hbl J3 1 (by omega); have X3 := jr hbl J3 2 (by omega); have V3 := jr hbl J3 3 (by omega); have I5 := jr hbl U4 0 (by omega); have Y5 := jr hbl U4 1 (by omega); have X5 := jr hbl U4 2 (by omega); have V5 := jr hbl U4 3 (by omega); have V4 := jr hbl J4 0 (by omega); have G5 := jr hbl J4 1 (by omega); have F5 := jr hbl J4 2 (by omega); have D5 := jr hbl J4 3 (by omega); have U5 := jh hcl; clear hcl hbl; refine jN 16 0 _ _ (fun _ _ _ => rfl) (by decide) ?_; simp only [List.take_succ_cons, List.take_zero, List.drop_succ_cons, List.drop_zero, Nat.reduceAdd]
  repeat (go_big_quiet_step ((first | (go_at_call 178; with_reducible exact jq U5.out (C1.out _)) | (go_at_call 181; with_reducible exact jq U5.out (Kz1.out _)) | (go_at_call 181; with_reducible exact jq U5.out (Kz2.out _)) | (go_at_call 181; with_reducible exact jq U5.out (Kz3.out _)))))
  refine wpQuiet_nil ?_; refine jR ?_; intro bs w2 hb _ _; clear U3 I4 X3 V3 I5 Y5 X5 V5 V4 G5 F5 D5; obtain ⟨J3, U4, J4, U1, B⟩ := lat3 hb J3 U4 J4 U1 B; clear hb; simp only [over]
  go_wp2_with fail
  refine bodyPost_ret (v := .bool true) ?_ rfl ⟨rfl, B.out⟩
  simp [results, Tryz.results214, go_sem]
theorem MQ {a b m : Nat} (hm : m < jo) (ha : a < m) (Z4 : b < m) (MC : m < jd) (w : World) :
  Calls Tryz.prog 217 #[jj a, jj b, jj m] w fun e w' => e = .returned (jj (a * b % m)) ∧ Below w.heap.size w w' := by
 obtain ⟨q, hq⟩ := je (a * b % m); rw [← hq]; have CW := jh (fun W => by have h9 := JH hm W; rewrite [decide_eq_true MC] at h9; unfold jj words at h9; exact h9); have haW := Nat.lt_trans ha MC; have hbW := Nat.lt_trans Z4 MC; obtain ⟨h, hh⟩ := je (a * b / 18446744073709551616); obtain ⟨l, hl⟩ := je (a * b % 18446744073709551616); have CX := jh (fun w => by have h9 := Tryz.bits_Mul64 a b haW hbW w; rewrite [← hh, ← hl] at h9; exact h9); have TD : l < jd := by rw [hl]; exact Nat.mod_lt _ (by omega)
 have hh9 : h < m := by rw [hh]; exact (Nat.div_lt_iff_lt_mul (by omega)).2 (Nat.mul_lt_mul_of_lt_of_lt ha hbW)
 have hv : h * jd + l = a * b := by rw [hh, hl, Nat.mul_comm]; exact Nat.div_add_mod _ _
 obtain ⟨d, hd⟩ := je ((h * jd + l) / m); have CD := jh (fun w => by have h9 := Qr h l m TD MC hh9 w; rewrite [← hd, hv, ← hq] at h9; exact h9); have hqW : q < jd := by rw [hq]; exact Nat.lt_trans (Nat.mod_lt _ (by omega)) MC
 have CO := jh (fun W => by have h9 := oO q hqW W; unfold jj words at h9; exact h9); have da := jh (qy haW).1; have db := jh (qy hbW).1; have dm := jh (qy MC).1; clear hq hm ha Z4 MC haW hbW hh hl TD hh9 hv hd hqW; unfold jj words
 go_enter Tryz.func217, Tryz.ntmps217
 go_wp2_with fail
 obtain ⟨wz, AA, BB, MM, RR, e9, J5, h_1, h_2, h_3, J3, U4, J4, HRR, HF, B, V8, LC, TC, PI, Y9, D6, U1⟩ := zC w 24 a b m; rw [e9, J5, h_1, h_2, h_3]; clear e9 J5 h_1 h_2 h_3; refine (CW.out _).mono ?_; rintro _ w1 ⟨rfl, hb⟩; have J3 := jn hb J3; have U4 := jn hb U4; have J4 := jn hb J4; have HRR := jn hb HRR; have HF := jh (HF.out.later hb (by omega)); have U1 := Nat.lt_of_lt_of_le U1 hb.size; have B := jw B hb; clear hb; obtain ⟨U3, I4, X3, V3⟩ := jz J3.out; obtain ⟨I5, Y5, X5, V5⟩ := jz U4.out; rw [da.out] at U3; rw [db.out] at I5
 go_wp2_with fail
 clear U3 I4 X3 V3 I5 Y5 X5 V5; refine (CX.out _).mono ?_; rintro _ w2 ⟨rfl, rfl⟩; obtain ⟨V4, G5, F5, D5⟩ := jz J4.out; rw [dm.out] at V4
 go_wp2_with fail
 clear V4 G5 F5 D5; refine (CD.out _).mono ?_; rintro _ w3 ⟨rfl, hb⟩; have J3 := jn hb J3; have U4 := jn hb U4; have J4 := jn hb J4; have HRR := jn hb HRR; have HF := jh (HF.out.later hb (by omega)); have U1 := Nat.lt_of_lt_of_le U1 hb.size; have B := jw B hb; clear hb
 go_wp2_with fail
 refine (CO.out _).mono ?_; rintro _ w4 ⟨rfl, hb⟩; have J3 := jn hb J3; have U4 := jn hb U4; have J4 := jn hb J4; have HRR := jn hb HRR; have HF := jh (HF.out.later hb (by omega)); have U1 := Nat.lt_of_lt_of_le U1 hb.size; have B := jw B hb; clear hb; obtain ⟨c0, c1, c2, c3, f0, f1, f2, f3⟩ := jL HRR.out HF.out
 go_wp2_with fail
 obtain ⟨Q7, B9⟩ := zw HRR B D6 q; obtain ⟨g0, g1, g2, g3⟩ := jz Q7.out; refine bodyPost_ret (v := jj q) ?_ rfl ⟨rfl, B9.out⟩
 simp [results, Tryz.results217, go_sem, jj, words, g0, g1, g2, g3]
theorem NQ {a b m : Nat} (hm : m < jo) (ha : a < m) (Z4 : b < m) (MC : ¬ m < jd) (w : World) :
  Calls Tryz.prog 217 #[jj a, jj b, jj m] w fun e w' => e = .returned (jj (a * b % m)) ∧ Below w.heap.size w w' := by
 obtain ⟨q, hq⟩ := je (a * b % m); rw [← hq]; have CW := jh (fun W => by have h9 := JH hm W; rewrite [decide_eq_false MC] at h9; unfold jj words at h9; exact h9); have haM := Nat.lt_trans ha hm; have hbM := Nat.lt_trans Z4 hm; obtain ⟨x, hx⟩ := je (vI a b); obtain ⟨y, hy⟩ := je (MG a b); have CX := jh (fun W => by have h9 := Mul_ref haM hbM W; rewrite [← hx, ← hy] at h9; unfold jj words at h9; exact h9); have hxy : y * jo + x = a * b := by rw [hx, hy]; unfold vI MG; rw [Nat.mul_comm]; exact Nat.div_add_mod _ _
 have CD := jh (fun W => by have h9 := fM (lo := x) (hi := y) (by rw [hx]; exact YU _ _) (by rw [hy]; exact aV haM hbM) hm (by omega) W; rewrite [hxy, ← hq] at h9; unfold jj words at h9; exact h9); clear hq hm ha Z4 MC haM hbM hx hy hxy; unfold jj words
 go_enter Tryz.func217, Tryz.ntmps217
 go_wp2_with fail
 obtain ⟨wz, AA, BB, MM, RR, e9, J5, h_1, h_2, h_3, J3, U4, J4, HRR, HF, B, V8, LC, TC, PI, Y9, D6, U1⟩ := zC w 24 a b m; rw [e9, J5, h_1, h_2, h_3]; clear e9 J5 h_1 h_2 h_3; refine (CW.out _).mono ?_; rintro _ w1 ⟨rfl, hb⟩; have J3 := jn hb J3; have U4 := jn hb U4; have J4 := jn hb J4; have HRR := jn hb HRR; have HF := jh (HF.out.later hb (by omega)); have U1 := Nat.lt_of_lt_of_le U1 hb.size; have B := jw B hb; clear hb; obtain ⟨U3, I4, X3, V3⟩ := jz J3.out; obtain ⟨I5, Y5, X5, V5⟩ := jz U4.out
 go_wp2_with fail
 clear U3 I4 X3 V3 I5 Y5 X5 V5; refine (CX.out _).mono ?_; rintro _ w2 ⟨rfl, hb⟩; have J3 := jn hb J3; have U4 := jn hb U4; have J4 := jn hb J4; have HRR := jn hb HRR; have HF := jh (HF.out.later hb (by omega)); have U1 := Nat.lt_of_lt_of_le U1 hb.size; have B := jw B hb; clear hb
 go_upto_region 6 with fail
 obtain ⟨w3, e8⟩ := je ((w2.alloc (.cells (jD x) 24))); have s8 : w3.heap.size = w2.heap.size + 1 := by rw [e8]; simp
 rw [← e8, ← s8]; obtain ⟨XB, h9⟩ := je (w2.heap.size); have hb := jc e8; have n9 := jh (show U0 w3 XB x by rw [e8, h9]; exact U0.new _ _ _ _ rfl); have f9 := jh (show Y0 w3 XB 4 by rw [e8, h9]; exact Y0.made _ _ _ _ _ rfl); have l_XB : RR < XB := by omega
 have h8 : XB < w3.heap.size := by omega
 have hwXB : w.heap.size ≤ XB := by omega
 rw [← h9]; clear e8 h9; have J3 := jn hb J3; have U4 := jn hb U4; have J4 := jn hb J4; have HRR := jn hb HRR; have HF := jh (HF.out.later hb (by omega)); have U1 := Nat.lt_of_lt_of_le U1 hb.size; have B := jw B hb; clear hb; have HXB := n9; have nC := f9; have U1 := h8; clear n9 f9 h8 s8; obtain ⟨w4, e9⟩ := je (w3.alloc (.cells (jD y) 24)); obtain ⟨YB, h9⟩ := je (w3.heap.size); have hb := jc e9; have n9 := jh (show U0 w4 YB y by rw [e9, h9]; exact U0.new _ _ _ _ rfl); have f9 := jh (show Y0 w4 YB 4 by rw [e9, h9]; exact Y0.made _ _ _ _ _ rfl); have l_YB : XB < YB := by omega
 have h8 : YB < w4.heap.size := by rw [e9, h9]; simp
 rw [← e9, ← h9]; clear e9 h9; have J3 := jn hb J3; have U4 := jn hb U4; have J4 := jn hb J4; have HRR := jn hb HRR; have HXB := jn hb HXB; have HF := jh (HF.out.later hb (by omega)); have nC := jh (nC.out.later hb (by omega)); have U1 := Nat.lt_of_lt_of_le U1 hb.size; have B := jw B hb; clear hb; have WE := n9; have BC := f9; have U1 := h8; clear n9 f9 h8; have hwYB : w.heap.size ≤ YB := by omega
 obtain ⟨OA, KA, IA, BA⟩ := jz HXB.out; obtain ⟨yA, xA, uA, fA⟩ := jz WE.out; obtain ⟨V4, G5, F5, D5⟩ := jz J4.out
 go_wp2_with fail
 clear OA KA IA BA yA xA uA fA V4 G5 F5 D5; refine (CD.out _).mono ?_; rintro _ w5 ⟨rfl, hb⟩; have J3 := jn hb J3; have U4 := jn hb U4; have J4 := jn hb J4; have HRR := jn hb HRR; have HXB := jn hb HXB; have WE := jn hb WE; have HF := jh (HF.out.later hb (by omega)); have nC := jh (nC.out.later hb (by omega)); have BC := jh (BC.out.later hb (by omega)); have U1 := Nat.lt_of_lt_of_le U1 hb.size; have B := jw B hb; clear hb
 go_upto_region 7 with fail
 obtain ⟨w6, e9⟩ := je (w5.alloc (.cells (jD q) 24)); obtain ⟨ZB, h9⟩ := je (w5.heap.size); have hb := jc e9; have n9 := jh (show U0 w6 ZB q by rw [e9, h9]; exact U0.new _ _ _ _ rfl); have f9 := jh (show Y0 w6 ZB 4 by rw [e9, h9]; exact Y0.made _ _ _ _ _ rfl); have l_ZB : YB < ZB := by omega
 have h8 : ZB < w6.heap.size := by rw [e9, h9]; simp
 rw [← e9, ← h9]; clear e9 h9; have J3 := jn hb J3; have U4 := jn hb U4; have J4 := jn hb J4; have HRR := jn hb HRR; have HXB := jn hb HXB; have WE := jn hb WE; have HF := jh (HF.out.later hb (by omega)); have nC := jh (nC.out.later hb (by omega)); have BC := jh (BC.out.later hb (by omega)); have U1 := Nat.lt_of_lt_of_le U1 hb.size; have B := jw B hb; clear hb; have HZB := n9; have HFZB := f9; have U1 := h8; clear n9 f9 h8; have hwZB : w.heap.size ≤ ZB := by omega
 obtain ⟨r_ZB_0, r_ZB_1, r_ZB_2, r_ZB_3⟩ := jz HZB.out; obtain ⟨c0, c1, c2, c3, f0, f1, f2, f3⟩ := jL HRR.out HF.out
 go_wp2_with fail
 obtain ⟨Q7, B9⟩ := zw HRR B D6 q; obtain ⟨g0, g1, g2, g3⟩ := jz Q7.out; refine bodyPost_ret (v := jj q) ?_ rfl ⟨rfl, B9.out⟩
 simp [results, Tryz.results217, go_sem, jj, words, g0, g1, g2, g3]
theorem ZP {a b m : Nat} (hm : m < jo) (ha : a < m) (hb : b < m) (w : World) :
  Calls Tryz.prog 217 #[jj a, jj b, jj m] w fun e w' => e = .returned (jj (a * b % m)) ∧ Below w.heap.size w w' := by
 by_cases h : m < jd
 ·exact MQ hm ha hb h w
 ·exact NQ hm ha hb h w
theorem rY {a b m : Nat} (hm : m < jo) (hmay : 1 < m ∧ a < m ∧ b < m) (w : World) :
  Calls Tryz.prog 184 #[jj a, jj b, jj m] w fun e w' => e = .returned (.tuple #[jj (a * b % m), .int .i64 0]) ∧ Below w.heap.size w w' := by
 have ha := Nat.lt_trans hmay.2.1 hm; have Z4 := Nat.lt_trans hmay.2.2 hm; have CM := jh (fun W => by have h9 := Za ha Z4 hm W; rewrite [decide_eq_true hmay] at h9; unfold jj words at h9; exact h9); obtain ⟨q, hq⟩ := je (a * b % m); rw [← hq]; have CT := jh (fun W => by have h9 := ZP hm hmay.2.1 hmay.2.2 W; rewrite [← hq] at h9; unfold jj words at h9; exact h9); clear ha Z4 hm hmay hq; unfold jj words
 go_enter Tryz.func184, Tryz.ntmps184
 go_wp2_with fail
 obtain ⟨wz, AA, BB, MM, RR, e9, J5, h_1, h_2, h_3, J3, U4, J4, HRR, HF, B, V8, LC, TC, PI, Y9, D6, U1⟩ := zC w 24 a b m; rw [e9, J5, h_1, h_2, h_3]; clear e9 J5 h_1 h_2 h_3; refine (CM.out _).mono ?_; rintro _ w1 ⟨rfl, hb⟩; have J3 := jn hb J3; have U4 := jn hb U4; have J4 := jn hb J4; have HRR := jn hb HRR; have HF := jh (HF.out.later hb (by omega)); have U1 := Nat.lt_of_lt_of_le U1 hb.size; have B := jw B hb; clear hb; obtain ⟨U3, I4, X3, V3⟩ := jz J3.out; obtain ⟨I5, Y5, X5, V5⟩ := jz U4.out; obtain ⟨V4, G5, F5, D5⟩ := jz J4.out
 go_wp2_with fail
 clear U3 I4 X3 V3 I5 Y5 X5 V5 V4 G5 F5 D5; refine (CT.out _).mono ?_; rintro _ w2 ⟨rfl, hb⟩; have J3 := jn hb J3; have U4 := jn hb U4; have J4 := jn hb J4; have HRR := jn hb HRR; have HF := jh (HF.out.later hb (by omega)); have U1 := Nat.lt_of_lt_of_le U1 hb.size; have B := jw B hb; clear hb; obtain ⟨c0, c1, c2, c3, f0, f1, f2, f3⟩ := jL HRR.out HF.out
 go_wp2_with fail
 obtain ⟨Q7, B9⟩ := zw HRR B D6 q; obtain ⟨g0, g1, g2, g3⟩ := jz Q7.out; refine bodyPost_ret (v := .tuple #[jj q, .int .i64 0]) ?_ rfl ⟨rfl, B9.out⟩
 simp [results, Tryz.results184, go_sem, jj, words, g0, g1, g2, g3]
end Go.Proofs.YtmijablfjigbhaaGreatDoor
