/- Layers 3 and 4's references -/
import Derived.Test.YtmijablfjigbhaaGreatDoorSZVG30
set_option linter.unusedSimpArgs false
set_option linter.unusedVariables false
set_option maxHeartbeats 4000000
set_option maxRecDepth 100000
namespace Go.Proofs.YtmijablfjigbhaaGreatDoor
open Go.ChangeShapes Go.WideShapes Go.ChangeAt Go.RowKit
theorem SN {a b : Nat} (h : b ≤ a) : 0 ≤ qL a b := by
 unfold qL; rw [if_neg (by omega)]
 split <;> omega
theorem cmpN_le {a b : Nat} (h : a ≤ b) : qL a b ≤ 0 := by
 unfold qL
 split
 ·omega
 ·rw [if_pos (by omega)]; omega
theorem of_low {a b m : Nat} (h1 : m ≤ 1) (hm : m < jo) (ha : a < jo) (Z4 : b < jo) {f : FuncId} {caps : Array Value} (w : World) :
  Calls Tryz.prog 209 #[.agg #[.func (.func f) #[] caps], jj a, jj b, jj m] w fun e w' => e = .returned (.tuple #[jj 0, .int .i64 1]) ∧ Below w.heap.size w w' := by
 have C1 := jh (fun w => by have h := zx 1 1 rfl (by decide) w; unfold jj words at h; exact h); obtain ⟨z, hz⟩ := je (qL m 1); have K1 := jh (fun w => by have h := qP hm (show 1 < jo by decide) w; rewrite [← hz] at h; unfold jj words at h; exact h); have hz0 : z ≤ 0 := by rw [hz]; exact cmpN_le h1
 clear h1 hm ha Z4 hz; unfold jj words at *
 go_enter Tryz.func209, Tryz.ntmps209
 go_wp2_with fail
 obtain ⟨w0, e0⟩ := je (w.alloc (.cells #[.func (.func f) #[] caps] 272)); have b0 := jc e0; have s0 : w0.heap.size = w.heap.size + 1 := by rw [e0]; simp
 rw [← e0, ← s0]; have HB0 := jh b0; clear e0 b0 s0; obtain ⟨wz, AA, BB, MM, RR, e9, J5, h_1, h_2, h_3, J3, U4, J4, HRR, HF, B, V8, LC, TC, PI, Y9, D6, U1⟩ := zC w0 24 a b m; rw [e9, J5, h_1, h_2, h_3]; clear e9 J5 h_1 h_2 h_3; refine js 16 (fun _ => none) (by kernel_rfl) (by kernel_rfl) (fun _ _ _ _ _ h => h) (fun F X8 hcl hbl => ?_); have U3 := jr hbl J3 0 (by omega); have I4 := jr hbl J3 1 (by omega); have X3 := jr hbl J3 2 (by omega); have V3 := jr hbl J3 3 (by omega); have I5 := jr hbl U4 0 (by omega); have Y5 := jr hbl U4 1 (by omega); have X5 := jr hbl U4 2 (by omega); have V5 := jr hbl U4 3 (by omega); have V4 := jr hbl J4 0 (by omega); have G5 := jr hbl J4 1 (by omega); have F5 := jr hbl J4 2 (by omega); have D5 := jr hbl J4 3 (by omega); have U5 := jh hcl; clear hcl hbl; refine jN 16 0 _ _ (fun _ _ _ => rfl) (by decide) ?_; simp only [List.take_succ_cons, List.take_zero, List.drop_succ_cons, List.drop_zero, Nat.reduceAdd]
 repeat (go_big_quiet_step ((first | (go_at_call 194; with_reducible exact jq U5.out (C1.out _)) | (go_at_call 201; with_reducible exact jq U5.out (K1.out _)))))
 refine wpQuiet_nil ?_; refine jR ?_; intro bs w2 hb _ _; clear U3 I4 X3 V3 I5 Y5 X5 V5 V4 G5 F5 D5; obtain ⟨J3, U4, J4, HRR, HF, U1, B⟩ := qG hb J3 U4 J4 HRR HF U1 B; clear hb; simp only [over]; obtain ⟨c0, c1, c2, c3, f0, f1, f2, f3⟩ := jL HRR.out HF.out
 go_wp2_with fail
 have B9 := jh (jK B.out D6 (.int .u64 0) (.int .u64 0) (.int .u64 0) (.int .u64 0)); refine bodyPost_ret (v := .tuple #[.agg #[.int .u64 0, .int .u64 0, .int .u64 0, .int .u64 0], .int .i64 1]) ?_ rfl ⟨by simp only [jI]; rfl, jk HB0.out B9.out⟩
 simp [results, Tryz.results209, go_sem, c0, c1, c2, c3]
theorem of_no {a b m : Nat} (h1 : 1 < m) (hge : m ≤ a) (hm : m < jo) (ha : a < jo) (Z4 : b < jo) {f : FuncId} {caps : Array Value} (w : World) :
  Calls Tryz.prog 209 #[.agg #[.func (.func f) #[] caps], jj a, jj b, jj m] w fun e w' => e = .returned (.tuple #[jj 0, .int .i64 1]) ∧ Below w.heap.size w w' := by
 have C1 := jh (fun w => by have h := zx 1 1 rfl (by decide) w; unfold jj words at h; exact h); obtain ⟨z, hz⟩ := je (qL a m); have K1 := jh (fun w => by have h := qP hm (show 1 < jo by decide) w; rewrite [zX h1] at h; unfold jj words at h; exact h); have K2 := jh (fun w => by have h := qP ha hm w; rewrite [← hz] at h; unfold jj words at h; exact h); have hz0 : 0 ≤ z := by rw [hz]; exact SN hge
 clear h1 hge hm ha Z4 hz; unfold jj words at *
 go_enter Tryz.func209, Tryz.ntmps209
 go_wp2_with fail
 obtain ⟨w0, e0⟩ := je (w.alloc (.cells #[.func (.func f) #[] caps] 272)); have b0 := jc e0; have s0 : w0.heap.size = w.heap.size + 1 := by rw [e0]; simp
 rw [← e0, ← s0]; have HB0 := jh b0; clear e0 b0 s0; obtain ⟨wz, AA, BB, MM, RR, e9, J5, h_1, h_2, h_3, J3, U4, J4, HRR, HF, B, V8, LC, TC, PI, Y9, D6, U1⟩ := zC w0 24 a b m; rw [e9, J5, h_1, h_2, h_3]; clear e9 J5 h_1 h_2 h_3; refine js 16 (fun _ => none) (by kernel_rfl) (by kernel_rfl) (fun _ _ _ _ _ h => h) (fun F X8 hcl hbl => ?_); have U3 := jr hbl J3 0 (by omega); have I4 := jr hbl J3 1 (by omega); have X3 := jr hbl J3 2 (by omega); have V3 := jr hbl J3 3 (by omega); have I5 := jr hbl U4 0 (by omega); have Y5 := jr hbl U4 1 (by omega); have X5 := jr hbl U4 2 (by omega); have V5 := jr hbl U4 3 (by omega); have V4 := jr hbl J4 0 (by omega); have G5 := jr hbl J4 1 (by omega); have F5 := jr hbl J4 2 (by omega); have D5 := jr hbl J4 3 (by omega); have U5 := jh hcl; clear hcl hbl; refine jN 16 0 _ _ (fun _ _ _ => rfl) (by decide) ?_; simp only [List.take_succ_cons, List.take_zero, List.drop_succ_cons, List.drop_zero, Nat.reduceAdd]
 repeat (go_big_quiet_step ((first | (go_at_call 194; with_reducible exact jq U5.out (C1.out _)) | (go_at_call 201; with_reducible exact jq U5.out (K1.out _)) | (go_at_call 201; with_reducible exact jq U5.out (K2.out _)))))
 refine wpQuiet_nil ?_; refine jR ?_; intro bs w2 hb _ _; clear U3 I4 X3 V3 I5 Y5 X5 V5 V4 G5 F5 D5; obtain ⟨J3, U4, J4, HRR, HF, U1, B⟩ := qG hb J3 U4 J4 HRR HF U1 B; clear hb; simp only [over]; obtain ⟨c0, c1, c2, c3, f0, f1, f2, f3⟩ := jL HRR.out HF.out
 go_wp2_with fail
 have B9 := jh (jK B.out D6 (.int .u64 0) (.int .u64 0) (.int .u64 0) (.int .u64 0)); refine bodyPost_ret (v := .tuple #[.agg #[.int .u64 0, .int .u64 0, .int .u64 0, .int .u64 0], .int .i64 1]) ?_ rfl ⟨by simp only [jI]; rfl, jk HB0.out B9.out⟩
 simp [results, Tryz.results209, go_sem, c0, c1, c2, c3]
theorem nM : jo % 2 = 0 := by unfold jo; rfl
theorem Jz {r m : Nat} (hr : r < m) (hm : m < jo) : (qY r r = r + r ∧ qK r r = 0 ∧ r + r < jo) ∨ (qY r r + jo = r + r ∧ qK r r = 1) := by
 unfold qY qK
 rcases Nat.lt_or_ge (r + r) jo with h | h
 ·exact .inl ⟨Nat.mod_eq_of_lt h, Nat.div_eq_of_lt h, h⟩
 ·refine .inr ⟨?_, ?_⟩
  ·rw [Nat.mod_eq_sub_mod h, Nat.mod_eq_of_lt (by omega)]; omega
  ·exact Nat.div_eq_of_lt_le (by omega) (by omega)
theorem rG {r m : Nat} (hr : r < m) (hm : m < jo) : qY r r % 2 = 0 := by
 have := nM
 rcases Jz hr hm with ⟨h, _⟩ | ⟨h, _⟩ <;> omega
theorem YL {r b m : Nat} (hr : r < m) (hm : m < jo) (hb : b ≤ 1) : qY r r + b < jo := by
 have := nM; have := rG hr hm; have := Qf r r; omega
theorem lJ {x b j : Nat} (hx : x % 2 = 0) (hb : b ≤ 1) (hj : 1 ≤ j) : jf jd x j = jf jd (x + b) j := by
 obtain ⟨i, rfl⟩ : ∃ i, j = i + 1 := ⟨j - 1, by omega⟩; unfold jf; rw [Nat.pow_succ, Nat.mul_comm, ← Nat.div_div_eq_div_mul, ← Nat.div_div_eq_div_mul]; have : (x + b) / jd = x / jd := by unfold jd; omega
 rw [this]
theorem MX {x b : Nat} (hx : x % 2 = 0) (hb : b ≤ 1) : IntKind.u64.wrap (((jf jd x 0 : Nat) : Int) + (b : Int)) = ((jf jd (x + b) 0 : Nat) : Int) := by
 have e : jf jd (x + b) 0 = jf jd x 0 + b := by unfold jf jd; rw [Nat.pow_zero, Nat.div_one, Nat.div_one]; omega
 have h := qO (x + b) 0; rw [e] at h ⊢; rw [← Int.natCast_add, qj]
 congr 1
 exact Nat.mod_eq_of_lt h
theorem NU {y m : Nat} (h : m ≤ y) (hy : y < jo) : Jj y m = y - m := by
 unfold Jj; rw [show y + jo - m = (y - m) + jo by omega, Nat.add_mod_right, Nat.mod_eq_of_lt (by omega)]
theorem YK {r b m : Nat} (hr : r < m) (hm : m < jo) (hb : b ≤ 1) (h : qK r r = 1 ∨ m ≤ qY r r + b) : Jj (qY r r + b) m = (2 * r + b) % m := by
 rw [← dL hr hb]
 rcases Jz hr hm with ⟨h1, h2, h3⟩ | ⟨h1, h2⟩
 ·rw [NU (by omega) (YL hr hm hb), h1, if_pos (by omega)]; omega
 ·unfold Jj; rw [Nat.mod_eq_of_lt (by omega), if_pos (by omega)]; omega
theorem YV {r b m : Nat} (hr : r < m) (hm : m < jo) (hb : b ≤ 1) (h0 : qK r r = 0) (h : qY r r + b < m) : qY r r + b = (2 * r + b) % m := by
 rw [← dL hr hb]
 rcases Jz hr hm with ⟨h1, h2, h3⟩ | ⟨h1, h2⟩
 ·rw [if_neg (by omega)]; omega
 ·omega
theorem gY {r m : Nat} (hr : r < m) (hm : m < jo) : qK r r = 0 ∨ qK r r = 1 := by
 rcases Jz hr hm with ⟨_, h, _⟩ | ⟨_, h⟩
 ·exact .inl h
 ·exact .inr h
theorem cZ {m : Nat} (hm : m < jo) : m < jd ↔ jf jd m 1 = 0 ∧ jf jd m 2 = 0 ∧ jf jd m 3 = 0 := by
 constructor
 ·intro h; exact (qy h).2
 ·rintro ⟨h1, h2, h3⟩; have h := JU (k := 1) hm (fun j hj hj4 => by rcases (show j = 1 ∨ j = 2 ∨ j = 3 by omega) with rfl | rfl | rfl <;> assumption) (by omega)
  rwa [Nat.pow_one] at h
theorem uQ {lo hi j : Nat} (hj : j < 4) : (hi * jo + lo) / jd ^ j % jd = jf jd lo j := by
 unfold jf; obtain ⟨k, hk⟩ : ∃ k, jo = jd ^ j * jd * k := ⟨jd ^ (3 - j), by rw [← QF, ← Nat.pow_succ, ← Nat.pow_add]; congr 1; omega⟩; rw [show hi * jo + lo = lo + jd ^ j * (jd * (hi * k)) by rw [hk, Nat.add_comm]; congr 1; ac_rfl, Nat.add_mul_div_left _ _ (Nat.pow_pos qQ), Nat.add_mul_mod_self_left]
theorem PN {lo hi j : Nat} (hlo : lo < jo) : (hi * jo + lo) / jd ^ (j + 4) % jd = jf jd hi j := by
 unfold jf; rw [Nat.add_comm j 4, Nat.pow_add, QF, ← Nat.div_div_eq_div_mul, Nat.add_comm, Nat.add_mul_div_right _ _ qN, Nat.div_eq_of_lt hlo, Nat.zero_add]
theorem CQ {lo hi j : Nat} (hj : j < 256) : (hi * jo + lo) / 2 ^ j % 2 = lo / 2 ^ j % 2 := by
 obtain ⟨k, hk⟩ : ∃ k, jo = 2 ^ j * 2 * k := ⟨2 ^ (255 - j), by rw [dC, ← Nat.pow_succ, ← Nat.pow_add]; congr 1; omega⟩; rw [show hi * jo + lo = lo + 2 ^ j * (2 * (hi * k)) by rw [hk, Nat.add_comm]; congr 1; ac_rfl, Nat.add_mul_div_left _ _ (Nat.two_pow_pos j), Nat.add_mul_mod_self_left]
theorem UN {lo hi j : Nat} (hlo : lo < jo) : (hi * jo + lo) / 2 ^ (j + 256) % 2 = hi / 2 ^ j % 2 := by
 rw [Nat.add_comm j 256, Nat.pow_add, ← dC, ← Nat.div_div_eq_div_mul, Nat.add_comm, Nat.add_mul_div_right _ _ qN, Nat.div_eq_of_lt hlo, Nat.zero_add]
theorem RV {lo hi m : Nat} (hlo : lo < jo) (hhi : hi < jo) : (hi * jo + lo) / jd ^ 8 % m = 0 := by
 rw [Nat.div_eq_of_lt, Nat.zero_mod]; rw [show 8 = 4 + 4 from rfl, Nat.pow_add, QF]; have : (hi + 1) * jo ≤ jo * jo := Nat.mul_le_mul_right _ hhi; rw [Nat.succ_mul] at this; omega
def KH (x m n : Nat) : Nat := x / 2 ^ n % m
theorem aW (x m : Nat) : KH x m 0 = x % m := by unfold KH; rw [Nat.pow_zero, Nat.div_one]
theorem KU {x m n : Nat} (h : 0 < m) : KH x m n < m := Nat.mod_lt _ h
theorem lZ {x k m n : Nat} (h : x < 2 ^ k * 2 ^ n) : KH x m (k + n) = 0 := by
 unfold KH; rw [Nat.pow_add, Nat.div_eq_of_lt h, Nat.zero_mod]
theorem mZ {lo hi m : Nat} (hlo : lo < jo) (hhi : hi < jo) : KH (hi * jo + lo) m (256 + 256) = 0 := by
 refine lZ ?_; have h : (hi + 1) * jo ≤ jo * jo := Nat.mul_le_mul_right _ hhi; rw [Nat.succ_mul] at h; have e : (2 : Nat) ^ 256 = jo := dC.symm
 calc hi * jo + lo < jo * jo := by omega
  _ = 2 ^ 256 * 2 ^ 256 := by rw [e]
end Go.Proofs.YtmijablfjigbhaaGreatDoor
