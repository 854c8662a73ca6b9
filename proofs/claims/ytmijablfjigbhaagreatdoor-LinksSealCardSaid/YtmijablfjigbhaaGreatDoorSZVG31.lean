/- Layer 8 (groups) -/
import Derived.Test.YtmijablfjigbhaaGreatDoorSZVG30
set_option linter.unusedSimpArgs false
set_option linter.unusedVariables false
set_option maxHeartbeats 4000000
set_option maxRecDepth 100000
namespace Go.Proofs.YtmijablfjigbhaaGreatDoor
open Go.ChangeShapes Go.WideShapes Go.ChangeAt Go.RowKit
theorem exp_word {x y m M : Nat} (hx : x < m) (hy : y < m) (hm : m < jd) (w : World) (hM : U0 w M m) :
  Calls Tryz.prog 204 #[.int .u64 (x : Nat), .int .u64 (y : Nat), .pointer (some ⟨M, 0, none⟩)] w fun e w' => e = .returned (.int .u64 ((x * y % m : Nat) : Int)) ∧ Below w.heap.size w w' := by
 have CW := jh (fun w => KO (Nat.lt_trans hx hm) (Nat.lt_trans hy hm) hm (Nat.mul_lt_mul_of_lt_of_lt hx (Nat.lt_trans hy hm)) w); obtain ⟨q, hq⟩ := je (x * y % m); rw [← hq] at CW ⊢; obtain ⟨dm, _, _, _⟩ := qy hm; obtain ⟨r0, r1, r2, r3⟩ := jz hM; rw [dm] at r0; clear dm hq hx hy hm hM
 go_enter Tryz.func204, Tryz.ntmps204
 go_wp2_with fail
 refine (CW.out _).mono ?_; rintro _ w2 ⟨rfl, hb⟩
 go_wp2_with fail
 refine bodyPost_ret (v := .int .u64 (q : Nat)) ?_ rfl ⟨rfl, hb⟩
 simp [results, Tryz.results204, go_sem]
theorem exp_long {x y m M : Nat} (hx : x < m) (hy : y < m) (hm : m < jo) (w : World) (hM : U0 w M m) :
  Calls Tryz.prog 207 #[jj x, jj y, .pointer (some ⟨M, 0, none⟩)] w fun e w' => e = .returned (jj (x * y % m)) ∧ Below w.heap.size w w' := by
 have CT := jh (fun w => wI hx hy hm w); obtain ⟨q, hq⟩ := je (x * y % m); rw [← hq] at CT ⊢; have hMl := hM.lt; have HM := jh hM; clear hq hx hy hm hM; unfold jj words at *
 go_enter Tryz.func207, Tryz.ntmps207
 have q_0 := fun o1 o2 o3 => (U0.alloc (U0.alloc (U0.alloc HM.out o1) o2) o3) 0 (by omega)
 have q_1 := fun o1 o2 o3 => (U0.alloc (U0.alloc (U0.alloc HM.out o1) o2) o3) 1 (by omega)
 have q_2 := fun o1 o2 o3 => (U0.alloc (U0.alloc (U0.alloc HM.out o1) o2) o3) 2 (by omega)
 have q_3 := fun o1 o2 o3 => (U0.alloc (U0.alloc (U0.alloc HM.out o1) o2) o3) 3 (by omega)
 go_wp2_with fail
 clear q_0 q_1 q_2 q_3; obtain ⟨wz, XX, YY, RR, e9, J5, h_1, h_2, VA, HYY, HRR, HF, B, V8, LC, TC, Y9, D6, U1⟩ := QY w 24 x y; rw [e9, J5, h_1, h_2]; clear e9 J5 h_1 h_2; refine (CT.out _).mono ?_; rintro _ w2 ⟨rfl, hb⟩; obtain ⟨VA, HYY, HRR, HF, U1, B⟩ := OI hb VA HYY HRR HF U1 B; clear hb; obtain ⟨c0, c1, c2, c3, f0, f1, f2, f3⟩ := jL HRR.out HF.out
 go_wp2_with fail
 obtain ⟨Q7, B9⟩ := zw HRR B D6 q; obtain ⟨g0, g1, g2, g3⟩ := jz Q7.out; refine bodyPost_ret (v := jj q) ?_ rfl ⟨rfl, B9.out⟩
 simp [results, Tryz.results207, go_sem, jj, words, g0, g1, g2, g3]
theorem UT {a n m N : Nat} (ha : a < m) (h1 : 1 < m) (hn : n < jo) (hml : m < jd) (u : Value) (w : World) (hN : U0 w N n) :
  Calls Tryz.prog 202 #[jj a, jj a, jj m, .pointer (some ⟨N, 0, none⟩)] w fun e w' => e = .returned (jj (a ^ n % m)) ∧ Below w.heap.size w w' := by
 obtain ⟨q, hq⟩ := je (a ^ n % m); rw [← hq]; have hqm : q < m := by rw [hq]; exact Nat.mod_lt _ (by omega)
 have hm : m < jo := by unfold jo; unfold jd at hml; omega
 have da := jh (qy (Nat.lt_trans ha hml)).1; have hqw := Nat.lt_trans hqm hml; have CO := jh (fun w => by have h := nS q hqw w; unfold jj words at h; exact h); obtain ⟨L, hL⟩ := je (jX m); have hLI : (L : Int) ≤ 64 := by have := dB.2 hml; omega
 have CB := jh (fun w => by have h := JT hm w; rw [← hL] at h; unfold jj words at h; exact h); have HAM := jh ha; have yU := jh h1; have EJ := jh hn; have HML := jh hml; have HMM9 := jh hm; have HQ := jh hq; have hNl := hN.lt; have HN := jh hN; clear hq hL ha h1 hn hml hm hqm hqw hN; unfold jj words
 go_enter Tryz.func202, Tryz.ntmps202
 go_wp2_with fail
 obtain ⟨wz, AA, BB, MM, RR, e9, J5, h_1, h_2, h_3, J3, U4, J4, HRR, HF, B, V8, LC, TC, PI, Y9, D6, U1⟩ := zC w 24 a a m; rw [e9, J5, h_1, h_2, h_3]; clear e9 J5 h_1 h_2 h_3; have Z5 := jh (U0.later (B.out.mono (Nat.le_refl _)) HN.out); clear HN; obtain ⟨NN, hNN9⟩ := je (N); rw [← hNN9] at Z5 hNl ⊢; clear hNN9; refine (CB.out _).mono ?_; rintro _ w2 ⟨rfl, hb⟩; have J3 := jn hb J3; obtain ⟨U4, J4, HRR, Z5, HF, U1, B⟩ := qG hb U4 J4 HRR Z5 HF U1 B; clear hb; obtain ⟨U3, I4, X3, V3⟩ := jz J3.out; obtain ⟨V6, U6, P6, O6⟩ := jz Z5.out; rw [da.out] at U3
 go_wp2_with fail
 clear U3 I4 X3 V3 V6 U6 P6 O6; have CP := aS (f := 204) (caps := #[.pointer (some ⟨MM, 0, none⟩)]) HAM.out yU.out EJ.out w2 (by intro args W; simp [go_sem]) (fun x y W hx hy hb => exp_word hx hy HML.out W (U0.later hb J4.out)); rw [← HQ.out] at CP; unfold jj words at CP; refine CP.mono ?_; rintro _ w3 ⟨rfl, hb⟩; clear CP; have J3 := jn hb J3; obtain ⟨U4, J4, HRR, Z5, HF, U1, B⟩ := qG hb U4 J4 HRR Z5 HF U1 B; clear hb
 go_wp2_with fail
 refine (CO.out _).mono ?_; rintro _ w4 ⟨rfl, hb⟩; have J3 := jn hb J3; obtain ⟨U4, J4, HRR, Z5, HF, U1, B⟩ := qG hb U4 J4 HRR Z5 HF U1 B; clear hb; obtain ⟨c0, c1, c2, c3, f0, f1, f2, f3⟩ := jL HRR.out HF.out
 go_wp2_with fail
 obtain ⟨Q7, B9⟩ := zw HRR B D6 q; obtain ⟨g0, g1, g2, g3⟩ := jz Q7.out; refine bodyPost_ret (v := jj q) ?_ rfl ⟨rfl, B9.out⟩
 simp [results, Tryz.results202, go_sem, jj, words, g0, g1, g2, g3]
theorem FX {a n m N : Nat} (ha : a < m) (h1 : 1 < m) (hn : n < jo) (hml : jd ≤ m) (hm : m < jo) (u : Value) (w : World) (hN : U0 w N n) :
  Calls Tryz.prog 202 #[jj a, jj a, jj m, .pointer (some ⟨N, 0, none⟩)] w fun e w' => e = .returned (jj (a ^ n % m)) ∧ Below w.heap.size w w' := by
 obtain ⟨q, hq⟩ := je (a ^ n % m); rw [← hq]; have hqm : q < m := by rw [hq]; exact Nat.mod_lt _ (by omega)
 have C1 := jh (fun w => by have h := zx 1 1 rfl (by decide) w; unfold jj words at h; exact h); obtain ⟨L, hL⟩ := je (jX m); have hLI : ¬ (L : Int) ≤ 64 := by have := mt dB.1 (show ¬ m < jd by omega); omega
 have CB := jh (fun w => by have h := JT hm w; rw [← hL] at h; unfold jj words at h; exact h); have HAM := jh ha; have yU := jh h1; have EJ := jh hn; have HML := jh hml; have HMM9 := jh hm; have HQ := jh hq; have hNl := hN.lt; have HN := jh hN; clear hq hL ha h1 hn hml hm hqm hN; unfold jj words
 go_enter Tryz.func202, Tryz.ntmps202
 go_wp2_with fail
 obtain ⟨wz, AA, BB, MM, RR, e9, J5, h_1, h_2, h_3, J3, U4, J4, HRR, HF, B, V8, LC, TC, PI, Y9, D6, U1⟩ := zC w 24 a a m; rw [e9, J5, h_1, h_2, h_3]; clear e9 J5 h_1 h_2 h_3; have Z5 := jh (U0.later (B.out.mono (Nat.le_refl _)) HN.out); clear HN; obtain ⟨NN, hNN9⟩ := je (N); rw [← hNN9] at Z5 hNl ⊢; clear hNN9; refine (CB.out _).mono ?_; rintro _ w2 ⟨rfl, hb⟩; have J3 := jn hb J3; obtain ⟨U4, J4, HRR, Z5, HF, U1, B⟩ := qG hb U4 J4 HRR Z5 HF U1 B; clear hb; obtain ⟨U3, I4, X3, V3⟩ := jz J3.out; obtain ⟨V6, U6, P6, O6⟩ := jz Z5.out
 go_wp2_with fail
 clear U3 I4 X3 V3 V6 U6 P6 O6; refine js 5 (fun _ => none) (by kernel_rfl) (by kernel_rfl) (fun _ _ _ _ _ h => h) (fun F X8 hcl hbl => ?_); have U3 := jr hbl J3 0 (by omega); have I4 := jr hbl J3 1 (by omega); have X3 := jr hbl J3 2 (by omega); have V3 := jr hbl J3 3 (by omega); have V6 := jr hbl Z5 0 (by omega); have U6 := jr hbl Z5 1 (by omega); have P6 := jr hbl Z5 2 (by omega); have O6 := jr hbl Z5 3 (by omega); have CP := jh (fun X9 : Wd F => by have h := MW (f := 207) (caps := #[.pointer (some ⟨MM, 0, none⟩)]) HAM.out yU.out HMM9.out EJ.out X9.world (by intro args W; simp [go_sem]) (fun x y W hx hy hb => exp_long hx hy HMM9.out W (U0.later hb (U0.later (hbl X9.world X9.fact) J4.out))); rw [← HQ.out] at h; unfold jj words at h; exact h); have U5 := jh hcl; clear hcl hbl; refine jN 5 0 _ _ (fun _ _ _ => rfl) (by decide) ?_; simp only [List.take_succ_cons, List.take_zero, List.drop_succ_cons, List.drop_zero, Nat.reduceAdd]
 repeat (go_big_quiet_step ((first | (go_at_call 194; with_reducible exact jq U5.out (C1.out _)) | (go_at_call 206; with_reducible exact jq U5.out (CP.out _)))))
 refine wpQuiet_nil ?_; refine jR ?_; intro bs w3 hb _ _; clear U3 I4 X3 V3 V6 U6 P6 O6; have J3 := jn hb J3; obtain ⟨U4, J4, HRR, Z5, HF, U1, B⟩ := qG hb U4 J4 HRR Z5 HF U1 B; clear hb; simp only [over]; obtain ⟨c0, c1, c2, c3, f0, f1, f2, f3⟩ := jL HRR.out HF.out
 go_wp2_with fail
 obtain ⟨Q7, B9⟩ := zw HRR B D6 q; obtain ⟨g0, g1, g2, g3⟩ := jz Q7.out; refine bodyPost_ret (v := jj q) ?_ rfl ⟨rfl, B9.out⟩
 simp [results, Tryz.results202, go_sem, jj, words, g0, g1, g2, g3]
theorem exp1_any {a n m N : Nat} (ha : a < m) (h1 : 1 < m) (hn : n < jo) (hm : m < jo) (w : World) (hN : U0 w N n) :
  Calls Tryz.prog 202 #[jj a, jj a, jj m, .pointer (some ⟨N, 0, none⟩)] w fun e w' => e = .returned (jj (a ^ n % m)) ∧ Below w.heap.size w w' := by
 rcases Nat.lt_or_ge m jd with h | h
 ·exact UT ha h1 hn h (.bool true) w hN
 ·exact FX ha h1 hn h hm (.bool true) w hN
theorem Exp_any {a n m : Nat} (ha : a < m) (h1 : 1 < m) (hn : n < jo) (hm : m < jo) (w : World) :
  Calls Tryz.prog 172 #[jj a, jj n, jj m] w fun e w' => e = .returned (.tuple #[jj (a ^ n % m), .int .i64 0]) ∧ Below w.heap.size w w' := by
 obtain ⟨q, hq⟩ := je (a ^ n % m); rw [← hq]; have HQ := jh hq; have HA9 := jh ha; have yU := jh h1; have EJ := jh hn; have xU := jh hm; clear hq ha h1 hn hm; unfold jj words
 go_enter Tryz.func172, Tryz.ntmps172
 go_wp2_with fail
 obtain ⟨wz, AA, NN, MM, RR, e9, J5, h_1, h_2, h_3, J3, Z5, J4, HRR, HF, B, V8, LC, TC, PI, Y9, D6, U1⟩ := zC w 24 a n m; rw [e9, J5, h_1, h_2, h_3]; clear e9 J5 h_1 h_2 h_3; have CO := lS (q := q) (f := 202) (caps := #[.pointer (some ⟨NN, 0, none⟩)]) HA9.out HA9.out yU.out xU.out wz (by intro args W; simp [go_sem]) (fun W hb => by have h := exp1_any HA9.out yU.out EJ.out xU.out W (U0.later hb Z5.out); rw [← HQ.out] at h; exact h); unfold jj words at CO; refine CO.mono ?_; rintro _ w3 ⟨rfl, hb⟩; clear CO; obtain ⟨J3, Z5, J4, HRR, HF, U1, B⟩ := qG hb J3 Z5 J4 HRR HF U1 B; clear hb; obtain ⟨c0, c1, c2, c3, f0, f1, f2, f3⟩ := jL HRR.out HF.out
 go_wp2_with fail
 obtain ⟨Q7, B9⟩ := zw HRR B D6 q; obtain ⟨g0, g1, g2, g3⟩ := jz Q7.out; refine bodyPost_ret (v := .tuple #[jj q, .int .i64 0]) ?_ rfl ⟨rfl, B9.out⟩
 simp [results, Tryz.results172, go_sem, jj, words, g0, g1, g2, g3]
theorem Mul_any {a n m : Nat} (ha : a < m) (h1 : 1 < m) (hn : n < m) (hm : m < jo) (w : World) :
  Calls Tryz.prog 174 #[jj a, jj n, jj m] w fun e w' => e = .returned (.tuple #[jj (a * n % m), .int .i64 0]) ∧ Below w.heap.size w w' := by
 obtain ⟨q, hq⟩ := je (a * n % m); rw [← hq]; have HQ := jh hq; have HA9 := jh ha; have yU := jh h1; have EJ := jh hn; have xU := jh hm; clear hq ha h1 hn hm; unfold jj words
 go_enter Tryz.func174, Tryz.ntmps174
 go_wp2_with fail
 obtain ⟨wz, AA, NN, MM, RR, e9, J5, h_1, h_2, h_3, J3, Z5, J4, HRR, HF, B, V8, LC, TC, PI, Y9, D6, U1⟩ := zC w 24 a n m; rw [e9, J5, h_1, h_2, h_3]; clear e9 J5 h_1 h_2 h_3; have CO := lS (q := q) (f := 208) (caps := #[]) HA9.out EJ.out yU.out xU.out wz (by intro args W; simp [go_sem]) (fun W hb => by have h := wI HA9.out EJ.out xU.out W; rw [← HQ.out] at h; exact h); unfold jj words at CO; refine CO.mono ?_; rintro _ w3 ⟨rfl, hb⟩; clear CO; obtain ⟨J3, Z5, J4, HRR, HF, U1, B⟩ := qG hb J3 Z5 J4 HRR HF U1 B; clear hb; obtain ⟨c0, c1, c2, c3, f0, f1, f2, f3⟩ := jL HRR.out HF.out
 go_wp2_with fail
 obtain ⟨Q7, B9⟩ := zw HRR B D6 q; obtain ⟨g0, g1, g2, g3⟩ := jz Q7.out; refine bodyPost_ret (v := .tuple #[jj q, .int .i64 0]) ?_ rfl ⟨rfl, B9.out⟩
 simp [results, Tryz.results174, go_sem, jj, words, g0, g1, g2, g3]
theorem addM {a b m s : Nat} (ha : a < m) (hb : b < m) (hs : s = a + b) : (a + b) % m = if m ≤ s then s - m else s := by
 rw [← hs]
 split
 ·rename_i h
  rw [Nat.mod_eq_sub_mod h, Nat.mod_eq_of_lt (by omega)]
 ·exact Nat.mod_eq_of_lt (by omega)
theorem add1_big {a b m : Nat} (ha : a < m) (Z4 : b < m) (hm : m < jo) (hs : jo ≤ a + b) (w : World) :
  Calls Tryz.prog 210 #[jj a, jj b, jj m] w fun e w' => e = .returned (jj ((a + b) % m)) ∧ Below w.heap.size w w' := by
 have G9 := Nat.lt_trans ha hm; have hb8 := Nat.lt_trans Z4 hm; have hM := addM ha Z4 rfl; obtain ⟨x, hx⟩ := je (qY a b); have V9 : x < jo := by rw [hx]; exact Qf _ _
 obtain ⟨q, hq⟩ := je ((a + b) % m); have eC : qK a b = 1 := by unfold qK; unfold jo at *; omega
 have bT : q = a + b - m := by rw [hq, hM]; unfold qY at hx; unfold jo at *; split <;> omega
 have ex : x = a + b - jo := by rw [hx]; unfold qY; unfold jo at *; omega
 have ey : Jj x m = q := by rw [ex, bT]; unfold Jj; unfold jo at *; omega
 obtain ⟨l, hl⟩ := je (zk x m); obtain ⟨y, hy⟩ := je (Jj x m); have C1 := jh (fun w => by have h := add_any G9 hb8 w; rw [eC, ← hx] at h; unfold jj words at h; exact h); have C2 := jh (fun w => by have h := Zb V9 hm w; rw [← hl, ← hy] at h; unfold jj words at h; exact h); have HY := jh (hy.trans ey); rw [← hq]; clear hM hx V9 hq eC bT ex ey hl hy ha Z4 hm hs G9 hb8; unfold jj words
 go_enter Tryz.func210, Tryz.ntmps210
 go_wp2_with fail
 obtain ⟨wz, AA, BB, MM, RR, e9, J5, h_1, h_2, h_3, J3, U4, J4, HRR, HF, B, V8, LC, TC, PI, Y9, D6, U1⟩ := zC w 24 a b m; rw [e9, J5, h_1, h_2, h_3]; clear e9 J5 h_1 h_2 h_3; refine (C1.out _).mono ?_; rintro _ w2 ⟨rfl, hb⟩; obtain ⟨J3, U4, J4, HRR, HF, U1, B⟩ := qG hb J3 U4 J4 HRR HF U1 B; clear hb; have q_0 := fun o1 => (U0.alloc J4.out o1) 0 (by omega)
 have q_1 := fun o1 => (U0.alloc J4.out o1) 1 (by omega)
 have q_2 := fun o1 => (U0.alloc J4.out o1) 2 (by omega)
 have q_3 := fun o1 => (U0.alloc J4.out o1) 3 (by omega)
 go_wp2_with fail
 clear q_0 q_1 q_2 q_3; obtain ⟨w3, e3⟩ := je (w2.alloc (.cells (jD x) 24)); obtain ⟨XX, hX⟩ := je (w2.heap.size); have hb := jc e3; have VA := jh (show U0 w3 XX x by rw [e3]; exact U0.new w2 x _ _ hX); have nXR : XX ≠ RR := by omega
 rw [← e3, ← hX]; clear e3 hX; obtain ⟨J3, U4, J4, HRR, HF, U1, B⟩ := qG hb J3 U4 J4 HRR HF U1 B; clear hb; refine (C2.out _).mono ?_; rintro _ w4 ⟨rfl, hb⟩; have J3 := jn hb J3; obtain ⟨U4, J4, HRR, VA, HF, U1, B⟩ := qG hb U4 J4 HRR VA HF U1 B; clear hb; obtain ⟨c0, c1, c2, c3, f0, f1, f2, f3⟩ := jL HRR.out HF.out; obtain ⟨mD, lD, kD, iD⟩ := jz VA.out
 go_wp2_with fail
 rw [HY.out]; obtain ⟨Q7, B9⟩ := zw HRR B D6 q; have hba : ∀ W : World, Below W.heap.size W (W.alloc (.cells #[.int .u64 (jf jd q 0), .int .u64 (jf jd q 1), .int .u64 (jf jd q 2), .int .u64 (jf jd q 3)] 24)) := fun W => ja
 have B9 := jh (jk B9.out (hba _)); have Q7 := jh (U0.later (hba _) Q7.out); clear hba; obtain ⟨g0, g1, g2, g3⟩ := jz Q7.out; refine bodyPost_ret (v := jj q) ?_ rfl ⟨rfl, B9.out⟩
 simp [results, Tryz.results210, go_sem, jj, words, g0, g1, g2, g3]
theorem iY {a b m : Nat} (ha : a < m) (Z4 : b < m) (hm : m < jo) (hs : m ≤ a + b) (h256 : a + b < jo) (w : World) :
  Calls Tryz.prog 210 #[jj a, jj b, jj m] w fun e w' => e = .returned (jj ((a + b) % m)) ∧ Below w.heap.size w w' := by
 have G9 := Nat.lt_trans ha hm; have hb8 := Nat.lt_trans Z4 hm; have hM := addM ha Z4 rfl; obtain ⟨x, hx⟩ := je (qY a b); have V9 : x < jo := by rw [hx]; exact Qf _ _
 obtain ⟨q, hq⟩ := je ((a + b) % m); have eC : qK a b = 0 := by unfold qK; unfold jo at *; omega
 have bT : q = a + b - m := by rw [hq, hM]; unfold qY at hx; unfold jo at *; split <;> omega
 have ex : x = a + b := by rw [hx]; unfold qY; unfold jo at *; omega
 have ey : Jj x m = q := by rw [ex, bT]; unfold Jj; unfold jo at *; omega
 have el : zk x m = 0 := by unfold zk; rw [if_neg (by omega)]
 obtain ⟨l, hl⟩ := je (zk x m); obtain ⟨y, hy⟩ := je (Jj x m); have C1 := jh (fun w => by have h := add_any G9 hb8 w; rw [eC, ← hx] at h; unfold jj words at h; exact h); have C2 := jh (fun w => by have h := Zb V9 hm w; rw [← hl, ← hy] at h; unfold jj words at h; exact h); have HY := jh (hy.trans ey); have HLq := jh (hl.trans el); rw [hl.trans el] at C2; rw [← hq]; clear hM hx V9 hq eC bT ex ey hl hy ha Z4 hm hs G9 hb8 el h256; unfold jj words
 go_enter Tryz.func210, Tryz.ntmps210
 go_wp2_with fail
 obtain ⟨wz, AA, BB, MM, RR, e9, J5, h_1, h_2, h_3, J3, U4, J4, HRR, HF, B, V8, LC, TC, PI, Y9, D6, U1⟩ := zC w 24 a b m; rw [e9, J5, h_1, h_2, h_3]; clear e9 J5 h_1 h_2 h_3; refine (C1.out _).mono ?_; rintro _ w2 ⟨rfl, hb⟩; obtain ⟨J3, U4, J4, HRR, HF, U1, B⟩ := qG hb J3 U4 J4 HRR HF U1 B; clear hb; have q_0 := fun o1 => (U0.alloc J4.out o1) 0 (by omega)
 have q_1 := fun o1 => (U0.alloc J4.out o1) 1 (by omega)
 have q_2 := fun o1 => (U0.alloc J4.out o1) 2 (by omega)
 have q_3 := fun o1 => (U0.alloc J4.out o1) 3 (by omega)
 go_wp2_with fail
 clear q_0 q_1 q_2 q_3; obtain ⟨w3, e3⟩ := je (w2.alloc (.cells (jD x) 24)); obtain ⟨XX, hX⟩ := je (w2.heap.size); have hb := jc e3; have VA := jh (show U0 w3 XX x by rw [e3]; exact U0.new w2 x _ _ hX); have nXR : XX ≠ RR := by omega
 rw [← e3, ← hX]; clear e3 hX; obtain ⟨J3, U4, J4, HRR, HF, U1, B⟩ := qG hb J3 U4 J4 HRR HF U1 B; clear hb; refine (C2.out _).mono ?_; rintro _ w4 ⟨rfl, hb⟩; have J3 := jn hb J3; obtain ⟨U4, J4, HRR, VA, HF, U1, B⟩ := qG hb U4 J4 HRR VA HF U1 B; clear hb; obtain ⟨c0, c1, c2, c3, f0, f1, f2, f3⟩ := jL HRR.out HF.out; obtain ⟨mD, lD, kD, iD⟩ := jz VA.out
 go_wp2_with fail
 rw [HY.out]; obtain ⟨Q7, B9⟩ := zw HRR B D6 q; have hba : ∀ W : World, Below W.heap.size W (W.alloc (.cells #[.int .u64 (jf jd q 0), .int .u64 (jf jd q 1), .int .u64 (jf jd q 2), .int .u64 (jf jd q 3)] 24)) := fun W => ja
 have B9 := jh (jk B9.out (hba _)); have Q7 := jh (U0.later (hba _) Q7.out); clear hba; obtain ⟨g0, g1, g2, g3⟩ := jz Q7.out; refine bodyPost_ret (v := jj q) ?_ rfl ⟨rfl, B9.out⟩
 simp [results, Tryz.results210, go_sem, jj, words, g0, g1, g2, g3]
theorem dU {a b m : Nat} (ha : a < m) (Z4 : b < m) (hm : m < jo) (hs : a + b < m) (w : World) :
  Calls Tryz.prog 210 #[jj a, jj b, jj m] w fun e w' => e = .returned (jj ((a + b) % m)) ∧ Below w.heap.size w w' := by
 have G9 := Nat.lt_trans ha hm; have hb8 := Nat.lt_trans Z4 hm; have hM := addM ha Z4 rfl; obtain ⟨x, hx⟩ := je (qY a b); have V9 : x < jo := by rw [hx]; exact Qf _ _
 obtain ⟨q, hq⟩ := je ((a + b) % m); have eC : qK a b = 0 := by unfold qK; unfold jo at *; omega
 have bT : q = a + b := by rw [hq, hM]; unfold qY at hx; unfold jo at *; split <;> omega
 have ex : x = a + b := by rw [hx]; unfold qY; unfold jo at *; omega
 have ey : x = q := by omega
 have el : zk x m = 1 := by unfold zk; rw [if_pos (by omega)]
 obtain ⟨l, hl⟩ := je (zk x m); obtain ⟨y, hy⟩ := je (Jj x m); have C1 := jh (fun w => by have h := add_any G9 hb8 w; rw [eC, ← hx] at h; unfold jj words at h; exact h); have C2 := jh (fun w => by have h := Zb V9 hm w; rw [← hl, ← hy] at h; unfold jj words at h; exact h); have HY := jh ey; have HLq := jh (hl.trans el); rw [hl.trans el] at C2; rw [← hq]; clear hM hx V9 hq eC bT ex ey hl hy ha Z4 hm hs G9 hb8 el; unfold jj words
 go_enter Tryz.func210, Tryz.ntmps210
 go_wp2_with fail
 obtain ⟨wz, AA, BB, MM, RR, e9, J5, h_1, h_2, h_3, J3, U4, J4, HRR, HF, B, V8, LC, TC, PI, Y9, D6, U1⟩ := zC w 24 a b m; rw [e9, J5, h_1, h_2, h_3]; clear e9 J5 h_1 h_2 h_3; refine (C1.out _).mono ?_; rintro _ w2 ⟨rfl, hb⟩; obtain ⟨J3, U4, J4, HRR, HF, U1, B⟩ := qG hb J3 U4 J4 HRR HF U1 B; clear hb; have q_0 := fun o1 => (U0.alloc J4.out o1) 0 (by omega)
 have q_1 := fun o1 => (U0.alloc J4.out o1) 1 (by omega)
 have q_2 := fun o1 => (U0.alloc J4.out o1) 2 (by omega)
 have q_3 := fun o1 => (U0.alloc J4.out o1) 3 (by omega)
 go_wp2_with fail
 clear q_0 q_1 q_2 q_3; obtain ⟨w3, e3⟩ := je (w2.alloc (.cells (jD x) 24)); obtain ⟨XX, hX⟩ := je (w2.heap.size); have hb := jc e3; have VA := jh (show U0 w3 XX x by rw [e3]; exact U0.new w2 x _ _ hX); have nXR : XX ≠ RR := by omega
 rw [← e3, ← hX]; clear e3 hX; obtain ⟨J3, U4, J4, HRR, HF, U1, B⟩ := qG hb J3 U4 J4 HRR HF U1 B; clear hb; refine (C2.out _).mono ?_; rintro _ w4 ⟨rfl, hb⟩; have J3 := jn hb J3; obtain ⟨U4, J4, HRR, VA, HF, U1, B⟩ := qG hb U4 J4 HRR VA HF U1 B; clear hb; obtain ⟨c0, c1, c2, c3, f0, f1, f2, f3⟩ := jL HRR.out HF.out; have q_0 := fun o1 => (U0.alloc VA.out o1) 0 (by omega)
 have q_1 := fun o1 => (U0.alloc VA.out o1) 1 (by omega)
 have q_2 := fun o1 => (U0.alloc VA.out o1) 2 (by omega)
 have q_3 := fun o1 => (U0.alloc VA.out o1) 3 (by omega)
 go_wp2_with fail
 rw [HY.out]; obtain ⟨Q7, B9⟩ := zw HRR B D6 q; have hba : ∀ W : World, Below W.heap.size W (W.alloc (.cells #[.int .u64 (jf jd y 0), .int .u64 (jf jd y 1), .int .u64 (jf jd y 2), .int .u64 (jf jd y 3)] 24)) := fun W => ja
 have B9 := jh (jk B9.out (hba _)); have Q7 := jh (U0.later (hba _) Q7.out); clear hba; obtain ⟨g0, g1, g2, g3⟩ := jz Q7.out; refine bodyPost_ret (v := jj q) ?_ rfl ⟨rfl, B9.out⟩
 simp [results, Tryz.results210, go_sem, jj, words, g0, g1, g2, g3]
theorem add1_any {a b m : Nat} (ha : a < m) (hb : b < m) (hm : m < jo) (w : World) :
  Calls Tryz.prog 210 #[jj a, jj b, jj m] w fun e w' => e = .returned (jj ((a + b) % m)) ∧ Below w.heap.size w w' := by
 rcases Nat.lt_or_ge (a + b) m with h | h
 ·exact dU ha hb hm h w
 ·rcases Nat.lt_or_ge (a + b) jo with h9 | h9
  ·exact iY ha hb hm h h9 w
  ·exact add1_big ha hb hm h9 w
theorem Add_any {a n m : Nat} (ha : a < m) (h1 : 1 < m) (hn : n < m) (hm : m < jo) (w : World) :
  Calls Tryz.prog 175 #[jj a, jj n, jj m] w fun e w' => e = .returned (.tuple #[jj ((a + n) % m), .int .i64 0]) ∧ Below w.heap.size w w' := by
 obtain ⟨q, hq⟩ := je ((a + n) % m); rw [← hq]; have HQ := jh hq; have HA9 := jh ha; have yU := jh h1; have EJ := jh hn; have xU := jh hm; clear hq ha h1 hn hm; unfold jj words
 go_enter Tryz.func175, Tryz.ntmps175
 go_wp2_with fail
 obtain ⟨wz, AA, NN, MM, RR, e9, J5, h_1, h_2, h_3, J3, Z5, J4, HRR, HF, B, V8, LC, TC, PI, Y9, D6, U1⟩ := zC w 24 a n m; rw [e9, J5, h_1, h_2, h_3]; clear e9 J5 h_1 h_2 h_3; have CO := lS (q := q) (f := 210) (caps := #[]) HA9.out EJ.out yU.out xU.out wz (by intro args W; simp [go_sem]) (fun W hb => by have h := add1_any HA9.out EJ.out xU.out W; rw [← HQ.out] at h; exact h); unfold jj words at CO; refine CO.mono ?_; rintro _ w3 ⟨rfl, hb⟩; clear CO; obtain ⟨J3, Z5, J4, HRR, HF, U1, B⟩ := qG hb J3 Z5 J4 HRR HF U1 B; clear hb; obtain ⟨c0, c1, c2, c3, f0, f1, f2, f3⟩ := jL HRR.out HF.out
 go_wp2_with fail
 obtain ⟨Q7, B9⟩ := zw HRR B D6 q; obtain ⟨g0, g1, g2, g3⟩ := jz Q7.out; refine bodyPost_ret (v := .tuple #[jj q, .int .i64 0]) ?_ rfl ⟨rfl, B9.out⟩
 simp [results, Tryz.results175, go_sem, jj, words, g0, g1, g2, g3]
def X6 (w : World) (b o x : Nat) : Prop := ∀ j, j < 4 → w.cell? ⟨b, o + j, none⟩ = some (.int .u64 (jf jd x j))
def U2 (w : World) (b gp gq gg gh : Nat) : Prop := X6 w b 0 gp ∧ X6 w b 4 gq ∧ X6 w b 8 gg ∧ X6 w b 12 gh
theorem X6.lt {w : World} {b o x : Nat} (h : X6 w b o x) : b < w.heap.size := World.block_lt_of_cell? (a := ⟨b, o + 0, none⟩) _ (h 0 (by omega))
theorem X6.later {w w' : World} {b o x : Nat} (hb : Below w.heap.size w w') (h : X6 w b o x) : X6 w' b o x := fun j hj => (hb.cell (p := ⟨b, o + j, none⟩) h.lt).trans (h j hj)
theorem U2.later {w w' : World} {b gp gq gg gh : Nat} (hb : Below w.heap.size w w') (h : U2 w b gp gq gg gh) : U2 w' b gp gq gg gh := ⟨h.1.later hb, h.2.1.later hb, h.2.2.1.later hb, h.2.2.2.later hb⟩
theorem U2.lt {w : World} {b gp gq gg gh : Nat} (h : U2 w b gp gq gg gh) : b < w.heap.size := h.1.lt
theorem U2.new (w : World) (gp gq gg gh : Nat) (t : TypeId) : U2 (w.alloc (.cells #[.int .u64 (jf jd gp 0), .int .u64 (jf jd gp 1), .int .u64 (jf jd gp 2), .int .u64 (jf jd gp 3), .int .u64 (jf jd gq 0), .int .u64 (jf jd gq 1), .int .u64 (jf jd gq 2), .int .u64 (jf jd gq 3), .int .u64 (jf jd gg 0), .int .u64 (jf jd gg 1), .int .u64 (jf jd gg 2), .int .u64 (jf jd gg 3), .int .u64 (jf jd gh 0), .int .u64 (jf jd gh 1), .int .u64 (jf jd gh 2), .int .u64 (jf jd gh 3)] t)) w.heap.size gp gq gg gh := by
 refine ⟨?_, ?_, ?_, ?_⟩ <;> (intro j hj; rcases (show j = 0 ∨ j = 1 ∨ j = 2 ∨ j = 3 by omega) with rfl | rfl | rfl | rfl <;> simp)
theorem JR (w : World) (t : TypeId) (gp gq gg gh : Nat) : ∃ (w0 : World) (GG : Nat), w.alloc (.cells #[.int .u64 (jf jd gp 0), .int .u64 (jf jd gp 1), .int .u64 (jf jd gp 2), .int .u64 (jf jd gp 3), .int .u64 (jf jd gq 0), .int .u64 (jf jd gq 1), .int .u64 (jf jd gq 2), .int .u64 (jf jd gq 3), .int .u64 (jf jd gg 0), .int .u64 (jf jd gg 1), .int .u64 (jf jd gg 2), .int .u64 (jf jd gg 3), .int .u64 (jf jd gh 0), .int .u64 (jf jd gh 1), .int .u64 (jf jd gh 2), .int .u64 (jf jd gh 3)] t) = w0 ∧ w.heap.size + 1 = w0.heap.size ∧ w.heap.size = GG ∧ U2 w0 GG gp gq gg gh ∧ Hid (Below w.heap.size w w0) :=
 ⟨_, _, rfl, by simp, rfl, U2.new _ _ _ _ _ _, jh (qD (Below.refl _ _) _)⟩
theorem may_yes {gp gq gg gh a : Nat} (h1 : 1 < gp) (ha0 : a ≠ 0) (ha : a < gp) (hm : gp < jo) (w : World) :
  Calls Tryz.prog 171 #[.agg #[.int .u64 (jf jd gp 0), .int .u64 (jf jd gp 1), .int .u64 (jf jd gp 2), .int .u64 (jf jd gp 3), .int .u64 (jf jd gq 0), .int .u64 (jf jd gq 1), .int .u64 (jf jd gq 2), .int .u64 (jf jd gq 3), .int .u64 (jf jd gg 0), .int .u64 (jf jd gg 1), .int .u64 (jf jd gg 2), .int .u64 (jf jd gg 3), .int .u64 (jf jd gh 0), .int .u64 (jf jd gh 1), .int .u64 (jf jd gh 2), .int .u64 (jf jd gh 3)], jj a] w fun e w' => e = .returned (.bool true) ∧ Below w.heap.size w w' := by
 have G9 := Nat.lt_trans ha hm; have hne := QR a 0 (Nat.lt_trans ha hm) qN; rw [decide_eq_false ha0] at hne; have C1 := jh (fun w => by have h := zx 1 1 rfl (by decide) w; unfold jj words at h; exact h); have C0 := jh (fun w => by have h := zx 0 0 rfl (by decide) w; unfold jj words at h; exact h); have K1 := jh (fun w => by have h := qP hm (show 1 < jo by decide) w; rw [zX h1] at h; unfold jj words at h; exact h); have K2 := jh (fun w => by have h := qP G9 hm w; rw [Jl ha] at h; unfold jj words at h; exact h); clear G9 h1 ha0 ha hm; unfold jj words
 go_enter Tryz.func171, Tryz.ntmps171
 go_wp2_with fail
 obtain ⟨w0, GG, e0, s0, P7, g0, HB0⟩ := JR w 26 gp gq gg gh; rw [e0, s0, P7]; clear e0 s0 P7; obtain ⟨wz, AA, e9, J5, J3, B, V8, Y9, sF, U1⟩ := Zp w0 24 a; rw [e9, J5]; clear e9 J5; have G0 := jh (U2.later B.out g0); clear g0; refine js 17 (fun _ => none) (by kernel_rfl) (by kernel_rfl) (fun _ _ _ _ _ h => h) (fun F X8 hcl hbl => ?_); have U3 := jr hbl J3 0 (by omega); have I4 := jr hbl J3 1 (by omega); have X3 := jr hbl J3 2 (by omega); have V3 := jr hbl J3 3 (by omega); have O7 := fun X9 : Wd F => (U2.later (hbl X9.world X9.fact) G0.out).1 0 (by omega)
 have N7 := fun X9 : Wd F => (U2.later (hbl X9.world X9.fact) G0.out).1 1 (by omega)
 have J7 := fun X9 : Wd F => (U2.later (hbl X9.world X9.fact) G0.out).1 2 (by omega)
 have I7 := fun X9 : Wd F => (U2.later (hbl X9.world X9.fact) G0.out).1 3 (by omega)
 simp only [Nat.reduceAdd] at O7 N7 J7 I7; have U5 := jh hcl; clear hcl hbl; refine jN 17 0 _ _ (fun _ _ _ => rfl) (by decide) ?_; simp only [List.take_succ_cons, List.take_zero, List.drop_succ_cons, List.drop_zero, Nat.reduceAdd]
 repeat (go_big_quiet_step ((first | (go_at_call 194; with_reducible exact jq U5.out (C1.out _)) | (go_at_call 194; with_reducible exact jq U5.out (C0.out _)) | (go_at_call 201; with_reducible exact jq U5.out (K1.out _)) | (go_at_call 201; with_reducible exact jq U5.out (K2.out _)))))
 refine wpQuiet_nil ?_; refine jR ?_; intro bs w2 hb _ _; clear U3 I4 X3 V3; obtain ⟨J3, U1, B⟩ := Zn hb J3 U1 B; clear hb; simp only [over]; clear O7 N7 J7 I7
 go_wp2_with fail
 refine bodyPost_ret (v := .bool true) ?_ rfl ⟨rfl, jk HB0.out B.out⟩
 simp [results, Tryz.results171, go_sem]
theorem may_low0 {gp gq gg gh a : Nat} (h : gp < 1) (G9 : a < jo) (hm : gp < jo) (w : World) :
  Calls Tryz.prog 171 #[.agg #[.int .u64 (jf jd gp 0), .int .u64 (jf jd gp 1), .int .u64 (jf jd gp 2), .int .u64 (jf jd gp 3), .int .u64 (jf jd gq 0), .int .u64 (jf jd gq 1), .int .u64 (jf jd gq 2), .int .u64 (jf jd gq 3), .int .u64 (jf jd gg 0), .int .u64 (jf jd gg 1), .int .u64 (jf jd gg 2), .int .u64 (jf jd gg 3), .int .u64 (jf jd gh 0), .int .u64 (jf jd gh 1), .int .u64 (jf jd gh 2), .int .u64 (jf jd gh 3)], jj a] w fun e w' => e = .returned (.bool false) ∧ Below w.heap.size w w' := by
 have hne := QR a 0 G9 qN; have C1 := jh (fun w => by have h := zx 1 1 rfl (by decide) w; unfold jj words at h; exact h); have C0 := jh (fun w => by have h := zx 0 0 rfl (by decide) w; unfold jj words at h; exact h); have e1 : qL gp 1 = -1 := by exact Jl h
 have K1 := jh (fun w => by have h := qP hm (show 1 < jo by decide) w; rw [e1] at h; unfold jj words at h; exact h); obtain ⟨c2, e2⟩ : ∃ c, qL a gp = c := ⟨_, rfl⟩; have K2 := jh (fun w => by have h := qP G9 hm w; rw [e2] at h; unfold jj words at h; exact h); clear e1 e2 G9 hm h; unfold jj words
 go_enter Tryz.func171, Tryz.ntmps171
 go_wp2_with fail
 obtain ⟨w0, GG, e0, s0, P7, g0, HB0⟩ := JR w 26 gp gq gg gh; rw [e0, s0, P7]; clear e0 s0 P7; obtain ⟨wz, AA, e9, J5, J3, B, V8, Y9, sF, U1⟩ := Zp w0 24 a; rw [e9, J5]; clear e9 J5; have G0 := jh (U2.later B.out g0); clear g0; refine js 17 (fun _ => none) (by kernel_rfl) (by kernel_rfl) (fun _ _ _ _ _ h => h) (fun F X8 hcl hbl => ?_); have U3 := jr hbl J3 0 (by omega); have I4 := jr hbl J3 1 (by omega); have X3 := jr hbl J3 2 (by omega); have V3 := jr hbl J3 3 (by omega); have O7 := fun X9 : Wd F => (U2.later (hbl X9.world X9.fact) G0.out).1 0 (by omega)
 have N7 := fun X9 : Wd F => (U2.later (hbl X9.world X9.fact) G0.out).1 1 (by omega)
 have J7 := fun X9 : Wd F => (U2.later (hbl X9.world X9.fact) G0.out).1 2 (by omega)
 have I7 := fun X9 : Wd F => (U2.later (hbl X9.world X9.fact) G0.out).1 3 (by omega)
 simp only [Nat.reduceAdd] at O7 N7 J7 I7; have U5 := jh hcl; clear hcl hbl; refine jN 17 0 _ _ (fun _ _ _ => rfl) (by decide) ?_; simp only [List.take_succ_cons, List.take_zero, List.drop_succ_cons, List.drop_zero, Nat.reduceAdd]
 repeat (go_big_quiet_step ((first | (go_at_call 194; with_reducible exact jq U5.out (C1.out _)) | (go_at_call 194; with_reducible exact jq U5.out (C0.out _)) | (go_at_call 201; with_reducible exact jq U5.out (K1.out _)) | (go_at_call 201; with_reducible exact jq U5.out (K2.out _)))))
 refine wpQuiet_nil ?_; refine jR ?_; intro bs w2 hb _ _; clear U3 I4 X3 V3; obtain ⟨J3, U1, B⟩ := Zn hb J3 U1 B; clear hb; simp only [over]; clear O7 N7 J7 I7
 go_wp2_with fail
 refine bodyPost_ret (v := .bool false) ?_ rfl ⟨rfl, jk HB0.out B.out⟩
 simp [results, Tryz.results171, go_sem]
theorem may_low1 {gp gq gg gh a : Nat} (h : gp = 1) (G9 : a < jo) (hm : gp < jo) (w : World) :
  Calls Tryz.prog 171 #[.agg #[.int .u64 (jf jd gp 0), .int .u64 (jf jd gp 1), .int .u64 (jf jd gp 2), .int .u64 (jf jd gp 3), .int .u64 (jf jd gq 0), .int .u64 (jf jd gq 1), .int .u64 (jf jd gq 2), .int .u64 (jf jd gq 3), .int .u64 (jf jd gg 0), .int .u64 (jf jd gg 1), .int .u64 (jf jd gg 2), .int .u64 (jf jd gg 3), .int .u64 (jf jd gh 0), .int .u64 (jf jd gh 1), .int .u64 (jf jd gh 2), .int .u64 (jf jd gh 3)], jj a] w fun e w' => e = .returned (.bool false) ∧ Below w.heap.size w w' := by
 have hne := QR a 0 G9 qN; have C1 := jh (fun w => by have h := zx 1 1 rfl (by decide) w; unfold jj words at h; exact h); have C0 := jh (fun w => by have h := zx 0 0 rfl (by decide) w; unfold jj words at h; exact h); have e1 : qL gp 1 = 0 := by rw [h]; rfl
 have K1 := jh (fun w => by have h := qP hm (show 1 < jo by decide) w; rw [e1] at h; unfold jj words at h; exact h); obtain ⟨c2, e2⟩ : ∃ c, qL a gp = c := ⟨_, rfl⟩; have K2 := jh (fun w => by have h := qP G9 hm w; rw [e2] at h; unfold jj words at h; exact h); clear e1 e2 G9 hm h; unfold jj words
 go_enter Tryz.func171, Tryz.ntmps171
 go_wp2_with fail
 obtain ⟨w0, GG, e0, s0, P7, g0, HB0⟩ := JR w 26 gp gq gg gh; rw [e0, s0, P7]; clear e0 s0 P7; obtain ⟨wz, AA, e9, J5, J3, B, V8, Y9, sF, U1⟩ := Zp w0 24 a; rw [e9, J5]; clear e9 J5; have G0 := jh (U2.later B.out g0); clear g0; refine js 17 (fun _ => none) (by kernel_rfl) (by kernel_rfl) (fun _ _ _ _ _ h => h) (fun F X8 hcl hbl => ?_); have U3 := jr hbl J3 0 (by omega); have I4 := jr hbl J3 1 (by omega); have X3 := jr hbl J3 2 (by omega); have V3 := jr hbl J3 3 (by omega); have O7 := fun X9 : Wd F => (U2.later (hbl X9.world X9.fact) G0.out).1 0 (by omega)
 have N7 := fun X9 : Wd F => (U2.later (hbl X9.world X9.fact) G0.out).1 1 (by omega)
 have J7 := fun X9 : Wd F => (U2.later (hbl X9.world X9.fact) G0.out).1 2 (by omega)
 have I7 := fun X9 : Wd F => (U2.later (hbl X9.world X9.fact) G0.out).1 3 (by omega)
 simp only [Nat.reduceAdd] at O7 N7 J7 I7; have U5 := jh hcl; clear hcl hbl; refine jN 17 0 _ _ (fun _ _ _ => rfl) (by decide) ?_; simp only [List.take_succ_cons, List.take_zero, List.drop_succ_cons, List.drop_zero, Nat.reduceAdd]
 repeat (go_big_quiet_step ((first | (go_at_call 194; with_reducible exact jq U5.out (C1.out _)) | (go_at_call 194; with_reducible exact jq U5.out (C0.out _)) | (go_at_call 201; with_reducible exact jq U5.out (K1.out _)) | (go_at_call 201; with_reducible exact jq U5.out (K2.out _)))))
 refine wpQuiet_nil ?_; refine jR ?_; intro bs w2 hb _ _; clear U3 I4 X3 V3; obtain ⟨J3, U1, B⟩ := Zn hb J3 U1 B; clear hb; simp only [over]; clear O7 N7 J7 I7
 go_wp2_with fail
 refine bodyPost_ret (v := .bool false) ?_ rfl ⟨rfl, jk HB0.out B.out⟩
 simp [results, Tryz.results171, go_sem]
theorem may_zero {gp gq gg gh a : Nat} (h1 : 1 < gp) (h : a = 0) (G9 : a < jo) (hm : gp < jo) (w : World) :
  Calls Tryz.prog 171 #[.agg #[.int .u64 (jf jd gp 0), .int .u64 (jf jd gp 1), .int .u64 (jf jd gp 2), .int .u64 (jf jd gp 3), .int .u64 (jf jd gq 0), .int .u64 (jf jd gq 1), .int .u64 (jf jd gq 2), .int .u64 (jf jd gq 3), .int .u64 (jf jd gg 0), .int .u64 (jf jd gg 1), .int .u64 (jf jd gg 2), .int .u64 (jf jd gg 3), .int .u64 (jf jd gh 0), .int .u64 (jf jd gh 1), .int .u64 (jf jd gh 2), .int .u64 (jf jd gh 3)], jj a] w fun e w' => e = .returned (.bool false) ∧ Below w.heap.size w w' := by
 have hne := QR a 0 G9 qN; rw [decide_eq_true h] at hne; have C1 := jh (fun w => by have h := zx 1 1 rfl (by decide) w; unfold jj words at h; exact h); have C0 := jh (fun w => by have h := zx 0 0 rfl (by decide) w; unfold jj words at h; exact h); have e1 : qL gp 1 = 1 := by exact zX h1
 have K1 := jh (fun w => by have h := qP hm (show 1 < jo by decide) w; rw [e1] at h; unfold jj words at h; exact h); obtain ⟨c2, e2⟩ : ∃ c, qL a gp = c := ⟨_, rfl⟩; have K2 := jh (fun w => by have h := qP G9 hm w; rw [e2] at h; unfold jj words at h; exact h); clear e1 e2 G9 hm h; unfold jj words
 go_enter Tryz.func171, Tryz.ntmps171
 go_wp2_with fail
 obtain ⟨w0, GG, e0, s0, P7, g0, HB0⟩ := JR w 26 gp gq gg gh; rw [e0, s0, P7]; clear e0 s0 P7; obtain ⟨wz, AA, e9, J5, J3, B, V8, Y9, sF, U1⟩ := Zp w0 24 a; rw [e9, J5]; clear e9 J5; have G0 := jh (U2.later B.out g0); clear g0; refine js 17 (fun _ => none) (by kernel_rfl) (by kernel_rfl) (fun _ _ _ _ _ h => h) (fun F X8 hcl hbl => ?_); have U3 := jr hbl J3 0 (by omega); have I4 := jr hbl J3 1 (by omega); have X3 := jr hbl J3 2 (by omega); have V3 := jr hbl J3 3 (by omega); have O7 := fun X9 : Wd F => (U2.later (hbl X9.world X9.fact) G0.out).1 0 (by omega)
 have N7 := fun X9 : Wd F => (U2.later (hbl X9.world X9.fact) G0.out).1 1 (by omega)
 have J7 := fun X9 : Wd F => (U2.later (hbl X9.world X9.fact) G0.out).1 2 (by omega)
 have I7 := fun X9 : Wd F => (U2.later (hbl X9.world X9.fact) G0.out).1 3 (by omega)
 simp only [Nat.reduceAdd] at O7 N7 J7 I7; have U5 := jh hcl; clear hcl hbl; refine jN 17 0 _ _ (fun _ _ _ => rfl) (by decide) ?_; simp only [List.take_succ_cons, List.take_zero, List.drop_succ_cons, List.drop_zero, Nat.reduceAdd]
 repeat (go_big_quiet_step ((first | (go_at_call 194; with_reducible exact jq U5.out (C1.out _)) | (go_at_call 194; with_reducible exact jq U5.out (C0.out _)) | (go_at_call 201; with_reducible exact jq U5.out (K1.out _)) | (go_at_call 201; with_reducible exact jq U5.out (K2.out _)))))
 refine wpQuiet_nil ?_; refine jR ?_; intro bs w2 hb _ _; clear U3 I4 X3 V3; obtain ⟨J3, U1, B⟩ := Zn hb J3 U1 B; clear hb; simp only [over]; clear O7 N7 J7 I7
 go_wp2_with fail
 refine bodyPost_ret (v := .bool false) ?_ rfl ⟨rfl, jk HB0.out B.out⟩
 simp [results, Tryz.results171, go_sem]
theorem may_eq {gp gq gg gh a : Nat} (h1 : 1 < gp) (ha0 : a ≠ 0) (h : a = gp) (G9 : a < jo) (hm : gp < jo) (w : World) :
  Calls Tryz.prog 171 #[.agg #[.int .u64 (jf jd gp 0), .int .u64 (jf jd gp 1), .int .u64 (jf jd gp 2), .int .u64 (jf jd gp 3), .int .u64 (jf jd gq 0), .int .u64 (jf jd gq 1), .int .u64 (jf jd gq 2), .int .u64 (jf jd gq 3), .int .u64 (jf jd gg 0), .int .u64 (jf jd gg 1), .int .u64 (jf jd gg 2), .int .u64 (jf jd gg 3), .int .u64 (jf jd gh 0), .int .u64 (jf jd gh 1), .int .u64 (jf jd gh 2), .int .u64 (jf jd gh 3)], jj a] w fun e w' => e = .returned (.bool false) ∧ Below w.heap.size w w' := by
 have hne := QR a 0 G9 qN; rw [decide_eq_false ha0] at hne; have C1 := jh (fun w => by have h := zx 1 1 rfl (by decide) w; unfold jj words at h; exact h); have C0 := jh (fun w => by have h := zx 0 0 rfl (by decide) w; unfold jj words at h; exact h); have e1 : qL gp 1 = 1 := by exact zX h1
 have K1 := jh (fun w => by have h := qP hm (show 1 < jo by decide) w; rw [e1] at h; unfold jj words at h; exact h); have e2 : qL a gp = 0 := by rw [h]; unfold qL; rw [if_neg (by omega), if_pos rfl]
 have K2 := jh (fun w => by have h := qP G9 hm w; rw [e2] at h; unfold jj words at h; exact h); clear e1 e2 G9 hm h; unfold jj words
 go_enter Tryz.func171, Tryz.ntmps171
 go_wp2_with fail
 obtain ⟨w0, GG, e0, s0, P7, g0, HB0⟩ := JR w 26 gp gq gg gh; rw [e0, s0, P7]; clear e0 s0 P7; obtain ⟨wz, AA, e9, J5, J3, B, V8, Y9, sF, U1⟩ := Zp w0 24 a; rw [e9, J5]; clear e9 J5; have G0 := jh (U2.later B.out g0); clear g0; refine js 17 (fun _ => none) (by kernel_rfl) (by kernel_rfl) (fun _ _ _ _ _ h => h) (fun F X8 hcl hbl => ?_); have U3 := jr hbl J3 0 (by omega); have I4 := jr hbl J3 1 (by omega); have X3 := jr hbl J3 2 (by omega); have V3 := jr hbl J3 3 (by omega); have O7 := fun X9 : Wd F => (U2.later (hbl X9.world X9.fact) G0.out).1 0 (by omega)
 have N7 := fun X9 : Wd F => (U2.later (hbl X9.world X9.fact) G0.out).1 1 (by omega)
 have J7 := fun X9 : Wd F => (U2.later (hbl X9.world X9.fact) G0.out).1 2 (by omega)
 have I7 := fun X9 : Wd F => (U2.later (hbl X9.world X9.fact) G0.out).1 3 (by omega)
 simp only [Nat.reduceAdd] at O7 N7 J7 I7; have U5 := jh hcl; clear hcl hbl; refine jN 17 0 _ _ (fun _ _ _ => rfl) (by decide) ?_; simp only [List.take_succ_cons, List.take_zero, List.drop_succ_cons, List.drop_zero, Nat.reduceAdd]
 repeat (go_big_quiet_step ((first | (go_at_call 194; with_reducible exact jq U5.out (C1.out _)) | (go_at_call 194; with_reducible exact jq U5.out (C0.out _)) | (go_at_call 201; with_reducible exact jq U5.out (K1.out _)) | (go_at_call 201; with_reducible exact jq U5.out (K2.out _)))))
 refine wpQuiet_nil ?_; refine jR ?_; intro bs w2 hb _ _; clear U3 I4 X3 V3; obtain ⟨J3, U1, B⟩ := Zn hb J3 U1 B; clear hb; simp only [over]; clear O7 N7 J7 I7
 go_wp2_with fail
 refine bodyPost_ret (v := .bool false) ?_ rfl ⟨rfl, jk HB0.out B.out⟩
 simp [results, Tryz.results171, go_sem]
theorem may_gt {gp gq gg gh a : Nat} (h1 : 1 < gp) (ha0 : a ≠ 0) (h : gp < a) (G9 : a < jo) (hm : gp < jo) (w : World) :
  Calls Tryz.prog 171 #[.agg #[.int .u64 (jf jd gp 0), .int .u64 (jf jd gp 1), .int .u64 (jf jd gp 2), .int .u64 (jf jd gp 3), .int .u64 (jf jd gq 0), .int .u64 (jf jd gq 1), .int .u64 (jf jd gq 2), .int .u64 (jf jd gq 3), .int .u64 (jf jd gg 0), .int .u64 (jf jd gg 1), .int .u64 (jf jd gg 2), .int .u64 (jf jd gg 3), .int .u64 (jf jd gh 0), .int .u64 (jf jd gh 1), .int .u64 (jf jd gh 2), .int .u64 (jf jd gh 3)], jj a] w fun e w' => e = .returned (.bool false) ∧ Below w.heap.size w w' := by
 have hne := QR a 0 G9 qN; rw [decide_eq_false ha0] at hne; have C1 := jh (fun w => by have h := zx 1 1 rfl (by decide) w; unfold jj words at h; exact h); have C0 := jh (fun w => by have h := zx 0 0 rfl (by decide) w; unfold jj words at h; exact h); have e1 : qL gp 1 = 1 := by exact zX h1
 have K1 := jh (fun w => by have h := qP hm (show 1 < jo by decide) w; rw [e1] at h; unfold jj words at h; exact h); have e2 : qL a gp = 1 := by exact zX h
 have K2 := jh (fun w => by have h := qP G9 hm w; rw [e2] at h; unfold jj words at h; exact h); clear e1 e2 G9 hm h; unfold jj words
 go_enter Tryz.func171, Tryz.ntmps171
 go_wp2_with fail
 obtain ⟨w0, GG, e0, s0, P7, g0, HB0⟩ := JR w 26 gp gq gg gh; rw [e0, s0, P7]; clear e0 s0 P7; obtain ⟨wz, AA, e9, J5, J3, B, V8, Y9, sF, U1⟩ := Zp w0 24 a; rw [e9, J5]; clear e9 J5; have G0 := jh (U2.later B.out g0); clear g0; refine js 17 (fun _ => none) (by kernel_rfl) (by kernel_rfl) (fun _ _ _ _ _ h => h) (fun F X8 hcl hbl => ?_); have U3 := jr hbl J3 0 (by omega); have I4 := jr hbl J3 1 (by omega); have X3 := jr hbl J3 2 (by omega); have V3 := jr hbl J3 3 (by omega); have O7 := fun X9 : Wd F => (U2.later (hbl X9.world X9.fact) G0.out).1 0 (by omega)
 have N7 := fun X9 : Wd F => (U2.later (hbl X9.world X9.fact) G0.out).1 1 (by omega)
 have J7 := fun X9 : Wd F => (U2.later (hbl X9.world X9.fact) G0.out).1 2 (by omega)
 have I7 := fun X9 : Wd F => (U2.later (hbl X9.world X9.fact) G0.out).1 3 (by omega)
 simp only [Nat.reduceAdd] at O7 N7 J7 I7; have U5 := jh hcl; clear hcl hbl; refine jN 17 0 _ _ (fun _ _ _ => rfl) (by decide) ?_; simp only [List.take_succ_cons, List.take_zero, List.drop_succ_cons, List.drop_zero, Nat.reduceAdd]
 repeat (go_big_quiet_step ((first | (go_at_call 194; with_reducible exact jq U5.out (C1.out _)) | (go_at_call 194; with_reducible exact jq U5.out (C0.out _)) | (go_at_call 201; with_reducible exact jq U5.out (K1.out _)) | (go_at_call 201; with_reducible exact jq U5.out (K2.out _)))))
 refine wpQuiet_nil ?_; refine jR ?_; intro bs w2 hb _ _; clear U3 I4 X3 V3; obtain ⟨J3, U1, B⟩ := Zn hb J3 U1 B; clear hb; simp only [over]; clear O7 N7 J7 I7
 go_wp2_with fail
 refine bodyPost_ret (v := .bool false) ?_ rfl ⟨rfl, jk HB0.out B.out⟩
 simp [results, Tryz.results171, go_sem]
def Jq (gp a : Nat) : Prop := 1 < gp ∧ a ≠ 0 ∧ a < gp
instance (gp a : Nat) : Decidable (Jq gp a) := by unfold Jq; exact inferInstance
theorem bV {gp gq gg gh a : Nat} (G9 : a < jo) (hm : gp < jo) (w : World) :
  Calls Tryz.prog 171 #[.agg #[.int .u64 (jf jd gp 0), .int .u64 (jf jd gp 1), .int .u64 (jf jd gp 2), .int .u64 (jf jd gp 3), .int .u64 (jf jd gq 0), .int .u64 (jf jd gq 1), .int .u64 (jf jd gq 2), .int .u64 (jf jd gq 3), .int .u64 (jf jd gg 0), .int .u64 (jf jd gg 1), .int .u64 (jf jd gg 2), .int .u64 (jf jd gg 3), .int .u64 (jf jd gh 0), .int .u64 (jf jd gh 1), .int .u64 (jf jd gh 2), .int .u64 (jf jd gh 3)], jj a] w fun e w' => e = .returned (.bool (decide (Jq gp a))) ∧ Below w.heap.size w w' := by
 by_cases h : Jq gp a
 ·rw [decide_eq_true h]; exact may_yes h.1 h.2.1 h.2.2 hm w
 ·rw [decide_eq_false h]; unfold Jq at h
  by_cases h1 : 1 < gp
  ·by_cases h0 : a = 0
   ·exact may_zero h1 h0 G9 hm w
   ·rcases Nat.lt_trichotomy a gp with h9 | h9 | h9
    ·exact absurd ⟨h1, h0, h9⟩ h
    ·exact may_eq h1 h0 h9 G9 hm w
    ·exact may_gt h1 h0 h9 G9 hm w
  ·rcases Nat.lt_or_ge gp 1 with h9 | h9
   ·exact may_low0 h9 G9 hm w
   ·exact may_low1 (by omega) G9 hm w
theorem kE {gp gq gg gh a n : Nat} (h : Jq gp a) (G9 : a < jo) (hn : n < jo) (hm : gp < jo) (w : World) :
  Calls Tryz.prog 103 #[.agg #[.int .u64 (jf jd gp 0), .int .u64 (jf jd gp 1), .int .u64 (jf jd gp 2), .int .u64 (jf jd gp 3), .int .u64 (jf jd gq 0), .int .u64 (jf jd gq 1), .int .u64 (jf jd gq 2), .int .u64 (jf jd gq 3), .int .u64 (jf jd gg 0), .int .u64 (jf jd gg 1), .int .u64 (jf jd gg 2), .int .u64 (jf jd gg 3), .int .u64 (jf jd gh 0), .int .u64 (jf jd gh 1), .int .u64 (jf jd gh 2), .int .u64 (jf jd gh 3)], jj a, jj n] w fun e w' => e = .returned (.tuple #[jj (a ^ n % gp), .int .i64 0]) ∧ Below w.heap.size w w' := by
 have CM := jh (fun w => by have h9 := bV (gq := gq) (gg := gg) (gh := gh) G9 hm w; rw [decide_eq_true h] at h9; unfold jj words at h9; exact h9); obtain ⟨q, hq⟩ := je (a ^ n % gp); have CE := jh (fun w => by have h9 := Exp_any h.2.2 h.1 hn hm w; rw [← hq] at h9; unfold jj words at h9; exact h9); rw [← hq]; clear hq; clear h G9 hn hm; unfold jj words
 go_enter Tryz.func103, Tryz.ntmps103
 go_wp2_with fail
 obtain ⟨w0, GG, e0, s0, P7, g0, HB0⟩ := JR w 26 gp gq gg gh; rw [e0, s0, P7]; clear e0 s0 P7; obtain ⟨wz, AA, NN, RR, e9, J5, h_1, h_2, J3, Z5, HRR, HF, B, V8, LC, TC, Y9, D6, U1⟩ := QY w0 24 a n; rw [e9, J5, h_1, h_2]; clear e9 J5 h_1 h_2; have G0 := jh (U2.later B.out g0); clear g0; refine (CM.out _).mono ?_; rintro _ w2 ⟨rfl, hb⟩; have G0 := jh (U2.later hb G0.out); obtain ⟨J3, Z5, HRR, HF, U1, B⟩ := OI hb J3 Z5 HRR HF U1 B; clear hb; have O7 := G0.out.1 0 (by omega); have N7 := G0.out.1 1 (by omega); have J7 := G0.out.1 2 (by omega); have I7 := G0.out.1 3 (by omega); simp only [Nat.reduceAdd] at O7 N7 J7 I7; obtain ⟨U3, I4, X3, V3⟩ := jz J3.out; obtain ⟨V6, U6, P6, O6⟩ := jz Z5.out
 go_wp2_with fail
 clear U3 I4 X3 V3 V6 U6 P6 O6; clear O7 N7 J7 I7; refine (CE.out _).mono ?_; rintro _ w3 ⟨rfl, hb⟩; obtain ⟨J3, Z5, HRR, HF, U1, B⟩ := OI hb J3 Z5 HRR HF U1 B; clear hb; obtain ⟨c0, c1, c2, c3, f0, f1, f2, f3⟩ := jL HRR.out HF.out
 go_wp2_with fail
 obtain ⟨Q7, B9⟩ := zw HRR B D6 q; obtain ⟨g0, g1, g2, g3⟩ := jz Q7.out; refine bodyPost_ret (v := .tuple #[jj q, .int .i64 0]) ?_ rfl ⟨rfl, jk HB0.out B9.out⟩
 simp [results, Tryz.results103, go_sem, jj, words, g0, g1, g2, g3]
theorem nV {gp gq gg gh a n : Nat} (h : ¬ Jq gp a) (G9 : a < jo) (hn : n < jo) (hm : gp < jo) (w : World) :
  Calls Tryz.prog 103 #[.agg #[.int .u64 (jf jd gp 0), .int .u64 (jf jd gp 1), .int .u64 (jf jd gp 2), .int .u64 (jf jd gp 3), .int .u64 (jf jd gq 0), .int .u64 (jf jd gq 1), .int .u64 (jf jd gq 2), .int .u64 (jf jd gq 3), .int .u64 (jf jd gg 0), .int .u64 (jf jd gg 1), .int .u64 (jf jd gg 2), .int .u64 (jf jd gg 3), .int .u64 (jf jd gh 0), .int .u64 (jf jd gh 1), .int .u64 (jf jd gh 2), .int .u64 (jf jd gh 3)], jj a, jj n] w fun e w' => e = .returned (.tuple #[jj (0), .int .i64 1]) ∧ Below w.heap.size w w' := by
 have CM := jh (fun w => by have h9 := bV (gq := gq) (gg := gg) (gh := gh) G9 hm w; rw [decide_eq_false h] at h9; unfold jj words at h9; exact h9); clear h G9 hn hm; unfold jj words
 go_enter Tryz.func103, Tryz.ntmps103
 go_wp2_with fail
 obtain ⟨w0, GG, e0, s0, P7, g0, HB0⟩ := JR w 26 gp gq gg gh; rw [e0, s0, P7]; clear e0 s0 P7; obtain ⟨wz, AA, NN, RR, e9, J5, h_1, h_2, J3, Z5, HRR, HF, B, V8, LC, TC, Y9, D6, U1⟩ := QY w0 24 a n; rw [e9, J5, h_1, h_2]; clear e9 J5 h_1 h_2; have G0 := jh (U2.later B.out g0); clear g0; refine (CM.out _).mono ?_; rintro _ w2 ⟨rfl, hb⟩; have G0 := jh (U2.later hb G0.out); obtain ⟨J3, Z5, HRR, HF, U1, B⟩ := OI hb J3 Z5 HRR HF U1 B; clear hb; obtain ⟨c0, c1, c2, c3, f0, f1, f2, f3⟩ := jL HRR.out HF.out
 go_wp2_with fail
 refine bodyPost_ret (v := .tuple #[.agg #[.int .u64 0, .int .u64 0, .int .u64 0, .int .u64 0], .int .i64 1]) ?_ rfl ⟨by simp only [jI]; rfl, jk HB0.out (jK B.out D6 _ _ _ _)⟩; have n9 := U0.set4 HRR.out 0; have z0 : ((jf jd 0 0 : Nat) : Int) = 0 := by rw [jI]; rfl
 have z1 : ((jf jd 0 1 : Nat) : Int) = 0 := by rw [jI]; rfl
 have z2 : ((jf jd 0 2 : Nat) : Int) = 0 := by rw [jI]; rfl
 have z3 : ((jf jd 0 3 : Nat) : Int) = 0 := by rw [jI]; rfl
 rw [z0, z1, z2, z3] at n9; obtain ⟨g0, g1, g2, g3⟩ := jz n9; rw [z0] at g0; rw [z1] at g1; rw [z2] at g2; rw [z3] at g3
 simp [results, Tryz.results103, go_sem, g0, g1, g2, g3]
end Go.Proofs.YtmijablfjigbhaaGreatDoor
