/- Layers 4, 9, 13 -/
import Derived.Test.YtcaeaejefdhloaaGreatZWG32
import Derived.Test.YtcaeaejefdhloaaGreatZWG37
set_option linter.unusedSimpArgs false
set_option linter.unusedVariables false
set_option maxHeartbeats 4000000
set_option maxRecDepth 100000
namespace Go.Proofs.YtcaeaejefdhloaaGreat
open Go.ChangeShapes Go.WideShapes Go.ChangeAt Go.RowKit
theorem Add_as {a n m q : Nat} {e9 : Int} (hof : ∀ W, Calls Tryz.prog 81 #[.agg #[.func (.func 116) #[] #[]], ji a, ji n, ji m] W fun e w' => e = .returned (.tuple #[ji q, .int .i64 e9]) ∧ Below W.heap.size W w') (w : World) :
  Calls Tryz.prog 77 #[ji a, ji n, ji m] w fun e w' => e = .returned (.tuple #[ji q, .int .i64 e9]) ∧ Below w.heap.size w w' := by
 have HOF := jh hof; clear hof; unfold ji words
 go_enter Tryz.func77, Tryz.ntmps77
 go_wp2_with fail
 obtain ⟨w_0, e_0⟩ := je (w.alloc (.cells #[.int .u64 (jf jd a 0), .int .u64 (jf jd a 1), .int .u64 (jf jd a 2), .int .u64 (jf jd a 3)] 24)); have s_0 : w_0.heap.size = w.heap.size + 1 := by rw [e_0]; simp
 have b_0 := jc e_0; have n_0 : NumAt w_0 (w.heap.size) a := by rw [e_0]; exact NumAt.new w a _ _ rfl
 obtain ⟨w_1, e_1⟩ := je (w_0.alloc (.cells #[.int .u64 (jf jd n 0), .int .u64 (jf jd n 1), .int .u64 (jf jd n 2), .int .u64 (jf jd n 3)] 24)); have s_1 : w_1.heap.size = w.heap.size + 1 + 1 := by rw [e_1]; simp [s_0]
 have b_1 := jc e_1; have n_1 : NumAt w_1 (w.heap.size + 1) n := by rw [e_1]; exact NumAt.new w_0 n _ _ s_0.symm
 obtain ⟨w_2, e_2⟩ := je (w_1.alloc (.cells #[.int .u64 (jf jd m 0), .int .u64 (jf jd m 1), .int .u64 (jf jd m 2), .int .u64 (jf jd m 3)] 24)); have s_2 : w_2.heap.size = w.heap.size + 1 + 1 + 1 := by rw [e_2]; simp [s_1]
 have b_2 := jc e_2; have n_2 : NumAt w_2 (w.heap.size + 1 + 1) m := by rw [e_2]; exact NumAt.new w_1 m _ _ s_1.symm
 obtain ⟨wz, e_3⟩ := je (w_2.alloc (.cells #[.int .u64 0, .int .u64 0, .int .u64 0, .int .u64 0] 24)); have s_3 : wz.heap.size = w.heap.size + 1 + 1 + 1 + 1 := by rw [e_3]; simp [s_2]
 have b_3 := jc e_3; have n_3 : NumAt wz (w.heap.size + 1 + 1 + 1) 0 := by rw [e_3, ← s_2]; exact jz w_2 _
 have f_3 : FreeN wz (w.heap.size + 1 + 1 + 1) 4 := by rw [e_3]; exact FreeN.made w_2 _ _ 4 _ s_2.symm
 rw [← e_0, ← e_1, ← e_2, ← e_3]; obtain ⟨AA, h_0⟩ := je (w.heap.size); obtain ⟨NN, h_1⟩ := je (AA + 1); obtain ⟨MM, h_2⟩ := je (NN + 1); obtain ⟨RR, h_3⟩ := je (MM + 1); have hwL : w.heap.size ≤ AA := by omega
 have hRd : RR < wz.heap.size := by omega
 rw [← h_0] at n_0 n_1 n_2 n_3 f_3 ⊢; rw [← h_1] at n_1 n_2 n_3 f_3 ⊢; rw [← h_2] at n_2 n_3 f_3 ⊢; rw [← h_3] at n_3 f_3 ⊢; have l_1 : AA < NN := by omega
 have l_2 : NN < MM := by omega
 have l_3 : MM < RR := by omega
 have HAA := jh (NumAt.later b_3 (NumAt.later b_2 (NumAt.later b_1 n_0))); have HNN := jh (NumAt.later b_3 (NumAt.later b_2 n_1)); have HMM := jh (NumAt.later b_3 n_2); have HRR := jh n_3; have HF := jh f_3; have B := jh (((b_0.trans (b_1.mono (by omega))).trans (b_2.mono (by omega))).trans (b_3.mono (by omega))); have hwRR : w.heap.size ≤ RR := by omega
 have HSZ := jh (show wz.heap.size = RR + 1 by omega); clear e_0 s_0 b_0 n_0 h_0 e_1 s_1 b_1 n_1 h_1 e_2 s_2 b_2 n_2 h_2 e_3 s_3 b_3 n_3 h_3 f_3; have CO := HOF.out wz; unfold ji words at CO; refine CO.mono ?_; rintro _ w3 ⟨rfl, hb⟩; clear CO; have HAA := jn hb HAA; have HNN := jn hb HNN; have HMM := jn hb HMM; have HRR := jn hb HRR; have HF := jh (HF.out.later hb hRd); have hRd := Nat.lt_of_lt_of_le hRd hb.size; have B := jw B hb; clear hb; obtain ⟨c0, c1, c2, c3, f0, f1, f2, f3⟩ := jC HRR.out HF.out
 go_wp2_with fail
 have HRL := jh (NumAt.set4 HRR.out q); have B9 := jh (jp B.out hwRR (.int .u64 (jf jd q 0)) (.int .u64 (jf jd q 1)) (.int .u64 (jf jd q 2)) (.int .u64 (jf jd q 3))); obtain ⟨g0, g1, g2, g3⟩ := jy HRL.out; refine bodyPost_ret (v := .tuple #[.agg #[.int .u64 (jf jd q 0), .int .u64 (jf jd q 1), .int .u64 (jf jd q 2), .int .u64 (jf jd q 3)], .int .i64 e9]) ?_ rfl ⟨rfl, B9.out⟩
 simp [results, Tryz.results77, go_sem, g0, g1, g2, g3]
theorem SAdd_as {gp gq gg gh a b q : Nat} {e9 : Int} (ha : ∀ W, Calls Tryz.prog 77 #[ji a, ji b, ji gq] W fun e w' => e = .returned (.tuple #[ji q, .int .i64 e9]) ∧ Below W.heap.size W w') (w : World) :
  Calls Tryz.prog 50 #[jM gp gq gg gh, ji a, ji b] w fun e w' => e = .returned (.tuple #[ji q, .int .i64 e9]) ∧ Below w.heap.size w w' := by
 unfold jM; have CE := jh (fun w => by have h9 := ha w; unfold ji words at h9; exact h9); clear ha; unfold ji words
 go_enter Tryz.func50, Tryz.ntmps50
 go_upto_region 1 with fail
 obtain ⟨w0, e0⟩ := je (w.alloc (.cells #[.int .u64 (jf jd gp 0), .int .u64 (jf jd gp 1), .int .u64 (jf jd gp 2), .int .u64 (jf jd gp 3), .int .u64 (jf jd gq 0), .int .u64 (jf jd gq 1), .int .u64 (jf jd gq 2), .int .u64 (jf jd gq 3), .int .u64 (jf jd gg 0), .int .u64 (jf jd gg 1), .int .u64 (jf jd gg 2), .int .u64 (jf jd gg 3), .int .u64 (jf jd gh 0), .int .u64 (jf jd gh 1), .int .u64 (jf jd gh 2), .int .u64 (jf jd gh 3)] 26)); obtain ⟨GG, hGG⟩ := je (w.heap.size); have b0 := jc e0; have s0 : w0.heap.size = w.heap.size + 1 := by rw [e0]; simp
 have g0 : GrpAt w0 GG gp gq gg gh := by rw [e0, hGG]; exact GrpAt.new _ _ _ _ _ _
 rw [← e0, ← s0, ← hGG]; have HB0 := jh b0; clear e0 hGG b0 s0; obtain ⟨w_0, e_0⟩ := je (w0.alloc (.cells #[.int .u64 (jf jd a 0), .int .u64 (jf jd a 1), .int .u64 (jf jd a 2), .int .u64 (jf jd a 3)] 24)); have s_0 : w_0.heap.size = w0.heap.size + 1 := by rw [e_0]; simp
 have b_0 := jc e_0; have n_0 : NumAt w_0 (w0.heap.size) a := by rw [e_0]; exact NumAt.new w0 a _ _ rfl
 obtain ⟨w_1, e_1⟩ := je (w_0.alloc (.cells #[.int .u64 (jf jd b 0), .int .u64 (jf jd b 1), .int .u64 (jf jd b 2), .int .u64 (jf jd b 3)] 24)); have s_1 : w_1.heap.size = w0.heap.size + 1 + 1 := by rw [e_1]; simp [s_0]
 have b_1 := jc e_1; have n_1 : NumAt w_1 (w0.heap.size + 1) b := by rw [e_1]; exact NumAt.new w_0 b _ _ s_0.symm
 obtain ⟨wz, e_2⟩ := je (w_1.alloc (.cells #[.int .u64 0, .int .u64 0, .int .u64 0, .int .u64 0] 24)); have s_2 : wz.heap.size = w0.heap.size + 1 + 1 + 1 := by rw [e_2]; simp [s_1]
 have b_2 := jc e_2; have n_2 : NumAt wz (w0.heap.size + 1 + 1) 0 := by rw [e_2, ← s_1]; exact jz w_1 _
 have f_2 : FreeN wz (w0.heap.size + 1 + 1) 4 := by rw [e_2]; exact FreeN.made w_1 _ _ 4 _ s_1.symm
 rw [← e_0, ← e_1, ← e_2]; obtain ⟨AA, h_0⟩ := je (w0.heap.size); obtain ⟨BB, h_1⟩ := je (AA + 1); obtain ⟨RR, h_2⟩ := je (BB + 1); have hwL : w0.heap.size ≤ AA := by omega
 have hRd : RR < wz.heap.size := by omega
 rw [← h_0] at n_0 n_1 n_2 f_2 ⊢; rw [← h_1] at n_1 n_2 f_2 ⊢; rw [← h_2] at n_2 f_2 ⊢; have l_1 : AA < BB := by omega
 have l_2 : BB < RR := by omega
 have HAA := jh (NumAt.later b_2 (NumAt.later b_1 n_0)); have HBB := jh (NumAt.later b_2 n_1); have HRR := jh n_2; have HF := jh f_2; have B := jh ((b_0.trans (b_1.mono (by omega))).trans (b_2.mono (by omega))); have hwRR : w0.heap.size ≤ RR := by omega
 have HSZ := jh (show wz.heap.size = RR + 1 by omega); clear e_0 s_0 b_0 n_0 h_0 e_1 s_1 b_1 n_1 h_1 e_2 s_2 b_2 n_2 h_2 f_2; have G0 := jh (GrpAt.later B.out g0); clear g0; have r_G_0 := G0.out.2.1 0 (by omega); have r_G_1 := G0.out.2.1 1 (by omega); have r_G_2 := G0.out.2.1 2 (by omega); have r_G_3 := G0.out.2.1 3 (by omega); simp only [Nat.reduceAdd] at r_G_0 r_G_1 r_G_2 r_G_3; obtain ⟨r_AA_0, r_AA_1, r_AA_2, r_AA_3⟩ := jy HAA.out; obtain ⟨r_BB_0, r_BB_1, r_BB_2, r_BB_3⟩ := jy HBB.out
 go_wp2_with fail
 clear r_AA_0 r_AA_1 r_AA_2 r_AA_3 r_BB_0 r_BB_1 r_BB_2 r_BB_3; clear r_G_0 r_G_1 r_G_2 r_G_3; refine (CE.out _).mono ?_; rintro _ w3 ⟨rfl, hb⟩; have HAA := jn hb HAA; have HBB := jn hb HBB; have HRR := jn hb HRR; have HF := jh (HF.out.later hb hRd); have hRd := Nat.lt_of_lt_of_le hRd hb.size; have B := jw B hb; clear hb; obtain ⟨c0, c1, c2, c3, f0, f1, f2, f3⟩ := jC HRR.out HF.out
 go_wp2_with fail
 have HRL := jh (NumAt.set4 HRR.out q); have B9 := jh (jp B.out hwRR (.int .u64 (jf jd q 0)) (.int .u64 (jf jd q 1)) (.int .u64 (jf jd q 2)) (.int .u64 (jf jd q 3))); obtain ⟨g0, g1, g2, g3⟩ := jy HRL.out; refine bodyPost_ret (v := .tuple #[.agg #[.int .u64 (jf jd q 0), .int .u64 (jf jd q 1), .int .u64 (jf jd q 2), .int .u64 (jf jd q 3)], .int .i64 e9]) ?_ rfl ⟨rfl, jk HB0.out B9.out⟩
 simp [results, Tryz.results50, go_sem, g0, g1, g2, g3]
theorem SAdd_no {gp gq gg gh a : Nat} (ha : gq ≤ a) (h1 : 1 < gq) (ha9 : a < jj) (hm : gq < jj) (w : World) :
  Calls Tryz.prog 50 #[jM gp gq gg gh, ji a, ji a] w fun e w' => e = .returned (.tuple #[ji 0, .int .i64 1]) ∧ Below w.heap.size w w' :=
 SAdd_as (Add_as (fun W => of_no h1 ha hm ha9 ha9 W)) w
theorem SAdd_low {gp gq gg gh a : Nat} (h1 : gq ≤ 1) (ha9 : a < jj) (hm : gq < jj) (w : World) :
  Calls Tryz.prog 50 #[jM gp gq gg gh, ji a, ji a] w fun e w' => e = .returned (.tuple #[ji 0, .int .i64 1]) ∧ Below w.heap.size w w' :=
 SAdd_as (Add_as (fun W => of_low h1 hm ha9 ha9 W)) w
theorem exponents_all {gp gq gg gh b o cap : Nat} {xs : List Nat} (hx : ∀ x ∈ xs, x < jj) (hm : gq < jj) (w : World) (h : NumsAt w b o xs) (hn0 : xs.length ≤ 1000) :
  Calls Tryz.prog 31 #[jM gp gq gg gh, .slice (some ⟨b, o, none⟩) xs.length cap] w fun e w' => e = .returned (.bool (xs.all fun x => decide (1 < gq ∧ x < gq))) ∧ Below w.heap.size w w' := by
 unfold jM; have HX := jh h; obtain ⟨n, hn⟩ := je (xs.length); have HN := jh hn; rw [← hn]; have hnb : n ≤ 1000 := by omega
 have CE := jh (fun (x : Nat) (hx9 : x < jj) (w : World) => show ∃ (z : Nat) (e9 : Int), (e9 = 0 ↔ 1 < gq ∧ x < gq) ∧ Calls Tryz.prog 50 #[jM gp gq gg gh, ji x, ji x] w (fun e w' => e = .returned (.tuple #[ji z, .int .i64 e9]) ∧ Below w.heap.size w w') from by by_cases h1 : 1 < gq; by_cases hq : x < gq; exact ⟨_, 0, ⟨fun _ => ⟨h1, hq⟩, fun _ => rfl⟩, SAdd_any hq hq h1 hm w⟩; exact ⟨0, 1, ⟨fun h => by omega, fun h => absurd h.2 hq⟩, SAdd_no (by omega) h1 hx9 hm w⟩; exact ⟨0, 1, ⟨fun h => by omega, fun h => absurd h.1 h1⟩, SAdd_low (by omega) hx9 hm w⟩); have HXL := jh hx; clear h hn hx hm hn0
 go_enter Tryz.func31, Tryz.ntmps31
 go_upto_region 1 with fail
 obtain ⟨w0, e0⟩ := je (w.alloc (.cells #[.int .u64 (jf jd gp 0), .int .u64 (jf jd gp 1), .int .u64 (jf jd gp 2), .int .u64 (jf jd gp 3), .int .u64 (jf jd gq 0), .int .u64 (jf jd gq 1), .int .u64 (jf jd gq 2), .int .u64 (jf jd gq 3), .int .u64 (jf jd gg 0), .int .u64 (jf jd gg 1), .int .u64 (jf jd gg 2), .int .u64 (jf jd gg 3), .int .u64 (jf jd gh 0), .int .u64 (jf jd gh 1), .int .u64 (jf jd gh 2), .int .u64 (jf jd gh 3)] 26)); obtain ⟨GG, hGG⟩ := je (w.heap.size); have b0 := jc e0; have s0 : w0.heap.size = w.heap.size + 1 := by rw [e0]; simp
 have g0 : GrpAt w0 GG gp gq gg gh := by rw [e0, hGG]; exact GrpAt.new _ _ _ _ _ _
 rw [← e0, ← hGG]; have HB0 := jh b0; clear e0 hGG b0 s0; have G0 := jh g0; clear g0
 go_wp2_with fail
 go_loopw [11] (fun i wr => ∃ k : Nat, k ≤ n ∧ i = .int .i64 k ∧ Hid (∀ x ∈ xs.take k, 1 < gq ∧ x < gq) ∧ Hid (GrpAt wr GG gp gq gg gh) ∧ Hid (Below w.heap.size w wr)) (fun i _ => n - (intOf i).toNat)
 case atStart => exact ⟨0, Nat.zero_le _, rfl, jh (by simp), G0, HB0⟩
 case round =>
  clear G0 HB0; obtain ⟨k, hk, rfl, HT, G0, HB0⟩ := hrel
  by_cases hlt : k < n
  ·obtain ⟨x, hx⟩ : ∃ x, xs[k]? = some x := ⟨_, List.getElem?_eq_getElem (by rw [← HN.out]; exact hlt)⟩; have hltI : (k : Int) < (n : Int) := by omega
   have HLT := jh hlt; have HXX := jh (HXL.out x (List.mem_of_getElem? hx)); have HXK := jh hx; have r0 := jm (HX.out k x hx 0 (by decide)) HB0.out; have r1 := jm (HX.out k x hx 1 (by decide)) HB0.out; have r2 := jm (HX.out k x hx 2 (by decide)) HB0.out; have r3 := jm (HX.out k x hx 3 (by decide)) HB0.out; rw [Nat.add_zero] at r0; clear hx hlt
   go_upto_region 4 with fail
   obtain ⟨w3, e3⟩ := je (wr.alloc (.cells #[.int .u64 (jf jd x 0), .int .u64 (jf jd x 1), .int .u64 (jf jd x 2), .int .u64 (jf jd x 3)] 24)); obtain ⟨XX, hXX⟩ := je (wr.heap.size); have hb := jc e3; have HV := jh (show NumAt w3 XX x by rw [e3, hXX]; exact NumAt.new _ _ _ _ rfl); have HB0 := jw HB0 hb; have G0 := jh (G0.out.later hb); rw [← e3, ← hXX]; clear e3 hXX hb; obtain ⟨y0, y1, y2, y3, y4, y5, y6, y7, y8, y9, y10, y11, y12, y13, y14, y15⟩ := ZK G0.out; obtain ⟨r0, r1, r2, r3⟩ := jy HV.out
   go_wp2_with fail
   clear y0 y1 y2 y3 y4 y5 y6 y7 y8 y9 y10 y11 y12 y13 y14 y15 r0 r1 r2 r3; obtain ⟨z, e9, he9, hC⟩ := CE.out x HXX.out w3; unfold ji words jM at hC; have HE9 := jh he9; clear he9; refine hC.mono ?_; rintro _ w4 ⟨rfl, hb⟩; clear hC; have HB0 := jw HB0 hb; have G0 := jh (G0.out.later hb); clear hb HV
   go_upto_region 5 with fail
   obtain ⟨w5, e5⟩ := je (w4.alloc (.cells #[.int .u64 (jf jd z 0), .int .u64 (jf jd z 1), .int .u64 (jf jd z 2), .int .u64 (jf jd z 3)] 24)); have hb := jc e5; have HB0 := jw HB0 hb; have G0 := jh (G0.out.later hb); rw [← e5]; clear e5 hb
   by_cases he : e9 = 0
   ·have he1 : (e9 != 0) = false := by rw [he]; rfl
    have HLX := jh (HE9.out.1 he); clear he
    go_wp2_with fail
    go_roundw
    case rel => exact ⟨k + 1, HLT.out, by go_num, jh (by intro y hy; rw [List.take_add_one, HXK.out] at hy; rcases List.mem_append.1 hy with h | h; exact HT.out y h; simp only [Option.toList_some, List.mem_singleton] at h; rw [h]; exact HLX.out), G0, HB0⟩
    case measure => simp [intOf]; have := HLT.out; omega
   ·have he1 : (e9 != 0) = true := by simpa using he
    have HLX := jh (show xs.all (fun x => decide (1 < gq ∧ x < gq)) = false from List.all_eq_false.2 ⟨x, List.mem_of_getElem? HXK.out, by rw [decide_eq_false (fun h => he (HE9.out.2 h))]; decide⟩); clear he
    go_wp2_with fail
    go_ret
    rw [HLX.out]; exact ⟨rfl, HB0.out⟩
  ·obtain rfl : k = n := by omega
   clear hlt; have HLX := jh (show xs.all (fun x => decide (1 < gq ∧ x < gq)) = true from List.all_eq_true.2 (fun x hx => by exact decide_eq_true (HT.out x (by rw [List.take_of_length_le (by rw [← HN.out]; exact Nat.le_refl _)]; exact hx))))
   go_wp2_with fail
   go_ret
   rw [HLX.out]; exact ⟨rfl, HB0.out⟩
end Go.Proofs.YtcaeaejefdhloaaGreat
