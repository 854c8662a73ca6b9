/- Layer 4 (mods): power, of words; Layer 4 (mods): Exp; Layer 4 (mods): Exp, Mul: of numbers that may be -/
import Derived.Test.YtpoocnkflmimdaaLPWG29
namespace Go.Proofs.Ytpoocnkflmimdaa
open Go.ChangeShapes Go.WideShapes Go.ChangeAt Go.RowKit
set_option linter.unusedVariables false in
set_option linter.unusedSimpArgs false in
set_option maxRecDepth 100000 in
set_option maxHeartbeats 4000000 in
theorem power_word {a n m : Nat} (ha : a < m) (h1 : 1 < m) (hn : n < M256) {f : FuncId} {caps : Array Value} (w : World) (hent : ∀ (args : Array Value) (W : World), (callFunc f args).run Try.prog W = .ok (.enter f args) W)
    (ht : ∀ x y W, x < m → y < m → Below w.heap.size w W → Calls Try.prog f (#[.int .u64 (x : Nat), .int .u64 (y : Nat)] ++ caps) W fun e w' => e = .returned (.int .u64 ((x * y % m : Nat) : Int)) ∧ Below W.heap.size W w') :
    Calls Try.prog 49 #[.int .u64 (a : Nat), .int .u64 1, numV n, .func (.func f) #[] caps] w fun e w' => e = .returned (.int .u64 ((a ^ n % m : Nat) : Int)) ∧ Below w.heap.size w w' := by
  obtain ⟨L, hL⟩ : ∃ L, L = bitsN n := ⟨_, rfl⟩
  have hL2 : L ≤ 256 := by rw [hL]; exact bitsN_le256 hn
  have hLn : n < 2 ^ L := by rw [hL]; exact (bitsN_spec n).1
  have CB := Lib.hid (fun w => by have h := bits_any hn w; rw [← hL] at h; unfold numV words at h; exact h)
  have HE := Lib.hid hent
  have HT := Lib.hid ht
  have HAM := Lib.hid ha
  have HN9 := Lib.hid hn
  have HM1 := Lib.hid h1
  have HLn := Lib.hid hLn
  obtain ⟨Q, hQ⟩ : ∃ Q, Q = a ^ n % m := ⟨_, rfl⟩
  rw [← hQ]
  have HQ := Lib.hid hQ
  clear hL hLn hQ ha hn hent ht
  unfold numV words at *
  go_enter Try.func49, Try.ntmps49
  go_wp2_with fail
  obtain ⟨wz, e_0⟩ : ∃ w9, w9 = w.alloc (.cells #[.int .u64 (dgt W64 n 0), .int .u64 (dgt W64 n 1), .int .u64 (dgt W64 n 2), .int .u64 (dgt W64 n 3)] 24) := ⟨_, rfl⟩
  have s_0 : wz.heap.size = w.heap.size + 1 := by rw [e_0]; simp
  have b_0 : Below w.heap.size w wz := by rw [e_0]; exact (Below.refl _ _).alloc (Nat.le_refl _) _
  have n_0 : NumAt wz (w.heap.size) n := by rw [e_0]; exact NumAt.new w n _ _ rfl
  rw [← e_0]
  obtain ⟨NN, h_0⟩ : ∃ b, b = w.heap.size := ⟨_, rfl⟩
  have hwL : w.heap.size ≤ NN := by omega
  have hRd : NN < wz.heap.size := by omega
  rw [← h_0] at n_0 ⊢
  have HNN := Lib.hid n_0
  have B := Lib.hid b_0
  have hwNN : w.heap.size ≤ NN := by omega
  have HSZ := Lib.hid (show wz.heap.size = NN + 1 by omega)
  clear e_0 s_0 b_0 n_0 h_0
  obtain ⟨r_NN_0, r_NN_1, r_NN_2, r_NN_3⟩ := num4 HNN.out
  go_wp2_with fail
  clear r_NN_0 r_NN_1 r_NN_2 r_NN_3
  refine (CB.out _).mono ?_
  rintro _ w2 ⟨rfl, hb⟩
  have HNN := Lib.hid (NumAt.later hb HNN.out)
  have hRd := Nat.lt_of_lt_of_le hRd hb.size
  have B := Lib.hid (below_later B.out hb)
  clear hb
  go_wp2_with fail
  go_loopw [9, 14] (fun ov i wr => ∃ k o : Nat, k ≤ L ∧ i = .int .i64 k ∧ ov = .int .u64 o ∧ o < m ∧ Hid (o = a ^ (n / 2 ^ (L - k)) % m) ∧ Hid (NumAt wr NN n) ∧ Hid (Below w.heap.size w wr) ∧ NN < wr.heap.size) (fun _ i _ => L - (intOf i).toNat)
  case atStart => exact ⟨0, 1, Nat.zero_le _, rfl, rfl, h1, Lib.hid (pow_start HLn.out h1), HNN, B, hRd⟩
  case round =>
    clear HNN B hRd
    obtain ⟨k, o, hk, rfl, rfl, hom, HO, HNN, B, hRd⟩ := hrel
    by_cases hlt : k < L
    · have hltI : (k : Int) < (L : Int) := by omega
      obtain ⟨oo, hoo⟩ : ∃ x, x = o * o % m := ⟨_, rfl⟩
      have hoom : oo < m := by rw [hoo]; exact Nat.mod_lt _ (by omega)
      have C2 := Lib.hid (fun W hb => by have h := HT.out o o W hom hom hb; rw [← hoo] at h; exact h)
      obtain ⟨j, hj⟩ : ∃ j, j = L - 1 - k := ⟨_, rfl⟩
      have eI : ((L : Int) - 1 - (k : Int)) = (j : Int) := by omega
      obtain ⟨b, hb⟩ : ∃ b, b = n / 2 ^ j % 2 := ⟨_, rfl⟩
      have CT := Lib.hid (fun w => by have h := bit_any (a := n) (j : Int) w (by omega) (by omega); rw [bitN_at (by omega), ← hb] at h; unfold numV words at h; exact h)
      have he := HE.out
      have hb2 : b = 0 ∨ b = 1 := by omega
      have HB := Lib.hid (show b = n / 2 ^ (L - 1 - k) % 2 by rw [hb, hj])
      have HOO2 := Lib.hid hoo
      clear hb hoo hj
      go_wp2_with fail
      refine (C2.out _ B.out).mono ?_
      rintro _ w3 ⟨rfl, hb⟩
      clear he
      have HNN := Lib.hid (NumAt.later hb HNN.out)
      have hRd := Nat.lt_of_lt_of_le hRd hb.size
      have B := Lib.hid (below_later B.out hb)
      clear hb
      go_wp2_with fail
      rcases hb2 with rfl | rfl
      · skip
        refine wp_region_fresh 8 (fun _ => none) (by kernel_rfl) (by kernel_rfl) (fun _ _ _ _ _ h => h) (fun F hn9 hcl hbl => ?_)
        have r_NN_0 := fun X9 : Wd F => (NumAt.later (hbl X9.world X9.fact) HNN.out) 0 (by omega)
        have r_NN_1 := fun X9 : Wd F => (NumAt.later (hbl X9.world X9.fact) HNN.out) 1 (by omega)
        have r_NN_2 := fun X9 : Wd F => (NumAt.later (hbl X9.world X9.fact) HNN.out) 2 (by omega)
        have r_NN_3 := fun X9 : Wd F => (NumAt.later (hbl X9.world X9.fact) HNN.out) 3 (by omega)
        have HCL := Lib.hid hcl
        clear hcl hbl
        refine wpF_seg 8 0 _ _ (fun _ _ _ => rfl) (by decide) ?_
        simp only [List.take_succ_cons, List.take_zero, List.drop_succ_cons, List.drop_zero, Nat.reduceAdd]
        repeat (go_big_quiet_step ((first | (go_at_call 48; with_reducible exact to_class HCL.out (CB.out _)) | (go_at_call 71; with_reducible exact to_class HCL.out (CT.out _)))))
        refine wpQuiet_nil ?_
        refine wpF_nil ?_
        intro bs w5 hb _ _
        clear r_NN_0 r_NN_1 r_NN_2 r_NN_3
        have HNN := Lib.hid (NumAt.later hb HNN.out)
        have hRd := Nat.lt_of_lt_of_le hRd hb.size
        have B := Lib.hid (below_later B.out hb)
        clear hb
        simp only [over]
        go_wp2_with fail
        have HK2 := Lib.hid (show oo = a ^ (n / 2 ^ (L - (k + 1))) % m by rw [HOO2.out]; exact pow_even hlt HO.out HB.out.symm)
        go_roundw
        case rel => exact ⟨k + 1, oo, by omega, by go_num, rfl, hoom, HK2, HNN, B, hRd⟩
        case measure => simp [intOf]; omega
      · skip
        refine wp_region_fresh 8 (fun _ => none) (by kernel_rfl) (by kernel_rfl) (fun _ _ _ _ _ h => h) (fun F hn9 hcl hbl => ?_)
        have r_NN_0 := fun X9 : Wd F => (NumAt.later (hbl X9.world X9.fact) HNN.out) 0 (by omega)
        have r_NN_1 := fun X9 : Wd F => (NumAt.later (hbl X9.world X9.fact) HNN.out) 1 (by omega)
        have r_NN_2 := fun X9 : Wd F => (NumAt.later (hbl X9.world X9.fact) HNN.out) 2 (by omega)
        have r_NN_3 := fun X9 : Wd F => (NumAt.later (hbl X9.world X9.fact) HNN.out) 3 (by omega)
        have HCL := Lib.hid hcl
        clear hcl hbl
        refine wpF_seg 8 0 _ _ (fun _ _ _ => rfl) (by decide) ?_
        simp only [List.take_succ_cons, List.take_zero, List.drop_succ_cons, List.drop_zero, Nat.reduceAdd]
        repeat (go_big_quiet_step ((first | (go_at_call 48; with_reducible exact to_class HCL.out (CB.out _)) | (go_at_call 71; with_reducible exact to_class HCL.out (CT.out _)))))
        refine wpQuiet_nil ?_
        refine wpF_nil ?_
        intro bs w5 hb _ _
        clear r_NN_0 r_NN_1 r_NN_2 r_NN_3
        have HNN := Lib.hid (NumAt.later hb HNN.out)
        have hRd := Nat.lt_of_lt_of_le hRd hb.size
        have B := Lib.hid (below_later B.out hb)
        clear hb
        simp only [over]
        obtain ⟨q2, hq2⟩ : ∃ x, x = oo * a % m := ⟨_, rfl⟩
        have hq2m : q2 < m := by rw [hq2]; exact Nat.mod_lt _ (by omega)
        have C3 := Lib.hid (fun W hb => by have h := HT.out oo a W hoom HAM.out hb; rw [← hq2] at h; exact h)
        have HK2 := Lib.hid (show q2 = a ^ (n / 2 ^ (L - (k + 1))) % m by rw [hq2, HOO2.out]; exact pow_odd hlt HO.out HB.out.symm)
        clear hq2
        have he := HE.out
        go_wp2_with fail
        refine (C3.out _ B.out).mono ?_
        rintro _ w6 ⟨rfl, hb⟩
        clear he
        have HNN := Lib.hid (NumAt.later hb HNN.out)
        have hRd := Nat.lt_of_lt_of_le hRd hb.size
        have B := Lib.hid (below_later B.out hb)
        clear hb
        go_wp2_with fail
        go_roundw
        case rel => exact ⟨k + 1, q2, by omega, by go_num, rfl, hq2m, HK2, HNN, B, hRd⟩
        case measure => simp [intOf]; omega
    · have hkL : k = L := by omega
      rw [hkL] at HO ⊢
      have hltI : ¬ ((L : Int) < (L : Int)) := by omega
      have HOQ := Lib.hid (show o = Q by rw [HQ.out]; exact pow_end HO.out)
      clear hkL HO
      go_wp2_with fail
      rw [HOQ.out]
      refine bodyPost_ret (v := .int .u64 (Q : Nat)) ?_ rfl ⟨rfl, B.out⟩
      simp [results, Try.results49, go_sem]
end Go.Proofs.Ytpoocnkflmimdaa
namespace Go.Proofs.Ytpoocnkflmimdaa
open Go.ChangeShapes Go.WideShapes Go.ChangeAt Go.RowKit
set_option linter.unusedVariables false in
set_option linter.unusedSimpArgs false in
set_option maxRecDepth 100000 in
set_option maxHeartbeats 4000000 in
theorem exp_word {x y m M : Nat} (hx : x < m) (hy : y < m) (hm : m < W64) (w : World) (hM : NumAt w M m) :
    Calls Try.prog 50 #[.int .u64 (x : Nat), .int .u64 (y : Nat), .pointer (some ⟨M, 0, none⟩)] w fun e w' => e = .returned (.int .u64 ((x * y % m : Nat) : Int)) ∧ Below w.heap.size w w' := by
  have CW := Lib.hid (fun w => word_any (Nat.lt_trans hx hm) (Nat.lt_trans hy hm) hm (Nat.mul_lt_mul_of_lt_of_lt hx (Nat.lt_trans hy hm)) w)
  obtain ⟨q, hq⟩ : ∃ q, q = x * y % m := ⟨_, rfl⟩
  rw [← hq] at CW ⊢
  obtain ⟨dm, _, _, _⟩ := dgt_small hm
  obtain ⟨r0, r1, r2, r3⟩ := num4 hM
  rw [dm] at r0
  clear dm hq hx hy hm hM
  go_enter Try.func50, Try.ntmps50
  go_wp2_with fail
  refine (CW.out _).mono ?_
  rintro _ w2 ⟨rfl, hb⟩
  go_wp2_with fail
  refine bodyPost_ret (v := .int .u64 (q : Nat)) ?_ rfl ⟨rfl, hb⟩
  simp [results, Try.results50, go_sem]
set_option linter.unusedVariables false in
set_option linter.unusedSimpArgs false in
set_option maxRecDepth 100000 in
set_option maxHeartbeats 4000000 in
theorem exp_long {x y m M : Nat} (hx : x < m) (hy : y < m) (hm : m < M256) (w : World) (hM : NumAt w M m) :
    Calls Try.prog 53 #[numV x, numV y, .pointer (some ⟨M, 0, none⟩)] w fun e w' => e = .returned (numV (x * y % m)) ∧ Below w.heap.size w w' := by
  have CT := Lib.hid (fun w => mtimes_any hx hy hm w)
  obtain ⟨q, hq⟩ : ∃ q, q = x * y % m := ⟨_, rfl⟩
  rw [← hq] at CT ⊢
  have hMl := hM.lt
  have HM := Lib.hid hM
  clear hq hx hy hm hM
  unfold numV words at *
  go_enter Try.func53, Try.ntmps53
  have q_0 := fun o1 o2 o3 => (NumAt.alloc (NumAt.alloc (NumAt.alloc HM.out o1) o2) o3) 0 (by omega)
  have q_1 := fun o1 o2 o3 => (NumAt.alloc (NumAt.alloc (NumAt.alloc HM.out o1) o2) o3) 1 (by omega)
  have q_2 := fun o1 o2 o3 => (NumAt.alloc (NumAt.alloc (NumAt.alloc HM.out o1) o2) o3) 2 (by omega)
  have q_3 := fun o1 o2 o3 => (NumAt.alloc (NumAt.alloc (NumAt.alloc HM.out o1) o2) o3) 3 (by omega)
  go_wp2_with fail
  clear q_0 q_1 q_2 q_3
  obtain ⟨w_0, e_0⟩ : ∃ w9, w9 = w.alloc (.cells #[.int .u64 (dgt W64 x 0), .int .u64 (dgt W64 x 1), .int .u64 (dgt W64 x 2), .int .u64 (dgt W64 x 3)] 24) := ⟨_, rfl⟩
  have s_0 : w_0.heap.size = w.heap.size + 1 := by rw [e_0]; simp
  have b_0 : Below w.heap.size w w_0 := by rw [e_0]; exact (Below.refl _ _).alloc (Nat.le_refl _) _
  have n_0 : NumAt w_0 (w.heap.size) x := by rw [e_0]; exact NumAt.new w x _ _ rfl
  obtain ⟨w_1, e_1⟩ : ∃ w9, w9 = w_0.alloc (.cells #[.int .u64 (dgt W64 y 0), .int .u64 (dgt W64 y 1), .int .u64 (dgt W64 y 2), .int .u64 (dgt W64 y 3)] 24) := ⟨_, rfl⟩
  have s_1 : w_1.heap.size = w.heap.size + 1 + 1 := by rw [e_1]; simp [s_0]
  have b_1 : Below w_0.heap.size w_0 w_1 := by rw [e_1]; exact (Below.refl _ _).alloc (Nat.le_refl _) _
  have n_1 : NumAt w_1 (w.heap.size + 1) y := by rw [e_1]; exact NumAt.new w_0 y _ _ s_0.symm
  obtain ⟨wz, e_2⟩ : ∃ w9, w9 = w_1.alloc (.cells #[.int .u64 0, .int .u64 0, .int .u64 0, .int .u64 0] 24) := ⟨_, rfl⟩
  have s_2 : wz.heap.size = w.heap.size + 1 + 1 + 1 := by rw [e_2]; simp [s_1]
  have b_2 : Below w_1.heap.size w_1 wz := by rw [e_2]; exact (Below.refl _ _).alloc (Nat.le_refl _) _
  have n_2 : NumAt wz (w.heap.size + 1 + 1) 0 := by rw [e_2, ← s_1]; exact num_zero w_1 _
  have f_2 : FreeN wz (w.heap.size + 1 + 1) 4 := by rw [e_2]; exact FreeN.made w_1 _ _ 4 _ s_1.symm
  rw [← e_0, ← e_1, ← e_2]
  obtain ⟨XX, h_0⟩ : ∃ b, b = w.heap.size := ⟨_, rfl⟩
  obtain ⟨YY, h_1⟩ : ∃ b, b = XX + 1 := ⟨_, rfl⟩
  obtain ⟨RR, h_2⟩ : ∃ b, b = YY + 1 := ⟨_, rfl⟩
  have hwL : w.heap.size ≤ XX := by omega
  have hRd : RR < wz.heap.size := by omega
  rw [← h_0] at n_0 n_1 n_2 f_2 ⊢
  rw [← h_1] at n_1 n_2 f_2 ⊢
  rw [← h_2] at n_2 f_2 ⊢
  have l_1 : XX < YY := by omega
  have l_2 : YY < RR := by omega
  have HXX := Lib.hid (NumAt.later b_2 (NumAt.later b_1 n_0))
  have HYY := Lib.hid (NumAt.later b_2 n_1)
  have HRR := Lib.hid n_2
  have HF := Lib.hid f_2
  have B := Lib.hid ((b_0.trans (b_1.mono (by omega))).trans (b_2.mono (by omega)))
  have hwRR : w.heap.size ≤ RR := by omega
  have HSZ := Lib.hid (show wz.heap.size = RR + 1 by omega)
  clear e_0 s_0 b_0 n_0 h_0 e_1 s_1 b_1 n_1 h_1 e_2 s_2 b_2 n_2 h_2 f_2
  refine (CT.out _).mono ?_
  rintro _ w2 ⟨rfl, hb⟩
  have HXX := Lib.hid (NumAt.later hb HXX.out)
  have HYY := Lib.hid (NumAt.later hb HYY.out)
  have HRR := Lib.hid (NumAt.later hb HRR.out)
  have HF := Lib.hid (HF.out.later hb hRd)
  have hRd := Nat.lt_of_lt_of_le hRd hb.size
  have B := Lib.hid (below_later B.out hb)
  clear hb
  obtain ⟨c0, c1, c2, c3, f0, f1, f2, f3⟩ := num4f HRR.out HF.out
  go_wp2_with fail
  have HRL := Lib.hid (NumAt.set4 HRR.out q)
  have B9 := Lib.hid (below_set4 B.out hwRR (.int .u64 (dgt W64 q 0)) (.int .u64 (dgt W64 q 1)) (.int .u64 (dgt W64 q 2)) (.int .u64 (dgt W64 q 3)))
  obtain ⟨g0, g1, g2, g3⟩ := num4 HRL.out
  refine bodyPost_ret (v := .agg #[.int .u64 (dgt W64 q 0), .int .u64 (dgt W64 q 1), .int .u64 (dgt W64 q 2), .int .u64 (dgt W64 q 3)]) ?_ rfl ⟨rfl, B9.out⟩
  simp [results, Try.results53, go_sem, g0, g1, g2, g3]
set_option linter.unusedVariables false in
set_option linter.unusedSimpArgs false in
set_option maxRecDepth 100000 in
set_option maxHeartbeats 4000000 in
theorem exp1_short {a n m N : Nat} (ha : a < m) (h1 : 1 < m) (hn : n < M256) (hml : m < W64) (u : Value) (w : World) (hN : NumAt w N n) :
    Calls Try.prog 47 #[numV a, numV a, numV m, .pointer (some ⟨N, 0, none⟩)] w fun e w' => e = .returned (numV (a ^ n % m)) ∧ Below w.heap.size w w' := by
  obtain ⟨q, hq⟩ : ∃ q, q = a ^ n % m := ⟨_, rfl⟩
  rw [← hq]
  have hqm : q < m := by rw [hq]; exact Nat.mod_lt _ (by omega)
  have hm : m < M256 := by unfold M256; unfold W64 at hml; omega
  have da := Lib.hid (dgt_small (Nat.lt_trans ha hml)).1
  have hqw := Nat.lt_trans hqm hml
  have CO := Lib.hid (fun w => by have h := of_any q hqw w; unfold numV words at h; exact h)
  obtain ⟨L, hL⟩ : ∃ L, L = bitsN m := ⟨_, rfl⟩
  have hLI : (L : Int) ≤ 64 := by have := bits_short.2 hml; omega
  have CB := Lib.hid (fun w => by have h := bits_any hm w; rw [← hL] at h; unfold numV words at h; exact h)
  have HAM := Lib.hid ha
  have HM1 := Lib.hid h1
  have HN9 := Lib.hid hn
  have HML := Lib.hid hml
  have HMM9 := Lib.hid hm
  have HQ := Lib.hid hq
  have hNl := hN.lt
  have HN := Lib.hid hN
  clear hq hL ha h1 hn hml hm hqm hqw hN
  unfold numV words
  go_enter Try.func47, Try.ntmps47
  go_wp2_with fail
  obtain ⟨w_0, e_0⟩ : ∃ w9, w9 = w.alloc (.cells #[.int .u64 (dgt W64 a 0), .int .u64 (dgt W64 a 1), .int .u64 (dgt W64 a 2), .int .u64 (dgt W64 a 3)] 24) := ⟨_, rfl⟩
  have s_0 : w_0.heap.size = w.heap.size + 1 := by rw [e_0]; simp
  have b_0 : Below w.heap.size w w_0 := by rw [e_0]; exact (Below.refl _ _).alloc (Nat.le_refl _) _
  have n_0 : NumAt w_0 (w.heap.size) a := by rw [e_0]; exact NumAt.new w a _ _ rfl
  obtain ⟨w_1, e_1⟩ : ∃ w9, w9 = w_0.alloc (.cells #[.int .u64 (dgt W64 a 0), .int .u64 (dgt W64 a 1), .int .u64 (dgt W64 a 2), .int .u64 (dgt W64 a 3)] 24) := ⟨_, rfl⟩
  have s_1 : w_1.heap.size = w.heap.size + 1 + 1 := by rw [e_1]; simp [s_0]
  have b_1 : Below w_0.heap.size w_0 w_1 := by rw [e_1]; exact (Below.refl _ _).alloc (Nat.le_refl _) _
  have n_1 : NumAt w_1 (w.heap.size + 1) a := by rw [e_1]; exact NumAt.new w_0 a _ _ s_0.symm
  obtain ⟨w_2, e_2⟩ : ∃ w9, w9 = w_1.alloc (.cells #[.int .u64 (dgt W64 m 0), .int .u64 (dgt W64 m 1), .int .u64 (dgt W64 m 2), .int .u64 (dgt W64 m 3)] 24) := ⟨_, rfl⟩
  have s_2 : w_2.heap.size = w.heap.size + 1 + 1 + 1 := by rw [e_2]; simp [s_1]
  have b_2 : Below w_1.heap.size w_1 w_2 := by rw [e_2]; exact (Below.refl _ _).alloc (Nat.le_refl _) _
  have n_2 : NumAt w_2 (w.heap.size + 1 + 1) m := by rw [e_2]; exact NumAt.new w_1 m _ _ s_1.symm
  obtain ⟨wz, e_3⟩ : ∃ w9, w9 = w_2.alloc (.cells #[.int .u64 0, .int .u64 0, .int .u64 0, .int .u64 0] 24) := ⟨_, rfl⟩
  have s_3 : wz.heap.size = w.heap.size + 1 + 1 + 1 + 1 := by rw [e_3]; simp [s_2]
  have b_3 : Below w_2.heap.size w_2 wz := by rw [e_3]; exact (Below.refl _ _).alloc (Nat.le_refl _) _
  have n_3 : NumAt wz (w.heap.size + 1 + 1 + 1) 0 := by rw [e_3, ← s_2]; exact num_zero w_2 _
  have f_3 : FreeN wz (w.heap.size + 1 + 1 + 1) 4 := by rw [e_3]; exact FreeN.made w_2 _ _ 4 _ s_2.symm
  rw [← e_0, ← e_1, ← e_2, ← e_3]
  obtain ⟨AA, h_0⟩ : ∃ b, b = w.heap.size := ⟨_, rfl⟩
  obtain ⟨BB, h_1⟩ : ∃ b, b = AA + 1 := ⟨_, rfl⟩
  obtain ⟨MM, h_2⟩ : ∃ b, b = BB + 1 := ⟨_, rfl⟩
  obtain ⟨RR, h_3⟩ : ∃ b, b = MM + 1 := ⟨_, rfl⟩
  have hwL : w.heap.size ≤ AA := by omega
  have hRd : RR < wz.heap.size := by omega
  rw [← h_0] at n_0 n_1 n_2 n_3 f_3 ⊢
  rw [← h_1] at n_1 n_2 n_3 f_3 ⊢
  rw [← h_2] at n_2 n_3 f_3 ⊢
  rw [← h_3] at n_3 f_3 ⊢
  have l_1 : AA < BB := by omega
  have l_2 : BB < MM := by omega
  have l_3 : MM < RR := by omega
  have HAA := Lib.hid (NumAt.later b_3 (NumAt.later b_2 (NumAt.later b_1 n_0)))
  have HBB := Lib.hid (NumAt.later b_3 (NumAt.later b_2 n_1))
  have HMM := Lib.hid (NumAt.later b_3 n_2)
  have HRR := Lib.hid n_3
  have HF := Lib.hid f_3
  have B := Lib.hid (((b_0.trans (b_1.mono (by omega))).trans (b_2.mono (by omega))).trans (b_3.mono (by omega)))
  have hwRR : w.heap.size ≤ RR := by omega
  have HSZ := Lib.hid (show wz.heap.size = RR + 1 by omega)
  clear e_0 s_0 b_0 n_0 h_0 e_1 s_1 b_1 n_1 h_1 e_2 s_2 b_2 n_2 h_2 e_3 s_3 b_3 n_3 h_3 f_3
  have HNN := Lib.hid (NumAt.later (B.out.mono (Nat.le_refl _)) HN.out)
  clear HN
  obtain ⟨NN, hNN9⟩ : ∃ x, x = N := ⟨_, rfl⟩
  rw [← hNN9] at HNN hNl ⊢
  clear hNN9
  refine (CB.out _).mono ?_
  rintro _ w2 ⟨rfl, hb⟩
  have HAA := Lib.hid (NumAt.later hb HAA.out)
  have HBB := Lib.hid (NumAt.later hb HBB.out)
  have HMM := Lib.hid (NumAt.later hb HMM.out)
  have HRR := Lib.hid (NumAt.later hb HRR.out)
  have HNN := Lib.hid (NumAt.later hb HNN.out)
  have HF := Lib.hid (HF.out.later hb hRd)
  have hRd := Nat.lt_of_lt_of_le hRd hb.size
  have B := Lib.hid (below_later B.out hb)
  clear hb
  obtain ⟨r_AA_0, r_AA_1, r_AA_2, r_AA_3⟩ := num4 HAA.out
  obtain ⟨r_NN_0, r_NN_1, r_NN_2, r_NN_3⟩ := num4 HNN.out
  rw [da.out] at r_AA_0
  go_wp2_with fail
  clear r_AA_0 r_AA_1 r_AA_2 r_AA_3 r_NN_0 r_NN_1 r_NN_2 r_NN_3
  have CP := power_word (f := 50) (caps := #[.pointer (some ⟨MM, 0, none⟩)]) HAM.out HM1.out HN9.out w2 (by intro args W; simp [go_sem]) (fun x y W hx hy hb => exp_word hx hy HML.out W (NumAt.later hb HMM.out))
  rw [← HQ.out] at CP
  unfold numV words at CP
  refine CP.mono ?_
  rintro _ w3 ⟨rfl, hb⟩
  clear CP
  have HAA := Lib.hid (NumAt.later hb HAA.out)
  have HBB := Lib.hid (NumAt.later hb HBB.out)
  have HMM := Lib.hid (NumAt.later hb HMM.out)
  have HRR := Lib.hid (NumAt.later hb HRR.out)
  have HNN := Lib.hid (NumAt.later hb HNN.out)
  have HF := Lib.hid (HF.out.later hb hRd)
  have hRd := Nat.lt_of_lt_of_le hRd hb.size
  have B := Lib.hid (below_later B.out hb)
  clear hb
  go_wp2_with fail
  refine (CO.out _).mono ?_
  rintro _ w4 ⟨rfl, hb⟩
  have HAA := Lib.hid (NumAt.later hb HAA.out)
  have HBB := Lib.hid (NumAt.later hb HBB.out)
  have HMM := Lib.hid (NumAt.later hb HMM.out)
  have HRR := Lib.hid (NumAt.later hb HRR.out)
  have HNN := Lib.hid (NumAt.later hb HNN.out)
  have HF := Lib.hid (HF.out.later hb hRd)
  have hRd := Nat.lt_of_lt_of_le hRd hb.size
  have B := Lib.hid (below_later B.out hb)
  clear hb
  obtain ⟨c0, c1, c2, c3, f0, f1, f2, f3⟩ := num4f HRR.out HF.out
  go_wp2_with fail
  have HRL := Lib.hid (NumAt.set4 HRR.out q)
  have B9 := Lib.hid (below_set4 B.out hwRR (.int .u64 (dgt W64 q 0)) (.int .u64 (dgt W64 q 1)) (.int .u64 (dgt W64 q 2)) (.int .u64 (dgt W64 q 3)))
  obtain ⟨g0, g1, g2, g3⟩ := num4 HRL.out
  refine bodyPost_ret (v := .agg #[.int .u64 (dgt W64 q 0), .int .u64 (dgt W64 q 1), .int .u64 (dgt W64 q 2), .int .u64 (dgt W64 q 3)]) ?_ rfl ⟨rfl, B9.out⟩
  simp [results, Try.results47, go_sem, g0, g1, g2, g3]
set_option linter.unusedVariables false in
set_option linter.unusedSimpArgs false in
set_option maxRecDepth 100000 in
set_option maxHeartbeats 4000000 in
theorem exp1_long {a n m N : Nat} (ha : a < m) (h1 : 1 < m) (hn : n < M256) (hml : W64 ≤ m) (hm : m < M256) (u : Value) (w : World) (hN : NumAt w N n) :
    Calls Try.prog 47 #[numV a, numV a, numV m, .pointer (some ⟨N, 0, none⟩)] w fun e w' => e = .returned (numV (a ^ n % m)) ∧ Below w.heap.size w w' := by
  obtain ⟨q, hq⟩ : ∃ q, q = a ^ n % m := ⟨_, rfl⟩
  rw [← hq]
  have hqm : q < m := by rw [hq]; exact Nat.mod_lt _ (by omega)
  have C1 := Lib.hid (fun w => by have h := of_lit 1 1 rfl (by decide) w; unfold numV words at h; exact h)
  obtain ⟨L, hL⟩ : ∃ L, L = bitsN m := ⟨_, rfl⟩
  have hLI : ¬ (L : Int) ≤ 64 := by have := mt bits_short.1 (show ¬ m < W64 by omega); omega
  have CB := Lib.hid (fun w => by have h := bits_any hm w; rw [← hL] at h; unfold numV words at h; exact h)
  have HAM := Lib.hid ha
  have HM1 := Lib.hid h1
  have HN9 := Lib.hid hn
  have HML := Lib.hid hml
  have HMM9 := Lib.hid hm
  have HQ := Lib.hid hq
  have hNl := hN.lt
  have HN := Lib.hid hN
  clear hq hL ha h1 hn hml hm hqm hN
  unfold numV words
  go_enter Try.func47, Try.ntmps47
  go_wp2_with fail
  obtain ⟨w_0, e_0⟩ : ∃ w9, w9 = w.alloc (.cells #[.int .u64 (dgt W64 a 0), .int .u64 (dgt W64 a 1), .int .u64 (dgt W64 a 2), .int .u64 (dgt W64 a 3)] 24) := ⟨_, rfl⟩
  have s_0 : w_0.heap.size = w.heap.size + 1 := by rw [e_0]; simp
  have b_0 : Below w.heap.size w w_0 := by rw [e_0]; exact (Below.refl _ _).alloc (Nat.le_refl _) _
  have n_0 : NumAt w_0 (w.heap.size) a := by rw [e_0]; exact NumAt.new w a _ _ rfl
  obtain ⟨w_1, e_1⟩ : ∃ w9, w9 = w_0.alloc (.cells #[.int .u64 (dgt W64 a 0), .int .u64 (dgt W64 a 1), .int .u64 (dgt W64 a 2), .int .u64 (dgt W64 a 3)] 24) := ⟨_, rfl⟩
  have s_1 : w_1.heap.size = w.heap.size + 1 + 1 := by rw [e_1]; simp [s_0]
  have b_1 : Below w_0.heap.size w_0 w_1 := by rw [e_1]; exact (Below.refl _ _).alloc (Nat.le_refl _) _
  have n_1 : NumAt w_1 (w.heap.size + 1) a := by rw [e_1]; exact NumAt.new w_0 a _ _ s_0.symm
  obtain ⟨w_2, e_2⟩ : ∃ w9, w9 = w_1.alloc (.cells #[.int .u64 (dgt W64 m 0), .int .u64 (dgt W64 m 1), .int .u64 (dgt W64 m 2), .int .u64 (dgt W64 m 3)] 24) := ⟨_, rfl⟩
  have s_2 : w_2.heap.size = w.heap.size + 1 + 1 + 1 := by rw [e_2]; simp [s_1]
  have b_2 : Below w_1.heap.size w_1 w_2 := by rw [e_2]; exact (Below.refl _ _).alloc (Nat.le_refl _) _
  have n_2 : NumAt w_2 (w.heap.size + 1 + 1) m := by rw [e_2]; exact NumAt.new w_1 m _ _ s_1.symm
  obtain ⟨wz, e_3⟩ : ∃ w9, w9 = w_2.alloc (.cells #[.int .u64 0, .int .u64 0, .int .u64 0, .int .u64 0] 24) := ⟨_, rfl⟩
  have s_3 : wz.heap.size = w.heap.size + 1 + 1 + 1 + 1 := by rw [e_3]; simp [s_2]
  have b_3 : Below w_2.heap.size w_2 wz := by rw [e_3]; exact (Below.refl _ _).alloc (Nat.le_refl _) _
  have n_3 : NumAt wz (w.heap.size + 1 + 1 + 1) 0 := by rw [e_3, ← s_2]; exact num_zero w_2 _
  have f_3 : FreeN wz (w.heap.size + 1 + 1 + 1) 4 := by rw [e_3]; exact FreeN.made w_2 _ _ 4 _ s_2.symm
  rw [← e_0, ← e_1, ← e_2, ← e_3]
  obtain ⟨AA, h_0⟩ : ∃ b, b = w.heap.size := ⟨_, rfl⟩
  obtain ⟨BB, h_1⟩ : ∃ b, b = AA + 1 := ⟨_, rfl⟩
  obtain ⟨MM, h_2⟩ : ∃ b, b = BB + 1 := ⟨_, rfl⟩
  obtain ⟨RR, h_3⟩ : ∃ b, b = MM + 1 := ⟨_, rfl⟩
  have hwL : w.heap.size ≤ AA := by omega
  have hRd : RR < wz.heap.size := by omega
  rw [← h_0] at n_0 n_1 n_2 n_3 f_3 ⊢
  rw [← h_1] at n_1 n_2 n_3 f_3 ⊢
  rw [← h_2] at n_2 n_3 f_3 ⊢
  rw [← h_3] at n_3 f_3 ⊢
  have l_1 : AA < BB := by omega
  have l_2 : BB < MM := by omega
  have l_3 : MM < RR := by omega
  have HAA := Lib.hid (NumAt.later b_3 (NumAt.later b_2 (NumAt.later b_1 n_0)))
  have HBB := Lib.hid (NumAt.later b_3 (NumAt.later b_2 n_1))
  have HMM := Lib.hid (NumAt.later b_3 n_2)
  have HRR := Lib.hid n_3
  have HF := Lib.hid f_3
  have B := Lib.hid (((b_0.trans (b_1.mono (by omega))).trans (b_2.mono (by omega))).trans (b_3.mono (by omega)))
  have hwRR : w.heap.size ≤ RR := by omega
  have HSZ := Lib.hid (show wz.heap.size = RR + 1 by omega)
  clear e_0 s_0 b_0 n_0 h_0 e_1 s_1 b_1 n_1 h_1 e_2 s_2 b_2 n_2 h_2 e_3 s_3 b_3 n_3 h_3 f_3
  have HNN := Lib.hid (NumAt.later (B.out.mono (Nat.le_refl _)) HN.out)
  clear HN
  obtain ⟨NN, hNN9⟩ : ∃ x, x = N := ⟨_, rfl⟩
  rw [← hNN9] at HNN hNl ⊢
  clear hNN9
  refine (CB.out _).mono ?_
  rintro _ w2 ⟨rfl, hb⟩
  have HAA := Lib.hid (NumAt.later hb HAA.out)
  have HBB := Lib.hid (NumAt.later hb HBB.out)
  have HMM := Lib.hid (NumAt.later hb HMM.out)
  have HRR := Lib.hid (NumAt.later hb HRR.out)
  have HNN := Lib.hid (NumAt.later hb HNN.out)
  have HF := Lib.hid (HF.out.later hb hRd)
  have hRd := Nat.lt_of_lt_of_le hRd hb.size
  have B := Lib.hid (below_later B.out hb)
  clear hb
  obtain ⟨r_AA_0, r_AA_1, r_AA_2, r_AA_3⟩ := num4 HAA.out
  obtain ⟨r_NN_0, r_NN_1, r_NN_2, r_NN_3⟩ := num4 HNN.out
  go_wp2_with fail
  clear r_AA_0 r_AA_1 r_AA_2 r_AA_3 r_NN_0 r_NN_1 r_NN_2 r_NN_3
  refine wp_region_fresh 5 (fun _ => none) (by kernel_rfl) (by kernel_rfl) (fun _ _ _ _ _ h => h) (fun F hn9 hcl hbl => ?_)
  have r_AA_0 := fun X9 : Wd F => (NumAt.later (hbl X9.world X9.fact) HAA.out) 0 (by omega)
  have r_AA_1 := fun X9 : Wd F => (NumAt.later (hbl X9.world X9.fact) HAA.out) 1 (by omega)
  have r_AA_2 := fun X9 : Wd F => (NumAt.later (hbl X9.world X9.fact) HAA.out) 2 (by omega)
  have r_AA_3 := fun X9 : Wd F => (NumAt.later (hbl X9.world X9.fact) HAA.out) 3 (by omega)
  have r_NN_0 := fun X9 : Wd F => (NumAt.later (hbl X9.world X9.fact) HNN.out) 0 (by omega)
  have r_NN_1 := fun X9 : Wd F => (NumAt.later (hbl X9.world X9.fact) HNN.out) 1 (by omega)
  have r_NN_2 := fun X9 : Wd F => (NumAt.later (hbl X9.world X9.fact) HNN.out) 2 (by omega)
  have r_NN_3 := fun X9 : Wd F => (NumAt.later (hbl X9.world X9.fact) HNN.out) 3 (by omega)
  have CP := Lib.hid (fun X9 : Wd F => by have h := power_num (f := 53) (caps := #[.pointer (some ⟨MM, 0, none⟩)]) HAM.out HM1.out HMM9.out HN9.out X9.world (by intro args W; simp [go_sem]) (fun x y W hx hy hb => exp_long hx hy HMM9.out W (NumAt.later hb (NumAt.later (hbl X9.world X9.fact) HMM.out))); rw [← HQ.out] at h; unfold numV words at h; exact h)
  have HCL := Lib.hid hcl
  clear hcl hbl
  refine wpF_seg 5 0 _ _ (fun _ _ _ => rfl) (by decide) ?_
  simp only [List.take_succ_cons, List.take_zero, List.drop_succ_cons, List.drop_zero, Nat.reduceAdd]
  repeat (go_big_quiet_step ((first | (go_at_call 27; with_reducible exact to_class HCL.out (C1.out _)) | (go_at_call 52; with_reducible exact to_class HCL.out (CP.out _)))))
  refine wpQuiet_nil ?_
  refine wpF_nil ?_
  intro bs w3 hb _ _
  clear r_AA_0 r_AA_1 r_AA_2 r_AA_3 r_NN_0 r_NN_1 r_NN_2 r_NN_3
  have HAA := Lib.hid (NumAt.later hb HAA.out)
  have HBB := Lib.hid (NumAt.later hb HBB.out)
  have HMM := Lib.hid (NumAt.later hb HMM.out)
  have HRR := Lib.hid (NumAt.later hb HRR.out)
  have HNN := Lib.hid (NumAt.later hb HNN.out)
  have HF := Lib.hid (HF.out.later hb hRd)
  have hRd := Nat.lt_of_lt_of_le hRd hb.size
  have B := Lib.hid (below_later B.out hb)
  clear hb
  simp only [over]
  obtain ⟨c0, c1, c2, c3, f0, f1, f2, f3⟩ := num4f HRR.out HF.out
  go_wp2_with fail
  have HRL := Lib.hid (NumAt.set4 HRR.out q)
  have B9 := Lib.hid (below_set4 B.out hwRR (.int .u64 (dgt W64 q 0)) (.int .u64 (dgt W64 q 1)) (.int .u64 (dgt W64 q 2)) (.int .u64 (dgt W64 q 3)))
  obtain ⟨g0, g1, g2, g3⟩ := num4 HRL.out
  refine bodyPost_ret (v := .agg #[.int .u64 (dgt W64 q 0), .int .u64 (dgt W64 q 1), .int .u64 (dgt W64 q 2), .int .u64 (dgt W64 q 3)]) ?_ rfl ⟨rfl, B9.out⟩
  simp [results, Try.results47, go_sem, g0, g1, g2, g3]
end Go.Proofs.Ytpoocnkflmimdaa
namespace Go.Proofs.Ytpoocnkflmimdaa
open Go.ChangeShapes Go.WideShapes Go.ChangeAt Go.RowKit
theorem exp1_any {a n m N : Nat} (ha : a < m) (h1 : 1 < m) (hn : n < M256) (hm : m < M256) (w : World) (hN : NumAt w N n) :
    Calls Try.prog 47 #[numV a, numV a, numV m, .pointer (some ⟨N, 0, none⟩)] w fun e w' => e = .returned (numV (a ^ n % m)) ∧ Below w.heap.size w w' := by
  rcases Nat.lt_or_ge m W64 with h | h
  · exact exp1_short ha h1 hn h (.bool true) w hN
  · exact exp1_long ha h1 hn h hm (.bool true) w hN
set_option linter.unusedVariables false in
set_option linter.unusedSimpArgs false in
set_option maxRecDepth 100000 in
set_option maxHeartbeats 4000000 in
theorem Exp_any {a n m : Nat} (ha : a < m) (h1 : 1 < m) (hn : n < M256) (hm : m < M256) (w : World) :
    Calls Try.prog 26 #[numV a, numV n, numV m] w fun e w' => e = .returned (.tuple #[numV (a ^ n % m), .int .i64 0]) ∧ Below w.heap.size w w' := by
  obtain ⟨q, hq⟩ : ∃ q, q = a ^ n % m := ⟨_, rfl⟩
  rw [← hq]
  have HQ := Lib.hid hq
  have HA9 := Lib.hid ha
  have HM1 := Lib.hid h1
  have HN9 := Lib.hid hn
  have HM9 := Lib.hid hm
  clear hq ha h1 hn hm
  unfold numV words
  go_enter Try.func26, Try.ntmps26
  go_wp2_with fail
  obtain ⟨w_0, e_0⟩ : ∃ w9, w9 = w.alloc (.cells #[.int .u64 (dgt W64 a 0), .int .u64 (dgt W64 a 1), .int .u64 (dgt W64 a 2), .int .u64 (dgt W64 a 3)] 24) := ⟨_, rfl⟩
  have s_0 : w_0.heap.size = w.heap.size + 1 := by rw [e_0]; simp
  have b_0 : Below w.heap.size w w_0 := by rw [e_0]; exact (Below.refl _ _).alloc (Nat.le_refl _) _
  have n_0 : NumAt w_0 (w.heap.size) a := by rw [e_0]; exact NumAt.new w a _ _ rfl
  obtain ⟨w_1, e_1⟩ : ∃ w9, w9 = w_0.alloc (.cells #[.int .u64 (dgt W64 n 0), .int .u64 (dgt W64 n 1), .int .u64 (dgt W64 n 2), .int .u64 (dgt W64 n 3)] 24) := ⟨_, rfl⟩
  have s_1 : w_1.heap.size = w.heap.size + 1 + 1 := by rw [e_1]; simp [s_0]
  have b_1 : Below w_0.heap.size w_0 w_1 := by rw [e_1]; exact (Below.refl _ _).alloc (Nat.le_refl _) _
  have n_1 : NumAt w_1 (w.heap.size + 1) n := by rw [e_1]; exact NumAt.new w_0 n _ _ s_0.symm
  obtain ⟨w_2, e_2⟩ : ∃ w9, w9 = w_1.alloc (.cells #[.int .u64 (dgt W64 m 0), .int .u64 (dgt W64 m 1), .int .u64 (dgt W64 m 2), .int .u64 (dgt W64 m 3)] 24) := ⟨_, rfl⟩
  have s_2 : w_2.heap.size = w.heap.size + 1 + 1 + 1 := by rw [e_2]; simp [s_1]
  have b_2 : Below w_1.heap.size w_1 w_2 := by rw [e_2]; exact (Below.refl _ _).alloc (Nat.le_refl _) _
  have n_2 : NumAt w_2 (w.heap.size + 1 + 1) m := by rw [e_2]; exact NumAt.new w_1 m _ _ s_1.symm
  obtain ⟨wz, e_3⟩ : ∃ w9, w9 = w_2.alloc (.cells #[.int .u64 0, .int .u64 0, .int .u64 0, .int .u64 0] 24) := ⟨_, rfl⟩
  have s_3 : wz.heap.size = w.heap.size + 1 + 1 + 1 + 1 := by rw [e_3]; simp [s_2]
  have b_3 : Below w_2.heap.size w_2 wz := by rw [e_3]; exact (Below.refl _ _).alloc (Nat.le_refl _) _
  have n_3 : NumAt wz (w.heap.size + 1 + 1 + 1) 0 := by rw [e_3, ← s_2]; exact num_zero w_2 _
  have f_3 : FreeN wz (w.heap.size + 1 + 1 + 1) 4 := by rw [e_3]; exact FreeN.made w_2 _ _ 4 _ s_2.symm
  rw [← e_0, ← e_1, ← e_2, ← e_3]
  obtain ⟨AA, h_0⟩ : ∃ b, b = w.heap.size := ⟨_, rfl⟩
  obtain ⟨NN, h_1⟩ : ∃ b, b = AA + 1 := ⟨_, rfl⟩
  obtain ⟨MM, h_2⟩ : ∃ b, b = NN + 1 := ⟨_, rfl⟩
  obtain ⟨RR, h_3⟩ : ∃ b, b = MM + 1 := ⟨_, rfl⟩
  have hwL : w.heap.size ≤ AA := by omega
  have hRd : RR < wz.heap.size := by omega
  rw [← h_0] at n_0 n_1 n_2 n_3 f_3 ⊢
  rw [← h_1] at n_1 n_2 n_3 f_3 ⊢
  rw [← h_2] at n_2 n_3 f_3 ⊢
  rw [← h_3] at n_3 f_3 ⊢
  have l_1 : AA < NN := by omega
  have l_2 : NN < MM := by omega
  have l_3 : MM < RR := by omega
  have HAA := Lib.hid (NumAt.later b_3 (NumAt.later b_2 (NumAt.later b_1 n_0)))
  have HNN := Lib.hid (NumAt.later b_3 (NumAt.later b_2 n_1))
  have HMM := Lib.hid (NumAt.later b_3 n_2)
  have HRR := Lib.hid n_3
  have HF := Lib.hid f_3
  have B := Lib.hid (((b_0.trans (b_1.mono (by omega))).trans (b_2.mono (by omega))).trans (b_3.mono (by omega)))
  have hwRR : w.heap.size ≤ RR := by omega
  have HSZ := Lib.hid (show wz.heap.size = RR + 1 by omega)
  clear e_0 s_0 b_0 n_0 h_0 e_1 s_1 b_1 n_1 h_1 e_2 s_2 b_2 n_2 h_2 e_3 s_3 b_3 n_3 h_3 f_3
  have CO := of_may (q := q) (f := 47) (caps := #[.pointer (some ⟨NN, 0, none⟩)]) HA9.out HA9.out HM1.out HM9.out wz (by intro args W; simp [go_sem]) (fun W hb => by have h := exp1_any HA9.out HM1.out HN9.out HM9.out W (NumAt.later hb HNN.out); rw [← HQ.out] at h; exact h)
  unfold numV words at CO
  refine CO.mono ?_
  rintro _ w3 ⟨rfl, hb⟩
  clear CO
  have HAA := Lib.hid (NumAt.later hb HAA.out)
  have HNN := Lib.hid (NumAt.later hb HNN.out)
  have HMM := Lib.hid (NumAt.later hb HMM.out)
  have HRR := Lib.hid (NumAt.later hb HRR.out)
  have HF := Lib.hid (HF.out.later hb hRd)
  have hRd := Nat.lt_of_lt_of_le hRd hb.size
  have B := Lib.hid (below_later B.out hb)
  clear hb
  obtain ⟨c0, c1, c2, c3, f0, f1, f2, f3⟩ := num4f HRR.out HF.out
  go_wp2_with fail
  have HRL := Lib.hid (NumAt.set4 HRR.out q)
  have B9 := Lib.hid (below_set4 B.out hwRR (.int .u64 (dgt W64 q 0)) (.int .u64 (dgt W64 q 1)) (.int .u64 (dgt W64 q 2)) (.int .u64 (dgt W64 q 3)))
  obtain ⟨g0, g1, g2, g3⟩ := num4 HRL.out
  refine bodyPost_ret (v := .tuple #[.agg #[.int .u64 (dgt W64 q 0), .int .u64 (dgt W64 q 1), .int .u64 (dgt W64 q 2), .int .u64 (dgt W64 q 3)], .int .i64 0]) ?_ rfl ⟨rfl, B9.out⟩
  simp [results, Try.results26, go_sem, g0, g1, g2, g3]
set_option linter.unusedVariables false in
set_option linter.unusedSimpArgs false in
set_option maxRecDepth 100000 in
set_option maxHeartbeats 4000000 in
theorem Mul_any {a n m : Nat} (ha : a < m) (h1 : 1 < m) (hn : n < m) (hm : m < M256) (w : World) :
    Calls Try.prog 73 #[numV a, numV n, numV m] w fun e w' => e = .returned (.tuple #[numV (a * n % m), .int .i64 0]) ∧ Below w.heap.size w w' := by
  obtain ⟨q, hq⟩ : ∃ q, q = a * n % m := ⟨_, rfl⟩
  rw [← hq]
  have HQ := Lib.hid hq
  have HA9 := Lib.hid ha
  have HM1 := Lib.hid h1
  have HN9 := Lib.hid hn
  have HM9 := Lib.hid hm
  clear hq ha h1 hn hm
  unfold numV words
  go_enter Try.func73, Try.ntmps73
  go_wp2_with fail
  obtain ⟨w_0, e_0⟩ : ∃ w9, w9 = w.alloc (.cells #[.int .u64 (dgt W64 a 0), .int .u64 (dgt W64 a 1), .int .u64 (dgt W64 a 2), .int .u64 (dgt W64 a 3)] 24) := ⟨_, rfl⟩
  have s_0 : w_0.heap.size = w.heap.size + 1 := by rw [e_0]; simp
  have b_0 : Below w.heap.size w w_0 := by rw [e_0]; exact (Below.refl _ _).alloc (Nat.le_refl _) _
  have n_0 : NumAt w_0 (w.heap.size) a := by rw [e_0]; exact NumAt.new w a _ _ rfl
  obtain ⟨w_1, e_1⟩ : ∃ w9, w9 = w_0.alloc (.cells #[.int .u64 (dgt W64 n 0), .int .u64 (dgt W64 n 1), .int .u64 (dgt W64 n 2), .int .u64 (dgt W64 n 3)] 24) := ⟨_, rfl⟩
  have s_1 : w_1.heap.size = w.heap.size + 1 + 1 := by rw [e_1]; simp [s_0]
  have b_1 : Below w_0.heap.size w_0 w_1 := by rw [e_1]; exact (Below.refl _ _).alloc (Nat.le_refl _) _
  have n_1 : NumAt w_1 (w.heap.size + 1) n := by rw [e_1]; exact NumAt.new w_0 n _ _ s_0.symm
  obtain ⟨w_2, e_2⟩ : ∃ w9, w9 = w_1.alloc (.cells #[.int .u64 (dgt W64 m 0), .int .u64 (dgt W64 m 1), .int .u64 (dgt W64 m 2), .int .u64 (dgt W64 m 3)] 24) := ⟨_, rfl⟩
  have s_2 : w_2.heap.size = w.heap.size + 1 + 1 + 1 := by rw [e_2]; simp [s_1]
  have b_2 : Below w_1.heap.size w_1 w_2 := by rw [e_2]; exact (Below.refl _ _).alloc (Nat.le_refl _) _
  have n_2 : NumAt w_2 (w.heap.size + 1 + 1) m := by rw [e_2]; exact NumAt.new w_1 m _ _ s_1.symm
  obtain ⟨wz, e_3⟩ : ∃ w9, w9 = w_2.alloc (.cells #[.int .u64 0, .int .u64 0, .int .u64 0, .int .u64 0] 24) := ⟨_, rfl⟩
  have s_3 : wz.heap.size = w.heap.size + 1 + 1 + 1 + 1 := by rw [e_3]; simp [s_2]
  have b_3 : Below w_2.heap.size w_2 wz := by rw [e_3]; exact (Below.refl _ _).alloc (Nat.le_refl _) _
  have n_3 : NumAt wz (w.heap.size + 1 + 1 + 1) 0 := by rw [e_3, ← s_2]; exact num_zero w_2 _
  have f_3 : FreeN wz (w.heap.size + 1 + 1 + 1) 4 := by rw [e_3]; exact FreeN.made w_2 _ _ 4 _ s_2.symm
  rw [← e_0, ← e_1, ← e_2, ← e_3]
  obtain ⟨AA, h_0⟩ : ∃ b, b = w.heap.size := ⟨_, rfl⟩
  obtain ⟨NN, h_1⟩ : ∃ b, b = AA + 1 := ⟨_, rfl⟩
  obtain ⟨MM, h_2⟩ : ∃ b, b = NN + 1 := ⟨_, rfl⟩
  obtain ⟨RR, h_3⟩ : ∃ b, b = MM + 1 := ⟨_, rfl⟩
  have hwL : w.heap.size ≤ AA := by omega
  have hRd : RR < wz.heap.size := by omega
  rw [← h_0] at n_0 n_1 n_2 n_3 f_3 ⊢
  rw [← h_1] at n_1 n_2 n_3 f_3 ⊢
  rw [← h_2] at n_2 n_3 f_3 ⊢
  rw [← h_3] at n_3 f_3 ⊢
  have l_1 : AA < NN := by omega
  have l_2 : NN < MM := by omega
  have l_3 : MM < RR := by omega
  have HAA := Lib.hid (NumAt.later b_3 (NumAt.later b_2 (NumAt.later b_1 n_0)))
  have HNN := Lib.hid (NumAt.later b_3 (NumAt.later b_2 n_1))
  have HMM := Lib.hid (NumAt.later b_3 n_2)
  have HRR := Lib.hid n_3
  have HF := Lib.hid f_3
  have B := Lib.hid (((b_0.trans (b_1.mono (by omega))).trans (b_2.mono (by omega))).trans (b_3.mono (by omega)))
  have hwRR : w.heap.size ≤ RR := by omega
  have HSZ := Lib.hid (show wz.heap.size = RR + 1 by omega)
  clear e_0 s_0 b_0 n_0 h_0 e_1 s_1 b_1 n_1 h_1 e_2 s_2 b_2 n_2 h_2 e_3 s_3 b_3 n_3 h_3 f_3
  have CO := of_may (q := q) (f := 54) (caps := #[]) HA9.out HN9.out HM1.out HM9.out wz (by intro args W; simp [go_sem]) (fun W hb => by have h := mtimes_any HA9.out HN9.out HM9.out W; rw [← HQ.out] at h; exact h)
  unfold numV words at CO
  refine CO.mono ?_
  rintro _ w3 ⟨rfl, hb⟩
  clear CO
  have HAA := Lib.hid (NumAt.later hb HAA.out)
  have HNN := Lib.hid (NumAt.later hb HNN.out)
  have HMM := Lib.hid (NumAt.later hb HMM.out)
  have HRR := Lib.hid (NumAt.later hb HRR.out)
  have HF := Lib.hid (HF.out.later hb hRd)
  have hRd := Nat.lt_of_lt_of_le hRd hb.size
  have B := Lib.hid (below_later B.out hb)
  clear hb
  obtain ⟨c0, c1, c2, c3, f0, f1, f2, f3⟩ := num4f HRR.out HF.out
  go_wp2_with fail
  have HRL := Lib.hid (NumAt.set4 HRR.out q)
  have B9 := Lib.hid (below_set4 B.out hwRR (.int .u64 (dgt W64 q 0)) (.int .u64 (dgt W64 q 1)) (.int .u64 (dgt W64 q 2)) (.int .u64 (dgt W64 q 3)))
  obtain ⟨g0, g1, g2, g3⟩ := num4 HRL.out
  refine bodyPost_ret (v := .tuple #[.agg #[.int .u64 (dgt W64 q 0), .int .u64 (dgt W64 q 1), .int .u64 (dgt W64 q 2), .int .u64 (dgt W64 q 3)], .int .i64 0]) ?_ rfl ⟨rfl, B9.out⟩
  simp [results, Try.results73, go_sem, g0, g1, g2, g3]
end Go.Proofs.Ytpoocnkflmimdaa
