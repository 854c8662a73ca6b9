/- Layer 4 (mods): power -/
import Derived.Test.YtpoocnkflmimdaaLPWG27
namespace Go.Proofs.Ytpoocnkflmimdaa
open Go.ChangeShapes Go.WideShapes Go.ChangeAt Go.RowKit
theorem pow_start {a n m B : Nat} (hB : n < 2 ^ B) (h1 : 1 < m) : 1 = a ^ (n / 2 ^ (B - 0)) % m := by
  rw [Nat.sub_zero, Nat.div_eq_of_lt hB, Nat.pow_zero, Nat.mod_eq_of_lt h1]
theorem pow_half {n B k : Nat} (hk : k < B) : n / 2 ^ (B - (k + 1)) = 2 * (n / 2 ^ (B - k)) + n / 2 ^ (B - 1 - k) % 2 := by
  obtain ⟨i, hi⟩ : ∃ i, i = B - (k + 1) := ⟨_, rfl⟩
  rw [show B - k = i + 1 by omega, show B - 1 - k = i by omega, ← hi, Nat.pow_succ, ← Nat.div_div_eq_div_mul]
  omega
theorem pow_even {a n m o B k : Nat} (hk : k < B) (h : o = a ^ (n / 2 ^ (B - k)) % m) (hb : n / 2 ^ (B - 1 - k) % 2 = 0) : o * o % m = a ^ (n / 2 ^ (B - (k + 1))) % m := by
  rw [pow_half hk, hb, h, Nat.add_zero, Nat.mul_comm 2, Nat.pow_mul, Nat.pow_two, ← Nat.mul_mod]
theorem pow_odd {a n m o B k : Nat} (hk : k < B) (h : o = a ^ (n / 2 ^ (B - k)) % m) (hb : n / 2 ^ (B - 1 - k) % 2 = 1) : o * o % m * a % m = a ^ (n / 2 ^ (B - (k + 1))) % m := by
  rw [pow_half hk, hb, h, Nat.pow_succ, Nat.mul_comm 2, Nat.pow_mul, Nat.pow_two, ← Nat.mul_mod, Nat.mul_mod (_ % m) a m, Nat.mod_mod, ← Nat.mul_mod]
theorem pow_end {a n m o B : Nat} (h : o = a ^ (n / 2 ^ (B - B)) % m) : o = a ^ n % m := by rw [h, Nat.sub_self, Nat.pow_zero, Nat.div_one]
theorem bitsN_le256 {n : Nat} (hn : n < M256) : bitsN n ≤ 256 := by
  have h := bitsN_spec n
  rcases Nat.lt_or_ge 256 (bitsN n) with h9 | h9
  · have h0 : n ≠ 0 := by rintro rfl; simp [bitsN] at h9
    have h8 := h.2 h0
    have h7 : 2 ^ 256 ≤ 2 ^ (bitsN n - 1) := Nat.pow_le_pow_right (by omega) (by omega)
    rw [← M256_eq] at h7
    omega
  · exact h9
theorem bitN_at {n j : Nat} (hj : j < 256) : bitN n ((j : Nat) : Int) = n / 2 ^ j % 2 := by
  unfold bitN
  rw [if_neg (by omega), Int.toNat_natCast]
set_option linter.unusedVariables false in
set_option linter.unusedSimpArgs false in
set_option maxRecDepth 100000 in
set_option maxHeartbeats 4000000 in
theorem power_num {a n m : Nat} (ha : a < m) (h1 : 1 < m) (hm : m < M256) (hn : n < M256) {f : FuncId} {caps : Array Value} (w : World) (hent : ∀ (args : Array Value) (W : World), (callFunc f args).run Try.prog W = .ok (.enter f args) W)
    (ht : ∀ x y W, x < m → y < m → Below w.heap.size w W → Calls Try.prog f (#[numV x, numV y] ++ caps) W fun e w' => e = .returned (numV (x * y % m)) ∧ Below W.heap.size W w') :
    Calls Try.prog 52 #[numV a, numV 1, numV n, .func (.func f) #[] caps] w fun e w' => e = .returned (numV (a ^ n % m)) ∧ Below w.heap.size w w' := by
  obtain ⟨L, hL⟩ : ∃ L, L = bitsN n := ⟨_, rfl⟩
  have hL2 : L ≤ 256 := by rw [hL]; exact bitsN_le256 hn
  have hLn : n < 2 ^ L := by rw [hL]; exact (bitsN_spec n).1
  have CB := Lib.hid (fun w => by have h := bits_any hn w; rw [← hL] at h; unfold numV words at h; exact h)
  have HE := Lib.hid hent
  have HT := Lib.hid ht
  have HAM := Lib.hid ha
  have HN9 := Lib.hid hn
  have HM1 := Lib.hid h1
  have HLn := Lib.hid hLn
  obtain ⟨Q, hQ⟩ : ∃ Q, Q = a ^ n % m := ⟨_, rfl⟩
  rw [← hQ]
  have HQ := Lib.hid hQ
  clear hL hLn hQ ha hn hent ht
  unfold numV words at *
  go_enter Try.func52, Try.ntmps52
  go_wp2_with fail
  obtain ⟨w_0, e_0⟩ : ∃ w9, w9 = w.alloc (.cells #[.int .u64 (dgt W64 a 0), .int .u64 (dgt W64 a 1), .int .u64 (dgt W64 a 2), .int .u64 (dgt W64 a 3)] 24) := ⟨_, rfl⟩
  have s_0 : w_0.heap.size = w.heap.size + 1 := by rw [e_0]; simp
  have b_0 : Below w.heap.size w w_0 := by rw [e_0]; exact (Below.refl _ _).alloc (Nat.le_refl _) _
  have n_0 : NumAt w_0 (w.heap.size) a := by rw [e_0]; exact NumAt.new w a _ _ rfl
  obtain ⟨w_1, e_1⟩ : ∃ w9, w9 = w_0.alloc (.cells #[.int .u64 (dgt W64 1 0), .int .u64 (dgt W64 1 1), .int .u64 (dgt W64 1 2), .int .u64 (dgt W64 1 3)] 24) := ⟨_, rfl⟩
  have s_1 : w_1.heap.size = w.heap.size + 1 + 1 := by rw [e_1]; simp [s_0]
  have b_1 : Below w_0.heap.size w_0 w_1 := by rw [e_1]; exact (Below.refl _ _).alloc (Nat.le_refl _) _
  have n_1 : NumAt w_1 (w.heap.size + 1) 1 := by rw [e_1]; exact NumAt.new w_0 1 _ _ s_0.symm
  obtain ⟨w_2, e_2⟩ : ∃ w9, w9 = w_1.alloc (.cells #[.int .u64 (dgt W64 n 0), .int .u64 (dgt W64 n 1), .int .u64 (dgt W64 n 2), .int .u64 (dgt W64 n 3)] 24) := ⟨_, rfl⟩
  have s_2 : w_2.heap.size = w.heap.size + 1 + 1 + 1 := by rw [e_2]; simp [s_1]
  have b_2 : Below w_1.heap.size w_1 w_2 := by rw [e_2]; exact (Below.refl _ _).alloc (Nat.le_refl _) _
  have n_2 : NumAt w_2 (w.heap.size + 1 + 1) n := by rw [e_2]; exact NumAt.new w_1 n _ _ s_1.symm
  obtain ⟨wz, e_3⟩ : ∃ w9, w9 = w_2.alloc (.cells #[.int .u64 0, .int .u64 0, .int .u64 0, .int .u64 0] 24) := ⟨_, rfl⟩
  have s_3 : wz.heap.size = w.heap.size + 1 + 1 + 1 + 1 := by rw [e_3]; simp [s_2]
  have b_3 : Below w_2.heap.size w_2 wz := by rw [e_3]; exact (Below.refl _ _).alloc (Nat.le_refl _) _
  have n_3 : NumAt wz (w.heap.size + 1 + 1 + 1) 0 := by rw [e_3, ← s_2]; exact num_zero w_2 _
  have f_3 : FreeN wz (w.heap.size + 1 + 1 + 1) 4 := by rw [e_3]; exact FreeN.made w_2 _ _ 4 _ s_2.symm
  rw [← e_0, ← e_1, ← e_2, ← e_3]
  obtain ⟨AA, h_0⟩ : ∃ b, b = w.heap.size := ⟨_, rfl⟩
  obtain ⟨BB, h_1⟩ : ∃ b, b = AA + 1 := ⟨_, rfl⟩
  obtain ⟨NN, h_2⟩ : ∃ b, b = BB + 1 := ⟨_, rfl⟩
  obtain ⟨RR, h_3⟩ : ∃ b, b = NN + 1 := ⟨_, rfl⟩
  have hwL : w.heap.size ≤ AA := by omega
  have hRd : RR < wz.heap.size := by omega
  rw [← h_0] at n_0 n_1 n_2 n_3 f_3 ⊢
  rw [← h_1] at n_1 n_2 n_3 f_3 ⊢
  rw [← h_2] at n_2 n_3 f_3 ⊢
  rw [← h_3] at n_3 f_3 ⊢
  have l_1 : AA < BB := by omega
  have l_2 : BB < NN := by omega
  have l_3 : NN < RR := by omega
  have HAA := Lib.hid (NumAt.later b_3 (NumAt.later b_2 (NumAt.later b_1 n_0)))
  have HBB := Lib.hid (NumAt.later b_3 (NumAt.later b_2 n_1))
  have HNN := Lib.hid (NumAt.later b_3 n_2)
  have HRR := Lib.hid n_3
  have HF := Lib.hid f_3
  have B := Lib.hid (((b_0.trans (b_1.mono (by omega))).trans (b_2.mono (by omega))).trans (b_3.mono (by omega)))
  have hwRR : w.heap.size ≤ RR := by omega
  have HSZ := Lib.hid (show wz.heap.size = RR + 1 by omega)
  clear e_0 s_0 b_0 n_0 h_0 e_1 s_1 b_1 n_1 h_1 e_2 s_2 b_2 n_2 h_2 e_3 s_3 b_3 n_3 h_3 f_3
  obtain ⟨r_BB_0, r_BB_1, r_BB_2, r_BB_3⟩ := num4 HBB.out
  obtain ⟨r_NN_0, r_NN_1, r_NN_2, r_NN_3⟩ := num4 HNN.out
  go_wp2_with fail
  obtain ⟨w1, e1⟩ : ∃ w9, w9 = wz.alloc (.cells #[.int .u64 (dgt W64 1 0), .int .u64 (dgt W64 1 1), .int .u64 (dgt W64 1 2), .int .u64 (dgt W64 1 3)] 24) := ⟨_, rfl⟩
  have hb : Below wz.heap.size wz w1 := by rw [e1]; exact (Below.refl _ _).alloc (Nat.le_refl _) _
  obtain ⟨OO, hO9⟩ : ∃ b, b = RR + 1 := ⟨_, rfl⟩
  rw [← e1, ← hO9]
  have hO : OO = wz.heap.size := by rw [hO9, HSZ.out]
  have HOO := Lib.hid (show NumAt w1 OO 1 by rw [e1]; exact NumAt.new wz 1 _ _ hO)
  have HFO := Lib.hid (show FreeN w1 OO 4 by rw [e1]; exact FreeN.made wz _ _ 4 _ hO)
  have hOl : OO < w1.heap.size := by rw [e1, hO]; simp
  have hRO : RR < OO := by omega
  have hwO : w.heap.size ≤ OO := by have := B.out.size; omega
  clear e1 hO hO9
  clear r_BB_0 r_BB_1 r_BB_2 r_BB_3 r_NN_0 r_NN_1 r_NN_2 r_NN_3
  have HAA := Lib.hid (NumAt.later hb HAA.out)
  have HBB := Lib.hid (NumAt.later hb HBB.out)
  have HNN := Lib.hid (NumAt.later hb HNN.out)
  have HRR := Lib.hid (NumAt.later hb HRR.out)
  have HF := Lib.hid (HF.out.later hb hRd)
  have hRd := Nat.lt_of_lt_of_le hRd hb.size
  have B := Lib.hid (below_later B.out hb)
  clear hb
  refine (CB.out _).mono ?_
  rintro _ w2 ⟨rfl, hb⟩
  have HFO := Lib.hid (HFO.out.later hb hOl)
  have hOl := Nat.lt_of_lt_of_le hOl hb.size
  have HAA := Lib.hid (NumAt.later hb HAA.out)
  have HBB := Lib.hid (NumAt.later hb HBB.out)
  have HNN := Lib.hid (NumAt.later hb HNN.out)
  have HRR := Lib.hid (NumAt.later hb HRR.out)
  have HOO := Lib.hid (NumAt.later hb HOO.out)
  have HF := Lib.hid (HF.out.later hb hRd)
  have hRd := Nat.lt_of_lt_of_le hRd hb.size
  have B := Lib.hid (below_later B.out hb)
  clear hb
  go_wp2_with fail
  go_loopw [14] (fun i wr => ∃ k o : Nat, k ≤ L ∧ i = .int .i64 k ∧ o < m ∧ Hid (o = a ^ (n / 2 ^ (L - k)) % m) ∧ Hid (NumAt wr OO o) ∧ Hid (FreeN wr OO 4) ∧ Hid (NumAt wr AA a) ∧ Hid (NumAt wr BB 1) ∧ Hid (NumAt wr NN n) ∧ Hid (NumAt wr RR 0) ∧ Hid (FreeN wr RR 4) ∧ Hid (Below w.heap.size w wr) ∧ OO < wr.heap.size) (fun i _ => L - (intOf i).toNat)
  case atStart => exact ⟨0, 1, Nat.zero_le _, rfl, h1, Lib.hid (pow_start HLn.out h1), HOO, HFO, HAA, HBB, HNN, HRR, HF, B, hOl⟩
  case round =>
    clear HOO HFO HAA HBB HNN HRR HF B hOl
    obtain ⟨k, o, hk, rfl, hom, HO, HOO, HFO, HAA, HBB, HNN, HRR, HF, B, hOl⟩ := hrel
    have hRd : RR < wr.heap.size := by omega
    have nOA : AA ≠ OO := by omega
    have nOB : BB ≠ OO := by omega
    have nON : NN ≠ OO := by omega
    have nOR : RR ≠ OO := by omega
    by_cases hlt : k < L
    · have hltI : (k : Int) < (L : Int) := by omega
      obtain ⟨oo, hoo⟩ : ∃ x, x = o * o % m := ⟨_, rfl⟩
      have hoom : oo < m := by rw [hoo]; exact Nat.mod_lt _ (by omega)
      have C2 := Lib.hid (fun W hb => by have h := HT.out o o W hom hom hb; rw [← hoo] at h; exact h)
      obtain ⟨j, hj⟩ : ∃ j, j = L - 1 - k := ⟨_, rfl⟩
      have eI : ((L : Int) - 1 - (k : Int)) = (j : Int) := by omega
      obtain ⟨b, hb⟩ : ∃ b, b = n / 2 ^ j % 2 := ⟨_, rfl⟩
      have CT := Lib.hid (fun w => by have h := bit_any (a := n) (j : Int) w (by omega) (by omega); rw [bitN_at (by omega), ← hb] at h; unfold numV words at h; exact h)
      have he := HE.out
      obtain ⟨r0, r1, r2, r3, f0, f1, f2, f3⟩ := num4f HOO.out HFO.out
      have hb2 : b = 0 ∨ b = 1 := by omega
      have HB := Lib.hid (show b = n / 2 ^ (L - 1 - k) % 2 by rw [hb, hj])
      have HOO2 := Lib.hid hoo
      clear hb hoo hj
      go_wp2_with fail
      refine (C2.out _ B.out).mono ?_
      rintro _ w3 ⟨rfl, hb⟩
      clear r0 r1 r2 r3 f0 f1 f2 f3 he
      have HFO := Lib.hid (HFO.out.later hb hOl)
      have hOl := Nat.lt_of_lt_of_le hOl hb.size
      have HAA := Lib.hid (NumAt.later hb HAA.out)
      have HBB := Lib.hid (NumAt.later hb HBB.out)
      have HNN := Lib.hid (NumAt.later hb HNN.out)
      have HRR := Lib.hid (NumAt.later hb HRR.out)
      have HOO := Lib.hid (NumAt.later hb HOO.out)
      have HF := Lib.hid (HF.out.later hb hRd)
      have hRd := Nat.lt_of_lt_of_le hRd hb.size
      have B := Lib.hid (below_later B.out hb)
      clear hb
      obtain ⟨r0, r1, r2, r3, f0, f1, f2, f3⟩ := num4f HOO.out HFO.out
      go_wp2_with fail
      clear r0 r1 r2 r3 f0 f1 f2 f3
      obtain ⟨w4, e9⟩ : ∃ w9, w9 = (((w3.setCell ⟨OO, 0, none⟩ (.int .u64 (dgt W64 oo 0))).setCell ⟨OO, 1, none⟩ (.int .u64 (dgt W64 oo 1))).setCell ⟨OO, 2, none⟩ (.int .u64 (dgt W64 oo 2))).setCell ⟨OO, 3, none⟩ (.int .u64 (dgt W64 oo 3)) := ⟨_, rfl⟩
      have HOO := Lib.hid (show NumAt w4 OO oo by rw [e9]; exact NumAt.set4 HOO.out _)
      have HFO := Lib.hid (show FreeN w4 OO 4 by rw [e9]; exact HFO.out.set4 _ _ _ _ _ _ _ _)
      have HAA := Lib.hid (show NumAt w4 AA _ by rw [e9]; exact NumAt.other4 HAA.out nOA _ _ _ _)
      have HBB := Lib.hid (show NumAt w4 BB _ by rw [e9]; exact NumAt.other4 HBB.out nOB _ _ _ _)
      have HNN := Lib.hid (show NumAt w4 NN _ by rw [e9]; exact NumAt.other4 HNN.out nON _ _ _ _)
      have HRR := Lib.hid (show NumAt w4 RR _ by rw [e9]; exact NumAt.other4 HRR.out nOR _ _ _ _)
      have HF := Lib.hid (show FreeN w4 RR 4 by rw [e9]; exact HF.out.set4 _ _ _ _ _ _ _ _)
      have B := Lib.hid (show Below w.heap.size w w4 by rw [e9]; exact below_set4 B.out hwO _ _ _ _)
      have hsz : w4.heap.size = w3.heap.size := by rw [e9]; simp
      have hOl : OO < w4.heap.size := by rw [hsz]; exact hOl
      have hRd : RR < w4.heap.size := by omega
      rw [← e9]
      clear e9 hsz
      rcases hb2 with rfl | rfl
      · skip
        refine wp_region_fresh 8 (fun _ => none) (by kernel_rfl) (by kernel_rfl) (fun _ _ _ _ _ h => h) (fun F hn9 hcl hbl => ?_)
        have r_NN_0 := fun X9 : Wd F => (NumAt.later (hbl X9.world X9.fact) HNN.out) 0 (by omega)
        have r_NN_1 := fun X9 : Wd F => (NumAt.later (hbl X9.world X9.fact) HNN.out) 1 (by omega)
        have r_NN_2 := fun X9 : Wd F => (NumAt.later (hbl X9.world X9.fact) HNN.out) 2 (by omega)
        have r_NN_3 := fun X9 : Wd F => (NumAt.later (hbl X9.world X9.fact) HNN.out) 3 (by omega)
        have HCL := Lib.hid hcl
        clear hcl hbl
        refine wpF_seg 8 0 _ _ (fun _ _ _ => rfl) (by decide) ?_
        simp only [List.take_succ_cons, List.take_zero, List.drop_succ_cons, List.drop_zero, Nat.reduceAdd]
        repeat (go_big_quiet_step ((first | (go_at_call 48; with_reducible exact to_class HCL.out (CB.out _)) | (go_at_call 71; with_reducible exact to_class HCL.out (CT.out _)))))
        refine wpQuiet_nil ?_
        refine wpF_nil ?_
        intro bs w5 hb _ _
        clear r_NN_0 r_NN_1 r_NN_2 r_NN_3
        have HFO := Lib.hid (HFO.out.later hb hOl)
        have hOl := Nat.lt_of_lt_of_le hOl hb.size
        have HAA := Lib.hid (NumAt.later hb HAA.out)
        have HBB := Lib.hid (NumAt.later hb HBB.out)
        have HNN := Lib.hid (NumAt.later hb HNN.out)
        have HRR := Lib.hid (NumAt.later hb HRR.out)
        have HOO := Lib.hid (NumAt.later hb HOO.out)
        have HF := Lib.hid (HF.out.later hb hRd)
        have hRd := Nat.lt_of_lt_of_le hRd hb.size
        have B := Lib.hid (below_later B.out hb)
        clear hb
        simp only [over]
        go_wp2_with fail
        have HK2 := Lib.hid (show oo = a ^ (n / 2 ^ (L - (k + 1))) % m by rw [HOO2.out]; exact pow_even hlt HO.out HB.out.symm)
        go_roundw
        case rel => exact ⟨k + 1, oo, by omega, by go_num, hoom, HK2, HOO, HFO, HAA, HBB, HNN, HRR, HF, B, hOl⟩
        case measure => simp [intOf]; omega
      · skip
        refine wp_region_fresh 8 (fun _ => none) (by kernel_rfl) (by kernel_rfl) (fun _ _ _ _ _ h => h) (fun F hn9 hcl hbl => ?_)
        have r_NN_0 := fun X9 : Wd F => (NumAt.later (hbl X9.world X9.fact) HNN.out) 0 (by omega)
        have r_NN_1 := fun X9 : Wd F => (NumAt.later (hbl X9.world X9.fact) HNN.out) 1 (by omega)
        have r_NN_2 := fun X9 : Wd F => (NumAt.later (hbl X9.world X9.fact) HNN.out) 2 (by omega)
        have r_NN_3 := fun X9 : Wd F => (NumAt.later (hbl X9.world X9.fact) HNN.out) 3 (by omega)
        have HCL := Lib.hid hcl
        clear hcl hbl
        refine wpF_seg 8 0 _ _ (fun _ _ _ => rfl) (by decide) ?_
        simp only [List.take_succ_cons, List.take_zero, List.drop_succ_cons, List.drop_zero, Nat.reduceAdd]
        repeat (go_big_quiet_step ((first | (go_at_call 48; with_reducible exact to_class HCL.out (CB.out _)) | (go_at_call 71; with_reducible exact to_class HCL.out (CT.out _)))))
        refine wpQuiet_nil ?_
        refine wpF_nil ?_
        intro bs w5 hb _ _
        clear r_NN_0 r_NN_1 r_NN_2 r_NN_3
        have HFO := Lib.hid (HFO.out.later hb hOl)
        have hOl := Nat.lt_of_lt_of_le hOl hb.size
        have HAA := Lib.hid (NumAt.later hb HAA.out)
        have HBB := Lib.hid (NumAt.later hb HBB.out)
        have HNN := Lib.hid (NumAt.later hb HNN.out)
        have HRR := Lib.hid (NumAt.later hb HRR.out)
        have HOO := Lib.hid (NumAt.later hb HOO.out)
        have HF := Lib.hid (HF.out.later hb hRd)
        have hRd := Nat.lt_of_lt_of_le hRd hb.size
        have B := Lib.hid (below_later B.out hb)
        clear hb
        simp only [over]
        obtain ⟨q2, hq2⟩ : ∃ x, x = oo * a % m := ⟨_, rfl⟩
        have hq2m : q2 < m := by rw [hq2]; exact Nat.mod_lt _ (by omega)
        have C3 := Lib.hid (fun W hb => by have h := HT.out oo a W hoom HAM.out hb; rw [← hq2] at h; exact h)
        have HK2 := Lib.hid (show q2 = a ^ (n / 2 ^ (L - (k + 1))) % m by rw [hq2, HOO2.out]; exact pow_odd hlt HO.out HB.out.symm)
        clear hq2
        have he := HE.out
        obtain ⟨r0, r1, r2, r3⟩ := num4 HOO.out
        obtain ⟨s0, s1, s2, s3⟩ := num4 HAA.out
        go_wp2_with fail
        refine (C3.out _ B.out).mono ?_
        rintro _ w6 ⟨rfl, hb⟩
        clear r0 r1 r2 r3 s0 s1 s2 s3 he
        have HFO := Lib.hid (HFO.out.later hb hOl)
        have hOl := Nat.lt_of_lt_of_le hOl hb.size
        have HAA := Lib.hid (NumAt.later hb HAA.out)
        have HBB := Lib.hid (NumAt.later hb HBB.out)
        have HNN := Lib.hid (NumAt.later hb HNN.out)
        have HRR := Lib.hid (NumAt.later hb HRR.out)
        have HOO := Lib.hid (NumAt.later hb HOO.out)
        have HF := Lib.hid (HF.out.later hb hRd)
        have hRd := Nat.lt_of_lt_of_le hRd hb.size
        have B := Lib.hid (below_later B.out hb)
        clear hb
        obtain ⟨r0, r1, r2, r3, f0, f1, f2, f3⟩ := num4f HOO.out HFO.out
        go_wp2_with fail
        clear r0 r1 r2 r3 f0 f1 f2 f3
        obtain ⟨w7, e9⟩ : ∃ w9, w9 = (((w6.setCell ⟨OO, 0, none⟩ (.int .u64 (dgt W64 q2 0))).setCell ⟨OO, 1, none⟩ (.int .u64 (dgt W64 q2 1))).setCell ⟨OO, 2, none⟩ (.int .u64 (dgt W64 q2 2))).setCell ⟨OO, 3, none⟩ (.int .u64 (dgt W64 q2 3)) := ⟨_, rfl⟩
        have HOO := Lib.hid (show NumAt w7 OO q2 by rw [e9]; exact NumAt.set4 HOO.out _)
        have HFO := Lib.hid (show FreeN w7 OO 4 by rw [e9]; exact HFO.out.set4 _ _ _ _ _ _ _ _)
        have HAA := Lib.hid (show NumAt w7 AA _ by rw [e9]; exact NumAt.other4 HAA.out nOA _ _ _ _)
        have HBB := Lib.hid (show NumAt w7 BB _ by rw [e9]; exact NumAt.other4 HBB.out nOB _ _ _ _)
        have HNN := Lib.hid (show NumAt w7 NN _ by rw [e9]; exact NumAt.other4 HNN.out nON _ _ _ _)
        have HRR := Lib.hid (show NumAt w7 RR _ by rw [e9]; exact NumAt.other4 HRR.out nOR _ _ _ _)
        have HF := Lib.hid (show FreeN w7 RR 4 by rw [e9]; exact HF.out.set4 _ _ _ _ _ _ _ _)
        have B := Lib.hid (show Below w.heap.size w w7 by rw [e9]; exact below_set4 B.out hwO _ _ _ _)
        have hsz : w7.heap.size = w6.heap.size := by rw [e9]; simp
        have hOl : OO < w7.heap.size := by rw [hsz]; exact hOl
        have hRd : RR < w7.heap.size := by omega
        rw [← e9]
        clear e9 hsz
        go_roundw
        case rel => exact ⟨k + 1, q2, by omega, by go_num, hq2m, HK2, HOO, HFO, HAA, HBB, HNN, HRR, HF, B, hOl⟩
        case measure => simp [intOf]; omega
    · have hkL : k = L := by omega
      rw [hkL] at HO ⊢
      have hltI : ¬ ((L : Int) < (L : Int)) := by omega
      have HOQ := Lib.hid (show o = Q by rw [HQ.out]; exact pow_end HO.out)
      clear hkL HO
      obtain ⟨r_OO_0, r_OO_1, r_OO_2, r_OO_3⟩ := num4 HOO.out
      obtain ⟨c0, c1, c2, c3, f0, f1, f2, f3⟩ := num4f HRR.out HF.out
      go_wp2_with fail
      rw [HOQ.out]
      have HRL := Lib.hid (NumAt.set4 HRR.out Q)
      have B9 := Lib.hid (below_set4 B.out hwRR (.int .u64 (dgt W64 Q 0)) (.int .u64 (dgt W64 Q 1)) (.int .u64 (dgt W64 Q 2)) (.int .u64 (dgt W64 Q 3)))
      obtain ⟨g0, g1, g2, g3⟩ := num4 HRL.out
      refine bodyPost_ret (v := .agg #[.int .u64 (dgt W64 Q 0), .int .u64 (dgt W64 Q 1), .int .u64 (dgt W64 Q 2), .int .u64 (dgt W64 Q 3)]) ?_ rfl ⟨rfl, B9.out⟩
      simp [results, Try.results52, go_sem, g0, g1, g2, g3]
end Go.Proofs.Ytpoocnkflmimdaa
