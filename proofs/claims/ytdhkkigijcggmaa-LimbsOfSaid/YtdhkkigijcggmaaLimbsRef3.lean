/- Layer 2's reference: Bits, Cmp, Add, Sub. -/
import Derived.Test.YtdhkkigijcggmaaLimbsRef2
namespace Go.Proofs.Ytdhkkigijcggmaa
open Go.ChangeShapes Go.WideShapes Go.ChangeAt Go.RowKit

theorem below_drewN' (w : World) (n : Nat) : Below w.heap.size w (w.drewN n) := ⟨rfl, rfl, rfl, Nat.le_refl _, fun _ _ => rfl⟩
set_option maxRecDepth 20000 in
set_option maxHeartbeats 1500000 in
theorem Bits_ref {a : Nat} (ha : a < M256) (w : World) :
    Calls Try.prog 21 #[numV a] w fun e w' => e = .returned (.int .i64 (bitsN a)) ∧ Below w.heap.size w w' := by
  have Ha : Hid (a < 2 ^ 256) := Lib.hid (by rw [← M256_eq]; exact ha)
  have HW := Lib.hid (NumAt.new w a w.heap.size 24 rfl)
  have HBit := Lib.hid (Bit_ref a)
  clear ha
  unfold numV words at HBit ⊢
  go_enter Try.func21, Try.ntmps21
  go_wp2
  go_loopw [3] (fun i wr => ∃ k : Nat, k ≤ 256 ∧ i = .int .i64 ((k : Int) - 1) ∧ NumAt wr w.heap.size a ∧ Below w.heap.size w wr ∧ Hid (a < 2 ^ k)) (fun i _ => (intOf i + 1).toNat)
  case atStart => exact ⟨256, by omega, rfl, HW.out, (Below.refl _ _).alloc (Nat.le_refl _) _, Ha⟩
  case round =>
    obtain ⟨k, hk, rfl, hc, hb, hz⟩ := hrel
    by_cases hk0 : k = 0
    · subst hk0
      have h0 : a = 0 := by
        have := hz.out
        rw [Nat.pow_zero] at this
        omega
      have H0 := Lib.hid h0
      have HB := Lib.hid hb
      clear h0 hc hb
      go_wp2
      go_ret
      exact ⟨by rw [H0.out]; rfl, HB.out⟩
    · obtain ⟨i, rfl⟩ : ∃ i, k = i + 1 := ⟨k - 1, by omega⟩
      have ei : ((i + 1 : Nat) : Int) - 1 = (i : Int) := by omega
      rw [ei]
      clear ei
      obtain ⟨c0, c1, c2, c3⟩ := num4 hc
      have HC := Lib.hid hc
      have HB := Lib.hid hb
      clear hc hb hk0
      have hbn := bitN_test a i (by omega)
      have hbq : bitN a i = a / 2 ^ i % 2 := by unfold bitN; rw [if_neg (by omega), Int.toNat_natCast]
      by_cases hd : bitN a i = 1
      · have hB := fun w => HBit.out i w (by omega) (by omega)
        rw [hd] at hB
        have HB1 := Lib.hid hB
        have HT := Lib.hid (is_top hz.out (by omega))
        clear hB hbn hbq hd HBit
        go_wp2_with fail
        refine (HB1.out _).mono ?_
        rintro _ w1 ⟨rfl, hb1⟩
        have HB2 := Lib.hid (below_later HB.out hb1)
        clear hb1
        go_wp2
        go_ret
        exact ⟨congrArg (fun z => Ending.returned (.int .i64 z)) (by have := HT.out; omega), HB2.out⟩
      · have hd0 : bitN a i = 0 := by rw [hbn] at hd ⊢; split at hd <;> simp_all
        have hB := fun w => HBit.out i w (by omega) (by omega)
        rw [hd0] at hB
        have HB1 := Lib.hid hB
        have HT := Lib.hid (no_top hz.out (by omega))
        clear hB hbn hbq hd hd0 HBit
        go_wp2_with fail
        refine (HB1.out _).mono ?_
        rintro _ w1 ⟨rfl, hb1⟩
        have HB2 := Lib.hid (below_later HB.out hb1)
        have HC2 := Lib.hid (NumAt.later hb1 HC.out)
        clear hb1
        go_wp2
        go_roundw
        case rel => exact ⟨i, by omega, by go_num, HC2.out, HB2.out, HT⟩
        case measure => simp [intOf]
set_option maxRecDepth 20000 in
set_option maxHeartbeats 1500000 in
theorem Cmp_ref {a b : Nat} (ha : a < M256) (hb : b < M256) (w : World) :
    Calls Try.prog 19 #[numV a, numV b] w fun e w' => e = .returned (.int .i64 (cmpN a b)) ∧ Below w.heap.size w w' := by
  have HTH := Lib.hid new_there
  have Ha := Lib.hid ha
  have Hb := Lib.hid hb
  have HW := Lib.hid (fun (w : World) (o : Obj) => NumAt.new (w.alloc o) b (w.heap.size + 1) 24 (by simp))
  have HDG1 := Lib.hid (digits_any a)
  have HO1 := Lib.hid (rowU_one 16 (dgt 65536 a))
  obtain ⟨cs, hcs1⟩ : ∃ cs, cs = rowU 16 (dgt 65536 a) := ⟨_, rfl⟩
  have HST1 := Lib.hid (fun w t => dig_new w t (dgt 65536 a) cs hcs1)
  have HL1 : Hid (cs.length = 16) := Lib.hid (by rw [hcs1, rowU_length])
  have HS1 : Hid (16 = cs.toArray.size) := Lib.hid (by rw [List.size_toArray, HL1.out])
  unfold digV at HDG1
  rw [← hcs1] at HDG1 HO1
  clear hcs1
  have HDG2 := Lib.hid (digits_any b)
  have HO2 := Lib.hid (rowU_one 16 (dgt 65536 b))
  obtain ⟨ds, hcs2⟩ : ∃ cs, cs = rowU 16 (dgt 65536 b) := ⟨_, rfl⟩
  have HST2 := Lib.hid (fun w t => dig_new w t (dgt 65536 b) ds hcs2)
  have HL2 : Hid (ds.length = 16) := Lib.hid (by rw [hcs2, rowU_length])
  have HS2 : Hid (16 = ds.toArray.size) := Lib.hid (by rw [List.size_toArray, HL2.out])
  unfold digV at HDG2
  rw [← hcs2] at HDG2 HO2
  clear hcs2
  clear ha hb
  unfold numV words at HDG1 HDG2 ⊢
  go_enter Try.func19, Try.ntmps19
  go_wp2_with fail
  refine (HDG1.out _).mono ?_
  rintro _ w1 ⟨rfl, hb1⟩
  have HB1 := Lib.hid ((((Below.refl w.heap.size w).alloc (Nat.le_refl _) _).alloc (by simp) _).trans (hb1.mono (by simp; omega)))
  have HN1 := Lib.hid (NumAt.later hb1 (HW.out _ _))
  clear hb1 HW
  go_wp2_with (
      refine wpList_store_mid rfl 46 _ _ rfl w1.heap.size 0 cs.toArray rfl rfl (HTH.out w1 _ _ _ HS1.out) (by rw [List.size_toArray, HL1.out]; kernel_rfl) (all_oneCell_toArray HO1.out) ?_
      obtain ⟨w2, e9, u9, f9, b9⟩ := HST1.out w1 46
      rw [← e9]
      have HX := Lib.hid u9
      have HB2 := Lib.hid (below_later HB1.out b9)
      have HN2 := Lib.hid (NumAt.later b9 HN1.out)
      have hn1 : w1.heap.size < w2.heap.size := World.block_lt_of_cell? (a := ⟨w1.heap.size, 0, none⟩) _ (u9 0 (by omega))
      obtain ⟨q0, q1, q2, q3⟩ := num4 HN2.out
      clear e9 u9 f9 b9)
  refine (HDG2.out _).mono ?_
  rintro _ w3 ⟨rfl, hb3⟩
  have HB3 := Lib.hid (below_later HB2.out hb3)
  have HX3 := Lib.hid (HX.out.later hb3 hn1)
  have hn3 := hb3.size
  clear hb3 q0 q1 q2 q3 HB1 HN1 HB2 HN2 HX HST1 HS1 HO1 HL1
  go_wp2_with (
      refine wpList_store_mid rfl 46 _ _ rfl w3.heap.size 0 ds.toArray rfl rfl (HTH.out w3 _ _ _ HS2.out) (by rw [List.size_toArray, HL2.out]; kernel_rfl) (all_oneCell_toArray HO2.out) ?_
      obtain ⟨w4, e9, u9, f9, b9⟩ := HST2.out w3 46
      rw [← e9]
      have HY := Lib.hid u9
      have HB4 := Lib.hid (below_later HB3.out b9)
      have HX4 := Lib.hid (HX3.out.later b9 (by omega))
      clear e9 u9 f9 b9)
  clear HB3 HX3 HST2 HS2 HO2 HL2 HTH
  go_loopw [7] (fun i wr => ∃ k n : Nat, k ≤ 16 ∧ i = .int .i64 ((k : Int) - 1) ∧ wr = w4.drewN n ∧ Hid (∀ j, k ≤ j → j < 16 → dgt 65536 a j = dgt 65536 b j)) (fun i _ => (intOf i + 1).toNat)
  case atStart => exact ⟨16, 0, by omega, rfl, rfl, Lib.hid fun j h1 h2 => by omega⟩
  case round =>
    obtain ⟨k, n, hk, rfl, rfl, hz⟩ := hrel
    by_cases hk0 : k = 0
    · subst hk0
      have h0 : a = b := digits_eq Ha.out Hb.out fun j hj => hz.out j (by omega) hj
      have hv : cmpN a b = 0 := by unfold cmpN; rw [if_neg (by omega), if_pos h0]
      have HV := Lib.hid hv
      clear h0 hv
      go_wp2
      go_ret
      exact ⟨by rw [HV.out]; rfl, ⟨HB4.out.os, HB4.out.tape, HB4.out.output, HB4.out.size, HB4.out.block⟩⟩
    · obtain ⟨i, rfl⟩ : ∃ i, k = i + 1 := ⟨k - 1, by omega⟩
      have ei : ((i + 1 : Nat) : Int) - 1 = (i : Int) := by omega
      rw [ei]
      clear ei
      have xk : ∀ n, (w4.drewN n).cell? ⟨w1.heap.size, i, none⟩ = some (.int .u64 (dgt 65536 a i)) := fun n => HX4.out i (by omega)
      have yk : ∀ n, (w4.drewN n).cell? ⟨w3.heap.size, i, none⟩ = some (.int .u64 (dgt 65536 b i)) := fun n => HY.out i (by omega)
      have hi16 : i < 16 := by omega
      have hz' := Lib.hid (fun j (h1 : i < j) (h2 : j < 16) => hz.out j h1 h2)
      clear hk0
      obtain ⟨x, hx⟩ : ∃ x, dgt 65536 a i = x := ⟨_, rfl⟩
      obtain ⟨y, hy⟩ : ∃ y, dgt 65536 b i = y := ⟨_, rfl⟩
      have Hx := Lib.hid hx
      have Hy := Lib.hid hy
      rw [hx] at xk
      rw [hy] at yk
      clear hx hy
      rcases Nat.lt_trichotomy x y with h | h | h
      · have HV : Hid (cmpN a b = -1) := Lib.hid (by
          have := digits_lt Ha.out Hb.out hi16 hz'.out (by rw [Hx.out, Hy.out]; exact h)
          unfold cmpN
          rw [if_pos this])
        have h1 : decide (x < y) = true := by simpa using h
        clear h
        go_wp2
        go_quiet (fail)
        go_wp2
        go_ret
        exact ⟨by rw [HV.out]; rfl, ⟨HB4.out.os, HB4.out.tape, HB4.out.output, HB4.out.size, HB4.out.block⟩⟩
      · subst h
        go_wp2
        go_quiet (fail)
        go_wp2
        go_quiet (fail)
        go_wp2
        go_roundw
        case rel => exact ⟨i, _, by omega, by go_num, rfl, Lib.hid fun j h1 h2 => by
            by_cases hj : j = i
            · subst hj; rw [Hx.out, Hy.out]
            · exact hz'.out j (by omega) h2⟩
        case measure => simp [intOf]
      · have HV : Hid (cmpN a b = 1) := Lib.hid (by
          have := digits_lt Hb.out Ha.out hi16 (fun j h1 h2 => (hz'.out j h1 h2).symm) (by rw [Hx.out, Hy.out]; exact h)
          unfold cmpN
          rw [if_neg (by omega), if_neg (by omega)])
        have h1 : decide (x < y) = false := by simp; omega
        have h2 : decide (y < x) = true := by simpa using h
        clear h
        go_wp2
        go_quiet (fail)
        go_wp2
        go_quiet (fail)
        go_wp2
        go_ret
        exact ⟨by rw [HV.out]; rfl, ⟨HB4.out.os, HB4.out.tape, HB4.out.output, HB4.out.size, HB4.out.block⟩⟩
end Go.Proofs.Ytdhkkigijcggmaa
