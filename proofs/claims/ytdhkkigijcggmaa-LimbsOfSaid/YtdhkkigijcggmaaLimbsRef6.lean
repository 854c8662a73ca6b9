/- Layer 2's reference: Shift. -/
import Derived.Test.YtdhkkigijcggmaaLimbsRef5
namespace Go.Proofs.Ytdhkkigijcggmaa
open Go.ChangeShapes Go.WideShapes Go.ChangeAt Go.RowKit

theorem wrap_pow (r : Nat) (h : r < 64) : IntKind.u64.wrap (2 ^ r) = ((2 ^ r : Nat) : Int) := by
  have h1 : 2 ^ r ≤ 2 ^ 63 := Nat.pow_le_pow_right (by omega) (by omega)
  rw [IntKind.wrap_u64, show ((2 : Int) ^ r) = ((2 ^ r : Nat) : Int) by simp]
  generalize (2 : Nat) ^ r = p at h1 ⊢
  omega
theorem sh_val {S k : Nat} (hS : S < 2 ^ k) : IntKind.u64.wrap ((dgt W64 S (k / 64) : Int) + IntKind.u64.wrap (2 ^ (k % 64))) = ((dgt W64 (S + 2 ^ k) (k / 64) : Nat) : Int) := by
  have h := word_plus (q := k / 64) hS
  rw [if_pos rfl] at h
  have hl := dgtW_lt (S + 2 ^ k) (k / 64)
  unfold W64 at hl
  rw [wrap_pow _ (by omega), IntKind.wrap_u64]
  have h' : dgt 18446744073709551616 (S + 2 ^ k) (k / 64) = dgt W64 S (k / 64) + 2 ^ (k % 64) := h
  rw [h'] at hl
  rw [h]
  omega
theorem start_shift (w : World) (a : Nat) (t1 t2 t3 : TypeId) : ∀ W, W = ((w.alloc (.cells #[.int .u64 (dgt W64 a 0), .int .u64 (dgt W64 a 1), .int .u64 (dgt W64 a 2), .int .u64 (dgt W64 a 3)] t1)).alloc (.cells #[.int .u64 0, .int .u64 0, .int .u64 0, .int .u64 0] t2)).alloc (.cells #[.int .u64 0, .int .u64 0, .int .u64 0, .int .u64 0] t3) →
    NumAt W w.heap.size a ∧ UAt W (w.heap.size + 1) 4 (fun _ => 0) ∧ FreeN W (w.heap.size + 1) 4 ∧ UAt W (w.heap.size + 1 + 1) 4 (fun _ => 0) ∧ FreeN W (w.heap.size + 1 + 1) 4 ∧ Below w.heap.size w W := by
  intro W hW
  subst hW
  exact ⟨((NumAt.new _ _ _ _ rfl).alloc _).alloc _, (UAt.zero4 _ _ _ (by simp)).alloc _, (FreeN.made _ _ _ _ _ (by simp)).alloc (by simp) _, UAt.zero4 _ _ _ (by simp), FreeN.made _ _ _ _ _ (by simp), (((Below.refl w.heap.size w).alloc (Nat.le_refl _) _).alloc (by simp) _).alloc (by simp; omega) _⟩
theorem num_zero : numV 0 = .agg #[.int .u64 0, .int .u64 0, .int .u64 0, .int .u64 0] := by
  unfold numV words dgt
  simp
set_option maxRecDepth 20000 in
set_option maxHeartbeats 2000000 in
theorem Shift_ref {a : Nat} (ha : a < M256) (n : Int) (hn0 : -9223372036854775808 ≤ n) (hn1 : n ≤ 9223372036854775807) (w : World) :
    Calls Try.prog 25 #[numV a, .int .i64 n] w fun e w' => e = .returned (numV (shiftN a n)) ∧ Below w.heap.size w w' := by
  by_cases hfar : n < -256 ∨ 256 < n
  · have hz := shiftN_far ha (n := n) (by omega)
    rw [hz]
    have HZ := Lib.hid num_zero
    clear hz ha
    unfold numV words at HZ ⊢
    rw [HZ.out]
    clear HZ
    rcases hfar with h | h
    all_goals
      go_enter Try.func25, Try.ntmps25
      go_wp2
      refine bodyPost_ret (v := .agg #[.int .u64 0, .int .u64 0, .int .u64 0, .int .u64 0]) (by simp [results, Try.results25, go_sem]) rfl ⟨rfl, ?_⟩
      repeat (first | exact (Below.refl _ _) | refine Below.setCell ?_ (by simp) _ | refine Below.alloc ?_ (by simp; try omega) _)
  · have h0 : -256 ≤ n := by omega
    have h1 : n ≤ 256 := by omega
    have HS0 := Lib.hid (start_shift w a)
    have HBit := Lib.hid (Bit_ref a)
    have HSB := Lib.hid (fun (i : Nat) (hi : i < 256) => shift_bit ha (n := n) hi)
    have HLT := Lib.hid (shiftN_lt ha n)
    obtain ⟨s, es⟩ : ∃ s, s = shiftN a n := ⟨_, rfl⟩
    rw [← es] at HSB HLT ⊢
    clear ha es hfar
    unfold numV words at HBit ⊢
    go_enter Try.func25, Try.ntmps25
    go_wp2
    go_loopw [6] (fun i wr => ∃ k : Nat, k ≤ 256 ∧ i = .int .i64 k ∧ NumAt wr w.heap.size a ∧ UAt wr (w.heap.size + 1) 4 (fun _ => 0) ∧ FreeN wr (w.heap.size + 1) 4 ∧ NumAt wr (w.heap.size + 1 + 1) (s % 2 ^ k) ∧ FreeN wr (w.heap.size + 1 + 1) 4 ∧ Below w.heap.size w wr) (fun i _ => 256 - (intOf i).toNat)
    case atStart =>
      obtain ⟨g1, g2, g3, g4, g5, g6⟩ := HS0.out _ _ _ _ rfl
      exact ⟨0, by omega, rfl, g1, g2, g3, g4.congr (fun j _ => by rw [Nat.pow_zero, Nat.mod_one]; unfold dgt; simp), g5, g6⟩
    case round =>
      obtain ⟨k, hk, rfl, ha, hr, hrf, ho, hof, hb⟩ := hrel
      have HA := Lib.hid ha
      have HR := Lib.hid hr
      have HRF := Lib.hid hrf
      have HO := Lib.hid ho
      have HOF := Lib.hid hof
      have HB := Lib.hid hb
      clear HS0
      by_cases hlt : k < 256
      · obtain ⟨c0, c1, c2, c3⟩ := num4 ha
        have hbn := HSB.out k hlt
        have htest := bitN_test s k hlt
        have hbq : bitN s k = s / 2 ^ k % 2 := by unfold bitN; rw [if_neg (by omega), Int.toNat_natCast]
        have hnext := mod_next s k
        have hB := fun w => HBit.out ((k : Int) - n) w (by omega) (by omega)
        rw [← hbn] at hB
        have hlk := Nat.mod_lt s (Nat.two_pow_pos k)
        have hq4 : k / 64 < 4 := by omega
        have hm64 : k % 64 < 64 := by omega
        by_cases hd : bitN s k = 1
        · rw [hd] at hB
          rw [← hbq, hd, Nat.one_mul] at hnext
          have HB1 := Lib.hid hB
          have HN := Lib.hid hnext
          have HV := Lib.hid (sh_val hlk)
          have HWP := Lib.hid (fun q => word_plus (q := q) hlk)
          clear hB hbn htest hbq hd HBit hnext hlk ha hr hrf ho hof hb
          obtain ⟨S, eS⟩ : ∃ S, S = s % 2 ^ k := ⟨_, rfl⟩
          rw [← eS] at HO HV HWP HN
          clear eS
          go_wp2_with fail
          refine (HB1.out _).mono ?_
          rintro _ w1 ⟨rfl, hb1⟩
          have HB2 := Lib.hid (below_later HB.out hb1)
          have hsz : w.heap.size + 1 + 1 < wr.heap.size := NumAt.lt HO.out
          have HA2 := Lib.hid (NumAt.later hb1 HA.out)
          have HR2 := Lib.hid (HR.out.later hb1 (by omega))
          have HRF2 := Lib.hid (HRF.out.later hb1 (by omega))
          have HO2 := Lib.hid (NumAt.later hb1 HO.out)
          have HOF2 := Lib.hid (HOF.out.later hb1 (by omega))
          clear hb1 HA HR HRF HO HOF HB
          have ok := HO2.out (k / 64) hq4
          have fk := HOF2.out (k / 64) hq4
          go_wp2
          go_region
          go_wp2
          go_roundw
          case rel =>
            refine ⟨k + 1, by omega, by go_num, WAt.other HA2.out _ _ (by omega), HR2.out.other _ _ (by omega), HRF2.out.set _ _, ?_, HOF2.out.set _ _, (HB2.out.drew).setCell (by simp; omega) _⟩
            rw [HN.out]
            refine (UAt.setI (n := 4) HO2.out (k / 64) _ _ HV.out).congr fun j hj => ?_
            have := HWP.out j
            by_cases hjk : j = k / 64
            · rw [if_pos hjk, hjk]
            · rw [if_neg hjk] at this ⊢
              exact this.symm
          case measure => simp [intOf]; omega
        · have hd0 : bitN s k = 0 := by rw [htest] at hd ⊢; split at hd <;> simp_all
          rw [hd0] at hB
          rw [← hbq, hd0, Nat.zero_mul, Nat.add_zero] at hnext
          have HB1 := Lib.hid hB
          have HN := Lib.hid hnext
          clear hB hbn htest hbq hd hd0 HBit hnext hlk ha hr hrf ho hof hb
          go_wp2_with fail
          refine (HB1.out _).mono ?_
          rintro _ w1 ⟨rfl, hb1⟩
          have HB2 := Lib.hid (below_later HB.out hb1)
          have hsz : w.heap.size + 1 + 1 < wr.heap.size := NumAt.lt HO.out
          have HA2 := Lib.hid (NumAt.later hb1 HA.out)
          have HR2 := Lib.hid (HR.out.later hb1 (by omega))
          have HRF2 := Lib.hid (HRF.out.later hb1 (by omega))
          have HO2 := Lib.hid (NumAt.later hb1 HO.out)
          have HOF2 := Lib.hid (HOF.out.later hb1 (by omega))
          clear hb1 HA HR HRF HO HOF HB
          go_wp2
          go_roundw
          case rel => exact ⟨k + 1, by omega, by go_num, HA2.out, HR2.out, HRF2.out, by rw [HN.out]; exact HO2.out, HOF2.out, HB2.out⟩
          case measure => simp [intOf]; omega
      · obtain rfl : k = 256 := by omega
        have hs : s % 2 ^ 256 = s := Nat.mod_eq_of_lt (by rw [← M256_eq]; exact HLT.out)
        rw [hs] at ho
        obtain ⟨o0, o1, o2, o3⟩ := num4 ho
        have r0 := hr 0 (by omega)
        have r1 := hr 1 (by omega)
        have r2 := hr 2 (by omega)
        have r3 := hr 3 (by omega)
        have f0 := hrf 0 (by omega)
        have f1 := hrf 1 (by omega)
        have f2 := hrf 2 (by omega)
        have f3 := hrf 3 (by omega)
        clear hs ha hr hrf ho hof hb HA HR HRF HO HOF HSB HLT HBit
        go_wp2
        refine bodyPost_ret (v := numV s) (by simp [results, Try.results25, go_sem, numV, words, r0, r1, r2, r3]) rfl ⟨rfl, ?_⟩
        exact (((HB.out.setCell (by simp) _).setCell (by simp) _).setCell (by simp) _).setCell (by simp) _
end Go.Proofs.Ytdhkkigijcggmaa
