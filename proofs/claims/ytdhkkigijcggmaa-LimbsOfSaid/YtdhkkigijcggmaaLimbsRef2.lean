/- Layer 2's reference: of, Of, Bit, Bits, Cmp. -/
import Derived.Test.YtdhkkigijcggmaaLimbsRef
namespace Go.Proofs.Ytdhkkigijcggmaa
open Go.ChangeShapes Go.WideShapes Go.ChangeAt Go.RowKit

theorem of_val {d : Nat → Nat} (hd : ∀ j, j < 16 → d j < 65536) {i : Nat} (hi : i < 16) : IntKind.u64.wrap ((ofW d i (i / 4) : Int) + IntKind.u64.wrap ((d i : Int) * 2 ^ (16 * (i % 4)))) = ((ofW d (i + 1) (i / 4) : Nat) : Int) := by
  rw [ofW_shift hd hi, ofW_add hd hi]
theorem UAt.zero4 (w : World) (t : TypeId) (b : Nat) (hb : b = w.heap.size) : UAt (w.alloc (.cells #[.int .u64 0, .int .u64 0, .int .u64 0, .int .u64 0] t)) b 4 (fun _ => 0) := by
  subst hb
  intro j hj
  have h : j = 0 ∨ j = 1 ∨ j = 2 ∨ j = 3 := by omega
  rcases h with rfl | rfl | rfl | rfl <;> simp
set_option maxRecDepth 20000 in
set_option maxHeartbeats 1500000 in
theorem of_ref {d : Nat → Nat} (hd : ∀ j, j < 16 → d j < 65536) (b o c : Nat) (w : World) (hb0 : b < w.heap.size) (h : ∀ j, j < 16 → w.cell? ⟨b, o + j, none⟩ = some (.int .u64 (d j))) (_hc : 16 ≤ c) :
    Calls Try.prog 31 #[.slice (some ⟨b, o, none⟩) 16 c] w fun e w' => e = .returned (numV (valn 65536 16 d)) ∧ Below w.heap.size w w' := by
  have HDD := Lib.hid hd
  have HCE := Lib.hid (fun (wr : World) (k : Nat) (hk : k < 16) (hb : Below w.heap.size w wr) => (hb.cell (p := ⟨b, o + k, none⟩) hb0).trans (h k hk))
  clear h hb0 hd
  go_enter Try.func31, Try.ntmps31
  go_wp2
  go_loopw [4] (fun i wr => ∃ k : Nat, k ≤ 16 ∧ i = .int .i64 k ∧ UAt wr w.heap.size 4 (fun _ => 0) ∧ FreeN wr w.heap.size 4 ∧ UAt wr (w.heap.size + 1) 4 (ofW d k) ∧ FreeN wr (w.heap.size + 1) 4 ∧ Below w.heap.size w wr) (fun i _ => 16 - (intOf i).toNat)
  case atStart =>
    exact ⟨0, by omega, rfl, (UAt.zero4 _ _ _ rfl).alloc _, (FreeN.made _ _ _ _ _ rfl).alloc (by simp) _, (UAt.zero4 _ _ _ (by simp)).congr fun j _ => (ofW_zero d j).symm, FreeN.made _ _ _ _ _ (by simp), ((Below.refl _ _).alloc (Nat.le_refl _) _).alloc (by simp) _⟩
  case round =>
    obtain ⟨k, hk, rfl, hr, hrf, ha, hf, hb⟩ := hrel
    have HR := Lib.hid hr
    have HRF := Lib.hid hrf
    have HA := Lib.hid ha
    have HF := Lib.hid hf
    have HB := Lib.hid hb
    by_cases hlt : k < 16
    · have ck := HCE.out wr k hlt hb
      have ak := ha (k / 4) (by omega)
      have fk := hf (k / 4) (by omega)
      have h4 : k / 4 < 4 := by omega
      have h5 : k % 4 < 4 := by omega
      have HV := Lib.hid (of_val HDD.out hlt)
      clear hr hrf ha hf hb HCE
      go_wp2
      go_region
      go_wp2
      go_roundw
      case rel =>
        refine ⟨k + 1, by omega, by go_num, HR.out.other _ _ (by omega), HRF.out.set _ _, (HA.out.setI (k / 4) _ _ HV.out).congr fun j hj => ?_, HF.out.set _ _, (HB.out.drew).setCell (by simp) _⟩
        have := ofW_step d k j
        by_cases hjk : j = k / 4
        · rw [if_pos hjk, hjk]
        · rw [if_neg hjk] at this ⊢
          exact this.symm
      case measure => simp [intOf]; omega
    · obtain rfl : k = 16 := by omega
      have r0 := hr 0 (by omega)
      have r1 := hr 1 (by omega)
      have r2 := hr 2 (by omega)
      have r3 := hr 3 (by omega)
      have f0 := hrf 0 (by omega)
      have f1 := hrf 1 (by omega)
      have f2 := hrf 2 (by omega)
      have f3 := hrf 3 (by omega)
      have a0 := ha 0 (by omega)
      have a1 := ha 1 (by omega)
      have a2 := ha 2 (by omega)
      have a3 := ha 3 (by omega)
      have e0 := of_words HDD.out (q := 0) (by omega)
      have e1 := of_words HDD.out (q := 1) (by omega)
      have e2 := of_words HDD.out (q := 2) (by omega)
      have e3 := of_words HDD.out (q := 3) (by omega)
      obtain ⟨x, ex⟩ : ∃ x, x = valn 65536 16 d := ⟨_, rfl⟩
      rw [← ex] at e0 e1 e2 e3
      have EX := Lib.hid ex
      rw [e0] at a0
      rw [e1] at a1
      rw [e2] at a2
      rw [e3] at a3
      clear ex e0 e1 e2 e3 hr hrf ha hf hb HCE HDD HR HRF HA HF hlt hk
      go_wp2
      refine bodyPost_ret (v := numV x) (by simp [results, Try.results31, go_sem, numV, words, r0, r1, r2, r3]) rfl ⟨by rw [EX.out], ?_⟩
      exact (((HB.out.setCell (Nat.le_refl _) _).setCell (Nat.le_refl _) _).setCell (Nat.le_refl _) _).setCell (Nat.le_refl _) _
theorem Of_ref (n : Nat) (hn : n < W64) (w : World) :
    Calls Try.prog 17 #[.int .u64 n] w fun e w' => e = .returned (numV n) ∧ Below w.heap.size w w' := by
  have e : numV n = .agg #[.int .u64 n, .int .u64 0, .int .u64 0, .int .u64 0] := by
    have h0 : dgt W64 n 0 = n := by unfold dgt; rw [Nat.pow_zero, Nat.div_one, Nat.mod_eq_of_lt hn]
    have h1 : ∀ j, 1 ≤ j → dgt W64 n j = 0 := fun j hj => by
      unfold dgt
      rw [Nat.div_eq_of_lt, Nat.zero_mod]
      exact Nat.lt_of_lt_of_le hn (by have := Nat.pow_le_pow_right W64_pos hj; rwa [Nat.pow_one] at this)
    unfold numV words
    rw [h0, h1 1 (by omega), h1 2 (by omega), h1 3 (by omega)]
    rfl
  have E := Lib.hid e
  clear e
  go_enter Try.func17, Try.ntmps17
  go_wp2
  refine bodyPost_ret (v := numV n) (by rw [E.out]; simp [results, Try.results17, go_sem]) rfl ⟨rfl, ?_⟩
  repeat (first | exact (Below.refl _ _) | refine Below.setCell ?_ (by simp) _ | refine Below.alloc ?_ (by simp) _)
theorem bit_dig (a n : Nat) (hn : n < 256) : ((dgt 65536 a (n / 16) : Nat) : Int) / 2 ^ (n % 16) % 2 = ((bitN a n : Nat) : Int) := by
  have e : ((dgt 65536 a (n / 16) : Nat) : Int) / 2 ^ (n % 16) % 2 = ((dgt 65536 a (n / 16) / 2 ^ (n % 16) % 2 : Nat) : Int) := by simp
  rw [e, show (65536 : Nat) = 2 ^ 16 from rfl, bit_of_dgt 16 a (n / 16) (n % 16) (by omega), show 16 * (n / 16) + n % 16 = n by omega]
  unfold bitN
  rw [if_neg (by omega), Int.toNat_natCast]
set_option maxRecDepth 20000 in
set_option maxHeartbeats 1500000 in
theorem Bit_ref (a : Nat) (i : Int) (w : World) (hi0 : -9223372036854775808 ≤ i) (hi1 : i ≤ 9223372036854775807) :
    Calls Try.prog 23 #[numV a, .int .i64 i] w fun e w' => e = .returned (.int .u64 (bitN a i)) ∧ Below w.heap.size w w' := by
  by_cases h : i < 0 ∨ 255 < i
  · have hv : bitN a i = 0 := by unfold bitN; rw [if_pos h]
    rw [hv]
    clear hv
    unfold numV words
    rcases h with h | h
    all_goals
      go_enter Try.func23, Try.ntmps23
      go_wp2
      go_ret
      exact ⟨rfl, (Below.refl _ _).alloc (Nat.le_refl _) _⟩
  · obtain ⟨n, rfl⟩ := Int.eq_ofNat_of_zero_le (show 0 ≤ i by omega)
    have hn : n < 256 := by omega
    have hq : n / 16 < 16 := by omega
    have hr : n % 16 < 16 := by omega
    have HDG := Lib.hid (digits_any a)
    have HTH := Lib.hid new_there
    have HV := Lib.hid (bit_dig a n hn)
    have HO := Lib.hid (rowU_one 16 (dgt 65536 a))
    obtain ⟨cs, hcs⟩ : ∃ cs, cs = rowU 16 (dgt 65536 a) := ⟨_, rfl⟩
    have HST := Lib.hid (fun w t => dig_new w t (dgt 65536 a) cs hcs)
    have HL : Hid (cs.length = 16) := Lib.hid (by rw [hcs, rowU_length])
    have HS16 : Hid (16 = cs.toArray.size) := Lib.hid (by rw [List.size_toArray, HL.out])
    unfold digV at HDG
    rw [← hcs] at HDG HO
    clear h hcs
    unfold numV words at HDG ⊢
    go_enter Try.func23, Try.ntmps23
    go_wp2_with fail
    refine (HDG.out _).mono ?_
    rintro _ w1 ⟨rfl, hb1⟩
    have HB1 := Lib.hid (((Below.refl w.heap.size w).alloc (Nat.le_refl _) _).trans (hb1.mono (by simp)))
    clear hb1
    go_wp2_with (refine wpList_store_mid rfl 46 _ _ rfl w1.heap.size 0 cs.toArray rfl rfl (HTH.out w1 _ _ _ HS16.out) (by rw [List.size_toArray, HL.out]; kernel_rfl) (all_oneCell_toArray HO.out) ?_
                 obtain ⟨w2, e2, u2, -, b2⟩ := HST.out w1 46
                 rw [← e2]
                 have HB2 := Lib.hid (below_later HB1.out b2)
                 have cq := u2 (n / 16) hq
                 clear e2 u2 b2)
    go_ret
    exact ⟨congrArg (fun z => Ending.returned (.int .u64 z)) HV.out, HB2.out⟩
end Go.Proofs.Ytdhkkigijcggmaa
