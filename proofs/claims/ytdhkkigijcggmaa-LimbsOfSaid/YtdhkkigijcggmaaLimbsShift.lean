/- Layer 2 (limbs): the contract of Shift. -/
import Derived.Test.YtdhkkigijcggmaaRows
import Derived.Test.YtdhkkigijcggmaaLimbsPlain
import Derived.Test.YtdhkkigijcggmaaLimbs
import Derived.WalkKit
import Derived.ProofKit
import Derived.OpenShut
import Derived.WalkLawsBesides
import Derived.Deep.QuietTactic
import Derived.BigQuiet
import Derived.BigRegion
import Derived.Outline
import Derived.Lib.Hide
import Derived.Laws.Externs
import Derived.Laws.BitsAllLaws
import Derived.Test.YtdhkkigijcggmaaShelf
import Derived.Test.YtdhkkigijcggmaaCommon
namespace Go.Proofs.Ytdhkkigijcggmaa
open Go.ChangeShapes Go.WideShapes Go.ChangeAt Go.RowKit

theorem shift_far {a : Nat} (ha : a < M256) (n : Int) (h : n ≤ -256 ∨ 256 ≤ n) (w : World) :
    Calls Try.prog 24 #[numV a, .int .i64 n] w fun e w' => e = .returned (numV (shiftN a n)) ∧ Below w.heap.size w w' := by
  have hv : shiftN a n = 0 := shiftN_far ha h
  rw [hv]
  have hz : ∀ j, dgt W64 0 j = 0 := fun j => by unfold dgt; simp
  have HZ := Lib.hid hz
  clear hv ha hz
  unfold numV words
  rcases h with h | h
  all_goals
    go_enter Try.func24, Try.ntmps24
    go_wp2
    refine bodyPost_ret (v := .agg #[.int .u64 (dgt W64 0 0), .int .u64 (dgt W64 0 1), .int .u64 (dgt W64 0 2), .int .u64 (dgt W64 0 3)]) (by simp [results, Try.results24, go_sem, HZ.out]) rfl ⟨rfl, ?_⟩
    exact ((Below.refl _ _).alloc (Nat.le_refl _) _).alloc (by simp) _

theorem start2 (w : World) (A : Nat → Nat) (t1 t2 : TypeId) :
    WAt ((w.alloc (.cells #[.int .u64 (A 0), .int .u64 (A 1), .int .u64 (A 2), .int .u64 (A 3)] t1)).alloc (.cells #[.int .u64 0, .int .u64 0, .int .u64 0, .int .u64 0] t2)) w.heap.size A ∧
    WAt ((w.alloc (.cells #[.int .u64 (A 0), .int .u64 (A 1), .int .u64 (A 2), .int .u64 (A 3)] t1)).alloc (.cells #[.int .u64 0, .int .u64 0, .int .u64 0, .int .u64 0] t2)) (w.heap.size + 1) (fun _ => 0) ∧
    Free4 ((w.alloc (.cells #[.int .u64 (A 0), .int .u64 (A 1), .int .u64 (A 2), .int .u64 (A 3)] t1)).alloc (.cells #[.int .u64 0, .int .u64 0, .int .u64 0, .int .u64 0] t2)) (w.heap.size + 1) ∧
    Below w.heap.size w ((w.alloc (.cells #[.int .u64 (A 0), .int .u64 (A 1), .int .u64 (A 2), .int .u64 (A 3)] t1)).alloc (.cells #[.int .u64 0, .int .u64 0, .int .u64 0, .int .u64 0] t2)) := by
  have h1 := WAt.new w A t1
  have h2 := WAt.zero (w.alloc (.cells #[.int .u64 (A 0), .int .u64 (A 1), .int .u64 (A 2), .int .u64 (A 3)] t1)) t2
  have h3 := Free4.new (w.alloc (.cells #[.int .u64 (A 0), .int .u64 (A 1), .int .u64 (A 2), .int .u64 (A 3)] t1)) #[.int .u64 0, .int .u64 0, .int .u64 0, .int .u64 0] t2
  simp only [World.size_alloc] at h2 h3
  exact ⟨h1.alloc _, h2, h3, ((Below.refl _ _).alloc (Nat.le_refl _) _).alloc (by simp) _⟩
theorem WAt.setI {w : World} {b : Nat} {A : Nat → Nat} (h : WAt w b A) (c : Nat) (v : Int) (x : Nat) (hv : v = x) : WAt (w.setCell ⟨b, c, none⟩ (.int .u64 v)) b (fun j => if j = c then x else A j) := by
  subst hv
  exact h.set c x
theorem valA (d r : Nat) (_hr : r < 64) : bits BinOp.or IntKind.u64 0 (IntKind.u64.wrap ((d : Int) * 2 ^ r)) = ((d * 2 ^ r % W64 : Nat) : Int) := by
  have e : IntKind.u64.wrap ((d : Int) * 2 ^ r) = ((d * 2 ^ r % W64 : Nat) : Int) := by
    rw [IntKind.wrap_u64]
    unfold W64
    simp
  rw [e, show (0 : Int) = ((0 : Nat) : Int) from rfl, u64_or_nat 0 (d * 2 ^ r % W64) (by omega) (Nat.mod_lt _ W64_pos)]
  simp
theorem valB (e s : Nat) (he : e < W64) : bits BinOp.or IntKind.u64 0 ((e : Int) / 2 ^ s) = ((e / 2 ^ s : Nat) : Int) := by
  have h : ((e : Nat) : Int) / 2 ^ s = ((e / 2 ^ s : Nat) : Int) := by simp
  rw [h, show (0 : Int) = ((0 : Nat) : Int) from rfl, u64_or_nat _ _ (by omega) (Nat.lt_of_le_of_lt (Nat.div_le_self _ _) he)]
  simp
theorem valAB (d e r : Nat) (hr : r < 64) (he : e < W64) : bits BinOp.or IntKind.u64 (bits BinOp.or IntKind.u64 0 (IntKind.u64.wrap ((d : Int) * 2 ^ r))) ((e : Int) / 2 ^ (64 - r)) = ((d * 2 ^ r % W64 + e / 2 ^ (64 - r) : Nat) : Int) := by
  have h : ((e : Nat) : Int) / 2 ^ (64 - r) = ((e / 2 ^ (64 - r) : Nat) : Int) := by simp
  have hW : W64 = 2 ^ (64 - r) * 2 ^ r := by rw [W64_eq, ← Nat.pow_add]; congr 1; omega
  rw [valA d r hr, h, u64_or_nat (d * 2 ^ r % W64) (e / 2 ^ (64 - r)) (Nat.mod_lt _ W64_pos) (Nat.lt_of_le_of_lt (Nat.div_le_self _ _) he)]
  rw [nat_join r]
  · rw [hW, Nat.mul_mod_mul_right, Nat.mul_mod_left]
  · apply Nat.div_lt_of_lt_mul
    rw [← hW]
    exact he
theorem shW_none (a : Nat) (word : Int) (rest i : Nat) (h : (i : Int) - word < 0 ∨ 5 ≤ (i : Int) - word) : shW a word rest i = 0 := by
  unfold shW
  rw [if_neg (by omega), if_neg (by omega)]
theorem shW_low (a : Nat) (word : Int) (rest i : Nat) (h1 : 0 ≤ (i : Int) - word) (h2 : (i : Int) - word < 4) (h3 : (i : Int) - word - 1 < 0) : shW a word rest i = dgt W64 a ((i : Int) - word).toNat * 2 ^ rest % W64 := by
  unfold shW
  rw [if_pos (by omega), if_neg (by omega), Nat.add_zero]
theorem shW_both (a : Nat) (word : Int) (rest i : Nat) (h1 : 1 ≤ (i : Int) - word) (h2 : (i : Int) - word < 4) : shW a word rest i = dgt W64 a ((i : Int) - word).toNat * 2 ^ rest % W64 + dgt W64 a (((i : Int) - word).toNat - 1) / 2 ^ (64 - rest) := by
  unfold shW
  rw [if_pos (by omega), if_pos (by omega), show ((i : Int) - word - 1).toNat = ((i : Int) - word).toNat - 1 by omega]
theorem shW_high (a : Nat) (word : Int) (rest i : Nat) (h1 : 4 ≤ (i : Int) - word) (h2 : (i : Int) - word - 1 < 4) : shW a word rest i = dgt W64 a (((i : Int) - word).toNat - 1) / 2 ^ (64 - rest) := by
  unfold shW
  rw [if_neg (by omega), if_pos (by omega), Nat.zero_add, show ((i : Int) - word - 1).toNat = ((i : Int) - word).toNat - 1 by omega]
theorem sh_keep (a : Nat) (word : Int) (rest i j : Nat) (h : shW a word rest i = 0) : (if j < i + 1 then shW a word rest j else 0) = if j < i then shW a word rest j else 0 := by
  by_cases hj : j = i
  · subst hj; simp [h]
  · by_cases h' : j < i
    · simp [h', show j < i + 1 by omega]
    · simp [h', show ¬ j < i + 1 by omega]
theorem sh_step (a : Nat) (word : Int) (rest i j x : Nat) (h : shW a word rest i = x) : (if j < i + 1 then shW a word rest j else 0) = if j = i then x else if j < i then shW a word rest j else 0 := by
  by_cases hj : j = i
  · subst hj; simp [h]
  · by_cases h' : j < i
    · simp [hj, h', show j < i + 1 by omega]
    · simp [hj, h', show ¬ j < i + 1 by omega]
theorem sh_step2 (a : Nat) (word : Int) (rest i j x y : Nat) (h : shW a word rest i = x) : (if j < i + 1 then shW a word rest j else 0) = if j = i then x else if j = i then y else if j < i then shW a word rest j else 0 := by
  rw [sh_step a word rest i j x h]
  by_cases hj : j = i <;> simp [hj]
set_option maxHeartbeats 4000000 in
theorem shift_any {a : Nat} (ha : a < M256) (n : Int) (hn0 : -9223372036854775808 ≤ n) (hn1 : n ≤ 9223372036854775807) (w : World) :
    Calls Try.prog 24 #[numV a, .int .i64 n] w fun e w' => e = .returned (numV (shiftN a n)) ∧ Below w.heap.size w w' := by
  by_cases h : n ≤ -256 ∨ 256 ≤ n
  · exact shift_far ha n h w
  have h1 : -256 < n := by omega
  have h2 : n < 256 := by omega
  clear h
  obtain ⟨word, rest, hw0, hw1, hr, hn, hcase⟩ : ∃ (word : Int) (rest : Nat), -5 ≤ word ∧ word ≤ 3 ∧ rest < 64 ∧ Hid (n = 64 * word + rest) ∧ (n.tmod 64 < 0 ∧ Hid (n.tdiv 64 - 1 = word ∧ n.tmod 64 + 64 = rest) ∨ 0 ≤ n.tmod 64 ∧ Hid (n.tdiv 64 = word ∧ n.tmod 64 = rest)) := by
    have e := Int.mul_tdiv_add_tmod n 64
    have l1 : n.tmod 64 < 64 := Int.tmod_lt_of_pos n (by omega)
    have l2 : -64 < n.tmod 64 := by have := Int.lt_tmod_of_pos n (show (0 : Int) < 64 by omega); omega
    by_cases ht : n.tmod 64 < 0
    · exact ⟨n.tdiv 64 - 1, (n.tmod 64 + 64).toNat, by omega, by omega, by omega, Lib.hid (by omega), .inl ⟨ht, Lib.hid ⟨rfl, by omega⟩⟩⟩
    · exact ⟨n.tdiv 64, (n.tmod 64).toNat, by omega, by omega, by omega, Lib.hid (by omega), .inr ⟨by omega, Lib.hid ⟨rfl, by omega⟩⟩⟩
  have Ha := Lib.hid ha
  have hst := start2 w (dgt W64 a)
  have HST := Lib.hid hst
  clear hn0 hn1 ha hst
  have tm0 := Int.mul_tdiv_add_tmod n 64
  have tm1 : -64 < n.tmod 64 := by have := Int.lt_tmod_of_pos n (show (0 : Int) < 64 by omega); omega
  have tm2 : n.tmod 64 < 64 := Int.tmod_lt_of_pos n (by omega)
  have tq1 : -4 ≤ n.tdiv 64 := by omega
  have tq2 : n.tdiv 64 ≤ 4 := by omega
  clear tm0
  unfold numV words
  rcases hcase with ⟨ht, HE⟩ | ⟨ht, HE⟩
  all_goals
    go_enter Try.func24, Try.ntmps24
    go_wp2
    rw [HE.out.1, HE.out.2]
    clear tq1 tq2 tm1 tm2 ht
    have hr0 : 0 ≤ (rest : Int) := by omega
    have hr1 : (rest : Int) < 64 := by omega
    go_loopw [27] (fun i wr => ∃ i' : Nat, i' ≤ 4 ∧ i = .int .i64 i' ∧ WAt wr w.heap.size (dgt W64 a) ∧ WAt wr (w.heap.size + 1) (fun j => if j < i' then shW a word rest j else 0) ∧ Free4 wr (w.heap.size + 1) ∧ Below w.heap.size w wr) (fun i _ => 4 - (intOf i).toNat)
    case atStart => exact ⟨0, by omega, rfl, (HST.out _ _).1, (HST.out _ _).2.1, (HST.out _ _).2.2.1, (HST.out _ _).2.2.2⟩
    case round =>
      obtain ⟨i, hi, rfl, hA, hO, hF, hB⟩ := hrel
      by_cases hlt : i < 4
      · have oi := hO i hlt
        simp only [Nat.lt_irrefl, if_false] at oi
        have fi := hF i hlt
        have HA := Lib.hid hA
        have HO := Lib.hid hO
        have HF := Lib.hid hF
        have HB := Lib.hid hB
        clear hA hO hF hB
        have hk : (i : Int) - word < 0 ∨ (i : Int) - word = 0 ∨ (1 ≤ (i : Int) - word ∧ (i : Int) - word < 4) ∨ (i : Int) - word = 4 ∨ 5 ≤ (i : Int) - word := by omega
        rcases hk with hk | hk | hk | hk | hk
        · have hv := shW_none a word rest i (.inl hk)
          have HV := Lib.hid hv
          clear hv
          go_wp2
          go_roundw
          case rel => exact ⟨i + 1, by omega, by go_num, HA.out, HO.out.congr fun j hj => (sh_keep a word rest i j HV.out).symm, HF.out, HB.out⟩
          case measure => simp [intOf]; omega
        · have k0 : 0 ≤ (i : Int) - word := by omega
          have k3 : (i : Int) - word < 4 := by omega
          have k4 : (i : Int) - word - 1 < 0 := by omega
          have ca := HA.out ((i : Int) - word).toNat (by omega)
          have hv := shW_low a word rest i k0 k3 k4
          have HV := Lib.hid hv
          clear hk hv
          go_wp2
          go_region
          go_wp2
          go_roundw
          case rel => exact ⟨i + 1, by omega, by go_num, HA.out.other _ _ (by omega), (HO.out.setI i _ _ (valA _ _ (by omega))).congr fun j hj => (sh_step a word rest i j _ HV.out).symm, HF.out.set _ _, (HB.out.setCell (Nat.le_succ _) _).drew⟩
          case measure => simp [intOf]; omega
        · have k1 := hk.1
          have k2 := hk.2
          have k3 : 0 ≤ (i : Int) - word := by omega
          have ca := HA.out ((i : Int) - word).toNat (by omega)
          have cb := HA.out (((i : Int) - word).toNat - 1) (by omega)
          have hv := shW_both a word rest i k1 k2
          have HV := Lib.hid hv
          clear hk hv
          go_wp2
          go_region
          go_wp2
          go_region
          go_wp2
          go_roundw
          case rel => exact ⟨i + 1, by omega, by go_num, (HA.out.other _ _ (by omega)).other _ _ (by omega), ((HO.out.setI i _ _ (valA _ _ (by omega))).setI i _ _ (valAB _ _ _ (by omega) (dgtW_lt a _))).congr fun j hj => (sh_step2 a word rest i j _ _ HV.out).symm, (HF.out.set _ _).set _ _, ((HB.out.setCell (Nat.le_succ _) _).setCell (Nat.le_succ _) _).drew.drew⟩
          case measure => simp [intOf]; omega
        · have k1 : 4 ≤ (i : Int) - word := by omega
          have k2 : (i : Int) - word - 1 < 4 := by omega
          have k3 : 0 ≤ (i : Int) - word - 1 := by omega
          have cb := HA.out (((i : Int) - word).toNat - 1) (by omega)
          have hv := shW_high a word rest i k1 k2
          have HV := Lib.hid hv
          clear hk hv
          go_wp2
          go_region
          go_wp2
          go_roundw
          case rel => exact ⟨i + 1, by omega, by go_num, HA.out.other _ _ (by omega), (HO.out.setI i _ _ (valB _ _ (dgtW_lt a _))).congr fun j hj => (sh_step a word rest i j _ HV.out).symm, HF.out.set _ _, (HB.out.setCell (Nat.le_succ _) _).drew⟩
          case measure => simp [intOf]; omega
        · have hv := shW_none a word rest i (.inr hk)
          have HV := Lib.hid hv
          have k4 : 4 ≤ (i : Int) - word - 1 := by omega
          clear hv
          go_wp2
          go_roundw
          case rel => exact ⟨i + 1, by omega, by go_num, HA.out, HO.out.congr fun j hj => (sh_keep a word rest i j HV.out).symm, HF.out, HB.out⟩
          case measure => simp [intOf]; omega
      · obtain rfl : i = 4 := by omega
        clear hlt
        have s0 := hO 0 (by omega)
        have s1 := hO 1 (by omega)
        have s2 := hO 2 (by omega)
        have s3 := hO 3 (by omega)
        have f0 := hF 0 (by omega)
        have f1 := hF 1 (by omega)
        have f2 := hF 2 (by omega)
        have f3 := hF 3 (by omega)
        simp only [show (0 : Nat) < 4 from by omega, show (1 : Nat) < 4 from by omega, show (2 : Nat) < 4 from by omega, show (3 : Nat) < 4 from by omega, if_true] at s0 s1 s2 s3
        have HB := Lib.hid hB
        clear hA hO hF hB
        go_wp2
        refine bodyPost_ret (v := words (shW a word rest)) (by simp [results, Try.results24, go_sem, words, s0, s1, s2, s3]) rfl ⟨?_, ?_⟩
        · exact congrArg Ending.returned (words_congr fun j hj => shift_word Ha.out word rest hr n hn.out j hj)
        · exact (((HB.out.setCell (Nat.le_succ _) _).setCell (Nat.le_succ _) _).setCell (Nat.le_succ _) _).setCell (Nat.le_succ _) _
end Go.Proofs.Ytdhkkigijcggmaa
