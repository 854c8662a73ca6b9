/- The reference's Get, GetLong. -/
import Derived.Test.YtplhfbflgjnjmaaGreatDoorTwin
namespace Go.Proofs.YtplhfbflgjnjmaaGreatDoor
open Go.ChangeShapes Go.WideShapes Go.ChangeAt Go.RowKit

set_option maxRecDepth 20000 in
set_option maxHeartbeats 1500000 in
theorem RGet_any {b : List Nat} {v : Value} (w : World) (hv : KAt .u8 w v b) (hb : Bytes b) (m : Nat) (h1 : 1 ≤ m) (h8 : m ≤ 8) (hm : m ≤ b.length) :
    Calls Tryz.prog 8 #[v, .int .i64 m] w fun e w' => e = .returned (.tuple #[.int .u64 (num (b.take m)), .int .i64 0]) ∧ w = w' := by
  obtain ⟨ao, cap, rfl, hc1, hc2, hc3, hc4⟩ := hv
  obtain ⟨g, o, rfl, hc5⟩ := hc4 (by omega)
  have HC := Lib.hid hc5
  have HB := Lib.hid hb
  have hm1 := hc2
  unfold maxLen at hm1
  clear hc4 hc5 hc3 hb
  have hd1 : decide (b.length < m) = false := by simpa using hm
  go_enter Tryz.func8, Tryz.ntmps8
  go_wp2
  go_loop [6, 7] (fun n i => ∃ i' : Nat, i' ≤ m ∧ i = .int .i64 i' ∧ n = .int .u64 (num (b.take i'))) (fun _ i => m - (intOf i).toNat)
  case atStart => exact ⟨0, Nat.zero_le _, rfl, by simp [num]⟩
  case round =>
    obtain ⟨i, hi, rfl, rfl⟩ := hrel
    by_cases hlt : i < m
    · obtain ⟨x, hx⟩ : ∃ x, b[i]? = some x := ⟨_, List.getElem?_eq_getElem (by omega)⟩
      have hcell := HC.out i x hx
      have HX := Lib.hid hx
      have hx8 : x < 256 := HB.out x (List.mem_of_getElem? hx)
      obtain ⟨n, hn⟩ : ∃ n, Hid (num (b.take i) = n) := ⟨_, Lib.hid rfl⟩
      rw [hn.out]
      have hnl : n < 72057594037927936 := by
        have h2 := num_lt i (b.take i) (by simp; omega) (fun y hy => HB.out y (List.take_subset _ _ hy))
        have h3 : 256 ^ i ≤ 256 ^ 7 := Nat.pow_le_pow_right (by omega) (by omega)
        rw [hn.out] at h2
        omega
      clear hx
      go_wp2
      go_round
      case rel => exact ⟨i + 1, by omega, by go_num, by rw [show num (b.take (i + 1)) = n * 256 + x by rw [List.take_add_one, HX.out, ← hn.out]; exact num_snoc _ _]; go_num⟩
      case measure => simp [intOf]; omega
    · obtain rfl : i = m := by omega
      go_wp2
      go_ret2
      exact ⟨rfl, rfl⟩

set_option maxRecDepth 20000 in
set_option maxHeartbeats 1500000 in
theorem RGet_get {b : List Nat} {v : Value} (w : World) (hv : KAt .u8 w v b) (hb : Bytes b) (bytes : Int) :
    Calls Tryz.prog 8 #[v, .int .i64 bytes] w fun e w' => e = .returned (.tuple #[.int .u64 (getR b bytes).1, .int .i64 (getR b bytes).2]) ∧ w = w' := by
  by_cases h0 : bytes < 0
  · have e : getR b bytes = (0, 1) := by unfold getR; rw [if_pos (.inl h0)]
    rw [e]
    clear hv e
    go_enter Tryz.func8, Tryz.ntmps8
    go_wp2
    go_ret2
    exact ⟨rfl, rfl⟩
  by_cases h8 : 8 < bytes
  · have e : getR b bytes = (0, 1) := by unfold getR; rw [if_pos (.inr h8)]
    rw [e]
    clear hv e
    have h0' : 0 ≤ bytes := by omega
    clear h0
    go_enter Tryz.func8, Tryz.ntmps8
    go_wp2
    go_ret2
    exact ⟨rfl, rfl⟩
  obtain ⟨m, rfl⟩ : ∃ m : Nat, bytes = m := ⟨bytes.toNat, by omega⟩
  have hm8 : m ≤ 8 := by omega
  clear h0 h8
  by_cases hm : b.length < m
  · have e : getR b m = (0, 5) := by unfold getR; rw [if_neg (by omega), if_pos (by omega)]
    rw [e]
    obtain ⟨ao, cap, rfl, hc1, hc2, hc3, hc4⟩ := hv
    unfold maxLen at hc2
    clear hc3 hc4 e
    go_enter Tryz.func8, Tryz.ntmps8
    go_wp2
    go_ret2
    exact ⟨rfl, rfl⟩
  have e : getR b m = (num (b.take m), 0) := by unfold getR; rw [if_neg (by omega), if_neg (by omega)]; simp
  rw [e]
  by_cases h1 : 1 ≤ m
  · exact RGet_any w hv hb m h1 hm8 (by omega)
  · obtain rfl : m = 0 := by omega
    obtain ⟨ao, cap, rfl, hc1, hc2, hc3, hc4⟩ := hv
    unfold maxLen at hc2
    clear hc3 hc4 e
    go_enter Tryz.func8, Tryz.ntmps8
    go_wp2
    refine wp_loop_rounds 1 ?_
    rw [rounds_succ]
    go_wp2
    go_ret2
    exact ⟨by simp [num], rfl⟩

set_option maxRecDepth 20000 in
set_option maxHeartbeats 3000000 in
theorem RGetLong_any {b : List Nat} {v : Value} (w : World) (hv : KAt .u8 w v b) (hb : Bytes b) (hl : 32 ≤ b.length) :
    Calls Tryz.prog 10 #[v] w fun e w' => e = .returned (.tuple #[.agg #[.int .u64 (wordAt b 3), .int .u64 (wordAt b 2), .int .u64 (wordAt b 1), .int .u64 (wordAt b 0)], .int .i64 0]) ∧ Below w.heap.size w w' := by
  obtain ⟨ao, cap, rfl, hc1, hc2, hc3, hc4⟩ := hv
  obtain ⟨g, o, rfl, hc5⟩ := hc4 (by omega)
  have hm1 := hc2
  unfold maxLen at hm1
  have HG := Lib.hid (fun (i : Nat) (hi : i < 4) (x : Nat) (hx : wordAt b i = x) (v' : Value) (hv' : v' = .slice (some ⟨g, o + 8 * i, none⟩) (b.length - 8 * i) (cap - 8 * i)) (w1 : World) (hb1 : Below w.heap.size w w1) =>
    (show Calls Tryz.prog 8 #[v', .int .i64 8] w1 fun e w' => e = .returned (.tuple #[.int .u64 x, .int .i64 0]) ∧ w1 = w' from by
      subst hv' hx
      have h := RGet_any (m := 8) w1 ((KAt.drop hc5 hc1 hc2 (8 * i) (by omega)).later hb1) (fun y hy => hb y (List.drop_subset _ _ hy)) (by omega) (by omega) (by simp; omega)
      exact h))
  clear hc4 hc5 hc3 hb hc2
  obtain ⟨y0, e0⟩ : ∃ y, Hid (wordAt b 0 = y) := ⟨_, Lib.hid rfl⟩
  obtain ⟨y1, e1⟩ : ∃ y, Hid (wordAt b 1 = y) := ⟨_, Lib.hid rfl⟩
  obtain ⟨y2, e2⟩ : ∃ y, Hid (wordAt b 2 = y) := ⟨_, Lib.hid rfl⟩
  obtain ⟨y3, e3⟩ : ∃ y, Hid (wordAt b 3 = y) := ⟨_, Lib.hid rfl⟩
  rw [e0.out, e1.out, e2.out, e3.out]
  go_enter Tryz.func10, Tryz.ntmps10
  go_wp2
  refine wp_loop_rounds 5 ?_
  rw [rounds_succ]
  go_wp2_with fail
  refine (HG.out 0 (by omega) y0 e0.out _ (by simp) _ (by repeat (first | exact Below.refl _ _ | refine Below.alloc ?_ (by simp) _))).mono ?_
  rintro e w1 ⟨rfl, rfl⟩
  go_wp2_with fail
  rw [rounds_succ]
  go_wp2_with fail
  refine (HG.out 1 (by omega) y1 e1.out _ (by simp) _ (by repeat (first | exact Below.refl _ _ | refine Below.alloc ?_ (by simp) _))).mono ?_
  rintro e w2 ⟨rfl, rfl⟩
  go_wp2_with fail
  rw [rounds_succ]
  go_wp2_with fail
  refine (HG.out 2 (by omega) y2 e2.out _ (by simp) _ (by repeat (first | exact Below.refl _ _ | refine Below.alloc ?_ (by simp) _))).mono ?_
  rintro e w3 ⟨rfl, rfl⟩
  go_wp2_with fail
  rw [rounds_succ]
  go_wp2_with fail
  refine (HG.out 3 (by omega) y3 e3.out _ (by simp) _ (by repeat (first | exact Below.refl _ _ | refine Below.alloc ?_ (by simp) _))).mono ?_
  rintro e w4 ⟨rfl, rfl⟩
  go_wp2_with fail
  rw [rounds_succ]
  go_wp2_with fail
  exact bodyPost_ret (v := .tuple #[.agg #[.int .u64 y3, .int .u64 y2, .int .u64 y1, .int .u64 y0], .int .i64 0]) (by simp [results, Tryz.results10, go_sem]) rfl ⟨rfl, by repeat (first | exact Below.refl _ _ | refine Below.alloc ?_ (by simp) _)⟩
set_option maxRecDepth 20000 in
set_option maxHeartbeats 1500000 in
theorem RGetLong_short {b : List Nat} {v : Value} (w : World) (hv : KAt .u8 w v b) (hl : b.length < 32) :
    Calls Tryz.prog 10 #[v] w fun e w' => e = .returned (.tuple #[.agg #[.int .u64 0, .int .u64 0, .int .u64 0, .int .u64 0], .int .i64 5]) ∧ Below w.heap.size w w' := by
  obtain ⟨ao, cap, rfl, hc1, hc2, hc3, hc4⟩ := hv
  unfold maxLen at hc2
  clear hc3 hc4
  go_enter Tryz.func10, Tryz.ntmps10
  go_wp2
  exact bodyPost_ret (v := .tuple #[.agg #[.int .u64 0, .int .u64 0, .int .u64 0, .int .u64 0], .int .i64 5]) (by simp [results, Tryz.results10, go_sem]) rfl ⟨rfl, by repeat (first | exact Below.refl _ _ | refine Below.alloc ?_ (by simp) _)⟩
end Go.Proofs.YtplhfbflgjnjmaaGreatDoor
