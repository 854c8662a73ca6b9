/- Layer 1 (nums) -/
import Derived.Test.YtmijablfjigbhaaGreatDoorSZVG04
import Derived.Laws.BitsAllLaws
set_option maxHeartbeats 1500000
set_option maxRecDepth 20000
namespace Go.Proofs.YtmijablfjigbhaaGreatDoor
open Go.ChangeShapes Go.WideShapes Go.ChangeAt Go.RowKit
theorem or_byte {n c : Nat} (hn : n < 72057594037927936) (hc : c < 256) : bits BinOp.or IntKind.u64 ((n : Int) * 256) (c : Int) = ((n * 256 + c : Nat) : Int) := by
 rw [show (n : Int) * 256 = ((n * 256 : Nat) : Int) by simp, u64_or_nat (n * 256) c (by omega) (by omega)]; have h := Nat.shiftLeft_add_eq_or_of_lt (show c < 2 ^ 8 from hc) n; rw [Nat.shiftLeft_eq] at h; rw [← h]
theorem Get_any {b : List Nat} {v : Value} (w : World) (hv : J6 .u8 w v b) (hb : jM b) (m : Nat) (h1 : 1 ≤ m) (h8 : m ≤ 8) (hm : m ≤ b.length) :
  Calls Tryz.prog 164 #[v, .int .i64 m] w fun e w' => e = .returned (.tuple #[.int .u64 (ZH (b.take m)), .int .i64 0]) ∧ w = w' := by
 obtain ⟨ao, cap, rfl, hc1, hc2, hc3, hc4⟩ := hv; obtain ⟨g, o, rfl, hc5⟩ := hc4 (by omega); have HC := jh hc5; have HB := jh hb; have hm1 := hc2; unfold maxLen at hm1; clear hc4 hc5 hc3 hb; have hd1 : decide (b.length < m) = false := by simpa using hm
 go_enter Tryz.func164, Tryz.ntmps164
 go_wp2
 go_loop [4, 24] (fun n i => ∃ i' : Nat, i' ≤ m ∧ i = .int .i64 i' ∧ n = .int .u64 (ZH (b.take i'))) (fun _ i => m - (intOf i).toNat)
 case atStart => exact ⟨0, Nat.zero_le _, rfl, by simp [ZH]⟩
 case round =>
  obtain ⟨i, hi, rfl, rfl⟩ := hrel
  by_cases hlt : i < m
  ·obtain ⟨x, hx⟩ : ∃ x, b[i]? = some x := ⟨_, List.getElem?_eq_getElem (by omega)⟩; have hcell := HC.out i x hx; have HX := jh hx; have hx8 : x < 256 := HB.out x (List.mem_of_getElem? hx); obtain ⟨n, hn⟩ : ∃ n, Hid (ZH (b.take i) = n) := ⟨_, jh rfl⟩; rw [hn.out]
   have hnl : n < 72057594037927936 := by
    have h2 := pI i (b.take i) (by simp; omega) (fun y hy => HB.out y (List.take_subset _ _ hy)); have h3 : 256 ^ i ≤ 256 ^ 7 := Nat.pow_le_pow_right (by omega) (by omega); rw [hn.out] at h2; omega
   have hor := or_byte hnl hx8; clear hx
   go_wp2
   go_round
   case rel => exact ⟨i + 1, by omega, by go_num, by rw [show ZH (b.take (i + 1)) = n * 256 + x by rw [List.take_add_one, HX.out, ← hn.out]; exact oI _ _]; go_num⟩
   case measure => simp [intOf]; omega
  ·obtain rfl : i = m := by omega
   go_wp2
   go_ret2
   exact ⟨rfl, rfl⟩
end Go.Proofs.YtmijablfjigbhaaGreatDoor
