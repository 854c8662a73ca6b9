/- Layer 5 (shas) -/
import Derived.Test.YtmijablfjigbhaaGreatDoorSZVG04
import Derived.Laws.BitsAllLaws
set_option maxHeartbeats 1500000
set_option maxRecDepth 20000
namespace Go.Proofs.YtmijablfjigbhaaGreatDoor
open Go.ChangeShapes Go.WideShapes Go.ChangeAt Go.RowKit
theorem rot_or {x k : Nat} (hx : x < 2 ^ 32) (hk : k ≤ 32) : bits BinOp.or IntKind.u32 (((x % 2 ^ k * 2 ^ (32 - k) : Nat) : Int)) (((x / 2 ^ k : Nat) : Int)) = ((Je x k : Nat) : Int) := by
 have h1 : x / 2 ^ k < 2 ^ (32 - k) := by
  rw [Nat.div_lt_iff_lt_mul (Nat.two_pow_pos k), ← Nat.pow_add, show 32 - k + k = 32 by omega]; exact hx
 have h0 := zK hx hk; unfold Je at h0 ⊢; have h9 := Nat.div_le_self x (2 ^ k); rw [u32_or_nat _ _ (Nat.lt_of_le_of_lt (Nat.le_add_left _ _) h0) (by omega)]; have h := Nat.shiftLeft_add_eq_or_of_lt h1 (x % 2 ^ k); rw [Nat.shiftLeft_eq] at h; rw [← h, Nat.add_comm]
theorem LZ {x k : Nat} (hx : x < 2 ^ 32) (h1 : 1 ≤ k) (hk : k ≤ 31) (w : World) :
  Calls Tryz.prog 233 #[.int .u32 x, .int .i64 (-(k : Int))] w fun e w' => e = .returned (.int .u32 (Je x k)) ∧ w = w' := by
 obtain ⟨j, hj⟩ : ∃ j, j + k = 32 := ⟨32 - k, by omega⟩; have e1 : IntKind.u64.wrap (-(k : Int)) = ((18446744073709551616 - k : Nat) : Int) := by simp [IntKind.wrap, IntKind.bits, IntKind.signed]; omega
 have e2 : bits BinOp.and IntKind.u64 ((18446744073709551616 - k : Nat) : Int) 31 = (j : Int) := by
  have h := u64_and_nat (18446744073709551616 - k) 31 (by omega) (by omega); rw [show ((31 : Nat) : Int) = 31 from rfl] at h; rw [h, show (31 : Nat) = 2 ^ 5 - 1 from rfl, Nat.and_two_pow_sub_one_eq_mod]; omega
 have e3 : x * 2 ^ j % 4294967296 = x % 2 ^ k * 2 ^ (32 - k) := by
  rw [show (4294967296 : Nat) = 2 ^ k * 2 ^ j by rw [← Nat.pow_add, Nat.add_comm, hj], Nat.mul_mod_mul_right, show 32 - k = j by omega]
 have e4 : (32 : Int) - (j : Int) = (k : Int) := by omega
 have e5 := rot_or hx (show k ≤ 32 by omega); rw [← e3] at e5; have E5 := jh e5; clear e3 e5 hj
 go_enter Tryz.func233, Tryz.ntmps233
 go_wp2
 go_ret
 exact ⟨by have h := E5.out; simp only [Int.natCast_emod, Int.natCast_mul, Int.natCast_pow, Int.natCast_ediv] at h; exact congrArg (fun n : Int => Ending.returned (.int .u32 n)) h, rfl⟩
theorem mix_any {x : Nat} {ks : List Nat} {v : Value} (hx : x < 2 ^ 32) (hks : ∀ k ∈ ks, 1 ≤ k ∧ k ≤ 31) (w : World) (hv : J6 .i64 w v ks) :
  Calls Tryz.prog 229 #[.int .u32 x, v] w fun e w' => e = .returned (.int .u32 (JN x ks)) ∧ w' = w := by
 obtain ⟨ao, cap, rfl, hc1, hc2, hc3, hc4⟩ := hv; have HC := jh hc4; have HK := jh hks; have HX := jh hx; have hm1 := hc2; unfold maxLen at hm1; clear hc4 hc3 hks hx
 go_enter Tryz.func229, Tryz.ntmps229
 go_wp2
 go_loopw [4, 9] (fun o i wr => ∃ i' : Nat, i' ≤ ks.length ∧ i = .int .i64 i' ∧ o = .int .u32 (JN x (ks.take i')) ∧ wr = w) (fun _ i _ => ks.length - (intOf i).toNat)
 case atStart => exact ⟨0, Nat.zero_le _, rfl, by simp [JN], rfl⟩
 case round =>
  obtain ⟨i, hi, rfl, rfl, hwr⟩ := hrel; subst hwr
  by_cases hlt : i < ks.length
  ·obtain ⟨k, hk⟩ : ∃ k, ks[i]? = some k := ⟨_, List.getElem?_eq_getElem hlt⟩; obtain ⟨g, o, rfl, hc5⟩ := HC.out (by omega); have hcell := hc5 i k hk; have h9 := HK.out k (List.mem_of_getElem? hk); have CR := jh (fun w => LZ (x := x) (k := k) HX.out h9.1 h9.2 w); obtain ⟨m, hm⟩ : ∃ m, Hid (JN x (ks.take i) = m) := ⟨_, jh rfl⟩; rw [hm.out]; have hxor := u32_xor_nat m (Je x k) (by rw [← hm.out]; exact ZZ HX.out (fun k hk => by have := HK.out k (List.take_subset _ _ hk); omega)) (zK HX.out (by omega)); have HXO := jh (show JN x (ks.take (i + 1)) = m ^^^ Je x k by rw [List.take_add_one, hk, ← hm.out]; exact XW _ _ _); have hng : wrap64 (-(k : Int)) = -(k : Int) := by unfold wrap64; omega
   clear hk hc5 h9
   go_wp2_with fail
   refine (CR.out _).mono ?_; rintro _ w2 ⟨rfl, hw2⟩; subst hw2
   go_wp2
   go_roundw
   case rel => exact ⟨i + 1, by omega, by go_num, by rw [HXO.out], trivial⟩
   case measure => simp [intOf]; omega
  ·obtain rfl : i = ks.length := by omega
   go_wp2
   go_ret
   exact ⟨by rw [List.take_length]; rfl, rfl⟩
end Go.Proofs.YtmijablfjigbhaaGreatDoor
