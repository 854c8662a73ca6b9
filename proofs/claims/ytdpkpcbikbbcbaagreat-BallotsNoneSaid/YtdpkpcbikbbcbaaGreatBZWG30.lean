/- Layer 7 (primes) -/
import Derived.Test.YtdpkpcbikbbcbaaGreatBZWG04
import Derived.Deep.DeepCutAuto
set_option linter.unusedSimpArgs false
set_option linter.unusedVariables false
set_option maxHeartbeats 2000000
set_option maxRecDepth 20000
namespace Go.Proofs.YtdpkpcbikbbcbaaGreat
open Go.ChangeShapes Go.WideShapes Go.ChangeAt Go.RowKit
theorem small_no {n : Nat} (hn : n < 2 ∨ 4294967296 ≤ n) (hn9 : n < 18446744073709551616) (w : World) : Calls Tryz.prog 41 #[.int .u64 n] w fun e w' => e = .returned (.bool false) ∧ w' = w := by
 by_cases h2 : n < 2
 ·have hI : (n : Int) < 2 := by omega
  clear hn h2
  go_enter Tryz.func41, Tryz.ntmps41
  go_wp2
  go_step3
  go_wp2
  try rw [Exit.noGoto_ret]
  go_ret
  exact ⟨rfl, rfl⟩
 ·have hI : ¬ (n : Int) < 2 := by omega
  obtain ⟨t, ht⟩ := je (n / 4294967296); have htI : (n : Int) / 4294967296 = (t : Int) := by omega
  have htp : (0 : Int) < (t : Int) := by omega
  clear hn h2 ht
  go_enter Tryz.func41, Tryz.ntmps41
  go_wp2
  go_step3
  go_wp2
  try rw [Exit.noGoto_ret]
  go_ret
  exact ⟨rfl, rfl⟩
theorem small_yes {n : Nat} (h2 : 2 ≤ n) (h32 : n < 4294967296) (w : World) : Calls Tryz.prog 41 #[.int .u64 n] w fun e w' => ∃ b, e = .returned (.bool b) ∧ (b = true ↔ ZK n) ∧ w' = w := by
 have hI : ¬ (n : Int) < 2 := by omega
 have htI : (n : Int) / 4294967296 = 0 := by omega
 go_enter Tryz.func41, Tryz.ntmps41
 go_wp2
 go_step3
 go_wp2
 go_step3
 go_wp2
 go_loopw [3, 4] (fun t i wr => ∃ d : Nat, (2 ≤ d ∧ d ≤ 65536) ∧ t = .bool true ∧ i = .int .u64 d ∧ Hid (∀ e, 2 ≤ e → e < d → n % e ≠ 0) ∧ wr = w) (fun _ i _ => 65536 - (intOf i).toNat)
 case atStart => exact ⟨2, ⟨by omega, by omega⟩, rfl, rfl, jh (fun e h1 h2 => by omega), rfl⟩
 case round =>
  obtain ⟨d, ⟨hd2, hd6⟩, rfl, rfl, HD, hwr⟩ := hrel; subst hwr; obtain ⟨s, hs⟩ := je (d * d); have hsI : (d : Int) * (d : Int) = (s : Int) := by rw [hs]; simp
  have hsb : s ≤ 4294967296 := by rw [hs]; exact Nat.mul_le_mul hd6 hd6
  have HS := jh hs
  by_cases hle : s ≤ n
  ·have hleI : (s : Int) ≤ (n : Int) := by omega
   have hd5 : d < 65536 := by
    rcases Nat.lt_or_ge d 65536 with h | h
    ·exact h
    ·have h9 := Nat.mul_le_mul h h; omega
   obtain ⟨r, hr⟩ := je (n % d); have hrI : (n : Int) % (d : Int) = (r : Int) := by rw [hr]; simp
   have hd0 : ¬ (d : Int) = 0 := by omega
   have HR := jh hr; have HLE := jh hle; clear hr hs hle
   by_cases hz : r = 0
   ·have HZ := jh hz; have hzI : (r : Int) = 0 := by omega
    clear hz
    go_wp2_with fail
    try rw [Exit.noGoto_ret]
    go_ret
    exact ⟨_, rfl, ⟨(fun h => by cases h), fun h => absurd (HR.out.symm.trans HZ.out) (h.2 d hd2 (by rw [← HS.out]; exact HLE.out))⟩, rfl⟩
   ·have HZ := jh hz; have hzI : ¬ (r : Int) = 0 := by omega
    clear hz
    go_wp2_with fail
    go_roundw
    case rel => exact ⟨d + 1, ⟨by omega, by omega⟩, rfl, by go_num, jh (fun e h1 h2 => by
     rcases Nat.lt_or_ge e d with h | h
     ·exact HD.out e h1 h
     ·obtain rfl : e = d := by omega
      rw [← HR.out]
      exact HZ.out), trivial⟩
    case measure => simp [intOf]; omega
  ·have hleI : ¬ (s : Int) ≤ (n : Int) := by omega
   have HLE := jh hle; clear hs hle
   go_wp2_with fail
   try rw [Exit.noGoto_ret]
   go_ret
   exact ⟨_, rfl, ⟨fun _ => ⟨h2, fun e h1 h3 => HD.out e h1 (by
    rcases Nat.lt_or_ge e d with h | h
    ·exact h
    ·have h9 := Nat.mul_le_mul h h; have := HS.out; have := HLE.out
     omega)⟩, fun _ => rfl⟩, rfl⟩
theorem Small_any {n : Nat} (hn9 : n < 18446744073709551616) (w : World) : Calls Tryz.prog 41 #[.int .u64 n] w fun e w' => ∃ b, e = .returned (.bool b) ∧ (b = true ↔ ZK n ∧ n < 4294967296) ∧ w' = w := by
 by_cases h2 : 2 ≤ n
 ·by_cases h32 : n < 4294967296
  ·exact (small_yes h2 h32 w).mono fun _ _ ⟨b, h1, h3, h4⟩ => ⟨b, h1, h3.trans ⟨fun h => ⟨h, h32⟩, fun h => h.1⟩, h4⟩
  ·exact (small_no (Or.inr (by omega)) hn9 w).mono fun _ _ ⟨h1, h3⟩ => ⟨false, h1, ⟨(fun h => by cases h), fun h => absurd h.2 h32⟩, h3⟩
 ·exact (small_no (Or.inl (by omega)) hn9 w).mono fun _ _ ⟨h1, h3⟩ => ⟨false, h1, ⟨(fun h => by cases h), fun h => absurd h.1.1 h2⟩, h3⟩
end Go.Proofs.YtdpkpcbikbbcbaaGreat
