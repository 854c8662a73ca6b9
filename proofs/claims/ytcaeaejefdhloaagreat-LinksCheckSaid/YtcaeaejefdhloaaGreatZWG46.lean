/- Layer 13's reference, in plain words -/
import Derived.Test.YtcaeaejefdhloaaGreatZWG39
namespace Go.Proofs.YtcaeaejefdhloaaGreat
theorem ref_back {gp gq gg key c s : Nat} (hk : Zx gp gq key) (hc : c < gq) : (gg ^ s % gp) * (key ^ (if c = 0 then gq else gq - c) % gp) % gp = backR gp gq gg key c s := by
 have hp : 1 < gp := hk.1.1
 have e : key ^ ((0 + gq - c) % gq) % gp = key ^ (if c = 0 then gq else gq - c) % gp := by
  by_cases h0 : c = 0
  ·rw [if_pos h0, h0, Nat.zero_add, Nat.sub_zero, Nat.mod_self, Nat.pow_zero, Nat.mod_eq_of_lt hp, hk.2]
  ·rw [if_neg h0, Nat.zero_add, Nat.mod_eq_of_lt (show gq - c < gq by omega)]
 unfold backR; rw [show (2 : Nat) = 0 + 1 + 1 from rfl, JW (by simp) (by simp), JW (by simp) (by simp)]; have e0 : JL gp [gg, key] [s, (0 + gq - c) % gq] 0 = 1 := rfl; rw [e0, Nat.one_mul]; simp only [List.getD_cons_zero, List.getD_cons_succ, Nat.zero_add]; rw [Nat.mod_mod]; simp only [Nat.zero_add] at e; rw [e]
end Go.Proofs.YtcaeaejefdhloaaGreat
