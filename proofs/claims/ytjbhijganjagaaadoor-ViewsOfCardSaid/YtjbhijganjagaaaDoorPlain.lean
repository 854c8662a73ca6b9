/- Layer 21 in plain numbers: no program in sight. -/
namespace Go.Proofs.YtjbhijganjagaaaDoor

/-- How many are some. -/
def someS (f : Int) : Int := if f < 0 ∨ 2 < f then 0 else f + 1
/-- Who leads. -/
def leadS (e v n : Int) : Int := if n < 1 ∨ 7 < n then 0 else 1 + (e % n + v % n) % n
/-- A quorum. -/
def quorS (n f : Int) : Int := if n < 1 ∨ 7 < n ∨ f < 0 ∨ 2 < f then 0 else (n + f) / 2 + 1
/-- Patience. -/
def patS (v : Int) : Int := if v = 0 then 8 else if v = 1 then 16 else if v = 2 then 32 else 64

theorem lead_in (e v n : Int) (h5 : 1 ≤ n) (h6 : n ≤ 7) : 1 ≤ leadS e v n ∧ leadS e v n ≤ n := by
  unfold leadS
  rw [if_neg (by omega)]
  have c1 := Int.emod_nonneg (e % n + v % n) (show n ≠ 0 by omega)
  have c2 := Int.emod_lt_of_pos (e % n + v % n) (show 0 < n by omega)
  omega

/-- The next epoch, the view ahead: the same leader. -/
theorem lead_next (e v n : Int) : leadS (e + 1) (v - 1) n = leadS e v n := by
  unfold leadS
  rw [← Int.add_emod, ← Int.add_emod, show e + 1 + (v - 1) = e + v by omega]

/-- How often j led in the first k views from v on. -/
def led (e v n : Int) : Nat → Int → Nat
  | 0, _ => 0
  | k + 1, j => led e v n k j + if leadS e (v + k) n = j then 1 else 0

theorem led_le (e v n : Int) (j : Int) : ∀ k, led e v n k j ≤ k
  | 0 => Nat.le_refl _
  | k + 1 => by
    have := led_le e v n j k
    unfold led
    split <;> omega

/-- The same, by what is left of the sum. -/
def ledR (s n : Nat) : Nat → Nat → Nat
  | 0, _ => 0
  | k + 1, j => ledR s n k j + if 1 + (s + k) % n = j then 1 else 0

theorem led_eq (e v : Int) (n : Nat) (h5 : 1 ≤ n) (h6 : n ≤ 7) (j : Nat) : ∀ k, led e v n k j = ledR ((e + v) % n).toNat n k j
  | 0 => rfl
  | k + 1 => by
    have ih := led_eq e v n h5 h6 j k
    unfold led ledR
    rw [ih]
    congr 1
    have c1 := Int.emod_nonneg (e + v) (show (n : Int) ≠ 0 by omega)
    have e1 : leadS e (v + k) n = ((1 + (((e + v) % n).toNat + k) % n : Nat) : Int) := by
      unfold leadS
      rw [if_neg (by omega), ← Int.add_emod, show e + (v + k) = (e + v) + k by omega, Int.add_emod]
      rw [Int.natCast_add, Int.natCast_emod, Int.natCast_add, Int.toNat_of_nonneg c1]
      have : (k : Int) % n = (k : Int) % n := rfl
      rw [Int.add_emod ((e + v) % ↑n) (k : Int), Int.emod_emod_of_dvd _ (Int.dvd_refl _)]
      rfl
    rw [e1]
    by_cases h : 1 + (((e + v) % n).toNat + k) % n = j
    · rw [if_pos h, if_pos (by rw [h])]
    · rw [if_neg h, if_neg (by omega)]

theorem ledR_all : ∀ n : Nat, n < 8 → 1 ≤ n → ∀ s : Nat, s < n → ∀ j : Nat, j < n + 1 → 1 ≤ j → ledR s n n j = 1 := by decide

theorem led_all (e v : Int) (n : Nat) (h5 : 1 ≤ n) (h6 : n ≤ 7) (j : Nat) (h1 : 1 ≤ j) (h2 : j ≤ n) : led e v n n j = 1 := by
  rw [led_eq e v n h5 h6]
  have c1 := Int.emod_nonneg (e + v) (show (n : Int) ≠ 0 by omega)
  have c2 := Int.emod_lt_of_pos (e + v) (show 0 < (n : Int) by omega)
  exact ledR_all n (by omega) h5 _ (by omega) j (by omega) h1
end Go.Proofs.YtjbhijganjagaaaDoor
