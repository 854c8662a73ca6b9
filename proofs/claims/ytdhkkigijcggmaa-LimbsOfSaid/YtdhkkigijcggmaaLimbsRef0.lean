/- Layer 2's reference: the plain laws: digits of 16 bits. -/
import Derived.Test.YtdhkkigijcggmaaLimbsPlain
import Derived.WalkKit
namespace Go.Proofs.Ytdhkkigijcggmaa
open Go

theorem D4 : (65536 : Nat) ^ 4 = W64 := by unfold W64; rfl
theorem dig_word (x i : Nat) : dgt W64 x (i / 4) / 2 ^ (16 * (i % 4)) % 65536 = dgt 65536 x i := by
  have e : dgt 65536 x i = x / W64 ^ (i / 4) / 65536 ^ (i % 4) % 65536 := by
    unfold dgt
    rw [Nat.div_div_eq_div_mul, ← D4, ← Nat.pow_mul, ← Nat.pow_add, show 4 * (i / 4) + i % 4 = i by omega]
  rw [e]
  unfold dgt
  generalize x / W64 ^ (i / 4) = y
  have hr : i % 4 = 0 ∨ i % 4 = 1 ∨ i % 4 = 2 ∨ i % 4 = 3 := by omega
  unfold W64
  rcases hr with h | h | h | h
  all_goals
    rw [h]
    simp only [Nat.reduceMul, Nat.reducePow]
    omega
theorem digD_lt (x j : Nat) : dgt 65536 x j < 65536 := dgt_lt (by omega) x j

/-! ### of -/
def ofW (d : Nat → Nat) (i q : Nat) : Nat := valn 65536 (min 4 (i - 4 * q)) (fun j => d (4 * q + j))
theorem ofW_zero (d : Nat → Nat) (q : Nat) : ofW d 0 q = 0 := by
  unfold ofW
  rw [show min 4 (0 - 4 * q) = 0 by omega]
  rfl
theorem pow16 (r : Nat) : 65536 ^ r = 2 ^ (16 * r) := by rw [Nat.pow_mul]
theorem ofW_step (d : Nat → Nat) (i q : Nat) : ofW d (i + 1) q = if q = i / 4 then ofW d i q + d i * 2 ^ (16 * (i % 4)) else ofW d i q := by
  unfold ofW
  by_cases h : q = i / 4
  · rw [if_pos h, show min 4 (i + 1 - 4 * q) = i % 4 + 1 by omega, show min 4 (i - 4 * q) = i % 4 by omega, ← pow16]
    show _ + d (4 * q + i % 4) * 65536 ^ (i % 4) = _
    rw [show 4 * q + i % 4 = i by omega]
  · rw [if_neg h]
    rcases Nat.lt_or_ge q (i / 4) with h1 | h1
    · rw [show min 4 (i + 1 - 4 * q) = 4 by omega, show min 4 (i - 4 * q) = 4 by omega]
    · rw [show min 4 (i + 1 - 4 * q) = 0 by omega, show min 4 (i - 4 * q) = 0 by omega]
theorem ofW_lt {d : Nat → Nat} (hd : ∀ j, j < 16 → d j < 65536) {i q : Nat} (hi : i ≤ 16) : ofW d i q < W64 := by
  unfold ofW
  have h := valn_lt (β := 65536) (L := fun j => d (4 * q + j)) (n := min 4 (i - 4 * q)) (fun j hj => hd _ (by omega))
  refine Nat.lt_of_lt_of_le h ?_
  rw [← D4]
  exact Nat.pow_le_pow_right (by omega) (by omega)
theorem of_words {d : Nat → Nat} (hd : ∀ j, j < 16 → d j < 65536) {q : Nat} (hq : q < 4) : ofW d 16 q = dgt W64 (valn 65536 16 d) q := by
  have e : valn 65536 16 d = valn W64 4 (fun q => valn 65536 4 (fun j => d (4 * q + j))) := by
    simp only [valn, W64, Nat.reduceMul, Nat.reduceAdd, Nat.reducePow]
    omega
  have hl : ∀ q, q < 4 → valn 65536 4 (fun j => d (4 * q + j)) < W64 := fun q hq => by rw [← D4]; exact valn_lt fun j hj => hd _ (by omega)
  rw [e, dgt_valn W64_pos hl q hq]
  unfold ofW
  rw [show min 4 (16 - 4 * q) = 4 by omega]
theorem ofW_shift {d : Nat → Nat} (hd : ∀ j, j < 16 → d j < 65536) {i : Nat} (hi : i < 16) : IntKind.u64.wrap ((d i : Int) * 2 ^ (16 * (i % 4))) = ((d i * 2 ^ (16 * (i % 4)) : Nat) : Int) := by
  have h1 := hd i hi
  have h2 : 2 ^ (16 * (i % 4)) ≤ 2 ^ 48 := Nat.pow_le_pow_right (by omega) (by omega)
  have h3 : d i * 2 ^ (16 * (i % 4)) ≤ 65535 * 2 ^ 48 := Nat.mul_le_mul (by omega) h2
  rw [IntKind.wrap_u64, show ((d i : Int) * 2 ^ (16 * (i % 4))) = ((d i * 2 ^ (16 * (i % 4)) : Nat) : Int) by simp]
  omega
theorem ofW_add {d : Nat → Nat} (hd : ∀ j, j < 16 → d j < 65536) {i : Nat} (hi : i < 16) : IntKind.u64.wrap ((ofW d i (i / 4) : Int) + ((d i * 2 ^ (16 * (i % 4)) : Nat) : Int)) = ((ofW d (i + 1) (i / 4) : Nat) : Int) := by
  have h := ofW_step d i (i / 4)
  rw [if_pos rfl] at h
  have hl := ofW_lt hd (i := i + 1) (q := i / 4) (by omega)
  unfold W64 at hl
  rw [IntKind.wrap_u64, h]
  rw [h] at hl
  omega

/-! ### which is above -/
theorem digits_lt {a b i : Nat} (ha : a < M256) (hb : b < M256) (hi : i < 16) (heq : ∀ j, i < j → j < 16 → dgt 65536 a j = dgt 65536 b j) (h : dgt 65536 a i < dgt 65536 b i) : a < b := by
  have ea := valn_split (β := 65536) (dgt 65536 a) (i + 1) (15 - i)
  have eb := valn_split (β := 65536) (dgt 65536 b) (i + 1) (15 - i)
  have e16 : i + 1 + (15 - i) = 16 := by omega
  rw [e16, valn16_self ha] at ea
  rw [e16, valn16_self hb] at eb
  have e : valn 65536 (15 - i) (fun j => dgt 65536 a (i + 1 + j)) = valn 65536 (15 - i) (fun j => dgt 65536 b (i + 1 + j)) := valn_congr fun j hj => heq _ (by omega) (by omega)
  rw [e] at ea
  have h1 := valn_lt (β := 65536) (L := dgt 65536 a) (n := i) (fun j _ => digD_lt a j)
  have h2 : (dgt 65536 a i + 1) * 65536 ^ i ≤ dgt 65536 b i * 65536 ^ i := Nat.mul_le_mul_right _ h
  rw [Nat.add_mul, Nat.one_mul] at h2
  have ea' : a = valn 65536 i (dgt 65536 a) + dgt 65536 a i * 65536 ^ i + (valn 65536 (15 - i) fun j => dgt 65536 b (i + 1 + j)) * 65536 ^ (i + 1) := ea
  have eb' : b = valn 65536 i (dgt 65536 b) + dgt 65536 b i * 65536 ^ i + (valn 65536 (15 - i) fun j => dgt 65536 b (i + 1 + j)) * 65536 ^ (i + 1) := eb
  omega
theorem digits_eq {a b : Nat} (ha : a < M256) (hb : b < M256) (heq : ∀ j, j < 16 → dgt 65536 a j = dgt 65536 b j) : a = b := by
  rw [← valn16_self ha, ← valn16_self hb]
  exact valn_congr heq

/-! ### bits -/
theorem no_top {a k : Nat} (h : a < 2 ^ (k + 1)) (hb : a / 2 ^ k % 2 = 0) : a < 2 ^ k := by
  have h1 : a / 2 ^ k < 2 := by
    rw [Nat.div_lt_iff_lt_mul (Nat.two_pow_pos k), Nat.mul_comm, ← Nat.pow_succ]
    exact h
  have h2 : a / 2 ^ k = 0 := by
    generalize a / 2 ^ k = t at *
    omega
  exact (Nat.div_eq_zero_iff_lt (Nat.two_pow_pos k)).1 h2
theorem is_top {a k : Nat} (h : a < 2 ^ (k + 1)) (hb : a / 2 ^ k % 2 = 1) : bitsN a = k + 1 := by
  refine (bitsN_unique h fun _ => ?_).symm
  rw [Nat.add_sub_cancel]
  by_cases hl : a < 2 ^ k
  · rw [Nat.div_eq_of_lt hl] at hb
    omega
  · omega

/-! ### sums, differences -/
def addS (x y c : Nat) : Nat := (x + y + c) % 65536
def addK (x y c : Nat) : Nat := (x + y + c) / 65536
def carD (A B : Nat → Nat) : Nat → Nat
  | 0 => 0
  | k + 1 => addK (A k) (B k) (carD A B k)
def sumD (A B : Nat → Nat) (k : Nat) : Nat := addS (A k) (B k) (carD A B k)
theorem carD_le {A B : Nat → Nat} (hA : ∀ i, A i < 65536) (hB : ∀ i, B i < 65536) : ∀ k, carD A B k ≤ 1
  | 0 => by simp [carD]
  | k + 1 => by
    have := carD_le hA hB k
    have h1 := hA k
    have h2 := hB k
    show (A k + B k + carD A B k) / 65536 ≤ 1
    omega
theorem add_digits {a b : Nat} (ha : a < M256) (hb : b < M256) : valn 65536 16 (sumD (dgt 65536 a) (dgt 65536 b)) = addN a b ∧ carD (dgt 65536 a) (dgt 65536 b) 16 = addNC a b :=
  add_number D_pow ha hb rfl (fun j _ => Nat.mod_lt _ (by omega)) (fun k _ => (Nat.mod_add_div _ _).symm)
def subS (x y c : Nat) : Nat := (x + 65536 - y - c) % 65536
def subK (x y c : Nat) : Nat := 1 - (x + 65536 - y - c) / 65536
def borD (A B : Nat → Nat) : Nat → Nat
  | 0 => 0
  | k + 1 => subK (A k) (B k) (borD A B k)
def difD (A B : Nat → Nat) (k : Nat) : Nat := subS (A k) (B k) (borD A B k)
theorem borD_le (A B : Nat → Nat) : ∀ k, borD A B k ≤ 1
  | 0 => by simp [borD]
  | k + 1 => by
    show 1 - _ ≤ 1
    omega
theorem sub_digits {a b : Nat} (ha : a < M256) (hb : b < M256) : valn 65536 16 (difD (dgt 65536 a) (dgt 65536 b)) = subN a b ∧ borD (dgt 65536 a) (dgt 65536 b) 16 = subNB a b := by
  refine sub_number D_pow ha hb rfl (fun j _ => Nat.mod_lt _ (by omega)) (borD_le _ _ _) (fun k _ => ?_)
  have h1 := digD_lt a k
  have h2 := digD_lt b k
  have h3 := borD_le (dgt 65536 a) (dgt 65536 b) k
  show subS _ _ _ + _ + _ = _ + 65536 * subK _ _ _
  unfold subS subK
  generalize dgt 65536 a k = x at *
  generalize dgt 65536 b k = y at *
  generalize borD (dgt 65536 a) (dgt 65536 b) k = c at *
  omega

/-! ### shifts -/
theorem bitN_test (a i : Nat) (h : i < 256) : bitN a i = if a.testBit i = true then 1 else 0 := by
  unfold bitN
  rw [if_neg (by omega), Int.toNat_natCast, Nat.testBit_eq_decide_div_mod_eq]
  by_cases h1 : a / 2 ^ i % 2 = 1
  · simp [h1]
  · have : a / 2 ^ i % 2 = 0 := by omega
    simp [this]
theorem test_far {a i : Nat} (ha : a < M256) (h : 256 ≤ i) : a.testBit i = false := by
  refine Nat.testBit_lt_two_pow (Nat.lt_of_lt_of_le ha ?_)
  rw [M256_eq]
  exact Nat.pow_le_pow_right (by omega) h
theorem shift_bit {a : Nat} (ha : a < M256) {n : Int} {i : Nat} (hi : i < 256) : bitN (shiftN a n) i = bitN a ((i : Int) - n) := by
  rw [bitN_test _ _ hi]
  unfold shiftN
  by_cases hn : 0 ≤ n
  · rw [if_pos hn, M256_eq, Nat.testBit_mod_two_pow, decide_eq_true hi, Bool.true_and, Nat.testBit_mul_two_pow]
    by_cases h : n.toNat ≤ i
    · obtain ⟨m, hm⟩ : ∃ m : Nat, (i : Int) - n = m := ⟨i - n.toNat, by omega⟩
      rw [hm, bitN_test _ _ (by omega), show i - n.toNat = m by omega]
      simp [h]
    · have : bitN a ((i : Int) - n) = 0 := by unfold bitN; rw [if_pos (by omega)]
      rw [this]
      simp [h]
  · rw [if_neg hn, Nat.testBit_div_two_pow]
    obtain ⟨m, hm⟩ : ∃ m : Nat, (i : Int) - n = m := ⟨i + (-n).toNat, by omega⟩
    rw [hm, show i + (-n).toNat = m by omega]
    by_cases h : m < 256
    · rw [bitN_test _ _ h]
    · have hz : bitN a (m : Int) = 0 := by unfold bitN; rw [if_pos (by omega)]
      rw [test_far ha (by omega), hz]
      rfl
theorem mod_next (a i : Nat) : a % 2 ^ (i + 1) = a % 2 ^ i + a / 2 ^ i % 2 * 2 ^ i := by
  rw [Nat.pow_succ, Nat.mod_mul, Nat.mul_comm (2 ^ i) (a / 2 ^ i % 2)]
theorem word_plus {S i q : Nat} (hS : S < 2 ^ i) : dgt W64 (S + 2 ^ i) q = if q = i / 64 then dgt W64 S q + 2 ^ (i % 64) else dgt W64 S q := by
  unfold dgt
  have hp : ∀ k, W64 ^ k = 2 ^ (64 * k) := fun k => by rw [W64_eq, ← Nat.pow_mul]
  rw [hp]
  rcases Nat.lt_trichotomy q (i / 64) with h | h | h
  · rw [if_neg (by omega)]
    have e : 2 ^ i = 2 ^ (64 * q) * (W64 * 2 ^ (i - 64 * q - 64)) := by
      rw [W64_eq, ← Nat.pow_add, ← Nat.pow_add]
      exact congrArg _ (by omega)
    rw [e, Nat.add_mul_div_left _ _ (Nat.two_pow_pos _), Nat.add_mul_mod_self_left]
  · rw [if_pos h]
    have e : 2 ^ i = 2 ^ (64 * q) * 2 ^ (i % 64) := by
      rw [← Nat.pow_add]
      exact congrArg _ (by omega)
    rw [e, Nat.add_mul_div_left _ _ (Nat.two_pow_pos _)]
    have h1 : S / 2 ^ (64 * q) < 2 ^ (i % 64) := by
      rw [Nat.div_lt_iff_lt_mul (Nat.two_pow_pos _), Nat.mul_comm, ← e]
      exact hS
    have h2 : 2 ^ (i % 64) ≤ 2 ^ 63 := Nat.pow_le_pow_right (by omega) (by omega)
    have h3 : (2 : Nat) ^ 63 + 2 ^ 63 = W64 := by unfold W64; rfl
    have h4 : (2 : Nat) ^ 63 = 9223372036854775808 := rfl
    have h5 : W64 = 18446744073709551616 := rfl
    rw [Nat.mod_eq_of_lt (a := S / 2 ^ (64 * q) + 2 ^ (i % 64)) (by omega), Nat.mod_eq_of_lt (a := S / 2 ^ (64 * q)) (by omega)]
  · rw [if_neg (by omega)]
    have h1 : 2 ^ i * 2 ≤ 2 ^ (64 * q) := by
      rw [← Nat.pow_succ]
      exact Nat.pow_le_pow_right (by omega) (by omega)
    rw [Nat.div_eq_of_lt (by omega), Nat.div_eq_of_lt (by omega)]
end Go.Proofs.Ytdhkkigijcggmaa
