/- Layer 2's reference -/
import Derived.Test.YtmijablfjigbhaaGreatDoorSZVG07
import Derived.WalkKit
namespace Go.Proofs.YtmijablfjigbhaaGreatDoor
open Go
theorem D4 : (65536 : Nat) ^ 4 = jd := by unfold jd; rfl
theorem dig_word (x i : Nat) : jf jd x (i / 4) / 2 ^ (16 * (i % 4)) % 65536 = jf 65536 x i := by
 have e : jf 65536 x i = x / jd ^ (i / 4) / 65536 ^ (i % 4) % 65536 := by
  unfold jf; rw [Nat.div_div_eq_div_mul, ← D4, ← Nat.pow_mul, ← Nat.pow_add, show 4 * (i / 4) + i % 4 = i by omega]
 rw [e]; unfold jf
 generalize x / jd ^ (i / 4) = y
 have hr : i % 4 = 0 ∨ i % 4 = 1 ∨ i % 4 = 2 ∨ i % 4 = 3 := by omega
 unfold jd
 rcases hr with h | h | h | h
 all_goals
  rw [h]; simp only [Nat.reduceMul, Nat.reducePow]; omega
theorem QA (x j : Nat) : jf 65536 x j < 65536 := dgt_lt (by omega) x j
def uS (d : Nat → Nat) (i q : Nat) : Nat := jT 65536 (min 4 (i - 4 * q)) (fun j => d (4 * q + j))
theorem ofW_zero (d : Nat → Nat) (q : Nat) : uS d 0 q = 0 := by
 unfold uS; rw [show min 4 (0 - 4 * q) = 0 by omega]
 rfl
theorem pow16 (r : Nat) : 65536 ^ r = 2 ^ (16 * r) := by rw [Nat.pow_mul]
theorem nP (d : Nat → Nat) (i q : Nat) : uS d (i + 1) q = if q = i / 4 then uS d i q + d i * 2 ^ (16 * (i % 4)) else uS d i q := by
 unfold uS
 by_cases h : q = i / 4
 ·rw [if_pos h, show min 4 (i + 1 - 4 * q) = i % 4 + 1 by omega, show min 4 (i - 4 * q) = i % 4 by omega, ← pow16]
  show _ + d (4 * q + i % 4) * 65536 ^ (i % 4) = _
  rw [show 4 * q + i % 4 = i by omega]
 ·rw [if_neg h]
  rcases Nat.lt_or_ge q (i / 4) with h1 | h1
  ·rw [show min 4 (i + 1 - 4 * q) = 4 by omega, show min 4 (i - 4 * q) = 4 by omega]
  ·rw [show min 4 (i + 1 - 4 * q) = 0 by omega, show min 4 (i - 4 * q) = 0 by omega]
theorem ofW_lt {d : Nat → Nat} (hd : ∀ j, j < 16 → d j < 65536) {i q : Nat} (hi : i ≤ 16) : uS d i q < jd := by
 unfold uS; have h := Jw (β := 65536) (L := fun j => d (4 * q + j)) (n := min 4 (i - 4 * q)) (fun j hj => hd _ (by omega)); refine Nat.lt_of_lt_of_le h ?_; rw [← D4]; exact Nat.pow_le_pow_right (by omega) (by omega)
theorem ZX {d : Nat → Nat} (hd : ∀ j, j < 16 → d j < 65536) {q : Nat} (hq : q < 4) : uS d 16 q = jf jd (jT 65536 16 d) q := by
 have e : jT 65536 16 d = jT jd 4 (fun q => jT 65536 4 (fun j => d (4 * q + j))) := by
  simp only [jT, jd, Nat.reduceMul, Nat.reduceAdd, Nat.reducePow]; omega
 have hl : ∀ q, q < 4 → jT 65536 4 (fun j => d (4 * q + j)) < jd := fun q hq => by rw [← D4]; exact Jw fun j hj => hd _ (by omega)
 rw [e, Qs qQ hl q hq]; unfold uS; rw [show min 4 (16 - 4 * q) = 4 by omega]
theorem TW {d : Nat → Nat} (hd : ∀ j, j < 16 → d j < 65536) {i : Nat} (hi : i < 16) : IntKind.u64.wrap ((d i : Int) * 2 ^ (16 * (i % 4))) = ((d i * 2 ^ (16 * (i % 4)) : Nat) : Int) := by
 have h1 := hd i hi; have h2 : 2 ^ (16 * (i % 4)) ≤ 2 ^ 48 := Nat.pow_le_pow_right (by omega) (by omega); have h3 : d i * 2 ^ (16 * (i % 4)) ≤ 65535 * 2 ^ 48 := Nat.mul_le_mul (by omega) h2; rw [IntKind.wrap_u64, show ((d i : Int) * 2 ^ (16 * (i % 4))) = ((d i * 2 ^ (16 * (i % 4)) : Nat) : Int) by simp]; omega
theorem ofW_add {d : Nat → Nat} (hd : ∀ j, j < 16 → d j < 65536) {i : Nat} (hi : i < 16) : IntKind.u64.wrap ((uS d i (i / 4) : Int) + ((d i * 2 ^ (16 * (i % 4)) : Nat) : Int)) = ((uS d (i + 1) (i / 4) : Nat) : Int) := by
 have h := nP d i (i / 4); rw [if_pos rfl] at h; have hl := ofW_lt hd (i := i + 1) (q := i / 4) (by omega); unfold jd at hl; rw [IntKind.wrap_u64, h]; rw [h] at hl; omega
theorem bM {a b i : Nat} (ha : a < jo) (hb : b < jo) (hi : i < 16) (heq : ∀ j, i < j → j < 16 → jf 65536 a j = jf 65536 b j) (h : jf 65536 a i < jf 65536 b i) : a < b := by
 have ea := Qt (β := 65536) (jf 65536 a) (i + 1) (15 - i); have eb := Qt (β := 65536) (jf 65536 b) (i + 1) (15 - i); have e16 : i + 1 + (15 - i) = 16 := by omega
 rw [e16, Ja ha] at ea; rw [e16, Ja hb] at eb; have e : jT 65536 (15 - i) (fun j => jf 65536 a (i + 1 + j)) = jT 65536 (15 - i) (fun j => jf 65536 b (i + 1 + j)) := JK fun j hj => heq _ (by omega) (by omega)
 rw [e] at ea; have h1 := Jw (β := 65536) (L := jf 65536 a) (n := i) (fun j _ => QA a j); have h2 : (jf 65536 a i + 1) * 65536 ^ i ≤ jf 65536 b i * 65536 ^ i := Nat.mul_le_mul_right _ h; rw [Nat.add_mul, Nat.one_mul] at h2; have ea' : a = jT 65536 i (jf 65536 a) + jf 65536 a i * 65536 ^ i + (jT 65536 (15 - i) fun j => jf 65536 b (i + 1 + j)) * 65536 ^ (i + 1) := ea; have eb' : b = jT 65536 i (jf 65536 b) + jf 65536 b i * 65536 ^ i + (jT 65536 (15 - i) fun j => jf 65536 b (i + 1 + j)) * 65536 ^ (i + 1) := eb; omega
theorem IX {a b : Nat} (ha : a < jo) (hb : b < jo) (heq : ∀ j, j < 16 → jf 65536 a j = jf 65536 b j) : a = b := by
 rw [← Ja ha, ← Ja hb]; exact JK heq
theorem no_top {a k : Nat} (h : a < 2 ^ (k + 1)) (hb : a / 2 ^ k % 2 = 0) : a < 2 ^ k := by
 have h1 : a / 2 ^ k < 2 := by
  rw [Nat.div_lt_iff_lt_mul (Nat.two_pow_pos k), Nat.mul_comm, ← Nat.pow_succ]; exact h
 have h2 : a / 2 ^ k = 0 := by
  generalize a / 2 ^ k = t at *
  omega
 exact (Nat.div_eq_zero_iff_lt (Nat.two_pow_pos k)).1 h2
theorem is_top {a k : Nat} (h : a < 2 ^ (k + 1)) (hb : a / 2 ^ k % 2 = 1) : jX a = k + 1 := by
 refine (IE h fun _ => ?_).symm; rw [Nat.add_sub_cancel]
 by_cases hl : a < 2 ^ k
 ·rw [Nat.div_eq_of_lt hl] at hb; omega
 ·omega
def addS (x y c : Nat) : Nat := (x + y + c) % 65536
def addK (x y c : Nat) : Nat := (x + y + c) / 65536
def nJ (A B : Nat → Nat) : Nat → Nat
 | 0 => 0
 | k + 1 => addK (A k) (B k) (nJ A B k)
def kW (A B : Nat → Nat) (k : Nat) : Nat := addS (A k) (B k) (nJ A B k)
theorem vV {A B : Nat → Nat} (hA : ∀ i, A i < 65536) (hB : ∀ i, B i < 65536) : ∀ k, nJ A B k ≤ 1
 | 0 => by simp [nJ]
 | k + 1 => by
  have := vV hA hB k; have h1 := hA k; have h2 := hB k
  show (A k + B k + nJ A B k) / 65536 ≤ 1
  omega
theorem bU {a b : Nat} (ha : a < jo) (hb : b < jo) : jT 65536 16 (kW (jf 65536 a) (jf 65536 b)) = qY a b ∧ nJ (jf 65536 a) (jf 65536 b) 16 = qK a b :=
 sJ IV ha hb rfl (fun j _ => Nat.mod_lt _ (by omega)) (fun k _ => (Nat.mod_add_div _ _).symm)
def wZ (x y c : Nat) : Nat := (x + 65536 - y - c) % 65536
def xZ (x y c : Nat) : Nat := 1 - (x + 65536 - y - c) / 65536
def pJ (A B : Nat → Nat) : Nat → Nat
 | 0 => 0
 | k + 1 => xZ (A k) (B k) (pJ A B k)
def LX (A B : Nat → Nat) (k : Nat) : Nat := wZ (A k) (B k) (pJ A B k)
theorem TN (A B : Nat → Nat) : ∀ k, pJ A B k ≤ 1
 | 0 => by simp [pJ]
 | k + 1 => by
  show 1 - _ ≤ 1
  omega
theorem IR {a b : Nat} (ha : a < jo) (hb : b < jo) : jT 65536 16 (LX (jf 65536 a) (jf 65536 b)) = Jj a b ∧ pJ (jf 65536 a) (jf 65536 b) 16 = zk a b := by
 refine LH IV ha hb rfl (fun j _ => Nat.mod_lt _ (by omega)) (TN _ _ _) (fun k _ => ?_); have h1 := QA a k; have h2 := QA b k; have h3 := TN (jf 65536 a) (jf 65536 b) k
 show wZ _ _ _ + _ + _ = _ + 65536 * xZ _ _ _
 unfold wZ xZ
 generalize jf 65536 a k = x at *
 generalize jf 65536 b k = y at *
 generalize pJ (jf 65536 a) (jf 65536 b) k = c at *
 omega
theorem WX (a i : Nat) (h : i < 256) : Ju a i = if a.testBit i = true then 1 else 0 := by
 unfold Ju; rw [if_neg (by omega), Int.toNat_natCast, Nat.testBit_eq_decide_div_mod_eq]
 by_cases h1 : a / 2 ^ i % 2 = 1
 ·simp [h1]
 ·have : a / 2 ^ i % 2 = 0 := by omega
  simp [this]
end Go.Proofs.YtmijablfjigbhaaGreatDoor
