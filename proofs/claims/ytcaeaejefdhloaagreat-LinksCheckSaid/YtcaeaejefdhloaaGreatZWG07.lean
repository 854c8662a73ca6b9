/- The references of the layers 3, 4 and 5, in plain words -/
import Derived.Test.YtcaeaejefdhloaaGreatZWG02
namespace Go.Proofs.YtcaeaejefdhloaaGreat
def jL (β : Nat) : Nat → (Nat → Nat) → Nat
 | 0, _ => 0
 | n + 1, L => jL β n L + L n * β ^ n
def jf (β x j : Nat) : Nat := x / β ^ j % β
theorem dgt_lt {β : Nat} (hβ : 0 < β) (x j : Nat) : jf β x j < β := Nat.mod_lt _ hβ
theorem Jk {β : Nat} {L K : Nat → Nat} : ∀ {n : Nat}, (∀ j, j < n → L j = K j) → jL β n L = jL β n K
 | 0, _ => rfl
 | n + 1, h => by unfold jL; rw [Jk (n := n) (fun j hj => h j (by omega)), h n (by omega)]
theorem zY {β : Nat} {L : Nat → Nat} : ∀ {n : Nat}, (∀ j, j < n → L j < β) → jL β n L < β ^ n
 | 0, _ => by simp [jL]
 | n + 1, h => by
  have ih := zY (n := n) (fun j hj => h j (by omega)); have hn := h n (by omega); unfold jL; have : L n * β ^ n + β ^ n ≤ β * β ^ n := by rw [← Nat.succ_mul]; exact Nat.mul_le_mul_right _ hn
  rw [Nat.pow_succ, Nat.mul_comm (β ^ n) β]; omega
theorem Jj (β x : Nat) : ∀ n, jL β n (jf β x) = x % β ^ n
 | 0 => by simp [jL, Nat.mod_one]
 | n + 1 => by
  unfold jL jf; have := Jj β x n; unfold jf at this; rw [this, Nat.pow_succ, Nat.mod_mul, Nat.mul_comm (x / β ^ n % β)]
theorem valn_zero (β n : Nat) : jL β n (fun _ => 0) = 0 := by
 induction n with
 | zero => rfl
 | succ n ih => unfold jL; simp [ih]
theorem JR {β : Nat} {L : Nat → Nat} (hβ : 0 < β) : ∀ {n : Nat}, (∀ j, j < n → L j < β) → ∀ j, j < n → jf β (jL β n L) j = L j
 | 0, _, j, hj => absurd hj (Nat.not_lt_zero j)
 | n + 1, h, j, hj => by
  have h' : ∀ j, j < n → L j < β := fun j hj => h j (by omega)
  have hlt := zY h'
  by_cases hjn : j = n
  ·subst hjn; unfold jf jL; rw [Nat.add_mul_div_right _ _ (Nat.pow_pos hβ), Nat.div_eq_of_lt hlt, Nat.zero_add, Nat.mod_eq_of_lt (h j (by omega))]
  ·have ih := JR hβ h' j (by omega); unfold jf at ih ⊢; unfold jL; rw [← ih]
   have e : L n * β ^ n = L n * β ^ (n - 1 - j) * β * β ^ j := by
    rw [Nat.mul_assoc, Nat.mul_assoc, ← Nat.pow_succ', ← Nat.pow_add]
    congr 2
    omega
   rw [e, Nat.add_mul_div_right _ _ (Nat.pow_pos hβ), Nat.add_mul_mod_self_right]
theorem valn_set {β : Nat} (L : Nat → Nat) (p v : Nat) : ∀ {n : Nat}, p < n → jL β n (fun j => if j = p then v else L j) + L p * β ^ p = jL β n L + v * β ^ p
 | 0, h => absurd h (Nat.not_lt_zero p)
 | n + 1, h => by
  unfold jL
  by_cases hp : p = n
  ·subst hp; rw [Jk (n := p) (K := L) (fun j hj => by simp; omega)]
   simp
   omega
  ·have ih := valn_set (β := β) L p v (n := n) (by omega); simp only [if_neg (Ne.symm hp)]; omega
theorem valn_add {β : Nat} {A B s c : Nat → Nat} (h0 : c 0 = 0) : ∀ {n : Nat}, (∀ k, k < n → A k + B k + c k = s k + β * c (k + 1)) → jL β n s + c n * β ^ n = jL β n A + jL β n B
 | 0, _ => by simp [jL, h0]
 | n + 1, h => by
  have ih := valn_add h0 (n := n) (fun k hk => h k (by omega)); have hn := h n (by omega); unfold jL; have e : (A n + B n + c n) * β ^ n = (s n + β * c (n + 1)) * β ^ n := by rw [hn]
  rw [Nat.add_mul, Nat.add_mul, Nat.add_mul, Nat.mul_comm β (c (n + 1)), Nat.mul_assoc] at e; rw [Nat.pow_succ, Nat.mul_comm (β ^ n) β]; omega
theorem valn_sub {β : Nat} {A B s c : Nat → Nat} (h0 : c 0 = 0) : ∀ {n : Nat}, (∀ k, k < n → s k + B k + c k = A k + β * c (k + 1)) → jL β n s + jL β n B = jL β n A + c n * β ^ n
 | 0, _ => by simp [jL, h0]
 | n + 1, h => by
  have ih := valn_sub h0 (n := n) (fun k hk => h k (by omega)); have hn := h n (by omega); unfold jL; have e : (s n + B n + c n) * β ^ n = (A n + β * c (n + 1)) * β ^ n := by rw [hn]
  rw [Nat.add_mul, Nat.add_mul, Nat.add_mul, Nat.mul_comm β (c (n + 1)), Nat.mul_assoc] at e; rw [Nat.pow_succ, Nat.mul_comm (β ^ n) β]; omega
def ZT (β m n : Nat) (X Y L : Nat → Nat) (i k more : Nat) : Prop := jL β m L + more * β ^ (i + k) = jL β i X * jL β n Y + X i * β ^ i * jL β k Y ∧ ∀ j, i + n ≤ j → L j = 0
theorem mul_begin {β m n : Nat} {X Y L : Nat → Nat} {i : Nat} (h : jL β m L = jL β i X * jL β n Y) (hz : ∀ j, i + n ≤ j → L j = 0) : ZT β m n X Y L i 0 0 := ⟨by simp [jL, h], hz⟩
theorem mul_step {β m n : Nat} {X Y L : Nat → Nat} {i k more low high : Nat} (h : ZT β m n X Y L i k more) (hk : k < n) (hm : i + k < m) (e : low + β * high = X i * Y k + L (i + k) + more) :
  ZT β m n X Y (fun j => if j = i + k then low else L j) i (k + 1) high := by
 obtain ⟨h1, h2⟩ := h; refine ⟨?_, fun j hj => by show (if j = i + k then low else L j) = 0; rw [if_neg (by omega)]; exact h2 j hj⟩; have hs := valn_set (β := β) L (i + k) low hm; have e' : (low + β * high) * β ^ (i + k) = (X i * Y k + L (i + k) + more) * β ^ (i + k) := by rw [e]
 rw [Nat.add_mul, Nat.add_mul, Nat.add_mul] at e'; have e2 : high * β ^ (i + (k + 1)) = β * high * β ^ (i + k) := by rw [← Nat.add_assoc, Nat.pow_succ, Nat.mul_comm β high, Nat.mul_assoc, Nat.mul_comm β]
 have e3 : X i * β ^ i * jL β (k + 1) Y = X i * β ^ i * jL β k Y + X i * Y k * β ^ (i + k) := by
  show X i * β ^ i * (jL β k Y + Y k * β ^ k) = _
  rw [Nat.mul_add, Nat.pow_add, Nat.mul_assoc (X i) (β ^ i) (Y k * β ^ k), Nat.mul_assoc (X i) (Y k), Nat.mul_left_comm (β ^ i) (Y k)]
 rw [e2, e3]; omega
theorem mul_row {β m n : Nat} {X Y L : Nat → Nat} {i more : Nat} (h : ZT β m n X Y L i n more) (hm : i + n < m) :
  jL β m (fun j => if j = i + n then more else L j) = jL β (i + 1) X * jL β n Y ∧ ∀ j, i + 1 + n ≤ j → (fun j => if j = i + n then more else L j) j = 0 := by
 obtain ⟨h1, h2⟩ := h; have hs := valn_set (β := β) L (i + n) more hm; have h0 := h2 (i + n) (Nat.le_refl _); refine ⟨?_, fun j hj => by simp only; rw [if_neg (by omega)]; exact h2 j (by omega)⟩
 show _ = (jL β i X + X i * β ^ i) * jL β n Y
 rw [Nat.add_mul]; rw [h0] at hs; omega
def jd : Nat := 18446744073709551616
def jj : Nat := 115792089237316195423570985008687907853269984665640564039457584007913129639936
theorem qD : 0 < jd := by unfold jd; omega
theorem qB : 0 < jj := by unfold jj; omega
theorem Qc : jd ^ 4 = jj := by unfold jd jj; rfl
theorem Qs : jd = 2 ^ 64 := by unfold jd; rfl
theorem M256_eq : jj = 2 ^ 256 := by unfold jj; rfl
theorem D_pow : 65536 ^ 16 = jj := by unfold jj; rfl
def qA (a b : Nat) : Nat := (a + b) % jj
def qr (a b : Nat) : Nat := (a + b) / jj
def qV (a b : Nat) : Nat := (a + jj - b) % jj
def qp (a b : Nat) : Nat := if a < b then 1 else 0
def mulL (a b : Nat) : Nat := a * b % jj
def ZU (a b : Nat) : Nat := a * b / jj
theorem JE (a b : Nat) : qA a b < jj := Nat.mod_lt _ qB
theorem subN_lt (a b : Nat) : qV a b < jj := Nat.mod_lt _ qB
theorem mulL_lt (a b : Nat) : mulL a b < jj := Nat.mod_lt _ qB
theorem mulH_lt {a b : Nat} (ha : a < jj) (hb : b < jj) : ZU a b < jj := by
 unfold ZU
 apply Nat.div_lt_of_lt_mul
 exact Nat.lt_of_le_of_lt (Nat.mul_le_mul_right _ (Nat.le_of_lt ha)) (Nat.mul_lt_mul_of_pos_left hb qB)
theorem JI {x : Nat} (h : x < jj) : jL jd 4 (jf jd x) = x := by rw [Jj, Qc, Nat.mod_eq_of_lt h]
theorem zz {x : Nat} (h : x < jj) : jL 65536 16 (jf 65536 x) = x := by rw [Jj, D_pow, Nat.mod_eq_of_lt h]
theorem add_number {β n : Nat} (hn : β ^ n = jj) {a b : Nat} {s c : Nat → Nat} (ha : a < jj) (hb : b < jj) (h0 : c 0 = 0) (hs : ∀ j, j < n → s j < β)
  (h : ∀ k, k < n → jf β a k + jf β b k + c k = s k + β * c (k + 1)) : jL β n s = qA a b ∧ c n = qr a b := by
 have e := valn_add (β := β) h0 h; rw [Jj, Jj, hn, Nat.mod_eq_of_lt ha, Nat.mod_eq_of_lt hb] at e; have hl := zY hs; rw [hn] at hl; unfold qA qr; rw [← e, Nat.add_mul_mod_self_right, Nat.mod_eq_of_lt hl, Nat.add_mul_div_right _ _ qB, Nat.div_eq_of_lt hl, Nat.zero_add]; exact ⟨rfl, rfl⟩
theorem sub_number {β n : Nat} (hn : β ^ n = jj) {a b : Nat} {s c : Nat → Nat} (ha : a < jj) (hb : b < jj) (h0 : c 0 = 0) (hs : ∀ j, j < n → s j < β) (hc : c n ≤ 1)
  (h : ∀ k, k < n → s k + jf β b k + c k = jf β a k + β * c (k + 1)) : jL β n s = qV a b ∧ c n = qp a b := by
 have e := valn_sub (β := β) h0 h; rw [Jj, Jj, hn, Nat.mod_eq_of_lt ha, Nat.mod_eq_of_lt hb] at e; have hl := zY hs; rw [hn] at hl
 generalize jL β n s = v at *
 generalize c n = x at *
 have hx : x = 0 ∨ x = 1 := by omega
 unfold qV qp
 rcases hx with rfl | rfl
 ·have h1 : ¬ a < b := by omega
  rw [if_neg h1, show a + jj - b = v + jj by omega, Nat.add_mod_right, Nat.mod_eq_of_lt hl]; exact ⟨rfl, rfl⟩
 ·have h1 : a < b := by omega
  rw [if_pos h1, show a + jj - b = v by omega, Nat.mod_eq_of_lt hl]; exact ⟨rfl, rfl⟩
theorem JT {β : Nat} (L : Nat → Nat) (n : Nat) : ∀ m, jL β (n + m) L = jL β n L + jL β m (fun j => L (n + j)) * β ^ n
 | 0 => by simp [jL]
 | m + 1 => by
  have ih := JT (β := β) L n m
  show jL β (n + m) L + L (n + m) * β ^ (n + m) = jL β n L + (jL β m (fun j => L (n + j)) + L (n + m) * β ^ m) * β ^ n
  rw [ih, Nat.add_mul, Nat.pow_add, Nat.mul_comm (β ^ n) (β ^ m), ← Nat.mul_assoc, Nat.add_assoc]
theorem mul_number {β n : Nat} (hn : β ^ n = jj) {a b : Nat} {L : Nat → Nat} (hs : ∀ j, j < n + n → L j < β)
  (h : jL β (n + n) L = a * b) : jL β n L = mulL a b ∧ jL β n (fun j => L (n + j)) = ZU a b := by
 rw [JT, hn] at h; have hl := zY (β := β) (L := L) (n := n) (fun j hj => hs j (by omega)); rw [hn] at hl; unfold mulL ZU; rw [← h, Nat.add_mul_mod_self_right, Nat.mod_eq_of_lt hl, Nat.add_mul_div_right _ _ qB, Nat.div_eq_of_lt hl, Nat.zero_add]; exact ⟨rfl, rfl⟩
def zW (a : Nat) (i : Int) : Nat := if i < 0 ∨ 255 < i then 0 else a / 2 ^ i.toNat % 2
theorem QU (s a q r : Nat) (hr : r < s) : jf (2 ^ s) a q / 2 ^ r % 2 = a / 2 ^ (s * q + r) % 2 := by
 unfold jf; rw [← Nat.pow_mul, Nat.pow_add, ← Nat.div_div_eq_div_mul]
 generalize a / 2 ^ (s * q) = x
 rw [show (2 : Nat) ^ s = 2 ^ r * (2 * 2 ^ (s - r - 1)) by rw [← Nat.pow_succ', ← Nat.pow_add]; congr 1; omega, Nat.mod_mul_right_div_self, Nat.mod_mul_right_mod]
def Qb (x y c : Nat) : Nat := (x + y + c) % jd
def JH (x y c : Nat) : Nat := (x + y + c) / jd
def subW (x y b : Nat) : Nat := (x + jd - y - b) % jd
def subB (x y b : Nat) : Nat := if x < y + b then 1 else 0
theorem addW_lt (x y c : Nat) : Qb x y c < jd := Nat.mod_lt _ qD
theorem subW_lt (x y c : Nat) : subW x y c < jd := Nat.mod_lt _ qD
theorem addC_le {x y c : Nat} (hx : x < jd) (hy : y < jd) (hc : c ≤ 1) : JH x y c ≤ 1 := by
 unfold JH; have : x + y + c < 2 * jd := by omega
 exact Nat.le_of_lt_succ (Nat.div_lt_of_lt_mul (by omega))
theorem subB_le (x y b : Nat) : subB x y b ≤ 1 := by unfold subB; split <;> omega
def ZS (A B : Nat → Nat) : Nat → Nat
 | 0 => 0
 | k + 1 => JH (A k) (B k) (ZS A B k)
def sumW (A B : Nat → Nat) (k : Nat) : Nat := Qb (A k) (B k) (ZS A B k)
theorem carry_le {A B : Nat → Nat} (hA : ∀ i, A i < jd) (hB : ∀ i, B i < jd) : ∀ k, ZS A B k ≤ 1
 | 0 => Nat.zero_le _
 | k + 1 => addC_le (hA k) (hB k) (carry_le hA hB k)
def Jq (A B : Nat → Nat) : Nat → Nat
 | 0 => 0
 | k + 1 => subB (A k) (B k) (Jq A B k)
def difW (A B : Nat → Nat) (k : Nat) : Nat := subW (A k) (B k) (Jq A B k)
theorem ZD (A B : Nat → Nat) : ∀ k, Jq A B k ≤ 1
 | 0 => Nat.zero_le _
 | _ + 1 => subB_le _ _ _
theorem qC (x j : Nat) : jf jd x j < jd := dgt_lt qD x j
theorem add_words {a b : Nat} (ha : a < jj) (hb : b < jj) : (∀ j, j < 4 → sumW (jf jd a) (jf jd b) j = jf jd (qA a b) j) ∧ ZS (jf jd a) (jf jd b) 4 = qr a b := by
 have h := add_number Qc (s := sumW (jf jd a) (jf jd b)) (c := ZS (jf jd a) (jf jd b)) ha hb rfl (fun j _ => addW_lt _ _ _) (fun k _ => (Nat.mod_add_div _ jd).symm); refine ⟨fun j hj => ?_, h.2⟩; rw [← h.1, JR (L := sumW (jf jd a) (jf jd b)) qD (fun j _ => addW_lt _ _ _) j hj]
theorem sub_words {a b : Nat} (ha : a < jj) (hb : b < jj) : (∀ j, j < 4 → difW (jf jd a) (jf jd b) j = jf jd (qV a b) j) ∧ Jq (jf jd a) (jf jd b) 4 = qp a b := by
 have hs : ∀ k, k < 4 → difW (jf jd a) (jf jd b) k + jf jd b k + Jq (jf jd a) (jf jd b) k = jf jd a k + jd * Jq (jf jd a) (jf jd b) (k + 1) := by
  intro k _; unfold difW
  show subW _ _ _ + _ + _ = _ + jd * subB _ _ _
  have h1 := qC a k; have h2 := qC b k; have h3 := ZD (jf jd a) (jf jd b) k
  generalize jf jd a k = x at *
  generalize jf jd b k = y at *
  generalize Jq (jf jd a) (jf jd b) k = c at *
  unfold subW subB
  by_cases h : x < y + c
  ·rw [if_pos h, Nat.mod_eq_of_lt (by omega)]; omega
  ·rw [if_neg h, show x + jd - y - c = (x - y - c) + jd by omega, Nat.add_mod_right, Nat.mod_eq_of_lt (by omega)]; omega
 have h := sub_number Qc (s := difW (jf jd a) (jf jd b)) (c := Jq (jf jd a) (jf jd b)) ha hb rfl (fun j _ => subW_lt _ _ _) (ZD _ _ _) hs; refine ⟨fun j hj => ?_, h.2⟩; rw [← h.1, JR (L := difW (jf jd a) (jf jd b)) qD (fun j _ => subW_lt _ _ _) j hj]
def hiW (x y : Nat) : Nat := x * y / jd
def loW (x y : Nat) : Nat := x * y % jd
def tmL (x y s m : Nat) : Nat := (x * y + s + m) % jd
def tmH (x y s m : Nat) : Nat := (x * y + s + m) / jd
theorem tm_eq (x y s m : Nat) : tmL x y s m + jd * tmH x y s m = x * y + s + m := Nat.mod_add_div _ _
theorem ZG {x y s m : Nat} (hx : x < jd) (hy : y < jd) (hs : s < jd) (hm : m < jd) :
  JH (loW x y) s 0 ≤ 1 ∧ hiW x y + JH (loW x y) s 0 + JH (Qb (loW x y) s 0) m 0 < jd ∧ Qb (Qb (loW x y) s 0) m 0 = tmL x y s m ∧ hiW x y + JH (loW x y) s 0 + JH (Qb (loW x y) s 0) m 0 = tmH x y s m := by
 have e0 : loW x y + jd * hiW x y = x * y := Nat.mod_add_div _ _; have l0 : loW x y < jd := Nat.mod_lt _ qD; have e1 : Qb (loW x y) s 0 + jd * JH (loW x y) s 0 = loW x y + s + 0 := Nat.mod_add_div _ _; have l1 : Qb (loW x y) s 0 < jd := addW_lt _ _ _; have c1 : JH (loW x y) s 0 ≤ 1 := addC_le l0 hs (by omega)
 generalize JH (loW x y) s 0 = p at *
 generalize Qb (loW x y) s 0 = q at *
 have e2 : Qb q m 0 + jd * JH q m 0 = q + m + 0 := Nat.mod_add_div _ _; have l2 : Qb q m 0 < jd := addW_lt _ _ _
 generalize JH q m 0 = r at *
 generalize Qb q m 0 = u at *
 generalize hiW x y = h at *
 generalize loW x y = l at *
 have hxy : x * y ≤ (jd - 1) * (jd - 1) := Nat.mul_le_mul (by omega) (by omega); have e : x * y + s + m = u + jd * (h + p + r) := by rw [Nat.mul_add, Nat.mul_add]; omega
 have hW : (jd - 1) * (jd - 1) + (jd - 1) + jd = jd * jd := by unfold jd; omega
 have hlt : h + p + r < jd := by
  have : jd * (h + p + r) < jd * jd := by omega
  exact Nat.lt_of_mul_lt_mul_left this
 refine ⟨c1, hlt, ?_, ?_⟩
 ·unfold tmL; rw [e, Nat.add_mul_mod_self_left, Nat.mod_eq_of_lt l2]
 ·unfold tmH; rw [e, Nat.add_mul_div_left _ _ qD, Nat.div_eq_of_lt l2, Nat.zero_add]
theorem tmL_lt (x y s m : Nat) : tmL x y s m < jd := Nat.mod_lt _ qD
theorem tmH_lt {x y s m : Nat} (hx : x < jd) (hy : y < jd) (hs : s < jd) (hm : m < jd) : tmH x y s m < jd := by
 have := ZG hx hy hs hm; omega
theorem eq_of_words {a b : Nat} (ha : a < jj) (hb : b < jj) (h : ∀ j, j < 4 → jf jd a j = jf jd b j) : a = b := by
 rw [← JI ha, ← JI hb]; exact Jk h
def qw (a b : Nat) : Int := if a < b then -1 else if a = b then 0 else 1
def jP (a : Nat) : Nat := if a = 0 then 0 else a.log2 + 1
theorem zo (a : Nat) : a < 2 ^ jP a ∧ (a ≠ 0 → 2 ^ (jP a - 1) ≤ a) := by
 unfold jP
 split
 ·rename_i h; subst h; simp
 ·rename_i h; exact ⟨Nat.lt_log2_self, fun _ => by simpa using Nat.log2_self_le h⟩
theorem Zn {a n : Nat} (h1 : a < 2 ^ n) (h2 : 0 < n → 2 ^ (n - 1) ≤ a) : n = jP a := by
 obtain ⟨h3, h4⟩ := zo a
 rcases Nat.lt_trichotomy n (jP a) with h | h | h
 ·exfalso
  have hne : a ≠ 0 := by rintro rfl; simp [jP] at h
  have := Nat.pow_le_pow_right (n := 2) (by omega) (show n ≤ jP a - 1 by omega); have := h4 hne; omega
 ·exact h
 ·exfalso
  have := Nat.pow_le_pow_right (n := 2) (by omega) (show jP a ≤ n - 1 by omega); have := h2 (by omega); omega
theorem bitsN_word {a i : Nat} (ha : a < 2 ^ (64 * i + 64)) (h : jf jd a i ≠ 0) : jP a = 64 * i + jP (jf jd a i) := by
 obtain ⟨h3, h4⟩ := zo (jf jd a i); have h4 := h4 h
 have hpos : 0 < jP (jf jd a i) := by
  unfold jP; rw [if_neg h]; omega
 have e : jf jd a i = a / 2 ^ (64 * i) := by
  unfold jf; rw [Qs, ← Nat.pow_mul, Nat.mod_eq_of_lt]; rw [Nat.pow_add] at ha; exact Nat.div_lt_of_lt_mul ha
 rw [e] at h3 h4 hpos ⊢
 generalize jP (a / 2 ^ (64 * i)) = m at *
 have hp : 0 < 2 ^ (64 * i) := Nat.pow_pos (by omega)
 symm
 apply Zn
 ·rw [Nat.pow_add]; have := (Nat.div_lt_iff_lt_mul hp).1 h3
  rwa [Nat.mul_comm] at this
 ·intro _; have := (Nat.le_div_iff_mul_le hp).1 h4; rw [show 64 * i + m - 1 = (m - 1) + 64 * i by omega, Nat.pow_add]; exact this
theorem bitsN_le {a : Nat} (ha : a < jj) : jP a ≤ 256 := by
 rcases Nat.lt_or_ge 256 (jP a) with h | h
 ·exfalso
  obtain ⟨_, h4⟩ := zo a; have hne : a ≠ 0 := by rintro rfl; simp [jP] at h
  have := Nat.pow_le_pow_right (n := 2) (by omega) (show 256 ≤ jP a - 1 by omega); have := h4 hne; rw [M256_eq] at ha; omega
 ·exact h
theorem Js {a k : Nat} (ha : a < jj) (h : ∀ j, k ≤ j → j < 4 → jf jd a j = 0) (hk : k ≤ 4) : a < jd ^ k := by
 have e : jL jd 4 (jf jd a) = jL jd k (jf jd a) := by
  have : ∀ n, k ≤ n → n ≤ 4 → jL jd n (jf jd a) = jL jd k (jf jd a) := by
   intro n hn
   induction n with
   | zero => intro _; rw [show k = 0 by omega]
   | succ n ih =>
    intro hn4
    by_cases hkn : k = n + 1
    ·rw [hkn]
    ·unfold jL; rw [h n (by omega) (by omega), Nat.zero_mul, Nat.add_zero, ih (by omega) (by omega)]
     cases k <;> rfl
  exact this 4 hk (Nat.le_refl _)
 rw [JI ha] at e; rw [e]; exact zY fun j _ => qC a j
structure Dg (y1 y0 u u1 q r : Nat) : Prop where
 sum : u = q * y1 + r
 ge : (u * 4294967296 + u1) / (y1 * 4294967296 + y0) ≤ q
 le : q ≤ 4294967297
structure Dh (y1 y0 u u1 : Nat) : Prop where
 hy1 : 2147483648 ≤ y1 ∧ y1 < 4294967296
 hy0 : y0 < 4294967296
 hu : u < y1 * 4294967296 + y0
 hu1 : u1 < 4294967296
section
variable {y1 y0 u u1 q r : Nat}
theorem Dh.pos (h : Dh y1 y0 u u1) : 0 < y1 * 4294967296 + y0 := by have := h.hy1; omega
theorem Dh.lt (h : Dh y1 y0 u u1) : (u * 4294967296 + u1) / (y1 * 4294967296 + y0) < 4294967296 := by
 rw [Nat.div_lt_iff_lt_mul h.pos]; have := h.hu; have := h.hu1; have := h.hy1; have := h.hy0; omega
theorem Dg.start (h : Dh y1 y0 u u1) : Dg y1 y0 u u1 (u / y1) (u % y1) := by
 have hy := h.hy1; have hy0 := h.hy0; have hu := h.hu; have hu1 := h.hu1; refine ⟨by rw [Nat.mul_comm]; exact (Nat.div_add_mod u y1).symm, ?_, ?_⟩
 ·have e : (u * 4294967296 + u1) / (y1 * 4294967296) = u / y1 := by
   rw [Nat.mul_comm y1, ← Nat.div_div_eq_div_mul]
   congr 1
   omega
  rw [← e]; exact Nat.div_le_div_left (by omega) (by omega)
 ·have : u / y1 < 4294967298 := by
   rw [Nat.div_lt_iff_lt_mul (by omega)]; omega
  omega
theorem Dg.prod (g : Dg y1 y0 u u1 q r) : q * (y1 * 4294967296 + y0) + 4294967296 * r = 4294967296 * u + q * y0 := by
 have := g.sum; rw [Nat.mul_add, ← Nat.mul_assoc, this]; omega
theorem Dg.down (h : Dh y1 y0 u u1) (g : Dg y1 y0 u u1 q r) (hc : 4294967296 ≤ q ∨ 4294967296 * r + u1 < q * y0) : 0 < q ∧ Dg y1 y0 u u1 (q - 1) (r + y1) := by
 have hlt : (u * 4294967296 + u1) / (y1 * 4294967296 + y0) < q := by
  rcases hc with hc | hc
  ·exact Nat.lt_of_lt_of_le h.lt hc
  ·rw [Nat.div_lt_iff_lt_mul h.pos]; have := g.prod; omega
 have hq : 0 < q := Nat.lt_of_le_of_lt (Nat.zero_le _) hlt; refine ⟨hq, ⟨?_, Nat.le_sub_one_of_lt hlt, by have := g.le; omega⟩⟩; have hs := g.sum; obtain ⟨p, rfl⟩ : ∃ p, q = p + 1 := ⟨q - 1, by omega⟩; rw [Nat.add_sub_cancel]; rw [Nat.add_mul, Nat.one_mul] at hs; omega
theorem Dg.done (h : Dh y1 y0 u u1) (g : Dg y1 y0 u u1 q r) (hc : q * y0 ≤ 4294967296 * r + u1) : q = (u * 4294967296 + u1) / (y1 * 4294967296 + y0) := by
 refine Nat.le_antisymm ?_ g.ge; rw [Nat.le_div_iff_mul_le h.pos]; have := g.prod; omega
theorem Dg.broke (h : Dh y1 y0 u u1) (g : Dg y1 y0 u u1 q r) (hq : q ≤ 4294967296) (hr : 4294967296 ≤ r) : q = (u * 4294967296 + u1) / (y1 * 4294967296 + y0) := by
 refine g.done h ?_; have h1 : q * y0 ≤ 4294967296 * y0 := Nat.mul_le_mul_right _ hq; have := h.hy0; omega
theorem Dg.small (h : Dh y1 y0 u u1) (g : Dg y1 y0 u u1 q r) : q * y0 < 18446744073709551616 := by
 have h1 : q * y0 ≤ 4294967297 * y0 := Nat.mul_le_mul_right _ g.le; have := h.hy0; omega
end
theorem two_digits {y u u1 u0 : Nat} (hy : 0 < y) :
  ((u * 4294967296 + u1) * 4294967296 + u0) / y = (u * 4294967296 + u1) / y * 4294967296 + ((u * 4294967296 + u1) % y * 4294967296 + u0) / y ∧
  ((u * 4294967296 + u1) * 4294967296 + u0) % y = ((u * 4294967296 + u1) % y * 4294967296 + u0) % y := by
 obtain ⟨N, hN⟩ : ∃ N, N = u * 4294967296 + u1 := ⟨_, rfl⟩; rw [← hN]
 have e : N * 4294967296 + u0 = y * (N / y * 4294967296) + (N % y * 4294967296 + u0) := by
  have := Nat.div_add_mod N y; have h2 : N * 4294967296 = (y * (N / y) + N % y) * 4294967296 := by rw [this]
  rw [h2, Nat.add_mul, Nat.mul_assoc]; omega
 constructor
 ·rw [e, Nat.mul_add_div hy]
 ·rw [e, Nat.mul_add_mod]
theorem top_step (x i : Nat) : x / 2 ^ i = 2 * (x / 2 ^ (i + 1)) + x / 2 ^ i % 2 := by
 rw [Nat.pow_succ, ← Nat.div_div_eq_div_mul]; omega
theorem top_mod (x m i : Nat) : (2 * (x / 2 ^ (i + 1) % m) + x / 2 ^ i % 2) % m = x / 2 ^ i % m := by
 have h := top_step x i
 generalize x / 2 ^ (i + 1) = y at h ⊢
 generalize x / 2 ^ i = z at h ⊢
 generalize hb : z % 2 = b at h ⊢
 rw [h, Nat.add_mod, Nat.mul_mod 2 (y % m), Nat.mod_mod, ← Nat.mul_mod, ← Nat.add_mod]
theorem twice_mod {r b m : Nat} (hr : r < m) (hb : b ≤ 1) : (if m ≤ 2 * r + b then 2 * r + b - m else 2 * r + b) = (2 * r + b) % m := by
 split
 ·rw [Nat.mod_eq_sub_mod (by omega), Nat.mod_eq_of_lt (by omega)]
 ·rw [Nat.mod_eq_of_lt (by omega)]
theorem wtop_step (x i : Nat) : x / jd ^ i = x / jd ^ (i + 1) * jd + x / jd ^ i % jd := by
 rw [Nat.pow_succ, ← Nat.div_div_eq_div_mul, Nat.mul_comm]; exact (Nat.div_add_mod _ _).symm
theorem wtop_mod (x m i : Nat) : (x / jd ^ (i + 1) % m * jd + x / jd ^ i % jd) % m = x / jd ^ i % m := by
 have h := wtop_step x i
 generalize x / jd ^ (i + 1) = y at h ⊢
 generalize x / jd ^ i = z at h ⊢
 generalize hb : z % jd = b at h ⊢
 rw [h, Nat.add_mod, Nat.mul_mod (y % m), Nat.mod_mod, ← Nat.mul_mod, ← Nat.add_mod]
theorem pow_top0 {a n m i : Nat} (h : n / 2 ^ i % 2 = 0) : (a ^ (n / 2 ^ (i + 1)) % m) * (a ^ (n / 2 ^ (i + 1)) % m) % m = a ^ (n / 2 ^ i) % m := by
 have h0 := top_step n i; rw [h] at h0; clear h
 generalize n / 2 ^ (i + 1) = y at h0 ⊢
 generalize n / 2 ^ i = z at h0 ⊢
 rw [h0, Nat.add_zero, Nat.two_mul, Nat.pow_add]; exact (Nat.mul_mod _ _ _).symm
theorem pow_top1 {a n m i : Nat} (h : n / 2 ^ i % 2 = 1) : (a ^ (n / 2 ^ (i + 1)) % m) * (a ^ (n / 2 ^ (i + 1)) % m) % m * a % m = a ^ (n / 2 ^ i) % m := by
 have h0 := top_step n i; rw [h] at h0; clear h
 generalize n / 2 ^ (i + 1) = y at h0 ⊢
 generalize n / 2 ^ i = z at h0 ⊢
 rw [h0, Nat.pow_succ, Nat.two_mul, Nat.pow_add]
 generalize a ^ y = p
 rw [← Nat.mul_mod p p m, Nat.mul_mod (p * p % m) a, Nat.mod_mod, ← Nat.mul_mod]
theorem bits_top {n : Nat} : n / 2 ^ jP n = 0 := by
 refine Nat.div_eq_of_lt ?_; unfold jP
 split
 ·omega
 ·exact Nat.lt_log2_self
theorem ch_eq {e f g : Nat} (he : e < 2 ^ 32) (hg : g < 2 ^ 32) : ((e &&& f) ^^^ ((2 ^ 32 - 1 - e) &&& g)) = (g ^^^ (e &&& (f ^^^ g))) := by
 refine Nat.eq_of_testBit_eq fun i => ?_
 have h1 : (2 ^ 32 - 1 - e).testBit i = (decide (i < 32) && !e.testBit i) := by
  rw [show 2 ^ 32 - 1 - e = 2 ^ 32 - (e + 1) by omega]; exact Nat.testBit_two_pow_sub_succ he i
 simp only [Nat.testBit_xor, Nat.testBit_and, h1]
 by_cases hi : i < 32
 ·rw [decide_eq_true hi]
  cases e.testBit i <;> cases f.testBit i <;> cases g.testBit i <;> rfl
 ·have h2 : g.testBit i = false := Nat.testBit_lt_two_pow (Nat.lt_of_lt_of_le hg (Nat.pow_le_pow_right (by decide) (by omega))); have h3 : e.testBit i = false := Nat.testBit_lt_two_pow (Nat.lt_of_lt_of_le he (Nat.pow_le_pow_right (by decide) (by omega))); rw [h2, h3, decide_eq_false hi]
  rfl
theorem maj_eq (a b c : Nat) : (((a &&& b) ||| (a &&& c)) ||| (b &&& c)) = (((a &&& b) ^^^ (a &&& c)) ^^^ (b &&& c)) := by
 refine Nat.eq_of_testBit_eq fun i => ?_
 simp only [Nat.testBit_xor, Nat.testBit_and, Nat.testBit_or]
 cases a.testBit i <;> cases b.testBit i <;> cases c.testBit i <;> rfl
theorem round_eq {x k : Nat} (hx : x < 2 ^ 32) (hk : k ≤ 32) : (x / 2 ^ k ||| x * 2 ^ (32 - k) % 2 ^ 32) = zD x k := by
 unfold zD
 have h1 : x / 2 ^ k < 2 ^ (32 - k) := by
  rw [Nat.div_lt_iff_lt_mul (Nat.two_pow_pos k), ← Nat.pow_add, show 32 - k + k = 32 by omega]; exact hx
 have h2 : x * 2 ^ (32 - k) % 2 ^ 32 = x % 2 ^ k * 2 ^ (32 - k) := by
  rw [show (2 : Nat) ^ 32 = 2 ^ k * 2 ^ (32 - k) by rw [← Nat.pow_add]; congr 1; omega, Nat.mul_mod_mul_right]
 rw [h2, Nat.or_comm, Nat.mul_comm, ← Nat.two_pow_add_eq_or_of_lt h1]; omega
end Go.Proofs.YtcaeaejefdhloaaGreat
