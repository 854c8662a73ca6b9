/- math/bits.Div64 in plain words -/

namespace Go.Proofs.YtdpkpcbikbbcbaaGreat
def qi (β : Nat) : Nat → (Nat → Nat) → Nat
 | 0, _ => 0
 | n + 1, L => qi β n L + L n * β ^ n
def jf (β x j : Nat) : Nat := x / β ^ j % β
theorem dgt_lt {β : Nat} (hβ : 0 < β) (x j : Nat) : jf β x j < β := Nat.mod_lt _ hβ
theorem ZE {β : Nat} {L K : Nat → Nat} : ∀ {n : Nat}, (∀ j, j < n → L j = K j) → qi β n L = qi β n K
 | 0, _ => rfl
 | n + 1, h => by unfold qi; rw [ZE (n := n) (fun j hj => h j (by omega)), h n (by omega)]
theorem Zh {β : Nat} {L : Nat → Nat} : ∀ {n : Nat}, (∀ j, j < n → L j < β) → qi β n L < β ^ n
 | 0, _ => by simp [qi]
 | n + 1, h => by
  have ih := Zh (n := n) (fun j hj => h j (by omega)); have hn := h n (by omega); unfold qi; have : L n * β ^ n + β ^ n ≤ β * β ^ n := by rw [← Nat.succ_mul]; exact Nat.mul_le_mul_right _ hn
  rw [Nat.pow_succ, Nat.mul_comm (β ^ n) β]; omega
theorem Qj (β x : Nat) : ∀ n, qi β n (jf β x) = x % β ^ n
 | 0 => by simp [qi, Nat.mod_one]
 | n + 1 => by
  unfold qi jf; have := Qj β x n; unfold jf at this; rw [this, Nat.pow_succ, Nat.mod_mul, Nat.mul_comm (x / β ^ n % β)]
theorem valn_zero (β n : Nat) : qi β n (fun _ => 0) = 0 := by
 induction n with
 | zero => rfl
 | succ n ih => unfold qi; simp [ih]
theorem Zc {β : Nat} {L : Nat → Nat} (hβ : 0 < β) : ∀ {n : Nat}, (∀ j, j < n → L j < β) → ∀ j, j < n → jf β (qi β n L) j = L j
 | 0, _, j, hj => absurd hj (Nat.not_lt_zero j)
 | n + 1, h, j, hj => by
  have h' : ∀ j, j < n → L j < β := fun j hj => h j (by omega)
  have hlt := Zh h'
  by_cases hjn : j = n
  ·subst hjn; unfold jf qi; rw [Nat.add_mul_div_right _ _ (Nat.pow_pos hβ), Nat.div_eq_of_lt hlt, Nat.zero_add, Nat.mod_eq_of_lt (h j (by omega))]
  ·have ih := Zc hβ h' j (by omega); unfold jf at ih ⊢; unfold qi; rw [← ih]
   have e : L n * β ^ n = L n * β ^ (n - 1 - j) * β * β ^ j := by
    rw [Nat.mul_assoc, Nat.mul_assoc, ← Nat.pow_succ', ← Nat.pow_add]
    congr 2
    omega
   rw [e, Nat.add_mul_div_right _ _ (Nat.pow_pos hβ), Nat.add_mul_mod_self_right]
theorem valn_set {β : Nat} (L : Nat → Nat) (p v : Nat) : ∀ {n : Nat}, p < n → qi β n (fun j => if j = p then v else L j) + L p * β ^ p = qi β n L + v * β ^ p
 | 0, h => absurd h (Nat.not_lt_zero p)
 | n + 1, h => by
  unfold qi
  by_cases hp : p = n
  ·subst hp; rw [ZE (n := p) (K := L) (fun j hj => by simp; omega)]
   simp
   omega
  ·have ih := valn_set (β := β) L p v (n := n) (by omega); simp only [if_neg (Ne.symm hp)]; omega
theorem valn_add {β : Nat} {A B s c : Nat → Nat} (h0 : c 0 = 0) : ∀ {n : Nat}, (∀ k, k < n → A k + B k + c k = s k + β * c (k + 1)) → qi β n s + c n * β ^ n = qi β n A + qi β n B
 | 0, _ => by simp [qi, h0]
 | n + 1, h => by
  have ih := valn_add h0 (n := n) (fun k hk => h k (by omega)); have hn := h n (by omega); unfold qi; have e : (A n + B n + c n) * β ^ n = (s n + β * c (n + 1)) * β ^ n := by rw [hn]
  rw [Nat.add_mul, Nat.add_mul, Nat.add_mul, Nat.mul_comm β (c (n + 1)), Nat.mul_assoc] at e; rw [Nat.pow_succ, Nat.mul_comm (β ^ n) β]; omega
theorem valn_sub {β : Nat} {A B s c : Nat → Nat} (h0 : c 0 = 0) : ∀ {n : Nat}, (∀ k, k < n → s k + B k + c k = A k + β * c (k + 1)) → qi β n s + qi β n B = qi β n A + c n * β ^ n
 | 0, _ => by simp [qi, h0]
 | n + 1, h => by
  have ih := valn_sub h0 (n := n) (fun k hk => h k (by omega)); have hn := h n (by omega); unfold qi; have e : (s n + B n + c n) * β ^ n = (A n + β * c (n + 1)) * β ^ n := by rw [hn]
  rw [Nat.add_mul, Nat.add_mul, Nat.add_mul, Nat.mul_comm β (c (n + 1)), Nat.mul_assoc] at e; rw [Nat.pow_succ, Nat.mul_comm (β ^ n) β]; omega
def MulAt (β m n : Nat) (X Y L : Nat → Nat) (i k more : Nat) : Prop := qi β m L + more * β ^ (i + k) = qi β i X * qi β n Y + X i * β ^ i * qi β k Y ∧ ∀ j, i + n ≤ j → L j = 0
theorem mul_begin {β m n : Nat} {X Y L : Nat → Nat} {i : Nat} (h : qi β m L = qi β i X * qi β n Y) (hz : ∀ j, i + n ≤ j → L j = 0) : MulAt β m n X Y L i 0 0 := ⟨by simp [qi, h], hz⟩
theorem mul_step {β m n : Nat} {X Y L : Nat → Nat} {i k more low high : Nat} (h : MulAt β m n X Y L i k more) (hk : k < n) (hm : i + k < m) (e : low + β * high = X i * Y k + L (i + k) + more) :
  MulAt β m n X Y (fun j => if j = i + k then low else L j) i (k + 1) high := by
 obtain ⟨h1, h2⟩ := h; refine ⟨?_, fun j hj => by show (if j = i + k then low else L j) = 0; rw [if_neg (by omega)]; exact h2 j hj⟩; have hs := valn_set (β := β) L (i + k) low hm; have e' : (low + β * high) * β ^ (i + k) = (X i * Y k + L (i + k) + more) * β ^ (i + k) := by rw [e]
 rw [Nat.add_mul, Nat.add_mul, Nat.add_mul] at e'; have e2 : high * β ^ (i + (k + 1)) = β * high * β ^ (i + k) := by rw [← Nat.add_assoc, Nat.pow_succ, Nat.mul_comm β high, Nat.mul_assoc, Nat.mul_comm β]
 have e3 : X i * β ^ i * qi β (k + 1) Y = X i * β ^ i * qi β k Y + X i * Y k * β ^ (i + k) := by
  show X i * β ^ i * (qi β k Y + Y k * β ^ k) = _
  rw [Nat.mul_add, Nat.pow_add, Nat.mul_assoc (X i) (β ^ i) (Y k * β ^ k), Nat.mul_assoc (X i) (Y k), Nat.mul_left_comm (β ^ i) (Y k)]
 rw [e2, e3]; omega
theorem mul_row {β m n : Nat} {X Y L : Nat → Nat} {i more : Nat} (h : MulAt β m n X Y L i n more) (hm : i + n < m) :
  qi β m (fun j => if j = i + n then more else L j) = qi β (i + 1) X * qi β n Y ∧ ∀ j, i + 1 + n ≤ j → (fun j => if j = i + n then more else L j) j = 0 := by
 obtain ⟨h1, h2⟩ := h; have hs := valn_set (β := β) L (i + n) more hm; have h0 := h2 (i + n) (Nat.le_refl _); refine ⟨?_, fun j hj => by simp only; rw [if_neg (by omega)]; exact h2 j (by omega)⟩
 show _ = (qi β i X + X i * β ^ i) * qi β n Y
 rw [Nat.add_mul]; rw [h0] at hs; omega
def jd : Nat := 18446744073709551616
def jk : Nat := 115792089237316195423570985008687907853269984665640564039457584007913129639936
theorem zm : 0 < jd := by unfold jd; omega
theorem qP : 0 < jk := by unfold jk; omega
theorem W64_pow : jd ^ 4 = jk := by unfold jd jk; rfl
theorem ZL : jd = 2 ^ 64 := by unfold jd; rfl
theorem M256_eq : jk = 2 ^ 256 := by unfold jk; rfl
def JQ (a b : Nat) : Nat := (a + b) % jk
def JO (a b : Nat) : Nat := (a + b) / jk
def Qw (a b : Nat) : Nat := (a + jk - b) % jk
def zp (a b : Nat) : Nat := if a < b then 1 else 0
def mulL (a b : Nat) : Nat := a * b % jk
def mulH (a b : Nat) : Nat := a * b / jk
theorem addN_lt (a b : Nat) : JQ a b < jk := Nat.mod_lt _ qP
theorem subN_lt (a b : Nat) : Qw a b < jk := Nat.mod_lt _ qP
theorem mulL_lt (a b : Nat) : mulL a b < jk := Nat.mod_lt _ qP
theorem mulH_lt {a b : Nat} (ha : a < jk) (hb : b < jk) : mulH a b < jk := by
 unfold mulH
 apply Nat.div_lt_of_lt_mul
 exact Nat.lt_of_le_of_lt (Nat.mul_le_mul_right _ (Nat.le_of_lt ha)) (Nat.mul_lt_mul_of_pos_left hb qP)
theorem Qi {x : Nat} (h : x < jk) : qi jd 4 (jf jd x) = x := by rw [Qj, W64_pow, Nat.mod_eq_of_lt h]
theorem add_number {β n : Nat} (hn : β ^ n = jk) {a b : Nat} {s c : Nat → Nat} (ha : a < jk) (hb : b < jk) (h0 : c 0 = 0) (hs : ∀ j, j < n → s j < β)
  (h : ∀ k, k < n → jf β a k + jf β b k + c k = s k + β * c (k + 1)) : qi β n s = JQ a b ∧ c n = JO a b := by
 have e := valn_add (β := β) h0 h; rw [Qj, Qj, hn, Nat.mod_eq_of_lt ha, Nat.mod_eq_of_lt hb] at e; have hl := Zh hs; rw [hn] at hl; unfold JQ JO; rw [← e, Nat.add_mul_mod_self_right, Nat.mod_eq_of_lt hl, Nat.add_mul_div_right _ _ qP, Nat.div_eq_of_lt hl, Nat.zero_add]; exact ⟨rfl, rfl⟩
theorem sub_number {β n : Nat} (hn : β ^ n = jk) {a b : Nat} {s c : Nat → Nat} (ha : a < jk) (hb : b < jk) (h0 : c 0 = 0) (hs : ∀ j, j < n → s j < β) (hc : c n ≤ 1)
  (h : ∀ k, k < n → s k + jf β b k + c k = jf β a k + β * c (k + 1)) : qi β n s = Qw a b ∧ c n = zp a b := by
 have e := valn_sub (β := β) h0 h; rw [Qj, Qj, hn, Nat.mod_eq_of_lt ha, Nat.mod_eq_of_lt hb] at e; have hl := Zh hs; rw [hn] at hl
 generalize qi β n s = v at *
 generalize c n = x at *
 have hx : x = 0 ∨ x = 1 := by omega
 unfold Qw zp
 rcases hx with rfl | rfl
 ·have h1 : ¬ a < b := by omega
  rw [if_neg h1, show a + jk - b = v + jk by omega, Nat.add_mod_right, Nat.mod_eq_of_lt hl]; exact ⟨rfl, rfl⟩
 ·have h1 : a < b := by omega
  rw [if_pos h1, show a + jk - b = v by omega, Nat.mod_eq_of_lt hl]; exact ⟨rfl, rfl⟩
theorem valn_split {β : Nat} (L : Nat → Nat) (n : Nat) : ∀ m, qi β (n + m) L = qi β n L + qi β m (fun j => L (n + j)) * β ^ n
 | 0 => by simp [qi]
 | m + 1 => by
  have ih := valn_split (β := β) L n m
  show qi β (n + m) L + L (n + m) * β ^ (n + m) = qi β n L + (qi β m (fun j => L (n + j)) + L (n + m) * β ^ m) * β ^ n
  rw [ih, Nat.add_mul, Nat.pow_add, Nat.mul_comm (β ^ n) (β ^ m), ← Nat.mul_assoc, Nat.add_assoc]
theorem mul_number {β n : Nat} (hn : β ^ n = jk) {a b : Nat} {L : Nat → Nat} (hs : ∀ j, j < n + n → L j < β)
  (h : qi β (n + n) L = a * b) : qi β n L = mulL a b ∧ qi β n (fun j => L (n + j)) = mulH a b := by
 rw [valn_split, hn] at h; have hl := Zh (β := β) (L := L) (n := n) (fun j hj => hs j (by omega)); rw [hn] at hl; unfold mulL mulH; rw [← h, Nat.add_mul_mod_self_right, Nat.mod_eq_of_lt hl, Nat.add_mul_div_right _ _ qP, Nat.div_eq_of_lt hl, Nat.zero_add]; exact ⟨rfl, rfl⟩
def bitN (a : Nat) (i : Int) : Nat := if i < 0 ∨ 255 < i then 0 else a / 2 ^ i.toNat % 2
theorem bit_of_dgt (s a q r : Nat) (hr : r < s) : jf (2 ^ s) a q / 2 ^ r % 2 = a / 2 ^ (s * q + r) % 2 := by
 unfold jf; rw [← Nat.pow_mul, Nat.pow_add, ← Nat.div_div_eq_div_mul]
 generalize a / 2 ^ (s * q) = x
 rw [show (2 : Nat) ^ s = 2 ^ r * (2 * 2 ^ (s - r - 1)) by rw [← Nat.pow_succ', ← Nat.pow_add]; congr 1; omega, Nat.mod_mul_right_div_self, Nat.mod_mul_right_mod]
def QK (x y c : Nat) : Nat := (x + y + c) % jd
def Qd (x y c : Nat) : Nat := (x + y + c) / jd
def subW (x y b : Nat) : Nat := (x + jd - y - b) % jd
def subB (x y b : Nat) : Nat := if x < y + b then 1 else 0
theorem addW_lt (x y c : Nat) : QK x y c < jd := Nat.mod_lt _ zm
theorem subW_lt (x y c : Nat) : subW x y c < jd := Nat.mod_lt _ zm
theorem addC_le {x y c : Nat} (hx : x < jd) (hy : y < jd) (hc : c ≤ 1) : Qd x y c ≤ 1 := by
 unfold Qd; have : x + y + c < 2 * jd := by omega
 exact Nat.le_of_lt_succ (Nat.div_lt_of_lt_mul (by omega))
theorem subB_le (x y b : Nat) : subB x y b ≤ 1 := by unfold subB; split <;> omega
def carry (A B : Nat → Nat) : Nat → Nat
 | 0 => 0
 | k + 1 => Qd (A k) (B k) (carry A B k)
def sumW (A B : Nat → Nat) (k : Nat) : Nat := QK (A k) (B k) (carry A B k)
theorem carry_le {A B : Nat → Nat} (hA : ∀ i, A i < jd) (hB : ∀ i, B i < jd) : ∀ k, carry A B k ≤ 1
 | 0 => Nat.zero_le _
 | k + 1 => addC_le (hA k) (hB k) (carry_le hA hB k)
def JM (A B : Nat → Nat) : Nat → Nat
 | 0 => 0
 | k + 1 => subB (A k) (B k) (JM A B k)
def difW (A B : Nat → Nat) (k : Nat) : Nat := subW (A k) (B k) (JM A B k)
theorem borrow_le (A B : Nat → Nat) : ∀ k, JM A B k ≤ 1
 | 0 => Nat.zero_le _
 | _ + 1 => subB_le _ _ _
theorem qf (x j : Nat) : jf jd x j < jd := dgt_lt zm x j
theorem add_words {a b : Nat} (ha : a < jk) (hb : b < jk) : (∀ j, j < 4 → sumW (jf jd a) (jf jd b) j = jf jd (JQ a b) j) ∧ carry (jf jd a) (jf jd b) 4 = JO a b := by
 have h := add_number W64_pow (s := sumW (jf jd a) (jf jd b)) (c := carry (jf jd a) (jf jd b)) ha hb rfl (fun j _ => addW_lt _ _ _) (fun k _ => (Nat.mod_add_div _ jd).symm); refine ⟨fun j hj => ?_, h.2⟩; rw [← h.1, Zc (L := sumW (jf jd a) (jf jd b)) zm (fun j _ => addW_lt _ _ _) j hj]
theorem sub_words {a b : Nat} (ha : a < jk) (hb : b < jk) : (∀ j, j < 4 → difW (jf jd a) (jf jd b) j = jf jd (Qw a b) j) ∧ JM (jf jd a) (jf jd b) 4 = zp a b := by
 have hs : ∀ k, k < 4 → difW (jf jd a) (jf jd b) k + jf jd b k + JM (jf jd a) (jf jd b) k = jf jd a k + jd * JM (jf jd a) (jf jd b) (k + 1) := by
  intro k _; unfold difW
  show subW _ _ _ + _ + _ = _ + jd * subB _ _ _
  have h1 := qf a k; have h2 := qf b k; have h3 := borrow_le (jf jd a) (jf jd b) k
  generalize jf jd a k = x at *
  generalize jf jd b k = y at *
  generalize JM (jf jd a) (jf jd b) k = c at *
  unfold subW subB
  by_cases h : x < y + c
  ·rw [if_pos h, Nat.mod_eq_of_lt (by omega)]; omega
  ·rw [if_neg h, show x + jd - y - c = (x - y - c) + jd by omega, Nat.add_mod_right, Nat.mod_eq_of_lt (by omega)]; omega
 have h := sub_number W64_pow (s := difW (jf jd a) (jf jd b)) (c := JM (jf jd a) (jf jd b)) ha hb rfl (fun j _ => subW_lt _ _ _) (borrow_le _ _ _) hs; refine ⟨fun j hj => ?_, h.2⟩; rw [← h.1, Zc (L := difW (jf jd a) (jf jd b)) zm (fun j _ => subW_lt _ _ _) j hj]
def hiW (x y : Nat) : Nat := x * y / jd
def loW (x y : Nat) : Nat := x * y % jd
def tmL (x y s m : Nat) : Nat := (x * y + s + m) % jd
def tmH (x y s m : Nat) : Nat := (x * y + s + m) / jd
theorem tm_eq (x y s m : Nat) : tmL x y s m + jd * tmH x y s m = x * y + s + m := Nat.mod_add_div _ _
theorem times_words {x y s m : Nat} (hx : x < jd) (hy : y < jd) (hs : s < jd) (hm : m < jd) :
  Qd (loW x y) s 0 ≤ 1 ∧ hiW x y + Qd (loW x y) s 0 + Qd (QK (loW x y) s 0) m 0 < jd ∧ QK (QK (loW x y) s 0) m 0 = tmL x y s m ∧ hiW x y + Qd (loW x y) s 0 + Qd (QK (loW x y) s 0) m 0 = tmH x y s m := by
 have e0 : loW x y + jd * hiW x y = x * y := Nat.mod_add_div _ _; have l0 : loW x y < jd := Nat.mod_lt _ zm; have e1 : QK (loW x y) s 0 + jd * Qd (loW x y) s 0 = loW x y + s + 0 := Nat.mod_add_div _ _; have l1 : QK (loW x y) s 0 < jd := addW_lt _ _ _; have c1 : Qd (loW x y) s 0 ≤ 1 := addC_le l0 hs (by omega)
 generalize Qd (loW x y) s 0 = p at *
 generalize QK (loW x y) s 0 = q at *
 have e2 : QK q m 0 + jd * Qd q m 0 = q + m + 0 := Nat.mod_add_div _ _; have l2 : QK q m 0 < jd := addW_lt _ _ _
 generalize Qd q m 0 = r at *
 generalize QK q m 0 = u at *
 generalize hiW x y = h at *
 generalize loW x y = l at *
 have hxy : x * y ≤ (jd - 1) * (jd - 1) := Nat.mul_le_mul (by omega) (by omega); have e : x * y + s + m = u + jd * (h + p + r) := by rw [Nat.mul_add, Nat.mul_add]; omega
 have hW : (jd - 1) * (jd - 1) + (jd - 1) + jd = jd * jd := by unfold jd; omega
 have hlt : h + p + r < jd := by
  have : jd * (h + p + r) < jd * jd := by omega
  exact Nat.lt_of_mul_lt_mul_left this
 refine ⟨c1, hlt, ?_, ?_⟩
 ·unfold tmL; rw [e, Nat.add_mul_mod_self_left, Nat.mod_eq_of_lt l2]
 ·unfold tmH; rw [e, Nat.add_mul_div_left _ _ zm, Nat.div_eq_of_lt l2, Nat.zero_add]
theorem tmL_lt (x y s m : Nat) : tmL x y s m < jd := Nat.mod_lt _ zm
theorem tmH_lt {x y s m : Nat} (hx : x < jd) (hy : y < jd) (hs : s < jd) (hm : m < jd) : tmH x y s m < jd := by
 have := times_words hx hy hs hm; omega
theorem eq_of_words {a b : Nat} (ha : a < jk) (hb : b < jk) (h : ∀ j, j < 4 → jf jd a j = jf jd b j) : a = b := by
 rw [← Qi ha, ← Qi hb]; exact ZE h
def Jc (a b : Nat) : Int := if a < b then -1 else if a = b then 0 else 1
def jX (a : Nat) : Nat := if a = 0 then 0 else a.log2 + 1
theorem zy (a : Nat) : a < 2 ^ jX a ∧ (a ≠ 0 → 2 ^ (jX a - 1) ≤ a) := by
 unfold jX
 split
 ·rename_i h; subst h; simp
 ·rename_i h; exact ⟨Nat.lt_log2_self, fun _ => by simpa using Nat.log2_self_le h⟩
theorem bitsN_unique {a n : Nat} (h1 : a < 2 ^ n) (h2 : 0 < n → 2 ^ (n - 1) ≤ a) : n = jX a := by
 obtain ⟨h3, h4⟩ := zy a
 rcases Nat.lt_trichotomy n (jX a) with h | h | h
 ·exfalso
  have hne : a ≠ 0 := by rintro rfl; simp [jX] at h
  have := Nat.pow_le_pow_right (n := 2) (by omega) (show n ≤ jX a - 1 by omega); have := h4 hne; omega
 ·exact h
 ·exfalso
  have := Nat.pow_le_pow_right (n := 2) (by omega) (show jX a ≤ n - 1 by omega); have := h2 (by omega); omega
theorem bitsN_word {a i : Nat} (ha : a < 2 ^ (64 * i + 64)) (h : jf jd a i ≠ 0) : jX a = 64 * i + jX (jf jd a i) := by
 obtain ⟨h3, h4⟩ := zy (jf jd a i); have h4 := h4 h
 have hpos : 0 < jX (jf jd a i) := by
  unfold jX; rw [if_neg h]; omega
 have e : jf jd a i = a / 2 ^ (64 * i) := by
  unfold jf; rw [ZL, ← Nat.pow_mul, Nat.mod_eq_of_lt]; rw [Nat.pow_add] at ha; exact Nat.div_lt_of_lt_mul ha
 rw [e] at h3 h4 hpos ⊢
 generalize jX (a / 2 ^ (64 * i)) = m at *
 have hp : 0 < 2 ^ (64 * i) := Nat.pow_pos (by omega)
 symm
 apply bitsN_unique
 ·rw [Nat.pow_add]; have := (Nat.div_lt_iff_lt_mul hp).1 h3
  rwa [Nat.mul_comm] at this
 ·intro _; have := (Nat.le_div_iff_mul_le hp).1 h4; rw [show 64 * i + m - 1 = (m - 1) + 64 * i by omega, Nat.pow_add]; exact this
theorem bitsN_le {a : Nat} (ha : a < jk) : jX a ≤ 256 := by
 rcases Nat.lt_or_ge 256 (jX a) with h | h
 ·exfalso
  obtain ⟨_, h4⟩ := zy a; have hne : a ≠ 0 := by rintro rfl; simp [jX] at h
  have := Nat.pow_le_pow_right (n := 2) (by omega) (show 256 ≤ jX a - 1 by omega); have := h4 hne; rw [M256_eq] at ha; omega
 ·exact h
theorem Ze {a k : Nat} (ha : a < jk) (h : ∀ j, k ≤ j → j < 4 → jf jd a j = 0) (hk : k ≤ 4) : a < jd ^ k := by
 have e : qi jd 4 (jf jd a) = qi jd k (jf jd a) := by
  have : ∀ n, k ≤ n → n ≤ 4 → qi jd n (jf jd a) = qi jd k (jf jd a) := by
   intro n hn
   induction n with
   | zero => intro _; rw [show k = 0 by omega]
   | succ n ih =>
    intro hn4
    by_cases hkn : k = n + 1
    ·rw [hkn]
    ·unfold qi; rw [h n (by omega) (by omega), Nat.zero_mul, Nat.add_zero, ih (by omega) (by omega)]
     cases k <;> rfl
  exact this 4 hk (Nat.le_refl _)
 rw [Qi ha] at e; rw [e]; exact Zh fun j _ => qf a j
structure Dg (y1 y0 u u1 q r : Nat) : Prop where
 sum : u = q * y1 + r
 ge : (u * 4294967296 + u1) / (y1 * 4294967296 + y0) ≤ q
 le : q ≤ 4294967297
structure Dh (y1 y0 u u1 : Nat) : Prop where
 hy1 : 2147483648 ≤ y1 ∧ y1 < 4294967296
 hy0 : y0 < 4294967296
 hu : u < y1 * 4294967296 + y0
 hu1 : u1 < 4294967296
section
variable {y1 y0 u u1 q r : Nat}
theorem Dh.pos (h : Dh y1 y0 u u1) : 0 < y1 * 4294967296 + y0 := by have := h.hy1; omega
theorem Dh.lt (h : Dh y1 y0 u u1) : (u * 4294967296 + u1) / (y1 * 4294967296 + y0) < 4294967296 := by
 rw [Nat.div_lt_iff_lt_mul h.pos]; have := h.hu; have := h.hu1; have := h.hy1; have := h.hy0; omega
theorem Dg.start (h : Dh y1 y0 u u1) : Dg y1 y0 u u1 (u / y1) (u % y1) := by
 have hy := h.hy1; have hy0 := h.hy0; have hu := h.hu; have hu1 := h.hu1; refine ⟨by rw [Nat.mul_comm]; exact (Nat.div_add_mod u y1).symm, ?_, ?_⟩
 ·have e : (u * 4294967296 + u1) / (y1 * 4294967296) = u / y1 := by
   rw [Nat.mul_comm y1, ← Nat.div_div_eq_div_mul]
   congr 1
   omega
  rw [← e]; exact Nat.div_le_div_left (by omega) (by omega)
 ·have : u / y1 < 4294967298 := by
   rw [Nat.div_lt_iff_lt_mul (by omega)]; omega
  omega
theorem Dg.prod (g : Dg y1 y0 u u1 q r) : q * (y1 * 4294967296 + y0) + 4294967296 * r = 4294967296 * u + q * y0 := by
 have := g.sum; rw [Nat.mul_add, ← Nat.mul_assoc, this]; omega
theorem Dg.down (h : Dh y1 y0 u u1) (g : Dg y1 y0 u u1 q r) (hc : 4294967296 ≤ q ∨ 4294967296 * r + u1 < q * y0) : 0 < q ∧ Dg y1 y0 u u1 (q - 1) (r + y1) := by
 have hlt : (u * 4294967296 + u1) / (y1 * 4294967296 + y0) < q := by
  rcases hc with hc | hc
  ·exact Nat.lt_of_lt_of_le h.lt hc
  ·rw [Nat.div_lt_iff_lt_mul h.pos]; have := g.prod; omega
 have hq : 0 < q := Nat.lt_of_le_of_lt (Nat.zero_le _) hlt; refine ⟨hq, ⟨?_, Nat.le_sub_one_of_lt hlt, by have := g.le; omega⟩⟩; have hs := g.sum; obtain ⟨p, rfl⟩ : ∃ p, q = p + 1 := ⟨q - 1, by omega⟩; rw [Nat.add_sub_cancel]; rw [Nat.add_mul, Nat.one_mul] at hs; omega
theorem Dg.done (h : Dh y1 y0 u u1) (g : Dg y1 y0 u u1 q r) (hc : q * y0 ≤ 4294967296 * r + u1) : q = (u * 4294967296 + u1) / (y1 * 4294967296 + y0) := by
 refine Nat.le_antisymm ?_ g.ge; rw [Nat.le_div_iff_mul_le h.pos]; have := g.prod; omega
theorem Dg.broke (h : Dh y1 y0 u u1) (g : Dg y1 y0 u u1 q r) (hq : q ≤ 4294967296) (hr : 4294967296 ≤ r) : q = (u * 4294967296 + u1) / (y1 * 4294967296 + y0) := by
 refine g.done h ?_; have h1 : q * y0 ≤ 4294967296 * y0 := Nat.mul_le_mul_right _ hq; have := h.hy0; omega
theorem Dg.small (h : Dh y1 y0 u u1) (g : Dg y1 y0 u u1 q r) : q * y0 < 18446744073709551616 := by
 have h1 : q * y0 ≤ 4294967297 * y0 := Nat.mul_le_mul_right _ g.le; have := h.hy0; omega
end
theorem two_digits {y u u1 u0 : Nat} (hy : 0 < y) :
  ((u * 4294967296 + u1) * 4294967296 + u0) / y = (u * 4294967296 + u1) / y * 4294967296 + ((u * 4294967296 + u1) % y * 4294967296 + u0) / y ∧
  ((u * 4294967296 + u1) * 4294967296 + u0) % y = ((u * 4294967296 + u1) % y * 4294967296 + u0) % y := by
 obtain ⟨N, hN⟩ : ∃ N, N = u * 4294967296 + u1 := ⟨_, rfl⟩; rw [← hN]
 have e : N * 4294967296 + u0 = y * (N / y * 4294967296) + (N % y * 4294967296 + u0) := by
  have := Nat.div_add_mod N y; have h2 : N * 4294967296 = (y * (N / y) + N % y) * 4294967296 := by rw [this]
  rw [h2, Nat.add_mul, Nat.mul_assoc]; omega
 constructor
 ·rw [e, Nat.mul_add_div hy]
 ·rw [e, Nat.mul_add_mod]
end Go.Proofs.YtdpkpcbikbbcbaaGreat
