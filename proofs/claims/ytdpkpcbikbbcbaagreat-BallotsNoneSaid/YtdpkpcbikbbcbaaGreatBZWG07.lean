/- math/bits.Div64 in plain words -/

namespace Go.Proofs.YtdpkpcbikbbcbaaGreat
def ql (β : Nat) : Nat → (Nat → Nat) → Nat
 | 0, _ => 0
 | n + 1, L => ql β n L + L n * β ^ n
def jf (β x j : Nat) : Nat := x / β ^ j % β
theorem dgt_lt {β : Nat} (hβ : 0 < β) (x j : Nat) : jf β x j < β := Nat.mod_lt _ hβ
theorem ZD {β : Nat} {L K : Nat → Nat} : ∀ {n : Nat}, (∀ j, j < n → L j = K j) → ql β n L = ql β n K
 | 0, _ => rfl
 | n + 1, h => by unfold ql; rw [ZD (n := n) (fun j hj => h j (by omega)), h n (by omega)]
theorem Zf {β : Nat} {L : Nat → Nat} : ∀ {n : Nat}, (∀ j, j < n → L j < β) → ql β n L < β ^ n
 | 0, _ => by simp [ql]
 | n + 1, h => by
  have ih := Zf (n := n) (fun j hj => h j (by omega)); have hn := h n (by omega); unfold ql; have : L n * β ^ n + β ^ n ≤ β * β ^ n := by rw [← Nat.succ_mul]; exact Nat.mul_le_mul_right _ hn
  rw [Nat.pow_succ, Nat.mul_comm (β ^ n) β]; omega
theorem Qi (β x : Nat) : ∀ n, ql β n (jf β x) = x % β ^ n
 | 0 => by simp [ql, Nat.mod_one]
 | n + 1 => by
  unfold ql jf; have := Qi β x n; unfold jf at this; rw [this, Nat.pow_succ, Nat.mod_mul, Nat.mul_comm (x / β ^ n % β)]
theorem valn_zero (β n : Nat) : ql β n (fun _ => 0) = 0 := by
 induction n with
 | zero => rfl
 | succ n ih => unfold ql; simp [ih]
theorem Za {β : Nat} {L : Nat → Nat} (hβ : 0 < β) : ∀ {n : Nat}, (∀ j, j < n → L j < β) → ∀ j, j < n → jf β (ql β n L) j = L j
 | 0, _, j, hj => absurd hj (Nat.not_lt_zero j)
 | n + 1, h, j, hj => by
  have h' : ∀ j, j < n → L j < β := fun j hj => h j (by omega)
  have hlt := Zf h'
  by_cases hjn : j = n
  ·subst hjn; unfold jf ql; rw [Nat.add_mul_div_right _ _ (Nat.pow_pos hβ), Nat.div_eq_of_lt hlt, Nat.zero_add, Nat.mod_eq_of_lt (h j (by omega))]
  ·have ih := Za hβ h' j (by omega); unfold jf at ih ⊢; unfold ql; rw [← ih]
   have e : L n * β ^ n = L n * β ^ (n - 1 - j) * β * β ^ j := by
    rw [Nat.mul_assoc, Nat.mul_assoc, ← Nat.pow_succ', ← Nat.pow_add]
    congr 2
    omega
   rw [e, Nat.add_mul_div_right _ _ (Nat.pow_pos hβ), Nat.add_mul_mod_self_right]
theorem valn_set {β : Nat} (L : Nat → Nat) (p v : Nat) : ∀ {n : Nat}, p < n → ql β n (fun j => if j = p then v else L j) + L p * β ^ p = ql β n L + v * β ^ p
 | 0, h => absurd h (Nat.not_lt_zero p)
 | n + 1, h => by
  unfold ql
  by_cases hp : p = n
  ·subst hp; rw [ZD (n := p) (K := L) (fun j hj => by simp; omega)]
   simp
   omega
  ·have ih := valn_set (β := β) L p v (n := n) (by omega); simp only [if_neg (Ne.symm hp)]; omega
theorem valn_add {β : Nat} {A B s c : Nat → Nat} (h0 : c 0 = 0) : ∀ {n : Nat}, (∀ k, k < n → A k + B k + c k = s k + β * c (k + 1)) → ql β n s + c n * β ^ n = ql β n A + ql β n B
 | 0, _ => by simp [ql, h0]
 | n + 1, h => by
  have ih := valn_add h0 (n := n) (fun k hk => h k (by omega)); have hn := h n (by omega); unfold ql; have e : (A n + B n + c n) * β ^ n = (s n + β * c (n + 1)) * β ^ n := by rw [hn]
  rw [Nat.add_mul, Nat.add_mul, Nat.add_mul, Nat.mul_comm β (c (n + 1)), Nat.mul_assoc] at e; rw [Nat.pow_succ, Nat.mul_comm (β ^ n) β]; omega
theorem valn_sub {β : Nat} {A B s c : Nat → Nat} (h0 : c 0 = 0) : ∀ {n : Nat}, (∀ k, k < n → s k + B k + c k = A k + β * c (k + 1)) → ql β n s + ql β n B = ql β n A + c n * β ^ n
 | 0, _ => by simp [ql, h0]
 | n + 1, h => by
  have ih := valn_sub h0 (n := n) (fun k hk => h k (by omega)); have hn := h n (by omega); unfold ql; have e : (s n + B n + c n) * β ^ n = (A n + β * c (n + 1)) * β ^ n := by rw [hn]
  rw [Nat.add_mul, Nat.add_mul, Nat.add_mul, Nat.mul_comm β (c (n + 1)), Nat.mul_assoc] at e; rw [Nat.pow_succ, Nat.mul_comm (β ^ n) β]; omega
def MulAt (β m n : Nat) (X Y L : Nat → Nat) (i k more : Nat) : Prop := ql β m L + more * β ^ (i + k) = ql β i X * ql β n Y + X i * β ^ i * ql β k Y ∧ ∀ j, i + n ≤ j → L j = 0
theorem mul_begin {β m n : Nat} {X Y L : Nat → Nat} {i : Nat} (h : ql β m L = ql β i X * ql β n Y) (hz : ∀ j, i + n ≤ j → L j = 0) : MulAt β m n X Y L i 0 0 := ⟨by simp [ql, h], hz⟩
theorem mul_step {β m n : Nat} {X Y L : Nat → Nat} {i k more low high : Nat} (h : MulAt β m n X Y L i k more) (hk : k < n) (hm : i + k < m) (e : low + β * high = X i * Y k + L (i + k) + more) :
  MulAt β m n X Y (fun j => if j = i + k then low else L j) i (k + 1) high := by
 obtain ⟨h1, h2⟩ := h; refine ⟨?_, fun j hj => by show (if j = i + k then low else L j) = 0; rw [if_neg (by omega)]; exact h2 j hj⟩; have hs := valn_set (β := β) L (i + k) low hm; have e' : (low + β * high) * β ^ (i + k) = (X i * Y k + L (i + k) + more) * β ^ (i + k) := by rw [e]
 rw [Nat.add_mul, Nat.add_mul, Nat.add_mul] at e'; have e2 : high * β ^ (i + (k + 1)) = β * high * β ^ (i + k) := by rw [← Nat.add_assoc, Nat.pow_succ, Nat.mul_comm β high, Nat.mul_assoc, Nat.mul_comm β]
 have e3 : X i * β ^ i * ql β (k + 1) Y = X i * β ^ i * ql β k Y + X i * Y k * β ^ (i + k) := by
  show X i * β ^ i * (ql β k Y + Y k * β ^ k) = _
  rw [Nat.mul_add, Nat.pow_add, Nat.mul_assoc (X i) (β ^ i) (Y k * β ^ k), Nat.mul_assoc (X i) (Y k), Nat.mul_left_comm (β ^ i) (Y k)]
 rw [e2, e3]; omega
theorem mul_row {β m n : Nat} {X Y L : Nat → Nat} {i more : Nat} (h : MulAt β m n X Y L i n more) (hm : i + n < m) :
  ql β m (fun j => if j = i + n then more else L j) = ql β (i + 1) X * ql β n Y ∧ ∀ j, i + 1 + n ≤ j → (fun j => if j = i + n then more else L j) j = 0 := by
 obtain ⟨h1, h2⟩ := h; have hs := valn_set (β := β) L (i + n) more hm; have h0 := h2 (i + n) (Nat.le_refl _); refine ⟨?_, fun j hj => by simp only; rw [if_neg (by omega)]; exact h2 j (by omega)⟩
 show _ = (ql β i X + X i * β ^ i) * ql β n Y
 rw [Nat.add_mul]; rw [h0] at hs; omega
def jd : Nat := 18446744073709551616
def jk : Nat := 115792089237316195423570985008687907853269984665640564039457584007913129639936
theorem zp : 0 < jd := by unfold jd; omega
theorem qU : 0 < jk := by unfold jk; omega
theorem W64_pow : jd ^ 4 = jk := by unfold jd jk; rfl
theorem ZJ : jd = 2 ^ 64 := by unfold jd; rfl
theorem M256_eq : jk = 2 ^ 256 := by unfold jk; rfl
def JN (a b : Nat) : Nat := (a + b) % jk
def JM (a b : Nat) : Nat := (a + b) / jk
def Qt (a b : Nat) : Nat := (a + jk - b) % jk
def zs (a b : Nat) : Nat := if a < b then 1 else 0
def mulL (a b : Nat) : Nat := a * b % jk
def mulH (a b : Nat) : Nat := a * b / jk
theorem addN_lt (a b : Nat) : JN a b < jk := Nat.mod_lt _ qU
theorem subN_lt (a b : Nat) : Qt a b < jk := Nat.mod_lt _ qU
theorem mulL_lt (a b : Nat) : mulL a b < jk := Nat.mod_lt _ qU
theorem mulH_lt {a b : Nat} (ha : a < jk) (hb : b < jk) : mulH a b < jk := by
 unfold mulH
 apply Nat.div_lt_of_lt_mul
 exact Nat.lt_of_le_of_lt (Nat.mul_le_mul_right _ (Nat.le_of_lt ha)) (Nat.mul_lt_mul_of_pos_left hb qU)
theorem Qh {x : Nat} (h : x < jk) : ql jd 4 (jf jd x) = x := by rw [Qi, W64_pow, Nat.mod_eq_of_lt h]
theorem add_number {β n : Nat} (hn : β ^ n = jk) {a b : Nat} {s c : Nat → Nat} (ha : a < jk) (hb : b < jk) (h0 : c 0 = 0) (hs : ∀ j, j < n → s j < β)
  (h : ∀ k, k < n → jf β a k + jf β b k + c k = s k + β * c (k + 1)) : ql β n s = JN a b ∧ c n = JM a b := by
 have e := valn_add (β := β) h0 h; rw [Qi, Qi, hn, Nat.mod_eq_of_lt ha, Nat.mod_eq_of_lt hb] at e; have hl := Zf hs; rw [hn] at hl; unfold JN JM; rw [← e, Nat.add_mul_mod_self_right, Nat.mod_eq_of_lt hl, Nat.add_mul_div_right _ _ qU, Nat.div_eq_of_lt hl, Nat.zero_add]; exact ⟨rfl, rfl⟩
theorem sub_number {β n : Nat} (hn : β ^ n = jk) {a b : Nat} {s c : Nat → Nat} (ha : a < jk) (hb : b < jk) (h0 : c 0 = 0) (hs : ∀ j, j < n → s j < β) (hc : c n ≤ 1)
  (h : ∀ k, k < n → s k + jf β b k + c k = jf β a k + β * c (k + 1)) : ql β n s = Qt a b ∧ c n = zs a b := by
 have e := valn_sub (β := β) h0 h; rw [Qi, Qi, hn, Nat.mod_eq_of_lt ha, Nat.mod_eq_of_lt hb] at e; have hl := Zf hs; rw [hn] at hl
 generalize ql β n s = v at *
 generalize c n = x at *
 have hx : x = 0 ∨ x = 1 := by omega
 unfold Qt zs
 rcases hx with rfl | rfl
 ·have h1 : ¬ a < b := by omega
  rw [if_neg h1, show a + jk - b = v + jk by omega, Nat.add_mod_right, Nat.mod_eq_of_lt hl]; exact ⟨rfl, rfl⟩
 ·have h1 : a < b := by omega
  rw [if_pos h1, show a + jk - b = v by omega, Nat.mod_eq_of_lt hl]; exact ⟨rfl, rfl⟩
theorem valn_split {β : Nat} (L : Nat → Nat) (n : Nat) : ∀ m, ql β (n + m) L = ql β n L + ql β m (fun j => L (n + j)) * β ^ n
 | 0 => by simp [ql]
 | m + 1 => by
  have ih := valn_split (β := β) L n m
  show ql β (n + m) L + L (n + m) * β ^ (n + m) = ql β n L + (ql β m (fun j => L (n + j)) + L (n + m) * β ^ m) * β ^ n
  rw [ih, Nat.add_mul, Nat.pow_add, Nat.mul_comm (β ^ n) (β ^ m), ← Nat.mul_assoc, Nat.add_assoc]
theorem mul_number {β n : Nat} (hn : β ^ n = jk) {a b : Nat} {L : Nat → Nat} (hs : ∀ j, j < n + n → L j < β)
  (h : ql β (n + n) L = a * b) : ql β n L = mulL a b ∧ ql β n (fun j => L (n + j)) = mulH a b := by
 rw [valn_split, hn] at h; have hl := Zf (β := β) (L := L) (n := n) (fun j hj => hs j (by omega)); rw [hn] at hl; unfold mulL mulH; rw [← h, Nat.add_mul_mod_self_right, Nat.mod_eq_of_lt hl, Nat.add_mul_div_right _ _ qU, Nat.div_eq_of_lt hl, Nat.zero_add]; exact ⟨rfl, rfl⟩
def bitN (a : Nat) (i : Int) : Nat := if i < 0 ∨ 255 < i then 0 else a / 2 ^ i.toNat % 2
theorem bit_of_dgt (s a q r : Nat) (hr : r < s) : jf (2 ^ s) a q / 2 ^ r % 2 = a / 2 ^ (s * q + r) % 2 := by
 unfold jf; rw [← Nat.pow_mul, Nat.pow_add, ← Nat.div_div_eq_div_mul]
 generalize a / 2 ^ (s * q) = x
 rw [show (2 : Nat) ^ s = 2 ^ r * (2 * 2 ^ (s - r - 1)) by rw [← Nat.pow_succ', ← Nat.pow_add]; congr 1; omega, Nat.mod_mul_right_div_self, Nat.mod_mul_right_mod]
def QF (x y c : Nat) : Nat := (x + y + c) % jd
def Qd (x y c : Nat) : Nat := (x + y + c) / jd
def subW (x y b : Nat) : Nat := (x + jd - y - b) % jd
def subB (x y b : Nat) : Nat := if x < y + b then 1 else 0
theorem addW_lt (x y c : Nat) : QF x y c < jd := Nat.mod_lt _ zp
theorem subW_lt (x y c : Nat) : subW x y c < jd := Nat.mod_lt _ zp
theorem addC_le {x y c : Nat} (hx : x < jd) (hy : y < jd) (hc : c ≤ 1) : Qd x y c ≤ 1 := by
 unfold Qd; have : x + y + c < 2 * jd := by omega
 exact Nat.le_of_lt_succ (Nat.div_lt_of_lt_mul (by omega))
theorem subB_le (x y b : Nat) : subB x y b ≤ 1 := by unfold subB; split <;> omega
def carry (A B : Nat → Nat) : Nat → Nat
 | 0 => 0
 | k + 1 => Qd (A k) (B k) (carry A B k)
def sumW (A B : Nat → Nat) (k : Nat) : Nat := QF (A k) (B k) (carry A B k)
theorem carry_le {A B : Nat → Nat} (hA : ∀ i, A i < jd) (hB : ∀ i, B i < jd) : ∀ k, carry A B k ≤ 1
 | 0 => Nat.zero_le _
 | k + 1 => addC_le (hA k) (hB k) (carry_le hA hB k)
def JK (A B : Nat → Nat) : Nat → Nat
 | 0 => 0
 | k + 1 => subB (A k) (B k) (JK A B k)
def difW (A B : Nat → Nat) (k : Nat) : Nat := subW (A k) (B k) (JK A B k)
theorem borrow_le (A B : Nat → Nat) : ∀ k, JK A B k ≤ 1
 | 0 => Nat.zero_le _
 | _ + 1 => subB_le _ _ _
theorem qk (x j : Nat) : jf jd x j < jd := dgt_lt zp x j
theorem add_words {a b : Nat} (ha : a < jk) (hb : b < jk) : (∀ j, j < 4 → sumW (jf jd a) (jf jd b) j = jf jd (JN a b) j) ∧ carry (jf jd a) (jf jd b) 4 = JM a b := by
 have h := add_number W64_pow (s := sumW (jf jd a) (jf jd b)) (c := carry (jf jd a) (jf jd b)) ha hb rfl (fun j _ => addW_lt _ _ _) (fun k _ => (Nat.mod_add_div _ jd).symm); refine ⟨fun j hj => ?_, h.2⟩; rw [← h.1, Za (L := sumW (jf jd a) (jf jd b)) zp (fun j _ => addW_lt _ _ _) j hj]
theorem sub_words {a b : Nat} (ha : a < jk) (hb : b < jk) : (∀ j, j < 4 → difW (jf jd a) (jf jd b) j = jf jd (Qt a b) j) ∧ JK (jf jd a) (jf jd b) 4 = zs a b := by
 have hs : ∀ k, k < 4 → difW (jf jd a) (jf jd b) k + jf jd b k + JK (jf jd a) (jf jd b) k = jf jd a k + jd * JK (jf jd a) (jf jd b) (k + 1) := by
  intro k _; unfold difW
  show subW _ _ _ + _ + _ = _ + jd * subB _ _ _
  have h1 := qk a k; have h2 := qk b k; have h3 := borrow_le (jf jd a) (jf jd b) k
  generalize jf jd a k = x at *
  generalize jf jd b k = y at *
  generalize JK (jf jd a) (jf jd b) k = c at *
  unfold subW subB
  by_cases h : x < y + c
  ·rw [if_pos h, Nat.mod_eq_of_lt (by omega)]; omega
  ·rw [if_neg h, show x + jd - y - c = (x - y - c) + jd by omega, Nat.add_mod_right, Nat.mod_eq_of_lt (by omega)]; omega
 have h := sub_number W64_pow (s := difW (jf jd a) (jf jd b)) (c := JK (jf jd a) (jf jd b)) ha hb rfl (fun j _ => subW_lt _ _ _) (borrow_le _ _ _) hs; refine ⟨fun j hj => ?_, h.2⟩; rw [← h.1, Za (L := difW (jf jd a) (jf jd b)) zp (fun j _ => subW_lt _ _ _) j hj]
def hiW (x y : Nat) : Nat := x * y / jd
def loW (x y : Nat) : Nat := x * y % jd
def tmL (x y s m : Nat) : Nat := (x * y + s + m) % jd
def tmH (x y s m : Nat) : Nat := (x * y + s + m) / jd
theorem tm_eq (x y s m : Nat) : tmL x y s m + jd * tmH x y s m = x * y + s + m := Nat.mod_add_div _ _
theorem times_words {x y s m : Nat} (hx : x < jd) (hy : y < jd) (hs : s < jd) (hm : m < jd) :
  Qd (loW x y) s 0 ≤ 1 ∧ hiW x y + Qd (loW x y) s 0 + Qd (QF (loW x y) s 0) m 0 < jd ∧ QF (QF (loW x y) s 0) m 0 = tmL x y s m ∧ hiW x y + Qd (loW x y) s 0 + Qd (QF (loW x y) s 0) m 0 = tmH x y s m := by
 have e0 : loW x y + jd * hiW x y = x * y := Nat.mod_add_div _ _; have l0 : loW x y < jd := Nat.mod_lt _ zp; have e1 : QF (loW x y) s 0 + jd * Qd (loW x y) s 0 = loW x y + s + 0 := Nat.mod_add_div _ _; have l1 : QF (loW x y) s 0 < jd := addW_lt _ _ _; have c1 : Qd (loW x y) s 0 ≤ 1 := addC_le l0 hs (by omega)
 generalize Qd (loW x y) s 0 = p at *
 generalize QF (loW x y) s 0 = q at *
 have e2 : QF q m 0 + jd * Qd q m 0 = q + m + 0 := Nat.mod_add_div _ _; have l2 : QF q m 0 < jd := addW_lt _ _ _
 generalize Qd q m 0 = r at *
 generalize QF q m 0 = u at *
 generalize hiW x y = h at *
 generalize loW x y = l at *
 have hxy : x * y ≤ (jd - 1) * (jd - 1) := Nat.mul_le_mul (by omega) (by omega); have e : x * y + s + m = u + jd * (h + p + r) := by rw [Nat.mul_add, Nat.mul_add]; omega
 have hW : (jd - 1) * (jd - 1) + (jd - 1) + jd = jd * jd := by unfold jd; omega
 have hlt : h + p + r < jd := by
  have : jd * (h + p + r) < jd * jd := by omega
  exact Nat.lt_of_mul_lt_mul_left this
 refine ⟨c1, hlt, ?_, ?_⟩
 ·unfold tmL; rw [e, Nat.add_mul_mod_self_left, Nat.mod_eq_of_lt l2]
 ·unfold tmH; rw [e, Nat.add_mul_div_left _ _ zp, Nat.div_eq_of_lt l2, Nat.zero_add]
theorem tmL_lt (x y s m : Nat) : tmL x y s m < jd := Nat.mod_lt _ zp
theorem tmH_lt {x y s m : Nat} (hx : x < jd) (hy : y < jd) (hs : s < jd) (hm : m < jd) : tmH x y s m < jd := by
 have := times_words hx hy hs hm; omega
theorem eq_of_words {a b : Nat} (ha : a < jk) (hb : b < jk) (h : ∀ j, j < 4 → jf jd a j = jf jd b j) : a = b := by
 rw [← Qh ha, ← Qh hb]; exact ZD h
def Je (a b : Nat) : Int := if a < b then -1 else if a = b then 0 else 1
def qf (a : Nat) : Nat := if a = 0 then 0 else a.log2 + 1
theorem zD (a : Nat) : a < 2 ^ qf a ∧ (a ≠ 0 → 2 ^ (qf a - 1) ≤ a) := by
 unfold qf
 split
 ·rename_i h; subst h; simp
 ·rename_i h; exact ⟨Nat.lt_log2_self, fun _ => by simpa using Nat.log2_self_le h⟩
theorem bitsN_unique {a n : Nat} (h1 : a < 2 ^ n) (h2 : 0 < n → 2 ^ (n - 1) ≤ a) : n = qf a := by
 obtain ⟨h3, h4⟩ := zD a
 rcases Nat.lt_trichotomy n (qf a) with h | h | h
 ·exfalso
  have hne : a ≠ 0 := by rintro rfl; simp [qf] at h
  have := Nat.pow_le_pow_right (n := 2) (by omega) (show n ≤ qf a - 1 by omega); have := h4 hne; omega
 ·exact h
 ·exfalso
  have := Nat.pow_le_pow_right (n := 2) (by omega) (show qf a ≤ n - 1 by omega); have := h2 (by omega); omega
theorem bitsN_word {a i : Nat} (ha : a < 2 ^ (64 * i + 64)) (h : jf jd a i ≠ 0) : qf a = 64 * i + qf (jf jd a i) := by
 obtain ⟨h3, h4⟩ := zD (jf jd a i); have h4 := h4 h
 have hpos : 0 < qf (jf jd a i) := by
  unfold qf; rw [if_neg h]; omega
 have e : jf jd a i = a / 2 ^ (64 * i) := by
  unfold jf; rw [ZJ, ← Nat.pow_mul, Nat.mod_eq_of_lt]; rw [Nat.pow_add] at ha; exact Nat.div_lt_of_lt_mul ha
 rw [e] at h3 h4 hpos ⊢
 generalize qf (a / 2 ^ (64 * i)) = m at *
 have hp : 0 < 2 ^ (64 * i) := Nat.pow_pos (by omega)
 symm
 apply bitsN_unique
 ·rw [Nat.pow_add]; have := (Nat.div_lt_iff_lt_mul hp).1 h3
  rwa [Nat.mul_comm] at this
 ·intro _; have := (Nat.le_div_iff_mul_le hp).1 h4; rw [show 64 * i + m - 1 = (m - 1) + 64 * i by omega, Nat.pow_add]; exact this
theorem bitsN_le {a : Nat} (ha : a < jk) : qf a ≤ 256 := by
 rcases Nat.lt_or_ge 256 (qf a) with h | h
 ·exfalso
  obtain ⟨_, h4⟩ := zD a; have hne : a ≠ 0 := by rintro rfl; simp [qf] at h
  have := Nat.pow_le_pow_right (n := 2) (by omega) (show 256 ≤ qf a - 1 by omega); have := h4 hne; rw [M256_eq] at ha; omega
 ·exact h
theorem Zc {a k : Nat} (ha : a < jk) (h : ∀ j, k ≤ j → j < 4 → jf jd a j = 0) (hk : k ≤ 4) : a < jd ^ k := by
 have e : ql jd 4 (jf jd a) = ql jd k (jf jd a) := by
  have : ∀ n, k ≤ n → n ≤ 4 → ql jd n (jf jd a) = ql jd k (jf jd a) := by
   intro n hn
   induction n with
   | zero => intro _; rw [show k = 0 by omega]
   | succ n ih =>
    intro hn4
    by_cases hkn : k = n + 1
    ·rw [hkn]
    ·unfold ql; rw [h n (by omega) (by omega), Nat.zero_mul, Nat.add_zero, ih (by omega) (by omega)]
     cases k <;> rfl
  exact this 4 hk (Nat.le_refl _)
 rw [Qh ha] at e; rw [e]; exact Zf fun j _ => qk a j
structure Dg (y1 y0 u u1 q r : Nat) : Prop where
 sum : u = q * y1 + r
 ge : (u * 4294967296 + u1) / (y1 * 4294967296 + y0) ≤ q
 le : q ≤ 4294967297
structure Dh (y1 y0 u u1 : Nat) : Prop where
 hy1 : 2147483648 ≤ y1 ∧ y1 < 4294967296
 hy0 : y0 < 4294967296
 hu : u < y1 * 4294967296 + y0
 hu1 : u1 < 4294967296
section
variable {y1 y0 u u1 q r : Nat}
theorem Dh.pos (h : Dh y1 y0 u u1) : 0 < y1 * 4294967296 + y0 := by have := h.hy1; omega
theorem Dh.lt (h : Dh y1 y0 u u1) : (u * 4294967296 + u1) / (y1 * 4294967296 + y0) < 4294967296 := by
 rw [Nat.div_lt_iff_lt_mul h.pos]; have := h.hu; have := h.hu1; have := h.hy1; have := h.hy0; omega
theorem Dg.start (h : Dh y1 y0 u u1) : Dg y1 y0 u u1 (u / y1) (u % y1) := by
 have hy := h.hy1; have hy0 := h.hy0; have hu := h.hu; have hu1 := h.hu1; refine ⟨by rw [Nat.mul_comm]; exact (Nat.div_add_mod u y1).symm, ?_, ?_⟩
 ·have e : (u * 4294967296 + u1) / (y1 * 4294967296) = u / y1 := by
   rw [Nat.mul_comm y1, ← Nat.div_div_eq_div_mul]
   congr 1
   omega
  rw [← e]; exact Nat.div_le_div_left (by omega) (by omega)
 ·have : u / y1 < 4294967298 := by
   rw [Nat.div_lt_iff_lt_mul (by omega)]; omega
  omega
theorem Dg.prod (g : Dg y1 y0 u u1 q r) : q * (y1 * 4294967296 + y0) + 4294967296 * r = 4294967296 * u + q * y0 := by
 have := g.sum; rw [Nat.mul_add, ← Nat.mul_assoc, this]; omega
theorem Dg.down (h : Dh y1 y0 u u1) (g : Dg y1 y0 u u1 q r) (hc : 4294967296 ≤ q ∨ 4294967296 * r + u1 < q * y0) : 0 < q ∧ Dg y1 y0 u u1 (q - 1) (r + y1) := by
 have hlt : (u * 4294967296 + u1) / (y1 * 4294967296 + y0) < q := by
  rcases hc with hc | hc
  ·exact Nat.lt_of_lt_of_le h.lt hc
  ·rw [Nat.div_lt_iff_lt_mul h.pos]; have := g.prod; omega
 have hq : 0 < q := Nat.lt_of_le_of_lt (Nat.zero_le _) hlt; refine ⟨hq, ⟨?_, Nat.le_sub_one_of_lt hlt, by have := g.le; omega⟩⟩; have hs := g.sum; obtain ⟨p, rfl⟩ : ∃ p, q = p + 1 := ⟨q - 1, by omega⟩; rw [Nat.add_sub_cancel]; rw [Nat.add_mul, Nat.one_mul] at hs; omega
theorem Dg.done (h : Dh y1 y0 u u1) (g : Dg y1 y0 u u1 q r) (hc : q * y0 ≤ 4294967296 * r + u1) : q = (u * 4294967296 + u1) / (y1 * 4294967296 + y0) := by
 refine Nat.le_antisymm ?_ g.ge; rw [Nat.le_div_iff_mul_le h.pos]; have := g.prod; omega
theorem Dg.broke (h : Dh y1 y0 u u1) (g : Dg y1 y0 u u1 q r) (hq : q ≤ 4294967296) (hr : 4294967296 ≤ r) : q = (u * 4294967296 + u1) / (y1 * 4294967296 + y0) := by
 refine g.done h ?_; have h1 : q * y0 ≤ 4294967296 * y0 := Nat.mul_le_mul_right _ hq; have := h.hy0; omega
theorem Dg.small (h : Dh y1 y0 u u1) (g : Dg y1 y0 u u1 q r) : q * y0 < 18446744073709551616 := by
 have h1 : q * y0 ≤ 4294967297 * y0 := Nat.mul_le_mul_right _ g.le; have := h.hy0; omega
end
theorem two_digits {y u u1 u0 : Nat} (hy : 0 < y) :
  ((u * 4294967296 + u1) * 4294967296 + u0) / y = (u * 4294967296 + u1) / y * 4294967296 + ((u * 4294967296 + u1) % y * 4294967296 + u0) / y ∧
  ((u * 4294967296 + u1) * 4294967296 + u0) % y = ((u * 4294967296 + u1) % y * 4294967296 + u0) % y := by
 obtain ⟨N, hN⟩ : ∃ N, N = u * 4294967296 + u1 := ⟨_, rfl⟩; rw [← hN]
 have e : N * 4294967296 + u0 = y * (N / y * 4294967296) + (N % y * 4294967296 + u0) := by
  have := Nat.div_add_mod N y; have h2 : N * 4294967296 = (y * (N / y) + N % y) * 4294967296 := by rw [this]
  rw [h2, Nat.add_mul, Nat.mul_assoc]; omega
 constructor
 ·rw [e, Nat.mul_add_div hy]
 ·rw [e, Nat.mul_add_mod]
end Go.Proofs.YtdpkpcbikbbcbaaGreat
