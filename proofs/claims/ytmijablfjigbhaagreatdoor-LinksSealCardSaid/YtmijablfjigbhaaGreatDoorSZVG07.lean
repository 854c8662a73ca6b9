/- The references of the layers 3, 4 and 5, in plain words -/
import Derived.Test.YtmijablfjigbhaaGreatDoorSZVG02
namespace Go.Proofs.YtmijablfjigbhaaGreatDoor
def jT (β : Nat) : Nat → (Nat → Nat) → Nat
 | 0, _ => 0
 | n + 1, L => jT β n L + L n * β ^ n
def jf (β x j : Nat) : Nat := x / β ^ j % β
theorem dgt_lt {β : Nat} (hβ : 0 < β) (x j : Nat) : jf β x j < β := Nat.mod_lt _ hβ
theorem JK {β : Nat} {L K : Nat → Nat} : ∀ {n : Nat}, (∀ j, j < n → L j = K j) → jT β n L = jT β n K
 | 0, _ => rfl
 | n + 1, h => by unfold jT; rw [JK (n := n) (fun j hj => h j (by omega)), h n (by omega)]
theorem Jw {β : Nat} {L : Nat → Nat} : ∀ {n : Nat}, (∀ j, j < n → L j < β) → jT β n L < β ^ n
 | 0, _ => by simp [jT]
 | n + 1, h => by
  have ih := Jw (n := n) (fun j hj => h j (by omega)); have hn := h n (by omega); unfold jT; have : L n * β ^ n + β ^ n ≤ β * β ^ n := by rw [← Nat.succ_mul]; exact Nat.mul_le_mul_right _ hn
  rw [Nat.pow_succ, Nat.mul_comm (β ^ n) β]; omega
theorem JJ (β x : Nat) : ∀ n, jT β n (jf β x) = x % β ^ n
 | 0 => by simp [jT, Nat.mod_one]
 | n + 1 => by
  unfold jT jf; have := JJ β x n; unfold jf at this; rw [this, Nat.pow_succ, Nat.mod_mul, Nat.mul_comm (x / β ^ n % β)]
theorem VK (β n : Nat) : jT β n (fun _ => 0) = 0 := by
 induction n with
 | zero => rfl
 | succ n ih => unfold jT; simp [ih]
theorem Qs {β : Nat} {L : Nat → Nat} (hβ : 0 < β) : ∀ {n : Nat}, (∀ j, j < n → L j < β) → ∀ j, j < n → jf β (jT β n L) j = L j
 | 0, _, j, hj => absurd hj (Nat.not_lt_zero j)
 | n + 1, h, j, hj => by
  have h' : ∀ j, j < n → L j < β := fun j hj => h j (by omega)
  have hlt := Jw h'
  by_cases hjn : j = n
  ·subst hjn; unfold jf jT; rw [Nat.add_mul_div_right _ _ (Nat.pow_pos hβ), Nat.div_eq_of_lt hlt, Nat.zero_add, Nat.mod_eq_of_lt (h j (by omega))]
  ·have ih := Qs hβ h' j (by omega); unfold jf at ih ⊢; unfold jT; rw [← ih]
   have e : L n * β ^ n = L n * β ^ (n - 1 - j) * β * β ^ j := by
    rw [Nat.mul_assoc, Nat.mul_assoc, ← Nat.pow_succ', ← Nat.pow_add]
    congr 2
    omega
   rw [e, Nat.add_mul_div_right _ _ (Nat.pow_pos hβ), Nat.add_mul_mod_self_right]
theorem EH {β : Nat} (L : Nat → Nat) (p v : Nat) : ∀ {n : Nat}, p < n → jT β n (fun j => if j = p then v else L j) + L p * β ^ p = jT β n L + v * β ^ p
 | 0, h => absurd h (Nat.not_lt_zero p)
 | n + 1, h => by
  unfold jT
  by_cases hp : p = n
  ·subst hp; rw [JK (n := p) (K := L) (fun j hj => by simp; omega)]
   simp
   omega
  ·have ih := EH (β := β) L p v (n := n) (by omega); simp only [if_neg (Ne.symm hp)]; omega
theorem PO {β : Nat} {A B s c : Nat → Nat} (h0 : c 0 = 0) : ∀ {n : Nat}, (∀ k, k < n → A k + B k + c k = s k + β * c (k + 1)) → jT β n s + c n * β ^ n = jT β n A + jT β n B
 | 0, _ => by simp [jT, h0]
 | n + 1, h => by
  have ih := PO h0 (n := n) (fun k hk => h k (by omega)); have hn := h n (by omega); unfold jT; have e : (A n + B n + c n) * β ^ n = (s n + β * c (n + 1)) * β ^ n := by rw [hn]
  rw [Nat.add_mul, Nat.add_mul, Nat.add_mul, Nat.mul_comm β (c (n + 1)), Nat.mul_assoc] at e; rw [Nat.pow_succ, Nat.mul_comm (β ^ n) β]; omega
theorem MO {β : Nat} {A B s c : Nat → Nat} (h0 : c 0 = 0) : ∀ {n : Nat}, (∀ k, k < n → s k + B k + c k = A k + β * c (k + 1)) → jT β n s + jT β n B = jT β n A + c n * β ^ n
 | 0, _ => by simp [jT, h0]
 | n + 1, h => by
  have ih := MO h0 (n := n) (fun k hk => h k (by omega)); have hn := h n (by omega); unfold jT; have e : (s n + B n + c n) * β ^ n = (A n + β * c (n + 1)) * β ^ n := by rw [hn]
  rw [Nat.add_mul, Nat.add_mul, Nat.add_mul, Nat.mul_comm β (c (n + 1)), Nat.mul_assoc] at e; rw [Nat.pow_succ, Nat.mul_comm (β ^ n) β]; omega
def EG (β m n : Nat) (X Y L : Nat → Nat) (i k more : Nat) : Prop := jT β m L + more * β ^ (i + k) = jT β i X * jT β n Y + X i * β ^ i * jT β k Y ∧ ∀ j, i + n ≤ j → L j = 0
theorem NL {β m n : Nat} {X Y L : Nat → Nat} {i : Nat} (h : jT β m L = jT β i X * jT β n Y) (hz : ∀ j, i + n ≤ j → L j = 0) : EG β m n X Y L i 0 0 := ⟨by simp [jT, h], hz⟩
theorem vP {β m n : Nat} {X Y L : Nat → Nat} {i k more low high : Nat} (h : EG β m n X Y L i k more) (hk : k < n) (hm : i + k < m) (e : low + β * high = X i * Y k + L (i + k) + more) :
  EG β m n X Y (fun j => if j = i + k then low else L j) i (k + 1) high := by
 obtain ⟨h1, h2⟩ := h; refine ⟨?_, fun j hj => by show (if j = i + k then low else L j) = 0; rw [if_neg (by omega)]; exact h2 j hj⟩; have hs := EH (β := β) L (i + k) low hm; have e' : (low + β * high) * β ^ (i + k) = (X i * Y k + L (i + k) + more) * β ^ (i + k) := by rw [e]
 rw [Nat.add_mul, Nat.add_mul, Nat.add_mul] at e'; have e2 : high * β ^ (i + (k + 1)) = β * high * β ^ (i + k) := by rw [← Nat.add_assoc, Nat.pow_succ, Nat.mul_comm β high, Nat.mul_assoc, Nat.mul_comm β]
 have e3 : X i * β ^ i * jT β (k + 1) Y = X i * β ^ i * jT β k Y + X i * Y k * β ^ (i + k) := by
  show X i * β ^ i * (jT β k Y + Y k * β ^ k) = _
  rw [Nat.mul_add, Nat.pow_add, Nat.mul_assoc (X i) (β ^ i) (Y k * β ^ k), Nat.mul_assoc (X i) (Y k), Nat.mul_left_comm (β ^ i) (Y k)]
 rw [e2, e3]; omega
theorem XU {β m n : Nat} {X Y L : Nat → Nat} {i more : Nat} (h : EG β m n X Y L i n more) (hm : i + n < m) :
  jT β m (fun j => if j = i + n then more else L j) = jT β (i + 1) X * jT β n Y ∧ ∀ j, i + 1 + n ≤ j → (fun j => if j = i + n then more else L j) j = 0 := by
 obtain ⟨h1, h2⟩ := h; have hs := EH (β := β) L (i + n) more hm; have h0 := h2 (i + n) (Nat.le_refl _); refine ⟨?_, fun j hj => by simp only; rw [if_neg (by omega)]; exact h2 j (by omega)⟩
 show _ = (jT β i X + X i * β ^ i) * jT β n Y
 rw [Nat.add_mul]; rw [h0] at hs; omega
def jd : Nat := 18446744073709551616
def jo : Nat := 115792089237316195423570985008687907853269984665640564039457584007913129639936
theorem qQ : 0 < jd := by unfold jd; omega
theorem qN : 0 < jo := by unfold jo; omega
theorem QF : jd ^ 4 = jo := by unfold jd jo; rfl
theorem QZ : jd = 2 ^ 64 := by unfold jd; rfl
theorem dC : jo = 2 ^ 256 := by unfold jo; rfl
theorem IV : 65536 ^ 16 = jo := by unfold jo; rfl
def qY (a b : Nat) : Nat := (a + b) % jo
def qK (a b : Nat) : Nat := (a + b) / jo
def Jj (a b : Nat) : Nat := (a + jo - b) % jo
def zk (a b : Nat) : Nat := if a < b then 1 else 0
def vI (a b : Nat) : Nat := a * b % jo
def MG (a b : Nat) : Nat := a * b / jo
theorem Qf (a b : Nat) : qY a b < jo := Nat.mod_lt _ qN
theorem YU (a b : Nat) : vI a b < jo := Nat.mod_lt _ qN
theorem aV {a b : Nat} (ha : a < jo) (hb : b < jo) : MG a b < jo := by
 unfold MG
 apply Nat.div_lt_of_lt_mul
 exact Nat.lt_of_le_of_lt (Nat.mul_le_mul_right _ (Nat.le_of_lt ha)) (Nat.mul_lt_mul_of_pos_left hb qN)
theorem Qj {x : Nat} (h : x < jo) : jT jd 4 (jf jd x) = x := by rw [JJ, QF, Nat.mod_eq_of_lt h]
theorem Ja {x : Nat} (h : x < jo) : jT 65536 16 (jf 65536 x) = x := by rw [JJ, IV, Nat.mod_eq_of_lt h]
theorem sJ {β n : Nat} (hn : β ^ n = jo) {a b : Nat} {s c : Nat → Nat} (ha : a < jo) (hb : b < jo) (h0 : c 0 = 0) (hs : ∀ j, j < n → s j < β)
  (h : ∀ k, k < n → jf β a k + jf β b k + c k = s k + β * c (k + 1)) : jT β n s = qY a b ∧ c n = qK a b := by
 have e := PO (β := β) h0 h; rw [JJ, JJ, hn, Nat.mod_eq_of_lt ha, Nat.mod_eq_of_lt hb] at e; have hl := Jw hs; rw [hn] at hl; unfold qY qK; rw [← e, Nat.add_mul_mod_self_right, Nat.mod_eq_of_lt hl, Nat.add_mul_div_right _ _ qN, Nat.div_eq_of_lt hl, Nat.zero_add]; exact ⟨rfl, rfl⟩
theorem LH {β n : Nat} (hn : β ^ n = jo) {a b : Nat} {s c : Nat → Nat} (ha : a < jo) (hb : b < jo) (h0 : c 0 = 0) (hs : ∀ j, j < n → s j < β) (hc : c n ≤ 1)
  (h : ∀ k, k < n → s k + jf β b k + c k = jf β a k + β * c (k + 1)) : jT β n s = Jj a b ∧ c n = zk a b := by
 have e := MO (β := β) h0 h; rw [JJ, JJ, hn, Nat.mod_eq_of_lt ha, Nat.mod_eq_of_lt hb] at e; have hl := Jw hs; rw [hn] at hl
 generalize jT β n s = v at *
 generalize c n = x at *
 have hx : x = 0 ∨ x = 1 := by omega
 unfold Jj zk
 rcases hx with rfl | rfl
 ·have h1 : ¬ a < b := by omega
  rw [if_neg h1, show a + jo - b = v + jo by omega, Nat.add_mod_right, Nat.mod_eq_of_lt hl]; exact ⟨rfl, rfl⟩
 ·have h1 : a < b := by omega
  rw [if_pos h1, show a + jo - b = v by omega, Nat.mod_eq_of_lt hl]; exact ⟨rfl, rfl⟩
theorem Qt {β : Nat} (L : Nat → Nat) (n : Nat) : ∀ m, jT β (n + m) L = jT β n L + jT β m (fun j => L (n + j)) * β ^ n
 | 0 => by simp [jT]
 | m + 1 => by
  have ih := Qt (β := β) L n m
  show jT β (n + m) L + L (n + m) * β ^ (n + m) = jT β n L + (jT β m (fun j => L (n + j)) + L (n + m) * β ^ m) * β ^ n
  rw [ih, Nat.add_mul, Nat.pow_add, Nat.mul_comm (β ^ n) (β ^ m), ← Nat.mul_assoc, Nat.add_assoc]
theorem uI {β n : Nat} (hn : β ^ n = jo) {a b : Nat} {L : Nat → Nat} (hs : ∀ j, j < n + n → L j < β)
  (h : jT β (n + n) L = a * b) : jT β n L = vI a b ∧ jT β n (fun j => L (n + j)) = MG a b := by
 rw [Qt, hn] at h; have hl := Jw (β := β) (L := L) (n := n) (fun j hj => hs j (by omega)); rw [hn] at hl; unfold vI MG; rw [← h, Nat.add_mul_mod_self_right, Nat.mod_eq_of_lt hl, Nat.add_mul_div_right _ _ qN, Nat.div_eq_of_lt hl, Nat.zero_add]; exact ⟨rfl, rfl⟩
def Ju (a : Nat) (i : Int) : Nat := if i < 0 ∨ 255 < i then 0 else a / 2 ^ i.toNat % 2
theorem ZO (s a q r : Nat) (hr : r < s) : jf (2 ^ s) a q / 2 ^ r % 2 = a / 2 ^ (s * q + r) % 2 := by
 unfold jf; rw [← Nat.pow_mul, Nat.pow_add, ← Nat.div_div_eq_div_mul]
 generalize a / 2 ^ (s * q) = x
 rw [show (2 : Nat) ^ s = 2 ^ r * (2 * 2 ^ (s - r - 1)) by rw [← Nat.pow_succ', ← Nat.pow_add]; congr 1; omega, Nat.mod_mul_right_div_self, Nat.mod_mul_right_mod]
def QE (x y c : Nat) : Nat := (x + y + c) % jd
def Qh (x y c : Nat) : Nat := (x + y + c) / jd
def mW (x y b : Nat) : Nat := (x + jd - y - b) % jd
def KR (x y b : Nat) : Nat := if x < y + b then 1 else 0
theorem uH (x y c : Nat) : QE x y c < jd := Nat.mod_lt _ qQ
theorem LU (x y c : Nat) : mW x y c < jd := Nat.mod_lt _ qQ
theorem AV {x y c : Nat} (hx : x < jd) (hy : y < jd) (hc : c ≤ 1) : Qh x y c ≤ 1 := by
 unfold Qh; have : x + y + c < 2 * jd := by omega
 exact Nat.le_of_lt_succ (Nat.div_lt_of_lt_mul (by omega))
theorem subB_le (x y b : Nat) : KR x y b ≤ 1 := by unfold KR; split <;> omega
def carry (A B : Nat → Nat) : Nat → Nat
 | 0 => 0
 | k + 1 => Qh (A k) (B k) (carry A B k)
def sumW (A B : Nat → Nat) (k : Nat) : Nat := QE (A k) (B k) (carry A B k)
theorem yQ {A B : Nat → Nat} (hA : ∀ i, A i < jd) (hB : ∀ i, B i < jd) : ∀ k, carry A B k ≤ 1
 | 0 => Nat.zero_le _
 | k + 1 => AV (hA k) (hB k) (yQ hA hB k)
def JS (A B : Nat → Nat) : Nat → Nat
 | 0 => 0
 | k + 1 => KR (A k) (B k) (JS A B k)
def sQ (A B : Nat → Nat) (k : Nat) : Nat := mW (A k) (B k) (JS A B k)
theorem KF (A B : Nat → Nat) : ∀ k, JS A B k ≤ 1
 | 0 => Nat.zero_le _
 | _ + 1 => subB_le _ _ _
theorem qO (x j : Nat) : jf jd x j < jd := dgt_lt qQ x j
theorem bY {a b : Nat} (ha : a < jo) (hb : b < jo) : (∀ j, j < 4 → sumW (jf jd a) (jf jd b) j = jf jd (qY a b) j) ∧ carry (jf jd a) (jf jd b) 4 = qK a b := by
 have h := sJ QF (s := sumW (jf jd a) (jf jd b)) (c := carry (jf jd a) (jf jd b)) ha hb rfl (fun j _ => uH _ _ _) (fun k _ => (Nat.mod_add_div _ jd).symm); refine ⟨fun j hj => ?_, h.2⟩; rw [← h.1, Qs (L := sumW (jf jd a) (jf jd b)) qQ (fun j _ => uH _ _ _) j hj]
theorem lW {a b : Nat} (ha : a < jo) (hb : b < jo) : (∀ j, j < 4 → sQ (jf jd a) (jf jd b) j = jf jd (Jj a b) j) ∧ JS (jf jd a) (jf jd b) 4 = zk a b := by
 have hs : ∀ k, k < 4 → sQ (jf jd a) (jf jd b) k + jf jd b k + JS (jf jd a) (jf jd b) k = jf jd a k + jd * JS (jf jd a) (jf jd b) (k + 1) := by
  intro k _; unfold sQ
  show mW _ _ _ + _ + _ = _ + jd * KR _ _ _
  have h1 := qO a k; have h2 := qO b k; have h3 := KF (jf jd a) (jf jd b) k
  generalize jf jd a k = x at *
  generalize jf jd b k = y at *
  generalize JS (jf jd a) (jf jd b) k = c at *
  unfold mW KR
  by_cases h : x < y + c
  ·rw [if_pos h, Nat.mod_eq_of_lt (by omega)]; omega
  ·rw [if_neg h, show x + jd - y - c = (x - y - c) + jd by omega, Nat.add_mod_right, Nat.mod_eq_of_lt (by omega)]; omega
 have h := LH QF (s := sQ (jf jd a) (jf jd b)) (c := JS (jf jd a) (jf jd b)) ha hb rfl (fun j _ => LU _ _ _) (KF _ _ _) hs; refine ⟨fun j hj => ?_, h.2⟩; rw [← h.1, Qs (L := sQ (jf jd a) (jf jd b)) qQ (fun j _ => LU _ _ _) j hj]
def hiW (x y : Nat) : Nat := x * y / jd
def KI (x y : Nat) : Nat := x * y % jd
def tmL (x y s m : Nat) : Nat := (x * y + s + m) % jd
def tmH (x y s m : Nat) : Nat := (x * y + s + m) / jd
theorem tm_eq (x y s m : Nat) : tmL x y s m + jd * tmH x y s m = x * y + s + m := Nat.mod_add_div _ _
theorem WF {x y s m : Nat} (hx : x < jd) (hy : y < jd) (hs : s < jd) (hm : m < jd) :
  Qh (KI x y) s 0 ≤ 1 ∧ hiW x y + Qh (KI x y) s 0 + Qh (QE (KI x y) s 0) m 0 < jd ∧ QE (QE (KI x y) s 0) m 0 = tmL x y s m ∧ hiW x y + Qh (KI x y) s 0 + Qh (QE (KI x y) s 0) m 0 = tmH x y s m := by
 have e0 : KI x y + jd * hiW x y = x * y := Nat.mod_add_div _ _; have l0 : KI x y < jd := Nat.mod_lt _ qQ; have e1 : QE (KI x y) s 0 + jd * Qh (KI x y) s 0 = KI x y + s + 0 := Nat.mod_add_div _ _; have l1 : QE (KI x y) s 0 < jd := uH _ _ _; have c1 : Qh (KI x y) s 0 ≤ 1 := AV l0 hs (by omega)
 generalize Qh (KI x y) s 0 = p at *
 generalize QE (KI x y) s 0 = q at *
 have e2 : QE q m 0 + jd * Qh q m 0 = q + m + 0 := Nat.mod_add_div _ _; have l2 : QE q m 0 < jd := uH _ _ _
 generalize Qh q m 0 = r at *
 generalize QE q m 0 = u at *
 generalize hiW x y = h at *
 generalize KI x y = l at *
 have hxy : x * y ≤ (jd - 1) * (jd - 1) := Nat.mul_le_mul (by omega) (by omega); have e : x * y + s + m = u + jd * (h + p + r) := by rw [Nat.mul_add, Nat.mul_add]; omega
 have hW : (jd - 1) * (jd - 1) + (jd - 1) + jd = jd * jd := by unfold jd; omega
 have hlt : h + p + r < jd := by
  have : jd * (h + p + r) < jd * jd := by omega
  exact Nat.lt_of_mul_lt_mul_left this
 refine ⟨c1, hlt, ?_, ?_⟩
 ·unfold tmL; rw [e, Nat.add_mul_mod_self_left, Nat.mod_eq_of_lt l2]
 ·unfold tmH; rw [e, Nat.add_mul_div_left _ _ qQ, Nat.div_eq_of_lt l2, Nat.zero_add]
theorem tmL_lt (x y s m : Nat) : tmL x y s m < jd := Nat.mod_lt _ qQ
theorem tmH_lt {x y s m : Nat} (hx : x < jd) (hy : y < jd) (hs : s < jd) (hm : m < jd) : tmH x y s m < jd := by
 have := WF hx hy hs hm; omega
theorem kQ {a b : Nat} (ha : a < jo) (hb : b < jo) (h : ∀ j, j < 4 → jf jd a j = jf jd b j) : a = b := by
 rw [← Qj ha, ← Qj hb]; exact JK h
def qL (a b : Nat) : Int := if a < b then -1 else if a = b then 0 else 1
def jX (a : Nat) : Nat := if a = 0 then 0 else a.log2 + 1
theorem zJ (a : Nat) : a < 2 ^ jX a ∧ (a ≠ 0 → 2 ^ (jX a - 1) ≤ a) := by
 unfold jX
 split
 ·rename_i h; subst h; simp
 ·rename_i h; exact ⟨Nat.lt_log2_self, fun _ => by simpa using Nat.log2_self_le h⟩
theorem IE {a n : Nat} (h1 : a < 2 ^ n) (h2 : 0 < n → 2 ^ (n - 1) ≤ a) : n = jX a := by
 obtain ⟨h3, h4⟩ := zJ a
 rcases Nat.lt_trichotomy n (jX a) with h | h | h
 ·exfalso
  have hne : a ≠ 0 := by rintro rfl; simp [jX] at h
  have := Nat.pow_le_pow_right (n := 2) (by omega) (show n ≤ jX a - 1 by omega); have := h4 hne; omega
 ·exact h
 ·exfalso
  have := Nat.pow_le_pow_right (n := 2) (by omega) (show jX a ≤ n - 1 by omega); have := h2 (by omega); omega
theorem XT {a i : Nat} (ha : a < 2 ^ (64 * i + 64)) (h : jf jd a i ≠ 0) : jX a = 64 * i + jX (jf jd a i) := by
 obtain ⟨h3, h4⟩ := zJ (jf jd a i); have h4 := h4 h
 have hpos : 0 < jX (jf jd a i) := by
  unfold jX; rw [if_neg h]; omega
 have e : jf jd a i = a / 2 ^ (64 * i) := by
  unfold jf; rw [QZ, ← Nat.pow_mul, Nat.mod_eq_of_lt]; rw [Nat.pow_add] at ha; exact Nat.div_lt_of_lt_mul ha
 rw [e] at h3 h4 hpos ⊢
 generalize jX (a / 2 ^ (64 * i)) = m at *
 have hp : 0 < 2 ^ (64 * i) := Nat.pow_pos (by omega)
 symm
 apply IE
 ·rw [Nat.pow_add]; have := (Nat.div_lt_iff_lt_mul hp).1 h3
  rwa [Nat.mul_comm] at this
 ·intro _; have := (Nat.le_div_iff_mul_le hp).1 h4; rw [show 64 * i + m - 1 = (m - 1) + 64 * i by omega, Nat.pow_add]; exact this
theorem bitsN_le {a : Nat} (ha : a < jo) : jX a ≤ 256 := by
 rcases Nat.lt_or_ge 256 (jX a) with h | h
 ·exfalso
  obtain ⟨_, h4⟩ := zJ a; have hne : a ≠ 0 := by rintro rfl; simp [jX] at h
  have := Nat.pow_le_pow_right (n := 2) (by omega) (show 256 ≤ jX a - 1 by omega); have := h4 hne; rw [dC] at ha; omega
 ·exact h
theorem JU {a k : Nat} (ha : a < jo) (h : ∀ j, k ≤ j → j < 4 → jf jd a j = 0) (hk : k ≤ 4) : a < jd ^ k := by
 have e : jT jd 4 (jf jd a) = jT jd k (jf jd a) := by
  have : ∀ n, k ≤ n → n ≤ 4 → jT jd n (jf jd a) = jT jd k (jf jd a) := by
   intro n hn
   induction n with
   | zero => intro _; rw [show k = 0 by omega]
   | succ n ih =>
    intro hn4
    by_cases hkn : k = n + 1
    ·rw [hkn]
    ·unfold jT; rw [h n (by omega) (by omega), Nat.zero_mul, Nat.add_zero, ih (by omega) (by omega)]
     cases k <;> rfl
  exact this 4 hk (Nat.le_refl _)
 rw [Qj ha] at e; rw [e]; exact Jw fun j _ => qO a j
structure Dg (y1 y0 u u1 q r : Nat) : Prop where
 sum : u = q * y1 + r
 ge : (u * 4294967296 + u1) / (y1 * 4294967296 + y0) ≤ q
 le : q ≤ 4294967297
structure Dh (y1 y0 u u1 : Nat) : Prop where
 hy1 : 2147483648 ≤ y1 ∧ y1 < 4294967296
 hy0 : y0 < 4294967296
 hu : u < y1 * 4294967296 + y0
 hu1 : u1 < 4294967296
section
variable {y1 y0 u u1 q r : Nat}
theorem Dh.pos (h : Dh y1 y0 u u1) : 0 < y1 * 4294967296 + y0 := by have := h.hy1; omega
theorem Dh.lt (h : Dh y1 y0 u u1) : (u * 4294967296 + u1) / (y1 * 4294967296 + y0) < 4294967296 := by
 rw [Nat.div_lt_iff_lt_mul h.pos]; have := h.hu; have := h.hu1; have := h.hy1; have := h.hy0; omega
theorem Dg.start (h : Dh y1 y0 u u1) : Dg y1 y0 u u1 (u / y1) (u % y1) := by
 have hy := h.hy1; have hy0 := h.hy0; have hu := h.hu; have hu1 := h.hu1; refine ⟨by rw [Nat.mul_comm]; exact (Nat.div_add_mod u y1).symm, ?_, ?_⟩
 ·have e : (u * 4294967296 + u1) / (y1 * 4294967296) = u / y1 := by
   rw [Nat.mul_comm y1, ← Nat.div_div_eq_div_mul]
   congr 1
   omega
  rw [← e]; exact Nat.div_le_div_left (by omega) (by omega)
 ·have : u / y1 < 4294967298 := by
   rw [Nat.div_lt_iff_lt_mul (by omega)]; omega
  omega
theorem Dg.prod (g : Dg y1 y0 u u1 q r) : q * (y1 * 4294967296 + y0) + 4294967296 * r = 4294967296 * u + q * y0 := by
 have := g.sum; rw [Nat.mul_add, ← Nat.mul_assoc, this]; omega
theorem Dg.down (h : Dh y1 y0 u u1) (g : Dg y1 y0 u u1 q r) (hc : 4294967296 ≤ q ∨ 4294967296 * r + u1 < q * y0) : 0 < q ∧ Dg y1 y0 u u1 (q - 1) (r + y1) := by
 have hlt : (u * 4294967296 + u1) / (y1 * 4294967296 + y0) < q := by
  rcases hc with hc | hc
  ·exact Nat.lt_of_lt_of_le h.lt hc
  ·rw [Nat.div_lt_iff_lt_mul h.pos]; have := g.prod; omega
 have hq : 0 < q := Nat.lt_of_le_of_lt (Nat.zero_le _) hlt; refine ⟨hq, ⟨?_, Nat.le_sub_one_of_lt hlt, by have := g.le; omega⟩⟩; have hs := g.sum; obtain ⟨p, rfl⟩ : ∃ p, q = p + 1 := ⟨q - 1, by omega⟩; rw [Nat.add_sub_cancel]; rw [Nat.add_mul, Nat.one_mul] at hs; omega
theorem Dg.done (h : Dh y1 y0 u u1) (g : Dg y1 y0 u u1 q r) (hc : q * y0 ≤ 4294967296 * r + u1) : q = (u * 4294967296 + u1) / (y1 * 4294967296 + y0) := by
 refine Nat.le_antisymm ?_ g.ge; rw [Nat.le_div_iff_mul_le h.pos]; have := g.prod; omega
theorem Dg.broke (h : Dh y1 y0 u u1) (g : Dg y1 y0 u u1 q r) (hq : q ≤ 4294967296) (hr : 4294967296 ≤ r) : q = (u * 4294967296 + u1) / (y1 * 4294967296 + y0) := by
 refine g.done h ?_; have h1 : q * y0 ≤ 4294967296 * y0 := Nat.mul_le_mul_right _ hq; have := h.hy0; omega
theorem Dg.small (h : Dh y1 y0 u u1) (g : Dg y1 y0 u u1 q r) : q * y0 < 18446744073709551616 := by
 have h1 : q * y0 ≤ 4294967297 * y0 := Nat.mul_le_mul_right _ g.le; have := h.hy0; omega
end
theorem DR {y u u1 u0 : Nat} (hy : 0 < y) :
  ((u * 4294967296 + u1) * 4294967296 + u0) / y = (u * 4294967296 + u1) / y * 4294967296 + ((u * 4294967296 + u1) % y * 4294967296 + u0) / y ∧
  ((u * 4294967296 + u1) * 4294967296 + u0) % y = ((u * 4294967296 + u1) % y * 4294967296 + u0) % y := by
 obtain ⟨N, hN⟩ : ∃ N, N = u * 4294967296 + u1 := ⟨_, rfl⟩; rw [← hN]
 have e : N * 4294967296 + u0 = y * (N / y * 4294967296) + (N % y * 4294967296 + u0) := by
  have := Nat.div_add_mod N y; have h2 : N * 4294967296 = (y * (N / y) + N % y) * 4294967296 := by rw [this]
  rw [h2, Nat.add_mul, Nat.mul_assoc]; omega
 constructor
 ·rw [e, Nat.mul_add_div hy]
 ·rw [e, Nat.mul_add_mod]
theorem GH (x i : Nat) : x / 2 ^ i = 2 * (x / 2 ^ (i + 1)) + x / 2 ^ i % 2 := by
 rw [Nat.pow_succ, ← Nat.div_div_eq_div_mul]; omega
theorem IU (x m i : Nat) : (2 * (x / 2 ^ (i + 1) % m) + x / 2 ^ i % 2) % m = x / 2 ^ i % m := by
 have h := GH x i
 generalize x / 2 ^ (i + 1) = y at h ⊢
 generalize x / 2 ^ i = z at h ⊢
 generalize hb : z % 2 = b at h ⊢
 rw [h, Nat.add_mod, Nat.mul_mod 2 (y % m), Nat.mod_mod, ← Nat.mul_mod, ← Nat.add_mod]
theorem dL {r b m : Nat} (hr : r < m) (hb : b ≤ 1) : (if m ≤ 2 * r + b then 2 * r + b - m else 2 * r + b) = (2 * r + b) % m := by
 split
 ·rw [Nat.mod_eq_sub_mod (by omega), Nat.mod_eq_of_lt (by omega)]
 ·rw [Nat.mod_eq_of_lt (by omega)]
theorem MV (x i : Nat) : x / jd ^ i = x / jd ^ (i + 1) * jd + x / jd ^ i % jd := by
 rw [Nat.pow_succ, ← Nat.div_div_eq_div_mul, Nat.mul_comm]; exact (Nat.div_add_mod _ _).symm
theorem WY (x m i : Nat) : (x / jd ^ (i + 1) % m * jd + x / jd ^ i % jd) % m = x / jd ^ i % m := by
 have h := MV x i
 generalize x / jd ^ (i + 1) = y at h ⊢
 generalize x / jd ^ i = z at h ⊢
 generalize hb : z % jd = b at h ⊢
 rw [h, Nat.add_mod, Nat.mul_mod (y % m), Nat.mod_mod, ← Nat.mul_mod, ← Nat.add_mod]
theorem dP {a n m i : Nat} (h : n / 2 ^ i % 2 = 0) : (a ^ (n / 2 ^ (i + 1)) % m) * (a ^ (n / 2 ^ (i + 1)) % m) % m = a ^ (n / 2 ^ i) % m := by
 have h0 := GH n i; rw [h] at h0; clear h
 generalize n / 2 ^ (i + 1) = y at h0 ⊢
 generalize n / 2 ^ i = z at h0 ⊢
 rw [h0, Nat.add_zero, Nat.two_mul, Nat.pow_add]; exact (Nat.mul_mod _ _ _).symm
theorem bP {a n m i : Nat} (h : n / 2 ^ i % 2 = 1) : (a ^ (n / 2 ^ (i + 1)) % m) * (a ^ (n / 2 ^ (i + 1)) % m) % m * a % m = a ^ (n / 2 ^ i) % m := by
 have h0 := GH n i; rw [h] at h0; clear h
 generalize n / 2 ^ (i + 1) = y at h0 ⊢
 generalize n / 2 ^ i = z at h0 ⊢
 rw [h0, Nat.pow_succ, Nat.two_mul, Nat.pow_add]
 generalize a ^ y = p
 rw [← Nat.mul_mod p p m, Nat.mul_mod (p * p % m) a, Nat.mod_mod, ← Nat.mul_mod]
theorem AQ {n : Nat} : n / 2 ^ jX n = 0 := by
 refine Nat.div_eq_of_lt ?_; unfold jX
 split
 ·omega
 ·exact Nat.lt_log2_self
theorem ch_eq {e f g : Nat} (he : e < 2 ^ 32) (hg : g < 2 ^ 32) : ((e &&& f) ^^^ ((2 ^ 32 - 1 - e) &&& g)) = (g ^^^ (e &&& (f ^^^ g))) := by
 refine Nat.eq_of_testBit_eq fun i => ?_
 have h1 : (2 ^ 32 - 1 - e).testBit i = (decide (i < 32) && !e.testBit i) := by
  rw [show 2 ^ 32 - 1 - e = 2 ^ 32 - (e + 1) by omega]; exact Nat.testBit_two_pow_sub_succ he i
 simp only [Nat.testBit_xor, Nat.testBit_and, h1]
 by_cases hi : i < 32
 ·rw [decide_eq_true hi]
  cases e.testBit i <;> cases f.testBit i <;> cases g.testBit i <;> rfl
 ·have h2 : g.testBit i = false := Nat.testBit_lt_two_pow (Nat.lt_of_lt_of_le hg (Nat.pow_le_pow_right (by decide) (by omega))); have h3 : e.testBit i = false := Nat.testBit_lt_two_pow (Nat.lt_of_lt_of_le he (Nat.pow_le_pow_right (by decide) (by omega))); rw [h2, h3, decide_eq_false hi]
  rfl
theorem maj_eq (a b c : Nat) : (((a &&& b) ||| (a &&& c)) ||| (b &&& c)) = (((a &&& b) ^^^ (a &&& c)) ^^^ (b &&& c)) := by
 refine Nat.eq_of_testBit_eq fun i => ?_
 simp only [Nat.testBit_xor, Nat.testBit_and, Nat.testBit_or]
 cases a.testBit i <;> cases b.testBit i <;> cases c.testBit i <;> rfl
theorem round_eq {x k : Nat} (hx : x < 2 ^ 32) (hk : k ≤ 32) : (x / 2 ^ k ||| x * 2 ^ (32 - k) % 2 ^ 32) = Je x k := by
 unfold Je
 have h1 : x / 2 ^ k < 2 ^ (32 - k) := by
  rw [Nat.div_lt_iff_lt_mul (Nat.two_pow_pos k), ← Nat.pow_add, show 32 - k + k = 32 by omega]; exact hx
 have h2 : x * 2 ^ (32 - k) % 2 ^ 32 = x % 2 ^ k * 2 ^ (32 - k) := by
  rw [show (2 : Nat) ^ 32 = 2 ^ k * 2 ^ (32 - k) by rw [← Nat.pow_add]; congr 1; omega, Nat.mul_mod_mul_right]
 rw [h2, Nat.or_comm, Nat.mul_comm, ← Nat.two_pow_add_eq_or_of_lt h1]; omega
end Go.Proofs.YtmijablfjigbhaaGreatDoor
