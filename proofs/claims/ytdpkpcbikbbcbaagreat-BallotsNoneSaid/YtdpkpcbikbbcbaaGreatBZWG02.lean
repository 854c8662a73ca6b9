/- Insertion sort, in plain words -/

namespace Go.Proofs.YtdpkpcbikbbcbaaGreat
def be : Nat → Nat → List Nat
 | 0, _ => []
 | k + 1, n => be k (n / 256) ++ [n % 256]
def num (l : List Nat) : Nat := l.foldl (fun n c => n * 256 + c) 0
def qo (l : List Nat) : Prop := ∀ x ∈ l, x < 256
theorem jO : ∀ (k n : Nat), (be k n).length = k
 | 0, _ => rfl
 | k + 1, n => by simp [be, jO k]
theorem qM : ∀ (k n : Nat), qo (be k n)
 | 0, _ => fun _ h => by cases h
 | k + 1, n => fun x h => by
  rcases List.mem_append.1 h with h | h
  ·exact qM k _ x h
  ·simp at h; omega
theorem be_get : ∀ (k n i : Nat) (h : i < k), (be k n)[i]'(by rw [jO]; exact h) = n / 256 ^ (k - 1 - i) % 256
 | k + 1, n, i, h => by
  simp only [be]
  by_cases hi : i = k
  ·subst hi; rw [List.getElem_append_right (by rw [jO]; exact Nat.le_refl _)]
   simp [jO]
  ·rw [List.getElem_append_left (by rw [jO]; omega), be_get k (n / 256) i (by omega), Nat.div_div_eq_div_mul, ← Nat.pow_succ', show (k - 1 - i).succ = k + 1 - 1 - i by omega]
theorem num_snoc (l : List Nat) (c : Nat) : num (l ++ [c]) = num l * 256 + c := by simp [num]
theorem num_lt : ∀ (k : Nat) (l : List Nat), l.length = k → qo l → num l < 256 ^ k
 | 0, l, hl, _ => by
  have : l = [] := List.length_eq_zero_iff.1 hl; subst this
  simp [num]
 | k + 1, l, hl, hb => by
  have hne : l ≠ [] := fun h => by subst h; simp at hl
  have hs := List.dropLast_concat_getLast hne; rw [← hs, num_snoc]; have h1 := num_lt k l.dropLast (by simp [hl]) (fun x hx => hb x ((List.dropLast_sublist l).subset hx)); have h2 := hb _ (List.getLast_mem hne); rw [Nat.pow_succ]; omega
def rotr (x k : Nat) : Nat := x / 2 ^ k + x % 2 ^ k * 2 ^ (32 - k)
theorem rotr_lt {x k : Nat} (hx : x < 2 ^ 32) (hk : k ≤ 32) : rotr x k < 2 ^ 32 := by
 unfold rotr
 have h1 : x / 2 ^ k < 2 ^ (32 - k) := by
  rw [Nat.div_lt_iff_lt_mul (Nat.two_pow_pos k), ← Nat.pow_add, show 32 - k + k = 32 by omega]; exact hx
 have h2 : x % 2 ^ k < 2 ^ k := Nat.mod_lt _ (Nat.two_pow_pos k); have h3 : (x % 2 ^ k + 1) * 2 ^ (32 - k) ≤ 2 ^ k * 2 ^ (32 - k) := Nat.mul_le_mul_right _ h2; rw [← Nat.pow_add, show k + (32 - k) = 32 by omega, Nat.succ_mul] at h3; omega
def Qy (x : Nat) (ks : List Nat) : Nat := ks.foldl (fun o k => o ^^^ rotr x k) 0
theorem mixN_snoc (x : Nat) (ks : List Nat) (k : Nat) : Qy x (ks ++ [k]) = Qy x ks ^^^ rotr x k := by unfold Qy; rw [List.foldl_append]; rfl
theorem ZX {x : Nat} (hx : x < 2 ^ 32) : ∀ {ks : List Nat}, (∀ k ∈ ks, k ≤ 32) → Qy x ks < 2 ^ 32 := by
 intro ks; unfold Qy
 generalize hz : (0 : Nat) = z
 have hz9 : z < 2 ^ 32 := by omega
 clear hz
 induction ks generalizing z with
 | nil => intro _; exact hz9
 | cons k ks ih => intro h; rw [List.foldl_cons]; exact ih _ (Nat.xor_lt_two_pow hz9 (rotr_lt hx (h k (by simp)))) (fun k hk => h k (List.mem_cons_of_mem _ hk))
def zX (l : List Nat) (i : Nat) : Nat := l.getD i 0
def swd (b : List Nat) (i : Nat) : Nat := zX b (4 * i) * 16777216 + zX b (4 * i + 1) * 65536 + zX b (4 * i + 2) * 256 + zX b (4 * i + 3)
def sgap (x y p q : Nat) : Nat := (p + q + (Qy x [7, 18] ^^^ x / 8) + (Qy y [17, 19] ^^^ y / 1024)) % 2 ^ 32
def qz (b : List Nat) : Nat → Nat → Nat
 | 0 => fun _ => 0
 | i + 1 => fun j => if j = i then (if i < 16 then swd b i else sgap (qz b i (i - 15)) (qz b i (i - 2)) (qz b i (i - 16)) (qz b i (i - 7))) else qz b i j
def shaK : List Nat := [
 0x428a2f98, 0x71374491, 0xb5c0fbcf, 0xe9b5dba5, 0x3956c25b, 0x59f111f1, 0x923f82a4, 0xab1c5ed5,
 0xd807aa98, 0x12835b01, 0x243185be, 0x550c7dc3, 0x72be5d74, 0x80deb1fe, 0x9bdc06a7, 0xc19bf174,
 0xe49b69c1, 0xefbe4786, 0x0fc19dc6, 0x240ca1cc, 0x2de92c6f, 0x4a7484aa, 0x5cb0a9dc, 0x76f988da,
 0x983e5152, 0xa831c66d, 0xb00327c8, 0xbf597fc7, 0xc6e00bf3, 0xd5a79147, 0x06ca6351, 0x14292967,
 0x27b70a85, 0x2e1b2138, 0x4d2c6dfc, 0x53380d13, 0x650a7354, 0x766a0abb, 0x81c2c92e, 0x92722c85,
 0xa2bfe8a1, 0xa81a664b, 0xc24b8b70, 0xc76c51a3, 0xd192e819, 0xd6990624, 0xf40e3585, 0x106aa070,
 0x19a4c116, 0x1e376c08, 0x2748774c, 0x34b0bcb5, 0x391c0cb3, 0x4ed8aa4a, 0x5b9cca4f, 0x682e6ff3,
 0x748f82ee, 0x78a5636f, 0x84c87814, 0x8cc70208, 0x90befffa, 0xa4506ceb, 0xbef9a3f7, 0xc67178f2]
structure S8 where
 (a b c d e f g h : Nat)
def S8.list (s : S8) : List Nat := [s.a, s.b, s.c, s.d, s.e, s.f, s.g, s.h]
def S8.Ok (s : S8) : Prop := s.a < 2 ^ 32 ∧ s.b < 2 ^ 32 ∧ s.c < 2 ^ 32 ∧ s.d < 2 ^ 32 ∧ s.e < 2 ^ 32 ∧ s.f < 2 ^ 32 ∧ s.g < 2 ^ 32 ∧ s.h < 2 ^ 32
def shaT (s : S8) (k w : Nat) : Nat := s.h + Qy s.e [6, 11, 25] + (s.g ^^^ (s.e &&& (s.f ^^^ s.g))) + k + w
def rnd (s : S8) (k w : Nat) : S8 :=
 ⟨(shaT s k w + Qy s.a [2, 13, 22] + (((s.a &&& s.b) ^^^ (s.a &&& s.c)) ^^^ (s.b &&& s.c))) % 2 ^ 32, s.a, s.b, s.c, (s.d + shaT s k w) % 2 ^ 32, s.e, s.f, s.g⟩
def rnds (b : List Nat) (s : S8) : Nat → S8
 | 0 => s
 | i + 1 => rnd (rnds b s i) (zX shaK i) (qz b 64 i)
def S8.plus (s t : S8) : S8 := ⟨(s.a + t.a) % 2 ^ 32, (s.b + t.b) % 2 ^ 32, (s.c + t.c) % 2 ^ 32, (s.d + t.d) % 2 ^ 32, (s.e + t.e) % 2 ^ 32, (s.f + t.f) % 2 ^ 32, (s.g + t.g) % 2 ^ 32, (s.h + t.h) % 2 ^ 32⟩
def takeB (s : S8) (b : List Nat) : S8 := (rnds b s 64).plus s
def begin8 : S8 := ⟨0x6a09e667, 0xbb67ae85, 0x3c6ef372, 0xa54ff53a, 0x510e527f, 0x9b05688c, 0x1f83d9ab, 0x5be0cd19⟩
def stN (l : List Nat) : Nat → S8
 | 0 => begin8
 | n + 1 => takeB (stN l n) ((l.drop (64 * n)).take 64)
theorem ZE (l m : List Nat) : ∀ n, 64 * n ≤ l.length → stN (l ++ m) n = stN l n
 | 0, _ => rfl
 | n + 1, h => by
  rw [stN, stN, ZE l m n (by omega), List.drop_append_of_le_length (by omega), List.take_append_of_le_length (by rw [List.length_drop]; omega)]
def shaZ (n : Nat) : Nat := (119 - n % 64) % 64
def shaEnd (n : Nat) : List Nat := 128 :: (List.replicate (shaZ n) 0 ++ be 8 (8 * n))
def sha8 (l : List Nat) : S8 := stN (l ++ shaEnd l.length) ((l ++ shaEnd l.length).length / 64)
def zi (l : List Nat) : List Nat := (sha8 l).list.flatMap (be 4)
theorem S8.plus_ok (s t : S8) : (s.plus t).Ok := ⟨Nat.mod_lt _ (by decide), Nat.mod_lt _ (by decide), Nat.mod_lt _ (by decide), Nat.mod_lt _ (by decide), Nat.mod_lt _ (by decide), Nat.mod_lt _ (by decide), Nat.mod_lt _ (by decide), Nat.mod_lt _ (by decide)⟩
theorem rnd_ok {s : S8} (h : s.Ok) (k w : Nat) : (rnd s k w).Ok := ⟨Nat.mod_lt _ (by decide), h.1, h.2.1, h.2.2.1, Nat.mod_lt _ (by decide), h.2.2.2.2.1, h.2.2.2.2.2.1, h.2.2.2.2.2.2.1⟩
theorem rnds_ok (b : List Nat) {s : S8} (h : s.Ok) : ∀ n, (rnds b s n).Ok
 | 0 => h
 | n + 1 => rnd_ok (rnds_ok b h n) _ _
theorem stN_ok (l : List Nat) : ∀ n, (stN l n).Ok
 | 0 => by unfold S8.Ok stN begin8; decide
 | n + 1 => S8.plus_ok _ _
theorem qp (l : List Nat) : (zi l).length = 32 := by
 unfold zi S8.list
 simp [jO]
theorem JS (l : List Nat) : qo (zi l) := by
 unfold zi; intro x hx; obtain ⟨y, _, h⟩ := List.mem_flatMap.1 hx; exact qM _ _ x h
theorem Zd {l : List Nat} (hl : qo l) (i : Nat) : zX l i < 256 := by
 unfold zX; rw [List.getD_eq_getElem?_getD]
 cases h : l[i]? with
 | none => simp
 | some x => exact hl x (List.mem_of_getElem? h)
theorem swd_lt {b : List Nat} (hb : qo b) (i : Nat) : swd b i < 2 ^ 32 := by
 unfold swd; have h0 := Zd hb (4 * i); have h1 := Zd hb (4 * i + 1); have h2 := Zd hb (4 * i + 2); have h3 := Zd hb (4 * i + 3); omega
theorem Qk {b : List Nat} (hb : qo b) : ∀ n j, qz b n j < 2 ^ 32
 | 0, _ => by unfold qz; decide
 | n + 1, j => by
  unfold qz
  split
  ·split
   ·exact swd_lt hb _
   ·exact Nat.mod_lt _ (by decide)
  ·exact Qk hb n j
theorem shaK_lt (i : Nat) : zX shaK i < 2 ^ 32 := by
 unfold zX; rw [List.getD_eq_getElem?_getD]
 cases h : shaK[i]? with
 | none => decide
 | some x => exact (by decide : ∀ x ∈ shaK, x < 2 ^ 32) x (List.mem_of_getElem? h)
theorem pow_one_mod {p g q : Nat} (hp : 1 < p) (h : g ^ q % p = 1) (k : Nat) : g ^ (q * k) % p = 1 := by
 rw [Nat.pow_mul, Nat.pow_mod, h, Nat.one_pow, Nat.mod_eq_of_lt hp]
theorem pow_red {p g q : Nat} (hp : 1 < p) (h : g ^ q % p = 1) (n : Nat) : g ^ (n % q) % p = g ^ n % p := by
 conv => rhs; rw [← Nat.div_add_mod n q, Nat.pow_add, Nat.mul_mod, pow_one_mod hp h, Nat.one_mul, Nat.mod_mod]
theorem pow_same {p g q m n : Nat} (hp : 1 < p) (h : g ^ q % p = 1) (he : m % q = n % q) : g ^ m % p = g ^ n % p := by
 rw [← pow_red hp h m, he, pow_red hp h n]
def ZK (n : Nat) : Prop := 2 ≤ n ∧ ∀ d, 2 ≤ d → d * d ≤ n → n % d ≠ 0
theorem schnorr {p g q x d c : Nat} (hp : 1 < p) (h : g ^ q % p = 1) (hc : c ≤ q) :
  (g ^ ((d + x * c % q) % q) % p) * ((g ^ x % p) ^ ((0 + q - c) % q) % p) % p = g ^ d % p := by
 rw [← Nat.pow_mod, ← Nat.pow_mul, ← Nat.mul_mod, ← Nat.pow_add]; refine pow_same hp h ?_; rw [Nat.zero_add]; obtain ⟨e, he⟩ : ∃ e, q = c + e := ⟨q - c, by omega⟩; have h1 : (d + x * c % q) % q = (d + x * c) % q := by simp [Nat.add_mod]
 have h2 : x * ((q - c) % q) % q = x * (q - c) % q := by simp [Nat.mul_mod]
 rw [Nat.add_mod, Nat.mod_mod, h1, h2, ← Nat.add_mod, show q - c = e by omega, Nat.add_assoc, ← Nat.mul_add, ← he, Nat.add_mul_mod_self_right]
namespace Bal
structure Bv where
 k : Nat
 v : Nat
 n : Nat
 s : Nat
 deriving DecidableEq
def bput (E : List Bv) (x : Bv) : List Bv := if x ∈ E then E else E ++ [x]
def kept (l : List Bv) : List Bv := l.foldl bput []
theorem mem_bput {E : List Bv} {x y : Bv} : y ∈ bput E x ↔ y ∈ E ∨ y = x := by
 unfold bput
 split
 ·rename_i h
  constructor
  ·exact Or.inl
  ·rintro (h1 | rfl)
   ·exact h1
   ·exact h
 ·simp
theorem mem_foldl_bput (l : List Bv) : ∀ (E : List Bv) (y : Bv), y ∈ l.foldl bput E ↔ y ∈ E ∨ y ∈ l := by
 induction l with
 | nil => intro E y; simp
 | cons a r ih =>
  intro E y; simp only [List.foldl_cons, ih, mem_bput, List.mem_cons]
  constructor
  ·rintro ((h | h) | h)
   ·exact Or.inl h
   ·exact Or.inr (Or.inl h)
   ·exact Or.inr (Or.inr h)
  ·rintro (h | h | h)
   ·exact Or.inl (Or.inl h)
   ·exact Or.inl (Or.inr h)
   ·exact Or.inr h
theorem mem_kept {l : List Bv} {y : Bv} : y ∈ kept l ↔ y ∈ l := by
 unfold kept; rw [mem_foldl_bput]
 simp
theorem kept_snoc (l : List Bv) (x : Bv) : kept (l ++ [x]) = bput (kept l) x := by simp [kept]
def at_ (E : List Bv) (k v n : Nat) : List Bv := E.filter fun x => x.k = k ∧ x.v = v ∧ x.n = n
theorem at_bput_same {E : List Bv} {x : Bv} (h : x ∉ at_ E x.k x.v x.n) : at_ (bput E x) x.k x.v x.n = at_ E x.k x.v x.n ++ [x] := by
 have hx : x ∉ E := fun he => h (by simp [at_, he])
 simp [at_, bput, hx, List.filter_append]
theorem at_bput_other {E : List Bv} {x : Bv} {k v n : Nat} (h : ¬(x.k = k ∧ x.v = v ∧ x.n = n)) : at_ (bput E x) k v n = at_ E k v n := by
 unfold at_ bput
 split
 ·rfl
 ·simp [List.filter_append, h]
theorem mem_at {E : List Bv} {x : Bv} {k v n : Nat} : x ∈ at_ E k v n ↔ x ∈ E ∧ x.k = k ∧ x.v = v ∧ x.n = n := by simp [at_]
def votesOf (E : List Bv) (N k v s : Nat) : List Bv := (List.range N).flatMap fun i => (at_ E k v (i + 1)).filter fun x => x.s = s
def farOf (E : List Bv) (n : Nat) : Int := E.foldl (fun m x => if x.n = n then max m (x.v : Int) else m) (-1)
theorem far_fold (n : Nat) : ∀ (E : List Bv) (m : Int), (m ≤ E.foldl (fun m x => if x.n = n then max m (x.v : Int) else m) m) ∧
  (∀ x ∈ E, x.n = n → (x.v : Int) ≤ E.foldl (fun m x => if x.n = n then max m (x.v : Int) else m) m) ∧
  (E.foldl (fun m x => if x.n = n then max m (x.v : Int) else m) m = m ∨ ∃ x ∈ E, x.n = n ∧ E.foldl (fun m x => if x.n = n then max m (x.v : Int) else m) m = x.v)
 | [], m => ⟨Int.le_refl _, by simp, Or.inl rfl⟩
 | a :: r, m => by
  obtain ⟨h1, h2, h3⟩ := far_fold n r (if a.n = n then max m (a.v : Int) else m); simp only [List.foldl_cons]; refine ⟨?_, ?_, ?_⟩
  ·refine Int.le_trans ?_ h1
   split <;> omega
  ·intro x hx hn
   rcases List.mem_cons.1 hx with rfl | hx
   ·refine Int.le_trans ?_ h1; rw [if_pos hn]; omega
   ·exact h2 x hx hn
  ·rcases h3 with h3 | ⟨x, hx, hn, h3⟩
   ·by_cases ha : a.n = n
    ·rw [if_pos ha] at h3
     by_cases hm : (a.v : Int) ≤ m
     ·left; rw [if_pos ha, h3]; omega
     ·right; exact ⟨a, List.mem_cons_self, ha, by rw [if_pos ha, h3]; omega⟩
    ·rw [if_neg ha] at h3
     left; rw [if_neg ha, h3]
   ·right; exact ⟨x, List.mem_cons_of_mem _ hx, hn, h3⟩
theorem far_ge {E : List Bv} {x : Bv} (h : x ∈ E) : (x.v : Int) ≤ farOf E x.n := (far_fold x.n E (-1)).2.1 x h rfl
theorem far_low (E : List Bv) (n : Nat) : -1 ≤ farOf E n := (far_fold n E (-1)).1
theorem far_one (E : List Bv) (n : Nat) : farOf E n = -1 ∨ ∃ x ∈ E, x.n = n ∧ farOf E n = x.v := (far_fold n E (-1)).2.2
theorem far_same {E F : List Bv} (h : ∀ x, x ∈ E ↔ x ∈ F) (n : Nat) : farOf E n = farOf F n := by
 have one : ∀ {A B : List Bv}, (∀ x, x ∈ A ↔ x ∈ B) → farOf A n ≤ farOf B n := by
  intro A B hAB
  rcases far_one A n with h1 | ⟨x, hx, hn, h1⟩
  ·rw [h1]; exact far_low B n
  ·rw [h1, ← hn]; exact far_ge ((hAB x).1 hx)
 exact Int.le_antisymm (one h) (one fun x => (h x).symm)
theorem far_bput (E : List Bv) (x : Bv) (n : Nat) : farOf (bput E x) n = if x.n = n then max (farOf E n) (x.v : Int) else farOf E n := by
 by_cases hx : x ∈ E
 ·rw [bput, if_pos hx]
  split
  ·rename_i hn
   have := far_ge hx; rw [hn] at this; omega
  ·rfl
 ·rw [bput, if_neg hx]
  simp [farOf, List.foldl_append]
end Bal
namespace Srt
def Almost (D : List Int) (i j : Nat) : Prop := (∀ p q x y, p < q → q ≤ i → p ≠ j → q ≠ j → D[p]? = some x → D[q]? = some y → x ≤ y) ∧ ∀ q x y, j < q → q ≤ i → D[j]? = some x → D[q]? = some y → x ≤ y
def Upto (D : List Int) (i : Nat) : Prop := ∀ p q x y, p < q → q < i → D[p]? = some x → D[q]? = some y → x ≤ y
theorem almost_start {D : List Int} {i : Nat} (h : Upto D i) : Almost D i i :=
 ⟨fun p q x y hpq hq _ hqi hx hy => h p q x y hpq (by omega) hx hy, fun q x y h1 h2 _ _ => by omega⟩
def swap (D : List Int) (j : Nat) (a b : Int) : List Int := (D.set j b).set (j - 1) a
theorem swap_get {D : List Int} {j : Nat} {a b : Int} (hj : 0 < j) (hl : j < D.length) (p : Nat) : (swap D j a b)[p]? = if p = j - 1 then some a else if p = j then some b else D[p]? := by
 unfold swap
 by_cases h1 : p = j - 1
 ·rw [if_pos h1, h1, List.getElem?_set_self (by simp; omega)]
 ·rw [if_neg h1, List.getElem?_set_ne (Ne.symm h1)]
  by_cases h2 : p = j
  ·rw [if_pos h2, h2, List.getElem?_set_self hl]
  ·rw [if_neg h2, List.getElem?_set_ne (Ne.symm h2)]
theorem swap_perm {D : List Int} {j : Nat} {a b : Int} (ha : D[j]? = some a) (hb : D[j - 1]? = some b) : (swap D j a b).Perm D := by
 obtain ⟨h1, rfl⟩ := List.getElem?_eq_some_iff.1 ha; obtain ⟨h2, rfl⟩ := List.getElem?_eq_some_iff.1 hb; exact List.set_set_perm h1 h2
theorem almost_swap {D : List Int} {i j : Nat} {a b : Int} (hj : 0 < j) (hji : j ≤ i) (hl : i < D.length) (ha : D[j]? = some a) (hb : D[j - 1]? = some b) (hab : a < b) (h : Almost D i j) : Almost (swap D j a b) i (j - 1) := by
 obtain ⟨h1, h2⟩ := h; have hjl : j < D.length := by omega
 refine ⟨fun p q x y hpq hq hp hqj hx hy => ?_, fun q x y hq hqi hx hy => ?_⟩
 ·rw [swap_get hj hjl] at hx hy; rw [if_neg hp] at hx; rw [if_neg hqj] at hy
  by_cases e1 : p = j
  ·subst e1; rw [if_pos rfl] at hx
   cases hx
   rw [if_neg (by omega)] at hy; exact h1 (p - 1) q b y (by omega) hq (by omega) (by omega) hb hy
  ·rw [if_neg e1] at hx
   by_cases e2 : q = j
   ·subst e2; rw [if_pos rfl] at hy
    cases hy
    exact h1 p (q - 1) x b (by omega) (by omega) (by omega) (by omega) hx hb
   ·rw [if_neg e2] at hy; exact h1 p q x y hpq hq e1 e2 hx hy
 ·rw [swap_get hj hjl, if_pos rfl] at hx
  cases hx
  rw [swap_get hj hjl, if_neg (by omega)] at hy
  by_cases e : q = j
  ·subst e; rw [if_pos rfl] at hy
   cases hy
   omega
  ·rw [if_neg e] at hy; exact h2 q a y (by omega) hqi ha hy
theorem almost_end {D : List Int} {i j : Nat} {a : Int} (ha : D[j]? = some a) (hji : j ≤ i) (hend : j = 0 ∨ ∃ b, D[j - 1]? = some b ∧ b ≤ a) (h : Almost D i j) : Upto D (i + 1) := by
 obtain ⟨h1, h2⟩ := h; intro p q x y hpq hq hx hy
 by_cases e1 : p = j
 ·subst e1; exact h2 q x y hpq (by omega) hx hy
 ·by_cases e2 : q = j
  ·subst e2; rw [ha] at hy
   cases hy
   rcases hend with h0 | ⟨b, hb, hba⟩
   ·omega
   ·by_cases e3 : p = q - 1
    ·subst e3; rw [hb] at hx
     cases hx
     exact hba
    ·exact Int.le_trans (h1 p (q - 1) x b (by omega) (by omega) e1 (by omega) hx hb) hba
  ·exact h1 p q x y hpq (by omega) e1 e2 hx hy
theorem upto_sorted {D : List Int} (h : Upto D D.length) : D.Pairwise (· ≤ ·) := by
 rw [List.pairwise_iff_getElem]; intro p q hp hq hpq; exact h p q _ _ hpq hq (List.getElem?_eq_getElem hp) (List.getElem?_eq_getElem hq)
theorem upto_one (D : List Int) : Upto D 1 := fun p q x y h1 h2 => by omega
end Srt
end Go.Proofs.YtdpkpcbikbbcbaaGreat
