/- Insertion sort, in plain words -/

namespace Go.Proofs.YtdpkpcbikbbcbaaGreat
def be : Nat → Nat → List Nat
 | 0, _ => []
 | k + 1, n => be k (n / 256) ++ [n % 256]
def num (l : List Nat) : Nat := l.foldl (fun n c => n * 256 + c) 0
def qk (l : List Nat) : Prop := ∀ x ∈ l, x < 256
theorem jJ : ∀ (k n : Nat), (be k n).length = k
 | 0, _ => rfl
 | k + 1, n => by simp [be, jJ k]
theorem qJ : ∀ (k n : Nat), qk (be k n)
 | 0, _ => fun _ h => by cases h
 | k + 1, n => fun x h => by
  rcases List.mem_append.1 h with h | h
  ·exact qJ k _ x h
  ·simp at h; omega
theorem be_get : ∀ (k n i : Nat) (h : i < k), (be k n)[i]'(by rw [jJ]; exact h) = n / 256 ^ (k - 1 - i) % 256
 | k + 1, n, i, h => by
  simp only [be]
  by_cases hi : i = k
  ·subst hi; rw [List.getElem_append_right (by rw [jJ]; exact Nat.le_refl _)]
   simp [jJ]
  ·rw [List.getElem_append_left (by rw [jJ]; omega), be_get k (n / 256) i (by omega), Nat.div_div_eq_div_mul, ← Nat.pow_succ', show (k - 1 - i).succ = k + 1 - 1 - i by omega]
theorem num_snoc (l : List Nat) (c : Nat) : num (l ++ [c]) = num l * 256 + c := by simp [num]
theorem num_lt : ∀ (k : Nat) (l : List Nat), l.length = k → qk l → num l < 256 ^ k
 | 0, l, hl, _ => by
  have : l = [] := List.length_eq_zero_iff.1 hl; subst this
  simp [num]
 | k + 1, l, hl, hb => by
  have hne : l ≠ [] := fun h => by subst h; simp at hl
  have hs := List.dropLast_concat_getLast hne; rw [← hs, num_snoc]; have h1 := num_lt k l.dropLast (by simp [hl]) (fun x hx => hb x ((List.dropLast_sublist l).subset hx)); have h2 := hb _ (List.getLast_mem hne); rw [Nat.pow_succ]; omega
def rotr (x k : Nat) : Nat := x / 2 ^ k + x % 2 ^ k * 2 ^ (32 - k)
theorem rotr_lt {x k : Nat} (hx : x < 2 ^ 32) (hk : k ≤ 32) : rotr x k < 2 ^ 32 := by
 unfold rotr
 have h1 : x / 2 ^ k < 2 ^ (32 - k) := by
  rw [Nat.div_lt_iff_lt_mul (Nat.two_pow_pos k), ← Nat.pow_add, show 32 - k + k = 32 by omega]; exact hx
 have h2 : x % 2 ^ k < 2 ^ k := Nat.mod_lt _ (Nat.two_pow_pos k); have h3 : (x % 2 ^ k + 1) * 2 ^ (32 - k) ≤ 2 ^ k * 2 ^ (32 - k) := Nat.mul_le_mul_right _ h2; rw [← Nat.pow_add, show k + (32 - k) = 32 by omega, Nat.succ_mul] at h3; omega
def QA (x : Nat) (ks : List Nat) : Nat := ks.foldl (fun o k => o ^^^ rotr x k) 0
theorem mixN_snoc (x : Nat) (ks : List Nat) (k : Nat) : QA x (ks ++ [k]) = QA x ks ^^^ rotr x k := by unfold QA; rw [List.foldl_append]; rfl
theorem ZZ {x : Nat} (hx : x < 2 ^ 32) : ∀ {ks : List Nat}, (∀ k ∈ ks, k ≤ 32) → QA x ks < 2 ^ 32 := by
 intro ks; unfold QA
 generalize hz : (0 : Nat) = z
 have hz9 : z < 2 ^ 32 := by omega
 clear hz
 induction ks generalizing z with
 | nil => intro _; exact hz9
 | cons k ks ih => intro h; rw [List.foldl_cons]; exact ih _ (Nat.xor_lt_two_pow hz9 (rotr_lt hx (h k (by simp)))) (fun k hk => h k (List.mem_cons_of_mem _ hk))
def zU (l : List Nat) (i : Nat) : Nat := l.getD i 0
def swd (b : List Nat) (i : Nat) : Nat := zU b (4 * i) * 16777216 + zU b (4 * i + 1) * 65536 + zU b (4 * i + 2) * 256 + zU b (4 * i + 3)
def sgap (x y p q : Nat) : Nat := (p + q + (QA x [7, 18] ^^^ x / 8) + (QA y [17, 19] ^^^ y / 1024)) % 2 ^ 32
def qz (b : List Nat) : Nat → Nat → Nat
 | 0 => fun _ => 0
 | i + 1 => fun j => if j = i then (if i < 16 then swd b i else sgap (qz b i (i - 15)) (qz b i (i - 2)) (qz b i (i - 16)) (qz b i (i - 7))) else qz b i j
def shaK : List Nat := [
 0x428a2f98, 0x71374491, 0xb5c0fbcf, 0xe9b5dba5, 0x3956c25b, 0x59f111f1, 0x923f82a4, 0xab1c5ed5,
 0xd807aa98, 0x12835b01, 0x243185be, 0x550c7dc3, 0x72be5d74, 0x80deb1fe, 0x9bdc06a7, 0xc19bf174,
 0xe49b69c1, 0xefbe4786, 0x0fc19dc6, 0x240ca1cc, 0x2de92c6f, 0x4a7484aa, 0x5cb0a9dc, 0x76f988da,
 0x983e5152, 0xa831c66d, 0xb00327c8, 0xbf597fc7, 0xc6e00bf3, 0xd5a79147, 0x06ca6351, 0x14292967,
 0x27b70a85, 0x2e1b2138, 0x4d2c6dfc, 0x53380d13, 0x650a7354, 0x766a0abb, 0x81c2c92e, 0x92722c85,
 0xa2bfe8a1, 0xa81a664b, 0xc24b8b70, 0xc76c51a3, 0xd192e819, 0xd6990624, 0xf40e3585, 0x106aa070,
 0x19a4c116, 0x1e376c08, 0x2748774c, 0x34b0bcb5, 0x391c0cb3, 0x4ed8aa4a, 0x5b9cca4f, 0x682e6ff3,
 0x748f82ee, 0x78a5636f, 0x84c87814, 0x8cc70208, 0x90befffa, 0xa4506ceb, 0xbef9a3f7, 0xc67178f2]
structure S8 where
 (a b c d e f g h : Nat)
def S8.list (s : S8) : List Nat := [s.a, s.b, s.c, s.d, s.e, s.f, s.g, s.h]
def S8.Ok (s : S8) : Prop := s.a < 2 ^ 32 ∧ s.b < 2 ^ 32 ∧ s.c < 2 ^ 32 ∧ s.d < 2 ^ 32 ∧ s.e < 2 ^ 32 ∧ s.f < 2 ^ 32 ∧ s.g < 2 ^ 32 ∧ s.h < 2 ^ 32
def shaT (s : S8) (k w : Nat) : Nat := s.h + QA s.e [6, 11, 25] + (s.g ^^^ (s.e &&& (s.f ^^^ s.g))) + k + w
def rnd (s : S8) (k w : Nat) : S8 :=
 ⟨(shaT s k w + QA s.a [2, 13, 22] + (((s.a &&& s.b) ^^^ (s.a &&& s.c)) ^^^ (s.b &&& s.c))) % 2 ^ 32, s.a, s.b, s.c, (s.d + shaT s k w) % 2 ^ 32, s.e, s.f, s.g⟩
def rnds (b : List Nat) (s : S8) : Nat → S8
 | 0 => s
 | i + 1 => rnd (rnds b s i) (zU shaK i) (qz b 64 i)
def S8.plus (s t : S8) : S8 := ⟨(s.a + t.a) % 2 ^ 32, (s.b + t.b) % 2 ^ 32, (s.c + t.c) % 2 ^ 32, (s.d + t.d) % 2 ^ 32, (s.e + t.e) % 2 ^ 32, (s.f + t.f) % 2 ^ 32, (s.g + t.g) % 2 ^ 32, (s.h + t.h) % 2 ^ 32⟩
def takeB (s : S8) (b : List Nat) : S8 := (rnds b s 64).plus s
def begin8 : S8 := ⟨0x6a09e667, 0xbb67ae85, 0x3c6ef372, 0xa54ff53a, 0x510e527f, 0x9b05688c, 0x1f83d9ab, 0x5be0cd19⟩
def stN (l : List Nat) : Nat → S8
 | 0 => begin8
 | n + 1 => takeB (stN l n) ((l.drop (64 * n)).take 64)
theorem ZF (l m : List Nat) : ∀ n, 64 * n ≤ l.length → stN (l ++ m) n = stN l n
 | 0, _ => rfl
 | n + 1, h => by
  rw [stN, stN, ZF l m n (by omega), List.drop_append_of_le_length (by omega), List.take_append_of_le_length (by rw [List.length_drop]; omega)]
def shaZ (n : Nat) : Nat := (119 - n % 64) % 64
def shaEnd (n : Nat) : List Nat := 128 :: (List.replicate (shaZ n) 0 ++ be 8 (8 * n))
def sha8 (l : List Nat) : S8 := stN (l ++ shaEnd l.length) ((l ++ shaEnd l.length).length / 64)
def qW (l : List Nat) : List Nat := (sha8 l).list.flatMap (be 4)
theorem S8.plus_ok (s t : S8) : (s.plus t).Ok := ⟨Nat.mod_lt _ (by decide), Nat.mod_lt _ (by decide), Nat.mod_lt _ (by decide), Nat.mod_lt _ (by decide), Nat.mod_lt _ (by decide), Nat.mod_lt _ (by decide), Nat.mod_lt _ (by decide), Nat.mod_lt _ (by decide)⟩
theorem rnd_ok {s : S8} (h : s.Ok) (k w : Nat) : (rnd s k w).Ok := ⟨Nat.mod_lt _ (by decide), h.1, h.2.1, h.2.2.1, Nat.mod_lt _ (by decide), h.2.2.2.2.1, h.2.2.2.2.2.1, h.2.2.2.2.2.2.1⟩
theorem rnds_ok (b : List Nat) {s : S8} (h : s.Ok) : ∀ n, (rnds b s n).Ok
 | 0 => h
 | n + 1 => rnd_ok (rnds_ok b h n) _ _
theorem stN_ok (l : List Nat) : ∀ n, (stN l n).Ok
 | 0 => by unfold S8.Ok stN begin8; decide
 | n + 1 => S8.plus_ok _ _
theorem qm (l : List Nat) : (qW l).length = 32 := by
 unfold qW S8.list
 simp [jJ]
theorem JW (l : List Nat) : qk (qW l) := by
 unfold qW; intro x hx; obtain ⟨y, _, h⟩ := List.mem_flatMap.1 hx; exact qJ _ _ x h
theorem Zf {l : List Nat} (hl : qk l) (i : Nat) : zU l i < 256 := by
 unfold zU; rw [List.getD_eq_getElem?_getD]
 cases h : l[i]? with
 | none => simp
 | some x => exact hl x (List.mem_of_getElem? h)
theorem swd_lt {b : List Nat} (hb : qk b) (i : Nat) : swd b i < 2 ^ 32 := by
 unfold swd; have h0 := Zf hb (4 * i); have h1 := Zf hb (4 * i + 1); have h2 := Zf hb (4 * i + 2); have h3 := Zf hb (4 * i + 3); omega
theorem Qk {b : List Nat} (hb : qk b) : ∀ n j, qz b n j < 2 ^ 32
 | 0, _ => by unfold qz; decide
 | n + 1, j => by
  unfold qz
  split
  ·split
   ·exact swd_lt hb _
   ·exact Nat.mod_lt _ (by decide)
  ·exact Qk hb n j
theorem shaK_lt (i : Nat) : zU shaK i < 2 ^ 32 := by
 unfold zU; rw [List.getD_eq_getElem?_getD]
 cases h : shaK[i]? with
 | none => decide
 | some x => exact (by decide : ∀ x ∈ shaK, x < 2 ^ 32) x (List.mem_of_getElem? h)
theorem pow_one_mod {p g q : Nat} (hp : 1 < p) (h : g ^ q % p = 1) (k : Nat) : g ^ (q * k) % p = 1 := by
 rw [Nat.pow_mul, Nat.pow_mod, h, Nat.one_pow, Nat.mod_eq_of_lt hp]
theorem pow_red {p g q : Nat} (hp : 1 < p) (h : g ^ q % p = 1) (n : Nat) : g ^ (n % q) % p = g ^ n % p := by
 conv => rhs; rw [← Nat.div_add_mod n q, Nat.pow_add, Nat.mul_mod, pow_one_mod hp h, Nat.one_mul, Nat.mod_mod]
theorem pow_same {p g q m n : Nat} (hp : 1 < p) (h : g ^ q % p = 1) (he : m % q = n % q) : g ^ m % p = g ^ n % p := by
 rw [← pow_red hp h m, he, pow_red hp h n]
def ZM (n : Nat) : Prop := 2 ≤ n ∧ ∀ d, 2 ≤ d → d * d ≤ n → n % d ≠ 0
theorem schnorr {p g q x d c : Nat} (hp : 1 < p) (h : g ^ q % p = 1) (hc : c ≤ q) :
  (g ^ ((d + x * c % q) % q) % p) * ((g ^ x % p) ^ ((0 + q - c) % q) % p) % p = g ^ d % p := by
 rw [← Nat.pow_mod, ← Nat.pow_mul, ← Nat.mul_mod, ← Nat.pow_add]; refine pow_same hp h ?_; rw [Nat.zero_add]; obtain ⟨e, he⟩ : ∃ e, q = c + e := ⟨q - c, by omega⟩; have h1 : (d + x * c % q) % q = (d + x * c) % q := by simp [Nat.add_mod]
 have h2 : x * ((q - c) % q) % q = x * (q - c) % q := by simp [Nat.mul_mod]
 rw [Nat.add_mod, Nat.mod_mod, h1, h2, ← Nat.add_mod, show q - c = e by omega, Nat.add_assoc, ← Nat.mul_add, ← he, Nat.add_mul_mod_self_right]
namespace Bal
structure Bv where
 k : Nat
 v : Nat
 n : Nat
 s : Nat
 deriving DecidableEq
def bput (E : List Bv) (x : Bv) : List Bv := if x ∈ E then E else E ++ [x]
def kept (l : List Bv) : List Bv := l.foldl bput []
theorem mem_bput {E : List Bv} {x y : Bv} : y ∈ bput E x ↔ y ∈ E ∨ y = x := by
 unfold bput
 split
 ·rename_i h
  constructor
  ·exact Or.inl
  ·rintro (h1 | rfl)
   ·exact h1
   ·exact h
 ·simp
theorem mem_foldl_bput (l : List Bv) : ∀ (E : List Bv) (y : Bv), y ∈ l.foldl bput E ↔ y ∈ E ∨ y ∈ l := by
 induction l with
 | nil => intro E y; simp
 | cons a r ih =>
  intro E y; simp only [List.foldl_cons, ih, mem_bput, List.mem_cons]
  constructor
  ·rintro ((h | h) | h)
   ·exact Or.inl h
   ·exact Or.inr (Or.inl h)
   ·exact Or.inr (Or.inr h)
  ·rintro (h | h | h)
   ·exact Or.inl (Or.inl h)
   ·exact Or.inl (Or.inr h)
   ·exact Or.inr h
theorem mem_kept {l : List Bv} {y : Bv} : y ∈ kept l ↔ y ∈ l := by
 unfold kept; rw [mem_foldl_bput]
 simp
theorem bput_nodup {E : List Bv} (h : E.Nodup) (x : Bv) : (bput E x).Nodup := by
 unfold bput
 split
 ·exact h
 ·rename_i hx
  refine List.nodup_append.2 ⟨h, by simp, ?_⟩; intro a ha b hb; simp only [List.mem_singleton] at hb; subst hb; intro e; subst e; exact hx ha
theorem kept_nodup (l : List Bv) : (kept l).Nodup := by
 unfold kept
 suffices h : ∀ E : List Bv, E.Nodup → (l.foldl bput E).Nodup from h [] (by simp)
 induction l with
 | nil => intro E h; exact h
 | cons a r ih => intro E h; exact ih _ (bput_nodup h a)
theorem kept_snoc (l : List Bv) (x : Bv) : kept (l ++ [x]) = bput (kept l) x := by simp [kept]
def at_ (E : List Bv) (k v n : Nat) : List Bv := E.filter fun x => x.k = k ∧ x.v = v ∧ x.n = n
theorem at_bput_same {E : List Bv} {x : Bv} (h : x ∉ at_ E x.k x.v x.n) : at_ (bput E x) x.k x.v x.n = at_ E x.k x.v x.n ++ [x] := by
 have hx : x ∉ E := fun he => h (by simp [at_, he])
 simp [at_, bput, hx, List.filter_append]
theorem at_bput_other {E : List Bv} {x : Bv} {k v n : Nat} (h : ¬(x.k = k ∧ x.v = v ∧ x.n = n)) : at_ (bput E x) k v n = at_ E k v n := by
 unfold at_ bput
 split
 ·rfl
 ·simp [List.filter_append, h]
theorem mem_at {E : List Bv} {x : Bv} {k v n : Nat} : x ∈ at_ E k v n ↔ x ∈ E ∧ x.k = k ∧ x.v = v ∧ x.n = n := by simp [at_]
theorem filter_one : ∀ {l : List Bv} (y : Bv) (p : Bv → Bool), l.Nodup → (∀ x ∈ l, p x = true ↔ x = y) → l.filter p = if y ∈ l then [y] else []
 | [], y, p, _, _ => by simp
 | a :: r, y, p, hn, h => by
  have hn' := List.nodup_cons.1 hn; have hr := filter_one (l := r) y p hn'.2 (fun x hx => h x (List.mem_cons_of_mem _ hx))
  by_cases ha : a = y
  ·subst ha; have hp := (h a List.mem_cons_self).2 rfl; rw [List.filter_cons_of_pos hp, hr, if_neg hn'.1, if_pos List.mem_cons_self]
  ·have hp : ¬ p a = true := fun e => ha ((h a List.mem_cons_self).1 e)
   rw [List.filter_cons_of_neg hp, hr]; have : (y ∈ a :: r) ↔ y ∈ r := by simp [Ne.symm ha, List.mem_cons]
   simp only [this]
def votesOf (E : List Bv) (N k v s : Nat) : List Bv := (List.range N).flatMap fun i => (at_ E k v (i + 1)).filter fun x => x.s = s
theorem Qu {E : List Bv} (hE : E.Nodup) (N k v s : Nat) : votesOf E N k v s = (List.range N).flatMap fun i => if (⟨k, v, i + 1, s⟩ : Bv) ∈ E then [⟨k, v, i + 1, s⟩] else [] := by
 unfold votesOf
 congr 1
 funext i
 rw [filter_one ⟨k, v, i + 1, s⟩ _ (show (at_ E k v (i + 1)).Nodup from List.Pairwise.filter _ hE) ?_]
 ·simp [mem_at]
 ·intro x hx; rw [mem_at] at hx; obtain ⟨_, h1, h2, h3⟩ := hx
  cases x
  simp_all
def anyOf (E : List Bv) (N k v : Nat) : Nat := (List.range N).countP fun i => decide (0 < (at_ E k v (i + 1)).length)
theorem at_pos {E : List Bv} {k v n : Nat} : 0 < (at_ E k v n).length ↔ ∃ x ∈ E, x.k = k ∧ x.v = v ∧ x.n = n := by
 rw [List.length_pos_iff_exists_mem]
 constructor
 ·rintro ⟨x, hx⟩; exact ⟨x, (mem_at.1 hx).1, (mem_at.1 hx).2⟩
 ·rintro ⟨x, hx, h⟩; exact ⟨x, mem_at.2 ⟨hx, h⟩⟩
theorem anyOf_le (E : List Bv) (N k v : Nat) : anyOf E N k v ≤ N := by
 have := List.countP_le_length (l := List.range N) (p := fun i => decide (0 < (at_ E k v (i + 1)).length))
 simpa [anyOf] using this
def farOf (E : List Bv) (n : Nat) : Int := E.foldl (fun m x => if x.n = n then max m (x.v : Int) else m) (-1)
theorem far_fold (n : Nat) : ∀ (E : List Bv) (m : Int), (m ≤ E.foldl (fun m x => if x.n = n then max m (x.v : Int) else m) m) ∧
  (∀ x ∈ E, x.n = n → (x.v : Int) ≤ E.foldl (fun m x => if x.n = n then max m (x.v : Int) else m) m) ∧
  (E.foldl (fun m x => if x.n = n then max m (x.v : Int) else m) m = m ∨ ∃ x ∈ E, x.n = n ∧ E.foldl (fun m x => if x.n = n then max m (x.v : Int) else m) m = x.v)
 | [], m => ⟨Int.le_refl _, by simp, Or.inl rfl⟩
 | a :: r, m => by
  obtain ⟨h1, h2, h3⟩ := far_fold n r (if a.n = n then max m (a.v : Int) else m); simp only [List.foldl_cons]; refine ⟨?_, ?_, ?_⟩
  ·refine Int.le_trans ?_ h1
   split <;> omega
  ·intro x hx hn
   rcases List.mem_cons.1 hx with rfl | hx
   ·refine Int.le_trans ?_ h1; rw [if_pos hn]; omega
   ·exact h2 x hx hn
  ·rcases h3 with h3 | ⟨x, hx, hn, h3⟩
   ·by_cases ha : a.n = n
    ·rw [if_pos ha] at h3
     by_cases hm : (a.v : Int) ≤ m
     ·left; rw [if_pos ha, h3]; omega
     ·right; exact ⟨a, List.mem_cons_self, ha, by rw [if_pos ha, h3]; omega⟩
    ·rw [if_neg ha] at h3
     left; rw [if_neg ha, h3]
   ·right; exact ⟨x, List.mem_cons_of_mem _ hx, hn, h3⟩
theorem far_ge {E : List Bv} {x : Bv} (h : x ∈ E) : (x.v : Int) ≤ farOf E x.n := (far_fold x.n E (-1)).2.1 x h rfl
theorem far_low (E : List Bv) (n : Nat) : -1 ≤ farOf E n := (far_fold n E (-1)).1
theorem far_one (E : List Bv) (n : Nat) : farOf E n = -1 ∨ ∃ x ∈ E, x.n = n ∧ farOf E n = x.v := (far_fold n E (-1)).2.2
theorem far_same {E F : List Bv} (h : ∀ x, x ∈ E ↔ x ∈ F) (n : Nat) : farOf E n = farOf F n := by
 have one : ∀ {A B : List Bv}, (∀ x, x ∈ A ↔ x ∈ B) → farOf A n ≤ farOf B n := by
  intro A B hAB
  rcases far_one A n with h1 | ⟨x, hx, hn, h1⟩
  ·rw [h1]; exact far_low B n
  ·rw [h1, ← hn]; exact far_ge ((hAB x).1 hx)
 exact Int.le_antisymm (one h) (one fun x => (h x).symm)
theorem far_bput (E : List Bv) (x : Bv) (n : Nat) : farOf (bput E x) n = if x.n = n then max (farOf E n) (x.v : Int) else farOf E n := by
 by_cases hx : x ∈ E
 ·rw [bput, if_pos hx]
  split
  ·rename_i hn
   have := far_ge hx; rw [hn] at this; omega
  ·rfl
 ·rw [bput, if_neg hx]
  simp [farOf, List.foldl_append]
theorem count_ge {L : List Int} (hs : L.Pairwise (· ≤ ·)) (i : Nat) (hi : i < L.length) : L.length - i ≤ L.countP fun x => decide (L[i] ≤ x) := by
 have h1 : (L.drop i).countP (fun x => decide (L[i] ≤ x)) = (L.drop i).length := by
  rw [List.countP_eq_length]; intro x hx; obtain ⟨j, hj, rfl⟩ := List.getElem_of_mem hx; rw [List.getElem_drop]; simp only [decide_eq_true_eq]
  rcases Nat.eq_zero_or_pos j with rfl | hp
  ·simp
  ·exact (List.pairwise_iff_getElem.1 hs) i (i + j) hi (by simp at hj; omega) (by omega)
 have h2 := List.Sublist.countP_le (p := fun x => decide (L[i] ≤ x)) (List.drop_sublist i L); rw [h1, List.length_drop] at h2; exact h2
theorem count_gt {L : List Int} (hs : L.Pairwise (· ≤ ·)) (i : Nat) (hi : i < L.length) : L.countP (fun x => decide (L[i] < x)) ≤ L.length - (i + 1) := by
 have h0 : L.countP (fun x => decide (L[i] < x)) = (L.take (i + 1)).countP (fun x => decide (L[i] < x)) + (L.drop (i + 1)).countP (fun x => decide (L[i] < x)) := by
  rw [← List.countP_append, List.take_append_drop]
 have h1 : (L.take (i + 1)).countP (fun x => decide (L[i] < x)) = 0 := by
  rw [List.countP_eq_zero]; intro x hx; obtain ⟨j, hj, rfl⟩ := List.getElem_of_mem hx; rw [List.getElem_take]; simp only [decide_eq_true_eq]
  simp at hj
  rcases Nat.lt_or_ge j i with hp | hp
  ·have := (List.pairwise_iff_getElem.1 hs) j i (by omega) hi hp; omega
  ·have : j = i := by omega
   subst this; omega
 have h2 := List.countP_le_length (l := L.drop (i + 1)) (p := fun x => decide (L[i] < x)); rw [List.length_drop] at h2; omega
theorem flat_len (N : Nat) (c : Nat → Prop) [DecidablePred c] (f : Nat → Bv) : ((List.range N).flatMap fun i => if c i then [f i] else []).length = (List.range N).countP fun i => decide (c i) := by
 induction (List.range N) with
 | nil => rfl
 | cons a r ih =>
  rw [List.flatMap_cons, List.length_append, ih, List.countP_cons]
  by_cases h : c a <;> simp [h] <;> omega
theorem votes_len {E : List Bv} (hE : E.Nodup) (N k v s : Nat) : (votesOf E N k v s).length = (List.range N).countP fun i => decide ((⟨k, v, i + 1, s⟩ : Bv) ∈ E) := by
 rw [Qu hE, flat_len N (fun i => (⟨k, v, i + 1, s⟩ : Bv) ∈ E) (fun i => ⟨k, v, i + 1, s⟩)]
theorem both_ge {α : Type} (l : List α) (p q : α → Bool) : l.countP p + l.countP q ≤ l.length + l.countP fun x => p x && q x := by
 induction l with
 | nil => simp
 | cons a r ih =>
  simp only [List.countP_cons, List.length_cons]
  cases hp : p a <;> cases hq : q a <;> simp <;> omega
theorem mem_votes {E : List Bv} (hE : E.Nodup) {N k v s : Nat} {x : Bv} : x ∈ votesOf E N k v s ↔ x ∈ E ∧ x.k = k ∧ x.v = v ∧ x.s = s ∧ 1 ≤ x.n ∧ x.n ≤ N := by
 rw [Qu hE, List.mem_flatMap]
 constructor
 ·rintro ⟨i, hi, hx⟩; rw [List.mem_range] at hi
  split at hx
  ·rename_i he
   rw [List.mem_singleton] at hx; subst hx; exact ⟨he, rfl, rfl, rfl, by simp, by simp; omega⟩
  ·simp at hx
 ·rintro ⟨he, h1, h2, h3, h4, h5⟩; refine ⟨x.n - 1, List.mem_range.2 (by omega), ?_⟩
  have e : (⟨k, v, x.n - 1 + 1, s⟩ : Bv) = x := by
   cases x
   simp_all
  rw [e, if_pos he]
  simp
theorem one_node (N n : Nat) (hn : n < N) (c : Nat → Prop) [DecidablePred c] (f : Nat → Bv) (hf : ∀ i, (f i).n = i + 1) :
  ((List.range N).flatMap fun i => if c i then [f i] else []).countP (fun x => decide (x.n = n + 1)) = if c n then 1 else 0 := by
 have key : ∀ l : List Nat, l.Nodup → (l.flatMap fun i => if c i then [f i] else []).countP (fun x => decide (x.n = n + 1)) = if n ∈ l ∧ c n then 1 else 0 := by
  intro l
  induction l with
  | nil => intro _; simp
  | cons a r ih =>
   intro hd; have hd' := List.nodup_cons.1 hd; rw [List.flatMap_cons, List.countP_append, ih hd'.2]
   by_cases ha : a = n
   ·subst ha
    by_cases hc : c a <;> simp [hc, hf, hd'.1]
   ·have h1 : (if c a then [f a] else []).countP (fun x => decide (x.n = n + 1)) = 0 := by
     by_cases hc : c a <;> simp [hc, hf, ha]
    rw [h1, Nat.zero_add]; have h2 : (n ∈ a :: r ∧ c n) ↔ (n ∈ r ∧ c n) := by simp [List.mem_cons, Ne.symm ha]
    simp only [h2]
 rw [key _ List.nodup_range]
 simp [hn]
theorem votes_node {E : List Bv} (hE : E.Nodup) {N n : Nat} (hn : n < N) (k v s : Nat) :
  (votesOf E N k v s).countP (fun x => decide (x.n = n + 1)) = if (⟨k, v, n + 1, s⟩ : Bv) ∈ E then 1 else 0 := by
 rw [Qu hE, one_node N n hn (fun i => (⟨k, v, i + 1, s⟩ : Bv) ∈ E) (fun i => ⟨k, v, i + 1, s⟩) (fun _ => rfl)]
def ZG (E : List Bv) (N k v n : Nat) : Nat := ((List.range 4).map fun s => (votesOf E N k v s).countP fun x => decide (x.n = n)).sum
theorem two_full {E : List Bv} (hE : E.Nodup) {N f k v s t : Nat} (hst : s ≠ t) (hs : s < 4) (ht : t < 4) (h1 : (N + f) / 2 + 1 ≤ (votesOf E N k v s).length) (h2 : (N + f) / 2 + 1 ≤ (votesOf E N k v t).length) :
  f < (List.range N).countP fun i => decide (1 < ZG E N k v (i + 1)) := by
 rw [votes_len hE] at h1 h2; have h3 := both_ge (List.range N) (fun i => decide ((⟨k, v, i + 1, s⟩ : Bv) ∈ E)) (fun i => decide ((⟨k, v, i + 1, t⟩ : Bv) ∈ E)); rw [List.length_range] at h3
 have h4 : (List.range N).countP (fun i => decide ((⟨k, v, i + 1, s⟩ : Bv) ∈ E) && decide ((⟨k, v, i + 1, t⟩ : Bv) ∈ E)) ≤ (List.range N).countP fun i => decide (1 < ZG E N k v (i + 1)) := by
  refine List.countP_mono_left fun i hi h => ?_
  rw [List.mem_range] at hi; simp only [Bool.and_eq_true, decide_eq_true_eq] at h; simp only [decide_eq_true_eq]; unfold ZG; have e : ∀ s, (votesOf E N k v s).countP (fun x => decide (x.n = i + 1)) = if (⟨k, v, i + 1, s⟩ : Bv) ∈ E then 1 else 0 := fun s => votes_node hE hi k v s
  simp only [e]; have r4 : List.range 4 = [0, 1, 2, 3] := by decide
  rw [r4]; simp only [List.map_cons, List.map_nil, List.sum_cons, List.sum_nil]; have hs' : s = 0 ∨ s = 1 ∨ s = 2 ∨ s = 3 := by omega
  have ht' : t = 0 ∨ t = 1 ∨ t = 2 ∨ t = 3 := by omega
  rcases hs' with rfl | rfl | rfl | rfl <;> rcases ht' with rfl | rfl | rfl | rfl <;>
   first
   | exact absurd rfl hst
   | (rw [if_pos h.1, if_pos h.2]; split <;> split <;> omega)
   | (rw [if_pos h.2, if_pos h.1]; split <;> split <;> omega)
 omega
end Bal
namespace Srt
def Almost (D : List Int) (i j : Nat) : Prop := (∀ p q x y, p < q → q ≤ i → p ≠ j → q ≠ j → D[p]? = some x → D[q]? = some y → x ≤ y) ∧ ∀ q x y, j < q → q ≤ i → D[j]? = some x → D[q]? = some y → x ≤ y
def Upto (D : List Int) (i : Nat) : Prop := ∀ p q x y, p < q → q < i → D[p]? = some x → D[q]? = some y → x ≤ y
theorem almost_start {D : List Int} {i : Nat} (h : Upto D i) : Almost D i i :=
 ⟨fun p q x y hpq hq _ hqi hx hy => h p q x y hpq (by omega) hx hy, fun q x y h1 h2 _ _ => by omega⟩
def swap (D : List Int) (j : Nat) (a b : Int) : List Int := (D.set j b).set (j - 1) a
theorem swap_get {D : List Int} {j : Nat} {a b : Int} (hj : 0 < j) (hl : j < D.length) (p : Nat) : (swap D j a b)[p]? = if p = j - 1 then some a else if p = j then some b else D[p]? := by
 unfold swap
 by_cases h1 : p = j - 1
 ·rw [if_pos h1, h1, List.getElem?_set_self (by simp; omega)]
 ·rw [if_neg h1, List.getElem?_set_ne (Ne.symm h1)]
  by_cases h2 : p = j
  ·rw [if_pos h2, h2, List.getElem?_set_self hl]
  ·rw [if_neg h2, List.getElem?_set_ne (Ne.symm h2)]
theorem swap_perm {D : List Int} {j : Nat} {a b : Int} (ha : D[j]? = some a) (hb : D[j - 1]? = some b) : (swap D j a b).Perm D := by
 obtain ⟨h1, rfl⟩ := List.getElem?_eq_some_iff.1 ha; obtain ⟨h2, rfl⟩ := List.getElem?_eq_some_iff.1 hb; exact List.set_set_perm h1 h2
theorem almost_swap {D : List Int} {i j : Nat} {a b : Int} (hj : 0 < j) (hji : j ≤ i) (hl : i < D.length) (ha : D[j]? = some a) (hb : D[j - 1]? = some b) (hab : a < b) (h : Almost D i j) : Almost (swap D j a b) i (j - 1) := by
 obtain ⟨h1, h2⟩ := h; have hjl : j < D.length := by omega
 refine ⟨fun p q x y hpq hq hp hqj hx hy => ?_, fun q x y hq hqi hx hy => ?_⟩
 ·rw [swap_get hj hjl] at hx hy; rw [if_neg hp] at hx; rw [if_neg hqj] at hy
  by_cases e1 : p = j
  ·subst e1; rw [if_pos rfl] at hx
   cases hx
   rw [if_neg (by omega)] at hy; exact h1 (p - 1) q b y (by omega) hq (by omega) (by omega) hb hy
  ·rw [if_neg e1] at hx
   by_cases e2 : q = j
   ·subst e2; rw [if_pos rfl] at hy
    cases hy
    exact h1 p (q - 1) x b (by omega) (by omega) (by omega) (by omega) hx hb
   ·rw [if_neg e2] at hy; exact h1 p q x y hpq hq e1 e2 hx hy
 ·rw [swap_get hj hjl, if_pos rfl] at hx
  cases hx
  rw [swap_get hj hjl, if_neg (by omega)] at hy
  by_cases e : q = j
  ·subst e; rw [if_pos rfl] at hy
   cases hy
   omega
  ·rw [if_neg e] at hy; exact h2 q a y (by omega) hqi ha hy
theorem almost_end {D : List Int} {i j : Nat} {a : Int} (ha : D[j]? = some a) (hji : j ≤ i) (hend : j = 0 ∨ ∃ b, D[j - 1]? = some b ∧ b ≤ a) (h : Almost D i j) : Upto D (i + 1) := by
 obtain ⟨h1, h2⟩ := h; intro p q x y hpq hq hx hy
 by_cases e1 : p = j
 ·subst e1; exact h2 q x y hpq (by omega) hx hy
 ·by_cases e2 : q = j
  ·subst e2; rw [ha] at hy
   cases hy
   rcases hend with h0 | ⟨b, hb, hba⟩
   ·omega
   ·by_cases e3 : p = q - 1
    ·subst e3; rw [hb] at hx
     cases hx
     exact hba
    ·exact Int.le_trans (h1 p (q - 1) x b (by omega) (by omega) e1 (by omega) hx hb) hba
  ·exact h1 p q x y hpq (by omega) e1 e2 hx hy
theorem upto_sorted {D : List Int} (h : Upto D D.length) : D.Pairwise (· ≤ ·) := by
 rw [List.pairwise_iff_getElem]; intro p q hp hq hpq; exact h p q _ _ hpq hq (List.getElem?_eq_getElem hp) (List.getElem?_eq_getElem hq)
theorem upto_one (D : List Int) : Upto D 1 := fun p q x y h1 h2 => by omega
end Srt
end Go.Proofs.YtdpkpcbikbbcbaaGreat
