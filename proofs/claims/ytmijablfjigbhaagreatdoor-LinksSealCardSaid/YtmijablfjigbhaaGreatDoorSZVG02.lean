/- Layer 5 (shas), in plain words -/

namespace Go.Proofs.YtmijablfjigbhaaGreatDoor
def be : Nat → Nat → List Nat
 | 0, _ => []
 | k + 1, n => be k (n / 256) ++ [n % 256]
def ZH (l : List Nat) : Nat := l.foldl (fun n c => n * 256 + c) 0
def jM (l : List Nat) : Prop := ∀ x ∈ l, x < 256
theorem jH : ∀ (k n : Nat), (be k n).length = k
 | 0, _ => rfl
 | k + 1, n => by simp [be, jH k]
theorem zs : ∀ (k n : Nat), jM (be k n)
 | 0, _ => fun _ h => by cases h
 | k + 1, n => fun x h => by
  rcases List.mem_append.1 h with h | h
  ·exact zs k _ x h
  ·simp at h; omega
theorem aU : ∀ (k n i : Nat) (h : i < k), (be k n)[i]'(by rw [jH]; exact h) = n / 256 ^ (k - 1 - i) % 256
 | k + 1, n, i, h => by
  simp only [be]
  by_cases hi : i = k
  ·subst hi; rw [List.getElem_append_right (by rw [jH]; exact Nat.le_refl _)]
   simp [jH]
  ·rw [List.getElem_append_left (by rw [jH]; omega), aU k (n / 256) i (by omega), Nat.div_div_eq_div_mul, ← Nat.pow_succ', show (k - 1 - i).succ = k + 1 - 1 - i by omega]
theorem oI (l : List Nat) (c : Nat) : ZH (l ++ [c]) = ZH l * 256 + c := by simp [ZH]
theorem pI : ∀ (k : Nat) (l : List Nat), l.length = k → jM l → ZH l < 256 ^ k
 | 0, l, hl, _ => by
  have : l = [] := List.length_eq_zero_iff.1 hl; subst this
  simp [ZH]
 | k + 1, l, hl, hb => by
  have hne : l ≠ [] := fun h => by subst h; simp at hl
  have hs := List.dropLast_concat_getLast hne; rw [← hs, oI]; have h1 := pI k l.dropLast (by simp [hl]) (fun x hx => hb x ((List.dropLast_sublist l).subset hx)); have h2 := hb _ (List.getLast_mem hne); rw [Nat.pow_succ]; omega
def Je (x k : Nat) : Nat := x / 2 ^ k + x % 2 ^ k * 2 ^ (32 - k)
theorem zK {x k : Nat} (hx : x < 2 ^ 32) (hk : k ≤ 32) : Je x k < 2 ^ 32 := by
 unfold Je
 have h1 : x / 2 ^ k < 2 ^ (32 - k) := by
  rw [Nat.div_lt_iff_lt_mul (Nat.two_pow_pos k), ← Nat.pow_add, show 32 - k + k = 32 by omega]; exact hx
 have h2 : x % 2 ^ k < 2 ^ k := Nat.mod_lt _ (Nat.two_pow_pos k); have h3 : (x % 2 ^ k + 1) * 2 ^ (32 - k) ≤ 2 ^ k * 2 ^ (32 - k) := Nat.mul_le_mul_right _ h2; rw [← Nat.pow_add, show k + (32 - k) = 32 by omega, Nat.succ_mul] at h3; omega
def JN (x : Nat) (ks : List Nat) : Nat := ks.foldl (fun o k => o ^^^ Je x k) 0
theorem XW (x : Nat) (ks : List Nat) (k : Nat) : JN x (ks ++ [k]) = JN x ks ^^^ Je x k := by unfold JN; rw [List.foldl_append]; rfl
theorem ZZ {x : Nat} (hx : x < 2 ^ 32) : ∀ {ks : List Nat}, (∀ k ∈ ks, k ≤ 32) → JN x ks < 2 ^ 32 := by
 intro ks; unfold JN
 generalize hz : (0 : Nat) = z
 have hz9 : z < 2 ^ 32 := by omega
 clear hz
 induction ks generalizing z with
 | nil => intro _; exact hz9
 | cons k ks ih => intro h; rw [List.foldl_cons]; exact ih _ (Nat.xor_lt_two_pow hz9 (zK hx (h k (by simp)))) (fun k hk => h k (List.mem_cons_of_mem _ hk))
def qM (l : List Nat) (i : Nat) : Nat := l.getD i 0
def swd (b : List Nat) (i : Nat) : Nat := qM b (4 * i) * 16777216 + qM b (4 * i + 1) * 65536 + qM b (4 * i + 2) * 256 + qM b (4 * i + 3)
def RH (x y p q : Nat) : Nat := (p + q + (JN x [7, 18] ^^^ x / 8) + (JN y [17, 19] ^^^ y / 1024)) % 2 ^ 32
def jZ (b : List Nat) : Nat → Nat → Nat
 | 0 => fun _ => 0
 | i + 1 => fun j => if j = i then (if i < 16 then swd b i else RH (jZ b i (i - 15)) (jZ b i (i - 2)) (jZ b i (i - 16)) (jZ b i (i - 7))) else jZ b i j
def Qv : List Nat := [
 0x428a2f98, 0x71374491, 0xb5c0fbcf, 0xe9b5dba5, 0x3956c25b, 0x59f111f1, 0x923f82a4, 0xab1c5ed5,
 0xd807aa98, 0x12835b01, 0x243185be, 0x550c7dc3, 0x72be5d74, 0x80deb1fe, 0x9bdc06a7, 0xc19bf174,
 0xe49b69c1, 0xefbe4786, 0x0fc19dc6, 0x240ca1cc, 0x2de92c6f, 0x4a7484aa, 0x5cb0a9dc, 0x76f988da,
 0x983e5152, 0xa831c66d, 0xb00327c8, 0xbf597fc7, 0xc6e00bf3, 0xd5a79147, 0x06ca6351, 0x14292967,
 0x27b70a85, 0x2e1b2138, 0x4d2c6dfc, 0x53380d13, 0x650a7354, 0x766a0abb, 0x81c2c92e, 0x92722c85,
 0xa2bfe8a1, 0xa81a664b, 0xc24b8b70, 0xc76c51a3, 0xd192e819, 0xd6990624, 0xf40e3585, 0x106aa070,
 0x19a4c116, 0x1e376c08, 0x2748774c, 0x34b0bcb5, 0x391c0cb3, 0x4ed8aa4a, 0x5b9cca4f, 0x682e6ff3,
 0x748f82ee, 0x78a5636f, 0x84c87814, 0x8cc70208, 0x90befffa, 0xa4506ceb, 0xbef9a3f7, 0xc67178f2]
structure S8 where
 (a b c d e f g h : Nat)
def S8.list (s : S8) : List Nat := [s.a, s.b, s.c, s.d, s.e, s.f, s.g, s.h]
def S8.Ok (s : S8) : Prop := s.a < 2 ^ 32 ∧ s.b < 2 ^ 32 ∧ s.c < 2 ^ 32 ∧ s.d < 2 ^ 32 ∧ s.e < 2 ^ 32 ∧ s.f < 2 ^ 32 ∧ s.g < 2 ^ 32 ∧ s.h < 2 ^ 32
def shaT (s : S8) (k w : Nat) : Nat := s.h + JN s.e [6, 11, 25] + (s.g ^^^ (s.e &&& (s.f ^^^ s.g))) + k + w
def rnd (s : S8) (k w : Nat) : S8 :=
 ⟨(shaT s k w + JN s.a [2, 13, 22] + (((s.a &&& s.b) ^^^ (s.a &&& s.c)) ^^^ (s.b &&& s.c))) % 2 ^ 32, s.a, s.b, s.c, (s.d + shaT s k w) % 2 ^ 32, s.e, s.f, s.g⟩
def QJ (b : List Nat) (s : S8) : Nat → S8
 | 0 => s
 | i + 1 => rnd (QJ b s i) (qM Qv i) (jZ b 64 i)
def S8.plus (s t : S8) : S8 := ⟨(s.a + t.a) % 2 ^ 32, (s.b + t.b) % 2 ^ 32, (s.c + t.c) % 2 ^ 32, (s.d + t.d) % 2 ^ 32, (s.e + t.e) % 2 ^ 32, (s.f + t.f) % 2 ^ 32, (s.g + t.g) % 2 ^ 32, (s.h + t.h) % 2 ^ 32⟩
def QL (s : S8) (b : List Nat) : S8 := (QJ b s 64).plus s
def iC : S8 := ⟨0x6a09e667, 0xbb67ae85, 0x3c6ef372, 0xa54ff53a, 0x510e527f, 0x9b05688c, 0x1f83d9ab, 0x5be0cd19⟩
def OH (l : List Nat) : Nat → S8
 | 0 => iC
 | n + 1 => QL (OH l n) ((l.drop (64 * n)).take 64)
theorem ZE (l m : List Nat) : ∀ n, 64 * n ≤ l.length → OH (l ++ m) n = OH l n
 | 0, _ => rfl
 | n + 1, h => by
  rw [OH, OH, ZE l m n (by omega), List.drop_append_of_le_length (by omega), List.take_append_of_le_length (by rw [List.length_drop]; omega)]
def aF (n : Nat) : Nat := (119 - n % 64) % 64
def zE (n : Nat) : List Nat := 128 :: (List.replicate (aF n) 0 ++ be 8 (8 * n))
def UR (l : List Nat) : S8 := OH (l ++ zE l.length) ((l ++ zE l.length).length / 64)
def qE (l : List Nat) : List Nat := (UR l).list.flatMap (be 4)
theorem S8.plus_ok (s t : S8) : (s.plus t).Ok := ⟨Nat.mod_lt _ (by decide), Nat.mod_lt _ (by decide), Nat.mod_lt _ (by decide), Nat.mod_lt _ (by decide), Nat.mod_lt _ (by decide), Nat.mod_lt _ (by decide), Nat.mod_lt _ (by decide), Nat.mod_lt _ (by decide)⟩
theorem rnd_ok {s : S8} (h : s.Ok) (k w : Nat) : (rnd s k w).Ok := ⟨Nat.mod_lt _ (by decide), h.1, h.2.1, h.2.2.1, Nat.mod_lt _ (by decide), h.2.2.2.2.1, h.2.2.2.2.2.1, h.2.2.2.2.2.2.1⟩
theorem kH (b : List Nat) {s : S8} (h : s.Ok) : ∀ n, (QJ b s n).Ok
 | 0 => h
 | n + 1 => rnd_ok (kH b h n) _ _
theorem wM (l : List Nat) : ∀ n, (OH l n).Ok
 | 0 => by unfold S8.Ok OH iC; decide
 | n + 1 => S8.plus_ok _ _
theorem qe (l : List Nat) : (qE l).length = 32 := by
 unfold qE S8.list
 simp [jH]
theorem Jn (l : List Nat) : jM (qE l) := by
 unfold qE; intro x hx; obtain ⟨y, _, h⟩ := List.mem_flatMap.1 hx; exact zs _ _ x h
theorem Jv {l : List Nat} (hl : jM l) (i : Nat) : qM l i < 256 := by
 unfold qM; rw [List.getD_eq_getElem?_getD]
 cases h : l[i]? with
 | none => simp
 | some x => exact hl x (List.mem_of_getElem? h)
theorem swd_lt {b : List Nat} (hb : jM b) (i : Nat) : swd b i < 2 ^ 32 := by
 unfold swd; have h0 := Jv hb (4 * i); have h1 := Jv hb (4 * i + 1); have h2 := Jv hb (4 * i + 2); have h3 := Jv hb (4 * i + 3); omega
theorem zF {b : List Nat} (hb : jM b) : ∀ n j, jZ b n j < 2 ^ 32
 | 0, _ => by unfold jZ; decide
 | n + 1, j => by
  unfold jZ
  split
  ·split
   ·exact swd_lt hb _
   ·exact Nat.mod_lt _ (by decide)
  ·exact zF hb n j
theorem OU (i : Nat) : qM Qv i < 2 ^ 32 := by
 unfold qM; rw [List.getD_eq_getElem?_getD]
 cases h : Qv[i]? with
 | none => decide
 | some x => exact (by decide : ∀ x ∈ Qv, x < 2 ^ 32) x (List.mem_of_getElem? h)
end Go.Proofs.YtmijablfjigbhaaGreatDoor
