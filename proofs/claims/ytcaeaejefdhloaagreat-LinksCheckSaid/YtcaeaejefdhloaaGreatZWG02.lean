/- Layer 13 (sigs), in plain words -/

namespace Go.Proofs.YtcaeaejefdhloaaGreat
def be : Nat → Nat → List Nat
 | 0, _ => []
 | k + 1, n => be k (n / 256) ++ [n % 256]
def Zd (l : List Nat) : Nat := l.foldl (fun n c => n * 256 + c) 0
def jO (l : List Nat) : Prop := ∀ x ∈ l, x < 256
theorem jF : ∀ (k n : Nat), (be k n).length = k
 | 0, _ => rfl
 | k + 1, n => by simp [be, jF k]
theorem qS : ∀ (k n : Nat), jO (be k n)
 | 0, _ => fun _ h => by cases h
 | k + 1, n => fun x h => by
  rcases List.mem_append.1 h with h | h
  ·exact qS k _ x h
  ·simp at h; omega
theorem be_get : ∀ (k n i : Nat) (h : i < k), (be k n)[i]'(by rw [jF]; exact h) = n / 256 ^ (k - 1 - i) % 256
 | k + 1, n, i, h => by
  simp only [be]
  by_cases hi : i = k
  ·subst hi; rw [List.getElem_append_right (by rw [jF]; exact Nat.le_refl _)]
   simp [jF]
  ·rw [List.getElem_append_left (by rw [jF]; omega), be_get k (n / 256) i (by omega), Nat.div_div_eq_div_mul, ← Nat.pow_succ', show (k - 1 - i).succ = k + 1 - 1 - i by omega]
theorem num_snoc (l : List Nat) (c : Nat) : Zd (l ++ [c]) = Zd l * 256 + c := by simp [Zd]
theorem num_lt : ∀ (k : Nat) (l : List Nat), l.length = k → jO l → Zd l < 256 ^ k
 | 0, l, hl, _ => by
  have : l = [] := List.length_eq_zero_iff.1 hl; subst this
  simp [Zd]
 | k + 1, l, hl, hb => by
  have hne : l ≠ [] := fun h => by subst h; simp at hl
  have hs := List.dropLast_concat_getLast hne; rw [← hs, num_snoc]; have h1 := num_lt k l.dropLast (by simp [hl]) (fun x hx => hb x ((List.dropLast_sublist l).subset hx)); have h2 := hb _ (List.getLast_mem hne); rw [Nat.pow_succ]; omega
def zD (x k : Nat) : Nat := x / 2 ^ k + x % 2 ^ k * 2 ^ (32 - k)
theorem zp {x k : Nat} (hx : x < 2 ^ 32) (hk : k ≤ 32) : zD x k < 2 ^ 32 := by
 unfold zD
 have h1 : x / 2 ^ k < 2 ^ (32 - k) := by
  rw [Nat.div_lt_iff_lt_mul (Nat.two_pow_pos k), ← Nat.pow_add, show 32 - k + k = 32 by omega]; exact hx
 have h2 : x % 2 ^ k < 2 ^ k := Nat.mod_lt _ (Nat.two_pow_pos k); have h3 : (x % 2 ^ k + 1) * 2 ^ (32 - k) ≤ 2 ^ k * 2 ^ (32 - k) := Nat.mul_le_mul_right _ h2; rw [← Nat.pow_add, show k + (32 - k) = 32 by omega, Nat.succ_mul] at h3; omega
def Jn (x : Nat) (ks : List Nat) : Nat := ks.foldl (fun o k => o ^^^ zD x k) 0
theorem mixN_snoc (x : Nat) (ks : List Nat) (k : Nat) : Jn x (ks ++ [k]) = Jn x ks ^^^ zD x k := by unfold Jn; rw [List.foldl_append]; rfl
theorem Zf {x : Nat} (hx : x < 2 ^ 32) : ∀ {ks : List Nat}, (∀ k ∈ ks, k ≤ 32) → Jn x ks < 2 ^ 32 := by
 intro ks; unfold Jn
 generalize hz : (0 : Nat) = z
 have hz9 : z < 2 ^ 32 := by omega
 clear hz
 induction ks generalizing z with
 | nil => intro _; exact hz9
 | cons k ks ih => intro h; rw [List.foldl_cons]; exact ih _ (Nat.xor_lt_two_pow hz9 (zp hx (h k (by simp)))) (fun k hk => h k (List.mem_cons_of_mem _ hk))
def qE (l : List Nat) (i : Nat) : Nat := l.getD i 0
def swd (b : List Nat) (i : Nat) : Nat := qE b (4 * i) * 16777216 + qE b (4 * i + 1) * 65536 + qE b (4 * i + 2) * 256 + qE b (4 * i + 3)
def sgap (x y p q : Nat) : Nat := (p + q + (Jn x [7, 18] ^^^ x / 8) + (Jn y [17, 19] ^^^ y / 1024)) % 2 ^ 32
def jQ (b : List Nat) : Nat → Nat → Nat
 | 0 => fun _ => 0
 | i + 1 => fun j => if j = i then (if i < 16 then swd b i else sgap (jQ b i (i - 15)) (jQ b i (i - 2)) (jQ b i (i - 16)) (jQ b i (i - 7))) else jQ b i j
def JV : List Nat := [
 0x428a2f98, 0x71374491, 0xb5c0fbcf, 0xe9b5dba5, 0x3956c25b, 0x59f111f1, 0x923f82a4, 0xab1c5ed5,
 0xd807aa98, 0x12835b01, 0x243185be, 0x550c7dc3, 0x72be5d74, 0x80deb1fe, 0x9bdc06a7, 0xc19bf174,
 0xe49b69c1, 0xefbe4786, 0x0fc19dc6, 0x240ca1cc, 0x2de92c6f, 0x4a7484aa, 0x5cb0a9dc, 0x76f988da,
 0x983e5152, 0xa831c66d, 0xb00327c8, 0xbf597fc7, 0xc6e00bf3, 0xd5a79147, 0x06ca6351, 0x14292967,
 0x27b70a85, 0x2e1b2138, 0x4d2c6dfc, 0x53380d13, 0x650a7354, 0x766a0abb, 0x81c2c92e, 0x92722c85,
 0xa2bfe8a1, 0xa81a664b, 0xc24b8b70, 0xc76c51a3, 0xd192e819, 0xd6990624, 0xf40e3585, 0x106aa070,
 0x19a4c116, 0x1e376c08, 0x2748774c, 0x34b0bcb5, 0x391c0cb3, 0x4ed8aa4a, 0x5b9cca4f, 0x682e6ff3,
 0x748f82ee, 0x78a5636f, 0x84c87814, 0x8cc70208, 0x90befffa, 0xa4506ceb, 0xbef9a3f7, 0xc67178f2]
structure S8 where
 (a b c d e f g h : Nat)
def S8.list (s : S8) : List Nat := [s.a, s.b, s.c, s.d, s.e, s.f, s.g, s.h]
def S8.Ok (s : S8) : Prop := s.a < 2 ^ 32 ∧ s.b < 2 ^ 32 ∧ s.c < 2 ^ 32 ∧ s.d < 2 ^ 32 ∧ s.e < 2 ^ 32 ∧ s.f < 2 ^ 32 ∧ s.g < 2 ^ 32 ∧ s.h < 2 ^ 32
def shaT (s : S8) (k w : Nat) : Nat := s.h + Jn s.e [6, 11, 25] + (s.g ^^^ (s.e &&& (s.f ^^^ s.g))) + k + w
def rnd (s : S8) (k w : Nat) : S8 :=
 ⟨(shaT s k w + Jn s.a [2, 13, 22] + (((s.a &&& s.b) ^^^ (s.a &&& s.c)) ^^^ (s.b &&& s.c))) % 2 ^ 32, s.a, s.b, s.c, (s.d + shaT s k w) % 2 ^ 32, s.e, s.f, s.g⟩
def Qf (b : List Nat) (s : S8) : Nat → S8
 | 0 => s
 | i + 1 => rnd (Qf b s i) (qE JV i) (jQ b 64 i)
def S8.plus (s t : S8) : S8 := ⟨(s.a + t.a) % 2 ^ 32, (s.b + t.b) % 2 ^ 32, (s.c + t.c) % 2 ^ 32, (s.d + t.d) % 2 ^ 32, (s.e + t.e) % 2 ^ 32, (s.f + t.f) % 2 ^ 32, (s.g + t.g) % 2 ^ 32, (s.h + t.h) % 2 ^ 32⟩
def Qh (s : S8) (b : List Nat) : S8 := (Qf b s 64).plus s
def begin8 : S8 := ⟨0x6a09e667, 0xbb67ae85, 0x3c6ef372, 0xa54ff53a, 0x510e527f, 0x9b05688c, 0x1f83d9ab, 0x5be0cd19⟩
def stN (l : List Nat) : Nat → S8
 | 0 => begin8
 | n + 1 => Qh (stN l n) ((l.drop (64 * n)).take 64)
theorem QL (l m : List Nat) : ∀ n, 64 * n ≤ l.length → stN (l ++ m) n = stN l n
 | 0, _ => rfl
 | n + 1, h => by
  rw [stN, stN, QL l m n (by omega), List.drop_append_of_le_length (by omega), List.take_append_of_le_length (by rw [List.length_drop]; omega)]
def Zr (n : Nat) : Nat := (119 - n % 64) % 64
def qZ (n : Nat) : List Nat := 128 :: (List.replicate (Zr n) 0 ++ be 8 (8 * n))
def sha8 (l : List Nat) : S8 := stN (l ++ qZ l.length) ((l ++ qZ l.length).length / 64)
def qq (l : List Nat) : List Nat := (sha8 l).list.flatMap (be 4)
theorem S8.plus_ok (s t : S8) : (s.plus t).Ok := ⟨Nat.mod_lt _ (by decide), Nat.mod_lt _ (by decide), Nat.mod_lt _ (by decide), Nat.mod_lt _ (by decide), Nat.mod_lt _ (by decide), Nat.mod_lt _ (by decide), Nat.mod_lt _ (by decide), Nat.mod_lt _ (by decide)⟩
theorem rnd_ok {s : S8} (h : s.Ok) (k w : Nat) : (rnd s k w).Ok := ⟨Nat.mod_lt _ (by decide), h.1, h.2.1, h.2.2.1, Nat.mod_lt _ (by decide), h.2.2.2.2.1, h.2.2.2.2.2.1, h.2.2.2.2.2.2.1⟩
theorem ZY (b : List Nat) {s : S8} (h : s.Ok) : ∀ n, (Qf b s n).Ok
 | 0 => h
 | n + 1 => rnd_ok (ZY b h n) _ _
theorem stN_ok (l : List Nat) : ∀ n, (stN l n).Ok
 | 0 => by unfold S8.Ok stN begin8; decide
 | n + 1 => S8.plus_ok _ _
theorem jR (l : List Nat) : (qq l).length = 32 := by
 unfold qq S8.list
 simp [jF]
theorem zP (l : List Nat) : jO (qq l) := by
 unfold qq; intro x hx; obtain ⟨y, _, h⟩ := List.mem_flatMap.1 hx; exact qS _ _ x h
theorem zX {l : List Nat} (hl : jO l) (i : Nat) : qE l i < 256 := by
 unfold qE; rw [List.getD_eq_getElem?_getD]
 cases h : l[i]? with
 | none => simp
 | some x => exact hl x (List.mem_of_getElem? h)
theorem swd_lt {b : List Nat} (hb : jO b) (i : Nat) : swd b i < 2 ^ 32 := by
 unfold swd; have h0 := zX hb (4 * i); have h1 := zX hb (4 * i + 1); have h2 := zX hb (4 * i + 2); have h3 := zX hb (4 * i + 3); omega
theorem zi {b : List Nat} (hb : jO b) : ∀ n j, jQ b n j < 2 ^ 32
 | 0, _ => by unfold jQ; decide
 | n + 1, j => by
  unfold jQ
  split
  ·split
   ·exact swd_lt hb _
   ·exact Nat.mod_lt _ (by decide)
  ·exact zi hb n j
theorem shaK_lt (i : Nat) : qE JV i < 2 ^ 32 := by
 unfold qE; rw [List.getD_eq_getElem?_getD]
 cases h : JV[i]? with
 | none => decide
 | some x => exact (by decide : ∀ x ∈ JV, x < 2 ^ 32) x (List.mem_of_getElem? h)
theorem pow_one_mod {p g q : Nat} (hp : 1 < p) (h : g ^ q % p = 1) (k : Nat) : g ^ (q * k) % p = 1 := by
 rw [Nat.pow_mul, Nat.pow_mod, h, Nat.one_pow, Nat.mod_eq_of_lt hp]
theorem pow_ne {p g q : Nat} (hp : 1 < p) (hq : 0 < q) (h : g ^ q % p = 1) (n : Nat) : g ^ n % p ≠ 0 := by
 intro h0; have h1 := pow_one_mod hp h n
 have h2 : g ^ (q * n) = g ^ n * g ^ (q * n - n) := by
  rw [← Nat.pow_add]
  congr 1
  have := Nat.le_mul_of_pos_left n hq; omega
 rw [h2, Nat.mul_mod, h0, Nat.zero_mul, Nat.zero_mod] at h1; exact absurd h1 (by decide)
end Go.Proofs.YtcaeaejefdhloaaGreat
