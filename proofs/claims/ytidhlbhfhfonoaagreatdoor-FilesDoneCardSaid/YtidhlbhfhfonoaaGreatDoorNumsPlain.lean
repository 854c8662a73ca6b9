/- Layer 1 (nums), in plain words: numbers as bytes, the highest first. No program in sight. -/
namespace Go.Proofs.YtidhlbhfhfonoaaGreatDoor

/-- The lowest k bytes of n, the highest first. -/
def be : Nat → Nat → List Nat
  | 0, _ => []
  | k + 1, n => be k (n / 256) ++ [n % 256]
/-- The number that bytes are. -/
def num (l : List Nat) : Nat := l.foldl (fun n c => n * 256 + c) 0
def Bytes (l : List Nat) : Prop := ∀ x ∈ l, x < 256

theorem be_length : ∀ (k n : Nat), (be k n).length = k
  | 0, _ => rfl
  | k + 1, n => by simp [be, be_length k]
theorem be_bytes : ∀ (k n : Nat), Bytes (be k n)
  | 0, _ => fun _ h => by cases h
  | k + 1, n => fun x h => by
    rcases List.mem_append.1 h with h | h
    · exact be_bytes k _ x h
    · simp at h; omega
theorem be_get : ∀ (k n i : Nat) (h : i < k), (be k n)[i]'(by rw [be_length]; exact h) = n / 256 ^ (k - 1 - i) % 256
  | k + 1, n, i, h => by
    simp only [be]
    by_cases hi : i = k
    · subst hi
      rw [List.getElem_append_right (by rw [be_length]; exact Nat.le_refl _)]
      simp [be_length]
    · rw [List.getElem_append_left (by rw [be_length]; omega), be_get k (n / 256) i (by omega), Nat.div_div_eq_div_mul, ← Nat.pow_succ', show (k - 1 - i).succ = k + 1 - 1 - i by omega]
theorem num_snoc (l : List Nat) (c : Nat) : num (l ++ [c]) = num l * 256 + c := by simp [num]
theorem num_be : ∀ (k n : Nat), num (be k n) = n % 256 ^ k
  | 0, n => by simp [be, num, Nat.mod_one]
  | k + 1, n => by
    rw [be, num_snoc, num_be k, Nat.pow_succ', Nat.mod_mul]
    omega
theorem num_lt : ∀ (k : Nat) (l : List Nat), l.length = k → Bytes l → num l < 256 ^ k
  | 0, l, hl, _ => by
    have : l = [] := List.length_eq_zero_iff.1 hl
    subst this
    simp [num]
  | k + 1, l, hl, hb => by
    have hne : l ≠ [] := fun h => by subst h; simp at hl
    have hs := List.dropLast_concat_getLast hne
    rw [← hs, num_snoc]
    have h1 := num_lt k l.dropLast (by simp [hl]) (fun x hx => hb x ((List.dropLast_sublist l).subset hx))
    have h2 := hb _ (List.getLast_mem hne)
    rw [Nat.pow_succ]
    omega
theorem be_num : ∀ (k : Nat) (l : List Nat), l.length = k → Bytes l → be k (num l) = l
  | 0, l, hl, _ => (List.length_eq_zero_iff.1 hl).symm
  | k + 1, l, hl, hb => by
    have hne : l ≠ [] := fun h => by subst h; simp at hl
    have hs := List.dropLast_concat_getLast hne
    have h2 := hb _ (List.getLast_mem hne)
    have h3 : num l = num l.dropLast * 256 + l.getLast hne := by
      conv => lhs; rw [← hs]
      exact num_snoc _ _
    rw [be, h3, show (num l.dropLast * 256 + l.getLast hne) / 256 = num l.dropLast by omega, show (num l.dropLast * 256 + l.getLast hne) % 256 = l.getLast hne by omega, be_num k l.dropLast (by simp [hl]) (fun x hx => hb x ((List.dropLast_sublist l).subset hx)), hs]
theorem be_mod : ∀ (k n : Nat), be k (n % 256 ^ k) = be k n
  | 0, _ => rfl
  | k + 1, n => by
    have h := Nat.mod_mul (x := n) (a := 256) (b := 256 ^ k)
    rw [be, be, Nat.pow_succ', h, show (n % 256 + 256 * (n / 256 % 256 ^ k)) / 256 = n / 256 % 256 ^ k by omega, show (n % 256 + 256 * (n / 256 % 256 ^ k)) % 256 = n % 256 by omega, be_mod k]
theorem be_add (j k n : Nat) : be (j + k) n = be j (n / 256 ^ k) ++ be k n := by
  induction k generalizing n with
  | zero => simp [be]
  | succ k ih =>
    rw [← Nat.add_assoc, be, ih, be, Nat.div_div_eq_div_mul, ← Nat.pow_succ', List.append_assoc]
/-- The order of bytes is the order of numbers. -/
theorem be_lt : ∀ (k m n : Nat), m < 256 ^ k → n < 256 ^ k → (be k m < be k n ↔ m < n)
  | 0, m, n, hm, hn => by
    simp at hm hn
    subst hm hn
    simp [be]
  | k + 1, m, n, hm, hn => by
    have hm' : m / 256 < 256 ^ k := Nat.div_lt_of_lt_mul (by rw [← Nat.pow_succ']; exact hm)
    have hn' : n / 256 < 256 ^ k := Nat.div_lt_of_lt_mul (by rw [← Nat.pow_succ']; exact hn)
    have ih := be_lt k (m / 256) (n / 256) hm' hn'
    simp only [be]
    have key : ∀ (a b : List Nat), a.length = b.length → ∀ x y : Nat, (a ++ [x] < b ++ [y] ↔ a < b ∨ (a = b ∧ x < y)) := by
      intro a
      induction a with
      | nil =>
        intro b hb x y
        have : b = [] := List.length_eq_zero_iff.1 hb.symm
        subst this
        simp [List.cons_lt_cons_iff]
      | cons c a iha =>
        intro b hb x y
        cases b with
        | nil => simp at hb
        | cons d b =>
          have := iha b (by simpa using hb) x y
          simp only [List.cons_append, List.cons_lt_cons_iff, this, List.cons.injEq]
          constructor
          · rintro (h | ⟨rfl, h | ⟨rfl, h⟩⟩)
            · exact .inl (.inl h)
            · exact .inl (.inr ⟨rfl, h⟩)
            · exact .inr ⟨⟨rfl, rfl⟩, h⟩
          · rintro ((h | ⟨rfl, h⟩) | ⟨⟨rfl, rfl⟩, h⟩)
            · exact .inl h
            · exact .inr ⟨rfl, .inl h⟩
            · exact .inr ⟨rfl, .inr ⟨rfl, h⟩⟩
    rw [key _ _ (by rw [be_length, be_length]), ih]
    constructor
    · rintro (h | ⟨h, h'⟩)
      · omega
      · have : m / 256 = n / 256 := by
          have h1 := num_be k (m / 256)
          have h2 := num_be k (n / 256)
          rw [h, h2, Nat.mod_eq_of_lt hm', Nat.mod_eq_of_lt hn'] at h1
          exact h1.symm
        omega
    · intro h
      by_cases he : m / 256 = n / 256
      · exact .inr ⟨by rw [he], by omega⟩
      · exact .inl (by omega)
theorem be_inj {k m n : Nat} (hm : m < 256 ^ k) (hn : n < 256 ^ k) (h : be k m = be k n) : m = n := by
  have h1 := num_be k m
  rw [h, num_be, Nat.mod_eq_of_lt hm, Nat.mod_eq_of_lt hn] at h1
  exact h1.symm
end Go.Proofs.YtidhlbhfhfonoaaGreatDoor
