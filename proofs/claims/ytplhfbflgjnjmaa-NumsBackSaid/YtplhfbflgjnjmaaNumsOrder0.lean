/- Layer 1 (nums): the order of strings is the order of the words they are made of. No program in sight. -/
import Derived.Test.YtplhfbflgjnjmaaNumsAlive
namespace Go.Proofs.Ytplhfbflgjnjmaa

theorem u8_lt {a b : Nat} (ha : a < 256) (hb : b < 256) : (UInt8.ofNat a < UInt8.ofNat b) = (a < b) := by
  rw [UInt8.lt_iff_toNat_lt, UInt8.toNat_ofNat', UInt8.toNat_ofNat', Nat.mod_eq_of_lt ha, Nat.mod_eq_of_lt hb]
theorem u8_eq {a b : Nat} (ha : a < 256) (hb : b < 256) : (UInt8.ofNat a = UInt8.ofNat b) = (a = b) := by
  rw [← UInt8.toNat_inj, UInt8.toNat_ofNat', UInt8.toNat_ofNat', Nat.mod_eq_of_lt ha, Nat.mod_eq_of_lt hb]
theorem bytesLess_of : ∀ (l m : List Nat), Bytes l → Bytes m → Op.bytesLess (l.map UInt8.ofNat) (m.map UInt8.ofNat) = decide (l < m)
  | [], [], _, _ => by simp [Op.bytesLess]
  | [], _ :: _, _, _ => by simp [Op.bytesLess]
  | _ :: _, [], _, _ => by simp [Op.bytesLess]
  | a :: l, b :: m, ha, hb => by
    have h1 := ha a (List.mem_cons_self ..)
    have h2 := hb b (List.mem_cons_self ..)
    have ih := bytesLess_of l m (fun x hx => ha x (List.mem_cons_of_mem _ hx)) (fun x hx => hb x (List.mem_cons_of_mem _ hx))
    simp only [List.map_cons, Op.bytesLess, ih, u8_lt h1 h2]
    rw [Bool.eq_iff_iff]
    simp only [Bool.or_eq_true, Bool.and_eq_true, decide_eq_true_eq, beq_iff_eq, u8_eq h1 h2, List.cons_lt_cons_iff]
theorem strOf_toList (l : List Nat) : (strOf l).toList = l.map UInt8.ofNat := by
  unfold strOf
  rw [ByteArray.toList_mk]
theorem strOf_less (l m : List Nat) (hl : Bytes l) (hm : Bytes m) : Op.bytesLess (strOf l).toList (strOf m).toList = decide (l < m) := by
  rw [strOf_toList, strOf_toList, bytesLess_of l m hl hm]
theorem map_inj8 : ∀ (l m : List Nat), Bytes l → Bytes m → l.map UInt8.ofNat = m.map UInt8.ofNat → l = m
  | [], [], _, _, _ => rfl
  | [], _ :: _, _, _, h => by simp at h
  | _ :: _, [], _, _, h => by simp at h
  | a :: l, b :: m, ha, hb, h => by
    have h1 := ha a (List.mem_cons_self ..)
    have h2 := hb b (List.mem_cons_self ..)
    simp only [List.map_cons, List.cons.injEq] at h
    have e : a = b := by have := u8_eq h1 h2; rw [← this]; exact h.1
    rw [e, map_inj8 l m (fun x hx => ha x (List.mem_cons_of_mem _ hx)) (fun x hx => hb x (List.mem_cons_of_mem _ hx)) h.2]
theorem strOf_inj {l m : List Nat} (hl : Bytes l) (hm : Bytes m) : (strOf l = strOf m) = (l = m) := by
  refine propext ⟨fun h => ?_, fun h => by rw [h]⟩
  have h' := congrArg ByteArray.toList h
  rw [strOf_toList, strOf_toList] at h'
  exact map_inj8 l m hl hm h'
/-- One below the other, by the highest word in which they part. -/
def les (x y : Nat → Nat) : Nat → Bool
  | 0 => false
  | i + 1 => if x i = y i then les x y i else decide (x i < y i)
/-- Four words, the highest first, each in eight bytes. -/
def be4 (x : Nat → Nat) : List Nat := be 8 (x 3) ++ (be 8 (x 2) ++ (be 8 (x 1) ++ be 8 (x 0)))
theorem bytes_append {a b : List Nat} (ha : Bytes a) (hb : Bytes b) : Bytes (a ++ b) := by
  intro x hx
  rcases List.mem_append.1 hx with h | h
  · exact ha x h
  · exact hb x h
theorem be4_bytes (x : Nat → Nat) : Bytes (be4 x) :=
  bytes_append (be_bytes _ _) (bytes_append (be_bytes _ _) (bytes_append (be_bytes _ _) (be_bytes _ _)))
theorem append_lt : ∀ (a b c d : List Nat), a.length = b.length → (a ++ c < b ++ d ↔ a < b ∨ (a = b ∧ c < d))
  | [], [], c, d, _ => by simp
  | [], _ :: _, _, _, h => by simp at h
  | _ :: _, [], _, _, h => by simp at h
  | x :: a, y :: b, c, d, h => by
    have ih := append_lt a b c d (by simpa using h)
    simp only [List.cons_append, List.cons_lt_cons_iff, ih, List.cons.injEq]
    constructor
    · rintro (h | ⟨h, h' | ⟨h', h''⟩⟩)
      · exact Or.inl (Or.inl h)
      · exact Or.inl (Or.inr ⟨h, h'⟩)
      · exact Or.inr ⟨⟨h, h'⟩, h''⟩
    · rintro ((h | ⟨h, h'⟩) | ⟨⟨h, h'⟩, h''⟩)
      · exact Or.inl h
      · exact Or.inr ⟨h, Or.inl h'⟩
      · exact Or.inr ⟨h, Or.inr ⟨h', h''⟩⟩
theorem be8_lt {m n : Nat} (hm : m < 18446744073709551616) (hn : n < 18446744073709551616) : (be 8 m < be 8 n ↔ m < n) := be_lt 8 m n hm hn
theorem be8_inj {m n : Nat} (hm : m < 18446744073709551616) (hn : n < 18446744073709551616) : (be 8 m = be 8 n ↔ m = n) := by
  refine ⟨fun h => ?_, fun h => by rw [h]⟩
  have h' := congrArg num h
  rw [num_be, num_be, Nat.mod_eq_of_lt hm, Nat.mod_eq_of_lt hn] at h'
  exact h'
theorem be4_lt {x y : Nat → Nat} (hx : ∀ i, i < 4 → x i < 18446744073709551616) (hy : ∀ i, i < 4 → y i < 18446744073709551616) : decide (be4 x < be4 y) = les x y 4 := by
  have hl : ∀ m n : Nat, (be 8 m).length = (be 8 n).length := fun m n => by rw [be_length, be_length]
  have h0 := hx 0 (by omega)
  have h1 := hx 1 (by omega)
  have h2 := hx 2 (by omega)
  have h3 := hx 3 (by omega)
  have k0 := hy 0 (by omega)
  have k1 := hy 1 (by omega)
  have k2 := hy 2 (by omega)
  have k3 := hy 3 (by omega)
  unfold be4
  simp only [append_lt _ _ _ _ (hl _ _), be8_lt h0 k0, be8_lt h1 k1, be8_lt h2 k2, be8_lt h3 k3, be8_inj h1 k1, be8_inj h2 k2, be8_inj h3 k3, les]
  by_cases e3 : x 3 = y 3
  · by_cases e2 : x 2 = y 2
    · by_cases e1 : x 1 = y 1
      · by_cases e0 : x 0 = y 0
        · simp [e3, e2, e1, e0]
        · simp [e3, e2, e1, e0]
      · simp [e3, e2, e1]
    · simp [e3, e2]
  · simp [e3]
theorem be4_inj {x y : Nat → Nat} (hx : ∀ i, i < 4 → x i < 18446744073709551616) (hy : ∀ i, i < 4 → y i < 18446744073709551616) : (be4 x = be4 y) = (x 0 = y 0 ∧ x 1 = y 1 ∧ x 2 = y 2 ∧ x 3 = y 3) := by
  have hl : ∀ m n : Nat, (be 8 m).length = (be 8 n).length := fun m n => by rw [be_length, be_length]
  have h0 := hx 0 (by omega)
  have h1 := hx 1 (by omega)
  have h2 := hx 2 (by omega)
  have h3 := hx 3 (by omega)
  have k0 := hy 0 (by omega)
  have k1 := hy 1 (by omega)
  have k2 := hy 2 (by omega)
  have k3 := hy 3 (by omega)
  refine propext ⟨fun h => ?_, fun h => by unfold be4; rw [h.1, h.2.1, h.2.2.1, h.2.2.2]⟩
  unfold be4 at h
  have p3 := List.append_inj h (hl _ _)
  have p2 := List.append_inj p3.2 (hl _ _)
  have p1 := List.append_inj p2.2 (hl _ _)
  exact ⟨(be8_inj h0 k0).1 p1.2, (be8_inj h1 k1).1 p1.1, (be8_inj h2 k2).1 p2.1, (be8_inj h3 k3).1 p3.1⟩
theorem four_of_ints (x0 x1 x2 x3 : Int) (h0 : 0 ≤ x0 ∧ x0 ≤ 18446744073709551615) (h1 : 0 ≤ x1 ∧ x1 ≤ 18446744073709551615) (h2 : 0 ≤ x2 ∧ x2 ≤ 18446744073709551615) (h3 : 0 ≤ x3 ∧ x3 ≤ 18446744073709551615) :
    ∃ x : Nat → Nat, (∀ i, i < 4 → x i < 18446744073709551616) ∧ x0 = ((x 0 : Nat) : Int) ∧ x1 = ((x 1 : Nat) : Int) ∧ x2 = ((x 2 : Nat) : Int) ∧ x3 = ((x 3 : Nat) : Int) := by
  refine ⟨fun j => [x0.toNat, x1.toNat, x2.toNat, x3.toNat].getD j 0, fun j hj => ?_, by simp; omega, by simp; omega, by simp; omega, by simp; omega⟩
  have : j = 0 ∨ j = 1 ∨ j = 2 ∨ j = 3 := by omega
  rcases this with rfl | rfl | rfl | rfl <;> simp <;> omega
end Go.Proofs.Ytplhfbflgjnjmaa
