/- Book: lists of one kind are kept, one by one. -/
import Derived.Test.YtidhlbhfhfonoaaGreatDoorBkT
import Derived.Test.YtidhlbhfhfonoaaGreatDoorChg
namespace Go.Proofs.YtidhlbhfhfonoaaGreatDoor
open Go.ChangeShapes Go.WideShapes Go.ChangeAt Go.RowKit
/-- k lists of the kind f are kept, and no others. -/
structure Kf (E H : TypeId) (s f : Nat) (w : World) (base B k : Nat) (F L : Nat → Value) (N : Nat → Nat) (X : Nat → List Value) : Prop where
  fam : Fam E H s f (fun i => i + 1) w base B k k F L (fun _ => .slice none 0 0) N X
  apart : Aparts B k (F f) L
  nil : ∀ j, 1 ≤ j → j < 18 → j ≠ f → F j = .slice none 0 0
  low : base ≤ B
  short : ∀ i, i < k → N i ≤ 4000000
/-- The blocks of a book and of its lists. -/
def KfB (f B k : Nat) (F L : Nat → Value) (g : Nat) : Prop := g = B ∨ (F f).ownBlock = some g ∨ ∃ i, i < k ∧ (L i).ownBlock = some g
section
variable {E H : TypeId} {s f : Nat} {w w' : World} {base B k : Nat} {F L : Nat → Value} {N : Nat → Nat} {X : Nat → List Value}
theorem Kf.foot (h : Kf E H s f w base B k F L N X) (g : Nat) (hg : KfB f B k F L g) : base ≤ g ∧ g < w.heap.size := by
  rcases hg with rfl | hg | ⟨i, hi, hg⟩
  · exact ⟨h.low, h.fam.book.lt⟩
  · exact OwnV.lt h.fam.row g hg
  · exact OwnV.lt (h.fam.own i hi) g hg
theorem Kf.kept (h : Kf E H s f w base B k F L N X) (hb : ∀ g, KfB f B k F L g → w'.heap[g]? = w.heap[g]?) : Kf E H s f w' base B k F L N X :=
  ⟨⟨h.fam.book.kept (hb B (.inl rfl)), OwnV.block h.fam.row (fun g hg => hb g (.inr (.inl hg))), fun i hi => OwnV.block (h.fam.own i hi) (fun g hg => hb g (.inr (.inr ⟨i, hi, hg⟩)))⟩, h.apart, h.nil, h.low, h.short⟩
/-- A list more is kept. -/
theorem Kf.more (h : Kf E H s f w base B k F L N X) {v vb : Value} {n : Nat} {xs : List Value} (hv : OwnV w base E s v n xs) (hn : n ≤ 4000000) (hd : ∀ g, v.ownBlock = some g → ¬ KfB f B k F L g)
    (hb : BkAt w' B (k + 1) (fun j => if j = f then vb else F j)) (hr : OwnV w' base H 3 vb (k + 1) (hld (fun i => i + 1) (fun j => if j = k then v else L j) (fun _ => .slice none 0 0) (k + 1))) (hB : vb.ownBlock ≠ some B)
    (hk : ∀ g, g < w.heap.size → g ≠ B → (F f).ownBlock ≠ some g → w'.heap[g]? = w.heap[g]? ∧ vb.ownBlock ≠ some g) :
    Kf E H s f w' base B (k + 1) (fun j => if j = f then vb else F j) (fun j => if j = k then v else L j) (fun j => if j = k then n else N j) (fun j => if j = k then xs else X j) := by
  have hL : ∀ i, i < k → ∀ g, (L i).ownBlock = some g → w'.heap[g]? = w.heap[g]? ∧ vb.ownBlock ≠ some g := fun i hi g hg => hk g (OwnV.lt (h.fam.own i hi) g hg).2 (h.apart.one i hi g hg).1 (h.apart.one i hi g hg).2
  have hV : ∀ g, v.ownBlock = some g → w'.heap[g]? = w.heap[g]? ∧ vb.ownBlock ≠ some g := fun g hg => hk g (OwnV.lt hv g hg).2 (fun e => hd g hg (.inl e)) (fun e => hd g hg (.inr (.inl e)))
  have hff : (if f = f then vb else F f) = vb := if_pos rfl
  refine ⟨⟨hb, by rw [hff]; exact hr, fun i hi => ?_⟩, ⟨by rw [hff]; exact hB, fun i hi g hg => ?_, fun i j hi hj hij g hg => ?_⟩, fun j h1 h2 h3 => ?_, h.low, fun i hi => ?_⟩
  · by_cases e : i = k
    · simp only [if_pos e]
      exact OwnV.block hv fun g hg => (hV g hg).1
    · simp only [if_neg e]
      exact OwnV.block (h.fam.own i (by omega)) fun g hg => (hL i (by omega) g hg).1
  · rw [hff]
    by_cases e : i = k
    · simp only [if_pos e] at hg
      exact ⟨fun e9 => hd g hg (.inl e9), (hV g hg).2⟩
    · simp only [if_neg e] at hg
      exact ⟨(h.apart.one i (by omega) g hg).1, (hL i (by omega) g hg).2⟩
  · by_cases e : i = k <;> by_cases e' : j = k
    · omega
    · simp only [if_pos e] at hg
      simp only [if_neg e']
      exact fun e9 => hd g hg (.inr (.inr ⟨j, by omega, e9⟩))
    · simp only [if_neg e] at hg
      simp only [if_pos e']
      exact fun e9 => hd g e9 (.inr (.inr ⟨i, by omega, hg⟩))
    · simp only [if_neg e] at hg
      simp only [if_neg e']
      exact h.apart.two i j (by omega) (by omega) hij g hg
  · simp only [if_neg h3]
    exact h.nil j h1 h2 h3
  · by_cases e : i = k
    · simp only [if_pos e]; exact hn
    · simp only [if_neg e]; exact h.short i (by omega)
end
/-- A book of k lists of the kind f, all of whose blocks are of S. -/
def Bk (E H : TypeId) (s f : Nat) (w : World) (base B k : Nat) (S : Nat → Prop) : Prop := (∃ F L N X, Kf E H s f w base B k F L N X ∧ ∀ g, KfB f B k F L g → S g) ∧ ∀ g, S g → base ≤ g ∧ g < w.heap.size
section
variable {E H : TypeId} {s f : Nat} {w w' : World} {base B k : Nat} {S : Nat → Prop}
theorem Bk.kept (h : Bk E H s f w base B k S) (hb : ∀ g, S g → w'.heap[g]? = w.heap[g]?) (hs : w.heap.size ≤ w'.heap.size) : Bk E H s f w' base B k S := by
  obtain ⟨⟨F, L, N, X, h1, h2⟩, h3⟩ := h
  exact ⟨⟨F, L, N, X, h1.kept fun g hg => hb g (h2 g hg), h2⟩, fun g hg => ⟨(h3 g hg).1, by have := (h3 g hg).2; omega⟩⟩
theorem Bk.later (h : Bk E H s f w base B k S) (hb : Below w.heap.size w w') : Bk E H s f w' base B k S := h.kept (fun g hg => hb.block g (h.2 g hg).2) hb.size
theorem Bk.other {S' : Nat → Prop} (h : Bk E H s f w base B k S) (hc : Chg w w' S') (hd : ∀ g, S' g → ¬ S g) : Bk E H s f w' base B k S := h.kept (fun g hg => hc.block g (h.2 g hg).2 fun e => hd g e hg) hc.size
theorem Bk.wide {S' : Nat → Prop} (h : Bk E H s f w base B k S) (hS : ∀ g, S g → S' g) (hb : ∀ g, S' g → base ≤ g ∧ g < w.heap.size) : Bk E H s f w base B k S' := by
  obtain ⟨⟨F, L, N, X, h1, h2⟩, h3⟩ := h
  exact ⟨⟨F, L, N, X, h1, fun g hg => hS g (h2 g hg)⟩, hb⟩
end
abbrev bkZ : Array Value := #[.int .i64 0, .slice none 0 0, .slice none 0 0, .slice none 0 0, .slice none 0 0, .slice none 0 0, .slice none 0 0, .slice none 0 0, .slice none 0 0, .slice none 0 0, .slice none 0 0, .slice none 0 0, .slice none 0 0, .slice none 0 0, .slice none 0 0, .slice none 0 0, .slice none 0 0, .slice none 0 0]
theorem Bk.new (w : World) (t E H : TypeId) (s f : Nat) : Bk E H s f (w.alloc (.cells bkZ t)) w.heap.size w.heap.size 0 (fun g => g = w.heap.size) := by
  have h := heap_alloc_new w (.cells bkZ t)
  have hc : ∀ j, (w.alloc (.cells bkZ t)).cell? ⟨w.heap.size, j, none⟩ = bkZ[j]? := fun j => cell_of_row _ w.heap.size j bkZ t (0, 0) h
  have hb : BkAt (w.alloc (.cells bkZ t)) w.heap.size 0 (fun _ => .slice none 0 0) := by
    refine ⟨hc 0, fun j h1 h2 => ?_, fun j _ => by simp⟩
    rw [hc]
    have hj : j = 1 ∨ j = 2 ∨ j = 3 ∨ j = 4 ∨ j = 5 ∨ j = 6 ∨ j = 7 ∨ j = 8 ∨ j = 9 ∨ j = 10 ∨ j = 11 ∨ j = 12 ∨ j = 13 ∨ j = 14 ∨ j = 15 ∨ j = 16 ∨ j = 17 := by omega
    rcases hj with rfl | rfl | rfl | rfl | rfl | rfl | rfl | rfl | rfl | rfl | rfl | rfl | rfl | rfl | rfl | rfl | rfl <;> rfl
  refine ⟨⟨fun _ => .slice none 0 0, fun _ => .slice none 0 0, fun _ => 0, fun _ => [], ⟨⟨hb, ⟨rfl, .inl ⟨rfl, rfl⟩⟩, fun i hi => absurd hi (Nat.not_lt_zero _)⟩, ⟨fun e => (by simp [Value.ownBlock] at e), fun i hi => absurd hi (Nat.not_lt_zero _), fun i j hi => absurd hi (Nat.not_lt_zero _)⟩, fun _ _ _ _ => rfl, Nat.le_refl _, fun i hi => absurd hi (Nat.not_lt_zero _)⟩, fun g hg => ?_⟩, fun g hg => ?_⟩
  · rcases hg with hg | hg | ⟨i, hi, _⟩
    · exact hg
    · simp [Value.ownBlock] at hg
    · exact absurd hi (Nat.not_lt_zero _)
  · subst hg
    exact ⟨Nat.le_refl _, by simp⟩
theorem bk1_nil {w : World} {B n f : Nat} {F : Nat → Value} (h : BkAt w B n F) (hn : ∀ j, 1 ≤ j → j < 18 → j ≠ f → F j = .slice none 0 0) (j : Nat) (hj : 1 ≤ j ∧ j < 18 ∧ j ≠ f) : w.cell? ⟨B, j, none⟩ = some (.slice none 0 0) := by
  rw [h.2.1 j (by omega) hj.2.1, hn j hj.1 hj.2.1 hj.2.2]
end Go.Proofs.YtidhlbhfhfonoaaGreatDoor
