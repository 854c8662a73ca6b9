/- Book: more is put behind each list. -/
import Derived.Test.YtplhfbflgjnjmaaGreatDoorBook2
namespace Go.Proofs.YtplhfbflgjnjmaaGreatDoor
open Go.ChangeShapes Go.WideShapes Go.ChangeAt Go.RowKit

theorem OwnV.block {w w' : World} {B : Nat} {e : TypeId} {size : Nat} {v : Value} {n : Nat} {xs : List Value} (h : OwnV w B e size v n xs) (hb : ∀ g, v.ownBlock = some g → w'.heap[g]? = w.heap[g]?) : OwnV w' B e size v n xs := by
  obtain ⟨h1, h2⟩ := h
  refine ⟨h1, ?_⟩
  rcases h2 with h2 | ⟨g, o, cap, cur, rfl, h4, h5, h6⟩
  · exact .inl h2
  · exact .inr ⟨g, o, cap, cur, rfl, h4, (hb g rfl).trans h5, h6⟩
theorem KAt.block {k : IntKind} {w w' : World} {v : Value} {l : List Nat} (h : KAt k w v l) (hb : ∀ g, v.ownBlock = some g → w'.heap[g]? = w.heap[g]?) : KAt k w' v l := by
  obtain ⟨ao, cap, rfl, h1, h2, h3, h4⟩ := h
  refine ⟨ao, cap, rfl, h1, h2, h3, fun h0 => ?_⟩
  obtain ⟨g, o, rfl, hc⟩ := h4 h0
  exact ⟨g, o, rfl, fun i x hx => (World.cell?_of_block (w := w) (a := ⟨g, o + i, none⟩) (hb g rfl)).trans (hc i x hx)⟩
theorem marks (i n : Nat) : cellsK .u8 (List.replicate n (i + 1)) = List.replicate n (mark i) := by
  simp only [cellsK, List.map_replicate, mark]
  rfl
theorem own_kat {w : World} {base n i : Nat} {v : Value} (h : OwnV w base 5 1 v n (List.replicate n (mark i))) : KAt .u8 w v (List.replicate n (i + 1)) :=
  Own.at_ (base := base) (by unfold Own; rw [List.length_replicate, marks]; exact h)
theorem src_one (w : World) (z : Int) (t : TypeId) : SrcV (w.alloc (.cells #[.int .u8 z] t)) 1 (.slice (some ⟨w.heap.size, 0, none⟩) 1 1) 1 [.int .u8 z] := by
  refine ⟨_, 1, rfl, rfl, one_one _, (fun h => by cases h), fun ad had j u hu => ?_⟩
  cases had
  exact one_new w _ t j u hu
theorem held_set (L G : Nat → Value) (v : Value) : ∀ {k i : Nat}, i < k → (held L G k).set (i * 3 + 1) v = held L (fun j => if j = i then v else G j) k
  | k + 1, i, h => by
    have hl := held_length L G k
    by_cases hik : i < k
    · rw [held, held, List.set_append_left _ _ (by omega), held_set L G v hik]
      simp [show ¬ k = i by omega]
    · obtain rfl : i = k := by omega
      rw [held, held, List.set_append_right _ _ (by omega), hl, show i * 3 + 1 - i * 3 = 1 by omega]
      rw [held_congr (k := i) (L' := L) (G' := fun j => if j = i then v else G j) fun j hj => ⟨rfl, by simp [show ¬ j = i by omega]⟩]
      simp
/-- Behind which lists more is put already. -/
structure Grow (w : World) (base B k : Nat) (vb : Value) (L G : Nat → Value) (N : Nat → Nat) (i : Nat) : Prop where
  book : BookAt w B k vb
  row : OwnV w base 72 3 vb k (held L G k)
  own : ∀ j, i ≤ j → j < k → OwnV w base 5 1 (L j) (N j) (List.replicate (N j) (mark j))
  done : ∀ j, j < i → j < k → KAt .u8 w (L j) (List.replicate (N j) (j + 1)) ∧ KAt .u8 w (G j) (List.replicate (N j + 40) (j + 1))
  low : ∀ j, j < k → ∀ g, (L j).ownBlock = some g → g < w.heap.size
  far : ∀ j, j < i → j < k → ∀ g, (G j).ownBlock = some g → g < w.heap.size ∧ g ≠ B ∧ vb.ownBlock ≠ some g ∧ ∀ p, i ≤ p → p < k → (L p).ownBlock ≠ some g
theorem Grow.later {w w' : World} {base B k : Nat} {vb : Value} {L G : Nat → Value} {N : Nat → Nat} {i : Nat} (h : Grow w base B k vb L G N i) (hb : Below w.heap.size w w') : Grow w' base B k vb L G N i :=
  ⟨h.book.kept (hb.block B h.book.lt), OwnV.later h.row hb, fun j h1 h2 => OwnV.later (h.own j h1 h2) hb, fun j h1 h2 => ⟨(h.done j h1 h2).1.later hb, (h.done j h1 h2).2.later hb⟩,
    fun j hj g hg => Nat.lt_of_lt_of_le (h.low j hj g hg) hb.size, fun j h1 h2 g hg => ⟨Nat.lt_of_lt_of_le (h.far j h1 h2 g hg).1 hb.size, (h.far j h1 h2 g hg).2⟩⟩
/-- One list grows. -/
theorem Grow.step {w w' : World} {base B k : Nat} {gv ov cv : Nat} {L G : Nat → Value} {N : Nat → Nat} {i : Nat} {v : Value} (h : Grow w base B k (.slice (some ⟨gv, ov, none⟩) k cv) L G N i) (ha : Aparts B k (.slice (some ⟨gv, ov, none⟩) k cv) L) (hi : i < k)
    (hsz : w.heap.size ≤ w'.heap.size) (hfr : ∀ g, g < w.heap.size → (L i).ownBlock ≠ some g → w'.heap[g]? = w.heap[g]?)
    (hv : OwnV w' base 5 1 v (N i + 40) (List.replicate (N i + 40) (mark i))) (hl : KAt .u8 w' (L i) (List.replicate (N i) (i + 1))) (hw : v.ownBlock = (L i).ownBlock ∨ ∀ g, v.ownBlock = some g → w.heap.size ≤ g) :
    Grow (w'.setCell ⟨gv, ov + i * 3 + 1, none⟩ v) base B k (.slice (some ⟨gv, ov, none⟩) k cv) L (fun j => if j = i then v else G j) N (i + 1) := by
  have hBg : gv ≠ B := fun e => ha.notB (by rw [← e]; rfl)
  have hLg : ∀ j, j < k → ∀ g, (L j).ownBlock = some g → g ≠ gv := fun j hj g hg e => (ha.one j hj g hg).2 (by rw [e]; rfl)
  have hgv : gv < w.heap.size := (OwnV.lt h.row gv rfl).2
  have hrow : OwnV w' base 72 3 (.slice (some ⟨gv, ov, none⟩) k cv) k (held L G k) := OwnV.block h.row (fun g hg => by cases hg; exact hfr gv hgv (fun e => (ha.one i hi gv e).2 rfl))
  have hB : w'.heap[B]? = w.heap[B]? := hfr B h.book.lt (fun e => (ha.one i hi B e).1 rfl)
  have hvg : ∀ g, v.ownBlock = some g → g < w'.heap.size ∧ g ≠ B ∧ g ≠ gv ∧ ∀ p, i + 1 ≤ p → p < k → (L p).ownBlock ≠ some g := by
    intro g hg
    refine ⟨(OwnV.lt hv g hg).2, ?_⟩
    rcases hw with hw | hw
    · rw [hw] at hg
      exact ⟨(ha.one i hi g hg).1, hLg i hi g hg, fun p h1 h2 => ha.two i p hi h2 (by omega) g hg⟩
    · have hge := hw g hg
      have := h.book.lt
      exact ⟨by omega, by omega, fun p h1 h2 e => by have := h.low p h2 g e; omega⟩
  have hother : ∀ g, g ≠ gv → (w'.setCell ⟨gv, ov + i * 3 + 1, none⟩ v).heap[g]? = w'.heap[g]? := fun g hg => heap_other w' _ _ g hg
  refine ⟨(h.book.kept hB).kept (hother B (fun e => hBg e.symm)), ?_, fun j h1 h2 => ?_, fun j h1 h2 => ?_, fun j hj g hg => ?_, fun j h1 h2 g hg => ?_⟩
  · have := OwnV.put hrow (j := i * 3 + 1) v
    rw [held_set L G v hi, ← Nat.add_assoc] at this
    exact this
  · refine OwnV.block (h.own j (by omega) h2) (fun g hg => ?_)
    rw [hother g (hLg j h2 g hg)]
    exact hfr g (h.low j h2 g hg) (fun e => ha.two i j hi h2 (by omega) g e hg)
  · by_cases hji : j = i
    · subst hji
      rw [if_pos rfl]
      exact ⟨hl.block (fun g hg => hother g (hLg j h2 g hg)), (own_kat hv).block (fun g hg => hother g (hvg g hg).2.2.1)⟩
    · rw [if_neg hji]
      obtain ⟨d1, d2⟩ := h.done j (by omega) h2
      refine ⟨d1.block (fun g hg => ?_), d2.block (fun g hg => ?_)⟩
      · rw [hother g (hLg j h2 g hg)]
        exact hfr g (h.low j h2 g hg) (fun e => ha.two i j hi h2 (by omega) g e hg)
      · obtain ⟨f1, f2, f3, f4⟩ := h.far j (by omega) h2 g hg
        rw [hother g (fun e => f3 (by rw [e]; rfl))]
        exact hfr g f1 (f4 i (Nat.le_refl _) hi)
  · have := h.low j hj g hg
    simp only [World.size_setCell]
    omega
  · simp only [World.size_setCell]
    by_cases hji : j = i
    · rw [if_pos hji] at hg
      obtain ⟨f1, f2, f3, f4⟩ := hvg g hg
      exact ⟨f1, f2, fun e => f3 (by cases e; rfl), f4⟩
    · rw [if_neg hji] at hg
      obtain ⟨f1, f2, f3, f4⟩ := h.far j (by omega) h2 g hg
      exact ⟨by omega, f2, f3, fun p h3 h4 => f4 p (by omega) h4⟩
end Go.Proofs.YtplhfbflgjnjmaaGreatDoor
