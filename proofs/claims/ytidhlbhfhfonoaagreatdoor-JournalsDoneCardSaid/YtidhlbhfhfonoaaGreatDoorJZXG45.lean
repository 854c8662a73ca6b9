/- Book, for lists of records: each cell becomes a slice of one byte of its own; Book: what is done with lists of records; Book: lists of bytes and lists of records are kept, and lie apart -/
import Derived.Test.YtidhlbhfhfonoaaGreatDoorJZXG04
import Derived.Test.YtidhlbhfhfonoaaGreatDoorJZXG37
import Derived.Test.YtidhlbhfhfonoaaGreatDoorJZXG38
namespace Go.Proofs.YtidhlbhfhfonoaaGreatDoor
open Go.ChangeShapes Go.WideShapes Go.ChangeAt Go.RowKit
theorem lt_heap9 {w : World} {g : Nat} {o : Obj} (h : w.heap[g]? = some o) : g < w.heap.size := (Array.getElem?_eq_some_iff.1 h).1
/-- Blocks of bytes from z on are as they were. -/
def Still (z : Nat) (w w' : World) : Prop := ∀ g c, z ≤ g → w.heap[g]? = some (.cells c 5 (0, 0)) → w'.heap[g]? = w.heap[g]?
theorem Still.refl (z : Nat) (w : World) : Still z w w := fun _ _ _ _ => rfl
theorem Still.trans {z : Nat} {w w1 w2 : World} (h : Still z w w1) (k : Still z w1 w2) : Still z w w2 := fun g c hg hc => (k g c hg (by rw [h g c hg hc]; exact hc)).trans (h g c hg hc)
theorem Still.of_below {z : Nat} {w w' : World} (hb : Below w.heap.size w w') : Still z w w' := fun g _ _ hc => hb.block g (lt_heap9 hc)
theorem Still.set {z : Nat} {w : World} {g p : Nat} {t : TypeId} {c : Array Value} (ht : t ≠ 5) (hc : w.heap[g]? = some (.cells c t (0, 0))) (u : Value) : Still z w (w.setCell ⟨g, p, none⟩ u) := fun q c' _ hq => heap_other w ⟨g, p, none⟩ u q (fun e => by
  have e' : q = g := e
  rw [e', hc] at hq
  cases hq
  exact ht rfl)
theorem Still.grown {z : Nat} {w w' : World} {v : Value} {t : TypeId} (ht : t ≠ 5) (hv : ∀ g, v.ownBlock = some g → ∃ c, w.heap[g]? = some (.cells c t (0, 0))) (hg : w.grownBy w' v.ownBlock) : Still z w w' := fun q c' _ hq => hg.block q (lt_heap9 hq) (fun e => by
  obtain ⟨c, hc⟩ := hv q e.symm
  rw [hc] at hq
  cases hq
  exact ht rfl)
theorem own_type {w : World} {base n s : Nat} {e : TypeId} {v : Value} {xs : List Value} (h : OwnV w base e s v n xs) : ∀ g, v.ownBlock = some g → ∃ c, w.heap[g]? = some (.cells c e (0, 0)) := fun g hg => by
  rcases h.2 with ⟨rfl, _⟩ | ⟨g', o, cap, cur, rfl, _, h5, _⟩
  · cases hg
  · cases hg
    exact ⟨cur, h5⟩
theorem row_ne : (58 : TypeId) ≠ 5 := by decide
theorem heldR_ne : (137 : TypeId) ≠ 5 := by decide
/-- A mark: a slice of one byte, in a block of its own from z on. -/
def Mk1 (w : World) (z m : Nat) (u : Value) : Prop := ∃ g, u = .slice (some ⟨g, 0, none⟩) 1 1 ∧ z ≤ g ∧ w.heap[g]? = some (.cells #[.int .u8 ((m % 256 : Nat) : Int)] 5 (0, 0))
theorem Mk1.kept {w w' : World} {z m : Nat} {u : Value} (h : Mk1 w z m u) (hs : Still z w w') : Mk1 w' z m u := by
  obtain ⟨g, h1, h2, h3⟩ := h
  exact ⟨g, h1, h2, (hs g _ h2 h3).trans h3⟩
def Mks (w : World) (z m : Nat) (ys : List Value) : Prop := ∀ u ∈ ys, Mk1 w z m u
theorem Mks.kept {w w' : World} {z m : Nat} {ys : List Value} (h : Mks w z m ys) (hs : Still z w w') : Mks w' z m ys := fun u hu => (h u hu).kept hs
/-- The slice v of n values reads as ys. -/
def CAt (w : World) (ys : List Value) (v : Value) (n : Nat) : Prop :=
  ys.length = n ∧ ∃ a c, v = .slice a n c ∧ n ≤ c ∧ c ≤ maxLen ∧ (0 < n → ∃ g o, a = some ⟨g, o, none⟩ ∧ ∀ p u, ys[p]? = some u → w.cell? ⟨g, o + p, none⟩ = some u)
theorem CAt.block {w w' : World} {ys : List Value} {v : Value} {n : Nat} (h : CAt w ys v n) (hb : ∀ g, v.ownBlock = some g → w'.heap[g]? = w.heap[g]?) : CAt w' ys v n := by
  obtain ⟨h0, a, c, rfl, h1, h2, h3⟩ := h
  refine ⟨h0, a, c, rfl, h1, h2, fun hp => ?_⟩
  obtain ⟨g, o, rfl, h4⟩ := h3 hp
  exact ⟨g, o, rfl, fun p u hu => (World.cell?_of_block (w := w) (a := ⟨g, _, none⟩) (hb g rfl)).trans (h4 p u hu)⟩
theorem own_cat {w : World} {base n : Nat} {E : TypeId} {ys : List Value} {v : Value} (h : OwnV w base E 1 v n ys) : CAt w ys v n := by
  refine ⟨by have := h.1; omega, ?_⟩
  rcases h.2 with ⟨rfl, rfl⟩ | ⟨g, o, cap, cur, rfl, h4, h5, h6, h7, _⟩
  · exact ⟨none, 0, rfl, Nat.le_refl _, Nat.zero_le _, fun h0 => absurd h0 (Nat.lt_irrefl _)⟩
  · refine ⟨_, cap, rfl, h6, h7, fun _ => ⟨g, o, rfl, fun p u hu => ?_⟩⟩
    have := OwnV.cells h p u hu
    rwa [Addr.add_lit] at this
/-- All of v are marks. -/
def MkAt (w : World) (z m : Nat) (v : Value) (n : Nat) : Prop := ∃ ys, CAt w ys v n ∧ Mks w z m ys
theorem MkAt.block {w w' : World} {z m : Nat} {v : Value} {n : Nat} (h : MkAt w z m v n) (hb : ∀ g, v.ownBlock = some g → w'.heap[g]? = w.heap[g]?) (hs : Still z w w') : MkAt w' z m v n := by
  obtain ⟨ys, h1, h2⟩ := h
  exact ⟨ys, h1.block hb, h2.kept hs⟩
theorem MkAt.sl {w : World} {z m : Nat} {v : Value} {n : Nat} (h : MkAt w z m v n) : ∃ a c, v = .slice a n c ∧ n ≤ c ∧ c ≤ maxLen := by
  obtain ⟨ys, ⟨_, a, c, h1, h2, h3, _⟩, _⟩ := h
  exact ⟨a, c, h1, h2, h3⟩
theorem MkAt.cell {w : World} {z m : Nat} {a : Option Addr} {n c p : Nat} (h : MkAt w z m (.slice a n c) n) (hp : p < n) : ∃ g o x, a = some ⟨g, o, none⟩ ∧ w.cell? ⟨g, o + p, none⟩ = some (.slice (some ⟨x, 0, none⟩) 1 1) ∧ z ≤ x ∧ w.cell? ⟨x, 0, none⟩ = some (.int .u8 ((m % 256 : Nat) : Int)) := by
  obtain ⟨ys, ⟨h0, ao, cap, e, _, _, h4⟩, hm⟩ := h
  cases e
  obtain ⟨g, o, rfl, hc⟩ := h4 (by omega)
  have hl : p < ys.length := by omega
  obtain ⟨x, hx, hz, hb⟩ := hm ys[p] (List.getElem_mem hl)
  exact ⟨g, o, x, rfl, by rw [← hx]; exact hc p _ (List.getElem?_eq_getElem hl), hz, cell_of_row _ x 0 _ _ (0, 0) hb⟩
def OwnM (w : World) (base z m : Nat) (v : Value) (n : Nat) : Prop := ∃ xs, OwnV w base 58 1 v n xs ∧ Mks w z m xs
theorem OwnM.block {w w' : World} {base z m : Nat} {v : Value} {n : Nat} (h : OwnM w base z m v n) (hb : ∀ g, v.ownBlock = some g → w'.heap[g]? = w.heap[g]?) (hs : Still z w w') : OwnM w' base z m v n := by
  obtain ⟨xs, h1, h2⟩ := h
  exact ⟨xs, OwnV.block h1 hb, h2.kept hs⟩
theorem OwnM.at_ {w : World} {base z m : Nat} {v : Value} {n : Nat} (h : OwnM w base z m v n) : MkAt w z m v n := by
  obtain ⟨xs, h1, h2⟩ := h
  exact ⟨xs, own_cat h1, h2⟩
/-- Behind which lists more is put already. -/
structure GrowR (M : Nat → Nat) (z0 z : Nat) (w : World) (base B n k : Nat) (F L G : Nat → Value) (N : Nat → Nat) (i : Nat) : Prop where
  book : BkAt w B n F
  row : OwnV w base 137 3 (F 17) k (hld M L G k)
  own : ∀ j, i ≤ j → j < k → OwnM w base z0 (M j) (L j) (N j)
  done : ∀ j, j < i → j < k → MkAt w z0 (M j) (L j) (N j) ∧ MkAt w z0 (M j) (G j) (N j + 40)
  low : ∀ j, j < k → ∀ g, (L j).ownBlock = some g → g < w.heap.size
  far : ∀ j, j < i → j < k → ∀ g, (G j).ownBlock = some g → g < w.heap.size ∧ g ≠ B ∧ (F 17).ownBlock ≠ some g ∧ ∀ p, i ≤ p → p < k → (L p).ownBlock ≠ some g
  new : ∀ j, j < i → j < k → ∀ g, (G j).ownBlock = some g → (L j).ownBlock = some g ∨ z ≤ g
  zz : z ≤ w.heap.size
section
variable {M : Nat → Nat} {z0 z : Nat} {w w' : World} {base B n k : Nat} {F L G : Nat → Value} {N : Nat → Nat} {i : Nat}
theorem GrowR.kept (h : GrowR M z0 z w base B n k F L G N i) (hs : w.heap.size ≤ w'.heap.size) (hB : w'.heap[B]? = w.heap[B]?) (hr : ∀ g, (F 17).ownBlock = some g → w'.heap[g]? = w.heap[g]?)
    (hl : ∀ j, j < k → ∀ g, (L j).ownBlock = some g → w'.heap[g]? = w.heap[g]?) (hgr : ∀ j, j < i → j < k → ∀ g, (G j).ownBlock = some g → w'.heap[g]? = w.heap[g]?) (hst : Still z0 w w') : GrowR M z0 z w' base B n k F L G N i :=
  ⟨h.book.kept hB, OwnV.block h.row hr, fun j h1 h2 => (h.own j h1 h2).block (hl j h2) hst, fun j h1 h2 => ⟨(h.done j h1 h2).1.block (hl j h2) hst, (h.done j h1 h2).2.block (hgr j h1 h2) hst⟩,
    fun j hj g hg => Nat.lt_of_lt_of_le (h.low j hj g hg) hs, fun j h1 h2 g hg => ⟨Nat.lt_of_lt_of_le (h.far j h1 h2 g hg).1 hs, (h.far j h1 h2 g hg).2⟩, h.new, Nat.le_trans h.zz hs⟩
theorem GrowR.later (h : GrowR M z0 z w base B n k F L G N i) (hb : Below w.heap.size w w') : GrowR M z0 z w' base B n k F L G N i :=
  h.kept hb.size (hb.block B h.book.lt) (fun g hg => hb.block g (OwnV.lt h.row g hg).2) (fun j hj g hg => hb.block g (h.low j hj g hg)) (fun j h1 h2 g hg => hb.block g (h.far j h1 h2 g hg).1) (Still.of_below hb)
/-- One list grows. -/
theorem GrowR.step {gv ov cv : Nat} {v : Value} (h : GrowR M z0 z w base B n k F L G N i) (hF : F 17 = .slice (some ⟨gv, ov, none⟩) k cv) (ha : Aparts B k (F 17) L) (hi : i < k)
    (hsz : w.heap.size ≤ w'.heap.size) (hfr : ∀ g, g < w.heap.size → (L i).ownBlock ≠ some g → w'.heap[g]? = w.heap[g]?) (hst : Still z0 w w')
    (hv : OwnM w' base z0 (M i) v (N i + 40)) (hl : MkAt w' z0 (M i) (L i) (N i)) (hw : v.ownBlock = (L i).ownBlock ∨ ∀ g, v.ownBlock = some g → w.heap.size ≤ g) :
    GrowR M z0 z (w'.setCell ⟨gv, ov + i * 3 + 1, none⟩ v) base B n k F L (fun j => if j = i then v else G j) N (i + 1) := by
  have hFg : (F 17).ownBlock = some gv := by rw [hF]; rfl
  have hBg : gv ≠ B := fun e => ha.notB (by rw [← e]; exact hFg)
  have hLg : ∀ j, j < k → ∀ g, (L j).ownBlock = some g → g ≠ gv := fun j hj g hg e => (ha.one j hj g hg).2 (by rw [e]; exact hFg)
  have hgv : gv < w.heap.size := (OwnV.lt h.row gv hFg).2
  have hrow : OwnV w' base 137 3 (.slice (some ⟨gv, ov, none⟩) k cv) k (hld M L G k) := by
    rw [← hF]
    exact OwnV.block h.row (fun g hg => by rw [hFg] at hg; cases hg; exact hfr gv hgv (fun e => (ha.one i hi gv e).2 hFg))
  have hB : w'.heap[B]? = w.heap[B]? := hfr B h.book.lt (fun e => (ha.one i hi B e).1 rfl)
  obtain ⟨xv, hv1, hv2⟩ := hv
  have hvg : ∀ g, v.ownBlock = some g → g < w'.heap.size ∧ g ≠ B ∧ g ≠ gv ∧ ∀ p, i + 1 ≤ p → p < k → (L p).ownBlock ≠ some g := by
    intro g hg
    refine ⟨(OwnV.lt hv1 g hg).2, ?_⟩
    rcases hw with hw | hw
    · rw [hw] at hg
      exact ⟨(ha.one i hi g hg).1, hLg i hi g hg, fun p h1 h2 => ha.two i p hi h2 (by omega) g hg⟩
    · have hge := hw g hg
      have := h.book.lt
      exact ⟨by omega, by omega, fun p h1 h2 e => by have := h.low p h2 g e; omega⟩
  have hother : ∀ g, g ≠ gv → (w'.setCell ⟨gv, ov + i * 3 + 1, none⟩ v).heap[g]? = w'.heap[g]? := fun g hg => heap_other w' _ _ g hg
  obtain ⟨cgv, hcgv⟩ := own_type hrow gv rfl
  have hst2 : Still z0 w' (w'.setCell ⟨gv, ov + i * 3 + 1, none⟩ v) := Still.set heldR_ne hcgv v
  have hst3 := hst.trans hst2
  refine ⟨(h.book.kept hB).kept (hother B (fun e => hBg e.symm)), ?_, fun j h1 h2 => ?_, fun j h1 h2 => ?_, fun j hj g hg => ?_, fun j h1 h2 g hg => ?_, fun j h1 h2 g hg => ?_, by simp only [World.size_setCell]; exact Nat.le_trans h.zz hsz⟩
  · have := OwnV.put hrow (j := i * 3 + 1) v
    rw [hld_set M L G v hi, ← Nat.add_assoc] at this
    rw [hF]
    exact this
  · refine (h.own j (by omega) h2).block (fun g hg => ?_) hst3
    rw [hother g (hLg j h2 g hg)]
    exact hfr g (h.low j h2 g hg) (fun e => ha.two i j hi h2 (by omega) g e hg)
  · by_cases hji : j = i
    · subst hji
      rw [if_pos rfl]
      exact ⟨hl.block (fun g hg => hother g (hLg j h2 g hg)) hst2, (OwnM.at_ ⟨xv, hv1, hv2⟩).block (fun g hg => hother g (hvg g hg).2.2.1) hst2⟩
    · rw [if_neg hji]
      obtain ⟨d1, d2⟩ := h.done j (by omega) h2
      refine ⟨d1.block (fun g hg => ?_) hst3, d2.block (fun g hg => ?_) hst3⟩
      · rw [hother g (hLg j h2 g hg)]
        exact hfr g (h.low j h2 g hg) (fun e => ha.two i j hi h2 (by omega) g e hg)
      · obtain ⟨f1, f2, f3, f4⟩ := h.far j (by omega) h2 g hg
        rw [hother g (fun e => f3 (by rw [e]; exact hFg))]
        exact hfr g f1 (f4 i (Nat.le_refl _) hi)
  · have := h.low j hj g hg
    simp only [World.size_setCell]
    omega
  · simp only [World.size_setCell]
    by_cases hji : j = i
    · rw [if_pos hji] at hg
      obtain ⟨f1, f2, f3, f4⟩ := hvg g hg
      exact ⟨f1, f2, fun e => f3 (by rw [hFg] at e; cases e; rfl), f4⟩
    · rw [if_neg hji] at hg
      obtain ⟨f1, f2, f3, f4⟩ := h.far j (by omega) h2 g hg
      exact ⟨by omega, f2, f3, fun p h3 h4 => f4 p (by omega) h4⟩
  · by_cases hji : j = i
    · rw [if_pos hji] at hg
      subst hji
      rcases hw with hw | hw
      · exact .inl (by rw [← hw]; exact hg)
      · exact .inr (Nat.le_trans h.zz (hw g hg))
    · rw [if_neg hji] at hg
      exact h.new j (by omega) h2 g hg
end
/-- In the midst of a list's growth: p are put behind. -/
structure LongR (z0 m : Nat) (wo wq : World) (base n : Nat) (Li v : Value) (p : Nat) : Prop where
  own : OwnM wq base z0 m v (n + p)
  at_ : MkAt wq z0 m Li n
  start : (∃ g o c c', Li = .slice (some ⟨g, o, none⟩) n c ∧ v = .slice (some ⟨g, o, none⟩) (n + p) c') ∨ ∀ g, v.ownBlock = some g → wo.heap.size ≤ g
  frame : ∀ g, g < wo.heap.size → Li.ownBlock ≠ some g → wq.heap[g]? = wo.heap[g]?
  below : Below base wo wq
  low : ∀ g, Li.ownBlock = some g → g < wo.heap.size
  size : wo.heap.size ≤ wq.heap.size
  still : Still z0 wo wq
section
variable {z0 m : Nat} {wo wq X w2 : World} {base n p : Nat} {Li v v' : Value}
theorem LongR.first (h : OwnM wo base z0 m Li n) : LongR z0 m wo wo base n Li Li 0 := by
  obtain ⟨xs, h1, h2⟩ := h
  refine ⟨⟨xs, h1, h2⟩, OwnM.at_ ⟨xs, h1, h2⟩, ?_, fun _ _ _ => rfl, Below.refl _ _, fun g hg => (OwnV.lt h1 g hg).2, Nat.le_refl _, Still.refl _ _⟩
  rcases h1.2 with ⟨rfl, _⟩ | ⟨g, o, cap, cur, rfl, _⟩
  · exact .inr (fun g hg => by simp [Value.ownBlock] at hg)
  · exact .inl ⟨g, o, cap, cap, rfl, rfl⟩
theorem LongR.next {xs : List Value} {u : Value} (h : LongR z0 m wo wq base n Li v p) (hb : base ≤ wo.heap.size) (hX : Below wq.heap.size wq X) (hxs : OwnV X base 58 1 v (n + p) xs) (hms : Mks X z0 m xs) (hu : Mk1 X z0 m u) (hg : X.grownBy w2 v.ownBlock) (hl : Lies X w2 v v' (n + p) 1)
    (ho : OwnV w2 base 58 1 v' (n + p + 1) (xs ++ [u])) : LongR z0 m wo w2 base n Li v' (p + 1) := by
  have hXs := hX.size
  have hwq := h.size
  have hst : Still z0 X w2 := Still.grown row_ne (own_type hxs) hg
  have hst0 : Still z0 wq w2 := (Still.of_below hX).trans hst
  have hms2 : Mks w2 z0 m (xs ++ [u]) := fun x hx => by
    rcases List.mem_append.1 hx with hx | hx
    · exact (hms x hx).kept hst
    · rw [List.mem_singleton.1 hx]
      exact hu.kept hst
  have ho' : OwnM w2 base z0 m v' (n + (p + 1)) := ⟨_, by rw [← Nat.add_assoc]; exact ho, hms2⟩
  have hvb : ∀ g, g < wo.heap.size → Li.ownBlock ≠ some g → v.ownBlock ≠ some g := by
    intro g h1 h2 e
    rcases h.start with ⟨g1, o, c, c', rfl, rfl⟩ | h3
    · exact h2 e
    · have := h3 g e; omega
  have hvlt : ∀ g, v.ownBlock = some g → base ≤ g := fun g hg => (OwnV.lt hxs g hg).1
  refine ⟨ho', ?_, ?_, fun g h1 h2 => ?_, ?_, h.low, by have := hg.size; omega, h.still.trans hst0⟩
  · have hother : (∀ g, Li.ownBlock = some g → w2.heap[g]? = X.heap[g]?) → MkAt w2 z0 m Li n := fun hh => (h.at_.block (fun g hg => hX.block g (Nat.lt_of_lt_of_le (h.low g hg) hwq)) (Still.of_below hX)).block hh hst
    rcases hl with ⟨g, o, cap, hv, hv'⟩ | ⟨_, hn⟩ | ⟨h0, _⟩
    · rcases h.start with ⟨g1, o1, c, c', hL, hv1⟩ | h3
      · rw [hv] at hv1
        cases hv1
        obtain ⟨ys, ⟨hl0, a3, c3, e3, h1, h2, _⟩, hms3⟩ := h.at_
        rw [hL] at e3
        cases e3
        obtain ⟨hl4, a4, c4, e4, _, _, h5⟩ := own_cat ho
        rw [hv'] at e4
        cases e4
        obtain ⟨g5, o5, e5, h6⟩ := h5 (by omega)
        cases e5
        have hxl : xs.length = n + p := by have := hxs.1; omega
        refine ⟨xs.take n, ⟨by rw [List.length_take]; omega, _, _, hL, h1, h2, fun _ => ⟨g, o, rfl, fun q x hq => h6 q x ?_⟩⟩, fun x hx => hms2 x (List.mem_append_left _ (List.mem_of_mem_take hx))⟩
        rw [List.getElem?_take] at hq
        split at hq
        · rw [List.getElem?_append_left (by omega)]
          exact hq
        · cases hq
      · refine hother (fun g2 hg2 => hg.block g2 (by have := h.low g2 hg2; omega) (fun e => ?_))
        have := h3 g2 e.symm
        have := h.low g2 hg2
        omega
    · exact hother (fun g2 hg2 => hn.block g2 (by have := h.low g2 hg2; omega) (fun e => by cases e))
    · cases h0
  · rcases hl with ⟨g, o, cap, hv, hv'⟩ | ⟨hf, _⟩ | ⟨h0, _⟩
    · rcases h.start with ⟨g1, o1, c, c', hL, hv1⟩ | h3
      · rw [hv] at hv1
        cases hv1
        exact .inl ⟨g, o, c, cap, hL, by rw [hv', Nat.add_assoc]⟩
      · right
        intro g2 hg2
        rw [hv'] at hg2
        exact h3 g2 (by rw [hv]; exact hg2)
    · right
      intro g2 hg2
      rw [hf] at hg2
      cases hg2
      omega
    · cases h0
  · rw [hg.block g (by omega) (fun e => hvb g h1 h2 e.symm), hX.block g (by omega)]
    exact h.frame g h1 h2
  · exact (h.below.trans (hX.mono (by omega))).grown hg (by omega) (fun q hq => hvlt q hq)
theorem LongR.start_block (h : LongR z0 m wo wq base n Li v p) : v.ownBlock = Li.ownBlock ∨ ∀ g, v.ownBlock = some g → wo.heap.size ≤ g := by
  rcases h.start with ⟨g, o, c, c', rfl, rfl⟩ | h
  · exact .inl rfl
  · exact .inr h
end
theorem GrowR.of {M : Nat → Nat} {z0 : Nat} {w : World} {base B n k : Nat} {F L G : Nat → Value} {N : Nat → Nat} {X : Nat → List Value} (h : Fam 58 137 1 17 M w base B n k F L G N X) (hm : ∀ i, i < k → Mks w z0 (M i) (X i)) : GrowR M z0 w.heap.size w base B n k F L G N 0 :=
  ⟨h.book, h.row, fun j _ hj => ⟨X j, h.own j hj, hm j hj⟩, fun _ hj => absurd hj (Nat.not_lt_zero _), fun j hj g hg => (OwnV.lt (h.own j hj) g hg).2, fun _ hj => absurd hj (Nat.not_lt_zero _), fun _ hj => absurd hj (Nat.not_lt_zero _), Nat.le_refl _⟩
end Go.Proofs.YtidhlbhfhfonoaaGreatDoor
namespace Go.Proofs.YtidhlbhfhfonoaaGreatDoor
open Go.ChangeShapes Go.WideShapes Go.ChangeAt Go.RowKit
theorem infoRec : (Tryz.prog.info? 58).map (fun i => (i.zero, i.size, i.bytes)) = some (some (.slice none 0 0), 1, 24) := by kernel_rfl
theorem infoHRecord : (Tryz.prog.info? 137).map (fun i => (i.size, i.bytes)) = some (3, 56) ∧ ((Tryz.prog.info? 137).bind (·.zero)).map (fun z => z.cells.size) = some 3 := ⟨by kernel_rfl, by kernel_rfl⟩
theorem infoHRecord_parts : ∃ i z, Tryz.prog.info? 137 = some i ∧ i.zero = some z ∧ i.size = 3 ∧ i.bytes = 56 ∧ z.cells.size = 3 := by
  obtain ⟨h1, h2⟩ := infoHRecord
  cases hq : Tryz.prog.info? 137 with
  | none => rw [hq] at h1; cases h1
  | some i =>
    rw [hq] at h1 h2
    simp only [Option.map_some, Option.some.injEq, Prod.mk.injEq] at h1
    cases hz : i.zero with
    | none => simp [hz] at h2
    | some z => exact ⟨i, z, rfl, hz, h1.1, h1.2, by simpa [hz] using h2⟩
set_option maxRecDepth 20000 in
set_option maxHeartbeats 3000000 in
theorem keepRecord_any (w : World) (B base n k : Nat) (F L G : Nat → Value) (M : Nat → Nat) (a : Option Addr) (l c : Nat) (hb : BkAt w B n F) (ho : OwnV w base 137 3 (F 17) k (hld M L G k)) (hne : (F 17).ownBlock ≠ some B) (hk : k ≤ 100000000) (hn : n ≤ 100000000) (hB : base ≤ B) (hM : M k = n + 1) (hL : L k = .slice a l c) (hG : G k = .slice none 0 0) :
    Calls Tryz.prog 54 #[.pointer (some ⟨B, 0, none⟩), .slice a l c] w fun e w' => e = .returned (.tuple #[]) ∧ ∃ vb', BkAt w' B (n + 1) (fun j => if j = 17 then vb' else F j) ∧ OwnV w' base 137 3 vb' (k + 1) (hld M L G (k + 1)) ∧ vb'.ownBlock ≠ some B ∧
      Below base w w' ∧ (∀ g, g < w.heap.size → g ≠ B → (F 17).ownBlock ≠ some g → w'.heap[g]? = w.heap[g]? ∧ vb'.ownBlock ≠ some g) := by
  obtain ⟨i0, z0, hi, hz0, hz1, hz2, hz3⟩ := infoHRecord_parts
  have HI := Lib.hid hi
  have hlt := hb.lt
  have hn0 : (n : Int) ≤ 100000000 := by omega
  have HB0 := Lib.hid hb
  have HO := Lib.hid ho
  obtain ⟨va, vn, vc, hvb⟩ := bk_sl ho
  have hs : base ≤ w.heap.size := by omega
  obtain ⟨c0, c9, cf⟩ := hb
  have c1 := c9 17 (by omega) (by omega)
  rw [hvb] at c1 HO hne ⊢
  have f0 := cf 0 (by omega)
  have f1 := cf 17 (by omega)
  clear cf hi ho c9
  go_enter Tryz.func54, Tryz.ntmps54
  go_wp2_with fail
  obtain ⟨w1, e1⟩ : ∃ w1, w1 = w.setCell ⟨B, 0, none⟩ (.int .i64 ((n : Int) + 1)) := ⟨_, rfl⟩
  have hB1 : BkAt w1 B (n + 1) F := by rw [e1]; exact HB0.out.set0 (n + 1)
  have hs1 : w1.heap.size = w.heap.size := by rw [e1]; simp
  have hg1 : w.grownBy w1 (some B) := by
    rw [e1]
    exact ⟨rfl, rfl, rfl, by simp, fun g _ hg => heap_other w _ _ g (fun e => hg (by rw [e]))⟩
  have hO1 : OwnV w1 base 137 3 (.slice va vn vc) k (hld M L G k) := OwnV.kept HO.out hg1 (.inr hne)
  have HO1 := Lib.hid (fun (W : World) (h : Below w1.heap.size w1 W) => OwnV.later hO1 h)
  have HBK := Lib.hid (fun (W : World) (h : Below w1.heap.size w1 W) => BkAt.kept hB1 (h.block B hB1.lt))
  have HNE := Lib.hid hne
  have HG1 := Lib.hid hg1
  have HS1 := Lib.hid hs1
  have HL := Lib.hid hL
  have HGG := Lib.hid hG
  have HM := Lib.hid hM
  have HVB := Lib.hid hvb
  rw [← e1]
  obtain ⟨d0, d9, df⟩ := hB1
  have d1 := d9 17 (by omega) (by omega)
  rw [hvb] at d1
  have g0 := df 0 (by omega)
  have g1 := df 17 (by omega)
  have hlt1 : B < w1.heap.size := by omega
  have hbs1 : base ≤ w1.heap.size := by omega
  have HSRC := Lib.hid (fun (w : World) => src_three w a l c ((n : Int) + 1) 137)
  have e9 : ((n + 1 : Nat) : Int) = (n : Int) + 1 := by omega
  rw [e9] at d0
  clear c0 c1 f0 f1 e1 df d9 hO1 hg1 hs1 hL hG HB0 HO e9 hM hvb
  go_region_law (first
    | (refine step_append_W rfl (.tmp 15) (.tmp 22) 55 rfl base 137 i0 z0 3 56 Tryz.underlying55 HI.out hz0 hz1 hz2 hz3 (.slice va vn vc) k (hld M L G k) rfl (HO1.out _ ((Below.refl _ _).drew.alloc (Nat.le_refl _) _)) (.slice (some ⟨w1.heap.size, 0, none⟩) 1 1) 1 [.slice a l c, .slice none 0 0, .int .i64 ((n : Int) + 1)] rfl (HSRC.out w1.drew) (by unfold maxLen; omega) (by omega) (by simp; omega) ?_
       intro v2 w2 ho2 hg2 hl2
       obtain ⟨a2, c2, rfl⟩ := ho2.sl
       have hbk2 := (HBK.out _ ((Below.refl _ _).drew.alloc (Nat.le_refl _) _)).grown hg2 HNE.out
       have HBK2 := Lib.hid hbk2
       have d2 := hbk2.2.1 17 (by omega) (by omega)
       have g2 := hbk2.2.2 17 (by omega)
       rw [HVB.out] at d2
       clear hbk2
       have HO2 := Lib.hid ho2
       have HG2 := Lib.hid hg2
       have HL2 := Lib.hid hl2
       clear ho2 hg2 hl2))
  all_goals
    have hf := bk_fin (f := 17) (by omega) hB hlt HNE.out HG1.out HS1.out (by first | exact (Below.refl _ _).drew.alloc (Nat.le_refl _) _ | exact ((Below.refl _ _).alloc (Nat.le_refl _) _).drew) (fun g hg => (OwnV.lt (HO1.out _ (Below.refl _ _)) g hg).1) HG2.out HL2.out HBK2.out HO2.out
    go_end0
    refine ⟨rfl, _, hf.1, ?_, hf.2.2⟩
    rw [hld, HL.out, HGG.out, HM.out]
    exact hf.2.1
set_option linter.unusedSimpArgs false in
set_option linter.unusedVariables false in
set_option maxRecDepth 20000 in
set_option maxHeartbeats 3000000 in
theorem markRecord_any (w : World) (m : Nat) (hm : m ≤ 100000000) : Calls Tryz.prog 140 #[.int .i64 m] w fun e w' => e = .returned (.slice (some ⟨w.heap.size, 0, none⟩) 1 1) ∧ w'.heap[w.heap.size]? = some (.cells #[.int .u8 ((m % 256 : Nat) : Int)] 5 (0, 0)) ∧ w'.heap.size = w.heap.size + 1 ∧ Below w.heap.size w w' := by
  have h : (m : Int) ≤ 100000000 := by omega
  have E1 := Lib.hid (show (m : Int) % 256 = ((m % 256 : Nat) : Int) by omega)
  go_enter Tryz.func140, Tryz.ntmps140
  go_wp2_with fail
  go_ret
  rw [E1.out]
  exact ⟨rfl, heap_alloc_new w _, by simp, (Below.refl _ _).alloc (Nat.le_refl _) _⟩
set_option linter.unusedSimpArgs false in
set_option linter.unusedVariables false in
set_option maxRecDepth 20000 in
set_option maxHeartbeats 3000000 in
theorem isRecord_any {g x : Nat} (m : Nat) (hm : m ≤ 100000000) (hx : x = m % 256) (w : World) (hc : w.cell? ⟨g, 0, none⟩ = some (.int .u8 (x : Nat))) :
    Calls Tryz.prog 157 #[.slice (some ⟨g, 0, none⟩) 1 1, .int .i64 m] w fun e w' => e = .returned (.bool true) ∧ ∃ k, w' = w.drewN k := by
  have h : (m : Int) ≤ 100000000 := by omega
  have e1 : (m : Int) % 256 = (x : Int) := by omega
  clear hx
  go_enter Tryz.func157, Tryz.ntmps157
  go_wp2_with fail
  go_ret
  exact ⟨rfl, 0, rfl⟩
set_option linter.unusedSimpArgs false in
set_option linter.unusedVariables false in
set_option maxRecDepth 20000 in
set_option maxHeartbeats 3000000 in
theorem fillRecord_any (w : World) (B base n k : Nat) (F L G : Nat → Value) (M N : Nat → Nat) (X : Nat → List Value) (hF : Fam 58 137 1 17 M w base B n k F L G N X) (hA : Aparts B k (F 17) L) (hk : k ≤ 100000000) (hM : ∀ i, i < k → M i ≤ 100000000) (hB : base ≤ B) (hG : ∀ i, i < k → G i = .slice none 0 0) (hN : ∀ i, i < k → N i ≤ 4000000) :
    Calls Tryz.prog 75 #[.pointer (some ⟨B, 0, none⟩)] w fun e w' => e = .returned (.tuple #[]) ∧ (∃ X', Fam 58 137 1 17 M w' base B n k F L G N X' ∧ ∀ i, i < k → Mks w' w.heap.size (M i) (X' i)) ∧ Below base w w' ∧ Spare k L (F 17) w w' := by
  have HF := Lib.hid hF
  have HA := Lib.hid hA
  have HG := Lib.hid hG
  have HN := Lib.hid hN
  have HM := Lib.hid hM
  obtain ⟨va, vc, hvb⟩ := hF.row.sl
  have hs : base ≤ w.heap.size := by have := hF.book.lt; omega
  have HV := Lib.hid hvb
  clear hF hA hG hN hM hvb
  go_enter Tryz.func75, Tryz.ntmps75
  go_wp2_with fail
  go_loopw [2] (fun i wr => ∃ (i' : Nat) (X' : Nat → List Value), i' ≤ k ∧ i = .int .i64 i' ∧ Fam 58 137 1 17 M wr base B n k F L G N X' ∧ Hid (∀ p, p < i' → Mks wr w.heap.size (M p) (X' p)) ∧ Below base w wr ∧ base ≤ wr.heap.size ∧ Spare k L (F 17) w wr) (fun i _ => k - (intOf i).toNat)
  case atStart => exact ⟨0, X, Nat.zero_le _, rfl, HF.out, Lib.hid (fun p hp => absurd hp (Nat.not_lt_zero _)), Below.refl _ _, hs, Spare.refl _ _ _ _⟩
  case round =>
    obtain ⟨i, X', hi, rfl, hf, HMK, hbl, hsz, hsp⟩ := hrel
    obtain ⟨wo, rfl⟩ : ∃ wo : World, wo = wr := ⟨_, rfl⟩
    have d1 := hf.book.2.1 17 (by omega) (by omega)
    rw [HV.out] at d1
    have HSP := Lib.hid hsp
    clear hsp
    by_cases hlt : i < k
    · have hrow := hf.row
      rw [HV.out] at hrow
      obtain ⟨gv, ov, cv, hvb, hcv1, hcv2, hcv3, hcv4⟩ := row_some hrow hlt
      cases hvb
      obtain ⟨l0, l1, l2⟩ := hld_cells hrow hlt
      rw [HG.out i hlt] at l1
      obtain ⟨la, lc, hL⟩ := (hf.own i hlt).sl
      rw [hL] at l0
      have hnn := HN.out i hlt
      have hmm := HM.out i hlt
      have HFF := Lib.hid hf
      have HBL := Lib.hid hbl
      have HL := Lib.hid hL
      unfold maxLen at hcv2
      clear hf hbl hL hrow
      go_wp2_with fail
      obtain ⟨w2, e2⟩ : ∃ w2, w2 = wo.alloc (.cells #[.slice la (N i) lc, .slice none 0 0, .int .i64 (M i)] 137) := ⟨_, rfl⟩
      have h0 : w2.cell? ⟨wo.heap.size, 0, none⟩ = some (.slice la (N i) lc) := by rw [e2]; simp
      have h2 : w2.cell? ⟨wo.heap.size, 2, none⟩ = some (.int .i64 (M i)) := by rw [e2]; simp
      have hb2 : Below wo.heap.size wo w2 := by rw [e2]; exact (Below.refl _ _).alloc (Nat.le_refl _) _
      have hs2 : w2.heap.size = wo.heap.size + 1 := by rw [e2]; simp
      rw [← e2]
      clear e2 l0 l1 l2 d1
      have HF2 := Lib.hid (HFF.out.later hb2)
      have HB2 := Lib.hid (HBL.out.trans (hb2.mono hsz))
      have HS2 := Lib.hid (HSP.out.later hb2)
      have HMK2 := Lib.hid (fun p (hp : p < i) => (HMK.out p hp).kept (Still.of_below hb2))
      have H0 := Lib.hid h0
      have H2 := Lib.hid h2
      clear h0 h2 hb2
      go_loopw [4] (fun j wq => ∃ (j' : Nat) (X2 : Nat → List Value), j' ≤ N i ∧ j = .int .i64 j' ∧ Fam 58 137 1 17 M wq base B n k F L G N X2 ∧ Hid (∀ p, p < i → Mks wq w.heap.size (M p) (X2 p)) ∧ Hid (∀ q u, q < j' → (X2 i)[q]? = some u → Mk1 wq w.heap.size (M i) u) ∧ wq.cell? ⟨wo.heap.size, 0, none⟩ = some (.slice la (N i) lc) ∧ wq.cell? ⟨wo.heap.size, 2, none⟩ = some (.int .i64 (M i)) ∧ Below base w wq ∧ wo.heap.size + 1 ≤ wq.heap.size ∧ Spare k L (F 17) w wq) (fun j _ => N i - (intOf j).toNat)
      case atStart => exact ⟨0, X', Nat.zero_le _, rfl, HF2.out, HMK2, Lib.hid (fun q u hq _ => absurd hq (Nat.not_lt_zero _)), H0.out, H2.out, HB2.out, by omega, HS2.out⟩
      case round =>
        obtain ⟨j, X2, hj, rfl, hfq, HM2, HM3, h0, h2, hbq, hsq, hspq⟩ := hrel
        have HFQ := Lib.hid hfq
        have HBQ := Lib.hid hbq
        have HSQ := Lib.hid hspq
        have hown := hfq.own i hlt
        rw [HL.out] at hown
        have HXL := Lib.hid (hfq.own i hlt).1
        by_cases hjl : j < N i
        · obtain ⟨g, o, cap, hh, -, hg4, hg1, hg5⟩ := row_some hown hjl
          cases hh
          have hL9 : L i = .slice (some ⟨g, o, none⟩) (N i) lc := HL.out
          have hgl : g < wo.heap.size := (OwnV.lt (HFF.out.own i hlt) g (by rw [hL9]; rfl)).2
          have HOW := Lib.hid hown
          have hjx : j < (X2 i).length := by have h9 := HXL.out; omega
          have hc0 := OwnV.cells hown j _ (List.getElem?_eq_getElem hjx)
          rw [Addr.add_lit] at hc0
          have hf0 := own_free hown (o + j)
          unfold maxLen at hg4
          have HL9 := Lib.hid hL9
          clear hfq hbq hown hg5 hspq hL9
          go_wp2_with fail
          go_region_law (first
            | (go_simp
               go_at_call 140
               refine (markRecord_any _ (M i) hmm).mono ?_
               rintro _ w9 ⟨rfl, hmk9, hsz9, hb9⟩
               have hD := (Below.refl wr.heap.size wr).drew.trans hb9
               have hown9 := OwnV.later HOW.out hD
               have h0 := cell_on h0 hD
               have h2 := cell_on h2 hD
               have hc0 := cell_on hc0 hD
               have hf0 := own_free hown9 (o + j)
               clear hown9))
          all_goals
            go_wp2_with fail
            go_roundw
            case rel =>
              have hp := (HFQ.out.later hD).put HA.out hlt HL9.out (j := j) [.slice (some ⟨wr.heap.size, 0, none⟩) 1 1]
              obtain ⟨cg, hcg⟩ := own_type (OwnV.later HOW.out hD) g rfl
              have hst9 : Still w.heap.size w9 (putL w9 g (o + j) [.slice (some ⟨wr.heap.size, 0, none⟩) 1 1]) := Still.set row_ne hcg _
              have hst8 : Still w.heap.size wr w9 := Still.of_below hD
              have hws : w.heap.size ≤ wr.heap.size := HSQ.out.1
              have hmk8 : Mk1 w9 w.heap.size (M i) (.slice (some ⟨wr.heap.size, 0, none⟩) 1 1) := ⟨_, rfl, hws, hmk9⟩
              refine ⟨j + 1, _, by omega, by go_num, hp, Lib.hid (fun p hp => ?_), Lib.hid (fun q u hq hu => ?_), cell_far (p := o + j) (l := [.slice (some ⟨wr.heap.size, 0, none⟩) 1 1]) h0 (show wo.heap.size ≠ g by omega), cell_far (p := o + j) (l := [.slice (some ⟨wr.heap.size, 0, none⟩) 1 1]) h2 (show wo.heap.size ≠ g by omega), putL_below [.slice (some ⟨wr.heap.size, 0, none⟩) 1 1] hg1 (HBQ.out.trans (hD.mono (by omega))), (by have := hD.size; have h8 := putL_size [.slice (some ⟨wr.heap.size, 0, none⟩) 1 1] w9 g (o + j); exact Nat.le_trans (Nat.le_trans hsq this) (Nat.le_of_eq h8.symm)), (HSQ.out.later hD).put (l := [.slice (some ⟨wr.heap.size, 0, none⟩) 1 1]) (p := o + j) hlt (show (L i).ownBlock = some g by rw [HL9.out]; rfl)⟩
              · rw [if_neg (by omega)]
                exact ((HM2.out p hp).kept hst8).kept hst9
              · rw [if_pos rfl] at hu
                have hu' : ((X2 i).set j (.slice (some ⟨wr.heap.size, 0, none⟩) 1 1))[q]? = some u := hu
                by_cases hqj : q = j
                · subst hqj
                  rw [List.getElem?_set_self (by have h9 := HXL.out; omega)] at hu'
                  cases hu'
                  exact hmk8.kept hst9
                · rw [List.getElem?_set_ne (fun e => hqj e.symm)] at hu'
                  exact ((HM3.out q u (by omega) hu').kept hst8).kept hst9
            case measure => simp [intOf]; omega
        · obtain rfl : j = N i := by omega
          clear hjl hown hfq hbq hspq
          go_wp2_with fail
          go_roundw
          case rel => exact ⟨i + 1, X2, by omega, by go_num, HFQ.out, Lib.hid (fun p hp => by
            by_cases hpi : p = i
            · subst hpi
              intro u hu
              obtain ⟨q, hq⟩ := List.mem_iff_getElem?.1 hu
              exact HM3.out q u (by have h8 := (List.getElem?_eq_some_iff.1 hq).1; have h9 := HXL.out; omega) hq
            · exact HM2.out p (by omega)), HBQ.out, by omega, HSQ.out⟩
          case measure => simp [intOf]; omega
    · obtain rfl : i = k := by omega
      have HFF := Lib.hid hf
      have HBL := Lib.hid hbl
      clear hf hbl
      go_wp2_with fail
      go_end0
      exact ⟨rfl, ⟨X', HFF.out, HMK.out⟩, HBL.out, HSP.out⟩
theorem src_one9 (w : World) (u : Value) (t : TypeId) (hu : u.oneCell' = true) : SrcV (w.alloc (.cells #[u] t)) 1 (.slice (some ⟨w.heap.size, 0, none⟩) 1 1) 1 [u] :=
  ⟨_, _, rfl, rfl, fun z hz => by simp at hz; subst hz; exact hu, (fun h => by cases h), fun ad had j z hz => (by
    cases had
    exact one_new w u t j z hz)⟩
set_option linter.unusedSimpArgs false in
set_option linter.unusedVariables false in
set_option maxRecDepth 20000 in
set_option maxHeartbeats 3000000 in
theorem growRecord_any (w : World) (B base n k z0 z : Nat) (F L G : Nat → Value) (M N : Nat → Nat) (hF : GrowR M z0 z w base B n k F L G N 0) (hA : Aparts B k (F 17) L) (hk : k ≤ 100000000) (hM : ∀ i, i < k → M i ≤ 100000000) (hB : base ≤ B) (hG : ∀ i, i < k → G i = .slice none 0 0) (hN : ∀ i, i < k → N i ≤ 4000000) (hz0w : z0 ≤ w.heap.size) :
    Calls Tryz.prog 92 #[.pointer (some ⟨B, 0, none⟩)] w fun e w' => e = .returned (.tuple #[]) ∧ (∃ G', GrowR M z0 z w' base B n k F L G' N k) ∧ Below base w w' ∧ Spare k L (F 17) w w' := by
  obtain ⟨i0, hi0, hz0, hz1, hz2⟩ := info_parts infoRec
  have HZ := Lib.hid hz0w
  have HI := Lib.hid hi0
  have HF := Lib.hid hF
  have HA := Lib.hid hA
  have HN := Lib.hid hN
  have HM := Lib.hid hM
  have HG0 := Lib.hid hG
  obtain ⟨va, vc, hvb⟩ := hF.row.sl
  have hs : base ≤ w.heap.size := by have := hF.book.lt; omega
  have HV := Lib.hid hvb
  clear hF hA hG hN hi0 hM hvb hz0w
  go_enter Tryz.func92, Tryz.ntmps92
  go_wp2_with fail
  go_loopw [2] (fun i wr => ∃ (i' : Nat) (G' : Nat → Value), i' ≤ k ∧ i = .int .i64 i' ∧ GrowR M z0 z wr base B n k F L G' N i' ∧ (∀ j, i' ≤ j → j < k → G' j = .slice none 0 0) ∧ Below base w wr ∧ base ≤ wr.heap.size ∧ Spare k L (F 17) w wr) (fun i _ => k - (intOf i).toNat)
  case atStart => exact ⟨0, G, Nat.zero_le _, rfl, HF.out, fun j _ hj => HG0.out j hj, Below.refl _ _, hs, Spare.refl _ _ _ _⟩
  case round =>
    obtain ⟨i, G', hi, rfl, hf, hgn, hbl, hsz, hsp⟩ := hrel
    obtain ⟨wo, rfl⟩ : ∃ wo : World, wo = wr := ⟨_, rfl⟩
    have d1 := hf.book.2.1 17 (by omega) (by omega)
    rw [HV.out] at d1
    have HSP := Lib.hid hsp
    clear HG0 hsp
    by_cases hlt : i < k
    · have hrow := hf.row
      rw [HV.out] at hrow
      obtain ⟨gv, ov, cv, hvb, hcv1, hcv2, hcv3, hcv4⟩ := row_some hrow hlt
      cases hvb
      obtain ⟨l0, l1, l2⟩ := hld_cells hrow hlt
      rw [hgn i (Nat.le_refl _) hlt] at l1
      obtain ⟨xs0, hx0, -⟩ := hf.own i (Nat.le_refl _) hlt
      obtain ⟨la, lc, hL⟩ := hx0.sl
      rw [hL] at l0
      have hnn := HN.out i hlt
      have hmm := HM.out i hlt
      have HFF := Lib.hid hf
      have HBL := Lib.hid hbl
      have HL := Lib.hid hL
      have HGN := Lib.hid hgn
      unfold maxLen at hcv2
      clear hf hbl hL hgn hrow hx0
      go_wp2_with fail
      obtain ⟨w2, e2⟩ : ∃ w2, w2 = wo.alloc (.cells #[.slice la (N i) lc, .slice none 0 0, .int .i64 (M i)] 137) := ⟨_, rfl⟩
      have h0 : w2.cell? ⟨wo.heap.size, 0, none⟩ = some (.slice la (N i) lc) := by rw [e2]; simp
      have h2 : w2.cell? ⟨wo.heap.size, 2, none⟩ = some (.int .i64 (M i)) := by rw [e2]; simp
      have hb2 : Below wo.heap.size wo w2 := by rw [e2]; exact (Below.refl _ _).alloc (Nat.le_refl _) _
      have hs2 : w2.heap.size = wo.heap.size + 1 := by rw [e2]; simp
      rw [← e2]
      clear e2 l0 l1 l2 d1
      have HF2 := Lib.hid (HFF.out.later hb2)
      have HB2 := Lib.hid (HBL.out.trans (hb2.mono hsz))
      have HS2 := Lib.hid (HSP.out.later hb2)
      have HLO := Lib.hid (LongR.first (HF2.out.own i (Nat.le_refl _) hlt))
      have HH2 := Lib.hid h2
      have hne : (L i).ownBlock ≠ some wo.heap.size := fun e => by have := HFF.out.low i hlt _ e; omega
      have HNE := Lib.hid hne
      clear h2 hb2 hne
      go_wp2_with fail
      go_loopw [4, 5] (fun v j wq => ∃ j' : Nat, j' ≤ 40 ∧ j = .int .i64 j' ∧ LongR z0 (M i) w2 wq base (N i) (L i) v j') (fun _ j _ => 40 - (intOf j).toNat)
      case atStart => exact ⟨0, by omega, rfl, by have h9 := HLO.out; rw [show Value.slice la (N i) lc = L i from HL.out.symm]; exact h9⟩
      case round =>
        obtain ⟨j, hj, rfl, hlo⟩ := hrel
        obtain ⟨xs9, hx9, hm9⟩ := hlo.own
        obtain ⟨a9, c9, rfl⟩ := hx9.sl
        have HX9 := Lib.hid hx9
        have HM9 := Lib.hid hm9
        have hblk := hlo.frame wo.heap.size (by omega) HNE.out
        have h2 : wr.cell? ⟨wo.heap.size, 2, none⟩ = some (.int .i64 (M i)) := (World.cell?_of_block (w := w2) (a := ⟨wo.heap.size, 2, none⟩) hblk).trans HH2.out
        have HLG := Lib.hid hlo
        have hls := hlo.size
        clear hlo hblk hx9 hm9
        by_cases hjl : j < 40
        · go_wp2_with (first
            | (go_at_call 140; refine (markRecord_any _ (M i) hmm).mono ?_; rintro _ w9 ⟨rfl, hmk9, hsz9, hb9⟩; have h9s := hb9.size; have HS9 := Lib.hid hsz9; clear hsz9)
            | (at_builtin; refine wpList_append_W rfl _ _ 33 rfl base 58 i0 (.slice none 0 0) 1 24 Tryz.underlying33 HI.out hz0 hz1 hz2 rfl (.slice a9 (N i + j) c9) (N i + j) xs9 rfl (OwnV.later (OwnV.later HX9.out hb9) ((Below.refl _ _).alloc (Nat.le_refl _) _)) (.slice (some ⟨w9.heap.size, 0, none⟩) 1 1) 1 [.slice (some ⟨wr.heap.size, 0, none⟩) 1 1] rfl (src_one9 _ _ _ rfl) (by unfold maxLen; omega) (by omega) (by simp; omega) ?_
               intro v3 w3 ho3 hg3 hl3
               have hbX := below_on hb9 ((Below.refl w9.heap.size w9).alloc (Nat.le_refl _) (.cells #[.slice (some ⟨wr.heap.size, 0, none⟩) 1 1] 58))
               have hm8 : Mk1 (w9.alloc (.cells #[.slice (some ⟨wr.heap.size, 0, none⟩) 1 1] 58)) z0 (M i) (.slice (some ⟨wr.heap.size, 0, none⟩) 1 1) := ⟨_, rfl, by have := HZ.out; have := HS2.out.1; omega, (Below.heap_alloc _ _ _ (by have := HS9.out; omega)).trans hmk9⟩
               have HN3 := Lib.hid (HLG.out.next (by omega) hbX (OwnV.later HX9.out hbX) (HM9.out.kept (Still.of_below hbX)) hm8 hg3 hl3 ho3)
               clear ho3 hg3 hl3))
          go_roundw
          case rel => exact ⟨j + 1, by omega, by go_num, HN3.out⟩
          case measure => simp [intOf]; omega
        · obtain rfl : j = 40 := by omega
          clear hjl h2
          have hbk : wr.heap[B]? = w2.heap[B]? := HLG.out.frame B (by have := HF2.out.book.lt; omega) (fun e => (HA.out.one i hlt B e).1 rfl)
          have hgk : wr.heap[gv]? = w2.heap[gv]? := HLG.out.frame gv (by omega) (fun e => (HA.out.one i hlt gv e).2 (by rw [HV.out]; rfl))
          have d1 := (HF2.out.book.kept hbk).2.1 17 (by omega) (by omega)
          rw [HV.out] at d1
          have hrw := OwnV.block HF2.out.row (w' := wr) (fun g hg => by rw [HV.out] at hg; cases hg; exact hgk)
          rw [HV.out] at hrw
          obtain ⟨-, l1, -⟩ := hld_cells hrw hlt
          have fr1 := own_free hrw (ov + i * 3 + 1)
          have HST := Lib.hid (HF2.out.step HV.out HA.out hlt HLG.out.size HLG.out.frame HLG.out.still HLG.out.own HLG.out.at_ HLG.out.start_block)
          have HSG := Lib.hid (fun u => HS2.out.grow (gv := gv) (p := ov + i * 3 + 1) (u := u) HLG.out.size HLG.out.frame hlt (by rw [HV.out]; rfl))
          clear hbk hgk hrw
          go_wp2_with fail
          go_roundw
          case rel => exact ⟨i + 1, _, by omega, by go_num, HST.out, fun p h1 h2 => by rw [if_neg (by omega)]; exact HGN.out p (by omega) h2, ((HB2.out.trans HLG.out.below).setCell (p := ⟨gv, ov + i * 3 + 1, none⟩) hcv3 _), by simp; omega, HSG.out _⟩
          case measure => simp [intOf]; omega
    · obtain rfl : i = k := by omega
      have HFF := Lib.hid hf
      have HBL := Lib.hid hbl
      clear hf hbl
      go_wp2_with fail
      go_end0
      exact ⟨rfl, ⟨G', HFF.out⟩, HBL.out, HSP.out⟩
set_option linter.unusedSimpArgs false in
set_option linter.unusedVariables false in
set_option maxRecDepth 20000 in
set_option maxHeartbeats 3000000 in
theorem lookRecord_any (w : World) (B base n k z0 z : Nat) (F L G : Nat → Value) (M N : Nat → Nat) (hF : GrowR M z0 z w base B n k F L G N k) (hk : k ≤ 100000000) (hM : ∀ i, i < k → M i ≤ 100000000) (hN : ∀ i, i < k → N i ≤ 4000000) :
    Calls Tryz.prog 109 #[.pointer (some ⟨B, 0, none⟩)] w fun e w' => e = .returned (.bool true) ∧ Below w.heap.size w w' := by
  have HF := Lib.hid hF
  have HN := Lib.hid hN
  have HM := Lib.hid hM
  obtain ⟨va, vc, hvb⟩ := hF.row.sl
  have HV := Lib.hid hvb
  clear hF hN hM hvb
  go_enter Tryz.func109, Tryz.ntmps109
  go_wp2_with fail
  go_loopw [3] (fun i wr => ∃ i' : Nat, i' ≤ k ∧ i = .int .i64 i' ∧ Below w.heap.size w wr) (fun i _ => k - (intOf i).toNat)
  case atStart => exact ⟨0, Nat.zero_le _, rfl, Below.refl _ _⟩
  case round =>
    obtain ⟨i, hi, rfl, hbl⟩ := hrel
    obtain ⟨wo, rfl⟩ : ∃ wo : World, wo = wr := ⟨_, rfl⟩
    have hf := HF.out.later hbl
    have d1 := hf.book.2.1 17 (by omega) (by omega)
    rw [HV.out] at d1
    by_cases hlt : i < k
    · have hrow := hf.row
      rw [HV.out] at hrow
      obtain ⟨gv, ov, cv, hvb, hcv1, hcv2, hcv3, hcv4⟩ := row_some hrow hlt
      cases hvb
      obtain ⟨l0, l1, l2⟩ := hld_cells hrow hlt
      obtain ⟨k1, k2⟩ := hf.done i hlt hlt
      obtain ⟨la, lc, hL, _, _⟩ := k1.sl
      obtain ⟨ga, gc, hG, _, _⟩ := k2.sl
      have lo1 := hf.low i hlt
      have lo2 := fun g h => (hf.far i hlt hlt g h).1
      rw [hL] at l0 k1 lo1
      rw [hG] at l1 k2 lo2
      have hnn := HN.out i hlt
      have hmm := HM.out i hlt
      have HBL := Lib.hid hbl
      have K1 := Lib.hid k1
      have K2 := Lib.hid k2
      have LO1 := Lib.hid lo1
      have LO2 := Lib.hid lo2
      unfold maxLen at hcv2
      clear hf hbl hL hG k1 k2 hrow lo1 lo2
      go_wp2_with fail
      obtain ⟨w2, e2⟩ : ∃ w2, w2 = wo.alloc (.cells #[.slice la (N i) lc, .slice ga (N i + 40) gc, .int .i64 (M i)] 137) := ⟨_, rfl⟩
      have h0 : w2.cell? ⟨wo.heap.size, 0, none⟩ = some (.slice la (N i) lc) := by rw [e2]; simp
      have h1 : w2.cell? ⟨wo.heap.size, 1, none⟩ = some (.slice ga (N i + 40) gc) := by rw [e2]; simp
      have h2 : w2.cell? ⟨wo.heap.size, 2, none⟩ = some (.int .i64 (M i)) := by rw [e2]; simp
      have hb2 : Below wo.heap.size wo w2 := by rw [e2]; exact (Below.refl _ _).alloc (Nat.le_refl _) _
      rw [← e2]
      clear e2 l0 l1 l2 d1
      have HB2 := Lib.hid (below_on HBL.out hb2)
      have K12 := Lib.hid (K1.out.block (w' := w2) (fun g hg => hb2.block g (LO1.out g hg)) (Still.of_below hb2))
      have K22 := Lib.hid (K2.out.block (w' := w2) (fun g hg => hb2.block g (LO2.out g hg)) (Still.of_below hb2))
      have L12 := Lib.hid (fun g hg => Nat.lt_of_lt_of_le (LO1.out g hg) hb2.size)
      have L22 := Lib.hid (fun g hg => Nat.lt_of_lt_of_le (LO2.out g hg) hb2.size)
      have HH0 := Lib.hid h0
      have HH1 := Lib.hid h1
      have HH2 := Lib.hid h2
      clear hb2 K1 K2 LO1 LO2
      go_wp2_with fail
      go_loopw [5] (fun j wq => ∃ j' n : Nat, j' ≤ N i + 40 ∧ j = .int .i64 j' ∧ wq = w2.drewN n) (fun j _ => N i + 40 - (intOf j).toNat)
      case atStart => exact ⟨0, 0, by omega, rfl, rfl⟩
      case round =>
        obtain ⟨j, n, hj, rfl, hw⟩ := hrel
        have q0 : wr.cell? ⟨wo.heap.size, 0, none⟩ = some (.slice la (N i) lc) := by rw [hw]; exact HH0.out
        have q1 : wr.cell? ⟨wo.heap.size, 1, none⟩ = some (.slice ga (N i + 40) gc) := by rw [hw]; exact HH1.out
        have q2 : wr.cell? ⟨wo.heap.size, 2, none⟩ = some (.int .i64 (M i)) := by rw [hw]; exact HH2.out
        obtain ⟨z, hz⟩ : ∃ z : Nat, z = M i % 256 := ⟨_, rfl⟩
        have HZ := Lib.hid hz
        have HW := Lib.hid hw
        clear hz
        clear hw h0 h1 h2
        by_cases hjl : j < N i + 40
        · obtain ⟨g1, o1, x1, rfl, hc1, -, hm1⟩ := K22.out.cell hjl
          have hc1' : wr.cell? ⟨g1, o1 + j, none⟩ = some (.slice (some ⟨x1, 0, none⟩) 1 1) := by rw [HW.out]; exact hc1
          have S1 := Lib.hid (fun p => Calls.quiet_of (isRecord_any (M i) hmm HZ.out (wr.drewN p) (show (wr.drewN p).cell? ⟨x1, 0, none⟩ = some (.int .u8 (z : Nat)) by rw [HW.out, HZ.out]; exact hm1)))
          clear hm1
          by_cases hjn : j < N i
          · obtain ⟨g2, o2, x2, rfl, hc2, -, hm2⟩ := K12.out.cell hjn
            have hc2' : wr.cell? ⟨g2, o2 + j, none⟩ = some (.slice (some ⟨x2, 0, none⟩) 1 1) := by rw [HW.out]; exact hc2
            have S2 := Lib.hid (fun p => Calls.quiet_of (isRecord_any (M i) hmm HZ.out (wr.drewN p) (show (wr.drewN p).cell? ⟨x2, 0, none⟩ = some (.int .u8 (z : Nat)) by rw [HW.out, HZ.out]; exact hm2)))
            clear hm2
            clear hc1 hc2
            go_wp2
            go_quiet ((go_at_call 157; first | with_reducible exact S1.out _ | with_reducible exact S2.out _))
            go_wp2
            go_roundw
            case rel => exact ⟨j + 1, _, by omega, by go_num, by rw [HW.out]; exact World.drewN_drewN _ _ _⟩
            case measure => simp [intOf]; omega
          · have hjn' : N i ≤ j := by omega
            have hjd : decide (j < N i) = false := by simpa using hjn'
            clear hc1 hjn
            go_wp2
            go_quiet ((go_at_call 157; with_reducible exact S1.out _))
            go_wp2
            go_roundw
            case rel => exact ⟨j + 1, _, by omega, by go_num, by rw [HW.out]; exact World.drewN_drewN _ _ _⟩
            case measure => simp [intOf]; omega
        · obtain rfl : j = N i + 40 := by omega
          clear hjl
          go_wp2_with fail
          go_roundw
          case rel => exact ⟨i + 1, by omega, by go_num, by rw [HW.out]; exact below_on HB2.out (below_drewN9 _ _)⟩
          case measure => simp [intOf]; omega
    · obtain rfl : i = k := by omega
      have HBL := Lib.hid hbl
      clear hf hbl
      go_wp2_with fail
      go_ret
      exact ⟨rfl, HBL.out⟩
end Go.Proofs.YtidhlbhfhfonoaaGreatDoor
namespace Go.Proofs.YtidhlbhfhfonoaaGreatDoor
open Go.ChangeShapes Go.WideShapes Go.ChangeAt Go.RowKit
abbrev bkZ2 : Array Value := #[.int .i64 0, .slice none 0 0, .slice none 0 0, .slice none 0 0, .slice none 0 0, .slice none 0 0, .slice none 0 0, .slice none 0 0, .slice none 0 0, .slice none 0 0, .slice none 0 0, .slice none 0 0, .slice none 0 0, .slice none 0 0, .slice none 0 0, .slice none 0 0, .slice none 0 0, .slice none 0 0]
abbrev nilG : Nat → Value := fun _ => .slice none 0 0
/-- k lists of bytes and q lists of records are kept, and no others. -/
structure K2 (w : World) (base B n k q : Nat) (F L R : Nat → Value) (ML MR NL NR : Nat → Nat) (XL XR : Nat → List Value) : Prop where
  famL : Fam 5 141 1 1 ML w base B n k F L nilG NL XL
  famR : Fam 58 137 1 17 MR w base B n q F R nilG NR XR
  apL : Aparts B k (F 1) L
  apR : Aparts B q (F 17) R
  xF : ∀ g, (F 1).ownBlock = some g → (F 17).ownBlock ≠ some g ∧ ∀ j, j < q → (R j).ownBlock ≠ some g
  xL : ∀ i, i < k → ∀ g, (L i).ownBlock = some g → (F 17).ownBlock ≠ some g ∧ ∀ j, j < q → (R j).ownBlock ≠ some g
  nil : ∀ j, 1 ≤ j → j < 18 → j ≠ 1 → j ≠ 17 → F j = .slice none 0 0
  low : base ≤ B
  shL : ∀ i, i < k → NL i ≤ 4000000
  shR : ∀ i, i < q → NR i ≤ 4000000
  mL : ∀ i, i < k → ML i ≤ n
  mR : ∀ i, i < q → MR i ≤ n
  kn : k ≤ n
  qn : q ≤ n
/-- The blocks of a book and of its lists. -/
def K2B (B k q : Nat) (F L R : Nat → Value) (g : Nat) : Prop := g = B ∨ (F 1).ownBlock = some g ∨ (F 17).ownBlock = some g ∨ (∃ i, i < k ∧ (L i).ownBlock = some g) ∨ ∃ i, i < q ∧ (R i).ownBlock = some g
section
variable {w w' : World} {base B n k q : Nat} {F L R : Nat → Value} {ML MR NL NR : Nat → Nat} {XL XR : Nat → List Value}
theorem K2.kept (h : K2 w base B n k q F L R ML MR NL NR XL XR) (hb : ∀ g, K2B B k q F L R g → w'.heap[g]? = w.heap[g]?) : K2 w' base B n k q F L R ML MR NL NR XL XR :=
  have hB := h.famL.book.kept (hb B (.inl rfl))
  ⟨⟨hB, OwnV.block h.famL.row (fun g hg => hb g (.inr (.inl hg))), fun i hi => OwnV.block (h.famL.own i hi) (fun g hg => hb g (.inr (.inr (.inr (.inl ⟨i, hi, hg⟩)))))⟩,
    ⟨hB, OwnV.block h.famR.row (fun g hg => hb g (.inr (.inr (.inl hg)))), fun i hi => OwnV.block (h.famR.own i hi) (fun g hg => hb g (.inr (.inr (.inr (.inr ⟨i, hi, hg⟩)))))⟩,
    h.apL, h.apR, h.xF, h.xL, h.nil, h.low, h.shL, h.shR, h.mL, h.mR, h.kn, h.qn⟩
/-- A list of bytes more is kept. -/
theorem K2.moreL (h : K2 w base B n k q F L R ML MR NL NR XL XR) {v vb : Value} {m : Nat} {xs : List Value} (hv : OwnV w base 5 1 v m xs) (hm : m ≤ 4000000) (hd : ∀ g, v.ownBlock = some g → ¬ K2B B k q F L R g)
    (hb : BkAt w' B (n + 1) (fun j => if j = 1 then vb else F j)) (hr : OwnV w' base 141 3 vb (k + 1) (hld (fun i => if i = k then n + 1 else ML i) (fun j => if j = k then v else L j) nilG (k + 1))) (hB : vb.ownBlock ≠ some B)
    (hk : ∀ g, g < w.heap.size → g ≠ B → (F 1).ownBlock ≠ some g → w'.heap[g]? = w.heap[g]? ∧ vb.ownBlock ≠ some g) :
    K2 w' base B (n + 1) (k + 1) q (fun j => if j = 1 then vb else F j) (fun j => if j = k then v else L j) R (fun i => if i = k then n + 1 else ML i) MR (fun j => if j = k then m else NL j) NR (fun j => if j = k then xs else XL j) XR := by
  have hL : ∀ i, i < k → ∀ g, (L i).ownBlock = some g → w'.heap[g]? = w.heap[g]? ∧ vb.ownBlock ≠ some g := fun i hi g hg => hk g (OwnV.lt (h.famL.own i hi) g hg).2 (h.apL.one i hi g hg).1 (h.apL.one i hi g hg).2
  have hV : ∀ g, v.ownBlock = some g → w'.heap[g]? = w.heap[g]? ∧ vb.ownBlock ≠ some g := fun g hg => hk g (OwnV.lt hv g hg).2 (fun e => hd g hg (.inl e)) (fun e => hd g hg (.inr (.inl e)))
  have hR : ∀ i, i < q → ∀ g, (R i).ownBlock = some g → w'.heap[g]? = w.heap[g]? ∧ vb.ownBlock ≠ some g := fun i hi g hg => hk g (OwnV.lt (h.famR.own i hi) g hg).2 (h.apR.one i hi g hg).1 (fun e => (h.xF g e).2 i hi hg)
  have h17 : ∀ g, (F 17).ownBlock = some g → w'.heap[g]? = w.heap[g]? ∧ vb.ownBlock ≠ some g := fun g hg => hk g (OwnV.lt h.famR.row g hg).2 (fun e => h.apR.notB (by rw [← e]; exact hg)) (fun e => (h.xF g e).1 hg)
  have f1 : (if (1 : Nat) = 1 then vb else F 1) = vb := if_pos rfl
  have f17 : (if (17 : Nat) = 1 then vb else F 17) = F 17 := if_neg (by decide)
  refine ⟨⟨hb, by rw [f1]; exact hr, fun i hi => ?_⟩, ⟨hb, by rw [f17]; exact OwnV.block h.famR.row fun g hg => (h17 g hg).1, fun i hi => OwnV.block (h.famR.own i hi) fun g hg => (hR i hi g hg).1⟩, ⟨by rw [f1]; exact hB, fun i hi g hg => ?_, fun i j hi hj hij g hg => ?_⟩, by rw [f17]; exact h.apR, fun g hg => ?_, fun i hi g hg => ?_, fun j h1 h2 h3 h4 => ?_, h.low, fun i hi => ?_, h.shR, fun i hi => ?_, fun i hi => by have := h.mR i hi; omega, by have := h.kn; omega, by have := h.qn; omega⟩
  · by_cases e : i = k
    · simp only [if_pos e]
      exact OwnV.block hv fun g hg => (hV g hg).1
    · simp only [if_neg e]
      exact OwnV.block (h.famL.own i (by omega)) fun g hg => (hL i (by omega) g hg).1
  · rw [f1]
    by_cases e : i = k
    · simp only [if_pos e] at hg
      exact ⟨fun e9 => hd g hg (.inl e9), (hV g hg).2⟩
    · simp only [if_neg e] at hg
      exact ⟨(h.apL.one i (by omega) g hg).1, (hL i (by omega) g hg).2⟩
  · by_cases e : i = k <;> by_cases e' : j = k
    · omega
    · simp only [if_pos e] at hg
      simp only [if_neg e']
      exact fun e9 => hd g hg (.inr (.inr (.inr (.inl ⟨j, by omega, e9⟩))))
    · simp only [if_neg e] at hg
      simp only [if_pos e']
      exact fun e9 => hd g e9 (.inr (.inr (.inr (.inl ⟨i, by omega, hg⟩))))
    · simp only [if_neg e] at hg
      simp only [if_neg e']
      exact h.apL.two i j (by omega) (by omega) hij g hg
  · rw [f1] at hg
    rw [f17]
    exact ⟨fun e => (h17 g e).2 hg, fun j hj e => (hR j hj g e).2 hg⟩
  · rw [f17]
    by_cases e : i = k
    · simp only [if_pos e] at hg
      exact ⟨fun e9 => hd g hg (.inr (.inr (.inl e9))), fun j hj e9 => hd g hg (.inr (.inr (.inr (.inr ⟨j, hj, e9⟩))))⟩
    · simp only [if_neg e] at hg
      exact h.xL i (by omega) g hg
  · simp only [if_neg h3]
    exact h.nil j h1 h2 h3 h4
  · by_cases e : i = k
    · simp only [if_pos e]; exact hm
    · simp only [if_neg e]; exact h.shL i (by omega)
  · by_cases e : i = k
    · simp only [if_pos e]; omega
    · simp only [if_neg e]; have := h.mL i (by omega); omega
/-- A list of records more is kept. -/
theorem K2.moreR (h : K2 w base B n k q F L R ML MR NL NR XL XR) {v vb : Value} {m : Nat} {xs : List Value} (hv : OwnV w base 58 1 v m xs) (hm : m ≤ 4000000) (hd : ∀ g, v.ownBlock = some g → ¬ K2B B k q F L R g)
    (hb : BkAt w' B (n + 1) (fun j => if j = 17 then vb else F j)) (hr : OwnV w' base 137 3 vb (q + 1) (hld (fun i => if i = q then n + 1 else MR i) (fun j => if j = q then v else R j) nilG (q + 1))) (hB : vb.ownBlock ≠ some B)
    (hk : ∀ g, g < w.heap.size → g ≠ B → (F 17).ownBlock ≠ some g → w'.heap[g]? = w.heap[g]? ∧ vb.ownBlock ≠ some g) :
    K2 w' base B (n + 1) k (q + 1) (fun j => if j = 17 then vb else F j) L (fun j => if j = q then v else R j) ML (fun i => if i = q then n + 1 else MR i) NL (fun j => if j = q then m else NR j) XL (fun j => if j = q then xs else XR j) := by
  have hR : ∀ i, i < q → ∀ g, (R i).ownBlock = some g → w'.heap[g]? = w.heap[g]? ∧ vb.ownBlock ≠ some g := fun i hi g hg => hk g (OwnV.lt (h.famR.own i hi) g hg).2 (h.apR.one i hi g hg).1 (h.apR.one i hi g hg).2
  have hV : ∀ g, v.ownBlock = some g → w'.heap[g]? = w.heap[g]? ∧ vb.ownBlock ≠ some g := fun g hg => hk g (OwnV.lt hv g hg).2 (fun e => hd g hg (.inl e)) (fun e => hd g hg (.inr (.inr (.inl e))))
  have hL : ∀ i, i < k → ∀ g, (L i).ownBlock = some g → w'.heap[g]? = w.heap[g]? ∧ vb.ownBlock ≠ some g := fun i hi g hg => hk g (OwnV.lt (h.famL.own i hi) g hg).2 (h.apL.one i hi g hg).1 (fun e => (h.xL i hi g hg).1 e)
  have h1' : ∀ g, (F 1).ownBlock = some g → w'.heap[g]? = w.heap[g]? ∧ vb.ownBlock ≠ some g := fun g hg => hk g (OwnV.lt h.famL.row g hg).2 (fun e => h.apL.notB (by rw [← e]; exact hg)) (fun e => (h.xF g hg).1 e)
  have f17 : (if (17 : Nat) = 17 then vb else F 17) = vb := if_pos rfl
  have f1 : (if (1 : Nat) = 17 then vb else F 1) = F 1 := if_neg (by decide)
  refine ⟨⟨hb, by rw [f1]; exact OwnV.block h.famL.row fun g hg => (h1' g hg).1, fun i hi => OwnV.block (h.famL.own i hi) fun g hg => (hL i hi g hg).1⟩, ⟨hb, by rw [f17]; exact hr, fun i hi => ?_⟩, by rw [f1]; exact h.apL, ⟨by rw [f17]; exact hB, fun i hi g hg => ?_, fun i j hi hj hij g hg => ?_⟩, fun g hg => ?_, fun i hi g hg => ?_, fun j h1 h2 h3 h4 => ?_, h.low, h.shL, fun i hi => ?_, fun i hi => by have := h.mL i hi; omega, fun i hi => ?_, by have := h.kn; omega, by have := h.qn; omega⟩
  · by_cases e : i = q
    · simp only [if_pos e]
      exact OwnV.block hv fun g hg => (hV g hg).1
    · simp only [if_neg e]
      exact OwnV.block (h.famR.own i (by omega)) fun g hg => (hR i (by omega) g hg).1
  · rw [f17]
    by_cases e : i = q
    · simp only [if_pos e] at hg
      exact ⟨fun e9 => hd g hg (.inl e9), (hV g hg).2⟩
    · simp only [if_neg e] at hg
      exact ⟨(h.apR.one i (by omega) g hg).1, (hR i (by omega) g hg).2⟩
  · by_cases e : i = q <;> by_cases e' : j = q
    · omega
    · simp only [if_pos e] at hg
      simp only [if_neg e']
      exact fun e9 => hd g hg (.inr (.inr (.inr (.inr ⟨j, by omega, e9⟩))))
    · simp only [if_neg e] at hg
      simp only [if_pos e']
      exact fun e9 => hd g e9 (.inr (.inr (.inr (.inr ⟨i, by omega, hg⟩))))
    · simp only [if_neg e] at hg
      simp only [if_neg e']
      exact h.apR.two i j (by omega) (by omega) hij g hg
  · rw [f1] at hg
    rw [f17]
    refine ⟨fun e => (h1' g hg).2 e, fun j hj e9 => ?_⟩
    by_cases e : j = q
    · simp only [if_pos e] at e9
      exact hd g e9 (.inr (.inl hg))
    · simp only [if_neg e] at e9
      exact (h.xF g hg).2 j (by omega) e9
  · rw [f17]
    refine ⟨fun e => (hL i hi g hg).2 e, fun j hj e9 => ?_⟩
    by_cases e : j = q
    · simp only [if_pos e] at e9
      exact hd g e9 (.inr (.inr (.inr (.inl ⟨i, hi, hg⟩))))
    · simp only [if_neg e] at e9
      exact (h.xL i hi g hg).2 j (by omega) e9
  · simp only [if_neg h4]
    exact h.nil j h1 h2 h3 h4
  · by_cases e : i = q
    · simp only [if_pos e]; exact hm
    · simp only [if_neg e]; exact h.shR i (by omega)
  · by_cases e : i = q
    · simp only [if_pos e]; omega
    · simp only [if_neg e]; have := h.mR i (by omega); omega
end
/-- A book of n lists, all of whose blocks are of S. -/
def Bk2 (w : World) (base B n : Nat) (S : Nat → Prop) : Prop := (∃ k q F L R ML MR NL NR XL XR, K2 w base B n k q F L R ML MR NL NR XL XR ∧ ∀ g, K2B B k q F L R g → S g) ∧ ∀ g, S g → base ≤ g ∧ g < w.heap.size
section
variable {w w' : World} {base B n : Nat} {S : Nat → Prop}
theorem Bk2.kept (h : Bk2 w base B n S) (hb : ∀ g, S g → w'.heap[g]? = w.heap[g]?) (hs : w.heap.size ≤ w'.heap.size) : Bk2 w' base B n S := by
  obtain ⟨⟨k, q, F, L, R, ML, MR, NL, NR, XL, XR, h1, h2⟩, h3⟩ := h
  exact ⟨⟨k, q, F, L, R, ML, MR, NL, NR, XL, XR, h1.kept fun g hg => hb g (h2 g hg), h2⟩, fun g hg => ⟨(h3 g hg).1, by have := (h3 g hg).2; omega⟩⟩
theorem Bk2.other {S' : Nat → Prop} (h : Bk2 w base B n S) (hc : Chg w w' S') (hd : ∀ g, S' g → ¬ S g) : Bk2 w' base B n S := h.kept (fun g hg => hc.block g (h.2 g hg).2 fun e => hd g e hg) hc.size
end
theorem Bk2.new (w : World) (t : TypeId) : Bk2 (w.alloc (.cells bkZ2 t)) w.heap.size w.heap.size 0 (fun g => g = w.heap.size) := by
  have h := heap_alloc_new w (.cells bkZ2 t)
  have hc : ∀ j, (w.alloc (.cells bkZ2 t)).cell? ⟨w.heap.size, j, none⟩ = bkZ2[j]? := fun j => cell_of_row _ w.heap.size j bkZ2 t (0, 0) h
  have hb : BkAt (w.alloc (.cells bkZ2 t)) w.heap.size 0 (fun _ => .slice none 0 0) := by
    refine ⟨hc 0, fun j h1 h2 => ?_, fun j _ => by simp⟩
    rw [hc]
    have hj : j = 1 ∨ j = 2 ∨ j = 3 ∨ j = 4 ∨ j = 5 ∨ j = 6 ∨ j = 7 ∨ j = 8 ∨ j = 9 ∨ j = 10 ∨ j = 11 ∨ j = 12 ∨ j = 13 ∨ j = 14 ∨ j = 15 ∨ j = 16 ∨ j = 17 := by omega
    rcases hj with rfl | rfl | rfl | rfl | rfl | rfl | rfl | rfl | rfl | rfl | rfl | rfl | rfl | rfl | rfl | rfl | rfl <;> rfl
  have hno : ∀ {i : Nat} {P : Prop}, i < 0 → P := fun hi => absurd hi (Nat.not_lt_zero _)
  have hap : Aparts w.heap.size 0 (.slice none 0 0) nilG := ⟨fun e => (by simp [Value.ownBlock] at e), fun i hi => hno hi, fun i j hi => hno hi⟩
  refine ⟨⟨0, 0, fun _ => .slice none 0 0, nilG, nilG, fun _ => 0, fun _ => 0, fun _ => 0, fun _ => 0, fun _ => [], fun _ => [], ⟨⟨hb, ⟨rfl, .inl ⟨rfl, rfl⟩⟩, fun i hi => hno hi⟩, ⟨hb, ⟨rfl, .inl ⟨rfl, rfl⟩⟩, fun i hi => hno hi⟩, hap, hap, fun g hg => (by simp [Value.ownBlock] at hg), fun i hi => hno hi, fun _ _ _ _ _ => rfl, Nat.le_refl _, fun i hi => hno hi, fun i hi => hno hi, fun i hi => hno hi, fun i hi => hno hi, Nat.le_refl _, Nat.le_refl _⟩, fun g hg => ?_⟩, fun g hg => ?_⟩
  · rcases hg with hg | hg | hg | ⟨i, hi, _⟩ | ⟨i, hi, _⟩
    · exact hg
    · simp [Value.ownBlock] at hg
    · simp [Value.ownBlock] at hg
    · exact absurd hi (Nat.not_lt_zero _)
    · exact absurd hi (Nat.not_lt_zero _)
  · subst hg
    exact ⟨Nat.le_refl _, by simp⟩
theorem hld_congr2 {M M' : Nat → Nat} {L L' G : Nat → Value} : ∀ {k : Nat}, (∀ i, i < k → L i = L' i ∧ M i = M' i) → hld M L G k = hld M' L' G k
  | 0, _ => rfl
  | k + 1, h => by rw [hld, hld, hld_congr2 (k := k) fun i hi => h i (by omega), (h k (by omega)).1, (h k (by omega)).2]
theorem bk2_nil {w : World} {B n : Nat} {F : Nat → Value} (h : BkAt w B n F) (hn : ∀ j, 1 ≤ j → j < 18 → j ≠ 1 → j ≠ 17 → F j = .slice none 0 0) (j : Nat) (hj : 1 ≤ j ∧ j < 18 ∧ j ≠ 1 ∧ j ≠ 17) : w.cell? ⟨B, j, none⟩ = some (.slice none 0 0) := by
  rw [h.2.1 j (by omega) hj.2.1, hn j hj.1 hj.2.1 hj.2.2.1 hj.2.2.2]
set_option linter.unusedVariables false in
set_option linter.unusedSimpArgs false in
set_option maxRecDepth 40000 in
set_option maxHeartbeats 4000000 in
theorem Bk2.keepByte {w : World} {base B n : Nat} {S : Nat → Prop} (h : Bk2 w base B n S) (hn : n < 100000000) {v : Value} {m : Nat} {xs : List Value} (hv : OwnV w base 5 1 v m xs) (hm : m ≤ 4000000) (hd : ∀ g, v.ownBlock = some g → ¬ S g) :
    Calls Tryz.prog 58 #[.pointer (some ⟨B, 0, none⟩), v] w fun e w' => e = .returned (.tuple #[]) ∧ Bk2 w' base B (n + 1) (fun g => S g ∨ v.ownBlock = some g ∨ (w.heap.size ≤ g ∧ g < w'.heap.size)) ∧ Chg w w' S := by
  obtain ⟨⟨k, q, F, L, R, ML, MR, NL, NR, XL, XR, h1, h2⟩, h3⟩ := h
  obtain ⟨a, c, hL⟩ := hv.sl
  have hne : ∀ g, v.ownBlock = some g → ¬ K2B B k q F L R g := fun g hg e => hd g hg (h2 g e)
  have hhld : hld ML L nilG k = hld (fun i => if i = k then n + 1 else ML i) (fun j => if j = k then v else L j) nilG k := hld_congr2 fun i hi => ⟨(if_neg (by omega)).symm, (if_neg (by omega)).symm⟩
  have hrow : OwnV w base 141 3 (F 1) k (hld (fun i => if i = k then n + 1 else ML i) (fun j => if j = k then v else L j) nilG k) := by rw [← hhld]; exact h1.famL.row
  have hlow := h1.low
  have hlt := h1.famL.book.lt
  have hkn := h1.kn
  rw [hL]
  refine (keepByte_any w B base n k F (fun j => if j = k then v else L j) nilG (fun i => if i = k then n + 1 else ML i) a m c h1.famL.book hrow h1.apL.notB (by omega) (by omega) hlow (if_pos rfl) (by simp only [if_true]; exact hL) rfl).mono ?_
  rintro e w' ⟨he, vb, k1, k2, k3, k4, k5⟩
  refine ⟨he, ⟨⟨_, _, _, _, _, _, _, _, _, _, _, h1.moreL hv hm hne k1 k2 k3 k5, fun g hg => ?_⟩, fun g hg => ?_⟩, ⟨k4.os, k4.tape, k4.output, k4.size, fun g hg hS => (k5 g hg (fun e => hS (h2 g (.inl e))) (fun e => hS (h2 g (.inr (.inl e))))).1⟩⟩
  · have hnew : vb.ownBlock = some g → S g ∨ v.ownBlock = some g ∨ (w.heap.size ≤ g ∧ g < w'.heap.size) := fun hg => by
      by_cases hl : g < w.heap.size
      · by_cases hgB : g = B
        · exact absurd (by rw [← hgB]; exact hg) k3
        · by_cases hgF : (F 1).ownBlock = some g
          · exact .inl (h2 g (.inr (.inl hgF)))
          · exact absurd hg (k5 g hl hgB hgF).2
      · exact .inr (.inr ⟨by omega, (OwnV.lt k2 g hg).2⟩)
    rw [← hL]
    rcases hg with hg | hg | hg | ⟨i, hi, hg⟩ | ⟨i, hi, hg⟩
    · exact .inl (h2 g (.inl hg))
    · simp only [if_true] at hg
      exact hnew hg
    · exact .inl (h2 g (.inr (.inr (.inl (by simpa using hg)))))
    · by_cases e : i = k
      · simp only [if_pos e] at hg
        exact .inr (.inl hg)
      · simp only [if_neg e] at hg
        exact .inl (h2 g (.inr (.inr (.inr (.inl ⟨i, by omega, hg⟩)))))
    · exact .inl (h2 g (.inr (.inr (.inr (.inr ⟨i, hi, hg⟩)))))
  · have hs := k4.size
    rcases hg with hg | hg | hg
    · have := h3 g hg; omega
    · have := OwnV.lt hv g (by rw [hL]; exact hg); omega
    · have := h3 B (h2 B (.inl rfl)); omega
set_option linter.unusedVariables false in
set_option linter.unusedSimpArgs false in
set_option maxRecDepth 40000 in
set_option maxHeartbeats 4000000 in
theorem Bk2.keepRecord {w : World} {base B n : Nat} {S : Nat → Prop} (h : Bk2 w base B n S) (hn : n < 100000000) {v : Value} {m : Nat} {xs : List Value} (hv : OwnV w base 58 1 v m xs) (hm : m ≤ 4000000) (hd : ∀ g, v.ownBlock = some g → ¬ S g) :
    Calls Tryz.prog 54 #[.pointer (some ⟨B, 0, none⟩), v] w fun e w' => e = .returned (.tuple #[]) ∧ Bk2 w' base B (n + 1) (fun g => S g ∨ v.ownBlock = some g ∨ (w.heap.size ≤ g ∧ g < w'.heap.size)) ∧ Chg w w' S := by
  obtain ⟨⟨k, q, F, L, R, ML, MR, NL, NR, XL, XR, h1, h2⟩, h3⟩ := h
  obtain ⟨a, c, hL⟩ := hv.sl
  have hne : ∀ g, v.ownBlock = some g → ¬ K2B B k q F L R g := fun g hg e => hd g hg (h2 g e)
  have hhld : hld MR R nilG q = hld (fun i => if i = q then n + 1 else MR i) (fun j => if j = q then v else R j) nilG q := hld_congr2 fun i hi => ⟨(if_neg (by omega)).symm, (if_neg (by omega)).symm⟩
  have hrow : OwnV w base 137 3 (F 17) q (hld (fun i => if i = q then n + 1 else MR i) (fun j => if j = q then v else R j) nilG q) := by rw [← hhld]; exact h1.famR.row
  have hlow := h1.low
  have hlt := h1.famL.book.lt
  have hkn := h1.qn
  rw [hL]
  refine (keepRecord_any w B base n q F (fun j => if j = q then v else R j) nilG (fun i => if i = q then n + 1 else MR i) a m c h1.famL.book hrow h1.apR.notB (by omega) (by omega) hlow (if_pos rfl) (by simp only [if_true]; exact hL) rfl).mono ?_
  rintro e w' ⟨he, vb, k1, k2, k3, k4, k5⟩
  refine ⟨he, ⟨⟨_, _, _, _, _, _, _, _, _, _, _, h1.moreR hv hm hne k1 k2 k3 k5, fun g hg => ?_⟩, fun g hg => ?_⟩, ⟨k4.os, k4.tape, k4.output, k4.size, fun g hg hS => (k5 g hg (fun e => hS (h2 g (.inl e))) (fun e => hS (h2 g (.inr (.inr (.inl e)))))).1⟩⟩
  · have hnew : vb.ownBlock = some g → S g ∨ v.ownBlock = some g ∨ (w.heap.size ≤ g ∧ g < w'.heap.size) := fun hg => by
      by_cases hl : g < w.heap.size
      · by_cases hgB : g = B
        · exact absurd (by rw [← hgB]; exact hg) k3
        · by_cases hgF : (F 17).ownBlock = some g
          · exact .inl (h2 g (.inr (.inr (.inl hgF))))
          · exact absurd hg (k5 g hl hgB hgF).2
      · exact .inr (.inr ⟨by omega, (OwnV.lt k2 g hg).2⟩)
    rw [← hL]
    rcases hg with hg | hg | hg | ⟨i, hi, hg⟩ | ⟨i, hi, hg⟩
    · exact .inl (h2 g (.inl hg))
    · exact .inl (h2 g (.inr (.inl (by simpa using hg))))
    · simp only [if_true] at hg
      exact hnew hg
    · exact .inl (h2 g (.inr (.inr (.inr (.inl ⟨i, hi, hg⟩)))))
    · by_cases e : i = q
      · simp only [if_pos e] at hg
        exact .inr (.inl hg)
      · simp only [if_neg e] at hg
        exact .inl (h2 g (.inr (.inr (.inr (.inr ⟨i, by omega, hg⟩)))))
  · have hs := k4.size
    rcases hg with hg | hg | hg
    · have := h3 g hg; omega
    · have := OwnV.lt hv g (by rw [hL]; exact hg); omega
    · have := h3 B (h2 B (.inl rfl)); omega
set_option linter.unusedVariables false in
set_option linter.unusedSimpArgs false in
set_option maxRecDepth 40000 in
set_option maxHeartbeats 4000000 in
theorem Bk2.Bytes {w : World} {base B n : Nat} {S : Nat → Prop} (h : Bk2 w base B n S) (hn : n < 100000000) {v : Value} {m : Nat} {xs : List Value} (hv : OwnV w base 5 1 v m xs) (hm : m ≤ 4000000) (hd : ∀ g, v.ownBlock = some g → ¬ S g) :
    Calls Tryz.prog 27 #[.pointer (some ⟨B, 0, none⟩), v] w fun e w' => e = .returned (.tuple #[]) ∧ Bk2 w' base B (n + 1) (fun g => S g ∨ v.ownBlock = some g ∨ (w.heap.size ≤ g ∧ g < w'.heap.size)) ∧ Chg w w' S := by
  have H := Lib.hid (h.keepByte hn hv hm hd)
  obtain ⟨a, c, hL⟩ := hv.sl
  subst hL
  clear h hv hd
  go_enter Tryz.func27, Tryz.ntmps27
  go_wp2_with fail
  refine H.out.mono ?_
  rintro _ w' ⟨rfl, h⟩
  have HH := Lib.hid h
  clear h
  go_wp2_with fail
  go_end0
  exact ⟨rfl, HH.out⟩
set_option linter.unusedVariables false in
set_option linter.unusedSimpArgs false in
set_option maxRecDepth 40000 in
set_option maxHeartbeats 4000000 in
theorem Bk2.Records {w : World} {base B n : Nat} {S : Nat → Prop} (h : Bk2 w base B n S) {v : Value} {m : Nat} {xs : List Value} (hn : n + m < 100000000) (hv : OwnV w base 58 1 v m xs) (hm : m ≤ 4000000) (hd : ∀ g, v.ownBlock = some g → ¬ S g)
    (hx : ∀ (i : Nat) (u : Value), xs[i]? = some u → ∃ N ys, OwnV w base 5 1 u N ys ∧ N ≤ 4000000 ∧ ∀ g, u.ownBlock = some g → v.ownBlock ≠ some g ∧ ¬ S g) (hp : xs.Pairwise fun x y => ∀ k, x.ownBlock = some k → y.ownBlock ≠ some k) :
    Calls Tryz.prog 24 #[.pointer (some ⟨B, 0, none⟩), v] w fun e w' => e = .returned (.tuple #[]) ∧ (∃ S', Bk2 w' base B (n + m + 1) S' ∧ ∀ g, S' g → S g ∨ v.ownBlock = some g ∨ (∃ u ∈ xs, u.ownBlock = some g) ∨ w.heap.size ≤ g) ∧ Chg w w' (fun g => S g ∨ ∃ u ∈ xs, u.ownBlock = some g) := by
  have HB := Lib.hid h
  have HV := Lib.hid hv
  have HX := Lib.hid hx
  have HD := Lib.hid hd
  have HP := Lib.hid hp
  have HL := Lib.hid (show xs.length = m by have := hv.1; omega)
  obtain ⟨a, c, hL⟩ := hv.sl
  subst hL
  have hc9 := (own_cat hv)
  obtain ⟨-, a9, c9, e9, hc1, hc2, -⟩ := hc9
  cases e9
  unfold maxLen at hc2
  clear h hv hx hd hp
  go_enter Tryz.func24, Tryz.ntmps24
  go_wp2_with fail
  go_loopw [4] (fun i wr => ∃ (k : Nat), k ≤ m ∧ i = .int .i64 k ∧ Hid (∃ S', Bk2 wr base B (n + k) S' ∧ ∀ g, S' g → S g ∨ (∃ u ∈ xs.take k, u.ownBlock = some g) ∨ w.heap.size ≤ g) ∧ Hid (Chg w wr (fun g => S g ∨ ∃ u ∈ xs.take k, u.ownBlock = some g))) (fun i _ => m - (intOf i).toNat)
  case atStart => exact ⟨0, Nat.zero_le _, rfl, Lib.hid ⟨S, HB.out, fun g hg => .inl hg⟩, Lib.hid (Chg.refl _ _)⟩
  case round =>
    obtain ⟨k, hk, rfl, HS, HC⟩ := hrel
    have hrow : OwnV wr base 58 1 (.slice a m c) m xs := OwnV.block HV.out fun g hg => HC.out.block g (OwnV.lt HV.out g hg).2 (fun e => by
      rcases e with e | ⟨u', hu', e⟩
      · exact HD.out g hg e
      · obtain ⟨j, hj⟩ := List.mem_iff_getElem?.1 (List.mem_of_mem_take hu')
        obtain ⟨_, _, _, _, h9⟩ := HX.out j u' hj
        exact (h9 g e).1 hg)
    have HROW := Lib.hid hrow
    by_cases hlt : k < m
    · have hltI : (k : Int) < (m : Int) := by omega
      have hkx : k < xs.length := by have := HL.out; omega
      obtain ⟨u, hu⟩ : ∃ u, xs[k]? = some u := ⟨_, List.getElem?_eq_getElem hkx⟩
      obtain ⟨g, o, cap, hh, _, _, hg1, hg5⟩ := row_some hrow hlt
      cases hh
      have hcu := OwnV.cells hrow k u hu
      rw [Addr.add_lit] at hcu
      obtain ⟨N, ys, hu1, hu2, hu3⟩ := HX.out k u hu
      have hnt : ∀ g, u.ownBlock = some g → ∀ u' ∈ xs.take k, u'.ownBlock ≠ some g := fun g hg u' hu' e => by
        obtain ⟨j, hj⟩ := List.mem_iff_getElem?.1 hu'
        rw [List.getElem?_take] at hj
        split at hj
        · rename_i hjk
          obtain ⟨hj1, hj2⟩ := List.getElem?_eq_some_iff.1 hj
          obtain ⟨hk1, hk2⟩ := List.getElem?_eq_some_iff.1 hu
          have h9 := List.pairwise_iff_getElem.1 HP.out j k hj1 hk1 hjk g (by rw [hj2]; exact e)
          rw [hk2] at h9
          exact h9 hg
        · cases hj
      have hu1' : OwnV wr base 5 1 u N ys := OwnV.block hu1 fun g hg => HC.out.block g (OwnV.lt hu1 g hg).2 (fun e => by
        rcases e with e | ⟨u', hu', e⟩
        · exact (hu3 g hg).2 e
        · exact hnt g hg u' hu' e)
      have HC9 := Lib.hid (show Calls Tryz.prog 27 #[.pointer (some ⟨B, 0, none⟩), u] wr fun e w' => e = .returned (.tuple #[]) ∧ (∃ S', Bk2 w' base B (n + (k + 1)) S' ∧ ∀ g, S' g → S g ∨ (∃ u ∈ xs.take (k + 1), u.ownBlock = some g) ∨ w.heap.size ≤ g) ∧ Chg w w' (fun g => S g ∨ ∃ u ∈ xs.take (k + 1), u.ownBlock = some g) by
        obtain ⟨S', hS, hS2⟩ := HS.out
        have htk : xs.take (k + 1) = xs.take k ++ [u] := by rw [List.take_add_one, hu]; rfl
        refine (hS.Bytes (by omega) hu1' hu2 fun g hg e => ?_).mono ?_
        · rcases hS2 g e with e | ⟨u', hu', e⟩ | e
          · exact (hu3 g hg).2 e
          · exact hnt g hg u' hu' e
          · have := (OwnV.lt hu1 g hg).2; omega
        · rintro e w' ⟨rfl, hb, hc⟩
          refine ⟨rfl, ⟨_, hb, fun g hg => ?_⟩, ⟨hc.os.trans HC.out.os, hc.tape.trans HC.out.tape, hc.output.trans HC.out.output, Nat.le_trans HC.out.size hc.size, fun g hg hn => (hc.block g (Nat.lt_of_lt_of_le hg HC.out.size) fun e => ?_).trans (HC.out.block g hg fun e => hn ?_)⟩⟩
          · rw [htk]
            rcases hg with hg | hg | hg
            · rcases hS2 g hg with e | ⟨u', hu', e⟩ | e
              · exact .inl e
              · exact .inr (.inl ⟨u', List.mem_append_left _ hu', e⟩)
              · exact .inr (.inr e)
            · exact .inr (.inl ⟨u, List.mem_append_right _ (List.mem_singleton.2 rfl), hg⟩)
            · exact .inr (.inr (by have := HC.out.size; omega))
          · rcases hS2 g e with e | ⟨u', hu', e⟩ | e
            · exact hn (.inl e)
            · exact hn (.inr ⟨u', by rw [htk]; exact List.mem_append_left _ hu', e⟩)
            · omega
          · rcases e with e | ⟨u', hu', e⟩
            · exact .inl e
            · exact .inr ⟨u', by rw [htk]; exact List.mem_append_left _ hu', e⟩)
      obtain ⟨ua, uc, rfl⟩ := hu1.sl
      clear hrow hu1 hu1' hu3 hu hg5 hnt
      go_wp2_with fail
      refine HC9.out.mono ?_
      rintro _ w1 ⟨rfl, hs, hc⟩
      have HS1 := Lib.hid hs
      have HC1 := Lib.hid hc
      clear hs hc
      go_wp2_with fail
      go_roundw
      case rel => exact ⟨k + 1, by omega, by go_num, HS1, HC1⟩
      case measure => simp [intOf]; omega
    · obtain rfl : k = m := by omega
      have HC9 := Lib.hid (show Calls Tryz.prog 54 #[.pointer (some ⟨B, 0, none⟩), .slice a k c] wr fun e w' => e = .returned (.tuple #[]) ∧ (∃ S', Bk2 w' base B (n + k + 1) S' ∧ ∀ g, S' g → S g ∨ (Value.slice a k c).ownBlock = some g ∨ (∃ u ∈ xs, u.ownBlock = some g) ∨ w.heap.size ≤ g) ∧ Chg w w' (fun g => S g ∨ ∃ u ∈ xs, u.ownBlock = some g) by
        obtain ⟨S', hS, hS2⟩ := HS.out
        refine (hS.keepRecord (by omega) HROW.out hm fun g hg e => ?_).mono ?_
        · rcases hS2 g e with e | ⟨u', hu', e⟩ | e
          · exact HD.out g hg e
          · obtain ⟨j, hj⟩ := List.mem_iff_getElem?.1 (List.mem_of_mem_take hu')
            obtain ⟨_, _, _, _, h9⟩ := HX.out j u' hj
            exact (h9 g e).1 hg
          · have := (OwnV.lt HV.out g hg).2; omega
        · rintro e w' ⟨rfl, hb, hc⟩
          refine ⟨rfl, ⟨_, hb, fun g hg => ?_⟩, ⟨hc.os.trans HC.out.os, hc.tape.trans HC.out.tape, hc.output.trans HC.out.output, Nat.le_trans HC.out.size hc.size, fun g hg hn => (hc.block g (Nat.lt_of_lt_of_le hg HC.out.size) fun e => ?_).trans (HC.out.block g hg fun e => hn ?_)⟩⟩
          · rcases hg with hg | hg | hg
            · rcases hS2 g hg with e | ⟨u', hu', e⟩ | e
              · exact .inl e
              · exact .inr (.inr (.inl ⟨u', List.mem_of_mem_take hu', e⟩))
              · exact .inr (.inr (.inr e))
            · exact .inr (.inl hg)
            · exact .inr (.inr (.inr (by have := HC.out.size; omega)))
          · rcases hS2 g e with e | ⟨u', hu', e⟩ | e
            · exact hn (.inl e)
            · exact hn (.inr ⟨u', List.mem_of_mem_take hu', e⟩)
            · omega
          · rcases e with e | ⟨u', hu', e⟩
            · exact .inl e
            · exact .inr ⟨u', List.mem_of_mem_take hu', e⟩)
      clear hrow
      go_wp2_with fail
      refine HC9.out.mono ?_
      rintro _ w1 ⟨rfl, hs, hc⟩
      have HS1 := Lib.hid hs
      have HC1 := Lib.hid hc
      clear hs hc
      go_wp2_with fail
      go_end0
      exact ⟨rfl, HS1.out, HC1.out⟩
set_option linter.unusedVariables false in
set_option linter.unusedSimpArgs false in
set_option maxRecDepth 40000 in
set_option maxHeartbeats 4000000 in
theorem Bk2.apart {w : World} {base B n : Nat} {S : Nat → Prop} (h : Bk2 w base B n S) (hn : n < 100000000) :
    Calls Tryz.prog 28 #[.pointer (some ⟨B, 0, none⟩)] w fun e w' => e = .returned (.bool true) ∧ Below base w w' ∧ Chg w w' S := by
  obtain ⟨⟨k, q, F, L, R, ML, MR, NL, NR, XL, XR, h, h2⟩, h3⟩ := h
  have hs : base ≤ w.heap.size := by have := h.low; have := h.famL.book.lt; omega
  have hk1 : k ≤ 100000000 := by have := h.kn; omega
  have hq1 : q ≤ 100000000 := by have := h.qn; omega
  have hmL : ∀ i, i < k → ML i ≤ 100000000 := fun i hi => by have := h.mL i hi; omega
  have hmR : ∀ i, i < q → MR i ≤ 100000000 := fun i hi => by have := h.mR i hi; omega
  have NIL := Lib.hid h.nil
  have HK := Lib.hid h
  have C1 := Lib.hid (fillByte_any w B base n k F L nilG ML NL XL h.famL h.apL hk1 hmL h.low (fun _ _ => rfl) h.shL)
  have C2 := Lib.hid (fun (w1 : World) (X : Nat → List Value) h9 => fillRecord_any w1 B base n q F R nilG MR NR X h9 h.apR hq1 hmR h.low (fun _ _ => rfl) h.shR)
  have C3 := Lib.hid (fun (w1 : World) h9 => growByte_any w1 B base n k w1.heap.size F L nilG ML NL (Grow.of h9) h.apL hk1 hmL h.low (fun _ _ => rfl) h.shL)
  have C4 := Lib.hid (fun (w1 : World) (z0 : Nat) h9 h8 => growRecord_any w1 B base n q z0 w1.heap.size F R nilG MR NR h9 h.apR hq1 hmR h.low (fun _ _ => rfl) h.shR h8)
  have C5 := Lib.hid (fun (w1 : World) (z : Nat) (G : Nat → Value) h9 => lookByte_any w1 B base n k z F L G ML NL h9 hk1 hmL h.shL)
  have C6 := Lib.hid (fun (w1 : World) (z0 z : Nat) (G : Nat → Value) h9 => lookRecord_any w1 B base n q z0 z F R G MR NR h9 hq1 hmR h.shR)
  have SL := Lib.hid (show ∀ g, ¬ S g → (F 1).ownBlock ≠ some g ∧ ∀ i, i < k → (L i).ownBlock ≠ some g from fun g hg => ⟨fun e => hg (h2 g (.inr (.inl e))), fun i hi e => hg (h2 g (.inr (.inr (.inr (.inl ⟨i, hi, e⟩)))))⟩)
  have SR := Lib.hid (show ∀ g, ¬ S g → (F 17).ownBlock ≠ some g ∧ ∀ i, i < q → (R i).ownBlock ≠ some g from fun g hg => ⟨fun e => hg (h2 g (.inr (.inr (.inl e)))), fun i hi e => hg (h2 g (.inr (.inr (.inr (.inr ⟨i, hi, e⟩)))))⟩)
  have RL := Lib.hid (show ∀ g, ((F 17).ownBlock = some g ∨ ∃ j, j < q ∧ (R j).ownBlock = some g) → (F 1).ownBlock ≠ some g ∧ (∀ i, i < k → (L i).ownBlock ≠ some g) ∧ g < w.heap.size from fun g hg => by
    rcases hg with hg | ⟨j, hj, hg⟩
    · exact ⟨fun e => (h.xF g e).1 hg, fun i hi e => (h.xL i hi g e).1 hg, (OwnV.lt h.famR.row g hg).2⟩
    · exact ⟨fun e => (h.xF g e).2 j hj hg, fun i hi e => (h.xL i hi g e).2 j hj hg, (OwnV.lt (h.famR.own j hj) g hg).2⟩)
  have LR := Lib.hid (show ∀ g, ((F 1).ownBlock = some g ∨ ∃ j, j < k ∧ (L j).ownBlock = some g) → (F 17).ownBlock ≠ some g ∧ (∀ i, i < q → (R i).ownBlock ≠ some g) ∧ g < w.heap.size from fun g hg => by
    rcases hg with hg | ⟨j, hj, hg⟩
    · exact ⟨(h.xF g hg).1, (h.xF g hg).2, (OwnV.lt h.famL.row g hg).2⟩
    · exact ⟨(h.xL j hj g hg).1, (h.xL j hj g hg).2, (OwnV.lt (h.famL.own j hj) g hg).2⟩)
  have BK := Lib.hid h.famL.book
  have HRR := Lib.hid h.famR
  clear h h2 h3 hmL hmR
  go_enter Tryz.func28, Tryz.ntmps28
  go_wp2_with fail
  refine C1.out.mono ?_
  rintro _ w1 ⟨rfl, fB, hb, sp⟩
  have FB := Lib.hid fB
  have BK := Lib.hid fB.book
  have HB := Lib.hid hb
  have SP1 := Lib.hid sp
  have PR := Lib.hid (show ∀ g, g < w.heap.size → ¬ S g → w1.heap[g]? = w.heap[g]? from fun g h1 h2 => sp.2 g h1 (SL.out g h2).1 (SL.out g h2).2)
  have hs1 := sp.1
  have HRR := Lib.hid (show Fam 58 137 1 17 MR w1 base B n q F R nilG NR XR from ⟨fB.book, OwnV.block HRR.out.row (fun g hg => by obtain ⟨r1, r2, r3⟩ := RL.out g (.inl hg); exact sp.2 g r3 r1 r2), fun i hi => OwnV.block (HRR.out.own i hi) (fun g hg => by obtain ⟨r1, r2, r3⟩ := RL.out g (.inr ⟨i, hi, hg⟩); exact sp.2 g r3 r1 r2)⟩)
  clear fB hb sp C1
  go_wp2_with fail
  refine (fillInt_none _ B (bk2_nil BK.out NIL.out 2 (by decide))).mono ?_
  rintro _ _ ⟨rfl, rfl⟩
  go_wp2_with fail
  refine (fillText_none _ B (bk2_nil BK.out NIL.out 3 (by decide))).mono ?_
  rintro _ _ ⟨rfl, rfl⟩
  go_wp2_with fail
  refine (fillNum_none _ B (bk2_nil BK.out NIL.out 4 (by decide))).mono ?_
  rintro _ _ ⟨rfl, rfl⟩
  go_wp2_with fail
  refine (fillHash_none _ B (bk2_nil BK.out NIL.out 5 (by decide))).mono ?_
  rintro _ _ ⟨rfl, rfl⟩
  go_wp2_with fail
  refine (fillReason_none _ B (bk2_nil BK.out NIL.out 6 (by decide))).mono ?_
  rintro _ _ ⟨rfl, rfl⟩
  go_wp2_with fail
  refine (fillKey_none _ B (bk2_nil BK.out NIL.out 7 (by decide))).mono ?_
  rintro _ _ ⟨rfl, rfl⟩
  go_wp2_with fail
  refine (fillProof_none _ B (bk2_nil BK.out NIL.out 8 (by decide))).mono ?_
  rintro _ _ ⟨rfl, rfl⟩
  go_wp2_with fail
  refine (fillDealing_none _ B (bk2_nil BK.out NIL.out 9 (by decide))).mono ?_
  rintro _ _ ⟨rfl, rfl⟩
  go_wp2_with fail
  refine (fillOpened_none _ B (bk2_nil BK.out NIL.out 10 (by decide))).mono ?_
  rintro _ _ ⟨rfl, rfl⟩
  go_wp2_with fail
  refine (fillShown_none _ B (bk2_nil BK.out NIL.out 11 (by decide))).mono ?_
  rintro _ _ ⟨rfl, rfl⟩
  go_wp2_with fail
  refine (fillVote_none _ B (bk2_nil BK.out NIL.out 12 (by decide))).mono ?_
  rintro _ _ ⟨rfl, rfl⟩
  go_wp2_with fail
  refine (fillBlock_none _ B (bk2_nil BK.out NIL.out 13 (by decide))).mono ?_
  rintro _ _ ⟨rfl, rfl⟩
  go_wp2_with fail
  refine (fillEvidence_none _ B (bk2_nil BK.out NIL.out 14 (by decide))).mono ?_
  rintro _ _ ⟨rfl, rfl⟩
  go_wp2_with fail
  refine (fillMsg_none _ B (bk2_nil BK.out NIL.out 15 (by decide))).mono ?_
  rintro _ _ ⟨rfl, rfl⟩
  go_wp2_with fail
  refine (fillFrame_none _ B (bk2_nil BK.out NIL.out 16 (by decide))).mono ?_
  rintro _ _ ⟨rfl, rfl⟩
  go_wp2_with fail
  refine (C2.out w1 XR HRR.out).mono ?_
  rintro _ w2 ⟨rfl, ⟨X2, fR, hmk⟩, hb, sp⟩
  have FR := Lib.hid fR
  have MK := Lib.hid hmk
  have BK := Lib.hid fR.book
  have HB := Lib.hid (HB.out.trans hb)
  have PR := Lib.hid (show ∀ g, g < w.heap.size → ¬ S g → w2.heap[g]? = w.heap[g]? from fun g h1 h2 => (sp.2 g (by omega) (SR.out g h2).1 (SR.out g h2).2).trans (PR.out g h1 h2))
  have hs2 := sp.1
  have FB := Lib.hid (show Fam 5 141 1 1 ML w2 base B n k F L nilG NL (fun i => rep (NL i) (mkByte (ML i))) from ⟨fR.book, OwnV.block FB.out.row (fun g hg => by obtain ⟨r1, r2, r3⟩ := LR.out g (.inl hg); exact sp.2 g (by omega) r1 r2), fun i hi => OwnV.block (FB.out.own i hi) (fun g hg => by obtain ⟨r1, r2, r3⟩ := LR.out g (.inr ⟨i, hi, hg⟩); exact sp.2 g (by omega) r1 r2)⟩)
  clear fR hmk hb sp C2 HRR
  go_wp2_with fail
  refine (C3.out w2 FB.out).mono ?_
  rintro _ w3 ⟨rfl, ⟨G1, gB⟩, hb, sp⟩
  have GB := Lib.hid gB
  have BK := Lib.hid gB.book
  have HB := Lib.hid (HB.out.trans hb)
  have PR := Lib.hid (show ∀ g, g < w.heap.size → ¬ S g → w3.heap[g]? = w.heap[g]? from fun g h1 h2 => (sp.2 g (by omega) (SL.out g h2).1 (SL.out g h2).2).trans (PR.out g h1 h2))
  have hs3 := sp.1
  have HST := Lib.hid (show Still w1.heap.size w2 w3 from fun g c hg hc => sp.2 g (lt_heap9 hc) (fun e => by obtain ⟨_, _, r3⟩ := LR.out g (.inl e); omega) (fun i hi e => by obtain ⟨_, _, r3⟩ := LR.out g (.inr ⟨i, hi, e⟩); omega))
  have FR := Lib.hid (show Fam 58 137 1 17 MR w3 base B n q F R nilG NR X2 from ⟨gB.book, OwnV.block FR.out.row (fun g hg => by obtain ⟨r1, r2, r3⟩ := RL.out g (.inl hg); exact sp.2 g (by omega) r1 r2), fun i hi => OwnV.block (FR.out.own i hi) (fun g hg => by obtain ⟨r1, r2, r3⟩ := RL.out g (.inr ⟨i, hi, hg⟩); exact sp.2 g (by omega) r1 r2)⟩)
  have GR := Lib.hid (GrowR.of FR.out (fun i hi => (MK.out i hi).kept HST.out))
  clear gB hb sp C3 FB MK HST
  go_wp2_with fail
  refine (growInt_none _ B (bk2_nil BK.out NIL.out 2 (by decide))).mono ?_
  rintro _ _ ⟨rfl, rfl⟩
  go_wp2_with fail
  refine (growText_none _ B (bk2_nil BK.out NIL.out 3 (by decide))).mono ?_
  rintro _ _ ⟨rfl, rfl⟩
  go_wp2_with fail
  refine (growNum_none _ B (bk2_nil BK.out NIL.out 4 (by decide))).mono ?_
  rintro _ _ ⟨rfl, rfl⟩
  go_wp2_with fail
  refine (growHash_none _ B (bk2_nil BK.out NIL.out 5 (by decide))).mono ?_
  rintro _ _ ⟨rfl, rfl⟩
  go_wp2_with fail
  refine (growReason_none _ B (bk2_nil BK.out NIL.out 6 (by decide))).mono ?_
  rintro _ _ ⟨rfl, rfl⟩
  go_wp2_with fail
  refine (growKey_none _ B (bk2_nil BK.out NIL.out 7 (by decide))).mono ?_
  rintro _ _ ⟨rfl, rfl⟩
  go_wp2_with fail
  refine (growProof_none _ B (bk2_nil BK.out NIL.out 8 (by decide))).mono ?_
  rintro _ _ ⟨rfl, rfl⟩
  go_wp2_with fail
  refine (growDealing_none _ B (bk2_nil BK.out NIL.out 9 (by decide))).mono ?_
  rintro _ _ ⟨rfl, rfl⟩
  go_wp2_with fail
  refine (growOpened_none _ B (bk2_nil BK.out NIL.out 10 (by decide))).mono ?_
  rintro _ _ ⟨rfl, rfl⟩
  go_wp2_with fail
  refine (growShown_none _ B (bk2_nil BK.out NIL.out 11 (by decide))).mono ?_
  rintro _ _ ⟨rfl, rfl⟩
  go_wp2_with fail
  refine (growVote_none _ B (bk2_nil BK.out NIL.out 12 (by decide))).mono ?_
  rintro _ _ ⟨rfl, rfl⟩
  go_wp2_with fail
  refine (growBlock_none _ B (bk2_nil BK.out NIL.out 13 (by decide))).mono ?_
  rintro _ _ ⟨rfl, rfl⟩
  go_wp2_with fail
  refine (growEvidence_none _ B (bk2_nil BK.out NIL.out 14 (by decide))).mono ?_
  rintro _ _ ⟨rfl, rfl⟩
  go_wp2_with fail
  refine (growMsg_none _ B (bk2_nil BK.out NIL.out 15 (by decide))).mono ?_
  rintro _ _ ⟨rfl, rfl⟩
  go_wp2_with fail
  refine (growFrame_none _ B (bk2_nil BK.out NIL.out 16 (by decide))).mono ?_
  rintro _ _ ⟨rfl, rfl⟩
  go_wp2_with fail
  refine (C4.out w3 w1.heap.size GR.out (by omega)).mono ?_
  rintro _ w4 ⟨rfl, ⟨G2, gR⟩, hb, sp⟩
  have BK := Lib.hid gR.book
  have HB := Lib.hid (HB.out.trans hb)
  have PR := Lib.hid (show ∀ g, g < w.heap.size → ¬ S g → w4.heap[g]? = w.heap[g]? from fun g h1 h2 => (sp.2 g (by omega) (SR.out g h2).1 (SR.out g h2).2).trans (PR.out g h1 h2))
  have hs4 := sp.1
  have GB := Lib.hid (GB.out.kept sp.1 (by have h9 := FR.out.book.lt; exact sp.2 B h9 HK.out.apR.notB (fun i hi e => (HK.out.apR.one i hi B e).1 rfl)) (fun g hg => by obtain ⟨r1, r2, r3⟩ := LR.out g (.inl hg); exact sp.2 g (by omega) r1 r2) (fun j hj g hg => by obtain ⟨r1, r2, r3⟩ := LR.out g (.inr ⟨j, hj, hg⟩); exact sp.2 g (by omega) r1 r2) (fun j h1 h2 g hg => by
    have hf := GB.out.far j h1 h2 g hg
    rcases GB.out.new j h1 h2 g hg with e | e
    · obtain ⟨r1, r2, r3⟩ := LR.out g (.inr ⟨j, h2, e⟩); exact sp.2 g (by omega) r1 r2
    · exact sp.2 g hf.1 (fun e9 => by obtain ⟨_, _, r3⟩ := RL.out g (.inl e9); omega) (fun i hi e9 => by obtain ⟨_, _, r3⟩ := RL.out g (.inr ⟨i, hi, e9⟩); omega)))
  have GR := Lib.hid gR
  clear gR hb sp C4 FR
  go_wp2_with fail
  refine (C5.out w4 _ G1 GB.out).mono ?_
  rintro _ w5 ⟨rfl, hb⟩
  have BK := Lib.hid (BK.out.kept (hb.block B BK.out.lt))
  have HB := Lib.hid (HB.out.trans (hb.mono (by omega)))
  have PR := Lib.hid (show ∀ g, g < w.heap.size → ¬ S g → w5.heap[g]? = w.heap[g]? from fun g h1 h2 => (hb.block g (by omega)).trans (PR.out g h1 h2))
  have hs5 := hb.size
  have GR := Lib.hid (GR.out.later hb)
  clear hb C5 GB
  go_wp2_with fail
  refine (lookInt_none _ B (bk2_nil BK.out NIL.out 2 (by decide))).mono ?_
  rintro _ _ ⟨rfl, rfl⟩
  go_wp2_with fail
  refine (lookText_none _ B (bk2_nil BK.out NIL.out 3 (by decide))).mono ?_
  rintro _ _ ⟨rfl, rfl⟩
  go_wp2_with fail
  refine (lookNum_none _ B (bk2_nil BK.out NIL.out 4 (by decide))).mono ?_
  rintro _ _ ⟨rfl, rfl⟩
  go_wp2_with fail
  refine (lookHash_none _ B (bk2_nil BK.out NIL.out 5 (by decide))).mono ?_
  rintro _ _ ⟨rfl, rfl⟩
  go_wp2_with fail
  refine (lookReason_none _ B (bk2_nil BK.out NIL.out 6 (by decide))).mono ?_
  rintro _ _ ⟨rfl, rfl⟩
  go_wp2_with fail
  refine (lookKey_none _ B (bk2_nil BK.out NIL.out 7 (by decide))).mono ?_
  rintro _ _ ⟨rfl, rfl⟩
  go_wp2_with fail
  refine (lookProof_none _ B (bk2_nil BK.out NIL.out 8 (by decide))).mono ?_
  rintro _ _ ⟨rfl, rfl⟩
  go_wp2_with fail
  refine (lookDealing_none _ B (bk2_nil BK.out NIL.out 9 (by decide))).mono ?_
  rintro _ _ ⟨rfl, rfl⟩
  go_wp2_with fail
  refine (lookOpened_none _ B (bk2_nil BK.out NIL.out 10 (by decide))).mono ?_
  rintro _ _ ⟨rfl, rfl⟩
  go_wp2_with fail
  refine (lookShown_none _ B (bk2_nil BK.out NIL.out 11 (by decide))).mono ?_
  rintro _ _ ⟨rfl, rfl⟩
  go_wp2_with fail
  refine (lookVote_none _ B (bk2_nil BK.out NIL.out 12 (by decide))).mono ?_
  rintro _ _ ⟨rfl, rfl⟩
  go_wp2_with fail
  refine (lookBlock_none _ B (bk2_nil BK.out NIL.out 13 (by decide))).mono ?_
  rintro _ _ ⟨rfl, rfl⟩
  go_wp2_with fail
  refine (lookEvidence_none _ B (bk2_nil BK.out NIL.out 14 (by decide))).mono ?_
  rintro _ _ ⟨rfl, rfl⟩
  go_wp2_with fail
  refine (lookMsg_none _ B (bk2_nil BK.out NIL.out 15 (by decide))).mono ?_
  rintro _ _ ⟨rfl, rfl⟩
  go_wp2_with fail
  refine (lookFrame_none _ B (bk2_nil BK.out NIL.out 16 (by decide))).mono ?_
  rintro _ _ ⟨rfl, rfl⟩
  go_wp2_with fail
  refine (C6.out w5 _ _ G2 GR.out).mono ?_
  rintro _ w6 ⟨rfl, hb⟩
  have HB := Lib.hid (HB.out.trans (hb.mono (by omega)))
  have PR := Lib.hid (show ∀ g, g < w.heap.size → ¬ S g → w6.heap[g]? = w.heap[g]? from fun g h1 h2 => (hb.block g (by omega)).trans (PR.out g h1 h2))
  have hs6 := hb.size
  clear hb C6 GR
  go_wp2_with fail
  go_ret
  exact ⟨rfl, HB.out, ⟨HB.out.os, HB.out.tape, HB.out.output, HB.out.size, PR.out⟩⟩
end Go.Proofs.YtidhlbhfhfonoaaGreatDoor
