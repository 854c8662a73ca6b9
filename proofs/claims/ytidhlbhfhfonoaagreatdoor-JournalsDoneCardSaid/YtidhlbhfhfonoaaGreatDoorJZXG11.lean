/- Layer 17's reference (files): its disk in memory; Layer 17's reference: where a name stands; a name's place, or why there is none; Layer 17's reference: Size, Left, Read -/
import Derived.Test.YtidhlbhfhfonoaaGreatDoorJZXG01
import Derived.Test.YtidhlbhfhfonoaaGreatDoorJZXG04
import Derived.Test.YtidhlbhfhfonoaaGreatDoorJZXG07
import Derived.Test.YtidhlbhfhfonoaaGreatDoorJZXG10
namespace Go.Proofs.YtidhlbhfhfonoaaGreatDoor
open Go.ChangeShapes Go.WideShapes Go.ChangeAt Go.RowKit
/-- Names and row numbers, in cells. -/
def pairs8 : List (ByteArray × Nat) → List Value
  | [] => []
  | p :: l => .string p.1 :: .int .i64 p.2 :: pairs8 l
theorem pairs8_length : ∀ l, (pairs8 l).length = l.length * 2
  | [] => rfl
  | p :: l => by simp only [pairs8, List.length_cons, pairs8_length l]; omega
theorem pairs8_append : ∀ a b, pairs8 (a ++ b) = pairs8 a ++ pairs8 b
  | [], _ => rfl
  | p :: a, b => by simp only [List.cons_append, pairs8, pairs8_append a b]
theorem pairs8_get : ∀ {l : List (ByteArray × Nat)} {i : Nat} {p : ByteArray × Nat}, l[i]? = some p → (pairs8 l)[i * 2]? = some (.string p.1) ∧ (pairs8 l)[i * 2 + 1]? = some (.int .i64 p.2)
  | [], _, _, h => by cases h
  | q :: l, 0, p, h => by cases h; exact ⟨rfl, rfl⟩
  | q :: l, i + 1, p, h => by
    have := pairs8_get (l := l) (i := i) (p := p) (by simpa using h)
    rw [show (i + 1) * 2 = i * 2 + 1 + 1 by omega]
    simpa [pairs8] using this
theorem pairs8_take (l : List (ByteArray × Nat)) (k : Nat) (hk : k ≤ l.length) : (pairs8 l).take (k * 2) = pairs8 (l.take k) := by
  conv => lhs; rw [← List.take_append_drop k l, pairs8_append]
  rw [List.take_append_of_le_length (by rw [pairs8_length, List.length_take]; omega), List.take_of_length_le (by rw [pairs8_length, List.length_take]; omega)]
theorem pairs8_drop (l : List (ByteArray × Nat)) (k : Nat) (hk : k ≤ l.length) : (pairs8 l).drop (k * 2) = pairs8 (l.drop k) := by
  conv => lhs; rw [← List.take_append_drop k l, pairs8_append]
  have e : (pairs8 (l.take k)).length = k * 2 := by rw [pairs8_length, List.length_take]; omega
  rw [List.drop_append_of_le_length (by omega), List.drop_of_length_le (by omega), List.nil_append]
theorem pairs8_one (l : List (ByteArray × Nat)) : ∀ u ∈ pairs8 l, u.oneCell' = true := by
  induction l with
  | nil => intro u hu; cases hu
  | cons p l ih =>
    intro u hu
    simp only [pairs8, List.mem_cons] at hu
    rcases hu with rfl | rfl | hu
    · rfl
    · rfl
    · exact ih u hu
structure RdAt (w : World) (base D : Nat) (R : Rf) (rv mv nv sv : Value) : Prop where
  blk : w.heap[D]? = some (.cells #[.int .i64 R.size, rv, mv, nv, sv] 97 (0, 0))
  rows : OwnV w base 9 1 rv R.rows.length (strs R.rows)
  marks : OwnV w base 3 1 mv R.marks.length (cellsK .i64 R.marks)
  now : OwnV w base 120 2 nv R.now.length (pairs8 R.now)
  safe : OwnV w base 120 2 sv R.safe.length (pairs8 R.safe)
  low : base ≤ D
  notD : rv.ownBlock ≠ some D ∧ mv.ownBlock ≠ some D ∧ nv.ownBlock ≠ some D ∧ sv.ownBlock ≠ some D
  rm : ∀ g, rv.ownBlock = some g → mv.ownBlock ≠ some g
  rn : ∀ g, rv.ownBlock = some g → nv.ownBlock ≠ some g
  rs : ∀ g, rv.ownBlock = some g → sv.ownBlock ≠ some g
  mn : ∀ g, mv.ownBlock = some g → nv.ownBlock ≠ some g
  ms : ∀ g, mv.ownBlock = some g → sv.ownBlock ≠ some g
  ns : ∀ g, nv.ownBlock = some g → sv.ownBlock ≠ some g
def RFoot (D : Nat) (rv mv nv sv : Value) (g : Nat) : Prop := g = D ∨ rv.ownBlock = some g ∨ mv.ownBlock = some g ∨ nv.ownBlock = some g ∨ sv.ownBlock = some g
section
variable {w w' : World} {base D : Nat} {R : Rf} {rv mv nv sv : Value}
theorem RdAt.kept (h : RdAt w base D R rv mv nv sv) (hk : ∀ g, RFoot D rv mv nv sv g → w'.heap[g]? = w.heap[g]?) : RdAt w' base D R rv mv nv sv :=
  ⟨(hk D (.inl rfl)).trans h.blk, h.rows.block fun g hg => hk g (.inr (.inl hg)), h.marks.block fun g hg => hk g (.inr (.inr (.inl hg))), h.now.block fun g hg => hk g (.inr (.inr (.inr (.inl hg)))), h.safe.block fun g hg => hk g (.inr (.inr (.inr (.inr hg)))), h.low, h.notD, h.rm, h.rn, h.rs, h.mn, h.ms, h.ns⟩
theorem RdAt.lt (h : RdAt w base D R rv mv nv sv) : D < w.heap.size := lt_of_heap h.blk
theorem RdAt.foot (h : RdAt w base D R rv mv nv sv) (g : Nat) (hg : RFoot D rv mv nv sv g) : base ≤ g ∧ g < w.heap.size := by
  rcases hg with rfl | hg | hg | hg | hg
  · exact ⟨h.low, h.lt⟩
  · exact OwnV.lt h.rows g hg
  · exact OwnV.lt h.marks g hg
  · exact OwnV.lt h.now g hg
  · exact OwnV.lt h.safe g hg
theorem RdAt.later (h : RdAt w base D R rv mv nv sv) (hb : Below w.heap.size w w') : RdAt w' base D R rv mv nv sv := h.kept fun g hg => hb.block g (h.foot g hg).2
theorem RdAt.field (h : RdAt w base D R rv mv nv sv) : w.cell? ⟨D, 0, none⟩ = some (.int .i64 R.size) ∧ w.cell? ⟨D, 1, none⟩ = some rv ∧ w.cell? ⟨D, 2, none⟩ = some mv ∧ w.cell? ⟨D, 3, none⟩ = some nv ∧ w.cell? ⟨D, 4, none⟩ = some sv :=
  ⟨cell_of_row _ D 0 _ _ (0, 0) h.blk, cell_of_row _ D 1 _ _ (0, 0) h.blk, cell_of_row _ D 2 _ _ (0, 0) h.blk, cell_of_row _ D 3 _ _ (0, 0) h.blk, cell_of_row _ D 4 _ _ (0, 0) h.blk⟩
theorem RdAt.free (h : RdAt w base D R rv mv nv sv) (o : Nat) : w.frozen? ⟨D, o, none⟩ = false := frozen_row h.blk o
/-- Its names turn. -/
theorem RdAt.setNow (h : RdAt w base D R rv mv nv sv) {nv' : Value} {l : List (ByteArray × Nat)} (hD : w'.heap[D]? = some (.cells #[.int .i64 R.size, rv, mv, nv', sv] 97 (0, 0))) (ho : OwnV w' base 120 2 nv' l.length (pairs8 l))
    (hn : ∀ g, nv'.ownBlock = some g → nv.ownBlock = some g ∨ w.heap.size ≤ g) (hk : ∀ g, g < w.heap.size → g ≠ D → nv.ownBlock ≠ some g → w'.heap[g]? = w.heap[g]?) : RdAt w' base D { R with now := l } rv mv nv' sv := by
  have hl : ∀ {g : Nat} {v : Value}, (nv.ownBlock = some g → v.ownBlock ≠ some g) → (∀ g, v.ownBlock = some g → g < w.heap.size) → nv'.ownBlock = some g → v.ownBlock ≠ some g := fun {g v} h1 h2 h3 h4 => by
    rcases hn g h3 with h5 | h5
    · exact h1 h5 h4
    · have := h2 g h4; omega
  have lr := fun g hg => (OwnV.lt h.rows g hg).2
  have lm := fun g hg => (OwnV.lt h.marks g hg).2
  have ls := fun g hg => (OwnV.lt h.safe g hg).2
  refine ⟨hD, h.rows.block fun g hg => hk g (lr g hg) (fun e => h.notD.1 (by rw [← e]; exact hg)) (h.rn g hg), h.marks.block fun g hg => hk g (lm g hg) (fun e => h.notD.2.1 (by rw [← e]; exact hg)) (h.mn g hg), ho, h.safe.block fun g hg => hk g (ls g hg) (fun e => h.notD.2.2.2 (by rw [← e]; exact hg)) (fun e => h.ns g e hg), h.low, ⟨h.notD.1, h.notD.2.1, fun e => ?_, h.notD.2.2.2⟩, h.rm, fun g hg e => hl (fun e => (fun e9 => h.rn g e9 e)) lr e hg, h.rs, fun g hg e => hl (fun e => (fun e9 => h.mn g e9 e)) lm e hg, h.ms, fun g hg => hl (h.ns g) ls hg⟩
  rcases hn D e with h5 | h5
  · exact h.notD.2.2.1 h5
  · have := h.lt; omega
/-- Its safe names turn. -/
theorem RdAt.setSafe (h : RdAt w base D R rv mv nv sv) {sv' : Value} {l : List (ByteArray × Nat)} (hD : w'.heap[D]? = some (.cells #[.int .i64 R.size, rv, mv, nv, sv'] 97 (0, 0))) (ho : OwnV w' base 120 2 sv' l.length (pairs8 l))
    (hn : ∀ g, sv'.ownBlock = some g → sv.ownBlock = some g ∨ w.heap.size ≤ g) (hk : ∀ g, g < w.heap.size → g ≠ D → sv.ownBlock ≠ some g → w'.heap[g]? = w.heap[g]?) : RdAt w' base D { R with safe := l } rv mv nv sv' := by
  have hl : ∀ {g : Nat} {v : Value}, (sv.ownBlock = some g → v.ownBlock ≠ some g) → (∀ g, v.ownBlock = some g → g < w.heap.size) → sv'.ownBlock = some g → v.ownBlock ≠ some g := fun {g v} h1 h2 h3 h4 => by
    rcases hn g h3 with h5 | h5
    · exact h1 h5 h4
    · have := h2 g h4; omega
  have lr := fun g hg => (OwnV.lt h.rows g hg).2
  have lm := fun g hg => (OwnV.lt h.marks g hg).2
  have ln := fun g hg => (OwnV.lt h.now g hg).2
  refine ⟨hD, h.rows.block fun g hg => hk g (lr g hg) (fun e => h.notD.1 (by rw [← e]; exact hg)) (h.rs g hg), h.marks.block fun g hg => hk g (lm g hg) (fun e => h.notD.2.1 (by rw [← e]; exact hg)) (h.ms g hg), h.now.block fun g hg => hk g (ln g hg) (fun e => h.notD.2.2.1 (by rw [← e]; exact hg)) (h.ns g hg), ho, h.low, ⟨h.notD.1, h.notD.2.1, h.notD.2.2.1, fun e => ?_⟩, h.rm, h.rn, fun g hg e => hl (fun e => (fun e9 => h.rs g e9 e)) lr e hg, h.mn, fun g hg e => hl (fun e => (fun e9 => h.ms g e9 e)) lm e hg, fun g hg e => hl (fun e => (fun e9 => h.ns g e9 e)) ln e hg⟩
  rcases hn D e with h5 | h5
  · exact h.notD.2.2.2 h5
  · have := h.lt; omega
/-- Its rows turn. -/
theorem RdAt.setRows (h : RdAt w base D R rv mv nv sv) {rv' : Value} {l : List ByteArray} (hD : w'.heap[D]? = some (.cells #[.int .i64 R.size, rv', mv, nv, sv] 97 (0, 0))) (ho : OwnV w' base 9 1 rv' l.length (strs l))
    (hn : ∀ g, rv'.ownBlock = some g → rv.ownBlock = some g ∨ w.heap.size ≤ g) (hk : ∀ g, g < w.heap.size → g ≠ D → rv.ownBlock ≠ some g → w'.heap[g]? = w.heap[g]?) : RdAt w' base D { R with rows := l } rv' mv nv sv := by
  have hl : ∀ {g : Nat} {v : Value}, (rv.ownBlock = some g → v.ownBlock ≠ some g) → (∀ g, v.ownBlock = some g → g < w.heap.size) → rv'.ownBlock = some g → v.ownBlock ≠ some g := fun {g v} h1 h2 h3 h4 => by
    rcases hn g h3 with h5 | h5
    · exact h1 h5 h4
    · have := h2 g h4; omega
  have lm := fun g hg => (OwnV.lt h.marks g hg).2
  have ln := fun g hg => (OwnV.lt h.now g hg).2
  have ls := fun g hg => (OwnV.lt h.safe g hg).2
  refine ⟨hD, ho, h.marks.block fun g hg => hk g (lm g hg) (fun e => h.notD.2.1 (by rw [← e]; exact hg)) (fun e => h.rm g e hg), h.now.block fun g hg => hk g (ln g hg) (fun e => h.notD.2.2.1 (by rw [← e]; exact hg)) (fun e => h.rn g e hg), h.safe.block fun g hg => hk g (ls g hg) (fun e => h.notD.2.2.2 (by rw [← e]; exact hg)) (fun e => h.rs g e hg), h.low, ⟨fun e => ?_, h.notD.2.1, h.notD.2.2.1, h.notD.2.2.2⟩, fun g hg => hl (h.rm g) lm hg, fun g hg => hl (h.rn g) ln hg, fun g hg => hl (h.rs g) ls hg, h.mn, h.ms, h.ns⟩
  rcases hn D e with h5 | h5
  · exact h.notD.1 h5
  · have := h.lt; omega
/-- Its marks turn. -/
theorem RdAt.setMarks (h : RdAt w base D R rv mv nv sv) {mv' : Value} {l : List Nat} (hD : w'.heap[D]? = some (.cells #[.int .i64 R.size, rv, mv', nv, sv] 97 (0, 0))) (ho : OwnV w' base 3 1 mv' l.length (cellsK .i64 l))
    (hn : ∀ g, mv'.ownBlock = some g → mv.ownBlock = some g ∨ w.heap.size ≤ g) (hk : ∀ g, g < w.heap.size → g ≠ D → mv.ownBlock ≠ some g → w'.heap[g]? = w.heap[g]?) : RdAt w' base D { R with marks := l } rv mv' nv sv := by
  have hl : ∀ {g : Nat} {v : Value}, (mv.ownBlock = some g → v.ownBlock ≠ some g) → (∀ g, v.ownBlock = some g → g < w.heap.size) → mv'.ownBlock = some g → v.ownBlock ≠ some g := fun {g v} h1 h2 h3 h4 => by
    rcases hn g h3 with h5 | h5
    · exact h1 h5 h4
    · have := h2 g h4; omega
  have lr := fun g hg => (OwnV.lt h.rows g hg).2
  have ln := fun g hg => (OwnV.lt h.now g hg).2
  have ls := fun g hg => (OwnV.lt h.safe g hg).2
  refine ⟨hD, h.rows.block fun g hg => hk g (lr g hg) (fun e => h.notD.1 (by rw [← e]; exact hg)) (h.rm g hg), ho, h.now.block fun g hg => hk g (ln g hg) (fun e => h.notD.2.2.1 (by rw [← e]; exact hg)) (fun e => h.mn g e hg), h.safe.block fun g hg => hk g (ls g hg) (fun e => h.notD.2.2.2 (by rw [← e]; exact hg)) (fun e => h.ms g e hg), h.low, ⟨h.notD.1, fun e => ?_, h.notD.2.2.1, h.notD.2.2.2⟩, fun g hg e => hl (fun e => (fun e9 => h.rm g e9 e)) lr e hg, h.rn, h.rs, fun g hg => hl (h.mn g) ln hg, fun g hg => hl (h.ms g) ls hg, h.ns⟩
  rcases hn D e with h5 | h5
  · exact h.notD.2.1 h5
  · have := h.lt; omega
end
/-- A reference's disk in block D, all of whose blocks are of S. -/
def Rk (w : World) (base D : Nat) (R : Rf) (S : Nat → Prop) : Prop := (∃ rv mv nv sv, RdAt w base D R rv mv nv sv ∧ ∀ g, RFoot D rv mv nv sv g → S g) ∧ ∀ g, S g → base ≤ g ∧ g < w.heap.size
/-- What a call on it leaves. -/
structure Rn (w w' : World) (base D : Nat) (R : Rf) (S : Nat → Prop) : Prop where
  rk : Rk w' base D R (plus S w w')
  chg : Chg w w' S
section
variable {w w' : World} {base D : Nat} {R : Rf} {S : Nat → Prop}
theorem Rk.later (h : Rk w base D R S) (hb : Below w.heap.size w w') : Rk w' base D R S := by
  obtain ⟨⟨rv, mv, nv, sv, h1, h2⟩, h3⟩ := h
  exact ⟨⟨rv, mv, nv, sv, h1.later hb, h2⟩, fun g hg => ⟨(h3 g hg).1, Nat.lt_of_lt_of_le (h3 g hg).2 hb.size⟩⟩
theorem Rk.other {S' : Nat → Prop} (h : Rk w base D R S) (hc : Chg w w' S') (hd : ∀ g, S' g → ¬ S g) : Rk w' base D R S := by
  obtain ⟨⟨rv, mv, nv, sv, h1, h2⟩, h3⟩ := h
  exact ⟨⟨rv, mv, nv, sv, h1.kept fun g hg => hc.block g (h1.foot g hg).2 fun e => hd g e (h2 g hg), h2⟩, fun g hg => ⟨(h3 g hg).1, Nat.lt_of_lt_of_le (h3 g hg).2 hc.size⟩⟩
theorem Rk.wide {S' : Nat → Prop} (h : Rk w base D R S) (hS : ∀ g, S g → S' g) (hb : ∀ g, S' g → base ≤ g ∧ g < w.heap.size) : Rk w base D R S' := by
  obtain ⟨⟨rv, mv, nv, sv, h1, h2⟩, h3⟩ := h
  exact ⟨⟨rv, mv, nv, sv, h1, fun g hg => hS g (h2 g hg)⟩, hb⟩
theorem Rk.from_ (h : Rk w base D R S) : base ≤ w.heap.size := by
  obtain ⟨⟨rv, mv, nv, sv, h1, h2⟩, h3⟩ := h
  have := h3 D (h2 D (.inl rfl))
  omega
/-- What a call leaves, from what it made. -/
theorem rn_of {R' : Rf} {rv mv nv sv : Value} (hd : Rk w base D R S) (h' : RdAt w' base D R' rv mv nv sv) (hc : Chg w w' S) (hf : ∀ g, RFoot D rv mv nv sv g → S g ∨ w.heap.size ≤ g) : Rn w w' base D R' S := by
  have hB := hd.from_
  have hs := hc.size
  refine ⟨⟨⟨rv, mv, nv, sv, h', fun g hg => ?_⟩, fun g hg => ?_⟩, hc⟩
  · rcases hf g hg with h | h
    · exact .inl h
    · exact .inr ⟨h, (h'.foot g hg).2⟩
  · rcases hg with hg | hg
    · have := hd.2 g hg; omega
    · omega
theorem Rk.looked (h : Rk w base D R S) (hb : Below w.heap.size w w') : Rn w w' base D R S := by
  have hB := h.from_
  have h3 := h.2
  have hs := hb.size
  refine ⟨(h.later hb).wide (fun g hg => .inl hg) (fun g hg => ?_), Chg.of_below hb S⟩
  rcases hg with hg | hg
  · have := h3 g hg; omega
  · omega
end
/-- What an act tells, and leaves. -/
def RErrs (w : World) (base D : Nat) (S : Nat → Prop) (x : Rf × Nat) (e : Ending) (w' : World) : Prop := e = .returned (.int .i64 x.2) ∧ Rn w w' base D x.1 S
end Go.Proofs.YtidhlbhfhfonoaaGreatDoor
namespace Go.Proofs.YtidhlbhfhfonoaaGreatDoor
open Go.ChangeShapes Go.WideShapes Go.ChangeAt Go.RowKit
theorem now_cells {w : World} {base : Nat} {nv : Value} {l : List (ByteArray × Nat)} (h : OwnV w base 120 2 nv l.length (pairs8 l)) : ∃ a c, nv = .slice a l.length c ∧ ∀ (i : Nat) (p : ByteArray × Nat), l[i]? = some p → ∃ g o, a = some ⟨g, o, none⟩ ∧ w.cell? ⟨g, o + i * 2, none⟩ = some (.string p.1) ∧ w.cell? ⟨g, o + i * 2 + 1, none⟩ = some (.int .i64 p.2) := by
  obtain ⟨a, c, hv⟩ := h.sl
  refine ⟨a, c, hv, fun i p hp => ?_⟩
  have hi := (List.getElem?_eq_some_iff.1 hp).1
  rw [hv] at h
  have h' := h
  rcases h'.2 with ⟨h2, h3⟩ | ⟨g, o, cap, cur, h3, _⟩
  · omega
  · cases h3
    obtain ⟨g1, g2⟩ := pairs8_get hp
    have c1 := OwnV.cells h _ _ g1
    have c2 := OwnV.cells h _ _ g2
    rw [Addr.add_lit] at c1 c2
    exact ⟨g, o, rfl, c1, by rw [Nat.add_assoc]; exact c2⟩
theorem place_first {l : List (ByteArray × Nat)} {s : ByteArray} {k : Nat} (h : ∀ j p, j < k → l[j]? = some p → p.1 ≠ s) (hk : k ≤ l.length) (he : k = l.length ∨ ∃ x, l[k]? = some (s, x)) : place l s = k := by
  unfold place
  rcases he with rfl | ⟨x, hx⟩
  · rw [List.findIdx_eq_length]
    intro p hp
    obtain ⟨j, hj⟩ := List.mem_iff_getElem?.1 hp
    exact decide_eq_false (h j p (List.getElem?_eq_some_iff.1 hj).1 hj)
  · obtain ⟨hl, e⟩ := List.getElem?_eq_some_iff.1 hx
    rw [List.findIdx_eq hl]
    refine ⟨decide_eq_true (by rw [e]), fun j hj => decide_eq_false ?_⟩
    exact h j _ hj (List.getElem?_eq_getElem (by omega))
set_option linter.unusedSimpArgs false in
set_option linter.unusedVariables false in
set_option maxRecDepth 20000 in
set_option maxHeartbeats 1500000 in
theorem Rplace_any {w : World} {base D : Nat} {R : Rf} {rv mv nv sv : Value} (h : RdAt w base D R rv mv nv sv) (s : ByteArray) (hn : R.now.length ≤ 1000) :
    Calls Tryz.prog 112 #[.pointer (some ⟨D, 0, none⟩), .string s] w fun e w' => e = .returned (.int .i64 (place R.now s)) ∧ Below w.heap.size w w' := by
  obtain ⟨a, c, hv, hc⟩ := now_cells h.now
  obtain ⟨_, _, _, c3, _⟩ := h.field
  obtain ⟨m, hm⟩ : ∃ m, m = R.now.length := ⟨_, rfl⟩
  have HM := Lib.hid hm
  rw [hv, ← hm] at c3
  have HC := Lib.hid hc
  have hmI : (m : Int) ≤ 1000 := by omega
  have HP := Lib.hid (fun (k : Nat) => place_first (l := R.now) (s := s) (k := k))
  clear hm hv hc hn h
  go_enter Tryz.func112, Tryz.ntmps112
  go_wp2_with fail
  go_loopw [5] (fun i wr => ∃ k : Nat, k ≤ m ∧ i = .int .i64 k ∧ Hid (∀ j p, j < k → R.now[j]? = some p → p.1 ≠ s) ∧ ∃ n, wr = w.drewN n) (fun i _ => m - (intOf i).toNat)
  case atStart => exact ⟨0, Nat.zero_le _, rfl, Lib.hid fun j p hj => absurd hj (Nat.not_lt_zero _), 0, rfl⟩
  case round =>
    obtain ⟨k, hk, rfl, HA, n, rfl⟩ := hrel
    by_cases hlt : k < m
    · have hltI : (k : Int) < (m : Int) := by omega
      obtain ⟨p, hp⟩ : ∃ p, R.now[k]? = some p := ⟨_, List.getElem?_eq_getElem (by rw [← HM.out]; exact hlt)⟩
      obtain ⟨g, o, rfl, k1, _⟩ := HC.out k p hp
      have HPP := Lib.hid hp
      clear hp
      by_cases he : p.1 = s
      · have hs1 : (p.1.toList == s.toList) = true := by rw [list_eq_str]; exact decide_eq_true he
        have HE := Lib.hid (HP.out k HA.out (by rw [← HM.out]; omega) (.inr ⟨p.2, by rw [HPP.out, ← he]⟩))
        clear he
        go_wp2_with fail
        go_ret
        exact ⟨by rw [HE.out]; rfl, below_drewN9 _ _⟩
      · have hs1 := str_ne he
        have HE := Lib.hid he
        clear he
        go_wp2_with fail
        go_roundw
        case rel => exact ⟨k + 1, by omega, by go_num, Lib.hid fun j q hj hq => by
          by_cases e : j = k
          · subst e; rw [HPP.out] at hq; cases hq; exact HE.out
          · exact HA.out j q (by omega) hq, _, rfl⟩
        case measure => simp [intOf]; omega
    · obtain rfl : k = m := by omega
      have HE := Lib.hid (HP.out k HA.out (by rw [← HM.out]; omega) (.inl HM.out))
      go_wp2_with fail
      go_ret
      exact ⟨by rw [HE.out]; rfl, below_drewN9 _ _⟩
set_option linter.unusedSimpArgs false in
set_option linter.unusedVariables false in
set_option maxRecDepth 20000 in
set_option maxHeartbeats 1500000 in
theorem Ris_any {w : World} {base D : Nat} {R : Rf} {rv mv nv sv : Value} (h : RdAt w base D R rv mv nv sv) (s : ByteArray) (hs : s.size ≤ 140737488355328) (hn : R.now.length ≤ 1000) :
    Calls Tryz.prog 50 #[.pointer (some ⟨D, 0, none⟩), .string s] w fun e w' => e = .returned (.tuple #[.int .i64 (R.is s).1, .int .i64 (R.is s).2]) ∧ Below w.heap.size w w' := by
  have HN := Lib.hid (RName_any s hs w)
  have HP := Lib.hid (fun (w1 : World) (hb : Below w.heap.size w w1) => Rplace_any (h.later hb) s hn)
  obtain ⟨a, c, hv, _⟩ := now_cells h.now
  obtain ⟨_, _, _, c3, _⟩ := h.field
  rw [hv] at c3
  have C3 := Lib.hid (fun w1 (hb : Below w.heap.size w w1) => cell_on c3 hb)
  obtain ⟨m, hm⟩ : ∃ m, m = R.now.length := ⟨_, rfl⟩
  obtain ⟨q, hq⟩ : ∃ q, q = place R.now s := ⟨_, rfl⟩
  have hle : q ≤ m := by rw [hq, hm]; exact List.findIdx_le_length
  rw [← hm] at C3 hn
  rw [← hq] at HP
  have hmI : (m : Int) ≤ 1000 := by omega
  obtain ⟨z, hz⟩ : ∃ z, z = R.is s := ⟨_, rfl⟩
  have HZ := Lib.hid (show z = if nameOk s then (if q = m then (0, 7) else (q, 0)) else (0, 1) by rw [hz, hq, hm]; rfl)
  rw [← hz]
  clear h hv c3 hm hq hz
  obtain ⟨b, hb⟩ : ∃ b, b = nameOk s := ⟨_, rfl⟩
  rw [← hb] at HN HZ
  clear hb
  go_enter Tryz.func50, Tryz.ntmps50
  go_wp2_with fail
  refine HN.out.mono ?_
  rintro _ w1 ⟨rfl, hb⟩
  have HB := Lib.hid hb
  clear hb
  cases b with
  | false =>
    have HZ2 := Lib.hid (show z = (0, 1) from HZ.out)
    go_wp2_with fail
    go_ret2
    exact ⟨by rw [HZ2.out]; rfl, HB.out⟩
  | true =>
    go_wp2_with fail
    refine (HP.out w1 HB.out).mono ?_
    rintro _ w2 ⟨rfl, hb⟩
    have HB2 := Lib.hid (below_on HB.out hb)
    have c3 := C3.out w2 HB2.out
    clear hb
    by_cases e : q = m
    · have HZ2 := Lib.hid (show z = (0, 7) by rw [HZ.out]; exact if_pos e)
      subst e
      go_wp2_with fail
      go_ret2
      exact ⟨by rw [HZ2.out]; rfl, HB2.out⟩
    · have HZ2 := Lib.hid (show z = (q, 0) by rw [HZ.out]; exact if_neg e)
      have e9 : ((q : Int) == (m : Int)) = false := by simp; omega
      go_wp2_with fail
      go_ret2
      exact ⟨by rw [HZ2.out]; rfl, HB2.out⟩
end Go.Proofs.YtidhlbhfhfonoaaGreatDoor
namespace Go.Proofs.YtidhlbhfhfonoaaGreatDoor
open Go.ChangeShapes Go.WideShapes Go.ChangeAt Go.RowKit
theorem rows_cells {w : World} {base : Nat} {rv : Value} {l : List ByteArray} (h : OwnV w base 9 1 rv l.length (strs l)) : ∃ a c, rv = .slice a l.length c ∧ ∀ (i : Nat) (b : ByteArray), l[i]? = some b → ∃ g o, a = some ⟨g, o, none⟩ ∧ w.cell? ⟨g, o + i, none⟩ = some (.string b) := by
  obtain ⟨a, c, hv⟩ := h.sl
  refine ⟨a, c, hv, fun i b hb => ?_⟩
  have hi := (List.getElem?_eq_some_iff.1 hb).1
  rw [hv] at h
  have h' := h
  rcases h'.2 with ⟨h2, h3⟩ | ⟨g, o, cap, cur, h3, _⟩
  · omega
  · cases h3
    have c1 := OwnV.cells h i (.string b) (by rw [strs_get, hb]; rfl)
    rw [Addr.add_lit] at c1
    exact ⟨g, o, rfl, c1⟩
theorem marks_cells {w : World} {base : Nat} {mv : Value} {l : List Nat} (h : OwnV w base 3 1 mv l.length (cellsK .i64 l)) : ∃ a c, mv = .slice a l.length c ∧ ∀ (i m : Nat), l[i]? = some m → ∃ g o, a = some ⟨g, o, none⟩ ∧ w.cell? ⟨g, o + i, none⟩ = some (.int .i64 m) := by
  obtain ⟨a, c, hv⟩ := h.sl
  refine ⟨a, c, hv, fun i m hm => ?_⟩
  have hi := (List.getElem?_eq_some_iff.1 hm).1
  rw [hv] at h
  have h' := h
  rcases h'.2 with ⟨h2, h3⟩ | ⟨g, o, cap, cur, h3, _⟩
  · omega
  · cases h3
    have c1 := OwnV.cells h i (.int .i64 m) (by rw [cellsK_get, hm]; rfl)
    rw [Addr.add_lit] at c1
    exact ⟨g, o, rfl, c1⟩
/-- What is looked at of a name that is there. -/
structure SeatAt (w : World) (D j k n m q : Nat) (b : ByteArray) (g1 o1 c1 g2 o2 c2 g3 o3 c3 : Nat) : Prop where
  f1 : w.cell? ⟨D, 1, none⟩ = some (.slice (some ⟨g1, o1, none⟩) n c1)
  f2 : w.cell? ⟨D, 2, none⟩ = some (.slice (some ⟨g2, o2, none⟩) n c2)
  f3 : w.cell? ⟨D, 3, none⟩ = some (.slice (some ⟨g3, o3, none⟩) m c3)
  e1 : w.cell? ⟨g1, o1 + k, none⟩ = some (.string b)
  e2 : w.cell? ⟨g2, o2 + k, none⟩ = some (.int .i64 q)
  e3 : w.cell? ⟨g3, o3 + j * 2 + 1, none⟩ = some (.int .i64 k)
theorem SeatAt.later {w w' : World} {D j k n m q : Nat} {b : ByteArray} {g1 o1 c1 g2 o2 c2 g3 o3 c3 : Nat} (h : SeatAt w D j k n m q b g1 o1 c1 g2 o2 c2 g3 o3 c3) (hb : Below w.heap.size w w') : SeatAt w' D j k n m q b g1 o1 c1 g2 o2 c2 g3 o3 c3 :=
  ⟨cell_on h.f1 hb, cell_on h.f2 hb, cell_on h.f3 hb, cell_on h.e1 hb, cell_on h.e2 hb, cell_on h.e3 hb⟩
theorem RdAt.seat {w : World} {base D : Nat} {R : Rf} {rv mv nv sv : Value} (h : RdAt w base D R rv mv nv sv) (ok : RfOk R) {s : ByteArray} (hs : (R.is s).2 = 0) :
    ∃ j k q b g1 o1 c1 g2 o2 c2 g3 o3 c3, R.is s = (j, 0) ∧ j < R.now.length ∧ k < R.rows.length ∧ R.row j = k ∧ R.text j = b ∧ b.size ≤ 1048576 ∧ q ≤ b.size ∧ R.rows[k]? = some b ∧ R.marks[k]? = some q ∧ SeatAt w D j k R.rows.length R.now.length q b g1 o1 c1 g2 o2 c2 g3 o3 c3 ∧
      rv = .slice (some ⟨g1, o1, none⟩) R.rows.length c1 ∧ mv = .slice (some ⟨g2, o2, none⟩) R.marks.length c2 ∧ nv = .slice (some ⟨g3, o3, none⟩) R.now.length c3 := by
  obtain ⟨h1, h2, k, b, m, h3, h4, h5, h6, h7, h8, h9, h10, h11⟩ := ok.at hs
  obtain ⟨a1, c1, v1, k1⟩ := rows_cells h.rows
  obtain ⟨a2, c2, v2, k2⟩ := marks_cells h.marks
  obtain ⟨a3, c3, v3, k3⟩ := now_cells h.now
  obtain ⟨g1, o1, rfl, x1⟩ := k1 k b h5
  obtain ⟨g2, o2, rfl, x2⟩ := k2 k m h8
  obtain ⟨g3, o3, rfl, _, x3⟩ := k3 _ _ h3
  obtain ⟨_, f1, f2, f3, _⟩ := h.field
  refine ⟨(R.is s).1, k, m, b, g1, o1, c1, g2, o2, c2, g3, o3, c3, Prod.ext rfl hs, h2, h10, h4, h6, h7, h9, h5, h8, ⟨by rw [f1, v1], by rw [f2, v2, ok.ml], by rw [f3, v3], x1, x2, x3⟩, v1, v2, v3⟩
theorem is_err_le (R : Rf) (s : ByteArray) (h : (R.is s).2 ≠ 0) : ∃ e : Nat, (R.is s).2 = e ∧ ((e : Int) != 0) = true ∧ ((e : Int) == 0) = false ∧ e ≤ 7 := by
  refine ⟨_, rfl, by simp; omega, by simp; omega, ?_⟩
  unfold Rf.is
  split
  · split <;> simp
  · simp
set_option linter.unusedSimpArgs false in
set_option linter.unusedVariables false in
set_option maxRecDepth 20000 in
set_option maxHeartbeats 1500000 in
theorem RSize_any {w : World} {base D : Nat} {R : Rf} {rv mv nv sv : Value} (h : RdAt w base D R rv mv nv sv) (ok : RfOk R) (s : ByteArray) (hs : s.size ≤ 140737488355328) (hc : R.rows.length ≤ 1000000) :
    Calls Tryz.prog 40 #[.pointer (some ⟨D, 0, none⟩), .string s] w fun e w' => e = .returned (.tuple #[.int .i64 (R.sizeE s).1, .int .i64 (R.sizeE s).2]) ∧ Below w.heap.size w w' := by
  have HI := Lib.hid (Ris_any h s hs (by have := ok.nl; omega))
  unfold Rf.sizeE
  by_cases h0 : (R.is s).2 = 0
  · obtain ⟨j, k, q, b, g1, o1, c1, g2, o2, c2, g3, o3, c3, i1, i2, i3, i4, i5, i6, i7, i8, i9, SE, _⟩ := h.seat ok h0
    rw [if_pos h0, i1, i5]
    rw [i1] at HI
    have HS := Lib.hid SE
    have nl := ok.nl
    obtain ⟨n, hn⟩ : ∃ n, n = R.rows.length := ⟨_, rfl⟩
    obtain ⟨m, hm⟩ : ∃ m, m = R.now.length := ⟨_, rfl⟩
    rw [← hn, ← hm] at HS
    have jI : (j : Int) < (m : Int) := by omega
    have kI : (k : Int) < (n : Int) := by omega
    have mI : (m : Int) ≤ 64 := by omega
    have nI : (n : Int) ≤ 1000000 := by omega
    obtain ⟨z, hz⟩ : ∃ z, z = b.size := ⟨_, rfl⟩
    have eZ : (b.size : Int) = (z : Int) := by rw [hz]
    have zI : (z : Int) ≤ 1048576 := by omega
    rw [← hz]
    clear SE h ok h0 i1 i2 i3 i4 i5 i6 i7 i8 i9 hn hm nl hz
    go_enter Tryz.func40, Tryz.ntmps40
    go_wp2_with fail
    refine HI.out.mono ?_
    rintro _ w1 ⟨rfl, hb⟩
    have HB := Lib.hid hb
    obtain ⟨f1, f2, f3, e1, e2, e3⟩ := HS.out.later hb
    clear hb
    go_wp2_with fail
    go_quiet (fail)
    go_wp2_with fail
    go_ret2
    exact ⟨rfl, below_on HB.out (below_drewN9 _ _)⟩
  · obtain ⟨e, he, hn, hn2, _⟩ := is_err_le R s h0
    rw [if_neg h0, he]
    obtain ⟨x, hx⟩ : ∃ x, x = (R.is s).1 := ⟨_, rfl⟩
    rw [he, ← hx] at HI
    clear h ok he h0 hx
    go_enter Tryz.func40, Tryz.ntmps40
    go_wp2_with fail
    refine HI.out.mono ?_
    rintro _ w1 ⟨rfl, hb⟩
    have HB := Lib.hid hb
    clear hb
    go_wp2_with fail
    go_ret2
    exact ⟨rfl, HB.out⟩
theorem total_take {rows : List ByteArray} {l : List (ByteArray × Nat)} {i : Nat} {p : ByteArray × Nat} {b : ByteArray} (h : l[i]? = some p) (hb : rows[p.2]? = some b) : total rows (l.take (i + 1)) = total rows (l.take i) + b.size := by
  unfold total
  rw [List.take_add_one, h, List.map_append, List.sum_append]
  simp [List.getD, hb]
theorem total_le {rows : List ByteArray} {c : Nat} : ∀ (l : List (ByteArray × Nat)), (∀ p ∈ l, (rows.getD p.2 noName).size ≤ c) → total rows l ≤ l.length * c
  | [], _ => by simp [total]
  | p :: l, h => by
    have ih := total_le l fun q hq => h q (List.mem_cons_of_mem _ hq)
    have h1 := h p (List.mem_cons_self ..)
    unfold total at ih ⊢
    rw [List.map_cons, List.sum_cons, List.length_cons, Nat.succ_mul]
    omega
set_option linter.unusedSimpArgs false in
set_option linter.unusedVariables false in
set_option maxRecDepth 20000 in
set_option maxHeartbeats 1500000 in
theorem RLeft_any {w : World} {base D : Nat} {R : Rf} {rv mv nv sv : Value} (h : RdAt w base D R rv mv nv sv) (ok : RfOk R) (hc : R.rows.length ≤ 1000000) :
    Calls Tryz.prog 42 #[.pointer (some ⟨D, 0, none⟩)] w fun e w' => e = .returned (.int .i64 R.left) ∧ Below w.heap.size w w' := by
  obtain ⟨a1, c1, v1, k1⟩ := rows_cells h.rows
  obtain ⟨a3, c3, v3, k3⟩ := now_cells h.now
  obtain ⟨f0, f1, _, f3, _⟩ := h.field
  obtain ⟨n, hn⟩ : ∃ n, n = R.rows.length := ⟨_, rfl⟩
  obtain ⟨m, hm⟩ : ∃ m, m = R.now.length := ⟨_, rfl⟩
  obtain ⟨z, hz⟩ : ∃ z, z = R.size := ⟨_, rfl⟩
  rw [v1, ← hn] at f1
  rw [v3, ← hm] at f3
  rw [← hz] at f0
  have HM := Lib.hid hm
  have HN := Lib.hid hn
  have zb : z ≤ 8388608 := by rw [hz]; exact ok.size.2
  have nl := ok.nl
  have mI : (m : Int) ≤ 64 := by omega
  have nI : (n : Int) ≤ 1000000 := by omega
  have K1 := Lib.hid k1
  have K3 := Lib.hid k3
  have NOW := Lib.hid ok.now
  have HT := Lib.hid (show ∀ k, total R.rows (R.now.take k) ≤ 67108864 from fun k => by
    have h1 := total_le (c := 1048576) (rows := R.rows) (R.now.take k) fun p hp => by
      obtain ⟨_, b, q, h2, h3, _⟩ := ok.now p (List.take_subset _ _ hp)
      rw [List.getD_eq_getElem?_getD, h2]; exact h3
    have h4 : (R.now.take k).length ≤ 64 := by rw [List.length_take]; omega
    have h5 := Nat.mul_le_mul_right 1048576 h4
    omega)
  have HL := Lib.hid (show R.left = z - total R.rows (R.now.take m) by rw [hm, List.take_length, hz]; rfl)
  obtain ⟨L, hL⟩ : ∃ L, L = R.left := ⟨_, rfl⟩
  rw [← hL] at HL ⊢
  clear h hn hm hz v1 v3 nl k1 k3 ok hc hL
  go_enter Tryz.func42, Tryz.ntmps42
  go_wp2_with fail
  go_loopw [3, 4] (fun y i wr => ∃ k n : Nat, ∃ x : Int, k ≤ m ∧ i = .int .i64 k ∧ y = .int .i64 x ∧ x + (total R.rows (R.now.take k) : Int) = z ∧ wr = w.drewN n) (fun _ i _ => m - (intOf i).toNat)
  case atStart => exact ⟨0, 0, z, Nat.zero_le _, rfl, rfl, by simp [total], rfl⟩
  case round =>
    obtain ⟨k, n1, x, hk, rfl, rfl, hx, rfl⟩ := hrel
    have ht := HT.out k
    have x1 : -67108864 ≤ x := by omega
    have x2 : x ≤ 8388608 := by omega
    have HX := Lib.hid hx
    clear hx ht
    by_cases hlt : k < m
    · have hltI : (k : Int) < (m : Int) := by omega
      obtain ⟨p, hp⟩ : ∃ p, R.now[k]? = some p := ⟨_, List.getElem?_eq_getElem (by rw [← HM.out]; exact hlt)⟩
      obtain ⟨g3, o3, rfl, _, e3⟩ := K3.out k p hp
      obtain ⟨_, b, q, h2, h3, _⟩ := NOW.out p (List.mem_of_getElem? hp)
      obtain ⟨g1, o1, rfl, e1⟩ := K1.out _ b h2
      have hpl := (List.getElem?_eq_some_iff.1 h2).1
      have HTT := Lib.hid (total_take hp h2)
      obtain ⟨r, hr⟩ : ∃ r, r = p.2 := ⟨_, rfl⟩
      rw [← hr] at e3 e1 hpl
      rw [← HN.out] at hpl
      have rI : (r : Int) < (n : Int) := by omega
      obtain ⟨y, hy⟩ : ∃ y, y = b.size := ⟨_, rfl⟩
      have eY : (b.size : Int) = (y : Int) := by rw [hy]
      rw [← hy] at HTT h3
      have yI : (y : Int) ≤ 1048576 := by omega
      clear hp h2 hr hy h3
      go_wp2_with fail
      go_quiet (fail)
      go_wp2_with fail
      go_roundw
      case rel => exact ⟨k + 1, _, x - y, by omega, by go_num, rfl, by rw [HTT.out]; have := HX.out; omega, rfl⟩
      case measure => simp [intOf]; omega
    · obtain rfl : k = m := by omega
      have HF := Lib.hid (show (L : Int) = max x 0 by have := HX.out; rw [HL.out]; omega)
      go_wp2_with fail
      go_ret
      exact ⟨by rw [HF.out]; rfl, below_drewN9 _ _⟩
end Go.Proofs.YtidhlbhfhfonoaaGreatDoor
