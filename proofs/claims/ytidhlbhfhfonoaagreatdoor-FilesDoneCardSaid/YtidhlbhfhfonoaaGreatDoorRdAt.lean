/- Layer 17's reference (files): its disk in memory. -/
import Derived.Test.YtidhlbhfhfonoaaGreatDoorRd
import Derived.Test.YtidhlbhfhfonoaaGreatDoorChg
import Derived.Test.YtidhlbhfhfonoaaGreatDoorDisk6
namespace Go.Proofs.YtidhlbhfhfonoaaGreatDoor
open Go.ChangeShapes Go.WideShapes Go.ChangeAt Go.RowKit
/-- Names and row numbers, in cells. -/
def pairs8 : List (ByteArray × Nat) → List Value
  | [] => []
  | p :: l => .string p.1 :: .int .i64 p.2 :: pairs8 l
theorem pairs8_length : ∀ l, (pairs8 l).length = l.length * 2
  | [] => rfl
  | p :: l => by simp only [pairs8, List.length_cons, pairs8_length l]; omega
theorem pairs8_append : ∀ a b, pairs8 (a ++ b) = pairs8 a ++ pairs8 b
  | [], _ => rfl
  | p :: a, b => by simp only [List.cons_append, pairs8, pairs8_append a b]
theorem pairs8_get : ∀ {l : List (ByteArray × Nat)} {i : Nat} {p : ByteArray × Nat}, l[i]? = some p → (pairs8 l)[i * 2]? = some (.string p.1) ∧ (pairs8 l)[i * 2 + 1]? = some (.int .i64 p.2)
  | [], _, _, h => by cases h
  | q :: l, 0, p, h => by cases h; exact ⟨rfl, rfl⟩
  | q :: l, i + 1, p, h => by
    have := pairs8_get (l := l) (i := i) (p := p) (by simpa using h)
    rw [show (i + 1) * 2 = i * 2 + 1 + 1 by omega]
    simpa [pairs8] using this
theorem pairs8_take (l : List (ByteArray × Nat)) (k : Nat) (hk : k ≤ l.length) : (pairs8 l).take (k * 2) = pairs8 (l.take k) := by
  conv => lhs; rw [← List.take_append_drop k l, pairs8_append]
  rw [List.take_append_of_le_length (by rw [pairs8_length, List.length_take]; omega), List.take_of_length_le (by rw [pairs8_length, List.length_take]; omega)]
theorem pairs8_drop (l : List (ByteArray × Nat)) (k : Nat) (hk : k ≤ l.length) : (pairs8 l).drop (k * 2) = pairs8 (l.drop k) := by
  conv => lhs; rw [← List.take_append_drop k l, pairs8_append]
  have e : (pairs8 (l.take k)).length = k * 2 := by rw [pairs8_length, List.length_take]; omega
  rw [List.drop_append_of_le_length (by omega), List.drop_of_length_le (by omega), List.nil_append]
theorem pairs8_one (l : List (ByteArray × Nat)) : ∀ u ∈ pairs8 l, u.oneCell' = true := by
  induction l with
  | nil => intro u hu; cases hu
  | cons p l ih =>
    intro u hu
    simp only [pairs8, List.mem_cons] at hu
    rcases hu with rfl | rfl | hu
    · rfl
    · rfl
    · exact ih u hu
structure RdAt (w : World) (base D : Nat) (R : Rf) (rv mv nv sv : Value) : Prop where
  blk : w.heap[D]? = some (.cells #[.int .i64 R.size, rv, mv, nv, sv] 97 (0, 0))
  rows : OwnV w base 9 1 rv R.rows.length (strs R.rows)
  marks : OwnV w base 3 1 mv R.marks.length (cellsK .i64 R.marks)
  now : OwnV w base 120 2 nv R.now.length (pairs8 R.now)
  safe : OwnV w base 120 2 sv R.safe.length (pairs8 R.safe)
  low : base ≤ D
  notD : rv.ownBlock ≠ some D ∧ mv.ownBlock ≠ some D ∧ nv.ownBlock ≠ some D ∧ sv.ownBlock ≠ some D
  rm : ∀ g, rv.ownBlock = some g → mv.ownBlock ≠ some g
  rn : ∀ g, rv.ownBlock = some g → nv.ownBlock ≠ some g
  rs : ∀ g, rv.ownBlock = some g → sv.ownBlock ≠ some g
  mn : ∀ g, mv.ownBlock = some g → nv.ownBlock ≠ some g
  ms : ∀ g, mv.ownBlock = some g → sv.ownBlock ≠ some g
  ns : ∀ g, nv.ownBlock = some g → sv.ownBlock ≠ some g
def RFoot (D : Nat) (rv mv nv sv : Value) (g : Nat) : Prop := g = D ∨ rv.ownBlock = some g ∨ mv.ownBlock = some g ∨ nv.ownBlock = some g ∨ sv.ownBlock = some g
section
variable {w w' : World} {base D : Nat} {R : Rf} {rv mv nv sv : Value}
theorem RdAt.kept (h : RdAt w base D R rv mv nv sv) (hk : ∀ g, RFoot D rv mv nv sv g → w'.heap[g]? = w.heap[g]?) : RdAt w' base D R rv mv nv sv :=
  ⟨(hk D (.inl rfl)).trans h.blk, h.rows.block fun g hg => hk g (.inr (.inl hg)), h.marks.block fun g hg => hk g (.inr (.inr (.inl hg))), h.now.block fun g hg => hk g (.inr (.inr (.inr (.inl hg)))), h.safe.block fun g hg => hk g (.inr (.inr (.inr (.inr hg)))), h.low, h.notD, h.rm, h.rn, h.rs, h.mn, h.ms, h.ns⟩
theorem RdAt.lt (h : RdAt w base D R rv mv nv sv) : D < w.heap.size := lt_of_heap h.blk
theorem RdAt.foot (h : RdAt w base D R rv mv nv sv) (g : Nat) (hg : RFoot D rv mv nv sv g) : base ≤ g ∧ g < w.heap.size := by
  rcases hg with rfl | hg | hg | hg | hg
  · exact ⟨h.low, h.lt⟩
  · exact OwnV.lt h.rows g hg
  · exact OwnV.lt h.marks g hg
  · exact OwnV.lt h.now g hg
  · exact OwnV.lt h.safe g hg
theorem RdAt.later (h : RdAt w base D R rv mv nv sv) (hb : Below w.heap.size w w') : RdAt w' base D R rv mv nv sv := h.kept fun g hg => hb.block g (h.foot g hg).2
theorem RdAt.field (h : RdAt w base D R rv mv nv sv) : w.cell? ⟨D, 0, none⟩ = some (.int .i64 R.size) ∧ w.cell? ⟨D, 1, none⟩ = some rv ∧ w.cell? ⟨D, 2, none⟩ = some mv ∧ w.cell? ⟨D, 3, none⟩ = some nv ∧ w.cell? ⟨D, 4, none⟩ = some sv :=
  ⟨cell_of_row _ D 0 _ _ (0, 0) h.blk, cell_of_row _ D 1 _ _ (0, 0) h.blk, cell_of_row _ D 2 _ _ (0, 0) h.blk, cell_of_row _ D 3 _ _ (0, 0) h.blk, cell_of_row _ D 4 _ _ (0, 0) h.blk⟩
theorem RdAt.free (h : RdAt w base D R rv mv nv sv) (o : Nat) : w.frozen? ⟨D, o, none⟩ = false := frozen_row h.blk o
/-- Its names turn. -/
theorem RdAt.setNow (h : RdAt w base D R rv mv nv sv) {nv' : Value} {l : List (ByteArray × Nat)} (hD : w'.heap[D]? = some (.cells #[.int .i64 R.size, rv, mv, nv', sv] 97 (0, 0))) (ho : OwnV w' base 120 2 nv' l.length (pairs8 l))
    (hn : ∀ g, nv'.ownBlock = some g → nv.ownBlock = some g ∨ w.heap.size ≤ g) (hk : ∀ g, g < w.heap.size → g ≠ D → nv.ownBlock ≠ some g → w'.heap[g]? = w.heap[g]?) : RdAt w' base D { R with now := l } rv mv nv' sv := by
  have hl : ∀ {g : Nat} {v : Value}, (nv.ownBlock = some g → v.ownBlock ≠ some g) → (∀ g, v.ownBlock = some g → g < w.heap.size) → nv'.ownBlock = some g → v.ownBlock ≠ some g := fun {g v} h1 h2 h3 h4 => by
    rcases hn g h3 with h5 | h5
    · exact h1 h5 h4
    · have := h2 g h4; omega
  have lr := fun g hg => (OwnV.lt h.rows g hg).2
  have lm := fun g hg => (OwnV.lt h.marks g hg).2
  have ls := fun g hg => (OwnV.lt h.safe g hg).2
  refine ⟨hD, h.rows.block fun g hg => hk g (lr g hg) (fun e => h.notD.1 (by rw [← e]; exact hg)) (h.rn g hg), h.marks.block fun g hg => hk g (lm g hg) (fun e => h.notD.2.1 (by rw [← e]; exact hg)) (h.mn g hg), ho, h.safe.block fun g hg => hk g (ls g hg) (fun e => h.notD.2.2.2 (by rw [← e]; exact hg)) (fun e => h.ns g e hg), h.low, ⟨h.notD.1, h.notD.2.1, fun e => ?_, h.notD.2.2.2⟩, h.rm, fun g hg e => hl (fun e => (fun e9 => h.rn g e9 e)) lr e hg, h.rs, fun g hg e => hl (fun e => (fun e9 => h.mn g e9 e)) lm e hg, h.ms, fun g hg => hl (h.ns g) ls hg⟩
  rcases hn D e with h5 | h5
  · exact h.notD.2.2.1 h5
  · have := h.lt; omega
/-- Its safe names turn. -/
theorem RdAt.setSafe (h : RdAt w base D R rv mv nv sv) {sv' : Value} {l : List (ByteArray × Nat)} (hD : w'.heap[D]? = some (.cells #[.int .i64 R.size, rv, mv, nv, sv'] 97 (0, 0))) (ho : OwnV w' base 120 2 sv' l.length (pairs8 l))
    (hn : ∀ g, sv'.ownBlock = some g → sv.ownBlock = some g ∨ w.heap.size ≤ g) (hk : ∀ g, g < w.heap.size → g ≠ D → sv.ownBlock ≠ some g → w'.heap[g]? = w.heap[g]?) : RdAt w' base D { R with safe := l } rv mv nv sv' := by
  have hl : ∀ {g : Nat} {v : Value}, (sv.ownBlock = some g → v.ownBlock ≠ some g) → (∀ g, v.ownBlock = some g → g < w.heap.size) → sv'.ownBlock = some g → v.ownBlock ≠ some g := fun {g v} h1 h2 h3 h4 => by
    rcases hn g h3 with h5 | h5
    · exact h1 h5 h4
    · have := h2 g h4; omega
  have lr := fun g hg => (OwnV.lt h.rows g hg).2
  have lm := fun g hg => (OwnV.lt h.marks g hg).2
  have ln := fun g hg => (OwnV.lt h.now g hg).2
  refine ⟨hD, h.rows.block fun g hg => hk g (lr g hg) (fun e => h.notD.1 (by rw [← e]; exact hg)) (h.rs g hg), h.marks.block fun g hg => hk g (lm g hg) (fun e => h.notD.2.1 (by rw [← e]; exact hg)) (h.ms g hg), h.now.block fun g hg => hk g (ln g hg) (fun e => h.notD.2.2.1 (by rw [← e]; exact hg)) (h.ns g hg), ho, h.low, ⟨h.notD.1, h.notD.2.1, h.notD.2.2.1, fun e => ?_⟩, h.rm, h.rn, fun g hg e => hl (fun e => (fun e9 => h.rs g e9 e)) lr e hg, h.mn, fun g hg e => hl (fun e => (fun e9 => h.ms g e9 e)) lm e hg, fun g hg e => hl (fun e => (fun e9 => h.ns g e9 e)) ln e hg⟩
  rcases hn D e with h5 | h5
  · exact h.notD.2.2.2 h5
  · have := h.lt; omega
/-- Its rows turn. -/
theorem RdAt.setRows (h : RdAt w base D R rv mv nv sv) {rv' : Value} {l : List ByteArray} (hD : w'.heap[D]? = some (.cells #[.int .i64 R.size, rv', mv, nv, sv] 97 (0, 0))) (ho : OwnV w' base 9 1 rv' l.length (strs l))
    (hn : ∀ g, rv'.ownBlock = some g → rv.ownBlock = some g ∨ w.heap.size ≤ g) (hk : ∀ g, g < w.heap.size → g ≠ D → rv.ownBlock ≠ some g → w'.heap[g]? = w.heap[g]?) : RdAt w' base D { R with rows := l } rv' mv nv sv := by
  have hl : ∀ {g : Nat} {v : Value}, (rv.ownBlock = some g → v.ownBlock ≠ some g) → (∀ g, v.ownBlock = some g → g < w.heap.size) → rv'.ownBlock = some g → v.ownBlock ≠ some g := fun {g v} h1 h2 h3 h4 => by
    rcases hn g h3 with h5 | h5
    · exact h1 h5 h4
    · have := h2 g h4; omega
  have lm := fun g hg => (OwnV.lt h.marks g hg).2
  have ln := fun g hg => (OwnV.lt h.now g hg).2
  have ls := fun g hg => (OwnV.lt h.safe g hg).2
  refine ⟨hD, ho, h.marks.block fun g hg => hk g (lm g hg) (fun e => h.notD.2.1 (by rw [← e]; exact hg)) (fun e => h.rm g e hg), h.now.block fun g hg => hk g (ln g hg) (fun e => h.notD.2.2.1 (by rw [← e]; exact hg)) (fun e => h.rn g e hg), h.safe.block fun g hg => hk g (ls g hg) (fun e => h.notD.2.2.2 (by rw [← e]; exact hg)) (fun e => h.rs g e hg), h.low, ⟨fun e => ?_, h.notD.2.1, h.notD.2.2.1, h.notD.2.2.2⟩, fun g hg => hl (h.rm g) lm hg, fun g hg => hl (h.rn g) ln hg, fun g hg => hl (h.rs g) ls hg, h.mn, h.ms, h.ns⟩
  rcases hn D e with h5 | h5
  · exact h.notD.1 h5
  · have := h.lt; omega
/-- Its marks turn. -/
theorem RdAt.setMarks (h : RdAt w base D R rv mv nv sv) {mv' : Value} {l : List Nat} (hD : w'.heap[D]? = some (.cells #[.int .i64 R.size, rv, mv', nv, sv] 97 (0, 0))) (ho : OwnV w' base 3 1 mv' l.length (cellsK .i64 l))
    (hn : ∀ g, mv'.ownBlock = some g → mv.ownBlock = some g ∨ w.heap.size ≤ g) (hk : ∀ g, g < w.heap.size → g ≠ D → mv.ownBlock ≠ some g → w'.heap[g]? = w.heap[g]?) : RdAt w' base D { R with marks := l } rv mv' nv sv := by
  have hl : ∀ {g : Nat} {v : Value}, (mv.ownBlock = some g → v.ownBlock ≠ some g) → (∀ g, v.ownBlock = some g → g < w.heap.size) → mv'.ownBlock = some g → v.ownBlock ≠ some g := fun {g v} h1 h2 h3 h4 => by
    rcases hn g h3 with h5 | h5
    · exact h1 h5 h4
    · have := h2 g h4; omega
  have lr := fun g hg => (OwnV.lt h.rows g hg).2
  have ln := fun g hg => (OwnV.lt h.now g hg).2
  have ls := fun g hg => (OwnV.lt h.safe g hg).2
  refine ⟨hD, h.rows.block fun g hg => hk g (lr g hg) (fun e => h.notD.1 (by rw [← e]; exact hg)) (h.rm g hg), ho, h.now.block fun g hg => hk g (ln g hg) (fun e => h.notD.2.2.1 (by rw [← e]; exact hg)) (fun e => h.mn g e hg), h.safe.block fun g hg => hk g (ls g hg) (fun e => h.notD.2.2.2 (by rw [← e]; exact hg)) (fun e => h.ms g e hg), h.low, ⟨h.notD.1, fun e => ?_, h.notD.2.2.1, h.notD.2.2.2⟩, fun g hg e => hl (fun e => (fun e9 => h.rm g e9 e)) lr e hg, h.rn, h.rs, fun g hg => hl (h.mn g) ln hg, fun g hg => hl (h.ms g) ls hg, h.ns⟩
  rcases hn D e with h5 | h5
  · exact h.notD.2.1 h5
  · have := h.lt; omega
end
/-- A reference's disk in block D, all of whose blocks are of S. -/
def Rk (w : World) (base D : Nat) (R : Rf) (S : Nat → Prop) : Prop := (∃ rv mv nv sv, RdAt w base D R rv mv nv sv ∧ ∀ g, RFoot D rv mv nv sv g → S g) ∧ ∀ g, S g → base ≤ g ∧ g < w.heap.size
/-- What a call on it leaves. -/
structure Rn (w w' : World) (base D : Nat) (R : Rf) (S : Nat → Prop) : Prop where
  rk : Rk w' base D R (plus S w w')
  chg : Chg w w' S
section
variable {w w' : World} {base D : Nat} {R : Rf} {S : Nat → Prop}
theorem Rk.later (h : Rk w base D R S) (hb : Below w.heap.size w w') : Rk w' base D R S := by
  obtain ⟨⟨rv, mv, nv, sv, h1, h2⟩, h3⟩ := h
  exact ⟨⟨rv, mv, nv, sv, h1.later hb, h2⟩, fun g hg => ⟨(h3 g hg).1, Nat.lt_of_lt_of_le (h3 g hg).2 hb.size⟩⟩
theorem Rk.other {S' : Nat → Prop} (h : Rk w base D R S) (hc : Chg w w' S') (hd : ∀ g, S' g → ¬ S g) : Rk w' base D R S := by
  obtain ⟨⟨rv, mv, nv, sv, h1, h2⟩, h3⟩ := h
  exact ⟨⟨rv, mv, nv, sv, h1.kept fun g hg => hc.block g (h1.foot g hg).2 fun e => hd g e (h2 g hg), h2⟩, fun g hg => ⟨(h3 g hg).1, Nat.lt_of_lt_of_le (h3 g hg).2 hc.size⟩⟩
theorem Rk.wide {S' : Nat → Prop} (h : Rk w base D R S) (hS : ∀ g, S g → S' g) (hb : ∀ g, S' g → base ≤ g ∧ g < w.heap.size) : Rk w base D R S' := by
  obtain ⟨⟨rv, mv, nv, sv, h1, h2⟩, h3⟩ := h
  exact ⟨⟨rv, mv, nv, sv, h1, fun g hg => hS g (h2 g hg)⟩, hb⟩
theorem Rk.from_ (h : Rk w base D R S) : base ≤ w.heap.size := by
  obtain ⟨⟨rv, mv, nv, sv, h1, h2⟩, h3⟩ := h
  have := h3 D (h2 D (.inl rfl))
  omega
/-- What a call leaves, from what it made. -/
theorem rn_of {R' : Rf} {rv mv nv sv : Value} (hd : Rk w base D R S) (h' : RdAt w' base D R' rv mv nv sv) (hc : Chg w w' S) (hf : ∀ g, RFoot D rv mv nv sv g → S g ∨ w.heap.size ≤ g) : Rn w w' base D R' S := by
  have hB := hd.from_
  have hs := hc.size
  refine ⟨⟨⟨rv, mv, nv, sv, h', fun g hg => ?_⟩, fun g hg => ?_⟩, hc⟩
  · rcases hf g hg with h | h
    · exact .inl h
    · exact .inr ⟨h, (h'.foot g hg).2⟩
  · rcases hg with hg | hg
    · have := hd.2 g hg; omega
    · omega
theorem Rk.looked (h : Rk w base D R S) (hb : Below w.heap.size w w') : Rn w w' base D R S := by
  have hB := h.from_
  have h3 := h.2
  have hs := hb.size
  refine ⟨(h.later hb).wide (fun g hg => .inl hg) (fun g hg => ?_), Chg.of_below hb S⟩
  rcases hg with hg | hg
  · have := h3 g hg; omega
  · omega
end
/-- What an act tells, and leaves. -/
def RErrs (w : World) (base D : Nat) (S : Nat → Prop) (x : Rf × Nat) (e : Ending) (w' : World) : Prop := e = .returned (.int .i64 x.2) ∧ Rn w w' base D x.1 S
end Go.Proofs.YtidhlbhfhfonoaaGreatDoor
