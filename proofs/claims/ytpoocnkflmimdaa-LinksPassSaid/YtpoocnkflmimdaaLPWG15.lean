/- Layer 5 (shas): what a Sum is in memory -/
import Derived.Test.YtpoocnkflmimdaaLPWG14
import Derived.Laws.CopyOwn
namespace Go.Proofs.Ytpoocnkflmimdaa
open Go.ChangeShapes Go.WideShapes Go.ChangeAt Go.RowKit

/-- The cells of a Sum: its state, the block that fills up, how many bytes. -/
def sumC (st : S8) (R : List Nat) (n : Nat) : List Value := .int .i64 1 :: .int .u32 st.a :: .int .u32 st.b :: .int .u32 st.c :: .int .u32 st.d :: .int .u32 st.e :: .int .u32 st.f :: .int .u32 st.g :: .int .u32 st.h :: (cellsK .u8 R ++ [.int .u64 n])
theorem sumC_length (st : S8) (R : List Nat) (n : Nat) : (sumC st R n).length = R.length + 10 := by unfold sumC; simp [cellsK_length]
def SumRaw (w : World) (S : Nat) (st : S8) (R : List Nat) (n : Nat) : Prop := R.length = 64 ∧ w.heap[S]? = some (.cells (sumC st R n).toArray 141 (0, 0))
theorem SumRaw.cell {w : World} {S : Nat} {st : S8} {R : List Nat} {n : Nat} (h : SumRaw w S st R n) (j : Nat) : w.cell? ⟨S, j, none⟩ = (sumC st R n)[j]? := by
  rw [cell_of_row w S j _ _ _ h.2]
  simp
theorem SumRaw.made {w : World} {S : Nat} {st : S8} {R : List Nat} {n : Nat} (h : SumRaw w S st R n) : w.cell? ⟨S, 0, none⟩ = some (.int .i64 1) := by rw [h.cell]; rfl
theorem SumRaw.now8 {w : World} {S : Nat} {st : S8} {R : List Nat} {n : Nat} (h : SumRaw w S st R n) :
    w.cell? ⟨S, 1, none⟩ = some (.int .u32 st.a) ∧ w.cell? ⟨S, 2, none⟩ = some (.int .u32 st.b) ∧ w.cell? ⟨S, 3, none⟩ = some (.int .u32 st.c) ∧ w.cell? ⟨S, 4, none⟩ = some (.int .u32 st.d) ∧
    w.cell? ⟨S, 5, none⟩ = some (.int .u32 st.e) ∧ w.cell? ⟨S, 6, none⟩ = some (.int .u32 st.f) ∧ w.cell? ⟨S, 7, none⟩ = some (.int .u32 st.g) ∧ w.cell? ⟨S, 8, none⟩ = some (.int .u32 st.h) := by
  refine ⟨?_, ?_, ?_, ?_, ?_, ?_, ?_, ?_⟩ <;> (rw [h.cell]; rfl)
theorem SumRaw.rest {w : World} {S : Nat} {st : S8} {R : List Nat} {n : Nat} (h : SumRaw w S st R n) (j : Nat) (hj : j < 64) : w.cell? ⟨S, 9 + j, none⟩ = some (.int .u8 (at0 R j)) := by
  rw [h.cell, show 9 + j = j + 1 + 1 + 1 + 1 + 1 + 1 + 1 + 1 + 1 by omega]
  unfold sumC
  simp only [List.getElem?_cons_succ]
  rw [List.getElem?_append_left (by rw [cellsK_length, h.1]; exact hj), cellsK_get, at0_get (by rw [h.1]; exact hj)]
  rfl
theorem SumRaw.many {w : World} {S : Nat} {st : S8} {R : List Nat} {n : Nat} (h : SumRaw w S st R n) : w.cell? ⟨S, 73, none⟩ = some (.int .u64 n) := by
  rw [h.cell]
  unfold sumC
  simp only [List.getElem?_cons_succ]
  rw [List.getElem?_append_right (by rw [cellsK_length, h.1]; decide), cellsK_length, h.1]
  rfl
theorem SumRaw.free {w : World} {S : Nat} {st : S8} {R : List Nat} {n : Nat} (h : SumRaw w S st R n) (j : Nat) : w.frozen? ⟨S, j, none⟩ = false := frozen_of_row w S j _ _ h.2
theorem SumRaw.lt {w : World} {S : Nat} {st : S8} {R : List Nat} {n : Nat} (h : SumRaw w S st R n) : S < w.heap.size := (Array.getElem?_eq_some_iff.1 h.2).1
theorem SumRaw.range {w : World} {S : Nat} {st : S8} {R : List Nat} {n : Nat} (h : SumRaw w S st R n) : w.rangeAt S 9 (cellsK .u8 R) := fun j v hj => by
  rw [cellsK_get] at hj
  obtain ⟨x, hx, rfl⟩ := Option.map_eq_some_iff.1 hj
  have hl : j < 64 := by have := (List.getElem?_eq_some_iff.1 hx).1; have := h.1; omega
  rw [h.rest j hl, ← Option.some.inj ((at0_get (by rw [h.1]; exact hl)).symm.trans hx)]
theorem SumRaw.block {w w' : World} {S : Nat} {st : S8} {R : List Nat} {n : Nat} (h : SumRaw w S st R n) (hb : w'.heap[S]? = w.heap[S]?) : SumRaw w' S st R n := ⟨h.1, hb.trans h.2⟩
theorem SumRaw.later {w w' : World} {S : Nat} {st : S8} {R : List Nat} {n : Nat} (h : SumRaw w S st R n) (hb : Below w.heap.size w w') : SumRaw w' S st R n := h.block (hb.block S h.lt)
theorem SumRaw.setMany {w : World} {S : Nat} {st : S8} {R : List Nat} {n : Nat} (h : SumRaw w S st R n) (m : Nat) : SumRaw (w.setCell ⟨S, 73, none⟩ (.int .u64 m)) S st R m := by
  refine ⟨h.1, ?_⟩
  rw [heap_setCell_same w S 73 _ _ _ h.2]
  congr 2
  have h9 := h.1
  unfold sumC
  simp [cellsK_length, h9]
theorem SumRaw.setNow {w : World} {S : Nat} {st : S8} {R : List Nat} {n : Nat} (h : SumRaw w S st R n) (a b c d e f g i : Nat) :
    SumRaw ((((((((w.setCell ⟨S, 1, none⟩ (.int .u32 a)).setCell ⟨S, 2, none⟩ (.int .u32 b)).setCell ⟨S, 3, none⟩ (.int .u32 c)).setCell ⟨S, 4, none⟩ (.int .u32 d)).setCell ⟨S, 5, none⟩ (.int .u32 e)).setCell ⟨S, 6, none⟩ (.int .u32 f)).setCell ⟨S, 7, none⟩ (.int .u32 g)).setCell ⟨S, 8, none⟩ (.int .u32 i)) S ⟨a, b, c, d, e, f, g, i⟩ R n := by
  refine ⟨h.1, ?_⟩
  have k1 := heap_setCell_same w S 1 _ _ (.int .u32 a) h.2
  have k2 := heap_setCell_same _ S 2 _ _ (.int .u32 b) k1
  have k3 := heap_setCell_same _ S 3 _ _ (.int .u32 c) k2
  have k4 := heap_setCell_same _ S 4 _ _ (.int .u32 d) k3
  have k5 := heap_setCell_same _ S 5 _ _ (.int .u32 e) k4
  have k6 := heap_setCell_same _ S 6 _ _ (.int .u32 f) k5
  have k7 := heap_setCell_same _ S 7 _ _ (.int .u32 g) k6
  have k8 := heap_setCell_same _ S 8 _ _ (.int .u32 i) k7
  refine k8.trans ?_
  unfold sumC
  simp
theorem SumRaw.copy {w : World} {S : Nat} {st : S8} {R : List Nat} {n : Nat} (h : SumRaw w S st R n) (p : Nat) (c : List Nat) (hp : p + c.length ≤ 64) :
    SumRaw (w.setRow S ((sumC st R n).toArray.toList.take (9 + p) ++ (cellsK .u8 c ++ (sumC st R n).toArray.toList.drop (9 + p + (cellsK .u8 c).length))).toArray) S st (splice R p c) n := by
  have h9 := h.1
  refine ⟨by rw [length_splice _ _ _ (by omega)]; exact h9, ?_⟩
  rw [setRow_heap w S _ _ _ _ h.2]
  congr 2
  unfold splice sumC
  rw [show 9 + p = p + 1 + 1 + 1 + 1 + 1 + 1 + 1 + 1 + 1 by omega, cellsK_length, show p + 1 + 1 + 1 + 1 + 1 + 1 + 1 + 1 + 1 + c.length = p + c.length + 1 + 1 + 1 + 1 + 1 + 1 + 1 + 1 + 1 by omega]
  simp only [List.take_succ_cons, List.drop_succ_cons, List.cons_append]
  rw [List.take_append_of_le_length (by rw [cellsK_length]; omega), List.drop_append_of_le_length (by rw [cellsK_length]; omega)]
  simp [cellsK, List.map_take, List.map_drop]
/-- S is a Sum of these bytes. -/
def SumAt (w : World) (S : Nat) (l : List Nat) : Prop := ∃ R, SumRaw w S (stN l (l.length / 64)) R l.length ∧ Bytes R ∧ R.take (l.length % 64) = l.drop (64 * (l.length / 64))
theorem SumAt.block {w w' : World} {S : Nat} {l : List Nat} (h : SumAt w S l) (hb : w'.heap[S]? = w.heap[S]?) : SumAt w' S l := by
  obtain ⟨R, h1, h2⟩ := h
  exact ⟨R, h1.block hb, h2⟩
theorem SumAt.lt {w : World} {S : Nat} {l : List Nat} (h : SumAt w S l) : S < w.heap.size := by
  obtain ⟨R, h1, h2⟩ := h
  exact h1.lt
theorem SumAt.later {w w' : World} {S : Nat} {l : List Nat} (h : SumAt w S l) (hb : Below w.heap.size w w') : SumAt w' S l := h.block (hb.block S h.lt)
theorem splice_take {l R c : List Nat} (hR : R.length = 64) (h : R.take (l.length % 64) = l.drop (64 * (l.length / 64))) :
    (splice R (l.length % 64) c).take (l.length % 64 + c.length) = (l ++ c).drop (64 * (l.length / 64)) := by
  have h8 : (R.take (l.length % 64)).length = l.length % 64 := by rw [List.length_take, hR]; omega
  unfold splice
  rw [h, List.drop_append_of_le_length (by omega), ← List.append_assoc]
  rw [List.take_append_of_le_length (by rw [← h, List.length_append, h8]; omega)]
  rw [List.take_of_length_le (by rw [← h, List.length_append, h8]; omega)]
theorem splice_bytes {R c : List Nat} {p : Nat} (hR : Bytes R) (hc : Bytes c) : Bytes (splice R p c) := by
  intro x hx
  unfold splice at hx
  rcases List.mem_append.1 hx with h | h
  · exact hR x (List.take_subset _ _ h)
  · rcases List.mem_append.1 h with h | h
    · exact hc x h
    · exact hR x (List.drop_subset _ _ h)
/-- More bytes, that do not fill the block. -/
theorem SumAt.part {w : World} {S : Nat} {l c R : List Nat} (h1 : SumRaw w S (stN l (l.length / 64)) (splice R (l.length % 64) c) (l.length + c.length)) (hR : R.length = 64) (hb : Bytes R) (hc : Bytes c)
    (h : R.take (l.length % 64) = l.drop (64 * (l.length / 64))) (hlt : l.length % 64 + c.length < 64) : SumAt w S (l ++ c) := by
  have e1 : (l ++ c).length / 64 = l.length / 64 := by rw [List.length_append]; omega
  have e2 : (l ++ c).length % 64 = l.length % 64 + c.length := by rw [List.length_append]; omega
  refine ⟨splice R (l.length % 64) c, ?_, splice_bytes hb hc, ?_⟩
  · rw [e1, List.length_append, stN_append l c _ (by omega)]
    exact h1
  · rw [e1, e2]
    exact splice_take hR h
/-- More bytes, that do. -/
theorem SumAt.full {w : World} {S : Nat} {l c R : List Nat} (h1 : SumRaw w S (takeB (stN l (l.length / 64)) (splice R (l.length % 64) c)) (splice R (l.length % 64) c) (l.length + c.length)) (hR : R.length = 64) (hb : Bytes R) (hc : Bytes c)
    (h : R.take (l.length % 64) = l.drop (64 * (l.length / 64))) (he : l.length % 64 + c.length = 64) : SumAt w S (l ++ c) := by
  have e1 : (l ++ c).length / 64 = l.length / 64 + 1 := by rw [List.length_append]; omega
  have e2 : (l ++ c).length % 64 = 0 := by rw [List.length_append]; omega
  have e3 := splice_take hR h (c := c)
  rw [he, List.take_of_length_le (by rw [length_splice _ _ _ (by omega)]; omega)] at e3
  refine ⟨splice R (l.length % 64) c, ?_, splice_bytes hb hc, ?_⟩
  · rw [e1, List.length_append, stN, stN_append l c _ (by omega), ← e3, List.take_of_length_le (by rw [length_splice _ _ _ (by omega)]; omega)]
    exact h1
  · rw [e1, e2, List.take_zero, List.drop_eq_nil_of_le (by rw [List.length_append]; omega)]
end Go.Proofs.Ytpoocnkflmimdaa
