/- Layer 18 (journals): Open, where it is refused. -/
import Derived.Test.YtjfejpdeccnlnaaDoorJroom0
namespace Go.Proofs.YtjfejpdeccnlnaaDoor
open Go.ChangeShapes Go.WideShapes Go.ChangeAt Go.RowKit

set_option linter.unusedSimpArgs false in
set_option maxRecDepth 100000 in
set_option maxHeartbeats 4000000 in
theorem Open_no {K : Nat → Prop} {w : World} {base D : Nat} {M : Dm} {s : ByteArray} {zn e : Nat} (h : OneK K w base D M) (hs : s.size ≤ 140737488355328) (h0 : M.sizeE s = (zn, e)) (he : e ≠ 0 ∧ e ≠ 7) :
    Calls Tryd.prog 10 #[.pointer (some ⟨D, 0, none⟩), .string s] w fun en w' => en = .returned (.tuple #[.pointer none, .slice none 0 0, .int .i64 e]) ∧ Below w.heap.size w w' := by
  have HS := Lib.hid (fun (w1 : World) (hb : Below w.heap.size w w1) => (h.later hb).look fun S hS => Size_any hS s hs)
  rw [h0] at HS
  have e1 : ¬ ((e : Int) = 0) := by omega
  have e2 : ¬ ((e : Int) = 7) := by omega
  clear h0 he h
  go_enter Tryd.func10, Tryd.ntmps10
  go_wp2_with fail
  obtain ⟨wA, eA⟩ : ∃ wA, wA = (w.alloc (.cells #[.pointer none] 29)).alloc (.cells #[.slice none 0 0] 22) := ⟨_, rfl⟩
  have hbA : Below w.heap.size w wA := by rw [eA]; exact ((Below.refl _ w).alloc (Nat.le_refl _) _).alloc (by simp) _
  have hsA : wA.heap.size = w.heap.size + 1 + 1 := by rw [eA]; simp
  have F4 : wA.heap[w.heap.size]? = some (.cells #[.pointer none] 29 (0, 0)) := by rw [eA]; exact (Below.heap_alloc _ _ _ (by simp)).trans (heap_alloc_new w _)
  have F5 : wA.heap[w.heap.size + 1]? = some (.cells #[.slice none 0 0] 22 (0, 0)) := by rw [eA]; have := heap_alloc_new (w.alloc (.cells #[.pointer none] 29)) (.cells #[.slice none 0 0] 22); simpa using this
  rw [← eA]
  clear eA
  obtain ⟨J4, h4⟩ : ∃ J, J = w.heap.size := ⟨_, rfl⟩
  have hJ : w.heap.size ≤ J4 := by omega
  rw [← h4] at F4 F5 ⊢
  have HB := Lib.hid hbA
  clear h4 hsA hbA
  refine (HS.out wA HB.out).mono ?_
  rintro _ w2 ⟨rfl, hb⟩
  have g4 := heap_on hb F4
  have g5 := heap_on hb F5
  have B := Lib.hid (below_on HB.out hb)
  have k4 := cell_of_row w2 J4 0 _ _ (0, 0) g4
  have k5 := cell_of_row w2 (J4 + 1) 0 _ _ (0, 0) g5
  have f4 := frozen_row g4 0
  have f5 := frozen_row g5 0
  have G4 := Lib.hid g4
  have G5 := Lib.hid g5
  clear hb F4 F5 g4 g5
  go_wp2_with fail
  obtain ⟨we, ewe⟩ : ∃ we, we = (w2.setCell ⟨J4, 0, none⟩ (.pointer none)).setCell ⟨J4 + 1, 0, none⟩ (.slice none 0 0) := ⟨_, rfl⟩
  rw [← ewe]
  have y4 : we.cell? ⟨J4, 0, none⟩ = some (.pointer none) := by
    rw [ewe]
    exact cell_of_row _ J4 0 _ _ (0, 0) ((Below.heap_setCell _ _ _ _ (show J4 ≠ J4 + 1 by omega)).trans (heap_setCell_same w2 J4 0 _ _ (.pointer none) G4.out))
  have y5 : we.cell? ⟨J4 + 1, 0, none⟩ = some (.slice none 0 0) := by
    rw [ewe]
    exact cell_of_row _ (J4 + 1) 0 _ _ (0, 0) (heap_setCell_same _ (J4 + 1) 0 _ _ (.slice none 0 0) ((Below.heap_setCell w2 ⟨J4, 0, none⟩ _ (J4 + 1) (show J4 + 1 ≠ J4 by omega)).trans G5.out))
  have hbe : Below w.heap.size w we := by rw [ewe]; exact (B.out.setCell (p := ⟨J4, 0, none⟩) hJ _).setCell (p := ⟨J4 + 1, 0, none⟩) (by show w.heap.size ≤ J4 + 1; omega) _
  refine bodyPost_ret (v := .tuple #[.pointer none, .slice none 0 0, .int .i64 e]) ?_ rfl ⟨rfl, hbe⟩
  simp [results, Tryd.results10, go_sem, y4, y5]
set_option linter.unusedSimpArgs false in
set_option maxRecDepth 100000 in
set_option maxHeartbeats 4000000 in
theorem Open_full {K : Nat → Prop} {w : World} {base D : Nat} {M N : Dm} {s : ByteArray} {zn e : Nat} (h : OneK K w base D M) (hs : s.size ≤ 140737488355328) (h0 : M.sizeE s = (zn, 7)) (hc : M.create s = (N, e)) (he : e ≠ 0) :
    Calls Tryd.prog 10 #[.pointer (some ⟨D, 0, none⟩), .string s] w fun en w' => en = .returned (.tuple #[.pointer none, .slice none 0 0, .int .i64 e]) ∧ OneK K w' base D N ∧ Stay K w w' := by
  have HK := Lib.hid (show ∀ g, K g → g < w.heap.size from fun g hg => by obtain ⟨S, h1, h4⟩ := h; exact (h4 g hg).1)
  have HS := Lib.hid (fun (w1 : World) (hb : Below w.heap.size w w1) => (h.later hb).look fun S hS => Size_any hS s hs)
  rw [h0] at HS
  have T := Lib.hid h
  have HC := Lib.hid hc
  have e1 : ¬ ((e : Int) = 0) := by omega
  clear h0 he h hc
  go_enter Tryd.func10, Tryd.ntmps10
  go_wp2_with fail
  obtain ⟨wa, ea⟩ : ∃ wa, wa = w.alloc (.cells #[.pointer none] 29) := ⟨_, rfl⟩
  obtain ⟨wA, eA⟩ : ∃ wA, wA = wa.alloc (.cells #[.slice none 0 0] 22) := ⟨_, rfl⟩
  have hba : Below w.heap.size w wa := by rw [ea]; exact (Below.refl _ w).alloc (Nat.le_refl _) _
  have hbA : Below wa.heap.size wa wA := by rw [eA]; exact (Below.refl _ wa).alloc (Nat.le_refl _) _
  have hsa : wa.heap.size = w.heap.size + 1 := by rw [ea]; simp
  have hsA : wA.heap.size = w.heap.size + 1 + 1 := by rw [eA]; simp [hsa]
  have F4 : wA.heap[w.heap.size]? = some (.cells #[.pointer none] 29 (0, 0)) := by rw [eA, ea]; exact (Below.heap_alloc _ _ _ (by simp)).trans (heap_alloc_new w _)
  have F5 : wA.heap[w.heap.size + 1]? = some (.cells #[.slice none 0 0] 22 (0, 0)) := by rw [eA, ← hsa]; exact heap_alloc_new wa _
  rw [← ea, ← eA]
  have T := Lib.hid ((T.out.more (G := w.heap.size) hba (Nat.le_refl _) (by omega)).more (G := w.heap.size + 1) hbA (by omega) (by omega))
  obtain ⟨J4, h4⟩ : ∃ J, J = w.heap.size := ⟨_, rfl⟩
  have hJ : w.heap.size ≤ J4 := by omega
  rw [← h4] at F4 F5 T ⊢
  have HB := Lib.hid (below_on hba hbA)
  clear h4 hsA hbA hba hsa ea eA
  refine (HS.out wA HB.out).mono ?_
  rintro _ w2 ⟨rfl, hb⟩
  have F4 := heap_on hb F4
  have F5 := heap_on hb F5
  have B := Lib.hid (Stay.of_below (below_on HB.out hb) HK.out)
  have T := Lib.hid (T.out.later hb)
  clear hb
  go_wp2_with fail
  refine (T.out.act (e : Int) HC.out rfl fun S hS => Create_any hS s hs).mono ?_
  rintro _ w3 ⟨rfl, ht, hst⟩
  have g4 := (hst.block J4 (.inl (.inr rfl))).trans F4
  have g5 := (hst.block (J4 + 1) (.inr rfl)).trans F5
  have B := Lib.hid (B.out.trans hst fun g hg => .inl (.inl hg))
  have T := Lib.hid ht
  have k4 := cell_of_row w3 J4 0 _ _ (0, 0) g4
  have k5 := cell_of_row w3 (J4 + 1) 0 _ _ (0, 0) g5
  have f4 := frozen_row g4 0
  have f5 := frozen_row g5 0
  have G4 := Lib.hid g4
  have G5 := Lib.hid g5
  clear hst F4 F5 g4 g5 ht
  go_wp2_with fail
  obtain ⟨we, ewe⟩ : ∃ we, we = (w3.setCell ⟨J4, 0, none⟩ (.pointer none)).setCell ⟨J4 + 1, 0, none⟩ (.slice none 0 0) := ⟨_, rfl⟩
  have y4 : we.cell? ⟨J4, 0, none⟩ = some (.pointer none) := by
    rw [ewe]
    exact cell_of_row _ J4 0 _ _ (0, 0) ((Below.heap_setCell _ _ _ _ (show J4 ≠ J4 + 1 by omega)).trans (heap_setCell_same w3 J4 0 _ _ (.pointer none) G4.out))
  have y5 : we.cell? ⟨J4 + 1, 0, none⟩ = some (.slice none 0 0) := by
    rw [ewe]
    exact cell_of_row _ (J4 + 1) 0 _ _ (0, 0) (heap_setCell_same _ (J4 + 1) 0 _ _ (.slice none 0 0) ((Below.heap_setCell w3 ⟨J4, 0, none⟩ _ (J4 + 1) (show J4 + 1 ≠ J4 by omega)).trans G5.out))
  have hTe : OneK (fun g => (K g ∨ g = J4) ∨ g = J4 + 1) we base D N := by rw [ewe]; exact (T.out.putC J4 0 _ (.inl (.inr rfl))).putC (J4 + 1) 0 _ (.inr rfl)
  have hBe : Stay K w we := by rw [ewe]; exact (B.out.putC J4 0 _ fun hk => by have := HK.out _ hk; omega).putC (J4 + 1) 0 _ fun hk => by have := HK.out _ hk; omega
  rw [← ewe]
  refine bodyPost_ret (v := .tuple #[.pointer none, .slice none 0 0, .int .i64 e]) ?_ rfl ⟨rfl, hTe.lessC fun g hg => .inl (.inl hg), hBe⟩
  simp [results, Tryd.results10, go_sem, y4, y5]
end Go.Proofs.YtjfejpdeccnlnaaDoor
