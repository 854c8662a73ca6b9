/- Layer 17 (files): FilesThere. -/
import Derived.Test.YtjaganoidfohaaaDoorIdle
import Derived.Test.YtjaganoidfohaaaDoorMostM
import Derived.Test.YtjaganoidfohaaaDoorPerm
namespace Go.Proofs.YtjaganoidfohaaaDoor
open Go.ChangeShapes Go.WideShapes Go.ChangeAt Go.RowKit

theorem mem_sortB {L : List ByteArray} {s : ByteArray} (h : s ∈ L) : s ∈ sortB L := by
  unfold sortB
  refine List.mem_map.2 ⟨s.data.toList, ?_, ?_⟩
  · rw [List.mem_mergeSort]
    exact List.mem_map.2 ⟨s, h, rfl⟩
  · cases s
    rfl
theorem find_list {M : Dm} (h : M.ok) {s : ByteArray} {i : Nat} (hs : nameOk s = true) (hf : find M.now s = some i) : s ∈ M.list := by
  obtain ⟨k, r, h1, _⟩ := h.found hs hf
  refine mem_sortB (List.mem_map.2 ⟨_, List.mem_filter.2 ⟨List.mem_of_getElem? h1, rfl⟩, rfl⟩)
theorem rename_ways (M : Dm) (s z : ByteArray) : M.rename s z = (M, 1) ∨ M.rename s z = (M, 7) ∨ (nameOk s = true ∧ nameOk z = true ∧ ∃ i, find M.now s = some i ∧ (M.rename s z).2 = 0) := by
  unfold Dm.rename
  by_cases hz : nameOk z = true
  · rw [if_pos hz]
    unfold Dm.at
    by_cases hs : nameOk s = true
    · rw [if_pos hs]
      cases hf : find M.now s with
      | none => exact .inr (.inl rfl)
      | some i =>
        refine .inr (.inr ⟨hs, hz, i, rfl, ?_⟩)
        dsimp only
        split <;> rfl
    · rw [if_neg hs]
      exact .inl rfl
  · rw [if_neg hz]
    exact .inl rfl
theorem set_same {t : List Pl} {i : Nat} {p : Pl} (h : t[i]? = some p) : t.set i p = t := by
  refine List.ext_getElem? fun j => ?_
  rw [List.getElem?_set]
  split
  · subst ‹i = j›
    rw [h]
    simp [(List.getElem?_eq_some_iff.1 h).1]
  · rfl
theorem rename_to {M : Dm} {s z : ByteArray} {i k : Nat} (hs : nameOk s = true) (hz : nameOk z = true) (hf : find M.now s = some i) (h1 : M.now[i]? = some ⟨s, some k⟩) (hne : s ≠ z) : M.rename s z = ({ M with now := (freed M.now z).set i ⟨z, some k⟩ }, 0) := by
  simp [Dm.rename, hz, Dm.at, hs, hf, hne, List.getD, h1]
/-- A name that is given away, and given back. -/
theorem back {M : Dm} (h : M.ok) {s z : ByteArray} {i : Nat} (hs : nameOk s = true) (hz : nameOk z = true) (hf : find M.now s = some i) (hne : s ≠ z) : ∃ N, M.rename s z = (N, 0) ∧ N.rename z s = ({ M with now := freed M.now z }, 0) := by
  obtain ⟨k, r, h1, h2, h3, _, _⟩ := h.found hs hf
  have hl : i < (freed M.now z).length := by
    unfold freed
    split
    · rw [List.length_set]; exact (List.getElem?_eq_some_iff.1 h1).1
    · exact (List.getElem?_eq_some_iff.1 h1).1
  have hi : (freed M.now z)[i]? = some ⟨s, some k⟩ := by
    unfold freed
    split
    · rename_i j hj
      obtain ⟨f, h4, _⟩ := find_get hj
      rw [List.getElem?_set_ne (fun e => by subst e; rw [h1] at h4; cases h4; exact hne rfl)]
      exact h1
    · exact h1
  refine ⟨_, rename_to hs hz hf h1 hne, ?_⟩
  have hz' : find ((freed M.now z).set i ⟨z, some k⟩) z = some i := by
    refine find_of (by rw [List.length_set]; exact hl) (by rw [List.getElem_set_self]) fun j hj e => ?_
    rw [List.getElem_set_ne (by omega)] at e
    exact freed_none h.now (nameOk_ne hz) j _ (List.getElem?_eq_getElem _) e
  have hs' : find ((freed M.now z).set i ⟨z, some k⟩) s = none := by
    refine find_none_of fun j hj e => ?_
    rw [List.length_set] at hj
    by_cases hji : i = j
    · subst hji
      rw [List.getElem_set_self] at e
      exact hne e.symm
    · rw [List.getElem_set_ne hji] at e
      have h5 : (freed M.now z)[j]? = some (freed M.now z)[j] := List.getElem?_eq_getElem hj
      exact hji ((h.now.freed z).one i j _ _ hi h5 e.symm (nameOk_ne hs))
  have h6 : ((freed M.now z).set i ⟨z, some k⟩)[i]? = some ⟨z, some k⟩ := List.getElem?_set_self hl
  rw [rename_to (M := { M with now := (freed M.now z).set i ⟨z, some k⟩ }) hz hs hz' h6 (fun e => hne e.symm)]
  congr 2
  show (freed ((freed M.now z).set i ⟨z, some k⟩) s).set i ⟨s, some k⟩ = _
  have h7 : freed ((freed M.now z).set i ⟨z, some k⟩) s = (freed M.now z).set i ⟨z, some k⟩ := by
    show (match find ((freed M.now z).set i ⟨z, some k⟩) s with | some j => ((freed M.now z).set i ⟨z, some k⟩).set j free | none => (freed M.now z).set i ⟨z, some k⟩) = _
    rw [hs']
  rw [h7, List.set_set]
  exact set_same hi
theorem allB_at {M N : Dm} {s : ByteArray} {i : Nat} (hs : nameOk s = true) (h1 : find M.now s = some i) (h2 : find N.now s = some i) (hr : M.row i = N.row i) : M.allB s = N.allB s := by
  simp [Dm.allB, Dm.readE, Dm.sizeE, Dm.why_yes hs h1, Dm.why_yes hs h2, h1, h2, hr]
/-- It took another one's name. -/
theorem took {M : Dm} (h : M.ok) {s z : ByteArray} {i j : Nat} (hs : nameOk s = true) (hz : nameOk z = true) (hf : find M.now s = some i) (hne : s ≠ z) (hj : find M.now z = some j) :
    ∃ N, ({ M with now := freed M.now z } : Dm) = N ∧ N.sizeE z = (0, 7) ∧ N.list.length + 1 = M.list.length ∧ N.allB s = M.allB s := by
  obtain ⟨N, h1, h2, h3, h4, h5, _⟩ := remove_cnt h (find_list h hz hj)
  rw [remove_ok hz hj] at h1
  have h1 : ({ M with now := M.now.set j free } : Dm) = N := congrArg Prod.fst h1
  have h6 : freed M.now z = M.now.set j free := by
    unfold freed
    rw [hj]
  have h7 := h5 s hne (nameOk_ne hs) i hf
  refine ⟨N, by rw [h6]; exact h1, ?_, by rw [list_cnt, list_cnt]; exact h3, allB_at hs h7 hf ?_⟩
  · have h8 : N.why true z = 7 := by simp [Dm.why, hz, h4]
    unfold Dm.sizeE
    rw [if_neg (by rw [h8]; decide), h8]
  · obtain ⟨k, r, g1, g2, g3, g4, g5⟩ := h.found hs hf
    obtain ⟨k', r', f1, f2, f3, f4, f5⟩ := h2.found hs h7
    have hij : i ≠ j := by
      rintro rfl
      obtain ⟨f, e1, _⟩ := find_get hj
      rw [g1] at e1
      cases e1
      exact hne rfl
    subst h1
    rw [show ({ M with now := M.now.set j free } : Dm).now = M.now.set j free from rfl, List.getElem?_set_ne (fun e => hij e.symm), g1] at f1
    cases f1
    rw [f5, g5]
    change M.rows[k]? = some r' at f2
    rw [g2] at f2
    exact (Option.some.inj f2).symm

set_option linter.unusedSimpArgs false in
set_option linter.unusedVariables false in
set_option maxRecDepth 20000 in
set_option maxHeartbeats 4000000 in
theorem filesThere_big (l : List Ac) {v : Value} (s z : ByteArray) (keep : Nat) (w : World) (hA : ActsAt w v l) (hg : great l = true) :
    Calls Tryd.prog 6 #[v, .agg #[.string s, .string z], .int .u8 keep] w fun e w' => e = .returned (.bool true) ∧ Below w.heap.size w w' := by
  have HA := Lib.hid hA
  clear hA
  go_enter Tryd.func6, Tryd.ntmps6
  go_wp2_with fail
  obtain ⟨w1, e9⟩ : ∃ w1 : World, w1 = w.alloc (.cells #[.string s, .string z] 54) := ⟨_, rfl⟩
  have hb : Below w.heap.size w w1 := by rw [e9]; exact (Below.refl _ _).alloc (Nat.le_refl _) _
  have h9 : w1.heap[w.heap.size]? = some (.cells #[.string s, .string z] 54) := by rw [e9]; exact heap_alloc_new _ _
  rw [← e9]
  clear e9
  have B := Lib.hid hb
  have FA := Lib.hid h9
  have HA := Lib.hid (HA.out.later hb)
  clear hb h9
  obtain ⟨A, hAe⟩ : ∃ A, A = w.heap.size := ⟨_, rfl⟩
  rw [← hAe] at FA ⊢
  clear hAe
  refine (done_great l w1 HA.out hg).mono ?_
  rintro _ w2 ⟨rfl, hb⟩
  have B := Lib.hid (below_on B.out hb)
  have HA := Lib.hid (HA.out.later hb)
  clear hb
  go_wp2_with fail
  refine (done_great l w2 HA.out hg).mono ?_
  rintro _ w3 ⟨rfl, hb⟩
  have B := Lib.hid (below_on B.out hb)
  have HA := Lib.hid (HA.out.later hb)
  clear hb
  go_wp2_with fail
  refine (alive17 w3).mono ?_
  rintro _ w4 ⟨rfl, hb⟩
  have B := Lib.hid (below_on B.out hb)
  clear hb
  go_wp2_with fail
  go_ret
  exact ⟨rfl, B.out⟩
set_option linter.unusedSimpArgs false in
set_option linter.unusedVariables false in
set_option maxRecDepth 20000 in
set_option maxHeartbeats 4000000 in
theorem filesThere_small (l : List Ac) {v : Value} (s z : ByteArray) (hs9 : s.size ≤ 140737488355328) (hz9 : z.size ≤ 140737488355328) (keep : Nat) (hk : keep < 256) (w : World) (hA : ActsAt w v l) (hg : great l = false) :
    Calls Tryd.prog 6 #[v, .agg #[.string s, .string z], .int .u8 keep] w fun e w' => e = .returned (.bool true) ∧ Below w.heap.size w w' := by
  obtain ⟨M, hM⟩ : ∃ M, M = doneM l := ⟨_, rfl⟩
  have HM := Lib.hid hM.symm
  have HA := Lib.hid hA
  clear hA hM
  go_enter Tryd.func6, Tryd.ntmps6
  go_wp2_with fail
  obtain ⟨w1, e9⟩ : ∃ w1 : World, w1 = w.alloc (.cells #[.string s, .string z] 54) := ⟨_, rfl⟩
  have hb : Below w.heap.size w w1 := by rw [e9]; exact (Below.refl _ _).alloc (Nat.le_refl _) _
  have h9 : w1.heap[w.heap.size]? = some (.cells #[.string s, .string z] 54) := by rw [e9]; exact heap_alloc_new _ _
  rw [← e9]
  clear e9
  have B := Lib.hid hb
  have FA := Lib.hid h9
  have HA := Lib.hid (HA.out.later hb)
  clear hb h9
  obtain ⟨A, hAe⟩ : ∃ A, A = w.heap.size := ⟨_, rfl⟩
  rw [← hAe] at FA ⊢
  clear hAe
  refine (done_any l w1 HA.out hg).mono ?_
  rintro _ w2 ⟨rfl, ⟨S0, hd⟩, hb⟩
  have HA := Lib.hid (HA.out.later hb)
  obtain ⟨C, hC⟩ : ∃ C, C = w1.heap.size := ⟨_, rfl⟩
  have hBC : w.heap.size ≤ C := by rw [hC]; exact B.out.size
  have hAC : A < C := by rw [hC]; exact lt_of_heap FA.out
  rw [← hC] at hd ⊢
  rw [HM.out] at hd
  have hMok := hd.ok
  have T := Lib.hid (OneK.new hd)
  have FA := Lib.hid (heap_on hb FA.out)
  have B := Lib.hid (below_on B.out hb)
  clear hb hd hC S0
  go_wp2_with fail
  refine (done_any l w2 HA.out hg).mono ?_
  rintro _ w3 ⟨rfl, ⟨S0, hd⟩, hb⟩
  have FA := Lib.hid (heap_on hb FA.out)
  have B := Lib.hid (below_on B.out hb)
  obtain ⟨D, hD⟩ : ∃ D, D = w2.heap.size := ⟨_, rfl⟩
  rw [HM.out] at hd
  have T := Lib.hid (T.out.beside hb hd (Nat.le_refl _))
  rw [← hD] at T ⊢
  clear hb hd hD S0 HA HM
  go_wp2_with fail
  refine (alive17 w3).mono ?_
  rintro _ w4 ⟨rfl, hb⟩
  have FA := Lib.hid (heap_on hb FA.out)
  have B := Lib.hid (below_on B.out hb)
  have T := Lib.hid (T.out.later hb)
  clear hb
  have c0 := cell_of_row w4 A 0 _ _ (0, 0) FA.out
  have c1 := cell_of_row w4 A 1 _ _ (0, 0) FA.out
  go_wp2_with fail
  clear c0 c1
  refine (T.out.fst.look fun S hS => Size_any hS z hz9).mono ?_
  rintro _ w5 ⟨rfl, hb⟩
  have FA := Lib.hid (heap_on hb FA.out)
  have B := Lib.hid (below_on B.out hb)
  have T := Lib.hid (T.out.later hb)
  clear hb
  obtain ⟨y, hy⟩ : ∃ y, y = M.sizeE z := ⟨_, rfl⟩
  rw [← hy]
  obtain ⟨yn, ye⟩ := y
  rcases rename_ways M s z with hr | hr | ⟨hns, hnz, i, hf, hr⟩
  · have HR := Lib.hid hr
    clear hr hy
    have c0 := cell_of_row w5 A 0 _ _ (0, 0) FA.out
    have c1 := cell_of_row w5 A 1 _ _ (0, 0) FA.out
    go_wp2_with fail
    clear c0 c1
    refine (T.out.act2 1 HR.out rfl fun S hS => Rename_any hS s z hs9 hz9).mono ?_
    rintro _ w6 ⟨rfl, ht, hs⟩
    have FA := Lib.hid (hs.heap (show A < C from hAC) FA.out)
    have B := Lib.hid (B.out.trans (hs.below (base := w.heap.size) (fun g hg => (show g < C by omega))))
    have T := Lib.hid ht
    clear ht hs
    have c0 := cell_of_row w6 A 0 _ _ (0, 0) FA.out
    have c1 := cell_of_row w6 A 1 _ _ (0, 0) FA.out
    go_wp2_with fail
    clear c0 c1
    obtain ⟨S, S9, hS, hS9, _⟩ := T.out
    refine (alike_any hS hS9 rfl rfl).mono ?_
    clear hS hS9
    rintro _ w7 ⟨rfl, hb⟩
    have FA := Lib.hid (heap_on hb FA.out)
    have B := Lib.hid (below_on B.out hb)
    have T := Lib.hid (T.out.later hb)
    clear hb
    have c0 := cell_of_row w7 A 0 _ _ (0, 0) FA.out
    have c1 := cell_of_row w7 A 1 _ _ (0, 0) FA.out
    go_wp2_with fail
    clear c0 c1
    obtain ⟨S, S9, hS, hS9, _⟩ := T.out
    refine (fail_any hS hS9 rfl rfl rfl keep (by omega)).mono ?_
    clear hS hS9
    rintro _ w8 ⟨rfl, hb⟩
    have FA := Lib.hid (heap_on hb FA.out)
    have B := Lib.hid (below_on B.out hb)
    have T := Lib.hid (T.out.later hb)
    clear hb
    go_wp2_with fail
    go_ret
    exact ⟨rfl, B.out⟩
  · have HR := Lib.hid hr
    clear hr hy
    have c0 := cell_of_row w5 A 0 _ _ (0, 0) FA.out
    have c1 := cell_of_row w5 A 1 _ _ (0, 0) FA.out
    go_wp2_with fail
    clear c0 c1
    refine (T.out.act2 7 HR.out rfl fun S hS => Rename_any hS s z hs9 hz9).mono ?_
    rintro _ w6 ⟨rfl, ht, hs⟩
    have FA := Lib.hid (hs.heap (show A < C from hAC) FA.out)
    have B := Lib.hid (B.out.trans (hs.below (base := w.heap.size) (fun g hg => (show g < C by omega))))
    have T := Lib.hid ht
    clear ht hs
    have c0 := cell_of_row w6 A 0 _ _ (0, 0) FA.out
    have c1 := cell_of_row w6 A 1 _ _ (0, 0) FA.out
    go_wp2_with fail
    clear c0 c1
    obtain ⟨S, S9, hS, hS9, _⟩ := T.out
    refine (alike_any hS hS9 rfl rfl).mono ?_
    clear hS hS9
    rintro _ w7 ⟨rfl, hb⟩
    have FA := Lib.hid (heap_on hb FA.out)
    have B := Lib.hid (below_on B.out hb)
    have T := Lib.hid (T.out.later hb)
    clear hb
    have c0 := cell_of_row w7 A 0 _ _ (0, 0) FA.out
    have c1 := cell_of_row w7 A 1 _ _ (0, 0) FA.out
    go_wp2_with fail
    clear c0 c1
    obtain ⟨S, S9, hS, hS9, _⟩ := T.out
    refine (fail_any hS hS9 rfl rfl rfl keep (by omega)).mono ?_
    clear hS hS9
    rintro _ w8 ⟨rfl, hb⟩
    have FA := Lib.hid (heap_on hb FA.out)
    have B := Lib.hid (below_on B.out hb)
    have T := Lib.hid (T.out.later hb)
    clear hb
    go_wp2_with fail
    go_ret
    exact ⟨rfl, B.out⟩
  · by_cases hsz : s = z
    · subst hsz
      have HR := Lib.hid (show M.rename s s = (M, 0) by simp [Dm.rename, hns, Dm.at, hf])
      clear hr hns hnz hf hy
      by_cases hye : ye = 0
      · subst hye
        have c0 := cell_of_row w5 A 0 _ _ (0, 0) FA.out
        have c1 := cell_of_row w5 A 1 _ _ (0, 0) FA.out
        go_wp2_with fail
        clear c0 c1
        refine (T.out.act2 0 HR.out rfl fun S hS => Rename_any hS s s hs9 hs9).mono ?_
        rintro _ w6 ⟨rfl, ht, hs⟩
        have FA := Lib.hid (hs.heap (show A < C from hAC) FA.out)
        have B := Lib.hid (B.out.trans (hs.below (base := w.heap.size) (fun g hg => (show g < C by omega))))
        have T := Lib.hid ht
        clear ht hs
        have c0 := cell_of_row w6 A 0 _ _ (0, 0) FA.out
        have c1 := cell_of_row w6 A 1 _ _ (0, 0) FA.out
        go_wp2_with fail
        clear c0 c1
        refine (T.out.act2 0 HR.out rfl fun S hS => Rename_any hS s s hs9 hs9).mono ?_
        rintro _ w7 ⟨rfl, ht, hs⟩
        have FA := Lib.hid (hs.heap (show A < C from hAC) FA.out)
        have B := Lib.hid (B.out.trans (hs.below (base := w.heap.size) (fun g hg => (show g < C by omega))))
        have T := Lib.hid ht
        clear ht hs
        have c0 := cell_of_row w7 A 0 _ _ (0, 0) FA.out
        have c1 := cell_of_row w7 A 1 _ _ (0, 0) FA.out
        go_wp2_with fail
        clear c0 c1
        obtain ⟨S, S9, hS, hS9, _⟩ := T.out
        refine (alike_any hS hS9 rfl rfl).mono ?_
        clear hS hS9
        rintro _ w8 ⟨rfl, hb⟩
        have FA := Lib.hid (heap_on hb FA.out)
        have B := Lib.hid (below_on B.out hb)
        have T := Lib.hid (T.out.later hb)
        clear hb
        have c0 := cell_of_row w8 A 0 _ _ (0, 0) FA.out
        have c1 := cell_of_row w8 A 1 _ _ (0, 0) FA.out
        go_wp2_with fail
        clear c0 c1
        obtain ⟨S, S9, hS, hS9, _⟩ := T.out
        refine (fail_any hS hS9 rfl rfl rfl keep (by omega)).mono ?_
        clear hS hS9
        rintro _ w9 ⟨rfl, hb⟩
        have FA := Lib.hid (heap_on hb FA.out)
        have B := Lib.hid (below_on B.out hb)
        have T := Lib.hid (T.out.later hb)
        clear hb
        go_wp2_with fail
        go_ret
        exact ⟨rfl, B.out⟩
      · have hyI : ¬ ((ye : Int) = 0) := by omega
        have c0 := cell_of_row w5 A 0 _ _ (0, 0) FA.out
        have c1 := cell_of_row w5 A 1 _ _ (0, 0) FA.out
        go_wp2_with fail
        clear c0 c1
        refine (T.out.act2 0 HR.out rfl fun S hS => Rename_any hS s s hs9 hs9).mono ?_
        rintro _ w6 ⟨rfl, ht, hs⟩
        have FA := Lib.hid (hs.heap (show A < C from hAC) FA.out)
        have B := Lib.hid (B.out.trans (hs.below (base := w.heap.size) (fun g hg => (show g < C by omega))))
        have T := Lib.hid ht
        clear ht hs
        have c0 := cell_of_row w6 A 0 _ _ (0, 0) FA.out
        have c1 := cell_of_row w6 A 1 _ _ (0, 0) FA.out
        go_wp2_with fail
        clear c0 c1
        refine (T.out.act2 0 HR.out rfl fun S hS => Rename_any hS s s hs9 hs9).mono ?_
        rintro _ w7 ⟨rfl, ht, hs⟩
        have FA := Lib.hid (hs.heap (show A < C from hAC) FA.out)
        have B := Lib.hid (B.out.trans (hs.below (base := w.heap.size) (fun g hg => (show g < C by omega))))
        have T := Lib.hid ht
        clear ht hs
        have c0 := cell_of_row w7 A 0 _ _ (0, 0) FA.out
        have c1 := cell_of_row w7 A 1 _ _ (0, 0) FA.out
        go_wp2_with fail
        clear c0 c1
        obtain ⟨S, S9, hS, hS9, _⟩ := T.out
        refine (alike_any hS hS9 rfl rfl).mono ?_
        clear hS hS9
        rintro _ w8 ⟨rfl, hb⟩
        have FA := Lib.hid (heap_on hb FA.out)
        have B := Lib.hid (below_on B.out hb)
        have T := Lib.hid (T.out.later hb)
        clear hb
        have c0 := cell_of_row w8 A 0 _ _ (0, 0) FA.out
        have c1 := cell_of_row w8 A 1 _ _ (0, 0) FA.out
        go_wp2_with fail
        clear c0 c1
        obtain ⟨S, S9, hS, hS9, _⟩ := T.out
        refine (fail_any hS hS9 rfl rfl rfl keep (by omega)).mono ?_
        clear hS hS9
        rintro _ w9 ⟨rfl, hb⟩
        have FA := Lib.hid (heap_on hb FA.out)
        have B := Lib.hid (below_on B.out hb)
        have T := Lib.hid (T.out.later hb)
        clear hb
        go_wp2_with fail
        go_ret
        exact ⟨rfl, B.out⟩
    · obtain ⟨N, hr1, hr2⟩ := back hMok hns hnz hf hsz
      have HR1 := Lib.hid hr1
      cases hj : find M.now z with
      | none =>
        have h9 : freed M.now z = M.now := by unfold freed; rw [hj]
        rw [h9] at hr2
        have HR2 := Lib.hid (show N.rename z s = (M, 0) from hr2)
        have hyy : (yn, ye) = (0, 7) := by rw [hy]; unfold Dm.sizeE; simp [Dm.why, hnz, hj]
        cases hyy
        clear hr hr1 hr2 hns hnz hf hj h9 hy hsz
        have c0 := cell_of_row w5 A 0 _ _ (0, 0) FA.out
        have c1 := cell_of_row w5 A 1 _ _ (0, 0) FA.out
        go_wp2_with fail
        clear c0 c1
        refine (T.out.act2 0 HR1.out rfl fun S hS => Rename_any hS s z hs9 hz9).mono ?_
        rintro _ w6 ⟨rfl, ht, hs⟩
        have FA := Lib.hid (hs.heap (show A < C from hAC) FA.out)
        have B := Lib.hid (B.out.trans (hs.below (base := w.heap.size) (fun g hg => (show g < C by omega))))
        have T := Lib.hid ht
        clear ht hs
        have c0 := cell_of_row w6 A 0 _ _ (0, 0) FA.out
        have c1 := cell_of_row w6 A 1 _ _ (0, 0) FA.out
        go_wp2_with fail
        clear c0 c1
        refine (T.out.act2 0 HR2.out rfl fun S hS => Rename_any hS z s hz9 hs9).mono ?_
        rintro _ w7 ⟨rfl, ht, hs⟩
        have FA := Lib.hid (hs.heap (show A < C from hAC) FA.out)
        have B := Lib.hid (B.out.trans (hs.below (base := w.heap.size) (fun g hg => (show g < C by omega))))
        have T := Lib.hid ht
        clear ht hs
        have c0 := cell_of_row w7 A 0 _ _ (0, 0) FA.out
        have c1 := cell_of_row w7 A 1 _ _ (0, 0) FA.out
        go_wp2_with fail
        clear c0 c1
        obtain ⟨S, S9, hS, hS9, _⟩ := T.out
        refine (alike_any hS hS9 rfl rfl).mono ?_
        clear hS hS9
        rintro _ w8 ⟨rfl, hb⟩
        have FA := Lib.hid (heap_on hb FA.out)
        have B := Lib.hid (below_on B.out hb)
        have T := Lib.hid (T.out.later hb)
        clear hb
        have c0 := cell_of_row w8 A 0 _ _ (0, 0) FA.out
        have c1 := cell_of_row w8 A 1 _ _ (0, 0) FA.out
        go_wp2_with fail
        clear c0 c1
        obtain ⟨S, S9, hS, hS9, _⟩ := T.out
        refine (fail_any hS hS9 rfl rfl rfl keep (by omega)).mono ?_
        clear hS hS9
        rintro _ w9 ⟨rfl, hb⟩
        have FA := Lib.hid (heap_on hb FA.out)
        have B := Lib.hid (below_on B.out hb)
        have T := Lib.hid (T.out.later hb)
        clear hb
        go_wp2_with fail
        go_ret
        exact ⟨rfl, B.out⟩
      | some j =>
        obtain ⟨N9, h9, t1, t2, t3⟩ := took hMok hns hnz hf hsz hj
        rw [h9] at hr2
        have HR2 := Lib.hid hr2
        obtain ⟨x, hx⟩ : ∃ x, (yn, ye) = (x, 0) := ⟨_, by rw [hy]; unfold Dm.sizeE; rw [if_pos (Dm.why_yes hnz hj)]⟩
        cases hx
        have HT1 := Lib.hid t1
        have HT3 := Lib.hid t3
        obtain ⟨n1, hn1⟩ : ∃ n, n = N9.list.length := ⟨_, rfl⟩
        obtain ⟨n2, hn2⟩ : ∃ n, n = M.list.length := ⟨_, rfl⟩
        rw [← hn1, ← hn2] at t2
        have HN1 := Lib.hid hn1.symm
        have HN2 := Lib.hid hn2.symm
        have eN : (n2 : Int) - 1 = (n1 : Int) := by omega
        have hn9 : n2 ≤ 64 := by rw [hn2, list_cnt]; have := cnt_le M.now; rw [hMok.nl] at this; exact this
        have eW : IntKind.i64.wrap (n1 : Int) = (n1 : Int) := by rw [IntKind.wrap_i64]; omega
        have hn8 : (n2 : Int) ≤ 64 := by omega
        have hn7 : (n1 : Int) ≤ 64 := by omega
        have hne := str_ne hsz
        clear hr hr1 hr2 hns hnz hf hj h9 hy hsz t1 t3 hn1 hn2 hn9
        have c0 := cell_of_row w5 A 0 _ _ (0, 0) FA.out
        have c1 := cell_of_row w5 A 1 _ _ (0, 0) FA.out
        go_wp2_with fail
        clear c0 c1
        refine (T.out.act2 0 HR1.out rfl fun S hS => Rename_any hS s z hs9 hz9).mono ?_
        rintro _ w6 ⟨rfl, ht, hs⟩
        have FA := Lib.hid (hs.heap (show A < C from hAC) FA.out)
        have B := Lib.hid (B.out.trans (hs.below (base := w.heap.size) (fun g hg => (show g < C by omega))))
        have T := Lib.hid ht
        clear ht hs
        have c0 := cell_of_row w6 A 0 _ _ (0, 0) FA.out
        have c1 := cell_of_row w6 A 1 _ _ (0, 0) FA.out
        go_wp2_with fail
        clear c0 c1
        refine (T.out.act2 0 HR2.out rfl fun S hS => Rename_any hS z s hz9 hs9).mono ?_
        rintro _ w7 ⟨rfl, ht, hs⟩
        have FA := Lib.hid (hs.heap (show A < C from hAC) FA.out)
        have B := Lib.hid (B.out.trans (hs.below (base := w.heap.size) (fun g hg => (show g < C by omega))))
        have T := Lib.hid ht
        clear ht hs
        have c0 := cell_of_row w7 A 0 _ _ (0, 0) FA.out
        have c1 := cell_of_row w7 A 1 _ _ (0, 0) FA.out
        go_wp2_with fail
        clear c0 c1
        refine (T.out.snd.look fun S hS => Size_any hS z hz9).mono ?_
        rw [HT1.out]
        rintro _ w8 ⟨rfl, hb⟩
        have FA := Lib.hid (heap_on hb FA.out)
        have B := Lib.hid (below_on B.out hb)
        have T := Lib.hid (T.out.later hb)
        clear hb
        have c0 := cell_of_row w8 A 0 _ _ (0, 0) FA.out
        have c1 := cell_of_row w8 A 1 _ _ (0, 0) FA.out
        go_wp2_with fail
        have hb : Below w8.heap.size w8 w8.drew := ⟨rfl, rfl, rfl, Nat.le_refl _, fun _ _ => rfl⟩
        have FA := Lib.hid (heap_on hb FA.out)
        have B := Lib.hid (below_on B.out hb)
        have T := Lib.hid (T.out.later hb)
        clear hb
        refine wp_region_perm [(0, true), (1, true), (2, true), (3, true), (6, true), (4, false), (5, true), (7, false), (8, true), (9, true), (10, true), (11, true), (12, true), (13, true), (14, true), (15, true), (17, true), (18, true), (19, true), (16, false), (20, false), (21, true), (22, true), (23, true)] (fun w9 => w9.cell? ⟨A, 0, none⟩ = some (.string s)) (by kernel_rfl) (by kernel_rfl) (fun _ _ _ _ _ h => h) (c0) (fun hHeld => ?_)
        refine WP.take (v := ?_) rfl (Or.inl ⟨by rfl, ?_⟩) ?_
        rotate_left
        · intro w8 hSw
          (try dsimp only at hSw)
          go_simp
          any_goals with_reducible rfl
        try simp only [Act.put, List.setIfInBounds_toArray, List.set_cons_zero, List.set_cons_succ]
        refine WP.take (v := ?_) rfl (Or.inl ⟨by rfl, ?_⟩) ?_
        rotate_left
        · intro w8 hSw
          (try dsimp only at hSw)
          go_simp
          any_goals with_reducible rfl
        try simp only [Act.put, List.setIfInBounds_toArray, List.set_cons_zero, List.set_cons_succ]
        refine WP.take (v := ?_) rfl (Or.inl ⟨by rfl, ?_⟩) ?_
        rotate_left
        · intro w8 hSw
          (try dsimp only at hSw)
          go_simp
          any_goals with_reducible rfl
        try simp only [Act.put, List.setIfInBounds_toArray, List.set_cons_zero, List.set_cons_succ]
        refine WP.take (v := ?_) rfl (Or.inl ⟨by rfl, ?_⟩) ?_
        rotate_left
        · intro w8 hSw
          (try dsimp only at hSw)
          go_simp
          any_goals with_reducible rfl
        try simp only [Act.put, List.setIfInBounds_toArray, List.set_cons_zero, List.set_cons_succ]
        refine WP.take (v := ?_) rfl (Or.inl ⟨by rfl, ?_⟩) ?_
        rotate_left
        · intro w8 hSw
          (try dsimp only at hSw)
          go_simp
          any_goals with_reducible rfl
        try simp only [Act.put, List.setIfInBounds_toArray, List.set_cons_zero, List.set_cons_succ]
        refine WP.step rfl (fun K hK => ?_)
        go_simp
        refine (T.out.snd.look fun S hS => list_look hS rfl HN1.out).mono ?_
        rintro _ x1 ⟨la1, lc1, rfl, _, hb⟩
        have T := Lib.hid (T.out.later hb)
        have FA := Lib.hid (heap_on hb FA.out)
        have B := Lib.hid (below_on B.out hb)
        have c0 : x1.cell? ⟨A, 0, none⟩ = some (.string s) := cell_of_row _ _ _ _ _ (0, 0) FA.out
        clear hb
        go_wp2_with fail
        refine hK.out _ _ (c0) (fun hHeld => ?_)
        clear hK K
        try simp only [Act.put, List.setIfInBounds_toArray, List.set_cons_zero, List.set_cons_succ]
        refine WP.take (v := ?_) rfl (Or.inl ⟨by rfl, ?_⟩) ?_
        rotate_left
        · intro w8 hSw
          (try dsimp only at hSw)
          go_simp
          any_goals with_reducible rfl
        try simp only [Act.put, List.setIfInBounds_toArray, List.set_cons_zero, List.set_cons_succ]
        refine WP.step rfl (fun K hK => ?_)
        go_simp
        refine (T.out.fst.look fun S hS => list_look hS rfl HN2.out).mono ?_
        rintro _ x2 ⟨la2, lc2, rfl, _, hb⟩
        have T := Lib.hid (T.out.later hb)
        have FA := Lib.hid (heap_on hb FA.out)
        have B := Lib.hid (below_on B.out hb)
        have c0 : x2.cell? ⟨A, 0, none⟩ = some (.string s) := cell_of_row _ _ _ _ _ (0, 0) FA.out
        clear hb
        go_wp2_with fail
        refine hK.out _ _ (c0) (fun hHeld => ?_)
        clear hK K
        try simp only [Act.put, List.setIfInBounds_toArray, List.set_cons_zero, List.set_cons_succ]
        refine WP.take (v := ?_) rfl (Or.inl ⟨by rfl, ?_⟩) ?_
        rotate_left
        · intro w8 hSw
          (try dsimp only at hSw)
          go_simp
          any_goals with_reducible rfl
        try simp only [Act.put, List.setIfInBounds_toArray, List.set_cons_zero, List.set_cons_succ]
        refine WP.take (v := ?_) rfl (Or.inl ⟨by rfl, ?_⟩) ?_
        rotate_left
        · intro w8 hSw
          (try dsimp only at hSw)
          go_simp
          any_goals with_reducible rfl
        try simp only [Act.put, List.setIfInBounds_toArray, List.set_cons_zero, List.set_cons_succ]
        refine WP.take (v := ?_) rfl (Or.inl ⟨by rfl, ?_⟩) ?_
        rotate_left
        · intro w8 hSw
          (try dsimp only at hSw)
          go_simp
          any_goals with_reducible rfl
        try simp only [Act.put, List.setIfInBounds_toArray, List.set_cons_zero, List.set_cons_succ]
        refine WP.take (v := ?_) rfl (Or.inl ⟨by rfl, ?_⟩) ?_
        rotate_left
        · intro w8 hSw
          (try dsimp only at hSw)
          go_simp
          any_goals with_reducible rfl
        try simp only [Act.put, List.setIfInBounds_toArray, List.set_cons_zero, List.set_cons_succ]
        refine WP.take (v := ?_) rfl (Or.inl ⟨by rfl, ?_⟩) ?_
        rotate_left
        · intro w8 hSw
          (try dsimp only at hSw)
          go_simp
          any_goals with_reducible rfl
        try simp only [Act.put, List.setIfInBounds_toArray, List.set_cons_zero, List.set_cons_succ]
        refine WP.take (v := ?_) rfl (Or.inl ⟨by rfl, ?_⟩) ?_
        rotate_left
        · intro w8 hSw
          (try dsimp only at hSw)
          go_simp
          any_goals with_reducible rfl
        try simp only [Act.put, List.setIfInBounds_toArray, List.set_cons_zero, List.set_cons_succ]
        refine WP.take (v := ?_) rfl (Or.inl ⟨by rfl, ?_⟩) ?_
        rotate_left
        · intro w8 hSw
          (try dsimp only at hSw)
          go_simp
          any_goals with_reducible rfl
        try simp only [Act.put, List.setIfInBounds_toArray, List.set_cons_zero, List.set_cons_succ]
        refine WP.take (v := ?_) rfl (Or.inl ⟨by rfl, ?_⟩) ?_
        rotate_left
        · intro w8 hSw
          (try dsimp only at hSw)
          go_simp
          any_goals with_reducible rfl
        try simp only [Act.put, List.setIfInBounds_toArray, List.set_cons_zero, List.set_cons_succ]
        refine WP.take (v := ?_) rfl (Or.inl ⟨by rfl, ?_⟩) ?_
        rotate_left
        · intro w8 hSw
          (try dsimp only at hSw)
          go_simp
          any_goals with_reducible rfl
        try simp only [Act.put, List.setIfInBounds_toArray, List.set_cons_zero, List.set_cons_succ]
        refine WP.take (v := ?_) rfl (Or.inl ⟨by rfl, ?_⟩) ?_
        rotate_left
        · intro w8 hSw
          (try dsimp only at hSw)
          go_simp
          any_goals with_reducible rfl
        try simp only [Act.put, List.setIfInBounds_toArray, List.set_cons_zero, List.set_cons_succ]
        refine WP.take (v := ?_) rfl (Or.inl ⟨by rfl, ?_⟩) ?_
        rotate_left
        · intro w8 hSw
          (try dsimp only at hSw)
          go_simp
          any_goals with_reducible rfl
        try simp only [Act.put, List.setIfInBounds_toArray, List.set_cons_zero, List.set_cons_succ]
        refine WP.step rfl (fun K hK => ?_)
        go_simp
        refine (T.out.snd.look fun S hS => All_any hS s hs9).mono ?_
        rw [HT3.out]
        rintro _ x3 ⟨rfl, hb⟩
        have T := Lib.hid (T.out.later hb)
        have FA := Lib.hid (heap_on hb FA.out)
        have B := Lib.hid (below_on B.out hb)
        have c0 : x3.cell? ⟨A, 0, none⟩ = some (.string s) := cell_of_row _ _ _ _ _ (0, 0) FA.out
        clear hb
        go_wp2_with fail
        refine hK.out _ _ (c0) (fun hHeld => ?_)
        clear hK K
        try simp only [Act.put, List.setIfInBounds_toArray, List.set_cons_zero, List.set_cons_succ]
        refine WP.step rfl (fun K hK => ?_)
        go_simp
        refine (T.out.fst.look fun S hS => All_any hS s hs9).mono ?_
        rintro _ x4 ⟨rfl, hb⟩
        have T := Lib.hid (T.out.later hb)
        have FA := Lib.hid (heap_on hb FA.out)
        have B := Lib.hid (below_on B.out hb)
        have c0 : x4.cell? ⟨A, 0, none⟩ = some (.string s) := cell_of_row _ _ _ _ _ (0, 0) FA.out
        clear hb
        go_wp2_with fail
        refine hK.out _ _ (c0) (fun hHeld => ?_)
        clear hK K
        try simp only [Act.put, List.setIfInBounds_toArray, List.set_cons_zero, List.set_cons_succ]
        refine WP.take (v := ?_) rfl (Or.inl ⟨by rfl, ?_⟩) ?_
        rotate_left
        · intro w8 hSw
          (try dsimp only at hSw)
          go_simp
          any_goals with_reducible rfl
        try simp only [Act.put, List.setIfInBounds_toArray, List.set_cons_zero, List.set_cons_succ]
        refine WP.take (v := ?_) rfl (Or.inl ⟨by rfl, ?_⟩) ?_
        rotate_left
        · intro w8 hSw
          (try dsimp only at hSw)
          go_simp
          any_goals with_reducible rfl
        try simp only [Act.put, List.setIfInBounds_toArray, List.set_cons_zero, List.set_cons_succ]
        refine WP.take (v := ?_) rfl (Or.inl ⟨by rfl, ?_⟩) ?_
        rotate_left
        · intro w8 hSw
          (try dsimp only at hSw)
          go_simp
          any_goals with_reducible rfl
        try simp only [Act.put, List.setIfInBounds_toArray, List.set_cons_zero, List.set_cons_succ]
        refine WP.done ?_
        go_wp2_with fail
        go_ret
        exact ⟨rfl, B.out⟩
end Go.Proofs.YtjaganoidfohaaaDoor
