/- Layer 17 (files): FilesGone, the walk. -/
import Derived.Test.YtjaganoidfohaaaDoorAliveF
import Derived.Test.YtjaganoidfohaaaDoorDiskOps2
import Derived.Test.YtjaganoidfohaaaDoorGoneM
import Derived.Test.YtjaganoidfohaaaDoorLine
namespace Go.Proofs.YtjaganoidfohaaaDoor
open Go.ChangeShapes Go.WideShapes Go.ChangeAt Go.RowKit

theorem f_ok : nameOk ⟨#[102]⟩ = true := by decide
theorem f_size : (⟨#[102]⟩ : ByteArray).size ≤ 140737488355328 := by decide
theorem free_list {n : Nat} {safe : List Pl} {rows : List Rw} : (⟨n, List.replicate 64 free, safe, rows⟩ : Dm).list = [] := by
  have : namesOf (List.replicate 64 free) = [] := by decide
  show sortB (namesOf (List.replicate 64 free)) = []
  rw [this]
  simp [sortB]
theorem free_left {n : Nat} {safe : List Pl} {rows : List Rw} : (((⟨n, List.replicate 64 free, safe, rows⟩ : Dm).left : Nat) : Int) = n := by rw [left_free]
set_option linter.unusedSimpArgs false in
set_option linter.unusedVariables false in
set_option maxRecDepth 20000 in
set_option maxHeartbeats 4000000 in
theorem filesGone_big (s0 s1 : ByteArray) (keep : Nat) (hk : keep < 256) (w : World) (h : 20000 < s0.size + s1.size) (hz0 : s0.size ≤ 140737488355328) (hz1 : s1.size ≤ 140737488355328) :
    Calls Tryd.prog 7 #[.agg #[.string s0, .string s1], .int .u8 keep] w fun e w' => e = .returned (.bool true) ∧ Below w.heap.size w w' := by
  have hgtI : (20000 : Int) < (s0.size : Int) + (s1.size : Int) := by omega
  go_enter Tryd.func7, Tryd.ntmps7
  go_wp2_with fail
  obtain ⟨w1, e9⟩ : ∃ w1 : World, w1 = w.alloc (.cells #[.string s0, .string s1] 54) := ⟨_, rfl⟩
  have hb : Below w.heap.size w w1 := by rw [e9]; exact (Below.refl _ _).alloc (Nat.le_refl _) _
  have h9 : w1.heap[w.heap.size]? = some (.cells #[.string s0, .string s1] 54) := by rw [e9]; exact heap_alloc_new _ _
  rw [← e9]
  clear e9
  have B := Lib.hid hb
  have FA := Lib.hid h9
  clear hb h9
  obtain ⟨A, hA⟩ : ∃ A, A = w.heap.size := ⟨_, rfl⟩
  rw [← hA] at FA ⊢
  have HA := Lib.hid hA
  clear hA
  refine (alive17 w1).mono ?_
  rintro _ w2 ⟨rfl, hb⟩
  have B := Lib.hid (below_on B.out hb)
  have FA := Lib.hid ((hb.block _ (lt_of_heap FA.out)).trans FA.out)
  clear hb
  have c0 := cell_of_row w2 A 0 _ _ (0, 0) FA.out
  have c1 := cell_of_row w2 A 1 _ _ (0, 0) FA.out
  go_wp2_with fail
  clear c0 c1
  refine (alive17 w2).mono ?_
  rintro _ w3 ⟨rfl, hb⟩
  have B := Lib.hid (below_on B.out hb)
  have FA := Lib.hid ((hb.block _ (lt_of_heap FA.out)).trans FA.out)
  clear hb
  go_wp2_with fail
  go_ret
  exact ⟨rfl, B.out⟩
set_option linter.unusedSimpArgs false in
set_option linter.unusedVariables false in
set_option maxRecDepth 20000 in
set_option maxHeartbeats 4000000 in
theorem filesGone_small (s0 s1 : ByteArray) (keep : Nat) (hk : keep < 256) (w : World) (h : s0.size + s1.size ≤ 20000) :
    Calls Tryd.prog 7 #[.agg #[.string s0, .string s1], .int .u8 keep] w fun e w' => e = .returned (.bool true) ∧ Below w.heap.size w w' := by
  have hleI : ¬ ((20000 : Int) < (s0.size : Int) + (s1.size : Int)) := by omega
  go_enter Tryd.func7, Tryd.ntmps7
  go_wp2_with fail
  obtain ⟨w1, e9⟩ : ∃ w1 : World, w1 = w.alloc (.cells #[.string s0, .string s1] 54) := ⟨_, rfl⟩
  have hb : Below w.heap.size w w1 := by rw [e9]; exact (Below.refl _ _).alloc (Nat.le_refl _) _
  have h9 : w1.heap[w.heap.size]? = some (.cells #[.string s0, .string s1] 54) := by rw [e9]; exact heap_alloc_new _ _
  rw [← e9]
  clear e9
  have B := Lib.hid hb
  have FA := Lib.hid h9
  clear hb h9
  obtain ⟨A, hA⟩ : ∃ A, A = w.heap.size := ⟨_, rfl⟩
  rw [← hA] at FA ⊢
  have HA := Lib.hid hA
  clear hA
  refine (alive17 w1).mono ?_
  rintro _ w2 ⟨rfl, hb⟩
  have B := Lib.hid (below_on B.out hb)
  have FA := Lib.hid ((hb.block _ (lt_of_heap FA.out)).trans FA.out)
  clear hb
  have c0 := cell_of_row w2 A 0 _ _ (0, 0) FA.out
  have c1 := cell_of_row w2 A 1 _ _ (0, 0) FA.out
  go_wp2_with fail
  clear c0 c1
  refine (New_yes 20000 w2 (by decide) (by decide)).mono ?_
  rintro _ w3 ⟨rfl, hd, hb⟩
  obtain ⟨C, hC⟩ : ∃ C, C = w2.heap.size := ⟨_, rfl⟩
  have hBC : w.heap.size ≤ C := by rw [hC]; exact B.out.size
  have hAC : A < C := by rw [hC]; exact lt_of_heap FA.out
  rw [← hC] at hd ⊢
  have T := Lib.hid (OneK.new hd)
  clear hd hC
  have FA := Lib.hid ((hb.block _ (lt_of_heap FA.out)).trans FA.out)
  have B := Lib.hid (below_on B.out hb)
  clear hb
  go_wp2_with fail
  refine (New_yes 20000 w3 (by decide) (by decide)).mono ?_
  rintro _ w4 ⟨rfl, hd, hb⟩
  obtain ⟨D, hD⟩ : ∃ D, D = w3.heap.size := ⟨_, rfl⟩
  have T := Lib.hid (T.out.beside hb hd (Nat.le_refl _))
  rw [← hD] at T ⊢
  clear hd hD
  have FA := Lib.hid ((hb.block _ (lt_of_heap FA.out)).trans FA.out)
  have B := Lib.hid (below_on B.out hb)
  clear hb
  go_wp2_with fail
  refine (T.out.act2 0 (free_create (by decide)) rfl fun S hS => Create_any hS ⟨#[102]⟩ (by decide)).mono ?_
  rintro _ w5 ⟨rfl, ht, hs⟩
  have B := Lib.hid (B.out.trans (hs.below (base := w.heap.size) (by intro g hg; (have h8 : g < C := by omega); exact h8)))
  have FA := Lib.hid ((hs.block _ (hAC)).trans FA.out)
  have T := Lib.hid ht
  clear ht hs
  have c0 := cell_of_row w5 A 0 _ _ (0, 0) FA.out
  have kcs := fun (W : World) (s : ByteArray) => Lib.run_convert_string_bytes (P := Tryd.prog) W 9 35 5 s Tryd.underlying9 Tryd.underlying35 Tryd.underlying5
  go_wp2_with fail
  obtain ⟨w6, e9⟩ : ∃ w6 : World, w6 = Lib.bytesWorld w5 5 s0 := ⟨_, rfl⟩
  have hb : Below w5.heap.size w5 w6 := by rw [e9]; exact conv_below _ _ _
  have K9 := Lib.hid (show KAt .u8 w6 (.slice (some ⟨w5.heap.size, 0, none⟩) s0.size (grownCap w5 s0.size 0 5)) (nums s0) by rw [e9]; exact conv_kat _ _ _ (by omega))
  rw [← e9]
  clear e9
  have B := Lib.hid (below_on B.out hb)
  have FA := Lib.hid ((hb.block _ (lt_of_heap FA.out)).trans FA.out)
  have T := Lib.hid (T.out.later hb)
  clear hb
  refine (T.out.act2 0 (one1_append (r := ⟨[], 0⟩) (by decide) rfl (by simp [nums_length]; omega) (by simp [nums_length]; omega)) rfl fun S hS => Append_any hS ⟨#[102]⟩ (by decide) K9.out (nums_bytes _)).mono ?_
  rintro _ w7 ⟨rfl, ht, hs⟩
  have B := Lib.hid (B.out.trans (hs.below (base := w.heap.size) (by intro g hg; (have h8 : g < C := by omega); exact h8)))
  have FA := Lib.hid ((hs.block _ (hAC)).trans FA.out)
  have T := Lib.hid ht
  clear ht hs
  clear K9
  clear c0
  go_wp2_with fail
  refine (T.out.act2 0 (one1_sync (by decide) rfl) rfl fun S hS => Sync_any hS ⟨#[102]⟩ (by decide)).mono ?_
  rintro _ w8 ⟨rfl, ht, hs⟩
  have B := Lib.hid (B.out.trans (hs.below (base := w.heap.size) (by intro g hg; (have h8 : g < C := by omega); exact h8)))
  have FA := Lib.hid ((hs.block _ (hAC)).trans FA.out)
  have T := Lib.hid ht
  clear ht hs
  go_wp2_with fail
  refine (T.out.act2 0 rfl rfl fun S hS => Names_any hS).mono ?_
  rintro _ w9 ⟨rfl, ht, hs⟩
  have B := Lib.hid (B.out.trans (hs.below (base := w.heap.size) (by intro g hg; (have h8 : g < C := by omega); exact h8)))
  have FA := Lib.hid ((hs.block _ (hAC)).trans FA.out)
  have T := Lib.hid ht
  clear ht hs
  go_wp2_with fail
  refine (T.out.act2 0 (one1_remove (by decide)) rfl fun S hS => Remove_any hS ⟨#[102]⟩ (by decide)).mono ?_
  rintro _ w10 ⟨rfl, ht, hs⟩
  have B := Lib.hid (B.out.trans (hs.below (base := w.heap.size) (by intro g hg; (have h8 : g < C := by omega); exact h8)))
  have FA := Lib.hid ((hs.block _ (hAC)).trans FA.out)
  have T := Lib.hid ht
  clear ht hs
  go_wp2_with fail
  refine (T.out.act2 0 rfl rfl fun S hS => Names_any hS).mono ?_
  rintro _ w11 ⟨rfl, ht, hs⟩
  have B := Lib.hid (B.out.trans (hs.below (base := w.heap.size) (by intro g hg; (have h8 : g < C := by omega); exact h8)))
  have FA := Lib.hid ((hs.block _ (hAC)).trans FA.out)
  have T := Lib.hid ht
  clear ht hs
  go_wp2_with fail
  obtain ⟨w12, e9⟩ : ∃ w12 : World, w12 = w11.alloc (.cells #[.pointer (some ⟨C, 0, none⟩), .pointer (some ⟨D, 0, none⟩)] 27) := ⟨_, rfl⟩
  have hb : Below w11.heap.size w11 w12 := by rw [e9]; exact (Below.refl _ _).alloc (Nat.le_refl _) _
  have h9 : w12.heap[w11.heap.size]? = some (.cells #[.pointer (some ⟨C, 0, none⟩), .pointer (some ⟨D, 0, none⟩)] 27) := by rw [e9]; exact heap_alloc_new _ _
  rw [← e9]
  clear e9
  obtain ⟨G, hG⟩ : ∃ G, G = w11.heap.size := ⟨_, rfl⟩
  rw [← hG] at h9 ⊢
  have hGs : G < w12.heap.size := lt_of_heap h9
  have T := Lib.hid (T.out.more (G := G) hb (by omega) hGs)
  have FG := Lib.hid h9
  have FA := Lib.hid (heap_on hb FA.out)
  have B := Lib.hid (below_on B.out hb)
  clear hb h9 hG
  obtain ⟨B0, hB0⟩ : ∃ B0, B0 = nums s0 := ⟨_, rfl⟩
  obtain ⟨B1, hB1⟩ : ∃ B1, B1 = nums s1 := ⟨_, rfl⟩
  have hl1 : B1.length = s1.size := by rw [hB1, nums_length]
  have T := Lib.hid (show TwoK (fun g => g < C ∨ g = G) w12 C C D (new0 20000) (⟨20000, List.replicate 64 free, List.replicate 64 free, [⟨B0, B0.length⟩]⟩) by rw [hB0]; exact T.out)
  have HB1 := Lib.hid hB1
  clear hB0 hB1
  go_wp2_with fail
  go_loopw [10] (fun i wr => (i = .int .i64 0 ∧ Hid (TwoK (fun g => g < C ∨ g = G) wr C C D (new0 20000) (⟨20000, List.replicate 64 free, List.replicate 64 free, [⟨B0, B0.length⟩]⟩)) ∧ Hid (wr.heap[A]? = some (.cells #[.string s0, .string s1] 54 (0, 0))) ∧ Hid (wr.heap[G]? = some (.cells #[.pointer (some ⟨C, 0, none⟩), .pointer (some ⟨D, 0, none⟩)] 27 (0, 0))) ∧ Below w.heap.size w wr) ∨ (i = .int .i64 1 ∧ Hid (TwoK (fun g => g < C ∨ g = G) wr C C D (one1 20000 ⟨#[102]⟩ 0 (List.replicate 64 free) [⟨B1, 0⟩]) (⟨20000, List.replicate 64 free, List.replicate 64 free, [⟨B0, B0.length⟩]⟩)) ∧ Hid (wr.heap[A]? = some (.cells #[.string s0, .string s1] 54 (0, 0))) ∧ Hid (wr.heap[G]? = some (.cells #[.pointer (some ⟨C, 0, none⟩), .pointer (some ⟨D, 0, none⟩)] 27 (0, 0))) ∧ Below w.heap.size w wr) ∨ (i = .int .i64 2 ∧ Hid (TwoK (fun g => g < C ∨ g = G) wr C C D (one1 20000 ⟨#[102]⟩ 0 (List.replicate 64 free) [⟨B1, 0⟩]) (one1 20000 ⟨#[102]⟩ 1 (List.replicate 64 free) [⟨B0, B0.length⟩, ⟨B1, 0⟩])) ∧ Hid (wr.heap[A]? = some (.cells #[.string s0, .string s1] 54 (0, 0))) ∧ Hid (wr.heap[G]? = some (.cells #[.pointer (some ⟨C, 0, none⟩), .pointer (some ⟨D, 0, none⟩)] 27 (0, 0))) ∧ Below w.heap.size w wr)) (fun i _ => 2 - (intOf i).toNat)
  case atStart => exact .inl ⟨rfl, T, FA, FG, B.out⟩
  case round =>
    rcases hrel with ⟨rfl, T, FA, FG, hb⟩ | ⟨rfl, T, FA, FG, hb⟩ | ⟨rfl, T, FA, FG, hb⟩
    · have B := Lib.hid hb
      clear hb
      have cG : wr.cell? ⟨G, 0 + 0, none⟩ = some (.pointer (some ⟨C, 0, none⟩)) := cell_of_row wr G 0 _ _ (0, 0) FG.out
      have hd : Below wr.heap.size wr wr.drew := (Below.refl _ _).drew
      have T := Lib.hid (T.out.later hd)
      have FA := Lib.hid (heap_on hd FA.out)
      have FG := Lib.hid (heap_on hd FG.out)
      have B := Lib.hid (below_on B.out hd)
      clear hd
      have H1 := Lib.hid (T.out.act (N := new0 20000) 0 rfl rfl fun S hS => Names_any hS)
      go_wp2_with fail
      have cA : wr.cell? ⟨A, 1, none⟩ = some (.string s1) := cell_of_row wr A 1 _ _ (0, 0) FA.out
      refine wp_region_line [true, true, true, true, false, true, true, true, true, true, true, false, true, true, true, true, true, true, true, true, false, true, true, true, true, true, true, true, false, true, true, true, true, true, true, true, true, true, false, false, true, true] (fun w9 => w9.cell? ⟨G, 0, none⟩ = some (.pointer (some ⟨C, 0, none⟩)) ∧ w9.cell? ⟨A, 1, none⟩ = some (.string s1)) (by kernel_rfl) (by kernel_rfl) (fun _ _ _ _ _ h => h) (⟨cG, cA⟩) (fun hHeld => ?_)
      refine WL.take (v := ?_) (Or.inl ⟨by rfl, ?_⟩) ?_
      rotate_left
      · intro w8 hSw
        (try dsimp only at hSw)
        go_simp
        any_goals with_reducible rfl
      try simp only [Act.put, List.setIfInBounds_toArray, List.set_cons_zero, List.set_cons_succ]
      refine WL.take (v := ?_) (Or.inl ⟨by rfl, ?_⟩) ?_
      rotate_left
      · intro w8 hSw
        (try dsimp only at hSw)
        go_simp
        any_goals with_reducible rfl
      try simp only [Act.put, List.setIfInBounds_toArray, List.set_cons_zero, List.set_cons_succ]
      refine WL.take (v := ?_) (Or.inl ⟨by rfl, ?_⟩) ?_
      rotate_left
      · intro w8 hSw
        (try dsimp only at hSw)
        go_simp
        any_goals with_reducible rfl
      try simp only [Act.put, List.setIfInBounds_toArray, List.set_cons_zero, List.set_cons_succ]
      refine WL.take (v := ?_) (Or.inl ⟨by rfl, ?_⟩) ?_
      rotate_left
      · intro w8 hSw
        (try dsimp only at hSw)
        go_simp
        any_goals with_reducible rfl
      try simp only [Act.put, List.setIfInBounds_toArray, List.set_cons_zero, List.set_cons_succ]
      refine WL.step (fun K hK => ?_)
      go_simp
      refine (H1.out).mono ?_
      rintro _ x1 ⟨rfl, ht, hs⟩
      have T := Lib.hid ht
      have FA := Lib.hid (hs.heap (Or.inl hAC) FA.out)
      have FG := Lib.hid (hs.heap (Or.inr rfl) FG.out)
      have B := Lib.hid (B.out.trans (hs.below (base := w.heap.size) (fun g hg => Or.inl (show g < C by omega))))
      have cG : x1.cell? ⟨G, 0, none⟩ = some (.pointer (some ⟨C, 0, none⟩)) := cell_of_row _ _ _ _ _ (0, 0) FG.out
      have cA : x1.cell? ⟨A, 1, none⟩ = some (.string s1) := cell_of_row _ _ _ _ _ (0, 0) FA.out
      clear ht hs
      go_wp2_with fail
      refine hK.out _ _ (⟨cG, cA⟩) (fun hHeld => ?_)
      clear hK K
      try simp only [Act.put, List.setIfInBounds_toArray, List.set_cons_zero, List.set_cons_succ]
      refine WL.take (v := ?_) (Or.inl ⟨by rfl, ?_⟩) ?_
      rotate_left
      · intro w8 hSw
        (try dsimp only at hSw)
        go_simp
        any_goals with_reducible rfl
      try simp only [Act.put, List.setIfInBounds_toArray, List.set_cons_zero, List.set_cons_succ]
      refine WL.take (v := ?_) (Or.inl ⟨by rfl, ?_⟩) ?_
      rotate_left
      · intro w8 hSw
        (try dsimp only at hSw)
        go_simp
        any_goals with_reducible rfl
      try simp only [Act.put, List.setIfInBounds_toArray, List.set_cons_zero, List.set_cons_succ]
      refine WL.take (v := ?_) (Or.inl ⟨by rfl, ?_⟩) ?_
      rotate_left
      · intro w8 hSw
        (try dsimp only at hSw)
        go_simp
        any_goals with_reducible rfl
      try simp only [Act.put, List.setIfInBounds_toArray, List.set_cons_zero, List.set_cons_succ]
      refine WL.take (v := ?_) (Or.inl ⟨by rfl, ?_⟩) ?_
      rotate_left
      · intro w8 hSw
        (try dsimp only at hSw)
        go_simp
        any_goals with_reducible rfl
      try simp only [Act.put, List.setIfInBounds_toArray, List.set_cons_zero, List.set_cons_succ]
      refine WL.take (v := ?_) (Or.inl ⟨by rfl, ?_⟩) ?_
      rotate_left
      · intro w8 hSw
        (try dsimp only at hSw)
        go_simp
        any_goals with_reducible rfl
      try simp only [Act.put, List.setIfInBounds_toArray, List.set_cons_zero, List.set_cons_succ]
      refine WL.take (v := ?_) (Or.inl ⟨by rfl, ?_⟩) ?_
      rotate_left
      · intro w8 hSw
        (try dsimp only at hSw)
        go_simp
        any_goals with_reducible rfl
      try simp only [Act.put, List.setIfInBounds_toArray, List.set_cons_zero, List.set_cons_succ]
      refine WL.step (fun K hK => ?_)
      go_simp
      refine (T.out.fst.look fun S hS => list_look (L := []) hS free_list rfl).mono ?_
      rintro _ x2 ⟨la, lc, rfl, _, hb⟩
      have T := Lib.hid (T.out.later hb)
      have FA := Lib.hid (heap_on hb FA.out)
      have FG := Lib.hid (heap_on hb FG.out)
      have B := Lib.hid (below_on B.out hb)
      have cG : x2.cell? ⟨G, 0, none⟩ = some (.pointer (some ⟨C, 0, none⟩)) := cell_of_row _ _ _ _ _ (0, 0) FG.out
      have cA : x2.cell? ⟨A, 1, none⟩ = some (.string s1) := cell_of_row _ _ _ _ _ (0, 0) FA.out
      clear hb
      go_wp2_with fail
      refine hK.out _ _ (⟨cG, cA⟩) (fun hHeld => ?_)
      clear hK K
      try simp only [Act.put, List.setIfInBounds_toArray, List.set_cons_zero, List.set_cons_succ]
      refine WL.take (v := ?_) (Or.inl ⟨by rfl, ?_⟩) ?_
      rotate_left
      · intro w8 hSw
        (try dsimp only at hSw)
        go_simp
        any_goals with_reducible rfl
      try simp only [Act.put, List.setIfInBounds_toArray, List.set_cons_zero, List.set_cons_succ]
      refine WL.take (v := ?_) (Or.inl ⟨by rfl, ?_⟩) ?_
      rotate_left
      · intro w8 hSw
        (try dsimp only at hSw)
        go_simp
        any_goals with_reducible rfl
      try simp only [Act.put, List.setIfInBounds_toArray, List.set_cons_zero, List.set_cons_succ]
      refine WL.take (v := ?_) (Or.inl ⟨by rfl, ?_⟩) ?_
      rotate_left
      · intro w8 hSw
        (try dsimp only at hSw)
        go_simp
        any_goals with_reducible rfl
      try simp only [Act.put, List.setIfInBounds_toArray, List.set_cons_zero, List.set_cons_succ]
      refine WL.take (v := ?_) (Or.inl ⟨by rfl, ?_⟩) ?_
      rotate_left
      · intro w8 hSw
        (try dsimp only at hSw)
        go_simp
        any_goals with_reducible rfl
      try simp only [Act.put, List.setIfInBounds_toArray, List.set_cons_zero, List.set_cons_succ]
      refine WL.take (v := ?_) (Or.inl ⟨by rfl, ?_⟩) ?_
      rotate_left
      · intro w8 hSw
        (try dsimp only at hSw)
        go_simp
        any_goals with_reducible rfl
      try simp only [Act.put, List.setIfInBounds_toArray, List.set_cons_zero, List.set_cons_succ]
      refine WL.take (v := ?_) (Or.inl ⟨by rfl, ?_⟩) ?_
      rotate_left
      · intro w8 hSw
        (try dsimp only at hSw)
        go_simp
        any_goals with_reducible rfl
      try simp only [Act.put, List.setIfInBounds_toArray, List.set_cons_zero, List.set_cons_succ]
      refine WL.take (v := ?_) (Or.inl ⟨by rfl, ?_⟩) ?_
      rotate_left
      · intro w8 hSw
        (try dsimp only at hSw)
        go_simp
        any_goals with_reducible rfl
      try simp only [Act.put, List.setIfInBounds_toArray, List.set_cons_zero, List.set_cons_succ]
      refine WL.take (v := ?_) (Or.inl ⟨by rfl, ?_⟩) ?_
      rotate_left
      · intro w8 hSw
        (try dsimp only at hSw)
        go_simp
        any_goals with_reducible rfl
      try simp only [Act.put, List.setIfInBounds_toArray, List.set_cons_zero, List.set_cons_succ]
      refine WL.step (fun K hK => ?_)
      go_simp
      refine (T.out.fst.look fun S hS => left_look (z := 20000) hS free_left).mono ?_
      rintro _ x3 ⟨rfl, hb⟩
      have T := Lib.hid (T.out.later hb)
      have FA := Lib.hid (heap_on hb FA.out)
      have FG := Lib.hid (heap_on hb FG.out)
      have B := Lib.hid (below_on B.out hb)
      have cG : x3.cell? ⟨G, 0, none⟩ = some (.pointer (some ⟨C, 0, none⟩)) := cell_of_row _ _ _ _ _ (0, 0) FG.out
      have cA : x3.cell? ⟨A, 1, none⟩ = some (.string s1) := cell_of_row _ _ _ _ _ (0, 0) FA.out
      clear hb
      go_wp2_with fail
      refine hK.out _ _ (⟨cG, cA⟩) (fun hHeld => ?_)
      clear hK K
      try simp only [Act.put, List.setIfInBounds_toArray, List.set_cons_zero, List.set_cons_succ]
      refine WL.take (v := ?_) (Or.inl ⟨by rfl, ?_⟩) ?_
      rotate_left
      · intro w8 hSw
        (try dsimp only at hSw)
        go_simp
        any_goals with_reducible rfl
      try simp only [Act.put, List.setIfInBounds_toArray, List.set_cons_zero, List.set_cons_succ]
      refine WL.take (v := ?_) (Or.inl ⟨by rfl, ?_⟩) ?_
      rotate_left
      · intro w8 hSw
        (try dsimp only at hSw)
        go_simp
        any_goals with_reducible rfl
      try simp only [Act.put, List.setIfInBounds_toArray, List.set_cons_zero, List.set_cons_succ]
      refine WL.take (v := ?_) (Or.inl ⟨by rfl, ?_⟩) ?_
      rotate_left
      · intro w8 hSw
        (try dsimp only at hSw)
        go_simp
        any_goals with_reducible rfl
      try simp only [Act.put, List.setIfInBounds_toArray, List.set_cons_zero, List.set_cons_succ]
      refine WL.take (v := ?_) (Or.inl ⟨by rfl, ?_⟩) ?_
      rotate_left
      · intro w8 hSw
        (try dsimp only at hSw)
        go_simp
        any_goals with_reducible rfl
      try simp only [Act.put, List.setIfInBounds_toArray, List.set_cons_zero, List.set_cons_succ]
      refine WL.take (v := ?_) (Or.inl ⟨by rfl, ?_⟩) ?_
      rotate_left
      · intro w8 hSw
        (try dsimp only at hSw)
        go_simp
        any_goals with_reducible rfl
      try simp only [Act.put, List.setIfInBounds_toArray, List.set_cons_zero, List.set_cons_succ]
      refine WL.take (v := ?_) (Or.inl ⟨by rfl, ?_⟩) ?_
      rotate_left
      · intro w8 hSw
        (try dsimp only at hSw)
        go_simp
        any_goals with_reducible rfl
      try simp only [Act.put, List.setIfInBounds_toArray, List.set_cons_zero, List.set_cons_succ]
      refine WL.take (v := ?_) (Or.inl ⟨by rfl, ?_⟩) ?_
      rotate_left
      · intro w8 hSw
        (try dsimp only at hSw)
        go_simp
        any_goals with_reducible rfl
      try simp only [Act.put, List.setIfInBounds_toArray, List.set_cons_zero, List.set_cons_succ]
      refine WL.step (fun K hK => ?_)
      go_simp
      refine (T.out.act 0 (free_create f_ok) rfl fun S hS => Create_any hS ⟨#[102]⟩ f_size).mono ?_
      rintro _ x4 ⟨rfl, ht, hs⟩
      have T := Lib.hid ht
      have FA := Lib.hid (hs.heap (Or.inl hAC) FA.out)
      have FG := Lib.hid (hs.heap (Or.inr rfl) FG.out)
      have B := Lib.hid (B.out.trans (hs.below (base := w.heap.size) (fun g hg => Or.inl (show g < C by omega))))
      have cG : x4.cell? ⟨G, 0, none⟩ = some (.pointer (some ⟨C, 0, none⟩)) := cell_of_row _ _ _ _ _ (0, 0) FG.out
      have cA : x4.cell? ⟨A, 1, none⟩ = some (.string s1) := cell_of_row _ _ _ _ _ (0, 0) FA.out
      clear ht hs
      go_wp2_with fail
      refine hK.out _ _ (⟨cG, cA⟩) (fun hHeld => ?_)
      clear hK K
      try simp only [Act.put, List.setIfInBounds_toArray, List.set_cons_zero, List.set_cons_succ]
      refine WL.take (v := ?_) (Or.inl ⟨by rfl, ?_⟩) ?_
      rotate_left
      · intro w8 hSw
        (try dsimp only at hSw)
        go_simp
        any_goals with_reducible rfl
      try simp only [Act.put, List.setIfInBounds_toArray, List.set_cons_zero, List.set_cons_succ]
      refine WL.take (v := ?_) (Or.inl ⟨by rfl, ?_⟩) ?_
      rotate_left
      · intro w8 hSw
        (try dsimp only at hSw)
        go_simp
        any_goals with_reducible rfl
      try simp only [Act.put, List.setIfInBounds_toArray, List.set_cons_zero, List.set_cons_succ]
      refine WL.take (v := ?_) (Or.inl ⟨by rfl, ?_⟩) ?_
      rotate_left
      · intro w8 hSw
        (try dsimp only at hSw)
        go_simp
        any_goals with_reducible rfl
      try simp only [Act.put, List.setIfInBounds_toArray, List.set_cons_zero, List.set_cons_succ]
      refine WL.take (v := ?_) (Or.inl ⟨by rfl, ?_⟩) ?_
      rotate_left
      · intro w8 hSw
        (try dsimp only at hSw)
        go_simp
        any_goals with_reducible rfl
      try simp only [Act.put, List.setIfInBounds_toArray, List.set_cons_zero, List.set_cons_succ]
      refine WL.take (v := ?_) (Or.inl ⟨by rfl, ?_⟩) ?_
      rotate_left
      · intro w8 hSw
        (try dsimp only at hSw)
        go_simp
        any_goals with_reducible rfl
      try simp only [Act.put, List.setIfInBounds_toArray, List.set_cons_zero, List.set_cons_succ]
      refine WL.take (v := ?_) (Or.inl ⟨by rfl, ?_⟩) ?_
      rotate_left
      · intro w8 hSw
        (try dsimp only at hSw)
        go_simp
        any_goals with_reducible rfl
      try simp only [Act.put, List.setIfInBounds_toArray, List.set_cons_zero, List.set_cons_succ]
      refine WL.take (v := ?_) (Or.inl ⟨by rfl, ?_⟩) ?_
      rotate_left
      · intro w8 hSw
        (try dsimp only at hSw)
        go_simp
        any_goals with_reducible rfl
      try simp only [Act.put, List.setIfInBounds_toArray, List.set_cons_zero, List.set_cons_succ]
      refine WL.take (v := ?_) (Or.inl ⟨by rfl, ?_⟩) ?_
      rotate_left
      · intro w8 hSw
        (try dsimp only at hSw)
        go_simp
        any_goals with_reducible rfl
      try simp only [Act.put, List.setIfInBounds_toArray, List.set_cons_zero, List.set_cons_succ]
      refine WL.take (v := ?_) (Or.inl ⟨by rfl, ?_⟩) ?_
      rotate_left
      · intro w8 hSw
        (try dsimp only at hSw)
        go_simp
        any_goals with_reducible rfl
      try simp only [Act.put, List.setIfInBounds_toArray, List.set_cons_zero, List.set_cons_succ]
      refine WL.step (fun K hK => ?_)
      go_simp
      have K9 := Lib.hid (conv_kat x4 s1 5 (by omega))
      have hb := conv_below x4 s1 5
      obtain ⟨x5, e9⟩ : ∃ x5 : World, x5 = Lib.bytesWorld x4 5 s1 := ⟨_, rfl⟩
      rw [← e9] at K9 hb ⊢
      clear e9
      have T := Lib.hid (T.out.later hb)
      have FA := Lib.hid (heap_on hb FA.out)
      have FG := Lib.hid (heap_on hb FG.out)
      have B := Lib.hid (below_on B.out hb)
      have cG : x5.cell? ⟨G, 0, none⟩ = some (.pointer (some ⟨C, 0, none⟩)) := cell_of_row _ _ _ _ _ (0, 0) FG.out
      have cA : x5.cell? ⟨A, 1, none⟩ = some (.string s1) := cell_of_row _ _ _ _ _ (0, 0) FA.out
      clear hb
      refine hK.out _ _ (⟨cG, cA⟩) (fun hHeld => ?_)
      clear hK K
      try simp only [Act.put, List.setIfInBounds_toArray, List.set_cons_zero, List.set_cons_succ]
      refine WL.step (fun K hK => ?_)
      go_simp
      refine (T.out.act (N := one1 20000 ⟨#[102]⟩ 0 (List.replicate 64 free) [⟨B1, 0⟩]) 0 (by rw [← HB1.out]; exact one1_append (r := ⟨[], 0⟩) f_ok rfl (by simp; omega) (by simp; omega)) rfl fun S hS => Append_any hS ⟨#[102]⟩ f_size K9.out (nums_bytes _)).mono ?_
      rintro _ x6 ⟨rfl, ht, hs⟩
      have T := Lib.hid ht
      have FA := Lib.hid (hs.heap (Or.inl hAC) FA.out)
      have FG := Lib.hid (hs.heap (Or.inr rfl) FG.out)
      have B := Lib.hid (B.out.trans (hs.below (base := w.heap.size) (fun g hg => Or.inl (show g < C by omega))))
      have cG : x6.cell? ⟨G, 0, none⟩ = some (.pointer (some ⟨C, 0, none⟩)) := cell_of_row _ _ _ _ _ (0, 0) FG.out
      have cA : x6.cell? ⟨A, 1, none⟩ = some (.string s1) := cell_of_row _ _ _ _ _ (0, 0) FA.out
      clear ht hs
      go_wp2_with fail
      refine hK.out _ _ (⟨cG, cA⟩) (fun hHeld => ?_)
      clear hK K
      try simp only [Act.put, List.setIfInBounds_toArray, List.set_cons_zero, List.set_cons_succ]
      refine WL.take (v := ?_) (Or.inl ⟨by rfl, ?_⟩) ?_
      rotate_left
      · intro w8 hSw
        (try dsimp only at hSw)
        go_simp
        any_goals with_reducible rfl
      try simp only [Act.put, List.setIfInBounds_toArray, List.set_cons_zero, List.set_cons_succ]
      refine WL.take (v := ?_) (Or.inl ⟨by rfl, ?_⟩) ?_
      rotate_left
      · intro w8 hSw
        (try dsimp only at hSw)
        go_simp
        any_goals with_reducible rfl
      try simp only [Act.put, List.setIfInBounds_toArray, List.set_cons_zero, List.set_cons_succ]
      refine WL.done ?_
      go_wp2_with fail
      exact ⟨.inr (.inl ⟨rfl, T, FA, FG, B.out⟩), by simp [intOf]⟩
    · have B := Lib.hid hb
      clear hb
      have cG : wr.cell? ⟨G, 0 + 1, none⟩ = some (.pointer (some ⟨D, 0, none⟩)) := cell_of_row wr G 1 _ _ (0, 0) FG.out
      have hd : Below wr.heap.size wr wr.drew := (Below.refl _ _).drew
      have T := Lib.hid (T.out.later hd)
      have FA := Lib.hid (heap_on hd FA.out)
      have FG := Lib.hid (heap_on hd FG.out)
      have B := Lib.hid (below_on B.out hd)
      clear hd
      have H1 := Lib.hid (T.out.act2 (N := ⟨20000, List.replicate 64 free, List.replicate 64 free, [⟨B0, B0.length⟩]⟩) 0 rfl rfl fun S hS => Names_any hS)
      go_wp2_with fail
      have cA : wr.cell? ⟨A, 1, none⟩ = some (.string s1) := cell_of_row wr A 1 _ _ (0, 0) FA.out
      refine wp_region_line [true, true, true, true, false, true, true, true, true, true, true, false, true, true, true, true, true, true, true, true, false, true, true, true, true, true, true, true, false, true, true, true, true, true, true, true, true, true, false, false, true, true] (fun w9 => w9.cell? ⟨G, 1, none⟩ = some (.pointer (some ⟨D, 0, none⟩)) ∧ w9.cell? ⟨A, 1, none⟩ = some (.string s1)) (by kernel_rfl) (by kernel_rfl) (fun _ _ _ _ _ h => h) (⟨cG, cA⟩) (fun hHeld => ?_)
      refine WL.take (v := ?_) (Or.inl ⟨by rfl, ?_⟩) ?_
      rotate_left
      · intro w8 hSw
        (try dsimp only at hSw)
        go_simp
        any_goals with_reducible rfl
      try simp only [Act.put, List.setIfInBounds_toArray, List.set_cons_zero, List.set_cons_succ]
      refine WL.take (v := ?_) (Or.inl ⟨by rfl, ?_⟩) ?_
      rotate_left
      · intro w8 hSw
        (try dsimp only at hSw)
        go_simp
        any_goals with_reducible rfl
      try simp only [Act.put, List.setIfInBounds_toArray, List.set_cons_zero, List.set_cons_succ]
      refine WL.take (v := ?_) (Or.inl ⟨by rfl, ?_⟩) ?_
      rotate_left
      · intro w8 hSw
        (try dsimp only at hSw)
        go_simp
        any_goals with_reducible rfl
      try simp only [Act.put, List.setIfInBounds_toArray, List.set_cons_zero, List.set_cons_succ]
      refine WL.take (v := ?_) (Or.inl ⟨by rfl, ?_⟩) ?_
      rotate_left
      · intro w8 hSw
        (try dsimp only at hSw)
        go_simp
        any_goals with_reducible rfl
      try simp only [Act.put, List.setIfInBounds_toArray, List.set_cons_zero, List.set_cons_succ]
      refine WL.step (fun K hK => ?_)
      go_simp
      refine (H1.out).mono ?_
      rintro _ x1 ⟨rfl, ht, hs⟩
      have T := Lib.hid ht
      have FA := Lib.hid (hs.heap (Or.inl hAC) FA.out)
      have FG := Lib.hid (hs.heap (Or.inr rfl) FG.out)
      have B := Lib.hid (B.out.trans (hs.below (base := w.heap.size) (fun g hg => Or.inl (show g < C by omega))))
      have cG : x1.cell? ⟨G, 1, none⟩ = some (.pointer (some ⟨D, 0, none⟩)) := cell_of_row _ _ _ _ _ (0, 0) FG.out
      have cA : x1.cell? ⟨A, 1, none⟩ = some (.string s1) := cell_of_row _ _ _ _ _ (0, 0) FA.out
      clear ht hs
      go_wp2_with fail
      refine hK.out _ _ (⟨cG, cA⟩) (fun hHeld => ?_)
      clear hK K
      try simp only [Act.put, List.setIfInBounds_toArray, List.set_cons_zero, List.set_cons_succ]
      refine WL.take (v := ?_) (Or.inl ⟨by rfl, ?_⟩) ?_
      rotate_left
      · intro w8 hSw
        (try dsimp only at hSw)
        go_simp
        any_goals with_reducible rfl
      try simp only [Act.put, List.setIfInBounds_toArray, List.set_cons_zero, List.set_cons_succ]
      refine WL.take (v := ?_) (Or.inl ⟨by rfl, ?_⟩) ?_
      rotate_left
      · intro w8 hSw
        (try dsimp only at hSw)
        go_simp
        any_goals with_reducible rfl
      try simp only [Act.put, List.setIfInBounds_toArray, List.set_cons_zero, List.set_cons_succ]
      refine WL.take (v := ?_) (Or.inl ⟨by rfl, ?_⟩) ?_
      rotate_left
      · intro w8 hSw
        (try dsimp only at hSw)
        go_simp
        any_goals with_reducible rfl
      try simp only [Act.put, List.setIfInBounds_toArray, List.set_cons_zero, List.set_cons_succ]
      refine WL.take (v := ?_) (Or.inl ⟨by rfl, ?_⟩) ?_
      rotate_left
      · intro w8 hSw
        (try dsimp only at hSw)
        go_simp
        any_goals with_reducible rfl
      try simp only [Act.put, List.setIfInBounds_toArray, List.set_cons_zero, List.set_cons_succ]
      refine WL.take (v := ?_) (Or.inl ⟨by rfl, ?_⟩) ?_
      rotate_left
      · intro w8 hSw
        (try dsimp only at hSw)
        go_simp
        any_goals with_reducible rfl
      try simp only [Act.put, List.setIfInBounds_toArray, List.set_cons_zero, List.set_cons_succ]
      refine WL.take (v := ?_) (Or.inl ⟨by rfl, ?_⟩) ?_
      rotate_left
      · intro w8 hSw
        (try dsimp only at hSw)
        go_simp
        any_goals with_reducible rfl
      try simp only [Act.put, List.setIfInBounds_toArray, List.set_cons_zero, List.set_cons_succ]
      refine WL.step (fun K hK => ?_)
      go_simp
      refine (T.out.snd.look fun S hS => list_look (L := []) hS free_list rfl).mono ?_
      rintro _ x2 ⟨la, lc, rfl, _, hb⟩
      have T := Lib.hid (T.out.later hb)
      have FA := Lib.hid (heap_on hb FA.out)
      have FG := Lib.hid (heap_on hb FG.out)
      have B := Lib.hid (below_on B.out hb)
      have cG : x2.cell? ⟨G, 1, none⟩ = some (.pointer (some ⟨D, 0, none⟩)) := cell_of_row _ _ _ _ _ (0, 0) FG.out
      have cA : x2.cell? ⟨A, 1, none⟩ = some (.string s1) := cell_of_row _ _ _ _ _ (0, 0) FA.out
      clear hb
      go_wp2_with fail
      refine hK.out _ _ (⟨cG, cA⟩) (fun hHeld => ?_)
      clear hK K
      try simp only [Act.put, List.setIfInBounds_toArray, List.set_cons_zero, List.set_cons_succ]
      refine WL.take (v := ?_) (Or.inl ⟨by rfl, ?_⟩) ?_
      rotate_left
      · intro w8 hSw
        (try dsimp only at hSw)
        go_simp
        any_goals with_reducible rfl
      try simp only [Act.put, List.setIfInBounds_toArray, List.set_cons_zero, List.set_cons_succ]
      refine WL.take (v := ?_) (Or.inl ⟨by rfl, ?_⟩) ?_
      rotate_left
      · intro w8 hSw
        (try dsimp only at hSw)
        go_simp
        any_goals with_reducible rfl
      try simp only [Act.put, List.setIfInBounds_toArray, List.set_cons_zero, List.set_cons_succ]
      refine WL.take (v := ?_) (Or.inl ⟨by rfl, ?_⟩) ?_
      rotate_left
      · intro w8 hSw
        (try dsimp only at hSw)
        go_simp
        any_goals with_reducible rfl
      try simp only [Act.put, List.setIfInBounds_toArray, List.set_cons_zero, List.set_cons_succ]
      refine WL.take (v := ?_) (Or.inl ⟨by rfl, ?_⟩) ?_
      rotate_left
      · intro w8 hSw
        (try dsimp only at hSw)
        go_simp
        any_goals with_reducible rfl
      try simp only [Act.put, List.setIfInBounds_toArray, List.set_cons_zero, List.set_cons_succ]
      refine WL.take (v := ?_) (Or.inl ⟨by rfl, ?_⟩) ?_
      rotate_left
      · intro w8 hSw
        (try dsimp only at hSw)
        go_simp
        any_goals with_reducible rfl
      try simp only [Act.put, List.setIfInBounds_toArray, List.set_cons_zero, List.set_cons_succ]
      refine WL.take (v := ?_) (Or.inl ⟨by rfl, ?_⟩) ?_
      rotate_left
      · intro w8 hSw
        (try dsimp only at hSw)
        go_simp
        any_goals with_reducible rfl
      try simp only [Act.put, List.setIfInBounds_toArray, List.set_cons_zero, List.set_cons_succ]
      refine WL.take (v := ?_) (Or.inl ⟨by rfl, ?_⟩) ?_
      rotate_left
      · intro w8 hSw
        (try dsimp only at hSw)
        go_simp
        any_goals with_reducible rfl
      try simp only [Act.put, List.setIfInBounds_toArray, List.set_cons_zero, List.set_cons_succ]
      refine WL.take (v := ?_) (Or.inl ⟨by rfl, ?_⟩) ?_
      rotate_left
      · intro w8 hSw
        (try dsimp only at hSw)
        go_simp
        any_goals with_reducible rfl
      try simp only [Act.put, List.setIfInBounds_toArray, List.set_cons_zero, List.set_cons_succ]
      refine WL.step (fun K hK => ?_)
      go_simp
      refine (T.out.snd.look fun S hS => left_look (z := 20000) hS free_left).mono ?_
      rintro _ x3 ⟨rfl, hb⟩
      have T := Lib.hid (T.out.later hb)
      have FA := Lib.hid (heap_on hb FA.out)
      have FG := Lib.hid (heap_on hb FG.out)
      have B := Lib.hid (below_on B.out hb)
      have cG : x3.cell? ⟨G, 1, none⟩ = some (.pointer (some ⟨D, 0, none⟩)) := cell_of_row _ _ _ _ _ (0, 0) FG.out
      have cA : x3.cell? ⟨A, 1, none⟩ = some (.string s1) := cell_of_row _ _ _ _ _ (0, 0) FA.out
      clear hb
      go_wp2_with fail
      refine hK.out _ _ (⟨cG, cA⟩) (fun hHeld => ?_)
      clear hK K
      try simp only [Act.put, List.setIfInBounds_toArray, List.set_cons_zero, List.set_cons_succ]
      refine WL.take (v := ?_) (Or.inl ⟨by rfl, ?_⟩) ?_
      rotate_left
      · intro w8 hSw
        (try dsimp only at hSw)
        go_simp
        any_goals with_reducible rfl
      try simp only [Act.put, List.setIfInBounds_toArray, List.set_cons_zero, List.set_cons_succ]
      refine WL.take (v := ?_) (Or.inl ⟨by rfl, ?_⟩) ?_
      rotate_left
      · intro w8 hSw
        (try dsimp only at hSw)
        go_simp
        any_goals with_reducible rfl
      try simp only [Act.put, List.setIfInBounds_toArray, List.set_cons_zero, List.set_cons_succ]
      refine WL.take (v := ?_) (Or.inl ⟨by rfl, ?_⟩) ?_
      rotate_left
      · intro w8 hSw
        (try dsimp only at hSw)
        go_simp
        any_goals with_reducible rfl
      try simp only [Act.put, List.setIfInBounds_toArray, List.set_cons_zero, List.set_cons_succ]
      refine WL.take (v := ?_) (Or.inl ⟨by rfl, ?_⟩) ?_
      rotate_left
      · intro w8 hSw
        (try dsimp only at hSw)
        go_simp
        any_goals with_reducible rfl
      try simp only [Act.put, List.setIfInBounds_toArray, List.set_cons_zero, List.set_cons_succ]
      refine WL.take (v := ?_) (Or.inl ⟨by rfl, ?_⟩) ?_
      rotate_left
      · intro w8 hSw
        (try dsimp only at hSw)
        go_simp
        any_goals with_reducible rfl
      try simp only [Act.put, List.setIfInBounds_toArray, List.set_cons_zero, List.set_cons_succ]
      refine WL.take (v := ?_) (Or.inl ⟨by rfl, ?_⟩) ?_
      rotate_left
      · intro w8 hSw
        (try dsimp only at hSw)
        go_simp
        any_goals with_reducible rfl
      try simp only [Act.put, List.setIfInBounds_toArray, List.set_cons_zero, List.set_cons_succ]
      refine WL.take (v := ?_) (Or.inl ⟨by rfl, ?_⟩) ?_
      rotate_left
      · intro w8 hSw
        (try dsimp only at hSw)
        go_simp
        any_goals with_reducible rfl
      try simp only [Act.put, List.setIfInBounds_toArray, List.set_cons_zero, List.set_cons_succ]
      refine WL.step (fun K hK => ?_)
      go_simp
      refine (T.out.act2 0 (free_create f_ok) rfl fun S hS => Create_any hS ⟨#[102]⟩ f_size).mono ?_
      rintro _ x4 ⟨rfl, ht, hs⟩
      have T := Lib.hid ht
      have FA := Lib.hid (hs.heap (Or.inl hAC) FA.out)
      have FG := Lib.hid (hs.heap (Or.inr rfl) FG.out)
      have B := Lib.hid (B.out.trans (hs.below (base := w.heap.size) (fun g hg => Or.inl (show g < C by omega))))
      have cG : x4.cell? ⟨G, 1, none⟩ = some (.pointer (some ⟨D, 0, none⟩)) := cell_of_row _ _ _ _ _ (0, 0) FG.out
      have cA : x4.cell? ⟨A, 1, none⟩ = some (.string s1) := cell_of_row _ _ _ _ _ (0, 0) FA.out
      clear ht hs
      go_wp2_with fail
      refine hK.out _ _ (⟨cG, cA⟩) (fun hHeld => ?_)
      clear hK K
      try simp only [Act.put, List.setIfInBounds_toArray, List.set_cons_zero, List.set_cons_succ]
      refine WL.take (v := ?_) (Or.inl ⟨by rfl, ?_⟩) ?_
      rotate_left
      · intro w8 hSw
        (try dsimp only at hSw)
        go_simp
        any_goals with_reducible rfl
      try simp only [Act.put, List.setIfInBounds_toArray, List.set_cons_zero, List.set_cons_succ]
      refine WL.take (v := ?_) (Or.inl ⟨by rfl, ?_⟩) ?_
      rotate_left
      · intro w8 hSw
        (try dsimp only at hSw)
        go_simp
        any_goals with_reducible rfl
      try simp only [Act.put, List.setIfInBounds_toArray, List.set_cons_zero, List.set_cons_succ]
      refine WL.take (v := ?_) (Or.inl ⟨by rfl, ?_⟩) ?_
      rotate_left
      · intro w8 hSw
        (try dsimp only at hSw)
        go_simp
        any_goals with_reducible rfl
      try simp only [Act.put, List.setIfInBounds_toArray, List.set_cons_zero, List.set_cons_succ]
      refine WL.take (v := ?_) (Or.inl ⟨by rfl, ?_⟩) ?_
      rotate_left
      · intro w8 hSw
        (try dsimp only at hSw)
        go_simp
        any_goals with_reducible rfl
      try simp only [Act.put, List.setIfInBounds_toArray, List.set_cons_zero, List.set_cons_succ]
      refine WL.take (v := ?_) (Or.inl ⟨by rfl, ?_⟩) ?_
      rotate_left
      · intro w8 hSw
        (try dsimp only at hSw)
        go_simp
        any_goals with_reducible rfl
      try simp only [Act.put, List.setIfInBounds_toArray, List.set_cons_zero, List.set_cons_succ]
      refine WL.take (v := ?_) (Or.inl ⟨by rfl, ?_⟩) ?_
      rotate_left
      · intro w8 hSw
        (try dsimp only at hSw)
        go_simp
        any_goals with_reducible rfl
      try simp only [Act.put, List.setIfInBounds_toArray, List.set_cons_zero, List.set_cons_succ]
      refine WL.take (v := ?_) (Or.inl ⟨by rfl, ?_⟩) ?_
      rotate_left
      · intro w8 hSw
        (try dsimp only at hSw)
        go_simp
        any_goals with_reducible rfl
      try simp only [Act.put, List.setIfInBounds_toArray, List.set_cons_zero, List.set_cons_succ]
      refine WL.take (v := ?_) (Or.inl ⟨by rfl, ?_⟩) ?_
      rotate_left
      · intro w8 hSw
        (try dsimp only at hSw)
        go_simp
        any_goals with_reducible rfl
      try simp only [Act.put, List.setIfInBounds_toArray, List.set_cons_zero, List.set_cons_succ]
      refine WL.take (v := ?_) (Or.inl ⟨by rfl, ?_⟩) ?_
      rotate_left
      · intro w8 hSw
        (try dsimp only at hSw)
        go_simp
        any_goals with_reducible rfl
      try simp only [Act.put, List.setIfInBounds_toArray, List.set_cons_zero, List.set_cons_succ]
      refine WL.step (fun K hK => ?_)
      go_simp
      have K9 := Lib.hid (conv_kat x4 s1 5 (by omega))
      have hb := conv_below x4 s1 5
      obtain ⟨x5, e9⟩ : ∃ x5 : World, x5 = Lib.bytesWorld x4 5 s1 := ⟨_, rfl⟩
      rw [← e9] at K9 hb ⊢
      clear e9
      have T := Lib.hid (T.out.later hb)
      have FA := Lib.hid (heap_on hb FA.out)
      have FG := Lib.hid (heap_on hb FG.out)
      have B := Lib.hid (below_on B.out hb)
      have cG : x5.cell? ⟨G, 1, none⟩ = some (.pointer (some ⟨D, 0, none⟩)) := cell_of_row _ _ _ _ _ (0, 0) FG.out
      have cA : x5.cell? ⟨A, 1, none⟩ = some (.string s1) := cell_of_row _ _ _ _ _ (0, 0) FA.out
      clear hb
      refine hK.out _ _ (⟨cG, cA⟩) (fun hHeld => ?_)
      clear hK K
      try simp only [Act.put, List.setIfInBounds_toArray, List.set_cons_zero, List.set_cons_succ]
      refine WL.step (fun K hK => ?_)
      go_simp
      refine (T.out.act2 (N := one1 20000 ⟨#[102]⟩ 1 (List.replicate 64 free) [⟨B0, B0.length⟩, ⟨B1, 0⟩]) 0 (by rw [← HB1.out]; exact one1_append (r := ⟨[], 0⟩) f_ok rfl (by simp; omega) (by simp; omega)) rfl fun S hS => Append_any hS ⟨#[102]⟩ f_size K9.out (nums_bytes _)).mono ?_
      rintro _ x6 ⟨rfl, ht, hs⟩
      have T := Lib.hid ht
      have FA := Lib.hid (hs.heap (Or.inl hAC) FA.out)
      have FG := Lib.hid (hs.heap (Or.inr rfl) FG.out)
      have B := Lib.hid (B.out.trans (hs.below (base := w.heap.size) (fun g hg => Or.inl (show g < C by omega))))
      have cG : x6.cell? ⟨G, 1, none⟩ = some (.pointer (some ⟨D, 0, none⟩)) := cell_of_row _ _ _ _ _ (0, 0) FG.out
      have cA : x6.cell? ⟨A, 1, none⟩ = some (.string s1) := cell_of_row _ _ _ _ _ (0, 0) FA.out
      clear ht hs
      go_wp2_with fail
      refine hK.out _ _ (⟨cG, cA⟩) (fun hHeld => ?_)
      clear hK K
      try simp only [Act.put, List.setIfInBounds_toArray, List.set_cons_zero, List.set_cons_succ]
      refine WL.take (v := ?_) (Or.inl ⟨by rfl, ?_⟩) ?_
      rotate_left
      · intro w8 hSw
        (try dsimp only at hSw)
        go_simp
        any_goals with_reducible rfl
      try simp only [Act.put, List.setIfInBounds_toArray, List.set_cons_zero, List.set_cons_succ]
      refine WL.take (v := ?_) (Or.inl ⟨by rfl, ?_⟩) ?_
      rotate_left
      · intro w8 hSw
        (try dsimp only at hSw)
        go_simp
        any_goals with_reducible rfl
      try simp only [Act.put, List.setIfInBounds_toArray, List.set_cons_zero, List.set_cons_succ]
      refine WL.done ?_
      go_wp2_with fail
      exact ⟨.inr (.inr ⟨rfl, T, FA, FG, B.out⟩), by simp [intOf]⟩
    · have B := Lib.hid hb
      clear hb
      go_wp2_with fail
      clear FA FG
      obtain ⟨S, S2, h1, h2, h3, h4⟩ := T.out
      have H9 := Lib.hid (alike_any h1 h2 rfl (one1_see rfl rfl))
      clear h1 h2 h3 h4
      refine H9.out.mono ?_
      rintro _ w13 ⟨rfl, hb⟩
      clear H9
      have B := Lib.hid (below_on B.out hb)
      have T := Lib.hid (T.out.later hb)
      clear hb
      go_wp2_with fail
      obtain ⟨S, S2, h1, h2, h3, h4⟩ := T.out
      have H9 := Lib.hid (fail_any h1 h2 rfl (one1_see rfl rfl) (free_see _ _) keep (by omega))
      clear h1 h2 h3 h4
      refine H9.out.mono ?_
      rintro _ w14 ⟨rfl, hb⟩
      clear H9
      have B := Lib.hid (below_on B.out hb)
      have T := Lib.hid (T.out.later hb)
      clear hb
      go_wp2_with fail
      refine (T.out.act 0 rfl rfl fun S hS => Names_any hS).mono ?_
      rintro _ w15 ⟨rfl, ht, hs⟩
      have B := Lib.hid (B.out.trans (hs.below (base := w.heap.size) (by intro g hg; have h8 : g < C := (by omega); exact Or.inl h8)))
      have T := Lib.hid ht
      clear ht hs
      go_wp2_with fail
      refine (T.out.act2 0 rfl rfl fun S hS => Names_any hS).mono ?_
      rintro _ w16 ⟨rfl, ht, hs⟩
      have B := Lib.hid (B.out.trans (hs.below (base := w.heap.size) (by intro g hg; have h8 : g < C := (by omega); exact Or.inl h8)))
      have T := Lib.hid ht
      clear ht hs
      go_wp2_with fail
      obtain ⟨S, S2, h1, h2, h3, h4⟩ := T.out
      have H9 := Lib.hid (fail_any h1 h2 rfl (one1_see (n := 20000) (n' := 20000) (k := 0) (k' := 1) rfl rfl) (one1_see (n := 20000) (n' := 20000) (k := 0) (k' := 1) rfl rfl) keep (by omega))
      clear h1 h2 h3 h4
      refine H9.out.mono ?_
      rintro _ w17 ⟨rfl, hb⟩
      clear H9
      have B := Lib.hid (below_on B.out hb)
      have T := Lib.hid (T.out.later hb)
      clear hb
      go_wp2_with fail
      go_ret
      exact ⟨rfl, B.out⟩
end Go.Proofs.YtjaganoidfohaaaDoor
