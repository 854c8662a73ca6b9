/- Layer 17 (files): FilesOrder, the walk. -/
import Derived.Test.YtjfejpdeccnlnaaDoorOrder0
import Derived.Test.YtjfejpdeccnlnaaDoorOrder1
import Derived.Deep.DeepCutAuto
import Derived.Deep.LoopGhost
namespace Go.Proofs.YtjfejpdeccnlnaaDoor
open Go.ChangeShapes Go.WideShapes Go.ChangeAt Go.RowKit

set_option linter.unusedSimpArgs false in
set_option linter.unusedVariables false in
set_option maxRecDepth 20000 in
set_option maxHeartbeats 4000000 in
theorem filesOrder_small (c0 c1 vt : Value) (L0 L1 : List ByteArray) (tl : List Bool) (keep : Nat) (hk : keep < 256) (w : World) (h0 : SAt w c0 L0) (h1 : SAt w c1 L1) (ht : BoolsAt w vt tl) (hl0 : L0.length ≤ 140737488351232) (hl1 : L1.length ≤ 140737488351232) (hz0 : ∀ s ∈ L0, s.size ≤ 140737488351232) (hz1 : ∀ s ∈ L1, s.size ≤ 140737488351232) (h : L0.length ≤ 20 ∧ L1.length ≤ 20 ∧ textsN L0 + textsN L1 ≤ 20000) :
    Calls Tryd.prog 7 #[.agg #[c0, c1], vt, .int .u8 keep] w fun e w' => e = .returned (.bool true) ∧ Below w.heap.size w w' := by
  have hh := h0
  obtain ⟨a0, p0, hv, hc1, hc2, _, hc4⟩ := hh
  obtain ⟨n0, hn⟩ : ∃ n, n = L0.length := ⟨_, rfl⟩
  rw [← hn] at hv hc1 hc4
  subst hv
  have HN0 := Lib.hid hn
  have HC0 := Lib.hid hc4
  have hn09 : n0 ≤ 140737488351232 := by omega
  clear hc1 hc2 hc4 hn
  have hh := h1
  obtain ⟨a1, p1, hv, hc1, hc2, _, hc4⟩ := hh
  obtain ⟨n1, hn⟩ : ∃ n, n = L1.length := ⟨_, rfl⟩
  rw [← hn] at hv hc1 hc4
  subst hv
  have HN1 := Lib.hid hn
  have HC1 := Lib.hid hc4
  have hn19 : n1 ≤ 140737488351232 := by omega
  clear hc1 hc2 hc4 hn
  have HS0 := Lib.hid h0
  have HS1 := Lib.hid h1
  have HZ0 := Lib.hid hz0
  have HZ1 := Lib.hid hz1
  have HT := Lib.hid ht
  obtain ⟨at_, pt, hv, ht1, ht2, ht3⟩ := ht
  obtain ⟨nt, hnt⟩ : ∃ n, n = tl.length := ⟨_, rfl⟩
  rw [← hnt] at hv ht1 ht3
  subst hv
  have HNT := Lib.hid hnt
  have HCT := Lib.hid ht3
  unfold maxLen at ht2
  have hntI : (nt : Int) ≤ 9223372036854775807 := by omega
  clear h0 h1 hz0 hz1 ht2 ht1 ht3 hnt
  obtain ⟨t0, ht0⟩ : ∃ t, t = textsN L0 := ⟨_, rfl⟩
  obtain ⟨t1, ht1⟩ : ∃ t, t = textsN L1 := ⟨_, rfl⟩
  have ht09 : (t0 : Int) ≤ 281474976710656 := by have := tn_le L0 L0.length HZ0.out (by omega); rw [ht0]; unfold textsN; omega
  have ht19 : (t1 : Int) ≤ 281474976710656 := by have := tn_le L1 L1.length HZ1.out (by omega); rw [ht1]; unfold textsN; omega
  have HT0 := Lib.hid ht0.symm
  have HT1 := Lib.hid ht1.symm
  simp only [← ht0, ← ht1, ← HN0.out, ← HN1.out] at h
  clear ht0 ht1
  go_enter Tryd.func7, Tryd.ntmps7
  go_wp2_with fail
  obtain ⟨w1, e9⟩ : ∃ w1 : World, w1 = w.alloc (.cells #[.slice a0 n0 p0, .slice a1 n1 p1] 53) := ⟨_, rfl⟩
  have hb : Below w.heap.size w w1 := by rw [e9]; exact (Below.refl _ _).alloc (Nat.le_refl _) _
  have h9 : w1.heap[w.heap.size]? = some (.cells #[.slice a0 n0 p0, .slice a1 n1 p1] 53) := by rw [e9]; exact heap_alloc_new _ _
  rw [← e9]
  clear e9
  have B := Lib.hid hb
  have FA := Lib.hid h9
  have HS0 := Lib.hid (HS0.out.later hb)
  have HS1 := Lib.hid (HS1.out.later hb)
  clear hb h9
  obtain ⟨A, hAe⟩ : ∃ A, A = w.heap.size := ⟨_, rfl⟩
  rw [← hAe] at FA ⊢
  clear hAe
  have hzs : sizes L0 + sizes L1 ≤ 20000 := by have := tn_small L0 L0.length (by have h8 := HT0.out; unfold textsN at h8; omega); have := tn_small L1 L1.length (by have h8 := HT1.out; unfold textsN at h8; omega); have h8 := HT0.out; have h9 := HT1.out; unfold textsN at h8 h9; omega
  have HZS := Lib.hid hzs
  clear hzs
  obtain ⟨ts, hts⟩ : ∃ ts, ts = t0 + t1 := ⟨_, rfl⟩
  have ets : (t0 : Int) + (t1 : Int) = (ts : Int) := by omega
  have hxd : decide ((20000 : Int) < (ts : Int)) = false := decide_eq_false (by omega)
  have hx0d : decide ((20 : Int) < (n0 : Int)) = false := decide_eq_false (by omega)
  have hx1d : decide ((20 : Int) < (n1 : Int)) = false := decide_eq_false (by omega)
  have eW : IntKind.i64.wrap (ts : Int) = (ts : Int) := by rw [IntKind.wrap_i64]; omega
  have hn020 : n0 ≤ 20 := by omega
  have hn120 : n1 ≤ 20 := by omega
  clear hts
  have hb : Below w1.heap.size w1 w1.drew := ⟨rfl, rfl, rfl, Nat.le_refl _, fun _ _ => rfl⟩
  have FA := Lib.hid (heap_on hb FA.out)
  have B := Lib.hid (below_on B.out hb)
  have HS0 := Lib.hid (HS0.out.later hb)
  have HS1 := Lib.hid (HS1.out.later hb)
  have k0 : w1.drew.cell? ⟨A, 0, none⟩ = some (.slice a0 n0 p0) := cell_of_row _ _ _ _ _ (0, 0) FA.out
  have k1 : w1.drew.cell? ⟨A, 1, none⟩ = some (.slice a1 n1 p1) := cell_of_row _ _ _ _ _ (0, 0) FA.out
  clear hb
  refine wp_region_perm [(0, false), (1, true), (2, true), (3, true), (4, true), (5, true), (6, true), (7, true), (8, true), (9, true), (10, true), (11, true), (12, true), (13, true), (14, true), (15, true), (16, true), (18, true), (19, true), (17, false), (20, false), (21, true), (22, true), (23, true)] (fun w9 => w9.cell? ⟨A, 0, none⟩ = some (.slice a0 n0 p0) ∧ w9.cell? ⟨A, 1, none⟩ = some (.slice a1 n1 p1)) (by kernel_rfl) (by kernel_rfl) (fun _ _ _ _ _ h => h) (⟨k0, k1⟩) (fun hHeld => ?_)
  refine WP.step rfl (fun K hK => ?_)
  go_simp
  refine (alive17 _).mono ?_
  rintro _ x1 ⟨rfl, hb⟩
  have FA := Lib.hid (heap_on hb FA.out)
  have B := Lib.hid (below_on B.out hb)
  have HS0 := Lib.hid (HS0.out.later hb)
  have HS1 := Lib.hid (HS1.out.later hb)
  have k0 : x1.cell? ⟨A, 0, none⟩ = some (.slice a0 n0 p0) := cell_of_row _ _ _ _ _ (0, 0) FA.out
  have k1 : x1.cell? ⟨A, 1, none⟩ = some (.slice a1 n1 p1) := cell_of_row _ _ _ _ _ (0, 0) FA.out
  clear hb
  go_wp2_with fail
  refine hK.out _ _ (⟨k0, k1⟩) (fun hHeld => ?_)
  clear hK K
  try simp only [Act.put, List.setIfInBounds_toArray, List.set_cons_zero, List.set_cons_succ]
  refine WP.take (v := ?_) rfl (Or.inl ⟨by rfl, ?_⟩) ?_
  rotate_left
  · intro w8 hSw
    (try dsimp only at hSw)
    go_simp
    any_goals with_reducible rfl
  try simp only [Act.put, List.setIfInBounds_toArray, List.set_cons_zero, List.set_cons_succ]
  refine WP.take (v := ?_) rfl (Or.inl ⟨by rfl, ?_⟩) ?_
  rotate_left
  · intro w8 hSw
    (try dsimp only at hSw)
    go_simp
    any_goals with_reducible rfl
  try simp only [Act.put, List.setIfInBounds_toArray, List.set_cons_zero, List.set_cons_succ]
  refine WP.take (v := ?_) rfl (Or.inl ⟨by rfl, ?_⟩) ?_
  rotate_left
  · intro w8 hSw
    (try dsimp only at hSw)
    go_simp
    any_goals with_reducible rfl
  try simp only [Act.put, List.setIfInBounds_toArray, List.set_cons_zero, List.set_cons_succ]
  refine WP.take (v := ?_) rfl (Or.inl ⟨by rfl, ?_⟩) ?_
  rotate_left
  · intro w8 hSw
    (try dsimp only at hSw)
    go_simp
    any_goals with_reducible rfl
  try simp only [Act.put, List.setIfInBounds_toArray, List.set_cons_zero, List.set_cons_succ]
  refine WP.take (v := ?_) rfl (Or.inl ⟨by rfl, ?_⟩) ?_
  rotate_left
  · intro w8 hSw
    (try dsimp only at hSw)
    go_simp
    any_goals with_reducible rfl
  try simp only [Act.put, List.setIfInBounds_toArray, List.set_cons_zero, List.set_cons_succ]
  refine WP.take (v := ?_) rfl (Or.inl ⟨by rfl, ?_⟩) ?_
  rotate_left
  · intro w8 hSw
    (try dsimp only at hSw)
    go_simp
    any_goals with_reducible rfl
  try simp only [Act.put, List.setIfInBounds_toArray, List.set_cons_zero, List.set_cons_succ]
  refine WP.take (v := ?_) rfl (Or.inl ⟨by rfl, ?_⟩) ?_
  rotate_left
  · intro w8 hSw
    (try dsimp only at hSw)
    go_simp
    any_goals with_reducible rfl
  try simp only [Act.put, List.setIfInBounds_toArray, List.set_cons_zero, List.set_cons_succ]
  refine WP.take (v := ?_) rfl (Or.inl ⟨by rfl, ?_⟩) ?_
  rotate_left
  · intro w8 hSw
    (try dsimp only at hSw)
    go_simp
    any_goals with_reducible rfl
  try simp only [Act.put, List.setIfInBounds_toArray, List.set_cons_zero, List.set_cons_succ]
  refine WP.take (v := ?_) rfl (Or.inl ⟨by rfl, ?_⟩) ?_
  rotate_left
  · intro w8 hSw
    (try dsimp only at hSw)
    go_simp
    any_goals with_reducible rfl
  try simp only [Act.put, List.setIfInBounds_toArray, List.set_cons_zero, List.set_cons_succ]
  refine WP.take (v := ?_) rfl (Or.inl ⟨by rfl, ?_⟩) ?_
  rotate_left
  · intro w8 hSw
    (try dsimp only at hSw)
    go_simp
    any_goals with_reducible rfl
  try simp only [Act.put, List.setIfInBounds_toArray, List.set_cons_zero, List.set_cons_succ]
  refine WP.take (v := ?_) rfl (Or.inl ⟨by rfl, ?_⟩) ?_
  rotate_left
  · intro w8 hSw
    (try dsimp only at hSw)
    go_simp
    any_goals with_reducible rfl
  try simp only [Act.put, List.setIfInBounds_toArray, List.set_cons_zero, List.set_cons_succ]
  refine WP.take (v := ?_) rfl (Or.inl ⟨by rfl, ?_⟩) ?_
  rotate_left
  · intro w8 hSw
    (try dsimp only at hSw)
    go_simp
    any_goals with_reducible rfl
  try simp only [Act.put, List.setIfInBounds_toArray, List.set_cons_zero, List.set_cons_succ]
  refine WP.take (v := ?_) rfl (Or.inl ⟨by rfl, ?_⟩) ?_
  rotate_left
  · intro w8 hSw
    (try dsimp only at hSw)
    go_simp
    any_goals with_reducible rfl
  try simp only [Act.put, List.setIfInBounds_toArray, List.set_cons_zero, List.set_cons_succ]
  refine WP.take (v := ?_) rfl (Or.inl ⟨by rfl, ?_⟩) ?_
  rotate_left
  · intro w8 hSw
    (try dsimp only at hSw)
    go_simp
    any_goals with_reducible rfl
  try simp only [Act.put, List.setIfInBounds_toArray, List.set_cons_zero, List.set_cons_succ]
  refine WP.take (v := ?_) rfl (Or.inl ⟨by rfl, ?_⟩) ?_
  rotate_left
  · intro w8 hSw
    (try dsimp only at hSw)
    go_simp
    any_goals with_reducible rfl
  try simp only [Act.put, List.setIfInBounds_toArray, List.set_cons_zero, List.set_cons_succ]
  refine WP.take (v := ?_) rfl (Or.inl ⟨by rfl, ?_⟩) ?_
  rotate_left
  · intro w8 hSw
    (try dsimp only at hSw)
    go_simp
    any_goals with_reducible rfl
  try simp only [Act.put, List.setIfInBounds_toArray, List.set_cons_zero, List.set_cons_succ]
  refine WP.take (v := ?_) rfl (Or.inl ⟨by rfl, ?_⟩) ?_
  rotate_left
  · intro w8 hSw
    (try dsimp only at hSw)
    go_simp
    any_goals with_reducible rfl
  try simp only [Act.put, List.setIfInBounds_toArray, List.set_cons_zero, List.set_cons_succ]
  refine WP.take (v := ?_) rfl (Or.inl ⟨by rfl, ?_⟩) ?_
  rotate_left
  · intro w8 hSw
    (try dsimp only at hSw)
    go_simp
    any_goals with_reducible rfl
  try simp only [Act.put, List.setIfInBounds_toArray, List.set_cons_zero, List.set_cons_succ]
  refine WP.step rfl (fun K hK => ?_)
  go_simp
  refine (TextsSize_any L0 _ HS0.out HZ0.out (by rw [← HN0.out]; omega)).mono ?_
  rw [HT0.out]
  rintro _ x2 ⟨rfl, nn, hnn⟩
  have hb : Below x1.heap.size x1 x2 := by rw [hnn]; exact below_drewN9 _ _
  clear hnn
  have FA := Lib.hid (heap_on hb FA.out)
  have B := Lib.hid (below_on B.out hb)
  have HS0 := Lib.hid (HS0.out.later hb)
  have HS1 := Lib.hid (HS1.out.later hb)
  have k0 : x2.cell? ⟨A, 0, none⟩ = some (.slice a0 n0 p0) := cell_of_row _ _ _ _ _ (0, 0) FA.out
  have k1 : x2.cell? ⟨A, 1, none⟩ = some (.slice a1 n1 p1) := cell_of_row _ _ _ _ _ (0, 0) FA.out
  clear hb
  go_wp2_with fail
  refine hK.out _ _ (⟨k0, k1⟩) (fun hHeld => ?_)
  clear hK K
  try simp only [Act.put, List.setIfInBounds_toArray, List.set_cons_zero, List.set_cons_succ]
  refine WP.step rfl (fun K hK => ?_)
  go_simp
  refine (TextsSize_any L1 _ HS1.out HZ1.out (by rw [← HN1.out]; omega)).mono ?_
  rw [HT1.out]
  rintro _ x3 ⟨rfl, nn, hnn⟩
  have hb : Below x2.heap.size x2 x3 := by rw [hnn]; exact below_drewN9 _ _
  clear hnn
  have FA := Lib.hid (heap_on hb FA.out)
  have B := Lib.hid (below_on B.out hb)
  have HS0 := Lib.hid (HS0.out.later hb)
  have HS1 := Lib.hid (HS1.out.later hb)
  have k0 : x3.cell? ⟨A, 0, none⟩ = some (.slice a0 n0 p0) := cell_of_row _ _ _ _ _ (0, 0) FA.out
  have k1 : x3.cell? ⟨A, 1, none⟩ = some (.slice a1 n1 p1) := cell_of_row _ _ _ _ _ (0, 0) FA.out
  clear hb
  go_wp2_with fail
  refine hK.out _ _ (⟨k0, k1⟩) (fun hHeld => ?_)
  clear hK K
  try simp only [Act.put, List.setIfInBounds_toArray, List.set_cons_zero, List.set_cons_succ]
  refine WP.take (v := ?_) rfl (Or.inl ⟨by rfl, ?_⟩) ?_
  rotate_left
  · intro w8 hSw
    (try dsimp only at hSw)
    go_simp
    any_goals with_reducible rfl
  try simp only [Act.put, List.setIfInBounds_toArray, List.set_cons_zero, List.set_cons_succ]
  refine WP.take (v := ?_) rfl (Or.inl ⟨by rfl, ?_⟩) ?_
  rotate_left
  · intro w8 hSw
    (try dsimp only at hSw)
    go_simp
    any_goals with_reducible rfl
  try simp only [Act.put, List.setIfInBounds_toArray, List.set_cons_zero, List.set_cons_succ]
  refine WP.take (v := ?_) rfl (Or.inl ⟨by rfl, ?_⟩) ?_
  rotate_left
  · intro w8 hSw
    (try dsimp only at hSw)
    go_simp
    any_goals with_reducible rfl
  try simp only [Act.put, List.setIfInBounds_toArray, List.set_cons_zero, List.set_cons_succ]
  refine WP.done ?_
  go_wp2_with fail
  obtain ⟨w2, e9⟩ : ∃ w2 : World, w2 = x3.alloc (.cells #[.pointer none, .pointer none] 55) := ⟨_, rfl⟩
  have hb : Below x3.heap.size x3 w2 := by rw [e9]; exact (Below.refl _ _).alloc (Nat.le_refl _) _
  have h9 : w2.heap[x3.heap.size]? = some (.cells #[.pointer none, .pointer none] 55) := by rw [e9]; exact heap_alloc_new _ _
  rw [← e9]
  clear e9
  obtain ⟨G, hG⟩ : ∃ G, G = x3.heap.size := ⟨_, rfl⟩
  have hwG : w.heap.size ≤ G := by rw [hG]; exact B.out.size
  have hAG : A < G := by rw [hG]; exact lt_of_heap FA.out
  rw [← hG] at h9 ⊢
  have FG := Lib.hid h9
  have FA := Lib.hid (heap_on hb FA.out)
  have B := Lib.hid (below_on B.out hb)
  have C4 := Lib.hid (And.intro hn020 hn120)
  clear hb h9 hG k0 k1 HS0 HS1
  go_wp2_with fail
  go_loopw [8] (fun i wr => (i = .int .i64 0 ∧ Hid (wr.heap[A]? = some (.cells #[.slice a0 n0 p0, .slice a1 n1 p1] 53 (0, 0))) ∧ Hid (wr.heap[G]? = some (.cells #[.pointer none, .pointer none] 55 (0, 0))) ∧ Below w.heap.size w wr) ∨ (i = .int .i64 1 ∧ ∃ C, G < C ∧ Hid (OneK (fun g => g < C) wr C C ((two2 (rowAt L0 n0) (rowAt L1 n1)).names)) ∧ Hid (wr.heap[A]? = some (.cells #[.slice a0 n0 p0, .slice a1 n1 p1] 53 (0, 0))) ∧ Hid (wr.heap[G]? = some (.cells #[.pointer (some ⟨C, 0, none⟩), .pointer none] 55 (0, 0))) ∧ Below w.heap.size w wr) ∨ (i = .int .i64 2 ∧ ∃ C D, G < C ∧ Hid (TwoK (fun g => g < C) wr C C D ((two2 (rowAt L0 n0) (rowAt L1 n1)).names) ((two2 (rowAt L0 n0) (rowAt L1 n1)).names)) ∧ Hid (wr.heap[A]? = some (.cells #[.slice a0 n0 p0, .slice a1 n1 p1] 53 (0, 0))) ∧ Hid (wr.heap[G]? = some (.cells #[.pointer (some ⟨C, 0, none⟩), .pointer (some ⟨D, 0, none⟩)] 55 (0, 0))) ∧ Below w.heap.size w wr)) (fun i _ => 2 - (intOf i).toNat)
  case atStart => exact .inl ⟨rfl, FA, FG, B.out⟩
  case round =>
    rcases hrel with ⟨rfl, FA, FG, hb⟩ | ⟨rfl, C, hGC, T, FA, FG, hb⟩ | ⟨rfl, C, D, hGC, T, FA, FG, hb⟩
    · have B := Lib.hid hb
      clear hb
      go_wp2_with fail
      refine (New_yes 50000 wr (by decide) (by decide)).mono ?_
      rintro _ w11 ⟨rfl, hd, hb⟩
      obtain ⟨C, hX⟩ : ∃ C, C = wr.heap.size := ⟨_, rfl⟩
      have hGC : G < C := by rw [hX]; exact lt_of_heap FG.out
      rw [← hX] at hd ⊢
      have T := Lib.hid (OneK.new hd)
      have FA := Lib.hid (heap_on hb FA.out)
      have FG := Lib.hid (heap_on hb FG.out)
      have B := Lib.hid (below_on B.out hb)
      clear hb hd hX
      go_wp2_with fail
      refine (T.out.act 0 two2_create1 rfl fun S hS => Create_any hS nmA (by decide)).mono ?_
      rintro _ w12 ⟨rfl, ht, hs⟩
      have FA := Lib.hid (hs.heap (show A < C by omega) FA.out)
      have FG := Lib.hid (hs.heap (show G < C by omega) FG.out)
      have B := Lib.hid (B.out.trans (hs.below (base := w.heap.size) (fun g hg => (show g < C by omega))))
      have T := Lib.hid ht
      clear ht hs
      go_wp2_with fail
      refine (T.out.act 0 two2_create2 rfl fun S hS => Create_any hS nmB (by decide)).mono ?_
      rintro _ w13 ⟨rfl, ht, hs⟩
      have FA := Lib.hid (hs.heap (show A < C by omega) FA.out)
      have FG := Lib.hid (hs.heap (show G < C by omega) FG.out)
      have B := Lib.hid (B.out.trans (hs.below (base := w.heap.size) (fun g hg => (show g < C by omega))))
      have T := Lib.hid ht
      clear ht hs
      go_wp2_with fail
      obtain ⟨w14, e9⟩ : ∃ w14 : World, w14 = w13.alloc (.cells #[.int .i64 0, .int .i64 0] 56) := ⟨_, rfl⟩
      have hb : Below w13.heap.size w13 w14 := by rw [e9]; exact (Below.refl _ _).alloc (Nat.le_refl _) _
      have h9 : w14.heap[w13.heap.size]? = some (.cells #[.int .i64 0, .int .i64 0] 56) := by rw [e9]; exact heap_alloc_new _ _
      rw [← e9]
      clear e9
      obtain ⟨E, hE⟩ : ∃ E, E = w13.heap.size := ⟨_, rfl⟩
      have hwE : w.heap.size ≤ E := by rw [hE]; exact B.out.size
      have hGE : G < E := by rw [hE]; exact lt_of_heap FG.out
      rw [← hE] at h9 ⊢
      have hEs : E < w14.heap.size := lt_of_heap h9
      have T := Lib.hid (T.out.more (G := E) hb (by omega) hEs)
      have FE := Lib.hid h9
      have FA := Lib.hid (heap_on hb FA.out)
      have FG := Lib.hid (heap_on hb FG.out)
      have B := Lib.hid (below_on B.out hb)
      clear hb h9 hE hEs
      go_wp2_with fail
      obtain ⟨wo, hwo⟩ : ∃ wo : World, wo = w14 := ⟨_, rfl⟩
      rw [← hwo] at T FA FG FE B ⊢
      clear hwo
      go_loopg [12] (n0 + n1) (fun g i wr => ∃ x y : Nat, g = n0 + n1 - (x + y) ∧ x ≤ n0 ∧ y ≤ n1 ∧ i = .int .i64 (x + y : Nat) ∧ Hid (OneK (fun g => g < C ∨ g = E) wr C C (two2 (rowAt L0 x) (rowAt L1 y))) ∧ Hid (wr.heap[A]? = some (.cells #[.slice a0 n0 p0, .slice a1 n1 p1] 53 (0, 0))) ∧ Hid (wr.heap[G]? = some (.cells #[.pointer none, .pointer none] 55 (0, 0))) ∧ Hid (wr.heap[E]? = some (.cells #[.int .i64 (x : Nat), .int .i64 (y : Nat)] 56 (0, 0))) ∧ Below w.heap.size w wr)
      case atStart => exact ⟨0, 0, rfl, Nat.zero_le _, Nat.zero_le _, rfl, T, FA, FG, FE, B.out⟩
      case round =>
        clear T FA FG FE B
        obtain ⟨x, y, hg9, hx, hy, rfl, T, FA, FG, FE, hb⟩ := hrel
        have B := Lib.hid hb
        have HB9 := Lib.hid hb
        clear hb
        obtain ⟨i9, hi9⟩ : ∃ i9, i9 = x + y := ⟨_, rfl⟩
        obtain ⟨m9, hm9⟩ : ∃ m9, m9 = n0 + n1 := ⟨_, rfl⟩
        have ei : (x : Int) + (y : Int) = (i9 : Int) := by omega
        have em : (n0 : Int) + (n1 : Int) = (m9 : Int) := by omega
        have hxI : (x : Int) ≤ 20 := by omega
        have hyI : (y : Int) ≤ 20 := by omega
        have hi40 : (i9 : Int) ≤ 40 := by omega
        rw [← hi9]
        have HI9 := Lib.hid hi9
        have HM9 := Lib.hid hm9
        clear hi9 hm9
        have e0 : wr.cell? ⟨E, 0, none⟩ = some (.int .i64 x) := cell_of_row _ _ _ _ _ (0, 0) FE.out
        have e1 : wr.cell? ⟨E, 1, none⟩ = some (.int .i64 y) := cell_of_row _ _ _ _ _ (0, 0) FE.out
        have k0 : wr.cell? ⟨A, 0, none⟩ = some (.slice a0 n0 p0) := cell_of_row _ _ _ _ _ (0, 0) FA.out
        have k1 : wr.cell? ⟨A, 1, none⟩ = some (.slice a1 n1 p1) := cell_of_row _ _ _ _ _ (0, 0) FA.out
        by_cases hend : i9 < m9
        · have hendI : (i9 : Int) < (m9 : Int) := by omega
          go_upto_region 15 with fail
          go_cut [13, 96] (fun kk c wx => kk = .int .i64 0 ∧ (∃ b : Bool, c = .bool b ∧ (b = false → x ≠ n0)) ∧ wx = wr)
          case first =>
            by_cases h0 : x = n0
            · have h0I : (x : Int) = (n0 : Int) := by omega
              go_wp2_with fail
              go_meet
              exact ⟨rfl, ⟨true, rfl, fun h => by cases h⟩, rfl⟩
            · have h0I : ((x : Int) == (n0 : Int)) = false := by simpa using (show ¬ ((x : Int) = (n0 : Int)) by omega)
              go_wp2_with fail
              go_meet
              exact ⟨rfl, ⟨false, rfl, fun _ => h0⟩, rfl⟩
          case rest =>
            obtain ⟨rfl, ⟨b, rfl, hb7⟩, hw⟩ := hcut
            rw [hw]
            clear hw wc
            go_upto_if 96 with fail
            have HB7 := Lib.hid hb7
            clear hb7
            go_cut [13] (fun kk wx => ((kk = .int .i64 0 ∧ x ≠ n0) ∨ kk = .int .i64 1) ∧ wx = wr)
            case first =>
              cases b
              · have h0 := HB7.out rfl
                go_wp2_with fail
                go_meet
                exact ⟨.inl ⟨rfl, h0⟩, rfl⟩
              · go_wp2_with fail
                skip
                go_meet
                exact ⟨.inr rfl, rfl⟩
            case rest =>
              obtain ⟨hk8, hw⟩ := hcut
              rw [hw]
              clear hw wc HB7
              go_upto_region 17 with fail
              go_cut [13, 104] (fun kk c wx => (∃ b : Bool, c = .bool b ∧ ((kk = .int .i64 0 ∧ x < n0 ∧ b = false) ∨ (kk = .int .i64 1 ∧ y < n1 ∧ b = false) ∨ (kk = .int .i64 1 ∧ x < n0 ∧ b = true))) ∧ ∃ n, wx = wr.drewN n)
              case first =>
                rcases hk8 with ⟨rfl, h0⟩ | rfl
                · have h0I : ((x : Int) == (n0 : Int)) = false := by simpa using (show ¬ ((x : Int) = (n0 : Int)) by omega)
                  go_quiet (fail)
                  go_wp2_with fail
                  go_meet
                  exact ⟨⟨false, rfl, .inl ⟨rfl, by omega, rfl⟩⟩, _, rfl⟩
                · by_cases h1 : y = n1
                  · have h1I : (y : Int) = (n1 : Int) := by omega
                    go_quiet (fail)
                    go_wp2_with fail
                    go_meet
                    exact ⟨⟨true, rfl, .inr (.inr ⟨rfl, by have := HI9.out; have := HM9.out; omega, rfl⟩)⟩, _, rfl⟩
                  · have h1I : ((y : Int) == (n1 : Int)) = false := by simpa using (show ¬ ((y : Int) = (n1 : Int)) by omega)
                    go_quiet (fail)
                    go_wp2_with fail
                    go_meet
                    exact ⟨⟨false, rfl, .inr (.inl ⟨rfl, by omega, rfl⟩)⟩, _, rfl⟩
              case rest =>
                clear hk8
                obtain ⟨⟨b, rfl, hk8⟩, nd, hw⟩ := hcut
                rw [hw]
                clear hw wc
                go_upto_if 104 with fail
                go_cut [13] (fun kk wx => ((kk = .int .i64 0 ∧ x < n0) ∨ (kk = .int .i64 1 ∧ y < n1)) ∧ wx = wr.drewN nd)
                case first =>
                  rcases hk8 with ⟨rfl, h0, rfl⟩ | ⟨rfl, h0, rfl⟩ | ⟨rfl, h0, rfl⟩
                  · go_wp2_with fail
                    go_meet
                    exact ⟨.inl ⟨rfl, h0⟩, rfl⟩
                  · go_wp2_with fail
                    go_meet
                    exact ⟨.inr ⟨rfl, h0⟩, rfl⟩
                  · go_wp2_with fail
                    go_meet
                    exact ⟨.inl ⟨rfl, h0⟩, rfl⟩
                case rest =>
                  clear e0 e1 k0 k1 hk8
                  obtain ⟨hk9, hw⟩ := hcut
                  rw [hw]
                  clear hw wc
                  have hb : Below wr.heap.size wr (wr.drewN nd) := below_drewN9 _ _
                  have FA := Lib.hid (heap_on hb FA.out)
                  have FG := Lib.hid (heap_on hb FG.out)
                  have FE := Lib.hid (heap_on hb FE.out)
                  have T := Lib.hid (T.out.later hb)
                  have B := Lib.hid (below_on B.out hb)
                  clear hb
                  rcases hk9 with ⟨rfl, hlt⟩ | ⟨rfl, hlt⟩
                  · skip
                    obtain ⟨s, hs⟩ : ∃ s, L0[x]? = some s := ⟨_, List.getElem?_eq_getElem (by rw [← HN0.out]; exact hlt)⟩
                    obtain ⟨b9, o9, rfl, hcell⟩ := HC0.out (by omega)
                    have CC := Lib.hid (cell_on (hcell x s hs) (below_on HB9.out (below_drewN9 _ nd)))
                    have hb9C : b9 < C := by have h7 := World.block_lt_of_cell? (a := ⟨b9, o9 + x, none⟩) _ (hcell x s hs); simp only at h7; omega
                    have HS := Lib.hid hs
                    have hz9 := HZ0.out s (List.mem_of_getElem? hs)
                    clear hcell hs
                    by_cases h3 : x % 3 = 1
                    · have h3I : (x : Int).tmod 3 = 1 := by rw [Int.tmod_eq_emod_of_nonneg (by omega)]; omega
                      obtain ⟨wd, hwd⟩ : ∃ wd : World, wd = wr.drewN nd := ⟨_, rfl⟩
                      rw [← hwd] at FA FG FE T B CC ⊢
                      clear hwd
                      go_wp2_with fail
                      have hb : Below wd.heap.size wd wd.drew := ⟨rfl, rfl, rfl, Nat.le_refl _, fun _ _ => rfl⟩
                      have FA := Lib.hid (heap_on hb FA.out)
                      have FG := Lib.hid (heap_on hb FG.out)
                      have FE := Lib.hid (heap_on hb FE.out)
                      have T := Lib.hid (T.out.later hb)
                      have B := Lib.hid (below_on B.out hb)
                      have CC := Lib.hid (cell_on CC.out hb)
                      clear hb
                      have s0 : wd.drew.cell? ⟨A, 0, none⟩ = some (.slice (some ⟨b9, o9, none⟩) n0 p0) := cell_of_row _ _ _ _ _ (0, 0) FA.out
                      have s1 : wd.drew.cell? ⟨E, 0, none⟩ = some (.int .i64 x) := cell_of_row _ _ _ _ _ (0, 0) FE.out
                      have kcs := fun (W : World) (s : ByteArray) => Lib.run_convert_string_bytes (P := Tryd.prog) W 9 37 5 s Tryd.underlying9 Tryd.underlying37 Tryd.underlying5
                      refine wp_region_perm [(0, true), (1, true), (2, true), (3, true), (4, true), (5, true), (6, true), (7, true), (8, true), (9, true), (10, false), (11, false), (12, true), (13, true), (14, true), (15, true), (16, true), (17, true), (18, true), (19, true), (20, true), (21, true), (22, false), (23, true), (24, true), (25, true)] (fun w9 => w9.cell? ⟨A, 0, none⟩ = some (.slice (some ⟨b9, o9, none⟩) n0 p0) ∧ w9.cell? ⟨E, 0, none⟩ = some (.int .i64 x) ∧ w9.cell? ⟨b9, o9 + x, none⟩ = some (.string s)) (by kernel_rfl) (by kernel_rfl) (fun _ _ _ _ _ h => h) (⟨s0, s1, CC.out⟩) (fun hHeld => ?_)
                      refine WP.take (v := ?_) rfl (Or.inl ⟨by rfl, ?_⟩) ?_
                      rotate_left
                      · intro w8 hSw
                        (try dsimp only at hSw)
                        go_simp
                        any_goals with_reducible rfl
                      try simp only [Act.put, List.setIfInBounds_toArray, List.set_cons_zero, List.set_cons_succ]
                      refine WP.take (v := ?_) rfl (Or.inl ⟨by rfl, ?_⟩) ?_
                      rotate_left
                      · intro w8 hSw
                        (try dsimp only at hSw)
                        go_simp
                        any_goals with_reducible rfl
                      try simp only [Act.put, List.setIfInBounds_toArray, List.set_cons_zero, List.set_cons_succ]
                      refine WP.take (v := ?_) rfl (Or.inl ⟨by rfl, ?_⟩) ?_
                      rotate_left
                      · intro w8 hSw
                        (try dsimp only at hSw)
                        go_simp
                        any_goals with_reducible rfl
                      try simp only [Act.put, List.setIfInBounds_toArray, List.set_cons_zero, List.set_cons_succ]
                      refine WP.take (v := ?_) rfl (Or.inl ⟨by rfl, ?_⟩) ?_
                      rotate_left
                      · intro w8 hSw
                        (try dsimp only at hSw)
                        go_simp
                        any_goals with_reducible rfl
                      try simp only [Act.put, List.setIfInBounds_toArray, List.set_cons_zero, List.set_cons_succ]
                      refine WP.take (v := ?_) rfl (Or.inl ⟨by rfl, ?_⟩) ?_
                      rotate_left
                      · intro w8 hSw
                        (try dsimp only at hSw)
                        go_simp
                        any_goals with_reducible rfl
                      try simp only [Act.put, List.setIfInBounds_toArray, List.set_cons_zero, List.set_cons_succ]
                      refine WP.take (v := ?_) rfl (Or.inl ⟨by rfl, ?_⟩) ?_
                      rotate_left
                      · intro w8 hSw
                        (try dsimp only at hSw)
                        go_simp
                        any_goals with_reducible rfl
                      try simp only [Act.put, List.setIfInBounds_toArray, List.set_cons_zero, List.set_cons_succ]
                      refine WP.take (v := ?_) rfl (Or.inl ⟨by rfl, ?_⟩) ?_
                      rotate_left
                      · intro w8 hSw
                        (try dsimp only at hSw)
                        go_simp
                        any_goals with_reducible rfl
                      try simp only [Act.put, List.setIfInBounds_toArray, List.set_cons_zero, List.set_cons_succ]
                      refine WP.take (v := ?_) rfl (Or.inl ⟨by rfl, ?_⟩) ?_
                      rotate_left
                      · intro w8 hSw
                        (try dsimp only at hSw)
                        go_simp
                        any_goals with_reducible rfl
                      try simp only [Act.put, List.setIfInBounds_toArray, List.set_cons_zero, List.set_cons_succ]
                      refine WP.take (v := ?_) rfl (Or.inl ⟨by rfl, ?_⟩) ?_
                      rotate_left
                      · intro w8 hSw
                        (try dsimp only at hSw)
                        go_simp
                        any_goals with_reducible rfl
                      try simp only [Act.put, List.setIfInBounds_toArray, List.set_cons_zero, List.set_cons_succ]
                      refine WP.take (v := ?_) rfl (Or.inl ⟨by rfl, ?_⟩) ?_
                      rotate_left
                      · intro w8 hSw
                        (try dsimp only at hSw)
                        go_simp
                        any_goals with_reducible rfl
                      try simp only [Act.put, List.setIfInBounds_toArray, List.set_cons_zero, List.set_cons_succ]
                      refine WP.step rfl (fun K hK => ?_)
                      go_simp
                      clear kcs
                      obtain ⟨z1, e9⟩ : ∃ z1 : World, z1 = Lib.bytesWorld wd.drew 5 s := ⟨_, rfl⟩
                      have hb : Below wd.drew.heap.size wd.drew z1 := by rw [e9]; exact conv_below _ _ _
                      have K9 := Lib.hid (show KAt .u8 z1 (.slice (some ⟨wd.drew.heap.size, 0, none⟩) s.size (grownCap wd.drew s.size 0 5)) (nums s) by rw [e9]; exact conv_kat _ _ _ (by omega))
                      rw [← e9]
                      clear e9 s0 s1
                      have FA := Lib.hid (heap_on hb FA.out)
                      have FG := Lib.hid (heap_on hb FG.out)
                      have FE := Lib.hid (heap_on hb FE.out)
                      have T := Lib.hid (T.out.later hb)
                      have B := Lib.hid (below_on B.out hb)
                      have CC := Lib.hid (cell_on CC.out hb)
                      clear hb
                      have s0 : z1.cell? ⟨A, 0, none⟩ = some (.slice (some ⟨b9, o9, none⟩) n0 p0) := cell_of_row _ _ _ _ _ (0, 0) FA.out
                      have s1 : z1.cell? ⟨E, 0, none⟩ = some (.int .i64 x) := cell_of_row _ _ _ _ _ (0, 0) FE.out
                      refine hK.out _ _ (⟨s0, s1, CC.out⟩) (fun hHeld => ?_)
                      clear hK K
                      try simp only [Act.put, List.setIfInBounds_toArray, List.set_cons_zero, List.set_cons_succ]
                      refine WP.step rfl (fun K hK => ?_)
                      go_simp
                      obtain ⟨N9, hN1, hN2⟩ := stepA_s HZS.out HS.out (by rw [← HN1.out]; exact hy : y ≤ L1.length) h3
                      have hN1 := Lib.hid hN1
                      have hN2 := Lib.hid hN2
                      refine (T.out.act 0 hN1.out rfl fun S hS => Append_any hS nmA (by decide) K9.out (nums_bytes _)).mono ?_
                      rintro _ z2 ⟨rfl, ht, hs⟩
                      clear s0 s1
                      have CC := Lib.hid (show z2.cell? ⟨b9, o9 + x, none⟩ = some (.string s) from (World.cell?_of_block (w := z1) (hs.block b9 (.inl (show b9 < C from hb9C)))).trans CC.out)
                      have FA := Lib.hid (hs.heap (.inl (show A < C by omega)) FA.out)
                      have FG := Lib.hid (hs.heap (.inl (show G < C by omega)) FG.out)
                      have FE := Lib.hid (hs.heap (.inr rfl) FE.out)
                      have B := Lib.hid (B.out.trans (hs.below (base := w.heap.size) (fun g hg => .inl (show g < C by omega))))
                      have T := Lib.hid ht
                      clear ht hs
                      have s0 : z2.cell? ⟨A, 0, none⟩ = some (.slice (some ⟨b9, o9, none⟩) n0 p0) := cell_of_row _ _ _ _ _ (0, 0) FA.out
                      have s1 : z2.cell? ⟨E, 0, none⟩ = some (.int .i64 x) := cell_of_row _ _ _ _ _ (0, 0) FE.out
                      go_wp2_with fail
                      refine hK.out _ _ (⟨s0, s1, CC.out⟩) (fun hHeld => ?_)
                      clear hK K
                      try simp only [Act.put, List.setIfInBounds_toArray, List.set_cons_zero, List.set_cons_succ]
                      refine WP.take (v := ?_) rfl (Or.inl ⟨by rfl, ?_⟩) ?_
                      rotate_left
                      · intro w8 hSw
                        (try dsimp only at hSw)
                        go_simp
                        any_goals with_reducible rfl
                      try simp only [Act.put, List.setIfInBounds_toArray, List.set_cons_zero, List.set_cons_succ]
                      refine WP.take (v := ?_) rfl (Or.inl ⟨by rfl, ?_⟩) ?_
                      rotate_left
                      · intro w8 hSw
                        (try dsimp only at hSw)
                        go_simp
                        any_goals with_reducible rfl
                      try simp only [Act.put, List.setIfInBounds_toArray, List.set_cons_zero, List.set_cons_succ]
                      refine WP.take (v := ?_) rfl (Or.inl ⟨by rfl, ?_⟩) ?_
                      rotate_left
                      · intro w8 hSw
                        (try dsimp only at hSw)
                        go_simp
                        any_goals with_reducible rfl
                      try simp only [Act.put, List.setIfInBounds_toArray, List.set_cons_zero, List.set_cons_succ]
                      refine WP.take (v := ?_) rfl (Or.inl ⟨by rfl, ?_⟩) ?_
                      rotate_left
                      · intro w8 hSw
                        (try dsimp only at hSw)
                        go_simp
                        any_goals with_reducible rfl
                      try simp only [Act.put, List.setIfInBounds_toArray, List.set_cons_zero, List.set_cons_succ]
                      refine WP.take (v := ?_) rfl (Or.inl ⟨by rfl, ?_⟩) ?_
                      rotate_left
                      · intro w8 hSw
                        (try dsimp only at hSw)
                        go_simp
                        any_goals with_reducible rfl
                      try simp only [Act.put, List.setIfInBounds_toArray, List.set_cons_zero, List.set_cons_succ]
                      refine WP.take (v := ?_) rfl (Or.inl ⟨by rfl, ?_⟩) ?_
                      rotate_left
                      · intro w8 hSw
                        (try dsimp only at hSw)
                        go_simp
                        any_goals with_reducible rfl
                      try simp only [Act.put, List.setIfInBounds_toArray, List.set_cons_zero, List.set_cons_succ]
                      refine WP.take (v := ?_) rfl (Or.inl ⟨by rfl, ?_⟩) ?_
                      rotate_left
                      · intro w8 hSw
                        (try dsimp only at hSw)
                        go_simp
                        any_goals with_reducible rfl
                      try simp only [Act.put, List.setIfInBounds_toArray, List.set_cons_zero, List.set_cons_succ]
                      refine WP.take (v := ?_) rfl (Or.inl ⟨by rfl, ?_⟩) ?_
                      rotate_left
                      · intro w8 hSw
                        (try dsimp only at hSw)
                        go_simp
                        any_goals with_reducible rfl
                      try simp only [Act.put, List.setIfInBounds_toArray, List.set_cons_zero, List.set_cons_succ]
                      refine WP.take (v := ?_) rfl (Or.inl ⟨by rfl, ?_⟩) ?_
                      rotate_left
                      · intro w8 hSw
                        (try dsimp only at hSw)
                        go_simp
                        any_goals with_reducible rfl
                      try simp only [Act.put, List.setIfInBounds_toArray, List.set_cons_zero, List.set_cons_succ]
                      refine WP.take (v := ?_) rfl (Or.inl ⟨by rfl, ?_⟩) ?_
                      rotate_left
                      · intro w8 hSw
                        (try dsimp only at hSw)
                        go_simp
                        any_goals with_reducible rfl
                      try simp only [Act.put, List.setIfInBounds_toArray, List.set_cons_zero, List.set_cons_succ]
                      refine WP.step rfl (fun K hK => ?_)
                      go_simp
                      refine (T.out.act 0 hN2.out rfl fun S hS => Sync_any hS nmA (by decide)).mono ?_
                      rintro _ z3 ⟨rfl, ht, hs⟩
                      clear s0 s1
                      have CC := Lib.hid (show z3.cell? ⟨b9, o9 + x, none⟩ = some (.string s) from (World.cell?_of_block (w := z2) (hs.block b9 (.inl (show b9 < C from hb9C)))).trans CC.out)
                      have FA := Lib.hid (hs.heap (.inl (show A < C by omega)) FA.out)
                      have FG := Lib.hid (hs.heap (.inl (show G < C by omega)) FG.out)
                      have FE := Lib.hid (hs.heap (.inr rfl) FE.out)
                      have B := Lib.hid (B.out.trans (hs.below (base := w.heap.size) (fun g hg => .inl (show g < C by omega))))
                      have T := Lib.hid ht
                      clear ht hs
                      have s0 : z3.cell? ⟨A, 0, none⟩ = some (.slice (some ⟨b9, o9, none⟩) n0 p0) := cell_of_row _ _ _ _ _ (0, 0) FA.out
                      have s1 : z3.cell? ⟨E, 0, none⟩ = some (.int .i64 x) := cell_of_row _ _ _ _ _ (0, 0) FE.out
                      go_wp2_with fail
                      refine hK.out _ _ (⟨s0, s1, CC.out⟩) (fun hHeld => ?_)
                      clear hK K
                      try simp only [Act.put, List.setIfInBounds_toArray, List.set_cons_zero, List.set_cons_succ]
                      refine WP.take (v := ?_) rfl (Or.inl ⟨by rfl, ?_⟩) ?_
                      rotate_left
                      · intro w8 hSw
                        (try dsimp only at hSw)
                        go_simp
                        any_goals with_reducible rfl
                      try simp only [Act.put, List.setIfInBounds_toArray, List.set_cons_zero, List.set_cons_succ]
                      refine WP.take (v := ?_) rfl (Or.inl ⟨by rfl, ?_⟩) ?_
                      rotate_left
                      · intro w8 hSw
                        (try dsimp only at hSw)
                        go_simp
                        any_goals with_reducible rfl
                      try simp only [Act.put, List.setIfInBounds_toArray, List.set_cons_zero, List.set_cons_succ]
                      refine WP.take (v := ?_) rfl (Or.inl ⟨by rfl, ?_⟩) ?_
                      rotate_left
                      · intro w8 hSw
                        (try dsimp only at hSw)
                        go_simp
                        any_goals with_reducible rfl
                      try simp only [Act.put, List.setIfInBounds_toArray, List.set_cons_zero, List.set_cons_succ]
                      refine WP.done ?_
                      have f9 := frozen_row FE.out 0
                      go_wp2_with fail
                      go_roundg (n0 + n1 - (x + y + 1))
                      case measure => have h7 := HI9.out; have h8 := HM9.out; omega
                      case rel => exact ⟨x + 1, y, by omega, by omega, by omega, by rw [show ((i9 : Int) + 1) = ((x + 1 + (y) : Nat) : Int) by have := HI9.out; omega], Lib.hid (T.out.put E 0 _ (.inr rfl)), Lib.hid ((Below.heap_setCell _ _ _ _ (show A ≠ E by omega)).trans FA.out), Lib.hid ((Below.heap_setCell _ _ _ _ (show G ≠ E by omega)).trans FG.out), Lib.hid (heap_setCell_same _ E 0 _ _ _ FE.out), below_put B.out E 0 _ hwE⟩
                    · obtain ⟨r3, hr3⟩ : ∃ r3 : Nat, r3 = x % 3 := ⟨_, rfl⟩
                      have h3I : (x : Int).tmod 3 = (r3 : Int) := by rw [Int.tmod_eq_emod_of_nonneg (by omega)]; omega
                      have h3n : ¬ ((r3 : Int) = 1) := by omega
                      have h3b : ((r3 : Int) == 1) = false := by simpa using h3n
                      clear hr3
                      obtain ⟨wd, hwd⟩ : ∃ wd : World, wd = wr.drewN nd := ⟨_, rfl⟩
                      rw [← hwd] at FA FG FE T B CC ⊢
                      clear hwd
                      go_wp2_with fail
                      have hb : Below wd.heap.size wd wd.drew := ⟨rfl, rfl, rfl, Nat.le_refl _, fun _ _ => rfl⟩
                      have FA := Lib.hid (heap_on hb FA.out)
                      have FG := Lib.hid (heap_on hb FG.out)
                      have FE := Lib.hid (heap_on hb FE.out)
                      have T := Lib.hid (T.out.later hb)
                      have B := Lib.hid (below_on B.out hb)
                      have CC := Lib.hid (cell_on CC.out hb)
                      clear hb
                      have s0 : wd.drew.cell? ⟨A, 0, none⟩ = some (.slice (some ⟨b9, o9, none⟩) n0 p0) := cell_of_row _ _ _ _ _ (0, 0) FA.out
                      have s1 : wd.drew.cell? ⟨E, 0, none⟩ = some (.int .i64 x) := cell_of_row _ _ _ _ _ (0, 0) FE.out
                      have kcs := fun (W : World) (s : ByteArray) => Lib.run_convert_string_bytes (P := Tryd.prog) W 9 37 5 s Tryd.underlying9 Tryd.underlying37 Tryd.underlying5
                      refine wp_region_perm [(0, true), (1, true), (2, true), (3, true), (4, true), (5, true), (6, true), (7, true), (8, true), (9, true), (10, false), (11, false), (12, true), (13, true), (14, true), (15, true), (16, true), (17, true), (18, true), (19, true), (20, true), (21, true), (22, false), (23, true), (24, true), (25, true)] (fun w9 => w9.cell? ⟨A, 0, none⟩ = some (.slice (some ⟨b9, o9, none⟩) n0 p0) ∧ w9.cell? ⟨E, 0, none⟩ = some (.int .i64 x) ∧ w9.cell? ⟨b9, o9 + x, none⟩ = some (.string s)) (by kernel_rfl) (by kernel_rfl) (fun _ _ _ _ _ h => h) (⟨s0, s1, CC.out⟩) (fun hHeld => ?_)
                      refine WP.take (v := ?_) rfl (Or.inl ⟨by rfl, ?_⟩) ?_
                      rotate_left
                      · intro w8 hSw
                        (try dsimp only at hSw)
                        go_simp
                        any_goals with_reducible rfl
                      try simp only [Act.put, List.setIfInBounds_toArray, List.set_cons_zero, List.set_cons_succ]
                      refine WP.take (v := ?_) rfl (Or.inl ⟨by rfl, ?_⟩) ?_
                      rotate_left
                      · intro w8 hSw
                        (try dsimp only at hSw)
                        go_simp
                        any_goals with_reducible rfl
                      try simp only [Act.put, List.setIfInBounds_toArray, List.set_cons_zero, List.set_cons_succ]
                      refine WP.take (v := ?_) rfl (Or.inl ⟨by rfl, ?_⟩) ?_
                      rotate_left
                      · intro w8 hSw
                        (try dsimp only at hSw)
                        go_simp
                        any_goals with_reducible rfl
                      try simp only [Act.put, List.setIfInBounds_toArray, List.set_cons_zero, List.set_cons_succ]
                      refine WP.take (v := ?_) rfl (Or.inl ⟨by rfl, ?_⟩) ?_
                      rotate_left
                      · intro w8 hSw
                        (try dsimp only at hSw)
                        go_simp
                        any_goals with_reducible rfl
                      try simp only [Act.put, List.setIfInBounds_toArray, List.set_cons_zero, List.set_cons_succ]
                      refine WP.take (v := ?_) rfl (Or.inl ⟨by rfl, ?_⟩) ?_
                      rotate_left
                      · intro w8 hSw
                        (try dsimp only at hSw)
                        go_simp
                        any_goals with_reducible rfl
                      try simp only [Act.put, List.setIfInBounds_toArray, List.set_cons_zero, List.set_cons_succ]
                      refine WP.take (v := ?_) rfl (Or.inl ⟨by rfl, ?_⟩) ?_
                      rotate_left
                      · intro w8 hSw
                        (try dsimp only at hSw)
                        go_simp
                        any_goals with_reducible rfl
                      try simp only [Act.put, List.setIfInBounds_toArray, List.set_cons_zero, List.set_cons_succ]
                      refine WP.take (v := ?_) rfl (Or.inl ⟨by rfl, ?_⟩) ?_
                      rotate_left
                      · intro w8 hSw
                        (try dsimp only at hSw)
                        go_simp
                        any_goals with_reducible rfl
                      try simp only [Act.put, List.setIfInBounds_toArray, List.set_cons_zero, List.set_cons_succ]
                      refine WP.take (v := ?_) rfl (Or.inl ⟨by rfl, ?_⟩) ?_
                      rotate_left
                      · intro w8 hSw
                        (try dsimp only at hSw)
                        go_simp
                        any_goals with_reducible rfl
                      try simp only [Act.put, List.setIfInBounds_toArray, List.set_cons_zero, List.set_cons_succ]
                      refine WP.take (v := ?_) rfl (Or.inl ⟨by rfl, ?_⟩) ?_
                      rotate_left
                      · intro w8 hSw
                        (try dsimp only at hSw)
                        go_simp
                        any_goals with_reducible rfl
                      try simp only [Act.put, List.setIfInBounds_toArray, List.set_cons_zero, List.set_cons_succ]
                      refine WP.take (v := ?_) rfl (Or.inl ⟨by rfl, ?_⟩) ?_
                      rotate_left
                      · intro w8 hSw
                        (try dsimp only at hSw)
                        go_simp
                        any_goals with_reducible rfl
                      try simp only [Act.put, List.setIfInBounds_toArray, List.set_cons_zero, List.set_cons_succ]
                      refine WP.step rfl (fun K hK => ?_)
                      go_simp
                      clear kcs
                      obtain ⟨z1, e9⟩ : ∃ z1 : World, z1 = Lib.bytesWorld wd.drew 5 s := ⟨_, rfl⟩
                      have hb : Below wd.drew.heap.size wd.drew z1 := by rw [e9]; exact conv_below _ _ _
                      have K9 := Lib.hid (show KAt .u8 z1 (.slice (some ⟨wd.drew.heap.size, 0, none⟩) s.size (grownCap wd.drew s.size 0 5)) (nums s) by rw [e9]; exact conv_kat _ _ _ (by omega))
                      rw [← e9]
                      clear e9 s0 s1
                      have FA := Lib.hid (heap_on hb FA.out)
                      have FG := Lib.hid (heap_on hb FG.out)
                      have FE := Lib.hid (heap_on hb FE.out)
                      have T := Lib.hid (T.out.later hb)
                      have B := Lib.hid (below_on B.out hb)
                      have CC := Lib.hid (cell_on CC.out hb)
                      clear hb
                      have s0 : z1.cell? ⟨A, 0, none⟩ = some (.slice (some ⟨b9, o9, none⟩) n0 p0) := cell_of_row _ _ _ _ _ (0, 0) FA.out
                      have s1 : z1.cell? ⟨E, 0, none⟩ = some (.int .i64 x) := cell_of_row _ _ _ _ _ (0, 0) FE.out
                      refine hK.out _ _ (⟨s0, s1, CC.out⟩) (fun hHeld => ?_)
                      clear hK K
                      try simp only [Act.put, List.setIfInBounds_toArray, List.set_cons_zero, List.set_cons_succ]
                      refine WP.step rfl (fun K hK => ?_)
                      go_simp
                      refine (T.out.act 0 (stepA_n HZS.out HS.out (by rw [← HN1.out]; exact hy) h3) rfl fun S hS => Append_any hS nmA (by decide) K9.out (nums_bytes _)).mono ?_
                      rintro _ z2 ⟨rfl, ht, hs⟩
                      clear s0 s1
                      have CC := Lib.hid (show z2.cell? ⟨b9, o9 + x, none⟩ = some (.string s) from (World.cell?_of_block (w := z1) (hs.block b9 (.inl (show b9 < C from hb9C)))).trans CC.out)
                      have FA := Lib.hid (hs.heap (.inl (show A < C by omega)) FA.out)
                      have FG := Lib.hid (hs.heap (.inl (show G < C by omega)) FG.out)
                      have FE := Lib.hid (hs.heap (.inr rfl) FE.out)
                      have B := Lib.hid (B.out.trans (hs.below (base := w.heap.size) (fun g hg => .inl (show g < C by omega))))
                      have T := Lib.hid ht
                      clear ht hs
                      have s0 : z2.cell? ⟨A, 0, none⟩ = some (.slice (some ⟨b9, o9, none⟩) n0 p0) := cell_of_row _ _ _ _ _ (0, 0) FA.out
                      have s1 : z2.cell? ⟨E, 0, none⟩ = some (.int .i64 x) := cell_of_row _ _ _ _ _ (0, 0) FE.out
                      go_wp2_with fail
                      refine hK.out _ _ (⟨s0, s1, CC.out⟩) (fun hHeld => ?_)
                      clear hK K
                      try simp only [Act.put, List.setIfInBounds_toArray, List.set_cons_zero, List.set_cons_succ]
                      refine WP.take (v := ?_) rfl (Or.inl ⟨by rfl, ?_⟩) ?_
                      rotate_left
                      · intro w8 hSw
                        (try dsimp only at hSw)
                        go_simp
                        any_goals with_reducible rfl
                      try simp only [Act.put, List.setIfInBounds_toArray, List.set_cons_zero, List.set_cons_succ]
                      refine WP.take (v := ?_) rfl (Or.inl ⟨by rfl, ?_⟩) ?_
                      rotate_left
                      · intro w8 hSw
                        (try dsimp only at hSw)
                        go_simp
                        any_goals with_reducible rfl
                      try simp only [Act.put, List.setIfInBounds_toArray, List.set_cons_zero, List.set_cons_succ]
                      refine WP.take (v := ?_) rfl (Or.inl ⟨by rfl, ?_⟩) ?_
                      rotate_left
                      · intro w8 hSw
                        (try dsimp only at hSw)
                        go_simp
                        any_goals with_reducible rfl
                      try simp only [Act.put, List.setIfInBounds_toArray, List.set_cons_zero, List.set_cons_succ]
                      refine WP.take (v := ?_) rfl (Or.inl ⟨by rfl, ?_⟩) ?_
                      rotate_left
                      · intro w8 hSw
                        (try dsimp only at hSw)
                        go_simp
                        any_goals with_reducible rfl
                      try simp only [Act.put, List.setIfInBounds_toArray, List.set_cons_zero, List.set_cons_succ]
                      refine WP.take (v := ?_) rfl (Or.inl ⟨by rfl, ?_⟩) ?_
                      rotate_left
                      · intro w8 hSw
                        (try dsimp only at hSw)
                        go_simp
                        any_goals with_reducible rfl
                      try simp only [Act.put, List.setIfInBounds_toArray, List.set_cons_zero, List.set_cons_succ]
                      refine WP.take (v := ?_) rfl (Or.inl ⟨by rfl, ?_⟩) ?_
                      rotate_left
                      · intro w8 hSw
                        (try dsimp only at hSw)
                        go_simp
                        any_goals with_reducible rfl
                      try simp only [Act.put, List.setIfInBounds_toArray, List.set_cons_zero, List.set_cons_succ]
                      refine WP.take (v := ?_) rfl (Or.inl ⟨by rfl, ?_⟩) ?_
                      rotate_left
                      · intro w8 hSw
                        (try dsimp only at hSw)
                        go_simp
                        any_goals with_reducible rfl
                      try simp only [Act.put, List.setIfInBounds_toArray, List.set_cons_zero, List.set_cons_succ]
                      refine WP.take (v := ?_) rfl (Or.inl ⟨by rfl, ?_⟩) ?_
                      rotate_left
                      · intro w8 hSw
                        (try dsimp only at hSw)
                        go_simp
                        any_goals with_reducible rfl
                      try simp only [Act.put, List.setIfInBounds_toArray, List.set_cons_zero, List.set_cons_succ]
                      refine WP.take (v := undef) rfl (Or.inr ⟨by rfl, rfl⟩) ?_
                      try simp only [Act.put, List.setIfInBounds_toArray, List.set_cons_zero, List.set_cons_succ]
                      refine WP.take (v := undef) rfl (Or.inr ⟨by rfl, rfl⟩) ?_
                      try simp only [Act.put, List.setIfInBounds_toArray, List.set_cons_zero, List.set_cons_succ]
                      refine WP.step rfl (fun K hK => ?_)
                      refine ite_else (by rfl) ?_
                      refine hK.out _ _ (hHeld) (fun hHeld => ?_)
                      clear hK K
                      try simp only [Act.put, List.setIfInBounds_toArray, List.set_cons_zero, List.set_cons_succ]
                      refine WP.take (v := undef) rfl (Or.inr ⟨by rfl, rfl⟩) ?_
                      try simp only [Act.put, List.setIfInBounds_toArray, List.set_cons_zero, List.set_cons_succ]
                      refine WP.take (v := ?_) rfl (Or.inl ⟨by rfl, ?_⟩) ?_
                      rotate_left
                      · intro w8 hSw
                        (try dsimp only at hSw)
                        go_simp
                        any_goals with_reducible rfl
                      try simp only [Act.put, List.setIfInBounds_toArray, List.set_cons_zero, List.set_cons_succ]
                      refine WP.take (v := ?_) rfl (Or.inl ⟨by rfl, ?_⟩) ?_
                      rotate_left
                      · intro w8 hSw
                        (try dsimp only at hSw)
                        go_simp
                        any_goals with_reducible rfl
                      try simp only [Act.put, List.setIfInBounds_toArray, List.set_cons_zero, List.set_cons_succ]
                      refine WP.done ?_
                      have f9 := frozen_row FE.out 0
                      go_wp2_with fail
                      go_roundg (n0 + n1 - (x + y + 1))
                      case measure => have h7 := HI9.out; have h8 := HM9.out; omega
                      case rel => exact ⟨x + 1, y, by omega, by omega, by omega, by rw [show ((i9 : Int) + 1) = ((x + 1 + (y) : Nat) : Int) by have := HI9.out; omega], Lib.hid (T.out.put E 0 _ (.inr rfl)), Lib.hid ((Below.heap_setCell _ _ _ _ (show A ≠ E by omega)).trans FA.out), Lib.hid ((Below.heap_setCell _ _ _ _ (show G ≠ E by omega)).trans FG.out), Lib.hid (heap_setCell_same _ E 0 _ _ _ FE.out), below_put B.out E 0 _ hwE⟩
                  · skip
                    obtain ⟨s, hs⟩ : ∃ s, L1[y]? = some s := ⟨_, List.getElem?_eq_getElem (by rw [← HN1.out]; exact hlt)⟩
                    obtain ⟨b9, o9, rfl, hcell⟩ := HC1.out (by omega)
                    have CC := Lib.hid (cell_on (hcell y s hs) (below_on HB9.out (below_drewN9 _ nd)))
                    have hb9C : b9 < C := by have h7 := World.block_lt_of_cell? (a := ⟨b9, o9 + y, none⟩) _ (hcell y s hs); simp only at h7; omega
                    have HS := Lib.hid hs
                    have hz9 := HZ1.out s (List.mem_of_getElem? hs)
                    clear hcell hs
                    by_cases h3 : y % 3 = 1
                    · have h3I : (y : Int).tmod 3 = 1 := by rw [Int.tmod_eq_emod_of_nonneg (by omega)]; omega
                      obtain ⟨wd, hwd⟩ : ∃ wd : World, wd = wr.drewN nd := ⟨_, rfl⟩
                      rw [← hwd] at FA FG FE T B CC ⊢
                      clear hwd
                      go_wp2_with fail
                      have hb : Below wd.heap.size wd wd.drew := ⟨rfl, rfl, rfl, Nat.le_refl _, fun _ _ => rfl⟩
                      have FA := Lib.hid (heap_on hb FA.out)
                      have FG := Lib.hid (heap_on hb FG.out)
                      have FE := Lib.hid (heap_on hb FE.out)
                      have T := Lib.hid (T.out.later hb)
                      have B := Lib.hid (below_on B.out hb)
                      have CC := Lib.hid (cell_on CC.out hb)
                      clear hb
                      have s0 : wd.drew.cell? ⟨A, 1, none⟩ = some (.slice (some ⟨b9, o9, none⟩) n1 p1) := cell_of_row _ _ _ _ _ (0, 0) FA.out
                      have s1 : wd.drew.cell? ⟨E, 1, none⟩ = some (.int .i64 y) := cell_of_row _ _ _ _ _ (0, 0) FE.out
                      have kcs := fun (W : World) (s : ByteArray) => Lib.run_convert_string_bytes (P := Tryd.prog) W 9 37 5 s Tryd.underlying9 Tryd.underlying37 Tryd.underlying5
                      refine wp_region_perm [(0, true), (1, true), (2, true), (3, true), (4, true), (5, true), (6, true), (7, true), (8, true), (9, true), (10, false), (11, false), (12, true), (13, true), (14, true), (15, true), (16, true), (17, true), (18, true), (19, true), (20, true), (21, true), (22, false), (23, true), (24, true), (25, true)] (fun w9 => w9.cell? ⟨A, 1, none⟩ = some (.slice (some ⟨b9, o9, none⟩) n1 p1) ∧ w9.cell? ⟨E, 1, none⟩ = some (.int .i64 y) ∧ w9.cell? ⟨b9, o9 + y, none⟩ = some (.string s)) (by kernel_rfl) (by kernel_rfl) (fun _ _ _ _ _ h => h) (⟨s0, s1, CC.out⟩) (fun hHeld => ?_)
                      refine WP.take (v := ?_) rfl (Or.inl ⟨by rfl, ?_⟩) ?_
                      rotate_left
                      · intro w8 hSw
                        (try dsimp only at hSw)
                        go_simp
                        any_goals with_reducible rfl
                      try simp only [Act.put, List.setIfInBounds_toArray, List.set_cons_zero, List.set_cons_succ]
                      refine WP.take (v := ?_) rfl (Or.inl ⟨by rfl, ?_⟩) ?_
                      rotate_left
                      · intro w8 hSw
                        (try dsimp only at hSw)
                        go_simp
                        any_goals with_reducible rfl
                      try simp only [Act.put, List.setIfInBounds_toArray, List.set_cons_zero, List.set_cons_succ]
                      refine WP.take (v := ?_) rfl (Or.inl ⟨by rfl, ?_⟩) ?_
                      rotate_left
                      · intro w8 hSw
                        (try dsimp only at hSw)
                        go_simp
                        any_goals with_reducible rfl
                      try simp only [Act.put, List.setIfInBounds_toArray, List.set_cons_zero, List.set_cons_succ]
                      refine WP.take (v := ?_) rfl (Or.inl ⟨by rfl, ?_⟩) ?_
                      rotate_left
                      · intro w8 hSw
                        (try dsimp only at hSw)
                        go_simp
                        any_goals with_reducible rfl
                      try simp only [Act.put, List.setIfInBounds_toArray, List.set_cons_zero, List.set_cons_succ]
                      refine WP.take (v := ?_) rfl (Or.inl ⟨by rfl, ?_⟩) ?_
                      rotate_left
                      · intro w8 hSw
                        (try dsimp only at hSw)
                        go_simp
                        any_goals with_reducible rfl
                      try simp only [Act.put, List.setIfInBounds_toArray, List.set_cons_zero, List.set_cons_succ]
                      refine WP.take (v := ?_) rfl (Or.inl ⟨by rfl, ?_⟩) ?_
                      rotate_left
                      · intro w8 hSw
                        (try dsimp only at hSw)
                        go_simp
                        any_goals with_reducible rfl
                      try simp only [Act.put, List.setIfInBounds_toArray, List.set_cons_zero, List.set_cons_succ]
                      refine WP.take (v := ?_) rfl (Or.inl ⟨by rfl, ?_⟩) ?_
                      rotate_left
                      · intro w8 hSw
                        (try dsimp only at hSw)
                        go_simp
                        any_goals with_reducible rfl
                      try simp only [Act.put, List.setIfInBounds_toArray, List.set_cons_zero, List.set_cons_succ]
                      refine WP.take (v := ?_) rfl (Or.inl ⟨by rfl, ?_⟩) ?_
                      rotate_left
                      · intro w8 hSw
                        (try dsimp only at hSw)
                        go_simp
                        any_goals with_reducible rfl
                      try simp only [Act.put, List.setIfInBounds_toArray, List.set_cons_zero, List.set_cons_succ]
                      refine WP.take (v := ?_) rfl (Or.inl ⟨by rfl, ?_⟩) ?_
                      rotate_left
                      · intro w8 hSw
                        (try dsimp only at hSw)
                        go_simp
                        any_goals with_reducible rfl
                      try simp only [Act.put, List.setIfInBounds_toArray, List.set_cons_zero, List.set_cons_succ]
                      refine WP.take (v := ?_) rfl (Or.inl ⟨by rfl, ?_⟩) ?_
                      rotate_left
                      · intro w8 hSw
                        (try dsimp only at hSw)
                        go_simp
                        any_goals with_reducible rfl
                      try simp only [Act.put, List.setIfInBounds_toArray, List.set_cons_zero, List.set_cons_succ]
                      refine WP.step rfl (fun K hK => ?_)
                      go_simp
                      clear kcs
                      obtain ⟨z1, e9⟩ : ∃ z1 : World, z1 = Lib.bytesWorld wd.drew 5 s := ⟨_, rfl⟩
                      have hb : Below wd.drew.heap.size wd.drew z1 := by rw [e9]; exact conv_below _ _ _
                      have K9 := Lib.hid (show KAt .u8 z1 (.slice (some ⟨wd.drew.heap.size, 0, none⟩) s.size (grownCap wd.drew s.size 0 5)) (nums s) by rw [e9]; exact conv_kat _ _ _ (by omega))
                      rw [← e9]
                      clear e9 s0 s1
                      have FA := Lib.hid (heap_on hb FA.out)
                      have FG := Lib.hid (heap_on hb FG.out)
                      have FE := Lib.hid (heap_on hb FE.out)
                      have T := Lib.hid (T.out.later hb)
                      have B := Lib.hid (below_on B.out hb)
                      have CC := Lib.hid (cell_on CC.out hb)
                      clear hb
                      have s0 : z1.cell? ⟨A, 1, none⟩ = some (.slice (some ⟨b9, o9, none⟩) n1 p1) := cell_of_row _ _ _ _ _ (0, 0) FA.out
                      have s1 : z1.cell? ⟨E, 1, none⟩ = some (.int .i64 y) := cell_of_row _ _ _ _ _ (0, 0) FE.out
                      refine hK.out _ _ (⟨s0, s1, CC.out⟩) (fun hHeld => ?_)
                      clear hK K
                      try simp only [Act.put, List.setIfInBounds_toArray, List.set_cons_zero, List.set_cons_succ]
                      refine WP.step rfl (fun K hK => ?_)
                      go_simp
                      obtain ⟨N9, hN1, hN2⟩ := stepB_s HZS.out HS.out (by rw [← HN0.out]; exact hx : x ≤ L0.length) h3
                      have hN1 := Lib.hid hN1
                      have hN2 := Lib.hid hN2
                      refine (T.out.act 0 hN1.out rfl fun S hS => Append_any hS nmB (by decide) K9.out (nums_bytes _)).mono ?_
                      rintro _ z2 ⟨rfl, ht, hs⟩
                      clear s0 s1
                      have CC := Lib.hid (show z2.cell? ⟨b9, o9 + y, none⟩ = some (.string s) from (World.cell?_of_block (w := z1) (hs.block b9 (.inl (show b9 < C from hb9C)))).trans CC.out)
                      have FA := Lib.hid (hs.heap (.inl (show A < C by omega)) FA.out)
                      have FG := Lib.hid (hs.heap (.inl (show G < C by omega)) FG.out)
                      have FE := Lib.hid (hs.heap (.inr rfl) FE.out)
                      have B := Lib.hid (B.out.trans (hs.below (base := w.heap.size) (fun g hg => .inl (show g < C by omega))))
                      have T := Lib.hid ht
                      clear ht hs
                      have s0 : z2.cell? ⟨A, 1, none⟩ = some (.slice (some ⟨b9, o9, none⟩) n1 p1) := cell_of_row _ _ _ _ _ (0, 0) FA.out
                      have s1 : z2.cell? ⟨E, 1, none⟩ = some (.int .i64 y) := cell_of_row _ _ _ _ _ (0, 0) FE.out
                      go_wp2_with fail
                      refine hK.out _ _ (⟨s0, s1, CC.out⟩) (fun hHeld => ?_)
                      clear hK K
                      try simp only [Act.put, List.setIfInBounds_toArray, List.set_cons_zero, List.set_cons_succ]
                      refine WP.take (v := ?_) rfl (Or.inl ⟨by rfl, ?_⟩) ?_
                      rotate_left
                      · intro w8 hSw
                        (try dsimp only at hSw)
                        go_simp
                        any_goals with_reducible rfl
                      try simp only [Act.put, List.setIfInBounds_toArray, List.set_cons_zero, List.set_cons_succ]
                      refine WP.take (v := ?_) rfl (Or.inl ⟨by rfl, ?_⟩) ?_
                      rotate_left
                      · intro w8 hSw
                        (try dsimp only at hSw)
                        go_simp
                        any_goals with_reducible rfl
                      try simp only [Act.put, List.setIfInBounds_toArray, List.set_cons_zero, List.set_cons_succ]
                      refine WP.take (v := ?_) rfl (Or.inl ⟨by rfl, ?_⟩) ?_
                      rotate_left
                      · intro w8 hSw
                        (try dsimp only at hSw)
                        go_simp
                        any_goals with_reducible rfl
                      try simp only [Act.put, List.setIfInBounds_toArray, List.set_cons_zero, List.set_cons_succ]
                      refine WP.take (v := ?_) rfl (Or.inl ⟨by rfl, ?_⟩) ?_
                      rotate_left
                      · intro w8 hSw
                        (try dsimp only at hSw)
                        go_simp
                        any_goals with_reducible rfl
                      try simp only [Act.put, List.setIfInBounds_toArray, List.set_cons_zero, List.set_cons_succ]
                      refine WP.take (v := ?_) rfl (Or.inl ⟨by rfl, ?_⟩) ?_
                      rotate_left
                      · intro w8 hSw
                        (try dsimp only at hSw)
                        go_simp
                        any_goals with_reducible rfl
                      try simp only [Act.put, List.setIfInBounds_toArray, List.set_cons_zero, List.set_cons_succ]
                      refine WP.take (v := ?_) rfl (Or.inl ⟨by rfl, ?_⟩) ?_
                      rotate_left
                      · intro w8 hSw
                        (try dsimp only at hSw)
                        go_simp
                        any_goals with_reducible rfl
                      try simp only [Act.put, List.setIfInBounds_toArray, List.set_cons_zero, List.set_cons_succ]
                      refine WP.take (v := ?_) rfl (Or.inl ⟨by rfl, ?_⟩) ?_
                      rotate_left
                      · intro w8 hSw
                        (try dsimp only at hSw)
                        go_simp
                        any_goals with_reducible rfl
                      try simp only [Act.put, List.setIfInBounds_toArray, List.set_cons_zero, List.set_cons_succ]
                      refine WP.take (v := ?_) rfl (Or.inl ⟨by rfl, ?_⟩) ?_
                      rotate_left
                      · intro w8 hSw
                        (try dsimp only at hSw)
                        go_simp
                        any_goals with_reducible rfl
                      try simp only [Act.put, List.setIfInBounds_toArray, List.set_cons_zero, List.set_cons_succ]
                      refine WP.take (v := ?_) rfl (Or.inl ⟨by rfl, ?_⟩) ?_
                      rotate_left
                      · intro w8 hSw
                        (try dsimp only at hSw)
                        go_simp
                        any_goals with_reducible rfl
                      try simp only [Act.put, List.setIfInBounds_toArray, List.set_cons_zero, List.set_cons_succ]
                      refine WP.take (v := ?_) rfl (Or.inl ⟨by rfl, ?_⟩) ?_
                      rotate_left
                      · intro w8 hSw
                        (try dsimp only at hSw)
                        go_simp
                        any_goals with_reducible rfl
                      try simp only [Act.put, List.setIfInBounds_toArray, List.set_cons_zero, List.set_cons_succ]
                      refine WP.step rfl (fun K hK => ?_)
                      go_simp
                      refine (T.out.act 0 hN2.out rfl fun S hS => Sync_any hS nmB (by decide)).mono ?_
                      rintro _ z3 ⟨rfl, ht, hs⟩
                      clear s0 s1
                      have CC := Lib.hid (show z3.cell? ⟨b9, o9 + y, none⟩ = some (.string s) from (World.cell?_of_block (w := z2) (hs.block b9 (.inl (show b9 < C from hb9C)))).trans CC.out)
                      have FA := Lib.hid (hs.heap (.inl (show A < C by omega)) FA.out)
                      have FG := Lib.hid (hs.heap (.inl (show G < C by omega)) FG.out)
                      have FE := Lib.hid (hs.heap (.inr rfl) FE.out)
                      have B := Lib.hid (B.out.trans (hs.below (base := w.heap.size) (fun g hg => .inl (show g < C by omega))))
                      have T := Lib.hid ht
                      clear ht hs
                      have s0 : z3.cell? ⟨A, 1, none⟩ = some (.slice (some ⟨b9, o9, none⟩) n1 p1) := cell_of_row _ _ _ _ _ (0, 0) FA.out
                      have s1 : z3.cell? ⟨E, 1, none⟩ = some (.int .i64 y) := cell_of_row _ _ _ _ _ (0, 0) FE.out
                      go_wp2_with fail
                      refine hK.out _ _ (⟨s0, s1, CC.out⟩) (fun hHeld => ?_)
                      clear hK K
                      try simp only [Act.put, List.setIfInBounds_toArray, List.set_cons_zero, List.set_cons_succ]
                      refine WP.take (v := ?_) rfl (Or.inl ⟨by rfl, ?_⟩) ?_
                      rotate_left
                      · intro w8 hSw
                        (try dsimp only at hSw)
                        go_simp
                        any_goals with_reducible rfl
                      try simp only [Act.put, List.setIfInBounds_toArray, List.set_cons_zero, List.set_cons_succ]
                      refine WP.take (v := ?_) rfl (Or.inl ⟨by rfl, ?_⟩) ?_
                      rotate_left
                      · intro w8 hSw
                        (try dsimp only at hSw)
                        go_simp
                        any_goals with_reducible rfl
                      try simp only [Act.put, List.setIfInBounds_toArray, List.set_cons_zero, List.set_cons_succ]
                      refine WP.take (v := ?_) rfl (Or.inl ⟨by rfl, ?_⟩) ?_
                      rotate_left
                      · intro w8 hSw
                        (try dsimp only at hSw)
                        go_simp
                        any_goals with_reducible rfl
                      try simp only [Act.put, List.setIfInBounds_toArray, List.set_cons_zero, List.set_cons_succ]
                      refine WP.done ?_
                      have f9 := frozen_row FE.out 1
                      go_wp2_with fail
                      go_roundg (n0 + n1 - (x + y + 1))
                      case measure => have h7 := HI9.out; have h8 := HM9.out; omega
                      case rel => exact ⟨x, y + 1, by omega, by omega, by omega, by rw [show ((i9 : Int) + 1) = ((x + (y + 1) : Nat) : Int) by have := HI9.out; omega], Lib.hid (T.out.put E 1 _ (.inr rfl)), Lib.hid ((Below.heap_setCell _ _ _ _ (show A ≠ E by omega)).trans FA.out), Lib.hid ((Below.heap_setCell _ _ _ _ (show G ≠ E by omega)).trans FG.out), Lib.hid (heap_setCell_same _ E 1 _ _ _ FE.out), below_put B.out E 1 _ hwE⟩
                    · obtain ⟨r3, hr3⟩ : ∃ r3 : Nat, r3 = y % 3 := ⟨_, rfl⟩
                      have h3I : (y : Int).tmod 3 = (r3 : Int) := by rw [Int.tmod_eq_emod_of_nonneg (by omega)]; omega
                      have h3n : ¬ ((r3 : Int) = 1) := by omega
                      have h3b : ((r3 : Int) == 1) = false := by simpa using h3n
                      clear hr3
                      obtain ⟨wd, hwd⟩ : ∃ wd : World, wd = wr.drewN nd := ⟨_, rfl⟩
                      rw [← hwd] at FA FG FE T B CC ⊢
                      clear hwd
                      go_wp2_with fail
                      have hb : Below wd.heap.size wd wd.drew := ⟨rfl, rfl, rfl, Nat.le_refl _, fun _ _ => rfl⟩
                      have FA := Lib.hid (heap_on hb FA.out)
                      have FG := Lib.hid (heap_on hb FG.out)
                      have FE := Lib.hid (heap_on hb FE.out)
                      have T := Lib.hid (T.out.later hb)
                      have B := Lib.hid (below_on B.out hb)
                      have CC := Lib.hid (cell_on CC.out hb)
                      clear hb
                      have s0 : wd.drew.cell? ⟨A, 1, none⟩ = some (.slice (some ⟨b9, o9, none⟩) n1 p1) := cell_of_row _ _ _ _ _ (0, 0) FA.out
                      have s1 : wd.drew.cell? ⟨E, 1, none⟩ = some (.int .i64 y) := cell_of_row _ _ _ _ _ (0, 0) FE.out
                      have kcs := fun (W : World) (s : ByteArray) => Lib.run_convert_string_bytes (P := Tryd.prog) W 9 37 5 s Tryd.underlying9 Tryd.underlying37 Tryd.underlying5
                      refine wp_region_perm [(0, true), (1, true), (2, true), (3, true), (4, true), (5, true), (6, true), (7, true), (8, true), (9, true), (10, false), (11, false), (12, true), (13, true), (14, true), (15, true), (16, true), (17, true), (18, true), (19, true), (20, true), (21, true), (22, false), (23, true), (24, true), (25, true)] (fun w9 => w9.cell? ⟨A, 1, none⟩ = some (.slice (some ⟨b9, o9, none⟩) n1 p1) ∧ w9.cell? ⟨E, 1, none⟩ = some (.int .i64 y) ∧ w9.cell? ⟨b9, o9 + y, none⟩ = some (.string s)) (by kernel_rfl) (by kernel_rfl) (fun _ _ _ _ _ h => h) (⟨s0, s1, CC.out⟩) (fun hHeld => ?_)
                      refine WP.take (v := ?_) rfl (Or.inl ⟨by rfl, ?_⟩) ?_
                      rotate_left
                      · intro w8 hSw
                        (try dsimp only at hSw)
                        go_simp
                        any_goals with_reducible rfl
                      try simp only [Act.put, List.setIfInBounds_toArray, List.set_cons_zero, List.set_cons_succ]
                      refine WP.take (v := ?_) rfl (Or.inl ⟨by rfl, ?_⟩) ?_
                      rotate_left
                      · intro w8 hSw
                        (try dsimp only at hSw)
                        go_simp
                        any_goals with_reducible rfl
                      try simp only [Act.put, List.setIfInBounds_toArray, List.set_cons_zero, List.set_cons_succ]
                      refine WP.take (v := ?_) rfl (Or.inl ⟨by rfl, ?_⟩) ?_
                      rotate_left
                      · intro w8 hSw
                        (try dsimp only at hSw)
                        go_simp
                        any_goals with_reducible rfl
                      try simp only [Act.put, List.setIfInBounds_toArray, List.set_cons_zero, List.set_cons_succ]
                      refine WP.take (v := ?_) rfl (Or.inl ⟨by rfl, ?_⟩) ?_
                      rotate_left
                      · intro w8 hSw
                        (try dsimp only at hSw)
                        go_simp
                        any_goals with_reducible rfl
                      try simp only [Act.put, List.setIfInBounds_toArray, List.set_cons_zero, List.set_cons_succ]
                      refine WP.take (v := ?_) rfl (Or.inl ⟨by rfl, ?_⟩) ?_
                      rotate_left
                      · intro w8 hSw
                        (try dsimp only at hSw)
                        go_simp
                        any_goals with_reducible rfl
                      try simp only [Act.put, List.setIfInBounds_toArray, List.set_cons_zero, List.set_cons_succ]
                      refine WP.take (v := ?_) rfl (Or.inl ⟨by rfl, ?_⟩) ?_
                      rotate_left
                      · intro w8 hSw
                        (try dsimp only at hSw)
                        go_simp
                        any_goals with_reducible rfl
                      try simp only [Act.put, List.setIfInBounds_toArray, List.set_cons_zero, List.set_cons_succ]
                      refine WP.take (v := ?_) rfl (Or.inl ⟨by rfl, ?_⟩) ?_
                      rotate_left
                      · intro w8 hSw
                        (try dsimp only at hSw)
                        go_simp
                        any_goals with_reducible rfl
                      try simp only [Act.put, List.setIfInBounds_toArray, List.set_cons_zero, List.set_cons_succ]
                      refine WP.take (v := ?_) rfl (Or.inl ⟨by rfl, ?_⟩) ?_
                      rotate_left
                      · intro w8 hSw
                        (try dsimp only at hSw)
                        go_simp
                        any_goals with_reducible rfl
                      try simp only [Act.put, List.setIfInBounds_toArray, List.set_cons_zero, List.set_cons_succ]
                      refine WP.take (v := ?_) rfl (Or.inl ⟨by rfl, ?_⟩) ?_
                      rotate_left
                      · intro w8 hSw
                        (try dsimp only at hSw)
                        go_simp
                        any_goals with_reducible rfl
                      try simp only [Act.put, List.setIfInBounds_toArray, List.set_cons_zero, List.set_cons_succ]
                      refine WP.take (v := ?_) rfl (Or.inl ⟨by rfl, ?_⟩) ?_
                      rotate_left
                      · intro w8 hSw
                        (try dsimp only at hSw)
                        go_simp
                        any_goals with_reducible rfl
                      try simp only [Act.put, List.setIfInBounds_toArray, List.set_cons_zero, List.set_cons_succ]
                      refine WP.step rfl (fun K hK => ?_)
                      go_simp
                      clear kcs
                      obtain ⟨z1, e9⟩ : ∃ z1 : World, z1 = Lib.bytesWorld wd.drew 5 s := ⟨_, rfl⟩
                      have hb : Below wd.drew.heap.size wd.drew z1 := by rw [e9]; exact conv_below _ _ _
                      have K9 := Lib.hid (show KAt .u8 z1 (.slice (some ⟨wd.drew.heap.size, 0, none⟩) s.size (grownCap wd.drew s.size 0 5)) (nums s) by rw [e9]; exact conv_kat _ _ _ (by omega))
                      rw [← e9]
                      clear e9 s0 s1
                      have FA := Lib.hid (heap_on hb FA.out)
                      have FG := Lib.hid (heap_on hb FG.out)
                      have FE := Lib.hid (heap_on hb FE.out)
                      have T := Lib.hid (T.out.later hb)
                      have B := Lib.hid (below_on B.out hb)
                      have CC := Lib.hid (cell_on CC.out hb)
                      clear hb
                      have s0 : z1.cell? ⟨A, 1, none⟩ = some (.slice (some ⟨b9, o9, none⟩) n1 p1) := cell_of_row _ _ _ _ _ (0, 0) FA.out
                      have s1 : z1.cell? ⟨E, 1, none⟩ = some (.int .i64 y) := cell_of_row _ _ _ _ _ (0, 0) FE.out
                      refine hK.out _ _ (⟨s0, s1, CC.out⟩) (fun hHeld => ?_)
                      clear hK K
                      try simp only [Act.put, List.setIfInBounds_toArray, List.set_cons_zero, List.set_cons_succ]
                      refine WP.step rfl (fun K hK => ?_)
                      go_simp
                      refine (T.out.act 0 (stepB_n HZS.out HS.out (by rw [← HN0.out]; exact hx) h3) rfl fun S hS => Append_any hS nmB (by decide) K9.out (nums_bytes _)).mono ?_
                      rintro _ z2 ⟨rfl, ht, hs⟩
                      clear s0 s1
                      have CC := Lib.hid (show z2.cell? ⟨b9, o9 + y, none⟩ = some (.string s) from (World.cell?_of_block (w := z1) (hs.block b9 (.inl (show b9 < C from hb9C)))).trans CC.out)
                      have FA := Lib.hid (hs.heap (.inl (show A < C by omega)) FA.out)
                      have FG := Lib.hid (hs.heap (.inl (show G < C by omega)) FG.out)
                      have FE := Lib.hid (hs.heap (.inr rfl) FE.out)
                      have B := Lib.hid (B.out.trans (hs.below (base := w.heap.size) (fun g hg => .inl (show g < C by omega))))
                      have T := Lib.hid ht
                      clear ht hs
                      have s0 : z2.cell? ⟨A, 1, none⟩ = some (.slice (some ⟨b9, o9, none⟩) n1 p1) := cell_of_row _ _ _ _ _ (0, 0) FA.out
                      have s1 : z2.cell? ⟨E, 1, none⟩ = some (.int .i64 y) := cell_of_row _ _ _ _ _ (0, 0) FE.out
                      go_wp2_with fail
                      refine hK.out _ _ (⟨s0, s1, CC.out⟩) (fun hHeld => ?_)
                      clear hK K
                      try simp only [Act.put, List.setIfInBounds_toArray, List.set_cons_zero, List.set_cons_succ]
                      refine WP.take (v := ?_) rfl (Or.inl ⟨by rfl, ?_⟩) ?_
                      rotate_left
                      · intro w8 hSw
                        (try dsimp only at hSw)
                        go_simp
                        any_goals with_reducible rfl
                      try simp only [Act.put, List.setIfInBounds_toArray, List.set_cons_zero, List.set_cons_succ]
                      refine WP.take (v := ?_) rfl (Or.inl ⟨by rfl, ?_⟩) ?_
                      rotate_left
                      · intro w8 hSw
                        (try dsimp only at hSw)
                        go_simp
                        any_goals with_reducible rfl
                      try simp only [Act.put, List.setIfInBounds_toArray, List.set_cons_zero, List.set_cons_succ]
                      refine WP.take (v := ?_) rfl (Or.inl ⟨by rfl, ?_⟩) ?_
                      rotate_left
                      · intro w8 hSw
                        (try dsimp only at hSw)
                        go_simp
                        any_goals with_reducible rfl
                      try simp only [Act.put, List.setIfInBounds_toArray, List.set_cons_zero, List.set_cons_succ]
                      refine WP.take (v := ?_) rfl (Or.inl ⟨by rfl, ?_⟩) ?_
                      rotate_left
                      · intro w8 hSw
                        (try dsimp only at hSw)
                        go_simp
                        any_goals with_reducible rfl
                      try simp only [Act.put, List.setIfInBounds_toArray, List.set_cons_zero, List.set_cons_succ]
                      refine WP.take (v := ?_) rfl (Or.inl ⟨by rfl, ?_⟩) ?_
                      rotate_left
                      · intro w8 hSw
                        (try dsimp only at hSw)
                        go_simp
                        any_goals with_reducible rfl
                      try simp only [Act.put, List.setIfInBounds_toArray, List.set_cons_zero, List.set_cons_succ]
                      refine WP.take (v := ?_) rfl (Or.inl ⟨by rfl, ?_⟩) ?_
                      rotate_left
                      · intro w8 hSw
                        (try dsimp only at hSw)
                        go_simp
                        any_goals with_reducible rfl
                      try simp only [Act.put, List.setIfInBounds_toArray, List.set_cons_zero, List.set_cons_succ]
                      refine WP.take (v := ?_) rfl (Or.inl ⟨by rfl, ?_⟩) ?_
                      rotate_left
                      · intro w8 hSw
                        (try dsimp only at hSw)
                        go_simp
                        any_goals with_reducible rfl
                      try simp only [Act.put, List.setIfInBounds_toArray, List.set_cons_zero, List.set_cons_succ]
                      refine WP.take (v := ?_) rfl (Or.inl ⟨by rfl, ?_⟩) ?_
                      rotate_left
                      · intro w8 hSw
                        (try dsimp only at hSw)
                        go_simp
                        any_goals with_reducible rfl
                      try simp only [Act.put, List.setIfInBounds_toArray, List.set_cons_zero, List.set_cons_succ]
                      refine WP.take (v := undef) rfl (Or.inr ⟨by rfl, rfl⟩) ?_
                      try simp only [Act.put, List.setIfInBounds_toArray, List.set_cons_zero, List.set_cons_succ]
                      refine WP.take (v := undef) rfl (Or.inr ⟨by rfl, rfl⟩) ?_
                      try simp only [Act.put, List.setIfInBounds_toArray, List.set_cons_zero, List.set_cons_succ]
                      refine WP.step rfl (fun K hK => ?_)
                      refine ite_else (by rfl) ?_
                      refine hK.out _ _ (hHeld) (fun hHeld => ?_)
                      clear hK K
                      try simp only [Act.put, List.setIfInBounds_toArray, List.set_cons_zero, List.set_cons_succ]
                      refine WP.take (v := undef) rfl (Or.inr ⟨by rfl, rfl⟩) ?_
                      try simp only [Act.put, List.setIfInBounds_toArray, List.set_cons_zero, List.set_cons_succ]
                      refine WP.take (v := ?_) rfl (Or.inl ⟨by rfl, ?_⟩) ?_
                      rotate_left
                      · intro w8 hSw
                        (try dsimp only at hSw)
                        go_simp
                        any_goals with_reducible rfl
                      try simp only [Act.put, List.setIfInBounds_toArray, List.set_cons_zero, List.set_cons_succ]
                      refine WP.take (v := ?_) rfl (Or.inl ⟨by rfl, ?_⟩) ?_
                      rotate_left
                      · intro w8 hSw
                        (try dsimp only at hSw)
                        go_simp
                        any_goals with_reducible rfl
                      try simp only [Act.put, List.setIfInBounds_toArray, List.set_cons_zero, List.set_cons_succ]
                      refine WP.done ?_
                      have f9 := frozen_row FE.out 1
                      go_wp2_with fail
                      go_roundg (n0 + n1 - (x + y + 1))
                      case measure => have h7 := HI9.out; have h8 := HM9.out; omega
                      case rel => exact ⟨x, y + 1, by omega, by omega, by omega, by rw [show ((i9 : Int) + 1) = ((x + (y + 1) : Nat) : Int) by have := HI9.out; omega], Lib.hid (T.out.put E 1 _ (.inr rfl)), Lib.hid ((Below.heap_setCell _ _ _ _ (show A ≠ E by omega)).trans FA.out), Lib.hid ((Below.heap_setCell _ _ _ _ (show G ≠ E by omega)).trans FG.out), Lib.hid (heap_setCell_same _ E 1 _ _ _ FE.out), below_put B.out E 1 _ hwE⟩
        · have hendI : ¬ ((i9 : Int) < (m9 : Int)) := by omega
          have hx9 : x = n0 := by have := HI9.out; have := HM9.out; omega
          have hy9 : y = n1 := by have := HI9.out; have := HM9.out; omega
          go_wp2_with fail
          clear e0 e1 k0 k1
          have T := Lib.hid (show (OneK (fun g => g < C ∨ g = E) wr C C (two2 (rowAt L0 n0) (rowAt L1 n1))) from by have h9 := T.out; rw [hx9, hy9] at h9; exact h9)
          refine (T.out.act 0 rfl rfl fun S hS => Names_any hS).mono ?_
          rintro _ w81 ⟨rfl, ht, hs⟩
          have FA := Lib.hid (hs.heap (.inl (show A < C by omega)) FA.out)
          have FG := Lib.hid (hs.heap (.inl (show G < C by omega)) FG.out)
          have FE := Lib.hid (hs.heap (.inr rfl) FE.out)
          have B := Lib.hid (B.out.trans (hs.below (base := w.heap.size) (fun g hg => .inl (show g < C by omega))))
          have T := Lib.hid ht
          clear ht hs
          have f9 := frozen_row FG.out 0
          have g9 := cell_of_row _ G 0 _ _ (0, 0) FG.out
          go_wp2_with fail
          go_roundw
          case rel => exact .inr (.inl ⟨rfl, C, hGC, Lib.hid ((T.out.put G 0 _ (.inl hGC)).less (fun g hg => .inl hg)), Lib.hid ((Below.heap_setCell _ _ _ _ (show A ≠ G by omega)).trans FA.out), Lib.hid (heap_setCell_same _ G 0 _ _ _ FG.out), below_put B.out G 0 _ hwG⟩)
          case measure => simp [intOf]
    · have B := Lib.hid hb
      clear hb
      go_wp2_with fail
      refine (New_yes 50000 wr (by decide) (by decide)).mono ?_
      rintro _ w11 ⟨rfl, hd, hb⟩
      obtain ⟨D, hX⟩ : ∃ C, C = wr.heap.size := ⟨_, rfl⟩
      have T := Lib.hid (T.out.beside hb hd (Nat.le_refl _))
      rw [← hX] at T ⊢
      have FA := Lib.hid (heap_on hb FA.out)
      have FG := Lib.hid (heap_on hb FG.out)
      have B := Lib.hid (below_on B.out hb)
      clear hb hd hX
      go_wp2_with fail
      refine (T.out.act2 0 two2_create1 rfl fun S hS => Create_any hS nmA (by decide)).mono ?_
      rintro _ w12 ⟨rfl, ht, hs⟩
      have FA := Lib.hid (hs.heap (show A < C by omega) FA.out)
      have FG := Lib.hid (hs.heap (show G < C by omega) FG.out)
      have B := Lib.hid (B.out.trans (hs.below (base := w.heap.size) (fun g hg => (show g < C by omega))))
      have T := Lib.hid ht
      clear ht hs
      go_wp2_with fail
      refine (T.out.act2 0 two2_create2 rfl fun S hS => Create_any hS nmB (by decide)).mono ?_
      rintro _ w13 ⟨rfl, ht, hs⟩
      have FA := Lib.hid (hs.heap (show A < C by omega) FA.out)
      have FG := Lib.hid (hs.heap (show G < C by omega) FG.out)
      have B := Lib.hid (B.out.trans (hs.below (base := w.heap.size) (fun g hg => (show g < C by omega))))
      have T := Lib.hid ht
      clear ht hs
      go_wp2_with fail
      obtain ⟨w14, e9⟩ : ∃ w14 : World, w14 = w13.alloc (.cells #[.int .i64 0, .int .i64 0] 56) := ⟨_, rfl⟩
      have hb : Below w13.heap.size w13 w14 := by rw [e9]; exact (Below.refl _ _).alloc (Nat.le_refl _) _
      have h9 : w14.heap[w13.heap.size]? = some (.cells #[.int .i64 0, .int .i64 0] 56) := by rw [e9]; exact heap_alloc_new _ _
      rw [← e9]
      clear e9
      obtain ⟨E, hE⟩ : ∃ E, E = w13.heap.size := ⟨_, rfl⟩
      have hwE : w.heap.size ≤ E := by rw [hE]; exact B.out.size
      have hGE : G < E := by rw [hE]; exact lt_of_heap FG.out
      rw [← hE] at h9 ⊢
      have hEs : E < w14.heap.size := lt_of_heap h9
      have T := Lib.hid (T.out.more (G := E) hb (by omega) hEs)
      have FE := Lib.hid h9
      have FA := Lib.hid (heap_on hb FA.out)
      have FG := Lib.hid (heap_on hb FG.out)
      have B := Lib.hid (below_on B.out hb)
      clear hb h9 hE hEs
      go_wp2_with fail
      obtain ⟨wo, hwo⟩ : ∃ wo : World, wo = w14 := ⟨_, rfl⟩
      rw [← hwo] at T FA FG FE B ⊢
      clear hwo
      go_loopg [12] (n0 + n1) (fun g i wr => ∃ x y : Nat, g = n0 + n1 - (x + y) ∧ x ≤ n0 ∧ y ≤ n1 ∧ i = .int .i64 (x + y : Nat) ∧ Hid (TwoK (fun g => g < C ∨ g = E) wr C C D ((two2 (rowAt L0 n0) (rowAt L1 n1)).names) (two2 (rowAt L0 x) (rowAt L1 y))) ∧ Hid (wr.heap[A]? = some (.cells #[.slice a0 n0 p0, .slice a1 n1 p1] 53 (0, 0))) ∧ Hid (wr.heap[G]? = some (.cells #[.pointer (some ⟨C, 0, none⟩), .pointer none] 55 (0, 0))) ∧ Hid (wr.heap[E]? = some (.cells #[.int .i64 (x : Nat), .int .i64 (y : Nat)] 56 (0, 0))) ∧ Below w.heap.size w wr)
      case atStart => exact ⟨0, 0, rfl, Nat.zero_le _, Nat.zero_le _, rfl, T, FA, FG, FE, B.out⟩
      case round =>
        clear T FA FG FE B
        obtain ⟨x, y, hg9, hx, hy, rfl, T, FA, FG, FE, hb⟩ := hrel
        have B := Lib.hid hb
        have HB9 := Lib.hid hb
        clear hb
        obtain ⟨i9, hi9⟩ : ∃ i9, i9 = x + y := ⟨_, rfl⟩
        obtain ⟨m9, hm9⟩ : ∃ m9, m9 = n0 + n1 := ⟨_, rfl⟩
        have ei : (x : Int) + (y : Int) = (i9 : Int) := by omega
        have em : (n0 : Int) + (n1 : Int) = (m9 : Int) := by omega
        have hxI : (x : Int) ≤ 20 := by omega
        have hyI : (y : Int) ≤ 20 := by omega
        have hi40 : (i9 : Int) ≤ 40 := by omega
        rw [← hi9]
        have HI9 := Lib.hid hi9
        have HM9 := Lib.hid hm9
        clear hi9 hm9
        have e0 : wr.cell? ⟨E, 0, none⟩ = some (.int .i64 x) := cell_of_row _ _ _ _ _ (0, 0) FE.out
        have e1 : wr.cell? ⟨E, 1, none⟩ = some (.int .i64 y) := cell_of_row _ _ _ _ _ (0, 0) FE.out
        have k0 : wr.cell? ⟨A, 0, none⟩ = some (.slice a0 n0 p0) := cell_of_row _ _ _ _ _ (0, 0) FA.out
        have k1 : wr.cell? ⟨A, 1, none⟩ = some (.slice a1 n1 p1) := cell_of_row _ _ _ _ _ (0, 0) FA.out
        by_cases hend : i9 < m9
        · have hendI : (i9 : Int) < (m9 : Int) := by omega
          go_upto_region 15 with fail
          go_cut [13, 96] (fun kk c wx => kk = .int .i64 0 ∧ (∃ b : Bool, c = .bool b ∧ (b = false → x ≠ n0)) ∧ wx = wr)
          case first =>
            by_cases ht : i9 < nt
            · have htI : (i9 : Int) < (nt : Int) := by omega
              obtain ⟨tb, htb⟩ : ∃ tb, tl[i9]? = some tb := ⟨_, List.getElem?_eq_getElem (by rw [← HNT.out]; exact ht)⟩
              obtain ⟨b9, o9, rfl, hcell⟩ := HCT.out (by omega)
              have cc := cell_on (hcell i9 tb htb) HB9.out
              clear hcell
              cases tb
              · skip
                by_cases h0 : x = n0
                · have h0I : (x : Int) = (n0 : Int) := by omega
                  go_wp2_with fail
                  go_meet
                  exact ⟨rfl, ⟨true, rfl, fun h => by cases h⟩, rfl⟩
                · have h0I : ((x : Int) == (n0 : Int)) = false := by simpa using (show ¬ ((x : Int) = (n0 : Int)) by omega)
                  go_wp2_with fail
                  go_meet
                  exact ⟨rfl, ⟨false, rfl, fun _ => h0⟩, rfl⟩
              · skip
                go_wp2_with fail
                go_meet
                exact ⟨rfl, ⟨true, rfl, fun h => by cases h⟩, rfl⟩
            · have htI : ¬ ((i9 : Int) < (nt : Int)) := by omega
              by_cases h0 : x = n0
              · have h0I : (x : Int) = (n0 : Int) := by omega
                go_wp2_with fail
                go_meet
                exact ⟨rfl, ⟨true, rfl, fun h => by cases h⟩, rfl⟩
              · have h0I : ((x : Int) == (n0 : Int)) = false := by simpa using (show ¬ ((x : Int) = (n0 : Int)) by omega)
                go_wp2_with fail
                go_meet
                exact ⟨rfl, ⟨false, rfl, fun _ => h0⟩, rfl⟩
          case rest =>
            obtain ⟨rfl, ⟨b, rfl, hb7⟩, hw⟩ := hcut
            rw [hw]
            clear hw wc
            go_upto_if 96 with fail
            have HB7 := Lib.hid hb7
            clear hb7
            go_cut [13] (fun kk wx => ((kk = .int .i64 0 ∧ x ≠ n0) ∨ kk = .int .i64 1) ∧ wx = wr)
            case first =>
              cases b
              · have h0 := HB7.out rfl
                go_wp2_with fail
                go_meet
                exact ⟨.inl ⟨rfl, h0⟩, rfl⟩
              · go_wp2_with fail
                skip
                go_meet
                exact ⟨.inr rfl, rfl⟩
            case rest =>
              obtain ⟨hk8, hw⟩ := hcut
              rw [hw]
              clear hw wc HB7
              go_upto_region 17 with fail
              go_cut [13, 104] (fun kk c wx => (∃ b : Bool, c = .bool b ∧ ((kk = .int .i64 0 ∧ x < n0 ∧ b = false) ∨ (kk = .int .i64 1 ∧ y < n1 ∧ b = false) ∨ (kk = .int .i64 1 ∧ x < n0 ∧ b = true))) ∧ ∃ n, wx = wr.drewN n)
              case first =>
                rcases hk8 with ⟨rfl, h0⟩ | rfl
                · have h0I : ((x : Int) == (n0 : Int)) = false := by simpa using (show ¬ ((x : Int) = (n0 : Int)) by omega)
                  go_quiet (fail)
                  go_wp2_with fail
                  go_meet
                  exact ⟨⟨false, rfl, .inl ⟨rfl, by omega, rfl⟩⟩, _, rfl⟩
                · by_cases h1 : y = n1
                  · have h1I : (y : Int) = (n1 : Int) := by omega
                    go_quiet (fail)
                    go_wp2_with fail
                    go_meet
                    exact ⟨⟨true, rfl, .inr (.inr ⟨rfl, by have := HI9.out; have := HM9.out; omega, rfl⟩)⟩, _, rfl⟩
                  · have h1I : ((y : Int) == (n1 : Int)) = false := by simpa using (show ¬ ((y : Int) = (n1 : Int)) by omega)
                    go_quiet (fail)
                    go_wp2_with fail
                    go_meet
                    exact ⟨⟨false, rfl, .inr (.inl ⟨rfl, by omega, rfl⟩)⟩, _, rfl⟩
              case rest =>
                clear hk8
                obtain ⟨⟨b, rfl, hk8⟩, nd, hw⟩ := hcut
                rw [hw]
                clear hw wc
                go_upto_if 104 with fail
                go_cut [13] (fun kk wx => ((kk = .int .i64 0 ∧ x < n0) ∨ (kk = .int .i64 1 ∧ y < n1)) ∧ wx = wr.drewN nd)
                case first =>
                  rcases hk8 with ⟨rfl, h0, rfl⟩ | ⟨rfl, h0, rfl⟩ | ⟨rfl, h0, rfl⟩
                  · go_wp2_with fail
                    go_meet
                    exact ⟨.inl ⟨rfl, h0⟩, rfl⟩
                  · go_wp2_with fail
                    go_meet
                    exact ⟨.inr ⟨rfl, h0⟩, rfl⟩
                  · go_wp2_with fail
                    go_meet
                    exact ⟨.inl ⟨rfl, h0⟩, rfl⟩
                case rest =>
                  clear e0 e1 k0 k1 hk8
                  obtain ⟨hk9, hw⟩ := hcut
                  rw [hw]
                  clear hw wc
                  have hb : Below wr.heap.size wr (wr.drewN nd) := below_drewN9 _ _
                  have FA := Lib.hid (heap_on hb FA.out)
                  have FG := Lib.hid (heap_on hb FG.out)
                  have FE := Lib.hid (heap_on hb FE.out)
                  have T := Lib.hid (T.out.later hb)
                  have B := Lib.hid (below_on B.out hb)
                  clear hb
                  rcases hk9 with ⟨rfl, hlt⟩ | ⟨rfl, hlt⟩
                  · skip
                    obtain ⟨s, hs⟩ : ∃ s, L0[x]? = some s := ⟨_, List.getElem?_eq_getElem (by rw [← HN0.out]; exact hlt)⟩
                    obtain ⟨b9, o9, rfl, hcell⟩ := HC0.out (by omega)
                    have CC := Lib.hid (cell_on (hcell x s hs) (below_on HB9.out (below_drewN9 _ nd)))
                    have hb9C : b9 < C := by have h7 := World.block_lt_of_cell? (a := ⟨b9, o9 + x, none⟩) _ (hcell x s hs); simp only at h7; omega
                    have HS := Lib.hid hs
                    have hz9 := HZ0.out s (List.mem_of_getElem? hs)
                    clear hcell hs
                    by_cases h3 : x % 3 = 1
                    · have h3I : (x : Int).tmod 3 = 1 := by rw [Int.tmod_eq_emod_of_nonneg (by omega)]; omega
                      obtain ⟨wd, hwd⟩ : ∃ wd : World, wd = wr.drewN nd := ⟨_, rfl⟩
                      rw [← hwd] at FA FG FE T B CC ⊢
                      clear hwd
                      go_wp2_with fail
                      have hb : Below wd.heap.size wd wd.drew := ⟨rfl, rfl, rfl, Nat.le_refl _, fun _ _ => rfl⟩
                      have FA := Lib.hid (heap_on hb FA.out)
                      have FG := Lib.hid (heap_on hb FG.out)
                      have FE := Lib.hid (heap_on hb FE.out)
                      have T := Lib.hid (T.out.later hb)
                      have B := Lib.hid (below_on B.out hb)
                      have CC := Lib.hid (cell_on CC.out hb)
                      clear hb
                      have s0 : wd.drew.cell? ⟨A, 0, none⟩ = some (.slice (some ⟨b9, o9, none⟩) n0 p0) := cell_of_row _ _ _ _ _ (0, 0) FA.out
                      have s1 : wd.drew.cell? ⟨E, 0, none⟩ = some (.int .i64 x) := cell_of_row _ _ _ _ _ (0, 0) FE.out
                      have kcs := fun (W : World) (s : ByteArray) => Lib.run_convert_string_bytes (P := Tryd.prog) W 9 37 5 s Tryd.underlying9 Tryd.underlying37 Tryd.underlying5
                      refine wp_region_perm [(0, true), (1, true), (2, true), (3, true), (4, true), (5, true), (6, true), (7, true), (8, true), (9, true), (10, false), (11, false), (12, true), (13, true), (14, true), (15, true), (16, true), (17, true), (18, true), (19, true), (20, true), (21, true), (22, false), (23, true), (24, true), (25, true)] (fun w9 => w9.cell? ⟨A, 0, none⟩ = some (.slice (some ⟨b9, o9, none⟩) n0 p0) ∧ w9.cell? ⟨E, 0, none⟩ = some (.int .i64 x) ∧ w9.cell? ⟨b9, o9 + x, none⟩ = some (.string s)) (by kernel_rfl) (by kernel_rfl) (fun _ _ _ _ _ h => h) (⟨s0, s1, CC.out⟩) (fun hHeld => ?_)
                      refine WP.take (v := ?_) rfl (Or.inl ⟨by rfl, ?_⟩) ?_
                      rotate_left
                      · intro w8 hSw
                        (try dsimp only at hSw)
                        go_simp
                        any_goals with_reducible rfl
                      try simp only [Act.put, List.setIfInBounds_toArray, List.set_cons_zero, List.set_cons_succ]
                      refine WP.take (v := ?_) rfl (Or.inl ⟨by rfl, ?_⟩) ?_
                      rotate_left
                      · intro w8 hSw
                        (try dsimp only at hSw)
                        go_simp
                        any_goals with_reducible rfl
                      try simp only [Act.put, List.setIfInBounds_toArray, List.set_cons_zero, List.set_cons_succ]
                      refine WP.take (v := ?_) rfl (Or.inl ⟨by rfl, ?_⟩) ?_
                      rotate_left
                      · intro w8 hSw
                        (try dsimp only at hSw)
                        go_simp
                        any_goals with_reducible rfl
                      try simp only [Act.put, List.setIfInBounds_toArray, List.set_cons_zero, List.set_cons_succ]
                      refine WP.take (v := ?_) rfl (Or.inl ⟨by rfl, ?_⟩) ?_
                      rotate_left
                      · intro w8 hSw
                        (try dsimp only at hSw)
                        go_simp
                        any_goals with_reducible rfl
                      try simp only [Act.put, List.setIfInBounds_toArray, List.set_cons_zero, List.set_cons_succ]
                      refine WP.take (v := ?_) rfl (Or.inl ⟨by rfl, ?_⟩) ?_
                      rotate_left
                      · intro w8 hSw
                        (try dsimp only at hSw)
                        go_simp
                        any_goals with_reducible rfl
                      try simp only [Act.put, List.setIfInBounds_toArray, List.set_cons_zero, List.set_cons_succ]
                      refine WP.take (v := ?_) rfl (Or.inl ⟨by rfl, ?_⟩) ?_
                      rotate_left
                      · intro w8 hSw
                        (try dsimp only at hSw)
                        go_simp
                        any_goals with_reducible rfl
                      try simp only [Act.put, List.setIfInBounds_toArray, List.set_cons_zero, List.set_cons_succ]
                      refine WP.take (v := ?_) rfl (Or.inl ⟨by rfl, ?_⟩) ?_
                      rotate_left
                      · intro w8 hSw
                        (try dsimp only at hSw)
                        go_simp
                        any_goals with_reducible rfl
                      try simp only [Act.put, List.setIfInBounds_toArray, List.set_cons_zero, List.set_cons_succ]
                      refine WP.take (v := ?_) rfl (Or.inl ⟨by rfl, ?_⟩) ?_
                      rotate_left
                      · intro w8 hSw
                        (try dsimp only at hSw)
                        go_simp
                        any_goals with_reducible rfl
                      try simp only [Act.put, List.setIfInBounds_toArray, List.set_cons_zero, List.set_cons_succ]
                      refine WP.take (v := ?_) rfl (Or.inl ⟨by rfl, ?_⟩) ?_
                      rotate_left
                      · intro w8 hSw
                        (try dsimp only at hSw)
                        go_simp
                        any_goals with_reducible rfl
                      try simp only [Act.put, List.setIfInBounds_toArray, List.set_cons_zero, List.set_cons_succ]
                      refine WP.take (v := ?_) rfl (Or.inl ⟨by rfl, ?_⟩) ?_
                      rotate_left
                      · intro w8 hSw
                        (try dsimp only at hSw)
                        go_simp
                        any_goals with_reducible rfl
                      try simp only [Act.put, List.setIfInBounds_toArray, List.set_cons_zero, List.set_cons_succ]
                      refine WP.step rfl (fun K hK => ?_)
                      go_simp
                      clear kcs
                      obtain ⟨z1, e9⟩ : ∃ z1 : World, z1 = Lib.bytesWorld wd.drew 5 s := ⟨_, rfl⟩
                      have hb : Below wd.drew.heap.size wd.drew z1 := by rw [e9]; exact conv_below _ _ _
                      have K9 := Lib.hid (show KAt .u8 z1 (.slice (some ⟨wd.drew.heap.size, 0, none⟩) s.size (grownCap wd.drew s.size 0 5)) (nums s) by rw [e9]; exact conv_kat _ _ _ (by omega))
                      rw [← e9]
                      clear e9 s0 s1
                      have FA := Lib.hid (heap_on hb FA.out)
                      have FG := Lib.hid (heap_on hb FG.out)
                      have FE := Lib.hid (heap_on hb FE.out)
                      have T := Lib.hid (T.out.later hb)
                      have B := Lib.hid (below_on B.out hb)
                      have CC := Lib.hid (cell_on CC.out hb)
                      clear hb
                      have s0 : z1.cell? ⟨A, 0, none⟩ = some (.slice (some ⟨b9, o9, none⟩) n0 p0) := cell_of_row _ _ _ _ _ (0, 0) FA.out
                      have s1 : z1.cell? ⟨E, 0, none⟩ = some (.int .i64 x) := cell_of_row _ _ _ _ _ (0, 0) FE.out
                      refine hK.out _ _ (⟨s0, s1, CC.out⟩) (fun hHeld => ?_)
                      clear hK K
                      try simp only [Act.put, List.setIfInBounds_toArray, List.set_cons_zero, List.set_cons_succ]
                      refine WP.step rfl (fun K hK => ?_)
                      go_simp
                      obtain ⟨N9, hN1, hN2⟩ := stepA_s HZS.out HS.out (by rw [← HN1.out]; exact hy : y ≤ L1.length) h3
                      have hN1 := Lib.hid hN1
                      have hN2 := Lib.hid hN2
                      refine (T.out.act2 0 hN1.out rfl fun S hS => Append_any hS nmA (by decide) K9.out (nums_bytes _)).mono ?_
                      rintro _ z2 ⟨rfl, ht, hs⟩
                      clear s0 s1
                      have CC := Lib.hid (show z2.cell? ⟨b9, o9 + x, none⟩ = some (.string s) from (World.cell?_of_block (w := z1) (hs.block b9 (.inl (show b9 < C from hb9C)))).trans CC.out)
                      have FA := Lib.hid (hs.heap (.inl (show A < C by omega)) FA.out)
                      have FG := Lib.hid (hs.heap (.inl (show G < C by omega)) FG.out)
                      have FE := Lib.hid (hs.heap (.inr rfl) FE.out)
                      have B := Lib.hid (B.out.trans (hs.below (base := w.heap.size) (fun g hg => .inl (show g < C by omega))))
                      have T := Lib.hid ht
                      clear ht hs
                      have s0 : z2.cell? ⟨A, 0, none⟩ = some (.slice (some ⟨b9, o9, none⟩) n0 p0) := cell_of_row _ _ _ _ _ (0, 0) FA.out
                      have s1 : z2.cell? ⟨E, 0, none⟩ = some (.int .i64 x) := cell_of_row _ _ _ _ _ (0, 0) FE.out
                      go_wp2_with fail
                      refine hK.out _ _ (⟨s0, s1, CC.out⟩) (fun hHeld => ?_)
                      clear hK K
                      try simp only [Act.put, List.setIfInBounds_toArray, List.set_cons_zero, List.set_cons_succ]
                      refine WP.take (v := ?_) rfl (Or.inl ⟨by rfl, ?_⟩) ?_
                      rotate_left
                      · intro w8 hSw
                        (try dsimp only at hSw)
                        go_simp
                        any_goals with_reducible rfl
                      try simp only [Act.put, List.setIfInBounds_toArray, List.set_cons_zero, List.set_cons_succ]
                      refine WP.take (v := ?_) rfl (Or.inl ⟨by rfl, ?_⟩) ?_
                      rotate_left
                      · intro w8 hSw
                        (try dsimp only at hSw)
                        go_simp
                        any_goals with_reducible rfl
                      try simp only [Act.put, List.setIfInBounds_toArray, List.set_cons_zero, List.set_cons_succ]
                      refine WP.take (v := ?_) rfl (Or.inl ⟨by rfl, ?_⟩) ?_
                      rotate_left
                      · intro w8 hSw
                        (try dsimp only at hSw)
                        go_simp
                        any_goals with_reducible rfl
                      try simp only [Act.put, List.setIfInBounds_toArray, List.set_cons_zero, List.set_cons_succ]
                      refine WP.take (v := ?_) rfl (Or.inl ⟨by rfl, ?_⟩) ?_
                      rotate_left
                      · intro w8 hSw
                        (try dsimp only at hSw)
                        go_simp
                        any_goals with_reducible rfl
                      try simp only [Act.put, List.setIfInBounds_toArray, List.set_cons_zero, List.set_cons_succ]
                      refine WP.take (v := ?_) rfl (Or.inl ⟨by rfl, ?_⟩) ?_
                      rotate_left
                      · intro w8 hSw
                        (try dsimp only at hSw)
                        go_simp
                        any_goals with_reducible rfl
                      try simp only [Act.put, List.setIfInBounds_toArray, List.set_cons_zero, List.set_cons_succ]
                      refine WP.take (v := ?_) rfl (Or.inl ⟨by rfl, ?_⟩) ?_
                      rotate_left
                      · intro w8 hSw
                        (try dsimp only at hSw)
                        go_simp
                        any_goals with_reducible rfl
                      try simp only [Act.put, List.setIfInBounds_toArray, List.set_cons_zero, List.set_cons_succ]
                      refine WP.take (v := ?_) rfl (Or.inl ⟨by rfl, ?_⟩) ?_
                      rotate_left
                      · intro w8 hSw
                        (try dsimp only at hSw)
                        go_simp
                        any_goals with_reducible rfl
                      try simp only [Act.put, List.setIfInBounds_toArray, List.set_cons_zero, List.set_cons_succ]
                      refine WP.take (v := ?_) rfl (Or.inl ⟨by rfl, ?_⟩) ?_
                      rotate_left
                      · intro w8 hSw
                        (try dsimp only at hSw)
                        go_simp
                        any_goals with_reducible rfl
                      try simp only [Act.put, List.setIfInBounds_toArray, List.set_cons_zero, List.set_cons_succ]
                      refine WP.take (v := ?_) rfl (Or.inl ⟨by rfl, ?_⟩) ?_
                      rotate_left
                      · intro w8 hSw
                        (try dsimp only at hSw)
                        go_simp
                        any_goals with_reducible rfl
                      try simp only [Act.put, List.setIfInBounds_toArray, List.set_cons_zero, List.set_cons_succ]
                      refine WP.take (v := ?_) rfl (Or.inl ⟨by rfl, ?_⟩) ?_
                      rotate_left
                      · intro w8 hSw
                        (try dsimp only at hSw)
                        go_simp
                        any_goals with_reducible rfl
                      try simp only [Act.put, List.setIfInBounds_toArray, List.set_cons_zero, List.set_cons_succ]
                      refine WP.step rfl (fun K hK => ?_)
                      go_simp
                      refine (T.out.act2 0 hN2.out rfl fun S hS => Sync_any hS nmA (by decide)).mono ?_
                      rintro _ z3 ⟨rfl, ht, hs⟩
                      clear s0 s1
                      have CC := Lib.hid (show z3.cell? ⟨b9, o9 + x, none⟩ = some (.string s) from (World.cell?_of_block (w := z2) (hs.block b9 (.inl (show b9 < C from hb9C)))).trans CC.out)
                      have FA := Lib.hid (hs.heap (.inl (show A < C by omega)) FA.out)
                      have FG := Lib.hid (hs.heap (.inl (show G < C by omega)) FG.out)
                      have FE := Lib.hid (hs.heap (.inr rfl) FE.out)
                      have B := Lib.hid (B.out.trans (hs.below (base := w.heap.size) (fun g hg => .inl (show g < C by omega))))
                      have T := Lib.hid ht
                      clear ht hs
                      have s0 : z3.cell? ⟨A, 0, none⟩ = some (.slice (some ⟨b9, o9, none⟩) n0 p0) := cell_of_row _ _ _ _ _ (0, 0) FA.out
                      have s1 : z3.cell? ⟨E, 0, none⟩ = some (.int .i64 x) := cell_of_row _ _ _ _ _ (0, 0) FE.out
                      go_wp2_with fail
                      refine hK.out _ _ (⟨s0, s1, CC.out⟩) (fun hHeld => ?_)
                      clear hK K
                      try simp only [Act.put, List.setIfInBounds_toArray, List.set_cons_zero, List.set_cons_succ]
                      refine WP.take (v := ?_) rfl (Or.inl ⟨by rfl, ?_⟩) ?_
                      rotate_left
                      · intro w8 hSw
                        (try dsimp only at hSw)
                        go_simp
                        any_goals with_reducible rfl
                      try simp only [Act.put, List.setIfInBounds_toArray, List.set_cons_zero, List.set_cons_succ]
                      refine WP.take (v := ?_) rfl (Or.inl ⟨by rfl, ?_⟩) ?_
                      rotate_left
                      · intro w8 hSw
                        (try dsimp only at hSw)
                        go_simp
                        any_goals with_reducible rfl
                      try simp only [Act.put, List.setIfInBounds_toArray, List.set_cons_zero, List.set_cons_succ]
                      refine WP.take (v := ?_) rfl (Or.inl ⟨by rfl, ?_⟩) ?_
                      rotate_left
                      · intro w8 hSw
                        (try dsimp only at hSw)
                        go_simp
                        any_goals with_reducible rfl
                      try simp only [Act.put, List.setIfInBounds_toArray, List.set_cons_zero, List.set_cons_succ]
                      refine WP.done ?_
                      have f9 := frozen_row FE.out 0
                      go_wp2_with fail
                      go_roundg (n0 + n1 - (x + y + 1))
                      case measure => have h7 := HI9.out; have h8 := HM9.out; omega
                      case rel => exact ⟨x + 1, y, by omega, by omega, by omega, by rw [show ((i9 : Int) + 1) = ((x + 1 + (y) : Nat) : Int) by have := HI9.out; omega], Lib.hid (T.out.put E 0 _ (.inr rfl)), Lib.hid ((Below.heap_setCell _ _ _ _ (show A ≠ E by omega)).trans FA.out), Lib.hid ((Below.heap_setCell _ _ _ _ (show G ≠ E by omega)).trans FG.out), Lib.hid (heap_setCell_same _ E 0 _ _ _ FE.out), below_put B.out E 0 _ hwE⟩
                    · obtain ⟨r3, hr3⟩ : ∃ r3 : Nat, r3 = x % 3 := ⟨_, rfl⟩
                      have h3I : (x : Int).tmod 3 = (r3 : Int) := by rw [Int.tmod_eq_emod_of_nonneg (by omega)]; omega
                      have h3n : ¬ ((r3 : Int) = 1) := by omega
                      have h3b : ((r3 : Int) == 1) = false := by simpa using h3n
                      clear hr3
                      obtain ⟨wd, hwd⟩ : ∃ wd : World, wd = wr.drewN nd := ⟨_, rfl⟩
                      rw [← hwd] at FA FG FE T B CC ⊢
                      clear hwd
                      go_wp2_with fail
                      have hb : Below wd.heap.size wd wd.drew := ⟨rfl, rfl, rfl, Nat.le_refl _, fun _ _ => rfl⟩
                      have FA := Lib.hid (heap_on hb FA.out)
                      have FG := Lib.hid (heap_on hb FG.out)
                      have FE := Lib.hid (heap_on hb FE.out)
                      have T := Lib.hid (T.out.later hb)
                      have B := Lib.hid (below_on B.out hb)
                      have CC := Lib.hid (cell_on CC.out hb)
                      clear hb
                      have s0 : wd.drew.cell? ⟨A, 0, none⟩ = some (.slice (some ⟨b9, o9, none⟩) n0 p0) := cell_of_row _ _ _ _ _ (0, 0) FA.out
                      have s1 : wd.drew.cell? ⟨E, 0, none⟩ = some (.int .i64 x) := cell_of_row _ _ _ _ _ (0, 0) FE.out
                      have kcs := fun (W : World) (s : ByteArray) => Lib.run_convert_string_bytes (P := Tryd.prog) W 9 37 5 s Tryd.underlying9 Tryd.underlying37 Tryd.underlying5
                      refine wp_region_perm [(0, true), (1, true), (2, true), (3, true), (4, true), (5, true), (6, true), (7, true), (8, true), (9, true), (10, false), (11, false), (12, true), (13, true), (14, true), (15, true), (16, true), (17, true), (18, true), (19, true), (20, true), (21, true), (22, false), (23, true), (24, true), (25, true)] (fun w9 => w9.cell? ⟨A, 0, none⟩ = some (.slice (some ⟨b9, o9, none⟩) n0 p0) ∧ w9.cell? ⟨E, 0, none⟩ = some (.int .i64 x) ∧ w9.cell? ⟨b9, o9 + x, none⟩ = some (.string s)) (by kernel_rfl) (by kernel_rfl) (fun _ _ _ _ _ h => h) (⟨s0, s1, CC.out⟩) (fun hHeld => ?_)
                      refine WP.take (v := ?_) rfl (Or.inl ⟨by rfl, ?_⟩) ?_
                      rotate_left
                      · intro w8 hSw
                        (try dsimp only at hSw)
                        go_simp
                        any_goals with_reducible rfl
                      try simp only [Act.put, List.setIfInBounds_toArray, List.set_cons_zero, List.set_cons_succ]
                      refine WP.take (v := ?_) rfl (Or.inl ⟨by rfl, ?_⟩) ?_
                      rotate_left
                      · intro w8 hSw
                        (try dsimp only at hSw)
                        go_simp
                        any_goals with_reducible rfl
                      try simp only [Act.put, List.setIfInBounds_toArray, List.set_cons_zero, List.set_cons_succ]
                      refine WP.take (v := ?_) rfl (Or.inl ⟨by rfl, ?_⟩) ?_
                      rotate_left
                      · intro w8 hSw
                        (try dsimp only at hSw)
                        go_simp
                        any_goals with_reducible rfl
                      try simp only [Act.put, List.setIfInBounds_toArray, List.set_cons_zero, List.set_cons_succ]
                      refine WP.take (v := ?_) rfl (Or.inl ⟨by rfl, ?_⟩) ?_
                      rotate_left
                      · intro w8 hSw
                        (try dsimp only at hSw)
                        go_simp
                        any_goals with_reducible rfl
                      try simp only [Act.put, List.setIfInBounds_toArray, List.set_cons_zero, List.set_cons_succ]
                      refine WP.take (v := ?_) rfl (Or.inl ⟨by rfl, ?_⟩) ?_
                      rotate_left
                      · intro w8 hSw
                        (try dsimp only at hSw)
                        go_simp
                        any_goals with_reducible rfl
                      try simp only [Act.put, List.setIfInBounds_toArray, List.set_cons_zero, List.set_cons_succ]
                      refine WP.take (v := ?_) rfl (Or.inl ⟨by rfl, ?_⟩) ?_
                      rotate_left
                      · intro w8 hSw
                        (try dsimp only at hSw)
                        go_simp
                        any_goals with_reducible rfl
                      try simp only [Act.put, List.setIfInBounds_toArray, List.set_cons_zero, List.set_cons_succ]
                      refine WP.take (v := ?_) rfl (Or.inl ⟨by rfl, ?_⟩) ?_
                      rotate_left
                      · intro w8 hSw
                        (try dsimp only at hSw)
                        go_simp
                        any_goals with_reducible rfl
                      try simp only [Act.put, List.setIfInBounds_toArray, List.set_cons_zero, List.set_cons_succ]
                      refine WP.take (v := ?_) rfl (Or.inl ⟨by rfl, ?_⟩) ?_
                      rotate_left
                      · intro w8 hSw
                        (try dsimp only at hSw)
                        go_simp
                        any_goals with_reducible rfl
                      try simp only [Act.put, List.setIfInBounds_toArray, List.set_cons_zero, List.set_cons_succ]
                      refine WP.take (v := ?_) rfl (Or.inl ⟨by rfl, ?_⟩) ?_
                      rotate_left
                      · intro w8 hSw
                        (try dsimp only at hSw)
                        go_simp
                        any_goals with_reducible rfl
                      try simp only [Act.put, List.setIfInBounds_toArray, List.set_cons_zero, List.set_cons_succ]
                      refine WP.take (v := ?_) rfl (Or.inl ⟨by rfl, ?_⟩) ?_
                      rotate_left
                      · intro w8 hSw
                        (try dsimp only at hSw)
                        go_simp
                        any_goals with_reducible rfl
                      try simp only [Act.put, List.setIfInBounds_toArray, List.set_cons_zero, List.set_cons_succ]
                      refine WP.step rfl (fun K hK => ?_)
                      go_simp
                      clear kcs
                      obtain ⟨z1, e9⟩ : ∃ z1 : World, z1 = Lib.bytesWorld wd.drew 5 s := ⟨_, rfl⟩
                      have hb : Below wd.drew.heap.size wd.drew z1 := by rw [e9]; exact conv_below _ _ _
                      have K9 := Lib.hid (show KAt .u8 z1 (.slice (some ⟨wd.drew.heap.size, 0, none⟩) s.size (grownCap wd.drew s.size 0 5)) (nums s) by rw [e9]; exact conv_kat _ _ _ (by omega))
                      rw [← e9]
                      clear e9 s0 s1
                      have FA := Lib.hid (heap_on hb FA.out)
                      have FG := Lib.hid (heap_on hb FG.out)
                      have FE := Lib.hid (heap_on hb FE.out)
                      have T := Lib.hid (T.out.later hb)
                      have B := Lib.hid (below_on B.out hb)
                      have CC := Lib.hid (cell_on CC.out hb)
                      clear hb
                      have s0 : z1.cell? ⟨A, 0, none⟩ = some (.slice (some ⟨b9, o9, none⟩) n0 p0) := cell_of_row _ _ _ _ _ (0, 0) FA.out
                      have s1 : z1.cell? ⟨E, 0, none⟩ = some (.int .i64 x) := cell_of_row _ _ _ _ _ (0, 0) FE.out
                      refine hK.out _ _ (⟨s0, s1, CC.out⟩) (fun hHeld => ?_)
                      clear hK K
                      try simp only [Act.put, List.setIfInBounds_toArray, List.set_cons_zero, List.set_cons_succ]
                      refine WP.step rfl (fun K hK => ?_)
                      go_simp
                      refine (T.out.act2 0 (stepA_n HZS.out HS.out (by rw [← HN1.out]; exact hy) h3) rfl fun S hS => Append_any hS nmA (by decide) K9.out (nums_bytes _)).mono ?_
                      rintro _ z2 ⟨rfl, ht, hs⟩
                      clear s0 s1
                      have CC := Lib.hid (show z2.cell? ⟨b9, o9 + x, none⟩ = some (.string s) from (World.cell?_of_block (w := z1) (hs.block b9 (.inl (show b9 < C from hb9C)))).trans CC.out)
                      have FA := Lib.hid (hs.heap (.inl (show A < C by omega)) FA.out)
                      have FG := Lib.hid (hs.heap (.inl (show G < C by omega)) FG.out)
                      have FE := Lib.hid (hs.heap (.inr rfl) FE.out)
                      have B := Lib.hid (B.out.trans (hs.below (base := w.heap.size) (fun g hg => .inl (show g < C by omega))))
                      have T := Lib.hid ht
                      clear ht hs
                      have s0 : z2.cell? ⟨A, 0, none⟩ = some (.slice (some ⟨b9, o9, none⟩) n0 p0) := cell_of_row _ _ _ _ _ (0, 0) FA.out
                      have s1 : z2.cell? ⟨E, 0, none⟩ = some (.int .i64 x) := cell_of_row _ _ _ _ _ (0, 0) FE.out
                      go_wp2_with fail
                      refine hK.out _ _ (⟨s0, s1, CC.out⟩) (fun hHeld => ?_)
                      clear hK K
                      try simp only [Act.put, List.setIfInBounds_toArray, List.set_cons_zero, List.set_cons_succ]
                      refine WP.take (v := ?_) rfl (Or.inl ⟨by rfl, ?_⟩) ?_
                      rotate_left
                      · intro w8 hSw
                        (try dsimp only at hSw)
                        go_simp
                        any_goals with_reducible rfl
                      try simp only [Act.put, List.setIfInBounds_toArray, List.set_cons_zero, List.set_cons_succ]
                      refine WP.take (v := ?_) rfl (Or.inl ⟨by rfl, ?_⟩) ?_
                      rotate_left
                      · intro w8 hSw
                        (try dsimp only at hSw)
                        go_simp
                        any_goals with_reducible rfl
                      try simp only [Act.put, List.setIfInBounds_toArray, List.set_cons_zero, List.set_cons_succ]
                      refine WP.take (v := ?_) rfl (Or.inl ⟨by rfl, ?_⟩) ?_
                      rotate_left
                      · intro w8 hSw
                        (try dsimp only at hSw)
                        go_simp
                        any_goals with_reducible rfl
                      try simp only [Act.put, List.setIfInBounds_toArray, List.set_cons_zero, List.set_cons_succ]
                      refine WP.take (v := ?_) rfl (Or.inl ⟨by rfl, ?_⟩) ?_
                      rotate_left
                      · intro w8 hSw
                        (try dsimp only at hSw)
                        go_simp
                        any_goals with_reducible rfl
                      try simp only [Act.put, List.setIfInBounds_toArray, List.set_cons_zero, List.set_cons_succ]
                      refine WP.take (v := ?_) rfl (Or.inl ⟨by rfl, ?_⟩) ?_
                      rotate_left
                      · intro w8 hSw
                        (try dsimp only at hSw)
                        go_simp
                        any_goals with_reducible rfl
                      try simp only [Act.put, List.setIfInBounds_toArray, List.set_cons_zero, List.set_cons_succ]
                      refine WP.take (v := ?_) rfl (Or.inl ⟨by rfl, ?_⟩) ?_
                      rotate_left
                      · intro w8 hSw
                        (try dsimp only at hSw)
                        go_simp
                        any_goals with_reducible rfl
                      try simp only [Act.put, List.setIfInBounds_toArray, List.set_cons_zero, List.set_cons_succ]
                      refine WP.take (v := ?_) rfl (Or.inl ⟨by rfl, ?_⟩) ?_
                      rotate_left
                      · intro w8 hSw
                        (try dsimp only at hSw)
                        go_simp
                        any_goals with_reducible rfl
                      try simp only [Act.put, List.setIfInBounds_toArray, List.set_cons_zero, List.set_cons_succ]
                      refine WP.take (v := ?_) rfl (Or.inl ⟨by rfl, ?_⟩) ?_
                      rotate_left
                      · intro w8 hSw
                        (try dsimp only at hSw)
                        go_simp
                        any_goals with_reducible rfl
                      try simp only [Act.put, List.setIfInBounds_toArray, List.set_cons_zero, List.set_cons_succ]
                      refine WP.take (v := undef) rfl (Or.inr ⟨by rfl, rfl⟩) ?_
                      try simp only [Act.put, List.setIfInBounds_toArray, List.set_cons_zero, List.set_cons_succ]
                      refine WP.take (v := undef) rfl (Or.inr ⟨by rfl, rfl⟩) ?_
                      try simp only [Act.put, List.setIfInBounds_toArray, List.set_cons_zero, List.set_cons_succ]
                      refine WP.step rfl (fun K hK => ?_)
                      refine ite_else (by rfl) ?_
                      refine hK.out _ _ (hHeld) (fun hHeld => ?_)
                      clear hK K
                      try simp only [Act.put, List.setIfInBounds_toArray, List.set_cons_zero, List.set_cons_succ]
                      refine WP.take (v := undef) rfl (Or.inr ⟨by rfl, rfl⟩) ?_
                      try simp only [Act.put, List.setIfInBounds_toArray, List.set_cons_zero, List.set_cons_succ]
                      refine WP.take (v := ?_) rfl (Or.inl ⟨by rfl, ?_⟩) ?_
                      rotate_left
                      · intro w8 hSw
                        (try dsimp only at hSw)
                        go_simp
                        any_goals with_reducible rfl
                      try simp only [Act.put, List.setIfInBounds_toArray, List.set_cons_zero, List.set_cons_succ]
                      refine WP.take (v := ?_) rfl (Or.inl ⟨by rfl, ?_⟩) ?_
                      rotate_left
                      · intro w8 hSw
                        (try dsimp only at hSw)
                        go_simp
                        any_goals with_reducible rfl
                      try simp only [Act.put, List.setIfInBounds_toArray, List.set_cons_zero, List.set_cons_succ]
                      refine WP.done ?_
                      have f9 := frozen_row FE.out 0
                      go_wp2_with fail
                      go_roundg (n0 + n1 - (x + y + 1))
                      case measure => have h7 := HI9.out; have h8 := HM9.out; omega
                      case rel => exact ⟨x + 1, y, by omega, by omega, by omega, by rw [show ((i9 : Int) + 1) = ((x + 1 + (y) : Nat) : Int) by have := HI9.out; omega], Lib.hid (T.out.put E 0 _ (.inr rfl)), Lib.hid ((Below.heap_setCell _ _ _ _ (show A ≠ E by omega)).trans FA.out), Lib.hid ((Below.heap_setCell _ _ _ _ (show G ≠ E by omega)).trans FG.out), Lib.hid (heap_setCell_same _ E 0 _ _ _ FE.out), below_put B.out E 0 _ hwE⟩
                  · skip
                    obtain ⟨s, hs⟩ : ∃ s, L1[y]? = some s := ⟨_, List.getElem?_eq_getElem (by rw [← HN1.out]; exact hlt)⟩
                    obtain ⟨b9, o9, rfl, hcell⟩ := HC1.out (by omega)
                    have CC := Lib.hid (cell_on (hcell y s hs) (below_on HB9.out (below_drewN9 _ nd)))
                    have hb9C : b9 < C := by have h7 := World.block_lt_of_cell? (a := ⟨b9, o9 + y, none⟩) _ (hcell y s hs); simp only at h7; omega
                    have HS := Lib.hid hs
                    have hz9 := HZ1.out s (List.mem_of_getElem? hs)
                    clear hcell hs
                    by_cases h3 : y % 3 = 1
                    · have h3I : (y : Int).tmod 3 = 1 := by rw [Int.tmod_eq_emod_of_nonneg (by omega)]; omega
                      obtain ⟨wd, hwd⟩ : ∃ wd : World, wd = wr.drewN nd := ⟨_, rfl⟩
                      rw [← hwd] at FA FG FE T B CC ⊢
                      clear hwd
                      go_wp2_with fail
                      have hb : Below wd.heap.size wd wd.drew := ⟨rfl, rfl, rfl, Nat.le_refl _, fun _ _ => rfl⟩
                      have FA := Lib.hid (heap_on hb FA.out)
                      have FG := Lib.hid (heap_on hb FG.out)
                      have FE := Lib.hid (heap_on hb FE.out)
                      have T := Lib.hid (T.out.later hb)
                      have B := Lib.hid (below_on B.out hb)
                      have CC := Lib.hid (cell_on CC.out hb)
                      clear hb
                      have s0 : wd.drew.cell? ⟨A, 1, none⟩ = some (.slice (some ⟨b9, o9, none⟩) n1 p1) := cell_of_row _ _ _ _ _ (0, 0) FA.out
                      have s1 : wd.drew.cell? ⟨E, 1, none⟩ = some (.int .i64 y) := cell_of_row _ _ _ _ _ (0, 0) FE.out
                      have kcs := fun (W : World) (s : ByteArray) => Lib.run_convert_string_bytes (P := Tryd.prog) W 9 37 5 s Tryd.underlying9 Tryd.underlying37 Tryd.underlying5
                      refine wp_region_perm [(0, true), (1, true), (2, true), (3, true), (4, true), (5, true), (6, true), (7, true), (8, true), (9, true), (10, false), (11, false), (12, true), (13, true), (14, true), (15, true), (16, true), (17, true), (18, true), (19, true), (20, true), (21, true), (22, false), (23, true), (24, true), (25, true)] (fun w9 => w9.cell? ⟨A, 1, none⟩ = some (.slice (some ⟨b9, o9, none⟩) n1 p1) ∧ w9.cell? ⟨E, 1, none⟩ = some (.int .i64 y) ∧ w9.cell? ⟨b9, o9 + y, none⟩ = some (.string s)) (by kernel_rfl) (by kernel_rfl) (fun _ _ _ _ _ h => h) (⟨s0, s1, CC.out⟩) (fun hHeld => ?_)
                      refine WP.take (v := ?_) rfl (Or.inl ⟨by rfl, ?_⟩) ?_
                      rotate_left
                      · intro w8 hSw
                        (try dsimp only at hSw)
                        go_simp
                        any_goals with_reducible rfl
                      try simp only [Act.put, List.setIfInBounds_toArray, List.set_cons_zero, List.set_cons_succ]
                      refine WP.take (v := ?_) rfl (Or.inl ⟨by rfl, ?_⟩) ?_
                      rotate_left
                      · intro w8 hSw
                        (try dsimp only at hSw)
                        go_simp
                        any_goals with_reducible rfl
                      try simp only [Act.put, List.setIfInBounds_toArray, List.set_cons_zero, List.set_cons_succ]
                      refine WP.take (v := ?_) rfl (Or.inl ⟨by rfl, ?_⟩) ?_
                      rotate_left
                      · intro w8 hSw
                        (try dsimp only at hSw)
                        go_simp
                        any_goals with_reducible rfl
                      try simp only [Act.put, List.setIfInBounds_toArray, List.set_cons_zero, List.set_cons_succ]
                      refine WP.take (v := ?_) rfl (Or.inl ⟨by rfl, ?_⟩) ?_
                      rotate_left
                      · intro w8 hSw
                        (try dsimp only at hSw)
                        go_simp
                        any_goals with_reducible rfl
                      try simp only [Act.put, List.setIfInBounds_toArray, List.set_cons_zero, List.set_cons_succ]
                      refine WP.take (v := ?_) rfl (Or.inl ⟨by rfl, ?_⟩) ?_
                      rotate_left
                      · intro w8 hSw
                        (try dsimp only at hSw)
                        go_simp
                        any_goals with_reducible rfl
                      try simp only [Act.put, List.setIfInBounds_toArray, List.set_cons_zero, List.set_cons_succ]
                      refine WP.take (v := ?_) rfl (Or.inl ⟨by rfl, ?_⟩) ?_
                      rotate_left
                      · intro w8 hSw
                        (try dsimp only at hSw)
                        go_simp
                        any_goals with_reducible rfl
                      try simp only [Act.put, List.setIfInBounds_toArray, List.set_cons_zero, List.set_cons_succ]
                      refine WP.take (v := ?_) rfl (Or.inl ⟨by rfl, ?_⟩) ?_
                      rotate_left
                      · intro w8 hSw
                        (try dsimp only at hSw)
                        go_simp
                        any_goals with_reducible rfl
                      try simp only [Act.put, List.setIfInBounds_toArray, List.set_cons_zero, List.set_cons_succ]
                      refine WP.take (v := ?_) rfl (Or.inl ⟨by rfl, ?_⟩) ?_
                      rotate_left
                      · intro w8 hSw
                        (try dsimp only at hSw)
                        go_simp
                        any_goals with_reducible rfl
                      try simp only [Act.put, List.setIfInBounds_toArray, List.set_cons_zero, List.set_cons_succ]
                      refine WP.take (v := ?_) rfl (Or.inl ⟨by rfl, ?_⟩) ?_
                      rotate_left
                      · intro w8 hSw
                        (try dsimp only at hSw)
                        go_simp
                        any_goals with_reducible rfl
                      try simp only [Act.put, List.setIfInBounds_toArray, List.set_cons_zero, List.set_cons_succ]
                      refine WP.take (v := ?_) rfl (Or.inl ⟨by rfl, ?_⟩) ?_
                      rotate_left
                      · intro w8 hSw
                        (try dsimp only at hSw)
                        go_simp
                        any_goals with_reducible rfl
                      try simp only [Act.put, List.setIfInBounds_toArray, List.set_cons_zero, List.set_cons_succ]
                      refine WP.step rfl (fun K hK => ?_)
                      go_simp
                      clear kcs
                      obtain ⟨z1, e9⟩ : ∃ z1 : World, z1 = Lib.bytesWorld wd.drew 5 s := ⟨_, rfl⟩
                      have hb : Below wd.drew.heap.size wd.drew z1 := by rw [e9]; exact conv_below _ _ _
                      have K9 := Lib.hid (show KAt .u8 z1 (.slice (some ⟨wd.drew.heap.size, 0, none⟩) s.size (grownCap wd.drew s.size 0 5)) (nums s) by rw [e9]; exact conv_kat _ _ _ (by omega))
                      rw [← e9]
                      clear e9 s0 s1
                      have FA := Lib.hid (heap_on hb FA.out)
                      have FG := Lib.hid (heap_on hb FG.out)
                      have FE := Lib.hid (heap_on hb FE.out)
                      have T := Lib.hid (T.out.later hb)
                      have B := Lib.hid (below_on B.out hb)
                      have CC := Lib.hid (cell_on CC.out hb)
                      clear hb
                      have s0 : z1.cell? ⟨A, 1, none⟩ = some (.slice (some ⟨b9, o9, none⟩) n1 p1) := cell_of_row _ _ _ _ _ (0, 0) FA.out
                      have s1 : z1.cell? ⟨E, 1, none⟩ = some (.int .i64 y) := cell_of_row _ _ _ _ _ (0, 0) FE.out
                      refine hK.out _ _ (⟨s0, s1, CC.out⟩) (fun hHeld => ?_)
                      clear hK K
                      try simp only [Act.put, List.setIfInBounds_toArray, List.set_cons_zero, List.set_cons_succ]
                      refine WP.step rfl (fun K hK => ?_)
                      go_simp
                      obtain ⟨N9, hN1, hN2⟩ := stepB_s HZS.out HS.out (by rw [← HN0.out]; exact hx : x ≤ L0.length) h3
                      have hN1 := Lib.hid hN1
                      have hN2 := Lib.hid hN2
                      refine (T.out.act2 0 hN1.out rfl fun S hS => Append_any hS nmB (by decide) K9.out (nums_bytes _)).mono ?_
                      rintro _ z2 ⟨rfl, ht, hs⟩
                      clear s0 s1
                      have CC := Lib.hid (show z2.cell? ⟨b9, o9 + y, none⟩ = some (.string s) from (World.cell?_of_block (w := z1) (hs.block b9 (.inl (show b9 < C from hb9C)))).trans CC.out)
                      have FA := Lib.hid (hs.heap (.inl (show A < C by omega)) FA.out)
                      have FG := Lib.hid (hs.heap (.inl (show G < C by omega)) FG.out)
                      have FE := Lib.hid (hs.heap (.inr rfl) FE.out)
                      have B := Lib.hid (B.out.trans (hs.below (base := w.heap.size) (fun g hg => .inl (show g < C by omega))))
                      have T := Lib.hid ht
                      clear ht hs
                      have s0 : z2.cell? ⟨A, 1, none⟩ = some (.slice (some ⟨b9, o9, none⟩) n1 p1) := cell_of_row _ _ _ _ _ (0, 0) FA.out
                      have s1 : z2.cell? ⟨E, 1, none⟩ = some (.int .i64 y) := cell_of_row _ _ _ _ _ (0, 0) FE.out
                      go_wp2_with fail
                      refine hK.out _ _ (⟨s0, s1, CC.out⟩) (fun hHeld => ?_)
                      clear hK K
                      try simp only [Act.put, List.setIfInBounds_toArray, List.set_cons_zero, List.set_cons_succ]
                      refine WP.take (v := ?_) rfl (Or.inl ⟨by rfl, ?_⟩) ?_
                      rotate_left
                      · intro w8 hSw
                        (try dsimp only at hSw)
                        go_simp
                        any_goals with_reducible rfl
                      try simp only [Act.put, List.setIfInBounds_toArray, List.set_cons_zero, List.set_cons_succ]
                      refine WP.take (v := ?_) rfl (Or.inl ⟨by rfl, ?_⟩) ?_
                      rotate_left
                      · intro w8 hSw
                        (try dsimp only at hSw)
                        go_simp
                        any_goals with_reducible rfl
                      try simp only [Act.put, List.setIfInBounds_toArray, List.set_cons_zero, List.set_cons_succ]
                      refine WP.take (v := ?_) rfl (Or.inl ⟨by rfl, ?_⟩) ?_
                      rotate_left
                      · intro w8 hSw
                        (try dsimp only at hSw)
                        go_simp
                        any_goals with_reducible rfl
                      try simp only [Act.put, List.setIfInBounds_toArray, List.set_cons_zero, List.set_cons_succ]
                      refine WP.take (v := ?_) rfl (Or.inl ⟨by rfl, ?_⟩) ?_
                      rotate_left
                      · intro w8 hSw
                        (try dsimp only at hSw)
                        go_simp
                        any_goals with_reducible rfl
                      try simp only [Act.put, List.setIfInBounds_toArray, List.set_cons_zero, List.set_cons_succ]
                      refine WP.take (v := ?_) rfl (Or.inl ⟨by rfl, ?_⟩) ?_
                      rotate_left
                      · intro w8 hSw
                        (try dsimp only at hSw)
                        go_simp
                        any_goals with_reducible rfl
                      try simp only [Act.put, List.setIfInBounds_toArray, List.set_cons_zero, List.set_cons_succ]
                      refine WP.take (v := ?_) rfl (Or.inl ⟨by rfl, ?_⟩) ?_
                      rotate_left
                      · intro w8 hSw
                        (try dsimp only at hSw)
                        go_simp
                        any_goals with_reducible rfl
                      try simp only [Act.put, List.setIfInBounds_toArray, List.set_cons_zero, List.set_cons_succ]
                      refine WP.take (v := ?_) rfl (Or.inl ⟨by rfl, ?_⟩) ?_
                      rotate_left
                      · intro w8 hSw
                        (try dsimp only at hSw)
                        go_simp
                        any_goals with_reducible rfl
                      try simp only [Act.put, List.setIfInBounds_toArray, List.set_cons_zero, List.set_cons_succ]
                      refine WP.take (v := ?_) rfl (Or.inl ⟨by rfl, ?_⟩) ?_
                      rotate_left
                      · intro w8 hSw
                        (try dsimp only at hSw)
                        go_simp
                        any_goals with_reducible rfl
                      try simp only [Act.put, List.setIfInBounds_toArray, List.set_cons_zero, List.set_cons_succ]
                      refine WP.take (v := ?_) rfl (Or.inl ⟨by rfl, ?_⟩) ?_
                      rotate_left
                      · intro w8 hSw
                        (try dsimp only at hSw)
                        go_simp
                        any_goals with_reducible rfl
                      try simp only [Act.put, List.setIfInBounds_toArray, List.set_cons_zero, List.set_cons_succ]
                      refine WP.take (v := ?_) rfl (Or.inl ⟨by rfl, ?_⟩) ?_
                      rotate_left
                      · intro w8 hSw
                        (try dsimp only at hSw)
                        go_simp
                        any_goals with_reducible rfl
                      try simp only [Act.put, List.setIfInBounds_toArray, List.set_cons_zero, List.set_cons_succ]
                      refine WP.step rfl (fun K hK => ?_)
                      go_simp
                      refine (T.out.act2 0 hN2.out rfl fun S hS => Sync_any hS nmB (by decide)).mono ?_
                      rintro _ z3 ⟨rfl, ht, hs⟩
                      clear s0 s1
                      have CC := Lib.hid (show z3.cell? ⟨b9, o9 + y, none⟩ = some (.string s) from (World.cell?_of_block (w := z2) (hs.block b9 (.inl (show b9 < C from hb9C)))).trans CC.out)
                      have FA := Lib.hid (hs.heap (.inl (show A < C by omega)) FA.out)
                      have FG := Lib.hid (hs.heap (.inl (show G < C by omega)) FG.out)
                      have FE := Lib.hid (hs.heap (.inr rfl) FE.out)
                      have B := Lib.hid (B.out.trans (hs.below (base := w.heap.size) (fun g hg => .inl (show g < C by omega))))
                      have T := Lib.hid ht
                      clear ht hs
                      have s0 : z3.cell? ⟨A, 1, none⟩ = some (.slice (some ⟨b9, o9, none⟩) n1 p1) := cell_of_row _ _ _ _ _ (0, 0) FA.out
                      have s1 : z3.cell? ⟨E, 1, none⟩ = some (.int .i64 y) := cell_of_row _ _ _ _ _ (0, 0) FE.out
                      go_wp2_with fail
                      refine hK.out _ _ (⟨s0, s1, CC.out⟩) (fun hHeld => ?_)
                      clear hK K
                      try simp only [Act.put, List.setIfInBounds_toArray, List.set_cons_zero, List.set_cons_succ]
                      refine WP.take (v := ?_) rfl (Or.inl ⟨by rfl, ?_⟩) ?_
                      rotate_left
                      · intro w8 hSw
                        (try dsimp only at hSw)
                        go_simp
                        any_goals with_reducible rfl
                      try simp only [Act.put, List.setIfInBounds_toArray, List.set_cons_zero, List.set_cons_succ]
                      refine WP.take (v := ?_) rfl (Or.inl ⟨by rfl, ?_⟩) ?_
                      rotate_left
                      · intro w8 hSw
                        (try dsimp only at hSw)
                        go_simp
                        any_goals with_reducible rfl
                      try simp only [Act.put, List.setIfInBounds_toArray, List.set_cons_zero, List.set_cons_succ]
                      refine WP.take (v := ?_) rfl (Or.inl ⟨by rfl, ?_⟩) ?_
                      rotate_left
                      · intro w8 hSw
                        (try dsimp only at hSw)
                        go_simp
                        any_goals with_reducible rfl
                      try simp only [Act.put, List.setIfInBounds_toArray, List.set_cons_zero, List.set_cons_succ]
                      refine WP.done ?_
                      have f9 := frozen_row FE.out 1
                      go_wp2_with fail
                      go_roundg (n0 + n1 - (x + y + 1))
                      case measure => have h7 := HI9.out; have h8 := HM9.out; omega
                      case rel => exact ⟨x, y + 1, by omega, by omega, by omega, by rw [show ((i9 : Int) + 1) = ((x + (y + 1) : Nat) : Int) by have := HI9.out; omega], Lib.hid (T.out.put E 1 _ (.inr rfl)), Lib.hid ((Below.heap_setCell _ _ _ _ (show A ≠ E by omega)).trans FA.out), Lib.hid ((Below.heap_setCell _ _ _ _ (show G ≠ E by omega)).trans FG.out), Lib.hid (heap_setCell_same _ E 1 _ _ _ FE.out), below_put B.out E 1 _ hwE⟩
                    · obtain ⟨r3, hr3⟩ : ∃ r3 : Nat, r3 = y % 3 := ⟨_, rfl⟩
                      have h3I : (y : Int).tmod 3 = (r3 : Int) := by rw [Int.tmod_eq_emod_of_nonneg (by omega)]; omega
                      have h3n : ¬ ((r3 : Int) = 1) := by omega
                      have h3b : ((r3 : Int) == 1) = false := by simpa using h3n
                      clear hr3
                      obtain ⟨wd, hwd⟩ : ∃ wd : World, wd = wr.drewN nd := ⟨_, rfl⟩
                      rw [← hwd] at FA FG FE T B CC ⊢
                      clear hwd
                      go_wp2_with fail
                      have hb : Below wd.heap.size wd wd.drew := ⟨rfl, rfl, rfl, Nat.le_refl _, fun _ _ => rfl⟩
                      have FA := Lib.hid (heap_on hb FA.out)
                      have FG := Lib.hid (heap_on hb FG.out)
                      have FE := Lib.hid (heap_on hb FE.out)
                      have T := Lib.hid (T.out.later hb)
                      have B := Lib.hid (below_on B.out hb)
                      have CC := Lib.hid (cell_on CC.out hb)
                      clear hb
                      have s0 : wd.drew.cell? ⟨A, 1, none⟩ = some (.slice (some ⟨b9, o9, none⟩) n1 p1) := cell_of_row _ _ _ _ _ (0, 0) FA.out
                      have s1 : wd.drew.cell? ⟨E, 1, none⟩ = some (.int .i64 y) := cell_of_row _ _ _ _ _ (0, 0) FE.out
                      have kcs := fun (W : World) (s : ByteArray) => Lib.run_convert_string_bytes (P := Tryd.prog) W 9 37 5 s Tryd.underlying9 Tryd.underlying37 Tryd.underlying5
                      refine wp_region_perm [(0, true), (1, true), (2, true), (3, true), (4, true), (5, true), (6, true), (7, true), (8, true), (9, true), (10, false), (11, false), (12, true), (13, true), (14, true), (15, true), (16, true), (17, true), (18, true), (19, true), (20, true), (21, true), (22, false), (23, true), (24, true), (25, true)] (fun w9 => w9.cell? ⟨A, 1, none⟩ = some (.slice (some ⟨b9, o9, none⟩) n1 p1) ∧ w9.cell? ⟨E, 1, none⟩ = some (.int .i64 y) ∧ w9.cell? ⟨b9, o9 + y, none⟩ = some (.string s)) (by kernel_rfl) (by kernel_rfl) (fun _ _ _ _ _ h => h) (⟨s0, s1, CC.out⟩) (fun hHeld => ?_)
                      refine WP.take (v := ?_) rfl (Or.inl ⟨by rfl, ?_⟩) ?_
                      rotate_left
                      · intro w8 hSw
                        (try dsimp only at hSw)
                        go_simp
                        any_goals with_reducible rfl
                      try simp only [Act.put, List.setIfInBounds_toArray, List.set_cons_zero, List.set_cons_succ]
                      refine WP.take (v := ?_) rfl (Or.inl ⟨by rfl, ?_⟩) ?_
                      rotate_left
                      · intro w8 hSw
                        (try dsimp only at hSw)
                        go_simp
                        any_goals with_reducible rfl
                      try simp only [Act.put, List.setIfInBounds_toArray, List.set_cons_zero, List.set_cons_succ]
                      refine WP.take (v := ?_) rfl (Or.inl ⟨by rfl, ?_⟩) ?_
                      rotate_left
                      · intro w8 hSw
                        (try dsimp only at hSw)
                        go_simp
                        any_goals with_reducible rfl
                      try simp only [Act.put, List.setIfInBounds_toArray, List.set_cons_zero, List.set_cons_succ]
                      refine WP.take (v := ?_) rfl (Or.inl ⟨by rfl, ?_⟩) ?_
                      rotate_left
                      · intro w8 hSw
                        (try dsimp only at hSw)
                        go_simp
                        any_goals with_reducible rfl
                      try simp only [Act.put, List.setIfInBounds_toArray, List.set_cons_zero, List.set_cons_succ]
                      refine WP.take (v := ?_) rfl (Or.inl ⟨by rfl, ?_⟩) ?_
                      rotate_left
                      · intro w8 hSw
                        (try dsimp only at hSw)
                        go_simp
                        any_goals with_reducible rfl
                      try simp only [Act.put, List.setIfInBounds_toArray, List.set_cons_zero, List.set_cons_succ]
                      refine WP.take (v := ?_) rfl (Or.inl ⟨by rfl, ?_⟩) ?_
                      rotate_left
                      · intro w8 hSw
                        (try dsimp only at hSw)
                        go_simp
                        any_goals with_reducible rfl
                      try simp only [Act.put, List.setIfInBounds_toArray, List.set_cons_zero, List.set_cons_succ]
                      refine WP.take (v := ?_) rfl (Or.inl ⟨by rfl, ?_⟩) ?_
                      rotate_left
                      · intro w8 hSw
                        (try dsimp only at hSw)
                        go_simp
                        any_goals with_reducible rfl
                      try simp only [Act.put, List.setIfInBounds_toArray, List.set_cons_zero, List.set_cons_succ]
                      refine WP.take (v := ?_) rfl (Or.inl ⟨by rfl, ?_⟩) ?_
                      rotate_left
                      · intro w8 hSw
                        (try dsimp only at hSw)
                        go_simp
                        any_goals with_reducible rfl
                      try simp only [Act.put, List.setIfInBounds_toArray, List.set_cons_zero, List.set_cons_succ]
                      refine WP.take (v := ?_) rfl (Or.inl ⟨by rfl, ?_⟩) ?_
                      rotate_left
                      · intro w8 hSw
                        (try dsimp only at hSw)
                        go_simp
                        any_goals with_reducible rfl
                      try simp only [Act.put, List.setIfInBounds_toArray, List.set_cons_zero, List.set_cons_succ]
                      refine WP.take (v := ?_) rfl (Or.inl ⟨by rfl, ?_⟩) ?_
                      rotate_left
                      · intro w8 hSw
                        (try dsimp only at hSw)
                        go_simp
                        any_goals with_reducible rfl
                      try simp only [Act.put, List.setIfInBounds_toArray, List.set_cons_zero, List.set_cons_succ]
                      refine WP.step rfl (fun K hK => ?_)
                      go_simp
                      clear kcs
                      obtain ⟨z1, e9⟩ : ∃ z1 : World, z1 = Lib.bytesWorld wd.drew 5 s := ⟨_, rfl⟩
                      have hb : Below wd.drew.heap.size wd.drew z1 := by rw [e9]; exact conv_below _ _ _
                      have K9 := Lib.hid (show KAt .u8 z1 (.slice (some ⟨wd.drew.heap.size, 0, none⟩) s.size (grownCap wd.drew s.size 0 5)) (nums s) by rw [e9]; exact conv_kat _ _ _ (by omega))
                      rw [← e9]
                      clear e9 s0 s1
                      have FA := Lib.hid (heap_on hb FA.out)
                      have FG := Lib.hid (heap_on hb FG.out)
                      have FE := Lib.hid (heap_on hb FE.out)
                      have T := Lib.hid (T.out.later hb)
                      have B := Lib.hid (below_on B.out hb)
                      have CC := Lib.hid (cell_on CC.out hb)
                      clear hb
                      have s0 : z1.cell? ⟨A, 1, none⟩ = some (.slice (some ⟨b9, o9, none⟩) n1 p1) := cell_of_row _ _ _ _ _ (0, 0) FA.out
                      have s1 : z1.cell? ⟨E, 1, none⟩ = some (.int .i64 y) := cell_of_row _ _ _ _ _ (0, 0) FE.out
                      refine hK.out _ _ (⟨s0, s1, CC.out⟩) (fun hHeld => ?_)
                      clear hK K
                      try simp only [Act.put, List.setIfInBounds_toArray, List.set_cons_zero, List.set_cons_succ]
                      refine WP.step rfl (fun K hK => ?_)
                      go_simp
                      refine (T.out.act2 0 (stepB_n HZS.out HS.out (by rw [← HN0.out]; exact hx) h3) rfl fun S hS => Append_any hS nmB (by decide) K9.out (nums_bytes _)).mono ?_
                      rintro _ z2 ⟨rfl, ht, hs⟩
                      clear s0 s1
                      have CC := Lib.hid (show z2.cell? ⟨b9, o9 + y, none⟩ = some (.string s) from (World.cell?_of_block (w := z1) (hs.block b9 (.inl (show b9 < C from hb9C)))).trans CC.out)
                      have FA := Lib.hid (hs.heap (.inl (show A < C by omega)) FA.out)
                      have FG := Lib.hid (hs.heap (.inl (show G < C by omega)) FG.out)
                      have FE := Lib.hid (hs.heap (.inr rfl) FE.out)
                      have B := Lib.hid (B.out.trans (hs.below (base := w.heap.size) (fun g hg => .inl (show g < C by omega))))
                      have T := Lib.hid ht
                      clear ht hs
                      have s0 : z2.cell? ⟨A, 1, none⟩ = some (.slice (some ⟨b9, o9, none⟩) n1 p1) := cell_of_row _ _ _ _ _ (0, 0) FA.out
                      have s1 : z2.cell? ⟨E, 1, none⟩ = some (.int .i64 y) := cell_of_row _ _ _ _ _ (0, 0) FE.out
                      go_wp2_with fail
                      refine hK.out _ _ (⟨s0, s1, CC.out⟩) (fun hHeld => ?_)
                      clear hK K
                      try simp only [Act.put, List.setIfInBounds_toArray, List.set_cons_zero, List.set_cons_succ]
                      refine WP.take (v := ?_) rfl (Or.inl ⟨by rfl, ?_⟩) ?_
                      rotate_left
                      · intro w8 hSw
                        (try dsimp only at hSw)
                        go_simp
                        any_goals with_reducible rfl
                      try simp only [Act.put, List.setIfInBounds_toArray, List.set_cons_zero, List.set_cons_succ]
                      refine WP.take (v := ?_) rfl (Or.inl ⟨by rfl, ?_⟩) ?_
                      rotate_left
                      · intro w8 hSw
                        (try dsimp only at hSw)
                        go_simp
                        any_goals with_reducible rfl
                      try simp only [Act.put, List.setIfInBounds_toArray, List.set_cons_zero, List.set_cons_succ]
                      refine WP.take (v := ?_) rfl (Or.inl ⟨by rfl, ?_⟩) ?_
                      rotate_left
                      · intro w8 hSw
                        (try dsimp only at hSw)
                        go_simp
                        any_goals with_reducible rfl
                      try simp only [Act.put, List.setIfInBounds_toArray, List.set_cons_zero, List.set_cons_succ]
                      refine WP.take (v := ?_) rfl (Or.inl ⟨by rfl, ?_⟩) ?_
                      rotate_left
                      · intro w8 hSw
                        (try dsimp only at hSw)
                        go_simp
                        any_goals with_reducible rfl
                      try simp only [Act.put, List.setIfInBounds_toArray, List.set_cons_zero, List.set_cons_succ]
                      refine WP.take (v := ?_) rfl (Or.inl ⟨by rfl, ?_⟩) ?_
                      rotate_left
                      · intro w8 hSw
                        (try dsimp only at hSw)
                        go_simp
                        any_goals with_reducible rfl
                      try simp only [Act.put, List.setIfInBounds_toArray, List.set_cons_zero, List.set_cons_succ]
                      refine WP.take (v := ?_) rfl (Or.inl ⟨by rfl, ?_⟩) ?_
                      rotate_left
                      · intro w8 hSw
                        (try dsimp only at hSw)
                        go_simp
                        any_goals with_reducible rfl
                      try simp only [Act.put, List.setIfInBounds_toArray, List.set_cons_zero, List.set_cons_succ]
                      refine WP.take (v := ?_) rfl (Or.inl ⟨by rfl, ?_⟩) ?_
                      rotate_left
                      · intro w8 hSw
                        (try dsimp only at hSw)
                        go_simp
                        any_goals with_reducible rfl
                      try simp only [Act.put, List.setIfInBounds_toArray, List.set_cons_zero, List.set_cons_succ]
                      refine WP.take (v := ?_) rfl (Or.inl ⟨by rfl, ?_⟩) ?_
                      rotate_left
                      · intro w8 hSw
                        (try dsimp only at hSw)
                        go_simp
                        any_goals with_reducible rfl
                      try simp only [Act.put, List.setIfInBounds_toArray, List.set_cons_zero, List.set_cons_succ]
                      refine WP.take (v := undef) rfl (Or.inr ⟨by rfl, rfl⟩) ?_
                      try simp only [Act.put, List.setIfInBounds_toArray, List.set_cons_zero, List.set_cons_succ]
                      refine WP.take (v := undef) rfl (Or.inr ⟨by rfl, rfl⟩) ?_
                      try simp only [Act.put, List.setIfInBounds_toArray, List.set_cons_zero, List.set_cons_succ]
                      refine WP.step rfl (fun K hK => ?_)
                      refine ite_else (by rfl) ?_
                      refine hK.out _ _ (hHeld) (fun hHeld => ?_)
                      clear hK K
                      try simp only [Act.put, List.setIfInBounds_toArray, List.set_cons_zero, List.set_cons_succ]
                      refine WP.take (v := undef) rfl (Or.inr ⟨by rfl, rfl⟩) ?_
                      try simp only [Act.put, List.setIfInBounds_toArray, List.set_cons_zero, List.set_cons_succ]
                      refine WP.take (v := ?_) rfl (Or.inl ⟨by rfl, ?_⟩) ?_
                      rotate_left
                      · intro w8 hSw
                        (try dsimp only at hSw)
                        go_simp
                        any_goals with_reducible rfl
                      try simp only [Act.put, List.setIfInBounds_toArray, List.set_cons_zero, List.set_cons_succ]
                      refine WP.take (v := ?_) rfl (Or.inl ⟨by rfl, ?_⟩) ?_
                      rotate_left
                      · intro w8 hSw
                        (try dsimp only at hSw)
                        go_simp
                        any_goals with_reducible rfl
                      try simp only [Act.put, List.setIfInBounds_toArray, List.set_cons_zero, List.set_cons_succ]
                      refine WP.done ?_
                      have f9 := frozen_row FE.out 1
                      go_wp2_with fail
                      go_roundg (n0 + n1 - (x + y + 1))
                      case measure => have h7 := HI9.out; have h8 := HM9.out; omega
                      case rel => exact ⟨x, y + 1, by omega, by omega, by omega, by rw [show ((i9 : Int) + 1) = ((x + (y + 1) : Nat) : Int) by have := HI9.out; omega], Lib.hid (T.out.put E 1 _ (.inr rfl)), Lib.hid ((Below.heap_setCell _ _ _ _ (show A ≠ E by omega)).trans FA.out), Lib.hid ((Below.heap_setCell _ _ _ _ (show G ≠ E by omega)).trans FG.out), Lib.hid (heap_setCell_same _ E 1 _ _ _ FE.out), below_put B.out E 1 _ hwE⟩
        · have hendI : ¬ ((i9 : Int) < (m9 : Int)) := by omega
          have hx9 : x = n0 := by have := HI9.out; have := HM9.out; omega
          have hy9 : y = n1 := by have := HI9.out; have := HM9.out; omega
          go_wp2_with fail
          clear e0 e1 k0 k1
          have T := Lib.hid (show (TwoK (fun g => g < C ∨ g = E) wr C C D ((two2 (rowAt L0 n0) (rowAt L1 n1)).names) (two2 (rowAt L0 n0) (rowAt L1 n1))) from by have h9 := T.out; rw [hx9, hy9] at h9; exact h9)
          refine (T.out.act2 0 rfl rfl fun S hS => Names_any hS).mono ?_
          rintro _ w81 ⟨rfl, ht, hs⟩
          have FA := Lib.hid (hs.heap (.inl (show A < C by omega)) FA.out)
          have FG := Lib.hid (hs.heap (.inl (show G < C by omega)) FG.out)
          have FE := Lib.hid (hs.heap (.inr rfl) FE.out)
          have B := Lib.hid (B.out.trans (hs.below (base := w.heap.size) (fun g hg => .inl (show g < C by omega))))
          have T := Lib.hid ht
          clear ht hs
          have f9 := frozen_row FG.out 1
          have g9 := cell_of_row _ G 1 _ _ (0, 0) FG.out
          go_wp2_with fail
          go_roundw
          case rel => exact .inr (.inr ⟨rfl, C, D, hGC, Lib.hid ((T.out.put G 1 _ (.inl hGC)).less (fun g hg => .inl hg)), Lib.hid ((Below.heap_setCell _ _ _ _ (show A ≠ G by omega)).trans FA.out), Lib.hid (heap_setCell_same _ G 1 _ _ _ FG.out), below_put B.out G 1 _ hwG⟩)
          case measure => simp [intOf]
    · have B := Lib.hid hb
      clear hb
      have g0 := cell_of_row wr G 0 _ _ (0, 0) FG.out
      have g1 := cell_of_row wr G 1 _ _ (0, 0) FG.out
      go_wp2_with fail
      clear g0 g1
      obtain ⟨S, S9, hS, hS9, _⟩ := T.out
      refine (alike_any hS hS9 rfl rfl).mono ?_
      clear hS hS9
      rintro _ w61 ⟨rfl, hb⟩
      have FG := Lib.hid (heap_on hb FG.out)
      have B := Lib.hid (below_on B.out hb)
      have T := Lib.hid (T.out.later hb)
      clear hb
      have g0 := cell_of_row w61 G 0 _ _ (0, 0) FG.out
      have g1 := cell_of_row w61 G 1 _ _ (0, 0) FG.out
      go_wp2_with fail
      clear g0 g1
      obtain ⟨S, S9, hS, hS9, _⟩ := T.out
      refine (fail_any hS hS9 rfl rfl rfl keep (by omega)).mono ?_
      clear hS hS9
      rintro _ w62 ⟨rfl, hb⟩
      have FG := Lib.hid (heap_on hb FG.out)
      have B := Lib.hid (below_on B.out hb)
      have T := Lib.hid (T.out.later hb)
      clear hb
      go_wp2_with fail
      go_ret
      exact ⟨rfl, B.out⟩
end Go.Proofs.YtjfejpdeccnlnaaDoor
