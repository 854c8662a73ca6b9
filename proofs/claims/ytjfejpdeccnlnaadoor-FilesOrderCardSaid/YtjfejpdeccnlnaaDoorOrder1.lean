/- Layer 17 (files): FilesOrder, the walk. -/
import Derived.Test.YtjfejpdeccnlnaaDoorOrder0
import Derived.Test.YtjfejpdeccnlnaaDoorOpenS
import Derived.Deep.DeepCutAuto
import Derived.Deep.LoopGhost
namespace Go.Proofs.YtjfejpdeccnlnaaDoor
open Go.ChangeShapes Go.WideShapes Go.ChangeAt Go.RowKit

theorem setc_chg (w : World) (G o : Nat) (v : Value) : Chg w (w.setCell ⟨G, o, none⟩ v) (fun g => g = G) := Chg.setCell (S := fun g => g = G) (p := ⟨G, o, none⟩) (Chg.refl w _) (.inl rfl) v
theorem OneK.put {K : Nat → Prop} {w : World} {base C : Nat} {M : Dm} (h : OneK K w base C M) (G o : Nat) (v : Value) (hG : K G) : OneK K (w.setCell ⟨G, o, none⟩ v) base C M := by
  obtain ⟨S, h1, h4⟩ := h
  exact ⟨S, h1.other (setc_chg w G o v) (fun g hg hs => (h4 G hG).2 (hg ▸ hs)), fun g hg => ⟨Nat.lt_of_lt_of_le (h4 g hg).1 (setc_chg w G o v).size, (h4 g hg).2⟩⟩
theorem TwoK.put {K : Nat → Prop} {w : World} {base C D : Nat} {M M' : Dm} (h : TwoK K w base C D M M') (G o : Nat) (v : Value) (hG : K G) : TwoK K (w.setCell ⟨G, o, none⟩ v) base C D M M' := by
  obtain ⟨S, S', h1, h2, h3, h4⟩ := h
  exact ⟨S, S', h1.other (setc_chg w G o v) (fun g hg hs => (h4 G hG).2.1 (hg ▸ hs)), h2.other (setc_chg w G o v) (fun g hg hs => (h4 G hG).2.2 (hg ▸ hs)), h3, fun g hg => ⟨Nat.lt_of_lt_of_le (h4 g hg).1 (setc_chg w G o v).size, (h4 g hg).2⟩⟩
theorem OneK.less {K K' : Nat → Prop} {w : World} {base C : Nat} {M : Dm} (h : OneK K w base C M) (hK : ∀ g, K' g → K g) : OneK K' w base C M := by
  obtain ⟨S, h1, h4⟩ := h
  exact ⟨S, h1, fun g hg => h4 g (hK g hg)⟩
theorem TwoK.less {K K' : Nat → Prop} {w : World} {base C D : Nat} {M M' : Dm} (h : TwoK K w base C D M M') (hK : ∀ g, K' g → K g) : TwoK K' w base C D M M' := by
  obtain ⟨S, S', h1, h2, h3, h4⟩ := h
  exact ⟨S, S', h1, h2, h3, fun g hg => h4 g (hK g hg)⟩
theorem below_put {w0 w : World} (h : Below w0.heap.size w0 w) (G o : Nat) (v : Value) (hG : w0.heap.size ≤ G) : Below w0.heap.size w0 (w.setCell ⟨G, o, none⟩ v) :=
  ⟨h.os, h.tape, h.output, by simpa [World.setCell] using h.size, fun g hg => (Below.heap_setCell _ _ _ _ (by intro e; simp only at e; omega)).trans (h.block g hg)⟩
set_option linter.unusedSimpArgs false in
set_option linter.unusedVariables false in
set_option maxRecDepth 20000 in
set_option maxHeartbeats 4000000 in
theorem filesOrder_big0 (c0 c1 vt : Value) (L0 L1 : List ByteArray) (tl : List Bool) (keep : Nat) (hk : keep < 256) (w : World) (h0 : SAt w c0 L0) (h1 : SAt w c1 L1) (ht : BoolsAt w vt tl) (hl0 : L0.length ≤ 140737488351232) (hl1 : L1.length ≤ 140737488351232) (hz0 : ∀ s ∈ L0, s.size ≤ 140737488351232) (hz1 : ∀ s ∈ L1, s.size ≤ 140737488351232) (h : 20 < L0.length) :
    Calls Tryd.prog 7 #[.agg #[c0, c1], vt, .int .u8 keep] w fun e w' => e = .returned (.bool true) ∧ Below w.heap.size w w' := by
  have hh := h0
  obtain ⟨a0, p0, hv, hc1, hc2, _, hc4⟩ := hh
  obtain ⟨n0, hn⟩ : ∃ n, n = L0.length := ⟨_, rfl⟩
  rw [← hn] at hv hc1 hc4
  subst hv
  have HN0 := Lib.hid hn
  have HC0 := Lib.hid hc4
  have hn09 : n0 ≤ 140737488351232 := by omega
  clear hc1 hc2 hc4 hn
  have hh := h1
  obtain ⟨a1, p1, hv, hc1, hc2, _, hc4⟩ := hh
  obtain ⟨n1, hn⟩ : ∃ n, n = L1.length := ⟨_, rfl⟩
  rw [← hn] at hv hc1 hc4
  subst hv
  have HN1 := Lib.hid hn
  have HC1 := Lib.hid hc4
  have hn19 : n1 ≤ 140737488351232 := by omega
  clear hc1 hc2 hc4 hn
  have HS0 := Lib.hid h0
  have HS1 := Lib.hid h1
  have HZ0 := Lib.hid hz0
  have HZ1 := Lib.hid hz1
  have HT := Lib.hid ht
  obtain ⟨at_, pt, hv, ht1, ht2, ht3⟩ := ht
  obtain ⟨nt, hnt⟩ : ∃ n, n = tl.length := ⟨_, rfl⟩
  rw [← hnt] at hv ht1 ht3
  subst hv
  have HNT := Lib.hid hnt
  have HCT := Lib.hid ht3
  unfold maxLen at ht2
  have hntI : (nt : Int) ≤ 9223372036854775807 := by omega
  clear h0 h1 hz0 hz1 ht2 ht1 ht3 hnt
  obtain ⟨t0, ht0⟩ : ∃ t, t = textsN L0 := ⟨_, rfl⟩
  obtain ⟨t1, ht1⟩ : ∃ t, t = textsN L1 := ⟨_, rfl⟩
  have ht09 : (t0 : Int) ≤ 281474976710656 := by have := tn_le L0 L0.length HZ0.out (by omega); rw [ht0]; unfold textsN; omega
  have ht19 : (t1 : Int) ≤ 281474976710656 := by have := tn_le L1 L1.length HZ1.out (by omega); rw [ht1]; unfold textsN; omega
  have HT0 := Lib.hid ht0.symm
  have HT1 := Lib.hid ht1.symm
  simp only [← ht0, ← ht1, ← HN0.out, ← HN1.out] at h
  clear ht0 ht1
  go_enter Tryd.func7, Tryd.ntmps7
  go_wp2_with fail
  obtain ⟨w1, e9⟩ : ∃ w1 : World, w1 = w.alloc (.cells #[.slice a0 n0 p0, .slice a1 n1 p1] 53) := ⟨_, rfl⟩
  have hb : Below w.heap.size w w1 := by rw [e9]; exact (Below.refl _ _).alloc (Nat.le_refl _) _
  have h9 : w1.heap[w.heap.size]? = some (.cells #[.slice a0 n0 p0, .slice a1 n1 p1] 53) := by rw [e9]; exact heap_alloc_new _ _
  rw [← e9]
  clear e9
  have B := Lib.hid hb
  have FA := Lib.hid h9
  have HS0 := Lib.hid (HS0.out.later hb)
  have HS1 := Lib.hid (HS1.out.later hb)
  clear hb h9
  obtain ⟨A, hAe⟩ : ∃ A, A = w.heap.size := ⟨_, rfl⟩
  rw [← hAe] at FA ⊢
  clear hAe
  have hx : (20 : Int) < (n0 : Int) := by omega
  have hb : Below w1.heap.size w1 w1.drew := ⟨rfl, rfl, rfl, Nat.le_refl _, fun _ _ => rfl⟩
  have FA := Lib.hid (heap_on hb FA.out)
  have B := Lib.hid (below_on B.out hb)
  have HS0 := Lib.hid (HS0.out.later hb)
  have HS1 := Lib.hid (HS1.out.later hb)
  have k0 : w1.drew.cell? ⟨A, 0, none⟩ = some (.slice a0 n0 p0) := cell_of_row _ _ _ _ _ (0, 0) FA.out
  have k1 : w1.drew.cell? ⟨A, 1, none⟩ = some (.slice a1 n1 p1) := cell_of_row _ _ _ _ _ (0, 0) FA.out
  clear hb
  refine wp_region_perm [(0, false), (1, true), (2, true), (3, true), (4, true), (5, true), (6, true), (7, true), (8, true), (9, true), (10, true), (11, true), (12, true), (13, true), (14, true), (15, true), (16, true), (18, true), (19, true), (17, false), (20, false), (21, true), (22, true), (23, true)] (fun w9 => w9.cell? ⟨A, 0, none⟩ = some (.slice a0 n0 p0) ∧ w9.cell? ⟨A, 1, none⟩ = some (.slice a1 n1 p1)) (by kernel_rfl) (by kernel_rfl) (fun _ _ _ _ _ h => h) (⟨k0, k1⟩) (fun hHeld => ?_)
  refine WP.step rfl (fun K hK => ?_)
  go_simp
  refine (alive17 _).mono ?_
  rintro _ x1 ⟨rfl, hb⟩
  have FA := Lib.hid (heap_on hb FA.out)
  have B := Lib.hid (below_on B.out hb)
  have HS0 := Lib.hid (HS0.out.later hb)
  have HS1 := Lib.hid (HS1.out.later hb)
  have k0 : x1.cell? ⟨A, 0, none⟩ = some (.slice a0 n0 p0) := cell_of_row _ _ _ _ _ (0, 0) FA.out
  have k1 : x1.cell? ⟨A, 1, none⟩ = some (.slice a1 n1 p1) := cell_of_row _ _ _ _ _ (0, 0) FA.out
  clear hb
  go_wp2_with fail
  refine hK.out _ _ (⟨k0, k1⟩) (fun hHeld => ?_)
  clear hK K
  try simp only [Act.put, List.setIfInBounds_toArray, List.set_cons_zero, List.set_cons_succ]
  refine WP.take (v := ?_) rfl (Or.inl ⟨by rfl, ?_⟩) ?_
  rotate_left
  · intro w8 hSw
    (try dsimp only at hSw)
    go_simp
    any_goals with_reducible rfl
  try simp only [Act.put, List.setIfInBounds_toArray, List.set_cons_zero, List.set_cons_succ]
  refine WP.take (v := ?_) rfl (Or.inl ⟨by rfl, ?_⟩) ?_
  rotate_left
  · intro w8 hSw
    (try dsimp only at hSw)
    go_simp
    any_goals with_reducible rfl
  try simp only [Act.put, List.setIfInBounds_toArray, List.set_cons_zero, List.set_cons_succ]
  refine WP.take (v := ?_) rfl (Or.inl ⟨by rfl, ?_⟩) ?_
  rotate_left
  · intro w8 hSw
    (try dsimp only at hSw)
    go_simp
    any_goals with_reducible rfl
  try simp only [Act.put, List.setIfInBounds_toArray, List.set_cons_zero, List.set_cons_succ]
  refine WP.take (v := ?_) rfl (Or.inl ⟨by rfl, ?_⟩) ?_
  rotate_left
  · intro w8 hSw
    (try dsimp only at hSw)
    go_simp
    any_goals with_reducible rfl
  try simp only [Act.put, List.setIfInBounds_toArray, List.set_cons_zero, List.set_cons_succ]
  refine WP.take (v := ?_) rfl (Or.inl ⟨by rfl, ?_⟩) ?_
  rotate_left
  · intro w8 hSw
    (try dsimp only at hSw)
    go_simp
    any_goals with_reducible rfl
  try simp only [Act.put, List.setIfInBounds_toArray, List.set_cons_zero, List.set_cons_succ]
  refine WP.take (v := ?_) rfl (Or.inl ⟨by rfl, ?_⟩) ?_
  rotate_left
  · intro w8 hSw
    (try dsimp only at hSw)
    go_simp
    any_goals with_reducible rfl
  try simp only [Act.put, List.setIfInBounds_toArray, List.set_cons_zero, List.set_cons_succ]
  refine WP.take (v := ?_) rfl (Or.inl ⟨by rfl, ?_⟩) ?_
  rotate_left
  · intro w8 hSw
    (try dsimp only at hSw)
    go_simp
    any_goals with_reducible rfl
  try simp only [Act.put, List.setIfInBounds_toArray, List.set_cons_zero, List.set_cons_succ]
  refine WP.take (v := ?_) rfl (Or.inl ⟨by rfl, ?_⟩) ?_
  rotate_left
  · intro w8 hSw
    (try dsimp only at hSw)
    go_simp
    any_goals with_reducible rfl
  try simp only [Act.put, List.setIfInBounds_toArray, List.set_cons_zero, List.set_cons_succ]
  refine WP.take (v := undef) rfl (Or.inr ⟨by rfl, rfl⟩) ?_
  try simp only [Act.put, List.setIfInBounds_toArray, List.set_cons_zero, List.set_cons_succ]
  refine WP.take (v := undef) rfl (Or.inr ⟨by rfl, rfl⟩) ?_
  try simp only [Act.put, List.setIfInBounds_toArray, List.set_cons_zero, List.set_cons_succ]
  refine WP.take (v := undef) rfl (Or.inr ⟨by rfl, rfl⟩) ?_
  try simp only [Act.put, List.setIfInBounds_toArray, List.set_cons_zero, List.set_cons_succ]
  refine WP.take (v := undef) rfl (Or.inr ⟨by rfl, rfl⟩) ?_
  try simp only [Act.put, List.setIfInBounds_toArray, List.set_cons_zero, List.set_cons_succ]
  refine WP.take (v := ?_) rfl (Or.inl ⟨by rfl, ?_⟩) ?_
  rotate_left
  · intro w8 hSw
    (try dsimp only at hSw)
    go_simp
    any_goals with_reducible rfl
  try simp only [Act.put, List.setIfInBounds_toArray, List.set_cons_zero, List.set_cons_succ]
  refine WP.take (v := ?_) rfl (Or.inl ⟨by rfl, ?_⟩) ?_
  rotate_left
  · intro w8 hSw
    (try dsimp only at hSw)
    go_simp
    any_goals with_reducible rfl
  try simp only [Act.put, List.setIfInBounds_toArray, List.set_cons_zero, List.set_cons_succ]
  refine WP.take (v := undef) rfl (Or.inr ⟨by rfl, rfl⟩) ?_
  try simp only [Act.put, List.setIfInBounds_toArray, List.set_cons_zero, List.set_cons_succ]
  refine WP.take (v := undef) rfl (Or.inr ⟨by rfl, rfl⟩) ?_
  try simp only [Act.put, List.setIfInBounds_toArray, List.set_cons_zero, List.set_cons_succ]
  refine WP.take (v := undef) rfl (Or.inr ⟨by rfl, rfl⟩) ?_
  try simp only [Act.put, List.setIfInBounds_toArray, List.set_cons_zero, List.set_cons_succ]
  refine WP.take (v := undef) rfl (Or.inr ⟨by rfl, rfl⟩) ?_
  try simp only [Act.put, List.setIfInBounds_toArray, List.set_cons_zero, List.set_cons_succ]
  refine WP.step rfl (fun K hK => ?_)
  refine ite_else (by rfl) ?_
  refine hK.out _ _ (hHeld) (fun hHeld => ?_)
  clear hK K
  try simp only [Act.put, List.setIfInBounds_toArray, List.set_cons_zero, List.set_cons_succ]
  refine WP.step rfl (fun K hK => ?_)
  refine ite_else (by rfl) ?_
  refine hK.out _ _ (hHeld) (fun hHeld => ?_)
  clear hK K
  try simp only [Act.put, List.setIfInBounds_toArray, List.set_cons_zero, List.set_cons_succ]
  refine WP.take (v := undef) rfl (Or.inr ⟨by rfl, rfl⟩) ?_
  try simp only [Act.put, List.setIfInBounds_toArray, List.set_cons_zero, List.set_cons_succ]
  refine WP.take (v := undef) rfl (Or.inr ⟨by rfl, rfl⟩) ?_
  try simp only [Act.put, List.setIfInBounds_toArray, List.set_cons_zero, List.set_cons_succ]
  refine WP.take (v := ?_) rfl (Or.inl ⟨by rfl, ?_⟩) ?_
  rotate_left
  · intro w8 hSw
    (try dsimp only at hSw)
    go_simp
    any_goals with_reducible rfl
  try simp only [Act.put, List.setIfInBounds_toArray, List.set_cons_zero, List.set_cons_succ]
  refine WP.done ?_
  go_wp2_with fail
  refine (alive17 _).mono ?_
  rintro _ y1 ⟨rfl, hb⟩
  have B := Lib.hid (below_on B.out hb)
  go_wp2_with fail
  go_ret
  exact ⟨rfl, B.out⟩
set_option linter.unusedSimpArgs false in
set_option linter.unusedVariables false in
set_option maxRecDepth 20000 in
set_option maxHeartbeats 4000000 in
theorem filesOrder_big1 (c0 c1 vt : Value) (L0 L1 : List ByteArray) (tl : List Bool) (keep : Nat) (hk : keep < 256) (w : World) (h0 : SAt w c0 L0) (h1 : SAt w c1 L1) (ht : BoolsAt w vt tl) (hl0 : L0.length ≤ 140737488351232) (hl1 : L1.length ≤ 140737488351232) (hz0 : ∀ s ∈ L0, s.size ≤ 140737488351232) (hz1 : ∀ s ∈ L1, s.size ≤ 140737488351232) (h : ¬ 20 < L0.length ∧ 20 < L1.length) :
    Calls Tryd.prog 7 #[.agg #[c0, c1], vt, .int .u8 keep] w fun e w' => e = .returned (.bool true) ∧ Below w.heap.size w w' := by
  have hh := h0
  obtain ⟨a0, p0, hv, hc1, hc2, _, hc4⟩ := hh
  obtain ⟨n0, hn⟩ : ∃ n, n = L0.length := ⟨_, rfl⟩
  rw [← hn] at hv hc1 hc4
  subst hv
  have HN0 := Lib.hid hn
  have HC0 := Lib.hid hc4
  have hn09 : n0 ≤ 140737488351232 := by omega
  clear hc1 hc2 hc4 hn
  have hh := h1
  obtain ⟨a1, p1, hv, hc1, hc2, _, hc4⟩ := hh
  obtain ⟨n1, hn⟩ : ∃ n, n = L1.length := ⟨_, rfl⟩
  rw [← hn] at hv hc1 hc4
  subst hv
  have HN1 := Lib.hid hn
  have HC1 := Lib.hid hc4
  have hn19 : n1 ≤ 140737488351232 := by omega
  clear hc1 hc2 hc4 hn
  have HS0 := Lib.hid h0
  have HS1 := Lib.hid h1
  have HZ0 := Lib.hid hz0
  have HZ1 := Lib.hid hz1
  have HT := Lib.hid ht
  obtain ⟨at_, pt, hv, ht1, ht2, ht3⟩ := ht
  obtain ⟨nt, hnt⟩ : ∃ n, n = tl.length := ⟨_, rfl⟩
  rw [← hnt] at hv ht1 ht3
  subst hv
  have HNT := Lib.hid hnt
  have HCT := Lib.hid ht3
  unfold maxLen at ht2
  have hntI : (nt : Int) ≤ 9223372036854775807 := by omega
  clear h0 h1 hz0 hz1 ht2 ht1 ht3 hnt
  obtain ⟨t0, ht0⟩ : ∃ t, t = textsN L0 := ⟨_, rfl⟩
  obtain ⟨t1, ht1⟩ : ∃ t, t = textsN L1 := ⟨_, rfl⟩
  have ht09 : (t0 : Int) ≤ 281474976710656 := by have := tn_le L0 L0.length HZ0.out (by omega); rw [ht0]; unfold textsN; omega
  have ht19 : (t1 : Int) ≤ 281474976710656 := by have := tn_le L1 L1.length HZ1.out (by omega); rw [ht1]; unfold textsN; omega
  have HT0 := Lib.hid ht0.symm
  have HT1 := Lib.hid ht1.symm
  simp only [← ht0, ← ht1, ← HN0.out, ← HN1.out] at h
  clear ht0 ht1
  go_enter Tryd.func7, Tryd.ntmps7
  go_wp2_with fail
  obtain ⟨w1, e9⟩ : ∃ w1 : World, w1 = w.alloc (.cells #[.slice a0 n0 p0, .slice a1 n1 p1] 53) := ⟨_, rfl⟩
  have hb : Below w.heap.size w w1 := by rw [e9]; exact (Below.refl _ _).alloc (Nat.le_refl _) _
  have h9 : w1.heap[w.heap.size]? = some (.cells #[.slice a0 n0 p0, .slice a1 n1 p1] 53) := by rw [e9]; exact heap_alloc_new _ _
  rw [← e9]
  clear e9
  have B := Lib.hid hb
  have FA := Lib.hid h9
  have HS0 := Lib.hid (HS0.out.later hb)
  have HS1 := Lib.hid (HS1.out.later hb)
  clear hb h9
  obtain ⟨A, hAe⟩ : ∃ A, A = w.heap.size := ⟨_, rfl⟩
  rw [← hAe] at FA ⊢
  clear hAe
  have hx0 : ¬ ((20 : Int) < (n0 : Int)) := by omega
  have hx0d : decide ((20 : Int) < (n0 : Int)) = false := decide_eq_false hx0
  have hx : (20 : Int) < (n1 : Int) := by omega
  have hb : Below w1.heap.size w1 w1.drew := ⟨rfl, rfl, rfl, Nat.le_refl _, fun _ _ => rfl⟩
  have FA := Lib.hid (heap_on hb FA.out)
  have B := Lib.hid (below_on B.out hb)
  have HS0 := Lib.hid (HS0.out.later hb)
  have HS1 := Lib.hid (HS1.out.later hb)
  have k0 : w1.drew.cell? ⟨A, 0, none⟩ = some (.slice a0 n0 p0) := cell_of_row _ _ _ _ _ (0, 0) FA.out
  have k1 : w1.drew.cell? ⟨A, 1, none⟩ = some (.slice a1 n1 p1) := cell_of_row _ _ _ _ _ (0, 0) FA.out
  clear hb
  refine wp_region_perm [(0, false), (1, true), (2, true), (3, true), (4, true), (5, true), (6, true), (7, true), (8, true), (9, true), (10, true), (11, true), (12, true), (13, true), (14, true), (15, true), (16, true), (18, true), (19, true), (17, false), (20, false), (21, true), (22, true), (23, true)] (fun w9 => w9.cell? ⟨A, 0, none⟩ = some (.slice a0 n0 p0) ∧ w9.cell? ⟨A, 1, none⟩ = some (.slice a1 n1 p1)) (by kernel_rfl) (by kernel_rfl) (fun _ _ _ _ _ h => h) (⟨k0, k1⟩) (fun hHeld => ?_)
  refine WP.step rfl (fun K hK => ?_)
  go_simp
  refine (alive17 _).mono ?_
  rintro _ x1 ⟨rfl, hb⟩
  have FA := Lib.hid (heap_on hb FA.out)
  have B := Lib.hid (below_on B.out hb)
  have HS0 := Lib.hid (HS0.out.later hb)
  have HS1 := Lib.hid (HS1.out.later hb)
  have k0 : x1.cell? ⟨A, 0, none⟩ = some (.slice a0 n0 p0) := cell_of_row _ _ _ _ _ (0, 0) FA.out
  have k1 : x1.cell? ⟨A, 1, none⟩ = some (.slice a1 n1 p1) := cell_of_row _ _ _ _ _ (0, 0) FA.out
  clear hb
  go_wp2_with fail
  refine hK.out _ _ (⟨k0, k1⟩) (fun hHeld => ?_)
  clear hK K
  try simp only [Act.put, List.setIfInBounds_toArray, List.set_cons_zero, List.set_cons_succ]
  refine WP.take (v := ?_) rfl (Or.inl ⟨by rfl, ?_⟩) ?_
  rotate_left
  · intro w8 hSw
    (try dsimp only at hSw)
    go_simp
    any_goals with_reducible rfl
  try simp only [Act.put, List.setIfInBounds_toArray, List.set_cons_zero, List.set_cons_succ]
  refine WP.take (v := ?_) rfl (Or.inl ⟨by rfl, ?_⟩) ?_
  rotate_left
  · intro w8 hSw
    (try dsimp only at hSw)
    go_simp
    any_goals with_reducible rfl
  try simp only [Act.put, List.setIfInBounds_toArray, List.set_cons_zero, List.set_cons_succ]
  refine WP.take (v := ?_) rfl (Or.inl ⟨by rfl, ?_⟩) ?_
  rotate_left
  · intro w8 hSw
    (try dsimp only at hSw)
    go_simp
    any_goals with_reducible rfl
  try simp only [Act.put, List.setIfInBounds_toArray, List.set_cons_zero, List.set_cons_succ]
  refine WP.take (v := ?_) rfl (Or.inl ⟨by rfl, ?_⟩) ?_
  rotate_left
  · intro w8 hSw
    (try dsimp only at hSw)
    go_simp
    any_goals with_reducible rfl
  try simp only [Act.put, List.setIfInBounds_toArray, List.set_cons_zero, List.set_cons_succ]
  refine WP.take (v := ?_) rfl (Or.inl ⟨by rfl, ?_⟩) ?_
  rotate_left
  · intro w8 hSw
    (try dsimp only at hSw)
    go_simp
    any_goals with_reducible rfl
  try simp only [Act.put, List.setIfInBounds_toArray, List.set_cons_zero, List.set_cons_succ]
  refine WP.take (v := ?_) rfl (Or.inl ⟨by rfl, ?_⟩) ?_
  rotate_left
  · intro w8 hSw
    (try dsimp only at hSw)
    go_simp
    any_goals with_reducible rfl
  try simp only [Act.put, List.setIfInBounds_toArray, List.set_cons_zero, List.set_cons_succ]
  refine WP.take (v := ?_) rfl (Or.inl ⟨by rfl, ?_⟩) ?_
  rotate_left
  · intro w8 hSw
    (try dsimp only at hSw)
    go_simp
    any_goals with_reducible rfl
  try simp only [Act.put, List.setIfInBounds_toArray, List.set_cons_zero, List.set_cons_succ]
  refine WP.take (v := ?_) rfl (Or.inl ⟨by rfl, ?_⟩) ?_
  rotate_left
  · intro w8 hSw
    (try dsimp only at hSw)
    go_simp
    any_goals with_reducible rfl
  try simp only [Act.put, List.setIfInBounds_toArray, List.set_cons_zero, List.set_cons_succ]
  refine WP.take (v := ?_) rfl (Or.inl ⟨by rfl, ?_⟩) ?_
  rotate_left
  · intro w8 hSw
    (try dsimp only at hSw)
    go_simp
    any_goals with_reducible rfl
  try simp only [Act.put, List.setIfInBounds_toArray, List.set_cons_zero, List.set_cons_succ]
  refine WP.take (v := ?_) rfl (Or.inl ⟨by rfl, ?_⟩) ?_
  rotate_left
  · intro w8 hSw
    (try dsimp only at hSw)
    go_simp
    any_goals with_reducible rfl
  try simp only [Act.put, List.setIfInBounds_toArray, List.set_cons_zero, List.set_cons_succ]
  refine WP.take (v := ?_) rfl (Or.inl ⟨by rfl, ?_⟩) ?_
  rotate_left
  · intro w8 hSw
    (try dsimp only at hSw)
    go_simp
    any_goals with_reducible rfl
  try simp only [Act.put, List.setIfInBounds_toArray, List.set_cons_zero, List.set_cons_succ]
  refine WP.take (v := ?_) rfl (Or.inl ⟨by rfl, ?_⟩) ?_
  rotate_left
  · intro w8 hSw
    (try dsimp only at hSw)
    go_simp
    any_goals with_reducible rfl
  try simp only [Act.put, List.setIfInBounds_toArray, List.set_cons_zero, List.set_cons_succ]
  refine WP.take (v := ?_) rfl (Or.inl ⟨by rfl, ?_⟩) ?_
  rotate_left
  · intro w8 hSw
    (try dsimp only at hSw)
    go_simp
    any_goals with_reducible rfl
  try simp only [Act.put, List.setIfInBounds_toArray, List.set_cons_zero, List.set_cons_succ]
  refine WP.take (v := ?_) rfl (Or.inl ⟨by rfl, ?_⟩) ?_
  rotate_left
  · intro w8 hSw
    (try dsimp only at hSw)
    go_simp
    any_goals with_reducible rfl
  try simp only [Act.put, List.setIfInBounds_toArray, List.set_cons_zero, List.set_cons_succ]
  refine WP.take (v := undef) rfl (Or.inr ⟨by rfl, rfl⟩) ?_
  try simp only [Act.put, List.setIfInBounds_toArray, List.set_cons_zero, List.set_cons_succ]
  refine WP.take (v := undef) rfl (Or.inr ⟨by rfl, rfl⟩) ?_
  try simp only [Act.put, List.setIfInBounds_toArray, List.set_cons_zero, List.set_cons_succ]
  refine WP.take (v := undef) rfl (Or.inr ⟨by rfl, rfl⟩) ?_
  try simp only [Act.put, List.setIfInBounds_toArray, List.set_cons_zero, List.set_cons_succ]
  refine WP.take (v := undef) rfl (Or.inr ⟨by rfl, rfl⟩) ?_
  try simp only [Act.put, List.setIfInBounds_toArray, List.set_cons_zero, List.set_cons_succ]
  refine WP.step rfl (fun K hK => ?_)
  refine ite_else (by rfl) ?_
  refine hK.out _ _ (hHeld) (fun hHeld => ?_)
  clear hK K
  try simp only [Act.put, List.setIfInBounds_toArray, List.set_cons_zero, List.set_cons_succ]
  refine WP.step rfl (fun K hK => ?_)
  refine ite_else (by rfl) ?_
  refine hK.out _ _ (hHeld) (fun hHeld => ?_)
  clear hK K
  try simp only [Act.put, List.setIfInBounds_toArray, List.set_cons_zero, List.set_cons_succ]
  refine WP.take (v := undef) rfl (Or.inr ⟨by rfl, rfl⟩) ?_
  try simp only [Act.put, List.setIfInBounds_toArray, List.set_cons_zero, List.set_cons_succ]
  refine WP.take (v := undef) rfl (Or.inr ⟨by rfl, rfl⟩) ?_
  try simp only [Act.put, List.setIfInBounds_toArray, List.set_cons_zero, List.set_cons_succ]
  refine WP.take (v := ?_) rfl (Or.inl ⟨by rfl, ?_⟩) ?_
  rotate_left
  · intro w8 hSw
    (try dsimp only at hSw)
    go_simp
    any_goals with_reducible rfl
  try simp only [Act.put, List.setIfInBounds_toArray, List.set_cons_zero, List.set_cons_succ]
  refine WP.done ?_
  go_wp2_with fail
  refine (alive17 _).mono ?_
  rintro _ y1 ⟨rfl, hb⟩
  have B := Lib.hid (below_on B.out hb)
  go_wp2_with fail
  go_ret
  exact ⟨rfl, B.out⟩
set_option linter.unusedSimpArgs false in
set_option linter.unusedVariables false in
set_option maxRecDepth 20000 in
set_option maxHeartbeats 4000000 in
theorem filesOrder_big2 (c0 c1 vt : Value) (L0 L1 : List ByteArray) (tl : List Bool) (keep : Nat) (hk : keep < 256) (w : World) (h0 : SAt w c0 L0) (h1 : SAt w c1 L1) (ht : BoolsAt w vt tl) (hl0 : L0.length ≤ 140737488351232) (hl1 : L1.length ≤ 140737488351232) (hz0 : ∀ s ∈ L0, s.size ≤ 140737488351232) (hz1 : ∀ s ∈ L1, s.size ≤ 140737488351232) (h : ¬ 20 < L0.length ∧ ¬ 20 < L1.length ∧ 20000 < textsN L0 + textsN L1) :
    Calls Tryd.prog 7 #[.agg #[c0, c1], vt, .int .u8 keep] w fun e w' => e = .returned (.bool true) ∧ Below w.heap.size w w' := by
  have hh := h0
  obtain ⟨a0, p0, hv, hc1, hc2, _, hc4⟩ := hh
  obtain ⟨n0, hn⟩ : ∃ n, n = L0.length := ⟨_, rfl⟩
  rw [← hn] at hv hc1 hc4
  subst hv
  have HN0 := Lib.hid hn
  have HC0 := Lib.hid hc4
  have hn09 : n0 ≤ 140737488351232 := by omega
  clear hc1 hc2 hc4 hn
  have hh := h1
  obtain ⟨a1, p1, hv, hc1, hc2, _, hc4⟩ := hh
  obtain ⟨n1, hn⟩ : ∃ n, n = L1.length := ⟨_, rfl⟩
  rw [← hn] at hv hc1 hc4
  subst hv
  have HN1 := Lib.hid hn
  have HC1 := Lib.hid hc4
  have hn19 : n1 ≤ 140737488351232 := by omega
  clear hc1 hc2 hc4 hn
  have HS0 := Lib.hid h0
  have HS1 := Lib.hid h1
  have HZ0 := Lib.hid hz0
  have HZ1 := Lib.hid hz1
  have HT := Lib.hid ht
  obtain ⟨at_, pt, hv, ht1, ht2, ht3⟩ := ht
  obtain ⟨nt, hnt⟩ : ∃ n, n = tl.length := ⟨_, rfl⟩
  rw [← hnt] at hv ht1 ht3
  subst hv
  have HNT := Lib.hid hnt
  have HCT := Lib.hid ht3
  unfold maxLen at ht2
  have hntI : (nt : Int) ≤ 9223372036854775807 := by omega
  clear h0 h1 hz0 hz1 ht2 ht1 ht3 hnt
  obtain ⟨t0, ht0⟩ : ∃ t, t = textsN L0 := ⟨_, rfl⟩
  obtain ⟨t1, ht1⟩ : ∃ t, t = textsN L1 := ⟨_, rfl⟩
  have ht09 : (t0 : Int) ≤ 281474976710656 := by have := tn_le L0 L0.length HZ0.out (by omega); rw [ht0]; unfold textsN; omega
  have ht19 : (t1 : Int) ≤ 281474976710656 := by have := tn_le L1 L1.length HZ1.out (by omega); rw [ht1]; unfold textsN; omega
  have HT0 := Lib.hid ht0.symm
  have HT1 := Lib.hid ht1.symm
  simp only [← ht0, ← ht1, ← HN0.out, ← HN1.out] at h
  clear ht0 ht1
  go_enter Tryd.func7, Tryd.ntmps7
  go_wp2_with fail
  obtain ⟨w1, e9⟩ : ∃ w1 : World, w1 = w.alloc (.cells #[.slice a0 n0 p0, .slice a1 n1 p1] 53) := ⟨_, rfl⟩
  have hb : Below w.heap.size w w1 := by rw [e9]; exact (Below.refl _ _).alloc (Nat.le_refl _) _
  have h9 : w1.heap[w.heap.size]? = some (.cells #[.slice a0 n0 p0, .slice a1 n1 p1] 53) := by rw [e9]; exact heap_alloc_new _ _
  rw [← e9]
  clear e9
  have B := Lib.hid hb
  have FA := Lib.hid h9
  have HS0 := Lib.hid (HS0.out.later hb)
  have HS1 := Lib.hid (HS1.out.later hb)
  clear hb h9
  obtain ⟨A, hAe⟩ : ∃ A, A = w.heap.size := ⟨_, rfl⟩
  rw [← hAe] at FA ⊢
  clear hAe
  have hx0 : ¬ ((20 : Int) < (n0 : Int)) := by omega
  have hx0d : decide ((20 : Int) < (n0 : Int)) = false := decide_eq_false hx0
  have hx1 : ¬ ((20 : Int) < (n1 : Int)) := by omega
  have hx1d : decide ((20 : Int) < (n1 : Int)) = false := decide_eq_false hx1
  obtain ⟨ts, hts⟩ : ∃ ts, ts = t0 + t1 := ⟨_, rfl⟩
  have ets : (t0 : Int) + (t1 : Int) = (ts : Int) := by omega
  have hx : (20000 : Int) < (ts : Int) := by omega
  have hxd : decide ((20000 : Int) < (ts : Int)) = true := decide_eq_true hx
  have eW : IntKind.i64.wrap (ts : Int) = (ts : Int) := by rw [IntKind.wrap_i64]; omega
  clear hts
  have hb : Below w1.heap.size w1 w1.drew := ⟨rfl, rfl, rfl, Nat.le_refl _, fun _ _ => rfl⟩
  have FA := Lib.hid (heap_on hb FA.out)
  have B := Lib.hid (below_on B.out hb)
  have HS0 := Lib.hid (HS0.out.later hb)
  have HS1 := Lib.hid (HS1.out.later hb)
  have k0 : w1.drew.cell? ⟨A, 0, none⟩ = some (.slice a0 n0 p0) := cell_of_row _ _ _ _ _ (0, 0) FA.out
  have k1 : w1.drew.cell? ⟨A, 1, none⟩ = some (.slice a1 n1 p1) := cell_of_row _ _ _ _ _ (0, 0) FA.out
  clear hb
  refine wp_region_perm [(0, false), (1, true), (2, true), (3, true), (4, true), (5, true), (6, true), (7, true), (8, true), (9, true), (10, true), (11, true), (12, true), (13, true), (14, true), (15, true), (16, true), (18, true), (19, true), (17, false), (20, false), (21, true), (22, true), (23, true)] (fun w9 => w9.cell? ⟨A, 0, none⟩ = some (.slice a0 n0 p0) ∧ w9.cell? ⟨A, 1, none⟩ = some (.slice a1 n1 p1)) (by kernel_rfl) (by kernel_rfl) (fun _ _ _ _ _ h => h) (⟨k0, k1⟩) (fun hHeld => ?_)
  refine WP.step rfl (fun K hK => ?_)
  go_simp
  refine (alive17 _).mono ?_
  rintro _ x1 ⟨rfl, hb⟩
  have FA := Lib.hid (heap_on hb FA.out)
  have B := Lib.hid (below_on B.out hb)
  have HS0 := Lib.hid (HS0.out.later hb)
  have HS1 := Lib.hid (HS1.out.later hb)
  have k0 : x1.cell? ⟨A, 0, none⟩ = some (.slice a0 n0 p0) := cell_of_row _ _ _ _ _ (0, 0) FA.out
  have k1 : x1.cell? ⟨A, 1, none⟩ = some (.slice a1 n1 p1) := cell_of_row _ _ _ _ _ (0, 0) FA.out
  clear hb
  go_wp2_with fail
  refine hK.out _ _ (⟨k0, k1⟩) (fun hHeld => ?_)
  clear hK K
  try simp only [Act.put, List.setIfInBounds_toArray, List.set_cons_zero, List.set_cons_succ]
  refine WP.take (v := ?_) rfl (Or.inl ⟨by rfl, ?_⟩) ?_
  rotate_left
  · intro w8 hSw
    (try dsimp only at hSw)
    go_simp
    any_goals with_reducible rfl
  try simp only [Act.put, List.setIfInBounds_toArray, List.set_cons_zero, List.set_cons_succ]
  refine WP.take (v := ?_) rfl (Or.inl ⟨by rfl, ?_⟩) ?_
  rotate_left
  · intro w8 hSw
    (try dsimp only at hSw)
    go_simp
    any_goals with_reducible rfl
  try simp only [Act.put, List.setIfInBounds_toArray, List.set_cons_zero, List.set_cons_succ]
  refine WP.take (v := ?_) rfl (Or.inl ⟨by rfl, ?_⟩) ?_
  rotate_left
  · intro w8 hSw
    (try dsimp only at hSw)
    go_simp
    any_goals with_reducible rfl
  try simp only [Act.put, List.setIfInBounds_toArray, List.set_cons_zero, List.set_cons_succ]
  refine WP.take (v := ?_) rfl (Or.inl ⟨by rfl, ?_⟩) ?_
  rotate_left
  · intro w8 hSw
    (try dsimp only at hSw)
    go_simp
    any_goals with_reducible rfl
  try simp only [Act.put, List.setIfInBounds_toArray, List.set_cons_zero, List.set_cons_succ]
  refine WP.take (v := ?_) rfl (Or.inl ⟨by rfl, ?_⟩) ?_
  rotate_left
  · intro w8 hSw
    (try dsimp only at hSw)
    go_simp
    any_goals with_reducible rfl
  try simp only [Act.put, List.setIfInBounds_toArray, List.set_cons_zero, List.set_cons_succ]
  refine WP.take (v := ?_) rfl (Or.inl ⟨by rfl, ?_⟩) ?_
  rotate_left
  · intro w8 hSw
    (try dsimp only at hSw)
    go_simp
    any_goals with_reducible rfl
  try simp only [Act.put, List.setIfInBounds_toArray, List.set_cons_zero, List.set_cons_succ]
  refine WP.take (v := ?_) rfl (Or.inl ⟨by rfl, ?_⟩) ?_
  rotate_left
  · intro w8 hSw
    (try dsimp only at hSw)
    go_simp
    any_goals with_reducible rfl
  try simp only [Act.put, List.setIfInBounds_toArray, List.set_cons_zero, List.set_cons_succ]
  refine WP.take (v := ?_) rfl (Or.inl ⟨by rfl, ?_⟩) ?_
  rotate_left
  · intro w8 hSw
    (try dsimp only at hSw)
    go_simp
    any_goals with_reducible rfl
  try simp only [Act.put, List.setIfInBounds_toArray, List.set_cons_zero, List.set_cons_succ]
  refine WP.take (v := ?_) rfl (Or.inl ⟨by rfl, ?_⟩) ?_
  rotate_left
  · intro w8 hSw
    (try dsimp only at hSw)
    go_simp
    any_goals with_reducible rfl
  try simp only [Act.put, List.setIfInBounds_toArray, List.set_cons_zero, List.set_cons_succ]
  refine WP.take (v := ?_) rfl (Or.inl ⟨by rfl, ?_⟩) ?_
  rotate_left
  · intro w8 hSw
    (try dsimp only at hSw)
    go_simp
    any_goals with_reducible rfl
  try simp only [Act.put, List.setIfInBounds_toArray, List.set_cons_zero, List.set_cons_succ]
  refine WP.take (v := ?_) rfl (Or.inl ⟨by rfl, ?_⟩) ?_
  rotate_left
  · intro w8 hSw
    (try dsimp only at hSw)
    go_simp
    any_goals with_reducible rfl
  try simp only [Act.put, List.setIfInBounds_toArray, List.set_cons_zero, List.set_cons_succ]
  refine WP.take (v := ?_) rfl (Or.inl ⟨by rfl, ?_⟩) ?_
  rotate_left
  · intro w8 hSw
    (try dsimp only at hSw)
    go_simp
    any_goals with_reducible rfl
  try simp only [Act.put, List.setIfInBounds_toArray, List.set_cons_zero, List.set_cons_succ]
  refine WP.take (v := ?_) rfl (Or.inl ⟨by rfl, ?_⟩) ?_
  rotate_left
  · intro w8 hSw
    (try dsimp only at hSw)
    go_simp
    any_goals with_reducible rfl
  try simp only [Act.put, List.setIfInBounds_toArray, List.set_cons_zero, List.set_cons_succ]
  refine WP.take (v := ?_) rfl (Or.inl ⟨by rfl, ?_⟩) ?_
  rotate_left
  · intro w8 hSw
    (try dsimp only at hSw)
    go_simp
    any_goals with_reducible rfl
  try simp only [Act.put, List.setIfInBounds_toArray, List.set_cons_zero, List.set_cons_succ]
  refine WP.take (v := ?_) rfl (Or.inl ⟨by rfl, ?_⟩) ?_
  rotate_left
  · intro w8 hSw
    (try dsimp only at hSw)
    go_simp
    any_goals with_reducible rfl
  try simp only [Act.put, List.setIfInBounds_toArray, List.set_cons_zero, List.set_cons_succ]
  refine WP.take (v := ?_) rfl (Or.inl ⟨by rfl, ?_⟩) ?_
  rotate_left
  · intro w8 hSw
    (try dsimp only at hSw)
    go_simp
    any_goals with_reducible rfl
  try simp only [Act.put, List.setIfInBounds_toArray, List.set_cons_zero, List.set_cons_succ]
  refine WP.take (v := ?_) rfl (Or.inl ⟨by rfl, ?_⟩) ?_
  rotate_left
  · intro w8 hSw
    (try dsimp only at hSw)
    go_simp
    any_goals with_reducible rfl
  try simp only [Act.put, List.setIfInBounds_toArray, List.set_cons_zero, List.set_cons_succ]
  refine WP.take (v := ?_) rfl (Or.inl ⟨by rfl, ?_⟩) ?_
  rotate_left
  · intro w8 hSw
    (try dsimp only at hSw)
    go_simp
    any_goals with_reducible rfl
  try simp only [Act.put, List.setIfInBounds_toArray, List.set_cons_zero, List.set_cons_succ]
  refine WP.step rfl (fun K hK => ?_)
  go_simp
  refine (TextsSize_any L0 _ HS0.out HZ0.out (by rw [← HN0.out]; omega)).mono ?_
  rw [HT0.out]
  rintro _ x2 ⟨rfl, nn, hnn⟩
  have hb : Below x1.heap.size x1 x2 := by rw [hnn]; exact below_drewN9 _ _
  clear hnn
  have FA := Lib.hid (heap_on hb FA.out)
  have B := Lib.hid (below_on B.out hb)
  have HS0 := Lib.hid (HS0.out.later hb)
  have HS1 := Lib.hid (HS1.out.later hb)
  have k0 : x2.cell? ⟨A, 0, none⟩ = some (.slice a0 n0 p0) := cell_of_row _ _ _ _ _ (0, 0) FA.out
  have k1 : x2.cell? ⟨A, 1, none⟩ = some (.slice a1 n1 p1) := cell_of_row _ _ _ _ _ (0, 0) FA.out
  clear hb
  go_wp2_with fail
  refine hK.out _ _ (⟨k0, k1⟩) (fun hHeld => ?_)
  clear hK K
  try simp only [Act.put, List.setIfInBounds_toArray, List.set_cons_zero, List.set_cons_succ]
  refine WP.step rfl (fun K hK => ?_)
  go_simp
  refine (TextsSize_any L1 _ HS1.out HZ1.out (by rw [← HN1.out]; omega)).mono ?_
  rw [HT1.out]
  rintro _ x3 ⟨rfl, nn, hnn⟩
  have hb : Below x2.heap.size x2 x3 := by rw [hnn]; exact below_drewN9 _ _
  clear hnn
  have FA := Lib.hid (heap_on hb FA.out)
  have B := Lib.hid (below_on B.out hb)
  have HS0 := Lib.hid (HS0.out.later hb)
  have HS1 := Lib.hid (HS1.out.later hb)
  have k0 : x3.cell? ⟨A, 0, none⟩ = some (.slice a0 n0 p0) := cell_of_row _ _ _ _ _ (0, 0) FA.out
  have k1 : x3.cell? ⟨A, 1, none⟩ = some (.slice a1 n1 p1) := cell_of_row _ _ _ _ _ (0, 0) FA.out
  clear hb
  go_wp2_with fail
  refine hK.out _ _ (⟨k0, k1⟩) (fun hHeld => ?_)
  clear hK K
  try simp only [Act.put, List.setIfInBounds_toArray, List.set_cons_zero, List.set_cons_succ]
  refine WP.take (v := ?_) rfl (Or.inl ⟨by rfl, ?_⟩) ?_
  rotate_left
  · intro w8 hSw
    (try dsimp only at hSw)
    go_simp
    any_goals with_reducible rfl
  try simp only [Act.put, List.setIfInBounds_toArray, List.set_cons_zero, List.set_cons_succ]
  refine WP.take (v := ?_) rfl (Or.inl ⟨by rfl, ?_⟩) ?_
  rotate_left
  · intro w8 hSw
    (try dsimp only at hSw)
    go_simp
    any_goals with_reducible rfl
  try simp only [Act.put, List.setIfInBounds_toArray, List.set_cons_zero, List.set_cons_succ]
  refine WP.take (v := ?_) rfl (Or.inl ⟨by rfl, ?_⟩) ?_
  rotate_left
  · intro w8 hSw
    (try dsimp only at hSw)
    go_simp
    any_goals with_reducible rfl
  try simp only [Act.put, List.setIfInBounds_toArray, List.set_cons_zero, List.set_cons_succ]
  refine WP.done ?_
  go_wp2_with fail
  refine (alive17 _).mono ?_
  rintro _ y1 ⟨rfl, hb⟩
  have B := Lib.hid (below_on B.out hb)
  go_wp2_with fail
  go_ret
  exact ⟨rfl, B.out⟩
end Go.Proofs.YtjfejpdeccnlnaaDoor
