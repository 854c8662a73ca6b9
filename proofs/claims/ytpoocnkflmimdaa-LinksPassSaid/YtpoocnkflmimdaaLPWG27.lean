/- Layer 3 (divides): Wide, of a short modulus; Wide, whole; Layer 4 (mods): word, of short numbers; Layer 4 (mods): times; Layer 4 (mods): what is done with two numbers that may be -/
import Derived.Test.YtpoocnkflmimdaaLPWG24
import Derived.Test.YtpoocnkflmimdaaLPWG22
import Derived.Test.YtpoocnkflmimdaaLPWG25
import Derived.Test.YtpoocnkflmimdaaLPWG26
import Derived.Test.YtpoocnkflmimdaaLPWG13
import Derived.StillTailTactics
import Derived.Test.YtpoocnkflmimdaaLPWG11
namespace Go.Proofs.Ytpoocnkflmimdaa
open Go.ChangeShapes Go.WideShapes Go.ChangeAt Go.RowKit
attribute [local go_sem] Oper.semAt_some

theorem backward_any (a : Option Addr) (n c : Nat) (w : World) :
    Calls Try.prog 68 #[.slice a n c] w fun e w' => e = .returned (.func (.func 85) #[] #[.pointer (some ⟨w.heap.size, 0, none⟩)]) ∧ w' = w.alloc (.cells #[.slice a n c] 92) := by
  go_enter Try.func68, Try.ntmps68
  go_wp2
  go_ret
  exact ⟨rfl, rfl⟩
/-- The same, but that no panic is let out. -/
def calmQ (Q : Exit → Act → World → Prop) : Exit → Act → World → Prop
  | .panic _, _, _ => False
  | e, a, w => Q e a w
theorem wpIn_calm {n : Nat} {c : Code} {Q : Exit → Act → World → Prop} {a : Act} {w : World} (h : c.wp Try.prog (calmQ Q) a w) : c.wpIn Fence.wide n Try.prog Q a w := by
  refine wpIn_mono (wpIn_wide.2 h) ?_
  rintro e a w hq
  cases e <;> first | exact hq | exact hq.elim
/-- A number's words, the least first. -/
def wordsN (x : Nat) : List Nat := [dgt W64 x 0, dgt W64 x 1, dgt W64 x 2, dgt W64 x 3]
theorem NumAt.words {w : World} {b x : Nat} (h : NumAt w b x) : KAt .u64 w (.slice (some ⟨b, 0, none⟩) 4 4) (wordsN x) := by
  refine ⟨_, 4, rfl, by simp [wordsN], by decide, (fun h => by cases h), fun _ => ⟨b, 0, rfl, fun i y hy => ?_⟩⟩
  rw [Nat.zero_add]
  have : i < 4 := by
    rcases Nat.lt_or_ge i 4 with h | h
    · exact h
    · rw [List.getElem?_eq_none (by simpa [wordsN] using h)] at hy; cases hy
  have h9 := h i this
  rcases (show i = 0 ∨ i = 1 ∨ i = 2 ∨ i = 3 by omega) with rfl | rfl | rfl | rfl <;> (simp [wordsN] at hy; subst hy; exact h9)
/-- Words in a slice of their own, beyond R. -/
def Own64 (w : World) (R : Nat) (v : Value) (l : List Nat) : Prop := KAt .u64 w v l ∧ ∀ g, v.ownBlock = some g → R < g ∧ g < w.heap.size
/-- What stands between two rounds: r is what is left. -/
structure LeftAt (w w5 : World) (RR MM m r : Nat) (W : World) : Prop where
  r : NumAt W RR r
  f : FreeN W RR 4
  m : NumAt W MM m
  b : Below w.heap.size w W
  s : w5.heap.size ≤ W.heap.size
  rl : RR < W.heap.size
theorem LeftAt.start {w w5 W : World} {RR MM m : Nat} (hr : NumAt w5 RR 0) (hf : FreeN w5 RR 4) (hm : NumAt w5 MM m) (hb : Below w.heap.size w w5) (hR : RR < w5.heap.size) (h : Below w5.heap.size w5 W) : LeftAt w w5 RR MM m 0 W :=
  ⟨NumAt.later h hr, hf.later h hR, NumAt.later h hm, below_later hb h, h.size, Nat.lt_of_lt_of_le hR h.size⟩
theorem LeftAt.putObj {w w5 W : World} {RR MM m r l : Nat} {o : Obj} (h : LeftAt w w5 RR MM m r W) (hl : w5.heap.size ≤ l) (hR : RR < w5.heap.size) (hM : MM < w5.heap.size) (hw : w.heap.size ≤ w5.heap.size) : LeftAt w w5 RR MM m r (W.putObj l o) := by
  have hk : ∀ g, g < w5.heap.size → (W.putObj l o).heap[g]? = W.heap[g]? := fun g hg => World.putObj_heap_other (by omega)
  refine ⟨fun j hj => (World.cell?_of_block (a := ⟨RR, j, none⟩) (hk RR hR)).trans (h.r j hj), fun j hj => (World.frozen?_of_block (a := ⟨RR, j, none⟩) (hk RR hR)).trans (h.f j hj), fun j hj => (World.cell?_of_block (a := ⟨MM, j, none⟩) (hk MM hM)).trans (h.m j hj), ?_, by simpa using h.s, by simpa using h.rl⟩
  exact ⟨h.b.os, h.b.tape, h.b.output, by simpa using h.b.size, fun g hg => (hk g (by have := hw; omega)).trans (h.b.block g hg)⟩
/-- What is left of the words from k on. -/
def leftN (m : Nat) (L : List Nat) (k : Nat) : Nat := (L.drop k).foldr (fun d r => (r * W64 + d) % m) 0
theorem leftN_end (m : Nat) (L : List Nat) : leftN m L L.length = 0 := by unfold leftN; simp
theorem leftN_step (m : Nat) (L : List Nat) (k : Nat) (h : k < L.length) : leftN m L k = (leftN m L (k + 1) * W64 + L.getD k 0) % m := by
  unfold leftN
  rw [List.drop_eq_getElem_cons h, List.foldr_cons, List.getD_eq_getElem?_getD, List.getElem?_eq_getElem h]
  rfl
theorem leftN_lt {m : Nat} (hm : 0 < m) (L : List Nat) (k : Nat) : leftN m L k < m := by
  rcases Nat.lt_or_ge k L.length with h | h
  · rw [leftN_step m L k h]; exact Nat.mod_lt _ hm
  · unfold leftN; rw [List.drop_eq_nil_of_le h]; exact hm
/-- The words' value. -/
def valN (L : List Nat) : Nat := L.foldr (fun d r => r * W64 + d) 0
theorem foldr_mod (m : Nat) (L : List Nat) : L.foldr (fun d r => (r * W64 + d) % m) 0 = valN L % m := by
  induction L with
  | nil => simp [valN]
  | cons a L ih => 
    rw [List.foldr_cons, ih]
    unfold valN
    rw [List.foldr_cons, Nat.add_mod, Nat.mul_mod, Nat.mod_mod, ← Nat.mul_mod, ← Nat.add_mod]
theorem leftN_zero (m : Nat) (L : List Nat) : leftN m L 0 = valN L % m := by unfold leftN; rw [List.drop_zero]; exact foldr_mod m L
theorem digits4 {x : Nat} (h : x < M256) : dgt W64 x 0 + W64 * (dgt W64 x 1 + W64 * (dgt W64 x 2 + W64 * dgt W64 x 3)) = x := by
  unfold dgt M256 at *
  unfold W64 at *
  omega
theorem valN_two {lo hi : Nat} (hlo : lo < M256) (hhi : hi < M256) : valN (wordsN lo ++ wordsN hi) = hi * M256 + lo := by
  have h1 := digits4 hlo
  have h2 := digits4 hhi
  simp only [valN, wordsN, List.cons_append, List.nil_append, List.foldr_cons, List.foldr_nil]
  obtain ⟨a0, e0⟩ : ∃ a, a = dgt W64 lo 0 := ⟨_, rfl⟩
  obtain ⟨a1, e1⟩ : ∃ a, a = dgt W64 lo 1 := ⟨_, rfl⟩
  obtain ⟨a2, e2⟩ : ∃ a, a = dgt W64 lo 2 := ⟨_, rfl⟩
  obtain ⟨a3, e3⟩ : ∃ a, a = dgt W64 lo 3 := ⟨_, rfl⟩
  obtain ⟨b0, f0⟩ : ∃ a, a = dgt W64 hi 0 := ⟨_, rfl⟩
  obtain ⟨b1, f1⟩ : ∃ a, a = dgt W64 hi 1 := ⟨_, rfl⟩
  obtain ⟨b2, f2⟩ : ∃ a, a = dgt W64 hi 2 := ⟨_, rfl⟩
  obtain ⟨b3, f3⟩ : ∃ a, a = dgt W64 hi 3 := ⟨_, rfl⟩
  rw [← e0, ← e1, ← e2, ← e3] at h1 ⊢
  rw [← f0, ← f1, ← f2, ← f3] at h2 ⊢
  clear e0 e1 e2 e3 f0 f1 f2 f3 hlo hhi
  unfold M256
  unfold W64 at *
  omega
theorem dgt_small {x : Nat} (h : x < W64) : dgt W64 x 0 = x ∧ dgt W64 x 1 = 0 ∧ dgt W64 x 2 = 0 ∧ dgt W64 x 3 = 0 := by
  unfold dgt
  unfold W64 at *
  omega
theorem words_lt (x : Nat) : ∀ y ∈ wordsN x, y < W64 := by
  intro y hy
  simp only [wordsN, List.mem_cons, List.not_mem_nil, or_false] at hy
  rcases hy with rfl | rfl | rfl | rfl <;> (unfold dgt; exact Nat.mod_lt _ (by unfold W64; omega))
set_option linter.unusedVariables false in
set_option linter.unusedSimpArgs false in
set_option maxRecDepth 100000 in
set_option maxHeartbeats 8000000 in
theorem wide_short {lo hi m : Nat} (hlo : lo < M256) (hhi : hi < M256) (hm0 : 0 < m) (hml : m < W64) (w : World) : Calls Try.prog 37 #[numV lo, numV hi, numV m] w fun e w' => e = .returned (.tuple #[numV ((hi * M256 + lo) % m), .int .i64 0]) ∧ Below w.heap.size w w' := by
  have hm : m < M256 := by unfold M256; unfold W64 at hml; omega
  have HLO := Lib.hid hlo
  have HHI := Lib.hid hhi
  have HMM := Lib.hid hm
  have HM0 := Lib.hid hm0
  have HML := Lib.hid hml
  have hz := fun w => eq_zero m hm w
  rw [decide_eq_false (show ¬ m = 0 by omega)] at hz
  have CS := Lib.hid (fun w => by have h := short_any hm w; rw [decide_eq_true hml] at h; exact h)
  obtain ⟨Q9, hQ9⟩ : ∃ q, q = (hi * M256 + lo) % m := ⟨_, rfl⟩
  rw [← hQ9]
  have HQ9 := Lib.hid hQ9
  clear hQ9 hlo hhi hm hml hm0
  unfold numV words at *
  refine (callsIn_wide (n := 9)).1 ?_
  refine callsIn_of_wp_marks Try.func37 rfl trivial ?_ rfl
  simp only [Try.ntmps37, List.size_toArray, List.length_cons, List.length_nil, Nat.reduceAdd, Nat.reduceSub, Array.replicate_succ, Array.replicate_zero, List.push_toArray, List.append_toArray, List.nil_append, List.cons_append]
  gi_wp2_with fail
  obtain ⟨wa, ea⟩ : ∃ wa, wa = w.alloc (.cells #[.int .u64 (dgt W64 lo 0), .int .u64 (dgt W64 lo 1), .int .u64 (dgt W64 lo 2), .int .u64 (dgt W64 lo 3)] 24) := ⟨_, rfl⟩
  obtain ⟨wb, eb⟩ : ∃ wb, wb = wa.alloc (.cells #[.int .u64 (dgt W64 hi 0), .int .u64 (dgt W64 hi 1), .int .u64 (dgt W64 hi 2), .int .u64 (dgt W64 hi 3)] 24) := ⟨_, rfl⟩
  obtain ⟨wc, ec⟩ : ∃ wc, wc = wb.alloc (.cells #[.int .u64 (dgt W64 m 0), .int .u64 (dgt W64 m 1), .int .u64 (dgt W64 m 2), .int .u64 (dgt W64 m 3)] 24) := ⟨_, rfl⟩
  obtain ⟨wd, ed⟩ : ∃ wd, wd = wc.alloc (.cells #[.int .u64 0, .int .u64 0, .int .u64 0, .int .u64 0] 24) := ⟨_, rfl⟩
  have sa : wa.heap.size = w.heap.size + 1 := by rw [ea]; simp
  have sb : wb.heap.size = w.heap.size + 1 + 1 := by rw [eb]; simp [sa]
  have sc : wc.heap.size = w.heap.size + 1 + 1 + 1 := by rw [ec]; simp [sb]
  have sd : wd.heap.size = w.heap.size + 1 + 1 + 1 + 1 := by rw [ed]; simp [sc]
  have ba : Below w.heap.size w wa := by rw [ea]; exact (Below.refl _ _).alloc (Nat.le_refl _) _
  have bb : Below wa.heap.size wa wb := by rw [eb]; exact (Below.refl _ _).alloc (Nat.le_refl _) _
  have bc : Below wb.heap.size wb wc := by rw [ec]; exact (Below.refl _ _).alloc (Nat.le_refl _) _
  have bd : Below wc.heap.size wc wd := by rw [ed]; exact (Below.refl _ _).alloc (Nat.le_refl _) _
  have na : NumAt wa w.heap.size lo := by rw [ea]; exact NumAt.new w lo _ _ rfl
  have nb : NumAt wb (w.heap.size + 1) hi := by rw [eb]; exact NumAt.new wa hi _ _ sa.symm
  have nc : NumAt wc (w.heap.size + 1 + 1) m := by rw [ec]; exact NumAt.new wb m _ _ sb.symm
  have nd : NumAt wd (w.heap.size + 1 + 1 + 1) 0 := by rw [ed, ← sc]; exact num_zero wc _
  have fd : FreeN wd (w.heap.size + 1 + 1 + 1) 4 := by rw [ed]; exact FreeN.made wc _ _ 4 _ sc.symm
  rw [← ea, ← eb, ← ec, ← ed]
  obtain ⟨LL, hL⟩ : ∃ b, b = w.heap.size := ⟨_, rfl⟩
  obtain ⟨HH, hH⟩ : ∃ b, b = LL + 1 := ⟨_, rfl⟩
  obtain ⟨MM, hM⟩ : ∃ b, b = HH + 1 := ⟨_, rfl⟩
  obtain ⟨RR, hR⟩ : ∃ b, b = MM + 1 := ⟨_, rfl⟩
  have hwL : w.heap.size ≤ LL := by omega
  have hRd : RR < wd.heap.size := by omega
  rw [← hL] at na nb nc nd fd ⊢
  rw [← hH] at nb nc nd fd ⊢
  rw [← hM] at nc nd fd ⊢
  rw [← hR] at nd fd ⊢
  have hLH : LL < HH := by omega
  have hHM : HH < MM := by omega
  have hMR : MM < RR := by omega
  have HA := Lib.hid (NumAt.later bd (NumAt.later bc (NumAt.later bb na)))
  have HB := Lib.hid (NumAt.later bd (NumAt.later bc nb))
  have HC := Lib.hid (NumAt.later bd nc)
  have HR := Lib.hid nd
  have HF := Lib.hid fd
  have B := Lib.hid (((ba.trans (bb.mono (by omega))).trans (bc.mono (by omega))).trans (bd.mono (by omega)))
  clear ea eb ec ed sa sb sc sd ba bb bc bd na nb nc nd fd hL hH hM hR
  refine ⟨trivial, (callsIn_wide.2 (CS.out wd)).mono ?_⟩
  rintro _ w2 ⟨rfl, hb⟩
  have hR2 : RR < w2.heap.size := Nat.lt_of_lt_of_le hRd hb.size
  have HF := Lib.hid (HF.out.later hb hRd)
  have HA := Lib.hid (NumAt.later hb HA.out)
  have HB := Lib.hid (NumAt.later hb HB.out)
  have HC := Lib.hid (NumAt.later hb HC.out)
  have HR := Lib.hid (NumAt.later hb HR.out)
  have B := Lib.hid (below_later B.out hb)
  clear hb hRd
  have hRd := hR2
  clear hR2
  gi_wp2_with fail
  refine wpIn_calm ?_
  refine wp_region_perm [(0, true), (1, true), (2, false), (3, false), (4, true)] (fun _ => True) (by kernel_rfl) (by kernel_rfl) (fun _ _ _ _ _ h => h) (trivial) (fun hHeld => ?_)
  refine WP.take (v := ?_) rfl (Or.inl ⟨by rfl, ?_⟩) ?_
  rotate_left
  · intro w8 hSw
    (try dsimp only at hSw)
    go_simp
    any_goals with_reducible rfl
  try simp only [Act.put, pa, pb, pc]
  refine WP.take (v := ?_) rfl (Or.inl ⟨by rfl, ?_⟩) ?_
  rotate_left
  · intro w8 hSw
    (try dsimp only at hSw)
    go_simp
    any_goals with_reducible rfl
  try simp only [Act.put, pa, pb, pc]
  refine WP.step rfl (fun K hK => ?_)
  go_simp
  refine hK.out _ _ (trivial) (fun hHeld => ?_)
  clear hK K
  try simp only [Act.put, pa, pb, pc]
  refine WP.step rfl (fun K hK => ?_)
  go_simp
  obtain ⟨w3, e3⟩ : ∃ w3, w3 = (w2.alloc (.cells #[.slice (some ⟨LL, 0, none⟩) 4 4, .slice (some ⟨HH, 0, none⟩) 4 4] 92)).drew := ⟨_, rfl⟩
  have hb : Below w2.heap.size w2 w3 := by rw [e3]; exact ((Below.refl _ w2).alloc (Nat.le_refl _) _).drew
  obtain ⟨GG, hG⟩ : ∃ b, b = w2.heap.size := ⟨_, rfl⟩
  have hpp : PartsL w3 GG 0 [.slice (some ⟨LL, 0, none⟩) 4 4, .slice (some ⟨HH, 0, none⟩) 4 4] [wordsN lo, wordsN hi] := by
    refine ⟨rfl, fun i hi9 => ?_⟩
    have hc0 : w3.cell? ⟨GG, 0, none⟩ = some (.slice (some ⟨LL, 0, none⟩) 4 4) := by rw [e3, hG]; simp
    have hc1 : w3.cell? ⟨GG, 1, none⟩ = some (.slice (some ⟨HH, 0, none⟩) 4 4) := by rw [e3, hG]; simp
    rcases (show i = 0 ∨ i = 1 by simp at hi9; omega) with rfl | rfl
    · exact ⟨_, _, rfl, rfl, hc0, (NumAt.later hb HA.out).words⟩
    · exact ⟨_, _, rfl, rfl, hc1, (NumAt.later hb HB.out).words⟩
  rw [← e3, ← hG]
  clear e3 hG
  have hR2 : RR < w3.heap.size := Nat.lt_of_lt_of_le hRd hb.size
  have HF := Lib.hid (HF.out.later hb hRd)
  have HA := Lib.hid (NumAt.later hb HA.out)
  have HB := Lib.hid (NumAt.later hb HB.out)
  have HC := Lib.hid (NumAt.later hb HC.out)
  have HR := Lib.hid (NumAt.later hb HR.out)
  have B := Lib.hid (below_later B.out hb)
  clear hb hRd
  have hRd := hR2
  clear hR2
  refine (Concat64_any w3 hpp (by simp) (by decide) (by simp [wordsN])).mono ?_
  rintro _ w4 ⟨v4, rfl, ho, hb⟩
  clear hpp
  have HO4 := Lib.hid (show Own64 w4 RR v4 (wordsN lo ++ wordsN hi) from ⟨ho.at_, fun g hg => by have := (OwnV.lt ho g hg); omega⟩)
  clear ho
  have hR2 : RR < w4.heap.size := Nat.lt_of_lt_of_le hRd hb.size
  have HF := Lib.hid (HF.out.later hb hRd)
  have HA := Lib.hid (NumAt.later hb HA.out)
  have HB := Lib.hid (NumAt.later hb HB.out)
  have HC := Lib.hid (NumAt.later hb HC.out)
  have HR := Lib.hid (NumAt.later hb HR.out)
  have B := Lib.hid (below_later B.out hb)
  clear hb hRd
  have hRd := hR2
  clear hR2
  dsimp only
  refine hK.out _ _ (trivial) (fun hHeld => ?_)
  clear hK K
  try simp only [Act.put, pa, pb, pc]
  refine WP.take (v := ?_) rfl (Or.inl ⟨by rfl, ?_⟩) ?_
  rotate_left
  · intro w8 hSw
    (try dsimp only at hSw)
    go_simp
    any_goals with_reducible rfl
  try simp only [Act.put, pa, pb, pc]
  refine WP.done ?_
  dsimp only [calmQ]
  gi_wp2_with fail
  obtain ⟨L, hL⟩ : ∃ L, L = wordsN lo ++ wordsN hi := ⟨_, rfl⟩
  rw [← hL] at HO4
  have HL := Lib.hid hL
  have hL8 : L.length = 8 := by rw [hL]; simp [wordsN]
  have HLW := Lib.hid (show ∀ y ∈ L, y < W64 from fun y hy => by rw [hL, List.mem_append] at hy; rcases hy with h | h <;> exact words_lt _ _ h)
  clear hL
  obtain ⟨⟨ao, cap, rfl, hkk⟩, hown⟩ := HO4.out
  have K4 : KAt .u64 w4 (.slice ao L.length cap) L := ⟨ao, cap, rfl, hkk⟩
  clear hkk
  have HOWN := Lib.hid hown
  clear hown HO4
  refine ⟨trivial, (callsIn_wide.2 (backward_any ao L.length cap w4)).mono ?_⟩
  rintro _ w5 ⟨rfl, e5⟩
  obtain ⟨Bn, hBn⟩ : ∃ b, b = w4.heap.size := ⟨_, rfl⟩
  have hb : Below w4.heap.size w4 w5 := by rw [e5]; exact (Below.refl _ _).alloc (Nat.le_refl _) _
  have PB : w5.heap[Bn]? = some (.cells #[.slice ao L.length cap] 92 (0, 0)) := by rw [e5, hBn]; exact heap_alloc_new w4 _
  have hs5 : w5.heap.size = Bn + 1 := by rw [e5, hBn]; simp
  rw [← hBn]
  have K5 := K4.later hb
  have hRB : RR < Bn := by rw [hBn]; exact hRd
  have HOWN := Lib.hid (show ∀ g, (Value.slice ao L.length cap).ownBlock = some g → g < w5.heap.size ∧ g ≠ RR from fun g hg => by have := HOWN.out g hg; omega)
  have hR2 : RR < w5.heap.size := Nat.lt_of_lt_of_le hRd hb.size
  have HF := Lib.hid (HF.out.later hb hRd)
  have HA := Lib.hid (NumAt.later hb HA.out)
  have HB := Lib.hid (NumAt.later hb HB.out)
  have HC := Lib.hid (NumAt.later hb HC.out)
  have HR := Lib.hid (NumAt.later hb HR.out)
  have B := Lib.hid (below_later B.out hb)
  clear hb hRd
  have hRd := hR2
  clear hR2
  have HPB := Lib.hid PB
  have HK5 := Lib.hid K5
  have hwR : w.heap.size ≤ RR := by omega
  have hRM : MM ≠ RR := by omega
  clear e5 PB K4 K5
  gi_wp2_with fail
  refine' range_down (by omega) (itf := 85) (caps := #[.pointer (some ⟨Bn, 0, none⟩)]) (encs := fun i => #[.int .i64 i, .int .u64 (L.getD i 0)]) (by go_simp) ?hent (fun g => g < w5.heap.size ∧ g ≠ RR) (fun k hk => hk.1) L.length (fun i => rfl) (fun k W => LeftAt w w5 RR MM m (leftN m L k) W) ?hI ?h0 ?hit _ ?hassign ?hbody ?hdone
  case hent => intro args W; simp [go_sem]
  case hI => intro k A l o o9 hl ho hn h; exact h.putObj hl hRd (by omega) (by omega)
  case h0 => intro o1 o2; rw [leftN_end]; exact LeftAt.start HR.out HF.out HC.out B.out hRd (((Below.refl _ w5).alloc (Nat.le_refl _) _).alloc (by simp) _)
  case hit =>
    intro l J W hY hb hJ
    exact backward_in _ (by omega) l Bn (fun g => g < w5.heap.size ∧ g ≠ RR) ⟨by omega, by omega⟩ L _ J W (by omega) (heap_of hb HPB.out) (HK5.out.later hb) HOWN.out hY hJ
  case hassign =>
    intro l i W K hK
    gi_wp2_with fail
    exact hK
  case hbody =>
    intro l i W hiL h
    have HM := Lib.hid h
    obtain ⟨r, hr⟩ : ∃ r, r = leftN m L (i + 1) := ⟨_, rfl⟩
    obtain ⟨d, hd⟩ : ∃ d, d = L.getD i 0 := ⟨_, rfl⟩
    have hrm : r < m := by rw [hr]; exact leftN_lt HM0.out L _
    have hdw : d < W64 := by rw [hd, List.getD_eq_getElem?_getD, List.getElem?_eq_getElem hiL]; exact HLW.out _ (List.getElem_mem hiL)
    have hst := leftN_step m L i hiL
    rw [← hr, ← hd] at hst
    have HST := Lib.hid hst
    rw [← hr] at HM
    rw [List.getD_eq_getElem?_getD] at hd
    clear hst hr h
    have hrw : r < W64 := Nat.lt_trans hrm HML.out
    obtain ⟨r0, r1, r2, r3⟩ := num4 HM.out.r
    obtain ⟨m0, m1, m2, m3⟩ := num4 HM.out.m
    obtain ⟨dr0, dr1, dr2, dr3⟩ := dgt_small hrw
    obtain ⟨dm0, _, _, _⟩ := dgt_small HML.out
    have ff := HM.out.f 0 (by omega)
    rw [dr0] at r0
    rw [dm0] at m0
    rw [← hd]
    clear hd
    gi_wp2_with fail
    refine ⟨trivial, CallsIn.inRound l ((callsIn_wide.2 (div64_any r d m hdw HML.out hrm W)).mono ?_)⟩
    rintro _ w6 ⟨rfl, hb⟩
    have HB6 := Lib.hid hb
    have ff6 := (hb.frozen (p := ⟨RR, 0, none⟩) HM.out.rl).trans ff
    have c6 := (hb.cell (p := ⟨RR, 0, none⟩) HM.out.rl).trans r0
    clear hb r0 r1 r2 r3 m0 m1 m2 m3
    gi_wp2_with fail
    have ev : ((r : Int) * (W64 : Nat) + d) % m = ((leftN m L i : Nat) : Int) := by rw [HST.out]; simp
    rw [ev]
    have hlt2 : leftN m L i < W64 := Nat.lt_trans (leftN_lt HM0.out L i) HML.out
    obtain ⟨r2, hr2⟩ : ∃ x, x = leftN m L i := ⟨_, rfl⟩
    rw [← hr2] at hlt2 ⊢
    clear ev c6 ff6 HST hr2
    obtain ⟨we, ewe⟩ : ∃ we, we = w6.setCell ⟨RR, 0, none⟩ (.int .u64 (r2 : Nat)) := ⟨_, rfl⟩
    rw [← ewe]
    have hsm : ∀ g, g ≠ RR → we.heap[g]? = w6.heap[g]? := fun g h1 => by rw [ewe]; exact Below.heap_setCell _ _ _ _ h1
    have hss : we.heap.size = w6.heap.size := by rw [ewe]; simp
    have hos : we.os = w6.os ∧ we.tape = w6.tape ∧ we.output = w6.output := by rw [ewe]; exact ⟨rfl, rfl, rfl⟩
    have s6 := HB6.out.size
    refine ⟨⟨by omega, fun k o hk ho _ => ?_⟩, ⟨hos.1.trans HB6.out.os, hos.2.1.trans HB6.out.tape, hos.2.2.trans HB6.out.output, by omega, fun g hg => (hsm g hg.2).trans (HB6.out.block g (by have := HM.out.s; omega))⟩, ⟨?_, ?_, ?_, ?_, by have := HM.out.s; omega, by have := HM.out.rl; omega⟩⟩
    · exact (hsm k (by omega)).trans ((HB6.out.block k (lt_of_heapL ho)).trans ho)
    · rw [ewe]
      refine WAt.congr (WAt.set (NumAt.later HB6.out HM.out.r) 0 r2) ?_
      obtain ⟨e0, e1, e2, e3⟩ := dgt_small hlt2
      intro j hj
      rcases (show j = 0 ∨ j = 1 ∨ j = 2 ∨ j = 3 by omega) with rfl | rfl | rfl | rfl <;> simp [e0, e1, e2, e3, dr1, dr2, dr3]
    · rw [ewe]; exact FreeN.set (HM.out.f.later HB6.out HM.out.rl) _ _
    · exact fun j hj => (World.cell?_of_block (a := ⟨MM, j, none⟩) (hsm MM hRM)).trans (NumAt.later HB6.out HM.out.m j hj)
    · exact ⟨hos.1.trans (HB6.out.os.trans HM.out.b.os), hos.2.1.trans (HB6.out.tape.trans HM.out.b.tape), hos.2.2.trans (HB6.out.output.trans HM.out.b.output), by have := HM.out.b.size; omega, fun g hg => (hsm g (by omega)).trans ((HB6.out.block g (by have := HM.out.b.size; omega)).trans (HM.out.b.block g hg))⟩
  case hdone =>
    intro D W hD h hDf
    rw [leftN_zero, HL.out, valN_two HLO.out HHI.out, ← HQ9.out] at h
    have HM := Lib.hid h
    obtain ⟨g0, g1, g2, g3, f0, f1, f2, f3⟩ := num4f h.r h.f
    clear h
    have HDF := Lib.hid hDf
    clear hDf
    gi_wp2_with fail
    obtain ⟨we, ewe⟩ : ∃ we, we = ((((W.setCell ⟨RR, 0, none⟩ (.int .u64 (dgt W64 Q9 0))).setCell ⟨RR, 1, none⟩ (.int .u64 (dgt W64 Q9 1))).setCell ⟨RR, 2, none⟩ (.int .u64 (dgt W64 Q9 2))).setCell ⟨RR, 3, none⟩ (.int .u64 (dgt W64 Q9 3))) := ⟨_, rfl⟩
    have HRL : NumAt we RR Q9 := by rw [ewe]; exact NumAt.set4 HM.out.r Q9
    have B9 : Below w.heap.size w we := by rw [ewe]; exact below_set4 HM.out.b hwR _ _ _ _
    have hDR : D ≠ RR := by omega
    have x9 : we.heap[D]? = some (.deferred (some [])) := by rw [ewe, Below.heap_setCell _ _ _ _ hDR, Below.heap_setCell _ _ _ _ hDR, Below.heap_setCell _ _ _ _ hDR, Below.heap_setCell _ _ _ _ hDR]; exact HDF.out
    rw [← ewe]
    clear ewe
    obtain ⟨wf, ewf⟩ : ∃ wf, wf = we.putObj D (.deferred none) := ⟨_, rfl⟩
    have hsf : ∀ g, g ≠ D → wf.heap[g]? = we.heap[g]? := fun g h1 => by rw [ewf]; exact World.putObj_heap_other (by omega)
    have HF9 : NumAt wf RR Q9 := fun j hj => (World.cell?_of_block (a := ⟨RR, j, none⟩) (hsf RR hDR.symm)).trans (HRL j hj)
    clear g0 g1 g2 g3
    obtain ⟨g0, g1, g2, g3⟩ := num4 HF9
    refine ⟨by simp, .inl ⟨D, wf, rfl, by rw [ewf]; exact run_takeDeferred x9, ?_⟩⟩
    refine ⟨.tuple #[.agg #[.int .u64 (dgt W64 Q9 0), .int .u64 (dgt W64 Q9 1), .int .u64 (dgt W64 Q9 2), .int .u64 (dgt W64 Q9 3)], .int .i64 0], by simp [results, Try.results37, go_sem, g0, g1, g2, g3], rfl, ?_⟩
    exact ⟨by rw [ewf]; exact B9.os, by rw [ewf]; exact B9.tape, by rw [ewf]; exact B9.output, by rw [ewf]; simpa using B9.size, fun g hg => (hsf g (by omega)).trans (B9.block g hg)⟩
theorem Wide_any {lo hi m : Nat} (hlo : lo < M256) (hhi : hi < M256) (hm : m < M256) (hm0 : 0 < m) (w : World) : Calls Try.prog 37 #[numV lo, numV hi, numV m] w fun e w' => e = .returned (.tuple #[numV ((hi * M256 + lo) % m), .int .i64 0]) ∧ Below w.heap.size w w' := by
  rcases Nat.lt_or_ge m W64 with h | h
  · exact wide_short hlo hhi hm0 h w
  · exact wide_long hlo hhi hm h w
end Go.Proofs.Ytpoocnkflmimdaa
namespace Go.Proofs.Ytpoocnkflmimdaa
open Go.ChangeShapes Go.WideShapes Go.ChangeAt Go.RowKit

/-- A product's remainder, of a number of one word. -/
theorem word_any {a b m : Nat} (ha : a < W64) (hb : b < W64) (hm : m < W64) (hab : a * b < m * W64) (w : World) :
    Calls Try.prog 51 #[.int .u64 a, .int .u64 b, .int .u64 m] w fun e w' => e = .returned (.int .u64 ((a * b % m : Nat) : Int)) ∧ Below w.heap.size w w' := by
  obtain ⟨h, hh⟩ : ∃ h, h = a * b / 18446744073709551616 := ⟨_, rfl⟩
  obtain ⟨l, hl⟩ : ∃ l, l = a * b % 18446744073709551616 := ⟨_, rfl⟩
  have CM := Lib.hid (fun w => by have h9 := Try.bits_Mul64 a b ha hb w; rw [← hh, ← hl] at h9; exact h9)
  have hl9 : l < W64 := by rw [hl]; exact Nat.mod_lt _ (by omega)
  have hh9 : h < m := by
    rw [hh]
    refine (Nat.div_lt_iff_lt_mul (by omega)).2 ?_
    exact hab
  have CD := Lib.hid (fun w => div64_any h l m hl9 hm hh9 w)
  have hv : h * W64 + l = a * b := by
    rw [hh, hl, Nat.mul_comm]
    exact Nat.div_add_mod _ _
  rw [hv] at CD
  clear hh hl hl9 hh9 hv ha hb hm hab
  go_enter Try.func51, Try.ntmps51
  go_wp2_with fail
  refine (CM.out _).mono ?_
  rintro _ w1 ⟨rfl, rfl⟩
  go_wp2_with fail
  refine (CD.out _).mono ?_
  rintro _ w2 ⟨rfl, hb⟩
  go_wp2_with fail
  refine bodyPost_ret (v := .int .u64 ((a * b % m : Nat) : Int)) ?_ rfl ⟨rfl, hb⟩
  simp [results, Try.results51, go_sem]
end Go.Proofs.Ytpoocnkflmimdaa
namespace Go.Proofs.Ytpoocnkflmimdaa
open Go.ChangeShapes Go.WideShapes Go.ChangeAt Go.RowKit
set_option linter.unusedVariables false in
set_option linter.unusedSimpArgs false in
set_option maxRecDepth 100000 in
set_option maxHeartbeats 4000000 in
theorem times_short {a b m : Nat} (ha : a < m) (hb9 : b < m) (hml : m < W64) (w : World) : Calls Try.prog 54 #[numV a, numV b, numV m] w fun e w' => e = .returned (numV (a * b % m)) ∧ Below w.heap.size w w' := by
  obtain ⟨q, hq⟩ : ∃ q, q = a * b % m := ⟨_, rfl⟩
  rw [← hq]
  have hm0 : 0 < m := by omega
  have hm : m < M256 := by unfold M256; unfold W64 at hml; omega
  obtain ⟨n, hn⟩ : ∃ n, n = bitsN m := ⟨_, rfl⟩
  have CB := Lib.hid (fun w => by have h := bits_any hm w; rw [← hn] at h; unfold numV words at h; exact h)
  have hnI : (n : Int) ≤ 64 := by have := bits_short.2 hml; omega
  have hqw : q < W64 := by rw [hq]; exact Nat.lt_trans (Nat.mod_lt _ hm0) hml
  have CW := Lib.hid (fun w => by have h := word_any (Nat.lt_trans ha hml) (Nat.lt_trans hb9 hml) hml (Nat.lt_of_lt_of_le (Nat.mul_lt_mul_of_lt_of_lt ha (Nat.lt_trans hb9 hml)) (Nat.le_refl _)) w; rw [← hq] at h; exact h)
  have CO := Lib.hid (fun w => by have h := of_any q hqw w; unfold numV words at h; exact h)
  have da := Lib.hid (dgt_small (Nat.lt_trans ha hml)).1
  have db := Lib.hid (dgt_small (Nat.lt_trans hb9 hml)).1
  have dm := Lib.hid (dgt_small hml).1
  clear hq hn hml hm0 hm ha hb9 hqw
  unfold numV words
  go_enter Try.func54, Try.ntmps54
  go_wp2_with fail
  obtain ⟨w_0, e_0⟩ : ∃ w9, w9 = w.alloc (.cells #[.int .u64 (dgt W64 a 0), .int .u64 (dgt W64 a 1), .int .u64 (dgt W64 a 2), .int .u64 (dgt W64 a 3)] 24) := ⟨_, rfl⟩
  have s_0 : w_0.heap.size = w.heap.size + 1 := by rw [e_0]; simp
  have b_0 : Below w.heap.size w w_0 := by rw [e_0]; exact (Below.refl _ _).alloc (Nat.le_refl _) _
  have n_0 : NumAt w_0 (w.heap.size) a := by rw [e_0]; exact NumAt.new w a _ _ rfl
  obtain ⟨w_1, e_1⟩ : ∃ w9, w9 = w_0.alloc (.cells #[.int .u64 (dgt W64 b 0), .int .u64 (dgt W64 b 1), .int .u64 (dgt W64 b 2), .int .u64 (dgt W64 b 3)] 24) := ⟨_, rfl⟩
  have s_1 : w_1.heap.size = w.heap.size + 1 + 1 := by rw [e_1]; simp [s_0]
  have b_1 : Below w_0.heap.size w_0 w_1 := by rw [e_1]; exact (Below.refl _ _).alloc (Nat.le_refl _) _
  have n_1 : NumAt w_1 (w.heap.size + 1) b := by rw [e_1]; exact NumAt.new w_0 b _ _ s_0.symm
  obtain ⟨w_2, e_2⟩ : ∃ w9, w9 = w_1.alloc (.cells #[.int .u64 (dgt W64 m 0), .int .u64 (dgt W64 m 1), .int .u64 (dgt W64 m 2), .int .u64 (dgt W64 m 3)] 24) := ⟨_, rfl⟩
  have s_2 : w_2.heap.size = w.heap.size + 1 + 1 + 1 := by rw [e_2]; simp [s_1]
  have b_2 : Below w_1.heap.size w_1 w_2 := by rw [e_2]; exact (Below.refl _ _).alloc (Nat.le_refl _) _
  have n_2 : NumAt w_2 (w.heap.size + 1 + 1) m := by rw [e_2]; exact NumAt.new w_1 m _ _ s_1.symm
  obtain ⟨wz, e_3⟩ : ∃ w9, w9 = w_2.alloc (.cells #[.int .u64 0, .int .u64 0, .int .u64 0, .int .u64 0] 24) := ⟨_, rfl⟩
  have s_3 : wz.heap.size = w.heap.size + 1 + 1 + 1 + 1 := by rw [e_3]; simp [s_2]
  have b_3 : Below w_2.heap.size w_2 wz := by rw [e_3]; exact (Below.refl _ _).alloc (Nat.le_refl _) _
  have n_3 : NumAt wz (w.heap.size + 1 + 1 + 1) 0 := by rw [e_3, ← s_2]; exact num_zero w_2 _
  have f_3 : FreeN wz (w.heap.size + 1 + 1 + 1) 4 := by rw [e_3]; exact FreeN.made w_2 _ _ 4 _ s_2.symm
  rw [← e_0, ← e_1, ← e_2, ← e_3]
  obtain ⟨AA, h_0⟩ : ∃ b, b = w.heap.size := ⟨_, rfl⟩
  obtain ⟨BB, h_1⟩ : ∃ b, b = AA + 1 := ⟨_, rfl⟩
  obtain ⟨MM, h_2⟩ : ∃ b, b = BB + 1 := ⟨_, rfl⟩
  obtain ⟨RR, h_3⟩ : ∃ b, b = MM + 1 := ⟨_, rfl⟩
  have hwL : w.heap.size ≤ AA := by omega
  have hRd : RR < wz.heap.size := by omega
  rw [← h_0] at n_0 n_1 n_2 n_3 f_3 ⊢
  rw [← h_1] at n_1 n_2 n_3 f_3 ⊢
  rw [← h_2] at n_2 n_3 f_3 ⊢
  rw [← h_3] at n_3 f_3 ⊢
  have l_1 : AA < BB := by omega
  have l_2 : BB < MM := by omega
  have l_3 : MM < RR := by omega
  have HAA := Lib.hid (NumAt.later b_3 (NumAt.later b_2 (NumAt.later b_1 n_0)))
  have HBB := Lib.hid (NumAt.later b_3 (NumAt.later b_2 n_1))
  have HMM := Lib.hid (NumAt.later b_3 n_2)
  have HRR := Lib.hid n_3
  have HF := Lib.hid f_3
  have B := Lib.hid (((b_0.trans (b_1.mono (by omega))).trans (b_2.mono (by omega))).trans (b_3.mono (by omega)))
  have hwRR : w.heap.size ≤ RR := by omega
  have HSZ := Lib.hid (show wz.heap.size = RR + 1 by omega)
  clear e_0 s_0 b_0 n_0 h_0 e_1 s_1 b_1 n_1 h_1 e_2 s_2 b_2 n_2 h_2 e_3 s_3 b_3 n_3 h_3 f_3
  refine (CB.out _).mono ?_
  rintro _ w1 ⟨rfl, hb⟩
  have HAA := Lib.hid (NumAt.later hb HAA.out)
  have HBB := Lib.hid (NumAt.later hb HBB.out)
  have HMM := Lib.hid (NumAt.later hb HMM.out)
  have HRR := Lib.hid (NumAt.later hb HRR.out)
  have HF := Lib.hid (HF.out.later hb hRd)
  have hRd := Nat.lt_of_lt_of_le hRd hb.size
  have B := Lib.hid (below_later B.out hb)
  clear hb
  obtain ⟨r_AA_0, r_AA_1, r_AA_2, r_AA_3⟩ := num4 HAA.out
  obtain ⟨r_BB_0, r_BB_1, r_BB_2, r_BB_3⟩ := num4 HBB.out
  obtain ⟨r_MM_0, r_MM_1, r_MM_2, r_MM_3⟩ := num4 HMM.out
  rw [da.out] at r_AA_0
  rw [db.out] at r_BB_0
  rw [dm.out] at r_MM_0
  go_wp2_with fail
  refine (CW.out _).mono ?_
  rintro _ w2 ⟨rfl, hb⟩
  have HAA := Lib.hid (NumAt.later hb HAA.out)
  have HBB := Lib.hid (NumAt.later hb HBB.out)
  have HMM := Lib.hid (NumAt.later hb HMM.out)
  have HRR := Lib.hid (NumAt.later hb HRR.out)
  have HF := Lib.hid (HF.out.later hb hRd)
  have hRd := Nat.lt_of_lt_of_le hRd hb.size
  have B := Lib.hid (below_later B.out hb)
  clear hb
  clear r_AA_0 r_AA_1 r_AA_2 r_AA_3 r_BB_0 r_BB_1 r_BB_2 r_BB_3 r_MM_0 r_MM_1 r_MM_2 r_MM_3
  go_wp2_with fail
  refine (CO.out _).mono ?_
  rintro _ w3 ⟨rfl, hb⟩
  have HAA := Lib.hid (NumAt.later hb HAA.out)
  have HBB := Lib.hid (NumAt.later hb HBB.out)
  have HMM := Lib.hid (NumAt.later hb HMM.out)
  have HRR := Lib.hid (NumAt.later hb HRR.out)
  have HF := Lib.hid (HF.out.later hb hRd)
  have hRd := Nat.lt_of_lt_of_le hRd hb.size
  have B := Lib.hid (below_later B.out hb)
  clear hb
  obtain ⟨c0, c1, c2, c3, f0, f1, f2, f3⟩ := num4f HRR.out HF.out
  go_wp2_with fail
  have HRL := Lib.hid (NumAt.set4 HRR.out q)
  have B9 := Lib.hid (below_set4 B.out hwRR (.int .u64 (dgt W64 q 0)) (.int .u64 (dgt W64 q 1)) (.int .u64 (dgt W64 q 2)) (.int .u64 (dgt W64 q 3)))
  obtain ⟨g0, g1, g2, g3⟩ := num4 HRL.out
  refine bodyPost_ret (v := .agg #[.int .u64 (dgt W64 q 0), .int .u64 (dgt W64 q 1), .int .u64 (dgt W64 q 2), .int .u64 (dgt W64 q 3)]) ?_ rfl ⟨rfl, B9.out⟩
  simp [results, Try.results54, go_sem, g0, g1, g2, g3]
set_option linter.unusedVariables false in
set_option linter.unusedSimpArgs false in
set_option maxRecDepth 100000 in
set_option maxHeartbeats 4000000 in
theorem times_long {a b m : Nat} (ha : a < m) (hb9 : b < m) (hml : W64 ≤ m) (hm : m < M256) (w : World) : Calls Try.prog 54 #[numV a, numV b, numV m] w fun e w' => e = .returned (numV (a * b % m)) ∧ Below w.heap.size w w' := by
  obtain ⟨q, hq⟩ : ∃ q, q = a * b % m := ⟨_, rfl⟩
  rw [← hq]
  have hm0 : 0 < m := by omega
  obtain ⟨n, hn⟩ : ∃ n, n = bitsN m := ⟨_, rfl⟩
  have CB := Lib.hid (fun w => by have h := bits_any hm w; rw [← hn] at h; unfold numV words at h; exact h)
  have hnI : ¬ (n : Int) ≤ 64 := by have := mt bits_short.1 (show ¬ m < W64 by omega); omega
  have ha9 := Nat.lt_trans ha hm
  have hb8 := Nat.lt_trans hb9 hm
  obtain ⟨x, hx⟩ : ∃ x, x = mulL a b := ⟨_, rfl⟩
  obtain ⟨y, hy⟩ : ∃ y, y = mulH a b := ⟨_, rfl⟩
  have CM := Lib.hid (fun w => by have h := mul_any ha9 hb8 w; rw [← hx, ← hy] at h; unfold numV words at h; exact h)
  have hxy : y * M256 + x = a * b := by rw [hx, hy]; unfold mulL mulH; rw [Nat.mul_comm]; exact Nat.div_add_mod _ _
  have CW := Lib.hid (fun w => by have h := Wide_any (lo := x) (hi := y) (by rw [hx]; exact mulL_lt _ _) (by rw [hy]; exact mulH_lt ha9 hb8) hm hm0 w; rw [hxy, ← hq] at h; unfold numV words at h; exact h)
  clear hq hn hml hm0 hm ha hb9 ha9 hb8 hx hy hxy
  unfold numV words
  go_enter Try.func54, Try.ntmps54
  go_wp2_with fail
  obtain ⟨w_0, e_0⟩ : ∃ w9, w9 = w.alloc (.cells #[.int .u64 (dgt W64 a 0), .int .u64 (dgt W64 a 1), .int .u64 (dgt W64 a 2), .int .u64 (dgt W64 a 3)] 24) := ⟨_, rfl⟩
  have s_0 : w_0.heap.size = w.heap.size + 1 := by rw [e_0]; simp
  have b_0 : Below w.heap.size w w_0 := by rw [e_0]; exact (Below.refl _ _).alloc (Nat.le_refl _) _
  have n_0 : NumAt w_0 (w.heap.size) a := by rw [e_0]; exact NumAt.new w a _ _ rfl
  obtain ⟨w_1, e_1⟩ : ∃ w9, w9 = w_0.alloc (.cells #[.int .u64 (dgt W64 b 0), .int .u64 (dgt W64 b 1), .int .u64 (dgt W64 b 2), .int .u64 (dgt W64 b 3)] 24) := ⟨_, rfl⟩
  have s_1 : w_1.heap.size = w.heap.size + 1 + 1 := by rw [e_1]; simp [s_0]
  have b_1 : Below w_0.heap.size w_0 w_1 := by rw [e_1]; exact (Below.refl _ _).alloc (Nat.le_refl _) _
  have n_1 : NumAt w_1 (w.heap.size + 1) b := by rw [e_1]; exact NumAt.new w_0 b _ _ s_0.symm
  obtain ⟨w_2, e_2⟩ : ∃ w9, w9 = w_1.alloc (.cells #[.int .u64 (dgt W64 m 0), .int .u64 (dgt W64 m 1), .int .u64 (dgt W64 m 2), .int .u64 (dgt W64 m 3)] 24) := ⟨_, rfl⟩
  have s_2 : w_2.heap.size = w.heap.size + 1 + 1 + 1 := by rw [e_2]; simp [s_1]
  have b_2 : Below w_1.heap.size w_1 w_2 := by rw [e_2]; exact (Below.refl _ _).alloc (Nat.le_refl _) _
  have n_2 : NumAt w_2 (w.heap.size + 1 + 1) m := by rw [e_2]; exact NumAt.new w_1 m _ _ s_1.symm
  obtain ⟨wz, e_3⟩ : ∃ w9, w9 = w_2.alloc (.cells #[.int .u64 0, .int .u64 0, .int .u64 0, .int .u64 0] 24) := ⟨_, rfl⟩
  have s_3 : wz.heap.size = w.heap.size + 1 + 1 + 1 + 1 := by rw [e_3]; simp [s_2]
  have b_3 : Below w_2.heap.size w_2 wz := by rw [e_3]; exact (Below.refl _ _).alloc (Nat.le_refl _) _
  have n_3 : NumAt wz (w.heap.size + 1 + 1 + 1) 0 := by rw [e_3, ← s_2]; exact num_zero w_2 _
  have f_3 : FreeN wz (w.heap.size + 1 + 1 + 1) 4 := by rw [e_3]; exact FreeN.made w_2 _ _ 4 _ s_2.symm
  rw [← e_0, ← e_1, ← e_2, ← e_3]
  obtain ⟨AA, h_0⟩ : ∃ b, b = w.heap.size := ⟨_, rfl⟩
  obtain ⟨BB, h_1⟩ : ∃ b, b = AA + 1 := ⟨_, rfl⟩
  obtain ⟨MM, h_2⟩ : ∃ b, b = BB + 1 := ⟨_, rfl⟩
  obtain ⟨RR, h_3⟩ : ∃ b, b = MM + 1 := ⟨_, rfl⟩
  have hwL : w.heap.size ≤ AA := by omega
  have hRd : RR < wz.heap.size := by omega
  rw [← h_0] at n_0 n_1 n_2 n_3 f_3 ⊢
  rw [← h_1] at n_1 n_2 n_3 f_3 ⊢
  rw [← h_2] at n_2 n_3 f_3 ⊢
  rw [← h_3] at n_3 f_3 ⊢
  have l_1 : AA < BB := by omega
  have l_2 : BB < MM := by omega
  have l_3 : MM < RR := by omega
  have HAA := Lib.hid (NumAt.later b_3 (NumAt.later b_2 (NumAt.later b_1 n_0)))
  have HBB := Lib.hid (NumAt.later b_3 (NumAt.later b_2 n_1))
  have HMM := Lib.hid (NumAt.later b_3 n_2)
  have HRR := Lib.hid n_3
  have HF := Lib.hid f_3
  have B := Lib.hid (((b_0.trans (b_1.mono (by omega))).trans (b_2.mono (by omega))).trans (b_3.mono (by omega)))
  have hwRR : w.heap.size ≤ RR := by omega
  have HSZ := Lib.hid (show wz.heap.size = RR + 1 by omega)
  clear e_0 s_0 b_0 n_0 h_0 e_1 s_1 b_1 n_1 h_1 e_2 s_2 b_2 n_2 h_2 e_3 s_3 b_3 n_3 h_3 f_3
  refine (CB.out _).mono ?_
  rintro _ w1 ⟨rfl, hb⟩
  have HAA := Lib.hid (NumAt.later hb HAA.out)
  have HBB := Lib.hid (NumAt.later hb HBB.out)
  have HMM := Lib.hid (NumAt.later hb HMM.out)
  have HRR := Lib.hid (NumAt.later hb HRR.out)
  have HF := Lib.hid (HF.out.later hb hRd)
  have hRd := Nat.lt_of_lt_of_le hRd hb.size
  have B := Lib.hid (below_later B.out hb)
  clear hb
  obtain ⟨r_AA_0, r_AA_1, r_AA_2, r_AA_3⟩ := num4 HAA.out
  obtain ⟨r_BB_0, r_BB_1, r_BB_2, r_BB_3⟩ := num4 HBB.out
  obtain ⟨r_MM_0, r_MM_1, r_MM_2, r_MM_3⟩ := num4 HMM.out
  go_wp2_with fail
  refine (CM.out _).mono ?_
  rintro _ w2 ⟨rfl, hb⟩
  have HAA := Lib.hid (NumAt.later hb HAA.out)
  have HBB := Lib.hid (NumAt.later hb HBB.out)
  have HMM := Lib.hid (NumAt.later hb HMM.out)
  have HRR := Lib.hid (NumAt.later hb HRR.out)
  have HF := Lib.hid (HF.out.later hb hRd)
  have hRd := Nat.lt_of_lt_of_le hRd hb.size
  have B := Lib.hid (below_later B.out hb)
  clear hb
  clear r_AA_0 r_AA_1 r_AA_2 r_AA_3 r_BB_0 r_BB_1 r_BB_2 r_BB_3 r_MM_0 r_MM_1 r_MM_2 r_MM_3
  have q_0 := fun o1 o2 => (NumAt.alloc (NumAt.alloc HMM.out o1) o2) 0 (by omega)
  have q_1 := fun o1 o2 => (NumAt.alloc (NumAt.alloc HMM.out o1) o2) 1 (by omega)
  have q_2 := fun o1 o2 => (NumAt.alloc (NumAt.alloc HMM.out o1) o2) 2 (by omega)
  have q_3 := fun o1 o2 => (NumAt.alloc (NumAt.alloc HMM.out o1) o2) 3 (by omega)
  obtain ⟨ww, eww⟩ : ∃ ww, ww = (w2.alloc (.cells #[.int .u64 (dgt W64 x 0), .int .u64 (dgt W64 x 1), .int .u64 (dgt W64 x 2), .int .u64 (dgt W64 x 3)] 24)).alloc (.cells #[.int .u64 (dgt W64 y 0), .int .u64 (dgt W64 y 1), .int .u64 (dgt W64 y 2), .int .u64 (dgt W64 y 3)] 24) := ⟨_, rfl⟩
  have hb : Below w2.heap.size w2 ww := by rw [eww]; exact ((Below.refl _ _).alloc (Nat.le_refl _) _).alloc (by simp) _
  go_wp2_with fail
  rw [← eww]
  clear eww q_0 q_1 q_2 q_3
  have HAA := Lib.hid (NumAt.later hb HAA.out)
  have HBB := Lib.hid (NumAt.later hb HBB.out)
  have HMM := Lib.hid (NumAt.later hb HMM.out)
  have HRR := Lib.hid (NumAt.later hb HRR.out)
  have HF := Lib.hid (HF.out.later hb hRd)
  have hRd := Nat.lt_of_lt_of_le hRd hb.size
  have B := Lib.hid (below_later B.out hb)
  clear hb
  refine (CW.out _).mono ?_
  rintro _ w3 ⟨rfl, hb⟩
  have HAA := Lib.hid (NumAt.later hb HAA.out)
  have HBB := Lib.hid (NumAt.later hb HBB.out)
  have HMM := Lib.hid (NumAt.later hb HMM.out)
  have HRR := Lib.hid (NumAt.later hb HRR.out)
  have HF := Lib.hid (HF.out.later hb hRd)
  have hRd := Nat.lt_of_lt_of_le hRd hb.size
  have B := Lib.hid (below_later B.out hb)
  clear hb
  obtain ⟨c0, c1, c2, c3, f0, f1, f2, f3⟩ := num4f HRR.out HF.out
  go_wp2_with fail
  have HRL := Lib.hid (NumAt.set4 HRR.out q)
  have B9 := Lib.hid (below_set4 B.out hwRR (.int .u64 (dgt W64 q 0)) (.int .u64 (dgt W64 q 1)) (.int .u64 (dgt W64 q 2)) (.int .u64 (dgt W64 q 3)))
  have hba : ∀ W : World, Below W.heap.size W (W.alloc (.cells #[.int .u64 (dgt W64 q 0), .int .u64 (dgt W64 q 1), .int .u64 (dgt W64 q 2), .int .u64 (dgt W64 q 3)] 24)) := fun W => (Below.refl _ _).alloc (Nat.le_refl _) _
  have B9 := Lib.hid (below_later B9.out (hba _))
  have HRL := Lib.hid (NumAt.later (hba _) HRL.out)
  clear hba
  obtain ⟨g0, g1, g2, g3⟩ := num4 HRL.out
  refine bodyPost_ret (v := .agg #[.int .u64 (dgt W64 q 0), .int .u64 (dgt W64 q 1), .int .u64 (dgt W64 q 2), .int .u64 (dgt W64 q 3)]) ?_ rfl ⟨rfl, B9.out⟩
  simp [results, Try.results54, go_sem, g0, g1, g2, g3]
theorem mtimes_any {a b m : Nat} (ha : a < m) (hb : b < m) (hm : m < M256) (w : World) : Calls Try.prog 54 #[numV a, numV b, numV m] w fun e w' => e = .returned (numV (a * b % m)) ∧ Below w.heap.size w w' := by
  rcases Nat.lt_or_ge m W64 with h | h
  · exact times_short ha hb h w
  · exact times_long ha hb h hm w
end Go.Proofs.Ytpoocnkflmimdaa
namespace Go.Proofs.Ytpoocnkflmimdaa
open Go.ChangeShapes Go.WideShapes Go.ChangeAt Go.RowKit
theorem cmpN_of_lt {a b : Nat} (h : a < b) : cmpN a b = -1 := by unfold cmpN; rw [if_pos h]
theorem cmpN_of_gt {a b : Nat} (h : b < a) : cmpN a b = 1 := by unfold cmpN; rw [if_neg (by omega), if_neg (by omega)]
set_option linter.unusedVariables false in
set_option linter.unusedSimpArgs false in
set_option maxRecDepth 100000 in
set_option maxHeartbeats 4000000 in
theorem of_may {a b m q : Nat} (ha : a < m) (hb9 : b < m) (h1 : 1 < m) (hm : m < M256) {f : FuncId} {caps : Array Value} (w : World) (hent : ∀ (args : Array Value) (W : World), (callFunc f args).run Try.prog W = .ok (.enter f args) W)
    (hdo : ∀ W, Below w.heap.size w W → Calls Try.prog f (#[numV a, numV b, numV m] ++ caps) W fun e w' => e = .returned (numV q) ∧ Below W.heap.size W w') :
    Calls Try.prog 55 #[.agg #[.func (.func f) #[] caps], numV a, numV b, numV m] w fun e w' => e = .returned (.tuple #[numV q, .int .i64 0]) ∧ Below w.heap.size w w' := by
  have ha8 := Nat.lt_trans ha hm
  have hb8 := Nat.lt_trans hb9 hm
  have C1 := Lib.hid (fun w => by have h := of_lit 1 1 rfl (by decide) w; unfold numV words at h; exact h)
  have K1 := Lib.hid (fun w => by have h := cmp_any hm (show 1 < M256 by decide) w; rw [cmpN_of_gt h1] at h; unfold numV words at h; exact h)
  have K2 := Lib.hid (fun w => by have h := cmp_any ha8 hm w; rw [cmpN_of_lt ha] at h; unfold numV words at h; exact h)
  have K3 := Lib.hid (fun w => by have h := cmp_any hb8 hm w; rw [cmpN_of_lt hb9] at h; unfold numV words at h; exact h)
  have HE := Lib.hid hent
  have HD := Lib.hid hdo
  clear ha hb9 h1 hm ha8 hb8 hent hdo
  unfold numV words at *
  go_enter Try.func55, Try.ntmps55
  go_wp2_with fail
  obtain ⟨w0, e0⟩ : ∃ w0, w0 = w.alloc (.cells #[.func (.func f) #[] caps] 106) := ⟨_, rfl⟩
  obtain ⟨DD, hDD⟩ : ∃ b, b = w.heap.size := ⟨_, rfl⟩
  have b0 : Below w.heap.size w w0 := by rw [e0]; exact (Below.refl _ _).alloc (Nat.le_refl _) _
  have s0 : w0.heap.size = w.heap.size + 1 := by rw [e0]; simp
  have d0 : w0.cell? ⟨DD, 0, none⟩ = some (.func (.func f) #[] caps) := by rw [e0, hDD]; simp
  rw [← e0, ← s0, ← hDD]
  have HB0 := Lib.hid b0
  have hD0 : DD < w0.heap.size := by omega
  clear e0 hDD b0 s0
  obtain ⟨w_0, e_0⟩ : ∃ w9, w9 = w0.alloc (.cells #[.int .u64 (dgt W64 a 0), .int .u64 (dgt W64 a 1), .int .u64 (dgt W64 a 2), .int .u64 (dgt W64 a 3)] 24) := ⟨_, rfl⟩
  have s_0 : w_0.heap.size = w0.heap.size + 1 := by rw [e_0]; simp
  have b_0 : Below w0.heap.size w0 w_0 := by rw [e_0]; exact (Below.refl _ _).alloc (Nat.le_refl _) _
  have n_0 : NumAt w_0 (w0.heap.size) a := by rw [e_0]; exact NumAt.new w0 a _ _ rfl
  obtain ⟨w_1, e_1⟩ : ∃ w9, w9 = w_0.alloc (.cells #[.int .u64 (dgt W64 b 0), .int .u64 (dgt W64 b 1), .int .u64 (dgt W64 b 2), .int .u64 (dgt W64 b 3)] 24) := ⟨_, rfl⟩
  have s_1 : w_1.heap.size = w0.heap.size + 1 + 1 := by rw [e_1]; simp [s_0]
  have b_1 : Below w_0.heap.size w_0 w_1 := by rw [e_1]; exact (Below.refl _ _).alloc (Nat.le_refl _) _
  have n_1 : NumAt w_1 (w0.heap.size + 1) b := by rw [e_1]; exact NumAt.new w_0 b _ _ s_0.symm
  obtain ⟨w_2, e_2⟩ : ∃ w9, w9 = w_1.alloc (.cells #[.int .u64 (dgt W64 m 0), .int .u64 (dgt W64 m 1), .int .u64 (dgt W64 m 2), .int .u64 (dgt W64 m 3)] 24) := ⟨_, rfl⟩
  have s_2 : w_2.heap.size = w0.heap.size + 1 + 1 + 1 := by rw [e_2]; simp [s_1]
  have b_2 : Below w_1.heap.size w_1 w_2 := by rw [e_2]; exact (Below.refl _ _).alloc (Nat.le_refl _) _
  have n_2 : NumAt w_2 (w0.heap.size + 1 + 1) m := by rw [e_2]; exact NumAt.new w_1 m _ _ s_1.symm
  obtain ⟨wz, e_3⟩ : ∃ w9, w9 = w_2.alloc (.cells #[.int .u64 0, .int .u64 0, .int .u64 0, .int .u64 0] 24) := ⟨_, rfl⟩
  have s_3 : wz.heap.size = w0.heap.size + 1 + 1 + 1 + 1 := by rw [e_3]; simp [s_2]
  have b_3 : Below w_2.heap.size w_2 wz := by rw [e_3]; exact (Below.refl _ _).alloc (Nat.le_refl _) _
  have n_3 : NumAt wz (w0.heap.size + 1 + 1 + 1) 0 := by rw [e_3, ← s_2]; exact num_zero w_2 _
  have f_3 : FreeN wz (w0.heap.size + 1 + 1 + 1) 4 := by rw [e_3]; exact FreeN.made w_2 _ _ 4 _ s_2.symm
  rw [← e_0, ← e_1, ← e_2, ← e_3]
  obtain ⟨AA, h_0⟩ : ∃ b, b = w0.heap.size := ⟨_, rfl⟩
  obtain ⟨BB, h_1⟩ : ∃ b, b = AA + 1 := ⟨_, rfl⟩
  obtain ⟨MM, h_2⟩ : ∃ b, b = BB + 1 := ⟨_, rfl⟩
  obtain ⟨RR, h_3⟩ : ∃ b, b = MM + 1 := ⟨_, rfl⟩
  have hwL : w0.heap.size ≤ AA := by omega
  have hRd : RR < wz.heap.size := by omega
  rw [← h_0] at n_0 n_1 n_2 n_3 f_3 ⊢
  rw [← h_1] at n_1 n_2 n_3 f_3 ⊢
  rw [← h_2] at n_2 n_3 f_3 ⊢
  rw [← h_3] at n_3 f_3 ⊢
  have l_1 : AA < BB := by omega
  have l_2 : BB < MM := by omega
  have l_3 : MM < RR := by omega
  have HAA := Lib.hid (NumAt.later b_3 (NumAt.later b_2 (NumAt.later b_1 n_0)))
  have HBB := Lib.hid (NumAt.later b_3 (NumAt.later b_2 n_1))
  have HMM := Lib.hid (NumAt.later b_3 n_2)
  have HRR := Lib.hid n_3
  have HF := Lib.hid f_3
  have B := Lib.hid (((b_0.trans (b_1.mono (by omega))).trans (b_2.mono (by omega))).trans (b_3.mono (by omega)))
  have hwRR : w0.heap.size ≤ RR := by omega
  have HSZ := Lib.hid (show wz.heap.size = RR + 1 by omega)
  clear e_0 s_0 b_0 n_0 h_0 e_1 s_1 b_1 n_1 h_1 e_2 s_2 b_2 n_2 h_2 e_3 s_3 b_3 n_3 h_3 f_3
  have D0 := Lib.hid ((B.out.cell (p := ⟨DD, 0, none⟩) hD0).trans d0)
  have hD1 : DD < wz.heap.size := Nat.lt_of_lt_of_le hD0 B.out.size
  clear d0
  refine wp_region_fresh 16 (fun _ => none) (by kernel_rfl) (by kernel_rfl) (fun _ _ _ _ _ h => h) (fun F hn9 hcl hbl => ?_)
  have r_AA_0 := fun X9 : Wd F => (NumAt.later (hbl X9.world X9.fact) HAA.out) 0 (by omega)
  have r_AA_1 := fun X9 : Wd F => (NumAt.later (hbl X9.world X9.fact) HAA.out) 1 (by omega)
  have r_AA_2 := fun X9 : Wd F => (NumAt.later (hbl X9.world X9.fact) HAA.out) 2 (by omega)
  have r_AA_3 := fun X9 : Wd F => (NumAt.later (hbl X9.world X9.fact) HAA.out) 3 (by omega)
  have r_BB_0 := fun X9 : Wd F => (NumAt.later (hbl X9.world X9.fact) HBB.out) 0 (by omega)
  have r_BB_1 := fun X9 : Wd F => (NumAt.later (hbl X9.world X9.fact) HBB.out) 1 (by omega)
  have r_BB_2 := fun X9 : Wd F => (NumAt.later (hbl X9.world X9.fact) HBB.out) 2 (by omega)
  have r_BB_3 := fun X9 : Wd F => (NumAt.later (hbl X9.world X9.fact) HBB.out) 3 (by omega)
  have r_MM_0 := fun X9 : Wd F => (NumAt.later (hbl X9.world X9.fact) HMM.out) 0 (by omega)
  have r_MM_1 := fun X9 : Wd F => (NumAt.later (hbl X9.world X9.fact) HMM.out) 1 (by omega)
  have r_MM_2 := fun X9 : Wd F => (NumAt.later (hbl X9.world X9.fact) HMM.out) 2 (by omega)
  have r_MM_3 := fun X9 : Wd F => (NumAt.later (hbl X9.world X9.fact) HMM.out) 3 (by omega)
  have HCL := Lib.hid hcl
  clear hcl hbl
  refine wpF_seg 16 0 _ _ (fun _ _ _ => rfl) (by decide) ?_
  simp only [List.take_succ_cons, List.take_zero, List.drop_succ_cons, List.drop_zero, Nat.reduceAdd]
  repeat (go_big_quiet_step ((first | (go_at_call 27; with_reducible exact to_class HCL.out (C1.out _)) | (go_at_call 12; with_reducible exact to_class HCL.out (K1.out _)) | (go_at_call 12; with_reducible exact to_class HCL.out (K2.out _)) | (go_at_call 12; with_reducible exact to_class HCL.out (K3.out _)))))
  refine wpQuiet_nil ?_
  refine wpF_nil ?_
  intro bs w2 hb _ _
  clear r_AA_0 r_AA_1 r_AA_2 r_AA_3 r_BB_0 r_BB_1 r_BB_2 r_BB_3 r_MM_0 r_MM_1 r_MM_2 r_MM_3
  have D0 := Lib.hid ((hb.cell (p := ⟨DD, 0, none⟩) hD1).trans D0.out)
  have HAA := Lib.hid (NumAt.later hb HAA.out)
  have HBB := Lib.hid (NumAt.later hb HBB.out)
  have HMM := Lib.hid (NumAt.later hb HMM.out)
  have HRR := Lib.hid (NumAt.later hb HRR.out)
  have HF := Lib.hid (HF.out.later hb hRd)
  have hRd := Nat.lt_of_lt_of_le hRd hb.size
  have B := Lib.hid (below_later B.out hb)
  clear hb
  simp only [over]
  have d0 := D0.out
  obtain ⟨r_AA_0, r_AA_1, r_AA_2, r_AA_3⟩ := num4 HAA.out
  obtain ⟨r_BB_0, r_BB_1, r_BB_2, r_BB_3⟩ := num4 HBB.out
  obtain ⟨r_MM_0, r_MM_1, r_MM_2, r_MM_3⟩ := num4 HMM.out
  have he := HE.out
  go_wp2_with fail
  clear r_AA_0 r_AA_1 r_AA_2 r_AA_3 r_BB_0 r_BB_1 r_BB_2 r_BB_3 r_MM_0 r_MM_1 r_MM_2 r_MM_3
  refine (HD.out w2 (below_later HB0.out B.out)).mono ?_
  rintro _ w3 ⟨rfl, hb⟩
  clear d0 he
  have HAA := Lib.hid (NumAt.later hb HAA.out)
  have HBB := Lib.hid (NumAt.later hb HBB.out)
  have HMM := Lib.hid (NumAt.later hb HMM.out)
  have HRR := Lib.hid (NumAt.later hb HRR.out)
  have HF := Lib.hid (HF.out.later hb hRd)
  have hRd := Nat.lt_of_lt_of_le hRd hb.size
  have B := Lib.hid (below_later B.out hb)
  clear hb
  obtain ⟨c0, c1, c2, c3, f0, f1, f2, f3⟩ := num4f HRR.out HF.out
  go_wp2_with fail
  have HRL := Lib.hid (NumAt.set4 HRR.out q)
  have B9 := Lib.hid (below_set4 B.out hwRR (.int .u64 (dgt W64 q 0)) (.int .u64 (dgt W64 q 1)) (.int .u64 (dgt W64 q 2)) (.int .u64 (dgt W64 q 3)))
  obtain ⟨g0, g1, g2, g3⟩ := num4 HRL.out
  refine bodyPost_ret (v := .tuple #[.agg #[.int .u64 (dgt W64 q 0), .int .u64 (dgt W64 q 1), .int .u64 (dgt W64 q 2), .int .u64 (dgt W64 q 3)], .int .i64 0]) ?_ rfl ⟨rfl, below_later HB0.out B9.out⟩
  simp [results, Try.results55, go_sem, g0, g1, g2, g3]
end Go.Proofs.Ytpoocnkflmimdaa
