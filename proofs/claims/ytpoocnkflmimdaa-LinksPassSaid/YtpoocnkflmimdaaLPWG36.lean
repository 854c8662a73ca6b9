/- Layer 13 (sigs): what makes a challenge of a number; Loads of groups, numbers and hashes, in one step; Steps of walks: guarded operations, loads of eight cells, tests of signatures -/
import Derived.Test.YtpoocnkflmimdaaLPWG28
import Derived.Test.YtpoocnkflmimdaaLPWG35
namespace Go.Proofs.Ytpoocnkflmimdaa
open Go.ChangeShapes Go.WideShapes Go.ChangeAt Go.RowKit
/-- A long number's bytes. -/
def longB (x : Nat) : List Nat := be 8 (dgt W64 x 3) ++ (be 8 (dgt W64 x 2) ++ (be 8 (dgt W64 x 1) ++ be 8 (dgt W64 x 0)))
theorem longB_length (x : Nat) : (longB x).length = 32 := by unfold longB; simp [be_length]
theorem longB_bytes (x : Nat) : Bytes (longB x) := fun y hy => by
 unfold longB at hy
 rcases List.mem_append.1 hy with hy | hy
 ·exact be_bytes _ _ y hy
 ·rcases List.mem_append.1 hy with hy | hy
  ·exact be_bytes _ _ y hy
  ·rcases List.mem_append.1 hy with hy | hy
   ·exact be_bytes _ _ y hy
   ·exact be_bytes _ _ y hy
theorem long_any (x : Nat) (w : World) : Calls Try.prog 18 #[.slice none 0 0, .agg #[.int .u64 (dgt W64 x 0), .int .u64 (dgt W64 x 1), .int .u64 (dgt W64 x 2), .int .u64 (dgt W64 x 3)]] w fun e w' => ∃ a c, e = .returned (.slice (some a) 32 c) ∧ KAt .u8 w' (.slice (some a) 32 c) (longB x) ∧ Below w.heap.size w w' := by
 refine (PutLong_any (b := []) w (KAt.nil _ _) _ _ _ _ (by simp)).mono ?_
 rintro _ w' ⟨v', rfl, ho, hb⟩
 have hk := ho.at_
 rw [List.nil_append] at hk
 obtain ⟨ao, cap, e, _, _, _, h4⟩ := hk
 obtain ⟨b, o, e2, _⟩ := h4 (by show 0 < (longB x).length; rw [longB_length]; decide)
 subst e
 have hl : (be 8 (dgt W64 x 3) ++ (be 8 (dgt W64 x 2) ++ (be 8 (dgt W64 x 1) ++ be 8 (dgt W64 x 0)))).length = 32 := longB_length x
 have hk := ho.at_
 rw [List.nil_append, hl, e2] at hk
 exact ⟨_, _, by rw [hl, e2], hk, hb⟩
/-- The word that is hashed. -/
def signB : List Nat := nums ⟨#[115, 105, 103, 110]⟩
def drawB : List Nat := nums ⟨#[100, 114, 97, 119]⟩
def challenge (gq key r : Nat) (h : List Nat) : Nat := numberN gq signB [longB key, longB r, h]
def drawN (gq secret : Nat) (h : List Nat) : Nat := numberN gq drawB [longB secret, h]
theorem parts3 {w : World} {b : Nat} {v0 v1 v2 : Value} {l0 l1 l2 : List Nat} (h0 : w.cell? ⟨b, 0, none⟩ = some v0) (h1 : w.cell? ⟨b, 1, none⟩ = some v1) (h2 : w.cell? ⟨b, 2, none⟩ = some v2) (k0 : KAt .u8 w v0 l0) (k1 : KAt .u8 w v1 l1) (k2 : KAt .u8 w v2 l2) : Parts w b 0 [v0, v1, v2] [l0, l1, l2] :=
 ⟨rfl, fun i hi => by
  rcases (show i = 0 ∨ i = 1 ∨ i = 2 by simp at hi; omega) with rfl | rfl | rfl
  ·exact ⟨_, _, rfl, rfl, h0, k0⟩
  ·exact ⟨_, _, rfl, rfl, h1, k1⟩
  ·exact ⟨_, _, rfl, rfl, h2, k2⟩⟩
theorem parts2 {w : World} {b : Nat} {v0 v1 : Value} {l0 l1 : List Nat} (h0 : w.cell? ⟨b, 0, none⟩ = some v0) (h1 : w.cell? ⟨b, 1, none⟩ = some v1) (k0 : KAt .u8 w v0 l0) (k1 : KAt .u8 w v1 l1) : Parts w b 0 [v0, v1] [l0, l1] :=
 ⟨rfl, fun i hi => by
  rcases (show i = 0 ∨ i = 1 by simp at hi; omega) with rfl | rfl
  ·exact ⟨_, _, rfl, rfl, h0, k0⟩
  ·exact ⟨_, _, rfl, rfl, h1, k1⟩⟩
theorem cells12 {w8 : World} {GB KB RB gq key r : Nat} (h0 : NumO w8 GB 4 gq) (h1 : NumAt w8 KB key) (h2 : NumAt w8 RB r) : w8.cell? ⟨GB, 4, none⟩ = some (.int .u64 (dgt W64 gq 0)) ∧ w8.cell? ⟨GB, 5, none⟩ = some (.int .u64 (dgt W64 gq 1)) ∧ w8.cell? ⟨GB, 6, none⟩ = some (.int .u64 (dgt W64 gq 2)) ∧ w8.cell? ⟨GB, 7, none⟩ = some (.int .u64 (dgt W64 gq 3)) ∧ w8.cell? ⟨KB, 0, none⟩ = some (.int .u64 (dgt W64 key 0)) ∧ w8.cell? ⟨KB, 1, none⟩ = some (.int .u64 (dgt W64 key 1)) ∧ w8.cell? ⟨KB, 2, none⟩ = some (.int .u64 (dgt W64 key 2)) ∧ w8.cell? ⟨KB, 3, none⟩ = some (.int .u64 (dgt W64 key 3)) ∧ w8.cell? ⟨RB, 0, none⟩ = some (.int .u64 (dgt W64 r 0)) ∧ w8.cell? ⟨RB, 1, none⟩ = some (.int .u64 (dgt W64 r 1)) ∧ w8.cell? ⟨RB, 2, none⟩ = some (.int .u64 (dgt W64 r 2)) ∧ w8.cell? ⟨RB, 3, none⟩ = some (.int .u64 (dgt W64 r 3)) :=
 ⟨h0 0 (by decide), h0 1 (by decide), h0 2 (by decide), h0 3 (by decide), (num4 h1).1, (num4 h1).2.1, (num4 h1).2.2.1, (num4 h1).2.2.2, num4 h2⟩
set_option linter.unusedSimpArgs false in
set_option linter.unusedVariables false in
set_option maxRecDepth 20000 in
set_option maxHeartbeats 8000000 in
theorem signs1_any {GB KB HB gp gq gg gh key r : Nat} {h : List Nat} (w : World) (hg : GrpAt w GB gp gq gg gh) (hk : NumAt w KB key) (hh : w.heap[HB]? = some (.cells (cellsK .u8 h).toArray 31 (0, 0))) (hl : h.length = 32) (hb9 : Bytes h) (hq0 : 0 < gq) (hq : gq < M256) :
  Calls Try.prog 72 #[numV r, .pointer (some ⟨GB, 0, none⟩), .pointer (some ⟨KB, 0, none⟩), .pointer (some ⟨HB, 0, none⟩)] w fun e w' => e = .returned (numV (challenge gq key r h)) ∧ Below w.heap.size w w' := by
 obtain ⟨q, hqq⟩ : ∃ q, q = challenge gq key r h := ⟨_, rfl⟩
 have CN := Lib.hid (fun (W : World) (B : Nat) (vs : List Value) (hP : Parts W B 0 vs [longB key, longB r, h]) => by
  have h9 := Number_any (s := ⟨#[115, 105, 103, 110]⟩) (m := gq) (cap := 3) W hP (by simp) (by simp) (by unfold maxLen; decide) (by
   intro l hl9
   simp only [List.mem_cons, List.not_mem_nil, or_false] at hl9
   rcases hl9 with rfl | rfl | rfl
   ·exact longB_bytes _
   ·exact longB_bytes _
   ·exact hb9) hq0 hq (by unfold hashed; simp [hdr_length, nums_length, enc_length, longB_length, hl, ByteArray.size])
  rw [show numberN gq (nums ⟨#[115, 105, 103, 110]⟩) [longB key, longB r, h] = q from hqq.symm] at h9
  unfold numV words at h9
  exact h9)
 rw [← hqq]
 have HG := Lib.hid hg
 have HK := Lib.hid hk
 have HH := Lib.hid hh
 have HL := Lib.hid hl
 clear hqq hg hk hh hl hb9 hq0 hq
 unfold numV words
 go_enter Try.func72, Try.ntmps72
 go_upto_region 1 with fail
 obtain ⟨v_0, e_0⟩ : ∃ w9, w9 = w.alloc (.cells #[.int .u64 (dgt W64 r 0), .int .u64 (dgt W64 r 1), .int .u64 (dgt W64 r 2), .int .u64 (dgt W64 r 3)] 24) := ⟨_, rfl⟩
 obtain ⟨w0, e_1⟩ : ∃ w9, w9 = v_0.alloc (.cells #[.int .u64 0, .int .u64 0, .int .u64 0, .int .u64 0] 24) := ⟨_, rfl⟩
 have s_0 : v_0.heap.size = w.heap.size + 1 := by rw [e_0]; simp
 have s_1 : w0.heap.size = w.heap.size + 1 + 1 := by rw [e_1]; simp [s_0]
 have b_0 : Below w.heap.size w v_0 := by rw [e_0]; exact (Below.refl _ _).alloc (Nat.le_refl _) _
 have b_1 : Below v_0.heap.size v_0 w0 := by rw [e_1]; exact (Below.refl _ _).alloc (Nat.le_refl _) _
 have f_0 : NumAt v_0 w.heap.size r := by rw [e_0]; exact NumAt.new w r _ _ rfl
 have f_1 : NumAt w0 (w.heap.size + 1) 0 := by rw [← s_0, e_1]; exact num_zero v_0 _
 have g_1 : FreeN w0 (w.heap.size + 1) 4 := by rw [← s_0, e_1]; exact FreeN.new _ _ _ _
 rw [← e_0, ← e_1]
 have HR := Lib.hid (NumAt.later b_1 f_0)
 have HB0 := Lib.hid (below_later b_0 b_1)
 have HG := Lib.hid (HG.out.later HB0.out)
 have HK := Lib.hid (NumAt.later HB0.out HK.out)
 have HH := Lib.hid ((HB0.out.block _ (Array.getElem?_eq_some_iff.1 HH.out).1).trans HH.out)
 obtain ⟨RB, hRB⟩ : ∃ b, b = w.heap.size := ⟨_, rfl⟩
 rw [← hRB] at HR f_1 g_1 s_1 ⊢
 obtain ⟨OO, hOO⟩ : ∃ b, b = RB + 1 := ⟨_, rfl⟩
 rw [← hOO] at f_1 g_1 s_1 ⊢
 have HO := Lib.hid f_1
 have HOF := Lib.hid g_1
 have HOW := Lib.hid (show w.heap.size ≤ OO by omega)
 have HOL := Lib.hid (show OO < w0.heap.size by omega)
 clear e_0 e_1 s_0 s_1 b_0 b_1 f_0 f_1 g_1 hRB hOO
 refine wp_region_tree (.take 0 (.take 1 (.take 2 (.take 4 (.take 6 (.fork 3 (.fork 5 (.fork 7 (.fork 8 (.take 9 (.take 10 (.take 11 (.step 12 (.step 13 (.take 14 .done)))))) 12 (.step 8 (.take 9 (.take 10 (.take 11 (.step 13 (.take 14 .done))))))) 12 (.step 7 (.step 8 (.take 9 (.take 10 (.take 11 (.step 13 (.take 14 .done)))))))) 12 (.step 5 (.step 7 (.step 8 (.take 9 (.take 10 (.take 11 (.step 13 (.take 14 .done))))))))) 12 (.step 3 (.step 5 (.step 7 (.step 8 (.take 9 (.take 10 (.take 11 (.step 13 (.take 14 .done))))))))))))))) (fun w8 => w8.cell? ⟨GB, 4, none⟩ = some (.int .u64 (dgt W64 gq 0)) ∧ w8.cell? ⟨GB, 5, none⟩ = some (.int .u64 (dgt W64 gq 1)) ∧ w8.cell? ⟨GB, 6, none⟩ = some (.int .u64 (dgt W64 gq 2)) ∧ w8.cell? ⟨GB, 7, none⟩ = some (.int .u64 (dgt W64 gq 3)) ∧ w8.cell? ⟨KB, 0, none⟩ = some (.int .u64 (dgt W64 key 0)) ∧ w8.cell? ⟨KB, 1, none⟩ = some (.int .u64 (dgt W64 key 1)) ∧ w8.cell? ⟨KB, 2, none⟩ = some (.int .u64 (dgt W64 key 2)) ∧ w8.cell? ⟨KB, 3, none⟩ = some (.int .u64 (dgt W64 key 3)) ∧ w8.cell? ⟨RB, 0, none⟩ = some (.int .u64 (dgt W64 r 0)) ∧ w8.cell? ⟨RB, 1, none⟩ = some (.int .u64 (dgt W64 r 1)) ∧ w8.cell? ⟨RB, 2, none⟩ = some (.int .u64 (dgt W64 r 2)) ∧ w8.cell? ⟨RB, 3, none⟩ = some (.int .u64 (dgt W64 r 3))) (by kernel_rfl) (by kernel_rfl) (fun _ _ _ _ _ h => h) (cells12 HG.out.2.1 HK.out HR.out) (fun hHeld => ?_)
 obtain ⟨w1, e1⟩ : ∃ w9, w9 = w0.drew := ⟨_, rfl⟩
 rw [← e1]
 have hb : Below w0.heap.size w0 w1 := by rw [e1]; exact (Below.refl _ _).drew
 have HG := Lib.hid (HG.out.later hb)
 have HK := Lib.hid (NumAt.later hb HK.out)
 have HR := Lib.hid (NumAt.later hb HR.out)
 have HH := Lib.hid ((hb.block _ (Array.getElem?_eq_some_iff.1 HH.out).1).trans HH.out)
 have HO := Lib.hid (NumAt.later hb HO.out)
 have HOF := Lib.hid (HOF.out.later hb HOL.out)
 have HOL := Lib.hid (Nat.lt_of_lt_of_le HOL.out hb.size)
 have HB0 := Lib.hid (below_later HB0.out hb)
 clear hb e1
 refine WT.take (v := ?_) rfl (Or.inl ⟨by rfl, ?_⟩) ?_
 rotate_left
 ·intro w8 hSw
  (try dsimp only at hSw)
  go_simp
  any_goals with_reducible rfl
 try simp only [Act.put, pa, pb, pc]
 refine WT.take (v := ?_) rfl (Or.inl ⟨by rfl, ?_⟩) ?_
 rotate_left
 ·intro w8 hSw
  (try dsimp only at hSw)
  go_simp
  any_goals with_reducible rfl
 try simp only [Act.put, pa, pb, pc]
 refine WT.take (v := ?_) rfl (Or.inl ⟨by rfl, ?_⟩) ?_
 rotate_left
 ·intro w8 hSw
  (try dsimp only at hSw)
  go_simp
  any_goals with_reducible rfl
 try simp only [Act.put, pa, pb, pc]
 refine WT.take (v := ?_) rfl (Or.inl ⟨by rfl, ?_⟩) ?_
 rotate_left
 ·intro w8 hSw
  (try dsimp only at hSw)
  go_simp
  any_goals with_reducible rfl
 try simp only [Act.put, pa, pb, pc]
 refine WT.take (v := ?_) rfl (Or.inl ⟨by rfl, ?_⟩) ?_
 rotate_left
 ·intro w8 hSw
  (try dsimp only at hSw)
  go_simp
  any_goals with_reducible rfl
 try simp only [Act.put, pa, pb, pc]
 refine WT.fork rfl rfl (fun K hK => ?_) (fun K hK => ?_)
 rotate_left
 focus
  go_simp
  obtain ⟨w2, e9⟩ : ∃ w9, w9 = w1.alloc (.cells #[.int .u64 0, .int .u64 0, .int .u64 0, .int .u64 0] 24) := ⟨_, rfl⟩
  obtain ⟨VV, hVV⟩ : ∃ b, b = w1.heap.size := ⟨_, rfl⟩
  have hb : Below w1.heap.size w1 w2 := by rw [e9]; exact (Below.refl _ _).alloc (Nat.le_refl _) _
  have HV := Lib.hid (show NumAt w2 VV 0 by rw [e9, hVV]; exact num_zero _ _)
  have HVF := Lib.hid (show FreeN w2 VV 4 by rw [e9, hVV]; exact FreeN.new _ _ _ _)
  have HNG := Lib.hid (show GB ≠ VV by have := HG.out.lt; omega)
  have HNK := Lib.hid (show KB ≠ VV by have := NumAt.lt HK.out; omega)
  have HNR := Lib.hid (show RB ≠ VV by have := NumAt.lt HR.out; omega)
  have HNO := Lib.hid (show OO ≠ VV by have := HOL.out; omega)
  have HVW := Lib.hid (show w.heap.size ≤ VV by rw [hVV]; exact HB0.out.size)
  rw [← e9, ← hVV]
  clear e9 hVV
  have HG := Lib.hid (HG.out.later hb)
  have HK := Lib.hid (NumAt.later hb HK.out)
  have HR := Lib.hid (NumAt.later hb HR.out)
  have HH := Lib.hid ((hb.block _ (Array.getElem?_eq_some_iff.1 HH.out).1).trans HH.out)
  have HO := Lib.hid (NumAt.later hb HO.out)
  have HOF := Lib.hid (HOF.out.later hb HOL.out)
  have HOL := Lib.hid (Nat.lt_of_lt_of_le HOL.out hb.size)
  have HB0 := Lib.hid (below_later HB0.out hb)
  clear hb
  refine hK.out _ _ (cells12 HG.out.2.1 HK.out HR.out) (fun hHeld => ?_)
  clear hK K
  try simp only [Act.put, pa, pb, pc]
  refine WT.step rfl (fun K hK => ?_)
  go_simp
  refine (long_any key _).mono ?_
  rintro _ w3 ⟨a3, c3, rfl, hk9, hb⟩
  have HG := Lib.hid (HG.out.later hb)
  have HK := Lib.hid (NumAt.later hb HK.out)
  have HR := Lib.hid (NumAt.later hb HR.out)
  have HH := Lib.hid ((hb.block _ (Array.getElem?_eq_some_iff.1 HH.out).1).trans HH.out)
  have HO := Lib.hid (NumAt.later hb HO.out)
  have HOF := Lib.hid (HOF.out.later hb HOL.out)
  have HOL := Lib.hid (Nat.lt_of_lt_of_le HOL.out hb.size)
  have HB0 := Lib.hid (below_later HB0.out hb)
  have HVF := Lib.hid (HVF.out.later hb (NumAt.lt HV.out))
  have HV := Lib.hid (NumAt.later hb HV.out)
  have K3 := Lib.hid hk9
  clear hk9 hb
  refine hK.out _ _ (cells12 HG.out.2.1 HK.out HR.out) (fun hHeld => ?_)
  clear hK K
  try simp only [Act.put, pa, pb, pc]
  refine WT.step rfl (fun K hK => ?_)
  go_simp
  refine (long_any r _).mono ?_
  rintro _ w4 ⟨a5, c5, rfl, hk9, hb⟩
  have HG := Lib.hid (HG.out.later hb)
  have HK := Lib.hid (NumAt.later hb HK.out)
  have HR := Lib.hid (NumAt.later hb HR.out)
  have HH := Lib.hid ((hb.block _ (Array.getElem?_eq_some_iff.1 HH.out).1).trans HH.out)
  have HO := Lib.hid (NumAt.later hb HO.out)
  have HOF := Lib.hid (HOF.out.later hb HOL.out)
  have HOL := Lib.hid (Nat.lt_of_lt_of_le HOL.out hb.size)
  have HB0 := Lib.hid (below_later HB0.out hb)
  have K3 := Lib.hid (K3.out.later hb)
  have HVF := Lib.hid (HVF.out.later hb (NumAt.lt HV.out))
  have HV := Lib.hid (NumAt.later hb HV.out)
  have K5 := Lib.hid hk9
  clear hk9 hb
  refine hK.out _ _ (cells12 HG.out.2.1 HK.out HR.out) (fun hHeld => ?_)
  clear hK K
  try simp only [Act.put, pa, pb, pc]
  refine WT.step rfl (fun K hK => ?_)
  go_simp
  obtain ⟨w5, e9⟩ : ∃ w9, w9 = w4.alloc (.cells #[.slice (some a3) 32 c3, .slice (some a5) 32 c5, .slice (some ⟨HB, 0, none⟩) 32 32] 46) := ⟨_, rfl⟩
  obtain ⟨PB, hPB⟩ : ∃ b, b = w4.heap.size := ⟨_, rfl⟩
  have hb : Below w4.heap.size w4 w5 := by rw [e9]; exact (Below.refl _ _).alloc (Nat.le_refl _) _
  have P0 := Lib.hid (show w5.cell? ⟨PB, 0, none⟩ = some (.slice (some a3) 32 c3) by rw [e9, hPB, cell_of_row _ _ _ _ _ _ (heap_alloc_new _ _)]; rfl)
  have P1 := Lib.hid (show w5.cell? ⟨PB, 1, none⟩ = some (.slice (some a5) 32 c5) by rw [e9, hPB, cell_of_row _ _ _ _ _ _ (heap_alloc_new _ _)]; rfl)
  have P2 := Lib.hid (show w5.cell? ⟨PB, 2, none⟩ = some (.slice (some ⟨HB, 0, none⟩) 32 32) by rw [e9, hPB, cell_of_row _ _ _ _ _ _ (heap_alloc_new _ _)]; rfl)
  rw [← e9, ← hPB]
  clear e9 hPB
  have HG := Lib.hid (HG.out.later hb)
  have HK := Lib.hid (NumAt.later hb HK.out)
  have HR := Lib.hid (NumAt.later hb HR.out)
  have HH := Lib.hid ((hb.block _ (Array.getElem?_eq_some_iff.1 HH.out).1).trans HH.out)
  have HO := Lib.hid (NumAt.later hb HO.out)
  have HOF := Lib.hid (HOF.out.later hb HOL.out)
  have HOL := Lib.hid (Nat.lt_of_lt_of_le HOL.out hb.size)
  have HB0 := Lib.hid (below_later HB0.out hb)
  have K3 := Lib.hid (K3.out.later hb)
  have K5 := Lib.hid (K5.out.later hb)
  have HVF := Lib.hid (HVF.out.later hb (NumAt.lt HV.out))
  have HV := Lib.hid (NumAt.later hb HV.out)
  clear hb
  refine hK.out _ _ (cells12 HG.out.2.1 HK.out HR.out) (fun hHeld => ?_)
  clear hK K
  try simp only [Act.put, pa, pb, pc]
  refine WT.step rfl (fun K hK => ?_)
  go_simp
  refine (CN.out _ PB _ (parts3 P0.out P1.out P2.out K3.out K5.out (kat_row HH.out HL.out))).mono ?_
  rintro _ w6 ⟨rfl, hb⟩
  have HG := Lib.hid (HG.out.later hb)
  have HK := Lib.hid (NumAt.later hb HK.out)
  have HR := Lib.hid (NumAt.later hb HR.out)
  have HH := Lib.hid ((hb.block _ (Array.getElem?_eq_some_iff.1 HH.out).1).trans HH.out)
  have HO := Lib.hid (NumAt.later hb HO.out)
  have HOF := Lib.hid (HOF.out.later hb HOL.out)
  have HOL := Lib.hid (Nat.lt_of_lt_of_le HOL.out hb.size)
  have HB0 := Lib.hid (below_later HB0.out hb)
  have K3 := Lib.hid (K3.out.later hb)
  have K5 := Lib.hid (K5.out.later hb)
  have P0 := Lib.hid (cell_on P0.out hb)
  have P1 := Lib.hid (cell_on P1.out hb)
  have P2 := Lib.hid (cell_on P2.out hb)
  have HVF := Lib.hid (HVF.out.later hb (NumAt.lt HV.out))
  have HV := Lib.hid (NumAt.later hb HV.out)
  clear hb
  refine hK.out _ _ (cells12 HG.out.2.1 HK.out HR.out) (fun hHeld => ?_)
  clear hK K
  try simp only [Act.put, pa, pb, pc]
  refine WT.take (v := ?_) rfl (Or.inl ⟨by rfl, ?_⟩) ?_
  rotate_left
  ·intro w8 hSw
   (try dsimp only at hSw)
   go_simp
   any_goals with_reducible rfl
  try simp only [Act.put, pa, pb, pc]
  refine WT.take (v := ?_) rfl (Or.inl ⟨by rfl, ?_⟩) ?_
  rotate_left
  ·intro w8 hSw
   (try dsimp only at hSw)
   go_simp
   any_goals with_reducible rfl
  try simp only [Act.put, pa, pb, pc]
  refine WT.take (v := ?_) rfl (Or.inl ⟨by rfl, ?_⟩) ?_
  rotate_left
  ·intro w8 hSw
   (try dsimp only at hSw)
   go_simp
   any_goals with_reducible rfl
  try simp only [Act.put, pa, pb, pc]
  refine WT.step rfl (fun K hK => ?_)
  obtain ⟨c0, c1, c2, c3, f0, f1, f2, f3⟩ := num4f HV.out HVF.out
  go_simp
  have HGS := Lib.hid (only_setS (only_setS (only_setS (only_setS (World.grownBy.refl w6 (some VV)) 0 (.int .u64 (dgt W64 q 0))) 1 (.int .u64 (dgt W64 q 1))) 2 (.int .u64 (dgt W64 q 2))) 3 (.int .u64 (dgt W64 q 3)))
  have HQ := Lib.hid (show NumO _ GB 4 gq from fun j hj => HGS.out.cell (HG.out.2.1 j hj) (fun e => HNG.out (by injection e)))
  have HK := Lib.hid (NumAt.other4 HK.out HNK.out (.int .u64 (dgt W64 q 0)) (.int .u64 (dgt W64 q 1)) (.int .u64 (dgt W64 q 2)) (.int .u64 (dgt W64 q 3)))
  have HR := Lib.hid (NumAt.other4 HR.out HNR.out (.int .u64 (dgt W64 q 0)) (.int .u64 (dgt W64 q 1)) (.int .u64 (dgt W64 q 2)) (.int .u64 (dgt W64 q 3)))
  have HO := Lib.hid (NumAt.other4 HO.out HNO.out (.int .u64 (dgt W64 q 0)) (.int .u64 (dgt W64 q 1)) (.int .u64 (dgt W64 q 2)) (.int .u64 (dgt W64 q 3)))
  have HOF := Lib.hid (FreeN.set4 HOF.out ⟨VV, 0, none⟩ ⟨VV, 1, none⟩ ⟨VV, 2, none⟩ ⟨VV, 3, none⟩ (.int .u64 (dgt W64 q 0)) (.int .u64 (dgt W64 q 1)) (.int .u64 (dgt W64 q 2)) (.int .u64 (dgt W64 q 3)))
  have HV := Lib.hid (NumAt.set4 HV.out q)
  have HB0 := Lib.hid (below_set4 HB0.out HVW.out (.int .u64 (dgt W64 q 0)) (.int .u64 (dgt W64 q 1)) (.int .u64 (dgt W64 q 2)) (.int .u64 (dgt W64 q 3)))
  refine hK.out _ _ (cells12 HQ.out HK.out HR.out) (fun hHeld => ?_)
  clear hK K
  try simp only [Act.put, pa, pb, pc]
  refine WT.take (v := ?_) rfl (Or.inl ⟨by rfl, ?_⟩) ?_
  rotate_left
  ·intro w8 hSw
   (try dsimp only at hSw)
   go_simp
   any_goals with_reducible rfl
  try simp only [Act.put, pa, pb, pc]
  refine WT.done ?_
 rotate_right
 focus
  go_simp
  refine (long_any key _).mono ?_
  rintro _ w2 ⟨a3, c3, rfl, hk9, hb⟩
  have HG := Lib.hid (HG.out.later hb)
  have HK := Lib.hid (NumAt.later hb HK.out)
  have HR := Lib.hid (NumAt.later hb HR.out)
  have HH := Lib.hid ((hb.block _ (Array.getElem?_eq_some_iff.1 HH.out).1).trans HH.out)
  have HO := Lib.hid (NumAt.later hb HO.out)
  have HOF := Lib.hid (HOF.out.later hb HOL.out)
  have HOL := Lib.hid (Nat.lt_of_lt_of_le HOL.out hb.size)
  have HB0 := Lib.hid (below_later HB0.out hb)
  have K3 := Lib.hid hk9
  clear hk9 hb
  refine hK.out _ _ (cells12 HG.out.2.1 HK.out HR.out) (fun hHeld => ?_)
  clear hK K
  try simp only [Act.put, pa, pb, pc]
  refine WT.fork rfl rfl (fun K hK => ?_) (fun K hK => ?_)
  rotate_left
  focus
   go_simp
   obtain ⟨w3, e9⟩ : ∃ w9, w9 = w2.alloc (.cells #[.int .u64 0, .int .u64 0, .int .u64 0, .int .u64 0] 24) := ⟨_, rfl⟩
   obtain ⟨VV, hVV⟩ : ∃ b, b = w2.heap.size := ⟨_, rfl⟩
   have hb : Below w2.heap.size w2 w3 := by rw [e9]; exact (Below.refl _ _).alloc (Nat.le_refl _) _
   have HV := Lib.hid (show NumAt w3 VV 0 by rw [e9, hVV]; exact num_zero _ _)
   have HVF := Lib.hid (show FreeN w3 VV 4 by rw [e9, hVV]; exact FreeN.new _ _ _ _)
   have HNG := Lib.hid (show GB ≠ VV by have := HG.out.lt; omega)
   have HNK := Lib.hid (show KB ≠ VV by have := NumAt.lt HK.out; omega)
   have HNR := Lib.hid (show RB ≠ VV by have := NumAt.lt HR.out; omega)
   have HNO := Lib.hid (show OO ≠ VV by have := HOL.out; omega)
   have HVW := Lib.hid (show w.heap.size ≤ VV by rw [hVV]; exact HB0.out.size)
   rw [← e9, ← hVV]
   clear e9 hVV
   have HG := Lib.hid (HG.out.later hb)
   have HK := Lib.hid (NumAt.later hb HK.out)
   have HR := Lib.hid (NumAt.later hb HR.out)
   have HH := Lib.hid ((hb.block _ (Array.getElem?_eq_some_iff.1 HH.out).1).trans HH.out)
   have HO := Lib.hid (NumAt.later hb HO.out)
   have HOF := Lib.hid (HOF.out.later hb HOL.out)
   have HOL := Lib.hid (Nat.lt_of_lt_of_le HOL.out hb.size)
   have HB0 := Lib.hid (below_later HB0.out hb)
   have K3 := Lib.hid (K3.out.later hb)
   clear hb
   refine hK.out _ _ (cells12 HG.out.2.1 HK.out HR.out) (fun hHeld => ?_)
   clear hK K
   try simp only [Act.put, pa, pb, pc]
   refine WT.step rfl (fun K hK => ?_)
   go_simp
   refine (long_any r _).mono ?_
   rintro _ w4 ⟨a5, c5, rfl, hk9, hb⟩
   have HG := Lib.hid (HG.out.later hb)
   have HK := Lib.hid (NumAt.later hb HK.out)
   have HR := Lib.hid (NumAt.later hb HR.out)
   have HH := Lib.hid ((hb.block _ (Array.getElem?_eq_some_iff.1 HH.out).1).trans HH.out)
   have HO := Lib.hid (NumAt.later hb HO.out)
   have HOF := Lib.hid (HOF.out.later hb HOL.out)
   have HOL := Lib.hid (Nat.lt_of_lt_of_le HOL.out hb.size)
   have HB0 := Lib.hid (below_later HB0.out hb)
   have K3 := Lib.hid (K3.out.later hb)
   have HVF := Lib.hid (HVF.out.later hb (NumAt.lt HV.out))
   have HV := Lib.hid (NumAt.later hb HV.out)
   have K5 := Lib.hid hk9
   clear hk9 hb
   refine hK.out _ _ (cells12 HG.out.2.1 HK.out HR.out) (fun hHeld => ?_)
   clear hK K
   try simp only [Act.put, pa, pb, pc]
   refine WT.step rfl (fun K hK => ?_)
   go_simp
   obtain ⟨w5, e9⟩ : ∃ w9, w9 = w4.alloc (.cells #[.slice (some a3) 32 c3, .slice (some a5) 32 c5, .slice (some ⟨HB, 0, none⟩) 32 32] 46) := ⟨_, rfl⟩
   obtain ⟨PB, hPB⟩ : ∃ b, b = w4.heap.size := ⟨_, rfl⟩
   have hb : Below w4.heap.size w4 w5 := by rw [e9]; exact (Below.refl _ _).alloc (Nat.le_refl _) _
   have P0 := Lib.hid (show w5.cell? ⟨PB, 0, none⟩ = some (.slice (some a3) 32 c3) by rw [e9, hPB, cell_of_row _ _ _ _ _ _ (heap_alloc_new _ _)]; rfl)
   have P1 := Lib.hid (show w5.cell? ⟨PB, 1, none⟩ = some (.slice (some a5) 32 c5) by rw [e9, hPB, cell_of_row _ _ _ _ _ _ (heap_alloc_new _ _)]; rfl)
   have P2 := Lib.hid (show w5.cell? ⟨PB, 2, none⟩ = some (.slice (some ⟨HB, 0, none⟩) 32 32) by rw [e9, hPB, cell_of_row _ _ _ _ _ _ (heap_alloc_new _ _)]; rfl)
   rw [← e9, ← hPB]
   clear e9 hPB
   have HG := Lib.hid (HG.out.later hb)
   have HK := Lib.hid (NumAt.later hb HK.out)
   have HR := Lib.hid (NumAt.later hb HR.out)
   have HH := Lib.hid ((hb.block _ (Array.getElem?_eq_some_iff.1 HH.out).1).trans HH.out)
   have HO := Lib.hid (NumAt.later hb HO.out)
   have HOF := Lib.hid (HOF.out.later hb HOL.out)
   have HOL := Lib.hid (Nat.lt_of_lt_of_le HOL.out hb.size)
   have HB0 := Lib.hid (below_later HB0.out hb)
   have K3 := Lib.hid (K3.out.later hb)
   have K5 := Lib.hid (K5.out.later hb)
   have HVF := Lib.hid (HVF.out.later hb (NumAt.lt HV.out))
   have HV := Lib.hid (NumAt.later hb HV.out)
   clear hb
   refine hK.out _ _ (cells12 HG.out.2.1 HK.out HR.out) (fun hHeld => ?_)
   clear hK K
   try simp only [Act.put, pa, pb, pc]
   refine WT.step rfl (fun K hK => ?_)
   go_simp
   refine (CN.out _ PB _ (parts3 P0.out P1.out P2.out K3.out K5.out (kat_row HH.out HL.out))).mono ?_
   rintro _ w6 ⟨rfl, hb⟩
   have HG := Lib.hid (HG.out.later hb)
   have HK := Lib.hid (NumAt.later hb HK.out)
   have HR := Lib.hid (NumAt.later hb HR.out)
   have HH := Lib.hid ((hb.block _ (Array.getElem?_eq_some_iff.1 HH.out).1).trans HH.out)
   have HO := Lib.hid (NumAt.later hb HO.out)
   have HOF := Lib.hid (HOF.out.later hb HOL.out)
   have HOL := Lib.hid (Nat.lt_of_lt_of_le HOL.out hb.size)
   have HB0 := Lib.hid (below_later HB0.out hb)
   have K3 := Lib.hid (K3.out.later hb)
   have K5 := Lib.hid (K5.out.later hb)
   have P0 := Lib.hid (cell_on P0.out hb)
   have P1 := Lib.hid (cell_on P1.out hb)
   have P2 := Lib.hid (cell_on P2.out hb)
   have HVF := Lib.hid (HVF.out.later hb (NumAt.lt HV.out))
   have HV := Lib.hid (NumAt.later hb HV.out)
   clear hb
   refine hK.out _ _ (cells12 HG.out.2.1 HK.out HR.out) (fun hHeld => ?_)
   clear hK K
   try simp only [Act.put, pa, pb, pc]
   refine WT.take (v := ?_) rfl (Or.inl ⟨by rfl, ?_⟩) ?_
   rotate_left
   ·intro w8 hSw
    (try dsimp only at hSw)
    go_simp
    any_goals with_reducible rfl
   try simp only [Act.put, pa, pb, pc]
   refine WT.take (v := ?_) rfl (Or.inl ⟨by rfl, ?_⟩) ?_
   rotate_left
   ·intro w8 hSw
    (try dsimp only at hSw)
    go_simp
    any_goals with_reducible rfl
   try simp only [Act.put, pa, pb, pc]
   refine WT.take (v := ?_) rfl (Or.inl ⟨by rfl, ?_⟩) ?_
   rotate_left
   ·intro w8 hSw
    (try dsimp only at hSw)
    go_simp
    any_goals with_reducible rfl
   try simp only [Act.put, pa, pb, pc]
   refine WT.step rfl (fun K hK => ?_)
   obtain ⟨c0, c1, c2, c3, f0, f1, f2, f3⟩ := num4f HV.out HVF.out
   go_simp
   have HGS := Lib.hid (only_setS (only_setS (only_setS (only_setS (World.grownBy.refl w6 (some VV)) 0 (.int .u64 (dgt W64 q 0))) 1 (.int .u64 (dgt W64 q 1))) 2 (.int .u64 (dgt W64 q 2))) 3 (.int .u64 (dgt W64 q 3)))
   have HQ := Lib.hid (show NumO _ GB 4 gq from fun j hj => HGS.out.cell (HG.out.2.1 j hj) (fun e => HNG.out (by injection e)))
   have HK := Lib.hid (NumAt.other4 HK.out HNK.out (.int .u64 (dgt W64 q 0)) (.int .u64 (dgt W64 q 1)) (.int .u64 (dgt W64 q 2)) (.int .u64 (dgt W64 q 3)))
   have HR := Lib.hid (NumAt.other4 HR.out HNR.out (.int .u64 (dgt W64 q 0)) (.int .u64 (dgt W64 q 1)) (.int .u64 (dgt W64 q 2)) (.int .u64 (dgt W64 q 3)))
   have HO := Lib.hid (NumAt.other4 HO.out HNO.out (.int .u64 (dgt W64 q 0)) (.int .u64 (dgt W64 q 1)) (.int .u64 (dgt W64 q 2)) (.int .u64 (dgt W64 q 3)))
   have HOF := Lib.hid (FreeN.set4 HOF.out ⟨VV, 0, none⟩ ⟨VV, 1, none⟩ ⟨VV, 2, none⟩ ⟨VV, 3, none⟩ (.int .u64 (dgt W64 q 0)) (.int .u64 (dgt W64 q 1)) (.int .u64 (dgt W64 q 2)) (.int .u64 (dgt W64 q 3)))
   have HV := Lib.hid (NumAt.set4 HV.out q)
   have HB0 := Lib.hid (below_set4 HB0.out HVW.out (.int .u64 (dgt W64 q 0)) (.int .u64 (dgt W64 q 1)) (.int .u64 (dgt W64 q 2)) (.int .u64 (dgt W64 q 3)))
   refine hK.out _ _ (cells12 HQ.out HK.out HR.out) (fun hHeld => ?_)
   clear hK K
   try simp only [Act.put, pa, pb, pc]
   refine WT.take (v := ?_) rfl (Or.inl ⟨by rfl, ?_⟩) ?_
   rotate_left
   ·intro w8 hSw
    (try dsimp only at hSw)
    go_simp
    any_goals with_reducible rfl
   try simp only [Act.put, pa, pb, pc]
   refine WT.done ?_
  rotate_right
  focus
   go_simp
   refine (long_any r _).mono ?_
   rintro _ w3 ⟨a5, c5, rfl, hk9, hb⟩
   have HG := Lib.hid (HG.out.later hb)
   have HK := Lib.hid (NumAt.later hb HK.out)
   have HR := Lib.hid (NumAt.later hb HR.out)
   have HH := Lib.hid ((hb.block _ (Array.getElem?_eq_some_iff.1 HH.out).1).trans HH.out)
   have HO := Lib.hid (NumAt.later hb HO.out)
   have HOF := Lib.hid (HOF.out.later hb HOL.out)
   have HOL := Lib.hid (Nat.lt_of_lt_of_le HOL.out hb.size)
   have HB0 := Lib.hid (below_later HB0.out hb)
   have K3 := Lib.hid (K3.out.later hb)
   have K5 := Lib.hid hk9
   clear hk9 hb
   refine hK.out _ _ (cells12 HG.out.2.1 HK.out HR.out) (fun hHeld => ?_)
   clear hK K
   try simp only [Act.put, pa, pb, pc]
   refine WT.fork rfl rfl (fun K hK => ?_) (fun K hK => ?_)
   rotate_left
   focus
    go_simp
    obtain ⟨w4, e9⟩ : ∃ w9, w9 = w3.alloc (.cells #[.int .u64 0, .int .u64 0, .int .u64 0, .int .u64 0] 24) := ⟨_, rfl⟩
    obtain ⟨VV, hVV⟩ : ∃ b, b = w3.heap.size := ⟨_, rfl⟩
    have hb : Below w3.heap.size w3 w4 := by rw [e9]; exact (Below.refl _ _).alloc (Nat.le_refl _) _
    have HV := Lib.hid (show NumAt w4 VV 0 by rw [e9, hVV]; exact num_zero _ _)
    have HVF := Lib.hid (show FreeN w4 VV 4 by rw [e9, hVV]; exact FreeN.new _ _ _ _)
    have HNG := Lib.hid (show GB ≠ VV by have := HG.out.lt; omega)
    have HNK := Lib.hid (show KB ≠ VV by have := NumAt.lt HK.out; omega)
    have HNR := Lib.hid (show RB ≠ VV by have := NumAt.lt HR.out; omega)
    have HNO := Lib.hid (show OO ≠ VV by have := HOL.out; omega)
    have HVW := Lib.hid (show w.heap.size ≤ VV by rw [hVV]; exact HB0.out.size)
    rw [← e9, ← hVV]
    clear e9 hVV
    have HG := Lib.hid (HG.out.later hb)
    have HK := Lib.hid (NumAt.later hb HK.out)
    have HR := Lib.hid (NumAt.later hb HR.out)
    have HH := Lib.hid ((hb.block _ (Array.getElem?_eq_some_iff.1 HH.out).1).trans HH.out)
    have HO := Lib.hid (NumAt.later hb HO.out)
    have HOF := Lib.hid (HOF.out.later hb HOL.out)
    have HOL := Lib.hid (Nat.lt_of_lt_of_le HOL.out hb.size)
    have HB0 := Lib.hid (below_later HB0.out hb)
    have K3 := Lib.hid (K3.out.later hb)
    have K5 := Lib.hid (K5.out.later hb)
    clear hb
    refine hK.out _ _ (cells12 HG.out.2.1 HK.out HR.out) (fun hHeld => ?_)
    clear hK K
    try simp only [Act.put, pa, pb, pc]
    refine WT.step rfl (fun K hK => ?_)
    go_simp
    obtain ⟨w5, e9⟩ : ∃ w9, w9 = w4.alloc (.cells #[.slice (some a3) 32 c3, .slice (some a5) 32 c5, .slice (some ⟨HB, 0, none⟩) 32 32] 46) := ⟨_, rfl⟩
    obtain ⟨PB, hPB⟩ : ∃ b, b = w4.heap.size := ⟨_, rfl⟩
    have hb : Below w4.heap.size w4 w5 := by rw [e9]; exact (Below.refl _ _).alloc (Nat.le_refl _) _
    have P0 := Lib.hid (show w5.cell? ⟨PB, 0, none⟩ = some (.slice (some a3) 32 c3) by rw [e9, hPB, cell_of_row _ _ _ _ _ _ (heap_alloc_new _ _)]; rfl)
    have P1 := Lib.hid (show w5.cell? ⟨PB, 1, none⟩ = some (.slice (some a5) 32 c5) by rw [e9, hPB, cell_of_row _ _ _ _ _ _ (heap_alloc_new _ _)]; rfl)
    have P2 := Lib.hid (show w5.cell? ⟨PB, 2, none⟩ = some (.slice (some ⟨HB, 0, none⟩) 32 32) by rw [e9, hPB, cell_of_row _ _ _ _ _ _ (heap_alloc_new _ _)]; rfl)
    rw [← e9, ← hPB]
    clear e9 hPB
    have HG := Lib.hid (HG.out.later hb)
    have HK := Lib.hid (NumAt.later hb HK.out)
    have HR := Lib.hid (NumAt.later hb HR.out)
    have HH := Lib.hid ((hb.block _ (Array.getElem?_eq_some_iff.1 HH.out).1).trans HH.out)
    have HO := Lib.hid (NumAt.later hb HO.out)
    have HOF := Lib.hid (HOF.out.later hb HOL.out)
    have HOL := Lib.hid (Nat.lt_of_lt_of_le HOL.out hb.size)
    have HB0 := Lib.hid (below_later HB0.out hb)
    have K3 := Lib.hid (K3.out.later hb)
    have K5 := Lib.hid (K5.out.later hb)
    have HVF := Lib.hid (HVF.out.later hb (NumAt.lt HV.out))
    have HV := Lib.hid (NumAt.later hb HV.out)
    clear hb
    refine hK.out _ _ (cells12 HG.out.2.1 HK.out HR.out) (fun hHeld => ?_)
    clear hK K
    try simp only [Act.put, pa, pb, pc]
    refine WT.step rfl (fun K hK => ?_)
    go_simp
    refine (CN.out _ PB _ (parts3 P0.out P1.out P2.out K3.out K5.out (kat_row HH.out HL.out))).mono ?_
    rintro _ w6 ⟨rfl, hb⟩
    have HG := Lib.hid (HG.out.later hb)
    have HK := Lib.hid (NumAt.later hb HK.out)
    have HR := Lib.hid (NumAt.later hb HR.out)
    have HH := Lib.hid ((hb.block _ (Array.getElem?_eq_some_iff.1 HH.out).1).trans HH.out)
    have HO := Lib.hid (NumAt.later hb HO.out)
    have HOF := Lib.hid (HOF.out.later hb HOL.out)
    have HOL := Lib.hid (Nat.lt_of_lt_of_le HOL.out hb.size)
    have HB0 := Lib.hid (below_later HB0.out hb)
    have K3 := Lib.hid (K3.out.later hb)
    have K5 := Lib.hid (K5.out.later hb)
    have P0 := Lib.hid (cell_on P0.out hb)
    have P1 := Lib.hid (cell_on P1.out hb)
    have P2 := Lib.hid (cell_on P2.out hb)
    have HVF := Lib.hid (HVF.out.later hb (NumAt.lt HV.out))
    have HV := Lib.hid (NumAt.later hb HV.out)
    clear hb
    refine hK.out _ _ (cells12 HG.out.2.1 HK.out HR.out) (fun hHeld => ?_)
    clear hK K
    try simp only [Act.put, pa, pb, pc]
    refine WT.take (v := ?_) rfl (Or.inl ⟨by rfl, ?_⟩) ?_
    rotate_left
    ·intro w8 hSw
     (try dsimp only at hSw)
     go_simp
     any_goals with_reducible rfl
    try simp only [Act.put, pa, pb, pc]
    refine WT.take (v := ?_) rfl (Or.inl ⟨by rfl, ?_⟩) ?_
    rotate_left
    ·intro w8 hSw
     (try dsimp only at hSw)
     go_simp
     any_goals with_reducible rfl
    try simp only [Act.put, pa, pb, pc]
    refine WT.take (v := ?_) rfl (Or.inl ⟨by rfl, ?_⟩) ?_
    rotate_left
    ·intro w8 hSw
     (try dsimp only at hSw)
     go_simp
     any_goals with_reducible rfl
    try simp only [Act.put, pa, pb, pc]
    refine WT.step rfl (fun K hK => ?_)
    obtain ⟨c0, c1, c2, c3, f0, f1, f2, f3⟩ := num4f HV.out HVF.out
    go_simp
    have HGS := Lib.hid (only_setS (only_setS (only_setS (only_setS (World.grownBy.refl w6 (some VV)) 0 (.int .u64 (dgt W64 q 0))) 1 (.int .u64 (dgt W64 q 1))) 2 (.int .u64 (dgt W64 q 2))) 3 (.int .u64 (dgt W64 q 3)))
    have HQ := Lib.hid (show NumO _ GB 4 gq from fun j hj => HGS.out.cell (HG.out.2.1 j hj) (fun e => HNG.out (by injection e)))
    have HK := Lib.hid (NumAt.other4 HK.out HNK.out (.int .u64 (dgt W64 q 0)) (.int .u64 (dgt W64 q 1)) (.int .u64 (dgt W64 q 2)) (.int .u64 (dgt W64 q 3)))
    have HR := Lib.hid (NumAt.other4 HR.out HNR.out (.int .u64 (dgt W64 q 0)) (.int .u64 (dgt W64 q 1)) (.int .u64 (dgt W64 q 2)) (.int .u64 (dgt W64 q 3)))
    have HO := Lib.hid (NumAt.other4 HO.out HNO.out (.int .u64 (dgt W64 q 0)) (.int .u64 (dgt W64 q 1)) (.int .u64 (dgt W64 q 2)) (.int .u64 (dgt W64 q 3)))
    have HOF := Lib.hid (FreeN.set4 HOF.out ⟨VV, 0, none⟩ ⟨VV, 1, none⟩ ⟨VV, 2, none⟩ ⟨VV, 3, none⟩ (.int .u64 (dgt W64 q 0)) (.int .u64 (dgt W64 q 1)) (.int .u64 (dgt W64 q 2)) (.int .u64 (dgt W64 q 3)))
    have HV := Lib.hid (NumAt.set4 HV.out q)
    have HB0 := Lib.hid (below_set4 HB0.out HVW.out (.int .u64 (dgt W64 q 0)) (.int .u64 (dgt W64 q 1)) (.int .u64 (dgt W64 q 2)) (.int .u64 (dgt W64 q 3)))
    refine hK.out _ _ (cells12 HQ.out HK.out HR.out) (fun hHeld => ?_)
    clear hK K
    try simp only [Act.put, pa, pb, pc]
    refine WT.take (v := ?_) rfl (Or.inl ⟨by rfl, ?_⟩) ?_
    rotate_left
    ·intro w8 hSw
     (try dsimp only at hSw)
     go_simp
     any_goals with_reducible rfl
    try simp only [Act.put, pa, pb, pc]
    refine WT.done ?_
   rotate_right
   focus
    go_simp
    obtain ⟨w4, e9⟩ : ∃ w9, w9 = w3.alloc (.cells #[.slice (some a3) 32 c3, .slice (some a5) 32 c5, .slice (some ⟨HB, 0, none⟩) 32 32] 46) := ⟨_, rfl⟩
    obtain ⟨PB, hPB⟩ : ∃ b, b = w3.heap.size := ⟨_, rfl⟩
    have hb : Below w3.heap.size w3 w4 := by rw [e9]; exact (Below.refl _ _).alloc (Nat.le_refl _) _
    have P0 := Lib.hid (show w4.cell? ⟨PB, 0, none⟩ = some (.slice (some a3) 32 c3) by rw [e9, hPB, cell_of_row _ _ _ _ _ _ (heap_alloc_new _ _)]; rfl)
    have P1 := Lib.hid (show w4.cell? ⟨PB, 1, none⟩ = some (.slice (some a5) 32 c5) by rw [e9, hPB, cell_of_row _ _ _ _ _ _ (heap_alloc_new _ _)]; rfl)
    have P2 := Lib.hid (show w4.cell? ⟨PB, 2, none⟩ = some (.slice (some ⟨HB, 0, none⟩) 32 32) by rw [e9, hPB, cell_of_row _ _ _ _ _ _ (heap_alloc_new _ _)]; rfl)
    rw [← e9, ← hPB]
    clear e9 hPB
    have HG := Lib.hid (HG.out.later hb)
    have HK := Lib.hid (NumAt.later hb HK.out)
    have HR := Lib.hid (NumAt.later hb HR.out)
    have HH := Lib.hid ((hb.block _ (Array.getElem?_eq_some_iff.1 HH.out).1).trans HH.out)
    have HO := Lib.hid (NumAt.later hb HO.out)
    have HOF := Lib.hid (HOF.out.later hb HOL.out)
    have HOL := Lib.hid (Nat.lt_of_lt_of_le HOL.out hb.size)
    have HB0 := Lib.hid (below_later HB0.out hb)
    have K3 := Lib.hid (K3.out.later hb)
    have K5 := Lib.hid (K5.out.later hb)
    clear hb
    refine hK.out _ _ (cells12 HG.out.2.1 HK.out HR.out) (fun hHeld => ?_)
    clear hK K
    try simp only [Act.put, pa, pb, pc]
    refine WT.fork rfl rfl (fun K hK => ?_) (fun K hK => ?_)
    rotate_left
    focus
     go_simp
     obtain ⟨w5, e9⟩ : ∃ w9, w9 = w4.alloc (.cells #[.int .u64 0, .int .u64 0, .int .u64 0, .int .u64 0] 24) := ⟨_, rfl⟩
     obtain ⟨VV, hVV⟩ : ∃ b, b = w4.heap.size := ⟨_, rfl⟩
     have hb : Below w4.heap.size w4 w5 := by rw [e9]; exact (Below.refl _ _).alloc (Nat.le_refl _) _
     have HV := Lib.hid (show NumAt w5 VV 0 by rw [e9, hVV]; exact num_zero _ _)
     have HVF := Lib.hid (show FreeN w5 VV 4 by rw [e9, hVV]; exact FreeN.new _ _ _ _)
     have HNG := Lib.hid (show GB ≠ VV by have := HG.out.lt; omega)
     have HNK := Lib.hid (show KB ≠ VV by have := NumAt.lt HK.out; omega)
     have HNR := Lib.hid (show RB ≠ VV by have := NumAt.lt HR.out; omega)
     have HNO := Lib.hid (show OO ≠ VV by have := HOL.out; omega)
     have HVW := Lib.hid (show w.heap.size ≤ VV by rw [hVV]; exact HB0.out.size)
     rw [← e9, ← hVV]
     clear e9 hVV
     have HG := Lib.hid (HG.out.later hb)
     have HK := Lib.hid (NumAt.later hb HK.out)
     have HR := Lib.hid (NumAt.later hb HR.out)
     have HH := Lib.hid ((hb.block _ (Array.getElem?_eq_some_iff.1 HH.out).1).trans HH.out)
     have HO := Lib.hid (NumAt.later hb HO.out)
     have HOF := Lib.hid (HOF.out.later hb HOL.out)
     have HOL := Lib.hid (Nat.lt_of_lt_of_le HOL.out hb.size)
     have HB0 := Lib.hid (below_later HB0.out hb)
     have K3 := Lib.hid (K3.out.later hb)
     have K5 := Lib.hid (K5.out.later hb)
     have P0 := Lib.hid (cell_on P0.out hb)
     have P1 := Lib.hid (cell_on P1.out hb)
     have P2 := Lib.hid (cell_on P2.out hb)
     clear hb
     refine hK.out _ _ (cells12 HG.out.2.1 HK.out HR.out) (fun hHeld => ?_)
     clear hK K
     try simp only [Act.put, pa, pb, pc]
     refine WT.step rfl (fun K hK => ?_)
     go_simp
     refine (CN.out _ PB _ (parts3 P0.out P1.out P2.out K3.out K5.out (kat_row HH.out HL.out))).mono ?_
     rintro _ w6 ⟨rfl, hb⟩
     have HG := Lib.hid (HG.out.later hb)
     have HK := Lib.hid (NumAt.later hb HK.out)
     have HR := Lib.hid (NumAt.later hb HR.out)
     have HH := Lib.hid ((hb.block _ (Array.getElem?_eq_some_iff.1 HH.out).1).trans HH.out)
     have HO := Lib.hid (NumAt.later hb HO.out)
     have HOF := Lib.hid (HOF.out.later hb HOL.out)
     have HOL := Lib.hid (Nat.lt_of_lt_of_le HOL.out hb.size)
     have HB0 := Lib.hid (below_later HB0.out hb)
     have K3 := Lib.hid (K3.out.later hb)
     have K5 := Lib.hid (K5.out.later hb)
     have P0 := Lib.hid (cell_on P0.out hb)
     have P1 := Lib.hid (cell_on P1.out hb)
     have P2 := Lib.hid (cell_on P2.out hb)
     have HVF := Lib.hid (HVF.out.later hb (NumAt.lt HV.out))
     have HV := Lib.hid (NumAt.later hb HV.out)
     clear hb
     refine hK.out _ _ (cells12 HG.out.2.1 HK.out HR.out) (fun hHeld => ?_)
     clear hK K
     try simp only [Act.put, pa, pb, pc]
     refine WT.take (v := ?_) rfl (Or.inl ⟨by rfl, ?_⟩) ?_
     rotate_left
     ·intro w8 hSw
      (try dsimp only at hSw)
      go_simp
      any_goals with_reducible rfl
     try simp only [Act.put, pa, pb, pc]
     refine WT.take (v := ?_) rfl (Or.inl ⟨by rfl, ?_⟩) ?_
     rotate_left
     ·intro w8 hSw
      (try dsimp only at hSw)
      go_simp
      any_goals with_reducible rfl
     try simp only [Act.put, pa, pb, pc]
     refine WT.take (v := ?_) rfl (Or.inl ⟨by rfl, ?_⟩) ?_
     rotate_left
     ·intro w8 hSw
      (try dsimp only at hSw)
      go_simp
      any_goals with_reducible rfl
     try simp only [Act.put, pa, pb, pc]
     refine WT.step rfl (fun K hK => ?_)
     obtain ⟨c0, c1, c2, c3, f0, f1, f2, f3⟩ := num4f HV.out HVF.out
     go_simp
     have HGS := Lib.hid (only_setS (only_setS (only_setS (only_setS (World.grownBy.refl w6 (some VV)) 0 (.int .u64 (dgt W64 q 0))) 1 (.int .u64 (dgt W64 q 1))) 2 (.int .u64 (dgt W64 q 2))) 3 (.int .u64 (dgt W64 q 3)))
     have HQ := Lib.hid (show NumO _ GB 4 gq from fun j hj => HGS.out.cell (HG.out.2.1 j hj) (fun e => HNG.out (by injection e)))
     have HK := Lib.hid (NumAt.other4 HK.out HNK.out (.int .u64 (dgt W64 q 0)) (.int .u64 (dgt W64 q 1)) (.int .u64 (dgt W64 q 2)) (.int .u64 (dgt W64 q 3)))
     have HR := Lib.hid (NumAt.other4 HR.out HNR.out (.int .u64 (dgt W64 q 0)) (.int .u64 (dgt W64 q 1)) (.int .u64 (dgt W64 q 2)) (.int .u64 (dgt W64 q 3)))
     have HO := Lib.hid (NumAt.other4 HO.out HNO.out (.int .u64 (dgt W64 q 0)) (.int .u64 (dgt W64 q 1)) (.int .u64 (dgt W64 q 2)) (.int .u64 (dgt W64 q 3)))
     have HOF := Lib.hid (FreeN.set4 HOF.out ⟨VV, 0, none⟩ ⟨VV, 1, none⟩ ⟨VV, 2, none⟩ ⟨VV, 3, none⟩ (.int .u64 (dgt W64 q 0)) (.int .u64 (dgt W64 q 1)) (.int .u64 (dgt W64 q 2)) (.int .u64 (dgt W64 q 3)))
     have HV := Lib.hid (NumAt.set4 HV.out q)
     have HB0 := Lib.hid (below_set4 HB0.out HVW.out (.int .u64 (dgt W64 q 0)) (.int .u64 (dgt W64 q 1)) (.int .u64 (dgt W64 q 2)) (.int .u64 (dgt W64 q 3)))
     refine hK.out _ _ (cells12 HQ.out HK.out HR.out) (fun hHeld => ?_)
     clear hK K
     try simp only [Act.put, pa, pb, pc]
     refine WT.take (v := ?_) rfl (Or.inl ⟨by rfl, ?_⟩) ?_
     rotate_left
     ·intro w8 hSw
      (try dsimp only at hSw)
      go_simp
      any_goals with_reducible rfl
     try simp only [Act.put, pa, pb, pc]
     refine WT.done ?_
    rotate_right
    focus
     go_simp
     refine (CN.out _ PB _ (parts3 P0.out P1.out P2.out K3.out K5.out (kat_row HH.out HL.out))).mono ?_
     rintro _ w5 ⟨rfl, hb⟩
     have HG := Lib.hid (HG.out.later hb)
     have HK := Lib.hid (NumAt.later hb HK.out)
     have HR := Lib.hid (NumAt.later hb HR.out)
     have HH := Lib.hid ((hb.block _ (Array.getElem?_eq_some_iff.1 HH.out).1).trans HH.out)
     have HO := Lib.hid (NumAt.later hb HO.out)
     have HOF := Lib.hid (HOF.out.later hb HOL.out)
     have HOL := Lib.hid (Nat.lt_of_lt_of_le HOL.out hb.size)
     have HB0 := Lib.hid (below_later HB0.out hb)
     have K3 := Lib.hid (K3.out.later hb)
     have K5 := Lib.hid (K5.out.later hb)
     have P0 := Lib.hid (cell_on P0.out hb)
     have P1 := Lib.hid (cell_on P1.out hb)
     have P2 := Lib.hid (cell_on P2.out hb)
     clear hb
     refine hK.out _ _ (cells12 HG.out.2.1 HK.out HR.out) (fun hHeld => ?_)
     clear hK K
     try simp only [Act.put, pa, pb, pc]
     refine WT.take (v := ?_) rfl (Or.inl ⟨by rfl, ?_⟩) ?_
     rotate_left
     ·intro w8 hSw
      (try dsimp only at hSw)
      go_simp
      any_goals with_reducible rfl
     try simp only [Act.put, pa, pb, pc]
     refine WT.take (v := ?_) rfl (Or.inl ⟨by rfl, ?_⟩) ?_
     rotate_left
     ·intro w8 hSw
      (try dsimp only at hSw)
      go_simp
      any_goals with_reducible rfl
     try simp only [Act.put, pa, pb, pc]
     refine WT.take (v := ?_) rfl (Or.inl ⟨by rfl, ?_⟩) ?_
     rotate_left
     ·intro w8 hSw
      (try dsimp only at hSw)
      go_simp
      any_goals with_reducible rfl
     try simp only [Act.put, pa, pb, pc]
     refine WT.step rfl (fun K hK => ?_)
     go_simp
     obtain ⟨w6, e9⟩ : ∃ w9, w9 = w5.alloc (.cells #[.int .u64 0, .int .u64 0, .int .u64 0, .int .u64 0] 24) := ⟨_, rfl⟩
     obtain ⟨VV, hVV⟩ : ∃ b, b = w5.heap.size := ⟨_, rfl⟩
     have hb : Below w5.heap.size w5 w6 := by rw [e9]; exact (Below.refl _ _).alloc (Nat.le_refl _) _
     have HV := Lib.hid (show NumAt w6 VV 0 by rw [e9, hVV]; exact num_zero _ _)
     have HVF := Lib.hid (show FreeN w6 VV 4 by rw [e9, hVV]; exact FreeN.new _ _ _ _)
     have HNG := Lib.hid (show GB ≠ VV by have := HG.out.lt; omega)
     have HNK := Lib.hid (show KB ≠ VV by have := NumAt.lt HK.out; omega)
     have HNR := Lib.hid (show RB ≠ VV by have := NumAt.lt HR.out; omega)
     have HNO := Lib.hid (show OO ≠ VV by have := HOL.out; omega)
     have HVW := Lib.hid (show w.heap.size ≤ VV by rw [hVV]; exact HB0.out.size)
     rw [← e9, ← hVV]
     clear e9 hVV
     have HG := Lib.hid (HG.out.later hb)
     have HK := Lib.hid (NumAt.later hb HK.out)
     have HR := Lib.hid (NumAt.later hb HR.out)
     have HH := Lib.hid ((hb.block _ (Array.getElem?_eq_some_iff.1 HH.out).1).trans HH.out)
     have HO := Lib.hid (NumAt.later hb HO.out)
     have HOF := Lib.hid (HOF.out.later hb HOL.out)
     have HOL := Lib.hid (Nat.lt_of_lt_of_le HOL.out hb.size)
     have HB0 := Lib.hid (below_later HB0.out hb)
     have K3 := Lib.hid (K3.out.later hb)
     have K5 := Lib.hid (K5.out.later hb)
     have P0 := Lib.hid (cell_on P0.out hb)
     have P1 := Lib.hid (cell_on P1.out hb)
     have P2 := Lib.hid (cell_on P2.out hb)
     clear hb
     refine hK.out _ _ (cells12 HG.out.2.1 HK.out HR.out) (fun hHeld => ?_)
     clear hK K
     try simp only [Act.put, pa, pb, pc]
     refine WT.step rfl (fun K hK => ?_)
     obtain ⟨c0, c1, c2, c3, f0, f1, f2, f3⟩ := num4f HV.out HVF.out
     go_simp
     have HGS := Lib.hid (only_setS (only_setS (only_setS (only_setS (World.grownBy.refl w6 (some VV)) 0 (.int .u64 (dgt W64 q 0))) 1 (.int .u64 (dgt W64 q 1))) 2 (.int .u64 (dgt W64 q 2))) 3 (.int .u64 (dgt W64 q 3)))
     have HQ := Lib.hid (show NumO _ GB 4 gq from fun j hj => HGS.out.cell (HG.out.2.1 j hj) (fun e => HNG.out (by injection e)))
     have HK := Lib.hid (NumAt.other4 HK.out HNK.out (.int .u64 (dgt W64 q 0)) (.int .u64 (dgt W64 q 1)) (.int .u64 (dgt W64 q 2)) (.int .u64 (dgt W64 q 3)))
     have HR := Lib.hid (NumAt.other4 HR.out HNR.out (.int .u64 (dgt W64 q 0)) (.int .u64 (dgt W64 q 1)) (.int .u64 (dgt W64 q 2)) (.int .u64 (dgt W64 q 3)))
     have HO := Lib.hid (NumAt.other4 HO.out HNO.out (.int .u64 (dgt W64 q 0)) (.int .u64 (dgt W64 q 1)) (.int .u64 (dgt W64 q 2)) (.int .u64 (dgt W64 q 3)))
     have HOF := Lib.hid (FreeN.set4 HOF.out ⟨VV, 0, none⟩ ⟨VV, 1, none⟩ ⟨VV, 2, none⟩ ⟨VV, 3, none⟩ (.int .u64 (dgt W64 q 0)) (.int .u64 (dgt W64 q 1)) (.int .u64 (dgt W64 q 2)) (.int .u64 (dgt W64 q 3)))
     have HV := Lib.hid (NumAt.set4 HV.out q)
     have HB0 := Lib.hid (below_set4 HB0.out HVW.out (.int .u64 (dgt W64 q 0)) (.int .u64 (dgt W64 q 1)) (.int .u64 (dgt W64 q 2)) (.int .u64 (dgt W64 q 3)))
     refine hK.out _ _ (cells12 HQ.out HK.out HR.out) (fun hHeld => ?_)
     clear hK K
     try simp only [Act.put, pa, pb, pc]
     refine WT.take (v := ?_) rfl (Or.inl ⟨by rfl, ?_⟩) ?_
     rotate_left
     ·intro w8 hSw
      (try dsimp only at hSw)
      go_simp
      any_goals with_reducible rfl
     try simp only [Act.put, pa, pb, pc]
     refine WT.done ?_
 all_goals (
  clear hHeld c0 c1 c2 c3 f0 f1 f2 f3
  obtain ⟨r0, r1, r2, r3⟩ := num4 HV.out
  obtain ⟨c0, c1, c2, c3, f0, f1, f2, f3⟩ := num4f HO.out HOF.out
  go_wp2_with fail
  obtain ⟨g0, g1, g2, g3⟩ := num4 (NumAt.set4 HO.out q)
  have HB9 := Lib.hid (below_set4 HB0.out HOW.out (.int .u64 (dgt W64 q 0)) (.int .u64 (dgt W64 q 1)) (.int .u64 (dgt W64 q 2)) (.int .u64 (dgt W64 q 3)))
  refine bodyPost_ret (v := .agg #[.int .u64 (dgt W64 q 0), .int .u64 (dgt W64 q 1), .int .u64 (dgt W64 q 2), .int .u64 (dgt W64 q 3)]) ?_ rfl ⟨rfl, HB9.out⟩
  simp [results, Try.results72, go_sem, g0, g1, g2, g3])
set_option linter.unusedSimpArgs false in
set_option linter.unusedVariables false in
set_option maxRecDepth 20000 in
set_option maxHeartbeats 8000000 in
theorem signs_any {gp gq gg gh key : Nat} {h : List Nat} (hl : h.length = 32) (w : World) :
  Calls Try.prog 41 #[grpV gp gq gg gh, numV key, .agg (cellsK .u8 h).toArray] w fun e w' => ∃ GB KB HB, e = .returned (.func (.func 72) #[] #[.pointer (some ⟨GB, 0, none⟩), .pointer (some ⟨KB, 0, none⟩), .pointer (some ⟨HB, 0, none⟩)]) ∧
   GrpAt w' GB gp gq gg gh ∧ NumAt w' KB key ∧ w'.heap[HB]? = some (.cells (cellsK .u8 h).toArray 31 (0, 0)) ∧ Below w.heap.size w w' := by
 obtain ⟨T, hT⟩ : ∃ T, T = (cellsK .u8 h).toArray := ⟨_, rfl⟩
 rw [← hT]
 unfold grpV numV words
 clear hT hl
 go_enter Try.func41, Try.ntmps41
 go_wp2_with fail
 go_ret
 obtain ⟨v_0, e_0⟩ : ∃ w9, w9 = w.alloc (.cells #[.int .u64 (dgt W64 gp 0), .int .u64 (dgt W64 gp 1), .int .u64 (dgt W64 gp 2), .int .u64 (dgt W64 gp 3), .int .u64 (dgt W64 gq 0), .int .u64 (dgt W64 gq 1), .int .u64 (dgt W64 gq 2), .int .u64 (dgt W64 gq 3), .int .u64 (dgt W64 gg 0), .int .u64 (dgt W64 gg 1), .int .u64 (dgt W64 gg 2), .int .u64 (dgt W64 gg 3), .int .u64 (dgt W64 gh 0), .int .u64 (dgt W64 gh 1), .int .u64 (dgt W64 gh 2), .int .u64 (dgt W64 gh 3)] 26) := ⟨_, rfl⟩
 obtain ⟨v_1, e_1⟩ : ∃ w9, w9 = v_0.alloc (.cells #[.int .u64 (dgt W64 key 0), .int .u64 (dgt W64 key 1), .int .u64 (dgt W64 key 2), .int .u64 (dgt W64 key 3)] 24) := ⟨_, rfl⟩
 obtain ⟨v_2, e_2⟩ : ∃ w9, w9 = v_1.alloc (.cells T 31) := ⟨_, rfl⟩
 have s_0 : v_0.heap.size = w.heap.size + 1 := by rw [e_0]; simp
 have s_1 : v_1.heap.size = w.heap.size + 1 + 1 := by rw [e_1]; simp [s_0]
 have b_0 : Below w.heap.size w v_0 := by rw [e_0]; exact (Below.refl _ _).alloc (Nat.le_refl _) _
 have b_1 : Below v_0.heap.size v_0 v_1 := by rw [e_1]; exact (Below.refl _ _).alloc (Nat.le_refl _) _
 have b_2 : Below v_1.heap.size v_1 v_2 := by rw [e_2]; exact (Below.refl _ _).alloc (Nat.le_refl _) _
 have f_0 : GrpAt v_0 w.heap.size gp gq gg gh := by rw [e_0]; exact GrpAt.new _ _ _ _ _ _
 have f_1 : NumAt v_1 (w.heap.size + 1) key := by rw [← s_0, e_1]; exact NumAt.new _ _ _ _ rfl
 have f_2 : v_2.heap[w.heap.size + 1 + 1]? = some (.cells T 31 (0, 0)) := by rw [← s_1, e_2]; exact heap_alloc_new _ _
 rw [← e_0, ← e_1, ← e_2]
 exact ⟨_, _, _, rfl, (f_0.later b_1).later b_2, NumAt.later b_2 f_1, f_2, below_later (below_later b_0 b_1) b_2⟩
end Go.Proofs.Ytpoocnkflmimdaa
namespace Go.Proofs.Ytpoocnkflmimdaa
open Go.ChangeShapes Go.WideShapes Go.ChangeAt Go.RowKit
theorem info_g : (Try.prog.info? 26).map (·.size) = some 16 := by kernel_rfl
theorem info_n : (Try.prog.info? 24).map (·.size) = some 4 := by kernel_rfl
theorem loadG {w : World} {b gp gq gg gh : Nat} (h : GrpAt w b gp gq gg gh) : (Instr.loadAt 26 (.pointer (some ⟨b, 0, none⟩))).run Try.prog w = .ok (.agg #[.int .u64 (dgt W64 gp 0), .int .u64 (dgt W64 gp 1), .int .u64 (dgt W64 gp 2), .int .u64 (dgt W64 gp 3), .int .u64 (dgt W64 gq 0), .int .u64 (dgt W64 gq 1), .int .u64 (dgt W64 gq 2), .int .u64 (dgt W64 gq 3), .int .u64 (dgt W64 gg 0), .int .u64 (dgt W64 gg 1), .int .u64 (dgt W64 gg 2), .int .u64 (dgt W64 gg 3), .int .u64 (dgt W64 gh 0), .int .u64 (dgt W64 gh 1), .int .u64 (dgt W64 gh 2), .int .u64 (dgt W64 gh 3)]) w := by
  obtain ⟨y0, y1, y2, y3, y4, y5, y6, y7, y8, y9, y10, y11, y12, y13, y14, y15⟩ := grp16 h
  exact run_loadAt_mid (P := Try.prog) w b 0 26 [.int .u64 (dgt W64 gp 0), .int .u64 (dgt W64 gp 1), .int .u64 (dgt W64 gp 2), .int .u64 (dgt W64 gp 3), .int .u64 (dgt W64 gq 0), .int .u64 (dgt W64 gq 1), .int .u64 (dgt W64 gq 2), .int .u64 (dgt W64 gq 3), .int .u64 (dgt W64 gg 0), .int .u64 (dgt W64 gg 1), .int .u64 (dgt W64 gg 2), .int .u64 (dgt W64 gg 3), .int .u64 (dgt W64 gh 0), .int .u64 (dgt W64 gh 1), .int .u64 (dgt W64 gh 2), .int .u64 (dgt W64 gh 3)] _ (by
    intro j v hj
    have hl := (List.getElem?_eq_some_iff.1 hj).1
    simp only [List.length_cons, List.length_nil] at hl
    rw [Nat.zero_add]
    rcases (show j = 0 ∨ j = 1 ∨ j = 2 ∨ j = 3 ∨ j = 4 ∨ j = 5 ∨ j = 6 ∨ j = 7 ∨ j = 8 ∨ j = 9 ∨ j = 10 ∨ j = 11 ∨ j = 12 ∨ j = 13 ∨ j = 14 ∨ j = 15 by omega) with rfl | rfl | rfl | rfl | rfl | rfl | rfl | rfl | rfl | rfl | rfl | rfl | rfl | rfl | rfl | rfl <;> (simp at hj; subst hj; assumption)) Try.underlying26 rfl info_g
theorem loadNo {w : World} {b o x : Nat} (h : NumO w b o x) : (Instr.loadAt 24 (.pointer (some ⟨b, o, none⟩))).run Try.prog w = .ok (.agg #[.int .u64 (dgt W64 x 0), .int .u64 (dgt W64 x 1), .int .u64 (dgt W64 x 2), .int .u64 (dgt W64 x 3)]) w :=
  run_loadAt_mid (P := Try.prog) w b o 24 [.int .u64 (dgt W64 x 0), .int .u64 (dgt W64 x 1), .int .u64 (dgt W64 x 2), .int .u64 (dgt W64 x 3)] _ (by
    intro j v hj
    have hl := (List.getElem?_eq_some_iff.1 hj).1
    simp only [List.length_cons, List.length_nil] at hl
    rcases (show j = 0 ∨ j = 1 ∨ j = 2 ∨ j = 3 by omega) with rfl | rfl | rfl | rfl <;> (simp at hj; subst hj; exact h _ (by decide))) Try.underlying24 rfl info_n
theorem num_o {w : World} {b x : Nat} (h : NumAt w b x) : NumO w b 0 x := fun j hj => by rw [Nat.zero_add]; exact h j hj
theorem loadN {w : World} {b x : Nat} (h : NumAt w b x) : (Instr.loadAt 24 (.pointer (some ⟨b, 0, none⟩))).run Try.prog w = .ok (.agg #[.int .u64 (dgt W64 x 0), .int .u64 (dgt W64 x 1), .int .u64 (dgt W64 x 2), .int .u64 (dgt W64 x 3)]) w := loadNo (num_o h)
theorem loadH {w : World} {b : Nat} {h : List Nat} {t : TypeId} (hr : w.heap[b]? = some (.cells (cellsK .u8 h).toArray t (0, 0))) (hl : h.length = 32) : (Instr.loadAt 31 (.pointer (some ⟨b, 0, none⟩))).run Try.prog w = .ok (.agg (cellsK .u8 h).toArray) w := by
  have := run_loadVar_row (P := Try.prog) w b t 31 (cellsK .u8 h).toArray (0, 0) _ hr Try.underlying31 rfl (by rw [info_hash]; simp [cellsK_length, hl])
  simp only [Instr.loadAt, Instr.sureAddr, Sem.run_bind, Sem.run_pure, Result.andThen_ok, this]
end Go.Proofs.Ytpoocnkflmimdaa
namespace Go.Proofs.Ytpoocnkflmimdaa
open Go.ChangeShapes Go.WideShapes Go.ChangeAt Go.RowKit
section
variable {P : Program} {ops : Array Oper} {rest : List Oper} {o : Oper} {a : Act} {w w' : World} {Q : Exit → Act → World → Prop} {v : Value}
/-- A guarded operation that is wanted, in one step. -/
theorem wpList_gval (hw : Region.wanted o (yielded ops a.tmps) = true) (h : (execOp a.eval o).run P w = .ok (.value v) w) (k : wpList P ops Q rest (a.put o.dst v) w) : wpList P ops Q (o :: rest) a w :=
  wpList_step fun _ hK => by
    rw [if_pos hw]
    unfold Oper.wp
    rw [h]
    exact hK _ _ k
/-- A guarded operation that makes memory. -/
theorem wpList_gmade (hw : Region.wanted o (yielded ops a.tmps) = true) (h : (execOp a.eval o).run P w = .ok (.value v) w') (k : wpList P ops Q rest (a.put o.dst v) w') : wpList P ops Q (o :: rest) a w :=
  wpList_step fun _ hK => by
    rw [if_pos hw]
    unfold Oper.wp
    rw [h]
    exact hK _ _ k
end
theorem run_op_bin {P : Program} {o : Oper} {ev : Operand → Value} {w : World} {op : BinOp} {t t' : TypeId} {x y : Operand} {vx vy : Array Value} {v : Value} (hm : P.eqGuardType P.depth t = false) (ho : o.op = .binOp op t x y t') (hx : ev x = .agg vx) (hy : ev y = .agg vy) (h : (binOp op t (.agg vx) (.agg vy)).run P w = .ok v w) : (execOp ev o).run P w = .ok (.value v) w := by
  unfold execOp
  simp only [ho, hx, hy]
  rw [Sem.run_bind, Sem.run_bind, run_eqGuard_agg w op t x y vx vy hm, Result.andThen_ok, h]
  rfl
theorem eqg_num : Try.prog.eqGuardType Try.prog.depth 24 = false := by kernel_rfl
theorem eqg_sig : Try.prog.eqGuardType Try.prog.depth 41 = false := by kernel_rfl
theorem info_sig : (Try.prog.info? 41).map (·.size) = some 8 := by kernel_rfl
theorem loadSig {w : World} {b o x y : Nat} (h1 : NumO w b o x) (h2 : NumO w b (o + 4) y) : (Instr.loadAt 41 (.pointer (some ⟨b, o, none⟩))).run Try.prog w = .ok (.agg #[.int .u64 (dgt W64 x 0), .int .u64 (dgt W64 x 1), .int .u64 (dgt W64 x 2), .int .u64 (dgt W64 x 3), .int .u64 (dgt W64 y 0), .int .u64 (dgt W64 y 1), .int .u64 (dgt W64 y 2), .int .u64 (dgt W64 y 3)]) w := by
  have l0 := h1 0 (by decide)
  have l1 := h1 1 (by decide)
  have l2 := h1 2 (by decide)
  have l3 := h1 3 (by decide)
  have l4 := h2 0 (by decide)
  have l5 := h2 1 (by decide)
  have l6 := h2 2 (by decide)
  have l7 := h2 3 (by decide)
  simp only [Nat.add_assoc, Nat.reduceAdd] at l4 l5 l6 l7
  exact run_loadAt_mid (P := Try.prog) w b o 41 [.int .u64 (dgt W64 x 0), .int .u64 (dgt W64 x 1), .int .u64 (dgt W64 x 2), .int .u64 (dgt W64 x 3), .int .u64 (dgt W64 y 0), .int .u64 (dgt W64 y 1), .int .u64 (dgt W64 y 2), .int .u64 (dgt W64 y 3)] _ (by
    intro j v hj
    have hl := (List.getElem?_eq_some_iff.1 hj).1
    simp only [List.length_cons, List.length_nil] at hl
    rcases (show j = 0 ∨ j = 1 ∨ j = 2 ∨ j = 3 ∨ j = 4 ∨ j = 5 ∨ j = 6 ∨ j = 7 by omega) with rfl | rfl | rfl | rfl | rfl | rfl | rfl | rfl <;> (simp at hj; subst hj; assumption)) Try.underlying41 rfl info_sig
theorem numo_row8 {w : World} {b x y : Nat} {t : TypeId} (h : w.heap[b]? = some (.cells #[.int .u64 (dgt W64 x 0), .int .u64 (dgt W64 x 1), .int .u64 (dgt W64 x 2), .int .u64 (dgt W64 x 3), .int .u64 (dgt W64 y 0), .int .u64 (dgt W64 y 1), .int .u64 (dgt W64 y 2), .int .u64 (dgt W64 y 3)] t (0, 0))) : NumO w b 0 x ∧ NumO w b 4 y :=
  ⟨fun j hj => by rw [cell_of_row _ _ _ _ _ _ h]; rcases (show j = 0 ∨ j = 1 ∨ j = 2 ∨ j = 3 by omega) with rfl | rfl | rfl | rfl <;> rfl,
    fun j hj => by rw [cell_of_row _ _ _ _ _ _ h]; rcases (show j = 0 ∨ j = 1 ∨ j = 2 ∨ j = 3 by omega) with rfl | rfl | rfl | rfl <;> rfl⟩
theorem part0 (a0 a1 a2 a3 a4 a5 a6 a7 : Value) (w : World) : (part 24 #[a0, a1, a2, a3, a4, a5, a6, a7] 0).run Try.prog w = .ok (.agg #[a0, a1, a2, a3]) w := by kernel_rfl
theorem part4 (a0 a1 a2 a3 a4 a5 a6 a7 : Value) (w : World) : (part 24 #[a0, a1, a2, a3, a4, a5, a6, a7] 4).run Try.prog w = .ok (.agg #[a4, a5, a6, a7]) w := by kernel_rfl
theorem equalIn_num {a b : Nat} (ha : a < M256) (hb : b < M256) (w : World) : (Op.equalIn 9999 24 (.agg #[.int .u64 (dgt W64 a 0), .int .u64 (dgt W64 a 1), .int .u64 (dgt W64 a 2), .int .u64 (dgt W64 a 3)]) (.agg #[.int .u64 (dgt W64 b 0), .int .u64 (dgt W64 b 1), .int .u64 (dgt W64 b 2), .int .u64 (dgt W64 b 3)])).run Try.prog w = .ok (decide (a = b)) w := by
  rw [run_equalIn_arr w 9997 24 22 .u64 4 Try.underlying24 Try.underlying22 (fun _ => by kernel_rfl) (fun _ => by kernel_rfl) _ _ (fun i => dgt W64 a i) (fun i => dgt W64 b i) (words_get _) (words_get _), all_words ha hb]
theorem eq_sig {c s d r : Nat} (hc : c < M256) (hs : s < M256) (hd : d < M256) (hr : r < M256) (w : World) : (binOp .eql 41 (.agg #[.int .u64 (dgt W64 c 0), .int .u64 (dgt W64 c 1), .int .u64 (dgt W64 c 2), .int .u64 (dgt W64 c 3), .int .u64 (dgt W64 s 0), .int .u64 (dgt W64 s 1), .int .u64 (dgt W64 s 2), .int .u64 (dgt W64 s 3)]) (.agg #[.int .u64 (dgt W64 d 0), .int .u64 (dgt W64 d 1), .int .u64 (dgt W64 d 2), .int .u64 (dgt W64 d 3), .int .u64 (dgt W64 r 0), .int .u64 (dgt W64 r 1), .int .u64 (dgt W64 r 2), .int .u64 (dgt W64 r 3)])).run Try.prog w = .ok (.bool (decide (c = d) && decide (s = r))) w := by
  simp only [binOp]
  unfold Op.equal Op.maxDepth
  rw [Op.equalIn]
  simp only [Sem.run_bind, run_underlying Try.underlying41, Result.andThen_ok]
  simp [part0, part4, equalIn_num hc hd, equalIn_num hs hr]
  by_cases h1 : c = d <;> by_cases h2 : s = r <;> simp [h1, h2]
end Go.Proofs.Ytpoocnkflmimdaa
