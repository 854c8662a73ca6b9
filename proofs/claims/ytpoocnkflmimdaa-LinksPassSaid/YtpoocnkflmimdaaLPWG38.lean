/- Layer 20 (links): Sign, by a secret that is one -/
import Derived.Test.YtpoocnkflmimdaaLPWG37
import Derived.Deep.DeepCutAuto
namespace Go.Proofs.Ytpoocnkflmimdaa
open Go.ChangeShapes Go.WideShapes Go.ChangeAt Go.RowKit
/-- A setting, as a value. -/
def setV (gp gq gg gh : Nat) (fa se : Int) (nodes : Value) : Value := .agg #[.int .u64 (dgt W64 gp 0), .int .u64 (dgt W64 gp 1), .int .u64 (dgt W64 gp 2), .int .u64 (dgt W64 gp 3), .int .u64 (dgt W64 gq 0), .int .u64 (dgt W64 gq 1), .int .u64 (dgt W64 gq 2), .int .u64 (dgt W64 gq 3), .int .u64 (dgt W64 gg 0), .int .u64 (dgt W64 gg 1), .int .u64 (dgt W64 gg 2), .int .u64 (dgt W64 gg 3), .int .u64 (dgt W64 gh 0), .int .u64 (dgt W64 gh 1), .int .u64 (dgt W64 gh 2), .int .u64 (dgt W64 gh 3), .int .i64 fa, .int .i64 se, nodes]
/-- A hash's draw, that is not 0. -/
def drawD (gq secret : Nat) (h : List Nat) : Nat := if drawN gq secret h = 0 then 1 else drawN gq secret h
theorem grp_cells {w : World} {b gp gq gg gh : Nat} (h : ∀ (j : Nat) v, [.int .u64 (dgt W64 gp 0), .int .u64 (dgt W64 gp 1), .int .u64 (dgt W64 gp 2), .int .u64 (dgt W64 gp 3), .int .u64 (dgt W64 gq 0), .int .u64 (dgt W64 gq 1), .int .u64 (dgt W64 gq 2), .int .u64 (dgt W64 gq 3), .int .u64 (dgt W64 gg 0), .int .u64 (dgt W64 gg 1), .int .u64 (dgt W64 gg 2), .int .u64 (dgt W64 gg 3), .int .u64 (dgt W64 gh 0), .int .u64 (dgt W64 gh 1), .int .u64 (dgt W64 gh 2), .int .u64 (dgt W64 gh 3)][j]? = some v → w.cell? ⟨b, j, none⟩ = some v) : GrpAt w b gp gq gg gh :=
 ⟨fun j hj => by rcases (show j = 0 ∨ j = 1 ∨ j = 2 ∨ j = 3 by omega) with rfl | rfl | rfl | rfl <;> exact h _ _ rfl, fun j hj => by rcases (show j = 0 ∨ j = 1 ∨ j = 2 ∨ j = 3 by omega) with rfl | rfl | rfl | rfl <;> exact h _ _ rfl, fun j hj => by rcases (show j = 0 ∨ j = 1 ∨ j = 2 ∨ j = 3 by omega) with rfl | rfl | rfl | rfl <;> exact h _ _ rfl, fun j hj => by rcases (show j = 0 ∨ j = 1 ∨ j = 2 ∨ j = 3 by omega) with rfl | rfl | rfl | rfl <;> exact h _ _ rfl⟩
set_option linter.unusedSimpArgs false in
set_option linter.unusedVariables false in
set_option maxRecDepth 20000 in
set_option maxHeartbeats 8000000 in
theorem lsign_pos {gp gq gg gh secret : Nat} {fa se : Int} {nodes : Value} {h : List Nat} (hz : drawN gq secret h ≠ 0) (hm : mayG gp gg) (hgp : gp < M256) (hgg : gg < M256) (hq1 : 1 < gq) (hq : gq < M256) (hs0 : secret ≠ 0) (hs : secret < gq) (hl : h.length = 32) (hb9 : Bytes h) (w : World) :
  Calls Try.prog 7 #[setV gp gq gg gh fa se nodes, .agg (cellsK .u8 h).toArray, numV secret] w fun e w' => e = .returned (.tuple #[sigV (signC gp gq gg secret (drawD gq secret h) h) (signS gp gq gg secret (drawD gq secret h) h), .int .i64 0]) ∧ Below w.heap.size w w' := by
 obtain ⟨d0, hd0⟩ : ∃ x, x = drawN gq secret h := ⟨_, rfl⟩
 obtain ⟨d, hd⟩ : ∃ x, x = drawD gq secret h := ⟨_, rfl⟩
 have hdq0 : d0 < gq := by rw [hd0]; unfold drawN numberN; exact Nat.mod_lt _ (by omega)
 rw [← hd0] at hz
 have hdd : d = d0 := by rw [hd]; unfold drawD; rw [← hd0, if_neg hz]
 have hdn : d ≠ 0 ∧ d < gq := by rw [hdd]; exact ⟨hz, hdq0⟩
 obtain ⟨c, hc⟩ : ∃ x, x = signC gp gq gg secret d h := ⟨_, rfl⟩
 obtain ⟨s, hs9⟩ : ∃ x, x = signS gp gq gg secret d h := ⟨_, rfl⟩
 have CS := Lib.hid (fun W => by have h9 := Sign_any (gp := gp) (gq := gq) (gg := gg) (gh := gh) hm hgp hgg hq1 hq hs0 hs hdn.1 hdn.2 hl hb9 W; rw [← hc, ← hs9] at h9; unfold sigV grpV numV words at h9; exact h9)
 have CN := Lib.hid (fun (W : World) (B : Nat) (vs : List Value) (hP : Parts W B 0 vs [longB secret, h]) => by
  have h9 := Number_any (s := ⟨#[100, 114, 97, 119]⟩) (m := gq) (cap := 2) W hP (by simp) (by simp) (by unfold maxLen; decide) (by
   intro l hl9
   simp only [List.mem_cons, List.not_mem_nil, or_false] at hl9
   rcases hl9 with rfl | rfl
   ·exact longB_bytes _
   ·exact hb9) (by omega) hq (by unfold hashed; simp [hdr_length, nums_length, enc_length, longB_length, hl, ByteArray.size])
  rw [show numberN gq (nums ⟨#[100, 114, 97, 119]⟩) [longB secret, h] = d0 from hd0.symm] at h9
  unfold numV words at h9
  exact h9)
 rw [← hd, ← hc, ← hs9]
 have heq := eq_num d0 0 (Nat.lt_trans hdq0 hq) (by decide)
 rw [decide_eq_false hz] at heq
 have HL := Lib.hid hl
 have HDD := Lib.hid hdd
 obtain ⟨T, hT⟩ : ∃ T, T = (cellsK .u8 h).toArray := ⟨_, rfl⟩
 have HT := Lib.hid hT
 have hszT : (Try.prog.info? 31).map (·.size) = some T.size := by rw [info_hash, hT]; simp [cellsK_length, hl]
 rw [← hT] at CS ⊢
 unfold sigV setV numV words
 clear hd0 hd hdq0 hz hdd hdn hc hs9 hm hgp hgg hq1 hq hs0 hs hl hb9 hT
 have z0 : ((dgt W64 0 0 : Nat) : Int) = 0 := by rw [dgt_zero]; rfl
 have z1 : ((dgt W64 0 1 : Nat) : Int) = 0 := by rw [dgt_zero]; rfl
 have z2 : ((dgt W64 0 2 : Nat) : Int) = 0 := by rw [dgt_zero]; rfl
 have z3 : ((dgt W64 0 3 : Nat) : Int) = 0 := by rw [dgt_zero]; rfl
 simp only [z0, z1, z2, z3] at heq
 clear z0 z1 z2 z3
 go_enter Try.func7, Try.ntmps7
 go_upto_region 1 with fail
 obtain ⟨v_0, e_0⟩ : ∃ w9, w9 = w.alloc (.cells #[.int .u64 (dgt W64 gp 0), .int .u64 (dgt W64 gp 1), .int .u64 (dgt W64 gp 2), .int .u64 (dgt W64 gp 3), .int .u64 (dgt W64 gq 0), .int .u64 (dgt W64 gq 1), .int .u64 (dgt W64 gq 2), .int .u64 (dgt W64 gq 3), .int .u64 (dgt W64 gg 0), .int .u64 (dgt W64 gg 1), .int .u64 (dgt W64 gg 2), .int .u64 (dgt W64 gg 3), .int .u64 (dgt W64 gh 0), .int .u64 (dgt W64 gh 1), .int .u64 (dgt W64 gh 2), .int .u64 (dgt W64 gh 3), .int .i64 fa, .int .i64 se, nodes] 34) := ⟨_, rfl⟩
 have s_0 : v_0.heap.size = w.heap.size + 1 := by rw [e_0]; simp
 have b_0 : Below w.heap.size w v_0 := by rw [e_0]; exact (Below.refl _ _).alloc (Nat.le_refl _) _
 have f_0 : GrpAt v_0 (w.heap.size) gp gq gg gh := by rw [e_0]; exact grp_cells fun j v hj => by rw [cell_of_row _ _ _ _ _ _ (heap_alloc_new _ _)]; have hl := (List.getElem?_eq_some_iff.1 hj).1; simp only [List.length_cons, List.length_nil] at hl; rcases (show j = 0 ∨ j = 1 ∨ j = 2 ∨ j = 3 ∨ j = 4 ∨ j = 5 ∨ j = 6 ∨ j = 7 ∨ j = 8 ∨ j = 9 ∨ j = 10 ∨ j = 11 ∨ j = 12 ∨ j = 13 ∨ j = 14 ∨ j = 15 by omega) with rfl | rfl | rfl | rfl | rfl | rfl | rfl | rfl | rfl | rfl | rfl | rfl | rfl | rfl | rfl | rfl <;> exact hj
 obtain ⟨v_1, e_1⟩ : ∃ w9, w9 = v_0.alloc (.cells T 31) := ⟨_, rfl⟩
 have s_1 : v_1.heap.size = w.heap.size + 1 + 1 := by rw [e_1]; simp [s_0]
 have b_1 : Below v_0.heap.size v_0 v_1 := by rw [e_1]; exact (Below.refl _ _).alloc (Nat.le_refl _) _
 have f_1 : v_1.heap[w.heap.size + 1]? = some (.cells T 31 (0, 0)) := by rw [← s_0, e_1]; exact heap_alloc_new _ _
 obtain ⟨v_2, e_2⟩ : ∃ w9, w9 = v_1.alloc (.cells #[.int .u64 (dgt W64 secret 0), .int .u64 (dgt W64 secret 1), .int .u64 (dgt W64 secret 2), .int .u64 (dgt W64 secret 3)] 24) := ⟨_, rfl⟩
 have s_2 : v_2.heap.size = w.heap.size + 1 + 1 + 1 := by rw [e_2]; simp [s_1]
 have b_2 : Below v_1.heap.size v_1 v_2 := by rw [e_2]; exact (Below.refl _ _).alloc (Nat.le_refl _) _
 have f_2 : NumAt v_2 (w.heap.size + 1 + 1) secret := by rw [← s_1, e_2]; exact NumAt.new _ _ _ _ rfl
 obtain ⟨v_3, e_3⟩ : ∃ w9, w9 = v_2.alloc (.cells #[.int .u64 0, .int .u64 0, .int .u64 0, .int .u64 0, .int .u64 0, .int .u64 0, .int .u64 0, .int .u64 0] 41) := ⟨_, rfl⟩
 have s_3 : v_3.heap.size = w.heap.size + 1 + 1 + 1 + 1 := by rw [e_3]; simp [s_2]
 have b_3 : Below v_2.heap.size v_2 v_3 := by rw [e_3]; exact (Below.refl _ _).alloc (Nat.le_refl _) _
 have f_3 : UAt v_3 (w.heap.size + 1 + 1 + 1) 8 (fun _ => 0) := by rw [← s_2, e_3]; exact UAt.zero8 _ _
 have g_3 : FreeN v_3 (w.heap.size + 1 + 1 + 1) 8 := by rw [← s_2, e_3]; exact FreeN.new _ _ _ _
 rw [← e_0, ← e_1, ← e_2, ← e_3]
 have HG := (((f_0.later b_1).later b_2).later b_3)
 have HH := ((b_3.block _ (by omega)).trans ((b_2.block _ (by omega)).trans f_1))
 have HS := (NumAt.later b_3 f_2)
 have HU := f_3
 have HUF := g_3
 have HB := Lib.hid (below_later (below_later (below_later b_0 b_1) b_2) b_3)
 have s9 := s_3
 clear e_0 s_0 b_0 f_0 e_1 s_1 b_1 f_1 e_2 s_2 b_2 f_2 e_3 s_3 b_3 f_3 g_3
 obtain ⟨GB, hGB⟩ : ∃ b, b = w.heap.size := ⟨_, rfl⟩
 rw [← hGB] at HG HH HS HU HUF s9 ⊢
 obtain ⟨HB9, hHB9⟩ : ∃ b, b = GB + 1 := ⟨_, rfl⟩
 rw [← hHB9] at HH HS HU HUF s9 ⊢
 obtain ⟨SB, hSB⟩ : ∃ b, b = HB9 + 1 := ⟨_, rfl⟩
 rw [← hSB] at HS HU HUF s9 ⊢
 obtain ⟨UB, hUB⟩ : ∃ b, b = SB + 1 := ⟨_, rfl⟩
 rw [← hUB] at HU HUF s9 ⊢
 have HUW := Lib.hid (show w.heap.size ≤ UB by omega)
 have LUB := Lib.hid (show UB < v_3.heap.size by omega)
 have HG := Lib.hid HG
 have HS := Lib.hid HS
 have HH := Lib.hid HH
 have HU := Lib.hid HU
 have HUF := Lib.hid HUF
 clear s9 hGB hHB9 hSB hUB
 refine wp_region_tree (.take 0 (.take 1 (.take 2 (.take 3 (.take 5 (.fork 4 (.fork 6 (.fork 7 (.take 8 (.take 9 (.take 10 (.step 11 (.step 12 (.take 13 .done)))))) 11 (.step 7 (.take 8 (.take 9 (.take 10 (.step 12 (.take 13 .done))))))) 11 (.step 6 (.step 7 (.take 8 (.take 9 (.take 10 (.step 12 (.take 13 .done)))))))) 11 (.step 4 (.step 6 (.step 7 (.take 8 (.take 9 (.take 10 (.step 12 (.take 13 .done)))))))))))))) (fun w8 => NumO w8 GB 4 gq ∧ NumAt w8 SB secret) (by kernel_rfl) (by kernel_rfl) (fun _ _ _ _ _ h => h) (⟨HG.out.2.1, HS.out⟩) (fun hHeld => ?_)
 obtain ⟨x1, e1⟩ : ∃ w9, w9 = v_3.drew := ⟨_, rfl⟩
 rw [← e1]
 have hb : Below v_3.heap.size v_3 x1 := by rw [e1]; exact (Below.refl _ _).drew
 have HU := Lib.hid (uat_later LUB.out HU.out hb)
 have HG := Lib.hid (HG.out.later hb)
 have HS := Lib.hid (NumAt.later hb HS.out)
 have HH := Lib.hid ((hb.block _ (Array.getElem?_eq_some_iff.1 HH.out).1).trans HH.out)
 have HUF := Lib.hid (HUF.out.later hb LUB.out)
 have HB := Lib.hid (below_later HB.out hb)
 have LUB := Lib.hid (Nat.lt_of_lt_of_le LUB.out hb.size)
 clear hb e1
 refine WT.take (v := ?_) rfl (Or.inl ⟨by rfl, ?_⟩) ?_
 rotate_left
 ·intro w8 hSw
  (try dsimp only at hSw)
  go_simp
  any_goals with_reducible rfl
 try simp only [Act.put, pa, pb, pc]
 refine WT.take (v := ?_) rfl (Or.inl ⟨by rfl, ?_⟩) ?_
 rotate_left
 ·intro w8 hSw
  (try dsimp only at hSw)
  go_simp
  any_goals with_reducible rfl
 try simp only [Act.put, pa, pb, pc]
 refine WT.take rfl (Or.inl ⟨by rfl, fun w8 hSw => run_value_of (loadNo hSw.1)⟩) ?_
 try simp only [Act.put, pa, pb, pc]
 refine WT.take rfl (Or.inl ⟨by rfl, fun w8 hSw => run_value_of (loadN hSw.2)⟩) ?_
 try simp only [Act.put, pa, pb, pc]
 refine WT.take (v := ?_) rfl (Or.inl ⟨by rfl, ?_⟩) ?_
 rotate_left
 ·intro w8 hSw
  (try dsimp only at hSw)
  go_simp
  any_goals with_reducible rfl
 try simp only [Act.put, pa, pb, pc]
 refine WT.fork rfl rfl (fun K hK => ?_) (fun K hK => ?_)
 rotate_left
 focus
  go_simp
  obtain ⟨x2, e9⟩ : ∃ w9, w9 = x1.alloc (.cells #[.int .u64 0, .int .u64 0, .int .u64 0, .int .u64 0] 24) := ⟨_, rfl⟩
  obtain ⟨VV, h9⟩ : ∃ b, b = x1.heap.size := ⟨_, rfl⟩
  have hb : Below x1.heap.size x1 x2 := by rw [e9]; exact (Below.refl _ _).alloc (Nat.le_refl _) _
  have HV := Lib.hid (show NumAt x2 VV 0 by rw [e9, h9]; exact num_zero _ _)
  have HVF := Lib.hid (show FreeN x2 VV 4 by rw [e9, h9]; exact FreeN.new _ _ _ _)
  have LVV := Lib.hid (show VV < x2.heap.size by rw [e9, h9]; simp)
  have WVV := Lib.hid (show x1.heap.size = VV from h9.symm)
  have NV := Lib.hid (show GB ≠ VV ∧ SB ≠ VV ∧ HB9 ≠ VV ∧ UB ≠ VV by have a1 := HG.out.lt; have a2 := NumAt.lt HS.out; have a3 := (Array.getElem?_eq_some_iff.1 HH.out).1; have a5 := LUB.out; omega)
  have BV := Lib.hid (show w.heap.size ≤ VV by rw [h9]; exact HB.out.size)
  rw [← e9, ← h9]
  clear e9 h9
  have HU := Lib.hid (uat_later LUB.out HU.out hb)
  have HG := Lib.hid (HG.out.later hb)
  have HS := Lib.hid (NumAt.later hb HS.out)
  have HH := Lib.hid ((hb.block _ (Array.getElem?_eq_some_iff.1 HH.out).1).trans HH.out)
  have HUF := Lib.hid (HUF.out.later hb LUB.out)
  have HB := Lib.hid (below_later HB.out hb)
  have LUB := Lib.hid (Nat.lt_of_lt_of_le LUB.out hb.size)
  clear hb
  refine hK.out _ _ (⟨HG.out.2.1, HS.out⟩) (fun hHeld => ?_)
  clear hK K
  try simp only [Act.put, pa, pb, pc]
  refine WT.step rfl (fun K hK => ?_)
  go_simp
  refine (long_any secret _).mono ?_
  rintro _ x3 ⟨a4, c4, rfl, hk9, hb⟩
  have HU := Lib.hid (uat_later LUB.out HU.out hb)
  have HG := Lib.hid (HG.out.later hb)
  have HS := Lib.hid (NumAt.later hb HS.out)
  have HH := Lib.hid ((hb.block _ (Array.getElem?_eq_some_iff.1 HH.out).1).trans HH.out)
  have HUF := Lib.hid (HUF.out.later hb LUB.out)
  have HB := Lib.hid (below_later HB.out hb)
  have HV := Lib.hid (NumAt.later hb HV.out)
  have HVF := Lib.hid (HVF.out.later hb LVV.out)
  have LUB := Lib.hid (Nat.lt_of_lt_of_le LUB.out hb.size)
  have LVV := Lib.hid (Nat.lt_of_lt_of_le LVV.out hb.size)
  clear hb
  have K4 := Lib.hid hk9
  clear hk9
  refine hK.out _ _ (⟨HG.out.2.1, HS.out⟩) (fun hHeld => ?_)
  clear hK K
  try simp only [Act.put, pa, pb, pc]
  refine WT.step rfl (fun K hK => ?_)
  go_simp
  obtain ⟨x4, e9⟩ : ∃ w9, w9 = x3.alloc (.cells #[.slice (some a4) 32 c4, .slice (some ⟨HB9, 0, none⟩) 32 32] 46) := ⟨_, rfl⟩
  obtain ⟨PB, h9⟩ : ∃ b, b = x3.heap.size := ⟨_, rfl⟩
  have hb : Below x3.heap.size x3 x4 := by rw [e9]; exact (Below.refl _ _).alloc (Nat.le_refl _) _
  have P0 := Lib.hid (show x4.cell? ⟨PB, 0, none⟩ = some (.slice (some a4) 32 c4) by rw [e9, h9]; rw [cell_of_row _ _ _ _ _ _ (heap_alloc_new _ _)]; rfl)
  have P1 := Lib.hid (show x4.cell? ⟨PB, 1, none⟩ = some (.slice (some ⟨HB9, 0, none⟩) 32 32) by rw [e9, h9]; rw [cell_of_row _ _ _ _ _ _ (heap_alloc_new _ _)]; rfl)
  have LPB := Lib.hid (show PB < x4.heap.size by rw [e9, h9]; simp)
  have WPB := Lib.hid (show x3.heap.size = PB from h9.symm)
  rw [← e9, ← h9]
  clear e9 h9
  have HU := Lib.hid (uat_later LUB.out HU.out hb)
  have HG := Lib.hid (HG.out.later hb)
  have HS := Lib.hid (NumAt.later hb HS.out)
  have HH := Lib.hid ((hb.block _ (Array.getElem?_eq_some_iff.1 HH.out).1).trans HH.out)
  have HUF := Lib.hid (HUF.out.later hb LUB.out)
  have HB := Lib.hid (below_later HB.out hb)
  have HV := Lib.hid (NumAt.later hb HV.out)
  have HVF := Lib.hid (HVF.out.later hb LVV.out)
  have K4 := Lib.hid (K4.out.later hb)
  have LUB := Lib.hid (Nat.lt_of_lt_of_le LUB.out hb.size)
  have LVV := Lib.hid (Nat.lt_of_lt_of_le LVV.out hb.size)
  clear hb
  refine hK.out _ _ (⟨HG.out.2.1, HS.out⟩) (fun hHeld => ?_)
  clear hK K
  try simp only [Act.put, pa, pb, pc]
  refine WT.step rfl (fun K hK => ?_)
  go_simp
  refine (CN.out _ PB _ (parts2 P0.out P1.out K4.out (kat_row (by rw [← HT.out]; exact HH.out) HL.out))).mono ?_
  rintro _ x5 ⟨rfl, hb⟩
  have HU := Lib.hid (uat_later LUB.out HU.out hb)
  have HG := Lib.hid (HG.out.later hb)
  have HS := Lib.hid (NumAt.later hb HS.out)
  have HH := Lib.hid ((hb.block _ (Array.getElem?_eq_some_iff.1 HH.out).1).trans HH.out)
  have HUF := Lib.hid (HUF.out.later hb LUB.out)
  have HB := Lib.hid (below_later HB.out hb)
  have HV := Lib.hid (NumAt.later hb HV.out)
  have HVF := Lib.hid (HVF.out.later hb LVV.out)
  have K4 := Lib.hid (K4.out.later hb)
  have P0 := Lib.hid (cell_on P0.out hb)
  have P1 := Lib.hid (cell_on P1.out hb)
  have LUB := Lib.hid (Nat.lt_of_lt_of_le LUB.out hb.size)
  have LVV := Lib.hid (Nat.lt_of_lt_of_le LVV.out hb.size)
  have LPB := Lib.hid (Nat.lt_of_lt_of_le LPB.out hb.size)
  clear hb
  refine hK.out _ _ (⟨HG.out.2.1, HS.out⟩) (fun hHeld => ?_)
  clear hK K
  try simp only [Act.put, pa, pb, pc]
  refine WT.take (v := ?_) rfl (Or.inl ⟨by rfl, ?_⟩) ?_
  rotate_left
  ·intro w8 hSw
   (try dsimp only at hSw)
   go_simp
   any_goals with_reducible rfl
  try simp only [Act.put, pa, pb, pc]
  refine WT.take (v := ?_) rfl (Or.inl ⟨by rfl, ?_⟩) ?_
  rotate_left
  ·intro w8 hSw
   (try dsimp only at hSw)
   go_simp
   any_goals with_reducible rfl
  try simp only [Act.put, pa, pb, pc]
  refine WT.take (v := ?_) rfl (Or.inl ⟨by rfl, ?_⟩) ?_
  rotate_left
  ·intro w8 hSw
   (try dsimp only at hSw)
   go_simp
   any_goals with_reducible rfl
  try simp only [Act.put, pa, pb, pc]
  refine WT.step rfl (fun K hK => ?_)
  obtain ⟨c0, c1, c2, c3, f0, f1, f2, f3⟩ := num4f HV.out HVF.out
  go_simp
  clear c0 c1 c2 c3 f0 f1 f2 f3
  obtain ⟨x6, e9⟩ : ∃ w9, w9 = (((x5.setCell ⟨VV, 0, none⟩ (.int .u64 (dgt W64 d0 0))).setCell ⟨VV, 1, none⟩ (.int .u64 (dgt W64 d0 1))).setCell ⟨VV, 2, none⟩ (.int .u64 (dgt W64 d0 2))).setCell ⟨VV, 3, none⟩ (.int .u64 (dgt W64 d0 3)) := ⟨_, rfl⟩
  have hgs : x5.grownBy x6 (some VV) := by rw [e9]; exact only_setS (only_setS (only_setS (only_setS (World.grownBy.refl x5 (some VV)) 0 _) 1 _) 2 _) 3 _
  have HVF := Lib.hid (show FreeN x6 VV 4 by rw [e9]; exact FreeN.set4 HVF.out _ _ _ _ _ _ _ _)
  have HV := Lib.hid (show NumAt x6 VV d0 by rw [e9]; exact NumAt.set4 HV.out d0)
  have LVV := Lib.hid (Nat.lt_of_lt_of_le LVV.out hgs.size)
  rw [← e9]
  clear e9
  have HG := Lib.hid (grp_keep HG.out hgs NV.out.1)
  have HS := Lib.hid (num_keep HS.out hgs NV.out.2.1)
  have HH := Lib.hid (row_keep HH.out hgs NV.out.2.2.1)
  have HU := Lib.hid (show UAt x6 UB 8 (fun _ => 0) from fun j hj => hgs.cell (HU.out j hj) (fun e => NV.out.2.2.2 (by injection e)))
  have HUF := Lib.hid (show FreeN x6 UB 8 from fun j hj => (frozen_block (hgs.block UB LUB.out (fun e => NV.out.2.2.2 (by injection e)))).trans (HUF.out j hj))
  have HB := Lib.hid (HB.out.grown hgs HB.out.size (fun k hk => by have e7 : VV = k := (by injection hk); rw [← e7]; exact BV.out))
  have LUB := Lib.hid (Nat.lt_of_lt_of_le LUB.out hgs.size)
  clear hgs
  refine hK.out _ _ (⟨HG.out.2.1, HS.out⟩) (fun hHeld => ?_)
  clear hK K
  try simp only [Act.put, pa, pb, pc]
  refine WT.take (v := ?_) rfl (Or.inl ⟨by rfl, ?_⟩) ?_
  rotate_left
  ·intro w8 hSw
   (try dsimp only at hSw)
   go_simp
   any_goals with_reducible rfl
  try simp only [Act.put, pa, pb, pc]
  refine WT.done ?_
 rotate_right
 focus
  go_simp
  refine (long_any secret _).mono ?_
  rintro _ x2 ⟨a4, c4, rfl, hk9, hb⟩
  have HU := Lib.hid (uat_later LUB.out HU.out hb)
  have HG := Lib.hid (HG.out.later hb)
  have HS := Lib.hid (NumAt.later hb HS.out)
  have HH := Lib.hid ((hb.block _ (Array.getElem?_eq_some_iff.1 HH.out).1).trans HH.out)
  have HUF := Lib.hid (HUF.out.later hb LUB.out)
  have HB := Lib.hid (below_later HB.out hb)
  have LUB := Lib.hid (Nat.lt_of_lt_of_le LUB.out hb.size)
  clear hb
  have K4 := Lib.hid hk9
  clear hk9
  refine hK.out _ _ (⟨HG.out.2.1, HS.out⟩) (fun hHeld => ?_)
  clear hK K
  try simp only [Act.put, pa, pb, pc]
  refine WT.fork rfl rfl (fun K hK => ?_) (fun K hK => ?_)
  rotate_left
  focus
   go_simp
   obtain ⟨x3, e9⟩ : ∃ w9, w9 = x2.alloc (.cells #[.int .u64 0, .int .u64 0, .int .u64 0, .int .u64 0] 24) := ⟨_, rfl⟩
   obtain ⟨VV, h9⟩ : ∃ b, b = x2.heap.size := ⟨_, rfl⟩
   have hb : Below x2.heap.size x2 x3 := by rw [e9]; exact (Below.refl _ _).alloc (Nat.le_refl _) _
   have HV := Lib.hid (show NumAt x3 VV 0 by rw [e9, h9]; exact num_zero _ _)
   have HVF := Lib.hid (show FreeN x3 VV 4 by rw [e9, h9]; exact FreeN.new _ _ _ _)
   have LVV := Lib.hid (show VV < x3.heap.size by rw [e9, h9]; simp)
   have WVV := Lib.hid (show x2.heap.size = VV from h9.symm)
   have NV := Lib.hid (show GB ≠ VV ∧ SB ≠ VV ∧ HB9 ≠ VV ∧ UB ≠ VV by have a1 := HG.out.lt; have a2 := NumAt.lt HS.out; have a3 := (Array.getElem?_eq_some_iff.1 HH.out).1; have a5 := LUB.out; omega)
   have BV := Lib.hid (show w.heap.size ≤ VV by rw [h9]; exact HB.out.size)
   rw [← e9, ← h9]
   clear e9 h9
   have HU := Lib.hid (uat_later LUB.out HU.out hb)
   have HG := Lib.hid (HG.out.later hb)
   have HS := Lib.hid (NumAt.later hb HS.out)
   have HH := Lib.hid ((hb.block _ (Array.getElem?_eq_some_iff.1 HH.out).1).trans HH.out)
   have HUF := Lib.hid (HUF.out.later hb LUB.out)
   have HB := Lib.hid (below_later HB.out hb)
   have K4 := Lib.hid (K4.out.later hb)
   have LUB := Lib.hid (Nat.lt_of_lt_of_le LUB.out hb.size)
   clear hb
   refine hK.out _ _ (⟨HG.out.2.1, HS.out⟩) (fun hHeld => ?_)
   clear hK K
   try simp only [Act.put, pa, pb, pc]
   refine WT.step rfl (fun K hK => ?_)
   go_simp
   obtain ⟨x4, e9⟩ : ∃ w9, w9 = x3.alloc (.cells #[.slice (some a4) 32 c4, .slice (some ⟨HB9, 0, none⟩) 32 32] 46) := ⟨_, rfl⟩
   obtain ⟨PB, h9⟩ : ∃ b, b = x3.heap.size := ⟨_, rfl⟩
   have hb : Below x3.heap.size x3 x4 := by rw [e9]; exact (Below.refl _ _).alloc (Nat.le_refl _) _
   have P0 := Lib.hid (show x4.cell? ⟨PB, 0, none⟩ = some (.slice (some a4) 32 c4) by rw [e9, h9]; rw [cell_of_row _ _ _ _ _ _ (heap_alloc_new _ _)]; rfl)
   have P1 := Lib.hid (show x4.cell? ⟨PB, 1, none⟩ = some (.slice (some ⟨HB9, 0, none⟩) 32 32) by rw [e9, h9]; rw [cell_of_row _ _ _ _ _ _ (heap_alloc_new _ _)]; rfl)
   have LPB := Lib.hid (show PB < x4.heap.size by rw [e9, h9]; simp)
   have WPB := Lib.hid (show x3.heap.size = PB from h9.symm)
   rw [← e9, ← h9]
   clear e9 h9
   have HU := Lib.hid (uat_later LUB.out HU.out hb)
   have HG := Lib.hid (HG.out.later hb)
   have HS := Lib.hid (NumAt.later hb HS.out)
   have HH := Lib.hid ((hb.block _ (Array.getElem?_eq_some_iff.1 HH.out).1).trans HH.out)
   have HUF := Lib.hid (HUF.out.later hb LUB.out)
   have HB := Lib.hid (below_later HB.out hb)
   have K4 := Lib.hid (K4.out.later hb)
   have HV := Lib.hid (NumAt.later hb HV.out)
   have HVF := Lib.hid (HVF.out.later hb LVV.out)
   have LUB := Lib.hid (Nat.lt_of_lt_of_le LUB.out hb.size)
   have LVV := Lib.hid (Nat.lt_of_lt_of_le LVV.out hb.size)
   clear hb
   refine hK.out _ _ (⟨HG.out.2.1, HS.out⟩) (fun hHeld => ?_)
   clear hK K
   try simp only [Act.put, pa, pb, pc]
   refine WT.step rfl (fun K hK => ?_)
   go_simp
   refine (CN.out _ PB _ (parts2 P0.out P1.out K4.out (kat_row (by rw [← HT.out]; exact HH.out) HL.out))).mono ?_
   rintro _ x5 ⟨rfl, hb⟩
   have HU := Lib.hid (uat_later LUB.out HU.out hb)
   have HG := Lib.hid (HG.out.later hb)
   have HS := Lib.hid (NumAt.later hb HS.out)
   have HH := Lib.hid ((hb.block _ (Array.getElem?_eq_some_iff.1 HH.out).1).trans HH.out)
   have HUF := Lib.hid (HUF.out.later hb LUB.out)
   have HB := Lib.hid (below_later HB.out hb)
   have K4 := Lib.hid (K4.out.later hb)
   have HV := Lib.hid (NumAt.later hb HV.out)
   have HVF := Lib.hid (HVF.out.later hb LVV.out)
   have P0 := Lib.hid (cell_on P0.out hb)
   have P1 := Lib.hid (cell_on P1.out hb)
   have LUB := Lib.hid (Nat.lt_of_lt_of_le LUB.out hb.size)
   have LVV := Lib.hid (Nat.lt_of_lt_of_le LVV.out hb.size)
   have LPB := Lib.hid (Nat.lt_of_lt_of_le LPB.out hb.size)
   clear hb
   refine hK.out _ _ (⟨HG.out.2.1, HS.out⟩) (fun hHeld => ?_)
   clear hK K
   try simp only [Act.put, pa, pb, pc]
   refine WT.take (v := ?_) rfl (Or.inl ⟨by rfl, ?_⟩) ?_
   rotate_left
   ·intro w8 hSw
    (try dsimp only at hSw)
    go_simp
    any_goals with_reducible rfl
   try simp only [Act.put, pa, pb, pc]
   refine WT.take (v := ?_) rfl (Or.inl ⟨by rfl, ?_⟩) ?_
   rotate_left
   ·intro w8 hSw
    (try dsimp only at hSw)
    go_simp
    any_goals with_reducible rfl
   try simp only [Act.put, pa, pb, pc]
   refine WT.take (v := ?_) rfl (Or.inl ⟨by rfl, ?_⟩) ?_
   rotate_left
   ·intro w8 hSw
    (try dsimp only at hSw)
    go_simp
    any_goals with_reducible rfl
   try simp only [Act.put, pa, pb, pc]
   refine WT.step rfl (fun K hK => ?_)
   obtain ⟨c0, c1, c2, c3, f0, f1, f2, f3⟩ := num4f HV.out HVF.out
   go_simp
   clear c0 c1 c2 c3 f0 f1 f2 f3
   obtain ⟨x6, e9⟩ : ∃ w9, w9 = (((x5.setCell ⟨VV, 0, none⟩ (.int .u64 (dgt W64 d0 0))).setCell ⟨VV, 1, none⟩ (.int .u64 (dgt W64 d0 1))).setCell ⟨VV, 2, none⟩ (.int .u64 (dgt W64 d0 2))).setCell ⟨VV, 3, none⟩ (.int .u64 (dgt W64 d0 3)) := ⟨_, rfl⟩
   have hgs : x5.grownBy x6 (some VV) := by rw [e9]; exact only_setS (only_setS (only_setS (only_setS (World.grownBy.refl x5 (some VV)) 0 _) 1 _) 2 _) 3 _
   have HVF := Lib.hid (show FreeN x6 VV 4 by rw [e9]; exact FreeN.set4 HVF.out _ _ _ _ _ _ _ _)
   have HV := Lib.hid (show NumAt x6 VV d0 by rw [e9]; exact NumAt.set4 HV.out d0)
   have LVV := Lib.hid (Nat.lt_of_lt_of_le LVV.out hgs.size)
   rw [← e9]
   clear e9
   have HG := Lib.hid (grp_keep HG.out hgs NV.out.1)
   have HS := Lib.hid (num_keep HS.out hgs NV.out.2.1)
   have HH := Lib.hid (row_keep HH.out hgs NV.out.2.2.1)
   have HU := Lib.hid (show UAt x6 UB 8 (fun _ => 0) from fun j hj => hgs.cell (HU.out j hj) (fun e => NV.out.2.2.2 (by injection e)))
   have HUF := Lib.hid (show FreeN x6 UB 8 from fun j hj => (frozen_block (hgs.block UB LUB.out (fun e => NV.out.2.2.2 (by injection e)))).trans (HUF.out j hj))
   have HB := Lib.hid (HB.out.grown hgs HB.out.size (fun k hk => by have e7 : VV = k := (by injection hk); rw [← e7]; exact BV.out))
   have LUB := Lib.hid (Nat.lt_of_lt_of_le LUB.out hgs.size)
   clear hgs
   refine hK.out _ _ (⟨HG.out.2.1, HS.out⟩) (fun hHeld => ?_)
   clear hK K
   try simp only [Act.put, pa, pb, pc]
   refine WT.take (v := ?_) rfl (Or.inl ⟨by rfl, ?_⟩) ?_
   rotate_left
   ·intro w8 hSw
    (try dsimp only at hSw)
    go_simp
    any_goals with_reducible rfl
   try simp only [Act.put, pa, pb, pc]
   refine WT.done ?_
  rotate_right
  focus
   go_simp
   obtain ⟨x3, e9⟩ : ∃ w9, w9 = x2.alloc (.cells #[.slice (some a4) 32 c4, .slice (some ⟨HB9, 0, none⟩) 32 32] 46) := ⟨_, rfl⟩
   obtain ⟨PB, h9⟩ : ∃ b, b = x2.heap.size := ⟨_, rfl⟩
   have hb : Below x2.heap.size x2 x3 := by rw [e9]; exact (Below.refl _ _).alloc (Nat.le_refl _) _
   have P0 := Lib.hid (show x3.cell? ⟨PB, 0, none⟩ = some (.slice (some a4) 32 c4) by rw [e9, h9]; rw [cell_of_row _ _ _ _ _ _ (heap_alloc_new _ _)]; rfl)
   have P1 := Lib.hid (show x3.cell? ⟨PB, 1, none⟩ = some (.slice (some ⟨HB9, 0, none⟩) 32 32) by rw [e9, h9]; rw [cell_of_row _ _ _ _ _ _ (heap_alloc_new _ _)]; rfl)
   have LPB := Lib.hid (show PB < x3.heap.size by rw [e9, h9]; simp)
   have WPB := Lib.hid (show x2.heap.size = PB from h9.symm)
   rw [← e9, ← h9]
   clear e9 h9
   have HU := Lib.hid (uat_later LUB.out HU.out hb)
   have HG := Lib.hid (HG.out.later hb)
   have HS := Lib.hid (NumAt.later hb HS.out)
   have HH := Lib.hid ((hb.block _ (Array.getElem?_eq_some_iff.1 HH.out).1).trans HH.out)
   have HUF := Lib.hid (HUF.out.later hb LUB.out)
   have HB := Lib.hid (below_later HB.out hb)
   have K4 := Lib.hid (K4.out.later hb)
   have LUB := Lib.hid (Nat.lt_of_lt_of_le LUB.out hb.size)
   clear hb
   refine hK.out _ _ (⟨HG.out.2.1, HS.out⟩) (fun hHeld => ?_)
   clear hK K
   try simp only [Act.put, pa, pb, pc]
   refine WT.fork rfl rfl (fun K hK => ?_) (fun K hK => ?_)
   rotate_left
   focus
    go_simp
    obtain ⟨x4, e9⟩ : ∃ w9, w9 = x3.alloc (.cells #[.int .u64 0, .int .u64 0, .int .u64 0, .int .u64 0] 24) := ⟨_, rfl⟩
    obtain ⟨VV, h9⟩ : ∃ b, b = x3.heap.size := ⟨_, rfl⟩
    have hb : Below x3.heap.size x3 x4 := by rw [e9]; exact (Below.refl _ _).alloc (Nat.le_refl _) _
    have HV := Lib.hid (show NumAt x4 VV 0 by rw [e9, h9]; exact num_zero _ _)
    have HVF := Lib.hid (show FreeN x4 VV 4 by rw [e9, h9]; exact FreeN.new _ _ _ _)
    have LVV := Lib.hid (show VV < x4.heap.size by rw [e9, h9]; simp)
    have WVV := Lib.hid (show x3.heap.size = VV from h9.symm)
    have NV := Lib.hid (show GB ≠ VV ∧ SB ≠ VV ∧ HB9 ≠ VV ∧ UB ≠ VV by have a1 := HG.out.lt; have a2 := NumAt.lt HS.out; have a3 := (Array.getElem?_eq_some_iff.1 HH.out).1; have a5 := LUB.out; omega)
    have BV := Lib.hid (show w.heap.size ≤ VV by rw [h9]; exact HB.out.size)
    rw [← e9, ← h9]
    clear e9 h9
    have HU := Lib.hid (uat_later LUB.out HU.out hb)
    have HG := Lib.hid (HG.out.later hb)
    have HS := Lib.hid (NumAt.later hb HS.out)
    have HH := Lib.hid ((hb.block _ (Array.getElem?_eq_some_iff.1 HH.out).1).trans HH.out)
    have HUF := Lib.hid (HUF.out.later hb LUB.out)
    have HB := Lib.hid (below_later HB.out hb)
    have K4 := Lib.hid (K4.out.later hb)
    have P0 := Lib.hid (cell_on P0.out hb)
    have P1 := Lib.hid (cell_on P1.out hb)
    have LUB := Lib.hid (Nat.lt_of_lt_of_le LUB.out hb.size)
    have LPB := Lib.hid (Nat.lt_of_lt_of_le LPB.out hb.size)
    clear hb
    refine hK.out _ _ (⟨HG.out.2.1, HS.out⟩) (fun hHeld => ?_)
    clear hK K
    try simp only [Act.put, pa, pb, pc]
    refine WT.step rfl (fun K hK => ?_)
    go_simp
    refine (CN.out _ PB _ (parts2 P0.out P1.out K4.out (kat_row (by rw [← HT.out]; exact HH.out) HL.out))).mono ?_
    rintro _ x5 ⟨rfl, hb⟩
    have HU := Lib.hid (uat_later LUB.out HU.out hb)
    have HG := Lib.hid (HG.out.later hb)
    have HS := Lib.hid (NumAt.later hb HS.out)
    have HH := Lib.hid ((hb.block _ (Array.getElem?_eq_some_iff.1 HH.out).1).trans HH.out)
    have HUF := Lib.hid (HUF.out.later hb LUB.out)
    have HB := Lib.hid (below_later HB.out hb)
    have K4 := Lib.hid (K4.out.later hb)
    have P0 := Lib.hid (cell_on P0.out hb)
    have P1 := Lib.hid (cell_on P1.out hb)
    have HV := Lib.hid (NumAt.later hb HV.out)
    have HVF := Lib.hid (HVF.out.later hb LVV.out)
    have LUB := Lib.hid (Nat.lt_of_lt_of_le LUB.out hb.size)
    have LPB := Lib.hid (Nat.lt_of_lt_of_le LPB.out hb.size)
    have LVV := Lib.hid (Nat.lt_of_lt_of_le LVV.out hb.size)
    clear hb
    refine hK.out _ _ (⟨HG.out.2.1, HS.out⟩) (fun hHeld => ?_)
    clear hK K
    try simp only [Act.put, pa, pb, pc]
    refine WT.take (v := ?_) rfl (Or.inl ⟨by rfl, ?_⟩) ?_
    rotate_left
    ·intro w8 hSw
     (try dsimp only at hSw)
     go_simp
     any_goals with_reducible rfl
    try simp only [Act.put, pa, pb, pc]
    refine WT.take (v := ?_) rfl (Or.inl ⟨by rfl, ?_⟩) ?_
    rotate_left
    ·intro w8 hSw
     (try dsimp only at hSw)
     go_simp
     any_goals with_reducible rfl
    try simp only [Act.put, pa, pb, pc]
    refine WT.take (v := ?_) rfl (Or.inl ⟨by rfl, ?_⟩) ?_
    rotate_left
    ·intro w8 hSw
     (try dsimp only at hSw)
     go_simp
     any_goals with_reducible rfl
    try simp only [Act.put, pa, pb, pc]
    refine WT.step rfl (fun K hK => ?_)
    obtain ⟨c0, c1, c2, c3, f0, f1, f2, f3⟩ := num4f HV.out HVF.out
    go_simp
    clear c0 c1 c2 c3 f0 f1 f2 f3
    obtain ⟨x6, e9⟩ : ∃ w9, w9 = (((x5.setCell ⟨VV, 0, none⟩ (.int .u64 (dgt W64 d0 0))).setCell ⟨VV, 1, none⟩ (.int .u64 (dgt W64 d0 1))).setCell ⟨VV, 2, none⟩ (.int .u64 (dgt W64 d0 2))).setCell ⟨VV, 3, none⟩ (.int .u64 (dgt W64 d0 3)) := ⟨_, rfl⟩
    have hgs : x5.grownBy x6 (some VV) := by rw [e9]; exact only_setS (only_setS (only_setS (only_setS (World.grownBy.refl x5 (some VV)) 0 _) 1 _) 2 _) 3 _
    have HVF := Lib.hid (show FreeN x6 VV 4 by rw [e9]; exact FreeN.set4 HVF.out _ _ _ _ _ _ _ _)
    have HV := Lib.hid (show NumAt x6 VV d0 by rw [e9]; exact NumAt.set4 HV.out d0)
    have LVV := Lib.hid (Nat.lt_of_lt_of_le LVV.out hgs.size)
    rw [← e9]
    clear e9
    have HG := Lib.hid (grp_keep HG.out hgs NV.out.1)
    have HS := Lib.hid (num_keep HS.out hgs NV.out.2.1)
    have HH := Lib.hid (row_keep HH.out hgs NV.out.2.2.1)
    have HU := Lib.hid (show UAt x6 UB 8 (fun _ => 0) from fun j hj => hgs.cell (HU.out j hj) (fun e => NV.out.2.2.2 (by injection e)))
    have HUF := Lib.hid (show FreeN x6 UB 8 from fun j hj => (frozen_block (hgs.block UB LUB.out (fun e => NV.out.2.2.2 (by injection e)))).trans (HUF.out j hj))
    have HB := Lib.hid (HB.out.grown hgs HB.out.size (fun k hk => by have e7 : VV = k := (by injection hk); rw [← e7]; exact BV.out))
    have LUB := Lib.hid (Nat.lt_of_lt_of_le LUB.out hgs.size)
    clear hgs
    refine hK.out _ _ (⟨HG.out.2.1, HS.out⟩) (fun hHeld => ?_)
    clear hK K
    try simp only [Act.put, pa, pb, pc]
    refine WT.take (v := ?_) rfl (Or.inl ⟨by rfl, ?_⟩) ?_
    rotate_left
    ·intro w8 hSw
     (try dsimp only at hSw)
     go_simp
     any_goals with_reducible rfl
    try simp only [Act.put, pa, pb, pc]
    refine WT.done ?_
   rotate_right
   focus
    go_simp
    refine (CN.out _ PB _ (parts2 P0.out P1.out K4.out (kat_row (by rw [← HT.out]; exact HH.out) HL.out))).mono ?_
    rintro _ x4 ⟨rfl, hb⟩
    have HU := Lib.hid (uat_later LUB.out HU.out hb)
    have HG := Lib.hid (HG.out.later hb)
    have HS := Lib.hid (NumAt.later hb HS.out)
    have HH := Lib.hid ((hb.block _ (Array.getElem?_eq_some_iff.1 HH.out).1).trans HH.out)
    have HUF := Lib.hid (HUF.out.later hb LUB.out)
    have HB := Lib.hid (below_later HB.out hb)
    have K4 := Lib.hid (K4.out.later hb)
    have P0 := Lib.hid (cell_on P0.out hb)
    have P1 := Lib.hid (cell_on P1.out hb)
    have LUB := Lib.hid (Nat.lt_of_lt_of_le LUB.out hb.size)
    have LPB := Lib.hid (Nat.lt_of_lt_of_le LPB.out hb.size)
    clear hb
    refine hK.out _ _ (⟨HG.out.2.1, HS.out⟩) (fun hHeld => ?_)
    clear hK K
    try simp only [Act.put, pa, pb, pc]
    refine WT.take (v := ?_) rfl (Or.inl ⟨by rfl, ?_⟩) ?_
    rotate_left
    ·intro w8 hSw
     (try dsimp only at hSw)
     go_simp
     any_goals with_reducible rfl
    try simp only [Act.put, pa, pb, pc]
    refine WT.take (v := ?_) rfl (Or.inl ⟨by rfl, ?_⟩) ?_
    rotate_left
    ·intro w8 hSw
     (try dsimp only at hSw)
     go_simp
     any_goals with_reducible rfl
    try simp only [Act.put, pa, pb, pc]
    refine WT.take (v := ?_) rfl (Or.inl ⟨by rfl, ?_⟩) ?_
    rotate_left
    ·intro w8 hSw
     (try dsimp only at hSw)
     go_simp
     any_goals with_reducible rfl
    try simp only [Act.put, pa, pb, pc]
    refine WT.step rfl (fun K hK => ?_)
    go_simp
    obtain ⟨x5, e9⟩ : ∃ w9, w9 = x4.alloc (.cells #[.int .u64 0, .int .u64 0, .int .u64 0, .int .u64 0] 24) := ⟨_, rfl⟩
    obtain ⟨VV, h9⟩ : ∃ b, b = x4.heap.size := ⟨_, rfl⟩
    have hb : Below x4.heap.size x4 x5 := by rw [e9]; exact (Below.refl _ _).alloc (Nat.le_refl _) _
    have HV := Lib.hid (show NumAt x5 VV 0 by rw [e9, h9]; exact num_zero _ _)
    have HVF := Lib.hid (show FreeN x5 VV 4 by rw [e9, h9]; exact FreeN.new _ _ _ _)
    have LVV := Lib.hid (show VV < x5.heap.size by rw [e9, h9]; simp)
    have WVV := Lib.hid (show x4.heap.size = VV from h9.symm)
    have NV := Lib.hid (show GB ≠ VV ∧ SB ≠ VV ∧ HB9 ≠ VV ∧ UB ≠ VV by have a1 := HG.out.lt; have a2 := NumAt.lt HS.out; have a3 := (Array.getElem?_eq_some_iff.1 HH.out).1; have a5 := LUB.out; omega)
    have BV := Lib.hid (show w.heap.size ≤ VV by rw [h9]; exact HB.out.size)
    rw [← e9, ← h9]
    clear e9 h9
    have HU := Lib.hid (uat_later LUB.out HU.out hb)
    have HG := Lib.hid (HG.out.later hb)
    have HS := Lib.hid (NumAt.later hb HS.out)
    have HH := Lib.hid ((hb.block _ (Array.getElem?_eq_some_iff.1 HH.out).1).trans HH.out)
    have HUF := Lib.hid (HUF.out.later hb LUB.out)
    have HB := Lib.hid (below_later HB.out hb)
    have K4 := Lib.hid (K4.out.later hb)
    have P0 := Lib.hid (cell_on P0.out hb)
    have P1 := Lib.hid (cell_on P1.out hb)
    have LUB := Lib.hid (Nat.lt_of_lt_of_le LUB.out hb.size)
    have LPB := Lib.hid (Nat.lt_of_lt_of_le LPB.out hb.size)
    clear hb
    refine hK.out _ _ (⟨HG.out.2.1, HS.out⟩) (fun hHeld => ?_)
    clear hK K
    try simp only [Act.put, pa, pb, pc]
    refine WT.step rfl (fun K hK => ?_)
    obtain ⟨c0, c1, c2, c3, f0, f1, f2, f3⟩ := num4f HV.out HVF.out
    go_simp
    clear c0 c1 c2 c3 f0 f1 f2 f3
    obtain ⟨x6, e9⟩ : ∃ w9, w9 = (((x5.setCell ⟨VV, 0, none⟩ (.int .u64 (dgt W64 d0 0))).setCell ⟨VV, 1, none⟩ (.int .u64 (dgt W64 d0 1))).setCell ⟨VV, 2, none⟩ (.int .u64 (dgt W64 d0 2))).setCell ⟨VV, 3, none⟩ (.int .u64 (dgt W64 d0 3)) := ⟨_, rfl⟩
    have hgs : x5.grownBy x6 (some VV) := by rw [e9]; exact only_setS (only_setS (only_setS (only_setS (World.grownBy.refl x5 (some VV)) 0 _) 1 _) 2 _) 3 _
    have HVF := Lib.hid (show FreeN x6 VV 4 by rw [e9]; exact FreeN.set4 HVF.out _ _ _ _ _ _ _ _)
    have HV := Lib.hid (show NumAt x6 VV d0 by rw [e9]; exact NumAt.set4 HV.out d0)
    have LVV := Lib.hid (Nat.lt_of_lt_of_le LVV.out hgs.size)
    rw [← e9]
    clear e9
    have HG := Lib.hid (grp_keep HG.out hgs NV.out.1)
    have HS := Lib.hid (num_keep HS.out hgs NV.out.2.1)
    have HH := Lib.hid (row_keep HH.out hgs NV.out.2.2.1)
    have HU := Lib.hid (show UAt x6 UB 8 (fun _ => 0) from fun j hj => hgs.cell (HU.out j hj) (fun e => NV.out.2.2.2 (by injection e)))
    have HUF := Lib.hid (show FreeN x6 UB 8 from fun j hj => (frozen_block (hgs.block UB LUB.out (fun e => NV.out.2.2.2 (by injection e)))).trans (HUF.out j hj))
    have HB := Lib.hid (HB.out.grown hgs HB.out.size (fun k hk => by have e7 : VV = k := (by injection hk); rw [← e7]; exact BV.out))
    have LUB := Lib.hid (Nat.lt_of_lt_of_le LUB.out hgs.size)
    clear hgs
    refine hK.out _ _ (⟨HG.out.2.1, HS.out⟩) (fun hHeld => ?_)
    clear hK K
    try simp only [Act.put, pa, pb, pc]
    refine WT.take (v := ?_) rfl (Or.inl ⟨by rfl, ?_⟩) ?_
    rotate_left
    ·intro w8 hSw
     (try dsimp only at hSw)
     go_simp
     any_goals with_reducible rfl
    try simp only [Act.put, pa, pb, pc]
    refine WT.done ?_
 all_goals (
  clear hHeld
  obtain ⟨r0, r1, r2, r3⟩ := num4 HV.out
  go_upto_region 6 with fail
  clear r0 r1 r2 r3
  have HV := Lib.hid (show NumAt x6 VV d by rw [HDD.out]; exact HV.out)
  refine wp_region_lit ?_
  refine wpList_val (v := .pointer (some ⟨GB, 0, none⟩)) rfl (by kernel_rfl) ?_
  refine wpList_val rfl (run_value_of (loadG HG.out)) ?_
  refine wpList_val rfl (run_value_of (loadN HS.out)) ?_
  refine wpList_load_row rfl _ _ rfl HB9 rfl _ _ _ _ HH.out Try.underlying31 rfl hszT ?_
  refine wpList_val rfl (run_value_of (loadN HV.out)) ?_
  simp only [Act.put, pa, pb, pc]
  go_wp2_with fail
  refine (CS.out _).mono ?_
  rintro _ x8 ⟨rfl, hb⟩
  have HU := Lib.hid (uat_later LUB.out HU.out hb)
  have HG := Lib.hid (HG.out.later hb)
  have HS := Lib.hid (NumAt.later hb HS.out)
  have HH := Lib.hid ((hb.block _ (Array.getElem?_eq_some_iff.1 HH.out).1).trans HH.out)
  have HUF := Lib.hid (HUF.out.later hb LUB.out)
  have HB := Lib.hid (below_later HB.out hb)
  have HV := Lib.hid (NumAt.later hb HV.out)
  have HVF := Lib.hid (HVF.out.later hb LVV.out)
  have LUB := Lib.hid (Nat.lt_of_lt_of_le LUB.out hb.size)
  have LVV := Lib.hid (Nat.lt_of_lt_of_le LVV.out hb.size)
  clear hb
  obtain ⟨u0, u1, u2, u3, u4, u5, u6, u7⟩ := uat8 HU.out
  obtain ⟨f0, f1, f2, f3, f4, f5, f6, f7⟩ := free8 HUF.out
  go_wp2_with fail
  clear u0 u1 u2 u3 u4 u5 u6 u7 f0 f1 f2 f3 f4 f5 f6 f7
  obtain ⟨g0, g1, g2, g3, g4, g5, g6, g7⟩ := uat8 (uat_set8 HU.out (dgt W64 c 0) (dgt W64 c 1) (dgt W64 c 2) (dgt W64 c 3) (dgt W64 s 0) (dgt W64 s 1) (dgt W64 s 2) (dgt W64 s 3))
  have HB := Lib.hid (below_set8 HB.out HUW.out (.int .u64 (dgt W64 c 0)) (.int .u64 (dgt W64 c 1)) (.int .u64 (dgt W64 c 2)) (.int .u64 (dgt W64 c 3)) (.int .u64 (dgt W64 s 0)) (.int .u64 (dgt W64 s 1)) (.int .u64 (dgt W64 s 2)) (.int .u64 (dgt W64 s 3)))
  refine bodyPost_ret (v := .tuple #[.agg #[.int .u64 (dgt W64 c 0), .int .u64 (dgt W64 c 1), .int .u64 (dgt W64 c 2), .int .u64 (dgt W64 c 3), .int .u64 (dgt W64 s 0), .int .u64 (dgt W64 s 1), .int .u64 (dgt W64 s 2), .int .u64 (dgt W64 s 3)], .int .i64 0]) ?_ rfl ⟨rfl, HB.out⟩
  simp [results, Try.results7, go_sem, at0, g0, g1, g2, g3, g4, g5, g6, g7])
set_option linter.unusedSimpArgs false in
set_option linter.unusedVariables false in
set_option maxRecDepth 20000 in
set_option maxHeartbeats 8000000 in
theorem lsign_zero {gp gq gg gh secret : Nat} {fa se : Int} {nodes : Value} {h : List Nat} (hz : drawN gq secret h = 0) (hm : mayG gp gg) (hgp : gp < M256) (hgg : gg < M256) (hq1 : 1 < gq) (hq : gq < M256) (hs0 : secret ≠ 0) (hs : secret < gq) (hl : h.length = 32) (hb9 : Bytes h) (w : World) :
  Calls Try.prog 7 #[setV gp gq gg gh fa se nodes, .agg (cellsK .u8 h).toArray, numV secret] w fun e w' => e = .returned (.tuple #[sigV (signC gp gq gg secret (drawD gq secret h) h) (signS gp gq gg secret (drawD gq secret h) h), .int .i64 0]) ∧ Below w.heap.size w w' := by
 obtain ⟨d0, hd0⟩ : ∃ x, x = drawN gq secret h := ⟨_, rfl⟩
 obtain ⟨d, hd⟩ : ∃ x, x = drawD gq secret h := ⟨_, rfl⟩
 have hdq0 : d0 < gq := by rw [hd0]; unfold drawN numberN; exact Nat.mod_lt _ (by omega)
 rw [← hd0] at hz
 have hdd : d = 1 := by rw [hd]; unfold drawD; rw [← hd0, if_pos hz]
 have hdn : d ≠ 0 ∧ d < gq := by rw [hdd]; exact ⟨by decide, hq1⟩
 obtain ⟨c, hc⟩ : ∃ x, x = signC gp gq gg secret d h := ⟨_, rfl⟩
 obtain ⟨s, hs9⟩ : ∃ x, x = signS gp gq gg secret d h := ⟨_, rfl⟩
 have CS := Lib.hid (fun W => by have h9 := Sign_any (gp := gp) (gq := gq) (gg := gg) (gh := gh) hm hgp hgg hq1 hq hs0 hs hdn.1 hdn.2 hl hb9 W; rw [← hc, ← hs9] at h9; unfold sigV grpV numV words at h9; exact h9)
 have CN := Lib.hid (fun (W : World) (B : Nat) (vs : List Value) (hP : Parts W B 0 vs [longB secret, h]) => by
  have h9 := Number_any (s := ⟨#[100, 114, 97, 119]⟩) (m := gq) (cap := 2) W hP (by simp) (by simp) (by unfold maxLen; decide) (by
   intro l hl9
   simp only [List.mem_cons, List.not_mem_nil, or_false] at hl9
   rcases hl9 with rfl | rfl
   ·exact longB_bytes _
   ·exact hb9) (by omega) hq (by unfold hashed; simp [hdr_length, nums_length, enc_length, longB_length, hl, ByteArray.size])
  rw [show numberN gq (nums ⟨#[100, 114, 97, 119]⟩) [longB secret, h] = d0 from hd0.symm] at h9
  unfold numV words at h9
  exact h9)
 rw [← hd, ← hc, ← hs9]
 have heq := eq_num d0 0 (Nat.lt_trans hdq0 hq) (by decide)
 rw [decide_eq_true hz] at heq
 have HL := Lib.hid hl
 have HDD := Lib.hid hdd
 obtain ⟨T, hT⟩ : ∃ T, T = (cellsK .u8 h).toArray := ⟨_, rfl⟩
 have HT := Lib.hid hT
 have hszT : (Try.prog.info? 31).map (·.size) = some T.size := by rw [info_hash, hT]; simp [cellsK_length, hl]
 rw [← hT] at CS ⊢
 unfold sigV setV numV words
 clear hd0 hd hdq0 hz hdd hdn hc hs9 hm hgp hgg hq1 hq hs0 hs hl hb9 hT
 have z0 : ((dgt W64 0 0 : Nat) : Int) = 0 := by rw [dgt_zero]; rfl
 have z1 : ((dgt W64 0 1 : Nat) : Int) = 0 := by rw [dgt_zero]; rfl
 have z2 : ((dgt W64 0 2 : Nat) : Int) = 0 := by rw [dgt_zero]; rfl
 have z3 : ((dgt W64 0 3 : Nat) : Int) = 0 := by rw [dgt_zero]; rfl
 simp only [z0, z1, z2, z3] at heq
 clear z0 z1 z2 z3
 go_enter Try.func7, Try.ntmps7
 go_upto_region 1 with fail
 obtain ⟨v_0, e_0⟩ : ∃ w9, w9 = w.alloc (.cells #[.int .u64 (dgt W64 gp 0), .int .u64 (dgt W64 gp 1), .int .u64 (dgt W64 gp 2), .int .u64 (dgt W64 gp 3), .int .u64 (dgt W64 gq 0), .int .u64 (dgt W64 gq 1), .int .u64 (dgt W64 gq 2), .int .u64 (dgt W64 gq 3), .int .u64 (dgt W64 gg 0), .int .u64 (dgt W64 gg 1), .int .u64 (dgt W64 gg 2), .int .u64 (dgt W64 gg 3), .int .u64 (dgt W64 gh 0), .int .u64 (dgt W64 gh 1), .int .u64 (dgt W64 gh 2), .int .u64 (dgt W64 gh 3), .int .i64 fa, .int .i64 se, nodes] 34) := ⟨_, rfl⟩
 have s_0 : v_0.heap.size = w.heap.size + 1 := by rw [e_0]; simp
 have b_0 : Below w.heap.size w v_0 := by rw [e_0]; exact (Below.refl _ _).alloc (Nat.le_refl _) _
 have f_0 : GrpAt v_0 (w.heap.size) gp gq gg gh := by rw [e_0]; exact grp_cells fun j v hj => by rw [cell_of_row _ _ _ _ _ _ (heap_alloc_new _ _)]; have hl := (List.getElem?_eq_some_iff.1 hj).1; simp only [List.length_cons, List.length_nil] at hl; rcases (show j = 0 ∨ j = 1 ∨ j = 2 ∨ j = 3 ∨ j = 4 ∨ j = 5 ∨ j = 6 ∨ j = 7 ∨ j = 8 ∨ j = 9 ∨ j = 10 ∨ j = 11 ∨ j = 12 ∨ j = 13 ∨ j = 14 ∨ j = 15 by omega) with rfl | rfl | rfl | rfl | rfl | rfl | rfl | rfl | rfl | rfl | rfl | rfl | rfl | rfl | rfl | rfl <;> exact hj
 obtain ⟨v_1, e_1⟩ : ∃ w9, w9 = v_0.alloc (.cells T 31) := ⟨_, rfl⟩
 have s_1 : v_1.heap.size = w.heap.size + 1 + 1 := by rw [e_1]; simp [s_0]
 have b_1 : Below v_0.heap.size v_0 v_1 := by rw [e_1]; exact (Below.refl _ _).alloc (Nat.le_refl _) _
 have f_1 : v_1.heap[w.heap.size + 1]? = some (.cells T 31 (0, 0)) := by rw [← s_0, e_1]; exact heap_alloc_new _ _
 obtain ⟨v_2, e_2⟩ : ∃ w9, w9 = v_1.alloc (.cells #[.int .u64 (dgt W64 secret 0), .int .u64 (dgt W64 secret 1), .int .u64 (dgt W64 secret 2), .int .u64 (dgt W64 secret 3)] 24) := ⟨_, rfl⟩
 have s_2 : v_2.heap.size = w.heap.size + 1 + 1 + 1 := by rw [e_2]; simp [s_1]
 have b_2 : Below v_1.heap.size v_1 v_2 := by rw [e_2]; exact (Below.refl _ _).alloc (Nat.le_refl _) _
 have f_2 : NumAt v_2 (w.heap.size + 1 + 1) secret := by rw [← s_1, e_2]; exact NumAt.new _ _ _ _ rfl
 obtain ⟨v_3, e_3⟩ : ∃ w9, w9 = v_2.alloc (.cells #[.int .u64 0, .int .u64 0, .int .u64 0, .int .u64 0, .int .u64 0, .int .u64 0, .int .u64 0, .int .u64 0] 41) := ⟨_, rfl⟩
 have s_3 : v_3.heap.size = w.heap.size + 1 + 1 + 1 + 1 := by rw [e_3]; simp [s_2]
 have b_3 : Below v_2.heap.size v_2 v_3 := by rw [e_3]; exact (Below.refl _ _).alloc (Nat.le_refl _) _
 have f_3 : UAt v_3 (w.heap.size + 1 + 1 + 1) 8 (fun _ => 0) := by rw [← s_2, e_3]; exact UAt.zero8 _ _
 have g_3 : FreeN v_3 (w.heap.size + 1 + 1 + 1) 8 := by rw [← s_2, e_3]; exact FreeN.new _ _ _ _
 rw [← e_0, ← e_1, ← e_2, ← e_3]
 have HG := (((f_0.later b_1).later b_2).later b_3)
 have HH := ((b_3.block _ (by omega)).trans ((b_2.block _ (by omega)).trans f_1))
 have HS := (NumAt.later b_3 f_2)
 have HU := f_3
 have HUF := g_3
 have HB := Lib.hid (below_later (below_later (below_later b_0 b_1) b_2) b_3)
 have s9 := s_3
 clear e_0 s_0 b_0 f_0 e_1 s_1 b_1 f_1 e_2 s_2 b_2 f_2 e_3 s_3 b_3 f_3 g_3
 obtain ⟨GB, hGB⟩ : ∃ b, b = w.heap.size := ⟨_, rfl⟩
 rw [← hGB] at HG HH HS HU HUF s9 ⊢
 obtain ⟨HB9, hHB9⟩ : ∃ b, b = GB + 1 := ⟨_, rfl⟩
 rw [← hHB9] at HH HS HU HUF s9 ⊢
 obtain ⟨SB, hSB⟩ : ∃ b, b = HB9 + 1 := ⟨_, rfl⟩
 rw [← hSB] at HS HU HUF s9 ⊢
 obtain ⟨UB, hUB⟩ : ∃ b, b = SB + 1 := ⟨_, rfl⟩
 rw [← hUB] at HU HUF s9 ⊢
 have HUW := Lib.hid (show w.heap.size ≤ UB by omega)
 have LUB := Lib.hid (show UB < v_3.heap.size by omega)
 have HG := Lib.hid HG
 have HS := Lib.hid HS
 have HH := Lib.hid HH
 have HU := Lib.hid HU
 have HUF := Lib.hid HUF
 clear s9 hGB hHB9 hSB hUB
 refine wp_region_tree (.take 0 (.take 1 (.take 2 (.take 3 (.take 5 (.fork 4 (.fork 6 (.fork 7 (.take 8 (.take 9 (.take 10 (.step 11 (.step 12 (.take 13 .done)))))) 11 (.step 7 (.take 8 (.take 9 (.take 10 (.step 12 (.take 13 .done))))))) 11 (.step 6 (.step 7 (.take 8 (.take 9 (.take 10 (.step 12 (.take 13 .done)))))))) 11 (.step 4 (.step 6 (.step 7 (.take 8 (.take 9 (.take 10 (.step 12 (.take 13 .done)))))))))))))) (fun w8 => NumO w8 GB 4 gq ∧ NumAt w8 SB secret) (by kernel_rfl) (by kernel_rfl) (fun _ _ _ _ _ h => h) (⟨HG.out.2.1, HS.out⟩) (fun hHeld => ?_)
 obtain ⟨x1, e1⟩ : ∃ w9, w9 = v_3.drew := ⟨_, rfl⟩
 rw [← e1]
 have hb : Below v_3.heap.size v_3 x1 := by rw [e1]; exact (Below.refl _ _).drew
 have HU := Lib.hid (uat_later LUB.out HU.out hb)
 have HG := Lib.hid (HG.out.later hb)
 have HS := Lib.hid (NumAt.later hb HS.out)
 have HH := Lib.hid ((hb.block _ (Array.getElem?_eq_some_iff.1 HH.out).1).trans HH.out)
 have HUF := Lib.hid (HUF.out.later hb LUB.out)
 have HB := Lib.hid (below_later HB.out hb)
 have LUB := Lib.hid (Nat.lt_of_lt_of_le LUB.out hb.size)
 clear hb e1
 refine WT.take (v := ?_) rfl (Or.inl ⟨by rfl, ?_⟩) ?_
 rotate_left
 ·intro w8 hSw
  (try dsimp only at hSw)
  go_simp
  any_goals with_reducible rfl
 try simp only [Act.put, pa, pb, pc]
 refine WT.take (v := ?_) rfl (Or.inl ⟨by rfl, ?_⟩) ?_
 rotate_left
 ·intro w8 hSw
  (try dsimp only at hSw)
  go_simp
  any_goals with_reducible rfl
 try simp only [Act.put, pa, pb, pc]
 refine WT.take rfl (Or.inl ⟨by rfl, fun w8 hSw => run_value_of (loadNo hSw.1)⟩) ?_
 try simp only [Act.put, pa, pb, pc]
 refine WT.take rfl (Or.inl ⟨by rfl, fun w8 hSw => run_value_of (loadN hSw.2)⟩) ?_
 try simp only [Act.put, pa, pb, pc]
 refine WT.take (v := ?_) rfl (Or.inl ⟨by rfl, ?_⟩) ?_
 rotate_left
 ·intro w8 hSw
  (try dsimp only at hSw)
  go_simp
  any_goals with_reducible rfl
 try simp only [Act.put, pa, pb, pc]
 refine WT.fork rfl rfl (fun K hK => ?_) (fun K hK => ?_)
 rotate_left
 focus
  go_simp
  obtain ⟨x2, e9⟩ : ∃ w9, w9 = x1.alloc (.cells #[.int .u64 0, .int .u64 0, .int .u64 0, .int .u64 0] 24) := ⟨_, rfl⟩
  obtain ⟨VV, h9⟩ : ∃ b, b = x1.heap.size := ⟨_, rfl⟩
  have hb : Below x1.heap.size x1 x2 := by rw [e9]; exact (Below.refl _ _).alloc (Nat.le_refl _) _
  have HV := Lib.hid (show NumAt x2 VV 0 by rw [e9, h9]; exact num_zero _ _)
  have HVF := Lib.hid (show FreeN x2 VV 4 by rw [e9, h9]; exact FreeN.new _ _ _ _)
  have LVV := Lib.hid (show VV < x2.heap.size by rw [e9, h9]; simp)
  have WVV := Lib.hid (show x1.heap.size = VV from h9.symm)
  have NV := Lib.hid (show GB ≠ VV ∧ SB ≠ VV ∧ HB9 ≠ VV ∧ UB ≠ VV by have a1 := HG.out.lt; have a2 := NumAt.lt HS.out; have a3 := (Array.getElem?_eq_some_iff.1 HH.out).1; have a5 := LUB.out; omega)
  have BV := Lib.hid (show w.heap.size ≤ VV by rw [h9]; exact HB.out.size)
  rw [← e9, ← h9]
  clear e9 h9
  have HU := Lib.hid (uat_later LUB.out HU.out hb)
  have HG := Lib.hid (HG.out.later hb)
  have HS := Lib.hid (NumAt.later hb HS.out)
  have HH := Lib.hid ((hb.block _ (Array.getElem?_eq_some_iff.1 HH.out).1).trans HH.out)
  have HUF := Lib.hid (HUF.out.later hb LUB.out)
  have HB := Lib.hid (below_later HB.out hb)
  have LUB := Lib.hid (Nat.lt_of_lt_of_le LUB.out hb.size)
  clear hb
  refine hK.out _ _ (⟨HG.out.2.1, HS.out⟩) (fun hHeld => ?_)
  clear hK K
  try simp only [Act.put, pa, pb, pc]
  refine WT.step rfl (fun K hK => ?_)
  go_simp
  refine (long_any secret _).mono ?_
  rintro _ x3 ⟨a4, c4, rfl, hk9, hb⟩
  have HU := Lib.hid (uat_later LUB.out HU.out hb)
  have HG := Lib.hid (HG.out.later hb)
  have HS := Lib.hid (NumAt.later hb HS.out)
  have HH := Lib.hid ((hb.block _ (Array.getElem?_eq_some_iff.1 HH.out).1).trans HH.out)
  have HUF := Lib.hid (HUF.out.later hb LUB.out)
  have HB := Lib.hid (below_later HB.out hb)
  have HV := Lib.hid (NumAt.later hb HV.out)
  have HVF := Lib.hid (HVF.out.later hb LVV.out)
  have LUB := Lib.hid (Nat.lt_of_lt_of_le LUB.out hb.size)
  have LVV := Lib.hid (Nat.lt_of_lt_of_le LVV.out hb.size)
  clear hb
  have K4 := Lib.hid hk9
  clear hk9
  refine hK.out _ _ (⟨HG.out.2.1, HS.out⟩) (fun hHeld => ?_)
  clear hK K
  try simp only [Act.put, pa, pb, pc]
  refine WT.step rfl (fun K hK => ?_)
  go_simp
  obtain ⟨x4, e9⟩ : ∃ w9, w9 = x3.alloc (.cells #[.slice (some a4) 32 c4, .slice (some ⟨HB9, 0, none⟩) 32 32] 46) := ⟨_, rfl⟩
  obtain ⟨PB, h9⟩ : ∃ b, b = x3.heap.size := ⟨_, rfl⟩
  have hb : Below x3.heap.size x3 x4 := by rw [e9]; exact (Below.refl _ _).alloc (Nat.le_refl _) _
  have P0 := Lib.hid (show x4.cell? ⟨PB, 0, none⟩ = some (.slice (some a4) 32 c4) by rw [e9, h9]; rw [cell_of_row _ _ _ _ _ _ (heap_alloc_new _ _)]; rfl)
  have P1 := Lib.hid (show x4.cell? ⟨PB, 1, none⟩ = some (.slice (some ⟨HB9, 0, none⟩) 32 32) by rw [e9, h9]; rw [cell_of_row _ _ _ _ _ _ (heap_alloc_new _ _)]; rfl)
  have LPB := Lib.hid (show PB < x4.heap.size by rw [e9, h9]; simp)
  have WPB := Lib.hid (show x3.heap.size = PB from h9.symm)
  rw [← e9, ← h9]
  clear e9 h9
  have HU := Lib.hid (uat_later LUB.out HU.out hb)
  have HG := Lib.hid (HG.out.later hb)
  have HS := Lib.hid (NumAt.later hb HS.out)
  have HH := Lib.hid ((hb.block _ (Array.getElem?_eq_some_iff.1 HH.out).1).trans HH.out)
  have HUF := Lib.hid (HUF.out.later hb LUB.out)
  have HB := Lib.hid (below_later HB.out hb)
  have HV := Lib.hid (NumAt.later hb HV.out)
  have HVF := Lib.hid (HVF.out.later hb LVV.out)
  have K4 := Lib.hid (K4.out.later hb)
  have LUB := Lib.hid (Nat.lt_of_lt_of_le LUB.out hb.size)
  have LVV := Lib.hid (Nat.lt_of_lt_of_le LVV.out hb.size)
  clear hb
  refine hK.out _ _ (⟨HG.out.2.1, HS.out⟩) (fun hHeld => ?_)
  clear hK K
  try simp only [Act.put, pa, pb, pc]
  refine WT.step rfl (fun K hK => ?_)
  go_simp
  refine (CN.out _ PB _ (parts2 P0.out P1.out K4.out (kat_row (by rw [← HT.out]; exact HH.out) HL.out))).mono ?_
  rintro _ x5 ⟨rfl, hb⟩
  have HU := Lib.hid (uat_later LUB.out HU.out hb)
  have HG := Lib.hid (HG.out.later hb)
  have HS := Lib.hid (NumAt.later hb HS.out)
  have HH := Lib.hid ((hb.block _ (Array.getElem?_eq_some_iff.1 HH.out).1).trans HH.out)
  have HUF := Lib.hid (HUF.out.later hb LUB.out)
  have HB := Lib.hid (below_later HB.out hb)
  have HV := Lib.hid (NumAt.later hb HV.out)
  have HVF := Lib.hid (HVF.out.later hb LVV.out)
  have K4 := Lib.hid (K4.out.later hb)
  have P0 := Lib.hid (cell_on P0.out hb)
  have P1 := Lib.hid (cell_on P1.out hb)
  have LUB := Lib.hid (Nat.lt_of_lt_of_le LUB.out hb.size)
  have LVV := Lib.hid (Nat.lt_of_lt_of_le LVV.out hb.size)
  have LPB := Lib.hid (Nat.lt_of_lt_of_le LPB.out hb.size)
  clear hb
  refine hK.out _ _ (⟨HG.out.2.1, HS.out⟩) (fun hHeld => ?_)
  clear hK K
  try simp only [Act.put, pa, pb, pc]
  refine WT.take (v := ?_) rfl (Or.inl ⟨by rfl, ?_⟩) ?_
  rotate_left
  ·intro w8 hSw
   (try dsimp only at hSw)
   go_simp
   any_goals with_reducible rfl
  try simp only [Act.put, pa, pb, pc]
  refine WT.take (v := ?_) rfl (Or.inl ⟨by rfl, ?_⟩) ?_
  rotate_left
  ·intro w8 hSw
   (try dsimp only at hSw)
   go_simp
   any_goals with_reducible rfl
  try simp only [Act.put, pa, pb, pc]
  refine WT.take (v := ?_) rfl (Or.inl ⟨by rfl, ?_⟩) ?_
  rotate_left
  ·intro w8 hSw
   (try dsimp only at hSw)
   go_simp
   any_goals with_reducible rfl
  try simp only [Act.put, pa, pb, pc]
  refine WT.step rfl (fun K hK => ?_)
  obtain ⟨c0, c1, c2, c3, f0, f1, f2, f3⟩ := num4f HV.out HVF.out
  go_simp
  clear c0 c1 c2 c3 f0 f1 f2 f3
  obtain ⟨x6, e9⟩ : ∃ w9, w9 = (((x5.setCell ⟨VV, 0, none⟩ (.int .u64 (dgt W64 d0 0))).setCell ⟨VV, 1, none⟩ (.int .u64 (dgt W64 d0 1))).setCell ⟨VV, 2, none⟩ (.int .u64 (dgt W64 d0 2))).setCell ⟨VV, 3, none⟩ (.int .u64 (dgt W64 d0 3)) := ⟨_, rfl⟩
  have hgs : x5.grownBy x6 (some VV) := by rw [e9]; exact only_setS (only_setS (only_setS (only_setS (World.grownBy.refl x5 (some VV)) 0 _) 1 _) 2 _) 3 _
  have HVF := Lib.hid (show FreeN x6 VV 4 by rw [e9]; exact FreeN.set4 HVF.out _ _ _ _ _ _ _ _)
  have HV := Lib.hid (show NumAt x6 VV d0 by rw [e9]; exact NumAt.set4 HV.out d0)
  have LVV := Lib.hid (Nat.lt_of_lt_of_le LVV.out hgs.size)
  rw [← e9]
  clear e9
  have HG := Lib.hid (grp_keep HG.out hgs NV.out.1)
  have HS := Lib.hid (num_keep HS.out hgs NV.out.2.1)
  have HH := Lib.hid (row_keep HH.out hgs NV.out.2.2.1)
  have HU := Lib.hid (show UAt x6 UB 8 (fun _ => 0) from fun j hj => hgs.cell (HU.out j hj) (fun e => NV.out.2.2.2 (by injection e)))
  have HUF := Lib.hid (show FreeN x6 UB 8 from fun j hj => (frozen_block (hgs.block UB LUB.out (fun e => NV.out.2.2.2 (by injection e)))).trans (HUF.out j hj))
  have HB := Lib.hid (HB.out.grown hgs HB.out.size (fun k hk => by have e7 : VV = k := (by injection hk); rw [← e7]; exact BV.out))
  have LUB := Lib.hid (Nat.lt_of_lt_of_le LUB.out hgs.size)
  clear hgs
  refine hK.out _ _ (⟨HG.out.2.1, HS.out⟩) (fun hHeld => ?_)
  clear hK K
  try simp only [Act.put, pa, pb, pc]
  refine WT.take (v := ?_) rfl (Or.inl ⟨by rfl, ?_⟩) ?_
  rotate_left
  ·intro w8 hSw
   (try dsimp only at hSw)
   go_simp
   any_goals with_reducible rfl
  try simp only [Act.put, pa, pb, pc]
  refine WT.done ?_
 rotate_right
 focus
  go_simp
  refine (long_any secret _).mono ?_
  rintro _ x2 ⟨a4, c4, rfl, hk9, hb⟩
  have HU := Lib.hid (uat_later LUB.out HU.out hb)
  have HG := Lib.hid (HG.out.later hb)
  have HS := Lib.hid (NumAt.later hb HS.out)
  have HH := Lib.hid ((hb.block _ (Array.getElem?_eq_some_iff.1 HH.out).1).trans HH.out)
  have HUF := Lib.hid (HUF.out.later hb LUB.out)
  have HB := Lib.hid (below_later HB.out hb)
  have LUB := Lib.hid (Nat.lt_of_lt_of_le LUB.out hb.size)
  clear hb
  have K4 := Lib.hid hk9
  clear hk9
  refine hK.out _ _ (⟨HG.out.2.1, HS.out⟩) (fun hHeld => ?_)
  clear hK K
  try simp only [Act.put, pa, pb, pc]
  refine WT.fork rfl rfl (fun K hK => ?_) (fun K hK => ?_)
  rotate_left
  focus
   go_simp
   obtain ⟨x3, e9⟩ : ∃ w9, w9 = x2.alloc (.cells #[.int .u64 0, .int .u64 0, .int .u64 0, .int .u64 0] 24) := ⟨_, rfl⟩
   obtain ⟨VV, h9⟩ : ∃ b, b = x2.heap.size := ⟨_, rfl⟩
   have hb : Below x2.heap.size x2 x3 := by rw [e9]; exact (Below.refl _ _).alloc (Nat.le_refl _) _
   have HV := Lib.hid (show NumAt x3 VV 0 by rw [e9, h9]; exact num_zero _ _)
   have HVF := Lib.hid (show FreeN x3 VV 4 by rw [e9, h9]; exact FreeN.new _ _ _ _)
   have LVV := Lib.hid (show VV < x3.heap.size by rw [e9, h9]; simp)
   have WVV := Lib.hid (show x2.heap.size = VV from h9.symm)
   have NV := Lib.hid (show GB ≠ VV ∧ SB ≠ VV ∧ HB9 ≠ VV ∧ UB ≠ VV by have a1 := HG.out.lt; have a2 := NumAt.lt HS.out; have a3 := (Array.getElem?_eq_some_iff.1 HH.out).1; have a5 := LUB.out; omega)
   have BV := Lib.hid (show w.heap.size ≤ VV by rw [h9]; exact HB.out.size)
   rw [← e9, ← h9]
   clear e9 h9
   have HU := Lib.hid (uat_later LUB.out HU.out hb)
   have HG := Lib.hid (HG.out.later hb)
   have HS := Lib.hid (NumAt.later hb HS.out)
   have HH := Lib.hid ((hb.block _ (Array.getElem?_eq_some_iff.1 HH.out).1).trans HH.out)
   have HUF := Lib.hid (HUF.out.later hb LUB.out)
   have HB := Lib.hid (below_later HB.out hb)
   have K4 := Lib.hid (K4.out.later hb)
   have LUB := Lib.hid (Nat.lt_of_lt_of_le LUB.out hb.size)
   clear hb
   refine hK.out _ _ (⟨HG.out.2.1, HS.out⟩) (fun hHeld => ?_)
   clear hK K
   try simp only [Act.put, pa, pb, pc]
   refine WT.step rfl (fun K hK => ?_)
   go_simp
   obtain ⟨x4, e9⟩ : ∃ w9, w9 = x3.alloc (.cells #[.slice (some a4) 32 c4, .slice (some ⟨HB9, 0, none⟩) 32 32] 46) := ⟨_, rfl⟩
   obtain ⟨PB, h9⟩ : ∃ b, b = x3.heap.size := ⟨_, rfl⟩
   have hb : Below x3.heap.size x3 x4 := by rw [e9]; exact (Below.refl _ _).alloc (Nat.le_refl _) _
   have P0 := Lib.hid (show x4.cell? ⟨PB, 0, none⟩ = some (.slice (some a4) 32 c4) by rw [e9, h9]; rw [cell_of_row _ _ _ _ _ _ (heap_alloc_new _ _)]; rfl)
   have P1 := Lib.hid (show x4.cell? ⟨PB, 1, none⟩ = some (.slice (some ⟨HB9, 0, none⟩) 32 32) by rw [e9, h9]; rw [cell_of_row _ _ _ _ _ _ (heap_alloc_new _ _)]; rfl)
   have LPB := Lib.hid (show PB < x4.heap.size by rw [e9, h9]; simp)
   have WPB := Lib.hid (show x3.heap.size = PB from h9.symm)
   rw [← e9, ← h9]
   clear e9 h9
   have HU := Lib.hid (uat_later LUB.out HU.out hb)
   have HG := Lib.hid (HG.out.later hb)
   have HS := Lib.hid (NumAt.later hb HS.out)
   have HH := Lib.hid ((hb.block _ (Array.getElem?_eq_some_iff.1 HH.out).1).trans HH.out)
   have HUF := Lib.hid (HUF.out.later hb LUB.out)
   have HB := Lib.hid (below_later HB.out hb)
   have K4 := Lib.hid (K4.out.later hb)
   have HV := Lib.hid (NumAt.later hb HV.out)
   have HVF := Lib.hid (HVF.out.later hb LVV.out)
   have LUB := Lib.hid (Nat.lt_of_lt_of_le LUB.out hb.size)
   have LVV := Lib.hid (Nat.lt_of_lt_of_le LVV.out hb.size)
   clear hb
   refine hK.out _ _ (⟨HG.out.2.1, HS.out⟩) (fun hHeld => ?_)
   clear hK K
   try simp only [Act.put, pa, pb, pc]
   refine WT.step rfl (fun K hK => ?_)
   go_simp
   refine (CN.out _ PB _ (parts2 P0.out P1.out K4.out (kat_row (by rw [← HT.out]; exact HH.out) HL.out))).mono ?_
   rintro _ x5 ⟨rfl, hb⟩
   have HU := Lib.hid (uat_later LUB.out HU.out hb)
   have HG := Lib.hid (HG.out.later hb)
   have HS := Lib.hid (NumAt.later hb HS.out)
   have HH := Lib.hid ((hb.block _ (Array.getElem?_eq_some_iff.1 HH.out).1).trans HH.out)
   have HUF := Lib.hid (HUF.out.later hb LUB.out)
   have HB := Lib.hid (below_later HB.out hb)
   have K4 := Lib.hid (K4.out.later hb)
   have HV := Lib.hid (NumAt.later hb HV.out)
   have HVF := Lib.hid (HVF.out.later hb LVV.out)
   have P0 := Lib.hid (cell_on P0.out hb)
   have P1 := Lib.hid (cell_on P1.out hb)
   have LUB := Lib.hid (Nat.lt_of_lt_of_le LUB.out hb.size)
   have LVV := Lib.hid (Nat.lt_of_lt_of_le LVV.out hb.size)
   have LPB := Lib.hid (Nat.lt_of_lt_of_le LPB.out hb.size)
   clear hb
   refine hK.out _ _ (⟨HG.out.2.1, HS.out⟩) (fun hHeld => ?_)
   clear hK K
   try simp only [Act.put, pa, pb, pc]
   refine WT.take (v := ?_) rfl (Or.inl ⟨by rfl, ?_⟩) ?_
   rotate_left
   ·intro w8 hSw
    (try dsimp only at hSw)
    go_simp
    any_goals with_reducible rfl
   try simp only [Act.put, pa, pb, pc]
   refine WT.take (v := ?_) rfl (Or.inl ⟨by rfl, ?_⟩) ?_
   rotate_left
   ·intro w8 hSw
    (try dsimp only at hSw)
    go_simp
    any_goals with_reducible rfl
   try simp only [Act.put, pa, pb, pc]
   refine WT.take (v := ?_) rfl (Or.inl ⟨by rfl, ?_⟩) ?_
   rotate_left
   ·intro w8 hSw
    (try dsimp only at hSw)
    go_simp
    any_goals with_reducible rfl
   try simp only [Act.put, pa, pb, pc]
   refine WT.step rfl (fun K hK => ?_)
   obtain ⟨c0, c1, c2, c3, f0, f1, f2, f3⟩ := num4f HV.out HVF.out
   go_simp
   clear c0 c1 c2 c3 f0 f1 f2 f3
   obtain ⟨x6, e9⟩ : ∃ w9, w9 = (((x5.setCell ⟨VV, 0, none⟩ (.int .u64 (dgt W64 d0 0))).setCell ⟨VV, 1, none⟩ (.int .u64 (dgt W64 d0 1))).setCell ⟨VV, 2, none⟩ (.int .u64 (dgt W64 d0 2))).setCell ⟨VV, 3, none⟩ (.int .u64 (dgt W64 d0 3)) := ⟨_, rfl⟩
   have hgs : x5.grownBy x6 (some VV) := by rw [e9]; exact only_setS (only_setS (only_setS (only_setS (World.grownBy.refl x5 (some VV)) 0 _) 1 _) 2 _) 3 _
   have HVF := Lib.hid (show FreeN x6 VV 4 by rw [e9]; exact FreeN.set4 HVF.out _ _ _ _ _ _ _ _)
   have HV := Lib.hid (show NumAt x6 VV d0 by rw [e9]; exact NumAt.set4 HV.out d0)
   have LVV := Lib.hid (Nat.lt_of_lt_of_le LVV.out hgs.size)
   rw [← e9]
   clear e9
   have HG := Lib.hid (grp_keep HG.out hgs NV.out.1)
   have HS := Lib.hid (num_keep HS.out hgs NV.out.2.1)
   have HH := Lib.hid (row_keep HH.out hgs NV.out.2.2.1)
   have HU := Lib.hid (show UAt x6 UB 8 (fun _ => 0) from fun j hj => hgs.cell (HU.out j hj) (fun e => NV.out.2.2.2 (by injection e)))
   have HUF := Lib.hid (show FreeN x6 UB 8 from fun j hj => (frozen_block (hgs.block UB LUB.out (fun e => NV.out.2.2.2 (by injection e)))).trans (HUF.out j hj))
   have HB := Lib.hid (HB.out.grown hgs HB.out.size (fun k hk => by have e7 : VV = k := (by injection hk); rw [← e7]; exact BV.out))
   have LUB := Lib.hid (Nat.lt_of_lt_of_le LUB.out hgs.size)
   clear hgs
   refine hK.out _ _ (⟨HG.out.2.1, HS.out⟩) (fun hHeld => ?_)
   clear hK K
   try simp only [Act.put, pa, pb, pc]
   refine WT.take (v := ?_) rfl (Or.inl ⟨by rfl, ?_⟩) ?_
   rotate_left
   ·intro w8 hSw
    (try dsimp only at hSw)
    go_simp
    any_goals with_reducible rfl
   try simp only [Act.put, pa, pb, pc]
   refine WT.done ?_
  rotate_right
  focus
   go_simp
   obtain ⟨x3, e9⟩ : ∃ w9, w9 = x2.alloc (.cells #[.slice (some a4) 32 c4, .slice (some ⟨HB9, 0, none⟩) 32 32] 46) := ⟨_, rfl⟩
   obtain ⟨PB, h9⟩ : ∃ b, b = x2.heap.size := ⟨_, rfl⟩
   have hb : Below x2.heap.size x2 x3 := by rw [e9]; exact (Below.refl _ _).alloc (Nat.le_refl _) _
   have P0 := Lib.hid (show x3.cell? ⟨PB, 0, none⟩ = some (.slice (some a4) 32 c4) by rw [e9, h9]; rw [cell_of_row _ _ _ _ _ _ (heap_alloc_new _ _)]; rfl)
   have P1 := Lib.hid (show x3.cell? ⟨PB, 1, none⟩ = some (.slice (some ⟨HB9, 0, none⟩) 32 32) by rw [e9, h9]; rw [cell_of_row _ _ _ _ _ _ (heap_alloc_new _ _)]; rfl)
   have LPB := Lib.hid (show PB < x3.heap.size by rw [e9, h9]; simp)
   have WPB := Lib.hid (show x2.heap.size = PB from h9.symm)
   rw [← e9, ← h9]
   clear e9 h9
   have HU := Lib.hid (uat_later LUB.out HU.out hb)
   have HG := Lib.hid (HG.out.later hb)
   have HS := Lib.hid (NumAt.later hb HS.out)
   have HH := Lib.hid ((hb.block _ (Array.getElem?_eq_some_iff.1 HH.out).1).trans HH.out)
   have HUF := Lib.hid (HUF.out.later hb LUB.out)
   have HB := Lib.hid (below_later HB.out hb)
   have K4 := Lib.hid (K4.out.later hb)
   have LUB := Lib.hid (Nat.lt_of_lt_of_le LUB.out hb.size)
   clear hb
   refine hK.out _ _ (⟨HG.out.2.1, HS.out⟩) (fun hHeld => ?_)
   clear hK K
   try simp only [Act.put, pa, pb, pc]
   refine WT.fork rfl rfl (fun K hK => ?_) (fun K hK => ?_)
   rotate_left
   focus
    go_simp
    obtain ⟨x4, e9⟩ : ∃ w9, w9 = x3.alloc (.cells #[.int .u64 0, .int .u64 0, .int .u64 0, .int .u64 0] 24) := ⟨_, rfl⟩
    obtain ⟨VV, h9⟩ : ∃ b, b = x3.heap.size := ⟨_, rfl⟩
    have hb : Below x3.heap.size x3 x4 := by rw [e9]; exact (Below.refl _ _).alloc (Nat.le_refl _) _
    have HV := Lib.hid (show NumAt x4 VV 0 by rw [e9, h9]; exact num_zero _ _)
    have HVF := Lib.hid (show FreeN x4 VV 4 by rw [e9, h9]; exact FreeN.new _ _ _ _)
    have LVV := Lib.hid (show VV < x4.heap.size by rw [e9, h9]; simp)
    have WVV := Lib.hid (show x3.heap.size = VV from h9.symm)
    have NV := Lib.hid (show GB ≠ VV ∧ SB ≠ VV ∧ HB9 ≠ VV ∧ UB ≠ VV by have a1 := HG.out.lt; have a2 := NumAt.lt HS.out; have a3 := (Array.getElem?_eq_some_iff.1 HH.out).1; have a5 := LUB.out; omega)
    have BV := Lib.hid (show w.heap.size ≤ VV by rw [h9]; exact HB.out.size)
    rw [← e9, ← h9]
    clear e9 h9
    have HU := Lib.hid (uat_later LUB.out HU.out hb)
    have HG := Lib.hid (HG.out.later hb)
    have HS := Lib.hid (NumAt.later hb HS.out)
    have HH := Lib.hid ((hb.block _ (Array.getElem?_eq_some_iff.1 HH.out).1).trans HH.out)
    have HUF := Lib.hid (HUF.out.later hb LUB.out)
    have HB := Lib.hid (below_later HB.out hb)
    have K4 := Lib.hid (K4.out.later hb)
    have P0 := Lib.hid (cell_on P0.out hb)
    have P1 := Lib.hid (cell_on P1.out hb)
    have LUB := Lib.hid (Nat.lt_of_lt_of_le LUB.out hb.size)
    have LPB := Lib.hid (Nat.lt_of_lt_of_le LPB.out hb.size)
    clear hb
    refine hK.out _ _ (⟨HG.out.2.1, HS.out⟩) (fun hHeld => ?_)
    clear hK K
    try simp only [Act.put, pa, pb, pc]
    refine WT.step rfl (fun K hK => ?_)
    go_simp
    refine (CN.out _ PB _ (parts2 P0.out P1.out K4.out (kat_row (by rw [← HT.out]; exact HH.out) HL.out))).mono ?_
    rintro _ x5 ⟨rfl, hb⟩
    have HU := Lib.hid (uat_later LUB.out HU.out hb)
    have HG := Lib.hid (HG.out.later hb)
    have HS := Lib.hid (NumAt.later hb HS.out)
    have HH := Lib.hid ((hb.block _ (Array.getElem?_eq_some_iff.1 HH.out).1).trans HH.out)
    have HUF := Lib.hid (HUF.out.later hb LUB.out)
    have HB := Lib.hid (below_later HB.out hb)
    have K4 := Lib.hid (K4.out.later hb)
    have P0 := Lib.hid (cell_on P0.out hb)
    have P1 := Lib.hid (cell_on P1.out hb)
    have HV := Lib.hid (NumAt.later hb HV.out)
    have HVF := Lib.hid (HVF.out.later hb LVV.out)
    have LUB := Lib.hid (Nat.lt_of_lt_of_le LUB.out hb.size)
    have LPB := Lib.hid (Nat.lt_of_lt_of_le LPB.out hb.size)
    have LVV := Lib.hid (Nat.lt_of_lt_of_le LVV.out hb.size)
    clear hb
    refine hK.out _ _ (⟨HG.out.2.1, HS.out⟩) (fun hHeld => ?_)
    clear hK K
    try simp only [Act.put, pa, pb, pc]
    refine WT.take (v := ?_) rfl (Or.inl ⟨by rfl, ?_⟩) ?_
    rotate_left
    ·intro w8 hSw
     (try dsimp only at hSw)
     go_simp
     any_goals with_reducible rfl
    try simp only [Act.put, pa, pb, pc]
    refine WT.take (v := ?_) rfl (Or.inl ⟨by rfl, ?_⟩) ?_
    rotate_left
    ·intro w8 hSw
     (try dsimp only at hSw)
     go_simp
     any_goals with_reducible rfl
    try simp only [Act.put, pa, pb, pc]
    refine WT.take (v := ?_) rfl (Or.inl ⟨by rfl, ?_⟩) ?_
    rotate_left
    ·intro w8 hSw
     (try dsimp only at hSw)
     go_simp
     any_goals with_reducible rfl
    try simp only [Act.put, pa, pb, pc]
    refine WT.step rfl (fun K hK => ?_)
    obtain ⟨c0, c1, c2, c3, f0, f1, f2, f3⟩ := num4f HV.out HVF.out
    go_simp
    clear c0 c1 c2 c3 f0 f1 f2 f3
    obtain ⟨x6, e9⟩ : ∃ w9, w9 = (((x5.setCell ⟨VV, 0, none⟩ (.int .u64 (dgt W64 d0 0))).setCell ⟨VV, 1, none⟩ (.int .u64 (dgt W64 d0 1))).setCell ⟨VV, 2, none⟩ (.int .u64 (dgt W64 d0 2))).setCell ⟨VV, 3, none⟩ (.int .u64 (dgt W64 d0 3)) := ⟨_, rfl⟩
    have hgs : x5.grownBy x6 (some VV) := by rw [e9]; exact only_setS (only_setS (only_setS (only_setS (World.grownBy.refl x5 (some VV)) 0 _) 1 _) 2 _) 3 _
    have HVF := Lib.hid (show FreeN x6 VV 4 by rw [e9]; exact FreeN.set4 HVF.out _ _ _ _ _ _ _ _)
    have HV := Lib.hid (show NumAt x6 VV d0 by rw [e9]; exact NumAt.set4 HV.out d0)
    have LVV := Lib.hid (Nat.lt_of_lt_of_le LVV.out hgs.size)
    rw [← e9]
    clear e9
    have HG := Lib.hid (grp_keep HG.out hgs NV.out.1)
    have HS := Lib.hid (num_keep HS.out hgs NV.out.2.1)
    have HH := Lib.hid (row_keep HH.out hgs NV.out.2.2.1)
    have HU := Lib.hid (show UAt x6 UB 8 (fun _ => 0) from fun j hj => hgs.cell (HU.out j hj) (fun e => NV.out.2.2.2 (by injection e)))
    have HUF := Lib.hid (show FreeN x6 UB 8 from fun j hj => (frozen_block (hgs.block UB LUB.out (fun e => NV.out.2.2.2 (by injection e)))).trans (HUF.out j hj))
    have HB := Lib.hid (HB.out.grown hgs HB.out.size (fun k hk => by have e7 : VV = k := (by injection hk); rw [← e7]; exact BV.out))
    have LUB := Lib.hid (Nat.lt_of_lt_of_le LUB.out hgs.size)
    clear hgs
    refine hK.out _ _ (⟨HG.out.2.1, HS.out⟩) (fun hHeld => ?_)
    clear hK K
    try simp only [Act.put, pa, pb, pc]
    refine WT.take (v := ?_) rfl (Or.inl ⟨by rfl, ?_⟩) ?_
    rotate_left
    ·intro w8 hSw
     (try dsimp only at hSw)
     go_simp
     any_goals with_reducible rfl
    try simp only [Act.put, pa, pb, pc]
    refine WT.done ?_
   rotate_right
   focus
    go_simp
    refine (CN.out _ PB _ (parts2 P0.out P1.out K4.out (kat_row (by rw [← HT.out]; exact HH.out) HL.out))).mono ?_
    rintro _ x4 ⟨rfl, hb⟩
    have HU := Lib.hid (uat_later LUB.out HU.out hb)
    have HG := Lib.hid (HG.out.later hb)
    have HS := Lib.hid (NumAt.later hb HS.out)
    have HH := Lib.hid ((hb.block _ (Array.getElem?_eq_some_iff.1 HH.out).1).trans HH.out)
    have HUF := Lib.hid (HUF.out.later hb LUB.out)
    have HB := Lib.hid (below_later HB.out hb)
    have K4 := Lib.hid (K4.out.later hb)
    have P0 := Lib.hid (cell_on P0.out hb)
    have P1 := Lib.hid (cell_on P1.out hb)
    have LUB := Lib.hid (Nat.lt_of_lt_of_le LUB.out hb.size)
    have LPB := Lib.hid (Nat.lt_of_lt_of_le LPB.out hb.size)
    clear hb
    refine hK.out _ _ (⟨HG.out.2.1, HS.out⟩) (fun hHeld => ?_)
    clear hK K
    try simp only [Act.put, pa, pb, pc]
    refine WT.take (v := ?_) rfl (Or.inl ⟨by rfl, ?_⟩) ?_
    rotate_left
    ·intro w8 hSw
     (try dsimp only at hSw)
     go_simp
     any_goals with_reducible rfl
    try simp only [Act.put, pa, pb, pc]
    refine WT.take (v := ?_) rfl (Or.inl ⟨by rfl, ?_⟩) ?_
    rotate_left
    ·intro w8 hSw
     (try dsimp only at hSw)
     go_simp
     any_goals with_reducible rfl
    try simp only [Act.put, pa, pb, pc]
    refine WT.take (v := ?_) rfl (Or.inl ⟨by rfl, ?_⟩) ?_
    rotate_left
    ·intro w8 hSw
     (try dsimp only at hSw)
     go_simp
     any_goals with_reducible rfl
    try simp only [Act.put, pa, pb, pc]
    refine WT.step rfl (fun K hK => ?_)
    go_simp
    obtain ⟨x5, e9⟩ : ∃ w9, w9 = x4.alloc (.cells #[.int .u64 0, .int .u64 0, .int .u64 0, .int .u64 0] 24) := ⟨_, rfl⟩
    obtain ⟨VV, h9⟩ : ∃ b, b = x4.heap.size := ⟨_, rfl⟩
    have hb : Below x4.heap.size x4 x5 := by rw [e9]; exact (Below.refl _ _).alloc (Nat.le_refl _) _
    have HV := Lib.hid (show NumAt x5 VV 0 by rw [e9, h9]; exact num_zero _ _)
    have HVF := Lib.hid (show FreeN x5 VV 4 by rw [e9, h9]; exact FreeN.new _ _ _ _)
    have LVV := Lib.hid (show VV < x5.heap.size by rw [e9, h9]; simp)
    have WVV := Lib.hid (show x4.heap.size = VV from h9.symm)
    have NV := Lib.hid (show GB ≠ VV ∧ SB ≠ VV ∧ HB9 ≠ VV ∧ UB ≠ VV by have a1 := HG.out.lt; have a2 := NumAt.lt HS.out; have a3 := (Array.getElem?_eq_some_iff.1 HH.out).1; have a5 := LUB.out; omega)
    have BV := Lib.hid (show w.heap.size ≤ VV by rw [h9]; exact HB.out.size)
    rw [← e9, ← h9]
    clear e9 h9
    have HU := Lib.hid (uat_later LUB.out HU.out hb)
    have HG := Lib.hid (HG.out.later hb)
    have HS := Lib.hid (NumAt.later hb HS.out)
    have HH := Lib.hid ((hb.block _ (Array.getElem?_eq_some_iff.1 HH.out).1).trans HH.out)
    have HUF := Lib.hid (HUF.out.later hb LUB.out)
    have HB := Lib.hid (below_later HB.out hb)
    have K4 := Lib.hid (K4.out.later hb)
    have P0 := Lib.hid (cell_on P0.out hb)
    have P1 := Lib.hid (cell_on P1.out hb)
    have LUB := Lib.hid (Nat.lt_of_lt_of_le LUB.out hb.size)
    have LPB := Lib.hid (Nat.lt_of_lt_of_le LPB.out hb.size)
    clear hb
    refine hK.out _ _ (⟨HG.out.2.1, HS.out⟩) (fun hHeld => ?_)
    clear hK K
    try simp only [Act.put, pa, pb, pc]
    refine WT.step rfl (fun K hK => ?_)
    obtain ⟨c0, c1, c2, c3, f0, f1, f2, f3⟩ := num4f HV.out HVF.out
    go_simp
    clear c0 c1 c2 c3 f0 f1 f2 f3
    obtain ⟨x6, e9⟩ : ∃ w9, w9 = (((x5.setCell ⟨VV, 0, none⟩ (.int .u64 (dgt W64 d0 0))).setCell ⟨VV, 1, none⟩ (.int .u64 (dgt W64 d0 1))).setCell ⟨VV, 2, none⟩ (.int .u64 (dgt W64 d0 2))).setCell ⟨VV, 3, none⟩ (.int .u64 (dgt W64 d0 3)) := ⟨_, rfl⟩
    have hgs : x5.grownBy x6 (some VV) := by rw [e9]; exact only_setS (only_setS (only_setS (only_setS (World.grownBy.refl x5 (some VV)) 0 _) 1 _) 2 _) 3 _
    have HVF := Lib.hid (show FreeN x6 VV 4 by rw [e9]; exact FreeN.set4 HVF.out _ _ _ _ _ _ _ _)
    have HV := Lib.hid (show NumAt x6 VV d0 by rw [e9]; exact NumAt.set4 HV.out d0)
    have LVV := Lib.hid (Nat.lt_of_lt_of_le LVV.out hgs.size)
    rw [← e9]
    clear e9
    have HG := Lib.hid (grp_keep HG.out hgs NV.out.1)
    have HS := Lib.hid (num_keep HS.out hgs NV.out.2.1)
    have HH := Lib.hid (row_keep HH.out hgs NV.out.2.2.1)
    have HU := Lib.hid (show UAt x6 UB 8 (fun _ => 0) from fun j hj => hgs.cell (HU.out j hj) (fun e => NV.out.2.2.2 (by injection e)))
    have HUF := Lib.hid (show FreeN x6 UB 8 from fun j hj => (frozen_block (hgs.block UB LUB.out (fun e => NV.out.2.2.2 (by injection e)))).trans (HUF.out j hj))
    have HB := Lib.hid (HB.out.grown hgs HB.out.size (fun k hk => by have e7 : VV = k := (by injection hk); rw [← e7]; exact BV.out))
    have LUB := Lib.hid (Nat.lt_of_lt_of_le LUB.out hgs.size)
    clear hgs
    refine hK.out _ _ (⟨HG.out.2.1, HS.out⟩) (fun hHeld => ?_)
    clear hK K
    try simp only [Act.put, pa, pb, pc]
    refine WT.take (v := ?_) rfl (Or.inl ⟨by rfl, ?_⟩) ?_
    rotate_left
    ·intro w8 hSw
     (try dsimp only at hSw)
     go_simp
     any_goals with_reducible rfl
    try simp only [Act.put, pa, pb, pc]
    refine WT.done ?_
 all_goals (
  clear hHeld
  obtain ⟨r0, r1, r2, r3⟩ := num4 HV.out
  obtain ⟨c0, c1, c2, c3, f0, f1, f2, f3⟩ := num4f HV.out HVF.out
  go_upto_region 6 with fail
  clear r0 r1 r2 r3 c0 c1 c2 c3 f0 f1 f2 f3
  have o0 : ((dgt W64 1 0 : Nat) : Int) = 1 := by decide
  have o1 : ((dgt W64 1 1 : Nat) : Int) = 0 := by decide
  have o2 : ((dgt W64 1 2 : Nat) : Int) = 0 := by decide
  have o3 : ((dgt W64 1 3 : Nat) : Int) = 0 := by decide
  obtain ⟨x7, e9⟩ : ∃ w9, w9 = (((x6.setCell ⟨VV, 0, none⟩ (.int .u64 1)).setCell ⟨VV, 1, none⟩ (.int .u64 0)).setCell ⟨VV, 2, none⟩ (.int .u64 0)).setCell ⟨VV, 3, none⟩ (.int .u64 0) := ⟨_, rfl⟩
  have hgs : x6.grownBy x7 (some VV) := by rw [e9]; exact only_setS (only_setS (only_setS (only_setS (World.grownBy.refl x6 (some VV)) 0 _) 1 _) 2 _) 3 _
  have HVF := Lib.hid (show FreeN x7 VV 4 by rw [e9]; exact FreeN.set4 HVF.out _ _ _ _ _ _ _ _)
  have HV := Lib.hid (show NumAt x7 VV 1 by rw [e9]; have h7 := NumAt.set4 HV.out 1; rw [o0, o1, o2, o3] at h7; exact h7)
  have LVV := Lib.hid (Nat.lt_of_lt_of_le LVV.out hgs.size)
  rw [← e9]
  clear e9
  have HG := Lib.hid (grp_keep HG.out hgs NV.out.1)
  have HS := Lib.hid (num_keep HS.out hgs NV.out.2.1)
  have HH := Lib.hid (row_keep HH.out hgs NV.out.2.2.1)
  have HU := Lib.hid (show UAt x7 UB 8 (fun _ => 0) from fun j hj => hgs.cell (HU.out j hj) (fun e => NV.out.2.2.2 (by injection e)))
  have HUF := Lib.hid (show FreeN x7 UB 8 from fun j hj => (frozen_block (hgs.block UB LUB.out (fun e => NV.out.2.2.2 (by injection e)))).trans (HUF.out j hj))
  have HB := Lib.hid (HB.out.grown hgs HB.out.size (fun k hk => by have e7 : VV = k := (by injection hk); rw [← e7]; exact BV.out))
  have LUB := Lib.hid (Nat.lt_of_lt_of_le LUB.out hgs.size)
  clear hgs
  clear o0 o1 o2 o3
  have HV := Lib.hid (show NumAt x7 VV d by rw [HDD.out]; exact HV.out)
  refine wp_region_lit ?_
  refine wpList_val (v := .pointer (some ⟨GB, 0, none⟩)) rfl (by kernel_rfl) ?_
  refine wpList_val rfl (run_value_of (loadG HG.out)) ?_
  refine wpList_val rfl (run_value_of (loadN HS.out)) ?_
  refine wpList_load_row rfl _ _ rfl HB9 rfl _ _ _ _ HH.out Try.underlying31 rfl hszT ?_
  refine wpList_val rfl (run_value_of (loadN HV.out)) ?_
  simp only [Act.put, pa, pb, pc]
  go_wp2_with fail
  refine (CS.out _).mono ?_
  rintro _ x8 ⟨rfl, hb⟩
  have HU := Lib.hid (uat_later LUB.out HU.out hb)
  have HG := Lib.hid (HG.out.later hb)
  have HS := Lib.hid (NumAt.later hb HS.out)
  have HH := Lib.hid ((hb.block _ (Array.getElem?_eq_some_iff.1 HH.out).1).trans HH.out)
  have HUF := Lib.hid (HUF.out.later hb LUB.out)
  have HB := Lib.hid (below_later HB.out hb)
  have HV := Lib.hid (NumAt.later hb HV.out)
  have HVF := Lib.hid (HVF.out.later hb LVV.out)
  have LUB := Lib.hid (Nat.lt_of_lt_of_le LUB.out hb.size)
  have LVV := Lib.hid (Nat.lt_of_lt_of_le LVV.out hb.size)
  clear hb
  obtain ⟨u0, u1, u2, u3, u4, u5, u6, u7⟩ := uat8 HU.out
  obtain ⟨f0, f1, f2, f3, f4, f5, f6, f7⟩ := free8 HUF.out
  go_wp2_with fail
  clear u0 u1 u2 u3 u4 u5 u6 u7 f0 f1 f2 f3 f4 f5 f6 f7
  obtain ⟨g0, g1, g2, g3, g4, g5, g6, g7⟩ := uat8 (uat_set8 HU.out (dgt W64 c 0) (dgt W64 c 1) (dgt W64 c 2) (dgt W64 c 3) (dgt W64 s 0) (dgt W64 s 1) (dgt W64 s 2) (dgt W64 s 3))
  have HB := Lib.hid (below_set8 HB.out HUW.out (.int .u64 (dgt W64 c 0)) (.int .u64 (dgt W64 c 1)) (.int .u64 (dgt W64 c 2)) (.int .u64 (dgt W64 c 3)) (.int .u64 (dgt W64 s 0)) (.int .u64 (dgt W64 s 1)) (.int .u64 (dgt W64 s 2)) (.int .u64 (dgt W64 s 3)))
  refine bodyPost_ret (v := .tuple #[.agg #[.int .u64 (dgt W64 c 0), .int .u64 (dgt W64 c 1), .int .u64 (dgt W64 c 2), .int .u64 (dgt W64 c 3), .int .u64 (dgt W64 s 0), .int .u64 (dgt W64 s 1), .int .u64 (dgt W64 s 2), .int .u64 (dgt W64 s 3)], .int .i64 0]) ?_ rfl ⟨rfl, HB.out⟩
  simp [results, Try.results7, go_sem, at0, g0, g1, g2, g3, g4, g5, g6, g7])
theorem LSign_any {gp gq gg gh secret : Nat} {fa se : Int} {nodes : Value} {h : List Nat} (hm : mayG gp gg) (hgp : gp < M256) (hgg : gg < M256) (hq1 : 1 < gq) (hq : gq < M256) (hs0 : secret ≠ 0) (hs : secret < gq) (hl : h.length = 32) (hb9 : Bytes h) (w : World) :
  Calls Try.prog 7 #[setV gp gq gg gh fa se nodes, .agg (cellsK .u8 h).toArray, numV secret] w fun e w' => e = .returned (.tuple #[sigV (signC gp gq gg secret (drawD gq secret h) h) (signS gp gq gg secret (drawD gq secret h) h), .int .i64 0]) ∧ Below w.heap.size w w' := by
 by_cases hz : drawN gq secret h = 0
 ·exact lsign_zero hz hm hgp hgg hq1 hq hs0 hs hl hb9 w
 ·exact lsign_pos hz hm hgp hgg hq1 hq hs0 hs hl hb9 w
end Go.Proofs.Ytpoocnkflmimdaa
