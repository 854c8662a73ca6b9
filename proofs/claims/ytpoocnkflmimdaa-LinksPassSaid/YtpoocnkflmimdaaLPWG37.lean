/- Layer 13 (sigs): Sign, by a secret that is one -/
import Derived.Test.YtpoocnkflmimdaaLPWG36
import Derived.Test.YtpoocnkflmimdaaLPWG33
namespace Go.Proofs.Ytpoocnkflmimdaa
open Go.ChangeShapes Go.WideShapes Go.ChangeAt Go.RowKit
/-- A signature, as a value. -/
def sigV (c s : Nat) : Value := .agg #[.int .u64 (dgt W64 c 0), .int .u64 (dgt W64 c 1), .int .u64 (dgt W64 c 2), .int .u64 (dgt W64 c 3), .int .u64 (dgt W64 s 0), .int .u64 (dgt W64 s 1), .int .u64 (dgt W64 s 2), .int .u64 (dgt W64 s 3)]
theorem uat_later {w w' : World} {b n : Nat} {A : Nat → Nat} (hl : b < w.heap.size) (h : UAt w b n A) (hb : Below w.heap.size w w') : UAt w' b n A := fun j hj => (hb.cell (p := ⟨b, j, none⟩) hl).trans (h j hj)
theorem uat8 {w : World} {b : Nat} {A : Nat → Nat} (h : UAt w b 8 A) : w.cell? ⟨b, 0, none⟩ = some (.int .u64 (A 0)) ∧ w.cell? ⟨b, 1, none⟩ = some (.int .u64 (A 1)) ∧ w.cell? ⟨b, 2, none⟩ = some (.int .u64 (A 2)) ∧ w.cell? ⟨b, 3, none⟩ = some (.int .u64 (A 3)) ∧ w.cell? ⟨b, 4, none⟩ = some (.int .u64 (A 4)) ∧ w.cell? ⟨b, 5, none⟩ = some (.int .u64 (A 5)) ∧ w.cell? ⟨b, 6, none⟩ = some (.int .u64 (A 6)) ∧ w.cell? ⟨b, 7, none⟩ = some (.int .u64 (A 7)) :=
 ⟨h 0 (by decide), h 1 (by decide), h 2 (by decide), h 3 (by decide), h 4 (by decide), h 5 (by decide), h 6 (by decide), h 7 (by decide)⟩
theorem free8 {w : World} {b : Nat} (h : FreeN w b 8) : w.frozen? ⟨b, 0, none⟩ = false ∧ w.frozen? ⟨b, 1, none⟩ = false ∧ w.frozen? ⟨b, 2, none⟩ = false ∧ w.frozen? ⟨b, 3, none⟩ = false ∧ w.frozen? ⟨b, 4, none⟩ = false ∧ w.frozen? ⟨b, 5, none⟩ = false ∧ w.frozen? ⟨b, 6, none⟩ = false ∧ w.frozen? ⟨b, 7, none⟩ = false :=
 ⟨h 0 (by decide), h 1 (by decide), h 2 (by decide), h 3 (by decide), h 4 (by decide), h 5 (by decide), h 6 (by decide), h 7 (by decide)⟩
theorem nums2 {w : World} {b x y : Nat} {t : TypeId} (h : w.heap[b]? = some (.cells #[.int .u64 (dgt W64 x 0), .int .u64 (dgt W64 x 1), .int .u64 (dgt W64 x 2), .int .u64 (dgt W64 x 3), .int .u64 (dgt W64 y 0), .int .u64 (dgt W64 y 1), .int .u64 (dgt W64 y 2), .int .u64 (dgt W64 y 3)] t (0, 0))) : NumsAt w b 0 [x, y] := fun i z hz j hj => by
 have hl := (List.getElem?_eq_some_iff.1 hz).1
 rw [cell_of_row _ _ _ _ _ _ h]
 rcases (show i = 0 ∨ i = 1 by simp at hl; omega) with rfl | rfl
 ·simp at hz
  subst hz
  rcases (show j = 0 ∨ j = 1 ∨ j = 2 ∨ j = 3 by omega) with rfl | rfl | rfl | rfl <;> rfl
 ·simp at hz
  subst hz
  rcases (show j = 0 ∨ j = 1 ∨ j = 2 ∨ j = 3 by omega) with rfl | rfl | rfl | rfl <;> rfl
/-- What is signed. -/
def signC (gp gq gg secret draw : Nat) (h : List Nat) : Nat := challenge gq (gg ^ secret % gp) (gg ^ draw % gp) h
def signS (gp gq gg secret draw : Nat) (h : List Nat) : Nat := (draw + secret * signC gp gq gg secret draw h % gq) % gq
theorem num_keep {w w' : World} {b x c : Nat} (h : NumAt w b x) (hg : w.grownBy w' (some c)) (hn : b ≠ c) : NumAt w' b x := fun j hj => hg.cell (h j hj) (fun e => hn (by injection e))
theorem grp_keep {w w' : World} {b c gp gq gg gh : Nat} (h : GrpAt w b gp gq gg gh) (hg : w.grownBy w' (some c)) (hn : b ≠ c) : GrpAt w' b gp gq gg gh :=
 ⟨fun j hj => hg.cell (h.1 j hj) (fun e => hn (by injection e)), fun j hj => hg.cell (h.2.1 j hj) (fun e => hn (by injection e)), fun j hj => hg.cell (h.2.2.1 j hj) (fun e => hn (by injection e)), fun j hj => hg.cell (h.2.2.2 j hj) (fun e => hn (by injection e))⟩
theorem row_keep {w w' : World} {b c : Nat} {o : Obj} (h : w.heap[b]? = some o) (hg : w.grownBy w' (some c)) (hn : b ≠ c) : w'.heap[b]? = some o := (hg.block b (Array.getElem?_eq_some_iff.1 h).1 (fun e => hn (by injection e))).trans h
theorem uat_set8 {w : World} {b : Nat} {A : Nat → Nat} (h : UAt w b 8 A) (x0 x1 x2 x3 x4 x5 x6 x7 : Nat) : UAt ((((((((w.setCell ⟨b, 0, none⟩ (.int .u64 x0)).setCell ⟨b, 1, none⟩ (.int .u64 x1)).setCell ⟨b, 2, none⟩ (.int .u64 x2)).setCell ⟨b, 3, none⟩ (.int .u64 x3)).setCell ⟨b, 4, none⟩ (.int .u64 x4)).setCell ⟨b, 5, none⟩ (.int .u64 x5)).setCell ⟨b, 6, none⟩ (.int .u64 x6)).setCell ⟨b, 7, none⟩ (.int .u64 x7)) b 8 (at0 [x0, x1, x2, x3, x4, x5, x6, x7]) := by
 refine ((((((((h.set 0 x0).set 1 x1).set 2 x2).set 3 x3).set 4 x4).set 5 x5).set 6 x6).set 7 x7).congr fun j hj => ?_
 rcases (show j = 0 ∨ j = 1 ∨ j = 2 ∨ j = 3 ∨ j = 4 ∨ j = 5 ∨ j = 6 ∨ j = 7 by omega) with rfl | rfl | rfl | rfl | rfl | rfl | rfl | rfl <;> rfl
set_option linter.unusedSimpArgs false in
set_option linter.unusedVariables false in
set_option maxRecDepth 20000 in
set_option maxHeartbeats 8000000 in
theorem Sign_any {gp gq gg gh secret draw : Nat} {h : List Nat} (hm : mayG gp gg) (hgp : gp < M256) (hgg : gg < M256) (hq1 : 1 < gq) (hq : gq < M256) (hs0 : secret ≠ 0) (hs : secret < gq) (hd0 : draw ≠ 0) (hd : draw < gq) (hl : h.length = 32) (hb9 : Bytes h) (w : World) :
  Calls Try.prog 19 #[grpV gp gq gg gh, numV secret, .agg (cellsK .u8 h).toArray, numV draw] w fun e w' => e = .returned (.tuple #[sigV (signC gp gq gg secret draw h) (signS gp gq gg secret draw h), .int .i64 0]) ∧ Below w.heap.size w w' := by
 obtain ⟨key, hkey⟩ : ∃ x, x = gg ^ secret % gp := ⟨_, rfl⟩
 obtain ⟨r, hr⟩ : ∃ x, x = gg ^ draw % gp := ⟨_, rfl⟩
 obtain ⟨c, hc⟩ : ∃ x, x = challenge gq key r h := ⟨_, rfl⟩
 obtain ⟨p, hp⟩ : ∃ x, x = secret * c % gq := ⟨_, rfl⟩
 obtain ⟨s, hs9⟩ : ∃ x, x = (draw + p) % gq := ⟨_, rfl⟩
 have ec : signC gp gq gg secret draw h = c := by rw [hc, hkey, hr]; rfl
 have es : signS gp gq gg secret draw h = s := by unfold signS; rw [ec, ← hp, ← hs9]
 rw [es, ec]
 have hsM := Nat.lt_trans hs hq
 have hdM := Nat.lt_trans hd hq
 have hcq : c < gq := by rw [hc]; unfold challenge numberN; exact Nat.mod_lt _ (by omega)
 have hpq : p < gq := by rw [hp]; exact Nat.mod_lt _ (by omega)
 have C1 := Lib.hid (fun W => by have h9 := gexp_yes (gq := gq) (gg := gg) (gh := gh) hm hgg hsM hgp W; rw [← hkey] at h9; unfold numV words at h9; exact h9)
 have C2 := Lib.hid (fun W => by have h9 := gexp_yes (gq := gq) (gg := gg) (gh := gh) hm hgg hdM hgp W; rw [← hr] at h9; unfold numV words at h9; exact h9)
 have CX := Lib.hid (fun (W : World) (B cap : Nat) (hx : NumsAt W B 0 [secret, draw]) => by have h9 := exponents_any (gp := gp) (gg := gg) (gh := gh) (cap := cap) (xs := [secret, draw]) (by intro x hx; simp only [List.mem_cons, List.not_mem_nil, or_false] at hx; rcases hx with rfl | rfl; exact hs; exact hd) hq1 hq W hx (by simp); unfold grpV at h9; exact h9)
 have CM := Lib.hid (fun W => by have h9 := SMul_any (gp := gp) (gg := gg) (gh := gh) hs hcq hq1 hq W; rw [← hp] at h9; unfold grpV numV words at h9; exact h9)
 have CA := Lib.hid (fun W => by have h9 := SAdd_any (gp := gp) (gg := gg) (gh := gh) hd hpq hq1 hq W; rw [← hs9] at h9; unfold grpV numV words at h9; exact h9)
 have CG := Lib.hid (fun W => by have h9 := signs_any (gp := gp) (gq := gq) (gg := gg) (gh := gh) (key := key) hl W; unfold grpV numV words at h9; exact h9)
 have CF := Lib.hid (fun (W : World) (GB KB HB : Nat) hg hk hh => by have h9 := signs1_any (GB := GB) (KB := KB) (HB := HB) (gp := gp) (gq := gq) (gg := gg) (gh := gh) (key := key) (r := r) (h := h) W hg hk hh hl hb9 (by omega) hq; rw [← hc] at h9; unfold numV words at h9; exact h9)
 have heq1 := eq_num secret 0 hsM (by decide)
 rw [decide_eq_false hs0] at heq1
 have heq2 := eq_num draw 0 hdM (by decide)
 rw [decide_eq_false hd0] at heq2
 have HL := Lib.hid hl
 obtain ⟨T, hT⟩ : ∃ T, T = (cellsK .u8 h).toArray := ⟨_, rfl⟩
 have HT := Lib.hid hT
 rw [← hT] at CG CF ⊢
 unfold sigV grpV numV words
 clear hkey hr hc hp hs9 ec es hsM hdM hcq hpq hm hgp hgg hq1 hq hs0 hs hd0 hd hl hb9 hT
 go_enter Try.func19, Try.ntmps19
 go_upto_region 2 with fail
 obtain ⟨v_0, e_0⟩ : ∃ w9, w9 = w.alloc (.cells #[.int .u64 (dgt W64 gp 0), .int .u64 (dgt W64 gp 1), .int .u64 (dgt W64 gp 2), .int .u64 (dgt W64 gp 3), .int .u64 (dgt W64 gq 0), .int .u64 (dgt W64 gq 1), .int .u64 (dgt W64 gq 2), .int .u64 (dgt W64 gq 3), .int .u64 (dgt W64 gg 0), .int .u64 (dgt W64 gg 1), .int .u64 (dgt W64 gg 2), .int .u64 (dgt W64 gg 3), .int .u64 (dgt W64 gh 0), .int .u64 (dgt W64 gh 1), .int .u64 (dgt W64 gh 2), .int .u64 (dgt W64 gh 3)] 26) := ⟨_, rfl⟩
 have s_0 : v_0.heap.size = w.heap.size + 1 := by rw [e_0]; simp
 have b_0 : Below w.heap.size w v_0 := by rw [e_0]; exact (Below.refl _ _).alloc (Nat.le_refl _) _
 have f_0 : GrpAt v_0 (w.heap.size) gp gq gg gh := by rw [e_0]; exact GrpAt.new _ _ _ _ _ _
 obtain ⟨v_1, e_1⟩ : ∃ w9, w9 = v_0.alloc (.cells #[.int .u64 (dgt W64 secret 0), .int .u64 (dgt W64 secret 1), .int .u64 (dgt W64 secret 2), .int .u64 (dgt W64 secret 3)] 24) := ⟨_, rfl⟩
 have s_1 : v_1.heap.size = w.heap.size + 1 + 1 := by rw [e_1]; simp [s_0]
 have b_1 : Below v_0.heap.size v_0 v_1 := by rw [e_1]; exact (Below.refl _ _).alloc (Nat.le_refl _) _
 have f_1 : NumAt v_1 (w.heap.size + 1) secret := by rw [← s_0, e_1]; exact NumAt.new _ _ _ _ rfl
 obtain ⟨v_2, e_2⟩ : ∃ w9, w9 = v_1.alloc (.cells T 31) := ⟨_, rfl⟩
 have s_2 : v_2.heap.size = w.heap.size + 1 + 1 + 1 := by rw [e_2]; simp [s_1]
 have b_2 : Below v_1.heap.size v_1 v_2 := by rw [e_2]; exact (Below.refl _ _).alloc (Nat.le_refl _) _
 have f_2 : v_2.heap[w.heap.size + 1 + 1]? = some (.cells T 31 (0, 0)) := by rw [← s_1, e_2]; exact heap_alloc_new _ _
 obtain ⟨v_3, e_3⟩ : ∃ w9, w9 = v_2.alloc (.cells #[.int .u64 (dgt W64 draw 0), .int .u64 (dgt W64 draw 1), .int .u64 (dgt W64 draw 2), .int .u64 (dgt W64 draw 3)] 24) := ⟨_, rfl⟩
 have s_3 : v_3.heap.size = w.heap.size + 1 + 1 + 1 + 1 := by rw [e_3]; simp [s_2]
 have b_3 : Below v_2.heap.size v_2 v_3 := by rw [e_3]; exact (Below.refl _ _).alloc (Nat.le_refl _) _
 have f_3 : NumAt v_3 (w.heap.size + 1 + 1 + 1) draw := by rw [← s_2, e_3]; exact NumAt.new _ _ _ _ rfl
 obtain ⟨v_4, e_4⟩ : ∃ w9, w9 = v_3.alloc (.cells #[.int .u64 0, .int .u64 0, .int .u64 0, .int .u64 0, .int .u64 0, .int .u64 0, .int .u64 0, .int .u64 0] 41) := ⟨_, rfl⟩
 have s_4 : v_4.heap.size = w.heap.size + 1 + 1 + 1 + 1 + 1 := by rw [e_4]; simp [s_3]
 have b_4 : Below v_3.heap.size v_3 v_4 := by rw [e_4]; exact (Below.refl _ _).alloc (Nat.le_refl _) _
 have f_4 : UAt v_4 (w.heap.size + 1 + 1 + 1 + 1) 8 (fun _ => 0) := by rw [← s_3, e_4]; exact UAt.zero8 _ _
 have g_4 : FreeN v_4 (w.heap.size + 1 + 1 + 1 + 1) 8 := by rw [← s_3, e_4]; exact FreeN.new _ _ _ _
 obtain ⟨v_5, e_5⟩ : ∃ w9, w9 = v_4.alloc (.cells #[.int .u64 0, .int .u64 0, .int .u64 0, .int .u64 0] 24) := ⟨_, rfl⟩
 have s_5 : v_5.heap.size = w.heap.size + 1 + 1 + 1 + 1 + 1 + 1 := by rw [e_5]; simp [s_4]
 have b_5 : Below v_4.heap.size v_4 v_5 := by rw [e_5]; exact (Below.refl _ _).alloc (Nat.le_refl _) _
 have f_5 : NumAt v_5 (w.heap.size + 1 + 1 + 1 + 1 + 1) 0 := by rw [← s_4, e_5]; exact num_zero _ _
 rw [← e_0, ← e_1, ← e_2, ← e_3, ← e_4, ← e_5]
 have HG := (((((f_0.later b_1).later b_2).later b_3).later b_4).later b_5)
 have HS := (NumAt.later b_5 (NumAt.later b_4 (NumAt.later b_3 (NumAt.later b_2 f_1))))
 have HH := ((b_5.block _ (by omega)).trans ((b_4.block _ (by omega)).trans ((b_3.block _ (by omega)).trans f_2)))
 have HD := (NumAt.later b_5 (NumAt.later b_4 f_3))
 have HU := (uat_later (by omega) f_4 b_5)
 have HUF := (g_4.later b_5 (by omega))
 have HN := f_5
 have HB := Lib.hid (below_later (below_later (below_later (below_later (below_later b_0 b_1) b_2) b_3) b_4) b_5)
 have s9 := s_5
 clear e_0 s_0 b_0 f_0 e_1 s_1 b_1 f_1 e_2 s_2 b_2 f_2 e_3 s_3 b_3 f_3 e_4 s_4 b_4 f_4 e_5 s_5 b_5 f_5 g_4
 obtain ⟨GB, hGB⟩ : ∃ b, b = w.heap.size := ⟨_, rfl⟩
 rw [← hGB] at HG HS HH HD HU HUF HN s9 ⊢
 obtain ⟨SB, hSB⟩ : ∃ b, b = GB + 1 := ⟨_, rfl⟩
 rw [← hSB] at HS HH HD HU HUF HN s9 ⊢
 obtain ⟨HB9, hHB9⟩ : ∃ b, b = SB + 1 := ⟨_, rfl⟩
 rw [← hHB9] at HH HD HU HUF HN s9 ⊢
 obtain ⟨DB, hDB⟩ : ∃ b, b = HB9 + 1 := ⟨_, rfl⟩
 rw [← hDB] at HD HU HUF HN s9 ⊢
 obtain ⟨UB, hUB⟩ : ∃ b, b = DB + 1 := ⟨_, rfl⟩
 rw [← hUB] at HU HUF HN s9 ⊢
 obtain ⟨NB, hNB⟩ : ∃ b, b = UB + 1 := ⟨_, rfl⟩
 rw [← hNB] at HN s9 ⊢
 have HUW := Lib.hid (show w.heap.size ≤ UB by omega)
 have LUB := Lib.hid (show UB < v_5.heap.size by omega)
 have HG := Lib.hid HG
 have HS := Lib.hid HS
 have HH := Lib.hid HH
 have HD := Lib.hid HD
 have HU := Lib.hid HU
 have HUF := Lib.hid HUF
 have HN := Lib.hid HN
 clear s9 hGB hSB hHB9 hDB hUB hNB
 refine wp_region_lit ?_
 refine wpList_val rfl (run_value_of (loadG HG.out)) ?_
 refine wpList_val (v := .pointer (some ⟨GB, 8, none⟩)) rfl (by kernel_rfl) ?_
 refine wpList_val rfl (run_value_of (loadNo HG.out.2.2.1)) ?_
 refine wpList_val rfl (run_value_of (loadN HS.out)) ?_
 simp only [Act.put, pa, pb, pc]
 go_wp2_with fail
 refine (C1.out _).mono ?_
 rintro _ w1 ⟨rfl, hb⟩
 have HU := Lib.hid (uat_later LUB.out HU.out hb)
 have HG := Lib.hid (HG.out.later hb)
 have HS := Lib.hid (NumAt.later hb HS.out)
 have HH := Lib.hid ((hb.block _ (Array.getElem?_eq_some_iff.1 HH.out).1).trans HH.out)
 have HD := Lib.hid (NumAt.later hb HD.out)
 have HUF := Lib.hid (HUF.out.later hb LUB.out)
 have HN := Lib.hid (NumAt.later hb HN.out)
 have HB := Lib.hid (below_later HB.out hb)
 have LUB := Lib.hid (Nat.lt_of_lt_of_le LUB.out hb.size)
 clear hb
 go_upto_region 3 with fail
 obtain ⟨w2, e9⟩ : ∃ w9, w9 = w1.alloc (.cells #[.int .u64 (dgt W64 key 0), .int .u64 (dgt W64 key 1), .int .u64 (dgt W64 key 2), .int .u64 (dgt W64 key 3)] 24) := ⟨_, rfl⟩
 obtain ⟨KB, h9⟩ : ∃ b, b = w1.heap.size := ⟨_, rfl⟩
 have hb : Below w1.heap.size w1 w2 := by rw [e9]; exact (Below.refl _ _).alloc (Nat.le_refl _) _
 have HK := Lib.hid (show NumAt w2 KB key by rw [e9, h9]; exact NumAt.new _ _ _ _ rfl)
 have LKB := Lib.hid (show KB < w2.heap.size by rw [e9, h9]; simp)
 have WKB := Lib.hid (show w1.heap.size = KB from h9.symm)
 rw [← e9, ← h9]
 clear e9 h9
 have HU := Lib.hid (uat_later LUB.out HU.out hb)
 have HG := Lib.hid (HG.out.later hb)
 have HS := Lib.hid (NumAt.later hb HS.out)
 have HH := Lib.hid ((hb.block _ (Array.getElem?_eq_some_iff.1 HH.out).1).trans HH.out)
 have HD := Lib.hid (NumAt.later hb HD.out)
 have HUF := Lib.hid (HUF.out.later hb LUB.out)
 have HN := Lib.hid (NumAt.later hb HN.out)
 have HB := Lib.hid (below_later HB.out hb)
 have LUB := Lib.hid (Nat.lt_of_lt_of_le LUB.out hb.size)
 clear hb
 obtain ⟨y0, y1, y2, y3, y4, y5, y6, y7, y8, y9, y10, y11, y12, y13, y14, y15⟩ := grp16 HG.out
 obtain ⟨r0, r1, r2, r3⟩ := num4 HS.out
 obtain ⟨t0, t1, t2, t3⟩ := num4 HD.out
 obtain ⟨n0, n1, n2, n3⟩ := num4 HN.out
 go_wp2_with fail
 clear y0 y1 y2 y3 y4 y5 y6 y7 y8 y9 y10 y11 y12 y13 y14 y15 r0 r1 r2 r3 t0 t1 t2 t3 n0 n1 n2 n3
 obtain ⟨w3, e9⟩ : ∃ w9, w9 = w2.alloc (.cells #[.int .u64 (dgt W64 secret 0), .int .u64 (dgt W64 secret 1), .int .u64 (dgt W64 secret 2), .int .u64 (dgt W64 secret 3), .int .u64 (dgt W64 draw 0), .int .u64 (dgt W64 draw 1), .int .u64 (dgt W64 draw 2), .int .u64 (dgt W64 draw 3)] 24) := ⟨_, rfl⟩
 obtain ⟨XB, h9⟩ : ∃ b, b = w2.heap.size := ⟨_, rfl⟩
 have hb : Below w2.heap.size w2 w3 := by rw [e9]; exact (Below.refl _ _).alloc (Nat.le_refl _) _
 have HX := Lib.hid (show w3.heap[XB]? = some (.cells #[.int .u64 (dgt W64 secret 0), .int .u64 (dgt W64 secret 1), .int .u64 (dgt W64 secret 2), .int .u64 (dgt W64 secret 3), .int .u64 (dgt W64 draw 0), .int .u64 (dgt W64 draw 1), .int .u64 (dgt W64 draw 2), .int .u64 (dgt W64 draw 3)] 24 (0, 0)) by rw [e9, h9]; exact heap_alloc_new _ _)
 have LXB := Lib.hid (show XB < w3.heap.size by rw [e9, h9]; simp)
 have WXB := Lib.hid (show w2.heap.size = XB from h9.symm)
 rw [← e9, ← h9]
 clear e9 h9
 have HU := Lib.hid (uat_later LUB.out HU.out hb)
 have HG := Lib.hid (HG.out.later hb)
 have HS := Lib.hid (NumAt.later hb HS.out)
 have HH := Lib.hid ((hb.block _ (Array.getElem?_eq_some_iff.1 HH.out).1).trans HH.out)
 have HD := Lib.hid (NumAt.later hb HD.out)
 have HUF := Lib.hid (HUF.out.later hb LUB.out)
 have HN := Lib.hid (NumAt.later hb HN.out)
 have HB := Lib.hid (below_later HB.out hb)
 have HK := Lib.hid (NumAt.later hb HK.out)
 have LUB := Lib.hid (Nat.lt_of_lt_of_le LUB.out hb.size)
 have LKB := Lib.hid (Nat.lt_of_lt_of_le LKB.out hb.size)
 clear hb
 refine (CX.out _ XB _ (nums2 HX.out)).mono ?_
 rintro _ w4 ⟨rfl, hb⟩
 have HU := Lib.hid (uat_later LUB.out HU.out hb)
 have HG := Lib.hid (HG.out.later hb)
 have HS := Lib.hid (NumAt.later hb HS.out)
 have HH := Lib.hid ((hb.block _ (Array.getElem?_eq_some_iff.1 HH.out).1).trans HH.out)
 have HD := Lib.hid (NumAt.later hb HD.out)
 have HUF := Lib.hid (HUF.out.later hb LUB.out)
 have HN := Lib.hid (NumAt.later hb HN.out)
 have HB := Lib.hid (below_later HB.out hb)
 have HK := Lib.hid (NumAt.later hb HK.out)
 have LUB := Lib.hid (Nat.lt_of_lt_of_le LUB.out hb.size)
 have LKB := Lib.hid (Nat.lt_of_lt_of_le LKB.out hb.size)
 have LXB := Lib.hid (Nat.lt_of_lt_of_le LXB.out hb.size)
 clear hb
 clear HX
 go_upto_region 5 with fail
 refine wp_region_lit ?_
 refine wpList_val rfl (run_value_of (loadG HG.out)) ?_
 refine wpList_val (v := .pointer (some ⟨GB, 8, none⟩)) rfl (by kernel_rfl) ?_
 refine wpList_val rfl (run_value_of (loadNo HG.out.2.2.1)) ?_
 refine wpList_val rfl (run_value_of (loadN HD.out)) ?_
 simp only [Act.put, pa, pb, pc]
 go_wp2_with fail
 refine (C2.out _).mono ?_
 rintro _ w5 ⟨rfl, hb⟩
 have HU := Lib.hid (uat_later LUB.out HU.out hb)
 have HG := Lib.hid (HG.out.later hb)
 have HS := Lib.hid (NumAt.later hb HS.out)
 have HH := Lib.hid ((hb.block _ (Array.getElem?_eq_some_iff.1 HH.out).1).trans HH.out)
 have HD := Lib.hid (NumAt.later hb HD.out)
 have HUF := Lib.hid (HUF.out.later hb LUB.out)
 have HN := Lib.hid (NumAt.later hb HN.out)
 have HB := Lib.hid (below_later HB.out hb)
 have HK := Lib.hid (NumAt.later hb HK.out)
 have LUB := Lib.hid (Nat.lt_of_lt_of_le LUB.out hb.size)
 have LKB := Lib.hid (Nat.lt_of_lt_of_le LKB.out hb.size)
 have LXB := Lib.hid (Nat.lt_of_lt_of_le LXB.out hb.size)
 clear hb
 go_upto_region 6 with fail
 obtain ⟨w6, e9⟩ : ∃ w9, w9 = w5.alloc (.cells #[.int .u64 (dgt W64 r 0), .int .u64 (dgt W64 r 1), .int .u64 (dgt W64 r 2), .int .u64 (dgt W64 r 3)] 24) := ⟨_, rfl⟩
 obtain ⟨RB, h9⟩ : ∃ b, b = w5.heap.size := ⟨_, rfl⟩
 have hb : Below w5.heap.size w5 w6 := by rw [e9]; exact (Below.refl _ _).alloc (Nat.le_refl _) _
 have HR := Lib.hid (show NumAt w6 RB r by rw [e9, h9]; exact NumAt.new _ _ _ _ rfl)
 have LRB := Lib.hid (show RB < w6.heap.size by rw [e9, h9]; simp)
 have WRB := Lib.hid (show w5.heap.size = RB from h9.symm)
 rw [← e9, ← h9]
 clear e9 h9
 have HU := Lib.hid (uat_later LUB.out HU.out hb)
 have HG := Lib.hid (HG.out.later hb)
 have HS := Lib.hid (NumAt.later hb HS.out)
 have HH := Lib.hid ((hb.block _ (Array.getElem?_eq_some_iff.1 HH.out).1).trans HH.out)
 have HD := Lib.hid (NumAt.later hb HD.out)
 have HUF := Lib.hid (HUF.out.later hb LUB.out)
 have HN := Lib.hid (NumAt.later hb HN.out)
 have HB := Lib.hid (below_later HB.out hb)
 have HK := Lib.hid (NumAt.later hb HK.out)
 have LUB := Lib.hid (Nat.lt_of_lt_of_le LUB.out hb.size)
 have LKB := Lib.hid (Nat.lt_of_lt_of_le LKB.out hb.size)
 have LXB := Lib.hid (Nat.lt_of_lt_of_le LXB.out hb.size)
 clear hb
 refine wp_region_tree (.take 0 (.take 1 (.take 2 (.take 4 (.fork 3 (.fork 5 (.step 6 (.step 7 .done)) 6 (.step 5 (.step 7 .done))) 6 (.step 3 (.step 5 (.step 7 .done)))))))) (fun w8 => w8.heap[HB9]? = some (.cells T 31 (0, 0)) ∧ GrpAt w8 GB gp gq gg gh ∧ NumAt w8 KB key ∧ NumAt w8 RB r) (by kernel_rfl) (by kernel_rfl) (fun _ _ _ _ _ h => h) (⟨HH.out, HG.out, HK.out, HR.out⟩) (fun hHeld => ?_)
 obtain ⟨x1, e1⟩ : ∃ w9, w9 = w6.drew := ⟨_, rfl⟩
 rw [← e1]
 have hb : Below w6.heap.size w6 x1 := by rw [e1]; exact (Below.refl _ _).drew
 have HU := Lib.hid (uat_later LUB.out HU.out hb)
 have HG := Lib.hid (HG.out.later hb)
 have HS := Lib.hid (NumAt.later hb HS.out)
 have HH := Lib.hid ((hb.block _ (Array.getElem?_eq_some_iff.1 HH.out).1).trans HH.out)
 have HD := Lib.hid (NumAt.later hb HD.out)
 have HUF := Lib.hid (HUF.out.later hb LUB.out)
 have HN := Lib.hid (NumAt.later hb HN.out)
 have HB := Lib.hid (below_later HB.out hb)
 have HK := Lib.hid (NumAt.later hb HK.out)
 have HR := Lib.hid (NumAt.later hb HR.out)
 have LUB := Lib.hid (Nat.lt_of_lt_of_le LUB.out hb.size)
 have LKB := Lib.hid (Nat.lt_of_lt_of_le LKB.out hb.size)
 have LXB := Lib.hid (Nat.lt_of_lt_of_le LXB.out hb.size)
 have LRB := Lib.hid (Nat.lt_of_lt_of_le LRB.out hb.size)
 clear hb e1
 refine WT.take rfl (Or.inl ⟨by rfl, fun w8 hSw => run_value_of (loadG hSw.2.1)⟩) ?_
 try simp only [Act.put, pa, pb, pc]
 refine WT.take rfl (Or.inl ⟨by rfl, fun w8 hSw => run_value_of (loadN hSw.2.2.1)⟩) ?_
 try simp only [Act.put, pa, pb, pc]
 refine WT.take (v := .agg T) rfl (Or.inl ⟨by rfl, fun w8 hSw => by have h9 := loadH (h := h) (by rw [← HT.out]; exact hSw.1) HL.out; rw [← HT.out] at h9; exact run_value_of h9⟩) ?_
 try simp only [Act.put, pa, pb, pc]
 refine WT.take rfl (Or.inl ⟨by rfl, fun w8 hSw => run_value_of (loadN hSw.2.2.2)⟩) ?_
 try simp only [Act.put, pa, pb, pc]
 refine WT.fork rfl rfl (fun K hK => ?_) (fun K hK => ?_)
 rotate_left
 focus
  go_simp
  obtain ⟨x2, e9⟩ : ∃ w9, w9 = x1.alloc (.cells #[.int .u64 0, .int .u64 0, .int .u64 0, .int .u64 0] 24) := ⟨_, rfl⟩
  obtain ⟨CB, h9⟩ : ∃ b, b = x1.heap.size := ⟨_, rfl⟩
  have hb : Below x1.heap.size x1 x2 := by rw [e9]; exact (Below.refl _ _).alloc (Nat.le_refl _) _
  have HC := Lib.hid (show NumAt x2 CB 0 by rw [e9, h9]; exact num_zero _ _)
  have HCF := Lib.hid (show FreeN x2 CB 4 by rw [e9, h9]; exact FreeN.new _ _ _ _)
  have LCB := Lib.hid (show CB < x2.heap.size by rw [e9, h9]; simp)
  have WCB := Lib.hid (show x1.heap.size = CB from h9.symm)
  have NCB := Lib.hid (show GB ≠ CB ∧ SB ≠ CB ∧ HB9 ≠ CB ∧ DB ≠ CB ∧ UB ≠ CB ∧ KB ≠ CB ∧ RB ≠ CB by have a1 := HG.out.lt; have a2 := NumAt.lt HS.out; have a3 := (Array.getElem?_eq_some_iff.1 HH.out).1; have a4 := NumAt.lt HD.out; have a5 := LUB.out; have a6 := NumAt.lt HK.out; have a7 := NumAt.lt HR.out; omega)
  have BCB := Lib.hid (show w.heap.size ≤ CB by rw [h9]; exact HB.out.size)
  rw [← e9, ← h9]
  clear e9 h9
  have HU := Lib.hid (uat_later LUB.out HU.out hb)
  have HG := Lib.hid (HG.out.later hb)
  have HS := Lib.hid (NumAt.later hb HS.out)
  have HH := Lib.hid ((hb.block _ (Array.getElem?_eq_some_iff.1 HH.out).1).trans HH.out)
  have HD := Lib.hid (NumAt.later hb HD.out)
  have HUF := Lib.hid (HUF.out.later hb LUB.out)
  have HN := Lib.hid (NumAt.later hb HN.out)
  have HB := Lib.hid (below_later HB.out hb)
  have HK := Lib.hid (NumAt.later hb HK.out)
  have HR := Lib.hid (NumAt.later hb HR.out)
  have LUB := Lib.hid (Nat.lt_of_lt_of_le LUB.out hb.size)
  have LKB := Lib.hid (Nat.lt_of_lt_of_le LKB.out hb.size)
  have LXB := Lib.hid (Nat.lt_of_lt_of_le LXB.out hb.size)
  have LRB := Lib.hid (Nat.lt_of_lt_of_le LRB.out hb.size)
  clear hb
  refine hK.out _ _ (⟨HH.out, HG.out, HK.out, HR.out⟩) (fun hHeld => ?_)
  clear hK K
  try simp only [Act.put, pa, pb, pc]
  refine WT.step rfl (fun K hK => ?_)
  go_simp
  refine (CG.out _).mono ?_
  rintro _ x3 ⟨GB2, KB2, HB2, rfl, hg2, hk2, hh2, hb⟩
  have HU := Lib.hid (uat_later LUB.out HU.out hb)
  have HG := Lib.hid (HG.out.later hb)
  have HS := Lib.hid (NumAt.later hb HS.out)
  have HH := Lib.hid ((hb.block _ (Array.getElem?_eq_some_iff.1 HH.out).1).trans HH.out)
  have HD := Lib.hid (NumAt.later hb HD.out)
  have HUF := Lib.hid (HUF.out.later hb LUB.out)
  have HN := Lib.hid (NumAt.later hb HN.out)
  have HB := Lib.hid (below_later HB.out hb)
  have HK := Lib.hid (NumAt.later hb HK.out)
  have HR := Lib.hid (NumAt.later hb HR.out)
  have HC := Lib.hid (NumAt.later hb HC.out)
  have HCF := Lib.hid (HCF.out.later hb LCB.out)
  have LUB := Lib.hid (Nat.lt_of_lt_of_le LUB.out hb.size)
  have LKB := Lib.hid (Nat.lt_of_lt_of_le LKB.out hb.size)
  have LXB := Lib.hid (Nat.lt_of_lt_of_le LXB.out hb.size)
  have LRB := Lib.hid (Nat.lt_of_lt_of_le LRB.out hb.size)
  have LCB := Lib.hid (Nat.lt_of_lt_of_le LCB.out hb.size)
  clear hb
  have HG2 := Lib.hid hg2
  have HK2 := Lib.hid hk2
  have HH2 := Lib.hid hh2
  clear hg2 hk2 hh2
  refine hK.out _ _ (⟨HH.out, HG.out, HK.out, HR.out⟩) (fun hHeld => ?_)
  clear hK K
  try simp only [Act.put, pa, pb, pc]
  refine WT.step rfl (fun K hK => ?_)
  go_simp
  refine (CF.out _ _ _ _ HG2.out HK2.out HH2.out).mono ?_
  rintro _ x4 ⟨rfl, hb⟩
  have HU := Lib.hid (uat_later LUB.out HU.out hb)
  have HG := Lib.hid (HG.out.later hb)
  have HS := Lib.hid (NumAt.later hb HS.out)
  have HH := Lib.hid ((hb.block _ (Array.getElem?_eq_some_iff.1 HH.out).1).trans HH.out)
  have HD := Lib.hid (NumAt.later hb HD.out)
  have HUF := Lib.hid (HUF.out.later hb LUB.out)
  have HN := Lib.hid (NumAt.later hb HN.out)
  have HB := Lib.hid (below_later HB.out hb)
  have HK := Lib.hid (NumAt.later hb HK.out)
  have HR := Lib.hid (NumAt.later hb HR.out)
  have HC := Lib.hid (NumAt.later hb HC.out)
  have HCF := Lib.hid (HCF.out.later hb LCB.out)
  have HG2 := Lib.hid (HG2.out.later hb)
  have HK2 := Lib.hid (NumAt.later hb HK2.out)
  have HH2 := Lib.hid ((hb.block _ (Array.getElem?_eq_some_iff.1 HH2.out).1).trans HH2.out)
  have LUB := Lib.hid (Nat.lt_of_lt_of_le LUB.out hb.size)
  have LKB := Lib.hid (Nat.lt_of_lt_of_le LKB.out hb.size)
  have LXB := Lib.hid (Nat.lt_of_lt_of_le LXB.out hb.size)
  have LRB := Lib.hid (Nat.lt_of_lt_of_le LRB.out hb.size)
  have LCB := Lib.hid (Nat.lt_of_lt_of_le LCB.out hb.size)
  clear hb
  refine hK.out _ _ (⟨HH.out, HG.out, HK.out, HR.out⟩) (fun hHeld => ?_)
  clear hK K
  try simp only [Act.put, pa, pb, pc]
  refine WT.step rfl (fun K hK => ?_)
  obtain ⟨c0, c1, c2, c3, f0, f1, f2, f3⟩ := num4f HC.out HCF.out
  go_simp
  clear c0 c1 c2 c3 f0 f1 f2 f3
  obtain ⟨x5, e9⟩ : ∃ w9, w9 = (((x4.setCell ⟨CB, 0, none⟩ (.int .u64 (dgt W64 c 0))).setCell ⟨CB, 1, none⟩ (.int .u64 (dgt W64 c 1))).setCell ⟨CB, 2, none⟩ (.int .u64 (dgt W64 c 2))).setCell ⟨CB, 3, none⟩ (.int .u64 (dgt W64 c 3)) := ⟨_, rfl⟩
  have hgs : x4.grownBy x5 (some CB) := by rw [e9]; exact only_setS (only_setS (only_setS (only_setS (World.grownBy.refl x4 (some CB)) 0 _) 1 _) 2 _) 3 _
  have HC := Lib.hid (show NumAt x5 CB c by rw [e9]; exact NumAt.set4 HC.out c)
  rw [← e9]
  clear e9
  have HG := Lib.hid (grp_keep HG.out hgs NCB.out.1)
  have HS := Lib.hid (num_keep HS.out hgs NCB.out.2.1)
  have HH := Lib.hid (row_keep HH.out hgs NCB.out.2.2.1)
  have HD := Lib.hid (num_keep HD.out hgs NCB.out.2.2.2.1)
  have HU := Lib.hid (show UAt x5 UB 8 (fun _ => 0) from fun j hj => hgs.cell (HU.out j hj) (fun e => NCB.out.2.2.2.2.1 (by injection e)))
  have HUF := Lib.hid (show FreeN x5 UB 8 from fun j hj => (frozen_block (hgs.block UB LUB.out (fun e => NCB.out.2.2.2.2.1 (by injection e)))).trans (HUF.out j hj))
  have HK := Lib.hid (num_keep HK.out hgs NCB.out.2.2.2.2.2.1)
  have HR := Lib.hid (num_keep HR.out hgs NCB.out.2.2.2.2.2.2)
  have HB := Lib.hid (HB.out.grown hgs HB.out.size (fun k hk => by have e7 : CB = k := (by injection hk); rw [← e7]; exact BCB.out))
  have LUB := Lib.hid (Nat.lt_of_lt_of_le LUB.out hgs.size)
  clear hgs
  refine hK.out _ _ (⟨HH.out, HG.out, HK.out, HR.out⟩) (fun hHeld => ?_)
  clear hK K
  try simp only [Act.put, pa, pb, pc]
  refine WT.done ?_
 rotate_right
 focus
  go_simp
  refine (CG.out _).mono ?_
  rintro _ x2 ⟨GB2, KB2, HB2, rfl, hg2, hk2, hh2, hb⟩
  have HU := Lib.hid (uat_later LUB.out HU.out hb)
  have HG := Lib.hid (HG.out.later hb)
  have HS := Lib.hid (NumAt.later hb HS.out)
  have HH := Lib.hid ((hb.block _ (Array.getElem?_eq_some_iff.1 HH.out).1).trans HH.out)
  have HD := Lib.hid (NumAt.later hb HD.out)
  have HUF := Lib.hid (HUF.out.later hb LUB.out)
  have HN := Lib.hid (NumAt.later hb HN.out)
  have HB := Lib.hid (below_later HB.out hb)
  have HK := Lib.hid (NumAt.later hb HK.out)
  have HR := Lib.hid (NumAt.later hb HR.out)
  have LUB := Lib.hid (Nat.lt_of_lt_of_le LUB.out hb.size)
  have LKB := Lib.hid (Nat.lt_of_lt_of_le LKB.out hb.size)
  have LXB := Lib.hid (Nat.lt_of_lt_of_le LXB.out hb.size)
  have LRB := Lib.hid (Nat.lt_of_lt_of_le LRB.out hb.size)
  clear hb
  have HG2 := Lib.hid hg2
  have HK2 := Lib.hid hk2
  have HH2 := Lib.hid hh2
  clear hg2 hk2 hh2
  refine hK.out _ _ (⟨HH.out, HG.out, HK.out, HR.out⟩) (fun hHeld => ?_)
  clear hK K
  try simp only [Act.put, pa, pb, pc]
  refine WT.fork rfl rfl (fun K hK => ?_) (fun K hK => ?_)
  rotate_left
  focus
   go_simp
   obtain ⟨x3, e9⟩ : ∃ w9, w9 = x2.alloc (.cells #[.int .u64 0, .int .u64 0, .int .u64 0, .int .u64 0] 24) := ⟨_, rfl⟩
   obtain ⟨CB, h9⟩ : ∃ b, b = x2.heap.size := ⟨_, rfl⟩
   have hb : Below x2.heap.size x2 x3 := by rw [e9]; exact (Below.refl _ _).alloc (Nat.le_refl _) _
   have HC := Lib.hid (show NumAt x3 CB 0 by rw [e9, h9]; exact num_zero _ _)
   have HCF := Lib.hid (show FreeN x3 CB 4 by rw [e9, h9]; exact FreeN.new _ _ _ _)
   have LCB := Lib.hid (show CB < x3.heap.size by rw [e9, h9]; simp)
   have WCB := Lib.hid (show x2.heap.size = CB from h9.symm)
   have NCB := Lib.hid (show GB ≠ CB ∧ SB ≠ CB ∧ HB9 ≠ CB ∧ DB ≠ CB ∧ UB ≠ CB ∧ KB ≠ CB ∧ RB ≠ CB by have a1 := HG.out.lt; have a2 := NumAt.lt HS.out; have a3 := (Array.getElem?_eq_some_iff.1 HH.out).1; have a4 := NumAt.lt HD.out; have a5 := LUB.out; have a6 := NumAt.lt HK.out; have a7 := NumAt.lt HR.out; omega)
   have BCB := Lib.hid (show w.heap.size ≤ CB by rw [h9]; exact HB.out.size)
   rw [← e9, ← h9]
   clear e9 h9
   have HU := Lib.hid (uat_later LUB.out HU.out hb)
   have HG := Lib.hid (HG.out.later hb)
   have HS := Lib.hid (NumAt.later hb HS.out)
   have HH := Lib.hid ((hb.block _ (Array.getElem?_eq_some_iff.1 HH.out).1).trans HH.out)
   have HD := Lib.hid (NumAt.later hb HD.out)
   have HUF := Lib.hid (HUF.out.later hb LUB.out)
   have HN := Lib.hid (NumAt.later hb HN.out)
   have HB := Lib.hid (below_later HB.out hb)
   have HK := Lib.hid (NumAt.later hb HK.out)
   have HR := Lib.hid (NumAt.later hb HR.out)
   have HG2 := Lib.hid (HG2.out.later hb)
   have HK2 := Lib.hid (NumAt.later hb HK2.out)
   have HH2 := Lib.hid ((hb.block _ (Array.getElem?_eq_some_iff.1 HH2.out).1).trans HH2.out)
   have LUB := Lib.hid (Nat.lt_of_lt_of_le LUB.out hb.size)
   have LKB := Lib.hid (Nat.lt_of_lt_of_le LKB.out hb.size)
   have LXB := Lib.hid (Nat.lt_of_lt_of_le LXB.out hb.size)
   have LRB := Lib.hid (Nat.lt_of_lt_of_le LRB.out hb.size)
   clear hb
   refine hK.out _ _ (⟨HH.out, HG.out, HK.out, HR.out⟩) (fun hHeld => ?_)
   clear hK K
   try simp only [Act.put, pa, pb, pc]
   refine WT.step rfl (fun K hK => ?_)
   go_simp
   refine (CF.out _ _ _ _ HG2.out HK2.out HH2.out).mono ?_
   rintro _ x4 ⟨rfl, hb⟩
   have HU := Lib.hid (uat_later LUB.out HU.out hb)
   have HG := Lib.hid (HG.out.later hb)
   have HS := Lib.hid (NumAt.later hb HS.out)
   have HH := Lib.hid ((hb.block _ (Array.getElem?_eq_some_iff.1 HH.out).1).trans HH.out)
   have HD := Lib.hid (NumAt.later hb HD.out)
   have HUF := Lib.hid (HUF.out.later hb LUB.out)
   have HN := Lib.hid (NumAt.later hb HN.out)
   have HB := Lib.hid (below_later HB.out hb)
   have HK := Lib.hid (NumAt.later hb HK.out)
   have HR := Lib.hid (NumAt.later hb HR.out)
   have HG2 := Lib.hid (HG2.out.later hb)
   have HK2 := Lib.hid (NumAt.later hb HK2.out)
   have HH2 := Lib.hid ((hb.block _ (Array.getElem?_eq_some_iff.1 HH2.out).1).trans HH2.out)
   have HC := Lib.hid (NumAt.later hb HC.out)
   have HCF := Lib.hid (HCF.out.later hb LCB.out)
   have LUB := Lib.hid (Nat.lt_of_lt_of_le LUB.out hb.size)
   have LKB := Lib.hid (Nat.lt_of_lt_of_le LKB.out hb.size)
   have LXB := Lib.hid (Nat.lt_of_lt_of_le LXB.out hb.size)
   have LRB := Lib.hid (Nat.lt_of_lt_of_le LRB.out hb.size)
   have LCB := Lib.hid (Nat.lt_of_lt_of_le LCB.out hb.size)
   clear hb
   refine hK.out _ _ (⟨HH.out, HG.out, HK.out, HR.out⟩) (fun hHeld => ?_)
   clear hK K
   try simp only [Act.put, pa, pb, pc]
   refine WT.step rfl (fun K hK => ?_)
   obtain ⟨c0, c1, c2, c3, f0, f1, f2, f3⟩ := num4f HC.out HCF.out
   go_simp
   clear c0 c1 c2 c3 f0 f1 f2 f3
   obtain ⟨x5, e9⟩ : ∃ w9, w9 = (((x4.setCell ⟨CB, 0, none⟩ (.int .u64 (dgt W64 c 0))).setCell ⟨CB, 1, none⟩ (.int .u64 (dgt W64 c 1))).setCell ⟨CB, 2, none⟩ (.int .u64 (dgt W64 c 2))).setCell ⟨CB, 3, none⟩ (.int .u64 (dgt W64 c 3)) := ⟨_, rfl⟩
   have hgs : x4.grownBy x5 (some CB) := by rw [e9]; exact only_setS (only_setS (only_setS (only_setS (World.grownBy.refl x4 (some CB)) 0 _) 1 _) 2 _) 3 _
   have HC := Lib.hid (show NumAt x5 CB c by rw [e9]; exact NumAt.set4 HC.out c)
   rw [← e9]
   clear e9
   have HG := Lib.hid (grp_keep HG.out hgs NCB.out.1)
   have HS := Lib.hid (num_keep HS.out hgs NCB.out.2.1)
   have HH := Lib.hid (row_keep HH.out hgs NCB.out.2.2.1)
   have HD := Lib.hid (num_keep HD.out hgs NCB.out.2.2.2.1)
   have HU := Lib.hid (show UAt x5 UB 8 (fun _ => 0) from fun j hj => hgs.cell (HU.out j hj) (fun e => NCB.out.2.2.2.2.1 (by injection e)))
   have HUF := Lib.hid (show FreeN x5 UB 8 from fun j hj => (frozen_block (hgs.block UB LUB.out (fun e => NCB.out.2.2.2.2.1 (by injection e)))).trans (HUF.out j hj))
   have HK := Lib.hid (num_keep HK.out hgs NCB.out.2.2.2.2.2.1)
   have HR := Lib.hid (num_keep HR.out hgs NCB.out.2.2.2.2.2.2)
   have HB := Lib.hid (HB.out.grown hgs HB.out.size (fun k hk => by have e7 : CB = k := (by injection hk); rw [← e7]; exact BCB.out))
   have LUB := Lib.hid (Nat.lt_of_lt_of_le LUB.out hgs.size)
   clear hgs
   refine hK.out _ _ (⟨HH.out, HG.out, HK.out, HR.out⟩) (fun hHeld => ?_)
   clear hK K
   try simp only [Act.put, pa, pb, pc]
   refine WT.done ?_
  rotate_right
  focus
   go_simp
   refine (CF.out _ _ _ _ HG2.out HK2.out HH2.out).mono ?_
   rintro _ x3 ⟨rfl, hb⟩
   have HU := Lib.hid (uat_later LUB.out HU.out hb)
   have HG := Lib.hid (HG.out.later hb)
   have HS := Lib.hid (NumAt.later hb HS.out)
   have HH := Lib.hid ((hb.block _ (Array.getElem?_eq_some_iff.1 HH.out).1).trans HH.out)
   have HD := Lib.hid (NumAt.later hb HD.out)
   have HUF := Lib.hid (HUF.out.later hb LUB.out)
   have HN := Lib.hid (NumAt.later hb HN.out)
   have HB := Lib.hid (below_later HB.out hb)
   have HK := Lib.hid (NumAt.later hb HK.out)
   have HR := Lib.hid (NumAt.later hb HR.out)
   have HG2 := Lib.hid (HG2.out.later hb)
   have HK2 := Lib.hid (NumAt.later hb HK2.out)
   have HH2 := Lib.hid ((hb.block _ (Array.getElem?_eq_some_iff.1 HH2.out).1).trans HH2.out)
   have LUB := Lib.hid (Nat.lt_of_lt_of_le LUB.out hb.size)
   have LKB := Lib.hid (Nat.lt_of_lt_of_le LKB.out hb.size)
   have LXB := Lib.hid (Nat.lt_of_lt_of_le LXB.out hb.size)
   have LRB := Lib.hid (Nat.lt_of_lt_of_le LRB.out hb.size)
   clear hb
   refine hK.out _ _ (⟨HH.out, HG.out, HK.out, HR.out⟩) (fun hHeld => ?_)
   clear hK K
   try simp only [Act.put, pa, pb, pc]
   refine WT.step rfl (fun K hK => ?_)
   go_simp
   obtain ⟨x4, e9⟩ : ∃ w9, w9 = x3.alloc (.cells #[.int .u64 0, .int .u64 0, .int .u64 0, .int .u64 0] 24) := ⟨_, rfl⟩
   obtain ⟨CB, h9⟩ : ∃ b, b = x3.heap.size := ⟨_, rfl⟩
   have hb : Below x3.heap.size x3 x4 := by rw [e9]; exact (Below.refl _ _).alloc (Nat.le_refl _) _
   have HC := Lib.hid (show NumAt x4 CB 0 by rw [e9, h9]; exact num_zero _ _)
   have HCF := Lib.hid (show FreeN x4 CB 4 by rw [e9, h9]; exact FreeN.new _ _ _ _)
   have LCB := Lib.hid (show CB < x4.heap.size by rw [e9, h9]; simp)
   have WCB := Lib.hid (show x3.heap.size = CB from h9.symm)
   have NCB := Lib.hid (show GB ≠ CB ∧ SB ≠ CB ∧ HB9 ≠ CB ∧ DB ≠ CB ∧ UB ≠ CB ∧ KB ≠ CB ∧ RB ≠ CB by have a1 := HG.out.lt; have a2 := NumAt.lt HS.out; have a3 := (Array.getElem?_eq_some_iff.1 HH.out).1; have a4 := NumAt.lt HD.out; have a5 := LUB.out; have a6 := NumAt.lt HK.out; have a7 := NumAt.lt HR.out; omega)
   have BCB := Lib.hid (show w.heap.size ≤ CB by rw [h9]; exact HB.out.size)
   rw [← e9, ← h9]
   clear e9 h9
   have HU := Lib.hid (uat_later LUB.out HU.out hb)
   have HG := Lib.hid (HG.out.later hb)
   have HS := Lib.hid (NumAt.later hb HS.out)
   have HH := Lib.hid ((hb.block _ (Array.getElem?_eq_some_iff.1 HH.out).1).trans HH.out)
   have HD := Lib.hid (NumAt.later hb HD.out)
   have HUF := Lib.hid (HUF.out.later hb LUB.out)
   have HN := Lib.hid (NumAt.later hb HN.out)
   have HB := Lib.hid (below_later HB.out hb)
   have HK := Lib.hid (NumAt.later hb HK.out)
   have HR := Lib.hid (NumAt.later hb HR.out)
   have LUB := Lib.hid (Nat.lt_of_lt_of_le LUB.out hb.size)
   have LKB := Lib.hid (Nat.lt_of_lt_of_le LKB.out hb.size)
   have LXB := Lib.hid (Nat.lt_of_lt_of_le LXB.out hb.size)
   have LRB := Lib.hid (Nat.lt_of_lt_of_le LRB.out hb.size)
   clear hb
   refine hK.out _ _ (⟨HH.out, HG.out, HK.out, HR.out⟩) (fun hHeld => ?_)
   clear hK K
   try simp only [Act.put, pa, pb, pc]
   refine WT.step rfl (fun K hK => ?_)
   obtain ⟨c0, c1, c2, c3, f0, f1, f2, f3⟩ := num4f HC.out HCF.out
   go_simp
   clear c0 c1 c2 c3 f0 f1 f2 f3
   obtain ⟨x5, e9⟩ : ∃ w9, w9 = (((x4.setCell ⟨CB, 0, none⟩ (.int .u64 (dgt W64 c 0))).setCell ⟨CB, 1, none⟩ (.int .u64 (dgt W64 c 1))).setCell ⟨CB, 2, none⟩ (.int .u64 (dgt W64 c 2))).setCell ⟨CB, 3, none⟩ (.int .u64 (dgt W64 c 3)) := ⟨_, rfl⟩
   have hgs : x4.grownBy x5 (some CB) := by rw [e9]; exact only_setS (only_setS (only_setS (only_setS (World.grownBy.refl x4 (some CB)) 0 _) 1 _) 2 _) 3 _
   have HC := Lib.hid (show NumAt x5 CB c by rw [e9]; exact NumAt.set4 HC.out c)
   rw [← e9]
   clear e9
   have HG := Lib.hid (grp_keep HG.out hgs NCB.out.1)
   have HS := Lib.hid (num_keep HS.out hgs NCB.out.2.1)
   have HH := Lib.hid (row_keep HH.out hgs NCB.out.2.2.1)
   have HD := Lib.hid (num_keep HD.out hgs NCB.out.2.2.2.1)
   have HU := Lib.hid (show UAt x5 UB 8 (fun _ => 0) from fun j hj => hgs.cell (HU.out j hj) (fun e => NCB.out.2.2.2.2.1 (by injection e)))
   have HUF := Lib.hid (show FreeN x5 UB 8 from fun j hj => (frozen_block (hgs.block UB LUB.out (fun e => NCB.out.2.2.2.2.1 (by injection e)))).trans (HUF.out j hj))
   have HK := Lib.hid (num_keep HK.out hgs NCB.out.2.2.2.2.2.1)
   have HR := Lib.hid (num_keep HR.out hgs NCB.out.2.2.2.2.2.2)
   have HB := Lib.hid (HB.out.grown hgs HB.out.size (fun k hk => by have e7 : CB = k := (by injection hk); rw [← e7]; exact BCB.out))
   have LUB := Lib.hid (Nat.lt_of_lt_of_le LUB.out hgs.size)
   clear hgs
   refine hK.out _ _ (⟨HH.out, HG.out, HK.out, HR.out⟩) (fun hHeld => ?_)
   clear hK K
   try simp only [Act.put, pa, pb, pc]
   refine WT.done ?_
 all_goals (
  clear hHeld
  go_upto_region 7 with fail
  refine wp_region_lit ?_
  refine wpList_val rfl (run_value_of (loadG HG.out)) ?_
  refine wpList_val rfl (run_value_of (loadN HS.out)) ?_
  refine wpList_val rfl (run_value_of (loadN HC.out)) ?_
  simp only [Act.put, pa, pb, pc]
  go_wp2_with fail
  refine (CM.out _).mono ?_
  rintro _ x6 ⟨rfl, hb⟩
  have HU := Lib.hid (uat_later LUB.out HU.out hb)
  have HG := Lib.hid (HG.out.later hb)
  have HS := Lib.hid (NumAt.later hb HS.out)
  have HH := Lib.hid ((hb.block _ (Array.getElem?_eq_some_iff.1 HH.out).1).trans HH.out)
  have HD := Lib.hid (NumAt.later hb HD.out)
  have HUF := Lib.hid (HUF.out.later hb LUB.out)
  have HB := Lib.hid (below_later HB.out hb)
  have HK := Lib.hid (NumAt.later hb HK.out)
  have HR := Lib.hid (NumAt.later hb HR.out)
  have HC := Lib.hid (NumAt.later hb HC.out)
  have LUB := Lib.hid (Nat.lt_of_lt_of_le LUB.out hb.size)
  clear hb
  go_upto_region 8 with fail
  obtain ⟨x7, e9⟩ : ∃ w9, w9 = x6.alloc (.cells #[.int .u64 (dgt W64 p 0), .int .u64 (dgt W64 p 1), .int .u64 (dgt W64 p 2), .int .u64 (dgt W64 p 3)] 24) := ⟨_, rfl⟩
  obtain ⟨TB, h9⟩ : ∃ b, b = x6.heap.size := ⟨_, rfl⟩
  have hb : Below x6.heap.size x6 x7 := by rw [e9]; exact (Below.refl _ _).alloc (Nat.le_refl _) _
  have HP := Lib.hid (show NumAt x7 TB p by rw [e9, h9]; exact NumAt.new _ _ _ _ rfl)
  have HPF := Lib.hid (show FreeN x7 TB 4 by rw [e9, h9]; exact FreeN.new _ _ _ _)
  have LTB := Lib.hid (show TB < x7.heap.size by rw [e9, h9]; simp)
  have WTB := Lib.hid (show x6.heap.size = TB from h9.symm)
  have NTB := Lib.hid (show UB ≠ TB ∧ CB ≠ TB by have a5 := LUB.out; have a6 := NumAt.lt HC.out; omega)
  have BTB := Lib.hid (show w.heap.size ≤ TB by rw [h9]; exact HB.out.size)
  rw [← e9, ← h9]
  clear e9 h9
  have HU := Lib.hid (uat_later LUB.out HU.out hb)
  have HG := Lib.hid (HG.out.later hb)
  have HS := Lib.hid (NumAt.later hb HS.out)
  have HH := Lib.hid ((hb.block _ (Array.getElem?_eq_some_iff.1 HH.out).1).trans HH.out)
  have HD := Lib.hid (NumAt.later hb HD.out)
  have HUF := Lib.hid (HUF.out.later hb LUB.out)
  have HB := Lib.hid (below_later HB.out hb)
  have HK := Lib.hid (NumAt.later hb HK.out)
  have HR := Lib.hid (NumAt.later hb HR.out)
  have HC := Lib.hid (NumAt.later hb HC.out)
  have LUB := Lib.hid (Nat.lt_of_lt_of_le LUB.out hb.size)
  clear hb
  refine wp_region_lit ?_
  refine wpList_val rfl (run_value_of (loadG HG.out)) ?_
  refine wpList_val rfl (run_value_of (loadN HD.out)) ?_
  refine wpList_val rfl (run_value_of (loadN HP.out)) ?_
  simp only [Act.put, pa, pb, pc]
  go_wp2_with fail
  refine (CA.out _).mono ?_
  rintro _ x8 ⟨rfl, hb⟩
  have HU := Lib.hid (uat_later LUB.out HU.out hb)
  have HG := Lib.hid (HG.out.later hb)
  have HS := Lib.hid (NumAt.later hb HS.out)
  have HH := Lib.hid ((hb.block _ (Array.getElem?_eq_some_iff.1 HH.out).1).trans HH.out)
  have HD := Lib.hid (NumAt.later hb HD.out)
  have HUF := Lib.hid (HUF.out.later hb LUB.out)
  have HB := Lib.hid (below_later HB.out hb)
  have HK := Lib.hid (NumAt.later hb HK.out)
  have HR := Lib.hid (NumAt.later hb HR.out)
  have HC := Lib.hid (NumAt.later hb HC.out)
  have HP := Lib.hid (NumAt.later hb HP.out)
  have HPF := Lib.hid (HPF.out.later hb LTB.out)
  have LUB := Lib.hid (Nat.lt_of_lt_of_le LUB.out hb.size)
  have LTB := Lib.hid (Nat.lt_of_lt_of_le LTB.out hb.size)
  clear hb
  obtain ⟨c0, c1, c2, c3, f0, f1, f2, f3⟩ := num4f HP.out HPF.out
  go_upto_region 9 with fail
  clear c0 c1 c2 c3 f0 f1 f2 f3
  obtain ⟨x9, e9⟩ : ∃ w9, w9 = (((x8.setCell ⟨TB, 0, none⟩ (.int .u64 (dgt W64 s 0))).setCell ⟨TB, 1, none⟩ (.int .u64 (dgt W64 s 1))).setCell ⟨TB, 2, none⟩ (.int .u64 (dgt W64 s 2))).setCell ⟨TB, 3, none⟩ (.int .u64 (dgt W64 s 3)) := ⟨_, rfl⟩
  have hgs : x8.grownBy x9 (some TB) := by rw [e9]; exact only_setS (only_setS (only_setS (only_setS (World.grownBy.refl x8 (some TB)) 0 _) 1 _) 2 _) 3 _
  have HP := Lib.hid (show NumAt x9 TB s by rw [e9]; exact NumAt.set4 HP.out s)
  rw [← e9]
  clear e9
  have HC := Lib.hid (num_keep HC.out hgs NTB.out.2)
  have HU := Lib.hid (show UAt x9 UB 8 (fun _ => 0) from fun j hj => hgs.cell (HU.out j hj) (fun e => NTB.out.1 (by injection e)))
  have HUF := Lib.hid (show FreeN x9 UB 8 from fun j hj => (frozen_block (hgs.block UB LUB.out (fun e => NTB.out.1 (by injection e)))).trans (HUF.out j hj))
  have HB := Lib.hid (HB.out.grown hgs HB.out.size (fun k hk => by have e7 : TB = k := (by injection hk); rw [← e7]; exact BTB.out))
  clear hgs
  obtain ⟨r0, r1, r2, r3⟩ := num4 HC.out
  obtain ⟨t0, t1, t2, t3⟩ := num4 HP.out
  obtain ⟨u0, u1, u2, u3, u4, u5, u6, u7⟩ := uat8 HU.out
  obtain ⟨f0, f1, f2, f3, f4, f5, f6, f7⟩ := free8 HUF.out
  go_wp2_with fail
  clear r0 r1 r2 r3 t0 t1 t2 t3 u0 u1 u2 u3 u4 u5 u6 u7 f0 f1 f2 f3 f4 f5 f6 f7
  obtain ⟨g0, g1, g2, g3, g4, g5, g6, g7⟩ := uat8 (uat_set8 HU.out (dgt W64 c 0) (dgt W64 c 1) (dgt W64 c 2) (dgt W64 c 3) (dgt W64 s 0) (dgt W64 s 1) (dgt W64 s 2) (dgt W64 s 3))
  have HB := Lib.hid (below_set8 HB.out HUW (.int .u64 (dgt W64 c 0)) (.int .u64 (dgt W64 c 1)) (.int .u64 (dgt W64 c 2)) (.int .u64 (dgt W64 c 3)) (.int .u64 (dgt W64 s 0)) (.int .u64 (dgt W64 s 1)) (.int .u64 (dgt W64 s 2)) (.int .u64 (dgt W64 s 3)))
  refine bodyPost_ret (v := .tuple #[.agg #[.int .u64 (dgt W64 c 0), .int .u64 (dgt W64 c 1), .int .u64 (dgt W64 c 2), .int .u64 (dgt W64 c 3), .int .u64 (dgt W64 s 0), .int .u64 (dgt W64 s 1), .int .u64 (dgt W64 s 2), .int .u64 (dgt W64 s 3)], .int .i64 0]) ?_ rfl ⟨rfl, HB.out⟩
  simp [results, Try.results19, go_sem, at0, g0, g1, g2, g3, g4, g5, g6, g7])
end Go.Proofs.Ytpoocnkflmimdaa
