/- The law's Setting -/
import Derived.Test.YtpoocnkflmimdaaLPWG43
namespace Go.Proofs.Ytpoocnkflmimdaa
open Go.ChangeShapes Go.WideShapes Go.ChangeAt Go.RowKit
/-- What holds of a cast that is a setting. -/
structure SetOk (w : World) (gp gq gg lg n : Nat) (fa se : Int) (sk : List (Nat × Nat)) (a : Option Addr) : Prop where
  may : mayG gp gg
  prime : isPrime gp gq
  log : lg ≠ 0
  le : n ≤ 7
  keys : ∀ k ∈ sk, k.1 ≠ 0 ∧ k.2 ≠ 0 ∧ k.1 < gq ∧ k.2 < gq
  nodes : 0 < n → ∃ b o, a = some ⟨b, o, none⟩ ∧ KeysAt w b o (sk.map fun k => (gg ^ k.1 % gp, (gg ^ lg % gp) ^ k.2 % gp))
  ok : settingB gp gq gg (gg ^ lg % gp) fa se n (sk.map fun k => (gg ^ k.1 % gp, (gg ^ lg % gp) ^ k.2 % gp)) = true
def zero19 : Array Value := #[.int .u64 0, .int .u64 0, .int .u64 0, .int .u64 0, .int .u64 0, .int .u64 0, .int .u64 0, .int .u64 0, .int .u64 0, .int .u64 0, .int .u64 0, .int .u64 0, .int .u64 0, .int .u64 0, .int .u64 0, .int .u64 0, .int .i64 0, .int .i64 0, .slice none 0 0]
theorem info_st : (Try.prog.info? 34).map (·.size) = some 19 := by kernel_rfl
theorem results_cell_tmp {P : Program} {fn : Func} {p t : Tmp} {ty : TypeId} (h : fn.results = #[.cell p ty, .tmp t]) (tmps : Array Value) (w : World) (g : Nat) (tt : TypeId) (cs : Array Value) (fr : Nat × Nat) (d : TypeDesc)
    (hp : tmps.getD p undef = .pointer (some ⟨g, 0, none⟩)) (hg : w.heap[g]? = some (.cells cs tt fr)) (hu : P.underlying ty = some d) (hd : (match d with | .struct _ | .array _ _ => true | _ => false) = true) (hi : (P.info? ty).map (·.size) = some cs.size) (v : Value) (hv : tmps.getD t undef = v) :
    (results fn tmps).run P w = .ok (.tuple #[.agg cs, v]) w := by
  have hp' : tmps[p]?.getD undef = .pointer (some ⟨g, 0, none⟩) := by simpa using hp
  have hv' : tmps[t]?.getD undef = v := by simpa using hv
  simp [results, h, hp', hv', asAddr, run_loadVar_row w g tt ty cs fr d hg hu hd hi]
theorem grp_setH {w : World} {b gp gq gg gh : Nat} (h : GrpAt w b gp gq gg gh) (x : Nat) : GrpAt ((((w.setCell ⟨b, 12, none⟩ (.int .u64 (dgt W64 x 0))).setCell ⟨b, 13, none⟩ (.int .u64 (dgt W64 x 1))).setCell ⟨b, 14, none⟩ (.int .u64 (dgt W64 x 2))).setCell ⟨b, 15, none⟩ (.int .u64 (dgt W64 x 3))) b gp gq gg x := by
  have oth : ∀ {o y : Nat}, o + 4 ≤ 12 → NumO w b o y → NumO ((((w.setCell ⟨b, 12, none⟩ (.int .u64 (dgt W64 x 0))).setCell ⟨b, 13, none⟩ (.int .u64 (dgt W64 x 1))).setCell ⟨b, 14, none⟩ (.int .u64 (dgt W64 x 2))).setCell ⟨b, 15, none⟩ (.int .u64 (dgt W64 x 3))) b o y := fun {o y} ho hy j hj => by
    rw [World.cell?_setCell_other _ _ _ _ (by intro h; injection h; omega), World.cell?_setCell_other _ _ _ _ (by intro h; injection h; omega), World.cell?_setCell_other _ _ _ _ (by intro h; injection h; omega), World.cell?_setCell_other _ _ _ _ (by intro h; injection h; omega)]
    exact hy j hj
  obtain ⟨h0, h1, h2, h3⟩ := h
  refine ⟨oth (by decide) h0, oth (by decide) h1, oth (by decide) h2, fun j hj => ?_⟩
  rcases (show j = 0 ∨ j = 1 ∨ j = 2 ∨ j = 3 by omega) with rfl | rfl | rfl | rfl
  · rw [World.cell?_setCell_other _ _ _ _ (by intro h; injection h; omega), World.cell?_setCell_other _ _ _ _ (by intro h; injection h; omega), World.cell?_setCell_other _ _ _ _ (by intro h; injection h; omega)]
    refine World.cell?_setCell_same _ _ _ (u := .int .u64 (dgt W64 gh 0)) ?_
    exact h3 0 (by decide)
  · rw [World.cell?_setCell_other _ _ _ _ (by intro h; injection h; omega), World.cell?_setCell_other _ _ _ _ (by intro h; injection h; omega)]
    refine World.cell?_setCell_same _ _ _ (u := .int .u64 (dgt W64 gh 1)) ?_
    rw [World.cell?_setCell_other _ _ _ _ (by intro h; injection h; omega)]
    exact h3 1 (by decide)
  · rw [World.cell?_setCell_other _ _ _ _ (by intro h; injection h; omega)]
    refine World.cell?_setCell_same _ _ _ (u := .int .u64 (dgt W64 gh 2)) ?_
    rw [World.cell?_setCell_other _ _ _ _ (by intro h; injection h; omega), World.cell?_setCell_other _ _ _ _ (by intro h; injection h; omega)]
    exact h3 2 (by decide)
  · refine World.cell?_setCell_same _ _ _ (u := .int .u64 (dgt W64 gh 3)) ?_
    rw [World.cell?_setCell_other _ _ _ _ (by intro h; injection h; omega), World.cell?_setCell_other _ _ _ _ (by intro h; injection h; omega), World.cell?_setCell_other _ _ _ _ (by intro h; injection h; omega)]
    exact h3 3 (by decide)
theorem zero19_one : zero19.all (·.oneCell') = true := by unfold zero19; simp [Value.oneCell']
theorem zero_set : Value.agg zero19 = setV 0 0 0 0 0 0 (.slice none 0 0) := by
  unfold setV zero19
  simp only [dgt_zero]
  rfl
set_option linter.unusedSimpArgs false in
set_option linter.unusedVariables false in
set_option maxRecDepth 20000 in
set_option maxHeartbeats 4000000 in
theorem lawset_nomay {gp gq gg gh lg n cap : Nat} {fa se : Int} {ao : Option Addr} {sk : List (Nat × Nat)} (hm : ¬ mayG gp gg) (hgp : gp < M256) (hgq : gq < M256) (hgg : gg < M256) (hlg : lg < M256) (hfa : -9223372036854775808 ≤ fa ∧ fa ≤ 9223372036854775807) (hse : -9223372036854775808 ≤ se ∧ se ≤ 9223372036854775807) (hsk : ∀ k ∈ sk, k.1 < M256 ∧ k.2 < M256) (hn : n = sk.length) (hcap : n ≤ cap) (hcm : cap ≤ maxLen) (w : World) (hk : 0 < n → ∃ b o, ao = some ⟨b, o, none⟩ ∧ KeysAt w b o sk) :
    Calls Try.prog 5 #[castV gp gq gg gh lg fa se (.slice ao n cap)] w fun e w' => ∃ (p q g h : Nat) (f s : Int) (a : Option Addr) (n9 c9 : Nat) (ok : Bool), e = .returned (.tuple #[setV p q g h f s (.slice a n9 c9), .bool ok]) ∧ (ok = true → p = gp ∧ q = gq ∧ g = gg ∧ h = gg ^ lg % gp ∧ f = fa ∧ s = se ∧ n9 = n ∧ SetOk w' gp gq gg lg n fa se sk a) ∧ Below w.heap.size w w' := by
  obtain ⟨h, hh⟩ : ∃ x, x = 0 := ⟨_, rfl⟩
  have hh2 : numV 0 = numV h := by rw [hh]
  have CE := Lib.hid (fun W => by have h9 := gexp_no (gq := gq) (gg := gg) (gh := gh) hm hgg hlg hgp W; rw [hh2] at h9; unfold numV words at h9; exact h9)
  have hmm := hcm
  unfold maxLen at hmm
  clear hh hh2 hm hgp hgq hgg hlg hfa hse hsk hn hk
  unfold castV
  go_enter Try.func5, Try.ntmps5
  go_upto_region 1 with fail
  obtain ⟨v_0, e0⟩ : ∃ w9, w9 = w.alloc (.cells #[.int .u64 (dgt W64 gp 0), .int .u64 (dgt W64 gp 1), .int .u64 (dgt W64 gp 2), .int .u64 (dgt W64 gp 3), .int .u64 (dgt W64 gq 0), .int .u64 (dgt W64 gq 1), .int .u64 (dgt W64 gq 2), .int .u64 (dgt W64 gq 3), .int .u64 (dgt W64 gg 0), .int .u64 (dgt W64 gg 1), .int .u64 (dgt W64 gg 2), .int .u64 (dgt W64 gg 3), .int .u64 (dgt W64 gh 0), .int .u64 (dgt W64 gh 1), .int .u64 (dgt W64 gh 2), .int .u64 (dgt W64 gh 3), .int .u64 (dgt W64 lg 0), .int .u64 (dgt W64 lg 1), .int .u64 (dgt W64 lg 2), .int .u64 (dgt W64 lg 3), .int .i64 fa, .int .i64 se, .slice ao n cap] 29) := ⟨_, rfl⟩
  obtain ⟨v_1, e1⟩ : ∃ w9, w9 = v_0.alloc (.cells #[.int .u64 0, .int .u64 0, .int .u64 0, .int .u64 0, .int .u64 0, .int .u64 0, .int .u64 0, .int .u64 0, .int .u64 0, .int .u64 0, .int .u64 0, .int .u64 0, .int .u64 0, .int .u64 0, .int .u64 0, .int .u64 0, .int .i64 0, .int .i64 0, .slice none 0 0] 34) := ⟨_, rfl⟩
  have s0 : v_0.heap.size = w.heap.size + 1 := by rw [e0]; simp
  have s1 : v_1.heap.size = w.heap.size + 1 + 1 := by rw [e1]; simp [s0]
  have b0 : Below w.heap.size w v_0 := by rw [e0]; exact (Below.refl _ _).alloc (Nat.le_refl _) _
  have b1 : Below v_0.heap.size v_0 v_1 := by rw [e1]; exact (Below.refl _ _).alloc (Nat.le_refl _) _
  have f0 : GrpAt v_0 w.heap.size gp gq gg gh := by rw [e0]; exact cast_grp
  have f1 : NumO v_0 w.heap.size 16 lg := fun j hj => by rw [e0, cell_of_row _ _ _ _ _ _ (heap_alloc_new _ _)]; rcases (show j = 0 ∨ j = 1 ∨ j = 2 ∨ j = 3 by omega) with rfl | rfl | rfl | rfl <;> rfl
  have f20 : v_0.cell? ⟨w.heap.size, 20, none⟩ = some (.int .i64 fa) := by rw [e0, cell_of_row _ _ _ _ _ _ (heap_alloc_new _ _)]; rfl
  have f21 : v_0.cell? ⟨w.heap.size, 21, none⟩ = some (.int .i64 se) := by rw [e0, cell_of_row _ _ _ _ _ _ (heap_alloc_new _ _)]; rfl
  have f22 : v_0.cell? ⟨w.heap.size, 22, none⟩ = some (.slice ao n cap) := by rw [e0, cell_of_row _ _ _ _ _ _ (heap_alloc_new _ _)]; rfl
  have f9 : v_1.heap[w.heap.size + 1]? = some (.cells zero19 34 (0, 0)) := by rw [← s0, e1]; exact heap_alloc_new _ _
  rw [← e0, ← e1]
  obtain ⟨CB, hCB⟩ : ∃ b, b = w.heap.size := ⟨_, rfl⟩
  rw [← hCB] at f0 f1 f20 f21 f22 f9 s1 ⊢
  obtain ⟨UB, hUB⟩ : ∃ b, b = CB + 1 := ⟨_, rfl⟩
  rw [← hUB] at f9 s1 ⊢
  have HC := Lib.hid (f0.later b1)
  have HL := Lib.hid (NumO.later b1 f1)
  have C20 := Lib.hid (cell_on f20 b1)
  have C21 := Lib.hid (cell_on f21 b1)
  have C22 := Lib.hid (cell_on f22 b1)
  have HU := Lib.hid f9
  have HB := Lib.hid (below_later b0 b1)
  have HUW := Lib.hid (show w.heap.size ≤ UB by omega)
  clear e0 e1 s0 s1 b0 b1 f0 f1 f20 f21 f22 f9 hCB hUB
  refine wp_region_lit ?_
  refine wpList_val (v := .pointer (some ⟨CB, 0, none⟩)) rfl (by kernel_rfl) ?_
  refine wpList_val rfl (run_value_of (loadG HC.out)) ?_
  simp only [Act.put, pa, pb, pc]
  go_upto_region 2 with fail
  obtain ⟨v_2, e9⟩ : ∃ w9, w9 = v_1.alloc (.cells #[.int .u64 (dgt W64 gp 0), .int .u64 (dgt W64 gp 1), .int .u64 (dgt W64 gp 2), .int .u64 (dgt W64 gp 3), .int .u64 (dgt W64 gq 0), .int .u64 (dgt W64 gq 1), .int .u64 (dgt W64 gq 2), .int .u64 (dgt W64 gq 3), .int .u64 (dgt W64 gg 0), .int .u64 (dgt W64 gg 1), .int .u64 (dgt W64 gg 2), .int .u64 (dgt W64 gg 3), .int .u64 (dgt W64 gh 0), .int .u64 (dgt W64 gh 1), .int .u64 (dgt W64 gh 2), .int .u64 (dgt W64 gh 3)] 26) := ⟨_, rfl⟩
  obtain ⟨GB, h9⟩ : ∃ b, b = v_1.heap.size := ⟨_, rfl⟩
  have hb : Below v_1.heap.size v_1 v_2 := by rw [e9]; exact (Below.refl _ _).alloc (Nat.le_refl _) _
  have HG := Lib.hid (show GrpAt v_2 GB gp gq gg gh by rw [e9, h9]; exact GrpAt.new _ _ _ _ _ _)
  have HGF := Lib.hid (show FreeN v_2 GB 16 by rw [e9, h9]; exact FreeN.new _ _ _ _)
  have LGB := Lib.hid (show GB < v_2.heap.size by rw [e9, h9]; simp)
  have WGB := Lib.hid (show v_1.heap.size = GB from h9.symm)
  have nGB := Lib.hid (show CB ≠ GB ∧ UB ≠ GB by have a1 := HC.out.lt; have a2 := (Array.getElem?_eq_some_iff.1 HU.out).1; omega)
  have bGB := Lib.hid (show w.heap.size ≤ GB by rw [h9]; exact HB.out.size)
  rw [← e9, ← h9]
  clear e9 h9
  have HL := Lib.hid (NumO.later hb HL.out)
  have HC := Lib.hid (HC.out.later hb)
  have C20 := Lib.hid (cell_on C20.out hb)
  have C21 := Lib.hid (cell_on C21.out hb)
  have C22 := Lib.hid (cell_on C22.out hb)
  have HU := Lib.hid ((hb.block _ (Array.getElem?_eq_some_iff.1 HU.out).1).trans HU.out)
  have HB := Lib.hid (below_later HB.out hb)
  clear hb
  refine wp_region_lit ?_
  refine wpList_val rfl (run_value_of (loadG HG.out)) ?_
  refine wpList_val (v := .pointer (some ⟨GB, 8, none⟩)) rfl (by kernel_rfl) ?_
  refine wpList_val rfl (run_value_of (loadNo HG.out.2.2.1)) ?_
  refine wpList_val (v := .pointer (some ⟨CB, 16, none⟩)) rfl (by kernel_rfl) ?_
  refine wpList_val rfl (run_value_of (loadNo HL.out)) ?_
  simp only [Act.put, pa, pb, pc]
  go_wp2_with fail
  refine (CE.out _).mono ?_
  rintro _ v_3 ⟨rfl, hb⟩
  have HL := Lib.hid (NumO.later hb HL.out)
  have HC := Lib.hid (HC.out.later hb)
  have C20 := Lib.hid (cell_on C20.out hb)
  have C21 := Lib.hid (cell_on C21.out hb)
  have C22 := Lib.hid (cell_on C22.out hb)
  have HU := Lib.hid ((hb.block _ (Array.getElem?_eq_some_iff.1 HU.out).1).trans HU.out)
  have HB := Lib.hid (below_later HB.out hb)
  have HG := Lib.hid (HG.out.later hb)
  have HGF := Lib.hid (HGF.out.later hb LGB.out)
  have LGB := Lib.hid (Nat.lt_of_lt_of_le LGB.out hb.size)
  clear hb
  go_upto_region 3 with fail
  obtain ⟨v_4, e9⟩ : ∃ w9, w9 = v_3.alloc (.cells #[.int .u64 (dgt W64 h 0), .int .u64 (dgt W64 h 1), .int .u64 (dgt W64 h 2), .int .u64 (dgt W64 h 3)] 24) := ⟨_, rfl⟩
  obtain ⟨HB9, h9⟩ : ∃ b, b = v_3.heap.size := ⟨_, rfl⟩
  have hb : Below v_3.heap.size v_3 v_4 := by rw [e9]; exact (Below.refl _ _).alloc (Nat.le_refl _) _
  have HH := Lib.hid (show NumAt v_4 HB9 h by rw [e9, h9]; exact NumAt.new _ _ _ _ rfl)
  have LHB9 := Lib.hid (show HB9 < v_4.heap.size by rw [e9, h9]; simp)
  have WHB9 := Lib.hid (show v_3.heap.size = HB9 from h9.symm)
  have nHB := Lib.hid (show HB9 ≠ GB by have a1 := LGB.out; omega)
  rw [← e9, ← h9]
  clear e9 h9
  have HL := Lib.hid (NumO.later hb HL.out)
  have HC := Lib.hid (HC.out.later hb)
  have C20 := Lib.hid (cell_on C20.out hb)
  have C21 := Lib.hid (cell_on C21.out hb)
  have C22 := Lib.hid (cell_on C22.out hb)
  have HU := Lib.hid ((hb.block _ (Array.getElem?_eq_some_iff.1 HU.out).1).trans HU.out)
  have HB := Lib.hid (below_later HB.out hb)
  have HG := Lib.hid (HG.out.later hb)
  have HGF := Lib.hid (HGF.out.later hb LGB.out)
  have LGB := Lib.hid (Nat.lt_of_lt_of_le LGB.out hb.size)
  clear hb
  go_upto_region 4 with fail
  refine wp_region_lit ?_
  refine wpList_val (v := .agg zero19) rfl (by kernel_rfl) ?_
  refine wpList_store_row rfl _ _ _ rfl UB _ _ _ HU.out rfl rfl (by rw [info_st]; rfl) rfl zero19_one ?_
  simp only [Act.put, pa, pb, pc]
  obtain ⟨w9, e9⟩ : ∃ w9, w9 = v_4.setRow UB zero19 := ⟨_, rfl⟩
  have hr9 : w9.heap[UB]? = some (.cells zero19 34 (0, 0)) := by rw [e9]; exact setRow_heap _ _ _ _ _ _ HU.out
  have hb9 : Below w.heap.size w w9 := by rw [e9]; exact below_setRow HB.out HUW.out _
  have HR9 := Lib.hid hr9
  have HB9b := Lib.hid hb9
  rw [← e9]
  clear e9 hr9 hb9
  go_wp2_with fail
  refine bodyPost_ret (results_cell_tmp rfl _ w9 UB _ _ _ _ rfl HR9.out Try.underlying34 rfl (by rw [info_st]; rfl) (.bool false) rfl) rfl ⟨0, 0, 0, 0, 0, 0, none, 0, 0, false, by rw [zero_set], (fun h => by cases h), HB9b.out⟩
set_option linter.unusedSimpArgs false in
set_option linter.unusedVariables false in
set_option maxRecDepth 20000 in
set_option maxHeartbeats 4000000 in
theorem lawset_log {gp gq gg gh lg n cap : Nat} {fa se : Int} {ao : Option Addr} {sk : List (Nat × Nat)} (hm : mayG gp gg) (h0 : lg = 0) (hgp : gp < M256) (hgq : gq < M256) (hgg : gg < M256) (hlg : lg < M256) (hfa : -9223372036854775808 ≤ fa ∧ fa ≤ 9223372036854775807) (hse : -9223372036854775808 ≤ se ∧ se ≤ 9223372036854775807) (hsk : ∀ k ∈ sk, k.1 < M256 ∧ k.2 < M256) (hn : n = sk.length) (hcap : n ≤ cap) (hcm : cap ≤ maxLen) (w : World) (hk : 0 < n → ∃ b o, ao = some ⟨b, o, none⟩ ∧ KeysAt w b o sk) :
    Calls Try.prog 5 #[castV gp gq gg gh lg fa se (.slice ao n cap)] w fun e w' => ∃ (p q g h : Nat) (f s : Int) (a : Option Addr) (n9 c9 : Nat) (ok : Bool), e = .returned (.tuple #[setV p q g h f s (.slice a n9 c9), .bool ok]) ∧ (ok = true → p = gp ∧ q = gq ∧ g = gg ∧ h = gg ^ lg % gp ∧ f = fa ∧ s = se ∧ n9 = n ∧ SetOk w' gp gq gg lg n fa se sk a) ∧ Below w.heap.size w w' := by
  have hgpp : 0 < gp := by have := hm.1; omega
  obtain ⟨h, hh⟩ : ∃ x, x = gg ^ lg % gp := ⟨_, rfl⟩
  have hhM : h < M256 := by rw [hh]; exact Nat.lt_trans (Nat.mod_lt _ hgpp) hgp
  have CE := Lib.hid (fun W => by have h9 := gexp_yes (gq := gq) (gg := gg) (gh := gh) hm hgg hlg hgp W; rw [← hh] at h9; unfold numV words at h9; exact h9)
  have hmm := hcm
  unfold maxLen at hmm
  have heq := eq_num lg 0 hlg (by decide)
  rw [decide_eq_true h0] at heq
  have z0 : ((dgt W64 0 0 : Nat) : Int) = 0 := by rw [dgt_zero]; rfl
  have z1 : ((dgt W64 0 1 : Nat) : Int) = 0 := by rw [dgt_zero]; rfl
  have z2 : ((dgt W64 0 2 : Nat) : Int) = 0 := by rw [dgt_zero]; rfl
  have z3 : ((dgt W64 0 3 : Nat) : Int) = 0 := by rw [dgt_zero]; rfl
  simp only [z0, z1, z2, z3] at heq
  clear z0 z1 z2 z3
  clear hh hm hgp hgq hgg hlg hfa hse hsk hn hk hgpp hhM h0
  unfold castV
  go_enter Try.func5, Try.ntmps5
  go_upto_region 1 with fail
  obtain ⟨v_0, e0⟩ : ∃ w9, w9 = w.alloc (.cells #[.int .u64 (dgt W64 gp 0), .int .u64 (dgt W64 gp 1), .int .u64 (dgt W64 gp 2), .int .u64 (dgt W64 gp 3), .int .u64 (dgt W64 gq 0), .int .u64 (dgt W64 gq 1), .int .u64 (dgt W64 gq 2), .int .u64 (dgt W64 gq 3), .int .u64 (dgt W64 gg 0), .int .u64 (dgt W64 gg 1), .int .u64 (dgt W64 gg 2), .int .u64 (dgt W64 gg 3), .int .u64 (dgt W64 gh 0), .int .u64 (dgt W64 gh 1), .int .u64 (dgt W64 gh 2), .int .u64 (dgt W64 gh 3), .int .u64 (dgt W64 lg 0), .int .u64 (dgt W64 lg 1), .int .u64 (dgt W64 lg 2), .int .u64 (dgt W64 lg 3), .int .i64 fa, .int .i64 se, .slice ao n cap] 29) := ⟨_, rfl⟩
  obtain ⟨v_1, e1⟩ : ∃ w9, w9 = v_0.alloc (.cells #[.int .u64 0, .int .u64 0, .int .u64 0, .int .u64 0, .int .u64 0, .int .u64 0, .int .u64 0, .int .u64 0, .int .u64 0, .int .u64 0, .int .u64 0, .int .u64 0, .int .u64 0, .int .u64 0, .int .u64 0, .int .u64 0, .int .i64 0, .int .i64 0, .slice none 0 0] 34) := ⟨_, rfl⟩
  have s0 : v_0.heap.size = w.heap.size + 1 := by rw [e0]; simp
  have s1 : v_1.heap.size = w.heap.size + 1 + 1 := by rw [e1]; simp [s0]
  have b0 : Below w.heap.size w v_0 := by rw [e0]; exact (Below.refl _ _).alloc (Nat.le_refl _) _
  have b1 : Below v_0.heap.size v_0 v_1 := by rw [e1]; exact (Below.refl _ _).alloc (Nat.le_refl _) _
  have f0 : GrpAt v_0 w.heap.size gp gq gg gh := by rw [e0]; exact cast_grp
  have f1 : NumO v_0 w.heap.size 16 lg := fun j hj => by rw [e0, cell_of_row _ _ _ _ _ _ (heap_alloc_new _ _)]; rcases (show j = 0 ∨ j = 1 ∨ j = 2 ∨ j = 3 by omega) with rfl | rfl | rfl | rfl <;> rfl
  have f20 : v_0.cell? ⟨w.heap.size, 20, none⟩ = some (.int .i64 fa) := by rw [e0, cell_of_row _ _ _ _ _ _ (heap_alloc_new _ _)]; rfl
  have f21 : v_0.cell? ⟨w.heap.size, 21, none⟩ = some (.int .i64 se) := by rw [e0, cell_of_row _ _ _ _ _ _ (heap_alloc_new _ _)]; rfl
  have f22 : v_0.cell? ⟨w.heap.size, 22, none⟩ = some (.slice ao n cap) := by rw [e0, cell_of_row _ _ _ _ _ _ (heap_alloc_new _ _)]; rfl
  have f9 : v_1.heap[w.heap.size + 1]? = some (.cells zero19 34 (0, 0)) := by rw [← s0, e1]; exact heap_alloc_new _ _
  rw [← e0, ← e1]
  obtain ⟨CB, hCB⟩ : ∃ b, b = w.heap.size := ⟨_, rfl⟩
  rw [← hCB] at f0 f1 f20 f21 f22 f9 s1 ⊢
  obtain ⟨UB, hUB⟩ : ∃ b, b = CB + 1 := ⟨_, rfl⟩
  rw [← hUB] at f9 s1 ⊢
  have HC := Lib.hid (f0.later b1)
  have HL := Lib.hid (NumO.later b1 f1)
  have C20 := Lib.hid (cell_on f20 b1)
  have C21 := Lib.hid (cell_on f21 b1)
  have C22 := Lib.hid (cell_on f22 b1)
  have HU := Lib.hid f9
  have HB := Lib.hid (below_later b0 b1)
  have HUW := Lib.hid (show w.heap.size ≤ UB by omega)
  clear e0 e1 s0 s1 b0 b1 f0 f1 f20 f21 f22 f9 hCB hUB
  refine wp_region_lit ?_
  refine wpList_val (v := .pointer (some ⟨CB, 0, none⟩)) rfl (by kernel_rfl) ?_
  refine wpList_val rfl (run_value_of (loadG HC.out)) ?_
  simp only [Act.put, pa, pb, pc]
  go_upto_region 2 with fail
  obtain ⟨v_2, e9⟩ : ∃ w9, w9 = v_1.alloc (.cells #[.int .u64 (dgt W64 gp 0), .int .u64 (dgt W64 gp 1), .int .u64 (dgt W64 gp 2), .int .u64 (dgt W64 gp 3), .int .u64 (dgt W64 gq 0), .int .u64 (dgt W64 gq 1), .int .u64 (dgt W64 gq 2), .int .u64 (dgt W64 gq 3), .int .u64 (dgt W64 gg 0), .int .u64 (dgt W64 gg 1), .int .u64 (dgt W64 gg 2), .int .u64 (dgt W64 gg 3), .int .u64 (dgt W64 gh 0), .int .u64 (dgt W64 gh 1), .int .u64 (dgt W64 gh 2), .int .u64 (dgt W64 gh 3)] 26) := ⟨_, rfl⟩
  obtain ⟨GB, h9⟩ : ∃ b, b = v_1.heap.size := ⟨_, rfl⟩
  have hb : Below v_1.heap.size v_1 v_2 := by rw [e9]; exact (Below.refl _ _).alloc (Nat.le_refl _) _
  have HG := Lib.hid (show GrpAt v_2 GB gp gq gg gh by rw [e9, h9]; exact GrpAt.new _ _ _ _ _ _)
  have HGF := Lib.hid (show FreeN v_2 GB 16 by rw [e9, h9]; exact FreeN.new _ _ _ _)
  have LGB := Lib.hid (show GB < v_2.heap.size by rw [e9, h9]; simp)
  have WGB := Lib.hid (show v_1.heap.size = GB from h9.symm)
  have nGB := Lib.hid (show CB ≠ GB ∧ UB ≠ GB by have a1 := HC.out.lt; have a2 := (Array.getElem?_eq_some_iff.1 HU.out).1; omega)
  have bGB := Lib.hid (show w.heap.size ≤ GB by rw [h9]; exact HB.out.size)
  rw [← e9, ← h9]
  clear e9 h9
  have HL := Lib.hid (NumO.later hb HL.out)
  have HC := Lib.hid (HC.out.later hb)
  have C20 := Lib.hid (cell_on C20.out hb)
  have C21 := Lib.hid (cell_on C21.out hb)
  have C22 := Lib.hid (cell_on C22.out hb)
  have HU := Lib.hid ((hb.block _ (Array.getElem?_eq_some_iff.1 HU.out).1).trans HU.out)
  have HB := Lib.hid (below_later HB.out hb)
  clear hb
  refine wp_region_lit ?_
  refine wpList_val rfl (run_value_of (loadG HG.out)) ?_
  refine wpList_val (v := .pointer (some ⟨GB, 8, none⟩)) rfl (by kernel_rfl) ?_
  refine wpList_val rfl (run_value_of (loadNo HG.out.2.2.1)) ?_
  refine wpList_val (v := .pointer (some ⟨CB, 16, none⟩)) rfl (by kernel_rfl) ?_
  refine wpList_val rfl (run_value_of (loadNo HL.out)) ?_
  simp only [Act.put, pa, pb, pc]
  go_wp2_with fail
  refine (CE.out _).mono ?_
  rintro _ v_3 ⟨rfl, hb⟩
  have HL := Lib.hid (NumO.later hb HL.out)
  have HC := Lib.hid (HC.out.later hb)
  have C20 := Lib.hid (cell_on C20.out hb)
  have C21 := Lib.hid (cell_on C21.out hb)
  have C22 := Lib.hid (cell_on C22.out hb)
  have HU := Lib.hid ((hb.block _ (Array.getElem?_eq_some_iff.1 HU.out).1).trans HU.out)
  have HB := Lib.hid (below_later HB.out hb)
  have HG := Lib.hid (HG.out.later hb)
  have HGF := Lib.hid (HGF.out.later hb LGB.out)
  have LGB := Lib.hid (Nat.lt_of_lt_of_le LGB.out hb.size)
  clear hb
  go_upto_region 3 with fail
  obtain ⟨v_4, e9⟩ : ∃ w9, w9 = v_3.alloc (.cells #[.int .u64 (dgt W64 h 0), .int .u64 (dgt W64 h 1), .int .u64 (dgt W64 h 2), .int .u64 (dgt W64 h 3)] 24) := ⟨_, rfl⟩
  obtain ⟨HB9, h9⟩ : ∃ b, b = v_3.heap.size := ⟨_, rfl⟩
  have hb : Below v_3.heap.size v_3 v_4 := by rw [e9]; exact (Below.refl _ _).alloc (Nat.le_refl _) _
  have HH := Lib.hid (show NumAt v_4 HB9 h by rw [e9, h9]; exact NumAt.new _ _ _ _ rfl)
  have LHB9 := Lib.hid (show HB9 < v_4.heap.size by rw [e9, h9]; simp)
  have WHB9 := Lib.hid (show v_3.heap.size = HB9 from h9.symm)
  have nHB := Lib.hid (show HB9 ≠ GB by have a1 := LGB.out; omega)
  rw [← e9, ← h9]
  clear e9 h9
  have HL := Lib.hid (NumO.later hb HL.out)
  have HC := Lib.hid (HC.out.later hb)
  have C20 := Lib.hid (cell_on C20.out hb)
  have C21 := Lib.hid (cell_on C21.out hb)
  have C22 := Lib.hid (cell_on C22.out hb)
  have HU := Lib.hid ((hb.block _ (Array.getElem?_eq_some_iff.1 HU.out).1).trans HU.out)
  have HB := Lib.hid (below_later HB.out hb)
  have HG := Lib.hid (HG.out.later hb)
  have HGF := Lib.hid (HGF.out.later hb LGB.out)
  have LGB := Lib.hid (Nat.lt_of_lt_of_le LGB.out hb.size)
  clear hb
  have l0 := HL.out 0 (by decide)
  have l1 := HL.out 1 (by decide)
  have l2 := HL.out 2 (by decide)
  have l3 := HL.out 3 (by decide)
  simp only [Nat.reduceAdd] at l0 l1 l2 l3
  have q22 := C22.out
  go_upto_region 4 with fail
  refine wp_region_lit ?_
  refine wpList_val (v := .agg zero19) rfl (by kernel_rfl) ?_
  refine wpList_store_row rfl _ _ _ rfl UB _ _ _ HU.out rfl rfl (by rw [info_st]; rfl) rfl zero19_one ?_
  simp only [Act.put, pa, pb, pc]
  obtain ⟨w9, e9⟩ : ∃ w9, w9 = v_4.setRow UB zero19 := ⟨_, rfl⟩
  have hr9 : w9.heap[UB]? = some (.cells zero19 34 (0, 0)) := by rw [e9]; exact setRow_heap _ _ _ _ _ _ HU.out
  have hb9 : Below w.heap.size w w9 := by rw [e9]; exact below_setRow HB.out HUW.out _
  have HR9 := Lib.hid hr9
  have HB9b := Lib.hid hb9
  rw [← e9]
  clear e9 hr9 hb9
  go_wp2_with fail
  refine bodyPost_ret (results_cell_tmp rfl _ w9 UB _ _ _ _ rfl HR9.out Try.underlying34 rfl (by rw [info_st]; rfl) (.bool false) rfl) rfl ⟨0, 0, 0, 0, 0, 0, none, 0, 0, false, by rw [zero_set], (fun h => by cases h), HB9b.out⟩
set_option linter.unusedSimpArgs false in
set_option linter.unusedVariables false in
set_option maxRecDepth 20000 in
set_option maxHeartbeats 4000000 in
theorem lawset_many {gp gq gg gh lg n cap : Nat} {fa se : Int} {ao : Option Addr} {sk : List (Nat × Nat)} (hm : mayG gp gg) (h0 : lg ≠ 0) (h1 : 7 < n) (hgp : gp < M256) (hgq : gq < M256) (hgg : gg < M256) (hlg : lg < M256) (hfa : -9223372036854775808 ≤ fa ∧ fa ≤ 9223372036854775807) (hse : -9223372036854775808 ≤ se ∧ se ≤ 9223372036854775807) (hsk : ∀ k ∈ sk, k.1 < M256 ∧ k.2 < M256) (hn : n = sk.length) (hcap : n ≤ cap) (hcm : cap ≤ maxLen) (w : World) (hk : 0 < n → ∃ b o, ao = some ⟨b, o, none⟩ ∧ KeysAt w b o sk) :
    Calls Try.prog 5 #[castV gp gq gg gh lg fa se (.slice ao n cap)] w fun e w' => ∃ (p q g h : Nat) (f s : Int) (a : Option Addr) (n9 c9 : Nat) (ok : Bool), e = .returned (.tuple #[setV p q g h f s (.slice a n9 c9), .bool ok]) ∧ (ok = true → p = gp ∧ q = gq ∧ g = gg ∧ h = gg ^ lg % gp ∧ f = fa ∧ s = se ∧ n9 = n ∧ SetOk w' gp gq gg lg n fa se sk a) ∧ Below w.heap.size w w' := by
  have hgpp : 0 < gp := by have := hm.1; omega
  obtain ⟨h, hh⟩ : ∃ x, x = gg ^ lg % gp := ⟨_, rfl⟩
  have hhM : h < M256 := by rw [hh]; exact Nat.lt_trans (Nat.mod_lt _ hgpp) hgp
  have CE := Lib.hid (fun W => by have h9 := gexp_yes (gq := gq) (gg := gg) (gh := gh) hm hgg hlg hgp W; rw [← hh] at h9; unfold numV words at h9; exact h9)
  have hmm := hcm
  unfold maxLen at hmm
  have heq := eq_num lg 0 hlg (by decide)
  rw [decide_eq_false h0] at heq
  have z0 : ((dgt W64 0 0 : Nat) : Int) = 0 := by rw [dgt_zero]; rfl
  have z1 : ((dgt W64 0 1 : Nat) : Int) = 0 := by rw [dgt_zero]; rfl
  have z2 : ((dgt W64 0 2 : Nat) : Int) = 0 := by rw [dgt_zero]; rfl
  have z3 : ((dgt W64 0 3 : Nat) : Int) = 0 := by rw [dgt_zero]; rfl
  simp only [z0, z1, z2, z3] at heq
  clear z0 z1 z2 z3
  have h1I : (7 : Int) < (n : Int) := by omega
  clear h1
  clear hh hm hgp hgq hgg hlg hfa hse hsk hn hk hgpp hhM h0
  unfold castV
  go_enter Try.func5, Try.ntmps5
  go_upto_region 1 with fail
  obtain ⟨v_0, e0⟩ : ∃ w9, w9 = w.alloc (.cells #[.int .u64 (dgt W64 gp 0), .int .u64 (dgt W64 gp 1), .int .u64 (dgt W64 gp 2), .int .u64 (dgt W64 gp 3), .int .u64 (dgt W64 gq 0), .int .u64 (dgt W64 gq 1), .int .u64 (dgt W64 gq 2), .int .u64 (dgt W64 gq 3), .int .u64 (dgt W64 gg 0), .int .u64 (dgt W64 gg 1), .int .u64 (dgt W64 gg 2), .int .u64 (dgt W64 gg 3), .int .u64 (dgt W64 gh 0), .int .u64 (dgt W64 gh 1), .int .u64 (dgt W64 gh 2), .int .u64 (dgt W64 gh 3), .int .u64 (dgt W64 lg 0), .int .u64 (dgt W64 lg 1), .int .u64 (dgt W64 lg 2), .int .u64 (dgt W64 lg 3), .int .i64 fa, .int .i64 se, .slice ao n cap] 29) := ⟨_, rfl⟩
  obtain ⟨v_1, e1⟩ : ∃ w9, w9 = v_0.alloc (.cells #[.int .u64 0, .int .u64 0, .int .u64 0, .int .u64 0, .int .u64 0, .int .u64 0, .int .u64 0, .int .u64 0, .int .u64 0, .int .u64 0, .int .u64 0, .int .u64 0, .int .u64 0, .int .u64 0, .int .u64 0, .int .u64 0, .int .i64 0, .int .i64 0, .slice none 0 0] 34) := ⟨_, rfl⟩
  have s0 : v_0.heap.size = w.heap.size + 1 := by rw [e0]; simp
  have s1 : v_1.heap.size = w.heap.size + 1 + 1 := by rw [e1]; simp [s0]
  have b0 : Below w.heap.size w v_0 := by rw [e0]; exact (Below.refl _ _).alloc (Nat.le_refl _) _
  have b1 : Below v_0.heap.size v_0 v_1 := by rw [e1]; exact (Below.refl _ _).alloc (Nat.le_refl _) _
  have f0 : GrpAt v_0 w.heap.size gp gq gg gh := by rw [e0]; exact cast_grp
  have f1 : NumO v_0 w.heap.size 16 lg := fun j hj => by rw [e0, cell_of_row _ _ _ _ _ _ (heap_alloc_new _ _)]; rcases (show j = 0 ∨ j = 1 ∨ j = 2 ∨ j = 3 by omega) with rfl | rfl | rfl | rfl <;> rfl
  have f20 : v_0.cell? ⟨w.heap.size, 20, none⟩ = some (.int .i64 fa) := by rw [e0, cell_of_row _ _ _ _ _ _ (heap_alloc_new _ _)]; rfl
  have f21 : v_0.cell? ⟨w.heap.size, 21, none⟩ = some (.int .i64 se) := by rw [e0, cell_of_row _ _ _ _ _ _ (heap_alloc_new _ _)]; rfl
  have f22 : v_0.cell? ⟨w.heap.size, 22, none⟩ = some (.slice ao n cap) := by rw [e0, cell_of_row _ _ _ _ _ _ (heap_alloc_new _ _)]; rfl
  have f9 : v_1.heap[w.heap.size + 1]? = some (.cells zero19 34 (0, 0)) := by rw [← s0, e1]; exact heap_alloc_new _ _
  rw [← e0, ← e1]
  obtain ⟨CB, hCB⟩ : ∃ b, b = w.heap.size := ⟨_, rfl⟩
  rw [← hCB] at f0 f1 f20 f21 f22 f9 s1 ⊢
  obtain ⟨UB, hUB⟩ : ∃ b, b = CB + 1 := ⟨_, rfl⟩
  rw [← hUB] at f9 s1 ⊢
  have HC := Lib.hid (f0.later b1)
  have HL := Lib.hid (NumO.later b1 f1)
  have C20 := Lib.hid (cell_on f20 b1)
  have C21 := Lib.hid (cell_on f21 b1)
  have C22 := Lib.hid (cell_on f22 b1)
  have HU := Lib.hid f9
  have HB := Lib.hid (below_later b0 b1)
  have HUW := Lib.hid (show w.heap.size ≤ UB by omega)
  clear e0 e1 s0 s1 b0 b1 f0 f1 f20 f21 f22 f9 hCB hUB
  refine wp_region_lit ?_
  refine wpList_val (v := .pointer (some ⟨CB, 0, none⟩)) rfl (by kernel_rfl) ?_
  refine wpList_val rfl (run_value_of (loadG HC.out)) ?_
  simp only [Act.put, pa, pb, pc]
  go_upto_region 2 with fail
  obtain ⟨v_2, e9⟩ : ∃ w9, w9 = v_1.alloc (.cells #[.int .u64 (dgt W64 gp 0), .int .u64 (dgt W64 gp 1), .int .u64 (dgt W64 gp 2), .int .u64 (dgt W64 gp 3), .int .u64 (dgt W64 gq 0), .int .u64 (dgt W64 gq 1), .int .u64 (dgt W64 gq 2), .int .u64 (dgt W64 gq 3), .int .u64 (dgt W64 gg 0), .int .u64 (dgt W64 gg 1), .int .u64 (dgt W64 gg 2), .int .u64 (dgt W64 gg 3), .int .u64 (dgt W64 gh 0), .int .u64 (dgt W64 gh 1), .int .u64 (dgt W64 gh 2), .int .u64 (dgt W64 gh 3)] 26) := ⟨_, rfl⟩
  obtain ⟨GB, h9⟩ : ∃ b, b = v_1.heap.size := ⟨_, rfl⟩
  have hb : Below v_1.heap.size v_1 v_2 := by rw [e9]; exact (Below.refl _ _).alloc (Nat.le_refl _) _
  have HG := Lib.hid (show GrpAt v_2 GB gp gq gg gh by rw [e9, h9]; exact GrpAt.new _ _ _ _ _ _)
  have HGF := Lib.hid (show FreeN v_2 GB 16 by rw [e9, h9]; exact FreeN.new _ _ _ _)
  have LGB := Lib.hid (show GB < v_2.heap.size by rw [e9, h9]; simp)
  have WGB := Lib.hid (show v_1.heap.size = GB from h9.symm)
  have nGB := Lib.hid (show CB ≠ GB ∧ UB ≠ GB by have a1 := HC.out.lt; have a2 := (Array.getElem?_eq_some_iff.1 HU.out).1; omega)
  have bGB := Lib.hid (show w.heap.size ≤ GB by rw [h9]; exact HB.out.size)
  rw [← e9, ← h9]
  clear e9 h9
  have HL := Lib.hid (NumO.later hb HL.out)
  have HC := Lib.hid (HC.out.later hb)
  have C20 := Lib.hid (cell_on C20.out hb)
  have C21 := Lib.hid (cell_on C21.out hb)
  have C22 := Lib.hid (cell_on C22.out hb)
  have HU := Lib.hid ((hb.block _ (Array.getElem?_eq_some_iff.1 HU.out).1).trans HU.out)
  have HB := Lib.hid (below_later HB.out hb)
  clear hb
  refine wp_region_lit ?_
  refine wpList_val rfl (run_value_of (loadG HG.out)) ?_
  refine wpList_val (v := .pointer (some ⟨GB, 8, none⟩)) rfl (by kernel_rfl) ?_
  refine wpList_val rfl (run_value_of (loadNo HG.out.2.2.1)) ?_
  refine wpList_val (v := .pointer (some ⟨CB, 16, none⟩)) rfl (by kernel_rfl) ?_
  refine wpList_val rfl (run_value_of (loadNo HL.out)) ?_
  simp only [Act.put, pa, pb, pc]
  go_wp2_with fail
  refine (CE.out _).mono ?_
  rintro _ v_3 ⟨rfl, hb⟩
  have HL := Lib.hid (NumO.later hb HL.out)
  have HC := Lib.hid (HC.out.later hb)
  have C20 := Lib.hid (cell_on C20.out hb)
  have C21 := Lib.hid (cell_on C21.out hb)
  have C22 := Lib.hid (cell_on C22.out hb)
  have HU := Lib.hid ((hb.block _ (Array.getElem?_eq_some_iff.1 HU.out).1).trans HU.out)
  have HB := Lib.hid (below_later HB.out hb)
  have HG := Lib.hid (HG.out.later hb)
  have HGF := Lib.hid (HGF.out.later hb LGB.out)
  have LGB := Lib.hid (Nat.lt_of_lt_of_le LGB.out hb.size)
  clear hb
  go_upto_region 3 with fail
  obtain ⟨v_4, e9⟩ : ∃ w9, w9 = v_3.alloc (.cells #[.int .u64 (dgt W64 h 0), .int .u64 (dgt W64 h 1), .int .u64 (dgt W64 h 2), .int .u64 (dgt W64 h 3)] 24) := ⟨_, rfl⟩
  obtain ⟨HB9, h9⟩ : ∃ b, b = v_3.heap.size := ⟨_, rfl⟩
  have hb : Below v_3.heap.size v_3 v_4 := by rw [e9]; exact (Below.refl _ _).alloc (Nat.le_refl _) _
  have HH := Lib.hid (show NumAt v_4 HB9 h by rw [e9, h9]; exact NumAt.new _ _ _ _ rfl)
  have LHB9 := Lib.hid (show HB9 < v_4.heap.size by rw [e9, h9]; simp)
  have WHB9 := Lib.hid (show v_3.heap.size = HB9 from h9.symm)
  have nHB := Lib.hid (show HB9 ≠ GB by have a1 := LGB.out; omega)
  rw [← e9, ← h9]
  clear e9 h9
  have HL := Lib.hid (NumO.later hb HL.out)
  have HC := Lib.hid (HC.out.later hb)
  have C20 := Lib.hid (cell_on C20.out hb)
  have C21 := Lib.hid (cell_on C21.out hb)
  have C22 := Lib.hid (cell_on C22.out hb)
  have HU := Lib.hid ((hb.block _ (Array.getElem?_eq_some_iff.1 HU.out).1).trans HU.out)
  have HB := Lib.hid (below_later HB.out hb)
  have HG := Lib.hid (HG.out.later hb)
  have HGF := Lib.hid (HGF.out.later hb LGB.out)
  have LGB := Lib.hid (Nat.lt_of_lt_of_le LGB.out hb.size)
  clear hb
  have l0 := HL.out 0 (by decide)
  have l1 := HL.out 1 (by decide)
  have l2 := HL.out 2 (by decide)
  have l3 := HL.out 3 (by decide)
  simp only [Nat.reduceAdd] at l0 l1 l2 l3
  have q22 := C22.out
  go_upto_region 4 with fail
  refine wp_region_lit ?_
  refine wpList_val (v := .agg zero19) rfl (by kernel_rfl) ?_
  refine wpList_store_row rfl _ _ _ rfl UB _ _ _ HU.out rfl rfl (by rw [info_st]; rfl) rfl zero19_one ?_
  simp only [Act.put, pa, pb, pc]
  obtain ⟨w9, e9⟩ : ∃ w9, w9 = v_4.setRow UB zero19 := ⟨_, rfl⟩
  have hr9 : w9.heap[UB]? = some (.cells zero19 34 (0, 0)) := by rw [e9]; exact setRow_heap _ _ _ _ _ _ HU.out
  have hb9 : Below w.heap.size w w9 := by rw [e9]; exact below_setRow HB.out HUW.out _
  have HR9 := Lib.hid hr9
  have HB9b := Lib.hid hb9
  rw [← e9]
  clear e9 hr9 hb9
  go_wp2_with fail
  refine bodyPost_ret (results_cell_tmp rfl _ w9 UB _ _ _ _ rfl HR9.out Try.underlying34 rfl (by rw [info_st]; rfl) (.bool false) rfl) rfl ⟨0, 0, 0, 0, 0, 0, none, 0, 0, false, by rw [zero_set], (fun h => by cases h), HB9b.out⟩
end Go.Proofs.Ytpoocnkflmimdaa
