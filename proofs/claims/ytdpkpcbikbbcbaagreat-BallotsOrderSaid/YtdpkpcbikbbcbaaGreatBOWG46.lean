/- Layer 22 (ballots) -/
import Derived.Test.YtdpkpcbikbbcbaaGreatBOWG41
import Derived.Test.YtdpkpcbikbbcbaaGreatBOWG45
set_option linter.unusedSimpArgs false
set_option linter.unusedVariables false
set_option maxHeartbeats 2000000
set_option maxRecDepth 20000
namespace Go.Proofs.YtdpkpcbikbbcbaaGreat
open Go.ChangeShapes Go.WideShapes Go.ChangeAt Go.RowKit
theorem SAt.row {w : World} {b gp gq gg gh : Nat} {fa se : Int} {v x y z : Value} {t : TypeId} (h : w.heap[b]? = some (.cells #[.int .u64 (jf jd gp 0), .int .u64 (jf jd gp 1), .int .u64 (jf jd gp 2), .int .u64 (jf jd gp 3), .int .u64 (jf jd gq 0), .int .u64 (jf jd gq 1), .int .u64 (jf jd gq 2), .int .u64 (jf jd gq 3), .int .u64 (jf jd gg 0), .int .u64 (jf jd gg 1), .int .u64 (jf jd gg 2), .int .u64 (jf jd gg 3), .int .u64 (jf jd gh 0), .int .u64 (jf jd gh 1), .int .u64 (jf jd gh 2), .int .u64 (jf jd gh 3), .int .i64 fa, .int .i64 se, v, x, y, z] t (0, 0))) : SAt w b gp gq gg gh fa se v :=
 ⟨Zg fun j u hj => by
  rw [cell_of_row _ _ _ _ _ _ h]; have hl := (List.getElem?_eq_some_iff.1 hj).1; simp only [List.length_cons, List.length_nil] at hl
  rcases (show j = 0 ∨ j = 1 ∨ j = 2 ∨ j = 3 ∨ j = 4 ∨ j = 5 ∨ j = 6 ∨ j = 7 ∨ j = 8 ∨ j = 9 ∨ j = 10 ∨ j = 11 ∨ j = 12 ∨ j = 13 ∨ j = 14 ∨ j = 15 by omega) with rfl | rfl | rfl | rfl | rfl | rfl | rfl | rfl | rfl | rfl | rfl | rfl | rfl | rfl | rfl | rfl <;> exact hj,
  by rw [cell_of_row _ _ _ _ _ _ h]; rfl, by rw [cell_of_row _ _ _ _ _ _ h]; rfl, by rw [cell_of_row _ _ _ _ _ _ h]; rfl, fun j _ => by simp [World.frozen?, h]⟩
theorem qK {w : World} {b o n : Nat} {ks : List (Nat × Nat)} (h : KeysAt w b o ks) (h0 : 0 < n) (hn : n = ks.length) : b < w.heap.size := by
 obtain ⟨k, hk⟩ : ∃ k, ks[0]? = some k := ⟨_, List.getElem?_eq_getElem (by omega)⟩; exact World.block_lt_of_cell? (a := ⟨b, _, none⟩) _ ((h 0 k hk).1 0 (by decide))
theorem far_none (n : Nat) : ZZ [] n = List.replicate n (.int .i64 (-1)) := by
 unfold ZZ
 apply List.ext_getElem?
 intro j
 by_cases h : j < n
 ·simp [h, Bal.farOf]
 ·simp [h]
theorem BNew_any {gp gq gg gh n cap kb ko ep : Nat} {fa se : Int} {ks : List (Nat × Nat)} (vv : Bal.Bv → List Value) (st : StOk gp gq gg gh n fa se ks) (h0 : 0 < n) (w : World) (hk : KeysAt w kb ko ks) :
  Calls Tryz.prog 9 #[qu gp gq gg gh fa se (.slice (some ⟨kb, ko, none⟩) n cap), .int .u64 ep] w fun r w' => ∃ bx nb no c2 mb fb, r = .returned (.tuple #[.pointer (some ⟨bx, 0, none⟩), .int .i64 0]) ∧ BoxAt w' bx gp gq gg gh n c2 nb no mb fb 0 n ep w'.heap.size fa se ks vv (fun _ => none) [] ∧ (w.heap.size ≤ bx ∧ w.heap.size ≤ nb ∧ w.heap.size ≤ mb ∧ w.heap.size ≤ fb) ∧ Below w.heap.size w w' := by
 have hn7 := st.hn7; have CD := jh (fun (W : World) (hk9 : KeysAt W kb ko ks) => by have h9 := DSet_any (cap := cap) (ao := some ⟨kb, ko, none⟩) st.hx st.hq st.hm st.hgg st.hgh st.hn st.hfa st.hse (by omega) W (fun _ => ⟨kb, ko, rfl, hk9⟩); rw [st.ok] at h9; unfold qu at h9; exact h9); have CC := jh (fun (W : World) (hk9 : KeysAt W kb ko ks) => CloneK_any (cap := cap) st.hn h0 hn7 W hk9); have CR := jh (fun (b : Nat) (W : World) hr9 => Repeat_any (b := b) (n := n) h0 hn7 W hr9); have HLK := jh st.hn; have HK := jh hk; have H0 := jh h0; have H7 := jh hn7; have hnI : (n : Int) ≤ 7 := by omega
 clear hk st hn7 h0; unfold qu
 go_enter Tryz.func9, Tryz.ntmps9
 go_upto_region 1 with fail
 have hb0 := Below.refl w.heap.size w; have HB := jh hb0; clear hb0; obtain ⟨v_0, e9⟩ := je (w.alloc (.cells #[.int .u64 (jf jd gp 0), .int .u64 (jf jd gp 1), .int .u64 (jf jd gp 2), .int .u64 (jf jd gp 3), .int .u64 (jf jd gq 0), .int .u64 (jf jd gq 1), .int .u64 (jf jd gq 2), .int .u64 (jf jd gq 3), .int .u64 (jf jd gg 0), .int .u64 (jf jd gg 1), .int .u64 (jf jd gg 2), .int .u64 (jf jd gg 3), .int .u64 (jf jd gh 0), .int .u64 (jf jd gh 1), .int .u64 (jf jd gh 2), .int .u64 (jf jd gh 3), .int .i64 fa, .int .i64 se, .slice (some ⟨kb, ko, none⟩) n cap] 33)); obtain ⟨SB, h9⟩ := je (w.heap.size); have hb := jc e9; have HB := jh hb; have HS := jh (show SAt v_0 SB gp gq gg gh fa se (.slice (some ⟨kb, ko, none⟩) n cap) by rw [e9, h9]; exact SAt.new _ _ _ _ _ _ _ _ _); have LSB := jh (show SB < v_0.heap.size by rw [e9, h9]; simp); have WSB := jh (show w.heap.size = SB from h9.symm); rw [← e9, ← h9]; clear e9 h9; clear hb; have HK := jh (HK.out.later HB.out); have WSB := jh (show w.heap.size ≤ SB by have := WSB.out; omega); refine wp_region_lit ?_; refine ji rfl (jg (Qw HS.out)) ?_; simp only [Act.put, pa, pb, pc]
 go_wp2_with fail
 refine (CD.out _ HK.out).mono ?_; rintro _ v_1 ⟨rfl, hb⟩; have HS := jh (HS.out.later hb); have HB := jw HB hb; have HK := jh (HK.out.later hb); clear hb
 go_upto_region 3 with fail
 refine wp_region_lit ?_; refine ji (v := .pointer (some ⟨SB, 18, none⟩)) rfl (by kernel_rfl) ?_; refine ji (v := .slice (some ⟨kb, ko, none⟩) n cap) rfl (jg (Qv HS.out.nd)) ?_; simp only [Act.put, pa, pb, pc]
 go_wp2_with fail
 have LT9 := jh (show w.heap.size ≤ v_1.heap.size ∧ SB < v_1.heap.size from ⟨HB.out.size, HS.out.lt⟩); refine (CC.out _ HK.out).mono ?_; rintro _ v_2 ⟨nb, no, c2, rfl, hnb, hks, hb⟩; have HS := jh (HS.out.later hb); have HB := jw HB hb; have HK := jh (HK.out.later hb); clear hb; have HNK := jh hks; have WNB := jh (show w.heap.size ≤ nb ∧ SB < nb by have h1 := LT9.out; omega); clear hnb hks; clear HK; have c18 := HS.out.nd; have f18 := HS.out.free 18 (by decide)
 go_upto_region 4 with fail
 clear c18 f18; have HS3 := jh (HS.out.set18 (.slice (some ⟨nb, no, none⟩) n c2)); have hgs := Jb v_2 SB 18 (.slice (some ⟨nb, no, none⟩) n c2); obtain ⟨v_3, e9⟩ := je (v_2.setCell ⟨SB, 18, none⟩ (.slice (some ⟨nb, no, none⟩) n c2)); rw [← e9] at HS3 hgs ⊢; clear e9 HS; have HNK := jh (HNK.out.block (hgs.block nb (qK HNK.out H0.out HLK.out) (fun e => by have := WNB.out; injection e with e; omega))); have HB := jh (HB.out.grown hgs HB.out.size (fun q hq => by injection hq with hq; have := WSB.out; omega)); clear hgs; refine jB (.take 0 (.take 1 (.take 4 (.take 5 (.take 6 (.fork 2 (.step 3 (.step 7 (.take 8 (.step 9 (.take 10 (.take 11 .done)))))) 3 (.fork 2 (.step 7 (.take 8 (.step 9 (.take 10 (.take 11 .done))))) 7 (.step 2 (.take 8 (.step 9 (.take 10 (.take 11 .done)))))))))))) (fun w8 => SAt w8 SB gp gq gg gh fa se (.slice (some ⟨nb, no, none⟩) n c2)) (by kernel_rfl) (by kernel_rfl) (fun _ _ _ _ _ h => h) (HS3.out.later ((Below.refl _ _).drew)) (fun hHeld => ?_); obtain ⟨x1, e1⟩ := je (v_3.drew); rw [← e1]; have hb : Below v_3.heap.size v_3 x1 := by rw [e1]; exact (Below.refl _ _).drew
 have HB := jw HB hb; have HNK := jh (HNK.out.later hb); have HS3 := jh (HS3.out.later hb); clear hb e1; refine WT.take rfl (Or.inl ⟨by rfl, fun w8 hSw => jg (Qw hSw)⟩) ?_
 iterate 2
  try simp only [Act.put, pa, pb, pc]
  refine WT.take (v := ?_) rfl (Or.inl ⟨by rfl, ?_⟩) ?_; rotate_left
  ·intro w8 hSw; (try dsimp only at hSw)
   go_simp
   any_goals with_reducible rfl
 try simp only [Act.put, pa, pb, pc]
 refine WT.take (v := .slice (some ⟨nb, no, none⟩) n c2) rfl (Or.inl ⟨by rfl, fun w8 hSw => jg (Qv hSw.nd)⟩) ?_
 try simp only [Act.put, pa, pb, pc]
 refine WT.take (v := .int .i64 n) rfl (Or.inl ⟨by rfl, fun w8 hSw => by simp [go_sem]⟩) ?_
 try simp only [Act.put, pa, pb, pc]
 refine WT.fork rfl rfl (fun K hK => ?_) (fun K hK => ?_); rotate_left
 focus
  go_simp
  obtain ⟨x2, e9⟩ := je (x1.alloc (.cells #[.int .i64 (-1)] 2)); obtain ⟨OB, h9⟩ := je (x1.heap.size); have hb := jc e9; have HO := jh (show x2.heap[OB]? = some (.cells #[.int .i64 (-1)] 2 (0, 0)) by rw [e9, h9]; exact heap_alloc_new _ _); have LOB := jh (show OB < x2.heap.size by rw [e9, h9]; simp); have WOB := jh (show x1.heap.size = OB from h9.symm); rw [← e9, ← h9]; clear e9 h9; have HB := jw HB hb; have HNK := jh (HNK.out.later hb); have HS3 := jh (HS3.out.later hb); clear hb; refine hK.out _ _ (HS3.out) (fun hHeld => ?_); clear hK K
  try simp only [Act.put, pa, pb, pc]
  refine WT.fork rfl rfl (fun K hK => ?_) (fun K hK => ?_); rotate_left
  focus
   go_simp
   have LT8 := jh (show w.heap.size ≤ x2.heap.size ∧ SB < x2.heap.size ∧ nb < x2.heap.size from ⟨HB.out.size, HS3.out.lt, qK HNK.out H0.out HLK.out⟩); refine (CR.out OB _ HO.out).mono ?_; rintro _ x3 ⟨FB, rfl, hfb, hfr, hb⟩; have HB := jw HB hb; have HNK := jh (HNK.out.later hb); have HS3 := jh (HS3.out.later hb); have HO := jb hb HO; clear hb; have HFR := jh hfr; have WFB := jh (show w.heap.size ≤ FB ∧ SB < FB ∧ nb < FB by have := LT8.out; omega); clear hfb hfr; refine hK.out _ _ (HS3.out) (fun hHeld => ?_); clear hK K
   try simp only [Act.put, pa, pb, pc]
   refine WT.step rfl (fun K hK => ?_); refine qR (v := .map (some x3.heap.size)) (w' := x3.alloc (.map #[] 0)) (by rfl) (by kernel_rfl) ?_; obtain ⟨x4, e9⟩ := je (x3.alloc (.map #[] 0)); obtain ⟨MB, h9⟩ := je (x3.heap.size); have hb := jc e9; have HMF := jh (show MapF x4 Tryz.prog 86 MB (fun _ => none) by rw [e9, h9]; exact mapF_made _ _ _); have WMB := jh (show w.heap.size ≤ MB ∧ SB < MB ∧ nb < MB by have h1 := HB.out.size; have h2 := HS3.out.lt; have h3 := qK HNK.out H0.out HLK.out; omega); have NEQ := jh (show FB ≠ MB by have h5 := (Array.getElem?_eq_some_iff.1 HFR.out).1; omega); rw [← e9, ← h9]; clear e9 h9; have HB := jw HB hb; have HNK := jh (HNK.out.later hb); have HS3 := jh (HS3.out.later hb); have HFR := jb hb HFR; clear hb; refine hK.out _ _ (HS3.out) (fun hHeld => ?_); clear hK K
   try simp only [Act.put, pa, pb, pc]
   refine WT.take (v := .agg #[.int .u64 (jf jd gp 0), .int .u64 (jf jd gp 1), .int .u64 (jf jd gp 2), .int .u64 (jf jd gp 3), .int .u64 (jf jd gq 0), .int .u64 (jf jd gq 1), .int .u64 (jf jd gq 2), .int .u64 (jf jd gq 3), .int .u64 (jf jd gg 0), .int .u64 (jf jd gg 1), .int .u64 (jf jd gg 2), .int .u64 (jf jd gg 3), .int .u64 (jf jd gh 0), .int .u64 (jf jd gh 1), .int .u64 (jf jd gh 2), .int .u64 (jf jd gh 3), .int .i64 fa, .int .i64 se, .slice (some ⟨nb, no, none⟩) n c2, .int .u64 ep, .map (some MB), .slice (some ⟨FB, 0, none⟩) n n]) rfl (Or.inl ⟨by rfl, fun w8 hSw => by kernel_rfl⟩) ?_
   try simp only [Act.put, pa, pb, pc]
   refine WT.step rfl (fun K hK => ?_); refine qR (v := .pointer (some ⟨x4.heap.size, 0, none⟩)) (w' := x4.alloc (.cells #[.int .u64 (jf jd gp 0), .int .u64 (jf jd gp 1), .int .u64 (jf jd gp 2), .int .u64 (jf jd gp 3), .int .u64 (jf jd gq 0), .int .u64 (jf jd gq 1), .int .u64 (jf jd gq 2), .int .u64 (jf jd gq 3), .int .u64 (jf jd gg 0), .int .u64 (jf jd gg 1), .int .u64 (jf jd gg 2), .int .u64 (jf jd gg 3), .int .u64 (jf jd gh 0), .int .u64 (jf jd gh 1), .int .u64 (jf jd gh 2), .int .u64 (jf jd gh 3), .int .i64 fa, .int .i64 se, .slice (some ⟨nb, no, none⟩) n c2, .int .u64 ep, .map (some MB), .slice (some ⟨FB, 0, none⟩) n n] 84)) (by rfl) (by kernel_rfl) ?_; obtain ⟨x5, e9⟩ := je (x4.alloc (.cells #[.int .u64 (jf jd gp 0), .int .u64 (jf jd gp 1), .int .u64 (jf jd gp 2), .int .u64 (jf jd gp 3), .int .u64 (jf jd gq 0), .int .u64 (jf jd gq 1), .int .u64 (jf jd gq 2), .int .u64 (jf jd gq 3), .int .u64 (jf jd gg 0), .int .u64 (jf jd gg 1), .int .u64 (jf jd gg 2), .int .u64 (jf jd gg 3), .int .u64 (jf jd gh 0), .int .u64 (jf jd gh 1), .int .u64 (jf jd gh 2), .int .u64 (jf jd gh 3), .int .i64 fa, .int .i64 se, .slice (some ⟨nb, no, none⟩) n c2, .int .u64 ep, .map (some MB), .slice (some ⟨FB, 0, none⟩) n n] 84)); obtain ⟨BX, h9⟩ := je (x4.heap.size); have hb := jc e9; have HBX := jh (show x5.heap[BX]? = some (.cells #[.int .u64 (jf jd gp 0), .int .u64 (jf jd gp 1), .int .u64 (jf jd gp 2), .int .u64 (jf jd gp 3), .int .u64 (jf jd gq 0), .int .u64 (jf jd gq 1), .int .u64 (jf jd gq 2), .int .u64 (jf jd gq 3), .int .u64 (jf jd gg 0), .int .u64 (jf jd gg 1), .int .u64 (jf jd gg 2), .int .u64 (jf jd gg 3), .int .u64 (jf jd gh 0), .int .u64 (jf jd gh 1), .int .u64 (jf jd gh 2), .int .u64 (jf jd gh 3), .int .i64 fa, .int .i64 se, .slice (some ⟨nb, no, none⟩) n c2, .int .u64 ep, .map (some MB), .slice (some ⟨FB, 0, none⟩) n n] 84 (0, 0)) by rw [e9, h9]; exact heap_alloc_new _ _); have LBX := jh (show BX < x5.heap.size by rw [e9, h9]; simp); have WBX := jh (show x4.heap.size = BX from h9.symm); have WBX := jh (show w.heap.size ≤ BX ∧ nb < BX ∧ MB < BX ∧ FB < BX by have h1 := HB.out.size; have h3 := qK HNK.out H0.out HLK.out; have h4 := HMF.out.lt; have h5 := (Array.getElem?_eq_some_iff.1 HFR.out).1; omega); rw [← e9, ← h9]; clear e9 h9; have HMF := jh (HMF.out.block (hb.block _ HMF.out.lt)); have HB := jw HB hb; have HNK := jh (HNK.out.later hb); have HS3 := jh (HS3.out.later hb); have HFR := jb hb HFR; clear hb; refine hK.out _ _ (HS3.out) (fun hHeld => ?_); clear hK K
   try simp only [Act.put, pa, pb, pc]
   refine WT.take (v := ?_) rfl (Or.inl ⟨by rfl, ?_⟩) ?_; rotate_left
   ·intro w8 hSw; (try dsimp only at hSw)
    go_simp
    any_goals with_reducible rfl
   try simp only [Act.put, pa, pb, pc]
   refine WT.take (v := ?_) rfl (Or.inl ⟨by rfl, ?_⟩) ?_; rotate_left
   ·intro w8 hSw; (try dsimp only at hSw)
    go_simp
    any_goals with_reducible rfl
   try simp only [Act.put, pa, pb, pc]
   refine WT.done ?_
  rotate_right
  focus
   refine qR (v := .map (some x2.heap.size)) (w' := x2.alloc (.map #[] 0)) (by rfl) (by kernel_rfl) ?_; obtain ⟨x3, e9⟩ := je (x2.alloc (.map #[] 0)); obtain ⟨MB, h9⟩ := je (x2.heap.size); have hb := jc e9; have HMF := jh (show MapF x3 Tryz.prog 86 MB (fun _ => none) by rw [e9, h9]; exact mapF_made _ _ _); have WMB := jh (show w.heap.size ≤ MB ∧ SB < MB ∧ nb < MB by have h1 := HB.out.size; have h2 := HS3.out.lt; have h3 := qK HNK.out H0.out HLK.out; omega); rw [← e9, ← h9]; clear e9 h9; have HB := jw HB hb; have HNK := jh (HNK.out.later hb); have HS3 := jh (HS3.out.later hb); have HO := jb hb HO; clear hb; refine hK.out _ _ (HS3.out) (fun hHeld => ?_); clear hK K
   try simp only [Act.put, pa, pb, pc]
   refine WT.step rfl (fun K hK => ?_)
   go_simp
   have LT8 := jh (show w.heap.size ≤ x3.heap.size ∧ SB < x3.heap.size ∧ nb < x3.heap.size from ⟨HB.out.size, HS3.out.lt, qK HNK.out H0.out HLK.out⟩); have LT7 := jh HMF.out.lt; refine (CR.out OB _ HO.out).mono ?_; rintro _ x4 ⟨FB, rfl, hfb, hfr, hb⟩; have HMF := jh (HMF.out.block (hb.block _ HMF.out.lt)); have HB := jw HB hb; have HNK := jh (HNK.out.later hb); have HS3 := jh (HS3.out.later hb); have HO := jb hb HO; clear hb; have HFR := jh hfr; have WFB := jh (show w.heap.size ≤ FB ∧ SB < FB ∧ nb < FB by have := LT8.out; omega); have NEQ := jh (show FB ≠ MB by have := LT7.out; omega); clear hfb hfr; refine hK.out _ _ (HS3.out) (fun hHeld => ?_); clear hK K
   try simp only [Act.put, pa, pb, pc]
   refine WT.take (v := .agg #[.int .u64 (jf jd gp 0), .int .u64 (jf jd gp 1), .int .u64 (jf jd gp 2), .int .u64 (jf jd gp 3), .int .u64 (jf jd gq 0), .int .u64 (jf jd gq 1), .int .u64 (jf jd gq 2), .int .u64 (jf jd gq 3), .int .u64 (jf jd gg 0), .int .u64 (jf jd gg 1), .int .u64 (jf jd gg 2), .int .u64 (jf jd gg 3), .int .u64 (jf jd gh 0), .int .u64 (jf jd gh 1), .int .u64 (jf jd gh 2), .int .u64 (jf jd gh 3), .int .i64 fa, .int .i64 se, .slice (some ⟨nb, no, none⟩) n c2, .int .u64 ep, .map (some MB), .slice (some ⟨FB, 0, none⟩) n n]) rfl (Or.inl ⟨by rfl, fun w8 hSw => by kernel_rfl⟩) ?_
   try simp only [Act.put, pa, pb, pc]
   refine WT.step rfl (fun K hK => ?_); refine qR (v := .pointer (some ⟨x4.heap.size, 0, none⟩)) (w' := x4.alloc (.cells #[.int .u64 (jf jd gp 0), .int .u64 (jf jd gp 1), .int .u64 (jf jd gp 2), .int .u64 (jf jd gp 3), .int .u64 (jf jd gq 0), .int .u64 (jf jd gq 1), .int .u64 (jf jd gq 2), .int .u64 (jf jd gq 3), .int .u64 (jf jd gg 0), .int .u64 (jf jd gg 1), .int .u64 (jf jd gg 2), .int .u64 (jf jd gg 3), .int .u64 (jf jd gh 0), .int .u64 (jf jd gh 1), .int .u64 (jf jd gh 2), .int .u64 (jf jd gh 3), .int .i64 fa, .int .i64 se, .slice (some ⟨nb, no, none⟩) n c2, .int .u64 ep, .map (some MB), .slice (some ⟨FB, 0, none⟩) n n] 84)) (by rfl) (by kernel_rfl) ?_; obtain ⟨x5, e9⟩ := je (x4.alloc (.cells #[.int .u64 (jf jd gp 0), .int .u64 (jf jd gp 1), .int .u64 (jf jd gp 2), .int .u64 (jf jd gp 3), .int .u64 (jf jd gq 0), .int .u64 (jf jd gq 1), .int .u64 (jf jd gq 2), .int .u64 (jf jd gq 3), .int .u64 (jf jd gg 0), .int .u64 (jf jd gg 1), .int .u64 (jf jd gg 2), .int .u64 (jf jd gg 3), .int .u64 (jf jd gh 0), .int .u64 (jf jd gh 1), .int .u64 (jf jd gh 2), .int .u64 (jf jd gh 3), .int .i64 fa, .int .i64 se, .slice (some ⟨nb, no, none⟩) n c2, .int .u64 ep, .map (some MB), .slice (some ⟨FB, 0, none⟩) n n] 84)); obtain ⟨BX, h9⟩ := je (x4.heap.size); have hb := jc e9; have HBX := jh (show x5.heap[BX]? = some (.cells #[.int .u64 (jf jd gp 0), .int .u64 (jf jd gp 1), .int .u64 (jf jd gp 2), .int .u64 (jf jd gp 3), .int .u64 (jf jd gq 0), .int .u64 (jf jd gq 1), .int .u64 (jf jd gq 2), .int .u64 (jf jd gq 3), .int .u64 (jf jd gg 0), .int .u64 (jf jd gg 1), .int .u64 (jf jd gg 2), .int .u64 (jf jd gg 3), .int .u64 (jf jd gh 0), .int .u64 (jf jd gh 1), .int .u64 (jf jd gh 2), .int .u64 (jf jd gh 3), .int .i64 fa, .int .i64 se, .slice (some ⟨nb, no, none⟩) n c2, .int .u64 ep, .map (some MB), .slice (some ⟨FB, 0, none⟩) n n] 84 (0, 0)) by rw [e9, h9]; exact heap_alloc_new _ _); have LBX := jh (show BX < x5.heap.size by rw [e9, h9]; simp); have WBX := jh (show x4.heap.size = BX from h9.symm); have WBX := jh (show w.heap.size ≤ BX ∧ nb < BX ∧ MB < BX ∧ FB < BX by have h1 := HB.out.size; have h3 := qK HNK.out H0.out HLK.out; have h4 := HMF.out.lt; have h5 := (Array.getElem?_eq_some_iff.1 HFR.out).1; omega); rw [← e9, ← h9]; clear e9 h9; have HMF := jh (HMF.out.block (hb.block _ HMF.out.lt)); have HB := jw HB hb; have HNK := jh (HNK.out.later hb); have HS3 := jh (HS3.out.later hb); have HFR := jb hb HFR; clear hb; refine hK.out _ _ (HS3.out) (fun hHeld => ?_); clear hK K
   try simp only [Act.put, pa, pb, pc]
   refine WT.take (v := ?_) rfl (Or.inl ⟨by rfl, ?_⟩) ?_; rotate_left
   ·intro w8 hSw; (try dsimp only at hSw)
    go_simp
    any_goals with_reducible rfl
   try simp only [Act.put, pa, pb, pc]
   refine WT.take (v := ?_) rfl (Or.inl ⟨by rfl, ?_⟩) ?_; rotate_left
   ·intro w8 hSw; (try dsimp only at hSw)
    go_simp
    any_goals with_reducible rfl
   try simp only [Act.put, pa, pb, pc]
   refine WT.done ?_
 rotate_right
 focus
  refine qR (v := .map (some x1.heap.size)) (w' := x1.alloc (.map #[] 0)) (by rfl) (by kernel_rfl) ?_; obtain ⟨x2, e9⟩ := je (x1.alloc (.map #[] 0)); obtain ⟨MB, h9⟩ := je (x1.heap.size); have hb := jc e9; have HMF := jh (show MapF x2 Tryz.prog 86 MB (fun _ => none) by rw [e9, h9]; exact mapF_made _ _ _); have WMB := jh (show w.heap.size ≤ MB ∧ SB < MB ∧ nb < MB by have h1 := HB.out.size; have h2 := HS3.out.lt; have h3 := qK HNK.out H0.out HLK.out; omega); rw [← e9, ← h9]; clear e9 h9; have HB := jw HB hb; have HNK := jh (HNK.out.later hb); have HS3 := jh (HS3.out.later hb); clear hb; refine hK.out _ _ (HS3.out) (fun hHeld => ?_); clear hK K
  try simp only [Act.put, pa, pb, pc]
  refine WT.step rfl (fun K hK => ?_)
  go_simp
  obtain ⟨x3, e9⟩ := je (x2.alloc (.cells #[.int .i64 (-1)] 2)); obtain ⟨OB, h9⟩ := je (x2.heap.size); have hb := jc e9; have HO := jh (show x3.heap[OB]? = some (.cells #[.int .i64 (-1)] 2 (0, 0)) by rw [e9, h9]; exact heap_alloc_new _ _); have LOB := jh (show OB < x3.heap.size by rw [e9, h9]; simp); have WOB := jh (show x2.heap.size = OB from h9.symm); rw [← e9, ← h9]; clear e9 h9; have HMF := jh (HMF.out.block (hb.block _ HMF.out.lt)); have HB := jw HB hb; have HNK := jh (HNK.out.later hb); have HS3 := jh (HS3.out.later hb); clear hb; refine hK.out _ _ (HS3.out) (fun hHeld => ?_); clear hK K
  try simp only [Act.put, pa, pb, pc]
  refine WT.step rfl (fun K hK => ?_)
  go_simp
  have LT8 := jh (show w.heap.size ≤ x3.heap.size ∧ SB < x3.heap.size ∧ nb < x3.heap.size from ⟨HB.out.size, HS3.out.lt, qK HNK.out H0.out HLK.out⟩); have LT7 := jh HMF.out.lt; refine (CR.out OB _ HO.out).mono ?_; rintro _ x4 ⟨FB, rfl, hfb, hfr, hb⟩; have HMF := jh (HMF.out.block (hb.block _ HMF.out.lt)); have HB := jw HB hb; have HNK := jh (HNK.out.later hb); have HS3 := jh (HS3.out.later hb); have HO := jb hb HO; clear hb; have HFR := jh hfr; have WFB := jh (show w.heap.size ≤ FB ∧ SB < FB ∧ nb < FB by have := LT8.out; omega); have NEQ := jh (show FB ≠ MB by have := LT7.out; omega); clear hfb hfr; refine hK.out _ _ (HS3.out) (fun hHeld => ?_); clear hK K
  try simp only [Act.put, pa, pb, pc]
  refine WT.take (v := .agg #[.int .u64 (jf jd gp 0), .int .u64 (jf jd gp 1), .int .u64 (jf jd gp 2), .int .u64 (jf jd gp 3), .int .u64 (jf jd gq 0), .int .u64 (jf jd gq 1), .int .u64 (jf jd gq 2), .int .u64 (jf jd gq 3), .int .u64 (jf jd gg 0), .int .u64 (jf jd gg 1), .int .u64 (jf jd gg 2), .int .u64 (jf jd gg 3), .int .u64 (jf jd gh 0), .int .u64 (jf jd gh 1), .int .u64 (jf jd gh 2), .int .u64 (jf jd gh 3), .int .i64 fa, .int .i64 se, .slice (some ⟨nb, no, none⟩) n c2, .int .u64 ep, .map (some MB), .slice (some ⟨FB, 0, none⟩) n n]) rfl (Or.inl ⟨by rfl, fun w8 hSw => by kernel_rfl⟩) ?_
  try simp only [Act.put, pa, pb, pc]
  refine WT.step rfl (fun K hK => ?_); refine qR (v := .pointer (some ⟨x4.heap.size, 0, none⟩)) (w' := x4.alloc (.cells #[.int .u64 (jf jd gp 0), .int .u64 (jf jd gp 1), .int .u64 (jf jd gp 2), .int .u64 (jf jd gp 3), .int .u64 (jf jd gq 0), .int .u64 (jf jd gq 1), .int .u64 (jf jd gq 2), .int .u64 (jf jd gq 3), .int .u64 (jf jd gg 0), .int .u64 (jf jd gg 1), .int .u64 (jf jd gg 2), .int .u64 (jf jd gg 3), .int .u64 (jf jd gh 0), .int .u64 (jf jd gh 1), .int .u64 (jf jd gh 2), .int .u64 (jf jd gh 3), .int .i64 fa, .int .i64 se, .slice (some ⟨nb, no, none⟩) n c2, .int .u64 ep, .map (some MB), .slice (some ⟨FB, 0, none⟩) n n] 84)) (by rfl) (by kernel_rfl) ?_; obtain ⟨x5, e9⟩ := je (x4.alloc (.cells #[.int .u64 (jf jd gp 0), .int .u64 (jf jd gp 1), .int .u64 (jf jd gp 2), .int .u64 (jf jd gp 3), .int .u64 (jf jd gq 0), .int .u64 (jf jd gq 1), .int .u64 (jf jd gq 2), .int .u64 (jf jd gq 3), .int .u64 (jf jd gg 0), .int .u64 (jf jd gg 1), .int .u64 (jf jd gg 2), .int .u64 (jf jd gg 3), .int .u64 (jf jd gh 0), .int .u64 (jf jd gh 1), .int .u64 (jf jd gh 2), .int .u64 (jf jd gh 3), .int .i64 fa, .int .i64 se, .slice (some ⟨nb, no, none⟩) n c2, .int .u64 ep, .map (some MB), .slice (some ⟨FB, 0, none⟩) n n] 84)); obtain ⟨BX, h9⟩ := je (x4.heap.size); have hb := jc e9; have HBX := jh (show x5.heap[BX]? = some (.cells #[.int .u64 (jf jd gp 0), .int .u64 (jf jd gp 1), .int .u64 (jf jd gp 2), .int .u64 (jf jd gp 3), .int .u64 (jf jd gq 0), .int .u64 (jf jd gq 1), .int .u64 (jf jd gq 2), .int .u64 (jf jd gq 3), .int .u64 (jf jd gg 0), .int .u64 (jf jd gg 1), .int .u64 (jf jd gg 2), .int .u64 (jf jd gg 3), .int .u64 (jf jd gh 0), .int .u64 (jf jd gh 1), .int .u64 (jf jd gh 2), .int .u64 (jf jd gh 3), .int .i64 fa, .int .i64 se, .slice (some ⟨nb, no, none⟩) n c2, .int .u64 ep, .map (some MB), .slice (some ⟨FB, 0, none⟩) n n] 84 (0, 0)) by rw [e9, h9]; exact heap_alloc_new _ _); have LBX := jh (show BX < x5.heap.size by rw [e9, h9]; simp); have WBX := jh (show x4.heap.size = BX from h9.symm); have WBX := jh (show w.heap.size ≤ BX ∧ nb < BX ∧ MB < BX ∧ FB < BX by have h1 := HB.out.size; have h3 := qK HNK.out H0.out HLK.out; have h4 := HMF.out.lt; have h5 := (Array.getElem?_eq_some_iff.1 HFR.out).1; omega); rw [← e9, ← h9]; clear e9 h9; have HMF := jh (HMF.out.block (hb.block _ HMF.out.lt)); have HB := jw HB hb; have HNK := jh (HNK.out.later hb); have HS3 := jh (HS3.out.later hb); have HFR := jb hb HFR; clear hb; refine hK.out _ _ (HS3.out) (fun hHeld => ?_); clear hK K
  try simp only [Act.put, pa, pb, pc]
  refine WT.take (v := ?_) rfl (Or.inl ⟨by rfl, ?_⟩) ?_; rotate_left
  ·intro w8 hSw; (try dsimp only at hSw)
   go_simp
   any_goals with_reducible rfl
  try simp only [Act.put, pa, pb, pc]
  refine WT.take (v := ?_) rfl (Or.inl ⟨by rfl, ?_⟩) ?_; rotate_left
  ·intro w8 hSw; (try dsimp only at hSw)
   go_simp
   any_goals with_reducible rfl
  try simp only [Act.put, pa, pb, pc]
  refine WT.done ?_
 all_goals (
  clear hHeld
  go_wp2_with fail
  go_ret2
  have hc := fun (o : Nat) (u : Value) (hu : (#[.int .u64 (jf jd gp 0), .int .u64 (jf jd gp 1), .int .u64 (jf jd gp 2), .int .u64 (jf jd gp 3), .int .u64 (jf jd gq 0), .int .u64 (jf jd gq 1), .int .u64 (jf jd gq 2), .int .u64 (jf jd gq 3), .int .u64 (jf jd gg 0), .int .u64 (jf jd gg 1), .int .u64 (jf jd gg 2), .int .u64 (jf jd gg 3), .int .u64 (jf jd gh 0), .int .u64 (jf jd gh 1), .int .u64 (jf jd gh 2), .int .u64 (jf jd gh 3), .int .i64 fa, .int .i64 se, .slice (some ⟨nb, no, none⟩) n c2, .int .u64 ep, .map (some MB), .slice (some ⟨FB, 0, none⟩) n n] : Array Value)[o]? = some u) => (cell_of_row x5 BX o _ _ (0, 0) HBX.out).trans hu
  refine ⟨BX, nb, no, c2, MB, FB, rfl, ⟨SAt.row HBX.out, hc 19 _ rfl, hc 20 _ rfl, hc 21 _ rfl, HNK.out, HMF.out, rowsAt_made _ _ _ _ _, ⟨by rw [JW]; omega, .inr ⟨FB, 0, n, _, rfl, Nat.zero_le _, HFR.out, Nat.le_refl _, by have := H7.out; unfold maxLen; omega, by simp, by rw [far_none]; simp⟩⟩, ⟨(Array.getElem?_eq_some_iff.1 HBX.out).1, qK HNK.out H0.out HLK.out, HMF.out.lt, (Array.getElem?_eq_some_iff.1 HFR.out).1⟩, by have h1 := WBX.out; have h2 := WMB.out; have h3 := WFB.out; have h4 := NEQ.out; omega, Nat.le_refl _⟩, ⟨WBX.out.1, WNB.out.1, WMB.out.1, WFB.out.1⟩, HB.out⟩)
end Go.Proofs.YtdpkpcbikbbcbaaGreat
