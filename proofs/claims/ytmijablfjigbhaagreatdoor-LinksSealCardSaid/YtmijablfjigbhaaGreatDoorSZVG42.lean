/- Layer 20 (links) -/
import Derived.Test.YtmijablfjigbhaaGreatDoorSZVG37
import Derived.Test.YtmijablfjigbhaaGreatDoorSZVG41
set_option linter.unusedSimpArgs false
set_option linter.unusedVariables false
set_option maxHeartbeats 8000000
set_option maxRecDepth 20000
namespace Go.Proofs.YtmijablfjigbhaaGreatDoor
open Go.ChangeShapes Go.WideShapes Go.ChangeAt Go.RowKit
theorem TQ {s : ByteArray} {g o cap m q : Nat} {vs : List Value} {ls : List (List Nat)} (w : World) (hP : Parts w g o vs ls) (hn0 : ls.length ≤ 1000) (hcap : ls.length ≤ cap) (hcm : cap ≤ maxLen) (hby : ∀ l ∈ ls, jM l) (hm0 : m = 0) (hq : q = 0)
  (hsz : (jU (qB s) (ls ++ [[0]])).length ≤ 1073741824) :
  Calls Tryz.prog 30 #[jj m, .string s, .slice (some ⟨g, o, none⟩) ls.length cap] w fun e w' => e = .returned (.tuple #[jj q, .int .i64 1]) ∧ Below w.heap.size w w' := by
 have hl : vs.length = ls.length := hP.1; have HL := jh hl
 have hsl : ∀ v ∈ vs, ∃ a n c, v = .slice a n c := fun v hv => by
  obtain ⟨i, hi, e⟩ := List.getElem_of_mem hv; obtain ⟨v', l', h1, h2, h3, h4⟩ := hP.2 i (by omega); obtain ⟨ao, cp, e2, _⟩ := h4; rw [List.getElem?_eq_getElem hi, e] at h1
  cases h1
  exact ⟨_, _, _, e2⟩
 have HSL := jh hsl; have HP := jh hP; have XQ := jh hby; have V8 := jh hsz
 have HCELL := jh (show ∀ (j : Nat) v, vs[j]? = some v → w.cell? ⟨g, o + j, none⟩ = some v from fun j v hj => by
  obtain ⟨v', l', h1, h2, h3, h4⟩ := hP.2 j (by have := (List.getElem?_eq_some_iff.1 hj).1; omega); rw [h1] at hj
  cases hj
  exact h3)
 obtain ⟨n, hn⟩ := je (ls.length); obtain ⟨n1, hn1⟩ := je (n + 1); have HN := jh hn; have bD := jh hn1; have hnI : (n : Int) + 1 = (n1 : Int) := by omega
 have hnb : n ≤ 1000 := by omega
 have hcm2 := hcm; unfold maxLen at hcm2
 have hmk : ∀ W, (Instr.makeSlice 102 (.int .i64 n) (.int .i64 n1)).run Tryz.prog W = .ok (.slice (some ⟨W.heap.size, 0, none⟩) n n1) (W.alloc (.cells (List.replicate n1 (Value.slice none 0 0)).toArray 30)) := by
  intro W; obtain ⟨i0, hi, hz0, hz1, hz2⟩ := info_parts VS; have e := run_make (P := Tryz.prog) W 102 30 i0 (.slice none 0 0) Tryz.underlying102 hi hz0 .i64 .i64 n n1 (by omega) (by omega) (by rw [hz2]; omega) (by omega); rw [e, hz1]
  exact congrArg (fun c => Result.ok _ (W.alloc (.cells c _))) (by
   apply Array.ext'
   simp [madeCells, Value.cells, Nat.mod_one, List.map_const'])
 obtain ⟨x0, hx0⟩ := je (XD (qB s) ls 0); obtain ⟨x1, hx1⟩ := je (XD (qB s) ls 1)
 have CW := jh (fun W => by
  have h : Calls Tryz.prog 100 #[jj x1, jj x0, jj m] W (fun e w' => e = .returned (.tuple #[jj q, .int .i64 1]) ∧ Below W.heap.size W w') := by rw [hm0, hq]; exact PV W
  unfold jj words at h
  exact h)
 have HX0 := jh hx0; have HX1 := jh hx1
 have wH := jh (show (jU (qB s) (ls ++ [[1]])).length ≤ 1073741824 from by
  have h9 := hsz; unfold jU at h9 ⊢; simp only [List.length_append, List.flatMap_append, List.flatMap_cons, List.flatMap_nil, qo, List.length_singleton, List.append_nil, qn] at h9 ⊢
  exact h9)
 rw [← hn]; unfold jj words; clear hP hl hsl hby hsz hn hn1 hm0 hn0 hcap hcm hx0 hx1 hq
 go_enter Tryz.func30, Tryz.ntmps30
 go_upto_region 2 with fail
 obtain ⟨A8, xC⟩ := je (w.alloc (.cells (jD m) 24)); have dF : A8.heap.size = w.heap.size + 1 := by rw [xC]; simp
 have WN := jc xC; have aH : U0 A8 w.heap.size m := by rw [xC]; exact U0.new w m _ _ rfl
 obtain ⟨F8, tC⟩ := je (A8.alloc (.cells #[.string s] 9)); have aG : F8.heap.size = w.heap.size + 1 + 1 := by rw [tC]; simp [dF]
 have wG := jc tC; have xE : F8.cell? ⟨w.heap.size + 1, 0, none⟩ = some (.string s) := by rw [← dF, tC, cell_of_row _ _ _ _ _ _ (heap_alloc_new _ _)]; rfl
 obtain ⟨J9, VC⟩ := je (F8.alloc (.cells jA 24)); have yO : J9.heap.size = w.heap.size + 1 + 1 + 1 := by rw [VC]; simp [aG]
 have VE := jc VC; have oG : U0 J9 (w.heap.size + 1 + 1) 0 := by rw [← aG, VC]; exact jP F8 _
 have OT : Y0 J9 (w.heap.size + 1 + 1) 4 := by rw [← aG, VC]; exact Y0.new _ _ _ _
 obtain ⟨S9, yE⟩ := je (J9.alloc (.cells (Array.replicate n1 (Value.slice none 0 0)) 30)); have wL : S9.heap.size = w.heap.size + 1 + 1 + 1 + 1 := by rw [yE]; simp [yO]
 have uD := jc yE; have yF : S9.heap[w.heap.size + 1 + 1 + 1]? = some (.cells (List.replicate n1 (Value.slice none 0 0)).toArray 30 (0, 0)) := by rw [← yO, yE, heap_alloc_new]; simp
 obtain ⟨FC, fD⟩ := je (S9.alloc (.cells #[.slice (some ⟨w.heap.size + 1 + 1 + 1, 0, none⟩) n n1] 102)); have xR : FC.heap.size = w.heap.size + 1 + 1 + 1 + 1 + 1 := by rw [fD]; simp [wL]
 have OC := jc fD; have nG : FC.cell? ⟨w.heap.size + 1 + 1 + 1 + 1, 0, none⟩ = some (.slice (some ⟨w.heap.size + 1 + 1 + 1, 0, none⟩) n n1) := by rw [← wL, fD, cell_of_row _ _ _ _ _ _ (heap_alloc_new _ _)]; rfl
 rw [← xC, ← tC, ← VC, ← yE, ← fD]; have aH := U0.later OC (U0.later uD (U0.later VE (U0.later wG aH))); have xE := jm (jm (jm xE VE) uD) OC; have oG := U0.later OC (U0.later uD oG); have OT := (OT.later uD (by omega)).later OC (by omega); have yF := (OC.block _ (by omega)).trans yF; have B := jk (jk (jk (jk WN wG) VE) uD) OC; have nD := xR; clear xC tC VC yE fD WN wG VE uD OC dF aG yO wL xR; obtain ⟨MM, hMM⟩ := je (w.heap.size); rw [← hMM] at aH xE oG OT yF nG nD ⊢; obtain ⟨AS, hAS⟩ := je (MM + 1); rw [← hAS] at xE oG OT yF nG nD ⊢; obtain ⟨OO, dE⟩ := je (AS + 1); rw [← dE] at oG OT yF nG nD ⊢; obtain ⟨GG, P7⟩ := je (OO + 1); rw [← P7] at yF nG nD ⊢; obtain ⟨AL, hAL⟩ := je (GG + 1); rw [← hAL] at nG nD ⊢; have J4 := jh hMM; have HAS := jh hAS; have W9 := jh dE; have VF := jh P7; have UK := jh hAL; have HSZ4 := jh nD; have F0 := jh aH; have F1 := jh xE; have F2 := jh oG; have G2 := jh OT; have F3 := jh yF; have F4 := jh nG; have HB := jh B; have q0 := nG; clear hMM hAS dE P7 hAL nD aH xE oG OT yF nG B hmk; have hvl : vs.length = n := by rw [HL.out, HN.out]
 have HVL := jh hvl; clear hvl
 go_wp2_with (refine wQ rfl (.tmp 16) (.tmp 17) rfl rfl rfl HVL.out bD.out F3.out (fun j v hj => jm (HCELL.out j v hj) HB.out) HSL.out ?_; intro w5 h5 hg5; have H5 := jh h5; have uO := jh hg5; clear h5 hg5)
 clear q0; have lT : AS ≠ GG := by have := VF.out; have := W9.out; omega
 have kT : AL ≠ GG := by have := UK.out; omega
 have HM := jh (show U0 w5 MM m from fun j hj => uO.out.cell (F0.out j hj) (fun e => by have e7 : MM = GG := (by injection e); have := VF.out; have := HAS.out; have := W9.out; have := UK.out; omega)); have HO := jh (show U0 w5 OO 0 from fun j hj => uO.out.cell (F2.out j hj) (fun e => by have e7 : OO = GG := (by injection e); have := VF.out; have := HAS.out; have := W9.out; have := UK.out; omega)); have L6 := jh (show Y0 w5 OO 4 from fun j hj => (qq (uO.out.block OO (by have := HSZ4.out; have := UK.out; have := VF.out; omega) (fun e => by have e7 : OO = GG := (by injection e); have := VF.out; have := HAS.out; have := W9.out; have := UK.out; omega))).trans (G2.out j hj)); have iH := jh (show Below w.heap.size w w5 from HB.out.grown uO.out HB.out.size (fun k hk => by have e7 : GG = k := (by injection hk); have := VF.out; have := HAS.out; have := W9.out; have := J4.out; omega)); have BU := jh (show TA w w5 AS AL GG s vs ls n1 from ⟨uO.out.cell F1.out (fun e => lT (by injection e)), by rw [← HN.out]; exact uO.out.cell F4.out (fun e => kT (by injection e)), by rw [← HN.out]; exact ⟨by rw [HVL.out, Nat.mul_one], .inr ⟨GG, n1, _, rfl, Nat.le_refl _, H5.out, by have := bD.out; omega, by have := bD.out; unfold maxLen; omega, by have := bD.out; have := HVL.out; simp; omega, by simp [HVL.out]⟩⟩, fun i v l hv hl => (by obtain ⟨v9, l9, h1, h2, _, h4⟩ := HP.out.2 i (List.getElem?_eq_some_iff.1 hl).1; rw [h1] at hv; rw [h2] at hl; cases hv; cases hl; exact h4), iH.out, by have := VF.out; have := HAS.out; have := W9.out; have := J4.out; omega, lT, kT, by rw [← HN.out]; have := bD.out; omega⟩); have lC := jh (show OO < w5.heap.size from Nat.lt_of_lt_of_le (by have := HSZ4.out; have := UK.out; have := VF.out; omega) uO.out.size); have HGW := jh (show w.heap.size ≤ GG from BU.out.gt); have HOW := jh (show w.heap.size ≤ OO by have := HAS.out; have := W9.out; have := J4.out; omega); have HMO := jh (show MM ≠ OO by have := HAS.out; have := W9.out; omega); have HNM := jh (show MM ≠ GG by have := VF.out; have := HAS.out; have := W9.out; omega); have RF := jh (show OO ≠ GG by have := VF.out; omega); clear lT kT F0 F1 F2 G2 F3 F4 HB uO H5 hnI; obtain ⟨w6, e6⟩ := je (w5.drew); have hb : Below w5.heap.size w5 w6 := by rw [e6]; exact (Below.refl _ _).drew
 have HM := jn hb HM; have HO := jn hb HO; have L6 := jh (L6.out.later hb lC.out); have lC := jl lC hb.size; have iH := jw iH hb; have BU := jh (BU.out.later hb); clear hb; refine qF [(0, true), (2, true), (4, true), (1, false), (3, false), (5, false), (6, true), (7, true), (8, false), (9, true)] (fun w8 => w8.cell? ⟨MM, 0, none⟩ = some (.int .u64 (jf jd m 0)) ∧ w8.cell? ⟨MM, 1, none⟩ = some (.int .u64 (jf jd m 1)) ∧ w8.cell? ⟨MM, 2, none⟩ = some (.int .u64 (jf jd m 2)) ∧ w8.cell? ⟨MM, 3, none⟩ = some (.int .u64 (jf jd m 3))) (by kernel_rfl) (by kernel_rfl) (fun _ _ _ _ _ h => h) (jz (show U0 w5.drew MM m by rw [← e6]; exact HM.out)) (fun hHeld => ?_); rw [← e6]; clear e6
 iterate 3
  refine WP.tk rfl (k := ?_)
 refine WP.step rfl (fun K hK => ?_)
 go_simp
 refine (UD (x := 1) w6 BU.out (by decide) XQ.out wH.out).mono ?_; rintro _ w7 ⟨rfl, hhw, hg⟩; have BU := jh hhw; have HM := jh (show U0 w7 MM m from fun j hj => hg.cell (HM.out j hj) (fun e => HNM.out (by injection e))); have HO := jh (show U0 w7 OO 0 from fun j hj => hg.cell (HO.out j hj) (fun e => RF.out (by injection e))); have L6 := jh (show Y0 w7 OO 4 from fun j hj => (qq (hg.block OO lC.out (fun e => RF.out (by injection e)))).trans (L6.out j hj)); have lC := jl lC hg.size; have iH := jh (iH.out.grown hg iH.out.size (fun k hk => by have e7 : GG = k := (by injection hk); rw [← e7]; exact HGW.out)); rw [show ZH (qE (jU (qB s) (ls ++ [[1]]))) = x1 from HX1.out.symm]; clear hhw hg; refine hK.out _ _ (jz HM.out) (fun hHeld => ?_); clear hK K
 try simp only [Act.put, pa, pb, pc]
 refine WP.step rfl (fun K hK => ?_)
 go_simp
 refine (UD (x := 0) w7 BU.out (by decide) XQ.out V8.out).mono ?_; rintro _ w8 ⟨rfl, hhw, hg⟩; have BU := jh hhw; have HM := jh (show U0 w8 MM m from fun j hj => hg.cell (HM.out j hj) (fun e => HNM.out (by injection e))); have HO := jh (show U0 w8 OO 0 from fun j hj => hg.cell (HO.out j hj) (fun e => RF.out (by injection e))); have L6 := jh (show Y0 w8 OO 4 from fun j hj => (qq (hg.block OO lC.out (fun e => RF.out (by injection e)))).trans (L6.out j hj)); have lC := jl lC hg.size; have iH := jh (iH.out.grown hg iH.out.size (fun k hk => by have e7 : GG = k := (by injection hk); rw [← e7]; exact HGW.out)); rw [show ZH (qE (jU (qB s) (ls ++ [[0]]))) = x0 from HX0.out.symm]; clear hhw hg; refine hK.out _ _ (jz HM.out) (fun hHeld => ?_); clear hK K
 try simp only [Act.put, pa, pb, pc]
 refine WP.step rfl (fun K hK => ?_)
 go_simp
 refine (CW.out _).mono ?_; rintro _ w9 ⟨rfl, hb⟩; have HM := jn hb HM; have HO := jn hb HO; have L6 := jh (L6.out.later hb lC.out); have iH := jw iH hb; clear hb; refine hK.out _ _ (jz HM.out) (fun hHeld => ?_); clear hK K
 try simp only [Act.put, pa, pb, pc]
 iterate 2
  refine WP.tk rfl (k := ?_)
 refine WP.step rfl (fun K hK => ?_); obtain ⟨c0, c1, c2, c3, f0, f1, f2, f3⟩ := jL HO.out L6.out
 go_simp
 have HM := jh (U0.other4 HM.out HMO.out (.int .u64 (jf jd q 0)) (.int .u64 (jf jd q 1)) (.int .u64 (jf jd q 2)) (.int .u64 (jf jd q 3))); refine hK.out _ _ (jz HM.out) (fun hHeld => ?_); clear hK K
 try simp only [Act.put, pa, pb, pc]
 refine WP.tk rfl (k := ?_); refine WP.done ?_; clear hHeld c0 c1 c2 c3 f0 f1 f2 f3
 go_wp2_with fail
 obtain ⟨g0, g1, g2, g3⟩ := jz (U0.set4 HO.out q); have E8 := jh (jK iH.out HOW.out (.int .u64 (jf jd q 0)) (.int .u64 (jf jd q 1)) (.int .u64 (jf jd q 2)) (.int .u64 (jf jd q 3))); refine bodyPost_ret (v := .tuple #[jj q, .int .i64 1]) ?_ rfl ⟨rfl, E8.out⟩
 simp [results, Tryz.results30, go_sem, jj, words, g0, g1, g2, g3]
theorem yJ {gp gq gg gh secret : Nat} {fa se : Int} {nodes : Value} {h : List Nat} (iG : gp < jo) (hgg : gg < jo) (hq : gq < jo) (hsM : secret < jo) (hl : h.length = 32) (Z4 : jM h) (w : World) :
  Calls Tryz.prog 9 #[qU gp gq gg gh fa se nodes, .agg (jp .u8 h).toArray, jj secret] w fun e w' => e = .returned (.tuple #[Ql (WR gp gq gg secret h) (VR gp gq gg secret h), .int .i64 (wR gp gq gg secret : Nat)]) ∧ Below w.heap.size w w' := by
 obtain ⟨c, hc⟩ := je (WR gp gq gg secret h); obtain ⟨s, hs⟩ := je (VR gp gq gg secret h); obtain ⟨E, hE⟩ := je (wR gp gq gg secret); rw [← hc, ← hs, ← hE]
 obtain ⟨d0, e1, d, nN, hCN, hR⟩ : ∃ d0 e1 d : Nat, d0 < jo ∧ (∀ (W : World) (B : Nat) (vs : List Value) (hP : Parts W B 0 vs [zH secret, h]), Calls Tryz.prog 30 #[jj gq, .string ⟨#[100, 114, 97, 119]⟩, .slice (some ⟨B, 0, none⟩) 2 2] W fun e w' => e = .returned (.tuple #[jj d0, .int .i64 e1]) ∧ Below W.heap.size W w') ∧ ((e1 = 1 ∧ c = 0 ∧ s = 0 ∧ E = 1) ∨ (e1 = 0 ∧ (d0 = 0 → d = 1) ∧ (d0 ≠ 0 → d = d0) ∧ ∀ W, Calls Tryz.prog 32 #[qd gp gq gg gh, jj secret, .agg (jp .u8 h).toArray, jj d] W fun e w' => e = .returned (.tuple #[Ql c s, .int .i64 E]) ∧ Below W.heap.size W w')) := by
  rcases Nat.eq_zero_or_pos gq with h0 | h0
  ·have hn : ¬ bF gp gq gg secret := fun hc => by have := hc.2.2.1; omega
   refine ⟨0, 1, 0, by decide, fun W B vs hP => ?_, .inl ⟨rfl, ?_, ?_, ?_⟩⟩
   ·have h9 := TQ (q := 0) (s := ⟨#[100, 114, 97, 119]⟩) (m := gq) (cap := 2) W hP (by simp) (by simp) (by unfold maxLen; decide) (by
     intro l TD; simp only [List.mem_cons, List.not_mem_nil, or_false] at TD
     rcases TD with rfl | rfl
     ·exact zG _
     ·exact Z4) h0 rfl (by unfold jU; simp [qn, jW, qo, qI, hl, ByteArray.size])
    exact h9
   ·rw [hc]; unfold WR; rw [if_neg hn]
   ·rw [hs]; unfold VR; rw [if_neg hn]
   ·rw [hE]; unfold wR; rw [if_neg hn]
  ·have hdq : ZA gq secret h < gq := by unfold ZA zB; exact Nat.mod_lt _ h0
   have hd0 : zm gq secret h ≠ 0 := by unfold zm; split <;> omega
   have hdD : zm gq secret h < jo := by
    unfold zm
    split
    ·decide
    ·exact Nat.lt_trans hdq hq
   refine ⟨ZA gq secret h, 0, zm gq secret h, Nat.lt_trans hdq hq, fun W B vs hP => ?_, .inr ⟨rfl, fun hz => by unfold zm; rw [if_pos hz], fun hz => by unfold zm; rw [if_neg hz], fun W => ?_⟩⟩
   ·have h9 := wJ (s := ⟨#[100, 114, 97, 119]⟩) (m := gq) (cap := 2) W hP (by simp) (by simp) (by unfold maxLen; decide) (by
     intro l TD; simp only [List.mem_cons, List.not_mem_nil, or_false] at TD
     rcases TD with rfl | rfl
     ·exact zG _
     ·exact Z4) h0 hq (by unfold jU; simp [qn, jW, qo, qI, hl, ByteArray.size])
    exact h9
   ·by_cases hk : bF gp gq gg secret
    ·have hdl : zm gq secret h < gq := by have := hk.2.2.1; unfold zm; split <;> omega
     have h9 := Sign_any (gh := gh) hk.1 iG hgg hk.2.2.1 hq hk.2.1 hk.2.2.2 hd0 hdl hl Z4 W; rw [show c = YF gp gq gg secret (zm gq secret h) h by rw [hc]; unfold WR; rw [if_pos hk], show s = ZS gp gq gg secret (zm gq secret h) h by rw [hs]; unfold VR; rw [if_pos hk], show E = 0 by rw [hE]; unfold wR; rw [if_pos hk]]; exact h9
    ·have h9 := Sign_no (gh := gh) iG hgg hq hsM hdD (fun hx => hk ⟨hx.1, hx.2.1, hx.2.2.2.1, hx.2.2.2.2.1⟩) hl W; rw [show c = 0 by rw [hc]; unfold WR; rw [if_neg hk], show s = 0 by rw [hs]; unfold VR; rw [if_neg hk], show E = 1 by rw [hE]; unfold wR; rw [if_neg hk]]; exact h9
 have CN := jh (fun (W : World) (B : Nat) (vs : List Value) (hP : Parts W B 0 vs [zH secret, h]) => by have h9 := hCN W B vs hP; unfold jj words at h9; exact h9); obtain ⟨z, hz⟩ := je (decide (d0 = 0)); have HZ := jh (show ∀ W : World, (binOp .eql 24 (.agg #[.int .u64 (jf jd d0 0), .int .u64 (jf jd d0 1), .int .u64 (jf jd d0 2), .int .u64 (jf jd d0 3)]) (.agg #[.int .u64 0, .int .u64 0, .int .u64 0, .int .u64 0])).run Tryz.prog W = .ok (.bool z) W from fun W => by have h9 := zp d0 0 nN (by decide) W; rewrite [← hz] at h9; simp only [jI] at h9; exact h9)
 have HR := jh (show (e1 = 1 ∧ c = 0 ∧ s = 0 ∧ E = 1) ∨ (e1 = 0 ∧ (z = true → d = 1) ∧ (z = false → d = d0) ∧ ∀ W, Calls Tryz.prog 32 #[.agg #[.int .u64 (jf jd gp 0), .int .u64 (jf jd gp 1), .int .u64 (jf jd gp 2), .int .u64 (jf jd gp 3), .int .u64 (jf jd gq 0), .int .u64 (jf jd gq 1), .int .u64 (jf jd gq 2), .int .u64 (jf jd gq 3), .int .u64 (jf jd gg 0), .int .u64 (jf jd gg 1), .int .u64 (jf jd gg 2), .int .u64 (jf jd gg 3), .int .u64 (jf jd gh 0), .int .u64 (jf jd gh 1), .int .u64 (jf jd gh 2), .int .u64 (jf jd gh 3)], .agg #[.int .u64 (jf jd secret 0), .int .u64 (jf jd secret 1), .int .u64 (jf jd secret 2), .int .u64 (jf jd secret 3)], .agg (jp .u8 h).toArray, .agg #[.int .u64 (jf jd d 0), .int .u64 (jf jd d 1), .int .u64 (jf jd d 2), .int .u64 (jf jd d 3)]] W fun e w' => e = .returned (.tuple #[.agg #[.int .u64 (jf jd c 0), .int .u64 (jf jd c 1), .int .u64 (jf jd c 2), .int .u64 (jf jd c 3), .int .u64 (jf jd s 0), .int .u64 (jf jd s 1), .int .u64 (jf jd s 2), .int .u64 (jf jd s 3)], .int .i64 E]) ∧ Below W.heap.size W w') by
  rcases hR with h1 | ⟨h1, h2, h3, h4⟩
  ·exact .inl h1
  ·exact .inr ⟨h1, fun hq => h2 (by rw [hz] at hq; exact of_decide_eq_true hq), fun hq => h3 (by rw [hz] at hq; exact of_decide_eq_false hq), h4⟩)
 have HL := jh hl; obtain ⟨T, hT⟩ := je ((jp .u8 h).toArray); have HT := jh hT; have SG : (Tryz.prog.info? 32).map (·.size) = some T.size := by rw [zt, hT]; simp [jt, hl]
 rw [← hT] at HR ⊢; clear hc hs hE nN hCN hR hz iG hgg hq hsM hl Z4 hT; unfold qU jj words
 go_enter Tryz.func9, Tryz.ntmps9
 go_upto_region 1 with fail
 obtain ⟨A8, e0⟩ := je (w.alloc (.cells #[.int .u64 (jf jd gp 0), .int .u64 (jf jd gp 1), .int .u64 (jf jd gp 2), .int .u64 (jf jd gp 3), .int .u64 (jf jd gq 0), .int .u64 (jf jd gq 1), .int .u64 (jf jd gq 2), .int .u64 (jf jd gq 3), .int .u64 (jf jd gg 0), .int .u64 (jf jd gg 1), .int .u64 (jf jd gg 2), .int .u64 (jf jd gg 3), .int .u64 (jf jd gh 0), .int .u64 (jf jd gh 1), .int .u64 (jf jd gh 2), .int .u64 (jf jd gh 3), .int .i64 fa, .int .i64 se, nodes] 29)); obtain ⟨F8, e1⟩ := je (A8.alloc (.cells T 32)); obtain ⟨J9, e2⟩ := je (F8.alloc (.cells (jD secret) 24)); obtain ⟨S9, e3⟩ := je (J9.alloc (.cells jB 39)); have s0 : A8.heap.size = w.heap.size + 1 := by rw [e0]; simp
 have b0 := jc e0; have s1 : F8.heap.size = A8.heap.size + 1 := by rw [e1]; simp
 have b1 := jc e1; have s2 : J9.heap.size = F8.heap.size + 1 := by rw [e2]; simp
 have b2 := jc e2; have s3 : S9.heap.size = J9.heap.size + 1 := by rw [e3]; simp
 have b3 := jc e3; have f0 : UA A8 w.heap.size gp gq gg gh fa se nodes := by rw [e0]; exact UA.new _ _ _ _ _ _ _ _ _
 have f1 : F8.heap[w.heap.size + 1]? = some (.cells T 32 (0, 0)) := by rw [← s0, e1]; exact heap_alloc_new _ _
 have f2 : U0 J9 (w.heap.size + 1 + 1) secret := by rw [← s0, ← s1, e2]; exact U0.new _ _ _ _ rfl
 have f3 : S9.heap[w.heap.size + 1 + 1 + 1]? = some (.cells #[.int .u64 0, .int .u64 0, .int .u64 0, .int .u64 0, .int .u64 0, .int .u64 0, .int .u64 0, .int .u64 0] 39 (0, 0)) := by rw [← s0, ← s1, ← s2, e3]; exact heap_alloc_new _ _
 rw [← e0, ← e1, ← e2, ← e3]; have HS := jh (((f0.later b1).later b2).later b3); have HH := jh ((b3.block _ (by omega)).trans ((b2.block _ (Array.getElem?_eq_some_iff.1 f1).1).trans f1)); have HX := jh (U0.later b3 f2); have HU := jh f3; have HB := jh (jk (jk (jk b0 b1) b2) b3); clear e0 e2 e3 s0 s1 s2 s3 b0 b1 b2 b3 f0 f1 f2 f3; obtain ⟨SB, L9⟩ := je (w.heap.size); rw [← L9] at HS HH HX HU ⊢; have BD := jh (show w.heap.size ≤ SB + 1 + 1 + 1 by omega); obtain ⟨E8, fE⟩ := je (SB + 1); rw [← fE] at HH HX HU BD ⊢; obtain ⟨XB, hXB⟩ := je (E8 + 1); rw [← hXB] at HX HU BD ⊢; obtain ⟨UB, mV⟩ := je (XB + 1); rw [← mV] at HU BD ⊢; clear L9 fE hXB mV; refine jY (.take 0 (.take 1 (.take 2 (.take 3 (.take 5 (.fork 4 (.fork 6 (.fork 7 (.take 8 (.take 9 (.take 10 (.step 11 (.step 12 (.take 13 .done)))))) 11 (.step 7 (.take 8 (.take 9 (.take 10 (.step 12 (.take 13 .done))))))) 11 (.step 6 (.step 7 (.take 8 (.take 9 (.take 10 (.step 12 (.take 13 .done)))))))) 11 (.step 4 (.step 6 (.step 7 (.take 8 (.take 9 (.take 10 (.step 12 (.take 13 .done)))))))))))))) (fun w8 => UA w8 SB gp gq gg gh fa se nodes ∧ U0 w8 XB secret) (by kernel_rfl) (by kernel_rfl) (fun _ _ _ _ _ h => h) (⟨HS.out.later ((Below.refl _ _).drew), U0.later ((Below.refl _ _).drew) HX.out⟩) (fun hHeld => ?_); obtain ⟨x1, e1⟩ := je (S9.drew); rw [← e1]; have hb : Below S9.heap.size S9 x1 := by rw [e1]; exact (Below.refl _ _).drew
 have HS := jh (HS.out.later hb); have HH := jb hb HH; have HX := jn hb HX; have HU := jb hb HU; have HB := jw HB hb; clear hb e1
 iterate 2
  refine WT.tk rfl (k := ?_)
 refine WT.take rfl (Or.inl ⟨by rfl, fun w8 hSw => jg (qX hSw.1.grp.2.1)⟩) ?_
 try simp only [Act.put, pa, pb, pc]
 refine WT.take rfl (Or.inl ⟨by rfl, fun w8 hSw => jg (qx hSw.2)⟩) ?_
 try simp only [Act.put, pa, pb, pc]
 refine WT.tk rfl (k := ?_)
 focus
  refine WT.fork rfl rfl (fun K hK => ?_) (fun K hK => ?_)
 rotate_left
 focus
  go_simp
  obtain ⟨x2, e9⟩ := je (x1.alloc (.cells jA 24)); obtain ⟨VV, h9⟩ := je (x1.heap.size); have hb := jc e9; have HV := jh (show U0 x2 VV 0 by rw [e9, h9]; exact jP _ _); have Y8 := jh (show Y0 x2 VV 4 by rw [e9, h9]; exact Y0.new _ _ _ _); have IB := jh (show VV < x2.heap.size by rw [e9, h9]; simp); have WVV := jh (show x1.heap.size = VV from h9.symm); have NV := jh (show SB ≠ VV ∧ XB ≠ VV ∧ E8 ≠ VV ∧ UB ≠ VV by have a1 := HS.out.lt; have a2 := U0.lt HX.out; have a3 := (Array.getElem?_eq_some_iff.1 HH.out).1; have a5 := (Array.getElem?_eq_some_iff.1 HU.out).1; omega); have BV := jh (show w.heap.size ≤ VV by rw [h9]; exact HB.out.size); rw [← e9, ← h9]; clear e9 h9; have HS := jh (HS.out.later hb); have HH := jb hb HH; have HX := jn hb HX; have HU := jb hb HU; have HB := jw HB hb; clear hb; refine hK.out _ _ (⟨HS.out, HX.out⟩) (fun hHeld => ?_); clear hK K
  try simp only [Act.put, pa, pb, pc]
 rotate_right
 focus
  go_simp
  refine (Qp secret _).mono ?_; rintro _ x2 ⟨a4, c4, rfl, hk9, hb⟩; have HS := jh (HS.out.later hb); have HH := jb hb HH; have HX := jn hb HX; have HU := jb hb HU; have HB := jw HB hb; clear hb; have K4 := jh hk9; clear hk9; refine hK.out _ _ (⟨HS.out, HX.out⟩) (fun hHeld => ?_); clear hK K
  try simp only [Act.put, pa, pb, pc]
 focus
  refine WT.fork rfl rfl (fun K hK => ?_) (fun K hK => ?_)
 rotate_left
 focus
  go_simp
  obtain ⟨x3, e9⟩ := je (x2.alloc (.cells jA 24)); obtain ⟨VV, h9⟩ := je (x2.heap.size); have hb := jc e9; have HV := jh (show U0 x3 VV 0 by rw [e9, h9]; exact jP _ _); have Y8 := jh (show Y0 x3 VV 4 by rw [e9, h9]; exact Y0.new _ _ _ _); have IB := jh (show VV < x3.heap.size by rw [e9, h9]; simp); have WVV := jh (show x2.heap.size = VV from h9.symm); have NV := jh (show SB ≠ VV ∧ XB ≠ VV ∧ E8 ≠ VV ∧ UB ≠ VV by have a1 := HS.out.lt; have a2 := U0.lt HX.out; have a3 := (Array.getElem?_eq_some_iff.1 HH.out).1; have a5 := (Array.getElem?_eq_some_iff.1 HU.out).1; omega); have BV := jh (show w.heap.size ≤ VV by rw [h9]; exact HB.out.size); rw [← e9, ← h9]; clear e9 h9; have HS := jh (HS.out.later hb); have HH := jb hb HH; have HX := jn hb HX; have HU := jb hb HU; have HB := jw HB hb; have K4 := jh (K4.out.later hb); clear hb; refine hK.out _ _ (⟨HS.out, HX.out⟩) (fun hHeld => ?_); clear hK K
  try simp only [Act.put, pa, pb, pc]
 rotate_right
 focus
  go_simp
  obtain ⟨x3, e9⟩ := je (x2.alloc (.cells #[.slice (some a4) 32 c4, .slice (some ⟨E8, 0, none⟩) 32 32] 30)); obtain ⟨PB, h9⟩ := je (x2.heap.size); have hb := jc e9; have P0 := jh (show x3.cell? ⟨PB, 0, none⟩ = some (.slice (some a4) 32 c4) by rw [e9, h9]; rw [cell_of_row _ _ _ _ _ _ (heap_alloc_new _ _)]; rfl); have P1 := jh (show x3.cell? ⟨PB, 1, none⟩ = some (.slice (some ⟨E8, 0, none⟩) 32 32) by rw [e9, h9]; rw [cell_of_row _ _ _ _ _ _ (heap_alloc_new _ _)]; rfl); have IG := jh (show PB < x3.heap.size by rw [e9, h9]; simp); have WPB := jh (show x2.heap.size = PB from h9.symm); rw [← e9, ← h9]; clear e9 h9; have HS := jh (HS.out.later hb); have HH := jb hb HH; have HX := jn hb HX; have HU := jb hb HU; have HB := jw HB hb; have K4 := jh (K4.out.later hb); clear hb; refine hK.out _ _ (⟨HS.out, HX.out⟩) (fun hHeld => ?_); clear hK K
  try simp only [Act.put, pa, pb, pc]
 focus
  refine WT.fork rfl rfl (fun K hK => ?_) (fun K hK => ?_)
 rotate_left
 focus
  go_simp
  obtain ⟨x4, e9⟩ := je (x3.alloc (.cells jA 24)); obtain ⟨VV, h9⟩ := je (x3.heap.size); have hb := jc e9; have HV := jh (show U0 x4 VV 0 by rw [e9, h9]; exact jP _ _); have Y8 := jh (show Y0 x4 VV 4 by rw [e9, h9]; exact Y0.new _ _ _ _); have IB := jh (show VV < x4.heap.size by rw [e9, h9]; simp); have WVV := jh (show x3.heap.size = VV from h9.symm); have NV := jh (show SB ≠ VV ∧ XB ≠ VV ∧ E8 ≠ VV ∧ UB ≠ VV by have a1 := HS.out.lt; have a2 := U0.lt HX.out; have a3 := (Array.getElem?_eq_some_iff.1 HH.out).1; have a5 := (Array.getElem?_eq_some_iff.1 HU.out).1; omega); have BV := jh (show w.heap.size ≤ VV by rw [h9]; exact HB.out.size); rw [← e9, ← h9]; clear e9 h9; have HS := jh (HS.out.later hb); have HH := jb hb HH; have HX := jn hb HX; have HU := jb hb HU; have HB := jw HB hb; have K4 := jh (K4.out.later hb); have P0 := jh (jm P0.out hb); have P1 := jh (jm P1.out hb); have IG := jl IG hb.size; clear hb; refine hK.out _ _ (⟨HS.out, HX.out⟩) (fun hHeld => ?_); clear hK K
  try simp only [Act.put, pa, pb, pc]
 rotate_right
 focus
  go_simp
  refine (CN.out _ PB _ (NM P0.out P1.out K4.out (Jh (by rw [← HT.out]; exact HH.out) HL.out))).mono ?_; rintro _ x4 ⟨rfl, hb⟩; have HS := jh (HS.out.later hb); have HH := jb hb HH; have HX := jn hb HX; have HU := jb hb HU; have HB := jw HB hb; have K4 := jh (K4.out.later hb); have P0 := jh (jm P0.out hb); have P1 := jh (jm P1.out hb); have IG := jl IG hb.size; clear hb; refine hK.out _ _ (⟨HS.out, HX.out⟩) (fun hHeld => ?_); clear hK K
  try simp only [Act.put, pa, pb, pc]
 focus
  refine WT.tk rfl (k := ?_); refine WT.tk rfl (k := ?_); refine WT.tk rfl (k := ?_); refine WT.step rfl (fun K hK => ?_)
  go_simp
  obtain ⟨x5, e9⟩ := je (x4.alloc (.cells jA 24)); obtain ⟨VV, h9⟩ := je (x4.heap.size); have hb := jc e9; have HV := jh (show U0 x5 VV 0 by rw [e9, h9]; exact jP _ _); have Y8 := jh (show Y0 x5 VV 4 by rw [e9, h9]; exact Y0.new _ _ _ _); have IB := jh (show VV < x5.heap.size by rw [e9, h9]; simp); have WVV := jh (show x4.heap.size = VV from h9.symm); have NV := jh (show SB ≠ VV ∧ XB ≠ VV ∧ E8 ≠ VV ∧ UB ≠ VV by have a1 := HS.out.lt; have a2 := U0.lt HX.out; have a3 := (Array.getElem?_eq_some_iff.1 HH.out).1; have a5 := (Array.getElem?_eq_some_iff.1 HU.out).1; omega); have BV := jh (show w.heap.size ≤ VV by rw [h9]; exact HB.out.size); rw [← e9, ← h9]; clear e9 h9; have HS := jh (HS.out.later hb); have HH := jb hb HH; have HX := jn hb HX; have HU := jb hb HU; have HB := jw HB hb; have K4 := jh (K4.out.later hb); have P0 := jh (jm P0.out hb); have P1 := jh (jm P1.out hb); have IG := jl IG hb.size; clear hb; refine hK.out _ _ (⟨HS.out, HX.out⟩) (fun hHeld => ?_); clear hK K
  try simp only [Act.put, pa, pb, pc]
 rotate_right
 focus
  refine WT.step rfl (fun K hK => ?_)
  go_simp
  refine (Qp secret _).mono ?_; rintro _ x3 ⟨a4, c4, rfl, hk9, hb⟩; have HS := jh (HS.out.later hb); have HH := jb hb HH; have HX := jn hb HX; have HU := jb hb HU; have HB := jw HB hb; have HV := jn hb HV; have Y8 := jh (Y8.out.later hb IB.out); have IB := jl IB hb.size; clear hb; have K4 := jh hk9; clear hk9; refine hK.out _ _ (⟨HS.out, HX.out⟩) (fun hHeld => ?_); clear hK K
  try simp only [Act.put, pa, pb, pc]
 rotate_left
 rotate_right 2
 iterate 2
  focus
   refine WT.step rfl (fun K hK => ?_)
   go_simp
   obtain ⟨x4, e9⟩ := je (x3.alloc (.cells #[.slice (some a4) 32 c4, .slice (some ⟨E8, 0, none⟩) 32 32] 30)); obtain ⟨PB, h9⟩ := je (x3.heap.size); have hb := jc e9; have P0 := jh (show x4.cell? ⟨PB, 0, none⟩ = some (.slice (some a4) 32 c4) by rw [e9, h9]; rw [cell_of_row _ _ _ _ _ _ (heap_alloc_new _ _)]; rfl); have P1 := jh (show x4.cell? ⟨PB, 1, none⟩ = some (.slice (some ⟨E8, 0, none⟩) 32 32) by rw [e9, h9]; rw [cell_of_row _ _ _ _ _ _ (heap_alloc_new _ _)]; rfl); have IG := jh (show PB < x4.heap.size by rw [e9, h9]; simp); have WPB := jh (show x3.heap.size = PB from h9.symm); rw [← e9, ← h9]; clear e9 h9; have HS := jh (HS.out.later hb); have HH := jb hb HH; have HX := jn hb HX; have HU := jb hb HU; have HB := jw HB hb; have HV := jn hb HV; have Y8 := jh (Y8.out.later hb IB.out); have K4 := jh (K4.out.later hb); have IB := jl IB hb.size; clear hb; refine hK.out _ _ (⟨HS.out, HX.out⟩) (fun hHeld => ?_); clear hK K
   try simp only [Act.put, pa, pb, pc]
  rotate_left
 rotate_right 3
 iterate 3
  focus
   refine WT.step rfl (fun K hK => ?_)
   go_simp
   refine (CN.out _ PB _ (NM P0.out P1.out K4.out (Jh (by rw [← HT.out]; exact HH.out) HL.out))).mono ?_; rintro _ x5 ⟨rfl, hb⟩; have HS := jh (HS.out.later hb); have HH := jb hb HH; have HX := jn hb HX; have HU := jb hb HU; have HB := jw HB hb; have HV := jn hb HV; have Y8 := jh (Y8.out.later hb IB.out); have K4 := jh (K4.out.later hb); have P0 := jh (jm P0.out hb); have P1 := jh (jm P1.out hb); have IB := jl IB hb.size; have IG := jl IG hb.size; clear hb; refine hK.out _ _ (⟨HS.out, HX.out⟩) (fun hHeld => ?_); clear hK K
   try simp only [Act.put, pa, pb, pc]
   refine WT.tk rfl (k := ?_); refine WT.tk rfl (k := ?_); refine WT.tk rfl (k := ?_)
  rotate_left
 all_goals (
  refine WT.step rfl (fun K hK => ?_); obtain ⟨c0, c1, c2, c3, f0, f1, f2, f3⟩ := jL HV.out Y8.out
  go_simp
  clear c0 c1 c2 c3 f0 f1 f2 f3; obtain ⟨x6, e9⟩ := je ((((x5.setCell ⟨VV, 0, none⟩ (.int .u64 (jf jd d0 0))).setCell ⟨VV, 1, none⟩ (.int .u64 (jf jd d0 1))).setCell ⟨VV, 2, none⟩ (.int .u64 (jf jd d0 2))).setCell ⟨VV, 3, none⟩ (.int .u64 (jf jd d0 3))); have hgs : x5.grownBy x6 (some VV) := by rw [e9]; exact jx (jx (jx (jx (World.grownBy.refl x5 (some VV)) 0 _) 1 _) 2 _) 3 _
  have Y8 := jh (show Y0 x6 VV 4 by rw [e9]; exact Y0.set4 Y8.out _ _ _ _ _ _ _ _); have HV := jh (show U0 x6 VV d0 by rw [e9]; exact U0.set4 HV.out d0); have IB := jl IB hgs.size; rw [← e9]; clear e9; have HS := jh (HS.out.keep hgs (fun e => NV.out.1 (by injection e))); have HX := jh (JE HX.out hgs (fun e => NV.out.2.1 (by injection e))); have HH := jh (qZ HH.out hgs (fun e => NV.out.2.2.1 (by injection e))); have HU := jh (qZ HU.out hgs (fun e => NV.out.2.2.2 (by injection e))); have HB := jh (HB.out.grown hgs HB.out.size (fun k hk => by have e7 : VV = k := (by injection hk); rw [← e7]; exact BV.out)); clear hgs; refine hK.out _ _ (⟨HS.out, HX.out⟩) (fun hHeld => ?_); clear hK K
  try simp only [Act.put, pa, pb, pc]
  refine WT.tk rfl (k := ?_); refine WT.done ?_; clear hHeld
  rcases HR.out with ⟨rfl, h3⟩ | ⟨rfl, h3, h4, h5⟩
  ·have H3 := jh h3; clear h3
   go_upto_region 3 with fail
   refine wp_region_lit ?_; refine ji (v := .agg #[.int .u64 0, .int .u64 0, .int .u64 0, .int .u64 0, .int .u64 0, .int .u64 0, .int .u64 0, .int .u64 0]) rfl (by kernel_rfl) ?_; simp only [Act.put, pa, pb, pc]; refine ji (v := .int .i64 1) rfl (by kernel_rfl) ?_; simp only [Act.put, pa, pb, pc]; refine jy rfl _ _ _ rfl UB _ _ _ HU.out rfl rfl (by rw [qm]; rfl) rfl (by simp [Value.oneCell']) ?_; simp only [Act.put, pa, pb, pc]; obtain ⟨T9, I8⟩ : ∃ T9 : Array Value, T9 = #[.int .u64 0, .int .u64 0, .int .u64 0, .int .u64 0, .int .u64 0, .int .u64 0, .int .u64 0, .int .u64 0] := ⟨_, rfl⟩; have hs9 : (Tryz.prog.info? 39).map (·.size) = some T9.size := by rw [qm, I8]; rfl
   obtain ⟨w9, e9⟩ := je (x6.setRow UB jB); have D7 : w9.heap[UB]? = some (.cells T9 39 (0, 0)) := by rw [e9, I8]; exact setRow_heap _ _ _ _ _ _ HU.out
   have Z4 : Below w.heap.size w w9 := by rw [e9]; exact below_setRow HB.out BD.out _
   rw [← e9]; have Z9 := jh D7; have IJ := jh Z4; have OE := jh I8; clear e9 D7 Z4 I8
   go_wp2_with fail
   refine bodyPost_ret (jO rfl _ w9 UB _ _ _ _ rfl Z9.out Tryz.underlying39 rfl hs9 (.int .i64 1) rfl) rfl ⟨by rw [H3.out.1, H3.out.2.1, H3.out.2.2, OE.out]; rw [JI]; rfl, IJ.out⟩
  ·have HD1 := jh h3; have HD2 := jh h4; have CS := jh h5; clear h3 h4 h5
   go_upto_region 4 with fail
   refine wp_region_lit ?_; refine ji rfl (jg (qx HV.out)) ?_; simp only [Act.put, pa, pb, pc]; refine ji (v := .agg #[.int .u64 0, .int .u64 0, .int .u64 0, .int .u64 0]) rfl (by kernel_rfl) ?_; simp only [Act.put, pa, pb, pc]; refine ji (v := .bool z) rfl (zn sH rfl rfl rfl (HZ.out _)) ?_; simp only [Act.put, pa, pb, pc]
   cases z
   ·have GV := jh (HD2.out (by trivial))
    go_upto_region 6 with fail
    have HV := jh (show U0 x6 VV d by rw [GV.out]; exact HV.out); refine wp_region_lit ?_; refine ji (v := .pointer (some ⟨SB, 0, none⟩)) rfl (by kernel_rfl) ?_; simp only [Act.put, pa, pb, pc]; refine ji rfl (jg (qR HS.out.grp)) ?_; simp only [Act.put, pa, pb, pc]; refine ji rfl (jg (qx HX.out)) ?_; simp only [Act.put, pa, pb, pc]; refine wpList_load_row rfl _ _ rfl E8 rfl _ _ _ _ HH.out Tryz.underlying32 rfl SG ?_; simp only [Act.put, pa, pb, pc]; refine ji rfl (jg (qx HV.out)) ?_; simp only [Act.put, pa, pb, pc]
    go_wp2_with fail
    refine (CS.out _).mono ?_; rintro _ y9 ⟨rfl, hb⟩; have HS := jh (HS.out.later hb); have HH := jb hb HH; have HX := jn hb HX; have HU := jb hb HU; have HB := jw HB hb; have HV := jn hb HV; have Y8 := jh (Y8.out.later hb IB.out); have IB := jl IB hb.size; clear hb; dsimp only
    go_step
    refine ji (v := .agg #[.int .u64 (jf jd c 0), .int .u64 (jf jd c 1), .int .u64 (jf jd c 2), .int .u64 (jf jd c 3), .int .u64 (jf jd s 0), .int .u64 (jf jd s 1), .int .u64 (jf jd s 2), .int .u64 (jf jd s 3)]) rfl (by kernel_rfl) ?_; simp only [Act.put, pa, pb, pc]; refine ji (v := .int .i64 E) rfl (by kernel_rfl) ?_; simp only [Act.put, pa, pb, pc]; refine jy rfl _ _ _ rfl UB _ _ _ HU.out rfl rfl (by rw [qm]; rfl) rfl (by simp [Value.oneCell']) ?_; simp only [Act.put, pa, pb, pc]; obtain ⟨T9, I8⟩ : ∃ T9 : Array Value, T9 = #[.int .u64 (jf jd c 0), .int .u64 (jf jd c 1), .int .u64 (jf jd c 2), .int .u64 (jf jd c 3), .int .u64 (jf jd s 0), .int .u64 (jf jd s 1), .int .u64 (jf jd s 2), .int .u64 (jf jd s 3)] := ⟨_, rfl⟩; have hs9 : (Tryz.prog.info? 39).map (·.size) = some T9.size := by rw [qm, I8]; rfl
    obtain ⟨w9, e9⟩ := je (y9.setRow UB (jE c s)); have D7 : w9.heap[UB]? = some (.cells T9 39 (0, 0)) := by rw [e9, I8]; exact setRow_heap _ _ _ _ _ _ HU.out
    have Z4 : Below w.heap.size w w9 := by rw [e9]; exact below_setRow HB.out BD.out _
    rw [← e9]; have Z9 := jh D7; have IJ := jh Z4; have OE := jh I8; clear e9 D7 Z4 I8
    go_wp2_with fail
    refine bodyPost_ret (jO rfl _ w9 UB _ _ _ _ rfl Z9.out Tryz.underlying39 rfl hs9 (.int .i64 E) rfl) rfl ⟨by rw [OE.out]; rfl, IJ.out⟩
   ·have GV := jh (HD1.out (by trivial)); obtain ⟨c0, c1, c2, c3, f0, f1, f2, f3⟩ := jL HV.out Y8.out
    go_upto_region 6 with fail
    clear c0 c1 c2 c3 f0 f1 f2 f3; have o0 : ((jf jd 1 0 : Nat) : Int) = 1 := by decide
    have o1 : ((jf jd 1 1 : Nat) : Int) = 0 := by decide
    have o2 : ((jf jd 1 2 : Nat) : Int) = 0 := by decide
    have o3 : ((jf jd 1 3 : Nat) : Int) = 0 := by decide
    obtain ⟨x7, e9⟩ := je ((((x6.setCell ⟨VV, 0, none⟩ (.int .u64 1)).setCell ⟨VV, 1, none⟩ (.int .u64 0)).setCell ⟨VV, 2, none⟩ (.int .u64 0)).setCell ⟨VV, 3, none⟩ (.int .u64 0)); have hgs : x6.grownBy x7 (some VV) := by rw [e9]; exact jx (jx (jx (jx (World.grownBy.refl x6 (some VV)) 0 _) 1 _) 2 _) 3 _
    have Y8 := jh (show Y0 x7 VV 4 by rw [e9]; exact Y0.set4 Y8.out _ _ _ _ _ _ _ _); have HV := jh (show U0 x7 VV 1 by rw [e9]; have h7 := U0.set4 HV.out 1; rw [o0, o1, o2, o3] at h7; exact h7); have IB := jl IB hgs.size; rw [← e9]; clear e9; have HS := jh (HS.out.keep hgs (fun e => NV.out.1 (by injection e))); have HX := jh (JE HX.out hgs (fun e => NV.out.2.1 (by injection e))); have HH := jh (qZ HH.out hgs (fun e => NV.out.2.2.1 (by injection e))); have HU := jh (qZ HU.out hgs (fun e => NV.out.2.2.2 (by injection e))); have HB := jh (HB.out.grown hgs HB.out.size (fun k hk => by have e7 : VV = k := (by injection hk); rw [← e7]; exact BV.out)); clear hgs; clear o0 o1 o2 o3; have HV := jh (show U0 x7 VV d by rw [GV.out]; exact HV.out); refine wp_region_lit ?_; refine ji (v := .pointer (some ⟨SB, 0, none⟩)) rfl (by kernel_rfl) ?_; simp only [Act.put, pa, pb, pc]; refine ji rfl (jg (qR HS.out.grp)) ?_; simp only [Act.put, pa, pb, pc]; refine ji rfl (jg (qx HX.out)) ?_; simp only [Act.put, pa, pb, pc]; refine wpList_load_row rfl _ _ rfl E8 rfl _ _ _ _ HH.out Tryz.underlying32 rfl SG ?_; simp only [Act.put, pa, pb, pc]; refine ji rfl (jg (qx HV.out)) ?_; simp only [Act.put, pa, pb, pc]
    go_wp2_with fail
    refine (CS.out _).mono ?_; rintro _ y9 ⟨rfl, hb⟩; have HS := jh (HS.out.later hb); have HH := jb hb HH; have HX := jn hb HX; have HU := jb hb HU; have HB := jw HB hb; have HV := jn hb HV; have Y8 := jh (Y8.out.later hb IB.out); have IB := jl IB hb.size; clear hb; dsimp only
    go_step
    refine ji (v := .agg #[.int .u64 (jf jd c 0), .int .u64 (jf jd c 1), .int .u64 (jf jd c 2), .int .u64 (jf jd c 3), .int .u64 (jf jd s 0), .int .u64 (jf jd s 1), .int .u64 (jf jd s 2), .int .u64 (jf jd s 3)]) rfl (by kernel_rfl) ?_; simp only [Act.put, pa, pb, pc]; refine ji (v := .int .i64 E) rfl (by kernel_rfl) ?_; simp only [Act.put, pa, pb, pc]; refine jy rfl _ _ _ rfl UB _ _ _ HU.out rfl rfl (by rw [qm]; rfl) rfl (by simp [Value.oneCell']) ?_; simp only [Act.put, pa, pb, pc]; obtain ⟨T9, I8⟩ : ∃ T9 : Array Value, T9 = #[.int .u64 (jf jd c 0), .int .u64 (jf jd c 1), .int .u64 (jf jd c 2), .int .u64 (jf jd c 3), .int .u64 (jf jd s 0), .int .u64 (jf jd s 1), .int .u64 (jf jd s 2), .int .u64 (jf jd s 3)] := ⟨_, rfl⟩; have hs9 : (Tryz.prog.info? 39).map (·.size) = some T9.size := by rw [qm, I8]; rfl
    obtain ⟨w9, e9⟩ := je (y9.setRow UB (jE c s)); have D7 : w9.heap[UB]? = some (.cells T9 39 (0, 0)) := by rw [e9, I8]; exact setRow_heap _ _ _ _ _ _ HU.out
    have Z4 : Below w.heap.size w w9 := by rw [e9]; exact below_setRow HB.out BD.out _
    rw [← e9]; have Z9 := jh D7; have IJ := jh Z4; have OE := jh I8; clear e9 D7 Z4 I8
    go_wp2_with fail
    refine bodyPost_ret (jO rfl _ w9 UB _ _ _ _ rfl Z9.out Tryz.underlying39 rfl hs9 (.int .i64 E) rfl) rfl ⟨by rw [OE.out]; rfl, IJ.out⟩)
end Go.Proofs.YtmijablfjigbhaaGreatDoor
