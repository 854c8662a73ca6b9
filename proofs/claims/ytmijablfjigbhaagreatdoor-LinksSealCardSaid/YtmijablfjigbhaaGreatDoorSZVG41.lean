/- Layer 13 (sigs) -/
import Derived.Test.YtmijablfjigbhaaGreatDoorSZVG35
set_option linter.unusedSimpArgs false
set_option linter.unusedVariables false
set_option maxHeartbeats 8000000
set_option maxRecDepth 20000
namespace Go.Proofs.YtmijablfjigbhaaGreatDoor
open Go.ChangeShapes Go.WideShapes Go.ChangeAt Go.RowKit
theorem Sign_any {gp gq gg gh secret draw : Nat} {h : List Nat} (hm : Jq gp gg) (iG : gp < jo) (hgg : gg < jo) (hq1 : 1 < gq) (hq : gq < jo) (hs0 : secret ≠ 0) (hs : secret < gq) (hd0 : draw ≠ 0) (hd : draw < gq) (hl : h.length = 32) (Z4 : jM h) (w : World) :
  Calls Tryz.prog 32 #[qd gp gq gg gh, jj secret, .agg (jp .u8 h).toArray, jj draw] w fun e w' => e = .returned (.tuple #[Ql (YF gp gq gg secret draw h) (ZS gp gq gg secret draw h), .int .i64 0]) ∧ Below w.heap.size w w' := by
 obtain ⟨key, hkey⟩ := je (gg ^ secret % gp); obtain ⟨r, hr⟩ := je (gg ^ draw % gp); obtain ⟨c, hc⟩ := je (zu gq key r h); obtain ⟨p, hp⟩ := je (secret * c % gq); obtain ⟨s, hs9⟩ := je ((draw + p) % gq); have ec : YF gp gq gg secret draw h = c := by rw [hc, hkey, hr]; rfl
 have es : ZS gp gq gg secret draw h = s := by unfold ZS; rw [ec, ← hp, ← hs9]
 rw [es, ec]; have hsM := Nat.lt_trans hs hq; have nN := Nat.lt_trans hd hq; have hcq : c < gq := by rw [hc]; unfold zu zB; exact Nat.mod_lt _ (by omega)
 have hpq : p < gq := by rw [hp]; exact Nat.mod_lt _ (by omega)
 have C1 := jh (fun W => by have h9 := kE (gq := gq) (gg := gg) (gh := gh) hm hgg hsM iG W; rw [← hkey] at h9; unfold jj words at h9; exact h9); have C2 := jh (fun W => by have h9 := kE (gq := gq) (gg := gg) (gh := gh) hm hgg nN iG W; rw [← hr] at h9; unfold jj words at h9; exact h9); have CX := jh (fun (W : World) (B cap : Nat) (hx : uB W B 0 [secret, draw]) => by have h9 := wK (gp := gp) (gg := gg) (gh := gh) (cap := cap) (xs := [secret, draw]) (by intro x hx; simp only [List.mem_cons, List.not_mem_nil, or_false] at hx; rcases hx with rfl | rfl; exact hs; exact hd) hq1 hq W hx (by simp); unfold qd at h9; exact h9); have CM := jh (fun W => by have h9 := SMul_any (gp := gp) (gg := gg) (gh := gh) hs hcq hq1 hq W; rw [← hp] at h9; unfold qd jj words at h9; exact h9); have CA := jh (fun W => by have h9 := tJ (gp := gp) (gg := gg) (gh := gh) hd hpq hq1 hq W; rw [← hs9] at h9; unfold qd jj words at h9; exact h9); have CG := jh (fun W => by have h9 := wW (gp := gp) (gq := gq) (gg := gg) (gh := gh) (key := key) hl W; unfold qd jj words at h9; exact h9); have CF := jh (fun (W : World) (GB KB HB : Nat) hg hk hh => by have h9 := TR (GB := GB) (KB := KB) (HB := HB) (gp := gp) (gq := gq) (gg := gg) (gh := gh) (key := key) (r := r) (h := h) W hg hk hh hl Z4 (by omega) hq; rw [← hc] at h9; unfold jj words at h9; exact h9); have heq1 := zp secret 0 hsM (by decide); rw [decide_eq_false hs0] at heq1; have heq2 := zp draw 0 nN (by decide); rw [decide_eq_false hd0] at heq2; have HL := jh hl; obtain ⟨T, hT⟩ := je ((jp .u8 h).toArray); have HT := jh hT; rw [← hT] at CG CF ⊢; unfold Ql qd jj words; clear hkey hr hc hp hs9 ec es hsM nN hcq hpq hm iG hgg hq1 hq hs0 hs hd0 hd hl Z4 hT
 go_enter Tryz.func32, Tryz.ntmps32
 go_upto_region 2 with fail
 obtain ⟨A8, xC⟩ := je (w.alloc (.cells (jG gp gq gg gh) 26)); have dF : A8.heap.size = w.heap.size + 1 := by rw [xC]; simp
 have WN := jc xC; have aH : U2 A8 (w.heap.size) gp gq gg gh := by rw [xC]; exact U2.new _ _ _ _ _ _
 obtain ⟨F8, tC⟩ := je (A8.alloc (.cells (jD secret) 24)); have aG : F8.heap.size = w.heap.size + 1 + 1 := by rw [tC]; simp [dF]
 have wG := jc tC; have xE : U0 F8 (w.heap.size + 1) secret := by rw [← dF, tC]; exact U0.new _ _ _ _ rfl
 obtain ⟨J9, VC⟩ := je (F8.alloc (.cells T 32)); have yO : J9.heap.size = w.heap.size + 1 + 1 + 1 := by rw [VC]; simp [aG]
 have VE := jc VC; have oG : J9.heap[w.heap.size + 1 + 1]? = some (.cells T 32 (0, 0)) := by rw [← aG, VC]; exact heap_alloc_new _ _
 obtain ⟨S9, yE⟩ := je (J9.alloc (.cells (jD draw) 24)); have wL : S9.heap.size = w.heap.size + 1 + 1 + 1 + 1 := by rw [yE]; simp [yO]
 have uD := jc yE; have yF : U0 S9 (w.heap.size + 1 + 1 + 1) draw := by rw [← yO, yE]; exact U0.new _ _ _ _ rfl
 obtain ⟨FC, fD⟩ := je (S9.alloc (.cells jB 39)); have xR : FC.heap.size = w.heap.size + 1 + 1 + 1 + 1 + 1 := by rw [fD]; simp [wL]
 have OC := jc fD; have nG : A7 FC (w.heap.size + 1 + 1 + 1 + 1) 8 (fun _ => 0) := by rw [← wL, fD]; exact A7.zero8 _ _
 have g_4 : Y0 FC (w.heap.size + 1 + 1 + 1 + 1) 8 := by rw [← wL, fD]; exact Y0.new _ _ _ _
 obtain ⟨KD, e_5⟩ := je (FC.alloc (.cells jA 24)); have s_5 : KD.heap.size = w.heap.size + 1 + 1 + 1 + 1 + 1 + 1 := by rw [e_5]; simp [xR]
 have FQ := jc e_5; have f_5 : U0 KD (w.heap.size + 1 + 1 + 1 + 1 + 1) 0 := by rw [← xR, e_5]; exact jP _ _
 rw [← xC, ← tC, ← VC, ← yE, ← fD, ← e_5]; have HG := (((((aH.later wG).later VE).later uD).later OC).later FQ); have HS := (U0.later FQ (U0.later OC (U0.later uD (U0.later VE xE)))); have HH := ((FQ.block _ (by omega)).trans ((OC.block _ (by omega)).trans ((uD.block _ (by omega)).trans oG))); have HD := (U0.later FQ (U0.later OC yF)); have HU := (ql (by omega) nG FQ); have Z8 := (g_4.later FQ (by omega)); have HN := f_5; have HB := jh (jk (jk (jk (jk (jk WN wG) VE) uD) OC) FQ); have s9 := s_5; clear xC dF WN aH tC aG wG xE VC yO VE oG yE wL uD yF fD xR OC nG e_5 s_5 FQ f_5 g_4; obtain ⟨GB, hGB⟩ := je (w.heap.size); rw [← hGB] at HG HS HH HD HU Z8 HN s9 ⊢; obtain ⟨SB, L9⟩ := je (GB + 1); rw [← L9] at HS HH HD HU Z8 HN s9 ⊢; obtain ⟨E8, fE⟩ := je (SB + 1); rw [← fE] at HH HD HU Z8 HN s9 ⊢; obtain ⟨DB, hDB⟩ := je (E8 + 1); rw [← hDB] at HD HU Z8 HN s9 ⊢; obtain ⟨UB, mV⟩ := je (DB + 1); rw [← mV] at HU Z8 HN s9 ⊢; obtain ⟨NB, hNB⟩ := je (UB + 1); rw [← hNB] at HN s9 ⊢; have BD := jh (show w.heap.size ≤ UB by omega); have F7 := jh (show UB < KD.heap.size by omega); have HG := jh HG; have HS := jh HS; have HH := jh HH; have HD := jh HD; have HU := jh HU; have Z8 := jh Z8; have HN := jh HN; clear s9 hGB L9 fE hDB mV hNB; refine wp_region_lit ?_; refine ji rfl (jg (qR HG.out)) ?_; refine ji (v := .pointer (some ⟨GB, 8, none⟩)) rfl (by kernel_rfl) ?_; refine ji rfl (jg (qX HG.out.2.2.1)) ?_; refine ji rfl (jg (qx HS.out)) ?_; simp only [Act.put, pa, pb, pc]
 go_wp2_with fail
 refine (C1.out _).mono ?_; rintro _ w1 ⟨rfl, hb⟩; have HU := jh (ql F7.out HU.out hb); have HG := jh (HG.out.later hb); have HS := jn hb HS; have HH := jb hb HH; have HD := jn hb HD; have Z8 := jh (Z8.out.later hb F7.out); have HN := jn hb HN; have HB := jw HB hb; have F7 := jl F7 hb.size; clear hb
 go_upto_region 3 with fail
 obtain ⟨w2, e9⟩ := je (w1.alloc (.cells (jD key) 24)); obtain ⟨KB, h9⟩ := je (w1.heap.size); have hb := jc e9; have HK := jh (show U0 w2 KB key by rw [e9, h9]; exact U0.new _ _ _ _ rfl); have NE := jh (show KB < w2.heap.size by rw [e9, h9]; simp); have WKB := jh (show w1.heap.size = KB from h9.symm); rw [← e9, ← h9]; clear e9 h9; have HU := jh (ql F7.out HU.out hb); have HG := jh (HG.out.later hb); have HS := jn hb HS; have HH := jb hb HH; have HD := jn hb HD; have Z8 := jh (Z8.out.later hb F7.out); have HN := jn hb HN; have HB := jw HB hb; have F7 := jl F7 hb.size; clear hb; obtain ⟨y0, y1, y2, y3, y4, y5, y6, y7, y8, y9, KJ, pR, nR, y13, kR, iR⟩ := QW HG.out; obtain ⟨r0, r1, r2, r3⟩ := jz HS.out; obtain ⟨t0, t1, t2, t3⟩ := jz HD.out; obtain ⟨n0, n1, n2, n3⟩ := jz HN.out
 go_wp2_with fail
 clear y0 y1 y2 y3 y4 y5 y6 y7 y8 y9 KJ pR nR y13 kR iR r0 r1 r2 r3 t0 t1 t2 t3 n0 n1 n2 n3; obtain ⟨w3, e9⟩ := je (w2.alloc (.cells (jE secret draw) 24)); obtain ⟨XB, h9⟩ := je (w2.heap.size); have hb := jc e9; have HX := jh (show w3.heap[XB]? = some (.cells #[.int .u64 (jf jd secret 0), .int .u64 (jf jd secret 1), .int .u64 (jf jd secret 2), .int .u64 (jf jd secret 3), .int .u64 (jf jd draw 0), .int .u64 (jf jd draw 1), .int .u64 (jf jd draw 2), .int .u64 (jf jd draw 3)] 24 (0, 0)) by rw [e9, h9]; exact heap_alloc_new _ _); have MF := jh (show XB < w3.heap.size by rw [e9, h9]; simp); have WXB := jh (show w2.heap.size = XB from h9.symm); rw [← e9, ← h9]; clear e9 h9; have HU := jh (ql F7.out HU.out hb); have HG := jh (HG.out.later hb); have HS := jn hb HS; have HH := jb hb HH; have HD := jn hb HD; have Z8 := jh (Z8.out.later hb F7.out); have HN := jn hb HN; have HB := jw HB hb; have HK := jn hb HK; have F7 := jl F7 hb.size; have NE := jl NE hb.size; clear hb; refine (CX.out _ XB _ (VU HX.out)).mono ?_; rintro _ w4 ⟨rfl, hb⟩; have HU := jh (ql F7.out HU.out hb); have HG := jh (HG.out.later hb); have HS := jn hb HS; have HH := jb hb HH; have HD := jn hb HD; have Z8 := jh (Z8.out.later hb F7.out); have HN := jn hb HN; have HB := jw HB hb; have HK := jn hb HK; have F7 := jl F7 hb.size; have NE := jl NE hb.size; have MF := jl MF hb.size; clear hb; clear HX
 go_upto_region 5 with fail
 refine wp_region_lit ?_; refine ji rfl (jg (qR HG.out)) ?_; refine ji (v := .pointer (some ⟨GB, 8, none⟩)) rfl (by kernel_rfl) ?_; refine ji rfl (jg (qX HG.out.2.2.1)) ?_; refine ji rfl (jg (qx HD.out)) ?_; simp only [Act.put, pa, pb, pc]
 go_wp2_with fail
 refine (C2.out _).mono ?_; rintro _ w5 ⟨rfl, hb⟩; have HU := jh (ql F7.out HU.out hb); have HG := jh (HG.out.later hb); have HS := jn hb HS; have HH := jb hb HH; have HD := jn hb HD; have Z8 := jh (Z8.out.later hb F7.out); have HN := jn hb HN; have HB := jw HB hb; have HK := jn hb HK; have F7 := jl F7 hb.size; have NE := jl NE hb.size; have MF := jl MF hb.size; clear hb
 go_upto_region 6 with fail
 obtain ⟨w6, e9⟩ := je (w5.alloc (.cells (jD r) 24)); obtain ⟨RB, h9⟩ := je (w5.heap.size); have hb := jc e9; have HR := jh (show U0 w6 RB r by rw [e9, h9]; exact U0.new _ _ _ _ rfl); have UQ := jh (show RB < w6.heap.size by rw [e9, h9]; simp); have WRB := jh (show w5.heap.size = RB from h9.symm); rw [← e9, ← h9]; clear e9 h9; have HU := jh (ql F7.out HU.out hb); have HG := jh (HG.out.later hb); have HS := jn hb HS; have HH := jb hb HH; have HD := jn hb HD; have Z8 := jh (Z8.out.later hb F7.out); have HN := jn hb HN; have HB := jw HB hb; have HK := jn hb HK; have F7 := jl F7 hb.size; have NE := jl NE hb.size; have MF := jl MF hb.size; clear hb; refine jY (.take 0 (.take 1 (.take 2 (.take 4 (.fork 3 (.fork 5 (.step 6 (.step 7 .done)) 6 (.step 5 (.step 7 .done))) 6 (.step 3 (.step 5 (.step 7 .done)))))))) (fun w8 => w8.heap[E8]? = some (.cells T 32 (0, 0)) ∧ U2 w8 GB gp gq gg gh ∧ U0 w8 KB key ∧ U0 w8 RB r) (by kernel_rfl) (by kernel_rfl) (fun _ _ _ _ _ h => h) (⟨HH.out, HG.out, HK.out, HR.out⟩) (fun hHeld => ?_); obtain ⟨x1, e1⟩ := je (w6.drew); rw [← e1]; have hb : Below w6.heap.size w6 x1 := by rw [e1]; exact (Below.refl _ _).drew
 have HU := jh (ql F7.out HU.out hb); have HG := jh (HG.out.later hb); have HS := jn hb HS; have HH := jb hb HH; have HD := jn hb HD; have Z8 := jh (Z8.out.later hb F7.out); have HN := jn hb HN; have HB := jw HB hb; have HK := jn hb HK; have HR := jn hb HR; have F7 := jl F7 hb.size; have NE := jl NE hb.size; have MF := jl MF hb.size; have UQ := jl UQ hb.size; clear hb e1; refine WT.take rfl (Or.inl ⟨by rfl, fun w8 hSw => jg (qR hSw.2.1)⟩) ?_
 try simp only [Act.put, pa, pb, pc]
 refine WT.take rfl (Or.inl ⟨by rfl, fun w8 hSw => jg (qx hSw.2.2.1)⟩) ?_
 try simp only [Act.put, pa, pb, pc]
 refine WT.tk (v := .agg T) rfl (fun w8 hSw => by have h9 := loadH (h := h) (by rw [← HT.out]; exact hSw.1) HL.out; rw [← HT.out] at h9; exact jg h9) (k := ?_); refine WT.take rfl (Or.inl ⟨by rfl, fun w8 hSw => jg (qx hSw.2.2.2)⟩) ?_
 try simp only [Act.put, pa, pb, pc]
 focus
  refine WT.fork rfl rfl (fun K hK => ?_) (fun K hK => ?_)
 rotate_left
 focus
  go_simp
  obtain ⟨x2, e9⟩ := je (x1.alloc (.cells jA 24)); obtain ⟨CB, h9⟩ := je (x1.heap.size); have hb := jc e9; have HC := jh (show U0 x2 CB 0 by rw [e9, h9]; exact jP _ _); have HCF := jh (show Y0 x2 CB 4 by rw [e9, h9]; exact Y0.new _ _ _ _); have LCB := jh (show CB < x2.heap.size by rw [e9, h9]; simp); have WCB := jh (show x1.heap.size = CB from h9.symm); have NCB := jh (show GB ≠ CB ∧ SB ≠ CB ∧ E8 ≠ CB ∧ DB ≠ CB ∧ UB ≠ CB ∧ KB ≠ CB ∧ RB ≠ CB by have a1 := HG.out.lt; have a2 := U0.lt HS.out; have a3 := (Array.getElem?_eq_some_iff.1 HH.out).1; have a4 := U0.lt HD.out; have a5 := F7.out; have a6 := U0.lt HK.out; have a7 := U0.lt HR.out; omega); have BCB := jh (show w.heap.size ≤ CB by rw [h9]; exact HB.out.size); rw [← e9, ← h9]; clear e9 h9; have HU := jh (ql F7.out HU.out hb); have HG := jh (HG.out.later hb); have HS := jn hb HS; have HH := jb hb HH; have HD := jn hb HD; have Z8 := jh (Z8.out.later hb F7.out); have HN := jn hb HN; have HB := jw HB hb; have HK := jn hb HK; have HR := jn hb HR; have F7 := jl F7 hb.size; have NE := jl NE hb.size; have MF := jl MF hb.size; have UQ := jl UQ hb.size; clear hb; refine hK.out _ _ (⟨HH.out, HG.out, HK.out, HR.out⟩) (fun hHeld => ?_); clear hK K
  try simp only [Act.put, pa, pb, pc]
 rotate_right
 focus
  go_simp
  refine (CG.out _).mono ?_; rintro _ x2 ⟨GB2, KB2, HB2, rfl, hg2, hk2, hh2, hb⟩; have HU := jh (ql F7.out HU.out hb); have HG := jh (HG.out.later hb); have HS := jn hb HS; have HH := jb hb HH; have HD := jn hb HD; have Z8 := jh (Z8.out.later hb F7.out); have HN := jn hb HN; have HB := jw HB hb; have HK := jn hb HK; have HR := jn hb HR; have F7 := jl F7 hb.size; have NE := jl NE hb.size; have MF := jl MF hb.size; have UQ := jl UQ hb.size; clear hb; have HG2 := jh hg2; have PK := jh hk2; have WQ := jh hh2; clear hg2 hk2 hh2; refine hK.out _ _ (⟨HH.out, HG.out, HK.out, HR.out⟩) (fun hHeld => ?_); clear hK K
  try simp only [Act.put, pa, pb, pc]
 focus
  refine WT.fork rfl rfl (fun K hK => ?_) (fun K hK => ?_)
 rotate_left
 focus
  go_simp
  obtain ⟨x3, e9⟩ := je (x2.alloc (.cells jA 24)); obtain ⟨CB, h9⟩ := je (x2.heap.size); have hb := jc e9; have HC := jh (show U0 x3 CB 0 by rw [e9, h9]; exact jP _ _); have HCF := jh (show Y0 x3 CB 4 by rw [e9, h9]; exact Y0.new _ _ _ _); have LCB := jh (show CB < x3.heap.size by rw [e9, h9]; simp); have WCB := jh (show x2.heap.size = CB from h9.symm); have NCB := jh (show GB ≠ CB ∧ SB ≠ CB ∧ E8 ≠ CB ∧ DB ≠ CB ∧ UB ≠ CB ∧ KB ≠ CB ∧ RB ≠ CB by have a1 := HG.out.lt; have a2 := U0.lt HS.out; have a3 := (Array.getElem?_eq_some_iff.1 HH.out).1; have a4 := U0.lt HD.out; have a5 := F7.out; have a6 := U0.lt HK.out; have a7 := U0.lt HR.out; omega); have BCB := jh (show w.heap.size ≤ CB by rw [h9]; exact HB.out.size); rw [← e9, ← h9]; clear e9 h9; have HU := jh (ql F7.out HU.out hb); have HG := jh (HG.out.later hb); have HS := jn hb HS; have HH := jb hb HH; have HD := jn hb HD; have Z8 := jh (Z8.out.later hb F7.out); have HN := jn hb HN; have HB := jw HB hb; have HK := jn hb HK; have HR := jn hb HR; have HG2 := jh (HG2.out.later hb); have PK := jn hb PK; have WQ := jb hb WQ; have F7 := jl F7 hb.size; have NE := jl NE hb.size; have MF := jl MF hb.size; have UQ := jl UQ hb.size; clear hb; refine hK.out _ _ (⟨HH.out, HG.out, HK.out, HR.out⟩) (fun hHeld => ?_); clear hK K
  try simp only [Act.put, pa, pb, pc]
 rotate_right
 focus
  go_simp
  refine (CF.out _ _ _ _ HG2.out PK.out WQ.out).mono ?_; rintro _ x3 ⟨rfl, hb⟩; have HU := jh (ql F7.out HU.out hb); have HG := jh (HG.out.later hb); have HS := jn hb HS; have HH := jb hb HH; have HD := jn hb HD; have Z8 := jh (Z8.out.later hb F7.out); have HN := jn hb HN; have HB := jw HB hb; have HK := jn hb HK; have HR := jn hb HR; have HG2 := jh (HG2.out.later hb); have PK := jn hb PK; have WQ := jb hb WQ; have F7 := jl F7 hb.size; have NE := jl NE hb.size; have MF := jl MF hb.size; have UQ := jl UQ hb.size; clear hb; refine hK.out _ _ (⟨HH.out, HG.out, HK.out, HR.out⟩) (fun hHeld => ?_); clear hK K
  try simp only [Act.put, pa, pb, pc]
 focus
  refine WT.step rfl (fun K hK => ?_)
  go_simp
  obtain ⟨x4, e9⟩ := je (x3.alloc (.cells jA 24)); obtain ⟨CB, h9⟩ := je (x3.heap.size); have hb := jc e9; have HC := jh (show U0 x4 CB 0 by rw [e9, h9]; exact jP _ _); have HCF := jh (show Y0 x4 CB 4 by rw [e9, h9]; exact Y0.new _ _ _ _); have LCB := jh (show CB < x4.heap.size by rw [e9, h9]; simp); have WCB := jh (show x3.heap.size = CB from h9.symm); have NCB := jh (show GB ≠ CB ∧ SB ≠ CB ∧ E8 ≠ CB ∧ DB ≠ CB ∧ UB ≠ CB ∧ KB ≠ CB ∧ RB ≠ CB by have a1 := HG.out.lt; have a2 := U0.lt HS.out; have a3 := (Array.getElem?_eq_some_iff.1 HH.out).1; have a4 := U0.lt HD.out; have a5 := F7.out; have a6 := U0.lt HK.out; have a7 := U0.lt HR.out; omega); have BCB := jh (show w.heap.size ≤ CB by rw [h9]; exact HB.out.size); rw [← e9, ← h9]; clear e9 h9; have HU := jh (ql F7.out HU.out hb); have HG := jh (HG.out.later hb); have HS := jn hb HS; have HH := jb hb HH; have HD := jn hb HD; have Z8 := jh (Z8.out.later hb F7.out); have HN := jn hb HN; have HB := jw HB hb; have HK := jn hb HK; have HR := jn hb HR; have F7 := jl F7 hb.size; have NE := jl NE hb.size; have MF := jl MF hb.size; have UQ := jl UQ hb.size; clear hb; refine hK.out _ _ (⟨HH.out, HG.out, HK.out, HR.out⟩) (fun hHeld => ?_); clear hK K
  try simp only [Act.put, pa, pb, pc]
 rotate_right
 focus
  refine WT.step rfl (fun K hK => ?_)
  go_simp
  refine (CG.out _).mono ?_; rintro _ x3 ⟨GB2, KB2, HB2, rfl, hg2, hk2, hh2, hb⟩; have HU := jh (ql F7.out HU.out hb); have HG := jh (HG.out.later hb); have HS := jn hb HS; have HH := jb hb HH; have HD := jn hb HD; have Z8 := jh (Z8.out.later hb F7.out); have HN := jn hb HN; have HB := jw HB hb; have HK := jn hb HK; have HR := jn hb HR; have HC := jn hb HC; have HCF := jh (HCF.out.later hb LCB.out); have F7 := jl F7 hb.size; have NE := jl NE hb.size; have MF := jl MF hb.size; have UQ := jl UQ hb.size; have LCB := jl LCB hb.size; clear hb; have HG2 := jh hg2; have PK := jh hk2; have WQ := jh hh2; clear hg2 hk2 hh2; refine hK.out _ _ (⟨HH.out, HG.out, HK.out, HR.out⟩) (fun hHeld => ?_); clear hK K
  try simp only [Act.put, pa, pb, pc]
 rotate_left
 rotate_right 2
 iterate 2
  focus
   refine WT.step rfl (fun K hK => ?_)
   go_simp
   refine (CF.out _ _ _ _ HG2.out PK.out WQ.out).mono ?_; rintro _ x4 ⟨rfl, hb⟩; have HU := jh (ql F7.out HU.out hb); have HG := jh (HG.out.later hb); have HS := jn hb HS; have HH := jb hb HH; have HD := jn hb HD; have Z8 := jh (Z8.out.later hb F7.out); have HN := jn hb HN; have HB := jw HB hb; have HK := jn hb HK; have HR := jn hb HR; have HC := jn hb HC; have HCF := jh (HCF.out.later hb LCB.out); have HG2 := jh (HG2.out.later hb); have PK := jn hb PK; have WQ := jb hb WQ; have F7 := jl F7 hb.size; have NE := jl NE hb.size; have MF := jl MF hb.size; have UQ := jl UQ hb.size; have LCB := jl LCB hb.size; clear hb; refine hK.out _ _ (⟨HH.out, HG.out, HK.out, HR.out⟩) (fun hHeld => ?_); clear hK K
   try simp only [Act.put, pa, pb, pc]
  rotate_left
 all_goals (
  refine WT.step rfl (fun K hK => ?_); obtain ⟨c0, c1, c2, c3, f0, f1, f2, f3⟩ := jL HC.out HCF.out
  go_simp
  clear c0 c1 c2 c3 f0 f1 f2 f3; obtain ⟨x5, e9⟩ := je ((((x4.setCell ⟨CB, 0, none⟩ (.int .u64 (jf jd c 0))).setCell ⟨CB, 1, none⟩ (.int .u64 (jf jd c 1))).setCell ⟨CB, 2, none⟩ (.int .u64 (jf jd c 2))).setCell ⟨CB, 3, none⟩ (.int .u64 (jf jd c 3))); have hgs : x4.grownBy x5 (some CB) := by rw [e9]; exact jx (jx (jx (jx (World.grownBy.refl x4 (some CB)) 0 _) 1 _) 2 _) 3 _
  have HC := jh (show U0 x5 CB c by rw [e9]; exact U0.set4 HC.out c); rw [← e9]; clear e9; have HG := jh (grp_keep HG.out hgs NCB.out.1); have HS := jh (QP HS.out hgs NCB.out.2.1); have HH := jh (IZ HH.out hgs NCB.out.2.2.1); have HD := jh (QP HD.out hgs NCB.out.2.2.2.1); have HU := jh (show A7 x5 UB 8 (fun _ => 0) from fun j hj => hgs.cell (HU.out j hj) (fun e => NCB.out.2.2.2.2.1 (by injection e))); have Z8 := jh (show Y0 x5 UB 8 from fun j hj => (qq (hgs.block UB F7.out (fun e => NCB.out.2.2.2.2.1 (by injection e)))).trans (Z8.out j hj)); have HK := jh (QP HK.out hgs NCB.out.2.2.2.2.2.1); have HR := jh (QP HR.out hgs NCB.out.2.2.2.2.2.2); have HB := jh (HB.out.grown hgs HB.out.size (fun k hk => by have e7 : CB = k := (by injection hk); rw [← e7]; exact BCB.out)); have F7 := jl F7 hgs.size; clear hgs; refine hK.out _ _ (⟨HH.out, HG.out, HK.out, HR.out⟩) (fun hHeld => ?_); clear hK K
  try simp only [Act.put, pa, pb, pc]
  refine WT.done ?_; clear hHeld
  go_upto_region 7 with fail
  refine wp_region_lit ?_; refine ji rfl (jg (qR HG.out)) ?_; refine ji rfl (jg (qx HS.out)) ?_; refine ji rfl (jg (qx HC.out)) ?_; simp only [Act.put, pa, pb, pc]
  go_wp2_with fail
  refine (CM.out _).mono ?_; rintro _ x6 ⟨rfl, hb⟩; have HU := jh (ql F7.out HU.out hb); have HG := jh (HG.out.later hb); have HS := jn hb HS; have HH := jb hb HH; have HD := jn hb HD; have Z8 := jh (Z8.out.later hb F7.out); have HB := jw HB hb; have HK := jn hb HK; have HR := jn hb HR; have HC := jn hb HC; have F7 := jl F7 hb.size; clear hb
  go_upto_region 8 with fail
  obtain ⟨x7, e9⟩ := je (x6.alloc (.cells (jD p) 24)); obtain ⟨TB, h9⟩ := je (x6.heap.size); have hb := jc e9; have HP := jh (show U0 x7 TB p by rw [e9, h9]; exact U0.new _ _ _ _ rfl); have HPF := jh (show Y0 x7 TB 4 by rw [e9, h9]; exact Y0.new _ _ _ _); have LTB := jh (show TB < x7.heap.size by rw [e9, h9]; simp); have WTB := jh (show x6.heap.size = TB from h9.symm); have NTB := jh (show UB ≠ TB ∧ CB ≠ TB by have a5 := F7.out; have a6 := U0.lt HC.out; omega); have BTB := jh (show w.heap.size ≤ TB by rw [h9]; exact HB.out.size); rw [← e9, ← h9]; clear e9 h9; have HU := jh (ql F7.out HU.out hb); have HG := jh (HG.out.later hb); have HS := jn hb HS; have HH := jb hb HH; have HD := jn hb HD; have Z8 := jh (Z8.out.later hb F7.out); have HB := jw HB hb; have HK := jn hb HK; have HR := jn hb HR; have HC := jn hb HC; have F7 := jl F7 hb.size; clear hb; refine wp_region_lit ?_; refine ji rfl (jg (qR HG.out)) ?_; refine ji rfl (jg (qx HD.out)) ?_; refine ji rfl (jg (qx HP.out)) ?_; simp only [Act.put, pa, pb, pc]
  go_wp2_with fail
  refine (CA.out _).mono ?_; rintro _ x8 ⟨rfl, hb⟩; have HU := jh (ql F7.out HU.out hb); have HG := jh (HG.out.later hb); have HS := jn hb HS; have HH := jb hb HH; have HD := jn hb HD; have Z8 := jh (Z8.out.later hb F7.out); have HB := jw HB hb; have HK := jn hb HK; have HR := jn hb HR; have HC := jn hb HC; have HP := jn hb HP; have HPF := jh (HPF.out.later hb LTB.out); have F7 := jl F7 hb.size; have LTB := jl LTB hb.size; clear hb; obtain ⟨c0, c1, c2, c3, f0, f1, f2, f3⟩ := jL HP.out HPF.out
  go_upto_region 9 with fail
  clear c0 c1 c2 c3 f0 f1 f2 f3; obtain ⟨x9, e9⟩ := je ((((x8.setCell ⟨TB, 0, none⟩ (.int .u64 (jf jd s 0))).setCell ⟨TB, 1, none⟩ (.int .u64 (jf jd s 1))).setCell ⟨TB, 2, none⟩ (.int .u64 (jf jd s 2))).setCell ⟨TB, 3, none⟩ (.int .u64 (jf jd s 3))); have hgs : x8.grownBy x9 (some TB) := by rw [e9]; exact jx (jx (jx (jx (World.grownBy.refl x8 (some TB)) 0 _) 1 _) 2 _) 3 _
  have HP := jh (show U0 x9 TB s by rw [e9]; exact U0.set4 HP.out s); rw [← e9]; clear e9; have HC := jh (QP HC.out hgs NTB.out.2); have HU := jh (show A7 x9 UB 8 (fun _ => 0) from fun j hj => hgs.cell (HU.out j hj) (fun e => NTB.out.1 (by injection e))); have Z8 := jh (show Y0 x9 UB 8 from fun j hj => (qq (hgs.block UB F7.out (fun e => NTB.out.1 (by injection e)))).trans (Z8.out j hj)); have HB := jh (HB.out.grown hgs HB.out.size (fun k hk => by have e7 : TB = k := (by injection hk); rw [← e7]; exact BTB.out)); clear hgs; obtain ⟨r0, r1, r2, r3⟩ := jz HC.out; obtain ⟨t0, t1, t2, t3⟩ := jz HP.out; obtain ⟨u0, u1, u2, u3, u4, u5, u6, u7⟩ := XV HU.out; obtain ⟨f0, f1, f2, f3, f4, f5, f6, f7⟩ := fQ Z8.out
  go_wp2_with fail
  clear r0 r1 r2 r3 t0 t1 t2 t3 u0 u1 u2 u3 u4 u5 u6 u7 f0 f1 f2 f3 f4 f5 f6 f7; obtain ⟨g0, g1, g2, g3, g4, g5, g6, g7⟩ := XV (kZ HU.out (jf jd c 0) (jf jd c 1) (jf jd c 2) (jf jd c 3) (jf jd s 0) (jf jd s 1) (jf jd s 2) (jf jd s 3)); have HB := jh (zZ HB.out BD (.int .u64 (jf jd c 0)) (.int .u64 (jf jd c 1)) (.int .u64 (jf jd c 2)) (.int .u64 (jf jd c 3)) (.int .u64 (jf jd s 0)) (.int .u64 (jf jd s 1)) (.int .u64 (jf jd s 2)) (.int .u64 (jf jd s 3))); refine bodyPost_ret (v := .tuple #[.agg #[.int .u64 (jf jd c 0), .int .u64 (jf jd c 1), .int .u64 (jf jd c 2), .int .u64 (jf jd c 3), .int .u64 (jf jd s 0), .int .u64 (jf jd s 1), .int .u64 (jf jd s 2), .int .u64 (jf jd s 3)], .int .i64 0]) ?_ rfl ⟨rfl, HB.out⟩
  simp [results, Tryz.results32, go_sem, qM, g0, g1, g2, g3, g4, g5, g6, g7])
theorem ju {w w' : World} {b n : Nat} {A : Nat → Nat} (hl : RowKit.Hid (b < w.heap.size)) (h : RowKit.Hid (A7 w b n A)) (hb : Below w.heap.size w w') : RowKit.Hid (A7 w' b n A) := Lib.hid (ql hl.out h.out hb)
theorem Sign_no {gp gq gg gh secret draw : Nat} {h : List Nat} (iG : gp < jo) (hgg : gg < jo) (hq : gq < jo) (hsM : secret < jo) (nN : draw < jo) (hbad : ¬ (Jq gp gg ∧ secret ≠ 0 ∧ draw ≠ 0 ∧ 1 < gq ∧ secret < gq ∧ draw < gq)) (hl : h.length = 32) (w : World) :
  Calls Tryz.prog 32 #[qd gp gq gg gh, jj secret, .agg (jp .u8 h).toArray, jj draw] w fun e w' => e = .returned (.tuple #[Ql 0 0, .int .i64 1]) ∧ Below w.heap.size w w' := by
 obtain ⟨key, e9, uT, PY⟩ : ∃ (key : Nat) (e9 : Int), (e9 = 0 ↔ Jq gp gg) ∧ ∀ W, Calls Tryz.prog 103 #[qd gp gq gg gh, jj gg, jj secret] W fun e w' => e = .returned (.tuple #[jj key, .int .i64 e9]) ∧ Below W.heap.size W w' := by
  by_cases hm : Jq gp gg
  ·exact ⟨_, 0, ⟨fun _ => hm, fun _ => rfl⟩, fun W => kE hm hgg hsM iG W⟩
  ·exact ⟨0, 1, ⟨fun h => by omega, fun h => absurd h hm⟩, fun W => nV hm hgg hsM iG W⟩
 have C1 := jh (fun W => by have h9 := PY W; unfold qd jj words at h9; exact h9); obtain ⟨EX, hEX⟩ := je ([secret, draw].all (fun x => decide (1 < gq ∧ x < gq))); have CX := jh (fun (W : World) (B cap : Nat) (hx : uB W B 0 [secret, draw]) => by have h9 := xK (gp := gp) (gg := gg) (gh := gh) (cap := cap) (xs := [secret, draw]) (by intro x hx; simp only [List.mem_cons, List.not_mem_nil, or_false] at hx; rcases hx with rfl | rfl; exact hsM; exact nN) hq W hx (by simp); rewrite [← hEX] at h9; unfold qd at h9; exact h9); have heq1 := zp secret 0 hsM (by decide); have heq2 := zp draw 0 nN (by decide)
 have HBAD := jh (show e9 = 0 → secret ≠ 0 → draw ≠ 0 → EX = false from fun h1 h2 h3 => by
  cases hE : EX with
  | false => rfl
  | true =>
   rw [hE] at hEX
   simp at hEX
   exact absurd ⟨uT.1 h1, h2, h3, hEX.1.1, hEX.1.2, hEX.2.2⟩ hbad)
 obtain ⟨T, hT⟩ := je ((jp .u8 h).toArray); rw [← hT]; unfold Ql qd jj words; clear iG hgg hq hsM nN hbad hl hEX uT PY hT
 go_enter Tryz.func32, Tryz.ntmps32
 go_upto_region 2 with fail
 obtain ⟨A8, xC⟩ := je (w.alloc (.cells (jG gp gq gg gh) 26)); have dF : A8.heap.size = w.heap.size + 1 := by rw [xC]; simp
 have WN := jc xC; have aH : U2 A8 (w.heap.size) gp gq gg gh := by rw [xC]; exact U2.new _ _ _ _ _ _
 obtain ⟨F8, tC⟩ := je (A8.alloc (.cells (jD secret) 24)); have aG : F8.heap.size = w.heap.size + 1 + 1 := by rw [tC]; simp [dF]
 have wG := jc tC; have xE : U0 F8 (w.heap.size + 1) secret := by rw [← dF, tC]; exact U0.new _ _ _ _ rfl
 obtain ⟨J9, VC⟩ := je (F8.alloc (.cells T 32)); have yO : J9.heap.size = w.heap.size + 1 + 1 + 1 := by rw [VC]; simp [aG]
 have VE := jc VC; have oG : J9.heap[w.heap.size + 1 + 1]? = some (.cells T 32 (0, 0)) := by rw [← aG, VC]; exact heap_alloc_new _ _
 obtain ⟨S9, yE⟩ := je (J9.alloc (.cells (jD draw) 24)); have wL : S9.heap.size = w.heap.size + 1 + 1 + 1 + 1 := by rw [yE]; simp [yO]
 have uD := jc yE; have yF : U0 S9 (w.heap.size + 1 + 1 + 1) draw := by rw [← yO, yE]; exact U0.new _ _ _ _ rfl
 obtain ⟨FC, fD⟩ := je (S9.alloc (.cells jB 39)); have xR : FC.heap.size = w.heap.size + 1 + 1 + 1 + 1 + 1 := by rw [fD]; simp [wL]
 have OC := jc fD; have nG : A7 FC (w.heap.size + 1 + 1 + 1 + 1) 8 (fun _ => 0) := by rw [← wL, fD]; exact A7.zero8 _ _
 have g_4 : Y0 FC (w.heap.size + 1 + 1 + 1 + 1) 8 := by rw [← wL, fD]; exact Y0.new _ _ _ _
 obtain ⟨KD, e_5⟩ := je (FC.alloc (.cells jA 24)); have s_5 : KD.heap.size = w.heap.size + 1 + 1 + 1 + 1 + 1 + 1 := by rw [e_5]; simp [xR]
 have FQ := jc e_5; have f_5 : U0 KD (w.heap.size + 1 + 1 + 1 + 1 + 1) 0 := by rw [← xR, e_5]; exact jP _ _
 rw [← xC, ← tC, ← VC, ← yE, ← fD, ← e_5]; have HG := (((((aH.later wG).later VE).later uD).later OC).later FQ); have HS := (U0.later FQ (U0.later OC (U0.later uD (U0.later VE xE)))); have HH := ((FQ.block _ (by omega)).trans ((OC.block _ (by omega)).trans ((uD.block _ (by omega)).trans oG))); have HD := (U0.later FQ (U0.later OC yF)); have HU := (ql (by omega) nG FQ); have Z8 := (g_4.later FQ (by omega)); have HN := f_5; have HB := jh (jk (jk (jk (jk (jk WN wG) VE) uD) OC) FQ); have s9 := s_5; clear xC dF WN aH tC aG wG xE VC yO VE oG yE wL uD yF fD xR OC nG e_5 s_5 FQ f_5 g_4; obtain ⟨GB, hGB⟩ := je (w.heap.size); rw [← hGB] at HG HS HH HD HU Z8 HN s9 ⊢; obtain ⟨SB, L9⟩ := je (GB + 1); rw [← L9] at HS HH HD HU Z8 HN s9 ⊢; obtain ⟨E8, fE⟩ := je (SB + 1); rw [← fE] at HH HD HU Z8 HN s9 ⊢; obtain ⟨DB, hDB⟩ := je (E8 + 1); rw [← hDB] at HD HU Z8 HN s9 ⊢; obtain ⟨UB, mV⟩ := je (DB + 1); rw [← mV] at HU Z8 HN s9 ⊢; obtain ⟨NB, hNB⟩ := je (UB + 1); rw [← hNB] at HN s9 ⊢; have BD := jh (show w.heap.size ≤ UB by omega); have F7 := jh (show UB < KD.heap.size by omega); have HG := jh HG; have HS := jh HS; have HH := jh HH; have HD := jh HD; have HU := jh HU; have Z8 := jh Z8; have HN := jh HN; clear s9 hGB L9 fE hDB mV hNB; refine wp_region_lit ?_; refine ji rfl (jg (qR HG.out)) ?_; refine ji (v := .pointer (some ⟨GB, 8, none⟩)) rfl (by kernel_rfl) ?_; refine ji rfl (jg (qX HG.out.2.2.1)) ?_; refine ji rfl (jg (qx HS.out)) ?_; simp only [Act.put, pa, pb, pc]
 go_wp2_with fail
 refine (C1.out _).mono ?_; rintro _ w1 ⟨rfl, hb⟩; have HU := ju F7 HU hb; have HG := jh (HG.out.later hb); have HS := jn hb HS; have HH := jb hb HH; have HD := jn hb HD; have Z8 := jh (Z8.out.later hb F7.out); have HN := jn hb HN; have HB := jw HB hb; have F7 := jl F7 hb.size; clear hb
 go_upto_region 3 with fail
 obtain ⟨w2, e9⟩ := je (w1.alloc (.cells (jD key) 24)); obtain ⟨KB, h9⟩ := je (w1.heap.size); have hb := jc e9; have HK := jh (show U0 w2 KB key by rw [e9, h9]; exact U0.new _ _ _ _ rfl); have NE := jh (show KB < w2.heap.size by rw [e9, h9]; simp); have WKB := jh (show w1.heap.size = KB from h9.symm); rw [← e9, ← h9]; clear e9 h9; have HU := ju F7 HU hb; have HG := jh (HG.out.later hb); have HS := jn hb HS; have HH := jb hb HH; have HD := jn hb HD; have Z8 := jh (Z8.out.later hb F7.out); have HN := jn hb HN; have HB := jw HB hb; have F7 := jl F7 hb.size; clear hb
 by_cases he : e9 = 0
 rotate_left
 ·have he1 : (e9 != 0) = true := by simpa using he
  obtain ⟨y0, y1, y2, y3, y4, y5, y6, y7, y8, y9, KJ, pR, nR, y13, kR, iR⟩ := QW HG.out; obtain ⟨r0, r1, r2, r3⟩ := jz HS.out; obtain ⟨t0, t1, t2, t3⟩ := jz HD.out; obtain ⟨n0, n1, n2, n3⟩ := jz HN.out; obtain ⟨u0, u1, u2, u3, u4, u5, u6, u7⟩ := XV HU.out; obtain ⟨f0, f1, f2, f3, f4, f5, f6, f7⟩ := fQ Z8.out
  go_wp2_with fail
  have B9 := jh (zZ HB.out BD (.int .u64 0) (.int .u64 0) (.int .u64 0) (.int .u64 0) (.int .u64 0) (.int .u64 0) (.int .u64 0) (.int .u64 0)); refine bodyPost_ret (v := .tuple #[.agg #[.int .u64 0, .int .u64 0, .int .u64 0, .int .u64 0, .int .u64 0, .int .u64 0, .int .u64 0, .int .u64 0], .int .i64 1]) ?_ rfl ⟨by simp only [jI]; rfl, B9.out⟩
  simp [results, Tryz.results32, go_sem, u0, u1, u2, u3, u4, u5, u6, u7, f0, f1, f2, f3, f4, f5, f6, f7]
 have he1 : (e9 != 0) = false := by rw [he]; rfl
 have HE0 := jh he; clear he
 by_cases hs0 : secret = 0
 ·rw [decide_eq_true hs0] at heq1; clear hs0 HBAD; obtain ⟨y0, y1, y2, y3, y4, y5, y6, y7, y8, y9, KJ, pR, nR, y13, kR, iR⟩ := QW HG.out; obtain ⟨r0, r1, r2, r3⟩ := jz HS.out; obtain ⟨t0, t1, t2, t3⟩ := jz HD.out; obtain ⟨n0, n1, n2, n3⟩ := jz HN.out; obtain ⟨u0, u1, u2, u3, u4, u5, u6, u7⟩ := XV HU.out; obtain ⟨f0, f1, f2, f3, f4, f5, f6, f7⟩ := fQ Z8.out
  go_wp2_with fail
  have B9 := jh (zZ HB.out BD (.int .u64 0) (.int .u64 0) (.int .u64 0) (.int .u64 0) (.int .u64 0) (.int .u64 0) (.int .u64 0) (.int .u64 0)); refine bodyPost_ret (v := .tuple #[.agg #[.int .u64 0, .int .u64 0, .int .u64 0, .int .u64 0, .int .u64 0, .int .u64 0, .int .u64 0, .int .u64 0], .int .i64 1]) ?_ rfl ⟨by simp only [jI]; rfl, B9.out⟩
  simp [results, Tryz.results32, go_sem, u0, u1, u2, u3, u4, u5, u6, u7, f0, f1, f2, f3, f4, f5, f6, f7]
 rw [decide_eq_false hs0] at heq1
 by_cases hd0 : draw = 0
 ·rw [decide_eq_true hd0] at heq2; clear hd0 HBAD; obtain ⟨y0, y1, y2, y3, y4, y5, y6, y7, y8, y9, KJ, pR, nR, y13, kR, iR⟩ := QW HG.out; obtain ⟨r0, r1, r2, r3⟩ := jz HS.out; obtain ⟨t0, t1, t2, t3⟩ := jz HD.out; obtain ⟨n0, n1, n2, n3⟩ := jz HN.out; obtain ⟨u0, u1, u2, u3, u4, u5, u6, u7⟩ := XV HU.out; obtain ⟨f0, f1, f2, f3, f4, f5, f6, f7⟩ := fQ Z8.out
  go_wp2_with fail
  have B9 := jh (zZ HB.out BD (.int .u64 0) (.int .u64 0) (.int .u64 0) (.int .u64 0) (.int .u64 0) (.int .u64 0) (.int .u64 0) (.int .u64 0)); refine bodyPost_ret (v := .tuple #[.agg #[.int .u64 0, .int .u64 0, .int .u64 0, .int .u64 0, .int .u64 0, .int .u64 0, .int .u64 0, .int .u64 0], .int .i64 1]) ?_ rfl ⟨by simp only [jI]; rfl, B9.out⟩
  simp [results, Tryz.results32, go_sem, u0, u1, u2, u3, u4, u5, u6, u7, f0, f1, f2, f3, f4, f5, f6, f7]
 rw [decide_eq_false hd0] at heq2; have hEX := HBAD.out HE0.out hs0 hd0; rw [hEX] at CX; clear hs0 hd0 hEX HBAD; obtain ⟨y0, y1, y2, y3, y4, y5, y6, y7, y8, y9, KJ, pR, nR, y13, kR, iR⟩ := QW HG.out; obtain ⟨r0, r1, r2, r3⟩ := jz HS.out; obtain ⟨t0, t1, t2, t3⟩ := jz HD.out; obtain ⟨n0, n1, n2, n3⟩ := jz HN.out
 go_wp2_with fail
 clear y0 y1 y2 y3 y4 y5 y6 y7 y8 y9 KJ pR nR y13 kR iR r0 r1 r2 r3 t0 t1 t2 t3 n0 n1 n2 n3; obtain ⟨w3, e9⟩ := je (w2.alloc (.cells (jE secret draw) 24)); obtain ⟨XB, h9⟩ := je (w2.heap.size); have hb := jc e9; have HX := jh (show w3.heap[XB]? = some (.cells #[.int .u64 (jf jd secret 0), .int .u64 (jf jd secret 1), .int .u64 (jf jd secret 2), .int .u64 (jf jd secret 3), .int .u64 (jf jd draw 0), .int .u64 (jf jd draw 1), .int .u64 (jf jd draw 2), .int .u64 (jf jd draw 3)] 24 (0, 0)) by rw [e9, h9]; exact heap_alloc_new _ _); have MF := jh (show XB < w3.heap.size by rw [e9, h9]; simp); have WXB := jh (show w2.heap.size = XB from h9.symm); rw [← e9, ← h9]; clear e9 h9; have HU := ju F7 HU hb; have HG := jh (HG.out.later hb); have HS := jn hb HS; have HH := jb hb HH; have HD := jn hb HD; have Z8 := jh (Z8.out.later hb F7.out); have HN := jn hb HN; have HB := jw HB hb; have F7 := jl F7 hb.size; clear hb; refine (CX.out _ XB _ (VU HX.out)).mono ?_; rintro _ w4 ⟨rfl, hb⟩; have HU := ju F7 HU hb; have HG := jh (HG.out.later hb); have HS := jn hb HS; have HH := jb hb HH; have HD := jn hb HD; have Z8 := jh (Z8.out.later hb F7.out); have HN := jn hb HN; have HB := jw HB hb; have F7 := jl F7 hb.size; have MF := jl MF hb.size; clear hb; obtain ⟨u0, u1, u2, u3, u4, u5, u6, u7⟩ := XV HU.out; obtain ⟨f0, f1, f2, f3, f4, f5, f6, f7⟩ := fQ Z8.out
 go_wp2_with fail
 have B9 := jh (zZ HB.out BD (.int .u64 0) (.int .u64 0) (.int .u64 0) (.int .u64 0) (.int .u64 0) (.int .u64 0) (.int .u64 0) (.int .u64 0)); refine bodyPost_ret (v := .tuple #[.agg #[.int .u64 0, .int .u64 0, .int .u64 0, .int .u64 0, .int .u64 0, .int .u64 0, .int .u64 0, .int .u64 0], .int .i64 1]) ?_ rfl ⟨by simp only [jI]; rfl, B9.out⟩
 simp [results, Tryz.results32, go_sem, u0, u1, u2, u3, u4, u5, u6, u7, f0, f1, f2, f3, f4, f5, f6, f7]
end Go.Proofs.YtmijablfjigbhaaGreatDoor
