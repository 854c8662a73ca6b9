/- Layer 20 (links) -/
import Derived.Test.YtmijablfjigbhaaGreatDoorSZVG42
import Derived.Test.YtmijablfjigbhaaGreatDoorSZVG43
set_option linter.unusedSimpArgs false
set_option linter.unusedVariables false
set_option maxHeartbeats 4000000
set_option maxRecDepth 20000
namespace Go.Proofs.YtmijablfjigbhaaGreatDoor
open Go.ChangeShapes Go.WideShapes Go.ChangeAt Go.RowKit
theorem chk_all {gp gq gg gh n : Nat} {fa se : Int} {ks : List (Nat × Nat)} (h : qk gp gq gg gh fa se n ks = true) :
  1 ≤ n ∧ n ≤ 7 ∧ 1 < gq ∧ YJ gp gq gg ∧ ∀ k ∈ ks, YJ gp gq k.1 ∧ k.1 ≠ 1 := by
 unfold qk at h
 by_cases h0 : fa < 0
 ·rw [if_pos h0] at h; cases h
 by_cases h1 : 2 < fa
 ·rw [if_neg h0, if_pos h1] at h; cases h
 by_cases h2 : se < 1
 ·rw [if_neg h0, if_neg h1, if_pos h2] at h; cases h
 by_cases h3 : fa + 1 < se
 ·rw [if_neg h0, if_neg h1, if_neg h2, if_pos h3] at h; cases h
 by_cases h4 : (n : Int) < 3 * fa + 1
 ·rw [if_neg h0, if_neg h1, if_neg h2, if_neg h3, if_pos h4] at h; cases h
 by_cases h5 : 7 < n
 ·rw [if_neg h0, if_neg h1, if_neg h2, if_neg h3, if_neg h4, if_pos h5] at h; cases h
 rw [if_neg h0, if_neg h1, if_neg h2, if_neg h3, if_neg h4, if_neg h5] at h
 by_cases h6 : Qi gq (n + se.toNat) = false
 ·rw [if_pos h6] at h; cases h
 rw [if_neg h6] at h
 by_cases h7 : (qJ gp gq gg || qJ gp gq gh) = true
 ·rw [if_pos h7] at h; cases h
 rw [if_neg h7] at h
 have key : ∀ a, qJ gp gq a = false → YJ gp gq a ∧ a ≠ 1 := fun a ha => by
  unfold qJ at ha; simp only [Bool.or_eq_false_iff, Bool.not_eq_false', decide_eq_true_eq, decide_eq_false_iff_not] at ha; exact ha
 refine ⟨by omega, by omega, ?_, (key gg ?_).1, fun k hk => key k.1 ?_⟩
 ·rcases Nat.lt_or_ge 1 gq with h8 | h8
  ·exact h8
  ·refine absurd ?_ h6; have e := qy (x := gq) (by unfold jd; omega); unfold Qi; rw [e.1, e.2.1, e.2.2.1, e.2.2.2, if_pos (by decide)]; exact decide_eq_false (by omega)
 ·cases hb : qJ gp gq gg with
  | false => rfl
  | true => rw [hb] at h7; exact absurd rfl h7
 ·cases hb : qJ gp gq k.1 with
  | false => rfl
  | true =>
   have : ks.any (qS gp gq) = true := List.any_eq_true.2 ⟨k, hk, by unfold qS; rw [hb]; rfl⟩; rw [this] at h
   cases h
theorem ends_iff {n fr tt : Nat} : endsB n fr tt = true ↔ (1 ≤ fr ∧ fr ≤ n) ∧ (1 ≤ tt ∧ tt ≤ n) ∧ fr ≠ tt := by
 unfold endsB
 repeat' split
 all_goals (simp; try omega)
theorem CY {gp gq gg gh n cap fr tt secret : Nat} {fa se : Int} {ao : Option Addr} {ks : List (Nat × Nat)} {bv : Value} {b : List Nat} (hx : ∀ k ∈ ks, k.1 < jo ∧ k.2 < jo) (hq : gq < jo) (hm : gp < jo) (hgg : gg < jo) (hgh : gh < jo) (hn : n = ks.length) (hfa : -9223372036854775808 ≤ fa ∧ fa ≤ 9223372036854775807) (hse : -9223372036854775808 ≤ se ∧ se ≤ 9223372036854775807) (X8 : n ≤ 1000) (hfr : fr < 256) (hto : tt < 256) (hby : jM b) (hbl : b.length ≤ 70000) (hsM : secret < jo) (w : World) (hk : 0 < n → ∃ b o, ao = some ⟨b, o, none⟩ ∧ D8 w b o ks) (hb : J6 .u8 w bv b) :
  Calls Tryz.prog 7 #[qU gp gq gg gh fa se (.slice ao n cap), .int .u8 fr, .int .u8 tt, bv, jj secret] w fun e w' => ∃ a c, e = .returned (.tuple #[(Jb gp gq gg gh fa se n ks fr tt b secret).v a c, .int .i64 (oL gp gq gg gh fa se n ks fr tt b secret : Nat)]) ∧ Own w' w.heap.size (.slice a (Jb gp gq gg gh fa se n ks fr tt b secret).b.length c) (Jb gp gq gg gh fa se n ks fr tt b secret).b ∧ Below w.heap.size w w' := by
 obtain ⟨H, hH⟩ := je (Jt fr tt b); have hHl : H.length = 32 := by rw [hH]; exact zS _ _ _
 have vC : jM H := by rw [hH]; exact rE _ _ _
 obtain ⟨C, hC⟩ := je (WR gp gq gg secret H); obtain ⟨G, hG⟩ := je (VR gp gq gg secret H); obtain ⟨e9, uT⟩ := je (wR gp gq gg secret); have h01 : e9 = 0 ∨ e9 = 1 := by rw [uT]; exact CZ _ _ _ _
 obtain ⟨st, hst⟩ := je (qk gp gq gg gh fa se n ks); obtain ⟨en, hen⟩ := je (endsB n fr tt); obtain ⟨E, hE⟩ := je (oL gp gq gg gh fa se n ks fr tt b secret); obtain ⟨X, hX⟩ := je (Jb gp gq gg gh fa se n ks fr tt b secret); obtain ⟨m, hmb⟩ := je (b.length); have HE := jh (show E = (if st = false then 1 else if en = false then 1 else if 65536 < m then 3 else e9) by rw [hE, hst, hen, hmb, uT]; rfl); have HX0 := jh (show E ≠ 0 → X = ⟨0, 0, [], 0, 0⟩ from fun h => by rw [hX]; unfold Jb; rw [if_neg (by rw [← hE]; exact h)]); have HX1 := jh (show E = 0 → X = ⟨fr, tt, b, C, G⟩ from fun h => by rw [hX, hC, hG, hH]; unfold Jb; rw [if_pos (by rw [← hE]; exact h)]); rw [← hE, ← hX]; have H7 := jh (show st = true → n ≤ 7 from fun h => (chk_all (by rw [← hst]; exact h)).2.1); have CD := jh (fun (W : World) (hb : Below w.heap.size w W) => by have h9 := DSet_any (cap := cap) (ao := ao) hx hq hm hgg hgh hn hfa hse (by omega) W (fun h0 => by obtain ⟨b, o, h1, h2⟩ := hk h0; exact ⟨b, o, h1, h2.later hb⟩); rewrite [← hst] at h9; unfold qU at h9; exact h9); have CE := jh (fun (h7 : n ≤ 7) (W : World) => by have h9 := ends_any (gp := gp) (gq := gq) (gg := gg) (gh := gh) (cap := cap) (fa := fa) (se := se) (ao := ao) h7 hfr hto W; rewrite [← hen] at h9; unfold qU at h9; exact h9); have CC := jh (fun (W : World) (Z4 : Below w.heap.size w W) => FY W (hb.later Z4) (by omega)); have HH9 := jh (fun (W : World) (v : Value) (h : J6 .u8 W v b) => by have h9 := oM (c := 0) (s := 0) hfr hto W h hby (by omega); rewrite [← hH] at h9; exact h9); have CS := jh (fun (W : World) => by have h9 := yJ (gh := gh) (fa := fa) (se := se) (nodes := .slice ao n cap) hm hgg hq hsM hHl vC W; rewrite [← hC, ← hG, ← uT] at h9; unfold Ql qU jj words at h9; exact h9); obtain ⟨T, hT⟩ := je ((jp .u8 H).toArray); rw [← hT] at HH9 CS; have CH := jh (fun (W : World) (v : Value) (h : J6 .u8 W v b) => by have h9 := HH9.out W v h; unfold zy at h9; exact h9); obtain ⟨ab, cb, rfl, _⟩ := id hb; rw [← hmb] at CC hb ⊢; have Y6 := jh hmb; have hmI2 : m ≤ 70000 := by omega
 clear HH9 hH hHl vC hC hG hT uT hst hen hE hX hx hq hm hgg hgh hn hfa hse X8 hfr hto hk hb hmb hby hbl hsM; unfold qU jj words
 go_enter Tryz.func7, Tryz.ntmps7
 go_upto_region 1 with fail
 obtain ⟨A8, e0⟩ := je (w.alloc (.cells #[.int .u64 (jf jd gp 0), .int .u64 (jf jd gp 1), .int .u64 (jf jd gp 2), .int .u64 (jf jd gp 3), .int .u64 (jf jd gq 0), .int .u64 (jf jd gq 1), .int .u64 (jf jd gq 2), .int .u64 (jf jd gq 3), .int .u64 (jf jd gg 0), .int .u64 (jf jd gg 1), .int .u64 (jf jd gg 2), .int .u64 (jf jd gg 3), .int .u64 (jf jd gh 0), .int .u64 (jf jd gh 1), .int .u64 (jf jd gh 2), .int .u64 (jf jd gh 3), .int .i64 fa, .int .i64 se, .slice ao n cap] 29)); obtain ⟨F8, e1⟩ := je (A8.alloc (.cells (jD secret) 24)); obtain ⟨J9, e2⟩ := je (F8.alloc (.cells #[.int .u8 0, .int .u8 0, .slice none 0 0, .int .u64 0, .int .u64 0, .int .u64 0, .int .u64 0, .int .u64 0, .int .u64 0, .int .u64 0, .int .u64 0] 41)); have s0 : A8.heap.size = w.heap.size + 1 := by rw [e0]; simp
 have s1 : F8.heap.size = w.heap.size + 1 + 1 := by rw [e1]; simp [s0]
 have b0 := jc e0; have b1 := jc e1; have b2 := jc e2; have f0 : UA A8 w.heap.size gp gq gg gh fa se (.slice ao n cap) := by rw [e0]; exact UA.new _ _ _ _ _ _ _ _ _
 have f1 : U0 F8 (w.heap.size + 1) secret := by rw [← s0, e1]; exact U0.new _ _ _ _ rfl
 have f2 : J9.heap[w.heap.size + 1 + 1]? = some (.cells G6 41 (0, 0)) := by rw [← s1, e2]; exact heap_alloc_new _ _
 rw [← e0, ← e1, ← e2]; obtain ⟨SB, L9⟩ := je (w.heap.size); rw [← L9] at f0 f1 f2 ⊢; obtain ⟨XB, hXB⟩ := je (SB + 1); rw [← hXB] at f1 f2 ⊢; obtain ⟨RB, oH⟩ := je (XB + 1); rw [← oH] at f2 ⊢; have HRW := jh (show w.heap.size ≤ RB by omega); have HS := jh ((f0.later b1).later b2); have HX := jh (U0.later b2 f1); have HR := jh f2; have HB := jh (jk (jk b0 b1) b2); clear e0 e1 e2 s0 s1 b0 b1 b2 f0 f1 f2 L9 hXB oH; refine wp_region_lit ?_; refine ji rfl (jg (zV HS.out)) ?_; simp only [Act.put, pa, pb, pc]
 go_wp2_with fail
 refine (CD.out _ HB.out).mono ?_; rintro _ S9 ⟨rfl, hb⟩; have HS := jh (HS.out.later hb); have HX := jn hb HX; have HR := jb hb HR; have HB := jw HB hb; clear hb
 cases st
 ·have SE := jh (show E = 1 by rw [HE.out]; rfl); have HX := jh (HX0.out (by rw [SE.out]; decide))
  go_upto_region 2 with fail
  refine wp_region_lit ?_; refine ji (v := .agg G6) rfl (by kernel_rfl) ?_; simp only [Act.put, pa, pb, pc]; refine jy rfl _ _ _ rfl RB _ _ _ HR.out rfl rfl (by rw [qp]; rfl) rfl qV ?_; obtain ⟨w9, e9⟩ := je (S9.setRow RB G6); have D7 : w9.heap[RB]? = some (.cells G6 41 (0, 0)) := by rw [e9]; exact setRow_heap _ _ _ _ _ _ HR.out
  have Z4 : Below w.heap.size w w9 := by rw [e9]; exact below_setRow HB.out HRW.out _
  rw [← e9]; clear e9; have Z9 := jh D7; have E8 := jh Z4; clear D7 Z4
  go_wp2_with fail
  refine bodyPost_ret (jO rfl _ w9 RB _ _ _ _ rfl Z9.out Tryz.underlying41 rfl (by rw [qp]; rfl) (.int .i64 1) rfl) rfl ⟨none, 0, by rw [HX.out, SE.out, ← Jm]; rfl, by rw [HX.out]; exact zA _ _, E8.out⟩
 have HE := jh (show E = (if en = false then 1 else if 65536 < m then 3 else e9) by rw [HE.out]; rfl); have CEb := jh (CE.out (H7.out rfl)); clear CE H7; dsimp only
 go_step
 iterate 2
  refine ji (v := .bool false) rfl (by kernel_rfl) ?_; simp only [Act.put, pa, pb, pc]
 refine jv (by kernel_rfl) (jg (zV HS.out)) ?_; simp only [Act.put, pa, pb, pc]
 go_wp2_with fail
 refine (CEb.out _).mono ?_; rintro _ FC ⟨rfl, hb⟩; have HS := jh (HS.out.later hb); have HX := jn hb HX; have HR := jb hb HR; have HB := jw HB hb; clear hb
 cases en
 ·have SE := jh (show E = 1 by rw [HE.out]; rfl); have HX := jh (HX0.out (by rw [SE.out]; decide))
  go_upto_region 2 with fail
  refine wp_region_lit ?_; refine ji (v := .agg G6) rfl (by kernel_rfl) ?_; simp only [Act.put, pa, pb, pc]; refine jy rfl _ _ _ rfl RB _ _ _ HR.out rfl rfl (by rw [qp]; rfl) rfl qV ?_; obtain ⟨w9, e9⟩ := je (FC.setRow RB G6); have D7 : w9.heap[RB]? = some (.cells G6 41 (0, 0)) := by rw [e9]; exact setRow_heap _ _ _ _ _ _ HR.out
  have Z4 : Below w.heap.size w w9 := by rw [e9]; exact below_setRow HB.out HRW.out _
  rw [← e9]; clear e9; have Z9 := jh D7; have E8 := jh Z4; clear D7 Z4
  go_wp2_with fail
  refine bodyPost_ret (jO rfl _ w9 RB _ _ _ _ rfl Z9.out Tryz.underlying41 rfl (by rw [qp]; rfl) (.int .i64 1) rfl) rfl ⟨none, 0, by rw [HX.out, SE.out, ← Jm]; rfl, by rw [HX.out]; exact zA _ _, E8.out⟩
 have HE := jh (show E = (if 65536 < m then 3 else e9) by rw [HE.out]; rfl)
 go_upto_region 3 with fail
 by_cases hlong : 65536 < m
 ·have SE := jh (show E = 3 by rw [HE.out, if_pos hlong]); have hlI : (65536 : Int) < (m : Int) := by omega
  clear hlong; have HX := jh (HX0.out (by rw [SE.out]; decide))
  go_upto_region 4 with fail
  refine wp_region_lit ?_; refine ji (v := .agg G6) rfl (by kernel_rfl) ?_; simp only [Act.put, pa, pb, pc]; refine jy rfl _ _ _ rfl RB _ _ _ HR.out rfl rfl (by rw [qp]; rfl) rfl qV ?_; obtain ⟨w9, e9⟩ := je (FC.setRow RB G6); have D7 : w9.heap[RB]? = some (.cells G6 41 (0, 0)) := by rw [e9]; exact setRow_heap _ _ _ _ _ _ HR.out
  have Z4 : Below w.heap.size w w9 := by rw [e9]; exact below_setRow HB.out HRW.out _
  rw [← e9]; clear e9; have Z9 := jh D7; have E8 := jh Z4; clear D7 Z4
  go_wp2_with fail
  refine bodyPost_ret (jO rfl _ w9 RB _ _ _ _ rfl Z9.out Tryz.underlying41 rfl (by rw [qp]; rfl) (.int .i64 3) rfl) rfl ⟨none, 0, by rw [HX.out, SE.out, ← Jm]; rfl, by rw [HX.out]; exact zA _ _, E8.out⟩
 have HE := jh (show E = e9 by rw [HE.out, if_neg hlong]); have hmI : ¬ (65536 : Int) < (m : Int) := by omega
 clear hlong
 go_upto_region 5 with fail
 have S4 := jh HS.out.lt; have X4 := jh (U0.lt HX.out); have R4 := jh (Array.getElem?_eq_some_iff.1 HR.out).1; have W4 := jh HB.out.size
 go_wp2_with fail
 refine (CC.out _ HB.out).mono ?_; rintro _ KD ⟨v1, rfl, ho, hb⟩; obtain ⟨a1, c1, rfl, _⟩ := id ho.at_; rw [← Y6.out] at ho ⊢; have HO := jh ho; have V45 := jh hb.size; have HS := jh (HS.out.later hb); have HX := jn hb HX; have HR := jb hb HR; have HB := jw HB hb; clear hb; clear ho
 go_wp2_with fail
 refine (Clip_any _ HO.out).mono ?_; rintro _ _ ⟨v2, rfl, ho, rfl⟩; obtain ⟨a2, c2, rfl, _⟩ := id ho.at_; rw [← Y6.out] at ho ⊢; have HO := jh ho; clear ho; have ED := jh (show ∀ g, (Value.slice a2 m c2).ownBlock = some g → FC.heap.size ≤ g ∧ g < KD.heap.size from fun g hg => O1.lt HO.out g hg); have HR4 := jh (show RB < FC.heap.size from R4.out)
 go_upto_region 6 with fail
 obtain ⟨FH, e9⟩ := je (KD.alloc (.cells #[.int .u8 fr, .int .u8 tt, .slice a2 m c2, .int .u64 0, .int .u64 0, .int .u64 0, .int .u64 0, .int .u64 0, .int .u64 0, .int .u64 0, .int .u64 0] 41)); obtain ⟨FB, h9⟩ := je (KD.heap.size); have hb := jc e9; have HF := jh (show Z7 FH FB fr tt (.slice a2 m c2) 0 0 by rw [e9, h9]; exact Z7.new0 _ _ _ _ _); have LFB := jh (show FB < FH.heap.size by rw [e9, h9]; simp); have WFB := jh (show KD.heap.size = FB from h9.symm); rw [← e9, ← h9]; clear e9 h9; have HS := jh (HS.out.later hb); have HX := jn hb HX; have HR := jb hb HR; have HB := jw HB hb; have HO := jh (HO.out.later hb); clear hb; have NF := jh (show SB < FB ∧ XB < FB ∧ RB < FB ∧ w.heap.size ≤ FB by have a1 := S4.out; have a2 := X4.out; have a3 := R4.out; have a4 := WFB.out; have a5 := V45.out; have a6 := W4.out; omega); clear LFB
 go_upto_region 7 with fail
 refine jY (.take 0 (.take 3 (.step 1 (.step 2 (.step 4 (.take 5 (.take 6 (.take 7 (.take 8 (.step 9 (.take 10 .done))))))))))) (fun w8 => UA w8 SB gp gq gg gh fa se (.slice ao n cap) ∧ U0 w8 XB secret) (by kernel_rfl) (by kernel_rfl) (fun _ _ _ _ _ h => h) (⟨HS.out.later ((Below.refl _ _).drew), U0.later ((Below.refl _ _).drew) HX.out⟩) (fun hHeld => ?_); obtain ⟨x1, e1⟩ := je (FH.drew); rw [← e1]; have hb : Below FH.heap.size FH x1 := by rw [e1]; exact (Below.refl _ _).drew
 have HS := jh (HS.out.later hb); have HX := jn hb HX; have HR := jb hb HR; have HB := jw HB hb; have HO := jh (HO.out.later hb); have HF := jh (HF.out.later hb); clear hb e1; refine WT.take rfl (Or.inl ⟨by rfl, fun w8 hSw => jg (zV hSw.1)⟩) ?_
 try simp only [Act.put, pa, pb, pc]
 refine WT.take rfl (Or.inl ⟨by rfl, fun w8 hSw => jg (qx hSw.2)⟩) ?_
 try simp only [Act.put, pa, pb, pc]
 refine WT.step rfl (fun K hK => ?_); refine yZ (by kernel_rfl) (jg (Qz HF.out)) ?_; refine hK.out _ _ (⟨HS.out, HX.out⟩) (fun hHeld => ?_); clear hK K
 try simp only [Act.put, pa, pb, pc]
 refine WT.step rfl (fun K hK => ?_)
 go_simp
 refine (CH.out _ _ HO.out.at_).mono ?_; rintro _ x3 ⟨rfl, hb⟩; have HS := jh (HS.out.later hb); have HX := jn hb HX; have HR := jb hb HR; have HB := jw HB hb; have HO := jh (HO.out.later hb); have HF := jh (HF.out.later hb); clear hb; refine hK.out _ _ (⟨HS.out, HX.out⟩) (fun hHeld => ?_); clear hK K
 try simp only [Act.put, pa, pb, pc]
 refine WT.step rfl (fun K hK => ?_)
 go_simp
 refine (CS.out _).mono ?_; rintro _ x4 ⟨rfl, hb⟩; have HS := jh (HS.out.later hb); have HX := jn hb HX; have HR := jb hb HR; have HB := jw HB hb; have HO := jh (HO.out.later hb); have HF := jh (HF.out.later hb); clear hb; refine hK.out _ _ (⟨HS.out, HX.out⟩) (fun hHeld => ?_); clear hK K
 try simp only [Act.put, pa, pb, pc]
 iterate 4
  refine WT.tk rfl (k := ?_)
 refine WT.step rfl (fun K hK => ?_); have y3 := HF.out.c 0 (by decide); have y4 := HF.out.c 1 (by decide); have y5 := HF.out.c 2 (by decide); have y6 := HF.out.c 3 (by decide); have y7 := HF.out.s 0 (by decide); have y8 := HF.out.s 1 (by decide); have y9 := HF.out.s 2 (by decide); have KJ := HF.out.s 3 (by decide); have z3 := HF.out.free 3 (by decide); have z4 := HF.out.free 4 (by decide); have z5 := HF.out.free 5 (by decide); have z6 := HF.out.free 6 (by decide); have z7 := HF.out.free 7 (by decide); have z8 := HF.out.free 8 (by decide); have z9 := HF.out.free 9 (by decide); have z10 := HF.out.free 10 (by decide); simp only [Nat.reduceAdd] at y3 y4 y5 y6 y7 y8 y9 KJ
 go_simp
 clear y3 z3 y4 z4 y5 z5 y6 z6 y7 z7 y8 z8 y9 z9 KJ z10; obtain ⟨x5, e8⟩ := je ((((((((x4.setCell ⟨FB, 3, none⟩ (.int .u64 (jf jd C 0))).setCell ⟨FB, 4, none⟩ (.int .u64 (jf jd C 1))).setCell ⟨FB, 5, none⟩ (.int .u64 (jf jd C 2))).setCell ⟨FB, 6, none⟩ (.int .u64 (jf jd C 3))).setCell ⟨FB, 7, none⟩ (.int .u64 (jf jd G 0))).setCell ⟨FB, 8, none⟩ (.int .u64 (jf jd G 1))).setCell ⟨FB, 9, none⟩ (.int .u64 (jf jd G 2))).setCell ⟨FB, 10, none⟩ (.int .u64 (jf jd G 3))); have hgs : x4.grownBy x5 (some FB) := by rw [e8]; exact (jx (jx (jx (jx (jx (jx (jx (jx (World.grownBy.refl x4 (some FB)) 3 _) 4 _) 5 _) 6 _) 7 _) 8 _) 9 _) 10 _)
 have HF := jh (show Z7 x5 FB fr tt (.slice a2 m c2) C G by rw [e8]; exact HF.out.sign C G); rw [← e8]; clear e8; have HS := jh (HS.out.keep hgs (fun e => by injection e with e; have := NF.out; omega)); have HX := jh (JE HX.out hgs (fun e => by injection e with e; have := NF.out; omega)); have HR := jh (qZ HR.out hgs (fun e => by injection e with e; have := NF.out; omega)); have HO := jh (HO.out.kept hgs (.inr (fun e => by have h7 := ED.out _ e; have h8 := WFB.out; omega))); have HB := jh (HB.out.grown hgs HB.out.size (fun q hq => by injection hq with hq; have := NF.out; omega)); clear hgs; refine hK.out _ _ (⟨HS.out, HX.out⟩) (fun hHeld => ?_); clear hK K
 try simp only [Act.put, pa, pb, pc]
 refine WT.tk rfl (k := ?_); refine WT.done ?_; clear hHeld
 rcases h01 with rfl | rfl
 ·have HX := jh (HX1.out HE.out)
  go_upto_region 10 with fail
  refine wp_region_lit ?_; refine ji rfl (jg (Qz HF.out)) ?_; simp only [Act.put, pa, pb, pc]; refine jy rfl _ _ _ rfl RB _ _ _ HR.out rfl rfl (by rw [qp]; rfl) rfl (by simp [Value.oneCell']) ?_; simp only [Act.put, pa, pb, pc]; obtain ⟨T9, I8⟩ : ∃ T9 : Array Value, T9 = #[.int .u8 fr, .int .u8 tt, .slice a2 m c2, .int .u64 (jf jd C 0), .int .u64 (jf jd C 1), .int .u64 (jf jd C 2), .int .u64 (jf jd C 3), .int .u64 (jf jd G 0), .int .u64 (jf jd G 1), .int .u64 (jf jd G 2), .int .u64 (jf jd G 3)] := ⟨_, rfl⟩; have hs9 : (Tryz.prog.info? 41).map (·.size) = some T9.size := by rw [qp, I8]; rfl
  obtain ⟨w9, e8⟩ := je (x5.setRow RB #[.int .u8 fr, .int .u8 tt, .slice a2 m c2, .int .u64 (jf jd C 0), .int .u64 (jf jd C 1), .int .u64 (jf jd C 2), .int .u64 (jf jd C 3), .int .u64 (jf jd G 0), .int .u64 (jf jd G 1), .int .u64 (jf jd G 2), .int .u64 (jf jd G 3)]); have D7 : w9.heap[RB]? = some (.cells T9 41 (0, 0)) := by rw [e8, I8]; exact setRow_heap _ _ _ _ _ _ HR.out
  have Z4 : Below w.heap.size w w9 := by rw [e8]; exact below_setRow HB.out HRW.out _
  have ho9 : Own w9 FC.heap.size (.slice a2 m c2) b := by rw [e8]; exact HO.out.kept (Ji _ _ _) (.inr (fun e => by have h7 := ED.out _ e; have h8 := HR4.out; omega))
  rw [← e8]; clear e8; have Z9 := jh D7; have E8 := jh Z4; have HO9 := jh ho9; have OE := jh I8; clear D7 Z4 ho9 I8
  go_wp2_with fail
  refine bodyPost_ret (jO rfl _ w9 RB _ _ _ _ rfl Z9.out Tryz.underlying41 rfl hs9 (.int .i64 0) rfl) rfl ⟨a2, c2, by rw [HX.out, HE.out, OE.out]; unfold Fm.v; dsimp only; rw [← Y6.out]; rfl, by rw [HX.out]; dsimp only; rw [← Y6.out]; exact HO9.out.base W4.out, E8.out⟩
 ·have SE := jh (show E = 1 by rw [HE.out]); have HX := jh (HX0.out (by rw [SE.out]; decide))
  go_upto_region 9 with fail
  refine wp_region_lit ?_; refine ji (v := .agg G6) rfl (by kernel_rfl) ?_; simp only [Act.put, pa, pb, pc]; refine ji (v := .int .i64 1) rfl (by kernel_rfl) ?_; simp only [Act.put, pa, pb, pc]; refine jy rfl _ _ _ rfl RB _ _ _ HR.out rfl rfl (by rw [qp]; rfl) rfl qV ?_; obtain ⟨w9, e9⟩ := je (x5.setRow RB G6); have D7 : w9.heap[RB]? = some (.cells G6 41 (0, 0)) := by rw [e9]; exact setRow_heap _ _ _ _ _ _ HR.out
  have Z4 : Below w.heap.size w w9 := by rw [e9]; exact below_setRow HB.out HRW.out _
  rw [← e9]; clear e9; have Z9 := jh D7; have E8 := jh Z4; clear D7 Z4
  go_wp2_with fail
  refine bodyPost_ret (jO rfl _ w9 RB _ _ _ _ rfl Z9.out Tryz.underlying41 rfl (by rw [qp]; rfl) (.int .i64 1) rfl) rfl ⟨none, 0, by rw [HX.out, SE.out, ← Jm]; rfl, by rw [HX.out]; exact zA _ _, E8.out⟩
end Go.Proofs.YtmijablfjigbhaaGreatDoor
