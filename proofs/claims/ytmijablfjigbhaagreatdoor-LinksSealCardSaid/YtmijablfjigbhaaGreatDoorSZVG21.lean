/- Layer 5's reference -/
import Derived.Test.YtmijablfjigbhaaGreatDoorSZVG15
import Derived.Test.YtmijablfjigbhaaGreatDoorSZVG20
set_option linter.unusedSimpArgs false
set_option linter.unusedVariables false
set_option maxHeartbeats 4000000
set_option maxRecDepth 20000
namespace Go.Proofs.YtmijablfjigbhaaGreatDoor
open Go.ChangeShapes Go.WideShapes Go.ChangeAt Go.RowKit
theorem SX {l : List Nat} (h : jM l) : jM (l ++ zE l.length) := fun x hx => by
 rcases List.mem_append.1 hx with h1 | h1
 ·exact h x h1
 ·unfold zE at h1
  rcases List.mem_cons.1 h1 with rfl | h1
  ·decide
  ·rcases List.mem_append.1 h1 with h1 | h1
   ·rw [List.eq_of_mem_replicate h1]
    decide
   ·exact zs _ _ x h1
theorem ROf5_any {l : List Nat} {v : Value} (w : World) (hv : J6 .u8 w v l) (hby : jM l) (hsz : l.length ≤ 200000) :
  Calls Tryz.prog 123 #[v] w fun e w' => e = .returned (.agg (jp .u8 (qE l)).toArray) ∧ Below w.heap.size w w' := by
 obtain ⟨i0, hi, hz0, hz1, hz2⟩ := info_parts QI; have HI := jh hi; have hsrc := hv.src; obtain ⟨a, c, rfl⟩ : ∃ a c, v = .slice a l.length c := by obtain ⟨a, c, h, _⟩ := hv; exact ⟨a, c, h⟩
 obtain ⟨n, hn⟩ := je (l.length); rw [← hn] at hsrc hv hsz ⊢; have HN := jh hn; have HS := jh hsrc; have XQ := jh hby; have hz63 := shaZ_le n; obtain ⟨Z, hZ⟩ := je (aF n); rw [← hZ] at hz63; have HZ := jh (fun z (hz : z ≤ Z) => show (n + 1 + z) % 64 = 56 ↔ z = Z by rw [hZ] at hz ⊢; exact shaZ_at hz); have HL := jh (show l ++ zE l.length = l ++ (128 :: (List.replicate Z 0 ++ be 8 (8 * n))) by unfold zE; rw [← hn, ← hZ]); have HLN := jh (show (l ++ zE l.length).length = n + 9 + Z by rw [Zv, ← hn, hZ]); have xB := jh (NJ l); have HSH := jh (show qE l = (OH (l ++ zE l.length) ((l ++ zE l.length).length / 64)).list.flatMap (be 4) from rfl); clear hi hv hsrc hn hby hZ
 go_enter Tryz.func123, Tryz.ntmps123
 go_upto_region 1 with fail
 obtain ⟨w0, e0⟩ := je (w.alloc (.cells jC 32)); obtain ⟨R, hR⟩ := je (w.heap.size); have HC := jh (show O9 .u8 w0 R 0 32 (fun _ => 0) by rw [e0]; exact O9.zero w 32 _ rfl _ _ hR); have HF := jh (show Y0 w0 R 32 by rw [e0, hR]; exact Y0.new _ _ _ _); have hs0 : w0.heap.size = R + 1 := by rw [e0, hR]; simp
 have B := jh (show Below w.heap.size w w0 by rw [e0]; exact ja); have HS := jh (show Zq w0 1 (.slice a n c) n (jp .u8 l) from qC HS.out B.out); have hwR : w.heap.size ≤ R := by omega
 have U1 : R < w0.heap.size := by omega
 rw [← e0, ← hR]; clear e0 hR; have HE := jh (zA w0 (R + 1))
 go_wp2_with (first
  | (at_builtin; refine jJ rfl (.const (.slice none 0 0)) (.tmp 11) 30 rfl (R + 1) 5 i0 (.int .u8 0) 1 1 Tryz.underlying30 HI.out hz0 hz1 hz2 rfl (.slice none 0 0) (0) ([]) rfl (HE.out) (.slice a n c) (n) (jp .u8 l) rfl (HS.out) (by unfold maxLen; omega) (by omega) (by first | omega | (simp; omega)) ?_; intro v9 w1 ho hg hl; obtain ⟨a9, c9, rfl⟩ := ho.sl; rw [Nat.zero_add, List.nil_append] at ho; have SA := jh ho; have GHO1 := jh hg; have zHO1 := hg.size; clear ho hg hl)
  | (at_builtin; refine jJ rfl (.tmp 12) (.tmp 13) 30 rfl (R + 1) 5 i0 (.int .u8 0) 1 1 Tryz.underlying30 HI.out hz0 hz1 hz2 rfl (.slice a9 n c9) (n) (jp .u8 l) rfl (O1.later SA.out (ja)) (.slice (some ⟨w1.heap.size, 0, none⟩) 1 1) (1) ([.int .u8 128]) rfl (Zc _ _ _) (by unfold maxLen; omega) (by omega) (by first | omega | (simp; omega)) ?_; intro v9 w2 ho hg hl; obtain ⟨a9, c9, rfl⟩ := ho.sl; have U9 := jh ho; have GHO2 := jh hg; have zHO2 := hg.size; clear ho hg hl))
 have SF := jh (show Sf w R w0 from ⟨HC.out, HF.out, B.out, U1, hwR⟩); have SF := jh (SF.out.grown GHO1.out (fun k hk => by simp [Value.ownBlock] at hk)); have SF := jh (SF.out.app SA.out GHO2.out); clear HC HF B U1 hs0 SA GHO1 GHO2 zHO1 zHO2 HE; have HO := jh (show O1 w2 (R + 1) 5 1 (.slice a9 (n + 1) c9) (n + 1) (jp .u8 (l ++ 128 :: List.replicate 0 0)) by rw [jV]; exact U9.out); clear U9
 go_loopw [3] (fun v wr => ∃ z : Nat, z ≤ Z ∧ O1 wr (R + 1) 5 1 v (n + 1 + z) (jp .u8 (l ++ 128 :: List.replicate z 0)) ∧ Hid (Sf w R wr)) (fun v _ => match v with | .slice _ k _ => n + 1 + Z - k | _ => 0)
 case atStart => exact ⟨0, Nat.zero_le _, HO.out, SF⟩
 case round =>
  clear HO SF; obtain ⟨z, hz, hown, SF⟩ := hrel; obtain ⟨a8, c8, rfl⟩ := hown.sl; obtain ⟨m, hm⟩ := je (n + 1 + z); have HO := jh hown; have hzz := HZ.out z hz; rw [← hm] at HO hzz ⊢; have HM := jh hm; have hmb : m ≤ n + 1 + 63 := by omega
  clear hown hm; obtain ⟨r, hr⟩ := je (m % 64); rw [← hr] at hzz; have r0 : (m : Int) % 64 = (r : Int) := by omega
  have r1 : (m : Int).tmod 64 = (r : Int) := by rw [Int.tmod_eq_emod_of_nonneg (by omega)]; exact r0
  clear hr; have hR9 := SF.out.lt
  by_cases hq : z = Z
  ·have hr56 : r = 56 := hzz.2 hq; have hr56I : (r : Int) = 56 := by omega
   have HO := jh (show O1 wr (R + 1) 5 1 (.slice a8 m c8) m (jp .u8 (l ++ 128 :: List.replicate Z 0)) by rw [← hq]; exact HO.out); have HM := jh (show m = n + 1 + Z by rw [← hq]; exact HM.out); obtain ⟨wo, rfl⟩ : ∃ wo : World, wo = wr := ⟨_, rfl⟩; clear hzz hr56 hz hq; obtain ⟨L1, hL1⟩ := je (l ++ 128 :: List.replicate Z 0); rw [← hL1] at HO; have UF := jh hL1; obtain ⟨X, hX⟩ := je (8 * n); have HL := jh (show l ++ zE l.length = L1 ++ be 8 X by rw [HL.out, hL1, hX]; simp); have hn64 : IntKind.u64.wrap (n : Int) = (n : Int) := by rw [IntKind.wrap_u64]; omega
   have hX64 : IntKind.u64.wrap ((8 : Int) * (n : Int)) = (X : Int) := by rw [IntKind.wrap_u64]; omega
   have hX0 : (8 : Int) * (n : Int) = (X : Int) := by omega
   have hXb : X < 18446744073709551616 := by omega
   clear hL1 hX
   go_wp2_with fail
   clear r0 r1 hr56I hn64 hX64 hX0
   go_loopw [3, 5] (fun v iv wr => ∃ i : Nat, i ≤ 8 ∧ iv = .int .i64 i ∧ O1 wr (R + 1) 5 1 v (m + i) (jp .u8 (L1 ++ (be 8 X).take i)) ∧ Hid (Sf w R wr)) (fun _ i _ => 8 - (intOf i).toNat)
   case atStart => exact ⟨0, Nat.zero_le _, rfl, by simpa using HO.out, SF⟩
   case round =>
    clear HO SF; obtain ⟨i, hi, rfl, hown, SF⟩ := hrel; obtain ⟨a7, c7, rfl⟩ := hown.sl; obtain ⟨p, hp⟩ := je (m + i); have HO := jh hown; rw [← hp] at HO ⊢; have HP := jh hp; have hpb : p ≤ n + 1 + 63 + 8 := by omega
    have hR8 := SF.out.lt; clear hown hp
    by_cases hlt : i < 8
    ·obtain ⟨wp, rfl⟩ : ∃ wp : World, wp = wr := ⟨_, rfl⟩; obtain ⟨m8, hm8⟩ := je (8 * i); obtain ⟨m9, hm9⟩ := je (56 - m8); have jj0 : (8 : Int) * (i : Int) = (m8 : Int) := by omega
     have jj1 : (56 : Int) - (m8 : Int) = (m9 : Int) := by omega
     have v0 := zj (n := m8) (by omega); have v1 := zj (n := m9) (by omega); obtain ⟨y, hy⟩ := je (X / 256 ^ (7 - i) % 256); have d := oJ X (7 - i) m9 (by omega); rw [← hy] at d; have HT := jh (JB (k := 8) (x := X) (j := i) hlt); rw [← hy] at HT; have N8 : (i : Int) < 8 := by omega
     have h9I : (m9 : Int) ≤ 56 := by omega
     clear hm8 hm9 hy
     go_wp2_with (at_builtin; refine jJ rfl (.tmp 30) (.tmp 37) 30 rfl (R + 1) 5 i0 (.int .u8 0) 1 1 Tryz.underlying30 HI.out hz0 hz1 hz2 rfl (.slice a7 p c7) (p) (jp .u8 (L1 ++ (be 8 X).take i)) rfl (O1.later HO.out (ja)) (.slice (some ⟨wp.heap.size, 0, none⟩) 1 1) (1) ([.int .u8 (y : Int)]) rfl (Zc _ _ _) (by unfold maxLen; omega) (by omega) (by first | omega | (simp; omega)) ?_; intro v9 w3 ho hg hl; obtain ⟨a9, c9, rfl⟩ := ho.sl; have UY := jh ho; have GHO3 := jh hg; have zHO3 := hg.size; clear ho hg hl)
     go_roundw
     case rel =>
      exact ⟨i + 1, by omega, by go_num, by
       rw [HT.out, ← List.append_assoc, jV, show m + (i + 1) = p + 1 by rw [HP.out]; omega]
       exact UY.out, jh (SF.out.app HO.out GHO3.out)⟩
     case measure => (simp [intOf] <;> omega)
    ·have hi8 : i = 8 := by omega
     obtain ⟨L, hL⟩ := je (l ++ zE l.length); have hLT := HLN.out; have HLB9 := jh xB.out; have HSH9 := jh HSH.out; rw [← hL] at hLT HLB9 HSH9; have hpT : p = L.length := by rw [hLT, HP.out, hi8, HM.out]; omega
     have ha := HO.out; rw [hi8, List.take_of_length_le (by rw [jH]; exact Nat.le_refl _), ← HL.out, ← hL] at ha; have hK : J6 .u8 wr (.slice a7 p c7) L := by rw [hpT] at ha ⊢; exact Own.at_ ha
     have hLB : jM L := by rw [hL]; exact SX XQ.out
     obtain ⟨ga, oa, ho0⟩ : ∃ ga oa, a7 = some ⟨ga, oa, none⟩ := by obtain ⟨ao, cp, e, _, _, _, h4⟩ := hK; obtain ⟨g9, o9, e9, _⟩ := h4 (by omega); injection e with e _ _; exact ⟨g9, o9, e.trans e9⟩
     subst ho0; have hgl := (O1.lt ha ga rfl); obtain ⟨N, hN⟩ := je (L.length / 64); rw [← hN] at HLB9 HSH9; have HTN := jh (show p = 64 * N by rw [hpT]; exact HLB9.out); have HK := jh hK; have HLBy := jh hLB; have HPL := jh hpT; have hgl1 := hgl.1; have hgl2 := hgl.2; have hpc : p ≤ c7 := by obtain ⟨ao, cp, e, h1, _⟩ := hK; injection e with _ _ e3; rw [hpT, e3]; exact h1
     have hNb : N ≤ 4000 := by have h9 := HTN.out; omega
     obtain ⟨wp, rfl⟩ : ∃ wp : World, wp = wr := ⟨_, rfl⟩; have hI8 : ¬ (i : Int) < 8 := by omega
     clear hlt hi hi8 hL hLT hpT ha hK hLB hN hgl HO xB HSH HL UF
     go_upto_region 10 with fail
     obtain ⟨w3, e3⟩ := je (wp.alloc (.cells #[.int .u32 1779033703, .int .u32 3144134277, .int .u32 1013904242, .int .u32 2773480762, .int .u32 1359893119, .int .u32 2600822924, .int .u32 528734635, .int .u32 1541459225] 246)); obtain ⟨HB, hHB⟩ := je (wp.heap.size); have hb := jc e3; have h8 := jh (show O9 .u32 w3 HB 0 8 (qM iC.list) by rw [e3]; exact O9.new (k := .u32) wp iC.list _ rfl _ _ hHB); have f8 := jh (show Y0 w3 HB 8 by rw [e3, hHB]; exact Y0.new _ _ _ _); have hs3 : w3.heap.size = HB + 1 := by rw [e3, hHB]; simp
     rw [← e3, ← hHB]; have hRH : R < HB := by omega
     have hgH : ga ≠ HB := by omega
     have SF := jh (SF.out.later hb); have HK := jh (HK.out.later hb); clear e3 hHB hb
     go_wp2_with fail
     refine (pU w3).mono ?_; rintro _ w4 ⟨gk, rfl, ht, hgk, hb⟩; have SO := jh (show So w R HB ga oa c7 gk p L (OH L 0) w4 from ⟨SF.out.later hb, h8.out.later hb, f8.out.later hb (by omega), HK.out.later hb, ht, hgH, by omega, hRH, Nat.lt_of_lt_of_le (by omega) hb.size⟩); clear h8 f8 SF HK ht hgk hb hs3 hRH hgH
     go_wp2_with fail
     go_loopw [8] (fun iv wr => ∃ k m : Nat, k ≤ N ∧ m = 64 * k ∧ iv = .int .i64 m ∧ Hid (So w R HB ga oa c7 gk p L (OH L k) wr)) (fun iv _ => 64 * N - (intOf iv).toNat)
     case atStart => exact ⟨0, 0, Nat.zero_le _, rfl, rfl, SO⟩
     case round =>
      clear SO; obtain ⟨k, q, hk, hqk, rfl, SO⟩ := hrel; have HQK := jh hqk
      by_cases hlt : k < N
      ·have hq64 : q + 64 ≤ p := by have h9 := HTN.out; omega
       obtain ⟨q2, hq2⟩ := je (q + 64); have hSL := rW (o := oa) (g := ga) hq64 hpc; rw [← hq2] at hSL; have j0 : (q : Int) + 64 = (q2 : Int) := by omega
       have N8 : (q : Int) < (p : Int) := by omega
       have KY : q2 ≤ 300000 := by omega
       have v0 := zj (n := q2) (by omega); obtain ⟨u, hu⟩ := je (OH L k); have hok := wM L k; have HNX := jh (show OH L (k + 1) = QL (OH L k) ((L.drop q).take 64) by rw [HQK.out]; rfl); rw [← hu] at SO hok HNX; obtain ⟨z, hzz⟩ := je (QL u ((L.drop q).take 64)); rw [← hzz] at HNX; have CB := jh (fun (W : World) (h : So w R HB ga oa c7 gk p L u W) => by have h9 := vU hok (fun x hx => HLBy.out x (List.mem_of_mem_drop (List.mem_of_mem_take hx))) (by rw [List.length_take, List.length_drop]; have h9 := HPL.out; omega) W (cut_blk h.all (m := q) (by have h9 := HPL.out; omega)) h.tab; rewrite [← hzz] at h9; unfold S8.val at h9; exact h9); have hrd := zv SO.out.h; obtain ⟨x0, x1, x2, x3, x4, x5, x6, x7⟩ := hrd; clear hu hok hzz hqk hlt hq2
       go_upto_region 14 with fail
       refine js 8 (fun _ => none) (by kernel_rfl) (by kernel_rfl) (fun _ _ _ _ _ h => h) (fun F X8 hcl hbl => ?_); have x0 := fun X9 : Wd F => jm x0 (hbl X9.world X9.fact)
       have x1 := fun X9 : Wd F => jm x1 (hbl X9.world X9.fact)
       have x2 := fun X9 : Wd F => jm x2 (hbl X9.world X9.fact)
       have x3 := fun X9 : Wd F => jm x3 (hbl X9.world X9.fact)
       have x4 := fun X9 : Wd F => jm x4 (hbl X9.world X9.fact)
       have x5 := fun X9 : Wd F => jm x5 (hbl X9.world X9.fact)
       have x6 := fun X9 : Wd F => jm x6 (hbl X9.world X9.fact)
       have x7 := fun X9 : Wd F => jm x7 (hbl X9.world X9.fact)
       have CBX := fun X9 : Wd F => CB.out X9.world (SO.out.later (hbl X9.world X9.fact))
       have U5 := jh hcl; clear hcl hbl; refine jN 8 0 _ _ (fun _ _ _ => rfl) (by decide) ?_; simp only [List.take_succ_cons, List.take_zero, List.drop_succ_cons, List.drop_zero, Nat.reduceAdd]
       repeat (go_big_quiet_step ((go_at_call 190; with_reducible exact jq U5.out (CBX _))))
       refine wpQuiet_nil ?_; refine jR ?_; intro bs w5 hb _ _; clear x0 x1 x2 x3 x4 x5 x6 x7 U5 CBX; simp only [over]; have SO := jh (SO.out.later hb); clear hb; have hrd := zv SO.out.h; obtain ⟨x0, x1, x2, x3, x4, x5, x6, x7⟩ := hrd; have f0 := SO.out.fh 0 (by decide); have f1 := SO.out.fh 1 (by decide); have f2 := SO.out.fh 2 (by decide); have f3 := SO.out.fh 3 (by decide); have f4 := SO.out.fh 4 (by decide); have f5 := SO.out.fh 5 (by decide); have f6 := SO.out.fh 6 (by decide); have f7 := SO.out.fh 7 (by decide)
       go_wp2_with fail
       go_roundw
       case rel => exact ⟨k + 1, q2, by have h9 := HTN.out; have h8 := HQK.out; omega, by have h8 := HQK.out; omega, by go_num, jh (by rw [HNX.out]; exact SO.out.put z)⟩
       case measure => (simp [intOf]; have h9 := HTN.out; have h8 := HQK.out; omega)
      ·have hkN : k = N := by omega
       have hqI : ¬ (q : Int) < (p : Int) := by have h9 := HTN.out; omega
       obtain ⟨u, hu⟩ := je (OH L k); rw [← hu] at SO; have HD := jh (show u.list.flatMap (be 4) = qE l by rw [HSH9.out, hu, hkN]); have hok := wM L k; rw [← hu] at hok; obtain ⟨D, hD⟩ := je (qE l); rw [← hD] at HD; have HDL := jh (show D.length = 32 by rw [hD]; exact qe l); have HD9 := jh hD; have HAT := jh (fun i (hi : i < 32) => show qM D i = qM u.list (i / 4) / 256 ^ (3 - i % 4) % 256 by rw [← HD.out]; exact at0_be4 u i hi); have HOK := jh (fun i => s8_lt hok i); obtain ⟨ws, rfl⟩ : ∃ ws : World, ws = wr := ⟨_, rfl⟩; clear hk hqk hlt hkN hu hok hD HD HSH9 HLB9
       go_upto_region 16 with fail
       obtain ⟨w6, e6⟩ := je (ws.alloc (.cells jC 32)); obtain ⟨OB, hOB⟩ := je (ws.heap.size); have hb := jc e6; have hc6 := jh (show O9 .u8 w6 OB 0 32 (fun j => if j < 0 then qM D j else 0) by rw [e6]; exact (O9.zero ws 32 _ rfl _ _ hOB).congr (fun j _ => by rw [if_neg (Nat.not_lt_zero j)])); have f6 := jh (show Y0 w6 OB 32 by rw [e6, hOB]; exact Y0.new _ _ _ _); have hs6 : w6.heap.size = OB + 1 := by rw [e6, hOB]; simp
       have hn1 : HB < OB := by rw [hOB]; exact SO.out.lt
       have hn2 : R < OB := by rw [hOB]; exact SO.out.sf.lt
       have hh6 := jh (SO.out.h.later hb); have SF := jh (SO.out.sf.later hb); have hO6 : OB < w6.heap.size := by omega
       rw [← e6, ← hOB]; clear e6 hOB hb hs6 SO
       go_wp2_with fail
       go_loopw [10] (fun iv wr => ∃ i : Nat, i ≤ 32 ∧ iv = .int .i64 i ∧ Hid (O9 .u8 wr OB 0 32 (fun j => if j < i then qM D j else 0)) ∧ Hid (Y0 wr OB 32) ∧ Hid (O9 .u32 wr HB 0 8 (qM u.list)) ∧ Hid (Sf w R wr)) (fun iv _ => 32 - (intOf iv).toNat)
       case atStart => exact ⟨0, Nat.zero_le _, rfl, hc6, f6, hh6, SF⟩
       case round =>
        clear hc6 f6 hh6 SF; obtain ⟨i, hi, rfl, hc6, f6, hh6, SF⟩ := hrel
        by_cases hlt : i < 32
        ·obtain ⟨q4, hq4⟩ := je (i / 4); obtain ⟨r4, hr4⟩ := je (i % 4); obtain ⟨m8, hm8⟩ := je (8 * r4); obtain ⟨m9, hm9⟩ := je (24 - m8); have j0 : (i : Int) / 4 = (q4 : Int) := by omega
         have j1 : (i : Int).tdiv 4 = (q4 : Int) := by rw [Int.tdiv_eq_ediv_of_nonneg (by omega)]; exact j0
         have j2 : (i : Int) % 4 = (r4 : Int) := by omega
         have j3 : (i : Int).tmod 4 = (r4 : Int) := by rw [Int.tmod_eq_emod_of_nonneg (by omega)]; exact j2
         have j4 : (8 : Int) * (r4 : Int) = (m8 : Int) := by omega
         have j5 : (24 : Int) - (m8 : Int) = (m9 : Int) := by omega
         have v0 := zj (n := m8) (by omega); have v1 := zj (n := m9) (by omega); have v2 := zj (n := q4) (by omega); have v3 := zj (n := r4) (by omega); have h9I : (m9 : Int) ≤ 24 := by omega
         have rx := jF hh6.out (j := q4) (by omega); obtain ⟨x, hx⟩ := je (qM u.list q4); obtain ⟨y, hy⟩ := je (qM D i); have d : (x : Int) / 2 ^ m9 % 256 = (y : Int) := by rw [hy, HAT.out i hlt, ← hq4, ← hx, ← hr4]; exact oJ x (3 - r4) m9 (by omega)
         rw [← hx] at rx; have HY := jh hy; have L8 := jh hlt; have N8 : (i : Int) < 32 := by omega
         have q0 := jF hc6.out (j := i) hlt; have f0 := f6.out i hlt; have hq8 : (q4 : Int) < 8 := by omega
         clear hq4 hr4 hm8 hm9 hx hy hlt
         go_wp2_with fail
         go_roundw
         case rel => exact ⟨i + 1, by have := L8.out; omega, by go_num, jh ((hc6.out.set i y).congr (fun j _ => out_next y HY.out j)), jh (f6.out.set _ _), jh (hh6.out.other _ _ (by omega)), jh (SF.out.set hn2 _ _)⟩
         case measure => (simp [intOf]; have := L8.out; omega)
        ·have hi32 : i = 32 := by omega
         have hcD : O9 .u8 wr OB 0 D.length (qM D) := by rw [HDL.out]; exact hc6.out.congr (fun j hj => by rw [if_pos (by omega)])
         have RL := jh (PX hcD); have TH := jh (EF SF.out.c SF.out.f); obtain ⟨cs, hcs⟩ := je (jp .u8 D); have HC := jh hcs; have U5 : Hid (cs.length = 32) := jh (by rw [hcs, jt, HDL.out]); have HCO : Hid (∀ v ∈ cs, v.oneCell' = true) := jh (by rw [hcs]; exact zI _ _); rw [← hcs] at RL; clear hcD hcs hc6 f6 hh6 hi hlt; have hi32I : ¬ (i : Int) < 32 := by omega
         clear hi32
         go_wp2_with (first
          | (refine wpList_load_mid rfl 32 _ rfl OB 0 rfl cs _ RL.out Tryz.underlying32 rfl (by rw [U5.out]; kernel_rfl) ?_)
          | (refine wpList_store_mid rfl 32 _ _ rfl R 0 cs.toArray rfl rfl (by have := TH.out; simpa [U5.out] using this) (by rw [List.size_toArray, U5.out]; kernel_rfl) (all_oneCell_toArray HCO.out) ?_))
         refine bodyPost_ret (v := .agg cs.toArray) (JZ _ _ R _ Tryz.results123 rfl (run_loadVar_mid _ _ _ _ cs _ (World.rangeAt_setCells_same _ _ _ _ (by have := TH.out; simpa [U5.out] using this)) Tryz.underlying32 rfl (by rw [U5.out]; kernel_rfl))) rfl ⟨by rw [HC.out, HD9.out], ?_⟩; exact zi _ _ _ SF.out.below SF.out.le
  ·have hr56I : ¬ (r : Int) = 56 := by have := mt hzz.1 hq; omega
   have hr56J : ((r : Int) == 56) = false := by simp; exact hr56I
   have hlt : z < Z := by omega
   obtain ⟨wo, rfl⟩ : ∃ wo : World, wo = wr := ⟨_, rfl⟩; clear hzz hq
   go_wp2_with (at_builtin; refine jJ rfl (.tmp 19) (.tmp 20) 30 rfl (R + 1) 5 i0 (.int .u8 0) 1 1 Tryz.underlying30 HI.out hz0 hz1 hz2 rfl (.slice a8 m c8) (m) (jp .u8 (l ++ 128 :: List.replicate z 0)) rfl (O1.later HO.out (ja)) (.slice (some ⟨wo.heap.size, 0, none⟩) 1 1) (1) ([.int .u8 0]) rfl (Zc _ _ _) (by unfold maxLen; omega) (by omega) (by first | omega | (simp; omega)) ?_; intro v9 w3 ho hg hl; obtain ⟨a9, c9, rfl⟩ := ho.sl; have UY := jh ho; have GHO3 := jh hg; have zHO3 := hg.size; clear ho hg hl)
   go_roundw
   case rel =>
    exact ⟨z + 1, by omega, by
     rw [List.replicate_succ', ← List.cons_append, ← List.append_assoc, jV, show n + 1 + (z + 1) = m + 1 by rw [HM.out]; omega]
     exact UY.out, jh (SF.out.app HO.out GHO3.out)⟩
   case measure => (have h9 := HM.out; simp; omega)
end Go.Proofs.YtmijablfjigbhaaGreatDoor
