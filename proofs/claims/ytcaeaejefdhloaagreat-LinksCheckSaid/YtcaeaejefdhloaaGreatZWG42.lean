/- Layer 20's reference -/
import Derived.Test.YtcaeaejefdhloaaGreatZWG41
import Derived.Test.YtcaeaejefdhloaaGreatZWG36
set_option linter.unusedSimpArgs false
set_option linter.unusedVariables false
set_option maxHeartbeats 8000000
set_option maxRecDepth 20000
namespace Go.Proofs.YtcaeaejefdhloaaGreat
open Go.ChangeShapes Go.WideShapes Go.ChangeAt Go.RowKit
theorem hashed_len_eq (s : ByteArray) (ls : List (List Nat)) (x y : Nat) : (jW (qs s) (ls ++ [[x]])).length = (jW (qs s) (ls ++ [[y]])).length := by
 unfold jW; rw [List.flatMap_append, List.flatMap_append]
 simp [qm, qn]
theorem parts_src {w : World} {g o cap n : Nat} {vs : List Value} {ls : List (List Nat)} (h : Parts w g o vs ls) (hn : n = ls.length) : Zp w 1 (.slice (some ⟨g, o, none⟩) n cap) n vs := by
 refine ⟨_, _, rfl, by rw [h.1, hn, Nat.mul_one], fun u hu => ?_, (fun e => by cases e), fun ad had j u hu => ?_⟩
 ·obtain ⟨i, hi, e⟩ := List.getElem_of_mem hu; obtain ⟨v, l, h1, h2, h3, ao, c, e2, h4⟩ := h.2 i (by rw [← h.1]; exact hi); rw [List.getElem?_eq_getElem hi, e] at h1
  cases h1
  rw [e2]
  rfl
 ·cases had
  have hi := (List.getElem?_eq_some_iff.1 hu).1; obtain ⟨v, l, h1, h2, h3, h4⟩ := h.2 j (by rw [← h.1]; exact hi); rw [hu] at h1
  cases h1
  rw [Addr.add_lit]; exact h3
theorem Jl (w : World) (o1 o2 : Obj) : Below w.heap.size w ((w.alloc o1).alloc o2) := (ja).alloc (by simp) _
theorem src_cell2 (w : World) (o1 : Obj) (u : Value) (t : TypeId) (hu : u.oneCell' = true) : Zp ((w.alloc o1).alloc (.cells #[u] t)) 1 (.slice (some ⟨w.heap.size + 1, 0, none⟩) 1 1) 1 [u] := by
 have hs : (w.alloc o1).heap.size = w.heap.size + 1 := by simp
 rw [← hs]; refine ⟨_, 1, rfl, rfl, fun x hx => by rw [List.mem_singleton.1 hx]; exact hu, (fun h => by cases h), fun ad had j x hx => ?_⟩
 cases had
 exact JX (w.alloc o1) _ t j x hx
theorem kat_next {w1 w2 : World} {x : Int} {y n : Nat} {t t2 : TypeId} {B : Nat} {a : Option Addr} {c : Nat} {u : Value} {vs : List Value} {e : TypeId} (ho : OwnV w1 B e 1 (.slice a n c) n vs) (hg : ((w1.alloc (.cells #[.int .u8 x] t)).alloc (.cells #[u] t2)).grownBy w2 (Value.slice a n c).ownBlock) (hx : x = (y : Int) := by rfl) : KAt .u8 w2 (.slice (some ⟨w1.heap.size, 0, none⟩) 1 1) [y] := by
 subst hx; refine Zh ?_; have h1 : (w1.alloc (.cells #[.int .u8 (y : Int)] t)).cell? ⟨w1.heap.size, 0, none⟩ = some (.int .u8 y) := by rw [cell_of_row _ _ _ _ _ _ (heap_alloc_new _ _)]; rfl
 have h2 := jm h1 ((Below.refl _ _).alloc (Nat.le_refl _) (.cells #[u] t2)); exact hg.cell h2 (fun e => absurd (OwnV.lt ho _ e.symm).2 (Nat.lt_irrefl _))
theorem parts_next {w w2 : World} {g o n B x : Nat} {vs : List Value} {ls : List (List Nat)} {a : Option Addr} {c : Nat} {u : Value} {e : TypeId} (h : Parts w g o vs ls) (hb : Below w.heap.size w w2) (ho : OwnV w2 B e 1 (.slice a (n + 1) c) (n + 1) (vs ++ [u])) (hu : KAt .u8 w2 u [x]) (hn : n = ls.length) :
  ∃ ga oa, a = some ⟨ga, oa, none⟩ ∧ Parts w2 ga oa (vs ++ [u]) (ls ++ [[x]]) := by
 rcases id ho.2 with ⟨_, h0⟩ | ⟨ga, oa, cap, cur, h1, _⟩
 ·omega
 ·injection h1 with h1 _ h2
  subst h1 h2; refine ⟨ga, oa, rfl, by rw [List.length_append, List.length_append, h.1]; rfl, fun i hi => ?_⟩; have hl := h.1; rw [List.length_append, List.length_singleton] at hi
  rcases Nat.lt_or_ge i ls.length with hlt | hge
  ·obtain ⟨v, l, h3, h4, h5, h6⟩ := h.2 i hlt; have h7 : (vs ++ [u])[i]? = some v := by rw [List.getElem?_append_left (by omega)]; exact h3
   refine ⟨v, l, h7, by rw [List.getElem?_append_left hlt]; exact h4, ?_, h6.later hb⟩; have := ho.cells i v h7
   rwa [Addr.add_lit] at this
  ·obtain rfl : i = ls.length := by omega
   have h7 : (vs ++ [u])[ls.length]? = some u := by rw [List.getElem?_append_right (by omega), hl, Nat.sub_self]; rfl
   refine ⟨u, [x], h7, by rw [List.getElem?_append_right (Nat.le_refl _), Nat.sub_self]; rfl, ?_, hu⟩; have := ho.cells ls.length u h7
   rwa [Addr.add_lit] at this
theorem RNumber_any {s : ByteArray} {g o cap m n : Nat} {vs : List Value} {ls : List (List Nat)} (w : World) (hP : Parts w g o vs ls) (hn : n = ls.length) (hm0 : 0 < m) (hm : m < jj) (hby : ∀ l ∈ ls, jO l) (hcap : n ≤ cap) (hcm : cap ≤ maxLen) (hsz : (jW (qs s) (ls ++ [[0]])).length ≤ 190000) :
  Calls Tryz.prog 70 #[ji m, .string s, .slice (some ⟨g, o, none⟩) n cap] w fun e w' => e = .returned (.tuple #[ji (Ja m (qs s) ls), .int .i64 0]) ∧ Below w.heap.size w w' := by
 obtain ⟨i0, hi, hz0, hz1, hz2⟩ := info_parts infoS9; have HI := jh hi; have HP := jh hP; have HN := jh hn; have hnb : n ≤ 190000 := by rw [hn]; have := flat_len ls; have h9 := hsz; unfold jW at h9; rw [List.flatMap_append] at h9; simp only [List.length_append] at h9; omega
 have HBY := jh hby; have HSZ := jh hsz; have heq : ∀ W : World, (binOp .eql 24 (.agg #[.int .u64 (jf jd m 0), .int .u64 (jf jd m 1), .int .u64 (jf jd m 2), .int .u64 (jf jd m 3)]) (.agg #[.int .u64 0, .int .u64 0, .int .u64 0, .int .u64 0])).run Tryz.prog W = .ok (.bool false) W := fun W => by have h9 := zV m 0 hm (by decide) W; rewrite [decide_eq_false (by omega)] at h9; simp only [qo] at h9; exact h9
 obtain ⟨q, hq⟩ := je (Ja m (qs s) ls); rw [← hq]; have CO := jh (fun (x : Nat) (hx : x < 2) (W : World) (g9 o9 c9 : Nat) (vs9 : List Value) (h : Parts W g9 o9 vs9 (ls ++ [[x]])) => ROf6_any (s := s) (cap := c9) (n := n + 1) W h (by rw [List.length_append, ← hn]; rfl) (fun l hl => by rcases List.mem_append.1 hl with h1 | h1; exact hby l h1; rw [List.mem_singleton.1 h1]; intro y hy; rw [List.mem_singleton.1 hy]; omega) (by rw [hashed_len_eq s ls x 0]; exact hsz)); obtain ⟨D0, hD0⟩ := je (qq (jW (qs s) (ls ++ [[0]]))); obtain ⟨D1, hD1⟩ := je (qq (jW (qs s) (ls ++ [[1]]))); obtain ⟨hi9, hhi⟩ := je (halfN (qs s) ls 0); obtain ⟨lo9, hlo⟩ := je (halfN (qs s) ls 1); have CO0 := jh (fun W g9 o9 c9 vs9 h => by have h9 := CO.out 0 (by omega) W g9 o9 c9 vs9 h; rewrite [← hD0] at h9; exact h9); have CO1 := jh (fun W g9 o9 c9 vs9 h => by have h9 := CO.out 1 (by omega) W g9 o9 c9 vs9 h; rewrite [← hD1] at h9; exact h9); have CG := jh (fun (D : List Nat) (x : Nat) (hl : D.length = 32) (hb : jO D) (hx : x = Zd D) (W : World) (g9 c9 : Nat) (h : KAt .u8 W (.slice (some ⟨g9, 0, none⟩) 32 c9) D) => by have h9 := RGetLong_any W h hb (by omega); rewrite [numV_of hb hl, ← hx] at h9; unfold ji words at h9; exact h9); have HG0 := jh (fun W g9 c9 h => CG.out D0 hi9 (by rw [hD0]; exact jR _) (by rw [hD0]; exact zP _) (by rw [hhi, hD0]; rfl) W g9 c9 h); have HG1 := jh (fun W g9 c9 h => CG.out D1 lo9 (by rw [hD1]; exact jR _) (by rw [hD1]; exact zP _) (by rw [hlo, hD1]; rfl) W g9 c9 h); have CW := jh (fun W => by have h9 := RWide_any (lo := lo9) (hi := hi9) (by rw [hlo]; exact Zk _ _ _) (by rw [hhi]; exact Zk _ _ _) hm hm0 W; rewrite [show (hi9 * jj + lo9) % m = q by rw [hq, hhi, hlo]; rfl] at h9; unfold ji words at h9; exact h9); have HL0 := jh (show D0.length = 32 by rw [hD0]; exact jR _); have HL1 := jh (show D1.length = 32 by rw [hD1]; exact jR _); have HSRC := jh (parts_src hP hn (cap := cap)); obtain ⟨T0, hT0⟩ := je ((jq .u8 D0).toArray); rw [← hT0] at CO0; have HS0 := jh (show T0.size = 32 by rw [hT0, List.size_toArray, jx]; exact HL0.out); have HA0 := jh (show T0.all (·.oneCell') = true by rw [hT0]; exact qz _ _); have HTT0 := jh hT0; clear hT0; obtain ⟨T1, hT1⟩ := je ((jq .u8 D1).toArray); rw [← hT1] at CO1; have HS1 := jh (show T1.size = 32 by rw [hT1, List.size_toArray, jx]; exact HL1.out); have HA1 := jh (show T1.all (·.oneCell') = true by rw [hT1]; exact qz _ _); have HTT1 := jh hT1; clear hT1; clear hi hP hn hm0 hm hby hsz CO hq hhi hlo hD0 hD1 CG; unfold ji words
 go_enter Tryz.func70, Tryz.ntmps70
 go_upto_region 1 with fail
 obtain ⟨w_0, e_0⟩ := je (w.alloc (.cells #[.int .u64 (jf jd m 0), .int .u64 (jf jd m 1), .int .u64 (jf jd m 2), .int .u64 (jf jd m 3)] 24)); have s_0 : w_0.heap.size = w.heap.size + 1 := by rw [e_0]; simp
 have b_0 := jc e_0; have n_0 : NumAt w_0 (w.heap.size) m := by rw [e_0]; exact NumAt.new w m _ _ rfl
 obtain ⟨wz, e_1⟩ := je (w_0.alloc (.cells #[.int .u64 0, .int .u64 0, .int .u64 0, .int .u64 0] 24)); have s_1 : wz.heap.size = w.heap.size + 1 + 1 := by rw [e_1]; simp [s_0]
 have b_1 := jc e_1; have n_1 : NumAt wz (w.heap.size + 1) 0 := by rw [e_1, ← s_0]; exact jz w_0 _
 have f_1 : FreeN wz (w.heap.size + 1) 4 := by rw [e_1]; exact FreeN.made w_0 _ _ 4 _ s_0.symm
 rw [← e_0, ← e_1]; obtain ⟨MB, h_0⟩ := je (w.heap.size); obtain ⟨RR, h_1⟩ := je (MB + 1); have hwL : w.heap.size ≤ MB := by omega
 have hRd : RR < wz.heap.size := by omega
 rw [← h_0] at n_0 n_1 f_1 ⊢; rw [← h_1] at n_1 f_1 ⊢; have l_1 : MB < RR := by omega
 have HMB := jh (NumAt.later b_1 n_0); have HRR := jh n_1; have HF := jh f_1; have B := jh (b_0.trans (b_1.mono (by omega))); have hwRR : w.heap.size ≤ RR := by omega
 have HSZ := jh (show wz.heap.size = RR + 1 by omega); clear e_0 s_0 b_0 n_0 h_0 e_1 s_1 b_1 n_1 h_1 f_1; have HP := jh (Parts.on HP.out B.out); have HSRC := jh (qk HSRC.out B.out); obtain ⟨r_MB_0, r_MB_1, r_MB_2, r_MB_3⟩ := jy HMB.out
 go_upto_region 3 with fail
 clear heq; clear r_MB_0 r_MB_1 r_MB_2 r_MB_3
 go_wp2_with (first
  | (at_builtin; refine jJ rfl (.const (.slice none 0 0)) (.tmp 19) 88 rfl (wz.heap.size) 30 i0 (.slice none 0 0) 1 24 Tryz.underlying88 HI.out hz0 hz1 hz2 rfl (.slice none 0 0) 0 [] rfl ⟨rfl, .inl ⟨rfl, rfl⟩⟩ (.slice (some ⟨g, o, none⟩) n cap) n vs rfl HSRC.out (by unfold maxLen; omega) (by omega) (Nat.le_refl _) ?_; intro v9 w1 ho hg hl; obtain ⟨a9, c9, rfl⟩ := ho.sl; rw [Nat.zero_add, List.nil_append] at ho; have HO1 := jh ho; have G1 := jh hg; have zz1 := hg.size; clear ho hg hl)
  | (at_builtin; refine jJ rfl (.tmp 20) (.tmp 22) 88 rfl (wz.heap.size) 30 i0 (.slice none 0 0) 1 24 Tryz.underlying88 HI.out hz0 hz1 hz2 rfl (.slice a9 n c9) n vs rfl (OwnV.later HO1.out (Jl _ _ _)) (.slice (some ⟨w1.heap.size + 1, 0, none⟩) 1 1) 1 [.slice (some ⟨w1.heap.size, 0, none⟩) 1 1] rfl (src_cell2 _ _ _ _ rfl) (by unfold maxLen; omega) (by omega) (by simp; omega) ?_; intro v9 w2 ho hg hl; obtain ⟨a8, c8, rfl⟩ := ho.sl; have HO2 := jh ho; have G2 := jh hg; have zz2 := hg.size; clear ho hg hl))
 have hb1 : Below wz.heap.size wz w1 := (Below.refl _ _).grown G1.out (Nat.le_refl _) (fun k hk => by simp [Value.ownBlock] at hk); have hb : Below wz.heap.size wz w2 := (hb1.trans ((Jl w1 _ _).mono hb1.size)).grown G2.out (by simp; omega) (fun k hk => (OwnV.lt HO1.out k hk).1); obtain ⟨ga, oa, hga, HPN⟩ := parts_next (x := 0) HP.out hb HO2.out (kat_next HO1.out G2.out) HN.out; subst hga; have HPN := jh HPN; clear HO1 G1 zz1 HO2 G2 zz2 hb1; have HMB := jn hb HMB; have HRR := jn hb HRR; have HF := jh (HF.out.later hb (by omega)); have HP := jh (Parts.on HP.out hb); have HSRC := jh (qk HSRC.out hb); have hRd := Nat.lt_of_lt_of_le hRd hb.size; have B := jw B hb; clear hb; refine (CO0.out _ _ _ _ _ HPN.out).mono ?_; rintro _ w3 ⟨rfl, hb⟩; clear HPN; have HMB := jn hb HMB; have HRR := jn hb HRR; have HF := jh (HF.out.later hb (by omega)); have HP := jh (Parts.on HP.out hb); have HSRC := jh (qk HSRC.out hb); have hRd := Nat.lt_of_lt_of_le hRd hb.size; have B := jw B hb; clear hb
 go_upto_region 4 with (refine qj rfl _ _ _ rfl _ T0 rfl rfl (by rw [HS0.out]; kernel_rfl) (by rw [HS0.out]; rfl) HA0.out ?_)
 obtain ⟨XAw, e9⟩ := je (w3.alloc (.cells T0 55)); obtain ⟨XA, h9⟩ := je (w3.heap.size); have hb := jc e9; have r9 : XAw.heap[XA]? = some (.cells T0 55 (0, 0)) := by rw [e9, h9]; exact heap_alloc_new _ _
 rw [← e9, ← h9]; clear e9 h9; have HMB := jn hb HMB; have HRR := jn hb HRR; have HF := jh (HF.out.later hb (by omega)); have HP := jh (Parts.on HP.out hb); have HSRC := jh (qk HSRC.out hb); have hRd := Nat.lt_of_lt_of_le hRd hb.size; have B := jw B hb; clear hb; have HR0 := jh r9; clear r9
 go_wp2_with (first
  | (at_builtin; refine jJ rfl (.const (.slice none 0 0)) (.tmp 26) 88 rfl (XAw.heap.size) 30 i0 (.slice none 0 0) 1 24 Tryz.underlying88 HI.out hz0 hz1 hz2 rfl (.slice none 0 0) 0 [] rfl ⟨rfl, .inl ⟨rfl, rfl⟩⟩ (.slice (some ⟨g, o, none⟩) n cap) n vs rfl HSRC.out (by unfold maxLen; omega) (by omega) (Nat.le_refl _) ?_; intro v9 w4 ho hg hl; obtain ⟨a9, c9, rfl⟩ := ho.sl; rw [Nat.zero_add, List.nil_append] at ho; have HO1 := jh ho; have G1 := jh hg; have zz1 := hg.size; clear ho hg hl)
  | (at_builtin; refine jJ rfl (.tmp 27) (.tmp 29) 88 rfl (XAw.heap.size) 30 i0 (.slice none 0 0) 1 24 Tryz.underlying88 HI.out hz0 hz1 hz2 rfl (.slice a9 n c9) n vs rfl (OwnV.later HO1.out (Jl _ _ _)) (.slice (some ⟨w4.heap.size + 1, 0, none⟩) 1 1) 1 [.slice (some ⟨w4.heap.size, 0, none⟩) 1 1] rfl (src_cell2 _ _ _ _ rfl) (by unfold maxLen; omega) (by omega) (by simp; omega) ?_; intro v9 w5 ho hg hl; obtain ⟨a8, c8, rfl⟩ := ho.sl; have HO2 := jh ho; have G2 := jh hg; have zz2 := hg.size; clear ho hg hl))
 have hb1 : Below XAw.heap.size XAw w4 := (Below.refl _ _).grown G1.out (Nat.le_refl _) (fun k hk => by simp [Value.ownBlock] at hk); have hb : Below XAw.heap.size XAw w5 := (hb1.trans ((Jl w4 _ _).mono hb1.size)).grown G2.out (by simp; omega) (fun k hk => (OwnV.lt HO1.out k hk).1); obtain ⟨ga, oa, hga, HPN⟩ := parts_next (x := 1) HP.out hb HO2.out (kat_next HO1.out G2.out) HN.out; subst hga; have HPN := jh HPN; clear HO1 G1 zz1 HO2 G2 zz2 hb1; have HMB := jn hb HMB; have HRR := jn hb HRR; have HF := jh (HF.out.later hb (by omega)); have HP := jh (Parts.on HP.out hb); have HSRC := jh (qk HSRC.out hb); have HR0 := jb hb HR0; have hRd := Nat.lt_of_lt_of_le hRd hb.size; have B := jw B hb; clear hb; refine (CO1.out _ _ _ _ _ HPN.out).mono ?_; rintro _ w6 ⟨rfl, hb⟩; clear HPN; have HMB := jn hb HMB; have HRR := jn hb HRR; have HF := jh (HF.out.later hb (by omega)); have HP := jh (Parts.on HP.out hb); have HSRC := jh (qk HSRC.out hb); have HR0 := jb hb HR0; have hRd := Nat.lt_of_lt_of_le hRd hb.size; have B := jw B hb; clear hb
 go_upto_region 5 with (refine qj rfl _ _ _ rfl _ T1 rfl rfl (by rw [HS1.out]; kernel_rfl) (by rw [HS1.out]; rfl) HA1.out ?_)
 obtain ⟨XCw, e9⟩ := je (w6.alloc (.cells T1 55)); obtain ⟨XC, h9⟩ := je (w6.heap.size); have hb := jc e9; have r9 : XCw.heap[XC]? = some (.cells T1 55 (0, 0)) := by rw [e9, h9]; exact heap_alloc_new _ _
 rw [← e9, ← h9]; clear e9 h9; have HMB := jn hb HMB; have HRR := jn hb HRR; have HF := jh (HF.out.later hb (by omega)); have HP := jh (Parts.on HP.out hb); have HSRC := jh (qk HSRC.out hb); have HR0 := jb hb HR0; have hRd := Nat.lt_of_lt_of_le hRd hb.size; have B := jw B hb; clear hb; have HR1 := jh r9; clear r9
 go_upto_region 5 with fail
 go_wp2_with fail
 refine (HG0.out _ XA 32 (by rw [HTT0.out] at HR0; exact qH HR0.out HL0.out)).mono ?_; rintro _ w7 ⟨rfl, hb⟩; have HMB := jn hb HMB; have HRR := jn hb HRR; have HF := jh (HF.out.later hb (by omega)); have HP := jh (Parts.on HP.out hb); have HSRC := jh (qk HSRC.out hb); have HR0 := jb hb HR0; have HR1 := jb hb HR1; have hRd := Nat.lt_of_lt_of_le hRd hb.size; have B := jw B hb; clear hb
 go_upto_region 6 with fail
 obtain ⟨w8, e9⟩ := je (w7.alloc (.cells #[.int .u64 (jf jd hi9 0), .int .u64 (jf jd hi9 1), .int .u64 (jf jd hi9 2), .int .u64 (jf jd hi9 3)] 24)); obtain ⟨N0, h9⟩ := je (w7.heap.size); have hb := jc e9; have n9 := jh (show NumAt w8 N0 hi9 by rw [e9, h9]; exact NumAt.new _ _ _ _ rfl); have f9 := jh (show FreeN w8 N0 4 by rw [e9, h9]; exact FreeN.made _ _ _ _ _ rfl); have l_N0 : RR < N0 := by omega
 have h8 : N0 < w8.heap.size := by rw [e9, h9]; simp
 rw [← e9, ← h9]; clear e9 h9; have HMB := jn hb HMB; have HRR := jn hb HRR; have HF := jh (HF.out.later hb (by omega)); have HP := jh (Parts.on HP.out hb); have HSRC := jh (qk HSRC.out hb); have HR0 := jb hb HR0; have HR1 := jb hb HR1; have hRd := Nat.lt_of_lt_of_le hRd hb.size; have B := jw B hb; clear hb; have HN0 := n9; have HFN0 := f9; have hRd := h8; clear n9 f9 h8; have hwN0 : w.heap.size ≤ N0 := by omega
 go_wp2_with fail
 refine (HG1.out _ XC 32 (by rw [HTT1.out] at HR1; exact qH HR1.out HL1.out)).mono ?_; rintro _ wa ⟨rfl, hb⟩; have HMB := jn hb HMB; have HRR := jn hb HRR; have HN0 := jn hb HN0; have HF := jh (HF.out.later hb (by omega)); have HFN0 := jh (HFN0.out.later hb (by omega)); have HP := jh (Parts.on HP.out hb); have HSRC := jh (qk HSRC.out hb); have HR0 := jb hb HR0; have HR1 := jb hb HR1; have hRd := Nat.lt_of_lt_of_le hRd hb.size; have B := jw B hb; clear hb
 go_upto_region 7 with fail
 obtain ⟨wb, e9⟩ := je (wa.alloc (.cells #[.int .u64 (jf jd lo9 0), .int .u64 (jf jd lo9 1), .int .u64 (jf jd lo9 2), .int .u64 (jf jd lo9 3)] 24)); obtain ⟨N1, h9⟩ := je (wa.heap.size); have hb := jc e9; have n9 := jh (show NumAt wb N1 lo9 by rw [e9, h9]; exact NumAt.new _ _ _ _ rfl); have f9 := jh (show FreeN wb N1 4 by rw [e9, h9]; exact FreeN.made _ _ _ _ _ rfl); have l_N1 : N0 < N1 := by omega
 have h8 : N1 < wb.heap.size := by rw [e9, h9]; simp
 rw [← e9, ← h9]; clear e9 h9; have HMB := jn hb HMB; have HRR := jn hb HRR; have HN0 := jn hb HN0; have HF := jh (HF.out.later hb (by omega)); have HFN0 := jh (HFN0.out.later hb (by omega)); have HP := jh (Parts.on HP.out hb); have HSRC := jh (qk HSRC.out hb); have HR0 := jb hb HR0; have HR1 := jb hb HR1; have hRd := Nat.lt_of_lt_of_le hRd hb.size; have B := jw B hb; clear hb; have HN1 := n9; have HFN1 := f9; have hRd := h8; clear n9 f9 h8; have hwN1 : w.heap.size ≤ N1 := by omega
 obtain ⟨r_N0_0, r_N0_1, r_N0_2, r_N0_3⟩ := jy HN0.out; obtain ⟨r_N1_0, r_N1_1, r_N1_2, r_N1_3⟩ := jy HN1.out; obtain ⟨r_MB_0, r_MB_1, r_MB_2, r_MB_3⟩ := jy HMB.out
 go_wp2_with fail
 clear r_N0_0 r_N0_1 r_N0_2 r_N0_3 r_N1_0 r_N1_1 r_N1_2 r_N1_3 r_MB_0 r_MB_1 r_MB_2 r_MB_3; refine (CW.out _).mono ?_; rintro _ wc ⟨rfl, hb⟩; have HMB := jn hb HMB; have HRR := jn hb HRR; have HN0 := jn hb HN0; have HN1 := jn hb HN1; have HF := jh (HF.out.later hb (by omega)); have HFN0 := jh (HFN0.out.later hb (by omega)); have HFN1 := jh (HFN1.out.later hb (by omega)); have HP := jh (Parts.on HP.out hb); have HSRC := jh (qk HSRC.out hb); have HR0 := jb hb HR0; have HR1 := jb hb HR1; have hRd := Nat.lt_of_lt_of_le hRd hb.size; have B := jw B hb; clear hb; obtain ⟨c0, c1, c2, c3, f0, f1, f2, f3⟩ := jC HRR.out HF.out
 go_wp2_with fail
 have HRL := jh (NumAt.set4 HRR.out q); have B9 := jh (jp B.out hwRR (.int .u64 (jf jd q 0)) (.int .u64 (jf jd q 1)) (.int .u64 (jf jd q 2)) (.int .u64 (jf jd q 3))); obtain ⟨g0, g1, g2, g3⟩ := jy HRL.out; refine bodyPost_ret (v := .tuple #[.agg #[.int .u64 (jf jd q 0), .int .u64 (jf jd q 1), .int .u64 (jf jd q 2), .int .u64 (jf jd q 3)], .int .i64 0]) ?_ rfl ⟨rfl, B9.out⟩
 simp [results, Tryz.results70, go_sem, g0, g1, g2, g3]
theorem JK (x : Nat) (w : World) : Calls Tryz.prog 71 #[.slice none 0 0, .agg #[.int .u64 (jf jd x 0), .int .u64 (jf jd x 1), .int .u64 (jf jd x 2), .int .u64 (jf jd x 3)]] w fun e w' => ∃ a c, e = .returned (.slice (some a) 32 c) ∧ KAt .u8 w' (.slice (some a) 32 c) (zI x) ∧ Below w.heap.size w w' := by
 refine (RPutLong_any (b := []) w (KAt.nil _ _) _ _ _ _ (qC x 0) (qC x 1) (qC x 2) (qC x 3) (by simp)).mono ?_; rintro _ w' ⟨v', rfl, ho, hb⟩; have hk := ho.at_; rw [List.nil_append] at hk; obtain ⟨ao, cap, e, _, _, _, h4⟩ := hk; obtain ⟨b, o, e2, _⟩ := h4 (by show 0 < (zI x).length; rw [zr]; decide); subst e; have hl : (be 8 (jf jd x 3) ++ (be 8 (jf jd x 2) ++ (be 8 (jf jd x 1) ++ be 8 (jf jd x 0)))).length = 32 := zr x; have hk := ho.at_; rw [List.nil_append, hl, e2] at hk; exact ⟨_, _, by rw [hl, e2], hk, hb⟩
theorem RChal_any {gp gq gg gh key r : Nat} {h : List Nat} (hl : h.length = 32) (hb9 : jO h) (hq0 : 0 < gq) (hq : gq < jj) (w : World) :
  Calls Tryz.prog 43 #[jM gp gq gg gh, ji key, ji r, .agg (jq .u8 h).toArray] w fun e w' => e = .returned (ji (zs gq key r h)) ∧ Below w.heap.size w w' := by
 obtain ⟨q, hqq⟩ := je (zs gq key r h)
 have CN := jh (fun (W : World) (B : Nat) (vs : List Value) (hP : Parts W B 0 vs [zI key, zI r, h]) => by
  have h9 := RNumber_any (s := ⟨#[115, 105, 103, 110]⟩) (m := gq) (cap := 3) (n := 3) W hP rfl hq0 hq (by
   intro l hl9; simp only [List.mem_cons, List.not_mem_nil, or_false] at hl9
   rcases hl9 with rfl | rfl | rfl
   ·exact JA _
   ·exact JA _
   ·exact hb9) (by decide) (by unfold maxLen; decide) (by unfold jW; simp [qm, jY, qn, zr, hl, ByteArray.size])
  rewrite [show Ja gq (qs ⟨#[115, 105, 103, 110]⟩) [zI key, zI r, h] = q from hqq.symm] at h9; unfold ji words at h9
  exact h9)
 rw [← hqq]; have HL := jh hl; obtain ⟨T, hT⟩ := je ((jq .u8 h).toArray); rw [← hT]; have HT := jh hT; clear hqq hl hb9 hq0 hq hT; unfold jM ji words
 go_enter Tryz.func43, Tryz.ntmps43
 go_upto_region 1 with fail
 obtain ⟨v_0, e_0⟩ := je (w.alloc (.cells #[.int .u64 (jf jd gp 0), .int .u64 (jf jd gp 1), .int .u64 (jf jd gp 2), .int .u64 (jf jd gp 3), .int .u64 (jf jd gq 0), .int .u64 (jf jd gq 1), .int .u64 (jf jd gq 2), .int .u64 (jf jd gq 3), .int .u64 (jf jd gg 0), .int .u64 (jf jd gg 1), .int .u64 (jf jd gg 2), .int .u64 (jf jd gg 3), .int .u64 (jf jd gh 0), .int .u64 (jf jd gh 1), .int .u64 (jf jd gh 2), .int .u64 (jf jd gh 3)] 26)); have s_0 : v_0.heap.size = w.heap.size + 1 := by rw [e_0]; simp
 have b_0 := jc e_0; obtain ⟨v_1, e_1⟩ := je (v_0.alloc (.cells #[.int .u64 (jf jd key 0), .int .u64 (jf jd key 1), .int .u64 (jf jd key 2), .int .u64 (jf jd key 3)] 24)); have s_1 : v_1.heap.size = v_0.heap.size + 1 := by rw [e_1]; simp
 have b_1 := jc e_1; obtain ⟨v_2, e_2⟩ := je (v_1.alloc (.cells #[.int .u64 (jf jd r 0), .int .u64 (jf jd r 1), .int .u64 (jf jd r 2), .int .u64 (jf jd r 3)] 24)); have s_2 : v_2.heap.size = v_1.heap.size + 1 := by rw [e_2]; simp
 have b_2 := jc e_2; obtain ⟨v_3, e_3⟩ := je (v_2.alloc (.cells T 55)); have s_3 : v_3.heap.size = v_2.heap.size + 1 := by rw [e_3]; simp
 have b_3 := jc e_3; obtain ⟨w0, e_4⟩ := je (v_3.alloc (.cells #[.int .u64 0, .int .u64 0, .int .u64 0, .int .u64 0] 24)); have s_4 : w0.heap.size = v_3.heap.size + 1 := by rw [e_4]; simp
 have b_4 := jc e_4; have f_0 : GrpAt v_0 w.heap.size gp gq gg gh := by rw [e_0]; exact GrpAt.new _ _ _ _ _ _
 have f_1 : NumAt v_1 v_0.heap.size key := by rw [e_1]; exact NumAt.new _ _ _ _ rfl
 have f_2 : NumAt v_2 v_1.heap.size r := by rw [e_2]; exact NumAt.new _ _ _ _ rfl
 have f_3 : v_3.heap[v_2.heap.size]? = some (.cells (jq .u8 h).toArray 55 (0, 0)) := by rw [e_3, HT.out]; exact heap_alloc_new _ _
 have f_4 : NumAt w0 v_3.heap.size 0 := by rw [e_4]; exact jz _ _
 have g_4 : FreeN w0 v_3.heap.size 4 := by rw [e_4]; exact FreeN.new _ _ _ _
 rw [← e_0, ← e_1, ← e_2, ← e_3, ← e_4]; have HG := jh ((((f_0.later b_1).later b_2).later b_3).later b_4); have HK := jh (NumAt.later b_4 (NumAt.later b_3 (NumAt.later b_2 f_1))); have HR := jh (NumAt.later b_4 (NumAt.later b_3 f_2)); have HH := jh ((b_4.block _ (Array.getElem?_eq_some_iff.1 f_3).1).trans f_3); have HO := jh f_4; have HOF := jh g_4; have HB0 := jh (jk (jk (jk (jk b_0 b_1) b_2) b_3) b_4); have hz1 : v_0.heap.size = w.heap.size + 1 := s_0; have hz2 : v_1.heap.size = w.heap.size + 1 + 1 := by rw [s_1, s_0]
 have hz3 : v_2.heap.size = w.heap.size + 1 + 1 + 1 := by rw [s_2, hz2]
 have hz4 : v_3.heap.size = w.heap.size + 1 + 1 + 1 + 1 := by rw [s_3, hz3]
 have hz5 : w0.heap.size = v_3.heap.size + 1 := s_4; rw [hz1] at HK; rw [hz2] at HR; rw [hz3] at HH; rw [hz4] at HO HOF hz5; clear e_0 e_1 e_2 e_3 e_4 s_0 s_1 s_2 s_3 s_4 b_0 b_1 b_2 b_3 b_4 f_0 f_1 f_2 f_3 f_4 g_4 hz1 hz2 hz3 hz4; obtain ⟨GB, hGB⟩ := je (w.heap.size); rw [← hGB] at HG HK HR HH HO HOF hz5 ⊢; obtain ⟨KB, hKB⟩ := je (GB + 1); rw [← hKB] at HK HR HH HO HOF hz5 ⊢; obtain ⟨RB, hRB⟩ := je (KB + 1); rw [← hRB] at HR HH HO HOF hz5 ⊢; obtain ⟨HB, hHB⟩ := je (RB + 1); rw [← hHB] at HH HO HOF hz5 ⊢; obtain ⟨OO, hOO⟩ := je (HB + 1); rw [← hOO] at HO HOF hz5 ⊢; have HOW := jh (show w.heap.size ≤ OO by omega); have HOL := jh (show OO < w0.heap.size by omega); clear hGB hKB hRB hHB hOO hz5; refine jK (.take 0 (.take 1 (.take 2 (.take 4 (.take 6 (.fork 3 (.fork 5 (.fork 7 (.fork 8 (.take 9 (.take 10 (.take 11 (.step 12 (.step 13 (.take 14 .done)))))) 12 (.step 8 (.take 9 (.take 10 (.take 11 (.step 13 (.take 14 .done))))))) 12 (.step 7 (.step 8 (.take 9 (.take 10 (.take 11 (.step 13 (.take 14 .done)))))))) 12 (.step 5 (.step 7 (.step 8 (.take 9 (.take 10 (.take 11 (.step 13 (.take 14 .done))))))))) 12 (.step 3 (.step 5 (.step 7 (.step 8 (.take 9 (.take 10 (.take 11 (.step 13 (.take 14 .done))))))))))))))) (fun w8 => w8.cell? ⟨GB, 4, none⟩ = some (.int .u64 (jf jd gq 0)) ∧ w8.cell? ⟨GB, 5, none⟩ = some (.int .u64 (jf jd gq 1)) ∧ w8.cell? ⟨GB, 6, none⟩ = some (.int .u64 (jf jd gq 2)) ∧ w8.cell? ⟨GB, 7, none⟩ = some (.int .u64 (jf jd gq 3)) ∧ w8.cell? ⟨KB, 0, none⟩ = some (.int .u64 (jf jd key 0)) ∧ w8.cell? ⟨KB, 1, none⟩ = some (.int .u64 (jf jd key 1)) ∧ w8.cell? ⟨KB, 2, none⟩ = some (.int .u64 (jf jd key 2)) ∧ w8.cell? ⟨KB, 3, none⟩ = some (.int .u64 (jf jd key 3)) ∧ w8.cell? ⟨RB, 0, none⟩ = some (.int .u64 (jf jd r 0)) ∧ w8.cell? ⟨RB, 1, none⟩ = some (.int .u64 (jf jd r 1)) ∧ w8.cell? ⟨RB, 2, none⟩ = some (.int .u64 (jf jd r 2)) ∧ w8.cell? ⟨RB, 3, none⟩ = some (.int .u64 (jf jd r 3))) (by kernel_rfl) (by kernel_rfl) (fun _ _ _ _ _ h => h) (jD HG.out.2.1 HK.out HR.out) (fun hHeld => ?_); obtain ⟨w1, e1⟩ := je (w0.drew); rw [← e1]; have hb : Below w0.heap.size w0 w1 := by rw [e1]; exact (Below.refl _ _).drew
 have HG := jh (HG.out.later hb); have HK := jn hb HK; have HR := jn hb HR; have HH := jb hb HH; have HO := jn hb HO; have HOF := jh (HOF.out.later hb HOL.out); have HOL := jl HOL hb.size; have HB0 := jw HB0 hb; clear hb e1
 iterate 5
  refine WT.tk rfl (k := ?_)
 refine WT.fork rfl rfl (fun K hK => ?_) (fun K hK => ?_); rotate_left
 focus
  go_simp
  obtain ⟨w2, e9⟩ := je (w1.alloc (.cells #[.int .u64 0, .int .u64 0, .int .u64 0, .int .u64 0] 24)); obtain ⟨VV, hVV⟩ := je (w1.heap.size); have hb := jc e9; have HV := jh (show NumAt w2 VV 0 by rw [e9, hVV]; exact jz _ _); have HVF := jh (show FreeN w2 VV 4 by rw [e9, hVV]; exact FreeN.new _ _ _ _); have HNG := jh (show GB ≠ VV by have := HG.out.lt; omega); have HNK := jh (show KB ≠ VV by have := NumAt.lt HK.out; omega); have HNR := jh (show RB ≠ VV by have := NumAt.lt HR.out; omega); have HNO := jh (show OO ≠ VV by have := HOL.out; omega); have HVW := jh (show w.heap.size ≤ VV by rw [hVV]; exact HB0.out.size); rw [← e9, ← hVV]; clear e9 hVV; have HG := jh (HG.out.later hb); have HK := jn hb HK; have HR := jn hb HR; have HH := jb hb HH; have HO := jn hb HO; have HOF := jh (HOF.out.later hb HOL.out); have HOL := jl HOL hb.size; have HB0 := jw HB0 hb; clear hb; refine hK.out _ _ (jD HG.out.2.1 HK.out HR.out) (fun hHeld => ?_); clear hK K
  try simp only [Act.put, pa, pb, pc]
  refine WT.step rfl (fun K hK => ?_)
  go_simp
  refine (JK key _).mono ?_; rintro _ w3 ⟨a3, c3, rfl, hk9, hb⟩; have HG := jh (HG.out.later hb); have HK := jn hb HK; have HR := jn hb HR; have HH := jb hb HH; have HO := jn hb HO; have HOF := jh (HOF.out.later hb HOL.out); have HOL := jl HOL hb.size; have HB0 := jw HB0 hb; have HVF := jh (HVF.out.later hb (NumAt.lt HV.out)); have HV := jn hb HV; have K3 := jh hk9; clear hk9 hb; refine hK.out _ _ (jD HG.out.2.1 HK.out HR.out) (fun hHeld => ?_); clear hK K
  try simp only [Act.put, pa, pb, pc]
  refine WT.step rfl (fun K hK => ?_)
  go_simp
  refine (JK r _).mono ?_; rintro _ w4 ⟨a5, c5, rfl, hk9, hb⟩; have HG := jh (HG.out.later hb); have HK := jn hb HK; have HR := jn hb HR; have HH := jb hb HH; have HO := jn hb HO; have HOF := jh (HOF.out.later hb HOL.out); have HOL := jl HOL hb.size; have HB0 := jw HB0 hb; have K3 := jh (K3.out.later hb); have HVF := jh (HVF.out.later hb (NumAt.lt HV.out)); have HV := jn hb HV; have K5 := jh hk9; clear hk9 hb; refine hK.out _ _ (jD HG.out.2.1 HK.out HR.out) (fun hHeld => ?_); clear hK K
  try simp only [Act.put, pa, pb, pc]
  refine WT.step rfl (fun K hK => ?_)
  go_simp
  obtain ⟨w5, e9⟩ := je (w4.alloc (.cells #[.slice (some a3) 32 c3, .slice (some a5) 32 c5, .slice (some ⟨HB, 0, none⟩) 32 32] 30)); obtain ⟨PB, hPB⟩ := je (w4.heap.size); have hb := jc e9; have P0 := jh (show w5.cell? ⟨PB, 0, none⟩ = some (.slice (some a3) 32 c3) by rw [e9, hPB, cell_of_row _ _ _ _ _ _ (heap_alloc_new _ _)]; rfl); have P1 := jh (show w5.cell? ⟨PB, 1, none⟩ = some (.slice (some a5) 32 c5) by rw [e9, hPB, cell_of_row _ _ _ _ _ _ (heap_alloc_new _ _)]; rfl); have P2 := jh (show w5.cell? ⟨PB, 2, none⟩ = some (.slice (some ⟨HB, 0, none⟩) 32 32) by rw [e9, hPB, cell_of_row _ _ _ _ _ _ (heap_alloc_new _ _)]; rfl); rw [← e9, ← hPB]; clear e9 hPB; have HG := jh (HG.out.later hb); have HK := jn hb HK; have HR := jn hb HR; have HH := jb hb HH; have HO := jn hb HO; have HOF := jh (HOF.out.later hb HOL.out); have HOL := jl HOL hb.size; have HB0 := jw HB0 hb; have K3 := jh (K3.out.later hb); have K5 := jh (K5.out.later hb); have HVF := jh (HVF.out.later hb (NumAt.lt HV.out)); have HV := jn hb HV; clear hb; refine hK.out _ _ (jD HG.out.2.1 HK.out HR.out) (fun hHeld => ?_); clear hK K
  try simp only [Act.put, pa, pb, pc]
  refine WT.step rfl (fun K hK => ?_)
  go_simp
  refine (CN.out _ PB _ (zU P0.out P1.out P2.out K3.out K5.out (qH HH.out HL.out))).mono ?_; rintro _ w6 ⟨rfl, hb⟩; have HG := jh (HG.out.later hb); have HK := jn hb HK; have HR := jn hb HR; have HH := jb hb HH; have HO := jn hb HO; have HOF := jh (HOF.out.later hb HOL.out); have HOL := jl HOL hb.size; have HB0 := jw HB0 hb; have K3 := jh (K3.out.later hb); have K5 := jh (K5.out.later hb); have P0 := jh (jm P0.out hb); have P1 := jh (jm P1.out hb); have P2 := jh (jm P2.out hb); have HVF := jh (HVF.out.later hb (NumAt.lt HV.out)); have HV := jn hb HV; clear hb; refine hK.out _ _ (jD HG.out.2.1 HK.out HR.out) (fun hHeld => ?_); clear hK K
  try simp only [Act.put, pa, pb, pc]
  refine WT.tk rfl (k := ?_); refine WT.tk rfl (k := ?_); refine WT.tk rfl (k := ?_); refine WT.step rfl (fun K hK => ?_); obtain ⟨c0, c1, c2, c3, f0, f1, f2, f3⟩ := jC HV.out HVF.out
  go_simp
  have HGS := jh (jt (jt (jt (jt (World.grownBy.refl w6 (some VV)) 0 (.int .u64 (jf jd q 0))) 1 (.int .u64 (jf jd q 1))) 2 (.int .u64 (jf jd q 2))) 3 (.int .u64 (jf jd q 3))); have HQ := jh (show NumO _ GB 4 gq from fun j hj => HGS.out.cell (HG.out.2.1 j hj) (fun e => HNG.out (by injection e))); have HK := jh (NumAt.other4 HK.out HNK.out (.int .u64 (jf jd q 0)) (.int .u64 (jf jd q 1)) (.int .u64 (jf jd q 2)) (.int .u64 (jf jd q 3))); have HR := jh (NumAt.other4 HR.out HNR.out (.int .u64 (jf jd q 0)) (.int .u64 (jf jd q 1)) (.int .u64 (jf jd q 2)) (.int .u64 (jf jd q 3))); have HO := jh (NumAt.other4 HO.out HNO.out (.int .u64 (jf jd q 0)) (.int .u64 (jf jd q 1)) (.int .u64 (jf jd q 2)) (.int .u64 (jf jd q 3))); have HOF := jh (FreeN.set4 HOF.out ⟨VV, 0, none⟩ ⟨VV, 1, none⟩ ⟨VV, 2, none⟩ ⟨VV, 3, none⟩ (.int .u64 (jf jd q 0)) (.int .u64 (jf jd q 1)) (.int .u64 (jf jd q 2)) (.int .u64 (jf jd q 3))); have HV := jh (NumAt.set4 HV.out q); have HB0 := jh (jp HB0.out HVW.out (.int .u64 (jf jd q 0)) (.int .u64 (jf jd q 1)) (.int .u64 (jf jd q 2)) (.int .u64 (jf jd q 3))); refine hK.out _ _ (jD HQ.out HK.out HR.out) (fun hHeld => ?_); clear hK K
  try simp only [Act.put, pa, pb, pc]
  refine WT.tk rfl (k := ?_); refine WT.done ?_
 rotate_right
 focus
  go_simp
  refine (JK key _).mono ?_; rintro _ w2 ⟨a3, c3, rfl, hk9, hb⟩; have HG := jh (HG.out.later hb); have HK := jn hb HK; have HR := jn hb HR; have HH := jb hb HH; have HO := jn hb HO; have HOF := jh (HOF.out.later hb HOL.out); have HOL := jl HOL hb.size; have HB0 := jw HB0 hb; have K3 := jh hk9; clear hk9 hb; refine hK.out _ _ (jD HG.out.2.1 HK.out HR.out) (fun hHeld => ?_); clear hK K
  try simp only [Act.put, pa, pb, pc]
  refine WT.fork rfl rfl (fun K hK => ?_) (fun K hK => ?_); rotate_left
  focus
   go_simp
   obtain ⟨w3, e9⟩ := je (w2.alloc (.cells #[.int .u64 0, .int .u64 0, .int .u64 0, .int .u64 0] 24)); obtain ⟨VV, hVV⟩ := je (w2.heap.size); have hb := jc e9; have HV := jh (show NumAt w3 VV 0 by rw [e9, hVV]; exact jz _ _); have HVF := jh (show FreeN w3 VV 4 by rw [e9, hVV]; exact FreeN.new _ _ _ _); have HNG := jh (show GB ≠ VV by have := HG.out.lt; omega); have HNK := jh (show KB ≠ VV by have := NumAt.lt HK.out; omega); have HNR := jh (show RB ≠ VV by have := NumAt.lt HR.out; omega); have HNO := jh (show OO ≠ VV by have := HOL.out; omega); have HVW := jh (show w.heap.size ≤ VV by rw [hVV]; exact HB0.out.size); rw [← e9, ← hVV]; clear e9 hVV; have HG := jh (HG.out.later hb); have HK := jn hb HK; have HR := jn hb HR; have HH := jb hb HH; have HO := jn hb HO; have HOF := jh (HOF.out.later hb HOL.out); have HOL := jl HOL hb.size; have HB0 := jw HB0 hb; have K3 := jh (K3.out.later hb); clear hb; refine hK.out _ _ (jD HG.out.2.1 HK.out HR.out) (fun hHeld => ?_); clear hK K
   try simp only [Act.put, pa, pb, pc]
   refine WT.step rfl (fun K hK => ?_)
   go_simp
   refine (JK r _).mono ?_; rintro _ w4 ⟨a5, c5, rfl, hk9, hb⟩; have HG := jh (HG.out.later hb); have HK := jn hb HK; have HR := jn hb HR; have HH := jb hb HH; have HO := jn hb HO; have HOF := jh (HOF.out.later hb HOL.out); have HOL := jl HOL hb.size; have HB0 := jw HB0 hb; have K3 := jh (K3.out.later hb); have HVF := jh (HVF.out.later hb (NumAt.lt HV.out)); have HV := jn hb HV; have K5 := jh hk9; clear hk9 hb; refine hK.out _ _ (jD HG.out.2.1 HK.out HR.out) (fun hHeld => ?_); clear hK K
   try simp only [Act.put, pa, pb, pc]
   refine WT.step rfl (fun K hK => ?_)
   go_simp
   obtain ⟨w5, e9⟩ := je (w4.alloc (.cells #[.slice (some a3) 32 c3, .slice (some a5) 32 c5, .slice (some ⟨HB, 0, none⟩) 32 32] 30)); obtain ⟨PB, hPB⟩ := je (w4.heap.size); have hb := jc e9; have P0 := jh (show w5.cell? ⟨PB, 0, none⟩ = some (.slice (some a3) 32 c3) by rw [e9, hPB, cell_of_row _ _ _ _ _ _ (heap_alloc_new _ _)]; rfl); have P1 := jh (show w5.cell? ⟨PB, 1, none⟩ = some (.slice (some a5) 32 c5) by rw [e9, hPB, cell_of_row _ _ _ _ _ _ (heap_alloc_new _ _)]; rfl); have P2 := jh (show w5.cell? ⟨PB, 2, none⟩ = some (.slice (some ⟨HB, 0, none⟩) 32 32) by rw [e9, hPB, cell_of_row _ _ _ _ _ _ (heap_alloc_new _ _)]; rfl); rw [← e9, ← hPB]; clear e9 hPB; have HG := jh (HG.out.later hb); have HK := jn hb HK; have HR := jn hb HR; have HH := jb hb HH; have HO := jn hb HO; have HOF := jh (HOF.out.later hb HOL.out); have HOL := jl HOL hb.size; have HB0 := jw HB0 hb; have K3 := jh (K3.out.later hb); have K5 := jh (K5.out.later hb); have HVF := jh (HVF.out.later hb (NumAt.lt HV.out)); have HV := jn hb HV; clear hb; refine hK.out _ _ (jD HG.out.2.1 HK.out HR.out) (fun hHeld => ?_); clear hK K
   try simp only [Act.put, pa, pb, pc]
   refine WT.step rfl (fun K hK => ?_)
   go_simp
   refine (CN.out _ PB _ (zU P0.out P1.out P2.out K3.out K5.out (qH HH.out HL.out))).mono ?_; rintro _ w6 ⟨rfl, hb⟩; have HG := jh (HG.out.later hb); have HK := jn hb HK; have HR := jn hb HR; have HH := jb hb HH; have HO := jn hb HO; have HOF := jh (HOF.out.later hb HOL.out); have HOL := jl HOL hb.size; have HB0 := jw HB0 hb; have K3 := jh (K3.out.later hb); have K5 := jh (K5.out.later hb); have P0 := jh (jm P0.out hb); have P1 := jh (jm P1.out hb); have P2 := jh (jm P2.out hb); have HVF := jh (HVF.out.later hb (NumAt.lt HV.out)); have HV := jn hb HV; clear hb; refine hK.out _ _ (jD HG.out.2.1 HK.out HR.out) (fun hHeld => ?_); clear hK K
   try simp only [Act.put, pa, pb, pc]
   refine WT.tk rfl (k := ?_); refine WT.tk rfl (k := ?_); refine WT.tk rfl (k := ?_); refine WT.step rfl (fun K hK => ?_); obtain ⟨c0, c1, c2, c3, f0, f1, f2, f3⟩ := jC HV.out HVF.out
   go_simp
   have HGS := jh (jt (jt (jt (jt (World.grownBy.refl w6 (some VV)) 0 (.int .u64 (jf jd q 0))) 1 (.int .u64 (jf jd q 1))) 2 (.int .u64 (jf jd q 2))) 3 (.int .u64 (jf jd q 3))); have HQ := jh (show NumO _ GB 4 gq from fun j hj => HGS.out.cell (HG.out.2.1 j hj) (fun e => HNG.out (by injection e))); have HK := jh (NumAt.other4 HK.out HNK.out (.int .u64 (jf jd q 0)) (.int .u64 (jf jd q 1)) (.int .u64 (jf jd q 2)) (.int .u64 (jf jd q 3))); have HR := jh (NumAt.other4 HR.out HNR.out (.int .u64 (jf jd q 0)) (.int .u64 (jf jd q 1)) (.int .u64 (jf jd q 2)) (.int .u64 (jf jd q 3))); have HO := jh (NumAt.other4 HO.out HNO.out (.int .u64 (jf jd q 0)) (.int .u64 (jf jd q 1)) (.int .u64 (jf jd q 2)) (.int .u64 (jf jd q 3))); have HOF := jh (FreeN.set4 HOF.out ⟨VV, 0, none⟩ ⟨VV, 1, none⟩ ⟨VV, 2, none⟩ ⟨VV, 3, none⟩ (.int .u64 (jf jd q 0)) (.int .u64 (jf jd q 1)) (.int .u64 (jf jd q 2)) (.int .u64 (jf jd q 3))); have HV := jh (NumAt.set4 HV.out q); have HB0 := jh (jp HB0.out HVW.out (.int .u64 (jf jd q 0)) (.int .u64 (jf jd q 1)) (.int .u64 (jf jd q 2)) (.int .u64 (jf jd q 3))); refine hK.out _ _ (jD HQ.out HK.out HR.out) (fun hHeld => ?_); clear hK K
   try simp only [Act.put, pa, pb, pc]
   refine WT.tk rfl (k := ?_); refine WT.done ?_
  rotate_right
  focus
   go_simp
   refine (JK r _).mono ?_; rintro _ w3 ⟨a5, c5, rfl, hk9, hb⟩; have HG := jh (HG.out.later hb); have HK := jn hb HK; have HR := jn hb HR; have HH := jb hb HH; have HO := jn hb HO; have HOF := jh (HOF.out.later hb HOL.out); have HOL := jl HOL hb.size; have HB0 := jw HB0 hb; have K3 := jh (K3.out.later hb); have K5 := jh hk9; clear hk9 hb; refine hK.out _ _ (jD HG.out.2.1 HK.out HR.out) (fun hHeld => ?_); clear hK K
   try simp only [Act.put, pa, pb, pc]
   refine WT.fork rfl rfl (fun K hK => ?_) (fun K hK => ?_); rotate_left
   focus
    go_simp
    obtain ⟨w4, e9⟩ := je (w3.alloc (.cells #[.int .u64 0, .int .u64 0, .int .u64 0, .int .u64 0] 24)); obtain ⟨VV, hVV⟩ := je (w3.heap.size); have hb := jc e9; have HV := jh (show NumAt w4 VV 0 by rw [e9, hVV]; exact jz _ _); have HVF := jh (show FreeN w4 VV 4 by rw [e9, hVV]; exact FreeN.new _ _ _ _); have HNG := jh (show GB ≠ VV by have := HG.out.lt; omega); have HNK := jh (show KB ≠ VV by have := NumAt.lt HK.out; omega); have HNR := jh (show RB ≠ VV by have := NumAt.lt HR.out; omega); have HNO := jh (show OO ≠ VV by have := HOL.out; omega); have HVW := jh (show w.heap.size ≤ VV by rw [hVV]; exact HB0.out.size); rw [← e9, ← hVV]; clear e9 hVV; have HG := jh (HG.out.later hb); have HK := jn hb HK; have HR := jn hb HR; have HH := jb hb HH; have HO := jn hb HO; have HOF := jh (HOF.out.later hb HOL.out); have HOL := jl HOL hb.size; have HB0 := jw HB0 hb; have K3 := jh (K3.out.later hb); have K5 := jh (K5.out.later hb); clear hb; refine hK.out _ _ (jD HG.out.2.1 HK.out HR.out) (fun hHeld => ?_); clear hK K
    try simp only [Act.put, pa, pb, pc]
    refine WT.step rfl (fun K hK => ?_)
    go_simp
    obtain ⟨w5, e9⟩ := je (w4.alloc (.cells #[.slice (some a3) 32 c3, .slice (some a5) 32 c5, .slice (some ⟨HB, 0, none⟩) 32 32] 30)); obtain ⟨PB, hPB⟩ := je (w4.heap.size); have hb := jc e9; have P0 := jh (show w5.cell? ⟨PB, 0, none⟩ = some (.slice (some a3) 32 c3) by rw [e9, hPB, cell_of_row _ _ _ _ _ _ (heap_alloc_new _ _)]; rfl); have P1 := jh (show w5.cell? ⟨PB, 1, none⟩ = some (.slice (some a5) 32 c5) by rw [e9, hPB, cell_of_row _ _ _ _ _ _ (heap_alloc_new _ _)]; rfl); have P2 := jh (show w5.cell? ⟨PB, 2, none⟩ = some (.slice (some ⟨HB, 0, none⟩) 32 32) by rw [e9, hPB, cell_of_row _ _ _ _ _ _ (heap_alloc_new _ _)]; rfl); rw [← e9, ← hPB]; clear e9 hPB; have HG := jh (HG.out.later hb); have HK := jn hb HK; have HR := jn hb HR; have HH := jb hb HH; have HO := jn hb HO; have HOF := jh (HOF.out.later hb HOL.out); have HOL := jl HOL hb.size; have HB0 := jw HB0 hb; have K3 := jh (K3.out.later hb); have K5 := jh (K5.out.later hb); have HVF := jh (HVF.out.later hb (NumAt.lt HV.out)); have HV := jn hb HV; clear hb; refine hK.out _ _ (jD HG.out.2.1 HK.out HR.out) (fun hHeld => ?_); clear hK K
    try simp only [Act.put, pa, pb, pc]
    refine WT.step rfl (fun K hK => ?_)
    go_simp
    refine (CN.out _ PB _ (zU P0.out P1.out P2.out K3.out K5.out (qH HH.out HL.out))).mono ?_; rintro _ w6 ⟨rfl, hb⟩; have HG := jh (HG.out.later hb); have HK := jn hb HK; have HR := jn hb HR; have HH := jb hb HH; have HO := jn hb HO; have HOF := jh (HOF.out.later hb HOL.out); have HOL := jl HOL hb.size; have HB0 := jw HB0 hb; have K3 := jh (K3.out.later hb); have K5 := jh (K5.out.later hb); have P0 := jh (jm P0.out hb); have P1 := jh (jm P1.out hb); have P2 := jh (jm P2.out hb); have HVF := jh (HVF.out.later hb (NumAt.lt HV.out)); have HV := jn hb HV; clear hb; refine hK.out _ _ (jD HG.out.2.1 HK.out HR.out) (fun hHeld => ?_); clear hK K
    try simp only [Act.put, pa, pb, pc]
    refine WT.tk rfl (k := ?_); refine WT.tk rfl (k := ?_); refine WT.tk rfl (k := ?_); refine WT.step rfl (fun K hK => ?_); obtain ⟨c0, c1, c2, c3, f0, f1, f2, f3⟩ := jC HV.out HVF.out
    go_simp
    have HGS := jh (jt (jt (jt (jt (World.grownBy.refl w6 (some VV)) 0 (.int .u64 (jf jd q 0))) 1 (.int .u64 (jf jd q 1))) 2 (.int .u64 (jf jd q 2))) 3 (.int .u64 (jf jd q 3))); have HQ := jh (show NumO _ GB 4 gq from fun j hj => HGS.out.cell (HG.out.2.1 j hj) (fun e => HNG.out (by injection e))); have HK := jh (NumAt.other4 HK.out HNK.out (.int .u64 (jf jd q 0)) (.int .u64 (jf jd q 1)) (.int .u64 (jf jd q 2)) (.int .u64 (jf jd q 3))); have HR := jh (NumAt.other4 HR.out HNR.out (.int .u64 (jf jd q 0)) (.int .u64 (jf jd q 1)) (.int .u64 (jf jd q 2)) (.int .u64 (jf jd q 3))); have HO := jh (NumAt.other4 HO.out HNO.out (.int .u64 (jf jd q 0)) (.int .u64 (jf jd q 1)) (.int .u64 (jf jd q 2)) (.int .u64 (jf jd q 3))); have HOF := jh (FreeN.set4 HOF.out ⟨VV, 0, none⟩ ⟨VV, 1, none⟩ ⟨VV, 2, none⟩ ⟨VV, 3, none⟩ (.int .u64 (jf jd q 0)) (.int .u64 (jf jd q 1)) (.int .u64 (jf jd q 2)) (.int .u64 (jf jd q 3))); have HV := jh (NumAt.set4 HV.out q); have HB0 := jh (jp HB0.out HVW.out (.int .u64 (jf jd q 0)) (.int .u64 (jf jd q 1)) (.int .u64 (jf jd q 2)) (.int .u64 (jf jd q 3))); refine hK.out _ _ (jD HQ.out HK.out HR.out) (fun hHeld => ?_); clear hK K
    try simp only [Act.put, pa, pb, pc]
    refine WT.tk rfl (k := ?_); refine WT.done ?_
   rotate_right
   focus
    go_simp
    obtain ⟨w4, e9⟩ := je (w3.alloc (.cells #[.slice (some a3) 32 c3, .slice (some a5) 32 c5, .slice (some ⟨HB, 0, none⟩) 32 32] 30)); obtain ⟨PB, hPB⟩ := je (w3.heap.size); have hb := jc e9; have P0 := jh (show w4.cell? ⟨PB, 0, none⟩ = some (.slice (some a3) 32 c3) by rw [e9, hPB, cell_of_row _ _ _ _ _ _ (heap_alloc_new _ _)]; rfl); have P1 := jh (show w4.cell? ⟨PB, 1, none⟩ = some (.slice (some a5) 32 c5) by rw [e9, hPB, cell_of_row _ _ _ _ _ _ (heap_alloc_new _ _)]; rfl); have P2 := jh (show w4.cell? ⟨PB, 2, none⟩ = some (.slice (some ⟨HB, 0, none⟩) 32 32) by rw [e9, hPB, cell_of_row _ _ _ _ _ _ (heap_alloc_new _ _)]; rfl); rw [← e9, ← hPB]; clear e9 hPB; have HG := jh (HG.out.later hb); have HK := jn hb HK; have HR := jn hb HR; have HH := jb hb HH; have HO := jn hb HO; have HOF := jh (HOF.out.later hb HOL.out); have HOL := jl HOL hb.size; have HB0 := jw HB0 hb; have K3 := jh (K3.out.later hb); have K5 := jh (K5.out.later hb); clear hb; refine hK.out _ _ (jD HG.out.2.1 HK.out HR.out) (fun hHeld => ?_); clear hK K
    try simp only [Act.put, pa, pb, pc]
    refine WT.fork rfl rfl (fun K hK => ?_) (fun K hK => ?_); rotate_left
    focus
     go_simp
     obtain ⟨w5, e9⟩ := je (w4.alloc (.cells #[.int .u64 0, .int .u64 0, .int .u64 0, .int .u64 0] 24)); obtain ⟨VV, hVV⟩ := je (w4.heap.size); have hb := jc e9; have HV := jh (show NumAt w5 VV 0 by rw [e9, hVV]; exact jz _ _); have HVF := jh (show FreeN w5 VV 4 by rw [e9, hVV]; exact FreeN.new _ _ _ _); have HNG := jh (show GB ≠ VV by have := HG.out.lt; omega); have HNK := jh (show KB ≠ VV by have := NumAt.lt HK.out; omega); have HNR := jh (show RB ≠ VV by have := NumAt.lt HR.out; omega); have HNO := jh (show OO ≠ VV by have := HOL.out; omega); have HVW := jh (show w.heap.size ≤ VV by rw [hVV]; exact HB0.out.size); rw [← e9, ← hVV]; clear e9 hVV; have HG := jh (HG.out.later hb); have HK := jn hb HK; have HR := jn hb HR; have HH := jb hb HH; have HO := jn hb HO; have HOF := jh (HOF.out.later hb HOL.out); have HOL := jl HOL hb.size; have HB0 := jw HB0 hb; have K3 := jh (K3.out.later hb); have K5 := jh (K5.out.later hb); have P0 := jh (jm P0.out hb); have P1 := jh (jm P1.out hb); have P2 := jh (jm P2.out hb); clear hb; refine hK.out _ _ (jD HG.out.2.1 HK.out HR.out) (fun hHeld => ?_); clear hK K
     try simp only [Act.put, pa, pb, pc]
     refine WT.step rfl (fun K hK => ?_)
     go_simp
     refine (CN.out _ PB _ (zU P0.out P1.out P2.out K3.out K5.out (qH HH.out HL.out))).mono ?_; rintro _ w6 ⟨rfl, hb⟩; have HG := jh (HG.out.later hb); have HK := jn hb HK; have HR := jn hb HR; have HH := jb hb HH; have HO := jn hb HO; have HOF := jh (HOF.out.later hb HOL.out); have HOL := jl HOL hb.size; have HB0 := jw HB0 hb; have K3 := jh (K3.out.later hb); have K5 := jh (K5.out.later hb); have P0 := jh (jm P0.out hb); have P1 := jh (jm P1.out hb); have P2 := jh (jm P2.out hb); have HVF := jh (HVF.out.later hb (NumAt.lt HV.out)); have HV := jn hb HV; clear hb; refine hK.out _ _ (jD HG.out.2.1 HK.out HR.out) (fun hHeld => ?_); clear hK K
     try simp only [Act.put, pa, pb, pc]
     refine WT.tk rfl (k := ?_); refine WT.tk rfl (k := ?_); refine WT.tk rfl (k := ?_); refine WT.step rfl (fun K hK => ?_); obtain ⟨c0, c1, c2, c3, f0, f1, f2, f3⟩ := jC HV.out HVF.out
     go_simp
     have HGS := jh (jt (jt (jt (jt (World.grownBy.refl w6 (some VV)) 0 (.int .u64 (jf jd q 0))) 1 (.int .u64 (jf jd q 1))) 2 (.int .u64 (jf jd q 2))) 3 (.int .u64 (jf jd q 3))); have HQ := jh (show NumO _ GB 4 gq from fun j hj => HGS.out.cell (HG.out.2.1 j hj) (fun e => HNG.out (by injection e))); have HK := jh (NumAt.other4 HK.out HNK.out (.int .u64 (jf jd q 0)) (.int .u64 (jf jd q 1)) (.int .u64 (jf jd q 2)) (.int .u64 (jf jd q 3))); have HR := jh (NumAt.other4 HR.out HNR.out (.int .u64 (jf jd q 0)) (.int .u64 (jf jd q 1)) (.int .u64 (jf jd q 2)) (.int .u64 (jf jd q 3))); have HO := jh (NumAt.other4 HO.out HNO.out (.int .u64 (jf jd q 0)) (.int .u64 (jf jd q 1)) (.int .u64 (jf jd q 2)) (.int .u64 (jf jd q 3))); have HOF := jh (FreeN.set4 HOF.out ⟨VV, 0, none⟩ ⟨VV, 1, none⟩ ⟨VV, 2, none⟩ ⟨VV, 3, none⟩ (.int .u64 (jf jd q 0)) (.int .u64 (jf jd q 1)) (.int .u64 (jf jd q 2)) (.int .u64 (jf jd q 3))); have HV := jh (NumAt.set4 HV.out q); have HB0 := jh (jp HB0.out HVW.out (.int .u64 (jf jd q 0)) (.int .u64 (jf jd q 1)) (.int .u64 (jf jd q 2)) (.int .u64 (jf jd q 3))); refine hK.out _ _ (jD HQ.out HK.out HR.out) (fun hHeld => ?_); clear hK K
     try simp only [Act.put, pa, pb, pc]
     refine WT.tk rfl (k := ?_); refine WT.done ?_
    rotate_right
    focus
     go_simp
     refine (CN.out _ PB _ (zU P0.out P1.out P2.out K3.out K5.out (qH HH.out HL.out))).mono ?_; rintro _ w5 ⟨rfl, hb⟩; have HG := jh (HG.out.later hb); have HK := jn hb HK; have HR := jn hb HR; have HH := jb hb HH; have HO := jn hb HO; have HOF := jh (HOF.out.later hb HOL.out); have HOL := jl HOL hb.size; have HB0 := jw HB0 hb; have K3 := jh (K3.out.later hb); have K5 := jh (K5.out.later hb); have P0 := jh (jm P0.out hb); have P1 := jh (jm P1.out hb); have P2 := jh (jm P2.out hb); clear hb; refine hK.out _ _ (jD HG.out.2.1 HK.out HR.out) (fun hHeld => ?_); clear hK K
     try simp only [Act.put, pa, pb, pc]
     refine WT.tk rfl (k := ?_); refine WT.tk rfl (k := ?_); refine WT.tk rfl (k := ?_); refine WT.step rfl (fun K hK => ?_)
     go_simp
     obtain ⟨w6, e9⟩ := je (w5.alloc (.cells #[.int .u64 0, .int .u64 0, .int .u64 0, .int .u64 0] 24)); obtain ⟨VV, hVV⟩ := je (w5.heap.size); have hb := jc e9; have HV := jh (show NumAt w6 VV 0 by rw [e9, hVV]; exact jz _ _); have HVF := jh (show FreeN w6 VV 4 by rw [e9, hVV]; exact FreeN.new _ _ _ _); have HNG := jh (show GB ≠ VV by have := HG.out.lt; omega); have HNK := jh (show KB ≠ VV by have := NumAt.lt HK.out; omega); have HNR := jh (show RB ≠ VV by have := NumAt.lt HR.out; omega); have HNO := jh (show OO ≠ VV by have := HOL.out; omega); have HVW := jh (show w.heap.size ≤ VV by rw [hVV]; exact HB0.out.size); rw [← e9, ← hVV]; clear e9 hVV; have HG := jh (HG.out.later hb); have HK := jn hb HK; have HR := jn hb HR; have HH := jb hb HH; have HO := jn hb HO; have HOF := jh (HOF.out.later hb HOL.out); have HOL := jl HOL hb.size; have HB0 := jw HB0 hb; have K3 := jh (K3.out.later hb); have K5 := jh (K5.out.later hb); have P0 := jh (jm P0.out hb); have P1 := jh (jm P1.out hb); have P2 := jh (jm P2.out hb); clear hb; refine hK.out _ _ (jD HG.out.2.1 HK.out HR.out) (fun hHeld => ?_); clear hK K
     try simp only [Act.put, pa, pb, pc]
     refine WT.step rfl (fun K hK => ?_); obtain ⟨c0, c1, c2, c3, f0, f1, f2, f3⟩ := jC HV.out HVF.out
     go_simp
     have HGS := jh (jt (jt (jt (jt (World.grownBy.refl w6 (some VV)) 0 (.int .u64 (jf jd q 0))) 1 (.int .u64 (jf jd q 1))) 2 (.int .u64 (jf jd q 2))) 3 (.int .u64 (jf jd q 3))); have HQ := jh (show NumO _ GB 4 gq from fun j hj => HGS.out.cell (HG.out.2.1 j hj) (fun e => HNG.out (by injection e))); have HK := jh (NumAt.other4 HK.out HNK.out (.int .u64 (jf jd q 0)) (.int .u64 (jf jd q 1)) (.int .u64 (jf jd q 2)) (.int .u64 (jf jd q 3))); have HR := jh (NumAt.other4 HR.out HNR.out (.int .u64 (jf jd q 0)) (.int .u64 (jf jd q 1)) (.int .u64 (jf jd q 2)) (.int .u64 (jf jd q 3))); have HO := jh (NumAt.other4 HO.out HNO.out (.int .u64 (jf jd q 0)) (.int .u64 (jf jd q 1)) (.int .u64 (jf jd q 2)) (.int .u64 (jf jd q 3))); have HOF := jh (FreeN.set4 HOF.out ⟨VV, 0, none⟩ ⟨VV, 1, none⟩ ⟨VV, 2, none⟩ ⟨VV, 3, none⟩ (.int .u64 (jf jd q 0)) (.int .u64 (jf jd q 1)) (.int .u64 (jf jd q 2)) (.int .u64 (jf jd q 3))); have HV := jh (NumAt.set4 HV.out q); have HB0 := jh (jp HB0.out HVW.out (.int .u64 (jf jd q 0)) (.int .u64 (jf jd q 1)) (.int .u64 (jf jd q 2)) (.int .u64 (jf jd q 3))); refine hK.out _ _ (jD HQ.out HK.out HR.out) (fun hHeld => ?_); clear hK K
     try simp only [Act.put, pa, pb, pc]
     refine WT.tk rfl (k := ?_); refine WT.done ?_
 all_goals (
  clear hHeld c0 c1 c2 c3 f0 f1 f2 f3; obtain ⟨r0, r1, r2, r3⟩ := jy HV.out; obtain ⟨c0, c1, c2, c3, f0, f1, f2, f3⟩ := jC HO.out HOF.out
  go_wp2_with fail
  obtain ⟨g0, g1, g2, g3⟩ := jy (NumAt.set4 HO.out q); have HB9 := jh (jp HB0.out HOW.out (.int .u64 (jf jd q 0)) (.int .u64 (jf jd q 1)) (.int .u64 (jf jd q 2)) (.int .u64 (jf jd q 3))); refine bodyPost_ret (v := .agg #[.int .u64 (jf jd q 0), .int .u64 (jf jd q 1), .int .u64 (jf jd q 2), .int .u64 (jf jd q 3)]) ?_ rfl ⟨rfl, HB9.out⟩
  simp [results, Tryz.results43, go_sem, g0, g1, g2, g3])
theorem RNode_low {gp gq gg gh n cap x : Nat} {fa se : Int} {ao : Option Addr} (h : x < 1) (hx : x < 256) (hn : n ≤ 1000) (w : World) :
  Calls Tryz.prog 21 #[qd gp gq gg gh fa se (.slice ao n cap), .int .u8 x] w fun e w' => e = .returned (.bool false) ∧ Below w.heap.size w w' := by
 have h1I : (x : Int) < 1 := by omega
 have hxI : IntKind.i64.wrap (x : Int) = (x : Int) := qL (by omega); unfold qd
 go_enter Tryz.func21, Tryz.ntmps21
 go_upto_region 1 with fail
 obtain ⟨w0, e0⟩ := je (w.alloc (.cells #[.int .u64 (jf jd gp 0), .int .u64 (jf jd gp 1), .int .u64 (jf jd gp 2), .int .u64 (jf jd gp 3), .int .u64 (jf jd gq 0), .int .u64 (jf jd gq 1), .int .u64 (jf jd gq 2), .int .u64 (jf jd gq 3), .int .u64 (jf jd gg 0), .int .u64 (jf jd gg 1), .int .u64 (jf jd gg 2), .int .u64 (jf jd gg 3), .int .u64 (jf jd gh 0), .int .u64 (jf jd gh 1), .int .u64 (jf jd gh 2), .int .u64 (jf jd gh 3), .int .i64 fa, .int .i64 se, .slice ao n cap] 29)); obtain ⟨SB, hSB⟩ := je (w.heap.size); have hb := jc e0; have HS := jh (show SAt w0 SB gp gq gg gh fa se (.slice ao n cap) by rw [e0, hSB]; exact SAt.new _ _ _ _ _ _ _ _ _); have HB := jh hb; rw [← e0, ← hSB]; clear e0 hSB; clear hb; have q18 := HS.out.nd
 go_wp2_with fail
 go_ret
 exact ⟨rfl, HB.out⟩
theorem RNode_high {gp gq gg gh n cap x : Nat} {fa se : Int} {ao : Option Addr} (h1 : ¬ x < 1) (h : n < x) (hx : x < 256) (hn : n ≤ 1000) (w : World) :
  Calls Tryz.prog 21 #[qd gp gq gg gh fa se (.slice ao n cap), .int .u8 x] w fun e w' => e = .returned (.bool false) ∧ Below w.heap.size w w' := by
 have h1I : (1 : Int) ≤ (x : Int) := by omega
 have hI : ¬ (x : Int) ≤ (n : Int) := by omega
 have hxI : IntKind.i64.wrap (x : Int) = (x : Int) := qL (by omega); unfold qd
 go_enter Tryz.func21, Tryz.ntmps21
 go_upto_region 1 with fail
 obtain ⟨w0, e0⟩ := je (w.alloc (.cells #[.int .u64 (jf jd gp 0), .int .u64 (jf jd gp 1), .int .u64 (jf jd gp 2), .int .u64 (jf jd gp 3), .int .u64 (jf jd gq 0), .int .u64 (jf jd gq 1), .int .u64 (jf jd gq 2), .int .u64 (jf jd gq 3), .int .u64 (jf jd gg 0), .int .u64 (jf jd gg 1), .int .u64 (jf jd gg 2), .int .u64 (jf jd gg 3), .int .u64 (jf jd gh 0), .int .u64 (jf jd gh 1), .int .u64 (jf jd gh 2), .int .u64 (jf jd gh 3), .int .i64 fa, .int .i64 se, .slice ao n cap] 29)); obtain ⟨SB, hSB⟩ := je (w.heap.size); have hb := jc e0; have HS := jh (show SAt w0 SB gp gq gg gh fa se (.slice ao n cap) by rw [e0, hSB]; exact SAt.new _ _ _ _ _ _ _ _ _); have HB := jh hb; rw [← e0, ← hSB]; clear e0 hSB; clear hb; have q18 := HS.out.nd
 go_wp2_with fail
 go_ret
 exact ⟨rfl, HB.out⟩
theorem RNode_in {gp gq gg gh n cap x : Nat} {fa se : Int} {ao : Option Addr} (h1 : ¬ x < 1) (h : ¬ n < x) (hx : x < 256) (hn : n ≤ 1000) (w : World) :
  Calls Tryz.prog 21 #[qd gp gq gg gh fa se (.slice ao n cap), .int .u8 x] w fun e w' => e = .returned (.bool true) ∧ Below w.heap.size w w' := by
 have h1I : (1 : Int) ≤ (x : Int) := by omega
 have hI : (x : Int) ≤ (n : Int) := by omega
 have hxI : IntKind.i64.wrap (x : Int) = (x : Int) := qL (by omega); unfold qd
 go_enter Tryz.func21, Tryz.ntmps21
 go_upto_region 1 with fail
 obtain ⟨w0, e0⟩ := je (w.alloc (.cells #[.int .u64 (jf jd gp 0), .int .u64 (jf jd gp 1), .int .u64 (jf jd gp 2), .int .u64 (jf jd gp 3), .int .u64 (jf jd gq 0), .int .u64 (jf jd gq 1), .int .u64 (jf jd gq 2), .int .u64 (jf jd gq 3), .int .u64 (jf jd gg 0), .int .u64 (jf jd gg 1), .int .u64 (jf jd gg 2), .int .u64 (jf jd gg 3), .int .u64 (jf jd gh 0), .int .u64 (jf jd gh 1), .int .u64 (jf jd gh 2), .int .u64 (jf jd gh 3), .int .i64 fa, .int .i64 se, .slice ao n cap] 29)); obtain ⟨SB, hSB⟩ := je (w.heap.size); have hb := jc e0; have HS := jh (show SAt w0 SB gp gq gg gh fa se (.slice ao n cap) by rw [e0, hSB]; exact SAt.new _ _ _ _ _ _ _ _ _); have HB := jh hb; rw [← e0, ← hSB]; clear e0 hSB; clear hb; have q18 := HS.out.nd
 go_wp2_with fail
 go_ret
 exact ⟨rfl, HB.out⟩
theorem RNode_any {gp gq gg gh n cap x : Nat} {fa se : Int} {ao : Option Addr} (hx : x < 256) (hn : n ≤ 1000) (w : World) :
  Calls Tryz.prog 21 #[qd gp gq gg gh fa se (.slice ao n cap), .int .u8 x] w fun e w' => e = .returned (.bool (decide (1 ≤ x ∧ x ≤ n))) ∧ Below w.heap.size w w' := by
 by_cases h1 : x < 1
 ·rw [decide_eq_false (by omega)]; exact RNode_low h1 hx hn w
 ·by_cases h : n < x
  ·rw [decide_eq_false (by omega)]; exact RNode_high h1 h hx hn w
  ·rw [decide_eq_true (by omega)]; exact RNode_in h1 h hx hn w
theorem RHash20_any {fr tt c s : Nat} {bv : Value} {b : List Nat} (hfr : fr < 256) (hto : tt < 256) (w : World) (hb : KAt .u8 w bv b) (hby : jO b) (hl : b.length ≤ 70000) :
  Calls Tryz.prog 23 #[qy fr tt bv c s] w fun e w' => e = .returned (.agg (jq .u8 (qJ fr tt b)).toArray) ∧ Below w.heap.size w w' := by
 obtain ⟨ab, cb, hbv⟩ : ∃ a c, bv = .slice a b.length c := by obtain ⟨a, c, h, _⟩ := hb; exact ⟨a, c, h⟩
 subst hbv; obtain ⟨m, hmm⟩ := je (b.length); rw [← hmm] at hb ⊢; have CO := jh (fun (W : World) (B : Nat) (vs : List Value) (hP : Parts W B 0 vs [[fr], [tt], b]) => ROf6_any (s := ⟨#[102, 114, 97, 109, 101]⟩) (cap := 3) (n := 3) W hP rfl (by intro l hl9; simp only [List.mem_cons, List.not_mem_nil, or_false] at hl9; rcases hl9 with rfl | rfl | rfl; (intro x hx; rw [List.mem_singleton.1 hx]; exact hfr); (intro x hx; rw [List.mem_singleton.1 hx]; exact hto); exact hby) (by unfold jW; simp [qm, jY, qn, ByteArray.size]; omega)); obtain ⟨D, hD⟩ := je (qJ fr tt b); have HDL := jh (show D.length = 32 by rw [hD]; exact zO _ _ _); rw [← hD]; have CO := jh (fun W B vs hP => by have h9 := CO.out W B vs hP; rewrite [show qq (jW (qs ⟨#[102, 114, 97, 109, 101]⟩) [[fr], [tt], b]) = D from hD.symm] at h9; exact h9); have KB9 := jh hb; clear hb hD hby hfr hto hmm hl; unfold qy
 go_enter Tryz.func23, Tryz.ntmps23
 go_upto_region 1 with fail
 obtain ⟨v_0, e0⟩ := je (w.alloc (.cells #[.int .u8 fr, .int .u8 tt, .slice ab m cb, .int .u64 (jf jd c 0), .int .u64 (jf jd c 1), .int .u64 (jf jd c 2), .int .u64 (jf jd c 3), .int .u64 (jf jd s 0), .int .u64 (jf jd s 1), .int .u64 (jf jd s 2), .int .u64 (jf jd s 3)] 34)); obtain ⟨w0, e1⟩ := je (v_0.alloc (.cells #[.int .u8 0, .int .u8 0, .int .u8 0, .int .u8 0, .int .u8 0, .int .u8 0, .int .u8 0, .int .u8 0, .int .u8 0, .int .u8 0, .int .u8 0, .int .u8 0, .int .u8 0, .int .u8 0, .int .u8 0, .int .u8 0, .int .u8 0, .int .u8 0, .int .u8 0, .int .u8 0, .int .u8 0, .int .u8 0, .int .u8 0, .int .u8 0, .int .u8 0, .int .u8 0, .int .u8 0, .int .u8 0, .int .u8 0, .int .u8 0, .int .u8 0, .int .u8 0] 55)); have s0 : v_0.heap.size = w.heap.size + 1 := by rw [e0]; simp
 have b0 := jc e0; have b1 := jc e1; have f0 : FrAt v_0 w.heap.size fr tt (.slice ab m cb) c s := by rw [e0]; exact FrAt.new _ _ _ _ _ _ _
 rw [← e0, ← e1, ← s0]; obtain ⟨FB, hFB⟩ := je (w.heap.size); obtain ⟨R, hR⟩ := je (v_0.heap.size); rw [← hFB] at f0; rw [← hR, ← hFB]; have HF := jh (f0.later b1); have SF := jh (show Sf w R w0 from ⟨by rw [e1]; exact CAt.zero v_0 32 _ rfl _ _ hR, by rw [e1, hR]; exact FreeN.new _ _ _ _, jk b0 b1, by rw [e1, hR]; simp, by omega⟩); have KB9 := jh (KB9.out.later (jk b0 b1)); clear e0 e1 s0 b0 b1 f0 hFB hR; have y0 := HF.out.fr; have y1 := fun (o1 : Obj) => jm HF.out.tt ((Below.refl w0.heap.size w0).alloc (Nat.le_refl _) o1)
 have y2 := fun (o1 o2 : Obj) => jm HF.out.bv (Jl w0 o1 o2)
 go_wp2_with fail
 clear y0 y1 y2; obtain ⟨wA, eA⟩ := je (w0.alloc (.cells #[.int .u8 fr] 5)); obtain ⟨wB, eB⟩ := je (wA.alloc (.cells #[.int .u8 tt] 5)); have sA : wA.heap.size = w0.heap.size + 1 := by rw [eA]; simp
 have sB : wB.heap.size = w0.heap.size + 1 + 1 := by rw [eB]; simp [sA]
 have bA := jc eA; have bB := jc eB; rw [← eA, ← eB]; obtain ⟨wC, eC⟩ := je (wB.alloc (.cells #[.slice (some ⟨w0.heap.size, 0, none⟩) 1 1, .slice (some ⟨w0.heap.size + 1, 0, none⟩) 1 1, .slice ab m cb] 30)); have bC := jc eC; rw [← eC, ← sB]; have k0 := (((Zh (w := wA) (b := w0.heap.size) (x := fr) (by rw [eA, cell_of_row _ _ _ _ _ _ (heap_alloc_new _ _)]; rfl)).later bB).later bC); have k1 := ((Zh (w := wB) (b := w0.heap.size + 1) (x := tt) (by rw [← sA, eB, cell_of_row _ _ _ _ _ _ (heap_alloc_new _ _)]; rfl)).later bC); have k2 := ((KB9.out.later bA).later bB).later bC; have rC : wC.heap[wB.heap.size]? = some (.cells #[.slice (some ⟨w0.heap.size, 0, none⟩) 1 1, .slice (some ⟨w0.heap.size + 1, 0, none⟩) 1 1, .slice ab m cb] 30 (0, 0)) := by rw [eC]; exact heap_alloc_new _ _
 have hP := zU (by rw [cell_of_row _ _ _ _ _ _ rC]; rfl) (by rw [cell_of_row _ _ _ _ _ _ rC]; rfl) (by rw [cell_of_row _ _ _ _ _ _ rC]; rfl) k0 k1 k2; have SF := jh (((SF.out.later bA).later bB).later bC); clear eA eB eC sA bA bB bC k0 k1 k2 rC; refine (CO.out _ _ _ hP).mono ?_; rintro _ w2 ⟨rfl, hb⟩; clear hP; have SF := jh (SF.out.later hb); have TH := jh (ZC SF.out.c SF.out.f); obtain ⟨cs, hcs⟩ := je (jq .u8 D); have HC := jh hcs; have HCL : Hid (cs.length = 32) := jh (by rw [hcs, jx, HDL.out]); have HCO : Hid (∀ v ∈ cs, v.oneCell' = true) := jh (by rw [hcs]; exact zn _ _); rw [← hcs]; clear hcs hb sB
 go_wp2_with (refine wpList_store_mid rfl 55 _ _ rfl R 0 cs.toArray rfl rfl (by have := TH.out; simpa [HCL.out] using this) (by rw [List.size_toArray, HCL.out]; kernel_rfl) (all_oneCell_toArray HCO.out) ?_)
 refine bodyPost_ret (v := .agg cs.toArray) (Jz _ _ R _ Tryz.results23 rfl (run_loadVar_mid _ _ _ _ cs _ (World.rangeAt_setCells_same _ _ _ _ (by have := TH.out; simpa [HCL.out] using this)) Tryz.underlying55 rfl (by rw [HCL.out]; kernel_rfl))) rfl ⟨by rw [HC.out], ?_⟩; exact qK _ _ _ SF.out.below SF.out.le
end Go.Proofs.YtcaeaejefdhloaaGreat
