/- Layer 20's reference -/
import Derived.Test.YtmijablfjigbhaaGreatDoorSZVG46
import Derived.Test.YtmijablfjigbhaaGreatDoorSZVG35
set_option linter.unusedSimpArgs false
set_option linter.unusedVariables false
set_option maxHeartbeats 8000000
set_option maxRecDepth 100000
namespace Go.Proofs.YtmijablfjigbhaaGreatDoor
open Go.ChangeShapes Go.WideShapes Go.ChangeAt Go.RowKit
theorem dK (s : ByteArray) (ls : List (List Nat)) (x y : Nat) : (jU (qB s) (ls ++ [[x]])).length = (jU (qB s) (ls ++ [[y]])).length := by
 unfold jU; rw [List.flatMap_append, List.flatMap_append]
 simp [qn, qo]
theorem NW {w : World} {g o cap n : Nat} {vs : List Value} {ls : List (List Nat)} (h : Parts w g o vs ls) (hn : n = ls.length) : Zq w 1 (.slice (some ⟨g, o, none⟩) n cap) n vs := by
 refine ⟨_, _, rfl, by rw [h.1, hn, Nat.mul_one], fun u hu => ?_, (fun e => by cases e), fun ad had j u hu => ?_⟩
 ·obtain ⟨i, hi, e⟩ := List.getElem_of_mem hu; obtain ⟨v, l, h1, h2, h3, ao, c, e2, h4⟩ := h.2 i (by rw [← h.1]; exact hi); rw [List.getElem?_eq_getElem hi, e] at h1
  cases h1
  rw [e2]
  rfl
 ·cases had
  have hi := (List.getElem?_eq_some_iff.1 hu).1; obtain ⟨v, l, h1, h2, h3, h4⟩ := h.2 j (by rw [← h.1]; exact hi); rw [hu] at h1
  cases h1
  rw [Addr.add_lit]; exact h3
theorem JL (w : World) (o1 o2 : Obj) : Below w.heap.size w ((w.alloc o1).alloc o2) := (ja).alloc (by simp) _
theorem lL (w : World) (o1 : Obj) (u : Value) (t : TypeId) (hu : u.oneCell' = true) : Zq ((w.alloc o1).alloc (.cells #[u] t)) 1 (.slice (some ⟨w.heap.size + 1, 0, none⟩) 1 1) 1 [u] := by
 have hs : (w.alloc o1).heap.size = w.heap.size + 1 := by simp
 rw [← hs]; refine ⟨_, 1, rfl, rfl, fun x hx => by rw [List.mem_singleton.1 hx]; exact hu, (fun h => by cases h), fun ad had j x hx => ?_⟩
 cases had
 exact Qx (w.alloc o1) _ t j x hx
theorem KP {w1 w2 : World} {x : Int} {y n : Nat} {t t2 : TypeId} {B : Nat} {a : Option Addr} {c : Nat} {u : Value} {vs : List Value} {e : TypeId} (ho : O1 w1 B e 1 (.slice a n c) n vs) (hg : ((w1.alloc (.cells #[.int .u8 x] t)).alloc (.cells #[u] t2)).grownBy w2 (Value.slice a n c).ownBlock) (hx : x = (y : Int) := by rfl) : J6 .u8 w2 (.slice (some ⟨w1.heap.size, 0, none⟩) 1 1) [y] := by
 subst hx; refine PD ?_; have h1 : (w1.alloc (.cells #[.int .u8 (y : Int)] t)).cell? ⟨w1.heap.size, 0, none⟩ = some (.int .u8 y) := by rw [cell_of_row _ _ _ _ _ _ (heap_alloc_new _ _)]; rfl
 have h2 := jm h1 ((Below.refl _ _).alloc (Nat.le_refl _) (.cells #[u] t2)); exact hg.cell h2 (fun e => absurd (O1.lt ho _ e.symm).2 (Nat.lt_irrefl _))
theorem aI {w w2 : World} {g o n B x : Nat} {vs : List Value} {ls : List (List Nat)} {a : Option Addr} {c : Nat} {u : Value} {e : TypeId} (h : Parts w g o vs ls) (hb : Below w.heap.size w w2) (ho : O1 w2 B e 1 (.slice a (n + 1) c) (n + 1) (vs ++ [u])) (hu : J6 .u8 w2 u [x]) (hn : n = ls.length) :
  ∃ ga oa, a = some ⟨ga, oa, none⟩ ∧ Parts w2 ga oa (vs ++ [u]) (ls ++ [[x]]) := by
 rcases id ho.2 with ⟨_, h0⟩ | ⟨ga, oa, cap, cur, h1, _⟩
 ·omega
 ·injection h1 with h1 _ h2
  subst h1 h2; refine ⟨ga, oa, rfl, by rw [List.length_append, List.length_append, h.1]; rfl, fun i hi => ?_⟩; have hl := h.1; rw [List.length_append, List.length_singleton] at hi
  rcases Nat.lt_or_ge i ls.length with hlt | hge
  ·obtain ⟨v, l, h3, h4, h5, h6⟩ := h.2 i hlt; have h7 : (vs ++ [u])[i]? = some v := by rw [List.getElem?_append_left (by omega)]; exact h3
   refine ⟨v, l, h7, by rw [List.getElem?_append_left hlt]; exact h4, ?_, h6.later hb⟩; have := ho.cells i v h7
   rwa [Addr.add_lit] at this
  ·obtain rfl : i = ls.length := by omega
   have h7 : (vs ++ [u])[ls.length]? = some u := by rw [List.getElem?_append_right (by omega), hl, Nat.sub_self]; rfl
   refine ⟨u, [x], h7, by rw [List.getElem?_append_right (Nat.le_refl _), Nat.sub_self]; rfl, ?_, hu⟩; have := ho.cells ls.length u h7
   rwa [Addr.add_lit] at this
theorem yG {s : ByteArray} {g o cap m n : Nat} {vs : List Value} {ls : List (List Nat)} (w : World) (hP : Parts w g o vs ls) (hn : n = ls.length) (hm0 : 0 < m) (hm : m < jo) (hby : ∀ l ∈ ls, jM l) (hcap : n ≤ cap) (hcm : cap ≤ maxLen) (hsz : (jU (qB s) (ls ++ [[0]])).length ≤ 190000) :
  Calls Tryz.prog 33 #[jj m, .string s, .slice (some ⟨g, o, none⟩) n cap] w fun e w' => e = .returned (.tuple #[jj (zB m (qB s) ls), .int .i64 0]) ∧ Below w.heap.size w w' := by
 obtain ⟨i0, hi, hz0, hz1, hz2⟩ := info_parts VS; have HI := jh hi; have HP := jh hP; have HN := jh hn; have hnb : n ≤ 190000 := by rw [hn]; have := gQ ls; have h9 := hsz; unfold jU at h9; rw [List.flatMap_append] at h9; simp only [List.length_append] at h9; omega
 have XQ := jh hby; have V8 := jh hsz; have heq : ∀ W : World, (binOp .eql 24 (.agg #[.int .u64 (jf jd m 0), .int .u64 (jf jd m 1), .int .u64 (jf jd m 2), .int .u64 (jf jd m 3)]) (.agg #[.int .u64 0, .int .u64 0, .int .u64 0, .int .u64 0])).run Tryz.prog W = .ok (.bool false) W := fun W => by have h9 := zp m 0 hm (by decide) W; rewrite [decide_eq_false (by omega)] at h9; simp only [jI] at h9; exact h9
 obtain ⟨q, hq⟩ := je (zB m (qB s) ls); rw [← hq]; have CO := jh (fun (x : Nat) (hx : x < 2) (W : World) (g9 o9 c9 : Nat) (vs9 : List Value) (h : Parts W g9 o9 vs9 (ls ++ [[x]])) => PQ (s := s) (cap := c9) (n := n + 1) W h (by rw [List.length_append, ← hn]; rfl) (fun l hl => by rcases List.mem_append.1 hl with h1 | h1; exact hby l h1; rw [List.mem_singleton.1 h1]; intro y hy; rw [List.mem_singleton.1 hy]; omega) (by rw [dK s ls x 0]; exact hsz)); obtain ⟨D0, hD0⟩ := je (qE (jU (qB s) (ls ++ [[0]]))); obtain ⟨D1, hD1⟩ := je (qE (jU (qB s) (ls ++ [[1]]))); obtain ⟨hi9, hhi⟩ := je (XD (qB s) ls 0); obtain ⟨lo9, hlo⟩ := je (XD (qB s) ls 1); have CO0 := jh (fun W g9 o9 c9 vs9 h => by have h9 := CO.out 0 (by omega) W g9 o9 c9 vs9 h; rewrite [← hD0] at h9; exact h9); have CO1 := jh (fun W g9 o9 c9 vs9 h => by have h9 := CO.out 1 (by omega) W g9 o9 c9 vs9 h; rewrite [← hD1] at h9; exact h9); have CG := jh (fun (D : List Nat) (x : Nat) (hl : D.length = 32) (hb : jM D) (hx : x = ZH D) (W : World) (g9 c9 : Nat) (h : J6 .u8 W (.slice (some ⟨g9, 0, none⟩) 32 c9) D) => by have h9 := iO W h hb (by omega); rewrite [WU hb hl, ← hx] at h9; unfold jj words at h9; exact h9); have HG0 := jh (fun W g9 c9 h => CG.out D0 hi9 (by rw [hD0]; exact qe _) (by rw [hD0]; exact Jn _) (by rw [hhi, hD0]; rfl) W g9 c9 h); have HG1 := jh (fun W g9 c9 h => CG.out D1 lo9 (by rw [hD1]; exact qe _) (by rw [hD1]; exact Jn _) (by rw [hlo, hD1]; rfl) W g9 c9 h); have CW := jh (fun W => by have h9 := fM (lo := lo9) (hi := hi9) (by rw [hlo]; exact VD _ _ _) (by rw [hhi]; exact VD _ _ _) hm hm0 W; rewrite [show (hi9 * jo + lo9) % m = q by rw [hq, hhi, hlo]; rfl] at h9; unfold jj words at h9; exact h9); have HL0 := jh (show D0.length = 32 by rw [hD0]; exact qe _); have UF := jh (show D1.length = 32 by rw [hD1]; exact qe _); have H9 := jh (NW hP hn (cap := cap)); obtain ⟨T0, hT0⟩ := je ((jp .u8 D0).toArray); rw [← hT0] at CO0; have HS0 := jh (show T0.size = 32 by rw [hT0, List.size_toArray, jt]; exact HL0.out); have HA0 := jh (show T0.all (·.oneCell') = true by rw [hT0]; exact zY _ _); have HTT0 := jh hT0; clear hT0; obtain ⟨T1, hT1⟩ := je ((jp .u8 D1).toArray); rw [← hT1] at CO1; have wH := jh (show T1.size = 32 by rw [hT1, List.size_toArray, jt]; exact UF.out); have HA1 := jh (show T1.all (·.oneCell') = true by rw [hT1]; exact zY _ _); have HTT1 := jh hT1; clear hT1; clear hi hP hn hm0 hm hby hsz CO hq hhi hlo hD0 hD1 CG; unfold jj words
 go_enter Tryz.func33, Tryz.ntmps33
 go_upto_region 1 with fail
 obtain ⟨wz, MB, RR, e9, J5, h_1, Y6, HRR, HF, B, V8, LC, Y9, D6, U1⟩ := box1r w 24 m; rw [e9, J5, h_1]; clear e9 J5 h_1; have HP := jh (Parts.on HP.out B.out); have H9 := jh (qC H9.out B.out); obtain ⟨G7, X7, V7, U7⟩ := jz Y6.out
 go_upto_region 3 with fail
 clear heq; clear G7 X7 V7 U7
 go_wp2_with (first
  | (at_builtin; refine jJ rfl (.const (.slice none 0 0)) (.tmp 19) 102 rfl (wz.heap.size) 30 i0 (.slice none 0 0) 1 24 Tryz.underlying102 HI.out hz0 hz1 hz2 rfl (.slice none 0 0) 0 [] rfl ⟨rfl, .inl ⟨rfl, rfl⟩⟩ (.slice (some ⟨g, o, none⟩) n cap) n vs rfl H9.out (by unfold maxLen; omega) (by omega) (Nat.le_refl _) ?_; intro v9 w1 ho hg hl; obtain ⟨a9, c9, rfl⟩ := ho.sl; rw [Nat.zero_add, List.nil_append] at ho; have SA := jh ho; have G1 := jh hg; have zz1 := hg.size; clear ho hg hl)
  | (at_builtin; refine jJ rfl (.tmp 20) (.tmp 22) 102 rfl (wz.heap.size) 30 i0 (.slice none 0 0) 1 24 Tryz.underlying102 HI.out hz0 hz1 hz2 rfl (.slice a9 n c9) n vs rfl (O1.later SA.out (JL _ _ _)) (.slice (some ⟨w1.heap.size + 1, 0, none⟩) 1 1) 1 [.slice (some ⟨w1.heap.size, 0, none⟩) 1 1] rfl (lL _ _ _ _ rfl) (by unfold maxLen; omega) (by omega) (by simp; omega) ?_; intro v9 w2 ho hg hl; obtain ⟨a8, c8, rfl⟩ := ho.sl; have U9 := jh ho; have G2 := jh hg; have zz2 := hg.size; clear ho hg hl))
 have hb1 : Below wz.heap.size wz w1 := (Below.refl _ _).grown G1.out (Nat.le_refl _) (fun k hk => by simp [Value.ownBlock] at hk); have hb : Below wz.heap.size wz w2 := (hb1.trans ((JL w1 _ _).mono hb1.size)).grown G2.out (by simp; omega) (fun k hk => (O1.lt SA.out k hk).1); obtain ⟨ga, oa, hga, HPN⟩ := aI (x := 0) HP.out hb U9.out (KP SA.out G2.out) HN.out; subst hga; have HPN := jh HPN; clear SA G1 zz1 U9 G2 zz2 hb1; have Y6 := jn hb Y6; have HRR := jn hb HRR; have HF := jh (HF.out.later hb (by omega)); have HP := jh (Parts.on HP.out hb); have H9 := jh (qC H9.out hb); have U1 := Nat.lt_of_lt_of_le U1 hb.size; have B := jw B hb; clear hb; refine (CO0.out _ _ _ _ _ HPN.out).mono ?_; rintro _ w3 ⟨rfl, hb⟩; clear HPN; have Y6 := jn hb Y6; have HRR := jn hb HRR; have HF := jh (HF.out.later hb (by omega)); have HP := jh (Parts.on HP.out hb); have H9 := jh (qC H9.out hb); have U1 := Nat.lt_of_lt_of_le U1 hb.size; have B := jw B hb; clear hb
 go_upto_region 4 with (refine qg rfl _ _ _ rfl _ T0 rfl rfl (by rw [HS0.out]; kernel_rfl) (by rw [HS0.out]; rfl) HA0.out ?_)
 obtain ⟨XAw, e9⟩ := je (w3.alloc (.cells T0 32)); obtain ⟨XA, h9⟩ := je (w3.heap.size); have hb := jc e9; have r9 : XAw.heap[XA]? = some (.cells T0 32 (0, 0)) := by rw [e9, h9]; exact heap_alloc_new _ _
 rw [← e9, ← h9]; clear e9 h9; have Y6 := jn hb Y6; have HRR := jn hb HRR; have HF := jh (HF.out.later hb (by omega)); have HP := jh (Parts.on HP.out hb); have H9 := jh (qC H9.out hb); have U1 := Nat.lt_of_lt_of_le U1 hb.size; have B := jw B hb; clear hb; have HR0 := jh r9; clear r9
 go_wp2_with (first
  | (at_builtin; refine jJ rfl (.const (.slice none 0 0)) (.tmp 26) 102 rfl (XAw.heap.size) 30 i0 (.slice none 0 0) 1 24 Tryz.underlying102 HI.out hz0 hz1 hz2 rfl (.slice none 0 0) 0 [] rfl ⟨rfl, .inl ⟨rfl, rfl⟩⟩ (.slice (some ⟨g, o, none⟩) n cap) n vs rfl H9.out (by unfold maxLen; omega) (by omega) (Nat.le_refl _) ?_; intro v9 w4 ho hg hl; obtain ⟨a9, c9, rfl⟩ := ho.sl; rw [Nat.zero_add, List.nil_append] at ho; have SA := jh ho; have G1 := jh hg; have zz1 := hg.size; clear ho hg hl)
  | (at_builtin; refine jJ rfl (.tmp 27) (.tmp 29) 102 rfl (XAw.heap.size) 30 i0 (.slice none 0 0) 1 24 Tryz.underlying102 HI.out hz0 hz1 hz2 rfl (.slice a9 n c9) n vs rfl (O1.later SA.out (JL _ _ _)) (.slice (some ⟨w4.heap.size + 1, 0, none⟩) 1 1) 1 [.slice (some ⟨w4.heap.size, 0, none⟩) 1 1] rfl (lL _ _ _ _ rfl) (by unfold maxLen; omega) (by omega) (by simp; omega) ?_; intro v9 w5 ho hg hl; obtain ⟨a8, c8, rfl⟩ := ho.sl; have U9 := jh ho; have G2 := jh hg; have zz2 := hg.size; clear ho hg hl))
 have hb1 : Below XAw.heap.size XAw w4 := (Below.refl _ _).grown G1.out (Nat.le_refl _) (fun k hk => by simp [Value.ownBlock] at hk); have hb : Below XAw.heap.size XAw w5 := (hb1.trans ((JL w4 _ _).mono hb1.size)).grown G2.out (by simp; omega) (fun k hk => (O1.lt SA.out k hk).1); obtain ⟨ga, oa, hga, HPN⟩ := aI (x := 1) HP.out hb U9.out (KP SA.out G2.out) HN.out; subst hga; have HPN := jh HPN; clear SA G1 zz1 U9 G2 zz2 hb1; have Y6 := jn hb Y6; have HRR := jn hb HRR; have HF := jh (HF.out.later hb (by omega)); have HP := jh (Parts.on HP.out hb); have H9 := jh (qC H9.out hb); have HR0 := jb hb HR0; have U1 := Nat.lt_of_lt_of_le U1 hb.size; have B := jw B hb; clear hb; refine (CO1.out _ _ _ _ _ HPN.out).mono ?_; rintro _ w6 ⟨rfl, hb⟩; clear HPN; have Y6 := jn hb Y6; have HRR := jn hb HRR; have HF := jh (HF.out.later hb (by omega)); have HP := jh (Parts.on HP.out hb); have H9 := jh (qC H9.out hb); have HR0 := jb hb HR0; have U1 := Nat.lt_of_lt_of_le U1 hb.size; have B := jw B hb; clear hb
 go_upto_region 5 with (refine qg rfl _ _ _ rfl _ T1 rfl rfl (by rw [wH.out]; kernel_rfl) (by rw [wH.out]; rfl) HA1.out ?_)
 obtain ⟨XCw, e9⟩ := je (w6.alloc (.cells T1 32)); obtain ⟨XC, h9⟩ := je (w6.heap.size); have hb := jc e9; have r9 : XCw.heap[XC]? = some (.cells T1 32 (0, 0)) := by rw [e9, h9]; exact heap_alloc_new _ _
 rw [← e9, ← h9]; clear e9 h9; have Y6 := jn hb Y6; have HRR := jn hb HRR; have HF := jh (HF.out.later hb (by omega)); have HP := jh (Parts.on HP.out hb); have H9 := jh (qC H9.out hb); have HR0 := jb hb HR0; have U1 := Nat.lt_of_lt_of_le U1 hb.size; have B := jw B hb; clear hb; have HR1 := jh r9; clear r9
 go_upto_region 5 with fail
 go_wp2_with fail
 refine (HG0.out _ XA 32 (by rw [HTT0.out] at HR0; exact Jh HR0.out HL0.out)).mono ?_; rintro _ w7 ⟨rfl, hb⟩; have Y6 := jn hb Y6; have HRR := jn hb HRR; have HF := jh (HF.out.later hb (by omega)); have HP := jh (Parts.on HP.out hb); have H9 := jh (qC H9.out hb); have HR0 := jb hb HR0; have HR1 := jb hb HR1; have U1 := Nat.lt_of_lt_of_le U1 hb.size; have B := jw B hb; clear hb
 go_upto_region 6 with fail
 obtain ⟨w8, e9⟩ := je (w7.alloc (.cells (jD hi9) 24)); obtain ⟨N0, h9⟩ := je (w7.heap.size); have hb := jc e9; have n9 := jh (show U0 w8 N0 hi9 by rw [e9, h9]; exact U0.new _ _ _ _ rfl); have f9 := jh (show Y0 w8 N0 4 by rw [e9, h9]; exact Y0.made _ _ _ _ _ rfl); have l_N0 : RR < N0 := by omega
 have h8 : N0 < w8.heap.size := by rw [e9, h9]; simp
 rw [← e9, ← h9]; clear e9 h9; have Y6 := jn hb Y6; have HRR := jn hb HRR; have HF := jh (HF.out.later hb (by omega)); have HP := jh (Parts.on HP.out hb); have H9 := jh (qC H9.out hb); have HR0 := jb hb HR0; have HR1 := jb hb HR1; have U1 := Nat.lt_of_lt_of_le U1 hb.size; have B := jw B hb; clear hb; have HN0 := n9; have DY := f9; have U1 := h8; clear n9 f9 h8; have hwN0 : w.heap.size ≤ N0 := by omega
 go_wp2_with fail
 refine (HG1.out _ XC 32 (by rw [HTT1.out] at HR1; exact Jh HR1.out UF.out)).mono ?_; rintro _ wa ⟨rfl, hb⟩; have Y6 := jn hb Y6; have HRR := jn hb HRR; have HN0 := jn hb HN0; have HF := jh (HF.out.later hb (by omega)); have DY := jh (DY.out.later hb (by omega)); have HP := jh (Parts.on HP.out hb); have H9 := jh (qC H9.out hb); have HR0 := jb hb HR0; have HR1 := jb hb HR1; have U1 := Nat.lt_of_lt_of_le U1 hb.size; have B := jw B hb; clear hb
 go_upto_region 7 with fail
 obtain ⟨wb, e9⟩ := je (wa.alloc (.cells (jD lo9) 24)); obtain ⟨N1, h9⟩ := je (wa.heap.size); have hb := jc e9; have n9 := jh (show U0 wb N1 lo9 by rw [e9, h9]; exact U0.new _ _ _ _ rfl); have f9 := jh (show Y0 wb N1 4 by rw [e9, h9]; exact Y0.made _ _ _ _ _ rfl); have l_N1 : N0 < N1 := by omega
 have h8 : N1 < wb.heap.size := by rw [e9, h9]; simp
 rw [← e9, ← h9]; clear e9 h9; have Y6 := jn hb Y6; have HRR := jn hb HRR; have HN0 := jn hb HN0; have HF := jh (HF.out.later hb (by omega)); have DY := jh (DY.out.later hb (by omega)); have HP := jh (Parts.on HP.out hb); have H9 := jh (qC H9.out hb); have HR0 := jb hb HR0; have HR1 := jb hb HR1; have U1 := Nat.lt_of_lt_of_le U1 hb.size; have B := jw B hb; clear hb; have bD := n9; have HFN1 := f9; have U1 := h8; clear n9 f9 h8; have hwN1 : w.heap.size ≤ N1 := by omega
 obtain ⟨r_N0_0, r_N0_1, r_N0_2, r_N0_3⟩ := jz HN0.out; obtain ⟨r_N1_0, r_N1_1, r_N1_2, r_N1_3⟩ := jz bD.out; obtain ⟨G7, X7, V7, U7⟩ := jz Y6.out
 go_wp2_with fail
 clear r_N0_0 r_N0_1 r_N0_2 r_N0_3 r_N1_0 r_N1_1 r_N1_2 r_N1_3 G7 X7 V7 U7; refine (CW.out _).mono ?_; rintro _ wc ⟨rfl, hb⟩; have Y6 := jn hb Y6; have HRR := jn hb HRR; have HN0 := jn hb HN0; have bD := jn hb bD; have HF := jh (HF.out.later hb (by omega)); have DY := jh (DY.out.later hb (by omega)); have HFN1 := jh (HFN1.out.later hb (by omega)); have HP := jh (Parts.on HP.out hb); have H9 := jh (qC H9.out hb); have HR0 := jb hb HR0; have HR1 := jb hb HR1; have U1 := Nat.lt_of_lt_of_le U1 hb.size; have B := jw B hb; clear hb; obtain ⟨c0, c1, c2, c3, f0, f1, f2, f3⟩ := jL HRR.out HF.out
 go_wp2_with fail
 obtain ⟨Q7, B9⟩ := zw HRR B D6 q; obtain ⟨g0, g1, g2, g3⟩ := jz Q7.out; refine bodyPost_ret (v := .tuple #[jj q, .int .i64 0]) ?_ rfl ⟨rfl, B9.out⟩
 simp [results, Tryz.results33, go_sem, jj, words, g0, g1, g2, g3]
theorem JD (x : Nat) (w : World) : Calls Tryz.prog 34 #[.slice none 0 0, .agg #[.int .u64 (jf jd x 0), .int .u64 (jf jd x 1), .int .u64 (jf jd x 2), .int .u64 (jf jd x 3)]] w fun e w' => ∃ a c, e = .returned (.slice (some a) 32 c) ∧ J6 .u8 w' (.slice (some a) 32 c) (zH x) ∧ Below w.heap.size w w' := by
 refine (cO (b := []) w (J6.nil _ _) _ _ _ _ (qO x 0) (qO x 1) (qO x 2) (qO x 3) (by simp)).mono ?_; rintro _ w' ⟨v', rfl, ho, hb⟩; have hk := ho.at_; rw [List.nil_append] at hk; obtain ⟨ao, cap, e, _, _, _, h4⟩ := hk; obtain ⟨b, o, e2, _⟩ := h4 (by show 0 < (zH x).length; rw [qI]; decide); subst e; have hl : (be 8 (jf jd x 3) ++ (be 8 (jf jd x 2) ++ (be 8 (jf jd x 1) ++ be 8 (jf jd x 0)))).length = 32 := qI x; have hk := ho.at_; rw [List.nil_append, hl, e2] at hk; exact ⟨_, _, by rw [hl, e2], hk, hb⟩
theorem wY {gp gq gg gh key r : Nat} {h : List Nat} (hl : h.length = 32) (Z4 : jM h) (hq0 : 0 < gq) (hq : gq < jo) (w : World) :
  Calls Tryz.prog 114 #[qd gp gq gg gh, jj key, jj r, .agg (jp .u8 h).toArray] w fun e w' => e = .returned (jj (zu gq key r h)) ∧ Below w.heap.size w w' := by
 obtain ⟨q, hqq⟩ := je (zu gq key r h)
 have CN := jh (fun (W : World) (B : Nat) (vs : List Value) (hP : Parts W B 0 vs [zH key, zH r, h]) => by
  have h9 := yG (s := ⟨#[115, 105, 103, 110]⟩) (m := gq) (cap := 3) (n := 3) W hP rfl hq0 hq (by
   intro l TD; simp only [List.mem_cons, List.not_mem_nil, or_false] at TD
   rcases TD with rfl | rfl | rfl
   ·exact zG _
   ·exact zG _
   ·exact Z4) (by decide) (by unfold maxLen; decide) (by unfold jU; simp [qn, jW, qo, qI, hl, ByteArray.size])
  rewrite [show zB gq (qB ⟨#[115, 105, 103, 110]⟩) [zH key, zH r, h] = q from hqq.symm] at h9; unfold jj words at h9
  exact h9)
 rw [← hqq]; have HL := jh hl; obtain ⟨T, hT⟩ := je ((jp .u8 h).toArray); rw [← hT]; have HT := jh hT; clear hqq hl Z4 hq0 hq hT; unfold qd jj words
 go_enter Tryz.func114, Tryz.ntmps114
 go_upto_region 1 with fail
 obtain ⟨A8, xC⟩ := je (w.alloc (.cells (jG gp gq gg gh) 26)); have dF : A8.heap.size = w.heap.size + 1 := by rw [xC]; simp
 have WN := jc xC; obtain ⟨F8, tC⟩ := je (A8.alloc (.cells (jD key) 24)); have aG : F8.heap.size = A8.heap.size + 1 := by rw [tC]; simp
 have wG := jc tC; obtain ⟨J9, VC⟩ := je (F8.alloc (.cells (jD r) 24)); have yO : J9.heap.size = F8.heap.size + 1 := by rw [VC]; simp
 have VE := jc VC; obtain ⟨S9, yE⟩ := je (J9.alloc (.cells T 32)); have wL : S9.heap.size = J9.heap.size + 1 := by rw [yE]; simp
 have uD := jc yE; obtain ⟨w0, fD⟩ := je (S9.alloc (.cells jA 24)); have xR : w0.heap.size = S9.heap.size + 1 := by rw [fD]; simp
 have OC := jc fD; have aH : U2 A8 w.heap.size gp gq gg gh := by rw [xC]; exact U2.new _ _ _ _ _ _
 have xE : U0 F8 A8.heap.size key := by rw [tC]; exact U0.new _ _ _ _ rfl
 have oG : U0 J9 F8.heap.size r := by rw [VC]; exact U0.new _ _ _ _ rfl
 have yF : S9.heap[J9.heap.size]? = some (.cells (jp .u8 h).toArray 32 (0, 0)) := by rw [yE, HT.out]; exact heap_alloc_new _ _
 have nG : U0 w0 S9.heap.size 0 := by rw [fD]; exact jP _ _
 have g_4 : Y0 w0 S9.heap.size 4 := by rw [fD]; exact Y0.new _ _ _ _
 rw [← xC, ← tC, ← VC, ← yE, ← fD]; have HG := jh ((((aH.later wG).later VE).later uD).later OC); have HK := jh (U0.later OC (U0.later uD (U0.later VE xE))); have HR := jh (U0.later OC (U0.later uD oG)); have HH := jh ((OC.block _ (Array.getElem?_eq_some_iff.1 yF).1).trans yF); have HO := jh nG; have L6 := jh g_4; have HB0 := jh (jk (jk (jk (jk WN wG) VE) uD) OC); have hz1 : A8.heap.size = w.heap.size + 1 := dF; have hz2 : F8.heap.size = w.heap.size + 1 + 1 := by rw [aG, dF]
 have hz3 : J9.heap.size = w.heap.size + 1 + 1 + 1 := by rw [yO, hz2]
 have hz4 : S9.heap.size = w.heap.size + 1 + 1 + 1 + 1 := by rw [wL, hz3]
 have hz5 : w0.heap.size = S9.heap.size + 1 := xR; rw [hz1] at HK; rw [hz2] at HR; rw [hz3] at HH; rw [hz4] at HO L6 hz5; clear xC tC VC yE fD dF aG yO wL xR WN wG VE uD OC aH xE oG yF nG g_4 hz1 hz2 hz3 hz4; obtain ⟨GB, hGB⟩ := je (w.heap.size); rw [← hGB] at HG HK HR HH HO L6 hz5 ⊢; obtain ⟨KB, OY⟩ := je (GB + 1); rw [← OY] at HK HR HH HO L6 hz5 ⊢; obtain ⟨RB, oH⟩ := je (KB + 1); rw [← oH] at HR HH HO L6 hz5 ⊢; obtain ⟨HB, hHB⟩ := je (RB + 1); rw [← hHB] at HH HO L6 hz5 ⊢; obtain ⟨OO, dE⟩ := je (HB + 1); rw [← dE] at HO L6 hz5 ⊢; have HOW := jh (show w.heap.size ≤ OO by omega); have F6 := jh (show OO < w0.heap.size by omega); clear hGB OY oH hHB dE hz5; refine jY (.take 0 (.take 1 (.take 2 (.take 4 (.take 6 (.fork 3 (.fork 5 (.fork 7 (.fork 8 (.take 9 (.take 10 (.take 11 (.step 12 (.step 13 (.take 14 .done)))))) 12 (.step 8 (.take 9 (.take 10 (.take 11 (.step 13 (.take 14 .done))))))) 12 (.step 7 (.step 8 (.take 9 (.take 10 (.take 11 (.step 13 (.take 14 .done)))))))) 12 (.step 5 (.step 7 (.step 8 (.take 9 (.take 10 (.take 11 (.step 13 (.take 14 .done))))))))) 12 (.step 3 (.step 5 (.step 7 (.step 8 (.take 9 (.take 10 (.take 11 (.step 13 (.take 14 .done))))))))))))))) (fun w8 => w8.cell? ⟨GB, 4, none⟩ = some (.int .u64 (jf jd gq 0)) ∧ w8.cell? ⟨GB, 5, none⟩ = some (.int .u64 (jf jd gq 1)) ∧ w8.cell? ⟨GB, 6, none⟩ = some (.int .u64 (jf jd gq 2)) ∧ w8.cell? ⟨GB, 7, none⟩ = some (.int .u64 (jf jd gq 3)) ∧ w8.cell? ⟨KB, 0, none⟩ = some (.int .u64 (jf jd key 0)) ∧ w8.cell? ⟨KB, 1, none⟩ = some (.int .u64 (jf jd key 1)) ∧ w8.cell? ⟨KB, 2, none⟩ = some (.int .u64 (jf jd key 2)) ∧ w8.cell? ⟨KB, 3, none⟩ = some (.int .u64 (jf jd key 3)) ∧ w8.cell? ⟨RB, 0, none⟩ = some (.int .u64 (jf jd r 0)) ∧ w8.cell? ⟨RB, 1, none⟩ = some (.int .u64 (jf jd r 1)) ∧ w8.cell? ⟨RB, 2, none⟩ = some (.int .u64 (jf jd r 2)) ∧ w8.cell? ⟨RB, 3, none⟩ = some (.int .u64 (jf jd r 3))) (by kernel_rfl) (by kernel_rfl) (fun _ _ _ _ _ h => h) (qf HG.out.2.1 HK.out HR.out) (fun hHeld => ?_); obtain ⟨w1, e1⟩ := je (w0.drew); rw [← e1]; have hb : Below w0.heap.size w0 w1 := by rw [e1]; exact (Below.refl _ _).drew
 have HG := jh (HG.out.later hb); have HK := jn hb HK; have HR := jn hb HR; have HH := jb hb HH; have HO := jn hb HO; have L6 := jh (L6.out.later hb F6.out); have F6 := jl F6 hb.size; have HB0 := jw HB0 hb; clear hb e1
 iterate 5
  refine WT.tk rfl (k := ?_)
 focus
  refine WT.fork rfl rfl (fun K hK => ?_) (fun K hK => ?_)
 rotate_left
 focus
  go_simp
  obtain ⟨w2, e9⟩ := je (w1.alloc (.cells jA 24)); obtain ⟨VV, D9⟩ := je (w1.heap.size); have hb := jc e9; have HV := jh (show U0 w2 VV 0 by rw [e9, D9]; exact jP _ _); have Y8 := jh (show Y0 w2 VV 4 by rw [e9, D9]; exact Y0.new _ _ _ _); have HNG := jh (show GB ≠ VV by have := HG.out.lt; omega); have HNK := jh (show KB ≠ VV by have := U0.lt HK.out; omega); have HNR := jh (show RB ≠ VV by have := U0.lt HR.out; omega); have RF := jh (show OO ≠ VV by have := F6.out; omega); have HVW := jh (show w.heap.size ≤ VV by rw [D9]; exact HB0.out.size); rw [← e9, ← D9]; clear e9 D9; have HG := jh (HG.out.later hb); have HK := jn hb HK; have HR := jn hb HR; have HH := jb hb HH; have HO := jn hb HO; have L6 := jh (L6.out.later hb F6.out); have F6 := jl F6 hb.size; have HB0 := jw HB0 hb; clear hb; refine hK.out _ _ (qf HG.out.2.1 HK.out HR.out) (fun hHeld => ?_); clear hK K
  try simp only [Act.put, pa, pb, pc]
 rotate_right
 focus
  go_simp
  refine (JD key _).mono ?_; rintro _ w2 ⟨a3, c3, rfl, hk9, hb⟩; have HG := jh (HG.out.later hb); have HK := jn hb HK; have HR := jn hb HR; have HH := jb hb HH; have HO := jn hb HO; have L6 := jh (L6.out.later hb F6.out); have F6 := jl F6 hb.size; have HB0 := jw HB0 hb; have K3 := jh hk9; clear hk9 hb; refine hK.out _ _ (qf HG.out.2.1 HK.out HR.out) (fun hHeld => ?_); clear hK K
  try simp only [Act.put, pa, pb, pc]
 focus
  refine WT.fork rfl rfl (fun K hK => ?_) (fun K hK => ?_)
 rotate_left
 focus
  go_simp
  obtain ⟨w3, e9⟩ := je (w2.alloc (.cells jA 24)); obtain ⟨VV, D9⟩ := je (w2.heap.size); have hb := jc e9; have HV := jh (show U0 w3 VV 0 by rw [e9, D9]; exact jP _ _); have Y8 := jh (show Y0 w3 VV 4 by rw [e9, D9]; exact Y0.new _ _ _ _); have HNG := jh (show GB ≠ VV by have := HG.out.lt; omega); have HNK := jh (show KB ≠ VV by have := U0.lt HK.out; omega); have HNR := jh (show RB ≠ VV by have := U0.lt HR.out; omega); have RF := jh (show OO ≠ VV by have := F6.out; omega); have HVW := jh (show w.heap.size ≤ VV by rw [D9]; exact HB0.out.size); rw [← e9, ← D9]; clear e9 D9; have HG := jh (HG.out.later hb); have HK := jn hb HK; have HR := jn hb HR; have HH := jb hb HH; have HO := jn hb HO; have L6 := jh (L6.out.later hb F6.out); have F6 := jl F6 hb.size; have HB0 := jw HB0 hb; have K3 := jh (K3.out.later hb); clear hb; refine hK.out _ _ (qf HG.out.2.1 HK.out HR.out) (fun hHeld => ?_); clear hK K
  try simp only [Act.put, pa, pb, pc]
 rotate_right
 focus
  go_simp
  refine (JD r _).mono ?_; rintro _ w3 ⟨a5, c5, rfl, hk9, hb⟩; have HG := jh (HG.out.later hb); have HK := jn hb HK; have HR := jn hb HR; have HH := jb hb HH; have HO := jn hb HO; have L6 := jh (L6.out.later hb F6.out); have F6 := jl F6 hb.size; have HB0 := jw HB0 hb; have K3 := jh (K3.out.later hb); have K5 := jh hk9; clear hk9 hb; refine hK.out _ _ (qf HG.out.2.1 HK.out HR.out) (fun hHeld => ?_); clear hK K
  try simp only [Act.put, pa, pb, pc]
 focus
  refine WT.fork rfl rfl (fun K hK => ?_) (fun K hK => ?_)
 rotate_left
 focus
  go_simp
  obtain ⟨w4, e9⟩ := je (w3.alloc (.cells jA 24)); obtain ⟨VV, D9⟩ := je (w3.heap.size); have hb := jc e9; have HV := jh (show U0 w4 VV 0 by rw [e9, D9]; exact jP _ _); have Y8 := jh (show Y0 w4 VV 4 by rw [e9, D9]; exact Y0.new _ _ _ _); have HNG := jh (show GB ≠ VV by have := HG.out.lt; omega); have HNK := jh (show KB ≠ VV by have := U0.lt HK.out; omega); have HNR := jh (show RB ≠ VV by have := U0.lt HR.out; omega); have RF := jh (show OO ≠ VV by have := F6.out; omega); have HVW := jh (show w.heap.size ≤ VV by rw [D9]; exact HB0.out.size); rw [← e9, ← D9]; clear e9 D9; have HG := jh (HG.out.later hb); have HK := jn hb HK; have HR := jn hb HR; have HH := jb hb HH; have HO := jn hb HO; have L6 := jh (L6.out.later hb F6.out); have F6 := jl F6 hb.size; have HB0 := jw HB0 hb; have K3 := jh (K3.out.later hb); have K5 := jh (K5.out.later hb); clear hb; refine hK.out _ _ (qf HG.out.2.1 HK.out HR.out) (fun hHeld => ?_); clear hK K
  try simp only [Act.put, pa, pb, pc]
 rotate_right
 focus
  go_simp
  obtain ⟨w4, e9⟩ := je (w3.alloc (.cells #[.slice (some a3) 32 c3, .slice (some a5) 32 c5, .slice (some ⟨HB, 0, none⟩) 32 32] 30)); obtain ⟨PB, VI⟩ := je (w3.heap.size); have hb := jc e9; have P0 := jh (show w4.cell? ⟨PB, 0, none⟩ = some (.slice (some a3) 32 c3) by rw [e9, VI, cell_of_row _ _ _ _ _ _ (heap_alloc_new _ _)]; rfl); have P1 := jh (show w4.cell? ⟨PB, 1, none⟩ = some (.slice (some a5) 32 c5) by rw [e9, VI, cell_of_row _ _ _ _ _ _ (heap_alloc_new _ _)]; rfl); have P2 := jh (show w4.cell? ⟨PB, 2, none⟩ = some (.slice (some ⟨HB, 0, none⟩) 32 32) by rw [e9, VI, cell_of_row _ _ _ _ _ _ (heap_alloc_new _ _)]; rfl); rw [← e9, ← VI]; clear e9 VI; have HG := jh (HG.out.later hb); have HK := jn hb HK; have HR := jn hb HR; have HH := jb hb HH; have HO := jn hb HO; have L6 := jh (L6.out.later hb F6.out); have F6 := jl F6 hb.size; have HB0 := jw HB0 hb; have K3 := jh (K3.out.later hb); have K5 := jh (K5.out.later hb); clear hb; refine hK.out _ _ (qf HG.out.2.1 HK.out HR.out) (fun hHeld => ?_); clear hK K
  try simp only [Act.put, pa, pb, pc]
 focus
  refine WT.fork rfl rfl (fun K hK => ?_) (fun K hK => ?_)
 rotate_left
 focus
  go_simp
  obtain ⟨w5, e9⟩ := je (w4.alloc (.cells jA 24)); obtain ⟨VV, D9⟩ := je (w4.heap.size); have hb := jc e9; have HV := jh (show U0 w5 VV 0 by rw [e9, D9]; exact jP _ _); have Y8 := jh (show Y0 w5 VV 4 by rw [e9, D9]; exact Y0.new _ _ _ _); have HNG := jh (show GB ≠ VV by have := HG.out.lt; omega); have HNK := jh (show KB ≠ VV by have := U0.lt HK.out; omega); have HNR := jh (show RB ≠ VV by have := U0.lt HR.out; omega); have RF := jh (show OO ≠ VV by have := F6.out; omega); have HVW := jh (show w.heap.size ≤ VV by rw [D9]; exact HB0.out.size); rw [← e9, ← D9]; clear e9 D9; have HG := jh (HG.out.later hb); have HK := jn hb HK; have HR := jn hb HR; have HH := jb hb HH; have HO := jn hb HO; have L6 := jh (L6.out.later hb F6.out); have F6 := jl F6 hb.size; have HB0 := jw HB0 hb; have K3 := jh (K3.out.later hb); have K5 := jh (K5.out.later hb); have P0 := jh (jm P0.out hb); have P1 := jh (jm P1.out hb); have P2 := jh (jm P2.out hb); clear hb; refine hK.out _ _ (qf HG.out.2.1 HK.out HR.out) (fun hHeld => ?_); clear hK K
  try simp only [Act.put, pa, pb, pc]
 rotate_right
 focus
  go_simp
  refine (CN.out _ PB _ (iF P0.out P1.out P2.out K3.out K5.out (Jh HH.out HL.out))).mono ?_; rintro _ w5 ⟨rfl, hb⟩; have HG := jh (HG.out.later hb); have HK := jn hb HK; have HR := jn hb HR; have HH := jb hb HH; have HO := jn hb HO; have L6 := jh (L6.out.later hb F6.out); have F6 := jl F6 hb.size; have HB0 := jw HB0 hb; have K3 := jh (K3.out.later hb); have K5 := jh (K5.out.later hb); have P0 := jh (jm P0.out hb); have P1 := jh (jm P1.out hb); have P2 := jh (jm P2.out hb); clear hb; refine hK.out _ _ (qf HG.out.2.1 HK.out HR.out) (fun hHeld => ?_); clear hK K
  try simp only [Act.put, pa, pb, pc]
 focus
  refine WT.tk rfl (k := ?_); refine WT.tk rfl (k := ?_); refine WT.tk rfl (k := ?_); refine WT.step rfl (fun K hK => ?_)
  go_simp
  obtain ⟨w6, e9⟩ := je (w5.alloc (.cells jA 24)); obtain ⟨VV, D9⟩ := je (w5.heap.size); have hb := jc e9; have HV := jh (show U0 w6 VV 0 by rw [e9, D9]; exact jP _ _); have Y8 := jh (show Y0 w6 VV 4 by rw [e9, D9]; exact Y0.new _ _ _ _); have HNG := jh (show GB ≠ VV by have := HG.out.lt; omega); have HNK := jh (show KB ≠ VV by have := U0.lt HK.out; omega); have HNR := jh (show RB ≠ VV by have := U0.lt HR.out; omega); have RF := jh (show OO ≠ VV by have := F6.out; omega); have HVW := jh (show w.heap.size ≤ VV by rw [D9]; exact HB0.out.size); rw [← e9, ← D9]; clear e9 D9; have HG := jh (HG.out.later hb); have HK := jn hb HK; have HR := jn hb HR; have HH := jb hb HH; have HO := jn hb HO; have L6 := jh (L6.out.later hb F6.out); have F6 := jl F6 hb.size; have HB0 := jw HB0 hb; have K3 := jh (K3.out.later hb); have K5 := jh (K5.out.later hb); have P0 := jh (jm P0.out hb); have P1 := jh (jm P1.out hb); have P2 := jh (jm P2.out hb); clear hb; refine hK.out _ _ (qf HG.out.2.1 HK.out HR.out) (fun hHeld => ?_); clear hK K
  try simp only [Act.put, pa, pb, pc]
 rotate_right
 focus
  refine WT.step rfl (fun K hK => ?_)
  go_simp
  refine (JD key _).mono ?_; rintro _ w3 ⟨a3, c3, rfl, hk9, hb⟩; have HG := jh (HG.out.later hb); have HK := jn hb HK; have HR := jn hb HR; have HH := jb hb HH; have HO := jn hb HO; have L6 := jh (L6.out.later hb F6.out); have F6 := jl F6 hb.size; have HB0 := jw HB0 hb; have Y8 := jh (Y8.out.later hb (U0.lt HV.out)); have HV := jn hb HV; have K3 := jh hk9; clear hk9 hb; refine hK.out _ _ (qf HG.out.2.1 HK.out HR.out) (fun hHeld => ?_); clear hK K
  try simp only [Act.put, pa, pb, pc]
 rotate_left
 rotate_right 2
 iterate 2
  focus
   refine WT.step rfl (fun K hK => ?_)
   go_simp
   refine (JD r _).mono ?_; rintro _ w4 ⟨a5, c5, rfl, hk9, hb⟩; have HG := jh (HG.out.later hb); have HK := jn hb HK; have HR := jn hb HR; have HH := jb hb HH; have HO := jn hb HO; have L6 := jh (L6.out.later hb F6.out); have F6 := jl F6 hb.size; have HB0 := jw HB0 hb; have K3 := jh (K3.out.later hb); have Y8 := jh (Y8.out.later hb (U0.lt HV.out)); have HV := jn hb HV; have K5 := jh hk9; clear hk9 hb; refine hK.out _ _ (qf HG.out.2.1 HK.out HR.out) (fun hHeld => ?_); clear hK K
   try simp only [Act.put, pa, pb, pc]
  rotate_left
 rotate_right 3
 iterate 3
  focus
   refine WT.step rfl (fun K hK => ?_)
   go_simp
   obtain ⟨w5, e9⟩ := je (w4.alloc (.cells #[.slice (some a3) 32 c3, .slice (some a5) 32 c5, .slice (some ⟨HB, 0, none⟩) 32 32] 30)); obtain ⟨PB, VI⟩ := je (w4.heap.size); have hb := jc e9; have P0 := jh (show w5.cell? ⟨PB, 0, none⟩ = some (.slice (some a3) 32 c3) by rw [e9, VI, cell_of_row _ _ _ _ _ _ (heap_alloc_new _ _)]; rfl); have P1 := jh (show w5.cell? ⟨PB, 1, none⟩ = some (.slice (some a5) 32 c5) by rw [e9, VI, cell_of_row _ _ _ _ _ _ (heap_alloc_new _ _)]; rfl); have P2 := jh (show w5.cell? ⟨PB, 2, none⟩ = some (.slice (some ⟨HB, 0, none⟩) 32 32) by rw [e9, VI, cell_of_row _ _ _ _ _ _ (heap_alloc_new _ _)]; rfl); rw [← e9, ← VI]; clear e9 VI; have HG := jh (HG.out.later hb); have HK := jn hb HK; have HR := jn hb HR; have HH := jb hb HH; have HO := jn hb HO; have L6 := jh (L6.out.later hb F6.out); have F6 := jl F6 hb.size; have HB0 := jw HB0 hb; have K3 := jh (K3.out.later hb); have K5 := jh (K5.out.later hb); have Y8 := jh (Y8.out.later hb (U0.lt HV.out)); have HV := jn hb HV; clear hb; refine hK.out _ _ (qf HG.out.2.1 HK.out HR.out) (fun hHeld => ?_); clear hK K
   try simp only [Act.put, pa, pb, pc]
  rotate_left
 rotate_right 4
 iterate 4
  focus
   refine WT.step rfl (fun K hK => ?_)
   go_simp
   refine (CN.out _ PB _ (iF P0.out P1.out P2.out K3.out K5.out (Jh HH.out HL.out))).mono ?_; rintro _ w6 ⟨rfl, hb⟩; have HG := jh (HG.out.later hb); have HK := jn hb HK; have HR := jn hb HR; have HH := jb hb HH; have HO := jn hb HO; have L6 := jh (L6.out.later hb F6.out); have F6 := jl F6 hb.size; have HB0 := jw HB0 hb; have K3 := jh (K3.out.later hb); have K5 := jh (K5.out.later hb); have P0 := jh (jm P0.out hb); have P1 := jh (jm P1.out hb); have P2 := jh (jm P2.out hb); have Y8 := jh (Y8.out.later hb (U0.lt HV.out)); have HV := jn hb HV; clear hb; refine hK.out _ _ (qf HG.out.2.1 HK.out HR.out) (fun hHeld => ?_); clear hK K
   try simp only [Act.put, pa, pb, pc]
   refine WT.tk rfl (k := ?_); refine WT.tk rfl (k := ?_); refine WT.tk rfl (k := ?_)
  rotate_left
 all_goals (
  refine WT.step rfl (fun K hK => ?_); obtain ⟨c0, c1, c2, c3, f0, f1, f2, f3⟩ := jL HV.out Y8.out
  go_simp
  have HGS := jh (jx (jx (jx (jx (World.grownBy.refl w6 (some VV)) 0 (.int .u64 (jf jd q 0))) 1 (.int .u64 (jf jd q 1))) 2 (.int .u64 (jf jd q 2))) 3 (.int .u64 (jf jd q 3))); have HQ := jh (show X6 _ GB 4 gq from fun j hj => HGS.out.cell (HG.out.2.1 j hj) (fun e => HNG.out (by injection e))); have HK := jh (U0.other4 HK.out HNK.out (.int .u64 (jf jd q 0)) (.int .u64 (jf jd q 1)) (.int .u64 (jf jd q 2)) (.int .u64 (jf jd q 3))); have HR := jh (U0.other4 HR.out HNR.out (.int .u64 (jf jd q 0)) (.int .u64 (jf jd q 1)) (.int .u64 (jf jd q 2)) (.int .u64 (jf jd q 3))); have HO := jh (U0.other4 HO.out RF.out (.int .u64 (jf jd q 0)) (.int .u64 (jf jd q 1)) (.int .u64 (jf jd q 2)) (.int .u64 (jf jd q 3))); have L6 := jh (Y0.set4 L6.out ⟨VV, 0, none⟩ ⟨VV, 1, none⟩ ⟨VV, 2, none⟩ ⟨VV, 3, none⟩ (.int .u64 (jf jd q 0)) (.int .u64 (jf jd q 1)) (.int .u64 (jf jd q 2)) (.int .u64 (jf jd q 3))); have HV := jh (U0.set4 HV.out q); have HB0 := jh (jK HB0.out HVW.out (.int .u64 (jf jd q 0)) (.int .u64 (jf jd q 1)) (.int .u64 (jf jd q 2)) (.int .u64 (jf jd q 3))); refine hK.out _ _ (qf HQ.out HK.out HR.out) (fun hHeld => ?_); clear hK K
  try simp only [Act.put, pa, pb, pc]
  refine WT.tk rfl (k := ?_); refine WT.done ?_; clear hHeld c0 c1 c2 c3 f0 f1 f2 f3; obtain ⟨r0, r1, r2, r3⟩ := jz HV.out; obtain ⟨c0, c1, c2, c3, f0, f1, f2, f3⟩ := jL HO.out L6.out
  go_wp2_with fail
  obtain ⟨g0, g1, g2, g3⟩ := jz (U0.set4 HO.out q); have E8 := jh (jK HB0.out HOW.out (.int .u64 (jf jd q 0)) (.int .u64 (jf jd q 1)) (.int .u64 (jf jd q 2)) (.int .u64 (jf jd q 3))); refine bodyPost_ret (v := .agg #[.int .u64 (jf jd q 0), .int .u64 (jf jd q 1), .int .u64 (jf jd q 2), .int .u64 (jf jd q 3)]) ?_ rfl ⟨rfl, E8.out⟩
  simp [results, Tryz.results114, go_sem, g0, g1, g2, g3])
theorem fO {s : ByteArray} {m n cap : Nat} {a : Option Addr} (hm : m = 0) (w : World) :
  Calls Tryz.prog 33 #[jj m, .string s, .slice a n cap] w fun e w' => e = .returned (.tuple #[jj 0, .int .i64 1]) ∧ Below w.heap.size w w' := by
 have heq : ∀ W : World, (binOp .eql 24 (.agg #[.int .u64 (jf jd m 0), .int .u64 (jf jd m 1), .int .u64 (jf jd m 2), .int .u64 (jf jd m 3)]) (.agg #[.int .u64 0, .int .u64 0, .int .u64 0, .int .u64 0])).run Tryz.prog W = .ok (.bool true) W := fun W => by have h9 := zp m 0 (show m < jo by rw [hm]; decide) (by decide) W; rewrite [decide_eq_true hm] at h9; simp only [jI] at h9; exact h9
 clear hm; unfold jj words
 go_enter Tryz.func33, Tryz.ntmps33
 go_upto_region 1 with fail
 obtain ⟨wz, MB, RR, e9, J5, h_1, Y6, HRR, HF, B, V8, LC, Y9, D6, U1⟩ := box1r w 24 m; rw [e9, J5, h_1]; clear e9 J5 h_1; obtain ⟨G7, X7, V7, U7⟩ := jz Y6.out; obtain ⟨c0, c1, c2, c3, f0, f1, f2, f3⟩ := jL HRR.out HF.out
 go_wp2_with fail
 have B9 := jh (jK B.out D6 (.int .u64 0) (.int .u64 0) (.int .u64 0) (.int .u64 0)); refine bodyPost_ret (v := .tuple #[.agg #[.int .u64 0, .int .u64 0, .int .u64 0, .int .u64 0], .int .i64 1]) ?_ rfl ⟨by simp only [jI]; rfl, B9.out⟩
 simp [results, Tryz.results33, go_sem, c0, c1, c2, c3, jI]
theorem nY {gp gq gg gh n cap x : Nat} {fa se : Int} {ao : Option Addr} (h : x < 1) (hx : x < 256) (hn : n ≤ 1000) (w : World) :
  Calls Tryz.prog 29 #[qU gp gq gg gh fa se (.slice ao n cap), .int .u8 x] w fun e w' => e = .returned (.bool false) ∧ Below w.heap.size w w' := by
 have h1I : (x : Int) < 1 := by omega
 have hxI : IntKind.i64.wrap (x : Int) = (x : Int) := zj (by omega); unfold qU
 go_enter Tryz.func29, Tryz.ntmps29
 go_upto_region 1 with fail
 obtain ⟨w0, e0⟩ := je (w.alloc (.cells #[.int .u64 (jf jd gp 0), .int .u64 (jf jd gp 1), .int .u64 (jf jd gp 2), .int .u64 (jf jd gp 3), .int .u64 (jf jd gq 0), .int .u64 (jf jd gq 1), .int .u64 (jf jd gq 2), .int .u64 (jf jd gq 3), .int .u64 (jf jd gg 0), .int .u64 (jf jd gg 1), .int .u64 (jf jd gg 2), .int .u64 (jf jd gg 3), .int .u64 (jf jd gh 0), .int .u64 (jf jd gh 1), .int .u64 (jf jd gh 2), .int .u64 (jf jd gh 3), .int .i64 fa, .int .i64 se, .slice ao n cap] 29)); obtain ⟨SB, L9⟩ := je (w.heap.size); have hb := jc e0; have HS := jh (show UA w0 SB gp gq gg gh fa se (.slice ao n cap) by rw [e0, L9]; exact UA.new _ _ _ _ _ _ _ _ _); have HB := jh hb; rw [← e0, ← L9]; clear e0 L9; clear hb; have GY := HS.out.nd
 go_wp2_with fail
 go_ret
 exact ⟨rfl, HB.out⟩
theorem rU {gp gq gg gh n cap x : Nat} {fa se : Int} {ao : Option Addr} (h1 : ¬ x < 1) (h : n < x) (hx : x < 256) (hn : n ≤ 1000) (w : World) :
  Calls Tryz.prog 29 #[qU gp gq gg gh fa se (.slice ao n cap), .int .u8 x] w fun e w' => e = .returned (.bool false) ∧ Below w.heap.size w w' := by
 have h1I : (1 : Int) ≤ (x : Int) := by omega
 have hI : ¬ (x : Int) ≤ (n : Int) := by omega
 have hxI : IntKind.i64.wrap (x : Int) = (x : Int) := zj (by omega); unfold qU
 go_enter Tryz.func29, Tryz.ntmps29
 go_upto_region 1 with fail
 obtain ⟨w0, e0⟩ := je (w.alloc (.cells #[.int .u64 (jf jd gp 0), .int .u64 (jf jd gp 1), .int .u64 (jf jd gp 2), .int .u64 (jf jd gp 3), .int .u64 (jf jd gq 0), .int .u64 (jf jd gq 1), .int .u64 (jf jd gq 2), .int .u64 (jf jd gq 3), .int .u64 (jf jd gg 0), .int .u64 (jf jd gg 1), .int .u64 (jf jd gg 2), .int .u64 (jf jd gg 3), .int .u64 (jf jd gh 0), .int .u64 (jf jd gh 1), .int .u64 (jf jd gh 2), .int .u64 (jf jd gh 3), .int .i64 fa, .int .i64 se, .slice ao n cap] 29)); obtain ⟨SB, L9⟩ := je (w.heap.size); have hb := jc e0; have HS := jh (show UA w0 SB gp gq gg gh fa se (.slice ao n cap) by rw [e0, L9]; exact UA.new _ _ _ _ _ _ _ _ _); have HB := jh hb; rw [← e0, ← L9]; clear e0 L9; clear hb; have GY := HS.out.nd
 go_wp2_with fail
 go_ret
 exact ⟨rfl, HB.out⟩
theorem RNode_in {gp gq gg gh n cap x : Nat} {fa se : Int} {ao : Option Addr} (h1 : ¬ x < 1) (h : ¬ n < x) (hx : x < 256) (hn : n ≤ 1000) (w : World) :
  Calls Tryz.prog 29 #[qU gp gq gg gh fa se (.slice ao n cap), .int .u8 x] w fun e w' => e = .returned (.bool true) ∧ Below w.heap.size w w' := by
 have h1I : (1 : Int) ≤ (x : Int) := by omega
 have hI : (x : Int) ≤ (n : Int) := by omega
 have hxI : IntKind.i64.wrap (x : Int) = (x : Int) := zj (by omega); unfold qU
 go_enter Tryz.func29, Tryz.ntmps29
 go_upto_region 1 with fail
 obtain ⟨w0, e0⟩ := je (w.alloc (.cells #[.int .u64 (jf jd gp 0), .int .u64 (jf jd gp 1), .int .u64 (jf jd gp 2), .int .u64 (jf jd gp 3), .int .u64 (jf jd gq 0), .int .u64 (jf jd gq 1), .int .u64 (jf jd gq 2), .int .u64 (jf jd gq 3), .int .u64 (jf jd gg 0), .int .u64 (jf jd gg 1), .int .u64 (jf jd gg 2), .int .u64 (jf jd gg 3), .int .u64 (jf jd gh 0), .int .u64 (jf jd gh 1), .int .u64 (jf jd gh 2), .int .u64 (jf jd gh 3), .int .i64 fa, .int .i64 se, .slice ao n cap] 29)); obtain ⟨SB, L9⟩ := je (w.heap.size); have hb := jc e0; have HS := jh (show UA w0 SB gp gq gg gh fa se (.slice ao n cap) by rw [e0, L9]; exact UA.new _ _ _ _ _ _ _ _ _); have HB := jh hb; rw [← e0, ← L9]; clear e0 L9; clear hb; have GY := HS.out.nd
 go_wp2_with fail
 go_ret
 exact ⟨rfl, HB.out⟩
theorem iM {gp gq gg gh n cap x : Nat} {fa se : Int} {ao : Option Addr} (hx : x < 256) (hn : n ≤ 1000) (w : World) :
  Calls Tryz.prog 29 #[qU gp gq gg gh fa se (.slice ao n cap), .int .u8 x] w fun e w' => e = .returned (.bool (decide (1 ≤ x ∧ x ≤ n))) ∧ Below w.heap.size w w' := by
 by_cases h1 : x < 1
 ·rw [decide_eq_false (by omega)]; exact nY h1 hx hn w
 ·by_cases h : n < x
  ·rw [decide_eq_false (by omega)]; exact rU h1 h hx hn w
  ·rw [decide_eq_true (by omega)]; exact RNode_in h1 h hx hn w
theorem BG {fr tt c s : Nat} {bv : Value} {b : List Nat} (hfr : fr < 256) (hto : tt < 256) (w : World) (hb : J6 .u8 w bv b) (hby : jM b) (hl : b.length ≤ 70000) :
  Calls Tryz.prog 16 #[zy fr tt bv c s] w fun e w' => e = .returned (.agg (jp .u8 (Jt fr tt b)).toArray) ∧ Below w.heap.size w w' := by
 obtain ⟨ab, cb, hbv⟩ : ∃ a c, bv = .slice a b.length c := by obtain ⟨a, c, h, _⟩ := hb; exact ⟨a, c, h⟩
 subst hbv; obtain ⟨m, hmm⟩ := je (b.length); rw [← hmm] at hb ⊢; have CO := jh (fun (W : World) (B : Nat) (vs : List Value) (hP : Parts W B 0 vs [[fr], [tt], b]) => PQ (s := ⟨#[102, 114, 97, 109, 101]⟩) (cap := 3) (n := 3) W hP rfl (by intro l TD; simp only [List.mem_cons, List.not_mem_nil, or_false] at TD; rcases TD with rfl | rfl | rfl; (intro x hx; rw [List.mem_singleton.1 hx]; exact hfr); (intro x hx; rw [List.mem_singleton.1 hx]; exact hto); exact hby) (by unfold jU; simp [qn, jW, qo, ByteArray.size]; omega)); obtain ⟨D, hD⟩ := je (Jt fr tt b); have HDL := jh (show D.length = 32 by rw [hD]; exact zS _ _ _); rw [← hD]; have CO := jh (fun W B vs hP => by have h9 := CO.out W B vs hP; rewrite [show qE (jU (qB ⟨#[102, 114, 97, 109, 101]⟩) [[fr], [tt], b]) = D from hD.symm] at h9; exact h9); have KB9 := jh hb; clear hb hD hby hfr hto hmm hl; unfold zy
 go_enter Tryz.func16, Tryz.ntmps16
 go_upto_region 1 with fail
 obtain ⟨A8, e0⟩ := je (w.alloc (.cells #[.int .u8 fr, .int .u8 tt, .slice ab m cb, .int .u64 (jf jd c 0), .int .u64 (jf jd c 1), .int .u64 (jf jd c 2), .int .u64 (jf jd c 3), .int .u64 (jf jd s 0), .int .u64 (jf jd s 1), .int .u64 (jf jd s 2), .int .u64 (jf jd s 3)] 41)); obtain ⟨w0, e1⟩ := je (A8.alloc (.cells jC 32)); have s0 : A8.heap.size = w.heap.size + 1 := by rw [e0]; simp
 have b0 := jc e0; have b1 := jc e1; have f0 : Z7 A8 w.heap.size fr tt (.slice ab m cb) c s := by rw [e0]; exact Z7.new _ _ _ _ _ _ _
 rw [← e0, ← e1, ← s0]; obtain ⟨FB, hFB⟩ := je (w.heap.size); obtain ⟨R, hR⟩ := je (A8.heap.size); rw [← hFB] at f0; rw [← hR, ← hFB]; have HF := jh (f0.later b1); have SF := jh (show Sf w R w0 from ⟨by rw [e1]; exact O9.zero A8 32 _ rfl _ _ hR, by rw [e1, hR]; exact Y0.new _ _ _ _, jk b0 b1, by rw [e1, hR]; simp, by omega⟩); have KB9 := jh (KB9.out.later (jk b0 b1)); clear e0 e1 s0 b0 b1 f0 hFB hR; have y0 := HF.out.fr; have y1 := fun (o1 : Obj) => jm HF.out.tt ((Below.refl w0.heap.size w0).alloc (Nat.le_refl _) o1)
 have y2 := fun (o1 o2 : Obj) => jm HF.out.bv (JL w0 o1 o2)
 go_wp2_with fail
 clear y0 y1 y2; obtain ⟨wA, eA⟩ := je (w0.alloc (.cells #[.int .u8 fr] 5)); obtain ⟨wB, eB⟩ := je (wA.alloc (.cells #[.int .u8 tt] 5)); have sA : wA.heap.size = w0.heap.size + 1 := by rw [eA]; simp
 have sB : wB.heap.size = w0.heap.size + 1 + 1 := by rw [eB]; simp [sA]
 have bA := jc eA; have bB := jc eB; rw [← eA, ← eB]; obtain ⟨wC, eC⟩ := je (wB.alloc (.cells #[.slice (some ⟨w0.heap.size, 0, none⟩) 1 1, .slice (some ⟨w0.heap.size + 1, 0, none⟩) 1 1, .slice ab m cb] 30)); have bC := jc eC; rw [← eC, ← sB]; have k0 := (((PD (w := wA) (b := w0.heap.size) (x := fr) (by rw [eA, cell_of_row _ _ _ _ _ _ (heap_alloc_new _ _)]; rfl)).later bB).later bC); have k1 := ((PD (w := wB) (b := w0.heap.size + 1) (x := tt) (by rw [← sA, eB, cell_of_row _ _ _ _ _ _ (heap_alloc_new _ _)]; rfl)).later bC); have k2 := ((KB9.out.later bA).later bB).later bC; have rC : wC.heap[wB.heap.size]? = some (.cells #[.slice (some ⟨w0.heap.size, 0, none⟩) 1 1, .slice (some ⟨w0.heap.size + 1, 0, none⟩) 1 1, .slice ab m cb] 30 (0, 0)) := by rw [eC]; exact heap_alloc_new _ _
 have hP := iF (by rw [cell_of_row _ _ _ _ _ _ rC]; rfl) (by rw [cell_of_row _ _ _ _ _ _ rC]; rfl) (by rw [cell_of_row _ _ _ _ _ _ rC]; rfl) k0 k1 k2; have SF := jh (((SF.out.later bA).later bB).later bC); clear eA eB eC sA bA bB bC k0 k1 k2 rC; refine (CO.out _ _ _ hP).mono ?_; rintro _ w2 ⟨rfl, hb⟩; clear hP; have SF := jh (SF.out.later hb); have TH := jh (EF SF.out.c SF.out.f); obtain ⟨cs, hcs⟩ := je (jp .u8 D); have HC := jh hcs; have U5 : Hid (cs.length = 32) := jh (by rw [hcs, jt, HDL.out]); have HCO : Hid (∀ v ∈ cs, v.oneCell' = true) := jh (by rw [hcs]; exact zI _ _); rw [← hcs]; clear hcs hb sB
 go_wp2_with (refine wpList_store_mid rfl 32 _ _ rfl R 0 cs.toArray rfl rfl (by have := TH.out; simpa [U5.out] using this) (by rw [List.size_toArray, U5.out]; kernel_rfl) (all_oneCell_toArray HCO.out) ?_)
 refine bodyPost_ret (v := .agg cs.toArray) (JZ _ _ R _ Tryz.results16 rfl (run_loadVar_mid _ _ _ _ cs _ (World.rangeAt_setCells_same _ _ _ _ (by have := TH.out; simpa [U5.out] using this)) Tryz.underlying32 rfl (by rw [U5.out]; kernel_rfl))) rfl ⟨by rw [HC.out], ?_⟩; exact zi _ _ _ SF.out.below SF.out.le
end Go.Proofs.YtmijablfjigbhaaGreatDoor
