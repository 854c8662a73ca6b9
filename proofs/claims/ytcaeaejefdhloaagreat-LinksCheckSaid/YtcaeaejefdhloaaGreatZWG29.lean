/- Layer 4 (mods) -/
import Derived.Test.YtcaeaejefdhloaaGreatZWG26
import Derived.Test.YtcaeaejefdhloaaGreatZWG27
import Derived.Test.YtcaeaejefdhloaaGreatZWG28
import Derived.Test.YtcaeaejefdhloaaGreatZWG14
import Derived.StillTailTactics
set_option linter.unusedSimpArgs false
set_option linter.unusedVariables false
set_option maxHeartbeats 8000000
set_option maxRecDepth 100000
namespace Go.Proofs.YtcaeaejefdhloaaGreat
open Go.ChangeShapes Go.WideShapes Go.ChangeAt Go.RowKit
attribute [local go_sem] Oper.semAt_some
theorem backward_any (a : Option Addr) (n c : Nat) (w : World) :
  Calls Tryz.prog 123 #[.slice a n c] w fun e w' => e = .returned (.func (.func 138) #[] #[.pointer (some ⟨w.heap.size, 0, none⟩)]) ∧ w' = w.alloc (.cells #[.slice a n c] 108) := by
 go_enter Tryz.func123, Tryz.ntmps123
 go_wp2
 go_ret
 exact ⟨rfl, rfl⟩
def calmQ (Q : Exit → Act → World → Prop) : Exit → Act → World → Prop
 | .panic _, _, _ => False
 | e, a, w => Q e a w
theorem wpIn_calm {n : Nat} {c : Code} {Q : Exit → Act → World → Prop} {a : Act} {w : World} (h : c.wp Tryz.prog (calmQ Q) a w) : c.wpIn Fence.wide n Tryz.prog Q a w := by
 refine wpIn_mono (wpIn_wide.2 h) ?_; rintro e a w hq
 cases e <;> first | exact hq | exact hq.elim
def qY (x : Nat) : List Nat := [jf jd x 0, jf jd x 1, jf jd x 2, jf jd x 3]
theorem NumAt.words {w : World} {b x : Nat} (h : NumAt w b x) : KAt .u64 w (.slice (some ⟨b, 0, none⟩) 4 4) (qY x) := by
 refine ⟨_, 4, rfl, by simp [qY], by decide, (fun h => by cases h), fun _ => ⟨b, 0, rfl, fun i y hy => ?_⟩⟩; rw [Nat.zero_add]
 have : i < 4 := by
  rcases Nat.lt_or_ge i 4 with h | h
  ·exact h
  ·rw [List.getElem?_eq_none (by simpa [qY] using h)] at hy; cases hy
 have h9 := h i this
 rcases (show i = 0 ∨ i = 1 ∨ i = 2 ∨ i = 3 by omega) with rfl | rfl | rfl | rfl <;> (simp [qY] at hy; subst hy; exact h9)
def Own64 (w : World) (R : Nat) (v : Value) (l : List Nat) : Prop := KAt .u64 w v l ∧ ∀ g, v.ownBlock = some g → R < g ∧ g < w.heap.size
structure LeftAt (w w5 : World) (RR MM m r : Nat) (W : World) : Prop where
 r : NumAt W RR r
 f : FreeN W RR 4
 m : NumAt W MM m
 b : Below w.heap.size w W
 s : w5.heap.size ≤ W.heap.size
 rl : RR < W.heap.size
theorem LeftAt.start {w w5 W : World} {RR MM m : Nat} (hr : NumAt w5 RR 0) (hf : FreeN w5 RR 4) (hm : NumAt w5 MM m) (hb : Below w.heap.size w w5) (hR : RR < w5.heap.size) (h : Below w5.heap.size w5 W) : LeftAt w w5 RR MM m 0 W :=
 ⟨NumAt.later h hr, hf.later h hR, NumAt.later h hm, jk hb h, h.size, Nat.lt_of_lt_of_le hR h.size⟩
theorem LeftAt.putObj {w w5 W : World} {RR MM m r l : Nat} {o : Obj} (h : LeftAt w w5 RR MM m r W) (hl : w5.heap.size ≤ l) (hR : RR < w5.heap.size) (hM : MM < w5.heap.size) (hw : w.heap.size ≤ w5.heap.size) : LeftAt w w5 RR MM m r (W.putObj l o) := by
 have hk : ∀ g, g < w5.heap.size → (W.putObj l o).heap[g]? = W.heap[g]? := fun g hg => World.putObj_heap_other (by omega)
 refine ⟨fun j hj => (World.cell?_of_block (a := ⟨RR, j, none⟩) (hk RR hR)).trans (h.r j hj), fun j hj => (World.frozen?_of_block (a := ⟨RR, j, none⟩) (hk RR hR)).trans (h.f j hj), fun j hj => (World.cell?_of_block (a := ⟨MM, j, none⟩) (hk MM hM)).trans (h.m j hj), ?_, by simpa using h.s, by simpa using h.rl⟩; exact ⟨h.b.os, h.b.tape, h.b.output, by simpa using h.b.size, fun g hg => (hk g (by have := hw; omega)).trans (h.b.block g hg)⟩
def JC (m : Nat) (L : List Nat) (k : Nat) : Nat := (L.drop k).foldr (fun d r => (r * jd + d) % m) 0
theorem leftN_end (m : Nat) (L : List Nat) : JC m L L.length = 0 := by unfold JC; simp
theorem leftN_step (m : Nat) (L : List Nat) (k : Nat) (h : k < L.length) : JC m L k = (JC m L (k + 1) * jd + L.getD k 0) % m := by
 unfold JC; rw [List.drop_eq_getElem_cons h, List.foldr_cons, List.getD_eq_getElem?_getD, List.getElem?_eq_getElem h]
 rfl
theorem leftN_lt {m : Nat} (hm : 0 < m) (L : List Nat) (k : Nat) : JC m L k < m := by
 rcases Nat.lt_or_ge k L.length with h | h
 ·rw [leftN_step m L k h]; exact Nat.mod_lt _ hm
 ·unfold JC; rw [List.drop_eq_nil_of_le h]; exact hm
def valN (L : List Nat) : Nat := L.foldr (fun d r => r * jd + d) 0
theorem foldr_mod (m : Nat) (L : List Nat) : L.foldr (fun d r => (r * jd + d) % m) 0 = valN L % m := by
 induction L with
 | nil => simp [valN]
 | cons a L ih => 
  rw [List.foldr_cons, ih]; unfold valN; rw [List.foldr_cons, Nat.add_mod, Nat.mul_mod, Nat.mod_mod, ← Nat.mul_mod, ← Nat.add_mod]
theorem leftN_zero (m : Nat) (L : List Nat) : JC m L 0 = valN L % m := by unfold JC; rw [List.drop_zero]; exact foldr_mod m L
theorem digits4 {x : Nat} (h : x < jj) : jf jd x 0 + jd * (jf jd x 1 + jd * (jf jd x 2 + jd * jf jd x 3)) = x := by
 unfold jf jj at *; unfold jd at *; omega
theorem valN_two {lo hi : Nat} (hlo : lo < jj) (hhi : hi < jj) : valN (qY lo ++ qY hi) = hi * jj + lo := by
 have h1 := digits4 hlo; have h2 := digits4 hhi; simp only [valN, qY, List.cons_append, List.nil_append, List.foldr_cons, List.foldr_nil]; obtain ⟨a0, e0⟩ := je (jf jd lo 0); obtain ⟨a1, e1⟩ := je (jf jd lo 1); obtain ⟨a2, e2⟩ := je (jf jd lo 2); obtain ⟨a3, e3⟩ := je (jf jd lo 3); obtain ⟨b0, f0⟩ := je (jf jd hi 0); obtain ⟨b1, f1⟩ := je (jf jd hi 1); obtain ⟨b2, f2⟩ := je (jf jd hi 2); obtain ⟨b3, f3⟩ := je (jf jd hi 3); rw [← e0, ← e1, ← e2, ← e3] at h1 ⊢; rw [← f0, ← f1, ← f2, ← f3] at h2 ⊢; clear e0 e1 e2 e3 f0 f1 f2 f3 hlo hhi; unfold jj; unfold jd at *; omega
theorem qf {x : Nat} (h : x < jd) : jf jd x 0 = x ∧ jf jd x 1 = 0 ∧ jf jd x 2 = 0 ∧ jf jd x 3 = 0 := by
 unfold jf; unfold jd at *; omega
theorem words_lt (x : Nat) : ∀ y ∈ qY x, y < jd := by
 intro y hy; simp only [qY, List.mem_cons, List.not_mem_nil, or_false] at hy
 rcases hy with rfl | rfl | rfl | rfl <;> (unfold jf; exact Nat.mod_lt _ (by unfold jd; omega))
theorem wide_short {lo hi m : Nat} (hlo : lo < jj) (hhi : hi < jj) (hm0 : 0 < m) (hml : m < jd) (w : World) : Calls Tryz.prog 86 #[ji lo, ji hi, ji m] w fun e w' => e = .returned (.tuple #[ji ((hi * jj + lo) % m), .int .i64 0]) ∧ Below w.heap.size w w' := by
 have hm : m < jj := by unfold jj; unfold jd at hml; omega
 have HLO := jh hlo; have HHI := jh hhi; have HMM := jh hm; have HM0 := jh hm0; have HML := jh hml; have hz := fun w => eq_zero m hm w
 rw [decide_eq_false (show ¬ m = 0 by omega)] at hz; have CS := jh (fun w => by have h := short_any hm w; rw [decide_eq_true hml] at h; exact h); obtain ⟨Q9, hQ9⟩ := je ((hi * jj + lo) % m); rw [← hQ9]; have HQ9 := jh hQ9; clear hQ9 hlo hhi hm hml hm0; unfold ji words at *; refine (callsIn_wide (n := 9)).1 ?_; refine callsIn_of_wp_marks Tryz.func86 rfl trivial ?_ rfl; simp only [Tryz.ntmps86, List.size_toArray, List.length_cons, List.length_nil, Nat.reduceAdd, Nat.reduceSub, Array.replicate_succ, Array.replicate_zero, List.push_toArray, List.append_toArray, List.nil_append, List.cons_append]
 gi_wp2_with fail
 obtain ⟨wa, ea⟩ := je (w.alloc (.cells #[.int .u64 (jf jd lo 0), .int .u64 (jf jd lo 1), .int .u64 (jf jd lo 2), .int .u64 (jf jd lo 3)] 24)); obtain ⟨wb, eb⟩ := je (wa.alloc (.cells #[.int .u64 (jf jd hi 0), .int .u64 (jf jd hi 1), .int .u64 (jf jd hi 2), .int .u64 (jf jd hi 3)] 24)); obtain ⟨wc, ec⟩ := je (wb.alloc (.cells #[.int .u64 (jf jd m 0), .int .u64 (jf jd m 1), .int .u64 (jf jd m 2), .int .u64 (jf jd m 3)] 24)); obtain ⟨wd, ed⟩ := je (wc.alloc (.cells #[.int .u64 0, .int .u64 0, .int .u64 0, .int .u64 0] 24)); have sa : wa.heap.size = w.heap.size + 1 := by rw [ea]; simp
 have sb : wb.heap.size = w.heap.size + 1 + 1 := by rw [eb]; simp [sa]
 have sc : wc.heap.size = w.heap.size + 1 + 1 + 1 := by rw [ec]; simp [sb]
 have sd : wd.heap.size = w.heap.size + 1 + 1 + 1 + 1 := by rw [ed]; simp [sc]
 have ba := jc ea; have bb := jc eb; have bc := jc ec; have bd := jc ed; have na : NumAt wa w.heap.size lo := by rw [ea]; exact NumAt.new w lo _ _ rfl
 have nb : NumAt wb (w.heap.size + 1) hi := by rw [eb]; exact NumAt.new wa hi _ _ sa.symm
 have nc : NumAt wc (w.heap.size + 1 + 1) m := by rw [ec]; exact NumAt.new wb m _ _ sb.symm
 have nd : NumAt wd (w.heap.size + 1 + 1 + 1) 0 := by rw [ed, ← sc]; exact jz wc _
 have fd : FreeN wd (w.heap.size + 1 + 1 + 1) 4 := by rw [ed]; exact FreeN.made wc _ _ 4 _ sc.symm
 rw [← ea, ← eb, ← ec, ← ed]; obtain ⟨LL, hL⟩ := je (w.heap.size); obtain ⟨HH, hH⟩ := je (LL + 1); obtain ⟨MM, hM⟩ := je (HH + 1); obtain ⟨RR, hR⟩ := je (MM + 1); have hwL : w.heap.size ≤ LL := by omega
 have hRd : RR < wd.heap.size := by omega
 rw [← hL] at na nb nc nd fd ⊢; rw [← hH] at nb nc nd fd ⊢; rw [← hM] at nc nd fd ⊢; rw [← hR] at nd fd ⊢; have hLH : LL < HH := by omega
 have hHM : HH < MM := by omega
 have hMR : MM < RR := by omega
 have HA := jh (NumAt.later bd (NumAt.later bc (NumAt.later bb na))); have HB := jh (NumAt.later bd (NumAt.later bc nb)); have HC := jh (NumAt.later bd nc); have HR := jh nd; have HF := jh fd; have B := jh (((ba.trans (bb.mono (by omega))).trans (bc.mono (by omega))).trans (bd.mono (by omega))); clear ea eb ec ed sa sb sc sd ba bb bc bd na nb nc nd fd hL hH hM hR; refine ⟨trivial, (callsIn_wide.2 (CS.out wd)).mono ?_⟩; rintro _ w2 ⟨rfl, hb⟩; have hR2 : RR < w2.heap.size := Nat.lt_of_lt_of_le hRd hb.size; have HF := jh (HF.out.later hb hRd); have HA := jn hb HA; have HB := jn hb HB; have HC := jn hb HC; have HR := jn hb HR; have B := jw B hb; clear hb hRd; have hRd := hR2; clear hR2
 gi_wp2_with fail
 refine wpIn_calm ?_; refine qX [(0, true), (1, true), (2, false), (3, false), (4, true)] (fun _ => True) (by kernel_rfl) (by kernel_rfl) (fun _ _ _ _ _ h => h) (trivial) (fun hHeld => ?_)
 iterate 2
  refine WP.tk rfl (k := ?_)
 refine WP.step rfl (fun K hK => ?_)
 go_simp
 refine hK.out _ _ (trivial) (fun hHeld => ?_); clear hK K
 try simp only [Act.put, pa, pb, pc]
 refine WP.step rfl (fun K hK => ?_)
 go_simp
 obtain ⟨w3, e3⟩ := je ((w2.alloc (.cells #[.slice (some ⟨LL, 0, none⟩) 4 4, .slice (some ⟨HH, 0, none⟩) 4 4] 108)).drew); have hb : Below w2.heap.size w2 w3 := by rw [e3]; exact ((Below.refl _ w2).alloc (Nat.le_refl _) _).drew
 obtain ⟨GG, hG⟩ := je (w2.heap.size)
 have hpp : PartsL w3 GG 0 [.slice (some ⟨LL, 0, none⟩) 4 4, .slice (some ⟨HH, 0, none⟩) 4 4] [qY lo, qY hi] := by
  refine ⟨rfl, fun i hi9 => ?_⟩; have hc0 : w3.cell? ⟨GG, 0, none⟩ = some (.slice (some ⟨LL, 0, none⟩) 4 4) := by rw [e3, hG]; simp
  have hc1 : w3.cell? ⟨GG, 1, none⟩ = some (.slice (some ⟨HH, 0, none⟩) 4 4) := by rw [e3, hG]; simp
  rcases (show i = 0 ∨ i = 1 by simp at hi9; omega) with rfl | rfl
  ·exact ⟨_, _, rfl, rfl, hc0, (NumAt.later hb HA.out).words⟩
  ·exact ⟨_, _, rfl, rfl, hc1, (NumAt.later hb HB.out).words⟩
 rw [← e3, ← hG]; clear e3 hG; have hR2 : RR < w3.heap.size := Nat.lt_of_lt_of_le hRd hb.size; have HF := jh (HF.out.later hb hRd); have HA := jn hb HA; have HB := jn hb HB; have HC := jn hb HC; have HR := jn hb HR; have B := jw B hb; clear hb hRd; have hRd := hR2; clear hR2; refine (Concat64_any w3 hpp (by simp) (by decide) (by simp [qY])).mono ?_; rintro _ w4 ⟨v4, rfl, ho, hb⟩; clear hpp; have HO4 := jh (show Own64 w4 RR v4 (qY lo ++ qY hi) from ⟨ho.at_, fun g hg => by have := (OwnV.lt ho g hg); omega⟩); clear ho; have hR2 : RR < w4.heap.size := Nat.lt_of_lt_of_le hRd hb.size; have HF := jh (HF.out.later hb hRd); have HA := jn hb HA; have HB := jn hb HB; have HC := jn hb HC; have HR := jn hb HR; have B := jw B hb; clear hb hRd; have hRd := hR2; clear hR2; dsimp only; refine hK.out _ _ (trivial) (fun hHeld => ?_); clear hK K
 try simp only [Act.put, pa, pb, pc]
 refine WP.tk rfl (k := ?_); refine WP.done ?_; dsimp only [calmQ]
 gi_wp2_with fail
 obtain ⟨L, hL⟩ := je (qY lo ++ qY hi); rw [← hL] at HO4; have HL := jh hL; have hL8 : L.length = 8 := by rw [hL]; simp [qY]
 have HLW := jh (show ∀ y ∈ L, y < jd from fun y hy => by rw [hL, List.mem_append] at hy; rcases hy with h | h <;> exact words_lt _ _ h); clear hL; obtain ⟨⟨ao, cap, rfl, hkk⟩, hown⟩ := HO4.out; have K4 : KAt .u64 w4 (.slice ao L.length cap) L := ⟨ao, cap, rfl, hkk⟩; clear hkk; have HOWN := jh hown; clear hown HO4; refine ⟨trivial, (callsIn_wide.2 (backward_any ao L.length cap w4)).mono ?_⟩; rintro _ w5 ⟨rfl, e5⟩; obtain ⟨Bn, hBn⟩ := je (w4.heap.size); have hb := jc e5; have PB : w5.heap[Bn]? = some (.cells #[.slice ao L.length cap] 108 (0, 0)) := by rw [e5, hBn]; exact heap_alloc_new w4 _
 have hs5 : w5.heap.size = Bn + 1 := by rw [e5, hBn]; simp
 rw [← hBn]; have K5 := K4.later hb; have hRB : RR < Bn := by rw [hBn]; exact hRd
 have HOWN := jh (show ∀ g, (Value.slice ao L.length cap).ownBlock = some g → g < w5.heap.size ∧ g ≠ RR from fun g hg => by have := HOWN.out g hg; omega); have hR2 : RR < w5.heap.size := Nat.lt_of_lt_of_le hRd hb.size; have HF := jh (HF.out.later hb hRd); have HA := jn hb HA; have HB := jn hb HB; have HC := jn hb HC; have HR := jn hb HR; have B := jw B hb; clear hb hRd; have hRd := hR2; clear hR2; have HPB := jh PB; have HK5 := jh K5; have hwR : w.heap.size ≤ RR := by omega
 have hRM : MM ≠ RR := by omega
 clear e5 PB K4 K5
 gi_wp2_with fail
 refine' range_down (by omega) (itf := 138) (caps := #[.pointer (some ⟨Bn, 0, none⟩)]) (encs := fun i => #[.int .i64 i, .int .u64 (L.getD i 0)]) (by go_simp) ?hent (fun g => g < w5.heap.size ∧ g ≠ RR) (fun k hk => hk.1) L.length (fun i => rfl) (fun k W => LeftAt w w5 RR MM m (JC m L k) W) ?hI ?h0 ?hit _ ?hassign ?hbody ?hdone
 case hent => intro args W; simp [go_sem]
 case hI => intro k A l o o9 hl ho hn h; exact h.putObj hl hRd (by omega) (by omega)
 case h0 => intro o1 o2; rw [leftN_end]; exact LeftAt.start HR.out HF.out HC.out B.out hRd (((Below.refl _ w5).alloc (Nat.le_refl _) _).alloc (by simp) _)
 case hit =>
  intro l J W hY hb hJ; exact backward_in _ (by omega) l Bn (fun g => g < w5.heap.size ∧ g ≠ RR) ⟨by omega, by omega⟩ L _ J W (by omega) (heap_of hb HPB.out) (HK5.out.later hb) HOWN.out hY hJ
 case hassign =>
  intro l i W K hK
  gi_wp2_with fail
  exact hK
 case hbody =>
  intro l i W hiL h; have HM := jh h; obtain ⟨r, hr⟩ := je (JC m L (i + 1)); obtain ⟨d, hd⟩ := je (L.getD i 0); have hrm : r < m := by rw [hr]; exact leftN_lt HM0.out L _
  have hdw : d < jd := by rw [hd, List.getD_eq_getElem?_getD, List.getElem?_eq_getElem hiL]; exact HLW.out _ (List.getElem_mem hiL)
  have hst := leftN_step m L i hiL; rw [← hr, ← hd] at hst; have HST := jh hst; rw [← hr] at HM; rw [List.getD_eq_getElem?_getD] at hd; clear hst hr h; have hrw : r < jd := Nat.lt_trans hrm HML.out; obtain ⟨r0, r1, r2, r3⟩ := jy HM.out.r; obtain ⟨m0, m1, m2, m3⟩ := jy HM.out.m; obtain ⟨dr0, dr1, dr2, dr3⟩ := qf hrw; obtain ⟨dm0, _, _, _⟩ := qf HML.out; have ff := HM.out.f 0 (by omega); rw [dr0] at r0; rw [dm0] at m0; rw [← hd]; clear hd
  gi_wp2_with fail
  refine ⟨trivial, CallsIn.inRound l ((callsIn_wide.2 (JQ r d m hdw HML.out hrm W)).mono ?_)⟩; rintro _ w6 ⟨rfl, hb⟩; have HB6 := jh hb; have ff6 := (hb.frozen (p := ⟨RR, 0, none⟩) HM.out.rl).trans ff; have c6 := (hb.cell (p := ⟨RR, 0, none⟩) HM.out.rl).trans r0; clear hb r0 r1 r2 r3 m0 m1 m2 m3
  gi_wp2_with fail
  have ev : ((r : Int) * (jd : Nat) + d) % m = ((JC m L i : Nat) : Int) := by rw [HST.out]; simp
  rw [ev]; have hlt2 : JC m L i < jd := Nat.lt_trans (leftN_lt HM0.out L i) HML.out; obtain ⟨r2, hr2⟩ := je (JC m L i); rw [← hr2] at hlt2 ⊢; clear ev c6 ff6 HST hr2; obtain ⟨we, ewe⟩ := je (w6.setCell ⟨RR, 0, none⟩ (.int .u64 (r2 : Nat))); rw [← ewe]; have hsm : ∀ g, g ≠ RR → we.heap[g]? = w6.heap[g]? := fun g h1 => by rw [ewe]; exact Below.heap_setCell _ _ _ _ h1
  have hss : we.heap.size = w6.heap.size := by rw [ewe]; simp
  have hos : we.os = w6.os ∧ we.tape = w6.tape ∧ we.output = w6.output := by rw [ewe]; exact ⟨rfl, rfl, rfl⟩
  have s6 := HB6.out.size; refine ⟨⟨by omega, fun k o hk ho _ => ?_⟩, ⟨hos.1.trans HB6.out.os, hos.2.1.trans HB6.out.tape, hos.2.2.trans HB6.out.output, by omega, fun g hg => (hsm g hg.2).trans (HB6.out.block g (by have := HM.out.s; omega))⟩, ⟨?_, ?_, ?_, ?_, by have := HM.out.s; omega, by have := HM.out.rl; omega⟩⟩
  ·exact (hsm k (by omega)).trans ((HB6.out.block k (qG ho)).trans ho)
  ·rw [ewe]; refine WAt.congr (WAt.set (NumAt.later HB6.out HM.out.r) 0 r2) ?_; obtain ⟨e0, e1, e2, e3⟩ := qf hlt2; intro j hj
   rcases (show j = 0 ∨ j = 1 ∨ j = 2 ∨ j = 3 by omega) with rfl | rfl | rfl | rfl <;> simp [e0, e1, e2, e3, dr1, dr2, dr3]
  ·rw [ewe]; exact FreeN.set (HM.out.f.later HB6.out HM.out.rl) _ _
  ·exact fun j hj => (World.cell?_of_block (a := ⟨MM, j, none⟩) (hsm MM hRM)).trans (NumAt.later HB6.out HM.out.m j hj)
  ·exact ⟨hos.1.trans (HB6.out.os.trans HM.out.b.os), hos.2.1.trans (HB6.out.tape.trans HM.out.b.tape), hos.2.2.trans (HB6.out.output.trans HM.out.b.output), by have := HM.out.b.size; omega, fun g hg => (hsm g (by omega)).trans ((HB6.out.block g (by have := HM.out.b.size; omega)).trans (HM.out.b.block g hg))⟩
 case hdone =>
  intro D W hD h hDf; rw [leftN_zero, HL.out, valN_two HLO.out HHI.out, ← HQ9.out] at h; have HM := jh h; obtain ⟨g0, g1, g2, g3, f0, f1, f2, f3⟩ := jC h.r h.f; clear h; have HDF := jh hDf; clear hDf
  gi_wp2_with fail
  obtain ⟨we, ewe⟩ := je (((((W.setCell ⟨RR, 0, none⟩ (.int .u64 (jf jd Q9 0))).setCell ⟨RR, 1, none⟩ (.int .u64 (jf jd Q9 1))).setCell ⟨RR, 2, none⟩ (.int .u64 (jf jd Q9 2))).setCell ⟨RR, 3, none⟩ (.int .u64 (jf jd Q9 3)))); have HRL : NumAt we RR Q9 := by rw [ewe]; exact NumAt.set4 HM.out.r Q9
  have B9 : Below w.heap.size w we := by rw [ewe]; exact jp HM.out.b hwR _ _ _ _
  have hDR : D ≠ RR := by omega
  have x9 : we.heap[D]? = some (.deferred (some [])) := by rw [ewe, Below.heap_setCell _ _ _ _ hDR, Below.heap_setCell _ _ _ _ hDR, Below.heap_setCell _ _ _ _ hDR, Below.heap_setCell _ _ _ _ hDR]; exact HDF.out
  rw [← ewe]; clear ewe; obtain ⟨wf, ewf⟩ := je (we.putObj D (.deferred none)); have hsf : ∀ g, g ≠ D → wf.heap[g]? = we.heap[g]? := fun g h1 => by rw [ewf]; exact World.putObj_heap_other (by omega)
  have HF9 : NumAt wf RR Q9 := fun j hj => (World.cell?_of_block (a := ⟨RR, j, none⟩) (hsf RR hDR.symm)).trans (HRL j hj)
  clear g0 g1 g2 g3; obtain ⟨g0, g1, g2, g3⟩ := jy HF9; refine ⟨by simp, .inl ⟨D, wf, rfl, by rw [ewf]; exact run_takeDeferred x9, ?_⟩⟩; refine ⟨.tuple #[.agg #[.int .u64 (jf jd Q9 0), .int .u64 (jf jd Q9 1), .int .u64 (jf jd Q9 2), .int .u64 (jf jd Q9 3)], .int .i64 0], by simp [results, Tryz.results86, go_sem, g0, g1, g2, g3], rfl, ?_⟩; exact ⟨by rw [ewf]; exact B9.os, by rw [ewf]; exact B9.tape, by rw [ewf]; exact B9.output, by rw [ewf]; simpa using B9.size, fun g hg => (hsf g (by omega)).trans (B9.block g hg)⟩
theorem Wide_any {lo hi m : Nat} (hlo : lo < jj) (hhi : hi < jj) (hm : m < jj) (hm0 : 0 < m) (w : World) : Calls Tryz.prog 86 #[ji lo, ji hi, ji m] w fun e w' => e = .returned (.tuple #[ji ((hi * jj + lo) % m), .int .i64 0]) ∧ Below w.heap.size w w' := by
 rcases Nat.lt_or_ge m jd with h | h
 ·exact wide_short hlo hhi hm0 h w
 ·exact wide_long hlo hhi hm h w
theorem word_any {a b m : Nat} (ha : a < jd) (hb : b < jd) (hm : m < jd) (hab : a * b < m * jd) (w : World) :
  Calls Tryz.prog 113 #[.int .u64 a, .int .u64 b, .int .u64 m] w fun e w' => e = .returned (.int .u64 ((a * b % m : Nat) : Int)) ∧ Below w.heap.size w w' := by
 obtain ⟨h, hh⟩ := je (a * b / 18446744073709551616); obtain ⟨l, hl⟩ := je (a * b % 18446744073709551616); have CM := jh (fun w => by have h9 := Tryz.bits_Mul64 a b ha hb w; rw [← hh, ← hl] at h9; exact h9); have hl9 : l < jd := by rw [hl]; exact Nat.mod_lt _ (by omega)
 have hh9 : h < m := by
  rw [hh]; refine (Nat.div_lt_iff_lt_mul (by omega)).2 ?_; exact hab
 have CD := jh (fun w => JQ h l m hl9 hm hh9 w)
 have hv : h * jd + l = a * b := by
  rw [hh, hl, Nat.mul_comm]; exact Nat.div_add_mod _ _
 rw [hv] at CD; clear hh hl hl9 hh9 hv ha hb hm hab
 go_enter Tryz.func113, Tryz.ntmps113
 go_wp2_with fail
 refine (CM.out _).mono ?_; rintro _ w1 ⟨rfl, rfl⟩
 go_wp2_with fail
 refine (CD.out _).mono ?_; rintro _ w2 ⟨rfl, hb⟩
 go_wp2_with fail
 refine bodyPost_ret (v := .int .u64 ((a * b % m : Nat) : Int)) ?_ rfl ⟨rfl, hb⟩
 simp [results, Tryz.results113, go_sem]
theorem times_short {a b m : Nat} (ha : a < m) (hb9 : b < m) (hml : m < jd) (w : World) : Calls Tryz.prog 83 #[ji a, ji b, ji m] w fun e w' => e = .returned (ji (a * b % m)) ∧ Below w.heap.size w w' := by
 obtain ⟨q, hq⟩ := je (a * b % m); rw [← hq]; have hm0 : 0 < m := by omega
 have hm : m < jj := by unfold jj; unfold jd at hml; omega
 obtain ⟨n, hn⟩ := je (jP m); have CB := jh (fun w => by have h := Jr hm w; rw [← hn] at h; unfold ji words at h; exact h); have hnI : (n : Int) ≤ 64 := by have := bits_short.2 hml; omega
 have hqw : q < jd := by rw [hq]; exact Nat.lt_trans (Nat.mod_lt _ hm0) hml
 have CW := jh (fun w => by have h := word_any (Nat.lt_trans ha hml) (Nat.lt_trans hb9 hml) hml (Nat.lt_of_lt_of_le (Nat.mul_lt_mul_of_lt_of_lt ha (Nat.lt_trans hb9 hml)) (Nat.le_refl _)) w; rw [← hq] at h; exact h); have CO := jh (fun w => by have h := of_any q hqw w; unfold ji words at h; exact h); have da := jh (qf (Nat.lt_trans ha hml)).1; have db := jh (qf (Nat.lt_trans hb9 hml)).1; have dm := jh (qf hml).1; clear hq hn hml hm0 hm ha hb9 hqw; unfold ji words
 go_enter Tryz.func83, Tryz.ntmps83
 go_wp2_with fail
 obtain ⟨w_0, e_0⟩ := je (w.alloc (.cells #[.int .u64 (jf jd a 0), .int .u64 (jf jd a 1), .int .u64 (jf jd a 2), .int .u64 (jf jd a 3)] 24)); have s_0 : w_0.heap.size = w.heap.size + 1 := by rw [e_0]; simp
 have b_0 := jc e_0; have n_0 : NumAt w_0 (w.heap.size) a := by rw [e_0]; exact NumAt.new w a _ _ rfl
 obtain ⟨w_1, e_1⟩ := je (w_0.alloc (.cells #[.int .u64 (jf jd b 0), .int .u64 (jf jd b 1), .int .u64 (jf jd b 2), .int .u64 (jf jd b 3)] 24)); have s_1 : w_1.heap.size = w.heap.size + 1 + 1 := by rw [e_1]; simp [s_0]
 have b_1 := jc e_1; have n_1 : NumAt w_1 (w.heap.size + 1) b := by rw [e_1]; exact NumAt.new w_0 b _ _ s_0.symm
 obtain ⟨w_2, e_2⟩ := je (w_1.alloc (.cells #[.int .u64 (jf jd m 0), .int .u64 (jf jd m 1), .int .u64 (jf jd m 2), .int .u64 (jf jd m 3)] 24)); have s_2 : w_2.heap.size = w.heap.size + 1 + 1 + 1 := by rw [e_2]; simp [s_1]
 have b_2 := jc e_2; have n_2 : NumAt w_2 (w.heap.size + 1 + 1) m := by rw [e_2]; exact NumAt.new w_1 m _ _ s_1.symm
 obtain ⟨wz, e_3⟩ := je (w_2.alloc (.cells #[.int .u64 0, .int .u64 0, .int .u64 0, .int .u64 0] 24)); have s_3 : wz.heap.size = w.heap.size + 1 + 1 + 1 + 1 := by rw [e_3]; simp [s_2]
 have b_3 := jc e_3; have n_3 : NumAt wz (w.heap.size + 1 + 1 + 1) 0 := by rw [e_3, ← s_2]; exact jz w_2 _
 have f_3 : FreeN wz (w.heap.size + 1 + 1 + 1) 4 := by rw [e_3]; exact FreeN.made w_2 _ _ 4 _ s_2.symm
 rw [← e_0, ← e_1, ← e_2, ← e_3]; obtain ⟨AA, h_0⟩ := je (w.heap.size); obtain ⟨BB, h_1⟩ := je (AA + 1); obtain ⟨MM, h_2⟩ := je (BB + 1); obtain ⟨RR, h_3⟩ := je (MM + 1); have hwL : w.heap.size ≤ AA := by omega
 have hRd : RR < wz.heap.size := by omega
 rw [← h_0] at n_0 n_1 n_2 n_3 f_3 ⊢; rw [← h_1] at n_1 n_2 n_3 f_3 ⊢; rw [← h_2] at n_2 n_3 f_3 ⊢; rw [← h_3] at n_3 f_3 ⊢; have l_1 : AA < BB := by omega
 have l_2 : BB < MM := by omega
 have l_3 : MM < RR := by omega
 have HAA := jh (NumAt.later b_3 (NumAt.later b_2 (NumAt.later b_1 n_0))); have HBB := jh (NumAt.later b_3 (NumAt.later b_2 n_1)); have HMM := jh (NumAt.later b_3 n_2); have HRR := jh n_3; have HF := jh f_3; have B := jh (((b_0.trans (b_1.mono (by omega))).trans (b_2.mono (by omega))).trans (b_3.mono (by omega))); have hwRR : w.heap.size ≤ RR := by omega
 have HSZ := jh (show wz.heap.size = RR + 1 by omega); clear e_0 s_0 b_0 n_0 h_0 e_1 s_1 b_1 n_1 h_1 e_2 s_2 b_2 n_2 h_2 e_3 s_3 b_3 n_3 h_3 f_3; refine (CB.out _).mono ?_; rintro _ w1 ⟨rfl, hb⟩; have HAA := jn hb HAA; have HBB := jn hb HBB; have HMM := jn hb HMM; have HRR := jn hb HRR; have HF := jh (HF.out.later hb hRd); have hRd := Nat.lt_of_lt_of_le hRd hb.size; have B := jw B hb; clear hb; obtain ⟨r_AA_0, r_AA_1, r_AA_2, r_AA_3⟩ := jy HAA.out; obtain ⟨r_BB_0, r_BB_1, r_BB_2, r_BB_3⟩ := jy HBB.out; obtain ⟨r_MM_0, r_MM_1, r_MM_2, r_MM_3⟩ := jy HMM.out; rw [da.out] at r_AA_0; rw [db.out] at r_BB_0; rw [dm.out] at r_MM_0
 go_wp2_with fail
 refine (CW.out _).mono ?_; rintro _ w2 ⟨rfl, hb⟩; have HAA := jn hb HAA; have HBB := jn hb HBB; have HMM := jn hb HMM; have HRR := jn hb HRR; have HF := jh (HF.out.later hb hRd); have hRd := Nat.lt_of_lt_of_le hRd hb.size; have B := jw B hb; clear hb; clear r_AA_0 r_AA_1 r_AA_2 r_AA_3 r_BB_0 r_BB_1 r_BB_2 r_BB_3 r_MM_0 r_MM_1 r_MM_2 r_MM_3
 go_wp2_with fail
 refine (CO.out _).mono ?_; rintro _ w3 ⟨rfl, hb⟩; have HAA := jn hb HAA; have HBB := jn hb HBB; have HMM := jn hb HMM; have HRR := jn hb HRR; have HF := jh (HF.out.later hb hRd); have hRd := Nat.lt_of_lt_of_le hRd hb.size; have B := jw B hb; clear hb; obtain ⟨c0, c1, c2, c3, f0, f1, f2, f3⟩ := jC HRR.out HF.out
 go_wp2_with fail
 have HRL := jh (NumAt.set4 HRR.out q); have B9 := jh (jp B.out hwRR (.int .u64 (jf jd q 0)) (.int .u64 (jf jd q 1)) (.int .u64 (jf jd q 2)) (.int .u64 (jf jd q 3))); obtain ⟨g0, g1, g2, g3⟩ := jy HRL.out; refine bodyPost_ret (v := .agg #[.int .u64 (jf jd q 0), .int .u64 (jf jd q 1), .int .u64 (jf jd q 2), .int .u64 (jf jd q 3)]) ?_ rfl ⟨rfl, B9.out⟩
 simp [results, Tryz.results83, go_sem, g0, g1, g2, g3]
theorem times_long {a b m : Nat} (ha : a < m) (hb9 : b < m) (hml : jd ≤ m) (hm : m < jj) (w : World) : Calls Tryz.prog 83 #[ji a, ji b, ji m] w fun e w' => e = .returned (ji (a * b % m)) ∧ Below w.heap.size w w' := by
 obtain ⟨q, hq⟩ := je (a * b % m); rw [← hq]; have hm0 : 0 < m := by omega
 obtain ⟨n, hn⟩ := je (jP m); have CB := jh (fun w => by have h := Jr hm w; rw [← hn] at h; unfold ji words at h; exact h); have hnI : ¬ (n : Int) ≤ 64 := by have := mt bits_short.1 (show ¬ m < jd by omega); omega
 have ha9 := Nat.lt_trans ha hm; have hb8 := Nat.lt_trans hb9 hm; obtain ⟨x, hx⟩ := je (mulL a b); obtain ⟨y, hy⟩ := je (ZU a b); have CM := jh (fun w => by have h := mul_any ha9 hb8 w; rw [← hx, ← hy] at h; unfold ji words at h; exact h); have hxy : y * jj + x = a * b := by rw [hx, hy]; unfold mulL ZU; rw [Nat.mul_comm]; exact Nat.div_add_mod _ _
 have CW := jh (fun w => by have h := Wide_any (lo := x) (hi := y) (by rw [hx]; exact mulL_lt _ _) (by rw [hy]; exact mulH_lt ha9 hb8) hm hm0 w; rw [hxy, ← hq] at h; unfold ji words at h; exact h); clear hq hn hml hm0 hm ha hb9 ha9 hb8 hx hy hxy; unfold ji words
 go_enter Tryz.func83, Tryz.ntmps83
 go_wp2_with fail
 obtain ⟨w_0, e_0⟩ := je (w.alloc (.cells #[.int .u64 (jf jd a 0), .int .u64 (jf jd a 1), .int .u64 (jf jd a 2), .int .u64 (jf jd a 3)] 24)); have s_0 : w_0.heap.size = w.heap.size + 1 := by rw [e_0]; simp
 have b_0 := jc e_0; have n_0 : NumAt w_0 (w.heap.size) a := by rw [e_0]; exact NumAt.new w a _ _ rfl
 obtain ⟨w_1, e_1⟩ := je (w_0.alloc (.cells #[.int .u64 (jf jd b 0), .int .u64 (jf jd b 1), .int .u64 (jf jd b 2), .int .u64 (jf jd b 3)] 24)); have s_1 : w_1.heap.size = w.heap.size + 1 + 1 := by rw [e_1]; simp [s_0]
 have b_1 := jc e_1; have n_1 : NumAt w_1 (w.heap.size + 1) b := by rw [e_1]; exact NumAt.new w_0 b _ _ s_0.symm
 obtain ⟨w_2, e_2⟩ := je (w_1.alloc (.cells #[.int .u64 (jf jd m 0), .int .u64 (jf jd m 1), .int .u64 (jf jd m 2), .int .u64 (jf jd m 3)] 24)); have s_2 : w_2.heap.size = w.heap.size + 1 + 1 + 1 := by rw [e_2]; simp [s_1]
 have b_2 := jc e_2; have n_2 : NumAt w_2 (w.heap.size + 1 + 1) m := by rw [e_2]; exact NumAt.new w_1 m _ _ s_1.symm
 obtain ⟨wz, e_3⟩ := je (w_2.alloc (.cells #[.int .u64 0, .int .u64 0, .int .u64 0, .int .u64 0] 24)); have s_3 : wz.heap.size = w.heap.size + 1 + 1 + 1 + 1 := by rw [e_3]; simp [s_2]
 have b_3 := jc e_3; have n_3 : NumAt wz (w.heap.size + 1 + 1 + 1) 0 := by rw [e_3, ← s_2]; exact jz w_2 _
 have f_3 : FreeN wz (w.heap.size + 1 + 1 + 1) 4 := by rw [e_3]; exact FreeN.made w_2 _ _ 4 _ s_2.symm
 rw [← e_0, ← e_1, ← e_2, ← e_3]; obtain ⟨AA, h_0⟩ := je (w.heap.size); obtain ⟨BB, h_1⟩ := je (AA + 1); obtain ⟨MM, h_2⟩ := je (BB + 1); obtain ⟨RR, h_3⟩ := je (MM + 1); have hwL : w.heap.size ≤ AA := by omega
 have hRd : RR < wz.heap.size := by omega
 rw [← h_0] at n_0 n_1 n_2 n_3 f_3 ⊢; rw [← h_1] at n_1 n_2 n_3 f_3 ⊢; rw [← h_2] at n_2 n_3 f_3 ⊢; rw [← h_3] at n_3 f_3 ⊢; have l_1 : AA < BB := by omega
 have l_2 : BB < MM := by omega
 have l_3 : MM < RR := by omega
 have HAA := jh (NumAt.later b_3 (NumAt.later b_2 (NumAt.later b_1 n_0))); have HBB := jh (NumAt.later b_3 (NumAt.later b_2 n_1)); have HMM := jh (NumAt.later b_3 n_2); have HRR := jh n_3; have HF := jh f_3; have B := jh (((b_0.trans (b_1.mono (by omega))).trans (b_2.mono (by omega))).trans (b_3.mono (by omega))); have hwRR : w.heap.size ≤ RR := by omega
 have HSZ := jh (show wz.heap.size = RR + 1 by omega); clear e_0 s_0 b_0 n_0 h_0 e_1 s_1 b_1 n_1 h_1 e_2 s_2 b_2 n_2 h_2 e_3 s_3 b_3 n_3 h_3 f_3; refine (CB.out _).mono ?_; rintro _ w1 ⟨rfl, hb⟩; have HAA := jn hb HAA; have HBB := jn hb HBB; have HMM := jn hb HMM; have HRR := jn hb HRR; have HF := jh (HF.out.later hb hRd); have hRd := Nat.lt_of_lt_of_le hRd hb.size; have B := jw B hb; clear hb; obtain ⟨r_AA_0, r_AA_1, r_AA_2, r_AA_3⟩ := jy HAA.out; obtain ⟨r_BB_0, r_BB_1, r_BB_2, r_BB_3⟩ := jy HBB.out; obtain ⟨r_MM_0, r_MM_1, r_MM_2, r_MM_3⟩ := jy HMM.out
 go_wp2_with fail
 refine (CM.out _).mono ?_; rintro _ w2 ⟨rfl, hb⟩; have HAA := jn hb HAA; have HBB := jn hb HBB; have HMM := jn hb HMM; have HRR := jn hb HRR; have HF := jh (HF.out.later hb hRd); have hRd := Nat.lt_of_lt_of_le hRd hb.size; have B := jw B hb; clear hb; clear r_AA_0 r_AA_1 r_AA_2 r_AA_3 r_BB_0 r_BB_1 r_BB_2 r_BB_3 r_MM_0 r_MM_1 r_MM_2 r_MM_3; have q_0 := fun o1 o2 => (NumAt.alloc (NumAt.alloc HMM.out o1) o2) 0 (by omega)
 have q_1 := fun o1 o2 => (NumAt.alloc (NumAt.alloc HMM.out o1) o2) 1 (by omega)
 have q_2 := fun o1 o2 => (NumAt.alloc (NumAt.alloc HMM.out o1) o2) 2 (by omega)
 have q_3 := fun o1 o2 => (NumAt.alloc (NumAt.alloc HMM.out o1) o2) 3 (by omega)
 obtain ⟨ww, eww⟩ := je ((w2.alloc (.cells #[.int .u64 (jf jd x 0), .int .u64 (jf jd x 1), .int .u64 (jf jd x 2), .int .u64 (jf jd x 3)] 24)).alloc (.cells #[.int .u64 (jf jd y 0), .int .u64 (jf jd y 1), .int .u64 (jf jd y 2), .int .u64 (jf jd y 3)] 24)); have hb : Below w2.heap.size w2 ww := by rw [eww]; exact (ja).alloc (by simp) _
 go_wp2_with fail
 rw [← eww]; clear eww q_0 q_1 q_2 q_3; have HAA := jn hb HAA; have HBB := jn hb HBB; have HMM := jn hb HMM; have HRR := jn hb HRR; have HF := jh (HF.out.later hb hRd); have hRd := Nat.lt_of_lt_of_le hRd hb.size; have B := jw B hb; clear hb; refine (CW.out _).mono ?_; rintro _ w3 ⟨rfl, hb⟩; have HAA := jn hb HAA; have HBB := jn hb HBB; have HMM := jn hb HMM; have HRR := jn hb HRR; have HF := jh (HF.out.later hb hRd); have hRd := Nat.lt_of_lt_of_le hRd hb.size; have B := jw B hb; clear hb; obtain ⟨c0, c1, c2, c3, f0, f1, f2, f3⟩ := jC HRR.out HF.out
 go_wp2_with fail
 have HRL := jh (NumAt.set4 HRR.out q); have B9 := jh (jp B.out hwRR (.int .u64 (jf jd q 0)) (.int .u64 (jf jd q 1)) (.int .u64 (jf jd q 2)) (.int .u64 (jf jd q 3))); have hba : ∀ W : World, Below W.heap.size W (W.alloc (.cells #[.int .u64 (jf jd q 0), .int .u64 (jf jd q 1), .int .u64 (jf jd q 2), .int .u64 (jf jd q 3)] 24)) := fun W => ja
 have B9 := jh (jk B9.out (hba _)); have HRL := jh (NumAt.later (hba _) HRL.out); clear hba; obtain ⟨g0, g1, g2, g3⟩ := jy HRL.out; refine bodyPost_ret (v := .agg #[.int .u64 (jf jd q 0), .int .u64 (jf jd q 1), .int .u64 (jf jd q 2), .int .u64 (jf jd q 3)]) ?_ rfl ⟨rfl, B9.out⟩
 simp [results, Tryz.results83, go_sem, g0, g1, g2, g3]
theorem mtimes_any {a b m : Nat} (ha : a < m) (hb : b < m) (hm : m < jj) (w : World) : Calls Tryz.prog 83 #[ji a, ji b, ji m] w fun e w' => e = .returned (ji (a * b % m)) ∧ Below w.heap.size w w' := by
 rcases Nat.lt_or_ge m jd with h | h
 ·exact times_short ha hb h w
 ·exact times_long ha hb h hm w
theorem zM {a b : Nat} (h : a < b) : qw a b = -1 := by unfold qw; rw [if_pos h]
theorem zm {a b : Nat} (h : b < a) : qw a b = 1 := by unfold qw; rw [if_neg (by omega), if_neg (by omega)]
theorem of_may {a b m q : Nat} (ha : a < m) (hb9 : b < m) (h1 : 1 < m) (hm : m < jj) {f : FuncId} {caps : Array Value} (w : World) (hent : ∀ (args : Array Value) (W : World), (callFunc f args).run Tryz.prog W = .ok (.enter f args) W)
  (hdo : ∀ W, Below w.heap.size w W → Calls Tryz.prog f (#[ji a, ji b, ji m] ++ caps) W fun e w' => e = .returned (ji q) ∧ Below W.heap.size W w') :
  Calls Tryz.prog 81 #[.agg #[.func (.func f) #[] caps], ji a, ji b, ji m] w fun e w' => e = .returned (.tuple #[ji q, .int .i64 0]) ∧ Below w.heap.size w w' := by
 have ha8 := Nat.lt_trans ha hm; have hb8 := Nat.lt_trans hb9 hm; have C1 := jh (fun w => by have h := qO 1 1 rfl (by decide) w; unfold ji words at h; exact h); have K1 := jh (fun w => by have h := qt hm (show 1 < jj by decide) w; rw [zm h1] at h; unfold ji words at h; exact h); have K2 := jh (fun w => by have h := qt ha8 hm w; rw [zM ha] at h; unfold ji words at h; exact h); have K3 := jh (fun w => by have h := qt hb8 hm w; rw [zM hb9] at h; unfold ji words at h; exact h); have HE := jh hent; have HD := jh hdo; clear ha hb9 h1 hm ha8 hb8 hent hdo; unfold ji words at *
 go_enter Tryz.func81, Tryz.ntmps81
 go_wp2_with fail
 obtain ⟨w0, e0⟩ := je (w.alloc (.cells #[.func (.func f) #[] caps] 103)); obtain ⟨DD, hDD⟩ := je (w.heap.size); have b0 := jc e0; have s0 : w0.heap.size = w.heap.size + 1 := by rw [e0]; simp
 have d0 : w0.cell? ⟨DD, 0, none⟩ = some (.func (.func f) #[] caps) := by rw [e0, hDD]; simp
 rw [← e0, ← s0, ← hDD]; have HB0 := jh b0; have hD0 : DD < w0.heap.size := by omega
 clear e0 hDD b0 s0; obtain ⟨w_0, e_0⟩ := je (w0.alloc (.cells #[.int .u64 (jf jd a 0), .int .u64 (jf jd a 1), .int .u64 (jf jd a 2), .int .u64 (jf jd a 3)] 24)); have s_0 : w_0.heap.size = w0.heap.size + 1 := by rw [e_0]; simp
 have b_0 := jc e_0; have n_0 : NumAt w_0 (w0.heap.size) a := by rw [e_0]; exact NumAt.new w0 a _ _ rfl
 obtain ⟨w_1, e_1⟩ := je (w_0.alloc (.cells #[.int .u64 (jf jd b 0), .int .u64 (jf jd b 1), .int .u64 (jf jd b 2), .int .u64 (jf jd b 3)] 24)); have s_1 : w_1.heap.size = w0.heap.size + 1 + 1 := by rw [e_1]; simp [s_0]
 have b_1 := jc e_1; have n_1 : NumAt w_1 (w0.heap.size + 1) b := by rw [e_1]; exact NumAt.new w_0 b _ _ s_0.symm
 obtain ⟨w_2, e_2⟩ := je (w_1.alloc (.cells #[.int .u64 (jf jd m 0), .int .u64 (jf jd m 1), .int .u64 (jf jd m 2), .int .u64 (jf jd m 3)] 24)); have s_2 : w_2.heap.size = w0.heap.size + 1 + 1 + 1 := by rw [e_2]; simp [s_1]
 have b_2 := jc e_2; have n_2 : NumAt w_2 (w0.heap.size + 1 + 1) m := by rw [e_2]; exact NumAt.new w_1 m _ _ s_1.symm
 obtain ⟨wz, e_3⟩ := je (w_2.alloc (.cells #[.int .u64 0, .int .u64 0, .int .u64 0, .int .u64 0] 24)); have s_3 : wz.heap.size = w0.heap.size + 1 + 1 + 1 + 1 := by rw [e_3]; simp [s_2]
 have b_3 := jc e_3; have n_3 : NumAt wz (w0.heap.size + 1 + 1 + 1) 0 := by rw [e_3, ← s_2]; exact jz w_2 _
 have f_3 : FreeN wz (w0.heap.size + 1 + 1 + 1) 4 := by rw [e_3]; exact FreeN.made w_2 _ _ 4 _ s_2.symm
 rw [← e_0, ← e_1, ← e_2, ← e_3]; obtain ⟨AA, h_0⟩ := je (w0.heap.size); obtain ⟨BB, h_1⟩ := je (AA + 1); obtain ⟨MM, h_2⟩ := je (BB + 1); obtain ⟨RR, h_3⟩ := je (MM + 1); have hwL : w0.heap.size ≤ AA := by omega
 have hRd : RR < wz.heap.size := by omega
 rw [← h_0] at n_0 n_1 n_2 n_3 f_3 ⊢; rw [← h_1] at n_1 n_2 n_3 f_3 ⊢; rw [← h_2] at n_2 n_3 f_3 ⊢; rw [← h_3] at n_3 f_3 ⊢; have l_1 : AA < BB := by omega
 have l_2 : BB < MM := by omega
 have l_3 : MM < RR := by omega
 have HAA := jh (NumAt.later b_3 (NumAt.later b_2 (NumAt.later b_1 n_0))); have HBB := jh (NumAt.later b_3 (NumAt.later b_2 n_1)); have HMM := jh (NumAt.later b_3 n_2); have HRR := jh n_3; have HF := jh f_3; have B := jh (((b_0.trans (b_1.mono (by omega))).trans (b_2.mono (by omega))).trans (b_3.mono (by omega))); have hwRR : w0.heap.size ≤ RR := by omega
 have HSZ := jh (show wz.heap.size = RR + 1 by omega); clear e_0 s_0 b_0 n_0 h_0 e_1 s_1 b_1 n_1 h_1 e_2 s_2 b_2 n_2 h_2 e_3 s_3 b_3 n_3 h_3 f_3; have D0 := jh ((B.out.cell (p := ⟨DD, 0, none⟩) hD0).trans d0); have hD1 : DD < wz.heap.size := Nat.lt_of_lt_of_le hD0 B.out.size; clear d0; refine jv 16 (fun _ => none) (by kernel_rfl) (by kernel_rfl) (fun _ _ _ _ _ h => h) (fun F hn9 hcl hbl => ?_); have r_AA_0 := jr hbl HAA 0 (by omega); have r_AA_1 := jr hbl HAA 1 (by omega); have r_AA_2 := jr hbl HAA 2 (by omega); have r_AA_3 := jr hbl HAA 3 (by omega); have r_BB_0 := jr hbl HBB 0 (by omega); have r_BB_1 := jr hbl HBB 1 (by omega); have r_BB_2 := jr hbl HBB 2 (by omega); have r_BB_3 := jr hbl HBB 3 (by omega); have r_MM_0 := jr hbl HMM 0 (by omega); have r_MM_1 := jr hbl HMM 1 (by omega); have r_MM_2 := jr hbl HMM 2 (by omega); have r_MM_3 := jr hbl HMM 3 (by omega); have HCL := jh hcl; clear hcl hbl; refine jG 16 0 _ _ (fun _ _ _ => rfl) (by decide) ?_; simp only [List.take_succ_cons, List.take_zero, List.drop_succ_cons, List.drop_zero, Nat.reduceAdd]
 repeat (go_big_quiet_step ((first | (go_at_call 49; with_reducible exact js HCL.out (C1.out _)) | (go_at_call 52; with_reducible exact js HCL.out (K1.out _)) | (go_at_call 52; with_reducible exact js HCL.out (K2.out _)) | (go_at_call 52; with_reducible exact js HCL.out (K3.out _)))))
 refine wpQuiet_nil ?_; refine jI ?_; intro bs w2 hb _ _; clear r_AA_0 r_AA_1 r_AA_2 r_AA_3 r_BB_0 r_BB_1 r_BB_2 r_BB_3 r_MM_0 r_MM_1 r_MM_2 r_MM_3; have D0 := jh ((hb.cell (p := ⟨DD, 0, none⟩) hD1).trans D0.out); have HAA := jn hb HAA; have HBB := jn hb HBB; have HMM := jn hb HMM; have HRR := jn hb HRR; have HF := jh (HF.out.later hb hRd); have hRd := Nat.lt_of_lt_of_le hRd hb.size; have B := jw B hb; clear hb; simp only [qx]; have d0 := D0.out; obtain ⟨r_AA_0, r_AA_1, r_AA_2, r_AA_3⟩ := jy HAA.out; obtain ⟨r_BB_0, r_BB_1, r_BB_2, r_BB_3⟩ := jy HBB.out; obtain ⟨r_MM_0, r_MM_1, r_MM_2, r_MM_3⟩ := jy HMM.out; have he := HE.out
 go_wp2_with fail
 clear r_AA_0 r_AA_1 r_AA_2 r_AA_3 r_BB_0 r_BB_1 r_BB_2 r_BB_3 r_MM_0 r_MM_1 r_MM_2 r_MM_3; refine (HD.out w2 (jk HB0.out B.out)).mono ?_; rintro _ w3 ⟨rfl, hb⟩; clear d0 he; have HAA := jn hb HAA; have HBB := jn hb HBB; have HMM := jn hb HMM; have HRR := jn hb HRR; have HF := jh (HF.out.later hb hRd); have hRd := Nat.lt_of_lt_of_le hRd hb.size; have B := jw B hb; clear hb; obtain ⟨c0, c1, c2, c3, f0, f1, f2, f3⟩ := jC HRR.out HF.out
 go_wp2_with fail
 have HRL := jh (NumAt.set4 HRR.out q); have B9 := jh (jp B.out hwRR (.int .u64 (jf jd q 0)) (.int .u64 (jf jd q 1)) (.int .u64 (jf jd q 2)) (.int .u64 (jf jd q 3))); obtain ⟨g0, g1, g2, g3⟩ := jy HRL.out; refine bodyPost_ret (v := .tuple #[.agg #[.int .u64 (jf jd q 0), .int .u64 (jf jd q 1), .int .u64 (jf jd q 2), .int .u64 (jf jd q 3)], .int .i64 0]) ?_ rfl ⟨rfl, jk HB0.out B9.out⟩
 simp [results, Tryz.results81, go_sem, g0, g1, g2, g3]
theorem pow_start {a n m B : Nat} (hB : n < 2 ^ B) (h1 : 1 < m) : 1 = a ^ (n / 2 ^ (B - 0)) % m := by
 rw [Nat.sub_zero, Nat.div_eq_of_lt hB, Nat.pow_zero, Nat.mod_eq_of_lt h1]
theorem pow_half {n B k : Nat} (hk : k < B) : n / 2 ^ (B - (k + 1)) = 2 * (n / 2 ^ (B - k)) + n / 2 ^ (B - 1 - k) % 2 := by
 obtain ⟨i, hi⟩ := je (B - (k + 1)); rw [show B - k = i + 1 by omega, show B - 1 - k = i by omega, ← hi, Nat.pow_succ, ← Nat.div_div_eq_div_mul]; omega
theorem pow_even {a n m o B k : Nat} (hk : k < B) (h : o = a ^ (n / 2 ^ (B - k)) % m) (hb : n / 2 ^ (B - 1 - k) % 2 = 0) : o * o % m = a ^ (n / 2 ^ (B - (k + 1))) % m := by
 rw [pow_half hk, hb, h, Nat.add_zero, Nat.mul_comm 2, Nat.pow_mul, Nat.pow_two, ← Nat.mul_mod]
theorem pow_odd {a n m o B k : Nat} (hk : k < B) (h : o = a ^ (n / 2 ^ (B - k)) % m) (hb : n / 2 ^ (B - 1 - k) % 2 = 1) : o * o % m * a % m = a ^ (n / 2 ^ (B - (k + 1))) % m := by
 rw [pow_half hk, hb, h, Nat.pow_succ, Nat.mul_comm 2, Nat.pow_mul, Nat.pow_two, ← Nat.mul_mod, Nat.mul_mod (_ % m) a m, Nat.mod_mod, ← Nat.mul_mod]
theorem pow_end {a n m o B : Nat} (h : o = a ^ (n / 2 ^ (B - B)) % m) : o = a ^ n % m := by rw [h, Nat.sub_self, Nat.pow_zero, Nat.div_one]
theorem JD {n : Nat} (hn : n < jj) : jP n ≤ 256 := by
 have h := zo n
 rcases Nat.lt_or_ge 256 (jP n) with h9 | h9
 ·have h0 : n ≠ 0 := by rintro rfl; simp [jP] at h9
  have h8 := h.2 h0; have h7 : 2 ^ 256 ≤ 2 ^ (jP n - 1) := Nat.pow_le_pow_right (by omega) (by omega); rw [← M256_eq] at h7; omega
 ·exact h9
theorem Zo {n j : Nat} (hj : j < 256) : zW n ((j : Nat) : Int) = n / 2 ^ j % 2 := by
 unfold zW; rw [if_neg (by omega), Int.toNat_natCast]
theorem power_num {a n m : Nat} (ha : a < m) (h1 : 1 < m) (hm : m < jj) (hn : n < jj) {f : FuncId} {caps : Array Value} (w : World) (hent : ∀ (args : Array Value) (W : World), (callFunc f args).run Tryz.prog W = .ok (.enter f args) W)
  (ht : ∀ x y W, x < m → y < m → Below w.heap.size w W → Calls Tryz.prog f (#[ji x, ji y] ++ caps) W fun e w' => e = .returned (ji (x * y % m)) ∧ Below W.heap.size W w') :
  Calls Tryz.prog 114 #[ji a, ji 1, ji n, .func (.func f) #[] caps] w fun e w' => e = .returned (ji (a ^ n % m)) ∧ Below w.heap.size w w' := by
 obtain ⟨L, hL⟩ := je (jP n); have hL2 : L ≤ 256 := by rw [hL]; exact JD hn
 have hLn : n < 2 ^ L := by rw [hL]; exact (zo n).1
 have CB := jh (fun w => by have h := Jr hn w; rw [← hL] at h; unfold ji words at h; exact h); have HE := jh hent; have HT := jh ht; have HAM := jh ha; have HN9 := jh hn; have HM1 := jh h1; have HLn := jh hLn; obtain ⟨Q, hQ⟩ := je (a ^ n % m); rw [← hQ]; have HQ := jh hQ; clear hL hLn hQ ha hn hent ht; unfold ji words at *
 go_enter Tryz.func114, Tryz.ntmps114
 go_wp2_with fail
 obtain ⟨w_0, e_0⟩ := je (w.alloc (.cells #[.int .u64 (jf jd a 0), .int .u64 (jf jd a 1), .int .u64 (jf jd a 2), .int .u64 (jf jd a 3)] 24)); have s_0 : w_0.heap.size = w.heap.size + 1 := by rw [e_0]; simp
 have b_0 := jc e_0; have n_0 : NumAt w_0 (w.heap.size) a := by rw [e_0]; exact NumAt.new w a _ _ rfl
 obtain ⟨w_1, e_1⟩ := je (w_0.alloc (.cells #[.int .u64 (jf jd 1 0), .int .u64 (jf jd 1 1), .int .u64 (jf jd 1 2), .int .u64 (jf jd 1 3)] 24)); have s_1 : w_1.heap.size = w.heap.size + 1 + 1 := by rw [e_1]; simp [s_0]
 have b_1 := jc e_1; have n_1 : NumAt w_1 (w.heap.size + 1) 1 := by rw [e_1]; exact NumAt.new w_0 1 _ _ s_0.symm
 obtain ⟨w_2, e_2⟩ := je (w_1.alloc (.cells #[.int .u64 (jf jd n 0), .int .u64 (jf jd n 1), .int .u64 (jf jd n 2), .int .u64 (jf jd n 3)] 24)); have s_2 : w_2.heap.size = w.heap.size + 1 + 1 + 1 := by rw [e_2]; simp [s_1]
 have b_2 := jc e_2; have n_2 : NumAt w_2 (w.heap.size + 1 + 1) n := by rw [e_2]; exact NumAt.new w_1 n _ _ s_1.symm
 obtain ⟨wz, e_3⟩ := je (w_2.alloc (.cells #[.int .u64 0, .int .u64 0, .int .u64 0, .int .u64 0] 24)); have s_3 : wz.heap.size = w.heap.size + 1 + 1 + 1 + 1 := by rw [e_3]; simp [s_2]
 have b_3 := jc e_3; have n_3 : NumAt wz (w.heap.size + 1 + 1 + 1) 0 := by rw [e_3, ← s_2]; exact jz w_2 _
 have f_3 : FreeN wz (w.heap.size + 1 + 1 + 1) 4 := by rw [e_3]; exact FreeN.made w_2 _ _ 4 _ s_2.symm
 rw [← e_0, ← e_1, ← e_2, ← e_3]; obtain ⟨AA, h_0⟩ := je (w.heap.size); obtain ⟨BB, h_1⟩ := je (AA + 1); obtain ⟨NN, h_2⟩ := je (BB + 1); obtain ⟨RR, h_3⟩ := je (NN + 1); have hwL : w.heap.size ≤ AA := by omega
 have hRd : RR < wz.heap.size := by omega
 rw [← h_0] at n_0 n_1 n_2 n_3 f_3 ⊢; rw [← h_1] at n_1 n_2 n_3 f_3 ⊢; rw [← h_2] at n_2 n_3 f_3 ⊢; rw [← h_3] at n_3 f_3 ⊢; have l_1 : AA < BB := by omega
 have l_2 : BB < NN := by omega
 have l_3 : NN < RR := by omega
 have HAA := jh (NumAt.later b_3 (NumAt.later b_2 (NumAt.later b_1 n_0))); have HBB := jh (NumAt.later b_3 (NumAt.later b_2 n_1)); have HNN := jh (NumAt.later b_3 n_2); have HRR := jh n_3; have HF := jh f_3; have B := jh (((b_0.trans (b_1.mono (by omega))).trans (b_2.mono (by omega))).trans (b_3.mono (by omega))); have hwRR : w.heap.size ≤ RR := by omega
 have HSZ := jh (show wz.heap.size = RR + 1 by omega); clear e_0 s_0 b_0 n_0 h_0 e_1 s_1 b_1 n_1 h_1 e_2 s_2 b_2 n_2 h_2 e_3 s_3 b_3 n_3 h_3 f_3; obtain ⟨r_BB_0, r_BB_1, r_BB_2, r_BB_3⟩ := jy HBB.out; obtain ⟨r_NN_0, r_NN_1, r_NN_2, r_NN_3⟩ := jy HNN.out
 go_wp2_with fail
 obtain ⟨w1, e1⟩ := je (wz.alloc (.cells #[.int .u64 (jf jd 1 0), .int .u64 (jf jd 1 1), .int .u64 (jf jd 1 2), .int .u64 (jf jd 1 3)] 24)); have hb := jc e1; obtain ⟨OO, hO9⟩ := je (RR + 1); rw [← e1, ← hO9]; have hO : OO = wz.heap.size := by rw [hO9, HSZ.out]
 have HOO := jh (show NumAt w1 OO 1 by rw [e1]; exact NumAt.new wz 1 _ _ hO); have HFO := jh (show FreeN w1 OO 4 by rw [e1]; exact FreeN.made wz _ _ 4 _ hO); have hOl : OO < w1.heap.size := by rw [e1, hO]; simp
 have hRO : RR < OO := by omega
 have hwO : w.heap.size ≤ OO := by have := B.out.size; omega
 clear e1 hO hO9; clear r_BB_0 r_BB_1 r_BB_2 r_BB_3 r_NN_0 r_NN_1 r_NN_2 r_NN_3; have HAA := jn hb HAA; have HBB := jn hb HBB; have HNN := jn hb HNN; have HRR := jn hb HRR; have HF := jh (HF.out.later hb hRd); have hRd := Nat.lt_of_lt_of_le hRd hb.size; have B := jw B hb; clear hb; refine (CB.out _).mono ?_; rintro _ w2 ⟨rfl, hb⟩; have HFO := jh (HFO.out.later hb hOl); have hOl := Nat.lt_of_lt_of_le hOl hb.size; have HAA := jn hb HAA; have HBB := jn hb HBB; have HNN := jn hb HNN; have HRR := jn hb HRR; have HOO := jn hb HOO; have HF := jh (HF.out.later hb hRd); have hRd := Nat.lt_of_lt_of_le hRd hb.size; have B := jw B hb; clear hb
 go_wp2_with fail
 go_loopw [14] (fun i wr => ∃ k o : Nat, k ≤ L ∧ i = .int .i64 k ∧ o < m ∧ Hid (o = a ^ (n / 2 ^ (L - k)) % m) ∧ Hid (NumAt wr OO o) ∧ Hid (FreeN wr OO 4) ∧ Hid (NumAt wr AA a) ∧ Hid (NumAt wr BB 1) ∧ Hid (NumAt wr NN n) ∧ Hid (NumAt wr RR 0) ∧ Hid (FreeN wr RR 4) ∧ Hid (Below w.heap.size w wr) ∧ OO < wr.heap.size) (fun i _ => L - (intOf i).toNat)
 case atStart => exact ⟨0, 1, Nat.zero_le _, rfl, h1, jh (pow_start HLn.out h1), HOO, HFO, HAA, HBB, HNN, HRR, HF, B, hOl⟩
 case round =>
  clear HOO HFO HAA HBB HNN HRR HF B hOl; obtain ⟨k, o, hk, rfl, hom, HO, HOO, HFO, HAA, HBB, HNN, HRR, HF, B, hOl⟩ := hrel; have hRd : RR < wr.heap.size := by omega
  have nOA : AA ≠ OO := by omega
  have nOB : BB ≠ OO := by omega
  have nON : NN ≠ OO := by omega
  have nOR : RR ≠ OO := by omega
  by_cases hlt : k < L
  ·have hltI : (k : Int) < (L : Int) := by omega
   obtain ⟨oo, hoo⟩ := je (o * o % m); have hoom : oo < m := by rw [hoo]; exact Nat.mod_lt _ (by omega)
   have C2 := jh (fun W hb => by have h := HT.out o o W hom hom hb; rw [← hoo] at h; exact h); obtain ⟨j, hj⟩ := je (L - 1 - k); have eI : ((L : Int) - 1 - (k : Int)) = (j : Int) := by omega
   obtain ⟨b, hb⟩ := je (n / 2 ^ j % 2); have CT := jh (fun w => by have h := bit_any (a := n) (j : Int) w (by omega) (by omega); rw [Zo (by omega), ← hb] at h; unfold ji words at h; exact h); have he := HE.out; obtain ⟨r0, r1, r2, r3, f0, f1, f2, f3⟩ := jC HOO.out HFO.out; have hb2 : b = 0 ∨ b = 1 := by omega
   have HB := jh (show b = n / 2 ^ (L - 1 - k) % 2 by rw [hb, hj]); have HOO2 := jh hoo; clear hb hoo hj
   go_wp2_with fail
   refine (C2.out _ B.out).mono ?_; rintro _ w3 ⟨rfl, hb⟩; clear r0 r1 r2 r3 f0 f1 f2 f3 he; have HFO := jh (HFO.out.later hb hOl); have hOl := Nat.lt_of_lt_of_le hOl hb.size; have HAA := jn hb HAA; have HBB := jn hb HBB; have HNN := jn hb HNN; have HRR := jn hb HRR; have HOO := jn hb HOO; have HF := jh (HF.out.later hb hRd); have hRd := Nat.lt_of_lt_of_le hRd hb.size; have B := jw B hb; clear hb; obtain ⟨r0, r1, r2, r3, f0, f1, f2, f3⟩ := jC HOO.out HFO.out
   go_wp2_with fail
   clear r0 r1 r2 r3 f0 f1 f2 f3; obtain ⟨w4, e9⟩ := je ((((w3.setCell ⟨OO, 0, none⟩ (.int .u64 (jf jd oo 0))).setCell ⟨OO, 1, none⟩ (.int .u64 (jf jd oo 1))).setCell ⟨OO, 2, none⟩ (.int .u64 (jf jd oo 2))).setCell ⟨OO, 3, none⟩ (.int .u64 (jf jd oo 3))); have HOO := jh (show NumAt w4 OO oo by rw [e9]; exact NumAt.set4 HOO.out _); have HFO := jh (show FreeN w4 OO 4 by rw [e9]; exact HFO.out.set4 _ _ _ _ _ _ _ _); have HAA := jh (show NumAt w4 AA _ by rw [e9]; exact NumAt.other4 HAA.out nOA _ _ _ _); have HBB := jh (show NumAt w4 BB _ by rw [e9]; exact NumAt.other4 HBB.out nOB _ _ _ _); have HNN := jh (show NumAt w4 NN _ by rw [e9]; exact NumAt.other4 HNN.out nON _ _ _ _); have HRR := jh (show NumAt w4 RR _ by rw [e9]; exact NumAt.other4 HRR.out nOR _ _ _ _); have HF := jh (show FreeN w4 RR 4 by rw [e9]; exact HF.out.set4 _ _ _ _ _ _ _ _); have B := jh (show Below w.heap.size w w4 by rw [e9]; exact jp B.out hwO _ _ _ _); have hsz : w4.heap.size = w3.heap.size := by rw [e9]; simp
   have hOl : OO < w4.heap.size := by rw [hsz]; exact hOl
   have hRd : RR < w4.heap.size := by omega
   rw [← e9]; clear e9 hsz
   rcases hb2 with rfl | rfl
   ·skip
    refine jv 8 (fun _ => none) (by kernel_rfl) (by kernel_rfl) (fun _ _ _ _ _ h => h) (fun F hn9 hcl hbl => ?_); have r_NN_0 := jr hbl HNN 0 (by omega); have r_NN_1 := jr hbl HNN 1 (by omega); have r_NN_2 := jr hbl HNN 2 (by omega); have r_NN_3 := jr hbl HNN 3 (by omega); have HCL := jh hcl; clear hcl hbl; refine jG 8 0 _ _ (fun _ _ _ => rfl) (by decide) ?_; simp only [List.take_succ_cons, List.take_zero, List.drop_succ_cons, List.drop_zero, Nat.reduceAdd]
    repeat (go_big_quiet_step ((first | (go_at_call 110; with_reducible exact js HCL.out (CB.out _)) | (go_at_call 126; with_reducible exact js HCL.out (CT.out _)))))
    refine wpQuiet_nil ?_; refine jI ?_; intro bs w5 hb _ _; clear r_NN_0 r_NN_1 r_NN_2 r_NN_3; have HFO := jh (HFO.out.later hb hOl); have hOl := Nat.lt_of_lt_of_le hOl hb.size; have HAA := jn hb HAA; have HBB := jn hb HBB; have HNN := jn hb HNN; have HRR := jn hb HRR; have HOO := jn hb HOO; have HF := jh (HF.out.later hb hRd); have hRd := Nat.lt_of_lt_of_le hRd hb.size; have B := jw B hb; clear hb; simp only [qx]
    go_wp2_with fail
    have HK2 := jh (show oo = a ^ (n / 2 ^ (L - (k + 1))) % m by rw [HOO2.out]; exact pow_even hlt HO.out HB.out.symm)
    go_roundw
    case rel => exact ⟨k + 1, oo, by omega, by go_num, hoom, HK2, HOO, HFO, HAA, HBB, HNN, HRR, HF, B, hOl⟩
    case measure => simp [intOf]; omega
   ·skip
    refine jv 8 (fun _ => none) (by kernel_rfl) (by kernel_rfl) (fun _ _ _ _ _ h => h) (fun F hn9 hcl hbl => ?_); have r_NN_0 := jr hbl HNN 0 (by omega); have r_NN_1 := jr hbl HNN 1 (by omega); have r_NN_2 := jr hbl HNN 2 (by omega); have r_NN_3 := jr hbl HNN 3 (by omega); have HCL := jh hcl; clear hcl hbl; refine jG 8 0 _ _ (fun _ _ _ => rfl) (by decide) ?_; simp only [List.take_succ_cons, List.take_zero, List.drop_succ_cons, List.drop_zero, Nat.reduceAdd]
    repeat (go_big_quiet_step ((first | (go_at_call 110; with_reducible exact js HCL.out (CB.out _)) | (go_at_call 126; with_reducible exact js HCL.out (CT.out _)))))
    refine wpQuiet_nil ?_; refine jI ?_; intro bs w5 hb _ _; clear r_NN_0 r_NN_1 r_NN_2 r_NN_3; have HFO := jh (HFO.out.later hb hOl); have hOl := Nat.lt_of_lt_of_le hOl hb.size; have HAA := jn hb HAA; have HBB := jn hb HBB; have HNN := jn hb HNN; have HRR := jn hb HRR; have HOO := jn hb HOO; have HF := jh (HF.out.later hb hRd); have hRd := Nat.lt_of_lt_of_le hRd hb.size; have B := jw B hb; clear hb; simp only [qx]; obtain ⟨q2, hq2⟩ := je (oo * a % m); have hq2m : q2 < m := by rw [hq2]; exact Nat.mod_lt _ (by omega)
    have C3 := jh (fun W hb => by have h := HT.out oo a W hoom HAM.out hb; rw [← hq2] at h; exact h); have HK2 := jh (show q2 = a ^ (n / 2 ^ (L - (k + 1))) % m by rw [hq2, HOO2.out]; exact pow_odd hlt HO.out HB.out.symm); clear hq2; have he := HE.out; obtain ⟨r0, r1, r2, r3⟩ := jy HOO.out; obtain ⟨s0, s1, s2, s3⟩ := jy HAA.out
    go_wp2_with fail
    refine (C3.out _ B.out).mono ?_; rintro _ w6 ⟨rfl, hb⟩; clear r0 r1 r2 r3 s0 s1 s2 s3 he; have HFO := jh (HFO.out.later hb hOl); have hOl := Nat.lt_of_lt_of_le hOl hb.size; have HAA := jn hb HAA; have HBB := jn hb HBB; have HNN := jn hb HNN; have HRR := jn hb HRR; have HOO := jn hb HOO; have HF := jh (HF.out.later hb hRd); have hRd := Nat.lt_of_lt_of_le hRd hb.size; have B := jw B hb; clear hb; obtain ⟨r0, r1, r2, r3, f0, f1, f2, f3⟩ := jC HOO.out HFO.out
    go_wp2_with fail
    clear r0 r1 r2 r3 f0 f1 f2 f3; obtain ⟨w7, e9⟩ := je ((((w6.setCell ⟨OO, 0, none⟩ (.int .u64 (jf jd q2 0))).setCell ⟨OO, 1, none⟩ (.int .u64 (jf jd q2 1))).setCell ⟨OO, 2, none⟩ (.int .u64 (jf jd q2 2))).setCell ⟨OO, 3, none⟩ (.int .u64 (jf jd q2 3))); have HOO := jh (show NumAt w7 OO q2 by rw [e9]; exact NumAt.set4 HOO.out _); have HFO := jh (show FreeN w7 OO 4 by rw [e9]; exact HFO.out.set4 _ _ _ _ _ _ _ _); have HAA := jh (show NumAt w7 AA _ by rw [e9]; exact NumAt.other4 HAA.out nOA _ _ _ _); have HBB := jh (show NumAt w7 BB _ by rw [e9]; exact NumAt.other4 HBB.out nOB _ _ _ _); have HNN := jh (show NumAt w7 NN _ by rw [e9]; exact NumAt.other4 HNN.out nON _ _ _ _); have HRR := jh (show NumAt w7 RR _ by rw [e9]; exact NumAt.other4 HRR.out nOR _ _ _ _); have HF := jh (show FreeN w7 RR 4 by rw [e9]; exact HF.out.set4 _ _ _ _ _ _ _ _); have B := jh (show Below w.heap.size w w7 by rw [e9]; exact jp B.out hwO _ _ _ _); have hsz : w7.heap.size = w6.heap.size := by rw [e9]; simp
    have hOl : OO < w7.heap.size := by rw [hsz]; exact hOl
    have hRd : RR < w7.heap.size := by omega
    rw [← e9]; clear e9 hsz
    go_roundw
    case rel => exact ⟨k + 1, q2, by omega, by go_num, hq2m, HK2, HOO, HFO, HAA, HBB, HNN, HRR, HF, B, hOl⟩
    case measure => simp [intOf]; omega
  ·have hkL : k = L := by omega
   rw [hkL] at HO ⊢; have hltI : ¬ ((L : Int) < (L : Int)) := by omega
   have HOQ := jh (show o = Q by rw [HQ.out]; exact pow_end HO.out); clear hkL HO; obtain ⟨r_OO_0, r_OO_1, r_OO_2, r_OO_3⟩ := jy HOO.out; obtain ⟨c0, c1, c2, c3, f0, f1, f2, f3⟩ := jC HRR.out HF.out
   go_wp2_with fail
   rw [HOQ.out]; have HRL := jh (NumAt.set4 HRR.out Q); have B9 := jh (jp B.out hwRR (.int .u64 (jf jd Q 0)) (.int .u64 (jf jd Q 1)) (.int .u64 (jf jd Q 2)) (.int .u64 (jf jd Q 3))); obtain ⟨g0, g1, g2, g3⟩ := jy HRL.out; refine bodyPost_ret (v := .agg #[.int .u64 (jf jd Q 0), .int .u64 (jf jd Q 1), .int .u64 (jf jd Q 2), .int .u64 (jf jd Q 3)]) ?_ rfl ⟨rfl, B9.out⟩
   simp [results, Tryz.results114, go_sem, g0, g1, g2, g3]
end Go.Proofs.YtcaeaejefdhloaaGreat
