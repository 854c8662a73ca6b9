/- Layer 4 (mods) -/
import Derived.Test.YtmijablfjigbhaaGreatDoorSZVG27
import Derived.Test.YtmijablfjigbhaaGreatDoorSZVG28
import Derived.Test.YtmijablfjigbhaaGreatDoorSZVG29
import Derived.Test.YtmijablfjigbhaaGreatDoorSZVG14
import Derived.StillTailTactics
set_option linter.unusedSimpArgs false
set_option linter.unusedVariables false
set_option maxHeartbeats 8000000
set_option maxRecDepth 100000
namespace Go.Proofs.YtmijablfjigbhaaGreatDoor
open Go.ChangeShapes Go.WideShapes Go.ChangeAt Go.RowKit
attribute [local go_sem] Oper.semAt_some
theorem VN (a : Option Addr) (n c : Nat) (w : World) :
  Calls Tryz.prog 167 #[.slice a n c] w fun e w' => e = .returned (.func (.func 197) #[] #[.pointer (some ⟨w.heap.size, 0, none⟩)]) ∧ w' = w.alloc (.cells #[.slice a n c] 107) := by
 go_enter Tryz.func167, Tryz.ntmps167
 go_wp2
 go_ret
 exact ⟨rfl, rfl⟩
def calmQ (Q : Exit → Act → World → Prop) : Exit → Act → World → Prop
 | .panic _, _, _ => False
 | e, a, w => Q e a w
theorem OV {n : Nat} {c : Code} {Q : Exit → Act → World → Prop} {a : Act} {w : World} (h : c.wp Tryz.prog (calmQ Q) a w) : c.wpIn Fence.wide n Tryz.prog Q a w := by
 refine wpIn_mono (wpIn_wide.2 h) ?_; rintro e a w hq
 cases e <;> first | exact hq | exact hq.elim
def zD (x : Nat) : List Nat := [jf jd x 0, jf jd x 1, jf jd x 2, jf jd x 3]
theorem U0.words {w : World} {b x : Nat} (h : U0 w b x) : J6 .u64 w (.slice (some ⟨b, 0, none⟩) 4 4) (zD x) := by
 refine ⟨_, 4, rfl, by simp [zD], by decide, (fun h => by cases h), fun _ => ⟨b, 0, rfl, fun i y hy => ?_⟩⟩; rw [Nat.zero_add]
 have : i < 4 := by
  rcases Nat.lt_or_ge i 4 with h | h
  ·exact h
  ·rw [List.getElem?_eq_none (by simpa [zD] using h)] at hy; cases hy
 have h9 := h i this
 rcases (show i = 0 ∨ i = 1 ∨ i = 2 ∨ i = 3 by omega) with rfl | rfl | rfl | rfl <;> (simp [zD] at hy; subst hy; exact h9)
def Own64 (w : World) (R : Nat) (v : Value) (l : List Nat) : Prop := J6 .u64 w v l ∧ ∀ g, v.ownBlock = some g → R < g ∧ g < w.heap.size
structure yD (w w5 : World) (RR MM m r : Nat) (W : World) : Prop where
 r : U0 W RR r
 f : Y0 W RR 4
 m : U0 W MM m
 b : Below w.heap.size w W
 s : w5.heap.size ≤ W.heap.size
 rl : RR < W.heap.size
theorem yD.start {w w5 W : World} {RR MM m : Nat} (hr : U0 w5 RR 0) (hf : Y0 w5 RR 4) (hm : U0 w5 MM m) (hb : Below w.heap.size w w5) (hR : RR < w5.heap.size) (h : Below w5.heap.size w5 W) : yD w w5 RR MM m 0 W :=
 ⟨U0.later h hr, hf.later h hR, U0.later h hm, jk hb h, h.size, Nat.lt_of_lt_of_le hR h.size⟩
theorem yD.putObj {w w5 W : World} {RR MM m r l : Nat} {o : Obj} (h : yD w w5 RR MM m r W) (hl : w5.heap.size ≤ l) (hR : RR < w5.heap.size) (hM : MM < w5.heap.size) (hw : w.heap.size ≤ w5.heap.size) : yD w w5 RR MM m r (W.putObj l o) := by
 have hk : ∀ g, g < w5.heap.size → (W.putObj l o).heap[g]? = W.heap[g]? := fun g hg => World.putObj_heap_other (by omega)
 refine ⟨fun j hj => (World.cell?_of_block (a := ⟨RR, j, none⟩) (hk RR hR)).trans (h.r j hj), fun j hj => (World.frozen?_of_block (a := ⟨RR, j, none⟩) (hk RR hR)).trans (h.f j hj), fun j hj => (World.cell?_of_block (a := ⟨MM, j, none⟩) (hk MM hM)).trans (h.m j hj), ?_, by simpa using h.s, by simpa using h.rl⟩; exact ⟨h.b.os, h.b.tape, h.b.output, by simpa using h.b.size, fun g hg => (hk g (by have := hw; omega)).trans (h.b.block g hg)⟩
def Qc (m : Nat) (L : List Nat) (k : Nat) : Nat := (L.drop k).foldr (fun d r => (r * jd + d) % m) 0
theorem YW (m : Nat) (L : List Nat) : Qc m L L.length = 0 := by unfold Qc; simp
theorem MI (m : Nat) (L : List Nat) (k : Nat) (h : k < L.length) : Qc m L k = (Qc m L (k + 1) * jd + L.getD k 0) % m := by
 unfold Qc; rw [List.drop_eq_getElem_cons h, List.foldr_cons, List.getD_eq_getElem?_getD, List.getElem?_eq_getElem h]
 rfl
theorem AP {m : Nat} (hm : 0 < m) (L : List Nat) (k : Nat) : Qc m L k < m := by
 rcases Nat.lt_or_ge k L.length with h | h
 ·rw [MI m L k h]; exact Nat.mod_lt _ hm
 ·unfold Qc; rw [List.drop_eq_nil_of_le h]; exact hm
def WV (L : List Nat) : Nat := L.foldr (fun d r => r * jd + d) 0
theorem BX (m : Nat) (L : List Nat) : L.foldr (fun d r => (r * jd + d) % m) 0 = WV L % m := by
 induction L with
 | nil => simp [WV]
 | cons a L ih => 
  rw [List.foldr_cons, ih]; unfold WV; rw [List.foldr_cons, Nat.add_mod, Nat.mul_mod, Nat.mod_mod, ← Nat.mul_mod, ← Nat.add_mod]
theorem MS (m : Nat) (L : List Nat) : Qc m L 0 = WV L % m := by unfold Qc; rw [List.drop_zero]; exact BX m L
theorem tV {x : Nat} (h : x < jo) : jf jd x 0 + jd * (jf jd x 1 + jd * (jf jd x 2 + jd * jf jd x 3)) = x := by
 unfold jf jo at *; unfold jd at *; omega
theorem fZ {lo hi : Nat} (hlo : lo < jo) (hhi : hi < jo) : WV (zD lo ++ zD hi) = hi * jo + lo := by
 have h1 := tV hlo; have h2 := tV hhi; simp only [WV, zD, List.cons_append, List.nil_append, List.foldr_cons, List.foldr_nil]; obtain ⟨a0, e0⟩ := je (jf jd lo 0); obtain ⟨a1, e1⟩ := je (jf jd lo 1); obtain ⟨a2, e2⟩ := je (jf jd lo 2); obtain ⟨a3, e3⟩ := je (jf jd lo 3); obtain ⟨b0, f0⟩ := je (jf jd hi 0); obtain ⟨b1, f1⟩ := je (jf jd hi 1); obtain ⟨b2, f2⟩ := je (jf jd hi 2); obtain ⟨b3, f3⟩ := je (jf jd hi 3); rw [← e0, ← e1, ← e2, ← e3] at h1 ⊢; rw [← f0, ← f1, ← f2, ← f3] at h2 ⊢; clear e0 e1 e2 e3 f0 f1 f2 f3 hlo hhi; unfold jo; unfold jd at *; omega
theorem qy {x : Nat} (h : x < jd) : jf jd x 0 = x ∧ jf jd x 1 = 0 ∧ jf jd x 2 = 0 ∧ jf jd x 3 = 0 := by
 unfold jf; unfold jd at *; omega
theorem aZ (x : Nat) : ∀ y ∈ zD x, y < jd := by
 intro y hy; simp only [zD, List.mem_cons, List.not_mem_nil, or_false] at hy
 rcases hy with rfl | rfl | rfl | rfl <;> (unfold jf; exact Nat.mod_lt _ (by unfold jd; omega))
theorem BR {lo hi m : Nat} (hlo : lo < jo) (hhi : hi < jo) (hm0 : 0 < m) (hml : m < jd) (w : World) : Calls Tryz.prog 100 #[jj lo, jj hi, jj m] w fun e w' => e = .returned (.tuple #[jj ((hi * jo + lo) % m), .int .i64 0]) ∧ Below w.heap.size w w' := by
 have hm : m < jo := by unfold jo; unfold jd at hml; omega
 have HLO := jh hlo; have HHI := jh hhi; have J4 := jh hm; have AU := jh hm0; have HML := jh hml; have hz := fun w => GN m hm w
 rw [decide_eq_false (show ¬ m = 0 by omega)] at hz; have CS := jh (fun w => by have h := short_any hm w; rw [decide_eq_true hml] at h; exact h); obtain ⟨Q9, hQ9⟩ := je ((hi * jo + lo) % m); rw [← hQ9]; have HQ9 := jh hQ9; clear hQ9 hlo hhi hm hml hm0; unfold jj words at *; refine (callsIn_wide (n := 9)).1 ?_; refine callsIn_of_wp_marks Tryz.func100 rfl trivial ?_ rfl; simp only [Tryz.ntmps100, List.size_toArray, List.length_cons, List.length_nil, Nat.reduceAdd, Nat.reduceSub, Array.replicate_succ, Array.replicate_zero, List.push_toArray, List.append_toArray, List.nil_append, List.cons_append]
 gi_wp2_with fail
 obtain ⟨wa, ea⟩ := je (w.alloc (.cells (jD lo) 24)); obtain ⟨wb, eb⟩ := je (wa.alloc (.cells (jD hi) 24)); obtain ⟨wc, ec⟩ := je (wb.alloc (.cells (jD m) 24)); obtain ⟨wd, ed⟩ := je (wc.alloc (.cells jA 24)); have sa : wa.heap.size = w.heap.size + 1 := by rw [ea]; simp
 have sb : wb.heap.size = w.heap.size + 1 + 1 := by rw [eb]; simp [sa]
 have sc : wc.heap.size = w.heap.size + 1 + 1 + 1 := by rw [ec]; simp [sb]
 have sd : wd.heap.size = w.heap.size + 1 + 1 + 1 + 1 := by rw [ed]; simp [sc]
 have ba := jc ea; have bb := jc eb; have bc := jc ec; have bd := jc ed; have na : U0 wa w.heap.size lo := by rw [ea]; exact U0.new w lo _ _ rfl
 have nb : U0 wb (w.heap.size + 1) hi := by rw [eb]; exact U0.new wa hi _ _ sa.symm
 have nc : U0 wc (w.heap.size + 1 + 1) m := by rw [ec]; exact U0.new wb m _ _ sb.symm
 have nd : U0 wd (w.heap.size + 1 + 1 + 1) 0 := by rw [ed, ← sc]; exact jP wc _
 have fd : Y0 wd (w.heap.size + 1 + 1 + 1) 4 := by rw [ed]; exact Y0.made wc _ _ 4 _ sc.symm
 rw [← ea, ← eb, ← ec, ← ed]; obtain ⟨LL, hL⟩ := je (w.heap.size); obtain ⟨HH, hH⟩ := je (LL + 1); obtain ⟨MM, hM⟩ := je (HH + 1); obtain ⟨RR, hR⟩ := je (MM + 1); have Y9 : w.heap.size ≤ LL := by omega
 have U1 : RR < wd.heap.size := by omega
 rw [← hL] at na nb nc nd fd ⊢; rw [← hH] at nb nc nd fd ⊢; rw [← hM] at nc nd fd ⊢; rw [← hR] at nd fd ⊢; have hLH : LL < HH := by omega
 have hHM : HH < MM := by omega
 have hMR : MM < RR := by omega
 have HA := jh (U0.later bd (U0.later bc (U0.later bb na))); have HB := jh (U0.later bd (U0.later bc nb)); have HC := jh (U0.later bd nc); have HR := jh nd; have HF := jh fd; have B := jh (((ba.trans (bb.mono (by omega))).trans (bc.mono (by omega))).trans (bd.mono (by omega))); clear ea eb ec ed sa sb sc sd ba bb bc bd na nb nc nd fd hL hH hM hR; refine ⟨trivial, (callsIn_wide.2 (CS.out wd)).mono ?_⟩; rintro _ w2 ⟨rfl, hb⟩; have hR2 : RR < w2.heap.size := Nat.lt_of_lt_of_le U1 hb.size; have HF := jh (HF.out.later hb U1); have HA := jn hb HA; have HB := jn hb HB; have HC := jn hb HC; have HR := jn hb HR; have B := jw B hb; clear hb U1; have U1 := hR2; clear hR2
 gi_wp2_with fail
 refine OV ?_; refine qF [(0, true), (1, true), (2, false), (3, false), (4, true)] (fun _ => True) (by kernel_rfl) (by kernel_rfl) (fun _ _ _ _ _ h => h) (trivial) (fun hHeld => ?_)
 iterate 2
  refine WP.tk rfl (k := ?_)
 refine WP.step rfl (fun K hK => ?_)
 go_simp
 refine hK.out _ _ (trivial) (fun hHeld => ?_); clear hK K
 try simp only [Act.put, pa, pb, pc]
 refine WP.step rfl (fun K hK => ?_)
 go_simp
 obtain ⟨w3, e3⟩ := je ((w2.alloc (.cells #[.slice (some ⟨LL, 0, none⟩) 4 4, .slice (some ⟨HH, 0, none⟩) 4 4] 107)).drew); have hb : Below w2.heap.size w2 w3 := by rw [e3]; exact ((Below.refl _ w2).alloc (Nat.le_refl _) _).drew
 obtain ⟨GG, hG⟩ := je (w2.heap.size)
 have hpp : PartsL w3 GG 0 [.slice (some ⟨LL, 0, none⟩) 4 4, .slice (some ⟨HH, 0, none⟩) 4 4] [zD lo, zD hi] := by
  refine ⟨rfl, fun i hi9 => ?_⟩; have hc0 : w3.cell? ⟨GG, 0, none⟩ = some (.slice (some ⟨LL, 0, none⟩) 4 4) := by rw [e3, hG]; simp
  have hc1 : w3.cell? ⟨GG, 1, none⟩ = some (.slice (some ⟨HH, 0, none⟩) 4 4) := by rw [e3, hG]; simp
  rcases (show i = 0 ∨ i = 1 by simp at hi9; omega) with rfl | rfl
  ·exact ⟨_, _, rfl, rfl, hc0, (U0.later hb HA.out).words⟩
  ·exact ⟨_, _, rfl, rfl, hc1, (U0.later hb HB.out).words⟩
 rw [← e3, ← hG]; clear e3 hG; have hR2 : RR < w3.heap.size := Nat.lt_of_lt_of_le U1 hb.size; have HF := jh (HF.out.later hb U1); have HA := jn hb HA; have HB := jn hb HB; have HC := jn hb HC; have HR := jn hb HR; have B := jw B hb; clear hb U1; have U1 := hR2; clear hR2; refine (xO w3 hpp (by simp) (by decide) (by simp [zD])).mono ?_; rintro _ w4 ⟨v4, rfl, ho, hb⟩; clear hpp; have rM := jh (show Own64 w4 RR v4 (zD lo ++ zD hi) from ⟨ho.at_, fun g hg => by have := (O1.lt ho g hg); omega⟩); clear ho; have hR2 : RR < w4.heap.size := Nat.lt_of_lt_of_le U1 hb.size; have HF := jh (HF.out.later hb U1); have HA := jn hb HA; have HB := jn hb HB; have HC := jn hb HC; have HR := jn hb HR; have B := jw B hb; clear hb U1; have U1 := hR2; clear hR2; dsimp only; refine hK.out _ _ (trivial) (fun hHeld => ?_); clear hK K
 try simp only [Act.put, pa, pb, pc]
 refine WP.tk rfl (k := ?_); refine WP.done ?_; dsimp only [calmQ]
 gi_wp2_with fail
 obtain ⟨L, hL⟩ := je (zD lo ++ zD hi); rw [← hL] at rM; have HL := jh hL; have hL8 : L.length = 8 := by rw [hL]; simp [zD]
 have HLW := jh (show ∀ y ∈ L, y < jd from fun y hy => by rw [hL, List.mem_append] at hy; rcases hy with h | h <;> exact aZ _ _ h); clear hL; obtain ⟨⟨ao, cap, rfl, hkk⟩, hown⟩ := rM.out; have K4 : J6 .u64 w4 (.slice ao L.length cap) L := ⟨ao, cap, rfl, hkk⟩; clear hkk; have HOWN := jh hown; clear hown rM; refine ⟨trivial, (callsIn_wide.2 (VN ao L.length cap w4)).mono ?_⟩; rintro _ w5 ⟨rfl, e5⟩; obtain ⟨Bn, hBn⟩ := je (w4.heap.size); have hb := jc e5; have PB : w5.heap[Bn]? = some (.cells #[.slice ao L.length cap] 107 (0, 0)) := by rw [e5, hBn]; exact heap_alloc_new w4 _
 have hs5 : w5.heap.size = Bn + 1 := by rw [e5, hBn]; simp
 rw [← hBn]; have K5 := K4.later hb; have oH : RR < Bn := by rw [hBn]; exact U1
 have HOWN := jh (show ∀ g, (Value.slice ao L.length cap).ownBlock = some g → g < w5.heap.size ∧ g ≠ RR from fun g hg => by have := HOWN.out g hg; omega); have hR2 : RR < w5.heap.size := Nat.lt_of_lt_of_le U1 hb.size; have HF := jh (HF.out.later hb U1); have HA := jn hb HA; have HB := jn hb HB; have HC := jn hb HC; have HR := jn hb HR; have B := jw B hb; clear hb U1; have U1 := hR2; clear hR2; have HPB := jh PB; have HK5 := jh K5; have hwR : w.heap.size ≤ RR := by omega
 have hRM : MM ≠ RR := by omega
 clear e5 PB K4 K5
 gi_wp2_with fail
 refine' XR (by omega) (itf := 197) (caps := #[.pointer (some ⟨Bn, 0, none⟩)]) (encs := fun i => #[.int .i64 i, .int .u64 (L.getD i 0)]) (by go_simp) ?hent (fun g => g < w5.heap.size ∧ g ≠ RR) (fun k hk => hk.1) L.length (fun i => rfl) (fun k W => yD w w5 RR MM m (Qc m L k) W) ?hI ?h0 ?hit _ ?hassign ?hbody ?hdone
 case hent => intro args W; simp [go_sem]
 case hI => intro k A l o o9 hl ho hn h; exact h.putObj hl U1 (by omega) (by omega)
 case h0 => intro o1 o2; rw [YW]; exact yD.start HR.out HF.out HC.out B.out U1 (((Below.refl _ w5).alloc (Nat.le_refl _) _).alloc (by simp) _)
 case hit =>
  intro l J W hY hb hJ; exact EQ _ (by omega) l Bn (fun g => g < w5.heap.size ∧ g ≠ RR) ⟨by omega, by omega⟩ L _ J W (by omega) (heap_of hb HPB.out) (HK5.out.later hb) HOWN.out hY hJ
 case hassign =>
  intro l i W K hK
  gi_wp2_with fail
  exact hK
 case hbody =>
  intro l i W hiL h; have HM := jh h; obtain ⟨r, hr⟩ := je (Qc m L (i + 1)); obtain ⟨d, hd⟩ := je (L.getD i 0); have hrm : r < m := by rw [hr]; exact AP AU.out L _
  have hdw : d < jd := by rw [hd, List.getD_eq_getElem?_getD, List.getElem?_eq_getElem hiL]; exact HLW.out _ (List.getElem_mem hiL)
  have hst := MI m L i hiL; rw [← hr, ← hd] at hst; have HST := jh hst; rw [← hr] at HM; rw [List.getD_eq_getElem?_getD] at hd; clear hst hr h; have hrw : r < jd := Nat.lt_trans hrm HML.out; obtain ⟨r0, r1, r2, r3⟩ := jz HM.out.r; obtain ⟨m0, m1, m2, m3⟩ := jz HM.out.m; obtain ⟨dr0, dr1, dr2, dr3⟩ := qy hrw; obtain ⟨dm0, _, _, _⟩ := qy HML.out; have ff := HM.out.f 0 (by omega); rw [dr0] at r0; rw [dm0] at m0; rw [← hd]; clear hd
  gi_wp2_with fail
  refine ⟨trivial, CallsIn.inRound l ((callsIn_wide.2 (Qr r d m hdw HML.out hrm W)).mono ?_)⟩; rintro _ w6 ⟨rfl, hb⟩; have dD := jh hb; have ff6 := (hb.frozen (p := ⟨RR, 0, none⟩) HM.out.rl).trans ff; have c6 := (hb.cell (p := ⟨RR, 0, none⟩) HM.out.rl).trans r0; clear hb r0 r1 r2 r3 m0 m1 m2 m3
  gi_wp2_with fail
  have ev : ((r : Int) * (jd : Nat) + d) % m = ((Qc m L i : Nat) : Int) := by rw [HST.out]; simp
  rw [ev]; have hlt2 : Qc m L i < jd := Nat.lt_trans (AP AU.out L i) HML.out; obtain ⟨r2, hr2⟩ := je (Qc m L i); rw [← hr2] at hlt2 ⊢; clear ev c6 ff6 HST hr2; obtain ⟨we, RY⟩ := je (w6.setCell ⟨RR, 0, none⟩ (.int .u64 (r2 : Nat))); rw [← RY]; have hsm : ∀ g, g ≠ RR → we.heap[g]? = w6.heap[g]? := fun g h1 => by rw [RY]; exact Below.heap_setCell _ _ _ _ h1
  have hss : we.heap.size = w6.heap.size := by rw [RY]; simp
  have hos : we.os = w6.os ∧ we.tape = w6.tape ∧ we.output = w6.output := by rw [RY]; exact ⟨rfl, rfl, rfl⟩
  have s6 := dD.out.size; refine ⟨⟨by omega, fun k o hk ho _ => ?_⟩, ⟨hos.1.trans dD.out.os, hos.2.1.trans dD.out.tape, hos.2.2.trans dD.out.output, by omega, fun g hg => (hsm g hg.2).trans (dD.out.block g (by have := HM.out.s; omega))⟩, ⟨?_, ?_, ?_, ?_, by have := HM.out.s; omega, by have := HM.out.rl; omega⟩⟩
  ·exact (hsm k (by omega)).trans ((dD.out.block k (Qa ho)).trans ho)
  ·rw [RY]; refine yB.congr (yB.set (U0.later dD.out HM.out.r) 0 r2) ?_; obtain ⟨e0, e1, e2, e3⟩ := qy hlt2; intro j hj
   rcases (show j = 0 ∨ j = 1 ∨ j = 2 ∨ j = 3 by omega) with rfl | rfl | rfl | rfl <;> simp [e0, e1, e2, e3, dr1, dr2, dr3]
  ·rw [RY]; exact Y0.set (HM.out.f.later dD.out HM.out.rl) _ _
  ·exact fun j hj => (World.cell?_of_block (a := ⟨MM, j, none⟩) (hsm MM hRM)).trans (U0.later dD.out HM.out.m j hj)
  ·exact ⟨hos.1.trans (dD.out.os.trans HM.out.b.os), hos.2.1.trans (dD.out.tape.trans HM.out.b.tape), hos.2.2.trans (dD.out.output.trans HM.out.b.output), by have := HM.out.b.size; omega, fun g hg => (hsm g (by omega)).trans ((dD.out.block g (by have := HM.out.b.size; omega)).trans (HM.out.b.block g hg))⟩
 case hdone =>
  intro D W hD h hDf; rw [MS, HL.out, fZ HLO.out HHI.out, ← HQ9.out] at h; have HM := jh h; obtain ⟨g0, g1, g2, g3, f0, f1, f2, f3⟩ := jL h.r h.f; clear h; have HDF := jh hDf; clear hDf
  gi_wp2_with fail
  obtain ⟨we, RY⟩ := je (((((W.setCell ⟨RR, 0, none⟩ (.int .u64 (jf jd Q9 0))).setCell ⟨RR, 1, none⟩ (.int .u64 (jf jd Q9 1))).setCell ⟨RR, 2, none⟩ (.int .u64 (jf jd Q9 2))).setCell ⟨RR, 3, none⟩ (.int .u64 (jf jd Q9 3)))); have Q7 : U0 we RR Q9 := by rw [RY]; exact U0.set4 HM.out.r Q9
  have B9 : Below w.heap.size w we := by rw [RY]; exact jK HM.out.b hwR _ _ _ _
  have hDR : D ≠ RR := by omega
  have x9 : we.heap[D]? = some (.deferred (some [])) := by rw [RY, Below.heap_setCell _ _ _ _ hDR, Below.heap_setCell _ _ _ _ hDR, Below.heap_setCell _ _ _ _ hDR, Below.heap_setCell _ _ _ _ hDR]; exact HDF.out
  rw [← RY]; clear RY; obtain ⟨wf, ewf⟩ := je (we.putObj D (.deferred none)); have hsf : ∀ g, g ≠ D → wf.heap[g]? = we.heap[g]? := fun g h1 => by rw [ewf]; exact World.putObj_heap_other (by omega)
  have HF9 : U0 wf RR Q9 := fun j hj => (World.cell?_of_block (a := ⟨RR, j, none⟩) (hsf RR hDR.symm)).trans (Q7 j hj)
  clear g0 g1 g2 g3; obtain ⟨g0, g1, g2, g3⟩ := jz HF9; refine ⟨by simp, .inl ⟨D, wf, rfl, by rw [ewf]; exact run_takeDeferred x9, ?_⟩⟩; refine ⟨.tuple #[.agg #[.int .u64 (jf jd Q9 0), .int .u64 (jf jd Q9 1), .int .u64 (jf jd Q9 2), .int .u64 (jf jd Q9 3)], .int .i64 0], by simp [results, Tryz.results100, go_sem, g0, g1, g2, g3], rfl, ?_⟩; exact ⟨by rw [ewf]; exact B9.os, by rw [ewf]; exact B9.tape, by rw [ewf]; exact B9.output, by rw [ewf]; simpa using B9.size, fun g hg => (hsf g (by omega)).trans (B9.block g hg)⟩
theorem PV {lo hi : Nat} (w : World) : Calls Tryz.prog 100 #[jj lo, jj hi, jj 0] w fun e w' => e = .returned (.tuple #[jj 0, .int .i64 1]) ∧ Below w.heap.size w w' := by
 have hz := fun w => GN 0 qN w
 rw [decide_eq_true (rfl : (0 : Nat) = 0)] at hz; unfold jj words at *
 go_enter Tryz.func100, Tryz.ntmps100
 go_wp2_with fail
 refine bodyPost_ret (v := .tuple #[.agg #[.int .u64 0, .int .u64 0, .int .u64 0, .int .u64 0], .int .i64 1]) ?_ rfl ⟨by simp only [jI]; rfl, ?_⟩
 ·simp [results, Tryz.results100, go_sem]
 ·exact ((((Below.refl _ w).alloc (Nat.le_refl _) _).alloc (by simp) _).alloc (by simp; omega) _).alloc (by simp; omega) _
theorem IQ {lo hi m : Nat} (hlo : lo < jo) (hhi : hi < jo) (hm : m < jo) (hm0 : 0 < m) (w : World) : Calls Tryz.prog 100 #[jj lo, jj hi, jj m] w fun e w' => e = .returned (.tuple #[jj ((hi * jo + lo) % m), .int .i64 0]) ∧ Below w.heap.size w w' := by
 rcases Nat.lt_or_ge m jd with h | h
 ·exact BR hlo hhi hm0 h w
 ·exact SV hlo hhi hm h w
theorem KO {a b m : Nat} (ha : a < jd) (hb : b < jd) (hm : m < jd) (hab : a * b < m * jd) (w : World) :
  Calls Tryz.prog 205 #[.int .u64 a, .int .u64 b, .int .u64 m] w fun e w' => e = .returned (.int .u64 ((a * b % m : Nat) : Int)) ∧ Below w.heap.size w w' := by
 obtain ⟨h, hh⟩ := je (a * b / 18446744073709551616); obtain ⟨l, hl⟩ := je (a * b % 18446744073709551616); have CM := jh (fun w => by have h9 := Tryz.bits_Mul64 a b ha hb w; rw [← hh, ← hl] at h9; exact h9); have TD : l < jd := by rw [hl]; exact Nat.mod_lt _ (by omega)
 have hh9 : h < m := by
  rw [hh]; refine (Nat.div_lt_iff_lt_mul (by omega)).2 ?_; exact hab
 have CD := jh (fun w => Qr h l m TD hm hh9 w)
 have hv : h * jd + l = a * b := by
  rw [hh, hl, Nat.mul_comm]; exact Nat.div_add_mod _ _
 rw [hv] at CD; clear hh hl TD hh9 hv ha hb hm hab
 go_enter Tryz.func205, Tryz.ntmps205
 go_wp2_with fail
 refine (CM.out _).mono ?_; rintro _ w1 ⟨rfl, rfl⟩
 go_wp2_with fail
 refine (CD.out _).mono ?_; rintro _ w2 ⟨rfl, hb⟩
 go_wp2_with fail
 refine bodyPost_ret (v := .int .u64 ((a * b % m : Nat) : Int)) ?_ rfl ⟨rfl, hb⟩
 simp [results, Tryz.results205, go_sem]
theorem UO {a b m : Nat} (ha : a < m) (Z4 : b < m) (hml : m < jd) (w : World) : Calls Tryz.prog 208 #[jj a, jj b, jj m] w fun e w' => e = .returned (jj (a * b % m)) ∧ Below w.heap.size w w' := by
 obtain ⟨q, hq⟩ := je (a * b % m); rw [← hq]; have hm0 : 0 < m := by omega
 have hm : m < jo := by unfold jo; unfold jd at hml; omega
 obtain ⟨n, hn⟩ := je (jX m); have CB := jh (fun w => by have h := JT hm w; rw [← hn] at h; unfold jj words at h; exact h); have hnI : (n : Int) ≤ 64 := by have := dB.2 hml; omega
 have hqw : q < jd := by rw [hq]; exact Nat.lt_trans (Nat.mod_lt _ hm0) hml
 have CW := jh (fun w => by have h := KO (Nat.lt_trans ha hml) (Nat.lt_trans Z4 hml) hml (Nat.lt_of_lt_of_le (Nat.mul_lt_mul_of_lt_of_lt ha (Nat.lt_trans Z4 hml)) (Nat.le_refl _)) w; rw [← hq] at h; exact h); have CO := jh (fun w => by have h := nS q hqw w; unfold jj words at h; exact h); have da := jh (qy (Nat.lt_trans ha hml)).1; have db := jh (qy (Nat.lt_trans Z4 hml)).1; have dm := jh (qy hml).1; clear hq hn hml hm0 hm ha Z4 hqw; unfold jj words
 go_enter Tryz.func208, Tryz.ntmps208
 go_wp2_with fail
 obtain ⟨wz, AA, BB, MM, RR, e9, J5, h_1, h_2, h_3, J3, U4, J4, HRR, HF, B, V8, LC, TC, PI, Y9, D6, U1⟩ := zC w 24 a b m; rw [e9, J5, h_1, h_2, h_3]; clear e9 J5 h_1 h_2 h_3; refine (CB.out _).mono ?_; rintro _ w1 ⟨rfl, hb⟩; obtain ⟨J3, U4, J4, HRR, HF, U1, B⟩ := qG hb J3 U4 J4 HRR HF U1 B; clear hb; obtain ⟨U3, I4, X3, V3⟩ := jz J3.out; obtain ⟨I5, Y5, X5, V5⟩ := jz U4.out; obtain ⟨V4, G5, F5, D5⟩ := jz J4.out; rw [da.out] at U3; rw [db.out] at I5; rw [dm.out] at V4
 go_wp2_with fail
 refine (CW.out _).mono ?_; rintro _ w2 ⟨rfl, hb⟩; obtain ⟨J3, U4, J4, HRR, HF, U1, B⟩ := qG hb J3 U4 J4 HRR HF U1 B; clear hb; clear U3 I4 X3 V3 I5 Y5 X5 V5 V4 G5 F5 D5
 go_wp2_with fail
 refine (CO.out _).mono ?_; rintro _ w3 ⟨rfl, hb⟩; obtain ⟨J3, U4, J4, HRR, HF, U1, B⟩ := qG hb J3 U4 J4 HRR HF U1 B; clear hb; obtain ⟨c0, c1, c2, c3, f0, f1, f2, f3⟩ := jL HRR.out HF.out
 go_wp2_with fail
 obtain ⟨Q7, B9⟩ := zw HRR B D6 q; obtain ⟨g0, g1, g2, g3⟩ := jz Q7.out; refine bodyPost_ret (v := jj q) ?_ rfl ⟨rfl, B9.out⟩
 simp [results, Tryz.results208, go_sem, jj, words, g0, g1, g2, g3]
theorem GR {a b m : Nat} (ha : a < m) (Z4 : b < m) (hml : jd ≤ m) (hm : m < jo) (w : World) : Calls Tryz.prog 208 #[jj a, jj b, jj m] w fun e w' => e = .returned (jj (a * b % m)) ∧ Below w.heap.size w w' := by
 obtain ⟨q, hq⟩ := je (a * b % m); rw [← hq]; have hm0 : 0 < m := by omega
 obtain ⟨n, hn⟩ := je (jX m); have CB := jh (fun w => by have h := JT hm w; rw [← hn] at h; unfold jj words at h; exact h); have hnI : ¬ (n : Int) ≤ 64 := by have := mt dB.1 (show ¬ m < jd by omega); omega
 have G9 := Nat.lt_trans ha hm; have hb8 := Nat.lt_trans Z4 hm; obtain ⟨x, hx⟩ := je (vI a b); obtain ⟨y, hy⟩ := je (MG a b); have CM := jh (fun w => by have h := mul_any G9 hb8 w; rw [← hx, ← hy] at h; unfold jj words at h; exact h); have hxy : y * jo + x = a * b := by rw [hx, hy]; unfold vI MG; rw [Nat.mul_comm]; exact Nat.div_add_mod _ _
 have CW := jh (fun w => by have h := IQ (lo := x) (hi := y) (by rw [hx]; exact YU _ _) (by rw [hy]; exact aV G9 hb8) hm hm0 w; rw [hxy, ← hq] at h; unfold jj words at h; exact h); clear hq hn hml hm0 hm ha Z4 G9 hb8 hx hy hxy; unfold jj words
 go_enter Tryz.func208, Tryz.ntmps208
 go_wp2_with fail
 obtain ⟨wz, AA, BB, MM, RR, e9, J5, h_1, h_2, h_3, J3, U4, J4, HRR, HF, B, V8, LC, TC, PI, Y9, D6, U1⟩ := zC w 24 a b m; rw [e9, J5, h_1, h_2, h_3]; clear e9 J5 h_1 h_2 h_3; refine (CB.out _).mono ?_; rintro _ w1 ⟨rfl, hb⟩; obtain ⟨J3, U4, J4, HRR, HF, U1, B⟩ := qG hb J3 U4 J4 HRR HF U1 B; clear hb; obtain ⟨U3, I4, X3, V3⟩ := jz J3.out; obtain ⟨I5, Y5, X5, V5⟩ := jz U4.out; obtain ⟨V4, G5, F5, D5⟩ := jz J4.out
 go_wp2_with fail
 refine (CM.out _).mono ?_; rintro _ w2 ⟨rfl, hb⟩; obtain ⟨J3, U4, J4, HRR, HF, U1, B⟩ := qG hb J3 U4 J4 HRR HF U1 B; clear hb; clear U3 I4 X3 V3 I5 Y5 X5 V5 V4 G5 F5 D5; have q_0 := fun o1 o2 => (U0.alloc (U0.alloc J4.out o1) o2) 0 (by omega)
 have q_1 := fun o1 o2 => (U0.alloc (U0.alloc J4.out o1) o2) 1 (by omega)
 have q_2 := fun o1 o2 => (U0.alloc (U0.alloc J4.out o1) o2) 2 (by omega)
 have q_3 := fun o1 o2 => (U0.alloc (U0.alloc J4.out o1) o2) 3 (by omega)
 obtain ⟨ww, eww⟩ := je ((w2.alloc (.cells (jD x) 24)).alloc (.cells (jD y) 24)); have hb : Below w2.heap.size w2 ww := by rw [eww]; exact (ja).alloc (by simp) _
 go_wp2_with fail
 rw [← eww]; clear eww q_0 q_1 q_2 q_3; obtain ⟨J3, U4, J4, HRR, HF, U1, B⟩ := qG hb J3 U4 J4 HRR HF U1 B; clear hb; refine (CW.out _).mono ?_; rintro _ w3 ⟨rfl, hb⟩; obtain ⟨J3, U4, J4, HRR, HF, U1, B⟩ := qG hb J3 U4 J4 HRR HF U1 B; clear hb; obtain ⟨c0, c1, c2, c3, f0, f1, f2, f3⟩ := jL HRR.out HF.out
 go_wp2_with fail
 obtain ⟨Q7, B9⟩ := zw HRR B D6 q; have hba : ∀ W : World, Below W.heap.size W (W.alloc (.cells #[.int .u64 (jf jd q 0), .int .u64 (jf jd q 1), .int .u64 (jf jd q 2), .int .u64 (jf jd q 3)] 24)) := fun W => ja
 have B9 := jh (jk B9.out (hba _)); have Q7 := jh (U0.later (hba _) Q7.out); clear hba; obtain ⟨g0, g1, g2, g3⟩ := jz Q7.out; refine bodyPost_ret (v := jj q) ?_ rfl ⟨rfl, B9.out⟩
 simp [results, Tryz.results208, go_sem, jj, words, g0, g1, g2, g3]
theorem wI {a b m : Nat} (ha : a < m) (hb : b < m) (hm : m < jo) (w : World) : Calls Tryz.prog 208 #[jj a, jj b, jj m] w fun e w' => e = .returned (jj (a * b % m)) ∧ Below w.heap.size w w' := by
 rcases Nat.lt_or_ge m jd with h | h
 ·exact UO ha hb h w
 ·exact GR ha hb h hm w
theorem Jl {a b : Nat} (h : a < b) : qL a b = -1 := by unfold qL; rw [if_pos h]
theorem zX {a b : Nat} (h : b < a) : qL a b = 1 := by unfold qL; rw [if_neg (by omega), if_neg (by omega)]
theorem lS {a b m q : Nat} (ha : a < m) (Z4 : b < m) (h1 : 1 < m) (hm : m < jo) {f : FuncId} {caps : Array Value} (w : World) (hent : ∀ (args : Array Value) (W : World), (callFunc f args).run Tryz.prog W = .ok (.enter f args) W)
  (hdo : ∀ W, Below w.heap.size w W → Calls Tryz.prog f (#[jj a, jj b, jj m] ++ caps) W fun e w' => e = .returned (jj q) ∧ Below W.heap.size W w') :
  Calls Tryz.prog 209 #[.agg #[.func (.func f) #[] caps], jj a, jj b, jj m] w fun e w' => e = .returned (.tuple #[jj q, .int .i64 0]) ∧ Below w.heap.size w w' := by
 have ha8 := Nat.lt_trans ha hm; have hb8 := Nat.lt_trans Z4 hm; have C1 := jh (fun w => by have h := zx 1 1 rfl (by decide) w; unfold jj words at h; exact h); have K1 := jh (fun w => by have h := qP hm (show 1 < jo by decide) w; rw [zX h1] at h; unfold jj words at h; exact h); have K2 := jh (fun w => by have h := qP ha8 hm w; rw [Jl ha] at h; unfold jj words at h; exact h); have K3 := jh (fun w => by have h := qP hb8 hm w; rw [Jl Z4] at h; unfold jj words at h; exact h); have HE := jh hent; have HD := jh hdo; clear ha Z4 h1 hm ha8 hb8 hent hdo; unfold jj words at *
 go_enter Tryz.func209, Tryz.ntmps209
 go_wp2_with fail
 obtain ⟨w0, e0⟩ := je (w.alloc (.cells #[.func (.func f) #[] caps] 272)); obtain ⟨DD, hDD⟩ := je (w.heap.size); have b0 := jc e0; have s0 : w0.heap.size = w.heap.size + 1 := by rw [e0]; simp
 have d0 : w0.cell? ⟨DD, 0, none⟩ = some (.func (.func f) #[] caps) := by rw [e0, hDD]; simp
 rw [← e0, ← s0, ← hDD]; have HB0 := jh b0; have hD0 : DD < w0.heap.size := by omega
 clear e0 hDD b0 s0; obtain ⟨wz, AA, BB, MM, RR, e9, J5, h_1, h_2, h_3, J3, U4, J4, HRR, HF, B, V8, LC, TC, PI, Y9, D6, U1⟩ := zC w0 24 a b m; rw [e9, J5, h_1, h_2, h_3]; clear e9 J5 h_1 h_2 h_3; have D0 := jh ((B.out.cell (p := ⟨DD, 0, none⟩) hD0).trans d0); have hD1 : DD < wz.heap.size := Nat.lt_of_lt_of_le hD0 B.out.size; clear d0; refine js 16 (fun _ => none) (by kernel_rfl) (by kernel_rfl) (fun _ _ _ _ _ h => h) (fun F X8 hcl hbl => ?_); have U3 := jr hbl J3 0 (by omega); have I4 := jr hbl J3 1 (by omega); have X3 := jr hbl J3 2 (by omega); have V3 := jr hbl J3 3 (by omega); have I5 := jr hbl U4 0 (by omega); have Y5 := jr hbl U4 1 (by omega); have X5 := jr hbl U4 2 (by omega); have V5 := jr hbl U4 3 (by omega); have V4 := jr hbl J4 0 (by omega); have G5 := jr hbl J4 1 (by omega); have F5 := jr hbl J4 2 (by omega); have D5 := jr hbl J4 3 (by omega); have U5 := jh hcl; clear hcl hbl; refine jN 16 0 _ _ (fun _ _ _ => rfl) (by decide) ?_; simp only [List.take_succ_cons, List.take_zero, List.drop_succ_cons, List.drop_zero, Nat.reduceAdd]
 repeat (go_big_quiet_step ((first | (go_at_call 194; with_reducible exact jq U5.out (C1.out _)) | (go_at_call 201; with_reducible exact jq U5.out (K1.out _)) | (go_at_call 201; with_reducible exact jq U5.out (K2.out _)) | (go_at_call 201; with_reducible exact jq U5.out (K3.out _)))))
 refine wpQuiet_nil ?_; refine jR ?_; intro bs w2 hb _ _; clear U3 I4 X3 V3 I5 Y5 X5 V5 V4 G5 F5 D5; have D0 := jh ((hb.cell (p := ⟨DD, 0, none⟩) hD1).trans D0.out); obtain ⟨J3, U4, J4, HRR, HF, U1, B⟩ := qG hb J3 U4 J4 HRR HF U1 B; clear hb; simp only [over]; have d0 := D0.out; obtain ⟨U3, I4, X3, V3⟩ := jz J3.out; obtain ⟨I5, Y5, X5, V5⟩ := jz U4.out; obtain ⟨V4, G5, F5, D5⟩ := jz J4.out; have he := HE.out
 go_wp2_with fail
 clear U3 I4 X3 V3 I5 Y5 X5 V5 V4 G5 F5 D5; refine (HD.out w2 (jk HB0.out B.out)).mono ?_; rintro _ w3 ⟨rfl, hb⟩; clear d0 he; obtain ⟨J3, U4, J4, HRR, HF, U1, B⟩ := qG hb J3 U4 J4 HRR HF U1 B; clear hb; obtain ⟨c0, c1, c2, c3, f0, f1, f2, f3⟩ := jL HRR.out HF.out
 go_wp2_with fail
 obtain ⟨Q7, B9⟩ := zw HRR B D6 q; obtain ⟨g0, g1, g2, g3⟩ := jz Q7.out; refine bodyPost_ret (v := .tuple #[jj q, .int .i64 0]) ?_ rfl ⟨rfl, jk HB0.out B9.out⟩
 simp [results, Tryz.results209, go_sem, jj, words, g0, g1, g2, g3]
theorem pow_start {a n m B : Nat} (hB : n < 2 ^ B) (h1 : 1 < m) : 1 = a ^ (n / 2 ^ (B - 0)) % m := by
 rw [Nat.sub_zero, Nat.div_eq_of_lt hB, Nat.pow_zero, Nat.mod_eq_of_lt h1]
theorem eP {n B k : Nat} (hk : k < B) : n / 2 ^ (B - (k + 1)) = 2 * (n / 2 ^ (B - k)) + n / 2 ^ (B - 1 - k) % 2 := by
 obtain ⟨i, hi⟩ := je (B - (k + 1)); rw [show B - k = i + 1 by omega, show B - 1 - k = i by omega, ← hi, Nat.pow_succ, ← Nat.div_div_eq_div_mul]; omega
theorem pow_even {a n m o B k : Nat} (hk : k < B) (h : o = a ^ (n / 2 ^ (B - k)) % m) (hb : n / 2 ^ (B - 1 - k) % 2 = 0) : o * o % m = a ^ (n / 2 ^ (B - (k + 1))) % m := by
 rw [eP hk, hb, h, Nat.add_zero, Nat.mul_comm 2, Nat.pow_mul, Nat.pow_two, ← Nat.mul_mod]
theorem pow_odd {a n m o B k : Nat} (hk : k < B) (h : o = a ^ (n / 2 ^ (B - k)) % m) (hb : n / 2 ^ (B - 1 - k) % 2 = 1) : o * o % m * a % m = a ^ (n / 2 ^ (B - (k + 1))) % m := by
 rw [eP hk, hb, h, Nat.pow_succ, Nat.mul_comm 2, Nat.pow_mul, Nat.pow_two, ← Nat.mul_mod, Nat.mul_mod (_ % m) a m, Nat.mod_mod, ← Nat.mul_mod]
theorem pow_end {a n m o B : Nat} (h : o = a ^ (n / 2 ^ (B - B)) % m) : o = a ^ n % m := by rw [h, Nat.sub_self, Nat.pow_zero, Nat.div_one]
theorem Qe {n : Nat} (hn : n < jo) : jX n ≤ 256 := by
 have h := zJ n
 rcases Nat.lt_or_ge 256 (jX n) with h9 | h9
 ·have h0 : n ≠ 0 := by rintro rfl; simp [jX] at h9
  have h8 := h.2 h0; have h7 : 2 ^ 256 ≤ 2 ^ (jX n - 1) := Nat.pow_le_pow_right (by omega) (by omega); rw [← dC] at h7; omega
 ·exact h9
theorem KE {n j : Nat} (hj : j < 256) : Ju n ((j : Nat) : Int) = n / 2 ^ j % 2 := by
 unfold Ju; rw [if_neg (by omega), Int.toNat_natCast]
theorem MW {a n m : Nat} (ha : a < m) (h1 : 1 < m) (hm : m < jo) (hn : n < jo) {f : FuncId} {caps : Array Value} (w : World) (hent : ∀ (args : Array Value) (W : World), (callFunc f args).run Tryz.prog W = .ok (.enter f args) W)
  (ht : ∀ x y W, x < m → y < m → Below w.heap.size w W → Calls Tryz.prog f (#[jj x, jj y] ++ caps) W fun e w' => e = .returned (jj (x * y % m)) ∧ Below W.heap.size W w') :
  Calls Tryz.prog 206 #[jj a, jj 1, jj n, .func (.func f) #[] caps] w fun e w' => e = .returned (jj (a ^ n % m)) ∧ Below w.heap.size w w' := by
 obtain ⟨L, hL⟩ := je (jX n); have hL2 : L ≤ 256 := by rw [hL]; exact Qe hn
 have hLn : n < 2 ^ L := by rw [hL]; exact (zJ n).1
 have CB := jh (fun w => by have h := JT hn w; rw [← hL] at h; unfold jj words at h; exact h); have HE := jh hent; have HT := jh ht; have HAM := jh ha; have EJ := jh hn; have yU := jh h1; have HLn := jh hLn; obtain ⟨Q, hQ⟩ := je (a ^ n % m); rw [← hQ]; have HQ := jh hQ; clear hL hLn hQ ha hn hent ht; unfold jj words at *
 go_enter Tryz.func206, Tryz.ntmps206
 go_wp2_with fail
 obtain ⟨wz, AA, BB, NN, RR, e9, J5, h_1, h_2, h_3, J3, U4, Z5, HRR, HF, B, V8, LC, TC, PI, Y9, D6, U1⟩ := zC w 24 a 1 n; rw [e9, J5, h_1, h_2, h_3]; clear e9 J5 h_1 h_2 h_3; obtain ⟨I5, Y5, X5, V5⟩ := jz U4.out; obtain ⟨V6, U6, P6, O6⟩ := jz Z5.out
 go_wp2_with fail
 obtain ⟨w1, e1⟩ := je (wz.alloc (.cells #[.int .u64 (jf jd 1 0), .int .u64 (jf jd 1 1), .int .u64 (jf jd 1 2), .int .u64 (jf jd 1 3)] 24)); have hb := jc e1; obtain ⟨OO, hO9⟩ := je (RR + 1); rw [← e1, ← hO9]; have hO : OO = wz.heap.size := by rw [hO9, V8.out]
 have W9 := jh (show U0 w1 OO 1 by rw [e1]; exact U0.new wz 1 _ _ hO); have MJ := jh (show Y0 w1 OO 4 by rw [e1]; exact Y0.made wz _ _ 4 _ hO); have rH : OO < w1.heap.size := by rw [e1, hO]; simp
 have hRO : RR < OO := by omega
 have IY : w.heap.size ≤ OO := by have := B.out.size; omega
 clear e1 hO hO9; clear I5 Y5 X5 V5 V6 U6 P6 O6; obtain ⟨J3, U4, Z5, HRR, HF, U1, B⟩ := qG hb J3 U4 Z5 HRR HF U1 B; clear hb; refine (CB.out _).mono ?_; rintro _ w2 ⟨rfl, hb⟩; have MJ := jh (MJ.out.later hb rH); have rH := Nat.lt_of_lt_of_le rH hb.size; have J3 := jn hb J3; obtain ⟨U4, Z5, HRR, W9, HF, U1, B⟩ := qG hb U4 Z5 HRR W9 HF U1 B; clear hb
 go_wp2_with fail
 go_loopw [14] (fun i wr => ∃ k o : Nat, k ≤ L ∧ i = .int .i64 k ∧ o < m ∧ Hid (o = a ^ (n / 2 ^ (L - k)) % m) ∧ Hid (U0 wr OO o) ∧ Hid (Y0 wr OO 4) ∧ Hid (U0 wr AA a) ∧ Hid (U0 wr BB 1) ∧ Hid (U0 wr NN n) ∧ Hid (U0 wr RR 0) ∧ Hid (Y0 wr RR 4) ∧ Hid (Below w.heap.size w wr) ∧ OO < wr.heap.size) (fun i _ => L - (intOf i).toNat)
 case atStart => exact ⟨0, 1, Nat.zero_le _, rfl, h1, jh (pow_start HLn.out h1), W9, MJ, J3, U4, Z5, HRR, HF, B, rH⟩
 case round =>
  clear W9 MJ J3 U4 Z5 HRR HF B rH; obtain ⟨k, o, hk, rfl, iT, HO, W9, MJ, J3, U4, Z5, HRR, HF, B, rH⟩ := hrel; have U1 : RR < wr.heap.size := by omega
  have nOA : AA ≠ OO := by omega
  have nOB : BB ≠ OO := by omega
  have nON : NN ≠ OO := by omega
  have nOR : RR ≠ OO := by omega
  by_cases hlt : k < L
  ·have N8 : (k : Int) < (L : Int) := by omega
   obtain ⟨oo, hoo⟩ := je (o * o % m); have hoom : oo < m := by rw [hoo]; exact Nat.mod_lt _ (by omega)
   have C2 := jh (fun W hb => by have h := HT.out o o W iT iT hb; rw [← hoo] at h; exact h); obtain ⟨j, hj⟩ := je (L - 1 - k); have eI : ((L : Int) - 1 - (k : Int)) = (j : Int) := by omega
   obtain ⟨b, hb⟩ := je (n / 2 ^ j % 2); have CT := jh (fun w => by have h := tH (a := n) (j : Int) w (by omega) (by omega); rw [KE (by omega), ← hb] at h; unfold jj words at h; exact h); have he := HE.out; obtain ⟨r0, r1, r2, r3, f0, f1, f2, f3⟩ := jL W9.out MJ.out; have hb2 : b = 0 ∨ b = 1 := by omega
   have HB := jh (show b = n / 2 ^ (L - 1 - k) % 2 by rw [hb, hj]); have HOO2 := jh hoo; clear hb hoo hj
   go_wp2_with fail
   refine (C2.out _ B.out).mono ?_; rintro _ w3 ⟨rfl, hb⟩; clear r0 r1 r2 r3 f0 f1 f2 f3 he; have MJ := jh (MJ.out.later hb rH); have rH := Nat.lt_of_lt_of_le rH hb.size; have J3 := jn hb J3; obtain ⟨U4, Z5, HRR, W9, HF, U1, B⟩ := qG hb U4 Z5 HRR W9 HF U1 B; clear hb; obtain ⟨r0, r1, r2, r3, f0, f1, f2, f3⟩ := jL W9.out MJ.out
   go_wp2_with fail
   clear r0 r1 r2 r3 f0 f1 f2 f3; obtain ⟨w4, e9⟩ := je ((((w3.setCell ⟨OO, 0, none⟩ (.int .u64 (jf jd oo 0))).setCell ⟨OO, 1, none⟩ (.int .u64 (jf jd oo 1))).setCell ⟨OO, 2, none⟩ (.int .u64 (jf jd oo 2))).setCell ⟨OO, 3, none⟩ (.int .u64 (jf jd oo 3))); have W9 := jh (show U0 w4 OO oo by rw [e9]; exact U0.set4 W9.out _); have MJ := jh (show Y0 w4 OO 4 by rw [e9]; exact MJ.out.set4 _ _ _ _ _ _ _ _); have J3 := jh (show U0 w4 AA _ by rw [e9]; exact U0.other4 J3.out nOA _ _ _ _); have U4 := jh (show U0 w4 BB _ by rw [e9]; exact U0.other4 U4.out nOB _ _ _ _); have Z5 := jh (show U0 w4 NN _ by rw [e9]; exact U0.other4 Z5.out nON _ _ _ _); have HRR := jh (show U0 w4 RR _ by rw [e9]; exact U0.other4 HRR.out nOR _ _ _ _); have HF := jh (show Y0 w4 RR 4 by rw [e9]; exact HF.out.set4 _ _ _ _ _ _ _ _); have B := jh (show Below w.heap.size w w4 by rw [e9]; exact jK B.out IY _ _ _ _); have hsz : w4.heap.size = w3.heap.size := by rw [e9]; simp
   have rH : OO < w4.heap.size := by rw [hsz]; exact rH
   have U1 : RR < w4.heap.size := by omega
   rw [← e9]; clear e9 hsz
   rcases hb2 with rfl | rfl
   ·skip
    refine js 8 (fun _ => none) (by kernel_rfl) (by kernel_rfl) (fun _ _ _ _ _ h => h) (fun F X8 hcl hbl => ?_); have V6 := jr hbl Z5 0 (by omega); have U6 := jr hbl Z5 1 (by omega); have P6 := jr hbl Z5 2 (by omega); have O6 := jr hbl Z5 3 (by omega); have U5 := jh hcl; clear hcl hbl; refine jN 8 0 _ _ (fun _ _ _ => rfl) (by decide) ?_; simp only [List.take_succ_cons, List.take_zero, List.drop_succ_cons, List.drop_zero, Nat.reduceAdd]
    repeat (go_big_quiet_step ((first | (go_at_call 195; with_reducible exact jq U5.out (CB.out _)) | (go_at_call 170; with_reducible exact jq U5.out (CT.out _)))))
    refine wpQuiet_nil ?_; refine jR ?_; intro bs w5 hb _ _; clear V6 U6 P6 O6; have MJ := jh (MJ.out.later hb rH); have rH := Nat.lt_of_lt_of_le rH hb.size; have J3 := jn hb J3; obtain ⟨U4, Z5, HRR, W9, HF, U1, B⟩ := qG hb U4 Z5 HRR W9 HF U1 B; clear hb; simp only [over]
    go_wp2_with fail
    have PK := jh (show oo = a ^ (n / 2 ^ (L - (k + 1))) % m by rw [HOO2.out]; exact pow_even hlt HO.out HB.out.symm)
    go_roundw
    case rel => exact ⟨k + 1, oo, by omega, by go_num, hoom, PK, W9, MJ, J3, U4, Z5, HRR, HF, B, rH⟩
    case measure => simp [intOf]; omega
   ·skip
    refine js 8 (fun _ => none) (by kernel_rfl) (by kernel_rfl) (fun _ _ _ _ _ h => h) (fun F X8 hcl hbl => ?_); have V6 := jr hbl Z5 0 (by omega); have U6 := jr hbl Z5 1 (by omega); have P6 := jr hbl Z5 2 (by omega); have O6 := jr hbl Z5 3 (by omega); have U5 := jh hcl; clear hcl hbl; refine jN 8 0 _ _ (fun _ _ _ => rfl) (by decide) ?_; simp only [List.take_succ_cons, List.take_zero, List.drop_succ_cons, List.drop_zero, Nat.reduceAdd]
    repeat (go_big_quiet_step ((first | (go_at_call 195; with_reducible exact jq U5.out (CB.out _)) | (go_at_call 170; with_reducible exact jq U5.out (CT.out _)))))
    refine wpQuiet_nil ?_; refine jR ?_; intro bs w5 hb _ _; clear V6 U6 P6 O6; have MJ := jh (MJ.out.later hb rH); have rH := Nat.lt_of_lt_of_le rH hb.size; have J3 := jn hb J3; obtain ⟨U4, Z5, HRR, W9, HF, U1, B⟩ := qG hb U4 Z5 HRR W9 HF U1 B; clear hb; simp only [over]; obtain ⟨q2, hq2⟩ := je (oo * a % m); have hq2m : q2 < m := by rw [hq2]; exact Nat.mod_lt _ (by omega)
    have C3 := jh (fun W hb => by have h := HT.out oo a W hoom HAM.out hb; rw [← hq2] at h; exact h); have PK := jh (show q2 = a ^ (n / 2 ^ (L - (k + 1))) % m by rw [hq2, HOO2.out]; exact pow_odd hlt HO.out HB.out.symm); clear hq2; have he := HE.out; obtain ⟨r0, r1, r2, r3⟩ := jz W9.out; obtain ⟨s0, s1, s2, s3⟩ := jz J3.out
    go_wp2_with fail
    refine (C3.out _ B.out).mono ?_; rintro _ w6 ⟨rfl, hb⟩; clear r0 r1 r2 r3 s0 s1 s2 s3 he; have MJ := jh (MJ.out.later hb rH); have rH := Nat.lt_of_lt_of_le rH hb.size; have J3 := jn hb J3; obtain ⟨U4, Z5, HRR, W9, HF, U1, B⟩ := qG hb U4 Z5 HRR W9 HF U1 B; clear hb; obtain ⟨r0, r1, r2, r3, f0, f1, f2, f3⟩ := jL W9.out MJ.out
    go_wp2_with fail
    clear r0 r1 r2 r3 f0 f1 f2 f3; obtain ⟨w7, e9⟩ := je ((((w6.setCell ⟨OO, 0, none⟩ (.int .u64 (jf jd q2 0))).setCell ⟨OO, 1, none⟩ (.int .u64 (jf jd q2 1))).setCell ⟨OO, 2, none⟩ (.int .u64 (jf jd q2 2))).setCell ⟨OO, 3, none⟩ (.int .u64 (jf jd q2 3))); have W9 := jh (show U0 w7 OO q2 by rw [e9]; exact U0.set4 W9.out _); have MJ := jh (show Y0 w7 OO 4 by rw [e9]; exact MJ.out.set4 _ _ _ _ _ _ _ _); have J3 := jh (show U0 w7 AA _ by rw [e9]; exact U0.other4 J3.out nOA _ _ _ _); have U4 := jh (show U0 w7 BB _ by rw [e9]; exact U0.other4 U4.out nOB _ _ _ _); have Z5 := jh (show U0 w7 NN _ by rw [e9]; exact U0.other4 Z5.out nON _ _ _ _); have HRR := jh (show U0 w7 RR _ by rw [e9]; exact U0.other4 HRR.out nOR _ _ _ _); have HF := jh (show Y0 w7 RR 4 by rw [e9]; exact HF.out.set4 _ _ _ _ _ _ _ _); have B := jh (show Below w.heap.size w w7 by rw [e9]; exact jK B.out IY _ _ _ _); have hsz : w7.heap.size = w6.heap.size := by rw [e9]; simp
    have rH : OO < w7.heap.size := by rw [hsz]; exact rH
    have U1 : RR < w7.heap.size := by omega
    rw [← e9]; clear e9 hsz
    go_roundw
    case rel => exact ⟨k + 1, q2, by omega, by go_num, hq2m, PK, W9, MJ, J3, U4, Z5, HRR, HF, B, rH⟩
    case measure => simp [intOf]; omega
  ·have hkL : k = L := by omega
   rw [hkL] at HO ⊢; have N8 : ¬ ((L : Int) < (L : Int)) := by omega
   have HOQ := jh (show o = Q by rw [HQ.out]; exact pow_end HO.out); clear hkL HO; obtain ⟨r_OO_0, r_OO_1, r_OO_2, r_OO_3⟩ := jz W9.out; obtain ⟨c0, c1, c2, c3, f0, f1, f2, f3⟩ := jL HRR.out HF.out
   go_wp2_with fail
   rw [HOQ.out]; obtain ⟨Q7, B9⟩ := zw HRR B D6 Q; obtain ⟨g0, g1, g2, g3⟩ := jz Q7.out; refine bodyPost_ret (v := jj Q) ?_ rfl ⟨rfl, B9.out⟩
   simp [results, Tryz.results206, go_sem, jj, words, g0, g1, g2, g3]
theorem aS {a n m : Nat} (ha : a < m) (h1 : 1 < m) (hn : n < jo) {f : FuncId} {caps : Array Value} (w : World) (hent : ∀ (args : Array Value) (W : World), (callFunc f args).run Tryz.prog W = .ok (.enter f args) W)
  (ht : ∀ x y W, x < m → y < m → Below w.heap.size w W → Calls Tryz.prog f (#[.int .u64 (x : Nat), .int .u64 (y : Nat)] ++ caps) W fun e w' => e = .returned (.int .u64 ((x * y % m : Nat) : Int)) ∧ Below W.heap.size W w') :
  Calls Tryz.prog 203 #[.int .u64 (a : Nat), .int .u64 1, jj n, .func (.func f) #[] caps] w fun e w' => e = .returned (.int .u64 ((a ^ n % m : Nat) : Int)) ∧ Below w.heap.size w w' := by
 obtain ⟨L, hL⟩ := je (jX n); have hL2 : L ≤ 256 := by rw [hL]; exact Qe hn
 have hLn : n < 2 ^ L := by rw [hL]; exact (zJ n).1
 have CB := jh (fun w => by have h := JT hn w; rw [← hL] at h; unfold jj words at h; exact h); have HE := jh hent; have HT := jh ht; have HAM := jh ha; have EJ := jh hn; have yU := jh h1; have HLn := jh hLn; obtain ⟨Q, hQ⟩ := je (a ^ n % m); rw [← hQ]; have HQ := jh hQ; clear hL hLn hQ ha hn hent ht; unfold jj words at *
 go_enter Tryz.func203, Tryz.ntmps203
 go_wp2_with fail
 obtain ⟨wz, NN, e9, J5, Z5, B, V8, Y9, hwNN, U1⟩ := Zp w 24 n; rw [e9, J5]; clear e9 J5; obtain ⟨V6, U6, P6, O6⟩ := jz Z5.out
 go_wp2_with fail
 clear V6 U6 P6 O6; refine (CB.out _).mono ?_; rintro _ w2 ⟨rfl, hb⟩; obtain ⟨Z5, U1, B⟩ := Zn hb Z5 U1 B; clear hb
 go_wp2_with fail
 go_loopw [9, 14] (fun ov i wr => ∃ k o : Nat, k ≤ L ∧ i = .int .i64 k ∧ ov = .int .u64 o ∧ o < m ∧ Hid (o = a ^ (n / 2 ^ (L - k)) % m) ∧ Hid (U0 wr NN n) ∧ Hid (Below w.heap.size w wr) ∧ NN < wr.heap.size) (fun _ i _ => L - (intOf i).toNat)
 case atStart => exact ⟨0, 1, Nat.zero_le _, rfl, rfl, h1, jh (pow_start HLn.out h1), Z5, B, U1⟩
 case round =>
  clear Z5 B U1; obtain ⟨k, o, hk, rfl, rfl, iT, HO, Z5, B, U1⟩ := hrel
  by_cases hlt : k < L
  ·have N8 : (k : Int) < (L : Int) := by omega
   obtain ⟨oo, hoo⟩ := je (o * o % m); have hoom : oo < m := by rw [hoo]; exact Nat.mod_lt _ (by omega)
   have C2 := jh (fun W hb => by have h := HT.out o o W iT iT hb; rw [← hoo] at h; exact h); obtain ⟨j, hj⟩ := je (L - 1 - k); have eI : ((L : Int) - 1 - (k : Int)) = (j : Int) := by omega
   obtain ⟨b, hb⟩ := je (n / 2 ^ j % 2); have CT := jh (fun w => by have h := tH (a := n) (j : Int) w (by omega) (by omega); rw [KE (by omega), ← hb] at h; unfold jj words at h; exact h); have he := HE.out; have hb2 : b = 0 ∨ b = 1 := by omega
   have HB := jh (show b = n / 2 ^ (L - 1 - k) % 2 by rw [hb, hj]); have HOO2 := jh hoo; clear hb hoo hj
   go_wp2_with fail
   refine (C2.out _ B.out).mono ?_; rintro _ w3 ⟨rfl, hb⟩; clear he; obtain ⟨Z5, U1, B⟩ := Zn hb Z5 U1 B; clear hb
   go_wp2_with fail
   rcases hb2 with rfl | rfl
   ·skip
    refine js 8 (fun _ => none) (by kernel_rfl) (by kernel_rfl) (fun _ _ _ _ _ h => h) (fun F X8 hcl hbl => ?_); have V6 := jr hbl Z5 0 (by omega); have U6 := jr hbl Z5 1 (by omega); have P6 := jr hbl Z5 2 (by omega); have O6 := jr hbl Z5 3 (by omega); have U5 := jh hcl; clear hcl hbl; refine jN 8 0 _ _ (fun _ _ _ => rfl) (by decide) ?_; simp only [List.take_succ_cons, List.take_zero, List.drop_succ_cons, List.drop_zero, Nat.reduceAdd]
    repeat (go_big_quiet_step ((first | (go_at_call 195; with_reducible exact jq U5.out (CB.out _)) | (go_at_call 170; with_reducible exact jq U5.out (CT.out _)))))
    refine wpQuiet_nil ?_; refine jR ?_; intro bs w5 hb _ _; clear V6 U6 P6 O6; obtain ⟨Z5, U1, B⟩ := Zn hb Z5 U1 B; clear hb; simp only [over]
    go_wp2_with fail
    have PK := jh (show oo = a ^ (n / 2 ^ (L - (k + 1))) % m by rw [HOO2.out]; exact pow_even hlt HO.out HB.out.symm)
    go_roundw
    case rel => exact ⟨k + 1, oo, by omega, by go_num, rfl, hoom, PK, Z5, B, U1⟩
    case measure => simp [intOf]; omega
   ·skip
    refine js 8 (fun _ => none) (by kernel_rfl) (by kernel_rfl) (fun _ _ _ _ _ h => h) (fun F X8 hcl hbl => ?_); have V6 := jr hbl Z5 0 (by omega); have U6 := jr hbl Z5 1 (by omega); have P6 := jr hbl Z5 2 (by omega); have O6 := jr hbl Z5 3 (by omega); have U5 := jh hcl; clear hcl hbl; refine jN 8 0 _ _ (fun _ _ _ => rfl) (by decide) ?_; simp only [List.take_succ_cons, List.take_zero, List.drop_succ_cons, List.drop_zero, Nat.reduceAdd]
    repeat (go_big_quiet_step ((first | (go_at_call 195; with_reducible exact jq U5.out (CB.out _)) | (go_at_call 170; with_reducible exact jq U5.out (CT.out _)))))
    refine wpQuiet_nil ?_; refine jR ?_; intro bs w5 hb _ _; clear V6 U6 P6 O6; obtain ⟨Z5, U1, B⟩ := Zn hb Z5 U1 B; clear hb; simp only [over]; obtain ⟨q2, hq2⟩ := je (oo * a % m); have hq2m : q2 < m := by rw [hq2]; exact Nat.mod_lt _ (by omega)
    have C3 := jh (fun W hb => by have h := HT.out oo a W hoom HAM.out hb; rw [← hq2] at h; exact h); have PK := jh (show q2 = a ^ (n / 2 ^ (L - (k + 1))) % m by rw [hq2, HOO2.out]; exact pow_odd hlt HO.out HB.out.symm); clear hq2; have he := HE.out
    go_wp2_with fail
    refine (C3.out _ B.out).mono ?_; rintro _ w6 ⟨rfl, hb⟩; clear he; obtain ⟨Z5, U1, B⟩ := Zn hb Z5 U1 B; clear hb
    go_wp2_with fail
    go_roundw
    case rel => exact ⟨k + 1, q2, by omega, by go_num, rfl, hq2m, PK, Z5, B, U1⟩
    case measure => simp [intOf]; omega
  ·have hkL : k = L := by omega
   rw [hkL] at HO ⊢; have N8 : ¬ ((L : Int) < (L : Int)) := by omega
   have HOQ := jh (show o = Q by rw [HQ.out]; exact pow_end HO.out); clear hkL HO
   go_wp2_with fail
   rw [HOQ.out]; refine bodyPost_ret (v := .int .u64 (Q : Nat)) ?_ rfl ⟨rfl, B.out⟩
   simp [results, Tryz.results203, go_sem]
end Go.Proofs.YtmijablfjigbhaaGreatDoor
