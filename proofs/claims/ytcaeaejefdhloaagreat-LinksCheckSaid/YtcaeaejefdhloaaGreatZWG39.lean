/- Layer 20 (links) -/
import Derived.Test.YtcaeaejefdhloaaGreatZWG38
import Derived.Test.YtcaeaejefdhloaaGreatZWG36
set_option linter.unusedSimpArgs false
set_option linter.unusedVariables false
set_option maxHeartbeats 8000000
set_option maxRecDepth 100000
namespace Go.Proofs.YtcaeaejefdhloaaGreat
open Go.ChangeShapes Go.WideShapes Go.ChangeAt Go.RowKit
attribute [local go_sem] Oper.semAt_some
def JL (gp : Nat) (xs ns : List Nat) (k : Nat) : Nat := ((xs.zip ns).take k).foldl (fun o p => o * (p.1 ^ p.2 % gp) % gp) 1
theorem JW {gp k : Nat} {xs ns : List Nat} (h : k < xs.length) (hl : ns.length = xs.length) : JL gp xs ns (k + 1) = JL gp xs ns k * (xs.getD k 0 ^ ns.getD k 0 % gp) % gp := by
 unfold JL; rw [List.take_add_one, List.foldl_append, List.getElem?_eq_getElem (by simp; omega)]
 simp [List.getD_eq_getElem?_getD, List.getElem?_eq_getElem h, List.getElem?_eq_getElem (show k < ns.length by omega)]
theorem prodN_lt {gp : Nat} (hp : 1 < gp) (xs ns : List Nat) (k : Nat) (hk : k ≤ xs.length) (hl : ns.length = xs.length) : JL gp xs ns k < gp := by
 cases k with
 | zero => simp [JL]; exact hp
 | succ k => rw [JW (by omega) hl]; exact Nat.mod_lt _ (by omega)
structure ProdAt (w w5 : World) (G OB R6 R7 gp gq gg gh o : Nat) (W : World) : Prop where
 o : NumAt W OB o
 f : FreeN W OB 4
 g : GrpAt W G gp gq gg gh
 r : NumAt W R6 0
 rf : FreeN W R6 4
 e : W.cell? ⟨R7, 0, none⟩ = some (.int .i64 0)
 ef : W.frozen? ⟨R7, 0, none⟩ = false
 b : Below w.heap.size w W
 s : w5.heap.size ≤ W.heap.size
theorem ProdAt.later {w w5 W W' : World} {G OB R6 R7 gp gq gg gh o : Nat} (h : ProdAt w w5 G OB R6 R7 gp gq gg gh o W) (hb : Below W.heap.size W W') : ProdAt w w5 G OB R6 R7 gp gq gg gh o W' :=
 ⟨NumAt.later hb h.o, h.f.later hb (NumAt.lt h.o), h.g.later hb, NumAt.later hb h.r, h.rf.later hb (NumAt.lt h.r), jm h.e hb, (hb.frozen (World.block_lt_of_cell? (a := ⟨R7, 0, none⟩) _ h.e)).trans h.ef, jk h.b hb, Nat.le_trans h.s hb.size⟩
theorem ProdAt.putObj {w w5 W : World} {G OB R6 R7 gp gq gg gh o l : Nat} {o1 o2 : Obj} (h : ProdAt w w5 G OB R6 R7 gp gq gg gh o W) (hl : w.heap.size ≤ l) (h1 : W.heap[l]? = some o1) (h2 : o1.isCells = false) : ProdAt w w5 G OB R6 R7 gp gq gg gh o (W.putObj l o2) :=
 ⟨fun j hj => zH h1 h2 (h.o j hj), fun j hj => by
   by_cases hj4 : j < 4
   ·exact QR h1 h2 (h.o j hj4) (h.f j hj)
   ·omega,
  ⟨fun j hj => zH h1 h2 (h.g.1 j hj), fun j hj => zH h1 h2 (h.g.2.1 j hj), fun j hj => zH h1 h2 (h.g.2.2.1 j hj), fun j hj => zH h1 h2 (h.g.2.2.2 j hj)⟩,
  fun j hj => zH h1 h2 (h.r j hj), fun j hj => QR h1 h2 (h.r j hj) (h.rf j hj), zH h1 h2 h.e, QR h1 h2 h.e h.ef,
  ⟨h.b.os, h.b.tape, h.b.output, by simpa using h.b.size, fun g hg => (World.putObj_heap_other (by omega)).trans (h.b.block g hg)⟩, by simpa using h.s⟩
theorem ProdAt.set {w w5 W : World} {G OB R6 R7 gp gq gg gh o : Nat} (h : ProdAt w w5 G OB R6 R7 gp gq gg gh o W) (hO : w.heap.size ≤ OB) (n1 : G ≠ OB) (n2 : R6 ≠ OB) (n3 : R7 ≠ OB) (x : Nat) : ProdAt w w5 G OB R6 R7 gp gq gg gh x ((((W.setCell ⟨OB, 0, none⟩ (.int .u64 (jf jd x 0))).setCell ⟨OB, 1, none⟩ (.int .u64 (jf jd x 1))).setCell ⟨OB, 2, none⟩ (.int .u64 (jf jd x 2))).setCell ⟨OB, 3, none⟩ (.int .u64 (jf jd x 3))) := by
 obtain ⟨W1, hW1⟩ := je (((((W.setCell ⟨OB, 0, none⟩ (.int .u64 (jf jd x 0))).setCell ⟨OB, 1, none⟩ (.int .u64 (jf jd x 1))).setCell ⟨OB, 2, none⟩ (.int .u64 (jf jd x 2))).setCell ⟨OB, 3, none⟩ (.int .u64 (jf jd x 3)))); rw [← hW1]; have hs : ∀ g, g ≠ OB → W1.heap[g]? = W.heap[g]? := fun g hg => by rw [hW1, Below.heap_setCell _ _ _ _ hg, Below.heap_setCell _ _ _ _ hg, Below.heap_setCell _ _ _ _ hg, Below.heap_setCell _ _ _ _ hg]
 have hc : ∀ {p : Addr} {v : Value}, p.block ≠ OB → W.cell? p = some v → W1.cell? p = some v := fun hp h => (World.cell?_of_block (hs _ hp)).trans h
 have hf : ∀ {p : Addr}, p.block ≠ OB → W.frozen? p = false → W1.frozen? p = false := fun hp h => (World.frozen?_of_block (hs _ hp)).trans h
 refine ⟨by rw [hW1]; exact NumAt.set4 h.o x, by rw [hW1]; exact h.f.set4 _ _ _ _ _ _ _ _, ⟨fun j hj => hc n1 (h.g.1 j hj), fun j hj => hc n1 (h.g.2.1 j hj), fun j hj => hc n1 (h.g.2.2.1 j hj), fun j hj => hc n1 (h.g.2.2.2 j hj)⟩,
  fun j hj => hc n2 (h.r j hj), fun j hj => hf n2 (h.rf j hj), hc n3 h.e, hf n3 h.ef, by rw [hW1]; exact jp h.b hO _ _ _ _, by rw [hW1]; simpa using h.s⟩
theorem Product_any {gp gq gg gh ba oa ca bn on cn N : Nat} {xs ns : List Nat} (hp1 : 1 < gp) (hgp : gp < jj) (hx : ∀ x ∈ xs, zL gp x) (hn : ∀ n ∈ ns, n < jj) (hN : N = xs.length) (hln : ns.length = xs.length) (hlen : xs.length ≤ 1000) (w : World) (HX : NumsAt w ba oa xs) (HN : NumsAt w bn on ns) (hba : ba < w.heap.size) (hbn : bn < w.heap.size) :
  Calls Tryz.prog 33 #[jM gp gq gg gh, .slice (some ⟨ba, oa, none⟩) N ca, .slice (some ⟨bn, on, none⟩) N cn] w fun e w' => e = .returned (.tuple #[ji (JL gp xs ns N), .int .i64 0]) ∧ Below w.heap.size w w' := by
 have C1 := jh (fun w => by have h := qO 1 1 rfl (by decide) w; unfold ji words at h; exact h); have CC := jh (fun w => by have h := qt hgp (show 1 < jj by decide) w; rw [zm hp1] at h; unfold ji words at h; exact h); have CE := jh (fun (x n : Nat) (h1 : zL gp x) (h2 : n < jj) (W : World) => by have h9 := gexp_yes (gq := gq) (gg := gg) (gh := gh) h1 (Nat.lt_trans h1.2.2 hgp) h2 hgp W; unfold ji words at h9; exact h9); have CM := jh (fun (x y : Nat) (h1 : x < gp) (h2 : y < gp) (W : World) => by have h9 := Mul_any h1 hp1 h2 hgp W; unfold ji words at h9; exact h9); obtain ⟨Q9, hQ9⟩ := je (JL gp xs ns N); rw [← hQ9]; have HQ9 := jh hQ9; have HXM := jh hx; have HNM := jh hn; have HLN := jh hln; have HN9 := jh hN; have HP1 := jh hp1; have HXX := jh HX; have HNN := jh HN; have hNI : (N : Int) ≤ 1000 := by omega
 clear hQ9 hx hn hln hN hp1 HX HN hgp hlen; unfold ji words jM at *; refine (callsIn_wide (n := 9)).1 ?_; refine callsIn_of_wp_marks Tryz.func33 rfl trivial ?_ rfl; simp only [Tryz.ntmps33, List.size_toArray, List.length_cons, List.length_nil, Nat.reduceAdd, Nat.reduceSub, Array.replicate_succ, Array.replicate_zero, List.push_toArray, List.append_toArray, List.nil_append, List.cons_append]
 gi_wp2_with fail
 obtain ⟨wa, ea⟩ := je (w.alloc (.cells #[.int .u64 (jf jd gp 0), .int .u64 (jf jd gp 1), .int .u64 (jf jd gp 2), .int .u64 (jf jd gp 3), .int .u64 (jf jd gq 0), .int .u64 (jf jd gq 1), .int .u64 (jf jd gq 2), .int .u64 (jf jd gq 3), .int .u64 (jf jd gg 0), .int .u64 (jf jd gg 1), .int .u64 (jf jd gg 2), .int .u64 (jf jd gg 3), .int .u64 (jf jd gh 0), .int .u64 (jf jd gh 1), .int .u64 (jf jd gh 2), .int .u64 (jf jd gh 3)] 26)); obtain ⟨wb, eb⟩ := je (wa.alloc (.cells #[.int .u64 0, .int .u64 0, .int .u64 0, .int .u64 0] 24)); obtain ⟨wc, ec⟩ := je (wb.alloc (.cells #[.int .i64 0] 38)); have sa : wa.heap.size = w.heap.size + 1 := by rw [ea]; simp
 have sb : wb.heap.size = w.heap.size + 1 + 1 := by rw [eb]; simp [sa]
 have sc : wc.heap.size = w.heap.size + 1 + 1 + 1 := by rw [ec]; simp [sb]
 have ba9 := jc ea; have bb := jc eb; have bc := jc ec; have na : GrpAt wa w.heap.size gp gq gg gh := by rw [ea]; exact GrpAt.new _ _ _ _ _ _
 have nb : NumAt wb (w.heap.size + 1) 0 := by rw [eb, ← sa]; exact jz wa _
 have fb : FreeN wb (w.heap.size + 1) 4 := by rw [eb]; exact FreeN.made wa _ _ 4 _ sa.symm
 have nc : wc.cell? ⟨w.heap.size + 1 + 1, 0, none⟩ = some (.int .i64 0) := by rw [ec, ← sb, cell_of_row _ _ _ _ _ _ (heap_alloc_new _ _)]; rfl
 have fc : wc.frozen? ⟨w.heap.size + 1 + 1, 0, none⟩ = false := by rw [ec]; exact FreeN.made wb _ _ 1 _ sb.symm 0 (by decide)
 rw [← ea, ← eb, ← ec]; obtain ⟨G, hG⟩ := je (w.heap.size); obtain ⟨R6, hR6⟩ := je (G + 1); obtain ⟨R7, hR7⟩ := je (R6 + 1); have hw6 : w.heap.size ≤ R6 := by omega
 have hw7 : w.heap.size ≤ R7 := by omega
 rw [← hG] at na nb fb nc fc ⊢; rw [← hR6] at nb fb nc fc ⊢; rw [← hR7] at nc fc ⊢; have l6 : G < R6 := by omega
 have l7 : R6 < R7 := by omega
 have hsz : wc.heap.size = R7 + 1 := by omega
 have HG := jh ((na.later bb).later bc); have HR := jh (NumAt.later bc nb); have HRF := jh (fb.later bc (NumAt.lt nb)); have HE := jh nc; have HEF := jh fc; have B := jh (jk (jk ba9 bb) bc); have HXX := jh (HXX.out.later B.out); have HNN := jh (HNN.out.later B.out); clear ea eb ec sa sb sc ba9 bb bc na nb fb nc fc hG hR6 hR7; refine ⟨trivial, (callsIn_wide.2 (C1.out wc)).mono ?_⟩; rintro _ w1 ⟨rfl, hb⟩; have HG := jh (HG.out.later hb); have HRF := jh (HRF.out.later hb (NumAt.lt HR.out)); have HR := jn hb HR; have HEF := jh ((hb.frozen (World.block_lt_of_cell? (a := ⟨R7, 0, none⟩) _ HE.out)).trans HEF.out); have HE := jh (jm HE.out hb); have B := jw B hb; have HXX := jh (HXX.out.later hb); have HNN := jh (HNN.out.later hb); have hs1 : R7 < w1.heap.size := by have := hb.size; omega
 clear hb hsz; obtain ⟨p0, p1, p2, p3⟩ := (show _ ∧ _ ∧ _ ∧ _ from ⟨HG.out.1 0 (by decide), HG.out.1 1 (by decide), HG.out.1 2 (by decide), HG.out.1 3 (by decide)⟩); simp only [Nat.reduceAdd] at p0 p1 p2 p3; have hG1 : G < w1.heap.size := by omega
 gi_wp2_with fail
 clear p0 p1 p2 p3 hG1; obtain ⟨w2, e2⟩ := je (w1.alloc (.cells #[.int .u64 (jf jd 1 0), .int .u64 (jf jd 1 1), .int .u64 (jf jd 1 2), .int .u64 (jf jd 1 3)] 24)); obtain ⟨OB, hOB⟩ := je (w1.heap.size); have hb := jc e2; have HO := jh (show NumAt w2 OB 1 by rw [e2, hOB]; exact NumAt.new _ _ _ _ rfl); have HOF := jh (show FreeN w2 OB 4 by rw [e2, hOB]; exact FreeN.new _ _ _ _); have hs2 : OB < w2.heap.size := by rw [e2, hOB]; simp
 have h7O : R7 < OB := by omega
 rw [← e2, ← hOB]; have HG := jh (HG.out.later hb); have HRF := jh (HRF.out.later hb (NumAt.lt HR.out)); have HR := jn hb HR; have HEF := jh ((hb.frozen (World.block_lt_of_cell? (a := ⟨R7, 0, none⟩) _ HE.out)).trans HEF.out); have HE := jh (jm HE.out hb); have B := jw B hb; have HXX := jh (HXX.out.later hb); have HNN := jh (HNN.out.later hb); clear hb e2 hOB hs1; refine ⟨trivial, (callsIn_wide.2 (CC.out w2)).mono ?_⟩; rintro _ w3 ⟨rfl, hb⟩; have HG := jh (HG.out.later hb); have HRF := jh (HRF.out.later hb (NumAt.lt HR.out)); have HR := jn hb HR; have HEF := jh ((hb.frozen (World.block_lt_of_cell? (a := ⟨R7, 0, none⟩) _ HE.out)).trans HEF.out); have HE := jh (jm HE.out hb); have B := jw B hb; have HXX := jh (HXX.out.later hb); have HNN := jh (HNN.out.later hb); have HOF := jh (HOF.out.later hb (NumAt.lt HO.out)); have HO := jn hb HO; have hs3 : OB < w3.heap.size := by have := hb.size; omega
 clear hb hs2
 gi_wp2_with fail
 refine ⟨trivial, (callsIn_wide.2 (pairs_any _ _ _ _ _ _ w3)).mono ?_⟩; rintro _ w4 ⟨rfl, e4⟩; obtain ⟨An, hAn⟩ := je (w3.heap.size); rw [← hAn]; have hb : Below w3.heap.size w3 w4 := by rw [e4]; exact (ja).alloc (by simp) _
 have PA := jh (show w4.heap[An]? = some (.cells #[.slice (some ⟨ba, oa, none⟩) N ca] 73 (0, 0)) by rw [e4, hAn, Below.heap_alloc _ _ _ (by simp)]; exact heap_alloc_new _ _); have PN := jh (show w4.heap[An + 1]? = some (.cells #[.slice (some ⟨bn, on, none⟩) N cn] 73 (0, 0)) by rw [e4, hAn]; have h9 := heap_alloc_new (w3.alloc (.cells #[.slice (some ⟨ba, oa, none⟩) N ca] 73)) (.cells #[.slice (some ⟨bn, on, none⟩) N cn] 73); rw [World.size_alloc] at h9; exact h9); have hs4 : w4.heap.size = An + 1 + 1 := by rw [e4, hAn]; simp
 have hOA : OB < An := by omega
 have HG := jh (HG.out.later hb); have HRF := jh (HRF.out.later hb (NumAt.lt HR.out)); have HR := jn hb HR; have HEF := jh ((hb.frozen (World.block_lt_of_cell? (a := ⟨R7, 0, none⟩) _ HE.out)).trans HEF.out); have HE := jh (jm HE.out hb); have B := jw B hb; have HXX := jh (HXX.out.later hb); have HNN := jh (HNN.out.later hb); have HOF := jh (HOF.out.later hb (NumAt.lt HO.out)); have HO := jn hb HO; clear hb e4 hAn hs3
 gi_wp2_with fail
 have hba4 : ba < w4.heap.size := Nat.lt_of_lt_of_le hba B.out.size; have hbn4 : bn < w4.heap.size := Nat.lt_of_lt_of_le hbn B.out.size; have hwO : w.heap.size ≤ OB := by omega
 have hbaO : ba ≠ OB := by omega
 have hbnO : bn ≠ OB := by omega
 refine' range_made (by omega) (itf := 82) (caps := #[.pointer (some ⟨An, 0, none⟩), .pointer (some ⟨An + 1, 0, none⟩)]) (encs := fun i => #[.agg #[.int .u64 (jf jd (xs.getD (N - 1 - i) 0) 0), .int .u64 (jf jd (xs.getD (N - 1 - i) 0) 1), .int .u64 (jf jd (xs.getD (N - 1 - i) 0) 2), .int .u64 (jf jd (xs.getD (N - 1 - i) 0) 3)], .agg #[.int .u64 (jf jd (ns.getD (N - 1 - i) 0) 0), .int .u64 (jf jd (ns.getD (N - 1 - i) 0) 1), .int .u64 (jf jd (ns.getD (N - 1 - i) 0) 2), .int .u64 (jf jd (ns.getD (N - 1 - i) 0) 3)]]) (by go_simp) ?hent (fun g => g < w4.heap.size ∧ g ≠ OB) (fun k hk => hk.1) N (fun i => rfl) (fun k W => ProdAt w w4 G OB R6 R7 gp gq gg gh (JL gp xs ns (N - k)) W) ?hI ?hId ?h0 ?hit ?hround ?hdone
 case hent => intro args W; simp [go_sem]
 case hI => intro k A l o o9 hl ho hn h; exact h.putObj (by omega) ho hn
 case hId => intro k W h; exact h.later (Below.refl _ _).drew
 case h0 =>
  intro o1 o2; refine ProdAt.later (W := w4) ⟨?_, HOF.out, HG.out, HR.out, HRF.out, HE.out, HEF.out, B.out, Nat.le_refl _⟩ (((Below.refl _ w4).alloc (Nat.le_refl _) _).alloc (by simp) _); rw [Nat.sub_self]; exact HO.out
 case hit =>
  intro l J W hJd hY hb hJ; have h9 := HN9.out; subst h9; exact pairs_in _ (by omega) l An (An + 1) (fun g => g < w4.heap.size ∧ g ≠ OB) ⟨by omega, by omega⟩ ⟨by omega, by omega⟩ xs ns ba oa ca bn on cn J W (by omega) HLN.out (heap_of hb PA.out) (heap_of hb PN.out) (HXX.out.later hb) (HNN.out.later hb) ⟨hba4, hbaO⟩ ⟨hbn4, hbnO⟩ hJd hY hJ
 case hround =>
  intro l i W KK hiN h hl hob hK; have HM := jh h; obtain ⟨x, hx⟩ := je (xs.getD (N - 1 - i) 0); obtain ⟨y, hy⟩ := je (ns.getD (N - 1 - i) 0); obtain ⟨o, ho⟩ := je (JL gp xs ns (N - (i + 1))); obtain ⟨q, hq⟩ := je (JL gp xs ns (N - i)); have hkk : N - 1 - i < xs.length := by have := HN9.out; omega
  have hxm : zL gp x := HXM.out x (by rw [hx, List.getD_eq_getElem?_getD, List.getElem?_eq_getElem hkk]; exact List.getElem_mem hkk)
  have hym : y < jj := HNM.out y (by have hk2 : N - 1 - i < ns.length := by rw [HLN.out]; exact hkk
                                     rw [hy, List.getD_eq_getElem?_getD, List.getElem?_eq_getElem hk2]; exact List.getElem_mem hk2)
  have hop : o < gp := by rw [ho]; exact prodN_lt HP1.out _ _ _ (by have := HN9.out; omega) HLN.out
  have hst := JW (gp := gp) hkk HLN.out; rw [show N - 1 - i + 1 = N - i by omega, show N - 1 - i = N - (i + 1) by omega, ← ho, ← hq, show N - (i + 1) = N - 1 - i by omega, ← hx, ← hy] at hst; rw [← ho] at HM; rw [← hx, ← hy]; have HQ := jh hq; have HST := jh hst; have HXM9 := jh hxm; have HYM9 := jh hym; have HOP := jh hop; clear h hx hy ho hq hkk hxm hym hop hst
  gi_wp2_with fail
  obtain ⟨v1, e1⟩ := je (W.alloc (.cells #[.int .u64 (jf jd x 0), .int .u64 (jf jd x 1), .int .u64 (jf jd x 2), .int .u64 (jf jd x 3)] 24)); obtain ⟨v2, e2⟩ := je (v1.alloc (.cells #[.int .u64 (jf jd y 0), .int .u64 (jf jd y 1), .int .u64 (jf jd y 2), .int .u64 (jf jd y 3)] 24)); obtain ⟨X1, hX1⟩ := je (W.heap.size); have s1 : v1.heap.size = X1 + 1 := by rw [e1, hX1]; simp
  have b1 := jc e1; have b2 := jc e2; have n1 : NumAt v1 X1 x := by rw [e1, hX1]; exact NumAt.new _ _ _ _ rfl
  have n2 : NumAt v2 (X1 + 1) y := by rw [e2, ← s1]; exact NumAt.new _ _ _ _ rfl
  rw [← e1, ← e2, ← hX1]; have hb := jk b1 b2; have n1 := NumAt.later b2 n1; have hs9 := HM.out.s; have HM := jh (HM.out.later hb); obtain ⟨ob, ho1, ho2⟩ := hob; have hol : v2.heap[l]? = some ob := (hb.block l (qG ho1)).trans ho1; refine hK _ _ ⟨hb.size, fun k o _ hk ho => (hb.block k (qG hk)).trans hk⟩ ⟨hb.os, hb.tape, hb.output, hb.size, fun g hg => hb.block g (by omega)⟩ (fun o9 => ?_); clear hK; obtain ⟨v3, e3⟩ := je (v2.putObj l o9); have HM := jh (show ProdAt w w4 G OB R6 R7 gp gq gg gh o v3 by rw [e3]; exact HM.out.putObj (by omega) hol ho2); have HX1 := jh (show NumAt v3 X1 x by rw [e3]; exact fun j hj => zH hol ho2 (n1 j hj)); have HX2 := jh (show NumAt v3 (X1 + 1) y by rw [e3]; exact fun j hj => zH hol ho2 (n2 j hj)); rw [← e3]; clear e1 e2 e3 hX1 s1 b1 b2 n1 n2 hb hol ho1 ho2; refine wpIn_block ?_; refine wpIn_seq_k (fun K2 hK2 => ?_); refine wpIn_region_lit ?_; refine JS rfl (fun _ h => by cases h) (jg (qu HM.out.g)) ?_; simp only [Act.put, pa, pb, pc]; refine JS rfl (fun _ h => by cases h) (jg (qW HX1.out)) ?_; simp only [Act.put, pa, pb, pc]; refine JS rfl (fun _ h => by cases h) (jg (qW HX2.out)) ?_; simp only [Act.put, pa, pb, pc]
  gi_wp2_with fail
  refine ⟨trivial, CallsIn.inRound l ((callsIn_wide.2 (CE.out x y HXM9.out HYM9.out v3)).mono ?_)⟩; rintro _ v4 ⟨rfl, hb⟩; obtain ⟨z, hz⟩ := je (x ^ y % gp); have HZP := jh (show z < gp by rw [hz]; exact Nat.mod_lt _ (by have := HP1.out; omega)); have hst := HST.out; rw [← hz] at hst ⊢; have HST := jh hst; have HS3 := jh HM.out.s; have HM := jh (HM.out.later hb); have HB3 := jh hb; clear hb hz hst HX1 HX2; obtain ⟨p0, p1, p2, p3⟩ := (show _ ∧ _ ∧ _ ∧ _ from ⟨HM.out.g.1 0 (by decide), HM.out.g.1 1 (by decide), HM.out.g.1 2 (by decide), HM.out.g.1 3 (by decide)⟩); simp only [Nat.reduceAdd] at p0 p1 p2 p3; obtain ⟨q0, q1, q2, q3⟩ := jy HM.out.o; have hG4 : G < v4.heap.size := by have := HM.out.s; omega
  have hO4 : OB < v4.heap.size := by have := HM.out.s; omega
  gi_wp2_with fail
  clear p0 p1 p2 p3 q0 q1 q2 q3 hG4 hO4; obtain ⟨v5, e5⟩ := je (v4.alloc (.cells #[.int .u64 (jf jd z 0), .int .u64 (jf jd z 1), .int .u64 (jf jd z 2), .int .u64 (jf jd z 3)] 24)); have hb := jc e5; rw [← e5]; have HM := jh (HM.out.later hb); have HB3 := jw HB3 hb; clear hb e5; refine ⟨trivial, CallsIn.inRound l ((callsIn_wide.2 (CM.out o z HOP.out HZP.out v5)).mono ?_)⟩; rintro _ v6 ⟨rfl, hb⟩; rw [← HST.out]; have HM := jh (HM.out.later hb); have HB3 := jw HB3 hb; clear hb; obtain ⟨c0, c1, c2, c3, f0, f1, f2, f3⟩ := jC HM.out.o HM.out.f
  gi_wp2_with fail
  clear c0 c1 c2 c3 f0 f1 f2 f3; have HM7 := HM.out.set hwO (by omega) (by omega) (by omega) q; obtain ⟨v7, e7⟩ := je ((((v6.setCell ⟨OB, 0, none⟩ (.int .u64 (jf jd q 0))).setCell ⟨OB, 1, none⟩ (.int .u64 (jf jd q 1))).setCell ⟨OB, 2, none⟩ (.int .u64 (jf jd q 2))).setCell ⟨OB, 3, none⟩ (.int .u64 (jf jd q 3))); rw [← e7] at HM7 ⊢; have hsm : ∀ g, g ≠ OB → v7.heap[g]? = v6.heap[g]? := fun g h1 => by rw [e7, Below.heap_setCell _ _ _ _ h1, Below.heap_setCell _ _ _ _ h1, Below.heap_setCell _ _ _ _ h1, Below.heap_setCell _ _ _ _ h1]
  have hss : v7.heap.size = v6.heap.size := by rw [e7]; simp
  have hos : v7.os = v6.os ∧ v7.tape = v6.tape ∧ v7.output = v6.output := by rw [e7]; exact ⟨rfl, rfl, rfl⟩
  have s6 := HB3.out.size; have s3 := HS3.out; rw [HQ.out] at HM7; exact ⟨⟨by omega, fun k o hk ho _ => (hsm k (by omega)).trans ((HB3.out.block k (qG ho)).trans ho)⟩, ⟨hos.1.trans HB3.out.os, hos.2.1.trans HB3.out.tape, hos.2.2.trans HB3.out.output, by omega, fun g hg => (hsm g hg.2).trans (HB3.out.block g (by omega))⟩, HM7⟩
 case hdone =>
  intro D W hD h hDf; rw [Nat.sub_zero, ← HQ9.out] at h; have HM := jh h; have HDF := jh hDf; clear h hDf; obtain ⟨q0, q1, q2, q3⟩ := jy HM.out.o; obtain ⟨c0, c1, c2, c3, f0, f1, f2, f3⟩ := jC HM.out.r HM.out.rf; have t0 := HM.out.e; have u0 := HM.out.ef
  gi_wp2_with fail
  clear q0 q1 q2 q3 c0 c1 c2 c3 f0 f1 f2 f3 t0 u0; have hR6 := jp HM.out.b hw6 (.int .u64 (jf jd Q9 0)) (.int .u64 (jf jd Q9 1)) (.int .u64 (jf jd Q9 2)) (.int .u64 (jf jd Q9 3)); have hN6 := NumAt.set4 HM.out.r Q9
  have he6 : ((((W.setCell ⟨R6, 0, none⟩ (.int .u64 (jf jd Q9 0))).setCell ⟨R6, 1, none⟩ (.int .u64 (jf jd Q9 1))).setCell ⟨R6, 2, none⟩ (.int .u64 (jf jd Q9 2))).setCell ⟨R6, 3, none⟩ (.int .u64 (jf jd Q9 3))).cell? ⟨R7, 0, none⟩ = some (.int .i64 0) := by
   have n7 : R7 ≠ R6 := by omega
   rw [World.cell?_of_block (a := ⟨R7, 0, none⟩) (Below.heap_setCell _ _ _ _ n7), World.cell?_of_block (a := ⟨R7, 0, none⟩) (Below.heap_setCell _ _ _ _ n7), World.cell?_of_block (a := ⟨R7, 0, none⟩) (Below.heap_setCell _ _ _ _ n7), World.cell?_of_block (a := ⟨R7, 0, none⟩) (Below.heap_setCell _ _ _ _ n7)]; exact HM.out.e
  have hs4 := HM.out.s; have hD6 : D ≠ R6 := by omega
  have x9 : ((((W.setCell ⟨R6, 0, none⟩ (.int .u64 (jf jd Q9 0))).setCell ⟨R6, 1, none⟩ (.int .u64 (jf jd Q9 1))).setCell ⟨R6, 2, none⟩ (.int .u64 (jf jd Q9 2))).setCell ⟨R6, 3, none⟩ (.int .u64 (jf jd Q9 3))).heap[D]? = some (.deferred (some [])) := by
   rw [Below.heap_setCell _ _ _ _ hD6, Below.heap_setCell _ _ _ _ hD6, Below.heap_setCell _ _ _ _ hD6, Below.heap_setCell _ _ _ _ hD6]; exact HDF.out
  obtain ⟨we, ewe⟩ := je (((((W.setCell ⟨R6, 0, none⟩ (.int .u64 (jf jd Q9 0))).setCell ⟨R6, 1, none⟩ (.int .u64 (jf jd Q9 1))).setCell ⟨R6, 2, none⟩ (.int .u64 (jf jd Q9 2))).setCell ⟨R6, 3, none⟩ (.int .u64 (jf jd Q9 3)))); rw [← ewe] at hR6 hN6 he6 x9 ⊢; clear ewe; obtain ⟨wf, ewf⟩ := je (we.setCell ⟨R7, 0, none⟩ (.int .i64 0)); have h7 : ∀ g, g ≠ R7 → wf.heap[g]? = we.heap[g]? := fun g h1 => by rw [ewf]; exact Below.heap_setCell _ _ _ _ h1
  have hB7 : Below w.heap.size w wf := ⟨by rw [ewf]; exact hR6.os, by rw [ewf]; exact hR6.tape, by rw [ewf]; exact hR6.output, by rw [ewf]; simpa using hR6.size, fun g hg => (h7 g (by omega)).trans (hR6.block g hg)⟩; have hN7 : NumAt wf R6 Q9 := fun j hj => (World.cell?_of_block (a := ⟨R6, j, none⟩) (h7 R6 (by omega))).trans (hN6 j hj)
  have hE7 : wf.cell? ⟨R7, 0, none⟩ = some (.int .i64 0) := by rw [ewf]; exact World.cell?_setCell_same _ _ _ he6
  have y9 := (h7 D (by omega)).trans x9; rw [← ewf]; clear ewf; obtain ⟨wg, ewg⟩ := je (wf.putObj D (.deferred none)); have hsf : ∀ g, g ≠ D → wg.heap[g]? = wf.heap[g]? := fun g h1 => by rw [ewg]; exact World.putObj_heap_other (by omega)
  have HF9 : NumAt wg R6 Q9 := fun j hj => (World.cell?_of_block (a := ⟨R6, j, none⟩) (hsf R6 (by omega))).trans (hN7 j hj)
  have HE9 : wg.cell? ⟨R7, 0, none⟩ = some (.int .i64 0) := (World.cell?_of_block (a := ⟨R7, 0, none⟩) (hsf R7 (by omega))).trans hE7; obtain ⟨g0, g1, g2, g3⟩ := jy HF9; refine ⟨by simp, .inl ⟨D, wg, rfl, by rw [ewg]; exact run_takeDeferred y9, ?_⟩⟩; refine ⟨.tuple #[.agg #[.int .u64 (jf jd Q9 0), .int .u64 (jf jd Q9 1), .int .u64 (jf jd Q9 2), .int .u64 (jf jd Q9 3)], .int .i64 0], by simp [results, Tryz.results33, go_sem, g0, g1, g2, g3, HE9], rfl, ?_⟩; exact ⟨by rw [ewg]; exact hB7.os, by rw [ewg]; exact hB7.tape, by rw [ewg]; exact hB7.output, by rw [ewg]; simpa using hB7.size, fun g hg => (hsf g (by omega)).trans (hB7.block g hg)⟩
def backR (gp gq gg key c s : Nat) : Nat := JL gp [gg, key] [s, (0 + gq - c) % gq] 2
def zC (gp gq gg key c s : Nat) (h : List Nat) : Bool := [c, s].all (fun x => decide (1 < gq ∧ x < gq)) && decide (c = zs gq key (backR gp gq gg key c s) h)
theorem CheckS_all {gp gq gg gh key c s : Nat} {h : List Nat} (hm : zL gp gg) (hgp : gp < jj) (hgg : gg < jj) (hq1 : 1 < gq) (hq : gq < jj) (hk : Zx gp gq key) (hk1 : key ≠ 1) (hcM : c < jj) (hsM : s < jj) (hl : h.length = 32) (hb9 : jO h) (w : World) :
  Calls Tryz.prog 18 #[jM gp gq gg gh, ji key, .agg (jq .u8 h).toArray, sigV c s] w fun e w' => e = .returned (.bool (zC gp gq gg key c s h)) ∧ Below w.heap.size w w' := by
 have hkM : key < jj := Nat.lt_trans hk.1.2.2 hgp; obtain ⟨b, hb⟩ := je ((0 + gq - c) % gq); have hbq : b < gq := by rw [hb]; exact Nat.mod_lt _ (by omega)
 obtain ⟨r, hr⟩ := je (backR gp gq gg key c s); unfold zC; rw [← hr]; obtain ⟨ch, hch⟩ := je (zs gq key r h); have hchM : ch < jj := by rw [hch]; unfold zs Ja; exact Nat.lt_trans (Nat.mod_lt _ (by omega)) hq
 rw [← hch]; obtain ⟨D, hD⟩ := je (decide (c = ch)); rw [← hD]; obtain ⟨EX, hEX⟩ := je ([c, s].all (fun x => decide (1 < gq ∧ x < gq))); rw [← hEX]; have HEX := jh (show EX = true → c < gq by rw [hEX]; simp; omega); have CI := jh (fun W => by have h9 := In_any (gg := gg) (gh := gh) hkM hq hgp W; rw [decide_eq_true hk] at h9; unfold jM ji words at h9; exact h9); have CX := jh (fun (W : World) (B cap : Nat) (hx : NumsAt W B 0 [c, s]) => by have h9 := exponents_all (gp := gp) (gg := gg) (gh := gh) (cap := cap) (xs := [c, s]) (by intro x hx; simp only [List.mem_cons, List.not_mem_nil, or_false] at hx; rcases hx with rfl | rfl; exact hcM; exact hsM) hq W hx (by simp); rewrite [← hEX] at h9; unfold jM at h9; exact h9); have CS := jh (fun (hc : c < gq) W => by have h9 := SSub_any (gp := gp) (gg := gg) (gh := gh) (show 0 < gq by omega) hc hq1 hq W; rewrite [← hb] at h9; unfold jM ji words at h9; exact h9)
 have CP := jh (fun (W : World) (B1 B2 c1 c2 : Nat) (h1 : NumsAt W B1 0 [gg, key]) (h2 : NumsAt W B2 0 [s, b]) (l1 : B1 < W.heap.size) (l2 : B2 < W.heap.size) => by
  have h9 := Product_any (gp := gp) (gq := gq) (gg := gg) (gh := gh) (ba := B1) (oa := 0) (ca := c1) (bn := B2) (on := 0) (cn := c2) (N := 2) (xs := [gg, key]) (ns := [s, b]) hm.1 hgp (by intro x hx; simp only [List.mem_cons, List.not_mem_nil, or_false] at hx; rcases hx with rfl | rfl; exact hm; exact hk.1) (by intro x hx; simp only [List.mem_cons, List.not_mem_nil, or_false] at hx; rcases hx with rfl | rfl; exact hsM; exact Nat.lt_trans hbq hq) rfl rfl (by simp) W h1 h2 l1 l2; rw [show JL gp [gg, key] [s, b] 2 = r by rw [hr, hb]; rfl] at h9; unfold jM ji words at h9
  exact h9)
 have CG := jh (fun W => by have h9 := signs_any (gp := gp) (gq := gq) (gg := gg) (gh := gh) (key := key) hl W; unfold jM ji words at h9; exact h9); have CF := jh (fun (W : World) (GB KB HB : Nat) hg hk hh => by have h9 := signs1_any (GB := GB) (KB := KB) (HB := HB) (gp := gp) (gq := gq) (gg := gg) (gh := gh) (key := key) (r := r) (h := h) W hg hk hh hl hb9 (by omega) hq; rewrite [← hch] at h9; unfold ji words at h9; exact h9); have HEK := jh (fun (W : World) => by have h9 := zV key 1 hkM (by decide) W; rw [decide_eq_false hk1] at h9; exact h9); have HES := jh (fun (W : World) => by have h9 := eq_sig hcM hsM hchM hsM W; rewrite [← hD, decide_eq_true (rfl : s = s), Bool.and_true] at h9; exact h9); have HL := jh hl; obtain ⟨T, hT⟩ := je ((jq .u8 h).toArray); have HT := jh hT; rw [← hT] at CG CF ⊢; unfold sigV jM ji words; clear hcM hsM hkM hb hbq hr hch hchM hD hEX hm hgp hgg hq1 hq hk hk1 hl hb9 hT
 go_enter Tryz.func18, Tryz.ntmps18
 go_upto_region 1 with fail
 obtain ⟨v_0, e_0⟩ := je (w.alloc (.cells #[.int .u64 (jf jd gp 0), .int .u64 (jf jd gp 1), .int .u64 (jf jd gp 2), .int .u64 (jf jd gp 3), .int .u64 (jf jd gq 0), .int .u64 (jf jd gq 1), .int .u64 (jf jd gq 2), .int .u64 (jf jd gq 3), .int .u64 (jf jd gg 0), .int .u64 (jf jd gg 1), .int .u64 (jf jd gg 2), .int .u64 (jf jd gg 3), .int .u64 (jf jd gh 0), .int .u64 (jf jd gh 1), .int .u64 (jf jd gh 2), .int .u64 (jf jd gh 3)] 26)); have s_0 : v_0.heap.size = w.heap.size + 1 := by rw [e_0]; simp
 have b_0 := jc e_0; have f_0 : GrpAt v_0 (w.heap.size) gp gq gg gh := by rw [e_0]; exact GrpAt.new _ _ _ _ _ _
 obtain ⟨v_1, e_1⟩ := je (v_0.alloc (.cells #[.int .u64 (jf jd key 0), .int .u64 (jf jd key 1), .int .u64 (jf jd key 2), .int .u64 (jf jd key 3)] 24)); have s_1 : v_1.heap.size = w.heap.size + 1 + 1 := by rw [e_1]; simp [s_0]
 have b_1 := jc e_1; have f_1 : NumAt v_1 (w.heap.size + 1) key := by rw [← s_0, e_1]; exact NumAt.new _ _ _ _ rfl
 obtain ⟨v_2, e_2⟩ := je (v_1.alloc (.cells T 55)); have s_2 : v_2.heap.size = w.heap.size + 1 + 1 + 1 := by rw [e_2]; simp [s_1]
 have b_2 := jc e_2; have f_2 : v_2.heap[w.heap.size + 1 + 1]? = some (.cells T 55 (0, 0)) := by rw [← s_1, e_2]; exact heap_alloc_new _ _
 obtain ⟨v_3, e_3⟩ := je (v_2.alloc (.cells #[.int .u64 (jf jd c 0), .int .u64 (jf jd c 1), .int .u64 (jf jd c 2), .int .u64 (jf jd c 3), .int .u64 (jf jd s 0), .int .u64 (jf jd s 1), .int .u64 (jf jd s 2), .int .u64 (jf jd s 3)] 32)); have s_3 : v_3.heap.size = w.heap.size + 1 + 1 + 1 + 1 := by rw [e_3]; simp [s_2]
 have b_3 := jc e_3; have f_3 : NumO v_3 (w.heap.size + 1 + 1 + 1) 0 c ∧ NumO v_3 (w.heap.size + 1 + 1 + 1) 4 s := by rw [← s_2, e_3]; exact numo_row8 (heap_alloc_new _ _)
 rw [← e_0, ← e_1, ← e_2, ← e_3]; have HG := (((f_0.later b_1).later b_2).later b_3); have HK := (NumAt.later b_3 (NumAt.later b_2 f_1)); have HH := ((b_3.block _ (by omega)).trans f_2); have HC := f_3.1; have HS := f_3.2; have HB := jh (jk (jk (jk b_0 b_1) b_2) b_3); clear e_0 s_0 b_0 f_0 e_1 s_1 b_1 f_1 e_2 s_2 b_2 f_2 e_3 s_3 b_3 f_3; obtain ⟨GB, hGB⟩ := je (w.heap.size); rw [← hGB] at HG HK HH HC HS ⊢; obtain ⟨KB, hKB⟩ := je (GB + 1); rw [← hKB] at HK HH HC HS ⊢; obtain ⟨HB9, hHB9⟩ := je (KB + 1); rw [← hHB9] at HH HC HS ⊢; obtain ⟨SB, hSB⟩ := je (HB9 + 1); rw [← hSB] at HC HS ⊢; have HG := jh HG; have HK := jh HK; have HH := jh HH; have HC := jh HC; have HS := jh HS; clear hGB hKB hHB9 hSB; refine wp_region_lit ?_; refine jo rfl (jg (qu HG.out)) ?_; simp only [Act.put, pa, pb, pc]; refine jo rfl (jg (qW HK.out)) ?_; simp only [Act.put, pa, pb, pc]
 go_wp2_with fail
 refine (CI.out _).mono ?_; rintro _ w1 ⟨rfl, hb⟩; have HC := jh (NumO.later hb HC.out); have HS := jh (NumO.later hb HS.out); have HG := jh (HG.out.later hb); have HK := jn hb HK; have HH := jb hb HH; have HB := jw HB hb; clear hb; dsimp only
 go_step
 iterate 2
  refine jo (v := .bool false) rfl (by kernel_rfl) ?_; simp only [Act.put, pa, pb, pc]
 refine ju (by kernel_rfl) (jg (qW HK.out)) ?_; simp only [Act.put, pa, pb, pc]; refine ju (v := .agg #[.int .u64 (jf jd 1 0), .int .u64 (jf jd 1 1), .int .u64 (jf jd 1 2), .int .u64 (jf jd 1 3)]) (by kernel_rfl) (by kernel_rfl) ?_; simp only [Act.put, pa, pb, pc]; refine ju (v := .bool false) (by kernel_rfl) (zj eqg_num rfl (by kernel_rfl) (by kernel_rfl) (HEK.out _)) ?_
 iterate 2
  simp only [Act.put, pa, pb, pc]; refine jo (v := .bool false) rfl (by kernel_rfl) ?_
 simp only [Act.put, pa, pb, pc]; refine ju (by kernel_rfl) (jg (qu HG.out)) ?_; simp only [Act.put, pa, pb, pc]; refine ju (v := .pointer (some ⟨SB, 0, none⟩)) (by kernel_rfl) (by kernel_rfl) ?_; simp only [Act.put, pa, pb, pc]; refine ju (by kernel_rfl) (jg (ql HC.out)) ?_; simp only [Act.put, pa, pb, pc]; refine ju (v := .pointer (some ⟨SB, 4, none⟩)) (by kernel_rfl) (by kernel_rfl) ?_; simp only [Act.put, pa, pb, pc]; refine ju (by kernel_rfl) (jg (ql HS.out)) ?_; simp only [Act.put, pa, pb, pc]; refine wpList_gmade (v := .slice (some ⟨w1.heap.size, 0, none⟩) 2 2) (w' := w1.alloc (.cells #[.int .u64 (jf jd c 0), .int .u64 (jf jd c 1), .int .u64 (jf jd c 2), .int .u64 (jf jd c 3), .int .u64 (jf jd s 0), .int .u64 (jf jd s 1), .int .u64 (jf jd s 2), .int .u64 (jf jd s 3)] 24)) (by kernel_rfl) (by kernel_rfl) ?_; simp only [Act.put, pa, pb, pc]; obtain ⟨w2, e9⟩ := je (w1.alloc (.cells #[.int .u64 (jf jd c 0), .int .u64 (jf jd c 1), .int .u64 (jf jd c 2), .int .u64 (jf jd c 3), .int .u64 (jf jd s 0), .int .u64 (jf jd s 1), .int .u64 (jf jd s 2), .int .u64 (jf jd s 3)] 24)); obtain ⟨XB, h9⟩ := je (w1.heap.size); have hb := jc e9; have HX := jh (show NumsAt w2 XB 0 [c, s] by rw [e9, h9]; exact nums2 (heap_alloc_new _ _)); have LXB := jh (show XB < w2.heap.size by rw [e9, h9]; simp); have WXB := jh (show w1.heap.size = XB from h9.symm); rw [← e9, ← h9]; clear e9 h9; have HC := jh (NumO.later hb HC.out); have HS := jh (NumO.later hb HS.out); have HG := jh (HG.out.later hb); have HK := jn hb HK; have HH := jb hb HH; have HB := jw HB hb; clear hb
 go_wp2_with fail
 refine (CX.out _ XB _ HX.out).mono ?_; rintro _ w3 ⟨rfl, hb⟩; have HC := jh (NumO.later hb HC.out); have HS := jh (NumO.later hb HS.out); have HG := jh (HG.out.later hb); have HK := jn hb HK; have HH := jb hb HH; have HB := jw HB hb; have LXB := jl LXB hb.size; clear hb; clear HX
 cases EX
 ·go_wp2_with fail
  go_ret
  exact ⟨rfl, HB.out⟩
 have hc9 := HEX.out rfl
 go_upto_region 3 with fail
 refine wp_region_lit ?_; refine jo rfl (jg (qu HG.out)) ?_; simp only [Act.put, pa, pb, pc]; refine jo (v := .agg #[.int .u64 (jf jd 0 0), .int .u64 (jf jd 0 1), .int .u64 (jf jd 0 2), .int .u64 (jf jd 0 3)]) rfl (by kernel_rfl) ?_; simp only [Act.put, pa, pb, pc]; refine jo (v := .pointer (some ⟨SB, 0, none⟩)) rfl (by kernel_rfl) ?_; simp only [Act.put, pa, pb, pc]; refine jo rfl (jg (ql HC.out)) ?_; simp only [Act.put, pa, pb, pc]
 go_wp2_with fail
 refine (CS.out hc9 _).mono ?_; clear hc9; rintro _ w4 ⟨rfl, hb⟩; have HC := jh (NumO.later hb HC.out); have HS := jh (NumO.later hb HS.out); have HG := jh (HG.out.later hb); have HK := jn hb HK; have HH := jb hb HH; have HB := jw HB hb; have LXB := jl LXB hb.size; clear hb
 go_upto_region 4 with fail
 obtain ⟨w5, e9⟩ := je (w4.alloc (.cells #[.int .u64 (jf jd b 0), .int .u64 (jf jd b 1), .int .u64 (jf jd b 2), .int .u64 (jf jd b 3)] 24)); obtain ⟨BB, h9⟩ := je (w4.heap.size); have hb := jc e9; have HBK := jh (show NumAt w5 BB b by rw [e9, h9]; exact NumAt.new _ _ _ _ rfl); have LBB := jh (show BB < w5.heap.size by rw [e9, h9]; simp); have WBB := jh (show w4.heap.size = BB from h9.symm); rw [← e9, ← h9]; clear e9 h9; have HC := jh (NumO.later hb HC.out); have HS := jh (NumO.later hb HS.out); have HG := jh (HG.out.later hb); have HK := jn hb HK; have HH := jb hb HH; have HB := jw HB hb; have LXB := jl LXB hb.size; clear hb; refine wp_region_lit ?_; refine jo rfl (jg (qu HG.out)) ?_; simp only [Act.put, pa, pb, pc]; refine jo (v := .pointer (some ⟨GB, 8, none⟩)) rfl (by kernel_rfl) ?_; simp only [Act.put, pa, pb, pc]; refine jo rfl (jg (ql HG.out.2.2.1)) ?_; simp only [Act.put, pa, pb, pc]; refine jo rfl (jg (qW HK.out)) ?_; simp only [Act.put, pa, pb, pc]; refine qM (v := .slice (some ⟨w5.heap.size, 0, none⟩) 2 2) (w' := w5.alloc (.cells #[.int .u64 (jf jd gg 0), .int .u64 (jf jd gg 1), .int .u64 (jf jd gg 2), .int .u64 (jf jd gg 3), .int .u64 (jf jd key 0), .int .u64 (jf jd key 1), .int .u64 (jf jd key 2), .int .u64 (jf jd key 3)] 24)) rfl (by kernel_rfl) ?_; simp only [Act.put, pa, pb, pc]; obtain ⟨w6, e9⟩ := je (w5.alloc (.cells #[.int .u64 (jf jd gg 0), .int .u64 (jf jd gg 1), .int .u64 (jf jd gg 2), .int .u64 (jf jd gg 3), .int .u64 (jf jd key 0), .int .u64 (jf jd key 1), .int .u64 (jf jd key 2), .int .u64 (jf jd key 3)] 24)); obtain ⟨YB, h9⟩ := je (w5.heap.size); have hb := jc e9; have HY := jh (show NumsAt w6 YB 0 [gg, key] by rw [e9, h9]; exact nums2 (heap_alloc_new _ _)); have LYB := jh (show YB < w6.heap.size by rw [e9, h9]; simp); have WYB := jh (show w5.heap.size = YB from h9.symm); rw [← e9, ← h9]; clear e9 h9; have HC := jh (NumO.later hb HC.out); have HS := jh (NumO.later hb HS.out); have HG := jh (HG.out.later hb); have HK := jn hb HK; have HH := jb hb HH; have HB := jw HB hb; have HBK := jn hb HBK; have LXB := jl LXB hb.size; have LBB := jl LBB hb.size; clear hb; have HY := jh (show NumsAt w6 YB 0 [gg, key] from HY.out); refine jo (v := .pointer (some ⟨SB, 4, none⟩)) rfl (by kernel_rfl) ?_; simp only [Act.put, pa, pb, pc]; refine jo rfl (jg (ql HS.out)) ?_; simp only [Act.put, pa, pb, pc]; refine jo rfl (jg (qW HBK.out)) ?_; simp only [Act.put, pa, pb, pc]; refine qM (v := .slice (some ⟨w6.heap.size, 0, none⟩) 2 2) (w' := w6.alloc (.cells #[.int .u64 (jf jd s 0), .int .u64 (jf jd s 1), .int .u64 (jf jd s 2), .int .u64 (jf jd s 3), .int .u64 (jf jd b 0), .int .u64 (jf jd b 1), .int .u64 (jf jd b 2), .int .u64 (jf jd b 3)] 24)) rfl (by kernel_rfl) ?_; simp only [Act.put, pa, pb, pc]; obtain ⟨w7, e9⟩ := je (w6.alloc (.cells #[.int .u64 (jf jd s 0), .int .u64 (jf jd s 1), .int .u64 (jf jd s 2), .int .u64 (jf jd s 3), .int .u64 (jf jd b 0), .int .u64 (jf jd b 1), .int .u64 (jf jd b 2), .int .u64 (jf jd b 3)] 24)); obtain ⟨ZB, h9⟩ := je (w6.heap.size); have hb := jc e9; have HZ := jh (show NumsAt w7 ZB 0 [s, b] by rw [e9, h9]; exact nums2 (heap_alloc_new _ _)); have LZB := jh (show ZB < w7.heap.size by rw [e9, h9]; simp); have WZB := jh (show w6.heap.size = ZB from h9.symm); rw [← e9, ← h9]; clear e9 h9; have HC := jh (NumO.later hb HC.out); have HS := jh (NumO.later hb HS.out); have HG := jh (HG.out.later hb); have HK := jn hb HK; have HH := jb hb HH; have HB := jw HB hb; have HBK := jn hb HBK; have HY := jh (HY.out.later hb); have LXB := jl LXB hb.size; have LBB := jl LBB hb.size; have LYB := jl LYB hb.size; clear hb
 go_wp2_with fail
 refine (CP.out _ YB ZB _ _ HY.out HZ.out LYB.out LZB.out).mono ?_; rintro _ w8 ⟨rfl, hb⟩; have HC := jh (NumO.later hb HC.out); have HS := jh (NumO.later hb HS.out); have HG := jh (HG.out.later hb); have HK := jn hb HK; have HH := jb hb HH; have HB := jw HB hb; clear hb; clear HY HZ HBK
 go_upto_region 5 with fail
 obtain ⟨w9, e9⟩ := je (w8.alloc (.cells #[.int .u64 (jf jd r 0), .int .u64 (jf jd r 1), .int .u64 (jf jd r 2), .int .u64 (jf jd r 3)] 24)); obtain ⟨RB, h9⟩ := je (w8.heap.size); have hb := jc e9; have HR := jh (show NumAt w9 RB r by rw [e9, h9]; exact NumAt.new _ _ _ _ rfl); have LRB := jh (show RB < w9.heap.size by rw [e9, h9]; simp); have WRB := jh (show w8.heap.size = RB from h9.symm); rw [← e9, ← h9]; clear e9 h9; have HC := jh (NumO.later hb HC.out); have HS := jh (NumO.later hb HS.out); have HG := jh (HG.out.later hb); have HK := jn hb HK; have HH := jb hb HH; have HB := jw HB hb; clear hb; refine jK (.take 0 (.take 1 (.take 2 (.take 3 (.take 4 (.take 5 (.take 6 (.take 8 (.take 10 (.take 11 (.step 7 (.step 9 (.take 12 (.take 13 (.take 14 (.take 15 .done)))))))))))))))) (fun w8 => w8.heap[HB9]? = some (.cells T 55 (0, 0)) ∧ GrpAt w8 GB gp gq gg gh ∧ NumAt w8 KB key ∧ NumAt w8 RB r ∧ NumO w8 SB 0 c ∧ NumO w8 SB 4 s) (by kernel_rfl) (by kernel_rfl) (fun _ _ _ _ _ h => h) (⟨HH.out, HG.out, HK.out, HR.out, HC.out, HS.out⟩) (fun hHeld => ?_); obtain ⟨x1, e1⟩ := je (w9.drew); rw [← e1]; have hb : Below w9.heap.size w9 x1 := by rw [e1]; exact (Below.refl _ _).drew
 have HC := jh (NumO.later hb HC.out); have HS := jh (NumO.later hb HS.out); have HG := jh (HG.out.later hb); have HK := jn hb HK; have HH := jb hb HH; have HB := jw HB hb; have HR := jn hb HR; have LRB := jl LRB hb.size; clear hb e1
 iterate 3
  refine WT.tk rfl (k := ?_)
 refine WT.take rfl (Or.inl ⟨by rfl, fun w8 hSw => jg (Qu hSw.2.2.2.2.1 hSw.2.2.2.2.2)⟩) ?_
 try simp only [Act.put, pa, pb, pc]
 refine WT.take rfl (Or.inl ⟨by rfl, fun w8 hSw => jg (qu hSw.2.1)⟩) ?_
 try simp only [Act.put, pa, pb, pc]
 refine WT.take rfl (Or.inl ⟨by rfl, fun w8 hSw => jg (qW hSw.2.2.1)⟩) ?_
 try simp only [Act.put, pa, pb, pc]
 refine WT.tk (v := .agg T) rfl (fun w8 hSw => by have h9 := loadH (h := h) (by rw [← HT.out]; exact hSw.1) HL.out; rw [← HT.out] at h9; exact jg h9) (k := ?_); refine WT.take rfl (Or.inl ⟨by rfl, fun w8 hSw => jg (qW hSw.2.2.2.1)⟩) ?_
 try simp only [Act.put, pa, pb, pc]
 refine WT.tk rfl (k := ?_); refine WT.take rfl (Or.inl ⟨by rfl, fun w8 hSw => jg (ql hSw.2.2.2.2.2)⟩) ?_
 try simp only [Act.put, pa, pb, pc]
 refine WT.step rfl (fun K hK => ?_)
 go_simp
 refine (CG.out _).mono ?_; rintro _ x2 ⟨GB2, KB2, HB2, rfl, hg2, hk2, hh2, hb⟩; have HC := jh (NumO.later hb HC.out); have HS := jh (NumO.later hb HS.out); have HG := jh (HG.out.later hb); have HK := jn hb HK; have HH := jb hb HH; have HB := jw HB hb; have HR := jn hb HR; have LRB := jl LRB hb.size; clear hb; have HG2 := jh hg2; have HK2 := jh hk2; have HH2 := jh hh2; clear hg2 hk2 hh2; refine hK.out _ _ (⟨HH.out, HG.out, HK.out, HR.out, HC.out, HS.out⟩) (fun hHeld => ?_); clear hK K
 try simp only [Act.put, pa, pb, pc]
 refine WT.step rfl (fun K hK => ?_)
 go_simp
 refine (CF.out _ _ _ _ HG2.out HK2.out HH2.out).mono ?_; rintro _ x3 ⟨rfl, hb⟩; have HC := jh (NumO.later hb HC.out); have HS := jh (NumO.later hb HS.out); have HG := jh (HG.out.later hb); have HK := jn hb HK; have HH := jb hb HH; have HB := jw HB hb; have HR := jn hb HR; have HG2 := jh (HG2.out.later hb); have HK2 := jn hb HK2; have HH2 := jb hb HH2; have LRB := jl LRB hb.size; clear hb; refine hK.out _ _ (⟨HH.out, HG.out, HK.out, HR.out, HC.out, HS.out⟩) (fun hHeld => ?_); clear hK K
 try simp only [Act.put, pa, pb, pc]
 refine WT.tk (v := .agg #[.int .u64 (jf jd ch 0), .int .u64 (jf jd ch 1), .int .u64 (jf jd ch 2), .int .u64 (jf jd ch 3), .int .u64 (jf jd s 0), .int .u64 (jf jd s 1), .int .u64 (jf jd s 2), .int .u64 (jf jd s 3)]) rfl (fun w8 hSw => by kernel_rfl) (k := ?_); refine WT.tk (v := .bool D) rfl (fun w8 hSw => zj eqg_sig rfl (by kernel_rfl) (by kernel_rfl) (HES.out _)) (k := ?_)
 iterate 2
  refine WT.tk rfl (k := ?_)
 refine WT.done ?_; clear hHeld
 go_wp2_with fail
 go_ret
 exact ⟨rfl, HB.out⟩
def checkR (gp gq gg gh : Nat) (fa se : Int) (n : Nat) (ks : List (Nat × Nat)) (fr tt t : Nat) (b : List Nat) (c s : Nat) : Nat :=
 if jB gp gq gg gh fa se n ks = false then 1 else if (qR n fr tt && decide (tt = t)) = false then 4 else if 65536 < b.length then 3
 else if zC gp gq gg (ks.getD (fr - 1) (0, 0)).1 c s (qJ fr tt b) = true then 0 else 10
theorem chk_all {gp gq gg gh n : Nat} {fa se : Int} {ks : List (Nat × Nat)} (h : jB gp gq gg gh fa se n ks = true) :
  1 ≤ n ∧ n ≤ 7 ∧ 1 < gq ∧ Zx gp gq gg ∧ ∀ k ∈ ks, Zx gp gq k.1 ∧ k.1 ≠ 1 := by
 unfold jB at h
 by_cases h0 : fa < 0
 ·rw [if_pos h0] at h; cases h
 by_cases h1 : 2 < fa
 ·rw [if_neg h0, if_pos h1] at h; cases h
 by_cases h2 : se < 1
 ·rw [if_neg h0, if_neg h1, if_pos h2] at h; cases h
 by_cases h3 : fa + 1 < se
 ·rw [if_neg h0, if_neg h1, if_neg h2, if_pos h3] at h; cases h
 by_cases h4 : (n : Int) < 3 * fa + 1
 ·rw [if_neg h0, if_neg h1, if_neg h2, if_neg h3, if_pos h4] at h; cases h
 by_cases h5 : 7 < n
 ·rw [if_neg h0, if_neg h1, if_neg h2, if_neg h3, if_neg h4, if_pos h5] at h; cases h
 rw [if_neg h0, if_neg h1, if_neg h2, if_neg h3, if_neg h4, if_neg h5] at h
 by_cases h6 : zy gq (n + se.toNat) = false
 ·rw [if_pos h6] at h; cases h
 rw [if_neg h6] at h
 by_cases h7 : (qi gp gq gg || qi gp gq gh) = true
 ·rw [if_pos h7] at h; cases h
 rw [if_neg h7] at h
 have key : ∀ a, qi gp gq a = false → Zx gp gq a ∧ a ≠ 1 := fun a ha => by
  unfold qi at ha; simp only [Bool.or_eq_false_iff, Bool.not_eq_false', decide_eq_true_eq, decide_eq_false_iff_not] at ha; exact ha
 refine ⟨by omega, by omega, ?_, (key gg ?_).1, fun k hk => key k.1 ?_⟩
 ·rcases Nat.lt_or_ge 1 gq with h8 | h8
  ·exact h8
  ·refine absurd ?_ h6; have e := qf (x := gq) (by unfold jd; omega); unfold zy; rw [e.1, e.2.1, e.2.2.1, e.2.2.2, if_pos (by decide)]; exact decide_eq_false (by omega)
 ·cases hb : qi gp gq gg with
  | false => rfl
  | true => rw [hb] at h7; exact absurd rfl h7
 ·cases hb : qi gp gq k.1 with
  | false => rfl
  | true =>
   have : ks.any (qF gp gq) = true := List.any_eq_true.2 ⟨k, hk, by unfold qF; rw [hb]; rfl⟩; rw [this] at h
   cases h
theorem ends_iff {n fr tt : Nat} : qR n fr tt = true ↔ (1 ≤ fr ∧ fr ≤ n) ∧ (1 ≤ tt ∧ tt ≤ n) ∧ fr ≠ tt := by
 unfold qR
 repeat' split
 all_goals (simp; try omega)
theorem LCheckA_any {gp gq gg gh n cap fr tt t c s m cb : Nat} {fa se : Int} {ao ab : Option Addr} {ks : List (Nat × Nat)} {b : List Nat} (hx : ∀ k ∈ ks, k.1 < jj ∧ k.2 < jj) (hq : gq < jj) (hm : gp < jj) (hgg : gg < jj) (hgh : gh < jj) (hn : n = ks.length) (hfa : -9223372036854775808 ≤ fa ∧ fa ≤ 9223372036854775807) (hse : -9223372036854775808 ≤ se ∧ se ≤ 9223372036854775807) (hn9 : n ≤ 1000) (hfr : fr < 256) (hto : tt < 256) (ht : t < 256) (hc : c < jj) (hs : s < jj) (hmb : m = b.length) (hby : jO b) (hbl : b.length ≤ 70000) (w : World) (hk : 0 < n → ∃ b o, ao = some ⟨b, o, none⟩ ∧ KeysAt w b o ks) (hb : KAt .u8 w (.slice ab m cb) b) :
  Calls Tryz.prog 7 #[qd gp gq gg gh fa se (.slice ao n cap), qy fr tt (.slice ab m cb) c s, .int .u8 t] w fun e w' => e = .returned (.int .i64 (checkR gp gq gg gh fa se n ks fr tt t b c s : Nat)) ∧ Below w.heap.size w w' := by
 obtain ⟨R, hR⟩ := je (checkR gp gq gg gh fa se n ks fr tt t b c s); rw [← hR]; obtain ⟨st, hst⟩ := je (jB gp gq gg gh fa se n ks); have CD := jh (fun (W : World) (hb : Below w.heap.size w W) => by have h9 := DSet_any (cap := cap) (ao := ao) hx hq hm hgg hgh hn hfa hse (by omega) W (fun h0 => by obtain ⟨b, o, h1, h2⟩ := hk h0; exact ⟨b, o, h1, h2.later hb⟩); rewrite [← hst] at h9; unfold qd at h9; exact h9); have CH := jh (fun (W : World) (h : KAt .u8 W (.slice ab m cb) b) => by have h9 := LHash_any (c := c) (s := s) hfr hto W h hby (by omega); unfold qy at h9; exact h9); have HALL := jh (fun (h : jB gp gq gg gh fa se n ks = true) => chk_all h); obtain ⟨en, hen⟩ := je (qR n fr tt); have CE := jh (fun (h7 : n ≤ 7) (W : World) => by have h9 := ends_any (gp := gp) (gq := gq) (gg := gg) (gh := gh) (cap := cap) (fa := fa) (se := se) (ao := ao) h7 hfr hto W; rewrite [← hen] at h9; unfold qd at h9; exact h9); have HR := jh (show R = (if st = false then 1 else if (en && decide (tt = t)) = false then 4 else if 65536 < m then 3 else if zC gp gq gg (ks.getD (fr - 1) (0, 0)).1 c s (qJ fr tt b) = true then 0 else 10) by rw [hR, hst, hmb, hen]; rfl); have CK := jh (fun (h : st = true) (i key k9 : Nat) (hki : ks[i]? = some (key, k9)) (W : World) => by have h8 := HALL.out (by rw [← hst]; exact h); have h7 := h8.2.2.2.2 _ (List.mem_of_getElem? hki); have h9 := CheckS_all (gh := gh) h8.2.2.2.1.1 hm hgg h8.2.2.1 hq h7.1 h7.2 hc hs (zO fr tt b) (Zl fr tt b) W; unfold sigV jM ji words at h9; exact h9); have H7 := jh (fun (h : st = true) => show n ≤ 7 from (HALL.out (by rw [← hst]; exact h)).2.1); have HKK := jh hk; have HN := jh hn; have KB9 := jh hb; have HEN := jh (show en = true → 1 ≤ fr ∧ fr ≤ n from fun h => by rw [hen] at h; exact (ends_iff.1 h).1); obtain ⟨T, hT⟩ := je ((jq .u8 (qJ fr tt b)).toArray); rw [← hT] at CH CK; have hmI2 : m ≤ 70000 := by omega
 clear hR hst HALL hen hx hq hm hgg hgh hn hfa hse hc hs hmb hby hbl hb hT hn9; unfold qd qy
 go_enter Tryz.func7, Tryz.ntmps7
 go_upto_region 1 with fail
 obtain ⟨v_0, e0⟩ := je (w.alloc (.cells #[.int .u64 (jf jd gp 0), .int .u64 (jf jd gp 1), .int .u64 (jf jd gp 2), .int .u64 (jf jd gp 3), .int .u64 (jf jd gq 0), .int .u64 (jf jd gq 1), .int .u64 (jf jd gq 2), .int .u64 (jf jd gq 3), .int .u64 (jf jd gg 0), .int .u64 (jf jd gg 1), .int .u64 (jf jd gg 2), .int .u64 (jf jd gg 3), .int .u64 (jf jd gh 0), .int .u64 (jf jd gh 1), .int .u64 (jf jd gh 2), .int .u64 (jf jd gh 3), .int .i64 fa, .int .i64 se, .slice ao n cap] 29)); obtain ⟨v_1, e1⟩ := je (v_0.alloc (.cells #[.int .u8 fr, .int .u8 tt, .slice ab m cb, .int .u64 (jf jd c 0), .int .u64 (jf jd c 1), .int .u64 (jf jd c 2), .int .u64 (jf jd c 3), .int .u64 (jf jd s 0), .int .u64 (jf jd s 1), .int .u64 (jf jd s 2), .int .u64 (jf jd s 3)] 34)); have s0 : v_0.heap.size = w.heap.size + 1 := by rw [e0]; simp
 have b0 := jc e0; have b1 := jc e1; have f0 : SAt v_0 w.heap.size gp gq gg gh fa se (.slice ao n cap) := by rw [e0]; exact SAt.new _ _ _ _ _ _ _ _ _
 have f1 : FrAt v_1 (w.heap.size + 1) fr tt (.slice ab m cb) c s := by rw [← s0, e1]; exact FrAt.new _ _ _ _ _ _ _
 rw [← e0, ← e1]; obtain ⟨SB, hSB⟩ := je (w.heap.size); rw [← hSB] at f0 f1 ⊢; obtain ⟨FB, hFB⟩ := je (SB + 1); rw [← hFB] at f1 ⊢; have HS := jh (f0.later b1); have HF := jh f1; have HB := jh (jk b0 b1); have KB9 := jh (KB9.out.later HB.out); clear e0 e1 s0 b0 b1 f0 f1 hSB hFB; refine wp_region_lit ?_; refine jo rfl (jg (JG HS.out)) ?_; simp only [Act.put, pa, pb, pc]
 go_wp2_with fail
 refine (CD.out _ HB.out).mono ?_; rintro _ v_2 ⟨rfl, hb⟩; have HS := jh (HS.out.later hb); have HF := jh (HF.out.later hb); have HB := jw HB hb; have KB9 := jh (KB9.out.later hb); clear hb
 cases st
 ·skip
  have HR := jh (show R = 1 by rw [HR.out]; rfl)
  go_wp2_with fail
  go_ret
  exact ⟨by rw [HR.out]; rfl, HB.out⟩
 have H7b := jh (H7.out rfl); have CKb := jh (CK.out rfl); clear H7 CK; have CEb := jh (CE.out H7b.out); clear CE; have HR := jh (show R = (if (en && decide (tt = t)) = false then 4 else if 65536 < m then 3 else if zC gp gq gg (ks.getD (fr - 1) (0, 0)).1 c s (qJ fr tt b) = true then 0 else 10) by rw [HR.out]; rfl)
 go_upto_region 3 with fail
 refine wp_region_lit ?_; refine jo rfl (jg (JG HS.out)) ?_; simp only [Act.put, pa, pb, pc]; refine jo (v := .pointer (some ⟨FB, 0, none⟩)) rfl (by kernel_rfl) ?_; simp only [Act.put, pa, pb, pc]; refine jo (v := .int .u8 fr) rfl (jg (zF HF.out.fr)) ?_; simp only [Act.put, pa, pb, pc]; refine jo (v := .pointer (some ⟨FB, 1, none⟩)) rfl (by kernel_rfl) ?_; simp only [Act.put, pa, pb, pc]; refine jo (v := .int .u8 tt) rfl (jg (zF HF.out.tt)) ?_; simp only [Act.put, pa, pb, pc]
 go_wp2_with fail
 refine (CEb.out _).mono ?_; rintro _ v_3 ⟨rfl, hb⟩; have HS := jh (HS.out.later hb); have HF := jh (HF.out.later hb); have HB := jw HB hb; have KB9 := jh (KB9.out.later hb); clear hb
 cases en
 ·skip
  have HR := jh (show R = 4 by rw [HR.out]; rfl)
  go_wp2_with fail
  go_ret
  exact ⟨by rw [HR.out]; rfl, HB.out⟩
 have HENb := jh (HEN.out rfl); clear HEN
 by_cases htt : tt = t
 ·have HR := jh (show R = (if 65536 < m then 3 else if zC gp gq gg (ks.getD (fr - 1) (0, 0)).1 c s (qJ fr tt b) = true then 0 else 10) by rw [HR.out, decide_eq_true htt]; rfl); have hntI : ((tt : Int) != (t : Int)) = false := by rw [htt]; simp
  clear htt; have y1 := HF.out.tt
  go_upto_region 5 with fail
  clear y1 hntI; have y2 := HF.out.bv
  by_cases hlong : 65536 < m
  ·have HR := jh (show R = 3 by rw [HR.out, if_pos hlong]); have hlI : (65536 : Int) < (m : Int) := by omega
   clear hlong
   go_wp2_with fail
   go_ret
   exact ⟨by rw [HR.out]; rfl, HB.out⟩
  have hlI : ¬ (65536 : Int) < (m : Int) := by omega
  have HR := jh (show R = (if zC gp gq gg (ks.getD (fr - 1) (0, 0)).1 c s (qJ fr tt b) = true then 0 else 10) by rw [HR.out, if_neg hlong]); clear hlong
  go_upto_region 7 with fail
  clear y2 hlI; obtain ⟨i, hfi⟩ : ∃ i, fr = i + 1 := ⟨fr - 1, by have := HENb.out; omega⟩; have hin9 : i < n := by have := HENb.out; omega
  obtain ⟨⟨key, k9⟩, hki⟩ : ∃ p, ks[i]? = some p := ⟨_, List.getElem?_eq_getElem (by rw [← HN.out]; exact hin9)⟩; obtain ⟨KB, o, hao, hks⟩ := HKK.out (by omega); subst hao; have HKB := jh (show NumO v_3 KB (o + i * 8) key from fun j hj => jm ((hks i _ hki).1 j hj) HB.out); have CKc := jh (CKb.out i key k9 hki); clear CKb; have hgd : (ks.getD (fr - 1) (0, 0)).1 = key := by rw [hfi, Nat.add_sub_cancel, List.getD_eq_getElem?_getD, hki]; rfl
  obtain ⟨so, hso⟩ := je (zC gp gq gg key c s (qJ fr tt b)); have HR := jh (show R = (if so = true then 0 else 10) by rw [HR.out, hgd, hso]); rw [← hso] at CKc; have hiI : (i : Int) < (n : Int) := by omega
  have h256 : i < 256 := by omega
  have E9 := jh (show IntKind.u8.wrap ((fr : Int) - 1) = (i : Int) by rw [hfi, show (((i + 1 : Nat) : Int) - 1) = (i : Int) by omega]; simp [IntKind.wrap, IntKind.bits, IntKind.signed]; omega); clear hfi hin9 hki hks hgd hso; refine jK (.take 0 (.take 1 (.take 2 (.take 3 (.take 4 (.take 5 (.take 6 (.take 7 (.take 8 (.take 9 (.take 10 (.take 12 (.take 13 (.step 11 (.step 14 (.take 15 (.take 16 .done))))))))))))))))) (fun w8 => SAt w8 SB gp gq gg gh fa se (.slice (some ⟨KB, o, none⟩) n cap) ∧ FrAt w8 FB fr tt (.slice ab m cb) c s ∧ NumO w8 KB (o + i * 8) key) (by kernel_rfl) (by kernel_rfl) (fun _ _ _ _ _ h => h) (⟨HS.out.later ((Below.refl _ _).drew), HF.out.later ((Below.refl _ _).drew), NumO.later ((Below.refl _ _).drew) HKB.out⟩) (fun hHeld => ?_); obtain ⟨x1, e1⟩ := je (v_3.drew); rw [← e1]; have hb : Below v_3.heap.size v_3 x1 := by rw [e1]; exact (Below.refl _ _).drew
  have HKB := jh (NumO.later hb HKB.out); have HS := jh (HS.out.later hb); have HF := jh (HF.out.later hb); have HB := jw HB hb; have KB9 := jh (KB9.out.later hb); clear hb e1; refine WT.tk rfl (k := ?_); refine WT.take rfl (Or.inl ⟨by rfl, fun w8 hSw => jg (qu hSw.1.grp)⟩) ?_
  try simp only [Act.put, pa, pb, pc]
  refine WT.tk rfl (k := ?_); refine WT.tk (v := .slice (some ⟨KB, o, none⟩) n cap) rfl (fun w8 hSw => jg (Qm hSw.1.nd)) (k := ?_); refine WT.tk rfl (k := ?_); refine WT.tk (v := .int .u8 fr) rfl (fun w8 hSw => jg (zF hSw.2.1.fr)) (k := ?_); refine WT.tk (v := .int .u8 i) rfl (fun w8 hSw => by have e9 := E9.out; simp [go_sem, e9]) (k := ?_); refine WT.tk (v := .pointer (some ⟨KB, o + i * 8, none⟩)) rfl (fun w8 hSw => by simp [go_sem, hiI]) (k := ?_); refine WT.tk (v := .pointer (some ⟨KB, o + i * 8, none⟩)) rfl (fun w8 hSw => by simp [go_sem]) (k := ?_); refine WT.take rfl (Or.inl ⟨by rfl, fun w8 hSw => jg (ql hSw.2.2)⟩) ?_
  try simp only [Act.put, pa, pb, pc]
  refine WT.take rfl (Or.inl ⟨by rfl, fun w8 hSw => jg (QN hSw.2.1)⟩) ?_
  try simp only [Act.put, pa, pb, pc]
  refine WT.tk rfl (k := ?_); refine WT.take rfl (Or.inl ⟨by rfl, fun w8 hSw => jg (Qu hSw.2.1.c hSw.2.1.s)⟩) ?_
  try simp only [Act.put, pa, pb, pc]
  refine WT.step rfl (fun K hK => ?_)
  go_simp
  refine (CH.out _ KB9.out).mono ?_; rintro _ x2 ⟨rfl, hb⟩; have HKB := jh (NumO.later hb HKB.out); have HS := jh (HS.out.later hb); have HF := jh (HF.out.later hb); have HB := jw HB hb; have KB9 := jh (KB9.out.later hb); clear hb; refine hK.out _ _ (⟨HS.out, HF.out, HKB.out⟩) (fun hHeld => ?_); clear hK K
  try simp only [Act.put, pa, pb, pc]
  refine WT.step rfl (fun K hK => ?_)
  go_simp
  refine (CKc.out _).mono ?_; rintro _ x3 ⟨rfl, hb⟩; have HKB := jh (NumO.later hb HKB.out); have HS := jh (HS.out.later hb); have HF := jh (HF.out.later hb); have HB := jw HB hb; have KB9 := jh (KB9.out.later hb); clear hb; refine hK.out _ _ (⟨HS.out, HF.out, HKB.out⟩) (fun hHeld => ?_); clear hK K
  try simp only [Act.put, pa, pb, pc]
  iterate 2
   refine WT.tk rfl (k := ?_)
  refine WT.done ?_; clear hHeld
  cases so
  ·have HR := jh (show R = 10 by rw [HR.out]; rfl)
   go_wp2_with fail
   go_ret
   exact ⟨by rw [HR.out]; rfl, HB.out⟩
  ·have HR := jh (show R = 0 by rw [HR.out]; rfl)
   go_wp2_with fail
   go_ret
   exact ⟨by rw [HR.out]; rfl, HB.out⟩
 ·have HR := jh (show R = 4 by rw [HR.out, decide_eq_false htt]; rfl); have hneI2 : ((tt : Int) != (t : Int)) = true := by simp; omega
  clear htt; have y1 := HF.out.tt
  go_wp2_with fail
  go_ret
  exact ⟨by rw [HR.out]; rfl, HB.out⟩
end Go.Proofs.YtcaeaejefdhloaaGreat
