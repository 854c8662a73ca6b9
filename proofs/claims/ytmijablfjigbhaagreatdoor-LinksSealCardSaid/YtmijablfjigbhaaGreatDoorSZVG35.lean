/- Layer 20 (links) -/
import Derived.Test.YtmijablfjigbhaaGreatDoorSZVG34
set_option linter.unusedSimpArgs false
set_option linter.unusedVariables false
set_option maxHeartbeats 4000000
set_option maxRecDepth 20000
namespace Go.Proofs.YtmijablfjigbhaaGreatDoor
open Go.ChangeShapes Go.WideShapes Go.ChangeAt Go.RowKit
def Ql (c s : Nat) : Value := .agg #[.int .u64 (jf jd c 0), .int .u64 (jf jd c 1), .int .u64 (jf jd c 2), .int .u64 (jf jd c 3), .int .u64 (jf jd s 0), .int .u64 (jf jd s 1), .int .u64 (jf jd s 2), .int .u64 (jf jd s 3)]
theorem ql {w w' : World} {b n : Nat} {A : Nat → Nat} (hl : b < w.heap.size) (h : A7 w b n A) (hb : Below w.heap.size w w') : A7 w' b n A := fun j hj => (hb.cell (p := ⟨b, j, none⟩) hl).trans (h j hj)
theorem XV {w : World} {b : Nat} {A : Nat → Nat} (h : A7 w b 8 A) : w.cell? ⟨b, 0, none⟩ = some (.int .u64 (A 0)) ∧ w.cell? ⟨b, 1, none⟩ = some (.int .u64 (A 1)) ∧ w.cell? ⟨b, 2, none⟩ = some (.int .u64 (A 2)) ∧ w.cell? ⟨b, 3, none⟩ = some (.int .u64 (A 3)) ∧ w.cell? ⟨b, 4, none⟩ = some (.int .u64 (A 4)) ∧ w.cell? ⟨b, 5, none⟩ = some (.int .u64 (A 5)) ∧ w.cell? ⟨b, 6, none⟩ = some (.int .u64 (A 6)) ∧ w.cell? ⟨b, 7, none⟩ = some (.int .u64 (A 7)) :=
 ⟨h 0 (by decide), h 1 (by decide), h 2 (by decide), h 3 (by decide), h 4 (by decide), h 5 (by decide), h 6 (by decide), h 7 (by decide)⟩
theorem fQ {w : World} {b : Nat} (h : Y0 w b 8) : w.frozen? ⟨b, 0, none⟩ = false ∧ w.frozen? ⟨b, 1, none⟩ = false ∧ w.frozen? ⟨b, 2, none⟩ = false ∧ w.frozen? ⟨b, 3, none⟩ = false ∧ w.frozen? ⟨b, 4, none⟩ = false ∧ w.frozen? ⟨b, 5, none⟩ = false ∧ w.frozen? ⟨b, 6, none⟩ = false ∧ w.frozen? ⟨b, 7, none⟩ = false :=
 ⟨h 0 (by decide), h 1 (by decide), h 2 (by decide), h 3 (by decide), h 4 (by decide), h 5 (by decide), h 6 (by decide), h 7 (by decide)⟩
theorem VU {w : World} {b x y : Nat} {t : TypeId} (h : w.heap[b]? = some (.cells #[.int .u64 (jf jd x 0), .int .u64 (jf jd x 1), .int .u64 (jf jd x 2), .int .u64 (jf jd x 3), .int .u64 (jf jd y 0), .int .u64 (jf jd y 1), .int .u64 (jf jd y 2), .int .u64 (jf jd y 3)] t (0, 0))) : uB w b 0 [x, y] := fun i z hz j hj => by
 have hl := (List.getElem?_eq_some_iff.1 hz).1; rw [cell_of_row _ _ _ _ _ _ h]
 rcases (show i = 0 ∨ i = 1 by simp at hl; omega) with rfl | rfl
 ·simp at hz
  subst hz
  rcases (show j = 0 ∨ j = 1 ∨ j = 2 ∨ j = 3 by omega) with rfl | rfl | rfl | rfl <;> rfl
 ·simp at hz
  subst hz
  rcases (show j = 0 ∨ j = 1 ∨ j = 2 ∨ j = 3 by omega) with rfl | rfl | rfl | rfl <;> rfl
def YF (gp gq gg secret draw : Nat) (h : List Nat) : Nat := zu gq (gg ^ secret % gp) (gg ^ draw % gp) h
def ZS (gp gq gg secret draw : Nat) (h : List Nat) : Nat := (draw + secret * YF gp gq gg secret draw h % gq) % gq
theorem QP {w w' : World} {b x c : Nat} (h : U0 w b x) (hg : w.grownBy w' (some c)) (hn : b ≠ c) : U0 w' b x := fun j hj => hg.cell (h j hj) (fun e => hn (by injection e))
theorem grp_keep {w w' : World} {b c gp gq gg gh : Nat} (h : U2 w b gp gq gg gh) (hg : w.grownBy w' (some c)) (hn : b ≠ c) : U2 w' b gp gq gg gh :=
 ⟨fun j hj => hg.cell (h.1 j hj) (fun e => hn (by injection e)), fun j hj => hg.cell (h.2.1 j hj) (fun e => hn (by injection e)), fun j hj => hg.cell (h.2.2.1 j hj) (fun e => hn (by injection e)), fun j hj => hg.cell (h.2.2.2 j hj) (fun e => hn (by injection e))⟩
theorem IZ {w w' : World} {b c : Nat} {o : Obj} (h : w.heap[b]? = some o) (hg : w.grownBy w' (some c)) (hn : b ≠ c) : w'.heap[b]? = some o := (hg.block b (Array.getElem?_eq_some_iff.1 h).1 (fun e => hn (by injection e))).trans h
theorem kZ {w : World} {b : Nat} {A : Nat → Nat} (h : A7 w b 8 A) (x0 x1 x2 x3 x4 x5 x6 x7 : Nat) : A7 ((((((((w.setCell ⟨b, 0, none⟩ (.int .u64 x0)).setCell ⟨b, 1, none⟩ (.int .u64 x1)).setCell ⟨b, 2, none⟩ (.int .u64 x2)).setCell ⟨b, 3, none⟩ (.int .u64 x3)).setCell ⟨b, 4, none⟩ (.int .u64 x4)).setCell ⟨b, 5, none⟩ (.int .u64 x5)).setCell ⟨b, 6, none⟩ (.int .u64 x6)).setCell ⟨b, 7, none⟩ (.int .u64 x7)) b 8 (qM [x0, x1, x2, x3, x4, x5, x6, x7]) := by
 refine ((((((((h.set 0 x0).set 1 x1).set 2 x2).set 3 x3).set 4 x4).set 5 x5).set 6 x6).set 7 x7).congr fun j hj => ?_
 rcases (show j = 0 ∨ j = 1 ∨ j = 2 ∨ j = 3 ∨ j = 4 ∨ j = 5 ∨ j = 6 ∨ j = 7 by omega) with rfl | rfl | rfl | rfl | rfl | rfl | rfl | rfl <;> rfl
def qU (gp gq gg gh : Nat) (fa se : Int) (nodes : Value) : Value := .agg #[.int .u64 (jf jd gp 0), .int .u64 (jf jd gp 1), .int .u64 (jf jd gp 2), .int .u64 (jf jd gp 3), .int .u64 (jf jd gq 0), .int .u64 (jf jd gq 1), .int .u64 (jf jd gq 2), .int .u64 (jf jd gq 3), .int .u64 (jf jd gg 0), .int .u64 (jf jd gg 1), .int .u64 (jf jd gg 2), .int .u64 (jf jd gg 3), .int .u64 (jf jd gh 0), .int .u64 (jf jd gh 1), .int .u64 (jf jd gh 2), .int .u64 (jf jd gh 3), .int .i64 fa, .int .i64 se, nodes]
def zm (gq secret : Nat) (h : List Nat) : Nat := if ZA gq secret h = 0 then 1 else ZA gq secret h
theorem AX {w : World} {b gp gq gg gh : Nat} (h : ∀ (j : Nat) v, [.int .u64 (jf jd gp 0), .int .u64 (jf jd gp 1), .int .u64 (jf jd gp 2), .int .u64 (jf jd gp 3), .int .u64 (jf jd gq 0), .int .u64 (jf jd gq 1), .int .u64 (jf jd gq 2), .int .u64 (jf jd gq 3), .int .u64 (jf jd gg 0), .int .u64 (jf jd gg 1), .int .u64 (jf jd gg 2), .int .u64 (jf jd gg 3), .int .u64 (jf jd gh 0), .int .u64 (jf jd gh 1), .int .u64 (jf jd gh 2), .int .u64 (jf jd gh 3)][j]? = some v → w.cell? ⟨b, j, none⟩ = some v) : U2 w b gp gq gg gh :=
 ⟨fun j hj => by rcases (show j = 0 ∨ j = 1 ∨ j = 2 ∨ j = 3 by omega) with rfl | rfl | rfl | rfl <;> exact h _ _ rfl, fun j hj => by rcases (show j = 0 ∨ j = 1 ∨ j = 2 ∨ j = 3 by omega) with rfl | rfl | rfl | rfl <;> exact h _ _ rfl, fun j hj => by rcases (show j = 0 ∨ j = 1 ∨ j = 2 ∨ j = 3 by omega) with rfl | rfl | rfl | rfl <;> exact h _ _ rfl, fun j hj => by rcases (show j = 0 ∨ j = 1 ∨ j = 2 ∨ j = 3 by omega) with rfl | rfl | rfl | rfl <;> exact h _ _ rfl⟩
def qJ (gp gq a : Nat) : Bool := !decide (YJ gp gq a) || decide (a = 1)
theorem gX {GB gp gq gg gh a : Nat} (h : ¬ YJ gp gq a) (ha : a < jo) (hq : gq < jo) (hm : gp < jo) (w : World) (hg : U2 w GB gp gq gg gh) :
  Calls Tryz.prog 160 #[jj a, .pointer (some ⟨GB, 0, none⟩)] w fun e w' => e = .returned (.bool (qJ gp gq a)) ∧ Below w.heap.size w w' := by
 have CI := jh (fun W => by have h8 := wU (gg := gg) (gh := gh) ha hq hm W; rw [decide_eq_false h] at h8; unfold qd jj words at h8; exact h8); have HG := jh hg; have hv : qJ gp gq a = true := by unfold qJ; rw [decide_eq_false h]; rfl
 rw [hv]; clear h hv hg ha hq hm; unfold jj words
 go_enter Tryz.func160, Tryz.ntmps160
 go_upto_region 1 with fail
 obtain ⟨w0, e0⟩ := je (w.alloc (.cells (jD a) 24)); obtain ⟨AB, hAB⟩ := je (w.heap.size); have hb := jc e0; have HA := jh (show U0 w0 AB a by rw [e0, hAB]; exact U0.new _ _ _ _ rfl); have HG := jh (HG.out.later hb); have HB := jh hb; rw [← e0, ← hAB]; clear e0 hAB hb; refine wp_region_lit ?_; refine ji rfl (jg (qR HG.out)) ?_; refine ji rfl (jg (qx HA.out)) ?_; simp only [Act.put, pa, pb, pc]
 go_wp2_with fail
 refine (CI.out _).mono ?_; rintro _ w1 ⟨rfl, hb⟩; have HA := jn hb HA; have HB := jw HB hb; clear hb
 go_wp2_with fail
 go_ret
 exact ⟨rfl, HB.out⟩
theorem kX {GB gp gq gg gh a : Nat} (h : YJ gp gq a) (h9 : a = 1) (ha : a < jo) (hq : gq < jo) (hm : gp < jo) (w : World) (hg : U2 w GB gp gq gg gh) :
  Calls Tryz.prog 160 #[jj a, .pointer (some ⟨GB, 0, none⟩)] w fun e w' => e = .returned (.bool (qJ gp gq a)) ∧ Below w.heap.size w w' := by
 have CI := jh (fun W => by have h8 := wU (gg := gg) (gh := gh) ha hq hm W; rw [decide_eq_true h] at h8; unfold qd jj words at h8; exact h8); have HG := jh hg; have hv : qJ gp gq a = true := by unfold qJ; rw [decide_eq_true h]; rw [decide_eq_true h9]; rfl
 rw [hv]; have heq := zp a 1 ha (by decide); rw [decide_eq_true h9] at heq; have z0 : ((jf jd 1 0 : Nat) : Int) = 1 := by decide
 have z1 : ((jf jd 1 1 : Nat) : Int) = 0 := by decide
 have z2 : ((jf jd 1 2 : Nat) : Int) = 0 := by decide
 have z3 : ((jf jd 1 3 : Nat) : Int) = 0 := by decide
 simp only [z0, z1, z2, z3] at heq; clear z0 z1 z2 z3 h9; clear h hv hg ha hq hm; unfold jj words
 go_enter Tryz.func160, Tryz.ntmps160
 go_upto_region 1 with fail
 obtain ⟨w0, e0⟩ := je (w.alloc (.cells (jD a) 24)); obtain ⟨AB, hAB⟩ := je (w.heap.size); have hb := jc e0; have HA := jh (show U0 w0 AB a by rw [e0, hAB]; exact U0.new _ _ _ _ rfl); have HG := jh (HG.out.later hb); have HB := jh hb; rw [← e0, ← hAB]; clear e0 hAB hb; refine wp_region_lit ?_; refine ji rfl (jg (qR HG.out)) ?_; refine ji rfl (jg (qx HA.out)) ?_; simp only [Act.put, pa, pb, pc]
 go_wp2_with fail
 refine (CI.out _).mono ?_; rintro _ w1 ⟨rfl, hb⟩; have HA := jn hb HA; have HB := jw HB hb; clear hb; obtain ⟨r0, r1, r2, r3⟩ := jz HA.out
 go_wp2_with fail
 go_ret
 exact ⟨rfl, HB.out⟩
theorem keys1_in {GB gp gq gg gh a : Nat} (h : YJ gp gq a) (h9 : a ≠ 1) (ha : a < jo) (hq : gq < jo) (hm : gp < jo) (w : World) (hg : U2 w GB gp gq gg gh) :
  Calls Tryz.prog 160 #[jj a, .pointer (some ⟨GB, 0, none⟩)] w fun e w' => e = .returned (.bool (qJ gp gq a)) ∧ Below w.heap.size w w' := by
 have CI := jh (fun W => by have h8 := wU (gg := gg) (gh := gh) ha hq hm W; rw [decide_eq_true h] at h8; unfold qd jj words at h8; exact h8); have HG := jh hg; have hv : qJ gp gq a = false := by unfold qJ; rw [decide_eq_true h]; rw [decide_eq_false h9]; rfl
 rw [hv]; have heq := zp a 1 ha (by decide); rw [decide_eq_false h9] at heq; have z0 : ((jf jd 1 0 : Nat) : Int) = 1 := by decide
 have z1 : ((jf jd 1 1 : Nat) : Int) = 0 := by decide
 have z2 : ((jf jd 1 2 : Nat) : Int) = 0 := by decide
 have z3 : ((jf jd 1 3 : Nat) : Int) = 0 := by decide
 simp only [z0, z1, z2, z3] at heq; clear z0 z1 z2 z3 h9; clear h hv hg ha hq hm; unfold jj words
 go_enter Tryz.func160, Tryz.ntmps160
 go_upto_region 1 with fail
 obtain ⟨w0, e0⟩ := je (w.alloc (.cells (jD a) 24)); obtain ⟨AB, hAB⟩ := je (w.heap.size); have hb := jc e0; have HA := jh (show U0 w0 AB a by rw [e0, hAB]; exact U0.new _ _ _ _ rfl); have HG := jh (HG.out.later hb); have HB := jh hb; rw [← e0, ← hAB]; clear e0 hAB hb; refine wp_region_lit ?_; refine ji rfl (jg (qR HG.out)) ?_; refine ji rfl (jg (qx HA.out)) ?_; simp only [Act.put, pa, pb, pc]
 go_wp2_with fail
 refine (CI.out _).mono ?_; rintro _ w1 ⟨rfl, hb⟩; have HA := jn hb HA; have HB := jw HB hb; clear hb; obtain ⟨r0, r1, r2, r3⟩ := jz HA.out
 go_wp2_with fail
 go_ret
 exact ⟨rfl, HB.out⟩
theorem lX {GB gp gq gg gh a : Nat} (ha : a < jo) (hq : gq < jo) (hm : gp < jo) (w : World) (hg : U2 w GB gp gq gg gh) :
  Calls Tryz.prog 160 #[jj a, .pointer (some ⟨GB, 0, none⟩)] w fun e w' => e = .returned (.bool (qJ gp gq a)) ∧ Below w.heap.size w w' := by
 by_cases h : YJ gp gq a
 ·by_cases h9 : a = 1
  ·exact kX h h9 ha hq hm w hg
  ·exact keys1_in h h9 ha hq hm w hg
 ·exact gX h ha hq hm w hg
theorem idxN_any {GB gp gq gg gh b o cap : Nat} {xs : List Nat} (hx : ∀ x ∈ xs, x < jo) (hq : gq < jo) (hm : gp < jo) (hn0 : xs.length ≤ 1000) (w : World) (hg : U2 w GB gp gq gg gh) (h : uB w b o xs) :
  Calls Tryz.prog 193 #[.slice (some ⟨b, o, none⟩) xs.length cap, .func (.func 160) #[] #[.pointer (some ⟨GB, 0, none⟩)]] w fun e w' => ∃ r : Int, e = .returned (.int .i64 r) ∧ (-1 ≤ r ∧ r ≤ 1000) ∧ decide (0 ≤ r) = xs.any (qJ gp gq) ∧ Below w.heap.size w w' := by
 have HX := jh h; have HG := jh hg; obtain ⟨n, hn⟩ := je (xs.length); have HN := jh hn; rw [← hn]; have hnb : n ≤ 1000 := by omega
 have CK := jh (fun (x : Nat) (V9 : x < jo) (W : World) UC => by have h9 := lX (GB := GB) (gg := gg) (gh := gh) V9 hq hm W UC; unfold jj words at h9; exact h9); have HXL := jh hx; clear h hn hx hq hm hn0 hg
 go_enter Tryz.func193, Tryz.ntmps193
 go_wp2_with fail
 go_loopw [8] (fun i wr => ∃ k : Nat, k ≤ n ∧ i = .int .i64 k ∧ Hid ((xs.take k).any (qJ gp gq) = false) ∧ Hid (Below w.heap.size w wr)) (fun i _ => n - (intOf i).toNat)
 case atStart => exact ⟨0, Nat.zero_le _, rfl, jh rfl, jh (Below.refl _ _)⟩
 case round =>
  obtain ⟨k, hk, rfl, HK, HB⟩ := hrel
  by_cases hlt : k < n
  ·obtain ⟨x, hx⟩ : ∃ x, xs[k]? = some x := ⟨_, List.getElem?_eq_getElem (by rw [← HN.out]; exact hlt)⟩; have N8 : (k : Int) < (n : Int) := by omega
   have L8 := jh hlt; have VA := jh (HXL.out x (List.mem_of_getElem? hx)); have HXI := jh hx; have r0 := jm (HX.out k x hx 0 (by decide)) HB.out; have r1 := jm (HX.out k x hx 1 (by decide)) HB.out; have r2 := jm (HX.out k x hx 2 (by decide)) HB.out; have r3 := jm (HX.out k x hx 3 (by decide)) HB.out; rw [Nat.add_zero] at r0; clear hx hlt
   go_wp2_with fail
   clear r0 r1 r2 r3; have CKx := jh (CK.out x VA.out wr (HG.out.later HB.out))
   by_cases hbad : qJ gp gq x = true
   ·rw [hbad] at CKx; refine CKx.out.mono ?_; rintro _ w4 ⟨rfl, hb⟩; have HB := jw HB hb; have DU := jh hbad; clear hb hbad
    go_wp2_with fail
    go_ret
    exact ⟨_, rfl, ⟨by omega, by have := L8.out; omega⟩, by
     rw [decide_eq_true (show (0 : Int) ≤ (k : Int) by omega)]
     exact (List.any_eq_true.2 ⟨x, List.mem_of_getElem? HXI.out, DU.out⟩).symm, HB.out⟩
   ·rw [show qJ gp gq x = false by simpa using hbad] at CKx; refine CKx.out.mono ?_; rintro _ w4 ⟨rfl, hb⟩; have HB := jw HB hb; have DU := jh hbad; clear hb hbad
    go_wp2_with fail
    go_roundw
    case rel => exact ⟨k + 1, L8.out, by go_num, jh (by rw [List.take_add_one, HXI.out, List.any_append, HK.out]; simpa using DU.out), HB⟩
    case measure => simp [intOf]; have := L8.out; omega
  ·obtain rfl : k = n := by omega
   clear hlt
   go_wp2_with fail
   go_ret
   exact ⟨_, rfl, ⟨by omega, by omega⟩, by
    have h9 := HK.out; rw [HN.out, List.take_length] at h9; rw [h9]
    rfl, HB.out⟩
theorem conN_any {GB gp gq gg gh b o cap : Nat} {xs : List Nat} (hx : ∀ x ∈ xs, x < jo) (hq : gq < jo) (hm : gp < jo) (hn0 : xs.length ≤ 1000) (w : World) (hg : U2 w GB gp gq gg gh) (h : uB w b o xs) :
  Calls Tryz.prog 159 #[.slice (some ⟨b, o, none⟩) xs.length cap, .func (.func 160) #[] #[.pointer (some ⟨GB, 0, none⟩)]] w fun e w' => e = .returned (.bool (xs.any (qJ gp gq))) ∧ Below w.heap.size w w' := by
 have CI := jh (idxN_any (cap := cap) hx hq hm hn0 w hg h); obtain ⟨n, hn⟩ := je (xs.length); obtain ⟨d, hd⟩ := je (xs.any (qJ gp gq)); rw [← hn, ← hd] at CI ⊢; clear hn hd hx hq hm hn0 hg h
 go_enter Tryz.func159, Tryz.ntmps159
 go_wp2_with fail
 refine CI.out.mono ?_; rintro _ w1 ⟨r, rfl, ⟨h1, h2⟩, h3, hb⟩; have HB := jh hb; have H3 := jh h3; clear h3 hb
 go_wp2_with fail
 go_ret
 exact ⟨by rw [← H3.out]; rfl, HB.out⟩
theorem EP {gp gq gg gh b o cap : Nat} {xs : List Nat} (hx : ∀ x ∈ xs, x < jo) (hq : gq < jo) (hm : gp < jo) (hn0 : xs.length ≤ 1000) (w : World) (h : uB w b o xs) :
  Calls Tryz.prog 94 #[qd gp gq gg gh, .slice (some ⟨b, o, none⟩) xs.length cap] w fun e w' => e = .returned (.bool (!xs.any (qJ gp gq))) ∧ Below w.heap.size w w' := by
 have CC := jh (fun (W : World) (GB : Nat) UC V9 => conN_any (GB := GB) (gg := gg) (gh := gh) (o := o) (cap := cap) (b := b) hx hq hm hn0 W UC V9); have HX := jh h; obtain ⟨n, hn⟩ := je (xs.length); obtain ⟨d, hd⟩ := je (xs.any (qJ gp gq)); rw [← hn, ← hd] at CC ⊢; clear hn hd hx hq hm hn0 h; unfold qd
 go_enter Tryz.func94, Tryz.ntmps94
 go_upto_region 1 with fail
 obtain ⟨w0, e0⟩ := je (w.alloc (.cells (jG gp gq gg gh) 26)); obtain ⟨GG, P7⟩ := je (w.heap.size); have hb := jc e0; have HG := jh (show U2 w0 GG gp gq gg gh by rw [e0, P7]; exact U2.new _ _ _ _ _ _); have HB := jh hb; rw [← e0, ← P7]; clear e0 P7 hb
 go_wp2_with fail
 refine (CC.out _ GG HG.out (HX.out.later HB.out)).mono ?_; rintro _ w1 ⟨rfl, hb⟩; have HB := jw HB hb; clear hb
 go_wp2_with fail
 go_ret
 exact ⟨rfl, HB.out⟩
def D8 (w : World) (b o : Nat) (ks : List (Nat × Nat)) : Prop := ∀ i k, ks[i]? = some k → (∀ j, j < 4 → w.cell? ⟨b, o + i * 8 + j, none⟩ = some (.int .u64 (jf jd k.1 j))) ∧ ∀ j, j < 4 → w.cell? ⟨b, o + i * 8 + (4 + j), none⟩ = some (.int .u64 (jf jd k.2 j))
theorem D8.later {w w' : World} {b o : Nat} {ks : List (Nat × Nat)} (h : D8 w b o ks) (hb : Below w.heap.size w w') : D8 w' b o ks := fun i k hk => ⟨fun j hj => jm ((h i k hk).1 j hj) hb, fun j hj => jm ((h i k hk).2 j hj) hb⟩
def qS (gp gq : Nat) (k : Nat × Nat) : Bool := qJ gp gq k.1 || qJ gp gq k.2
def qk (gp gq gg gh : Nat) (fa se : Int) (n : Nat) (ks : List (Nat × Nat)) : Bool :=
 if fa < 0 then false else if 2 < fa then false else if se < 1 then false else if fa + 1 < se then false else if (n : Int) < 3 * fa + 1 then false else if 7 < n then false
 else if Qi gq (n + se.toNat) = false then false else if (qJ gp gq gg || qJ gp gq gh) = true then false else !ks.any (qS gp gq)
theorem PU {w : World} {gp gq gg gh : Nat} {x y z : Value} {t : TypeId} : U2 (w.alloc (.cells #[.int .u64 (jf jd gp 0), .int .u64 (jf jd gp 1), .int .u64 (jf jd gp 2), .int .u64 (jf jd gp 3), .int .u64 (jf jd gq 0), .int .u64 (jf jd gq 1), .int .u64 (jf jd gq 2), .int .u64 (jf jd gq 3), .int .u64 (jf jd gg 0), .int .u64 (jf jd gg 1), .int .u64 (jf jd gg 2), .int .u64 (jf jd gg 3), .int .u64 (jf jd gh 0), .int .u64 (jf jd gh 1), .int .u64 (jf jd gh 2), .int .u64 (jf jd gh 3), x, y, z] t)) w.heap.size gp gq gg gh :=
 AX fun j v hj => by
  rw [cell_of_row _ _ _ _ _ _ (heap_alloc_new _ _)]; have hl := (List.getElem?_eq_some_iff.1 hj).1; simp only [List.length_cons, List.length_nil] at hl
  rcases (show j = 0 ∨ j = 1 ∨ j = 2 ∨ j = 3 ∨ j = 4 ∨ j = 5 ∨ j = 6 ∨ j = 7 ∨ j = 8 ∨ j = 9 ∨ j = 10 ∨ j = 11 ∨ j = 12 ∨ j = 13 ∨ j = 14 ∨ j = 15 by omega) with rfl | rfl | rfl | rfl | rfl | rfl | rfl | rfl | rfl | rfl | rfl | rfl | rfl | rfl | rfl | rfl <;> exact hj
theorem EZ {SB gp gq gg gh : Nat} {k : Nat × Nat} (h1 : k.1 < jo) (h2 : k.2 < jo) (hq : gq < jo) (hm : gp < jo) (w : World) (hg : U2 w SB gp gq gg gh) :
  Calls Tryz.prog 96 #[.agg #[.int .u64 (jf jd k.1 0), .int .u64 (jf jd k.1 1), .int .u64 (jf jd k.1 2), .int .u64 (jf jd k.1 3), .int .u64 (jf jd k.2 0), .int .u64 (jf jd k.2 1), .int .u64 (jf jd k.2 2), .int .u64 (jf jd k.2 3)], .pointer (some ⟨SB, 0, none⟩)] w fun e w' => e = .returned (.bool (qS gp gq k)) ∧ Below w.heap.size w w' := by
 have CK := jh (fun (W : World) (B cap : Nat) V9 => by have h9 := EP (gp := gp) (gq := gq) (gg := gg) (gh := gh) (b := B) (o := 0) (cap := cap) (xs := [k.1, k.2]) (by intro x hx; simp only [List.mem_cons, List.not_mem_nil, or_false] at hx; rcases hx with rfl | rfl; exact h1; exact h2) hq hm (by simp) W V9; unfold qd at h9; exact h9); have HG := jh hg; have hv : [k.1, k.2].any (qJ gp gq) = qS gp gq k := by unfold qS; simp
 rw [hv] at CK; obtain ⟨d, hd⟩ := je (qS gp gq k); rw [← hd] at CK ⊢; obtain ⟨x, y⟩ := k; clear hv hd hg h1 h2 hq hm
 go_enter Tryz.func96, Tryz.ntmps96
 go_upto_region 1 with fail
 obtain ⟨w0, e0⟩ := je (w.alloc (.cells (jE x y) 96)); obtain ⟨KB, OY⟩ := je (w.heap.size); have hb := jc e0; have hrow : w0.heap[KB]? = some (.cells #[.int .u64 (jf jd x 0), .int .u64 (jf jd x 1), .int .u64 (jf jd x 2), .int .u64 (jf jd x 3), .int .u64 (jf jd y 0), .int .u64 (jf jd y 1), .int .u64 (jf jd y 2), .int .u64 (jf jd y 3)] 96 (0, 0)) := by rw [e0, OY]; exact heap_alloc_new _ _
 have HX := jh (show X6 w0 KB 0 x from fun j hj => by rw [cell_of_row _ _ _ _ _ _ hrow]; rcases (show j = 0 ∨ j = 1 ∨ j = 2 ∨ j = 3 by omega) with rfl | rfl | rfl | rfl <;> rfl); have HY := jh (show X6 w0 KB 4 y from fun j hj => by rw [cell_of_row _ _ _ _ _ _ hrow]; rcases (show j = 0 ∨ j = 1 ∨ j = 2 ∨ j = 3 by omega) with rfl | rfl | rfl | rfl <;> rfl); have HG := jh (HG.out.later hb); have HB := jh hb; rw [← e0, ← OY]; clear e0 OY hb hrow; refine wp_region_lit ?_; refine ji (v := .pointer (some ⟨SB, 0, none⟩)) rfl (by kernel_rfl) ?_; refine ji rfl (jg (qR HG.out)) ?_; refine ji (v := .pointer (some ⟨KB, 0, none⟩)) rfl (by kernel_rfl) ?_; refine ji rfl (jg (qX HX.out)) ?_; refine ji (v := .pointer (some ⟨KB, 4, none⟩)) rfl (by kernel_rfl) ?_; refine ji rfl (jg (qX HY.out)) ?_; simp only [Act.put, pa, pb, pc]
 go_wp2_with fail
 obtain ⟨w1, e9⟩ := je (w0.alloc (.cells (jE x y) 24)); obtain ⟨PB, h9⟩ := je (w0.heap.size); have hb := jc e9; have HP := jh (show w1.heap[PB]? = some (.cells #[.int .u64 (jf jd x 0), .int .u64 (jf jd x 1), .int .u64 (jf jd x 2), .int .u64 (jf jd x 3), .int .u64 (jf jd y 0), .int .u64 (jf jd y 1), .int .u64 (jf jd y 2), .int .u64 (jf jd y 3)] 24 (0, 0)) by rw [e9, h9]; exact heap_alloc_new _ _); have IG := jh (show PB < w1.heap.size by rw [e9, h9]; simp); have WPB := jh (show w0.heap.size = PB from h9.symm); rw [← e9, ← h9]; clear e9 h9; have HB := jw HB hb; clear hb; refine (CK.out _ PB _ (VU HP.out)).mono ?_; rintro _ w2 ⟨rfl, hb⟩; have HB := jw HB hb; clear hb
 go_wp2_with fail
 go_ret
 exact ⟨by simp, HB.out⟩
theorem idxK_any {SB gp gq gg gh b o cap : Nat} {ks : List (Nat × Nat)} (hx : ∀ k ∈ ks, k.1 < jo ∧ k.2 < jo) (hq : gq < jo) (hm : gp < jo) (hn0 : ks.length ≤ 1000) (w : World) (hg : U2 w SB gp gq gg gh) (h : D8 w b o ks) :
  Calls Tryz.prog 162 #[.slice (some ⟨b, o, none⟩) ks.length cap, .func (.func 96) #[] #[.pointer (some ⟨SB, 0, none⟩)]] w fun e w' => ∃ r : Int, e = .returned (.int .i64 r) ∧ (-1 ≤ r ∧ r ≤ 1000) ∧ decide (0 ≤ r) = ks.any (qS gp gq) ∧ Below w.heap.size w w' := by
 have HX := jh h; have HG := jh hg; obtain ⟨n, hn⟩ := je (ks.length); have HN := jh hn; rw [← hn]; have hnb : n ≤ 1000 := by omega
 have CK := jh (fun (k : Nat × Nat) (V9 : k.1 < jo ∧ k.2 < jo) (W : World) UC => EZ (SB := SB) (gg := gg) (gh := gh) V9.1 V9.2 hq hm W UC); have HXL := jh hx; clear h hn hx hq hm hn0 hg
 go_enter Tryz.func162, Tryz.ntmps162
 go_wp2_with fail
 go_loopw [8] (fun i wr => ∃ k : Nat, k ≤ n ∧ i = .int .i64 k ∧ Hid ((ks.take k).any (qS gp gq) = false) ∧ Hid (Below w.heap.size w wr)) (fun i _ => n - (intOf i).toNat)
 case atStart => exact ⟨0, Nat.zero_le _, rfl, jh rfl, jh (Below.refl _ _)⟩
 case round =>
  obtain ⟨k, hk, rfl, HK, HB⟩ := hrel
  by_cases hlt : k < n
  ·obtain ⟨x, hx⟩ : ∃ x, ks[k]? = some x := ⟨_, List.getElem?_eq_getElem (by rw [← HN.out]; exact hlt)⟩; have N8 : (k : Int) < (n : Int) := by omega
   have L8 := jh hlt; have VA := jh (HXL.out x (List.mem_of_getElem? hx)); have HXI := jh hx; have r0 := jm ((HX.out k x hx).1 0 (by decide)) HB.out; have r1 := jm ((HX.out k x hx).1 1 (by decide)) HB.out; have r2 := jm ((HX.out k x hx).1 2 (by decide)) HB.out; have r3 := jm ((HX.out k x hx).1 3 (by decide)) HB.out; have r4 := jm ((HX.out k x hx).2 0 (by decide)) HB.out; have r5 := jm ((HX.out k x hx).2 1 (by decide)) HB.out; have r6 := jm ((HX.out k x hx).2 2 (by decide)) HB.out; have r7 := jm ((HX.out k x hx).2 3 (by decide)) HB.out; rw [Nat.add_zero] at r0; simp only [Nat.reduceAdd] at r4 r5 r6 r7; clear hx hlt
   go_wp2_with fail
   clear r0 r1 r2 r3 r4 r5 r6 r7; have CKx := jh (CK.out x VA.out wr (HG.out.later HB.out))
   by_cases hbad : qS gp gq x = true
   ·rw [hbad] at CKx; refine CKx.out.mono ?_; rintro _ w4 ⟨rfl, hb⟩; have HB := jw HB hb; have DU := jh hbad; clear hb hbad
    go_wp2_with fail
    go_ret
    exact ⟨_, rfl, ⟨by omega, by have := L8.out; omega⟩, by
     rw [decide_eq_true (show (0 : Int) ≤ (k : Int) by omega)]
     exact (List.any_eq_true.2 ⟨x, List.mem_of_getElem? HXI.out, DU.out⟩).symm, HB.out⟩
   ·rw [show qS gp gq x = false by simpa using hbad] at CKx; refine CKx.out.mono ?_; rintro _ w4 ⟨rfl, hb⟩; have HB := jw HB hb; have DU := jh hbad; clear hb hbad
    go_wp2_with fail
    go_roundw
    case rel => exact ⟨k + 1, L8.out, by go_num, jh (by rw [List.take_add_one, HXI.out, List.any_append, HK.out]; simpa using DU.out), HB⟩
    case measure => simp [intOf]; have := L8.out; omega
  ·obtain rfl : k = n := by omega
   clear hlt
   go_wp2_with fail
   go_ret
   exact ⟨_, rfl, ⟨by omega, by omega⟩, by
    have h9 := HK.out; rw [HN.out, List.take_length] at h9; rw [h9]
    rfl, HB.out⟩
theorem conK_any {SB gp gq gg gh b o cap : Nat} {ks : List (Nat × Nat)} (hx : ∀ k ∈ ks, k.1 < jo ∧ k.2 < jo) (hq : gq < jo) (hm : gp < jo) (hn0 : ks.length ≤ 1000) (w : World) (hg : U2 w SB gp gq gg gh) (h : D8 w b o ks) :
  Calls Tryz.prog 95 #[.slice (some ⟨b, o, none⟩) ks.length cap, .func (.func 96) #[] #[.pointer (some ⟨SB, 0, none⟩)]] w fun e w' => e = .returned (.bool (ks.any (qS gp gq))) ∧ Below w.heap.size w w' := by
 have CI := jh (idxK_any (cap := cap) hx hq hm hn0 w hg h); obtain ⟨n, hn⟩ := je (ks.length); obtain ⟨d, hd⟩ := je (ks.any (qS gp gq)); rw [← hn, ← hd] at CI ⊢; clear hn hd hx hq hm hn0 hg h
 go_enter Tryz.func95, Tryz.ntmps95
 go_wp2_with fail
 refine CI.out.mono ?_; rintro _ w1 ⟨r, rfl, ⟨h1, h2⟩, h3, hb⟩; have HB := jh hb; have H3 := jh h3; clear h3 hb
 go_wp2_with fail
 go_ret
 exact ⟨by rw [← H3.out]; rfl, HB.out⟩
theorem DSet_any {gp gq gg gh n cap : Nat} {fa se : Int} {ao : Option Addr} {ks : List (Nat × Nat)} (hx : ∀ k ∈ ks, k.1 < jo ∧ k.2 < jo) (hq : gq < jo) (hm : gp < jo) (hgg : gg < jo) (hgh : gh < jo) (hn : n = ks.length) (hfa : -9223372036854775808 ≤ fa ∧ fa ≤ 9223372036854775807) (hse : -9223372036854775808 ≤ se ∧ se ≤ 9223372036854775807) (X8 : n ≤ 140737488355328) (w : World) (hk : 0 < n → ∃ b o, ao = some ⟨b, o, none⟩ ∧ D8 w b o ks) :
  Calls Tryz.prog 24 #[qU gp gq gg gh fa se (.slice ao n cap)] w fun e w' => e = .returned (.bool (qk gp gq gg gh fa se n ks)) ∧ Below w.heap.size w w' := by
 obtain ⟨hf1, hf2⟩ := hfa; obtain ⟨hs1, hs2⟩ := hse; obtain ⟨R, hR⟩ := je (qk gp gq gg gh fa se n ks); rw [← hR]; have HR := jh hR; have CA := jh (fun (m : Nat) (hmb : m ≤ 1000) (W : World) => by have h9 := kY (a := gq) hmb W; unfold jj words at h9; exact h9); obtain ⟨kb, hkb⟩ := je ([gg, gh].any (qJ gp gq)); have HKB := jh (show (qJ gp gq gg || qJ gp gq gh) = kb by rw [hkb]; simp); have CK := jh (fun (W : World) (B cap : Nat) V9 => by have h9 := EP (gp := gp) (gq := gq) (gg := gg) (gh := gh) (b := B) (o := 0) (cap := cap) (xs := [gg, gh]) (by intro x hx; simp only [List.mem_cons, List.not_mem_nil, or_false] at hx; rcases hx with rfl | rfl; exact hgg; exact hgh) hq hm (by simp) W V9; rewrite [← hkb] at h9; unfold qd at h9; exact h9); obtain ⟨d, hd⟩ := je (ks.any (qS gp gq)); have HD := jh hd; have CC := jh (fun (b o : Nat) (h7 : n ≤ 7) (W : World) (SB : Nat) UC hk9 => by have h9 := conK_any (SB := SB) (gg := gg) (gh := gh) (b := b) (o := o) (cap := cap) hx hq hm (by omega) W UC hk9; rewrite [← hn, ← hd] at h9; exact h9); have HKH := jh hk; clear hR hkb hd hx hq hm hgg hgh hn hk; unfold qU
 go_enter Tryz.func24, Tryz.ntmps24
 go_upto_region 1 with fail
 obtain ⟨w0, e0⟩ := je (w.alloc (.cells #[.int .u64 (jf jd gp 0), .int .u64 (jf jd gp 1), .int .u64 (jf jd gp 2), .int .u64 (jf jd gp 3), .int .u64 (jf jd gq 0), .int .u64 (jf jd gq 1), .int .u64 (jf jd gq 2), .int .u64 (jf jd gq 3), .int .u64 (jf jd gg 0), .int .u64 (jf jd gg 1), .int .u64 (jf jd gg 2), .int .u64 (jf jd gg 3), .int .u64 (jf jd gh 0), .int .u64 (jf jd gh 1), .int .u64 (jf jd gh 2), .int .u64 (jf jd gh 3), .int .i64 fa, .int .i64 se, .slice ao n cap] 29)); obtain ⟨SB, L9⟩ := je (w.heap.size); have hb := jc e0; have HG := jh (show U2 w0 SB gp gq gg gh by rw [e0, L9]; exact PU); have S16 := jh (show w0.cell? ⟨SB, 16, none⟩ = some (.int .i64 fa) by rw [e0, L9, cell_of_row _ _ _ _ _ _ (heap_alloc_new _ _)]; rfl); have S17 := jh (show w0.cell? ⟨SB, 17, none⟩ = some (.int .i64 se) by rw [e0, L9, cell_of_row _ _ _ _ _ _ (heap_alloc_new _ _)]; rfl); have S18 := jh (show w0.cell? ⟨SB, 18, none⟩ = some (.slice ao n cap) by rw [e0, L9, cell_of_row _ _ _ _ _ _ (heap_alloc_new _ _)]; rfl); have HB := jh hb; rw [← e0, ← L9]; clear e0 L9 hb; have q16 := S16.out; have q17 := S17.out; have GY := S18.out
 by_cases h0 : fa < 0
 ·have HR := jh (show R = false by rw [HR.out]; unfold qk; rw [if_pos h0])
  go_wp2_with fail
  go_ret
  exact ⟨by rw [HR.out]; rfl, HB.out⟩
 by_cases h1 : 2 < fa
 ·have HR := jh (show R = false by rw [HR.out]; unfold qk; rw [if_neg h0, if_pos h1])
  go_wp2_with fail
  go_ret
  exact ⟨by rw [HR.out]; rfl, HB.out⟩
 by_cases h2 : se < 1
 ·have HR := jh (show R = false by rw [HR.out]; unfold qk; rw [if_neg h0, if_neg h1, if_pos h2])
  go_wp2_with fail
  go_ret
  exact ⟨by rw [HR.out]; rfl, HB.out⟩
 by_cases h3 : fa + 1 < se
 ·have HR := jh (show R = false by rw [HR.out]; unfold qk; rw [if_neg h0, if_neg h1, if_neg h2, if_pos h3])
  go_wp2_with fail
  go_ret
  exact ⟨by rw [HR.out]; rfl, HB.out⟩
 by_cases h4 : (n : Int) < 3 * fa + 1
 ·have HR := jh (show R = false by rw [HR.out]; unfold qk; rw [if_neg h0, if_neg h1, if_neg h2, if_neg h3, if_pos h4])
  go_wp2_with fail
  go_ret
  exact ⟨by rw [HR.out]; rfl, HB.out⟩
 by_cases h5 : 7 < n
 ·have HR := jh (show R = false by rw [HR.out]; unfold qk; rw [if_neg h0, if_neg h1, if_neg h2, if_neg h3, if_neg h4, if_pos h5]); have h5I : (7 : Int) < (n : Int) := by omega
  go_wp2_with fail
  go_ret
  exact ⟨by rw [HR.out]; rfl, HB.out⟩
 have h5I : ¬ (7 : Int) < (n : Int) := by omega
 have HR := jh (show R = (if Qi gq (n + se.toNat) = false then false else if (qJ gp gq gg || qJ gp gq gh) = true then false else !ks.any (qS gp gq)) by rw [HR.out]; unfold qk; rw [if_neg h0, if_neg h1, if_neg h2, if_neg h3, if_neg h4, if_neg h5]); rw [HKB.out, ← HD.out] at HR; obtain ⟨m, hm9⟩ := je (n + se.toNat); rw [← hm9] at HR; have hmI : (n : Int) + se = (m : Int) := by omega
 have hmb : m ≤ 1000 := by omega
 have hn7 : (n : Int) ≤ 1000000 := by omega
 have HN0 := jh (show 0 < n ∧ n ≤ 7 by omega); obtain ⟨ab, hab⟩ := je (Qi gq m); have CA9 := jh (fun W => by have h9 := CA.out m hmb W; rewrite [← hab] at h9; exact h9); rw [← hab] at HR; clear hab hm9 CA; obtain ⟨y0, y1, y2, y3, y4, y5, y6, y7, y8, y9, KJ, pR, nR, y13, kR, iR⟩ := QW HG.out
 go_wp2_with fail
 clear q16 q17 GY y0 y1 y2 y3 y4 y5 y6 y7 y8 y9 KJ pR nR y13 kR iR; refine (CA9.out _).mono ?_; rintro _ w1 ⟨rfl, hb⟩; have HB := jw HB hb; have HG := jh (HG.out.later hb); have S16 := jh (jm S16.out hb); have S17 := jh (jm S17.out hb); have S18 := jh (jm S18.out hb); clear hb
 cases ab
 ·have HR := jh (show R = false by rw [HR.out]; rfl)
  go_wp2_with fail
  go_ret
  exact ⟨by rw [HR.out]; rfl, HB.out⟩
 have HR := jh (show R = (if kb = true then false else !d) by rw [HR.out]; rfl); have q16 := S16.out; have q17 := S17.out; have GY := S18.out; obtain ⟨y0, y1, y2, y3, y4, y5, y6, y7, y8, y9, KJ, pR, nR, y13, kR, iR⟩ := QW HG.out
 go_wp2_with fail
 clear q16 q17 GY y0 y1 y2 y3 y4 y5 y6 y7 y8 y9 KJ pR nR y13 kR iR; obtain ⟨w2, e9⟩ := je (w1.alloc (.cells (jE gg gh) 24)); obtain ⟨PB, h9⟩ := je (w1.heap.size); have hb := jc e9; have HP := jh (show w2.heap[PB]? = some (.cells #[.int .u64 (jf jd gg 0), .int .u64 (jf jd gg 1), .int .u64 (jf jd gg 2), .int .u64 (jf jd gg 3), .int .u64 (jf jd gh 0), .int .u64 (jf jd gh 1), .int .u64 (jf jd gh 2), .int .u64 (jf jd gh 3)] 24 (0, 0)) by rw [e9, h9]; exact heap_alloc_new _ _); have IG := jh (show PB < w2.heap.size by rw [e9, h9]; simp); have WPB := jh (show w1.heap.size = PB from h9.symm); rw [← e9, ← h9]; clear e9 h9; have HB := jw HB hb; have HG := jh (HG.out.later hb); have S16 := jh (jm S16.out hb); have S17 := jh (jm S17.out hb); have S18 := jh (jm S18.out hb); clear hb; refine (CK.out _ PB _ (VU HP.out)).mono ?_; rintro _ w3 ⟨rfl, hb⟩; have HB := jw HB hb; have HG := jh (HG.out.later hb); have S16 := jh (jm S16.out hb); have S17 := jh (jm S17.out hb); have S18 := jh (jm S18.out hb); have IG := jl IG hb.size; clear hb; clear HP
 cases kb
 rotate_left
 ·have HR := jh (show R = false by rw [HR.out]; rfl)
  go_wp2_with fail
  go_ret
  exact ⟨by rw [HR.out]; rfl, HB.out⟩
 have HR := jh (show R = !d by rw [HR.out]; rfl); obtain ⟨b, o, hao, hks⟩ := HKH.out HN0.out.1; subst hao; have GY := S18.out
 go_wp2_with fail
 clear GY; refine (CC.out b o HN0.out.2 _ SB HG.out (hks.later HB.out)).mono ?_; rintro _ w4 ⟨rfl, hb⟩; have HB := jw HB hb; clear hb hks
 go_wp2_with fail
 go_ret
 exact ⟨by rw [HR.out]; rfl, HB.out⟩
theorem RD : (Tryz.prog.info? 29).map (·.size) = some 19 := by kernel_rfl
structure UA (w : World) (b gp gq gg gh : Nat) (fa se : Int) (v : Value) : Prop where
 grp : U2 w b gp gq gg gh
 fa : w.cell? ⟨b, 16, none⟩ = some (.int .i64 fa)
 se : w.cell? ⟨b, 17, none⟩ = some (.int .i64 se)
 nd : w.cell? ⟨b, 18, none⟩ = some v
 free : Y0 w b 19
theorem UA.lt {w : World} {b gp gq gg gh : Nat} {fa se : Int} {v : Value} (h : UA w b gp gq gg gh fa se v) : b < w.heap.size := h.grp.lt
theorem UA.later {w w' : World} {b gp gq gg gh : Nat} {fa se : Int} {v : Value} (h : UA w b gp gq gg gh fa se v) (hb : Below w.heap.size w w') : UA w' b gp gq gg gh fa se v :=
 ⟨h.grp.later hb, jm h.fa hb, jm h.se hb, jm h.nd hb, h.free.later hb h.lt⟩
theorem yX {w w' : World} {b gp gq gg gh : Nat} {row : Option Nat} (h : U2 w b gp gq gg gh) (hg : w.grownBy w' row) (hn : some b ≠ row) : U2 w' b gp gq gg gh :=
 ⟨fun j hj => hg.cell (h.1 j hj) hn, fun j hj => hg.cell (h.2.1 j hj) hn, fun j hj => hg.cell (h.2.2.1 j hj) hn, fun j hj => hg.cell (h.2.2.2 j hj) hn⟩
theorem qZ {w w' : World} {b : Nat} {x : Obj} {row : Option Nat} (h : w.heap[b]? = some x) (hg : w.grownBy w' row) (hn : some b ≠ row) : w'.heap[b]? = some x := (hg.block b (Array.getElem?_eq_some_iff.1 h).1 hn).trans h
theorem UA.keep {w w' : World} {b gp gq gg gh : Nat} {fa se : Int} {v : Value} {row : Option Nat} (h : UA w b gp gq gg gh fa se v) (hg : w.grownBy w' row) (hn : some b ≠ row) : UA w' b gp gq gg gh fa se v :=
 ⟨yX h.grp hg hn, hg.cell h.fa hn, hg.cell h.se hn, hg.cell h.nd hn, fun j hj => (qq (hg.block b h.lt hn)).trans (h.free j hj)⟩
theorem UA.new (w : World) (gp gq gg gh : Nat) (fa se : Int) (v : Value) (t : TypeId) : UA (w.alloc (.cells #[.int .u64 (jf jd gp 0), .int .u64 (jf jd gp 1), .int .u64 (jf jd gp 2), .int .u64 (jf jd gp 3), .int .u64 (jf jd gq 0), .int .u64 (jf jd gq 1), .int .u64 (jf jd gq 2), .int .u64 (jf jd gq 3), .int .u64 (jf jd gg 0), .int .u64 (jf jd gg 1), .int .u64 (jf jd gg 2), .int .u64 (jf jd gg 3), .int .u64 (jf jd gh 0), .int .u64 (jf jd gh 1), .int .u64 (jf jd gh 2), .int .u64 (jf jd gh 3), .int .i64 fa, .int .i64 se, v] t)) w.heap.size gp gq gg gh fa se v :=
 ⟨PU, by rw [cell_of_row _ _ _ _ _ _ (heap_alloc_new _ _)]; rfl, by rw [cell_of_row _ _ _ _ _ _ (heap_alloc_new _ _)]; rfl, by rw [cell_of_row _ _ _ _ _ _ (heap_alloc_new _ _)]; rfl, Y0.new _ _ _ _⟩
theorem zV {w : World} {b gp gq gg gh : Nat} {fa se : Int} {v9 : Value} (h : UA w b gp gq gg gh fa se v9) :
  (Instr.loadAt 29 (.pointer (some ⟨b, 0, none⟩))).run Tryz.prog w = .ok (qU gp gq gg gh fa se v9) w := by
 obtain ⟨y0, y1, y2, y3, y4, y5, y6, y7, y8, y9, KJ, pR, nR, y13, kR, iR⟩ := QW h.grp; have l0 := h.fa; have l1 := h.se; have l2 := h.nd
 exact run_loadAt_mid (P := Tryz.prog) w b 0 29 [.int .u64 (jf jd gp 0), .int .u64 (jf jd gp 1), .int .u64 (jf jd gp 2), .int .u64 (jf jd gp 3), .int .u64 (jf jd gq 0), .int .u64 (jf jd gq 1), .int .u64 (jf jd gq 2), .int .u64 (jf jd gq 3), .int .u64 (jf jd gg 0), .int .u64 (jf jd gg 1), .int .u64 (jf jd gg 2), .int .u64 (jf jd gg 3), .int .u64 (jf jd gh 0), .int .u64 (jf jd gh 1), .int .u64 (jf jd gh 2), .int .u64 (jf jd gh 3), .int .i64 fa, .int .i64 se, v9] _ (by
  intro j v hj; have hl := (List.getElem?_eq_some_iff.1 hj).1; simp only [List.length_cons, List.length_nil] at hl; rw [Nat.zero_add]
  rcases (show j = 0 ∨ j = 1 ∨ j = 2 ∨ j = 3 ∨ j = 4 ∨ j = 5 ∨ j = 6 ∨ j = 7 ∨ j = 8 ∨ j = 9 ∨ j = 10 ∨ j = 11 ∨ j = 12 ∨ j = 13 ∨ j = 14 ∨ j = 15 ∨ j = 16 ∨ j = 17 ∨ j = 18 by omega) with rfl | rfl | rfl | rfl | rfl | rfl | rfl | rfl | rfl | rfl | rfl | rfl | rfl | rfl | rfl | rfl | rfl | rfl | rfl <;> (simp at hj; subst hj; assumption)) Tryz.underlying29 rfl RD
def qs (ks : List (Nat × Nat)) : List Value := ks.flatMap fun k => [.int .u64 (jf jd k.1 0), .int .u64 (jf jd k.1 1), .int .u64 (jf jd k.1 2), .int .u64 (jf jd k.1 3), .int .u64 (jf jd k.2 0), .int .u64 (jf jd k.2 1), .int .u64 (jf jd k.2 2), .int .u64 (jf jd k.2 3)]
theorem Zy : ∀ (ks : List (Nat × Nat)) (i : Nat) (k : Nat × Nat), ks[i]? = some k → (∀ j, j < 4 → (qs ks)[i * 8 + j]? = some (.int .u64 (jf jd k.1 j))) ∧ ∀ j, j < 4 → (qs ks)[i * 8 + (4 + j)]? = some (.int .u64 (jf jd k.2 j))
 | [], i, k, h => by simp at h
 | x :: ks, 0, k, h => by
  simp at h
  subst h; refine ⟨fun j hj => ?_, fun j hj => ?_⟩ <;> (rcases (show j = 0 ∨ j = 1 ∨ j = 2 ∨ j = 3 by omega) with rfl | rfl | rfl | rfl <;> rfl)
 | x :: ks, i + 1, k, h => by
  obtain ⟨h1, h2⟩ := Zy ks i k (by simpa using h)
  have e : ∀ j, (qs (x :: ks))[(i + 1) * 8 + j]? = (qs ks)[i * 8 + j]? := fun j => by
   unfold qs; rw [List.flatMap_cons, List.getElem?_append_right (by simp; omega)]
   congr 1
   simp
   omega
  exact ⟨fun j hj => (e j).trans (h1 j hj), fun j hj => (e (4 + j)).trans (h2 j hj)⟩
theorem Ji (w : World) (g : Nat) (T : Array Value) : w.grownBy (w.setRow g T) (some g) := ⟨rfl, rfl, rfl, by simp, fun k _ hne => setRow_other w g k _ (fun e => hne (by rw [e]))⟩
theorem QM {P : Program} {l : List Oper} {o : Oper} {a : Act} {w : World} {K : Act → World → Prop} {Q : Exit → Act → World → Prop} (hw : Region.wanted o (yielded l.toArray a.tmps) = true) (ty : TypeId) (x y : Operand) (ho : o.op = .store ty x y) (g : Nat) (c T : Array Value) (t : TypeId)
  (hg : w.heap[g]? = some (.cells c t (0, 0))) (hx : a.eval x = .pointer (some ⟨g, 0, none⟩)) (hy : a.eval y = .agg T) (hi : (P.info? ty).map (·.size) = some T.size) (hc : c.size = T.size) (h1 : T.all (·.oneCell') = true) (k : K (a.put o.dst undef) (w.setRow g T)) :
  if Region.wanted o (yielded l.toArray a.tmps) = true then Oper.wp P o a w K Q else K (a.put o.dst undef) w := by
 rw [if_pos hw]; unfold Oper.wp execOp; simp only [ho, hx, hy, Sem.run_bind, Instr.storeAt, Instr.sureAddr, Sem.run_pure, Result.andThen_ok, run_storeVar_row w g t ty c T hg hi hc h1]; exact k
theorem Qy {w : World} {b o : Nat} {v : Value} (h : w.cell? ⟨b, o, none⟩ = some v) : (Instr.loadAt 3 (.pointer (some ⟨b, o, none⟩))).run Tryz.prog w = .ok v w := by
 simp [go_sem, h]
theorem gV : (Tryz.prog.info? 96).map (fun i => (i.zero, i.size, i.bytes)) = some (some (.agg (Array.replicate 8 (.int .u64 0))), 8, 64) := by kernel_rfl
theorem JE {w w' : World} {b x : Nat} {row : Option Nat} (h : U0 w b x) (hg : w.grownBy w' row) (hn : some b ≠ row) : U0 w' b x := fun j hj => hg.cell (h j hj) hn
theorem QU (ks : List (Nat × Nat)) (k : Nat × Nat) : qs (ks ++ [k]) = qs ks ++ [.int .u64 (jf jd k.1 0), .int .u64 (jf jd k.1 1), .int .u64 (jf jd k.1 2), .int .u64 (jf jd k.1 3), .int .u64 (jf jd k.2 0), .int .u64 (jf jd k.2 1), .int .u64 (jf jd k.2 2), .int .u64 (jf jd k.2 3)] := by
 unfold qs; rw [List.flatMap_append]
 simp
theorem JO {w : World} {b o : Nat} {v : Value} (h : w.cell? ⟨b, o, none⟩ = some v) : (Instr.loadAt 27 (.pointer (some ⟨b, o, none⟩))).run Tryz.prog w = .ok v w := by
 simp [go_sem, h]
def zy (fr tt : Nat) (bv : Value) (c s : Nat) : Value := .agg #[.int .u8 fr, .int .u8 tt, bv, .int .u64 (jf jd c 0), .int .u64 (jf jd c 1), .int .u64 (jf jd c 2), .int .u64 (jf jd c 3), .int .u64 (jf jd s 0), .int .u64 (jf jd s 1), .int .u64 (jf jd s 2), .int .u64 (jf jd s 3)]
def frameB : List Nat := qB ⟨#[102, 114, 97, 109, 101]⟩
def Jt (fr tt : Nat) (b : List Nat) : List Nat := qE (jU frameB [[fr], [tt], b])
theorem zS (fr tt : Nat) (b : List Nat) : (Jt fr tt b).length = 32 := qe _
theorem rE (fr tt : Nat) (b : List Nat) : jM (Jt fr tt b) := Jn _
theorem PD {w : World} {b x : Nat} (h : w.cell? ⟨b, 0, none⟩ = some (.int .u8 x)) : J6 .u8 w (.slice (some ⟨b, 0, none⟩) 1 1) [x] :=
 ⟨_, 1, rfl, Nat.le_refl _, by decide, (fun h => by cases h), fun _ => ⟨b, 0, rfl, fun i y hy => by
  have hl := (List.getElem?_eq_some_iff.1 hy).1; obtain rfl : i = 0 := by simp at hl; exact hl
  simp at hy
  subst hy
  exact h⟩⟩
structure Z7 (w : World) (b fr tt : Nat) (bv : Value) (c s : Nat) : Prop where
 fr : w.cell? ⟨b, 0, none⟩ = some (.int .u8 fr)
 tt : w.cell? ⟨b, 1, none⟩ = some (.int .u8 tt)
 bv : w.cell? ⟨b, 2, none⟩ = some bv
 c : X6 w b 3 c
 s : X6 w b 7 s
 free : Y0 w b 11
theorem Z7.lt {w : World} {b fr tt : Nat} {bv : Value} {c s : Nat} (h : Z7 w b fr tt bv c s) : b < w.heap.size := h.c.lt
theorem Z7.later {w w' : World} {b fr tt : Nat} {bv : Value} {c s : Nat} (h : Z7 w b fr tt bv c s) (hb : Below w.heap.size w w') : Z7 w' b fr tt bv c s :=
 ⟨jm h.fr hb, jm h.tt hb, jm h.bv hb, X6.later hb h.c, X6.later hb h.s, h.free.later hb h.lt⟩
theorem Z7.new (w : World) (fr tt : Nat) (bv : Value) (c s : Nat) (t : TypeId) : Z7 (w.alloc (.cells #[.int .u8 fr, .int .u8 tt, bv, .int .u64 (jf jd c 0), .int .u64 (jf jd c 1), .int .u64 (jf jd c 2), .int .u64 (jf jd c 3), .int .u64 (jf jd s 0), .int .u64 (jf jd s 1), .int .u64 (jf jd s 2), .int .u64 (jf jd s 3)] t)) w.heap.size fr tt bv c s :=
 ⟨by rw [cell_of_row _ _ _ _ _ _ (heap_alloc_new _ _)]; rfl, by rw [cell_of_row _ _ _ _ _ _ (heap_alloc_new _ _)]; rfl, by rw [cell_of_row _ _ _ _ _ _ (heap_alloc_new _ _)]; rfl,
  fun j hj => by rw [cell_of_row _ _ _ _ _ _ (heap_alloc_new _ _)]; rcases (show j = 0 ∨ j = 1 ∨ j = 2 ∨ j = 3 by omega) with rfl | rfl | rfl | rfl <;> rfl,
  fun j hj => by rw [cell_of_row _ _ _ _ _ _ (heap_alloc_new _ _)]; rcases (show j = 0 ∨ j = 1 ∨ j = 2 ∨ j = 3 by omega) with rfl | rfl | rfl | rfl <;> rfl, Y0.new _ _ _ _⟩
theorem qp : (Tryz.prog.info? 41).map (·.size) = some 11 := by kernel_rfl
theorem Qz {w : World} {b fr tt : Nat} {bv : Value} {c s : Nat} (h : Z7 w b fr tt bv c s) : (Instr.loadAt 41 (.pointer (some ⟨b, 0, none⟩))).run Tryz.prog w = .ok (.agg #[.int .u8 fr, .int .u8 tt, bv, .int .u64 (jf jd c 0), .int .u64 (jf jd c 1), .int .u64 (jf jd c 2), .int .u64 (jf jd c 3), .int .u64 (jf jd s 0), .int .u64 (jf jd s 1), .int .u64 (jf jd s 2), .int .u64 (jf jd s 3)]) w := by
 have y0 := h.fr; have y1 := h.tt; have y2 := h.bv; have l0 := h.c 0 (by decide); have l1 := h.c 1 (by decide); have l2 := h.c 2 (by decide); have l3 := h.c 3 (by decide); have l4 := h.s 0 (by decide); have l5 := h.s 1 (by decide); have l6 := h.s 2 (by decide); have l7 := h.s 3 (by decide); simp only [Nat.reduceAdd] at l0 l1 l2 l3 l4 l5 l6 l7
 exact run_loadAt_mid (P := Tryz.prog) w b 0 41 [.int .u8 fr, .int .u8 tt, bv, .int .u64 (jf jd c 0), .int .u64 (jf jd c 1), .int .u64 (jf jd c 2), .int .u64 (jf jd c 3), .int .u64 (jf jd s 0), .int .u64 (jf jd s 1), .int .u64 (jf jd s 2), .int .u64 (jf jd s 3)] _ (by
  intro j v hj; have hl := (List.getElem?_eq_some_iff.1 hj).1; simp only [List.length_cons, List.length_nil] at hl; rw [Nat.zero_add]
  rcases (show j = 0 ∨ j = 1 ∨ j = 2 ∨ j = 3 ∨ j = 4 ∨ j = 5 ∨ j = 6 ∨ j = 7 ∨ j = 8 ∨ j = 9 ∨ j = 10 by omega) with rfl | rfl | rfl | rfl | rfl | rfl | rfl | rfl | rfl | rfl | rfl <;> (simp at hj; subst hj; assumption)) Tryz.underlying41 rfl qp
theorem Qg {w : World} {b o : Nat} {v : Value} (h : w.cell? ⟨b, o, none⟩ = some v) : (Instr.loadAt 5 (.pointer (some ⟨b, o, none⟩))).run Tryz.prog w = .ok v w := by
 simp [go_sem, h]
theorem pF {w : World} {b o : Nat} {v : Value} (h : w.cell? ⟨b, o, none⟩ = some v) : (Instr.loadAt 30 (.pointer (some ⟨b, o, none⟩))).run Tryz.prog w = .ok v w := by
 simp [go_sem, h]
def endsB (n fr tt : Nat) : Bool := if fr < 1 then false else if tt < 1 then false else if n < fr then false else if n < tt then false else if fr = tt then false else true
theorem ends_any {gp gq gg gh n cap fr tt : Nat} {fa se : Int} {ao : Option Addr} (hn : n ≤ 7) (hfr : fr < 256) (hto : tt < 256) (w : World) :
  Calls Tryz.prog 25 #[qU gp gq gg gh fa se (.slice ao n cap), .int .u8 fr, .int .u8 tt] w fun e w' => e = .returned (.bool (endsB n fr tt)) ∧ Below w.heap.size w w' := by
 obtain ⟨R, hR⟩ := je (endsB n fr tt); rw [← hR]; unfold endsB at hR; have HR := jh hR; have g1 : (fr : Int) < 256 := by omega
 have g2 : (tt : Int) < 256 := by omega
 have g3 : (0 : Int) ≤ (fr : Int) := by omega
 have g4 : (0 : Int) ≤ (tt : Int) := by omega
 clear hR; unfold qU
 go_enter Tryz.func25, Tryz.ntmps25
 by_cases n0 : fr < 1
 ·have HR := jh (show R = false by rw [HR.out, if_pos n0]); have k0 : ¬ (1 : Int) ≤ (fr : Int) := by omega
  go_wp2_with fail
  go_ret
  exact ⟨by rw [HR.out]; rfl, ja⟩
 have k0 : (1 : Int) ≤ (fr : Int) := by omega
 by_cases n1 : tt < 1
 ·have HR := jh (show R = false by rw [HR.out, if_neg n0, if_pos n1]); have k1 : ¬ (1 : Int) ≤ (tt : Int) := by omega
  go_wp2_with fail
  go_ret
  exact ⟨by rw [HR.out]; rfl, ja⟩
 have k1 : (1 : Int) ≤ (tt : Int) := by omega
 by_cases n2 : n < fr
 ·have HR := jh (show R = false by rw [HR.out, if_neg n0, if_neg n1, if_pos n2]); have k2 : ¬ (fr : Int) ≤ (n : Int) := by omega
  go_wp2_with fail
  go_ret
  exact ⟨by rw [HR.out]; rfl, ja⟩
 have k2 : (fr : Int) ≤ (n : Int) := by omega
 by_cases n3 : n < tt
 ·have HR := jh (show R = false by rw [HR.out, if_neg n0, if_neg n1, if_neg n2, if_pos n3]); have k3 : ¬ (tt : Int) ≤ (n : Int) := by omega
  go_wp2_with fail
  go_ret
  exact ⟨by rw [HR.out]; rfl, ja⟩
 have k3 : (tt : Int) ≤ (n : Int) := by omega
 by_cases n4 : fr = tt
 ·subst n4; have Z9 := jh (show R = false by rw [HR.out, if_neg n0, if_neg n1, if_neg n2, if_neg n3, if_pos rfl]); clear HR; have HR := Z9; clear Z9; have k4 : ((fr : Int) != (fr : Int)) = false := by simp
  go_wp2_with fail
  go_ret
  exact ⟨by rw [HR.out]; rfl, ja⟩
 have k4 : ((fr : Int) != (tt : Int)) = true := by simp; omega
 have HR := jh (show R = true by rw [HR.out, if_neg n0, if_neg n1, if_neg n2, if_neg n3, if_neg n4])
 go_wp2_with fail
 go_ret
 exact ⟨by rw [HR.out]; rfl, ja⟩
theorem oM {fr tt c s : Nat} {bv : Value} {b : List Nat} (hfr : fr < 256) (hto : tt < 256) (w : World) (hb : J6 .u8 w bv b) (hby : jM b) (hl : b.length ≤ 70000) :
  Calls Tryz.prog 15 #[zy fr tt bv c s] w fun e w' => e = .returned (.agg (jp .u8 (Jt fr tt b)).toArray) ∧ Below w.heap.size w w' := by
 have CO := jh (fun (W : World) (B : Nat) (vs : List Value) (hP : Parts W B 0 vs [[fr], [tt], b]) => Of_any (s := ⟨#[102, 114, 97, 109, 101]⟩) (cap := 3) W hP (by simp) (by unfold maxLen; decide) (by
  intro l TD; simp only [List.mem_cons, List.not_mem_nil, or_false] at TD
  rcases TD with rfl | rfl | rfl
  ·intro x hx; simp at hx; omega
  ·intro x hx; simp at hx; omega
  ·exact hby) (by unfold jU; simp [qn, jW, qo, ByteArray.size]; omega))
 have KB := jh hb; obtain ⟨ao, cap, rfl, _⟩ := id hb; obtain ⟨n, hn⟩ := je (b.length); rw [← hn] at KB ⊢; obtain ⟨T, hT⟩ := je ((jp .u8 (Jt fr tt b)).toArray); have SG : (Tryz.prog.info? 32).map (·.size) = some T.size := by rw [zt, hT]; simp [jt, zS]
 have h1T : T.all (·.oneCell') = true := by rw [hT]; exact zY _ _
 have CO := jh (fun (W : World) (B : Nat) (vs : List Value) (hP : Parts W B 0 vs [[fr], [tt], b]) => by have h9 := CO.out W B vs hP; rw [show qE (jU (qB ⟨#[102, 114, 97, 109, 101]⟩) [[fr], [tt], b]) = Jt fr tt b from rfl, ← hT] at h9; exact h9); rw [← hT]; unfold zy; clear hT hb hby hl hfr hto hn
 go_enter Tryz.func15, Tryz.ntmps15
 go_upto_region 1 with fail
 obtain ⟨A8, e0⟩ := je (w.alloc (.cells #[.int .u8 fr, .int .u8 tt, .slice ao n cap, .int .u64 (jf jd c 0), .int .u64 (jf jd c 1), .int .u64 (jf jd c 2), .int .u64 (jf jd c 3), .int .u64 (jf jd s 0), .int .u64 (jf jd s 1), .int .u64 (jf jd s 2), .int .u64 (jf jd s 3)] 41)); obtain ⟨F8, e1⟩ := je (A8.alloc (.cells jC 32)); have s0 : A8.heap.size = w.heap.size + 1 := by rw [e0]; simp
 have b0 := jc e0; have b1 := jc e1; have f0 : Z7 A8 w.heap.size fr tt (.slice ao n cap) c s := by rw [e0]; exact Z7.new _ _ _ _ _ _ _
 have f1 : F8.heap[w.heap.size + 1]? = some (.cells #[.int .u8 0, .int .u8 0, .int .u8 0, .int .u8 0, .int .u8 0, .int .u8 0, .int .u8 0, .int .u8 0, .int .u8 0, .int .u8 0, .int .u8 0, .int .u8 0, .int .u8 0, .int .u8 0, .int .u8 0, .int .u8 0, .int .u8 0, .int .u8 0, .int .u8 0, .int .u8 0, .int .u8 0, .int .u8 0, .int .u8 0, .int .u8 0, .int .u8 0, .int .u8 0, .int .u8 0, .int .u8 0, .int .u8 0, .int .u8 0, .int .u8 0, .int .u8 0] 32 (0, 0)) := by rw [← s0, e1]; exact heap_alloc_new _ _
 rw [← e0, ← e1]; obtain ⟨FB, hFB⟩ := je (w.heap.size); rw [← hFB] at f0 f1 ⊢; obtain ⟨OB, hOB⟩ := je (FB + 1); rw [← hOB] at f1 ⊢; have HOW := jh (show w.heap.size ≤ OB by omega); have HF := jh (f0.later b1); obtain ⟨Z, hZ⟩ : ∃ Z : Array Value, Z = #[.int .u8 0, .int .u8 0, .int .u8 0, .int .u8 0, .int .u8 0, .int .u8 0, .int .u8 0, .int .u8 0, .int .u8 0, .int .u8 0, .int .u8 0, .int .u8 0, .int .u8 0, .int .u8 0, .int .u8 0, .int .u8 0, .int .u8 0, .int .u8 0, .int .u8 0, .int .u8 0, .int .u8 0, .int .u8 0, .int .u8 0, .int .u8 0, .int .u8 0, .int .u8 0, .int .u8 0, .int .u8 0, .int .u8 0, .int .u8 0, .int .u8 0, .int .u8 0] := ⟨_, rfl⟩; have hzs : Z.size = T.size := by rw [zt] at SG; rw [hZ]; exact Option.some.inj SG
 rw [← hZ] at f1; have HO := jh f1; have HB := jh (jk b0 b1); have KB := jh (KB.out.later HB.out); clear e0 e1 s0 b0 b1 f0 f1 hFB hOB hZ; refine wp_region_lit ?_; refine ji (v := .pointer (some ⟨FB, 0, none⟩)) rfl (by kernel_rfl) ?_; simp only [Act.put, pa, pb, pc]; refine ji (v := .int .u8 fr) rfl (jg (Qg HF.out.fr)) ?_; simp only [Act.put, pa, pb, pc]; refine qT (v := .slice (some ⟨F8.heap.size, 0, none⟩) 1 1) (w' := F8.alloc (.cells #[.int .u8 fr] 5)) rfl (by kernel_rfl) ?_; simp only [Act.put, pa, pb, pc]; obtain ⟨J9, e9⟩ := je (F8.alloc (.cells #[.int .u8 fr] 5)); obtain ⟨B1, h9⟩ := je (F8.heap.size); have hb := jc e9; have K1 := jh (show J6 .u8 J9 (.slice (some ⟨B1, 0, none⟩) 1 1) [fr] by rw [e9, h9]; exact PD (by rw [cell_of_row _ _ _ _ _ _ (heap_alloc_new _ _)]; rfl)); have LB1 := jh (show B1 < J9.heap.size by rw [e9, h9]; simp); have WB1 := jh (show F8.heap.size = B1 from h9.symm); rw [← e9, ← h9]; clear e9 h9; have HF := jh (HF.out.later hb); have HO := jb hb HO; have HB := jw HB hb; have KB := jh (KB.out.later hb); clear hb; clear LB1 WB1; refine ji (v := .pointer (some ⟨FB, 1, none⟩)) rfl (by kernel_rfl) ?_; simp only [Act.put, pa, pb, pc]; refine ji (v := .int .u8 tt) rfl (jg (Qg HF.out.tt)) ?_; simp only [Act.put, pa, pb, pc]; refine qT (v := .slice (some ⟨J9.heap.size, 0, none⟩) 1 1) (w' := J9.alloc (.cells #[.int .u8 tt] 5)) rfl (by kernel_rfl) ?_; simp only [Act.put, pa, pb, pc]; obtain ⟨S9, e9⟩ := je (J9.alloc (.cells #[.int .u8 tt] 5)); obtain ⟨B2, h9⟩ := je (J9.heap.size); have hb := jc e9; have K2 := jh (show J6 .u8 S9 (.slice (some ⟨B2, 0, none⟩) 1 1) [tt] by rw [e9, h9]; exact PD (by rw [cell_of_row _ _ _ _ _ _ (heap_alloc_new _ _)]; rfl)); have LB2 := jh (show B2 < S9.heap.size by rw [e9, h9]; simp); have WB2 := jh (show J9.heap.size = B2 from h9.symm); rw [← e9, ← h9]; clear e9 h9; have HF := jh (HF.out.later hb); have HO := jb hb HO; have HB := jw HB hb; have KB := jh (KB.out.later hb); have K1 := jh (K1.out.later hb); clear hb; clear LB2 WB2; refine ji (v := .pointer (some ⟨FB, 2, none⟩)) rfl (by kernel_rfl) ?_; simp only [Act.put, pa, pb, pc]; refine ji (v := .slice ao n cap) rfl (jg (pF HF.out.bv)) ?_; simp only [Act.put, pa, pb, pc]; refine qT (v := .slice (some ⟨S9.heap.size, 0, none⟩) 3 3) (w' := S9.alloc (.cells #[.slice (some ⟨B1, 0, none⟩) 1 1, .slice (some ⟨B2, 0, none⟩) 1 1, .slice ao n cap] 30)) rfl (by kernel_rfl) ?_; simp only [Act.put, pa, pb, pc]; obtain ⟨FC, e9⟩ := je (S9.alloc (.cells #[.slice (some ⟨B1, 0, none⟩) 1 1, .slice (some ⟨B2, 0, none⟩) 1 1, .slice ao n cap] 30)); obtain ⟨PB, h9⟩ := je (S9.heap.size); have hb := jc e9; have P0 := jh (show FC.cell? ⟨PB, 0, none⟩ = some (.slice (some ⟨B1, 0, none⟩) 1 1) by rw [e9, h9]; rw [cell_of_row _ _ _ _ _ _ (heap_alloc_new _ _)]; rfl); have P1 := jh (show FC.cell? ⟨PB, 1, none⟩ = some (.slice (some ⟨B2, 0, none⟩) 1 1) by rw [e9, h9]; rw [cell_of_row _ _ _ _ _ _ (heap_alloc_new _ _)]; rfl); have P2 := jh (show FC.cell? ⟨PB, 2, none⟩ = some (.slice ao n cap) by rw [e9, h9]; rw [cell_of_row _ _ _ _ _ _ (heap_alloc_new _ _)]; rfl); have IG := jh (show PB < FC.heap.size by rw [e9, h9]; simp); have WPB := jh (show S9.heap.size = PB from h9.symm); rw [← e9, ← h9]; clear e9 h9; have HF := jh (HF.out.later hb); have HO := jb hb HO; have HB := jw HB hb; have KB := jh (KB.out.later hb); have K1 := jh (K1.out.later hb); have K2 := jh (K2.out.later hb); clear hb
 go_wp2_with fail
 refine (CO.out _ PB _ (iF P0.out P1.out P2.out K1.out K2.out KB.out)).mono ?_; rintro _ KD ⟨rfl, hb⟩; have HF := jh (HF.out.later hb); have HO := jb hb HO; have HB := jw HB hb; have KB := jh (KB.out.later hb); have K1 := jh (K1.out.later hb); have K2 := jh (K2.out.later hb); clear hb; clear P0 P1 P2 IG WPB; dsimp only
 go_step
 refine jy rfl _ _ _ rfl OB _ _ _ HO.out rfl rfl (by rw [SG]) hzs h1T ?_; simp only [Act.put, pa, pb, pc]
 go_wp2_with fail
 obtain ⟨w9, e9⟩ := je (KD.setRow OB T); have D7 : w9.heap[OB]? = some (.cells T 32 (0, 0)) := by rw [e9]; exact setRow_heap _ _ _ _ _ _ HO.out
 have Z4 : Below w.heap.size w w9 := by rw [e9]; exact below_setRow HB.out HOW.out _
 rw [← e9]; exact bodyPost_ret (results_cell_row rfl _ w9 OB _ _ _ _ rfl D7 Tryz.underlying32 rfl SG) rfl ⟨rfl, Z4⟩
end Go.Proofs.YtmijablfjigbhaaGreatDoor
