/- The law's Setting -/
import Derived.Test.YtdpkpcbikbbcbaaGreatBZWG29
import Derived.Test.YtdpkpcbikbbcbaaGreatBZWG30
set_option linter.unusedSimpArgs false
set_option linter.unusedVariables false
set_option maxHeartbeats 16000000
set_option maxRecDepth 100000
namespace Go.Proofs.YtdpkpcbikbbcbaaGreat
open Go.ChangeShapes Go.WideShapes Go.ChangeAt Go.RowKit
def zK (gp gq a : Nat) : Bool := !decide (inG gp gq a) || decide (a = 1)
theorem keys1_out {GB gp gq gg gh a : Nat} (h : ¬ inG gp gq a) (ha : a < jk) (hq : gq < jk) (hm : gp < jk) (w : World) (hg : GrpAt w GB gp gq gg gh) :
  Calls Tryz.prog 74 #[jo a, .pointer (some ⟨GB, 0, none⟩)] w fun e w' => e = .returned (.bool (zK gp gq a)) ∧ Below w.heap.size w w' := by
 have CI := jh (fun W => by have h8 := In_any (gg := gg) (gh := gh) ha hq hm W; rw [decide_eq_false h] at h8; unfold qS jo words at h8; exact h8); have HG := jh hg; have hv : zK gp gq a = true := by unfold zK; rw [decide_eq_false h]; rfl
 rw [hv]; clear h hv hg ha hq hm; unfold jo words
 go_enter Tryz.func74, Tryz.ntmps74
 go_upto_region 1 with fail
 obtain ⟨w0, e0⟩ := je (w.alloc (.cells #[.int .u64 (jf jd a 0), .int .u64 (jf jd a 1), .int .u64 (jf jd a 2), .int .u64 (jf jd a 3)] 24)); obtain ⟨AB, hAB⟩ := je (w.heap.size); have hb := jc e0; have HA := jh (show NumAt w0 AB a by rw [e0, hAB]; exact NumAt.new _ _ _ _ rfl); have HG := jh (HG.out.later hb); have HB := jh hb; rw [← e0, ← hAB]; clear e0 hAB hb; refine wp_region_lit ?_; refine ji rfl (jg (qG HG.out)) ?_; refine ji rfl (jg (qP HA.out)) ?_; simp only [Act.put, pa, pb, pc]
 go_wp2_with fail
 refine (CI.out _).mono ?_; rintro _ w1 ⟨rfl, hb⟩; have HA := jn hb HA; have HB := jw HB hb; clear hb
 go_wp2_with fail
 go_ret
 exact ⟨rfl, HB.out⟩
theorem keys1_one {GB gp gq gg gh a : Nat} (h : inG gp gq a) (h9 : a = 1) (ha : a < jk) (hq : gq < jk) (hm : gp < jk) (w : World) (hg : GrpAt w GB gp gq gg gh) :
  Calls Tryz.prog 74 #[jo a, .pointer (some ⟨GB, 0, none⟩)] w fun e w' => e = .returned (.bool (zK gp gq a)) ∧ Below w.heap.size w w' := by
 have CI := jh (fun W => by have h8 := In_any (gg := gg) (gh := gh) ha hq hm W; rw [decide_eq_true h] at h8; unfold qS jo words at h8; exact h8); have HG := jh hg; have hv : zK gp gq a = true := by unfold zK; rw [decide_eq_true h]; rw [decide_eq_true h9]; rfl
 rw [hv]; have heq := qx a 1 ha (by decide); rw [decide_eq_true h9] at heq; have z0 : ((jf jd 1 0 : Nat) : Int) = 1 := by decide
 have z1 : ((jf jd 1 1 : Nat) : Int) = 0 := by decide
 have z2 : ((jf jd 1 2 : Nat) : Int) = 0 := by decide
 have z3 : ((jf jd 1 3 : Nat) : Int) = 0 := by decide
 simp only [z0, z1, z2, z3] at heq; clear z0 z1 z2 z3 h9; clear h hv hg ha hq hm; unfold jo words
 go_enter Tryz.func74, Tryz.ntmps74
 go_upto_region 1 with fail
 obtain ⟨w0, e0⟩ := je (w.alloc (.cells #[.int .u64 (jf jd a 0), .int .u64 (jf jd a 1), .int .u64 (jf jd a 2), .int .u64 (jf jd a 3)] 24)); obtain ⟨AB, hAB⟩ := je (w.heap.size); have hb := jc e0; have HA := jh (show NumAt w0 AB a by rw [e0, hAB]; exact NumAt.new _ _ _ _ rfl); have HG := jh (HG.out.later hb); have HB := jh hb; rw [← e0, ← hAB]; clear e0 hAB hb; refine wp_region_lit ?_; refine ji rfl (jg (qG HG.out)) ?_; refine ji rfl (jg (qP HA.out)) ?_; simp only [Act.put, pa, pb, pc]
 go_wp2_with fail
 refine (CI.out _).mono ?_; rintro _ w1 ⟨rfl, hb⟩; have HA := jn hb HA; have HB := jw HB hb; clear hb; obtain ⟨r0, r1, r2, r3⟩ := jR HA.out
 go_wp2_with fail
 go_ret
 exact ⟨rfl, HB.out⟩
theorem keys1_in {GB gp gq gg gh a : Nat} (h : inG gp gq a) (h9 : a ≠ 1) (ha : a < jk) (hq : gq < jk) (hm : gp < jk) (w : World) (hg : GrpAt w GB gp gq gg gh) :
  Calls Tryz.prog 74 #[jo a, .pointer (some ⟨GB, 0, none⟩)] w fun e w' => e = .returned (.bool (zK gp gq a)) ∧ Below w.heap.size w w' := by
 have CI := jh (fun W => by have h8 := In_any (gg := gg) (gh := gh) ha hq hm W; rw [decide_eq_true h] at h8; unfold qS jo words at h8; exact h8); have HG := jh hg; have hv : zK gp gq a = false := by unfold zK; rw [decide_eq_true h]; rw [decide_eq_false h9]; rfl
 rw [hv]; have heq := qx a 1 ha (by decide); rw [decide_eq_false h9] at heq; have z0 : ((jf jd 1 0 : Nat) : Int) = 1 := by decide
 have z1 : ((jf jd 1 1 : Nat) : Int) = 0 := by decide
 have z2 : ((jf jd 1 2 : Nat) : Int) = 0 := by decide
 have z3 : ((jf jd 1 3 : Nat) : Int) = 0 := by decide
 simp only [z0, z1, z2, z3] at heq; clear z0 z1 z2 z3 h9; clear h hv hg ha hq hm; unfold jo words
 go_enter Tryz.func74, Tryz.ntmps74
 go_upto_region 1 with fail
 obtain ⟨w0, e0⟩ := je (w.alloc (.cells #[.int .u64 (jf jd a 0), .int .u64 (jf jd a 1), .int .u64 (jf jd a 2), .int .u64 (jf jd a 3)] 24)); obtain ⟨AB, hAB⟩ := je (w.heap.size); have hb := jc e0; have HA := jh (show NumAt w0 AB a by rw [e0, hAB]; exact NumAt.new _ _ _ _ rfl); have HG := jh (HG.out.later hb); have HB := jh hb; rw [← e0, ← hAB]; clear e0 hAB hb; refine wp_region_lit ?_; refine ji rfl (jg (qG HG.out)) ?_; refine ji rfl (jg (qP HA.out)) ?_; simp only [Act.put, pa, pb, pc]
 go_wp2_with fail
 refine (CI.out _).mono ?_; rintro _ w1 ⟨rfl, hb⟩; have HA := jn hb HA; have HB := jw HB hb; clear hb; obtain ⟨r0, r1, r2, r3⟩ := jR HA.out
 go_wp2_with fail
 go_ret
 exact ⟨rfl, HB.out⟩
theorem keys1_any {GB gp gq gg gh a : Nat} (ha : a < jk) (hq : gq < jk) (hm : gp < jk) (w : World) (hg : GrpAt w GB gp gq gg gh) :
  Calls Tryz.prog 74 #[jo a, .pointer (some ⟨GB, 0, none⟩)] w fun e w' => e = .returned (.bool (zK gp gq a)) ∧ Below w.heap.size w w' := by
 by_cases h : inG gp gq a
 ·by_cases h9 : a = 1
  ·exact keys1_one h h9 ha hq hm w hg
  ·exact keys1_in h h9 ha hq hm w hg
 ·exact keys1_out h ha hq hm w hg
theorem idxN_any {GB gp gq gg gh b o cap : Nat} {xs : List Nat} (hx : ∀ x ∈ xs, x < jk) (hq : gq < jk) (hm : gp < jk) (hn0 : xs.length ≤ 1000) (w : World) (hg : GrpAt w GB gp gq gg gh) (h : NumsAt w b o xs) :
  Calls Tryz.prog 99 #[.slice (some ⟨b, o, none⟩) xs.length cap, .func (.func 74) #[] #[.pointer (some ⟨GB, 0, none⟩)]] w fun e w' => ∃ r : Int, e = .returned (.int .i64 r) ∧ (-1 ≤ r ∧ r ≤ 1000) ∧ decide (0 ≤ r) = xs.any (zK gp gq) ∧ Below w.heap.size w w' := by
 have HX := jh h; have HG := jh hg; obtain ⟨n, hn⟩ := je (xs.length); have HN := jh hn; rw [← hn]; have hnb : n ≤ 1000 := by omega
 have CK := jh (fun (x : Nat) (hx9 : x < jk) (W : World) hg9 => by have h9 := keys1_any (GB := GB) (gg := gg) (gh := gh) hx9 hq hm W hg9; unfold jo words at h9; exact h9); have HXL := jh hx; clear h hn hx hq hm hn0 hg
 go_enter Tryz.func99, Tryz.ntmps99
 go_wp2_with fail
 go_loopw [8] (fun i wr => ∃ k : Nat, k ≤ n ∧ i = .int .i64 k ∧ Hid ((xs.take k).any (zK gp gq) = false) ∧ Hid (Below w.heap.size w wr)) (fun i _ => n - (intOf i).toNat)
 case atStart => exact ⟨0, Nat.zero_le _, rfl, jh rfl, jh (Below.refl _ _)⟩
 case round =>
  obtain ⟨k, hk, rfl, HK, HB⟩ := hrel
  by_cases hlt : k < n
  ·obtain ⟨x, hx⟩ : ∃ x, xs[k]? = some x := ⟨_, List.getElem?_eq_getElem (by rw [← HN.out]; exact hlt)⟩; have hltI : (k : Int) < (n : Int) := by omega
   have HLT := jh hlt; have HXX := jh (HXL.out x (List.mem_of_getElem? hx)); have HXI := jh hx; have r0 := jj (HX.out k x hx 0 (by decide)) HB.out; have r1 := jj (HX.out k x hx 1 (by decide)) HB.out; have r2 := jj (HX.out k x hx 2 (by decide)) HB.out; have r3 := jj (HX.out k x hx 3 (by decide)) HB.out; rw [Nat.add_zero] at r0; clear hx hlt
   go_wp2_with fail
   clear r0 r1 r2 r3; have CKx := jh (CK.out x HXX.out wr (HG.out.later HB.out))
   by_cases hbad : zK gp gq x = true
   ·rw [hbad] at CKx; refine CKx.out.mono ?_; rintro _ w4 ⟨rfl, hb⟩; have HB := jw HB hb; have HBD := jh hbad; clear hb hbad
    go_wp2_with fail
    go_ret
    exact ⟨_, rfl, ⟨by omega, by have := HLT.out; omega⟩, by
     rw [decide_eq_true (show (0 : Int) ≤ (k : Int) by omega)]
     exact (List.any_eq_true.2 ⟨x, List.mem_of_getElem? HXI.out, HBD.out⟩).symm, HB.out⟩
   ·rw [show zK gp gq x = false by simpa using hbad] at CKx; refine CKx.out.mono ?_; rintro _ w4 ⟨rfl, hb⟩; have HB := jw HB hb; have HBD := jh hbad; clear hb hbad
    go_wp2_with fail
    go_roundw
    case rel => exact ⟨k + 1, HLT.out, by go_num, jh (by rw [List.take_add_one, HXI.out, List.any_append, HK.out]; simpa using HBD.out), HB⟩
    case measure => simp [intOf]; have := HLT.out; omega
  ·obtain rfl : k = n := by omega
   clear hlt
   go_wp2_with fail
   go_ret
   exact ⟨_, rfl, ⟨by omega, by omega⟩, by
    have h9 := HK.out; rw [HN.out, List.take_length] at h9; rw [h9]
    rfl, HB.out⟩
theorem conN_any {GB gp gq gg gh b o cap : Nat} {xs : List Nat} (hx : ∀ x ∈ xs, x < jk) (hq : gq < jk) (hm : gp < jk) (hn0 : xs.length ≤ 1000) (w : World) (hg : GrpAt w GB gp gq gg gh) (h : NumsAt w b o xs) :
  Calls Tryz.prog 73 #[.slice (some ⟨b, o, none⟩) xs.length cap, .func (.func 74) #[] #[.pointer (some ⟨GB, 0, none⟩)]] w fun e w' => e = .returned (.bool (xs.any (zK gp gq))) ∧ Below w.heap.size w w' := by
 have CI := jh (idxN_any (cap := cap) hx hq hm hn0 w hg h); obtain ⟨n, hn⟩ := je (xs.length); obtain ⟨d, hd⟩ := je (xs.any (zK gp gq)); rw [← hn, ← hd] at CI ⊢; clear hn hd hx hq hm hn0 hg h
 go_enter Tryz.func73, Tryz.ntmps73
 go_wp2_with fail
 refine CI.out.mono ?_; rintro _ w1 ⟨r, rfl, ⟨h1, h2⟩, h3, hb⟩; have HB := jh hb; have H3 := jh h3; clear h3 hb
 go_wp2_with fail
 go_ret
 exact ⟨by rw [← H3.out]; rfl, HB.out⟩
theorem keys_any {gp gq gg gh b o cap : Nat} {xs : List Nat} (hx : ∀ x ∈ xs, x < jk) (hq : gq < jk) (hm : gp < jk) (hn0 : xs.length ≤ 1000) (w : World) (h : NumsAt w b o xs) :
  Calls Tryz.prog 44 #[qS gp gq gg gh, .slice (some ⟨b, o, none⟩) xs.length cap] w fun e w' => e = .returned (.bool (!xs.any (zK gp gq))) ∧ Below w.heap.size w w' := by
 have CC := jh (fun (W : World) (GB : Nat) hg9 hx9 => conN_any (GB := GB) (gg := gg) (gh := gh) (o := o) (cap := cap) (b := b) hx hq hm hn0 W hg9 hx9); have HX := jh h; obtain ⟨n, hn⟩ := je (xs.length); obtain ⟨d, hd⟩ := je (xs.any (zK gp gq)); rw [← hn, ← hd] at CC ⊢; clear hn hd hx hq hm hn0 h; unfold qS
 go_enter Tryz.func44, Tryz.ntmps44
 go_upto_region 1 with fail
 obtain ⟨w0, e0⟩ := je (w.alloc (.cells #[.int .u64 (jf jd gp 0), .int .u64 (jf jd gp 1), .int .u64 (jf jd gp 2), .int .u64 (jf jd gp 3), .int .u64 (jf jd gq 0), .int .u64 (jf jd gq 1), .int .u64 (jf jd gq 2), .int .u64 (jf jd gq 3), .int .u64 (jf jd gg 0), .int .u64 (jf jd gg 1), .int .u64 (jf jd gg 2), .int .u64 (jf jd gg 3), .int .u64 (jf jd gh 0), .int .u64 (jf jd gh 1), .int .u64 (jf jd gh 2), .int .u64 (jf jd gh 3)] 26)); obtain ⟨GG, hGG⟩ := je (w.heap.size); have hb := jc e0; have HG := jh (show GrpAt w0 GG gp gq gg gh by rw [e0, hGG]; exact GrpAt.new _ _ _ _ _ _); have HB := jh hb; rw [← e0, ← hGG]; clear e0 hGG hb
 go_wp2_with fail
 refine (CC.out _ GG HG.out (HX.out.later HB.out)).mono ?_; rintro _ w1 ⟨rfl, hb⟩; have HB := jw HB hb; clear hb
 go_wp2_with fail
 go_ret
 exact ⟨rfl, HB.out⟩
def KeysAt (w : World) (b o : Nat) (ks : List (Nat × Nat)) : Prop := ∀ i k, ks[i]? = some k → (∀ j, j < 4 → w.cell? ⟨b, o + i * 8 + j, none⟩ = some (.int .u64 (jf jd k.1 j))) ∧ ∀ j, j < 4 → w.cell? ⟨b, o + i * 8 + (4 + j), none⟩ = some (.int .u64 (jf jd k.2 j))
theorem KeysAt.later {w w' : World} {b o : Nat} {ks : List (Nat × Nat)} (h : KeysAt w b o ks) (hb : Below w.heap.size w w') : KeysAt w' b o ks := fun i k hk => ⟨fun j hj => jj ((h i k hk).1 j hj) hb, fun j hj => jj ((h i k hk).2 j hj) hb⟩
def Jd (gp gq : Nat) (k : Nat × Nat) : Bool := zK gp gq k.1 || zK gp gq k.2
def jL (gp gq gg gh : Nat) (fa se : Int) (n : Nat) (ks : List (Nat × Nat)) : Bool :=
 if fa < 0 then false else if 2 < fa then false else if se < 1 then false else if fa + 1 < se then false else if (n : Int) < 3 * fa + 1 then false else if 7 < n then false
 else if Qe gq (n + se.toNat) = false then false else if (zK gp gq gg || zK gp gq gh) = true then false else !ks.any (Jd gp gq)
theorem Jl {w : World} {gp gq gg gh : Nat} {x y z : Value} {t : TypeId} : GrpAt (w.alloc (.cells #[.int .u64 (jf jd gp 0), .int .u64 (jf jd gp 1), .int .u64 (jf jd gp 2), .int .u64 (jf jd gp 3), .int .u64 (jf jd gq 0), .int .u64 (jf jd gq 1), .int .u64 (jf jd gq 2), .int .u64 (jf jd gq 3), .int .u64 (jf jd gg 0), .int .u64 (jf jd gg 1), .int .u64 (jf jd gg 2), .int .u64 (jf jd gg 3), .int .u64 (jf jd gh 0), .int .u64 (jf jd gh 1), .int .u64 (jf jd gh 2), .int .u64 (jf jd gh 3), x, y, z] t)) w.heap.size gp gq gg gh :=
 Zk fun j v hj => by
  rw [cell_of_row _ _ _ _ _ _ (heap_alloc_new _ _)]; have hl := (List.getElem?_eq_some_iff.1 hj).1; simp only [List.length_cons, List.length_nil] at hl
  rcases (show j = 0 ∨ j = 1 ∨ j = 2 ∨ j = 3 ∨ j = 4 ∨ j = 5 ∨ j = 6 ∨ j = 7 ∨ j = 8 ∨ j = 9 ∨ j = 10 ∨ j = 11 ∨ j = 12 ∨ j = 13 ∨ j = 14 ∨ j = 15 by omega) with rfl | rfl | rfl | rfl | rfl | rfl | rfl | rfl | rfl | rfl | rfl | rfl | rfl | rfl | rfl | rfl <;> exact hj
theorem set1_any {SB gp gq gg gh : Nat} {k : Nat × Nat} (h1 : k.1 < jk) (h2 : k.2 < jk) (hq : gq < jk) (hm : gp < jk) (w : World) (hg : GrpAt w SB gp gq gg gh) :
  Calls Tryz.prog 46 #[.agg #[.int .u64 (jf jd k.1 0), .int .u64 (jf jd k.1 1), .int .u64 (jf jd k.1 2), .int .u64 (jf jd k.1 3), .int .u64 (jf jd k.2 0), .int .u64 (jf jd k.2 1), .int .u64 (jf jd k.2 2), .int .u64 (jf jd k.2 3)], .pointer (some ⟨SB, 0, none⟩)] w fun e w' => e = .returned (.bool (Jd gp gq k)) ∧ Below w.heap.size w w' := by
 have CK := jh (fun (W : World) (B cap : Nat) hx9 => by have h9 := keys_any (gp := gp) (gq := gq) (gg := gg) (gh := gh) (b := B) (o := 0) (cap := cap) (xs := [k.1, k.2]) (by intro x hx; simp only [List.mem_cons, List.not_mem_nil, or_false] at hx; rcases hx with rfl | rfl; exact h1; exact h2) hq hm (by simp) W hx9; unfold qS at h9; exact h9); have HG := jh hg; have hv : [k.1, k.2].any (zK gp gq) = Jd gp gq k := by unfold Jd; simp
 rw [hv] at CK; obtain ⟨d, hd⟩ := je (Jd gp gq k); rw [← hd] at CK ⊢; obtain ⟨x, y⟩ := k; clear hv hd hg h1 h2 hq hm
 go_enter Tryz.func46, Tryz.ntmps46
 go_upto_region 1 with fail
 obtain ⟨w0, e0⟩ := je (w.alloc (.cells #[.int .u64 (jf jd x 0), .int .u64 (jf jd x 1), .int .u64 (jf jd x 2), .int .u64 (jf jd x 3), .int .u64 (jf jd y 0), .int .u64 (jf jd y 1), .int .u64 (jf jd y 2), .int .u64 (jf jd y 3)] 77)); obtain ⟨KB, hKB⟩ := je (w.heap.size); have hb := jc e0; have hrow : w0.heap[KB]? = some (.cells #[.int .u64 (jf jd x 0), .int .u64 (jf jd x 1), .int .u64 (jf jd x 2), .int .u64 (jf jd x 3), .int .u64 (jf jd y 0), .int .u64 (jf jd y 1), .int .u64 (jf jd y 2), .int .u64 (jf jd y 3)] 77 (0, 0)) := by rw [e0, hKB]; exact heap_alloc_new _ _
 have HX := jh (show NumO w0 KB 0 x from fun j hj => by rw [cell_of_row _ _ _ _ _ _ hrow]; rcases (show j = 0 ∨ j = 1 ∨ j = 2 ∨ j = 3 by omega) with rfl | rfl | rfl | rfl <;> rfl); have HY := jh (show NumO w0 KB 4 y from fun j hj => by rw [cell_of_row _ _ _ _ _ _ hrow]; rcases (show j = 0 ∨ j = 1 ∨ j = 2 ∨ j = 3 by omega) with rfl | rfl | rfl | rfl <;> rfl); have HG := jh (HG.out.later hb); have HB := jh hb; rw [← e0, ← hKB]; clear e0 hKB hb hrow; refine wp_region_lit ?_; refine ji (v := .pointer (some ⟨SB, 0, none⟩)) rfl (by kernel_rfl) ?_; refine ji rfl (jg (qG HG.out)) ?_; refine ji (v := .pointer (some ⟨KB, 0, none⟩)) rfl (by kernel_rfl) ?_; refine ji rfl (jg (jX HX.out)) ?_; refine ji (v := .pointer (some ⟨KB, 4, none⟩)) rfl (by kernel_rfl) ?_; refine ji rfl (jg (jX HY.out)) ?_; simp only [Act.put, pa, pb, pc]
 go_wp2_with fail
 obtain ⟨w1, e9⟩ := je (w0.alloc (.cells #[.int .u64 (jf jd x 0), .int .u64 (jf jd x 1), .int .u64 (jf jd x 2), .int .u64 (jf jd x 3), .int .u64 (jf jd y 0), .int .u64 (jf jd y 1), .int .u64 (jf jd y 2), .int .u64 (jf jd y 3)] 24)); obtain ⟨PB, h9⟩ := je (w0.heap.size); have hb := jc e9; have HP := jh (show w1.heap[PB]? = some (.cells #[.int .u64 (jf jd x 0), .int .u64 (jf jd x 1), .int .u64 (jf jd x 2), .int .u64 (jf jd x 3), .int .u64 (jf jd y 0), .int .u64 (jf jd y 1), .int .u64 (jf jd y 2), .int .u64 (jf jd y 3)] 24 (0, 0)) by rw [e9, h9]; exact heap_alloc_new _ _); have LPB := jh (show PB < w1.heap.size by rw [e9, h9]; simp); have WPB := jh (show w0.heap.size = PB from h9.symm); rw [← e9, ← h9]; clear e9 h9; have HB := jw HB hb; clear hb; refine (CK.out _ PB _ (nums2 HP.out)).mono ?_; rintro _ w2 ⟨rfl, hb⟩; have HB := jw HB hb; clear hb
 go_wp2_with fail
 go_ret
 exact ⟨by simp, HB.out⟩
theorem idxK_any {SB gp gq gg gh b o cap : Nat} {ks : List (Nat × Nat)} (hx : ∀ k ∈ ks, k.1 < jk ∧ k.2 < jk) (hq : gq < jk) (hm : gp < jk) (hn0 : ks.length ≤ 1000) (w : World) (hg : GrpAt w SB gp gq gg gh) (h : KeysAt w b o ks) :
  Calls Tryz.prog 75 #[.slice (some ⟨b, o, none⟩) ks.length cap, .func (.func 46) #[] #[.pointer (some ⟨SB, 0, none⟩)]] w fun e w' => ∃ r : Int, e = .returned (.int .i64 r) ∧ (-1 ≤ r ∧ r ≤ 1000) ∧ decide (0 ≤ r) = ks.any (Jd gp gq) ∧ Below w.heap.size w w' := by
 have HX := jh h; have HG := jh hg; obtain ⟨n, hn⟩ := je (ks.length); have HN := jh hn; rw [← hn]; have hnb : n ≤ 1000 := by omega
 have CK := jh (fun (k : Nat × Nat) (hx9 : k.1 < jk ∧ k.2 < jk) (W : World) hg9 => set1_any (SB := SB) (gg := gg) (gh := gh) hx9.1 hx9.2 hq hm W hg9); have HXL := jh hx; clear h hn hx hq hm hn0 hg
 go_enter Tryz.func75, Tryz.ntmps75
 go_wp2_with fail
 go_loopw [8] (fun i wr => ∃ k : Nat, k ≤ n ∧ i = .int .i64 k ∧ Hid ((ks.take k).any (Jd gp gq) = false) ∧ Hid (Below w.heap.size w wr)) (fun i _ => n - (intOf i).toNat)
 case atStart => exact ⟨0, Nat.zero_le _, rfl, jh rfl, jh (Below.refl _ _)⟩
 case round =>
  obtain ⟨k, hk, rfl, HK, HB⟩ := hrel
  by_cases hlt : k < n
  ·obtain ⟨x, hx⟩ : ∃ x, ks[k]? = some x := ⟨_, List.getElem?_eq_getElem (by rw [← HN.out]; exact hlt)⟩; have hltI : (k : Int) < (n : Int) := by omega
   have HLT := jh hlt; have HXX := jh (HXL.out x (List.mem_of_getElem? hx)); have HXI := jh hx; have r0 := jj ((HX.out k x hx).1 0 (by decide)) HB.out; have r1 := jj ((HX.out k x hx).1 1 (by decide)) HB.out; have r2 := jj ((HX.out k x hx).1 2 (by decide)) HB.out; have r3 := jj ((HX.out k x hx).1 3 (by decide)) HB.out; have r4 := jj ((HX.out k x hx).2 0 (by decide)) HB.out; have r5 := jj ((HX.out k x hx).2 1 (by decide)) HB.out; have r6 := jj ((HX.out k x hx).2 2 (by decide)) HB.out; have r7 := jj ((HX.out k x hx).2 3 (by decide)) HB.out; rw [Nat.add_zero] at r0; simp only [Nat.reduceAdd] at r4 r5 r6 r7; clear hx hlt
   go_wp2_with fail
   clear r0 r1 r2 r3 r4 r5 r6 r7; have CKx := jh (CK.out x HXX.out wr (HG.out.later HB.out))
   by_cases hbad : Jd gp gq x = true
   ·rw [hbad] at CKx; refine CKx.out.mono ?_; rintro _ w4 ⟨rfl, hb⟩; have HB := jw HB hb; have HBD := jh hbad; clear hb hbad
    go_wp2_with fail
    go_ret
    exact ⟨_, rfl, ⟨by omega, by have := HLT.out; omega⟩, by
     rw [decide_eq_true (show (0 : Int) ≤ (k : Int) by omega)]
     exact (List.any_eq_true.2 ⟨x, List.mem_of_getElem? HXI.out, HBD.out⟩).symm, HB.out⟩
   ·rw [show Jd gp gq x = false by simpa using hbad] at CKx; refine CKx.out.mono ?_; rintro _ w4 ⟨rfl, hb⟩; have HB := jw HB hb; have HBD := jh hbad; clear hb hbad
    go_wp2_with fail
    go_roundw
    case rel => exact ⟨k + 1, HLT.out, by go_num, jh (by rw [List.take_add_one, HXI.out, List.any_append, HK.out]; simpa using HBD.out), HB⟩
    case measure => simp [intOf]; have := HLT.out; omega
  ·obtain rfl : k = n := by omega
   clear hlt
   go_wp2_with fail
   go_ret
   exact ⟨_, rfl, ⟨by omega, by omega⟩, by
    have h9 := HK.out; rw [HN.out, List.take_length] at h9; rw [h9]
    rfl, HB.out⟩
theorem conK_any {SB gp gq gg gh b o cap : Nat} {ks : List (Nat × Nat)} (hx : ∀ k ∈ ks, k.1 < jk ∧ k.2 < jk) (hq : gq < jk) (hm : gp < jk) (hn0 : ks.length ≤ 1000) (w : World) (hg : GrpAt w SB gp gq gg gh) (h : KeysAt w b o ks) :
  Calls Tryz.prog 45 #[.slice (some ⟨b, o, none⟩) ks.length cap, .func (.func 46) #[] #[.pointer (some ⟨SB, 0, none⟩)]] w fun e w' => e = .returned (.bool (ks.any (Jd gp gq))) ∧ Below w.heap.size w w' := by
 have CI := jh (idxK_any (cap := cap) hx hq hm hn0 w hg h); obtain ⟨n, hn⟩ := je (ks.length); obtain ⟨d, hd⟩ := je (ks.any (Jd gp gq)); rw [← hn, ← hd] at CI ⊢; clear hn hd hx hq hm hn0 hg h
 go_enter Tryz.func45, Tryz.ntmps45
 go_wp2_with fail
 refine CI.out.mono ?_; rintro _ w1 ⟨r, rfl, ⟨h1, h2⟩, h3, hb⟩; have HB := jh hb; have H3 := jh h3; clear h3 hb
 go_wp2_with fail
 go_ret
 exact ⟨by rw [← H3.out]; rfl, HB.out⟩
theorem dset_0 {gp gq gg gh n cap : Nat} {fa se : Int} {ao : Option Addr} {ks : List (Nat × Nat)}  (h0 : fa < 0) (hx : ∀ k ∈ ks, k.1 < jk ∧ k.2 < jk) (hq : gq < jk) (hm : gp < jk) (hgg : gg < jk) (hgh : gh < jk) (hn : n = ks.length) (hfa : -9223372036854775808 ≤ fa ∧ fa ≤ 9223372036854775807) (hse : -9223372036854775808 ≤ se ∧ se ≤ 9223372036854775807) (hn9 : n ≤ 140737488355328) (w : World) (hk : 0 < n → ∃ b o, ao = some ⟨b, o, none⟩ ∧ KeysAt w b o ks) :
  Calls Tryz.prog 25 #[qg gp gq gg gh fa se (.slice ao n cap)] w fun e w' => e = .returned (.bool (jL gp gq gg gh fa se n ks)) ∧ Below w.heap.size w w' := by
 have hv : jL gp gq gg gh fa se n ks = false := by unfold jL; rw [if_pos h0]
 rw [hv]; clear hv; obtain ⟨hf1, hf2⟩ := hfa; obtain ⟨hs1, hs2⟩ := hse; clear hk hx hq hm hgg hgh hn; unfold qg
 go_enter Tryz.func25, Tryz.ntmps25
 go_upto_region 1 with fail
 obtain ⟨w0, e0⟩ := je (w.alloc (.cells #[.int .u64 (jf jd gp 0), .int .u64 (jf jd gp 1), .int .u64 (jf jd gp 2), .int .u64 (jf jd gp 3), .int .u64 (jf jd gq 0), .int .u64 (jf jd gq 1), .int .u64 (jf jd gq 2), .int .u64 (jf jd gq 3), .int .u64 (jf jd gg 0), .int .u64 (jf jd gg 1), .int .u64 (jf jd gg 2), .int .u64 (jf jd gg 3), .int .u64 (jf jd gh 0), .int .u64 (jf jd gh 1), .int .u64 (jf jd gh 2), .int .u64 (jf jd gh 3), .int .i64 fa, .int .i64 se, .slice ao n cap] 33)); obtain ⟨SB, hSB⟩ := je (w.heap.size); have hb := jc e0; have HG := jh (show GrpAt w0 SB gp gq gg gh by rw [e0, hSB]; exact Jl); have S16 := jh (show w0.cell? ⟨SB, 16, none⟩ = some (.int .i64 fa) by rw [e0, hSB, cell_of_row _ _ _ _ _ _ (heap_alloc_new _ _)]; rfl); have S17 := jh (show w0.cell? ⟨SB, 17, none⟩ = some (.int .i64 se) by rw [e0, hSB, cell_of_row _ _ _ _ _ _ (heap_alloc_new _ _)]; rfl); have S18 := jh (show w0.cell? ⟨SB, 18, none⟩ = some (.slice ao n cap) by rw [e0, hSB, cell_of_row _ _ _ _ _ _ (heap_alloc_new _ _)]; rfl); have HB := jh hb; rw [← e0, ← hSB]; clear e0 hSB hb; have q16 := S16.out; have q17 := S17.out; have q18 := S18.out
 go_wp2_with fail
 go_ret
 exact ⟨rfl, HB.out⟩
theorem dset_1 {gp gq gg gh n cap : Nat} {fa se : Int} {ao : Option Addr} {ks : List (Nat × Nat)} (h0 : ¬ fa < 0) (h1 : 2 < fa) (hx : ∀ k ∈ ks, k.1 < jk ∧ k.2 < jk) (hq : gq < jk) (hm : gp < jk) (hgg : gg < jk) (hgh : gh < jk) (hn : n = ks.length) (hfa : -9223372036854775808 ≤ fa ∧ fa ≤ 9223372036854775807) (hse : -9223372036854775808 ≤ se ∧ se ≤ 9223372036854775807) (hn9 : n ≤ 140737488355328) (w : World) (hk : 0 < n → ∃ b o, ao = some ⟨b, o, none⟩ ∧ KeysAt w b o ks) :
  Calls Tryz.prog 25 #[qg gp gq gg gh fa se (.slice ao n cap)] w fun e w' => e = .returned (.bool (jL gp gq gg gh fa se n ks)) ∧ Below w.heap.size w w' := by
 have hv : jL gp gq gg gh fa se n ks = false := by unfold jL; rw [if_neg h0, if_pos h1]
 rw [hv]; clear hv; obtain ⟨hf1, hf2⟩ := hfa; obtain ⟨hs1, hs2⟩ := hse; clear hk hx hq hm hgg hgh hn; unfold qg
 go_enter Tryz.func25, Tryz.ntmps25
 go_upto_region 1 with fail
 obtain ⟨w0, e0⟩ := je (w.alloc (.cells #[.int .u64 (jf jd gp 0), .int .u64 (jf jd gp 1), .int .u64 (jf jd gp 2), .int .u64 (jf jd gp 3), .int .u64 (jf jd gq 0), .int .u64 (jf jd gq 1), .int .u64 (jf jd gq 2), .int .u64 (jf jd gq 3), .int .u64 (jf jd gg 0), .int .u64 (jf jd gg 1), .int .u64 (jf jd gg 2), .int .u64 (jf jd gg 3), .int .u64 (jf jd gh 0), .int .u64 (jf jd gh 1), .int .u64 (jf jd gh 2), .int .u64 (jf jd gh 3), .int .i64 fa, .int .i64 se, .slice ao n cap] 33)); obtain ⟨SB, hSB⟩ := je (w.heap.size); have hb := jc e0; have HG := jh (show GrpAt w0 SB gp gq gg gh by rw [e0, hSB]; exact Jl); have S16 := jh (show w0.cell? ⟨SB, 16, none⟩ = some (.int .i64 fa) by rw [e0, hSB, cell_of_row _ _ _ _ _ _ (heap_alloc_new _ _)]; rfl); have S17 := jh (show w0.cell? ⟨SB, 17, none⟩ = some (.int .i64 se) by rw [e0, hSB, cell_of_row _ _ _ _ _ _ (heap_alloc_new _ _)]; rfl); have S18 := jh (show w0.cell? ⟨SB, 18, none⟩ = some (.slice ao n cap) by rw [e0, hSB, cell_of_row _ _ _ _ _ _ (heap_alloc_new _ _)]; rfl); have HB := jh hb; rw [← e0, ← hSB]; clear e0 hSB hb; have q16 := S16.out; have q17 := S17.out; have q18 := S18.out
 go_wp2_with fail
 go_ret
 exact ⟨rfl, HB.out⟩
theorem dset_2 {gp gq gg gh n cap : Nat} {fa se : Int} {ao : Option Addr} {ks : List (Nat × Nat)} (h0 : ¬ fa < 0) (h1 : ¬ 2 < fa) (h2 : se < 1) (hx : ∀ k ∈ ks, k.1 < jk ∧ k.2 < jk) (hq : gq < jk) (hm : gp < jk) (hgg : gg < jk) (hgh : gh < jk) (hn : n = ks.length) (hfa : -9223372036854775808 ≤ fa ∧ fa ≤ 9223372036854775807) (hse : -9223372036854775808 ≤ se ∧ se ≤ 9223372036854775807) (hn9 : n ≤ 140737488355328) (w : World) (hk : 0 < n → ∃ b o, ao = some ⟨b, o, none⟩ ∧ KeysAt w b o ks) :
  Calls Tryz.prog 25 #[qg gp gq gg gh fa se (.slice ao n cap)] w fun e w' => e = .returned (.bool (jL gp gq gg gh fa se n ks)) ∧ Below w.heap.size w w' := by
 have hv : jL gp gq gg gh fa se n ks = false := by unfold jL; rw [if_neg h0, if_neg h1, if_pos h2]
 rw [hv]; clear hv; obtain ⟨hf1, hf2⟩ := hfa; obtain ⟨hs1, hs2⟩ := hse; clear hk hx hq hm hgg hgh hn; unfold qg
 go_enter Tryz.func25, Tryz.ntmps25
 go_upto_region 1 with fail
 obtain ⟨w0, e0⟩ := je (w.alloc (.cells #[.int .u64 (jf jd gp 0), .int .u64 (jf jd gp 1), .int .u64 (jf jd gp 2), .int .u64 (jf jd gp 3), .int .u64 (jf jd gq 0), .int .u64 (jf jd gq 1), .int .u64 (jf jd gq 2), .int .u64 (jf jd gq 3), .int .u64 (jf jd gg 0), .int .u64 (jf jd gg 1), .int .u64 (jf jd gg 2), .int .u64 (jf jd gg 3), .int .u64 (jf jd gh 0), .int .u64 (jf jd gh 1), .int .u64 (jf jd gh 2), .int .u64 (jf jd gh 3), .int .i64 fa, .int .i64 se, .slice ao n cap] 33)); obtain ⟨SB, hSB⟩ := je (w.heap.size); have hb := jc e0; have HG := jh (show GrpAt w0 SB gp gq gg gh by rw [e0, hSB]; exact Jl); have S16 := jh (show w0.cell? ⟨SB, 16, none⟩ = some (.int .i64 fa) by rw [e0, hSB, cell_of_row _ _ _ _ _ _ (heap_alloc_new _ _)]; rfl); have S17 := jh (show w0.cell? ⟨SB, 17, none⟩ = some (.int .i64 se) by rw [e0, hSB, cell_of_row _ _ _ _ _ _ (heap_alloc_new _ _)]; rfl); have S18 := jh (show w0.cell? ⟨SB, 18, none⟩ = some (.slice ao n cap) by rw [e0, hSB, cell_of_row _ _ _ _ _ _ (heap_alloc_new _ _)]; rfl); have HB := jh hb; rw [← e0, ← hSB]; clear e0 hSB hb; have q16 := S16.out; have q17 := S17.out; have q18 := S18.out
 go_wp2_with fail
 go_ret
 exact ⟨rfl, HB.out⟩
theorem dset_3 {gp gq gg gh n cap : Nat} {fa se : Int} {ao : Option Addr} {ks : List (Nat × Nat)} (h0 : ¬ fa < 0) (h1 : ¬ 2 < fa) (h2 : ¬ se < 1) (h3 : fa + 1 < se) (hx : ∀ k ∈ ks, k.1 < jk ∧ k.2 < jk) (hq : gq < jk) (hm : gp < jk) (hgg : gg < jk) (hgh : gh < jk) (hn : n = ks.length) (hfa : -9223372036854775808 ≤ fa ∧ fa ≤ 9223372036854775807) (hse : -9223372036854775808 ≤ se ∧ se ≤ 9223372036854775807) (hn9 : n ≤ 140737488355328) (w : World) (hk : 0 < n → ∃ b o, ao = some ⟨b, o, none⟩ ∧ KeysAt w b o ks) :
  Calls Tryz.prog 25 #[qg gp gq gg gh fa se (.slice ao n cap)] w fun e w' => e = .returned (.bool (jL gp gq gg gh fa se n ks)) ∧ Below w.heap.size w w' := by
 have hv : jL gp gq gg gh fa se n ks = false := by unfold jL; rw [if_neg h0, if_neg h1, if_neg h2, if_pos h3]
 rw [hv]; clear hv; obtain ⟨hf1, hf2⟩ := hfa; obtain ⟨hs1, hs2⟩ := hse; clear hk hx hq hm hgg hgh hn; unfold qg
 go_enter Tryz.func25, Tryz.ntmps25
 go_upto_region 1 with fail
 obtain ⟨w0, e0⟩ := je (w.alloc (.cells #[.int .u64 (jf jd gp 0), .int .u64 (jf jd gp 1), .int .u64 (jf jd gp 2), .int .u64 (jf jd gp 3), .int .u64 (jf jd gq 0), .int .u64 (jf jd gq 1), .int .u64 (jf jd gq 2), .int .u64 (jf jd gq 3), .int .u64 (jf jd gg 0), .int .u64 (jf jd gg 1), .int .u64 (jf jd gg 2), .int .u64 (jf jd gg 3), .int .u64 (jf jd gh 0), .int .u64 (jf jd gh 1), .int .u64 (jf jd gh 2), .int .u64 (jf jd gh 3), .int .i64 fa, .int .i64 se, .slice ao n cap] 33)); obtain ⟨SB, hSB⟩ := je (w.heap.size); have hb := jc e0; have HG := jh (show GrpAt w0 SB gp gq gg gh by rw [e0, hSB]; exact Jl); have S16 := jh (show w0.cell? ⟨SB, 16, none⟩ = some (.int .i64 fa) by rw [e0, hSB, cell_of_row _ _ _ _ _ _ (heap_alloc_new _ _)]; rfl); have S17 := jh (show w0.cell? ⟨SB, 17, none⟩ = some (.int .i64 se) by rw [e0, hSB, cell_of_row _ _ _ _ _ _ (heap_alloc_new _ _)]; rfl); have S18 := jh (show w0.cell? ⟨SB, 18, none⟩ = some (.slice ao n cap) by rw [e0, hSB, cell_of_row _ _ _ _ _ _ (heap_alloc_new _ _)]; rfl); have HB := jh hb; rw [← e0, ← hSB]; clear e0 hSB hb; have q16 := S16.out; have q17 := S17.out; have q18 := S18.out
 go_wp2_with fail
 go_ret
 exact ⟨rfl, HB.out⟩
theorem dset_4 {gp gq gg gh n cap : Nat} {fa se : Int} {ao : Option Addr} {ks : List (Nat × Nat)} (h0 : ¬ fa < 0) (h1 : ¬ 2 < fa) (h2 : ¬ se < 1) (h3 : ¬ fa + 1 < se) (h4 : (n : Int) < 3 * fa + 1) (hx : ∀ k ∈ ks, k.1 < jk ∧ k.2 < jk) (hq : gq < jk) (hm : gp < jk) (hgg : gg < jk) (hgh : gh < jk) (hn : n = ks.length) (hfa : -9223372036854775808 ≤ fa ∧ fa ≤ 9223372036854775807) (hse : -9223372036854775808 ≤ se ∧ se ≤ 9223372036854775807) (hn9 : n ≤ 140737488355328) (w : World) (hk : 0 < n → ∃ b o, ao = some ⟨b, o, none⟩ ∧ KeysAt w b o ks) :
  Calls Tryz.prog 25 #[qg gp gq gg gh fa se (.slice ao n cap)] w fun e w' => e = .returned (.bool (jL gp gq gg gh fa se n ks)) ∧ Below w.heap.size w w' := by
 have hv : jL gp gq gg gh fa se n ks = false := by unfold jL; rw [if_neg h0, if_neg h1, if_neg h2, if_neg h3, if_pos h4]
 rw [hv]; clear hv; obtain ⟨hf1, hf2⟩ := hfa; obtain ⟨hs1, hs2⟩ := hse; clear hk hx hq hm hgg hgh hn; unfold qg
 go_enter Tryz.func25, Tryz.ntmps25
 go_upto_region 1 with fail
 obtain ⟨w0, e0⟩ := je (w.alloc (.cells #[.int .u64 (jf jd gp 0), .int .u64 (jf jd gp 1), .int .u64 (jf jd gp 2), .int .u64 (jf jd gp 3), .int .u64 (jf jd gq 0), .int .u64 (jf jd gq 1), .int .u64 (jf jd gq 2), .int .u64 (jf jd gq 3), .int .u64 (jf jd gg 0), .int .u64 (jf jd gg 1), .int .u64 (jf jd gg 2), .int .u64 (jf jd gg 3), .int .u64 (jf jd gh 0), .int .u64 (jf jd gh 1), .int .u64 (jf jd gh 2), .int .u64 (jf jd gh 3), .int .i64 fa, .int .i64 se, .slice ao n cap] 33)); obtain ⟨SB, hSB⟩ := je (w.heap.size); have hb := jc e0; have HG := jh (show GrpAt w0 SB gp gq gg gh by rw [e0, hSB]; exact Jl); have S16 := jh (show w0.cell? ⟨SB, 16, none⟩ = some (.int .i64 fa) by rw [e0, hSB, cell_of_row _ _ _ _ _ _ (heap_alloc_new _ _)]; rfl); have S17 := jh (show w0.cell? ⟨SB, 17, none⟩ = some (.int .i64 se) by rw [e0, hSB, cell_of_row _ _ _ _ _ _ (heap_alloc_new _ _)]; rfl); have S18 := jh (show w0.cell? ⟨SB, 18, none⟩ = some (.slice ao n cap) by rw [e0, hSB, cell_of_row _ _ _ _ _ _ (heap_alloc_new _ _)]; rfl); have HB := jh hb; rw [← e0, ← hSB]; clear e0 hSB hb; have q16 := S16.out; have q17 := S17.out; have q18 := S18.out
 go_wp2_with fail
 go_ret
 exact ⟨rfl, HB.out⟩
theorem dset_5 {gp gq gg gh n cap : Nat} {fa se : Int} {ao : Option Addr} {ks : List (Nat × Nat)} (h0 : ¬ fa < 0) (h1 : ¬ 2 < fa) (h2 : ¬ se < 1) (h3 : ¬ fa + 1 < se) (h4 : ¬ (n : Int) < 3 * fa + 1) (h5 : 7 < n) (hx : ∀ k ∈ ks, k.1 < jk ∧ k.2 < jk) (hq : gq < jk) (hm : gp < jk) (hgg : gg < jk) (hgh : gh < jk) (hn : n = ks.length) (hfa : -9223372036854775808 ≤ fa ∧ fa ≤ 9223372036854775807) (hse : -9223372036854775808 ≤ se ∧ se ≤ 9223372036854775807) (hn9 : n ≤ 140737488355328) (w : World) (hk : 0 < n → ∃ b o, ao = some ⟨b, o, none⟩ ∧ KeysAt w b o ks) :
  Calls Tryz.prog 25 #[qg gp gq gg gh fa se (.slice ao n cap)] w fun e w' => e = .returned (.bool (jL gp gq gg gh fa se n ks)) ∧ Below w.heap.size w w' := by
 have hv : jL gp gq gg gh fa se n ks = false := by unfold jL; rw [if_neg h0, if_neg h1, if_neg h2, if_neg h3, if_neg h4, if_pos h5]
 rw [hv]; clear hv; obtain ⟨hf1, hf2⟩ := hfa; obtain ⟨hs1, hs2⟩ := hse; have h5I : (7 : Int) < (n : Int) := by omega
 clear hk hx hq hm hgg hgh hn; unfold qg
 go_enter Tryz.func25, Tryz.ntmps25
 go_upto_region 1 with fail
 obtain ⟨w0, e0⟩ := je (w.alloc (.cells #[.int .u64 (jf jd gp 0), .int .u64 (jf jd gp 1), .int .u64 (jf jd gp 2), .int .u64 (jf jd gp 3), .int .u64 (jf jd gq 0), .int .u64 (jf jd gq 1), .int .u64 (jf jd gq 2), .int .u64 (jf jd gq 3), .int .u64 (jf jd gg 0), .int .u64 (jf jd gg 1), .int .u64 (jf jd gg 2), .int .u64 (jf jd gg 3), .int .u64 (jf jd gh 0), .int .u64 (jf jd gh 1), .int .u64 (jf jd gh 2), .int .u64 (jf jd gh 3), .int .i64 fa, .int .i64 se, .slice ao n cap] 33)); obtain ⟨SB, hSB⟩ := je (w.heap.size); have hb := jc e0; have HG := jh (show GrpAt w0 SB gp gq gg gh by rw [e0, hSB]; exact Jl); have S16 := jh (show w0.cell? ⟨SB, 16, none⟩ = some (.int .i64 fa) by rw [e0, hSB, cell_of_row _ _ _ _ _ _ (heap_alloc_new _ _)]; rfl); have S17 := jh (show w0.cell? ⟨SB, 17, none⟩ = some (.int .i64 se) by rw [e0, hSB, cell_of_row _ _ _ _ _ _ (heap_alloc_new _ _)]; rfl); have S18 := jh (show w0.cell? ⟨SB, 18, none⟩ = some (.slice ao n cap) by rw [e0, hSB, cell_of_row _ _ _ _ _ _ (heap_alloc_new _ _)]; rfl); have HB := jh hb; rw [← e0, ← hSB]; clear e0 hSB hb; have q16 := S16.out; have q17 := S17.out; have q18 := S18.out
 go_wp2_with fail
 go_ret
 exact ⟨rfl, HB.out⟩
theorem dset_6 {gp gq gg gh n cap : Nat} {fa se : Int} {ao : Option Addr} {ks : List (Nat × Nat)} (h0 : ¬ fa < 0) (h1 : ¬ 2 < fa) (h2 : ¬ se < 1) (h3 : ¬ fa + 1 < se) (h4 : ¬ (n : Int) < 3 * fa + 1) (h5 : ¬ 7 < n) (h6 : Qe gq (n + se.toNat) = false) (hx : ∀ k ∈ ks, k.1 < jk ∧ k.2 < jk) (hq : gq < jk) (hm : gp < jk) (hgg : gg < jk) (hgh : gh < jk) (hn : n = ks.length) (hfa : -9223372036854775808 ≤ fa ∧ fa ≤ 9223372036854775807) (hse : -9223372036854775808 ≤ se ∧ se ≤ 9223372036854775807) (hn9 : n ≤ 140737488355328) (w : World) (hk : 0 < n → ∃ b o, ao = some ⟨b, o, none⟩ ∧ KeysAt w b o ks) :
  Calls Tryz.prog 25 #[qg gp gq gg gh fa se (.slice ao n cap)] w fun e w' => e = .returned (.bool (jL gp gq gg gh fa se n ks)) ∧ Below w.heap.size w w' := by
 have hv : jL gp gq gg gh fa se n ks = false := by unfold jL; rw [if_neg h0, if_neg h1, if_neg h2, if_neg h3, if_neg h4, if_neg h5, if_pos h6]
 rw [hv]; clear hv; obtain ⟨hf1, hf2⟩ := hfa; obtain ⟨hs1, hs2⟩ := hse; obtain ⟨m, hm9⟩ := je (n + se.toNat); have hmI : (n : Int) + se = (m : Int) := by omega
 have hmb : m ≤ 1000 := by omega
 have CA := jh (fun W => by have h9 := above_any (a := gq) hmb W; rw [show Qe gq m = false by rw [hm9]; exact h6] at h9; unfold jo words at h9; exact h9); clear hm9 h6; have hn7 : (n : Int) ≤ 1000000 := by omega
 have h5I : ¬ (7 : Int) < (n : Int) := by omega
 clear hk hx hq hm hgg hgh hn; unfold qg
 go_enter Tryz.func25, Tryz.ntmps25
 go_upto_region 1 with fail
 obtain ⟨w0, e0⟩ := je (w.alloc (.cells #[.int .u64 (jf jd gp 0), .int .u64 (jf jd gp 1), .int .u64 (jf jd gp 2), .int .u64 (jf jd gp 3), .int .u64 (jf jd gq 0), .int .u64 (jf jd gq 1), .int .u64 (jf jd gq 2), .int .u64 (jf jd gq 3), .int .u64 (jf jd gg 0), .int .u64 (jf jd gg 1), .int .u64 (jf jd gg 2), .int .u64 (jf jd gg 3), .int .u64 (jf jd gh 0), .int .u64 (jf jd gh 1), .int .u64 (jf jd gh 2), .int .u64 (jf jd gh 3), .int .i64 fa, .int .i64 se, .slice ao n cap] 33)); obtain ⟨SB, hSB⟩ := je (w.heap.size); have hb := jc e0; have HG := jh (show GrpAt w0 SB gp gq gg gh by rw [e0, hSB]; exact Jl); have S16 := jh (show w0.cell? ⟨SB, 16, none⟩ = some (.int .i64 fa) by rw [e0, hSB, cell_of_row _ _ _ _ _ _ (heap_alloc_new _ _)]; rfl); have S17 := jh (show w0.cell? ⟨SB, 17, none⟩ = some (.int .i64 se) by rw [e0, hSB, cell_of_row _ _ _ _ _ _ (heap_alloc_new _ _)]; rfl); have S18 := jh (show w0.cell? ⟨SB, 18, none⟩ = some (.slice ao n cap) by rw [e0, hSB, cell_of_row _ _ _ _ _ _ (heap_alloc_new _ _)]; rfl); have HB := jh hb; rw [← e0, ← hSB]; clear e0 hSB hb; have q16 := S16.out; have q17 := S17.out; have q18 := S18.out; obtain ⟨y0, y1, y2, y3, y4, y5, y6, y7, y8, y9, y10, y11, y12, y13, y14, y15⟩ := Zx HG.out
 go_wp2_with fail
 clear q16 q17 q18 y0 y1 y2 y3 y4 y5 y6 y7 y8 y9 y10 y11 y12 y13 y14 y15; refine (CA.out _).mono ?_; rintro _ w1 ⟨rfl, hb⟩; have HB := jw HB hb; have HG := jh (HG.out.later hb); have S16 := jh (jj S16.out hb); have S17 := jh (jj S17.out hb); have S18 := jh (jj S18.out hb); clear hb
 go_wp2_with fail
 go_ret
 exact ⟨rfl, HB.out⟩
theorem dset_7 {gp gq gg gh n cap : Nat} {fa se : Int} {ao : Option Addr} {ks : List (Nat × Nat)} (h0 : ¬ fa < 0) (h1 : ¬ 2 < fa) (h2 : ¬ se < 1) (h3 : ¬ fa + 1 < se) (h4 : ¬ (n : Int) < 3 * fa + 1) (h5 : ¬ 7 < n) (h6 : ¬ Qe gq (n + se.toNat) = false) (h7 : (zK gp gq gg || zK gp gq gh) = true) (hx : ∀ k ∈ ks, k.1 < jk ∧ k.2 < jk) (hq : gq < jk) (hm : gp < jk) (hgg : gg < jk) (hgh : gh < jk) (hn : n = ks.length) (hfa : -9223372036854775808 ≤ fa ∧ fa ≤ 9223372036854775807) (hse : -9223372036854775808 ≤ se ∧ se ≤ 9223372036854775807) (hn9 : n ≤ 140737488355328) (w : World) (hk : 0 < n → ∃ b o, ao = some ⟨b, o, none⟩ ∧ KeysAt w b o ks) :
  Calls Tryz.prog 25 #[qg gp gq gg gh fa se (.slice ao n cap)] w fun e w' => e = .returned (.bool (jL gp gq gg gh fa se n ks)) ∧ Below w.heap.size w w' := by
 have hv : jL gp gq gg gh fa se n ks = false := by unfold jL; rw [if_neg h0, if_neg h1, if_neg h2, if_neg h3, if_neg h4, if_neg h5, if_neg h6, if_pos h7]
 rw [hv]; clear hv; obtain ⟨hf1, hf2⟩ := hfa; obtain ⟨hs1, hs2⟩ := hse; obtain ⟨m, hm9⟩ := je (n + se.toNat); have hmI : (n : Int) + se = (m : Int) := by omega
 have hmb : m ≤ 1000 := by omega
 have CA := jh (fun W => by have h9 := above_any (a := gq) hmb W; rw [show Qe gq m = true by rw [hm9]; simpa using h6] at h9; unfold jo words at h9; exact h9); clear hm9 h6; have CK := jh (fun (W : World) (B cap : Nat) hx9 => by have h9 := keys_any (gp := gp) (gq := gq) (gg := gg) (gh := gh) (b := B) (o := 0) (cap := cap) (xs := [gg, gh]) (by intro x hx; simp only [List.mem_cons, List.not_mem_nil, or_false] at hx; rcases hx with rfl | rfl; exact hgg; exact hgh) hq hm (by simp) W hx9; rw [show [gg, gh].any (zK gp gq) = true by simpa using h7] at h9; unfold qS at h9; exact h9); clear h7; have hn7 : (n : Int) ≤ 1000000 := by omega
 have h5I : ¬ (7 : Int) < (n : Int) := by omega
 clear hk hx hq hm hgg hgh hn; unfold qg
 go_enter Tryz.func25, Tryz.ntmps25
 go_upto_region 1 with fail
 obtain ⟨w0, e0⟩ := je (w.alloc (.cells #[.int .u64 (jf jd gp 0), .int .u64 (jf jd gp 1), .int .u64 (jf jd gp 2), .int .u64 (jf jd gp 3), .int .u64 (jf jd gq 0), .int .u64 (jf jd gq 1), .int .u64 (jf jd gq 2), .int .u64 (jf jd gq 3), .int .u64 (jf jd gg 0), .int .u64 (jf jd gg 1), .int .u64 (jf jd gg 2), .int .u64 (jf jd gg 3), .int .u64 (jf jd gh 0), .int .u64 (jf jd gh 1), .int .u64 (jf jd gh 2), .int .u64 (jf jd gh 3), .int .i64 fa, .int .i64 se, .slice ao n cap] 33)); obtain ⟨SB, hSB⟩ := je (w.heap.size); have hb := jc e0; have HG := jh (show GrpAt w0 SB gp gq gg gh by rw [e0, hSB]; exact Jl); have S16 := jh (show w0.cell? ⟨SB, 16, none⟩ = some (.int .i64 fa) by rw [e0, hSB, cell_of_row _ _ _ _ _ _ (heap_alloc_new _ _)]; rfl); have S17 := jh (show w0.cell? ⟨SB, 17, none⟩ = some (.int .i64 se) by rw [e0, hSB, cell_of_row _ _ _ _ _ _ (heap_alloc_new _ _)]; rfl); have S18 := jh (show w0.cell? ⟨SB, 18, none⟩ = some (.slice ao n cap) by rw [e0, hSB, cell_of_row _ _ _ _ _ _ (heap_alloc_new _ _)]; rfl); have HB := jh hb; rw [← e0, ← hSB]; clear e0 hSB hb; have q16 := S16.out; have q17 := S17.out; have q18 := S18.out; obtain ⟨y0, y1, y2, y3, y4, y5, y6, y7, y8, y9, y10, y11, y12, y13, y14, y15⟩ := Zx HG.out
 go_wp2_with fail
 clear q16 q17 q18 y0 y1 y2 y3 y4 y5 y6 y7 y8 y9 y10 y11 y12 y13 y14 y15; refine (CA.out _).mono ?_; rintro _ w1 ⟨rfl, hb⟩; have HB := jw HB hb; have HG := jh (HG.out.later hb); have S16 := jh (jj S16.out hb); have S17 := jh (jj S17.out hb); have S18 := jh (jj S18.out hb); clear hb; have q16 := S16.out; have q17 := S17.out; have q18 := S18.out; obtain ⟨y0, y1, y2, y3, y4, y5, y6, y7, y8, y9, y10, y11, y12, y13, y14, y15⟩ := Zx HG.out
 go_wp2_with fail
 clear q16 q17 q18 y0 y1 y2 y3 y4 y5 y6 y7 y8 y9 y10 y11 y12 y13 y14 y15; obtain ⟨w2, e9⟩ := je (w1.alloc (.cells #[.int .u64 (jf jd gg 0), .int .u64 (jf jd gg 1), .int .u64 (jf jd gg 2), .int .u64 (jf jd gg 3), .int .u64 (jf jd gh 0), .int .u64 (jf jd gh 1), .int .u64 (jf jd gh 2), .int .u64 (jf jd gh 3)] 24)); obtain ⟨PB, h9⟩ := je (w1.heap.size); have hb := jc e9; have HP := jh (show w2.heap[PB]? = some (.cells #[.int .u64 (jf jd gg 0), .int .u64 (jf jd gg 1), .int .u64 (jf jd gg 2), .int .u64 (jf jd gg 3), .int .u64 (jf jd gh 0), .int .u64 (jf jd gh 1), .int .u64 (jf jd gh 2), .int .u64 (jf jd gh 3)] 24 (0, 0)) by rw [e9, h9]; exact heap_alloc_new _ _); have LPB := jh (show PB < w2.heap.size by rw [e9, h9]; simp); have WPB := jh (show w1.heap.size = PB from h9.symm); rw [← e9, ← h9]; clear e9 h9; have HB := jw HB hb; have HG := jh (HG.out.later hb); have S16 := jh (jj S16.out hb); have S17 := jh (jj S17.out hb); have S18 := jh (jj S18.out hb); clear hb; refine (CK.out _ PB _ (nums2 HP.out)).mono ?_; rintro _ w3 ⟨rfl, hb⟩; have HB := jw HB hb; have HG := jh (HG.out.later hb); have S16 := jh (jj S16.out hb); have S17 := jh (jj S17.out hb); have S18 := jh (jj S18.out hb); have LPB := jl LPB hb.size; clear hb; clear HP
 go_wp2_with fail
 go_ret
 exact ⟨rfl, HB.out⟩
theorem dset_8 {gp gq gg gh n cap : Nat} {fa se : Int} {ao : Option Addr} {ks : List (Nat × Nat)} (h0 : ¬ fa < 0) (h1 : ¬ 2 < fa) (h2 : ¬ se < 1) (h3 : ¬ fa + 1 < se) (h4 : ¬ (n : Int) < 3 * fa + 1) (h5 : ¬ 7 < n) (h6 : ¬ Qe gq (n + se.toNat) = false) (h7 : ¬ (zK gp gq gg || zK gp gq gh) = true) (hx : ∀ k ∈ ks, k.1 < jk ∧ k.2 < jk) (hq : gq < jk) (hm : gp < jk) (hgg : gg < jk) (hgh : gh < jk) (hn : n = ks.length) (hfa : -9223372036854775808 ≤ fa ∧ fa ≤ 9223372036854775807) (hse : -9223372036854775808 ≤ se ∧ se ≤ 9223372036854775807) (hn9 : n ≤ 140737488355328) (w : World) (hk : 0 < n → ∃ b o, ao = some ⟨b, o, none⟩ ∧ KeysAt w b o ks) :
  Calls Tryz.prog 25 #[qg gp gq gg gh fa se (.slice ao n cap)] w fun e w' => e = .returned (.bool (jL gp gq gg gh fa se n ks)) ∧ Below w.heap.size w w' := by
 have hv : jL gp gq gg gh fa se n ks = (!ks.any (Jd gp gq)) := by unfold jL; rw [if_neg h0, if_neg h1, if_neg h2, if_neg h3, if_neg h4, if_neg h5, if_neg h6, if_neg h7]
 rw [hv]; clear hv; obtain ⟨hf1, hf2⟩ := hfa; obtain ⟨hs1, hs2⟩ := hse; obtain ⟨m, hm9⟩ := je (n + se.toNat); have hmI : (n : Int) + se = (m : Int) := by omega
 have hmb : m ≤ 1000 := by omega
 have CA := jh (fun W => by have h9 := above_any (a := gq) hmb W; rw [show Qe gq m = true by rw [hm9]; simpa using h6] at h9; unfold jo words at h9; exact h9); clear hm9 h6; have CK := jh (fun (W : World) (B cap : Nat) hx9 => by have h9 := keys_any (gp := gp) (gq := gq) (gg := gg) (gh := gh) (b := B) (o := 0) (cap := cap) (xs := [gg, gh]) (by intro x hx; simp only [List.mem_cons, List.not_mem_nil, or_false] at hx; rcases hx with rfl | rfl; exact hgg; exact hgh) hq hm (by simp) W hx9; rw [show [gg, gh].any (zK gp gq) = false by simpa using h7] at h9; unfold qS at h9; exact h9); clear h7; obtain ⟨b, o, hao, hks⟩ := hk (by omega); subst hao; have CC := jh (fun (W : World) (SB : Nat) hg9 hk9 => by have h9 := conK_any (SB := SB) (gg := gg) (gh := gh) (b := b) (o := o) (cap := cap) hx hq hm (by omega) W hg9 hk9; rw [← hn] at h9; exact h9); have HKS := jh hks; obtain ⟨d, hd⟩ := je (ks.any (Jd gp gq)); rw [← hd] at CC ⊢; clear hks hd; have hn7 : (n : Int) ≤ 1000000 := by omega
 have h5I : ¬ (7 : Int) < (n : Int) := by omega
 clear hk hx hq hm hgg hgh hn; unfold qg
 go_enter Tryz.func25, Tryz.ntmps25
 go_upto_region 1 with fail
 obtain ⟨w0, e0⟩ := je (w.alloc (.cells #[.int .u64 (jf jd gp 0), .int .u64 (jf jd gp 1), .int .u64 (jf jd gp 2), .int .u64 (jf jd gp 3), .int .u64 (jf jd gq 0), .int .u64 (jf jd gq 1), .int .u64 (jf jd gq 2), .int .u64 (jf jd gq 3), .int .u64 (jf jd gg 0), .int .u64 (jf jd gg 1), .int .u64 (jf jd gg 2), .int .u64 (jf jd gg 3), .int .u64 (jf jd gh 0), .int .u64 (jf jd gh 1), .int .u64 (jf jd gh 2), .int .u64 (jf jd gh 3), .int .i64 fa, .int .i64 se, .slice (some ⟨b, o, none⟩) n cap] 33)); obtain ⟨SB, hSB⟩ := je (w.heap.size); have hb := jc e0; have HG := jh (show GrpAt w0 SB gp gq gg gh by rw [e0, hSB]; exact Jl); have S16 := jh (show w0.cell? ⟨SB, 16, none⟩ = some (.int .i64 fa) by rw [e0, hSB, cell_of_row _ _ _ _ _ _ (heap_alloc_new _ _)]; rfl); have S17 := jh (show w0.cell? ⟨SB, 17, none⟩ = some (.int .i64 se) by rw [e0, hSB, cell_of_row _ _ _ _ _ _ (heap_alloc_new _ _)]; rfl); have S18 := jh (show w0.cell? ⟨SB, 18, none⟩ = some (.slice (some ⟨b, o, none⟩) n cap) by rw [e0, hSB, cell_of_row _ _ _ _ _ _ (heap_alloc_new _ _)]; rfl); have HB := jh hb; rw [← e0, ← hSB]; clear e0 hSB hb; have HKS := jh (HKS.out.later HB.out); have q16 := S16.out; have q17 := S17.out; have q18 := S18.out; obtain ⟨y0, y1, y2, y3, y4, y5, y6, y7, y8, y9, y10, y11, y12, y13, y14, y15⟩ := Zx HG.out
 go_wp2_with fail
 clear q16 q17 q18 y0 y1 y2 y3 y4 y5 y6 y7 y8 y9 y10 y11 y12 y13 y14 y15; refine (CA.out _).mono ?_; rintro _ w1 ⟨rfl, hb⟩; have HB := jw HB hb; have HG := jh (HG.out.later hb); have S16 := jh (jj S16.out hb); have S17 := jh (jj S17.out hb); have S18 := jh (jj S18.out hb); have HKS := jh (HKS.out.later hb); clear hb; have q16 := S16.out; have q17 := S17.out; have q18 := S18.out; obtain ⟨y0, y1, y2, y3, y4, y5, y6, y7, y8, y9, y10, y11, y12, y13, y14, y15⟩ := Zx HG.out
 go_wp2_with fail
 clear q16 q17 q18 y0 y1 y2 y3 y4 y5 y6 y7 y8 y9 y10 y11 y12 y13 y14 y15; obtain ⟨w2, e9⟩ := je (w1.alloc (.cells #[.int .u64 (jf jd gg 0), .int .u64 (jf jd gg 1), .int .u64 (jf jd gg 2), .int .u64 (jf jd gg 3), .int .u64 (jf jd gh 0), .int .u64 (jf jd gh 1), .int .u64 (jf jd gh 2), .int .u64 (jf jd gh 3)] 24)); obtain ⟨PB, h9⟩ := je (w1.heap.size); have hb := jc e9; have HP := jh (show w2.heap[PB]? = some (.cells #[.int .u64 (jf jd gg 0), .int .u64 (jf jd gg 1), .int .u64 (jf jd gg 2), .int .u64 (jf jd gg 3), .int .u64 (jf jd gh 0), .int .u64 (jf jd gh 1), .int .u64 (jf jd gh 2), .int .u64 (jf jd gh 3)] 24 (0, 0)) by rw [e9, h9]; exact heap_alloc_new _ _); have LPB := jh (show PB < w2.heap.size by rw [e9, h9]; simp); have WPB := jh (show w1.heap.size = PB from h9.symm); rw [← e9, ← h9]; clear e9 h9; have HB := jw HB hb; have HG := jh (HG.out.later hb); have S16 := jh (jj S16.out hb); have S17 := jh (jj S17.out hb); have S18 := jh (jj S18.out hb); have HKS := jh (HKS.out.later hb); clear hb; refine (CK.out _ PB _ (nums2 HP.out)).mono ?_; rintro _ w3 ⟨rfl, hb⟩; have HB := jw HB hb; have HG := jh (HG.out.later hb); have S16 := jh (jj S16.out hb); have S17 := jh (jj S17.out hb); have S18 := jh (jj S18.out hb); have HKS := jh (HKS.out.later hb); have LPB := jl LPB hb.size; clear hb; clear HP; have q18 := S18.out
 go_wp2_with fail
 clear q18; refine (CC.out _ SB HG.out HKS.out).mono ?_; rintro _ w4 ⟨rfl, hb⟩; have HB := jw HB hb; clear hb
 go_wp2_with fail
 go_ret
 exact ⟨rfl, HB.out⟩
theorem DSet_any {gp gq gg gh n cap : Nat} {fa se : Int} {ao : Option Addr} {ks : List (Nat × Nat)} (hx : ∀ k ∈ ks, k.1 < jk ∧ k.2 < jk) (hq : gq < jk) (hm : gp < jk) (hgg : gg < jk) (hgh : gh < jk) (hn : n = ks.length) (hfa : -9223372036854775808 ≤ fa ∧ fa ≤ 9223372036854775807) (hse : -9223372036854775808 ≤ se ∧ se ≤ 9223372036854775807) (hn9 : n ≤ 140737488355328) (w : World) (hk : 0 < n → ∃ b o, ao = some ⟨b, o, none⟩ ∧ KeysAt w b o ks) :
  Calls Tryz.prog 25 #[qg gp gq gg gh fa se (.slice ao n cap)] w fun e w' => e = .returned (.bool (jL gp gq gg gh fa se n ks)) ∧ Below w.heap.size w w' := by
 by_cases h0 : fa < 0
 ·exact dset_0 h0 hx hq hm hgg hgh hn hfa hse hn9 w hk
 by_cases h1 : 2 < fa
 ·exact dset_1 h0 h1 hx hq hm hgg hgh hn hfa hse hn9 w hk
 by_cases h2 : se < 1
 ·exact dset_2 h0 h1 h2 hx hq hm hgg hgh hn hfa hse hn9 w hk
 by_cases h3 : fa + 1 < se
 ·exact dset_3 h0 h1 h2 h3 hx hq hm hgg hgh hn hfa hse hn9 w hk
 by_cases h4 : (n : Int) < 3 * fa + 1
 ·exact dset_4 h0 h1 h2 h3 h4 hx hq hm hgg hgh hn hfa hse hn9 w hk
 by_cases h5 : 7 < n
 ·exact dset_5 h0 h1 h2 h3 h4 h5 hx hq hm hgg hgh hn hfa hse hn9 w hk
 by_cases h6 : Qe gq (n + se.toNat) = false
 ·exact dset_6 h0 h1 h2 h3 h4 h5 h6 hx hq hm hgg hgh hn hfa hse hn9 w hk
 by_cases h7 : (zK gp gq gg || zK gp gq gh) = true
 ·exact dset_7 h0 h1 h2 h3 h4 h5 h6 h7 hx hq hm hgg hgh hn hfa hse hn9 w hk
 exact dset_8 h0 h1 h2 h3 h4 h5 h6 h7 hx hq hm hgg hgh hn hfa hse hn9 w hk
def zG (gp gq gg gh lg : Nat) (fa se : Int) (ks : Value) : Value := .agg #[.int .u64 (jf jd gp 0), .int .u64 (jf jd gp 1), .int .u64 (jf jd gp 2), .int .u64 (jf jd gp 3), .int .u64 (jf jd gq 0), .int .u64 (jf jd gq 1), .int .u64 (jf jd gq 2), .int .u64 (jf jd gq 3), .int .u64 (jf jd gg 0), .int .u64 (jf jd gg 1), .int .u64 (jf jd gg 2), .int .u64 (jf jd gg 3), .int .u64 (jf jd gh 0), .int .u64 (jf jd gh 1), .int .u64 (jf jd gh 2), .int .u64 (jf jd gh 3), .int .u64 (jf jd lg 0), .int .u64 (jf jd lg 1), .int .u64 (jf jd lg 2), .int .u64 (jf jd lg 3), .int .i64 fa, .int .i64 se, ks]
def isPrime (gp gq : Nat) : Prop := gp < 4294967296 ∧ 1 < gq ∧ gq < jd ∧ (ZK gp ∧ gp < 4294967296) ∧ (ZK gq ∧ gq < 4294967296) ∧ (gp - 1) % gq = 0
theorem Zb {w : World} {gp gq gg gh lg : Nat} {x y z : Value} {t : TypeId} : GrpAt (w.alloc (.cells #[.int .u64 (jf jd gp 0), .int .u64 (jf jd gp 1), .int .u64 (jf jd gp 2), .int .u64 (jf jd gp 3), .int .u64 (jf jd gq 0), .int .u64 (jf jd gq 1), .int .u64 (jf jd gq 2), .int .u64 (jf jd gq 3), .int .u64 (jf jd gg 0), .int .u64 (jf jd gg 1), .int .u64 (jf jd gg 2), .int .u64 (jf jd gg 3), .int .u64 (jf jd gh 0), .int .u64 (jf jd gh 1), .int .u64 (jf jd gh 2), .int .u64 (jf jd gh 3), .int .u64 (jf jd lg 0), .int .u64 (jf jd lg 1), .int .u64 (jf jd lg 2), .int .u64 (jf jd lg 3), x, y, z] t)) w.heap.size gp gq gg gh :=
 Zk fun j v hj => by
  rw [cell_of_row _ _ _ _ _ _ (heap_alloc_new _ _)]; have hl := (List.getElem?_eq_some_iff.1 hj).1; simp only [List.length_cons, List.length_nil] at hl
  rcases (show j = 0 ∨ j = 1 ∨ j = 2 ∨ j = 3 ∨ j = 4 ∨ j = 5 ∨ j = 6 ∨ j = 7 ∨ j = 8 ∨ j = 9 ∨ j = 10 ∨ j = 11 ∨ j = 12 ∨ j = 13 ∨ j = 14 ∨ j = 15 by omega) with rfl | rfl | rfl | rfl | rfl | rfl | rfl | rfl | rfl | rfl | rfl | rfl | rfl | rfl | rfl | rfl <;> exact hj
theorem JE {n : Nat} (hn : n < jd) {b : Bool} (hb : b = true ↔ ZK n ∧ n < 4294967296) (w : World) : Calls Tryz.prog 41 #[.int .u64 n] w fun e w' => e = .returned (.bool b) ∧ Below w.heap.size w w' :=
 (Small_any hn w).mono fun _ _ ⟨b', h1, h2, h3⟩ => ⟨by rw [h1, show b' = b from Bool.eq_iff_iff.2 (h2.trans hb.symm)], by rw [h3]; exact Below.refl _ _⟩
def primeOut (gp gq : Nat) (w : World) (e : Ending) (w' : World) : Prop := ∃ b, e = .returned (.bool b) ∧ (b = true → isPrime gp gq) ∧ Below w.heap.size w w'
theorem zu {gp gq : Nat} {w w' : World} (h : Below w.heap.size w w') : primeOut gp gq w (.returned (.bool false)) w' := ⟨false, rfl, (fun h => by cases h), h⟩
theorem primeOut_yes {gp gq : Nat} {w w' : World} (hp : isPrime gp gq) (h : Below w.heap.size w w') : primeOut gp gq w (.returned (.bool true)) w' := ⟨true, rfl, fun _ => hp, h⟩
theorem prime_out {gp gq gg gh lg : Nat} {fa se : Int} {ks : Value} (hm : gp < jk) (hq : gq < jk) (w : World) :
  Calls Tryz.prog 23 #[zG gp gq gg gh lg fa se ks] w (primeOut gp gq w) := by
 obtain ⟨p0, hp0⟩ : ∃ x, jf jd gp 0 = x := ⟨_, rfl⟩; obtain ⟨q0, hq0⟩ : ∃ x, jf jd gq 0 = x := ⟨_, rfl⟩; have HP0 := jh hp0; have HQ0 := jh hq0; have HM := jh hm; have HQ := jh hq; clear hp0 hq0 hm hq; unfold zG
 go_enter Tryz.func23, Tryz.ntmps23
 go_upto_region 1 with fail
 obtain ⟨v_0, e0⟩ := je (w.alloc (.cells #[.int .u64 (jf jd gp 0), .int .u64 (jf jd gp 1), .int .u64 (jf jd gp 2), .int .u64 (jf jd gp 3), .int .u64 (jf jd gq 0), .int .u64 (jf jd gq 1), .int .u64 (jf jd gq 2), .int .u64 (jf jd gq 3), .int .u64 (jf jd gg 0), .int .u64 (jf jd gg 1), .int .u64 (jf jd gg 2), .int .u64 (jf jd gg 3), .int .u64 (jf jd gh 0), .int .u64 (jf jd gh 1), .int .u64 (jf jd gh 2), .int .u64 (jf jd gh 3), .int .u64 (jf jd lg 0), .int .u64 (jf jd lg 1), .int .u64 (jf jd lg 2), .int .u64 (jf jd lg 3), .int .i64 fa, .int .i64 se, ks] 29)); obtain ⟨CB, hCB⟩ := je (w.heap.size); have hb := jc e0; have HG := jh (show GrpAt v_0 CB gp gq gg gh by rw [e0, hCB]; exact Zb); have HB := jh hb; rw [← e0, ← hCB]; clear e0 hCB hb; have y0 := HG.out.1 0 (by decide); have y1 := HG.out.1 1 (by decide); have y2 := HG.out.1 2 (by decide); have y3 := HG.out.1 3 (by decide); simp only [Nat.reduceAdd] at y0 y1 y2 y3
 go_upto_region 2 with fail
 clear y0 y1 y2 y3; obtain ⟨v_2, e9⟩ := je (v_0.alloc (.cells #[.int .u64 (jf jd gp 0), .int .u64 (jf jd gp 1), .int .u64 (jf jd gp 2), .int .u64 (jf jd gp 3)] 24)); obtain ⟨PB, h9⟩ := je (v_0.heap.size); have hb := jc e9; have HPB := jh (show NumAt v_2 PB gp by rw [e9, h9]; exact NumAt.new _ _ _ _ rfl); have HG := jh (HG.out.later hb); have HB := jw HB hb; rw [← e9, ← h9]; clear e9 h9 hb; have y0 := HG.out.2.1 0 (by decide); have y1 := HG.out.2.1 1 (by decide); have y2 := HG.out.2.1 2 (by decide); have y3 := HG.out.2.1 3 (by decide); simp only [Nat.reduceAdd] at y0 y1 y2 y3
 go_upto_region 3 with fail
 clear y0 y1 y2 y3; obtain ⟨v_3, e9⟩ := je (v_2.alloc (.cells #[.int .u64 (jf jd gq 0), .int .u64 (jf jd gq 1), .int .u64 (jf jd gq 2), .int .u64 (jf jd gq 3)] 24)); obtain ⟨QB, h9⟩ := je (v_2.heap.size); have hb := jc e9; have HQB := jh (show NumAt v_3 QB gq by rw [e9, h9]; exact NumAt.new _ _ _ _ rfl); have HPB := jn hb HPB; have HG := jh (HG.out.later hb); have HB := jw HB hb; rw [← e9, ← h9]; clear e9 h9 hb; have hRd : QB < v_3.heap.size := HQB.out.lt; have B := HB
 by_cases h0 : p0 < 4294967296
 rotate_left
 ·have lp0 : p0 < jd := by rw [← HP0.out]; exact qk _ _
  have lq0 : q0 < jd := by rw [← HQ0.out]; exact qk _ _
  have i0 : ¬ (p0 : Int) < 4294967296 := by omega
  clear h0 lp0 lq0; refine jx 41 (fun _ => none) (by kernel_rfl) (by kernel_rfl) (fun _ _ _ _ _ h => h) (fun F hn9 hcl hbl => ?_); have r_PB_0 := jr hbl HPB 0 (by omega); have r_PB_1 := jr hbl HPB 1 (by omega); have r_PB_2 := jr hbl HPB 2 (by omega); have r_PB_3 := jr hbl HPB 3 (by omega); have r_QB_0 := jr hbl HQB 0 (by omega); have r_QB_1 := jr hbl HQB 1 (by omega); have r_QB_2 := jr hbl HQB 2 (by omega); have r_QB_3 := jr hbl HQB 3 (by omega); simp only [HP0.out] at r_PB_0; simp only [HQ0.out] at r_QB_0; have HCL := jh hcl; clear hcl hbl; refine qj 41 0 _ _ (fun _ _ _ => rfl) (by decide) ?_; simp only [List.take_succ_cons, List.take_zero, List.drop_succ_cons, List.drop_zero, Nat.reduceAdd]
  repeat (go_big_quiet_step ((first | (go_at_call 40; with_reducible exact jv HCL.out (HB.out _)))))
  refine wpQuiet_nil ?_; refine qn ?_; intro bs w2 hb _ _; clear r_PB_0 r_PB_1 r_PB_2 r_PB_3 r_QB_0 r_QB_1 r_QB_2 r_QB_3; have HPB := jn hb HPB; have HQB := jn hb HQB; have hRd := Nat.lt_of_lt_of_le hRd hb.size; have B := jw B hb; clear hb; simp only [zq]
  go_wp2_with fail
  refine bodyPost_ret (v := .bool false) ?_ rfl (zu B.out)
  simp [results, Tryz.results23, go_sem]
 by_cases h1 : 1 < q0
 rotate_left
 ·have lp0 : p0 < jd := by rw [← HP0.out]; exact qk _ _
  have lq0 : q0 < jd := by rw [← HQ0.out]; exact qk _ _
  have i0 : (p0 : Int) < 4294967296 := by omega
  have i1 : ¬ (1 : Int) < (q0 : Int) := by omega
  clear h0 h1 lp0 lq0; refine jx 41 (fun _ => none) (by kernel_rfl) (by kernel_rfl) (fun _ _ _ _ _ h => h) (fun F hn9 hcl hbl => ?_); have r_PB_0 := jr hbl HPB 0 (by omega); have r_PB_1 := jr hbl HPB 1 (by omega); have r_PB_2 := jr hbl HPB 2 (by omega); have r_PB_3 := jr hbl HPB 3 (by omega); have r_QB_0 := jr hbl HQB 0 (by omega); have r_QB_1 := jr hbl HQB 1 (by omega); have r_QB_2 := jr hbl HQB 2 (by omega); have r_QB_3 := jr hbl HQB 3 (by omega); simp only [HP0.out] at r_PB_0; simp only [HQ0.out] at r_QB_0; have HCL := jh hcl; clear hcl hbl; refine qj 41 0 _ _ (fun _ _ _ => rfl) (by decide) ?_; simp only [List.take_succ_cons, List.take_zero, List.drop_succ_cons, List.drop_zero, Nat.reduceAdd]
  repeat (go_big_quiet_step ((first | (go_at_call 40; with_reducible exact jv HCL.out (HB.out _)))))
  refine wpQuiet_nil ?_; refine qn ?_; intro bs w2 hb _ _; clear r_PB_0 r_PB_1 r_PB_2 r_PB_3 r_QB_0 r_QB_1 r_QB_2 r_QB_3; have HPB := jn hb HPB; have HQB := jn hb HQB; have hRd := Nat.lt_of_lt_of_le hRd hb.size; have B := jw B hb; clear hb; simp only [zq]
  go_wp2_with fail
  refine bodyPost_ret (v := .bool false) ?_ rfl (zu B.out)
  simp [results, Tryz.results23, go_sem]
 by_cases h2 : gp = p0
 rotate_left
 ·have lp0 : p0 < jd := by rw [← HP0.out]; exact qk _ _
  have lq0 : q0 < jd := by rw [← HQ0.out]; exact qk _ _
  have i0 : (p0 : Int) < 4294967296 := by omega
  have i1 : (1 : Int) < (q0 : Int) := by omega
  have heq2 := qx gp p0 HM.out (Nat.lt_trans lp0 (by decide)); rw [decide_eq_false h2, HP0.out] at heq2; have CO2 := jh (fun w => by have h := Ja p0 lp0 w; unfold jo words at h; exact h); clear h0 h1 h2 lp0 lq0; refine jx 41 (fun _ => none) (by kernel_rfl) (by kernel_rfl) (fun _ _ _ _ _ h => h) (fun F hn9 hcl hbl => ?_); have r_PB_0 := jr hbl HPB 0 (by omega); have r_PB_1 := jr hbl HPB 1 (by omega); have r_PB_2 := jr hbl HPB 2 (by omega); have r_PB_3 := jr hbl HPB 3 (by omega); have r_QB_0 := jr hbl HQB 0 (by omega); have r_QB_1 := jr hbl HQB 1 (by omega); have r_QB_2 := jr hbl HQB 2 (by omega); have r_QB_3 := jr hbl HQB 3 (by omega); simp only [HP0.out] at r_PB_0; simp only [HQ0.out] at r_QB_0; have HCL := jh hcl; clear hcl hbl; refine qj 41 0 _ _ (fun _ _ _ => rfl) (by decide) ?_; simp only [List.take_succ_cons, List.take_zero, List.drop_succ_cons, List.drop_zero, Nat.reduceAdd]
  repeat (go_big_quiet_step ((first | (go_at_call 40; with_reducible exact jv HCL.out (CO2.out _)))))
  refine wpQuiet_nil ?_; refine qn ?_; intro bs w2 hb _ _; clear r_PB_0 r_PB_1 r_PB_2 r_PB_3 r_QB_0 r_QB_1 r_QB_2 r_QB_3; have HPB := jn hb HPB; have HQB := jn hb HQB; have hRd := Nat.lt_of_lt_of_le hRd hb.size; have B := jw B hb; clear hb; simp only [zq]
  go_wp2_with fail
  refine bodyPost_ret (v := .bool false) ?_ rfl (zu B.out)
  simp [results, Tryz.results23, go_sem]
 by_cases h3 : gq = q0
 rotate_left
 ·have lp0 : p0 < jd := by rw [← HP0.out]; exact qk _ _
  have lq0 : q0 < jd := by rw [← HQ0.out]; exact qk _ _
  have i0 : (p0 : Int) < 4294967296 := by omega
  have i1 : (1 : Int) < (q0 : Int) := by omega
  have heq2 := qx gp p0 HM.out (Nat.lt_trans lp0 (by decide)); rw [decide_eq_true h2, HP0.out] at heq2; have CO2 := jh (fun w => by have h := Ja p0 lp0 w; unfold jo words at h; exact h); have heq3 := qx gq q0 HQ.out (Nat.lt_trans lq0 (by decide)); rw [decide_eq_false h3, HQ0.out] at heq3; have CO3 := jh (fun w => by have h := Ja q0 lq0 w; unfold jo words at h; exact h); clear h0 h1 h2 h3 lp0 lq0; refine jx 41 (fun _ => none) (by kernel_rfl) (by kernel_rfl) (fun _ _ _ _ _ h => h) (fun F hn9 hcl hbl => ?_); have r_PB_0 := jr hbl HPB 0 (by omega); have r_PB_1 := jr hbl HPB 1 (by omega); have r_PB_2 := jr hbl HPB 2 (by omega); have r_PB_3 := jr hbl HPB 3 (by omega); have r_QB_0 := jr hbl HQB 0 (by omega); have r_QB_1 := jr hbl HQB 1 (by omega); have r_QB_2 := jr hbl HQB 2 (by omega); have r_QB_3 := jr hbl HQB 3 (by omega); simp only [HP0.out] at r_PB_0; simp only [HQ0.out] at r_QB_0; have HCL := jh hcl; clear hcl hbl; refine qj 41 0 _ _ (fun _ _ _ => rfl) (by decide) ?_; simp only [List.take_succ_cons, List.take_zero, List.drop_succ_cons, List.drop_zero, Nat.reduceAdd]
  repeat (go_big_quiet_step ((first | (go_at_call 40; with_reducible exact jv HCL.out (CO2.out _)) | (go_at_call 40; with_reducible exact jv HCL.out (CO3.out _)))))
  refine wpQuiet_nil ?_; refine qn ?_; intro bs w2 hb _ _; clear r_PB_0 r_PB_1 r_PB_2 r_PB_3 r_QB_0 r_QB_1 r_QB_2 r_QB_3; have HPB := jn hb HPB; have HQB := jn hb HQB; have hRd := Nat.lt_of_lt_of_le hRd hb.size; have B := jw B hb; clear hb; simp only [zq]
  go_wp2_with fail
  refine bodyPost_ret (v := .bool false) ?_ rfl (zu B.out)
  simp [results, Tryz.results23, go_sem]
 by_cases h4 : (ZK p0 ∧ p0 < 4294967296)
 rotate_left
 ·have lp0 : p0 < jd := by rw [← HP0.out]; exact qk _ _
  have lq0 : q0 < jd := by rw [← HQ0.out]; exact qk _ _
  have i0 : (p0 : Int) < 4294967296 := by omega
  have i1 : (1 : Int) < (q0 : Int) := by omega
  have heq2 := qx gp p0 HM.out (Nat.lt_trans lp0 (by decide)); rw [decide_eq_true h2, HP0.out] at heq2; have CO2 := jh (fun w => by have h := Ja p0 lp0 w; unfold jo words at h; exact h); have heq3 := qx gq q0 HQ.out (Nat.lt_trans lq0 (by decide)); rw [decide_eq_true h3, HQ0.out] at heq3; have CO3 := jh (fun w => by have h := Ja q0 lq0 w; unfold jo words at h; exact h); have CP := jh (fun W => JE (b := false) lp0 (by simp [h4]) W); clear h0 h1 h2 h3 h4 lp0 lq0; refine jx 41 (fun _ => none) (by kernel_rfl) (by kernel_rfl) (fun _ _ _ _ _ h => h) (fun F hn9 hcl hbl => ?_); have r_PB_0 := jr hbl HPB 0 (by omega); have r_PB_1 := jr hbl HPB 1 (by omega); have r_PB_2 := jr hbl HPB 2 (by omega); have r_PB_3 := jr hbl HPB 3 (by omega); have r_QB_0 := jr hbl HQB 0 (by omega); have r_QB_1 := jr hbl HQB 1 (by omega); have r_QB_2 := jr hbl HQB 2 (by omega); have r_QB_3 := jr hbl HQB 3 (by omega); simp only [HP0.out] at r_PB_0; simp only [HQ0.out] at r_QB_0; have HCL := jh hcl; clear hcl hbl; refine qj 41 0 _ _ (fun _ _ _ => rfl) (by decide) ?_; simp only [List.take_succ_cons, List.take_zero, List.drop_succ_cons, List.drop_zero, Nat.reduceAdd]
  repeat (go_big_quiet_step ((first | (go_at_call 40; with_reducible exact jv HCL.out (CO2.out _)) | (go_at_call 40; with_reducible exact jv HCL.out (CO3.out _)) | (go_at_call 41; with_reducible exact jv HCL.out (CP.out _)))))
  refine wpQuiet_nil ?_; refine qn ?_; intro bs w2 hb _ _; clear r_PB_0 r_PB_1 r_PB_2 r_PB_3 r_QB_0 r_QB_1 r_QB_2 r_QB_3; have HPB := jn hb HPB; have HQB := jn hb HQB; have hRd := Nat.lt_of_lt_of_le hRd hb.size; have B := jw B hb; clear hb; simp only [zq]
  go_wp2_with fail
  refine bodyPost_ret (v := .bool false) ?_ rfl (zu B.out)
  simp [results, Tryz.results23, go_sem]
 by_cases h5 : (ZK q0 ∧ q0 < 4294967296)
 rotate_left
 ·have lp0 : p0 < jd := by rw [← HP0.out]; exact qk _ _
  have lq0 : q0 < jd := by rw [← HQ0.out]; exact qk _ _
  have i0 : (p0 : Int) < 4294967296 := by omega
  have i1 : (1 : Int) < (q0 : Int) := by omega
  have heq2 := qx gp p0 HM.out (Nat.lt_trans lp0 (by decide)); rw [decide_eq_true h2, HP0.out] at heq2; have CO2 := jh (fun w => by have h := Ja p0 lp0 w; unfold jo words at h; exact h); have heq3 := qx gq q0 HQ.out (Nat.lt_trans lq0 (by decide)); rw [decide_eq_true h3, HQ0.out] at heq3; have CO3 := jh (fun w => by have h := Ja q0 lq0 w; unfold jo words at h; exact h); have CP := jh (fun W => JE (b := true) lp0 (by simp [h4]) W); have CQ := jh (fun W => JE (b := false) lq0 (by simp [h5]) W); clear h0 h1 h2 h3 h4 h5 lp0 lq0; refine jx 41 (fun _ => none) (by kernel_rfl) (by kernel_rfl) (fun _ _ _ _ _ h => h) (fun F hn9 hcl hbl => ?_); have r_PB_0 := jr hbl HPB 0 (by omega); have r_PB_1 := jr hbl HPB 1 (by omega); have r_PB_2 := jr hbl HPB 2 (by omega); have r_PB_3 := jr hbl HPB 3 (by omega); have r_QB_0 := jr hbl HQB 0 (by omega); have r_QB_1 := jr hbl HQB 1 (by omega); have r_QB_2 := jr hbl HQB 2 (by omega); have r_QB_3 := jr hbl HQB 3 (by omega); simp only [HP0.out] at r_PB_0; simp only [HQ0.out] at r_QB_0; have HCL := jh hcl; clear hcl hbl; refine qj 41 0 _ _ (fun _ _ _ => rfl) (by decide) ?_; simp only [List.take_succ_cons, List.take_zero, List.drop_succ_cons, List.drop_zero, Nat.reduceAdd]
  repeat (go_big_quiet_step ((first | (go_at_call 40; with_reducible exact jv HCL.out (CO2.out _)) | (go_at_call 40; with_reducible exact jv HCL.out (CO3.out _)) | (go_at_call 41; with_reducible exact jv HCL.out (CP.out _)) | (go_at_call 41; with_reducible exact jv HCL.out (CQ.out _)))))
  refine wpQuiet_nil ?_; refine qn ?_; intro bs w2 hb _ _; clear r_PB_0 r_PB_1 r_PB_2 r_PB_3 r_QB_0 r_QB_1 r_QB_2 r_QB_3; have HPB := jn hb HPB; have HQB := jn hb HQB; have hRd := Nat.lt_of_lt_of_le hRd hb.size; have B := jw B hb; clear hb; simp only [zq]
  go_wp2_with fail
  refine bodyPost_ret (v := .bool false) ?_ rfl (zu B.out)
  simp [results, Tryz.results23, go_sem]
 by_cases h6 : (p0 - 1) % q0 = 0
 rotate_left
 ·have lp0 : p0 < jd := by rw [← HP0.out]; exact qk _ _
  have lq0 : q0 < jd := by rw [← HQ0.out]; exact qk _ _
  have i0 : (p0 : Int) < 4294967296 := by omega
  have i1 : (1 : Int) < (q0 : Int) := by omega
  have heq2 := qx gp p0 HM.out (Nat.lt_trans lp0 (by decide)); rw [decide_eq_true h2, HP0.out] at heq2; have CO2 := jh (fun w => by have h := Ja p0 lp0 w; unfold jo words at h; exact h); have heq3 := qx gq q0 HQ.out (Nat.lt_trans lq0 (by decide)); rw [decide_eq_true h3, HQ0.out] at heq3; have CO3 := jh (fun w => by have h := Ja q0 lq0 w; unfold jo words at h; exact h); have CP := jh (fun W => JE (b := true) lp0 (by simp [h4]) W); have CQ := jh (fun W => JE (b := true) lq0 (by simp [h5]) W); have hp2 : 2 ≤ p0 := h4.1.1; obtain ⟨m, hm9⟩ := je (p0 - 1); have hmI : (p0 : Int) - 1 = (m : Int) := by omega
  have hmb : m < 18446744073709551616 := by unfold jd at lp0; omega
  have hmw : IntKind.u64.wrap (m : Int) = (m : Int) := by simp [IntKind.wrap, IntKind.bits, IntKind.signed]; omega
  obtain ⟨r, hr⟩ := je (m % q0); have hrI : (m : Int) % (q0 : Int) = (r : Int) := by rw [hr]; simp
  have hq00 : ¬ (q0 : Int) = 0 := by omega
  have hz : ¬ (r : Int) = 0 := by rw [hm9] at hr; omega
  clear hr hm9 hp2; have hbeq : ((r : Int) == 0) = false := by simp; omega
  clear h0 h1 h2 h3 h4 h5 h6 lp0 lq0; refine jx 41 (fun _ => none) (by kernel_rfl) (by kernel_rfl) (fun _ _ _ _ _ h => h) (fun F hn9 hcl hbl => ?_); have r_PB_0 := jr hbl HPB 0 (by omega); have r_PB_1 := jr hbl HPB 1 (by omega); have r_PB_2 := jr hbl HPB 2 (by omega); have r_PB_3 := jr hbl HPB 3 (by omega); have r_QB_0 := jr hbl HQB 0 (by omega); have r_QB_1 := jr hbl HQB 1 (by omega); have r_QB_2 := jr hbl HQB 2 (by omega); have r_QB_3 := jr hbl HQB 3 (by omega); simp only [HP0.out] at r_PB_0; simp only [HQ0.out] at r_QB_0; have HCL := jh hcl; clear hcl hbl; refine qj 41 0 _ _ (fun _ _ _ => rfl) (by decide) ?_; simp only [List.take_succ_cons, List.take_zero, List.drop_succ_cons, List.drop_zero, Nat.reduceAdd]
  repeat (go_big_quiet_step ((first | (go_at_call 40; with_reducible exact jv HCL.out (CO2.out _)) | (go_at_call 40; with_reducible exact jv HCL.out (CO3.out _)) | (go_at_call 41; with_reducible exact jv HCL.out (CP.out _)) | (go_at_call 41; with_reducible exact jv HCL.out (CQ.out _)))))
  refine wpQuiet_nil ?_; refine qn ?_; intro bs w2 hb _ _; clear r_PB_0 r_PB_1 r_PB_2 r_PB_3 r_QB_0 r_QB_1 r_QB_2 r_QB_3; have HPB := jn hb HPB; have HQB := jn hb HQB; have hRd := Nat.lt_of_lt_of_le hRd hb.size; have B := jw B hb; clear hb; simp only [zq]
  go_wp2_with fail
  refine bodyPost_ret (v := .bool false) ?_ rfl (zu B.out)
  simp [results, Tryz.results23, go_sem]
 have lp0 : p0 < jd := by rw [← HP0.out]; exact qk _ _
 have lq0 : q0 < jd := by rw [← HQ0.out]; exact qk _ _
 have HIS := jh (show isPrime gp gq from ⟨by rw [h2]; exact h0, by rw [h3]; exact h1, by rw [h3]; exact lq0, by rw [h2]; exact h4, by rw [h3]; exact h5, by rw [h2, h3]; exact h6⟩); have i0 : (p0 : Int) < 4294967296 := by omega
 have i1 : (1 : Int) < (q0 : Int) := by omega
 have heq2 := qx gp p0 HM.out (Nat.lt_trans lp0 (by decide)); rw [decide_eq_true h2, HP0.out] at heq2; have CO2 := jh (fun w => by have h := Ja p0 lp0 w; unfold jo words at h; exact h); have heq3 := qx gq q0 HQ.out (Nat.lt_trans lq0 (by decide)); rw [decide_eq_true h3, HQ0.out] at heq3; have CO3 := jh (fun w => by have h := Ja q0 lq0 w; unfold jo words at h; exact h); have CP := jh (fun W => JE (b := true) lp0 (by simp [h4]) W); have CQ := jh (fun W => JE (b := true) lq0 (by simp [h5]) W); have hp2 : 2 ≤ p0 := h4.1.1; obtain ⟨m, hm9⟩ := je (p0 - 1); have hmI : (p0 : Int) - 1 = (m : Int) := by omega
 have hmb : m < 18446744073709551616 := by unfold jd at lp0; omega
 have hmw : IntKind.u64.wrap (m : Int) = (m : Int) := by simp [IntKind.wrap, IntKind.bits, IntKind.signed]; omega
 obtain ⟨r, hr⟩ := je (m % q0); have hrI : (m : Int) % (q0 : Int) = (r : Int) := by rw [hr]; simp
 have hq00 : ¬ (q0 : Int) = 0 := by omega
 have hz : (r : Int) = 0 := by rw [hm9] at hr; omega
 clear hr hm9 hp2; have hbeq : ((r : Int) == 0) = true := by simp; omega
 clear h0 h1 h2 h3 h4 h5 h6 lp0 lq0; refine jx 41 (fun _ => none) (by kernel_rfl) (by kernel_rfl) (fun _ _ _ _ _ h => h) (fun F hn9 hcl hbl => ?_); have r_PB_0 := jr hbl HPB 0 (by omega); have r_PB_1 := jr hbl HPB 1 (by omega); have r_PB_2 := jr hbl HPB 2 (by omega); have r_PB_3 := jr hbl HPB 3 (by omega); have r_QB_0 := jr hbl HQB 0 (by omega); have r_QB_1 := jr hbl HQB 1 (by omega); have r_QB_2 := jr hbl HQB 2 (by omega); have r_QB_3 := jr hbl HQB 3 (by omega); simp only [HP0.out] at r_PB_0; simp only [HQ0.out] at r_QB_0; have HCL := jh hcl; clear hcl hbl; refine qj 41 0 _ _ (fun _ _ _ => rfl) (by decide) ?_; simp only [List.take_succ_cons, List.take_zero, List.drop_succ_cons, List.drop_zero, Nat.reduceAdd]
 repeat (go_big_quiet_step ((first | (go_at_call 40; with_reducible exact jv HCL.out (CO2.out _)) | (go_at_call 40; with_reducible exact jv HCL.out (CO3.out _)) | (go_at_call 41; with_reducible exact jv HCL.out (CP.out _)) | (go_at_call 41; with_reducible exact jv HCL.out (CQ.out _)))))
 refine wpQuiet_nil ?_; refine qn ?_; intro bs w2 hb _ _; clear r_PB_0 r_PB_1 r_PB_2 r_PB_3 r_QB_0 r_QB_1 r_QB_2 r_QB_3; have HPB := jn hb HPB; have HQB := jn hb HQB; have hRd := Nat.lt_of_lt_of_le hRd hb.size; have B := jw B hb; clear hb; simp only [zq]
 go_wp2_with fail
 refine bodyPost_ret (v := .bool true) ?_ rfl (primeOut_yes HIS.out B.out)
 simp [results, Tryz.results23, go_sem]
theorem Prime_any {gp gq gg gh lg : Nat} {fa se : Int} {ks : Value} (hm : gp < jk) (hq : gq < jk) (w : World) :
  Calls Tryz.prog 23 #[zG gp gq gg gh lg fa se ks] w fun e w' => ∃ b, e = .returned (.bool b) ∧ (b = true → isPrime gp gq) ∧ Below w.heap.size w w' := prime_out hm hq w
structure SetOk (w : World) (gp gq gg lg n : Nat) (fa se : Int) (sk : List (Nat × Nat)) (a : Option Addr) : Prop where
 may : Jh gp gg
 prime : isPrime gp gq
 log : lg ≠ 0
 le : n ≤ 7
 keys : ∀ k ∈ sk, k.1 ≠ 0 ∧ k.2 ≠ 0 ∧ k.1 < gq ∧ k.2 < gq
 nodes : 0 < n → ∃ b o, a = some ⟨b, o, none⟩ ∧ KeysAt w b o (sk.map fun k => (gg ^ k.1 % gp, (gg ^ lg % gp) ^ k.2 % gp))
 ok : jL gp gq gg (gg ^ lg % gp) fa se n (sk.map fun k => (gg ^ k.1 % gp, (gg ^ lg % gp) ^ k.2 % gp)) = true
def zero19 : Array Value := #[.int .u64 0, .int .u64 0, .int .u64 0, .int .u64 0, .int .u64 0, .int .u64 0, .int .u64 0, .int .u64 0, .int .u64 0, .int .u64 0, .int .u64 0, .int .u64 0, .int .u64 0, .int .u64 0, .int .u64 0, .int .u64 0, .int .i64 0, .int .i64 0, .slice none 0 0]
theorem qu : (Tryz.prog.info? 33).map (·.size) = some 19 := by kernel_rfl
theorem jT {P : Program} {fn : Func} {p t : Tmp} {ty : TypeId} (h : fn.results = #[.cell p ty, .tmp t]) (tmps : Array Value) (w : World) (g : Nat) (tt : TypeId) (cs : Array Value) (fr : Nat × Nat) (d : TypeDesc)
  (hp : tmps.getD p undef = .pointer (some ⟨g, 0, none⟩)) (hg : w.heap[g]? = some (.cells cs tt fr)) (hu : P.underlying ty = some d) (hd : (match d with | .struct _ | .array _ _ => true | _ => false) = true) (hi : (P.info? ty).map (·.size) = some cs.size) (v : Value) (hv : tmps.getD t undef = v) :
  (results fn tmps).run P w = .ok (.tuple #[.agg cs, v]) w := by
 have hp' : tmps[p]?.getD undef = .pointer (some ⟨g, 0, none⟩) := by simpa using hp
 have hv' : tmps[t]?.getD undef = v := by simpa using hv
 simp [results, h, hp', hv', asAddr, run_loadVar_row w g tt ty cs fr d hg hu hd hi]
theorem Qn {w w' : World} {b o x c : Nat} (h : NumO w b o x) (hg : w.grownBy w' (some c)) (hn : b ≠ c) : NumO w' b o x := fun j hj => hg.cell (h j hj) (fun e => hn (by injection e))
theorem grp_setH {w : World} {b gp gq gg gh : Nat} (h : GrpAt w b gp gq gg gh) (x : Nat) : GrpAt ((((w.setCell ⟨b, 12, none⟩ (.int .u64 (jf jd x 0))).setCell ⟨b, 13, none⟩ (.int .u64 (jf jd x 1))).setCell ⟨b, 14, none⟩ (.int .u64 (jf jd x 2))).setCell ⟨b, 15, none⟩ (.int .u64 (jf jd x 3))) b gp gq gg x := by
 have oth : ∀ {o y : Nat}, o + 4 ≤ 12 → NumO w b o y → NumO ((((w.setCell ⟨b, 12, none⟩ (.int .u64 (jf jd x 0))).setCell ⟨b, 13, none⟩ (.int .u64 (jf jd x 1))).setCell ⟨b, 14, none⟩ (.int .u64 (jf jd x 2))).setCell ⟨b, 15, none⟩ (.int .u64 (jf jd x 3))) b o y := fun {o y} ho hy j hj => by
  rw [World.cell?_setCell_other _ _ _ _ (by intro h; injection h; omega), World.cell?_setCell_other _ _ _ _ (by intro h; injection h; omega), World.cell?_setCell_other _ _ _ _ (by intro h; injection h; omega), World.cell?_setCell_other _ _ _ _ (by intro h; injection h; omega)]; exact hy j hj
 obtain ⟨h0, h1, h2, h3⟩ := h; refine ⟨oth (by decide) h0, oth (by decide) h1, oth (by decide) h2, fun j hj => ?_⟩
 rcases (show j = 0 ∨ j = 1 ∨ j = 2 ∨ j = 3 by omega) with rfl | rfl | rfl | rfl
 ·rw [World.cell?_setCell_other _ _ _ _ (by intro h; injection h; omega), World.cell?_setCell_other _ _ _ _ (by intro h; injection h; omega), World.cell?_setCell_other _ _ _ _ (by intro h; injection h; omega)]; refine World.cell?_setCell_same _ _ _ (u := .int .u64 (jf jd gh 0)) ?_; exact h3 0 (by decide)
 ·rw [World.cell?_setCell_other _ _ _ _ (by intro h; injection h; omega), World.cell?_setCell_other _ _ _ _ (by intro h; injection h; omega)]; refine World.cell?_setCell_same _ _ _ (u := .int .u64 (jf jd gh 1)) ?_; rw [World.cell?_setCell_other _ _ _ _ (by intro h; injection h; omega)]; exact h3 1 (by decide)
 ·rw [World.cell?_setCell_other _ _ _ _ (by intro h; injection h; omega)]; refine World.cell?_setCell_same _ _ _ (u := .int .u64 (jf jd gh 2)) ?_; rw [World.cell?_setCell_other _ _ _ _ (by intro h; injection h; omega), World.cell?_setCell_other _ _ _ _ (by intro h; injection h; omega)]; exact h3 2 (by decide)
 ·refine World.cell?_setCell_same _ _ _ (u := .int .u64 (jf jd gh 3)) ?_; rw [World.cell?_setCell_other _ _ _ _ (by intro h; injection h; omega), World.cell?_setCell_other _ _ _ _ (by intro h; injection h; omega), World.cell?_setCell_other _ _ _ _ (by intro h; injection h; omega)]; exact h3 3 (by decide)
theorem qV : zero19.all (·.oneCell') = true := by unfold zero19; simp [Value.oneCell']
theorem zY : Value.agg zero19 = qg 0 0 0 0 0 0 (.slice none 0 0) := by
 unfold qg zero19; simp only [jP]
 rfl
theorem lawset_nomay {gp gq gg gh lg n cap : Nat} {fa se : Int} {ao : Option Addr} {sk : List (Nat × Nat)} (hm : ¬ Jh gp gg) (hgp : gp < jk) (hgq : gq < jk) (hgg : gg < jk) (hlg : lg < jk) (hfa : -9223372036854775808 ≤ fa ∧ fa ≤ 9223372036854775807) (hse : -9223372036854775808 ≤ se ∧ se ≤ 9223372036854775807) (hsk : ∀ k ∈ sk, k.1 < jk ∧ k.2 < jk) (hn : n = sk.length) (hcap : n ≤ cap) (hcm : cap ≤ maxLen) (w : World) (hk : 0 < n → ∃ b o, ao = some ⟨b, o, none⟩ ∧ KeysAt w b o sk) :
  Calls Tryz.prog 7 #[zG gp gq gg gh lg fa se (.slice ao n cap)] w fun e w' => ∃ (p q g h : Nat) (f s : Int) (a : Option Addr) (n9 c9 : Nat) (ok : Bool), e = .returned (.tuple #[qg p q g h f s (.slice a n9 c9), .bool ok]) ∧ (ok = true → p = gp ∧ q = gq ∧ g = gg ∧ h = gg ^ lg % gp ∧ f = fa ∧ s = se ∧ n9 = n ∧ SetOk w' gp gq gg lg n fa se sk a) ∧ Below w.heap.size w w' := by
 obtain ⟨h, hh⟩ := je (0); have hh2 : jo 0 = jo h := by rw [hh]
 have CE := jh (fun W => by have h9 := gexp_no (gq := gq) (gg := gg) (gh := gh) hm hgg hlg hgp W; rw [hh2] at h9; unfold jo words at h9; exact h9); have hmm := hcm; unfold maxLen at hmm; clear hh hh2 hm hgp hgq hgg hlg hfa hse hsk hn hk; unfold zG
 go_enter Tryz.func7, Tryz.ntmps7
 go_upto_region 1 with fail
 obtain ⟨v_0, e0⟩ := je (w.alloc (.cells #[.int .u64 (jf jd gp 0), .int .u64 (jf jd gp 1), .int .u64 (jf jd gp 2), .int .u64 (jf jd gp 3), .int .u64 (jf jd gq 0), .int .u64 (jf jd gq 1), .int .u64 (jf jd gq 2), .int .u64 (jf jd gq 3), .int .u64 (jf jd gg 0), .int .u64 (jf jd gg 1), .int .u64 (jf jd gg 2), .int .u64 (jf jd gg 3), .int .u64 (jf jd gh 0), .int .u64 (jf jd gh 1), .int .u64 (jf jd gh 2), .int .u64 (jf jd gh 3), .int .u64 (jf jd lg 0), .int .u64 (jf jd lg 1), .int .u64 (jf jd lg 2), .int .u64 (jf jd lg 3), .int .i64 fa, .int .i64 se, .slice ao n cap] 29)); obtain ⟨v_1, e1⟩ := je (v_0.alloc (.cells #[.int .u64 0, .int .u64 0, .int .u64 0, .int .u64 0, .int .u64 0, .int .u64 0, .int .u64 0, .int .u64 0, .int .u64 0, .int .u64 0, .int .u64 0, .int .u64 0, .int .u64 0, .int .u64 0, .int .u64 0, .int .u64 0, .int .i64 0, .int .i64 0, .slice none 0 0] 33)); have s0 : v_0.heap.size = w.heap.size + 1 := by rw [e0]; simp
 have s1 : v_1.heap.size = w.heap.size + 1 + 1 := by rw [e1]; simp [s0]
 have b0 := jc e0; have b1 := jc e1; have f0 : GrpAt v_0 w.heap.size gp gq gg gh := by rw [e0]; exact Zb
 have f1 : NumO v_0 w.heap.size 16 lg := fun j hj => by rw [e0, cell_of_row _ _ _ _ _ _ (heap_alloc_new _ _)]; rcases (show j = 0 ∨ j = 1 ∨ j = 2 ∨ j = 3 by omega) with rfl | rfl | rfl | rfl <;> rfl
 have f20 : v_0.cell? ⟨w.heap.size, 20, none⟩ = some (.int .i64 fa) := by rw [e0, cell_of_row _ _ _ _ _ _ (heap_alloc_new _ _)]; rfl
 have f21 : v_0.cell? ⟨w.heap.size, 21, none⟩ = some (.int .i64 se) := by rw [e0, cell_of_row _ _ _ _ _ _ (heap_alloc_new _ _)]; rfl
 have f22 : v_0.cell? ⟨w.heap.size, 22, none⟩ = some (.slice ao n cap) := by rw [e0, cell_of_row _ _ _ _ _ _ (heap_alloc_new _ _)]; rfl
 have f9 : v_1.heap[w.heap.size + 1]? = some (.cells zero19 33 (0, 0)) := by rw [← s0, e1]; exact heap_alloc_new _ _
 rw [← e0, ← e1]; obtain ⟨CB, hCB⟩ := je (w.heap.size); rw [← hCB] at f0 f1 f20 f21 f22 f9 s1 ⊢; obtain ⟨UB, hUB⟩ := je (CB + 1); rw [← hUB] at f9 s1 ⊢; have HC := jh (f0.later b1); have HL := jh (NumO.later b1 f1); have C20 := jh (jj f20 b1); have C21 := jh (jj f21 b1); have C22 := jh (jj f22 b1); have HU := jh f9; have HB := jh (jm b0 b1); have HUW := jh (show w.heap.size ≤ UB by omega); clear e0 e1 s0 s1 b0 b1 f0 f1 f20 f21 f22 f9 hCB hUB; refine wp_region_lit ?_; refine ji (v := .pointer (some ⟨CB, 0, none⟩)) rfl (by kernel_rfl) ?_; refine ji rfl (jg (qG HC.out)) ?_; simp only [Act.put, pa, pb, pc]
 go_upto_region 2 with fail
 obtain ⟨v_2, e9⟩ := je (v_1.alloc (.cells #[.int .u64 (jf jd gp 0), .int .u64 (jf jd gp 1), .int .u64 (jf jd gp 2), .int .u64 (jf jd gp 3), .int .u64 (jf jd gq 0), .int .u64 (jf jd gq 1), .int .u64 (jf jd gq 2), .int .u64 (jf jd gq 3), .int .u64 (jf jd gg 0), .int .u64 (jf jd gg 1), .int .u64 (jf jd gg 2), .int .u64 (jf jd gg 3), .int .u64 (jf jd gh 0), .int .u64 (jf jd gh 1), .int .u64 (jf jd gh 2), .int .u64 (jf jd gh 3)] 26)); obtain ⟨GB, h9⟩ := je (v_1.heap.size); have hb := jc e9; have HG := jh (show GrpAt v_2 GB gp gq gg gh by rw [e9, h9]; exact GrpAt.new _ _ _ _ _ _); have HGF := jh (show FreeN v_2 GB 16 by rw [e9, h9]; exact FreeN.new _ _ _ _); have LGB := jh (show GB < v_2.heap.size by rw [e9, h9]; simp); have WGB := jh (show v_1.heap.size = GB from h9.symm); have nGB := jh (show CB ≠ GB ∧ UB ≠ GB by have a1 := HC.out.lt; have a2 := (Array.getElem?_eq_some_iff.1 HU.out).1; omega); have bGB := jh (show w.heap.size ≤ GB by rw [h9]; exact HB.out.size); rw [← e9, ← h9]; clear e9 h9; have HL := jh (NumO.later hb HL.out); have HC := jh (HC.out.later hb); have C20 := jh (jj C20.out hb); have C21 := jh (jj C21.out hb); have C22 := jh (jj C22.out hb); have HU := jb hb HU; have HB := jw HB hb; clear hb; refine wp_region_lit ?_; refine ji rfl (jg (qG HG.out)) ?_; refine ji (v := .pointer (some ⟨GB, 8, none⟩)) rfl (by kernel_rfl) ?_; refine ji rfl (jg (jX HG.out.2.2.1)) ?_; refine ji (v := .pointer (some ⟨CB, 16, none⟩)) rfl (by kernel_rfl) ?_; refine ji rfl (jg (jX HL.out)) ?_; simp only [Act.put, pa, pb, pc]
 go_wp2_with fail
 refine (CE.out _).mono ?_; rintro _ v_3 ⟨rfl, hb⟩; have HL := jh (NumO.later hb HL.out); have HC := jh (HC.out.later hb); have C20 := jh (jj C20.out hb); have C21 := jh (jj C21.out hb); have C22 := jh (jj C22.out hb); have HU := jb hb HU; have HB := jw HB hb; have HG := jh (HG.out.later hb); have HGF := jh (HGF.out.later hb LGB.out); have LGB := jl LGB hb.size; clear hb
 go_upto_region 3 with fail
 obtain ⟨v_4, e9⟩ := je (v_3.alloc (.cells #[.int .u64 (jf jd h 0), .int .u64 (jf jd h 1), .int .u64 (jf jd h 2), .int .u64 (jf jd h 3)] 24)); obtain ⟨HB9, h9⟩ := je (v_3.heap.size); have hb := jc e9; have HH := jh (show NumAt v_4 HB9 h by rw [e9, h9]; exact NumAt.new _ _ _ _ rfl); have LHB9 := jh (show HB9 < v_4.heap.size by rw [e9, h9]; simp); have WHB9 := jh (show v_3.heap.size = HB9 from h9.symm); have nHB := jh (show HB9 ≠ GB by have a1 := LGB.out; omega); rw [← e9, ← h9]; clear e9 h9; have HL := jh (NumO.later hb HL.out); have HC := jh (HC.out.later hb); have C20 := jh (jj C20.out hb); have C21 := jh (jj C21.out hb); have C22 := jh (jj C22.out hb); have HU := jb hb HU; have HB := jw HB hb; have HG := jh (HG.out.later hb); have HGF := jh (HGF.out.later hb LGB.out); have LGB := jl LGB hb.size; clear hb
 go_upto_region 4 with fail
 refine wp_region_lit ?_; refine ji (v := .agg zero19) rfl (by kernel_rfl) ?_; refine jI rfl _ _ _ rfl UB _ _ _ HU.out rfl rfl (by rw [qu]; rfl) rfl qV ?_; simp only [Act.put, pa, pb, pc]; obtain ⟨w9, e9⟩ := je (v_4.setRow UB zero19); have hr9 : w9.heap[UB]? = some (.cells zero19 33 (0, 0)) := by rw [e9]; exact setRow_heap _ _ _ _ _ _ HU.out
 have hb9 : Below w.heap.size w w9 := by rw [e9]; exact below_setRow HB.out HUW.out _
 have HR9 := jh hr9; have HB9b := jh hb9; rw [← e9]; clear e9 hr9 hb9
 go_wp2_with fail
 refine bodyPost_ret (jT rfl _ w9 UB _ _ _ _ rfl HR9.out Tryz.underlying33 rfl (by rw [qu]; rfl) (.bool false) rfl) rfl ⟨0, 0, 0, 0, 0, 0, none, 0, 0, false, by rw [zY], (fun h => by cases h), HB9b.out⟩
theorem lawset_log {gp gq gg gh lg n cap : Nat} {fa se : Int} {ao : Option Addr} {sk : List (Nat × Nat)} (hm : Jh gp gg) (h0 : lg = 0) (hgp : gp < jk) (hgq : gq < jk) (hgg : gg < jk) (hlg : lg < jk) (hfa : -9223372036854775808 ≤ fa ∧ fa ≤ 9223372036854775807) (hse : -9223372036854775808 ≤ se ∧ se ≤ 9223372036854775807) (hsk : ∀ k ∈ sk, k.1 < jk ∧ k.2 < jk) (hn : n = sk.length) (hcap : n ≤ cap) (hcm : cap ≤ maxLen) (w : World) (hk : 0 < n → ∃ b o, ao = some ⟨b, o, none⟩ ∧ KeysAt w b o sk) :
  Calls Tryz.prog 7 #[zG gp gq gg gh lg fa se (.slice ao n cap)] w fun e w' => ∃ (p q g h : Nat) (f s : Int) (a : Option Addr) (n9 c9 : Nat) (ok : Bool), e = .returned (.tuple #[qg p q g h f s (.slice a n9 c9), .bool ok]) ∧ (ok = true → p = gp ∧ q = gq ∧ g = gg ∧ h = gg ^ lg % gp ∧ f = fa ∧ s = se ∧ n9 = n ∧ SetOk w' gp gq gg lg n fa se sk a) ∧ Below w.heap.size w w' := by
 have hgpp : 0 < gp := by have := hm.1; omega
 obtain ⟨h, hh⟩ := je (gg ^ lg % gp); have hhM : h < jk := by rw [hh]; exact Nat.lt_trans (Nat.mod_lt _ hgpp) hgp
 have CE := jh (fun W => by have h9 := Jc (gq := gq) (gg := gg) (gh := gh) hm hgg hlg hgp W; rw [← hh] at h9; unfold jo words at h9; exact h9); have hmm := hcm; unfold maxLen at hmm; have heq := qx lg 0 hlg (by decide); rw [decide_eq_true h0] at heq; have z0 : ((jf jd 0 0 : Nat) : Int) = 0 := by rw [jP]; rfl
 have z1 : ((jf jd 0 1 : Nat) : Int) = 0 := by rw [jP]; rfl
 have z2 : ((jf jd 0 2 : Nat) : Int) = 0 := by rw [jP]; rfl
 have z3 : ((jf jd 0 3 : Nat) : Int) = 0 := by rw [jP]; rfl
 simp only [z0, z1, z2, z3] at heq; clear z0 z1 z2 z3; clear hh hm hgp hgq hgg hlg hfa hse hsk hn hk hgpp hhM h0; unfold zG
 go_enter Tryz.func7, Tryz.ntmps7
 go_upto_region 1 with fail
 obtain ⟨v_0, e0⟩ := je (w.alloc (.cells #[.int .u64 (jf jd gp 0), .int .u64 (jf jd gp 1), .int .u64 (jf jd gp 2), .int .u64 (jf jd gp 3), .int .u64 (jf jd gq 0), .int .u64 (jf jd gq 1), .int .u64 (jf jd gq 2), .int .u64 (jf jd gq 3), .int .u64 (jf jd gg 0), .int .u64 (jf jd gg 1), .int .u64 (jf jd gg 2), .int .u64 (jf jd gg 3), .int .u64 (jf jd gh 0), .int .u64 (jf jd gh 1), .int .u64 (jf jd gh 2), .int .u64 (jf jd gh 3), .int .u64 (jf jd lg 0), .int .u64 (jf jd lg 1), .int .u64 (jf jd lg 2), .int .u64 (jf jd lg 3), .int .i64 fa, .int .i64 se, .slice ao n cap] 29)); obtain ⟨v_1, e1⟩ := je (v_0.alloc (.cells #[.int .u64 0, .int .u64 0, .int .u64 0, .int .u64 0, .int .u64 0, .int .u64 0, .int .u64 0, .int .u64 0, .int .u64 0, .int .u64 0, .int .u64 0, .int .u64 0, .int .u64 0, .int .u64 0, .int .u64 0, .int .u64 0, .int .i64 0, .int .i64 0, .slice none 0 0] 33)); have s0 : v_0.heap.size = w.heap.size + 1 := by rw [e0]; simp
 have s1 : v_1.heap.size = w.heap.size + 1 + 1 := by rw [e1]; simp [s0]
 have b0 := jc e0; have b1 := jc e1; have f0 : GrpAt v_0 w.heap.size gp gq gg gh := by rw [e0]; exact Zb
 have f1 : NumO v_0 w.heap.size 16 lg := fun j hj => by rw [e0, cell_of_row _ _ _ _ _ _ (heap_alloc_new _ _)]; rcases (show j = 0 ∨ j = 1 ∨ j = 2 ∨ j = 3 by omega) with rfl | rfl | rfl | rfl <;> rfl
 have f20 : v_0.cell? ⟨w.heap.size, 20, none⟩ = some (.int .i64 fa) := by rw [e0, cell_of_row _ _ _ _ _ _ (heap_alloc_new _ _)]; rfl
 have f21 : v_0.cell? ⟨w.heap.size, 21, none⟩ = some (.int .i64 se) := by rw [e0, cell_of_row _ _ _ _ _ _ (heap_alloc_new _ _)]; rfl
 have f22 : v_0.cell? ⟨w.heap.size, 22, none⟩ = some (.slice ao n cap) := by rw [e0, cell_of_row _ _ _ _ _ _ (heap_alloc_new _ _)]; rfl
 have f9 : v_1.heap[w.heap.size + 1]? = some (.cells zero19 33 (0, 0)) := by rw [← s0, e1]; exact heap_alloc_new _ _
 rw [← e0, ← e1]; obtain ⟨CB, hCB⟩ := je (w.heap.size); rw [← hCB] at f0 f1 f20 f21 f22 f9 s1 ⊢; obtain ⟨UB, hUB⟩ := je (CB + 1); rw [← hUB] at f9 s1 ⊢; have HC := jh (f0.later b1); have HL := jh (NumO.later b1 f1); have C20 := jh (jj f20 b1); have C21 := jh (jj f21 b1); have C22 := jh (jj f22 b1); have HU := jh f9; have HB := jh (jm b0 b1); have HUW := jh (show w.heap.size ≤ UB by omega); clear e0 e1 s0 s1 b0 b1 f0 f1 f20 f21 f22 f9 hCB hUB; refine wp_region_lit ?_; refine ji (v := .pointer (some ⟨CB, 0, none⟩)) rfl (by kernel_rfl) ?_; refine ji rfl (jg (qG HC.out)) ?_; simp only [Act.put, pa, pb, pc]
 go_upto_region 2 with fail
 obtain ⟨v_2, e9⟩ := je (v_1.alloc (.cells #[.int .u64 (jf jd gp 0), .int .u64 (jf jd gp 1), .int .u64 (jf jd gp 2), .int .u64 (jf jd gp 3), .int .u64 (jf jd gq 0), .int .u64 (jf jd gq 1), .int .u64 (jf jd gq 2), .int .u64 (jf jd gq 3), .int .u64 (jf jd gg 0), .int .u64 (jf jd gg 1), .int .u64 (jf jd gg 2), .int .u64 (jf jd gg 3), .int .u64 (jf jd gh 0), .int .u64 (jf jd gh 1), .int .u64 (jf jd gh 2), .int .u64 (jf jd gh 3)] 26)); obtain ⟨GB, h9⟩ := je (v_1.heap.size); have hb := jc e9; have HG := jh (show GrpAt v_2 GB gp gq gg gh by rw [e9, h9]; exact GrpAt.new _ _ _ _ _ _); have HGF := jh (show FreeN v_2 GB 16 by rw [e9, h9]; exact FreeN.new _ _ _ _); have LGB := jh (show GB < v_2.heap.size by rw [e9, h9]; simp); have WGB := jh (show v_1.heap.size = GB from h9.symm); have nGB := jh (show CB ≠ GB ∧ UB ≠ GB by have a1 := HC.out.lt; have a2 := (Array.getElem?_eq_some_iff.1 HU.out).1; omega); have bGB := jh (show w.heap.size ≤ GB by rw [h9]; exact HB.out.size); rw [← e9, ← h9]; clear e9 h9; have HL := jh (NumO.later hb HL.out); have HC := jh (HC.out.later hb); have C20 := jh (jj C20.out hb); have C21 := jh (jj C21.out hb); have C22 := jh (jj C22.out hb); have HU := jb hb HU; have HB := jw HB hb; clear hb; refine wp_region_lit ?_; refine ji rfl (jg (qG HG.out)) ?_; refine ji (v := .pointer (some ⟨GB, 8, none⟩)) rfl (by kernel_rfl) ?_; refine ji rfl (jg (jX HG.out.2.2.1)) ?_; refine ji (v := .pointer (some ⟨CB, 16, none⟩)) rfl (by kernel_rfl) ?_; refine ji rfl (jg (jX HL.out)) ?_; simp only [Act.put, pa, pb, pc]
 go_wp2_with fail
 refine (CE.out _).mono ?_; rintro _ v_3 ⟨rfl, hb⟩; have HL := jh (NumO.later hb HL.out); have HC := jh (HC.out.later hb); have C20 := jh (jj C20.out hb); have C21 := jh (jj C21.out hb); have C22 := jh (jj C22.out hb); have HU := jb hb HU; have HB := jw HB hb; have HG := jh (HG.out.later hb); have HGF := jh (HGF.out.later hb LGB.out); have LGB := jl LGB hb.size; clear hb
 go_upto_region 3 with fail
 obtain ⟨v_4, e9⟩ := je (v_3.alloc (.cells #[.int .u64 (jf jd h 0), .int .u64 (jf jd h 1), .int .u64 (jf jd h 2), .int .u64 (jf jd h 3)] 24)); obtain ⟨HB9, h9⟩ := je (v_3.heap.size); have hb := jc e9; have HH := jh (show NumAt v_4 HB9 h by rw [e9, h9]; exact NumAt.new _ _ _ _ rfl); have LHB9 := jh (show HB9 < v_4.heap.size by rw [e9, h9]; simp); have WHB9 := jh (show v_3.heap.size = HB9 from h9.symm); have nHB := jh (show HB9 ≠ GB by have a1 := LGB.out; omega); rw [← e9, ← h9]; clear e9 h9; have HL := jh (NumO.later hb HL.out); have HC := jh (HC.out.later hb); have C20 := jh (jj C20.out hb); have C21 := jh (jj C21.out hb); have C22 := jh (jj C22.out hb); have HU := jb hb HU; have HB := jw HB hb; have HG := jh (HG.out.later hb); have HGF := jh (HGF.out.later hb LGB.out); have LGB := jl LGB hb.size; clear hb; have l0 := HL.out 0 (by decide); have l1 := HL.out 1 (by decide); have l2 := HL.out 2 (by decide); have l3 := HL.out 3 (by decide); simp only [Nat.reduceAdd] at l0 l1 l2 l3; have q22 := C22.out
 go_upto_region 4 with fail
 refine wp_region_lit ?_; refine ji (v := .agg zero19) rfl (by kernel_rfl) ?_; refine jI rfl _ _ _ rfl UB _ _ _ HU.out rfl rfl (by rw [qu]; rfl) rfl qV ?_; simp only [Act.put, pa, pb, pc]; obtain ⟨w9, e9⟩ := je (v_4.setRow UB zero19); have hr9 : w9.heap[UB]? = some (.cells zero19 33 (0, 0)) := by rw [e9]; exact setRow_heap _ _ _ _ _ _ HU.out
 have hb9 : Below w.heap.size w w9 := by rw [e9]; exact below_setRow HB.out HUW.out _
 have HR9 := jh hr9; have HB9b := jh hb9; rw [← e9]; clear e9 hr9 hb9
 go_wp2_with fail
 refine bodyPost_ret (jT rfl _ w9 UB _ _ _ _ rfl HR9.out Tryz.underlying33 rfl (by rw [qu]; rfl) (.bool false) rfl) rfl ⟨0, 0, 0, 0, 0, 0, none, 0, 0, false, by rw [zY], (fun h => by cases h), HB9b.out⟩
theorem lawset_many {gp gq gg gh lg n cap : Nat} {fa se : Int} {ao : Option Addr} {sk : List (Nat × Nat)} (hm : Jh gp gg) (h0 : lg ≠ 0) (h1 : 7 < n) (hgp : gp < jk) (hgq : gq < jk) (hgg : gg < jk) (hlg : lg < jk) (hfa : -9223372036854775808 ≤ fa ∧ fa ≤ 9223372036854775807) (hse : -9223372036854775808 ≤ se ∧ se ≤ 9223372036854775807) (hsk : ∀ k ∈ sk, k.1 < jk ∧ k.2 < jk) (hn : n = sk.length) (hcap : n ≤ cap) (hcm : cap ≤ maxLen) (w : World) (hk : 0 < n → ∃ b o, ao = some ⟨b, o, none⟩ ∧ KeysAt w b o sk) :
  Calls Tryz.prog 7 #[zG gp gq gg gh lg fa se (.slice ao n cap)] w fun e w' => ∃ (p q g h : Nat) (f s : Int) (a : Option Addr) (n9 c9 : Nat) (ok : Bool), e = .returned (.tuple #[qg p q g h f s (.slice a n9 c9), .bool ok]) ∧ (ok = true → p = gp ∧ q = gq ∧ g = gg ∧ h = gg ^ lg % gp ∧ f = fa ∧ s = se ∧ n9 = n ∧ SetOk w' gp gq gg lg n fa se sk a) ∧ Below w.heap.size w w' := by
 have hgpp : 0 < gp := by have := hm.1; omega
 obtain ⟨h, hh⟩ := je (gg ^ lg % gp); have hhM : h < jk := by rw [hh]; exact Nat.lt_trans (Nat.mod_lt _ hgpp) hgp
 have CE := jh (fun W => by have h9 := Jc (gq := gq) (gg := gg) (gh := gh) hm hgg hlg hgp W; rw [← hh] at h9; unfold jo words at h9; exact h9); have hmm := hcm; unfold maxLen at hmm; have heq := qx lg 0 hlg (by decide); rw [decide_eq_false h0] at heq; have z0 : ((jf jd 0 0 : Nat) : Int) = 0 := by rw [jP]; rfl
 have z1 : ((jf jd 0 1 : Nat) : Int) = 0 := by rw [jP]; rfl
 have z2 : ((jf jd 0 2 : Nat) : Int) = 0 := by rw [jP]; rfl
 have z3 : ((jf jd 0 3 : Nat) : Int) = 0 := by rw [jP]; rfl
 simp only [z0, z1, z2, z3] at heq; clear z0 z1 z2 z3; have h1I : (7 : Int) < (n : Int) := by omega
 clear h1; clear hh hm hgp hgq hgg hlg hfa hse hsk hn hk hgpp hhM h0; unfold zG
 go_enter Tryz.func7, Tryz.ntmps7
 go_upto_region 1 with fail
 obtain ⟨v_0, e0⟩ := je (w.alloc (.cells #[.int .u64 (jf jd gp 0), .int .u64 (jf jd gp 1), .int .u64 (jf jd gp 2), .int .u64 (jf jd gp 3), .int .u64 (jf jd gq 0), .int .u64 (jf jd gq 1), .int .u64 (jf jd gq 2), .int .u64 (jf jd gq 3), .int .u64 (jf jd gg 0), .int .u64 (jf jd gg 1), .int .u64 (jf jd gg 2), .int .u64 (jf jd gg 3), .int .u64 (jf jd gh 0), .int .u64 (jf jd gh 1), .int .u64 (jf jd gh 2), .int .u64 (jf jd gh 3), .int .u64 (jf jd lg 0), .int .u64 (jf jd lg 1), .int .u64 (jf jd lg 2), .int .u64 (jf jd lg 3), .int .i64 fa, .int .i64 se, .slice ao n cap] 29)); obtain ⟨v_1, e1⟩ := je (v_0.alloc (.cells #[.int .u64 0, .int .u64 0, .int .u64 0, .int .u64 0, .int .u64 0, .int .u64 0, .int .u64 0, .int .u64 0, .int .u64 0, .int .u64 0, .int .u64 0, .int .u64 0, .int .u64 0, .int .u64 0, .int .u64 0, .int .u64 0, .int .i64 0, .int .i64 0, .slice none 0 0] 33)); have s0 : v_0.heap.size = w.heap.size + 1 := by rw [e0]; simp
 have s1 : v_1.heap.size = w.heap.size + 1 + 1 := by rw [e1]; simp [s0]
 have b0 := jc e0; have b1 := jc e1; have f0 : GrpAt v_0 w.heap.size gp gq gg gh := by rw [e0]; exact Zb
 have f1 : NumO v_0 w.heap.size 16 lg := fun j hj => by rw [e0, cell_of_row _ _ _ _ _ _ (heap_alloc_new _ _)]; rcases (show j = 0 ∨ j = 1 ∨ j = 2 ∨ j = 3 by omega) with rfl | rfl | rfl | rfl <;> rfl
 have f20 : v_0.cell? ⟨w.heap.size, 20, none⟩ = some (.int .i64 fa) := by rw [e0, cell_of_row _ _ _ _ _ _ (heap_alloc_new _ _)]; rfl
 have f21 : v_0.cell? ⟨w.heap.size, 21, none⟩ = some (.int .i64 se) := by rw [e0, cell_of_row _ _ _ _ _ _ (heap_alloc_new _ _)]; rfl
 have f22 : v_0.cell? ⟨w.heap.size, 22, none⟩ = some (.slice ao n cap) := by rw [e0, cell_of_row _ _ _ _ _ _ (heap_alloc_new _ _)]; rfl
 have f9 : v_1.heap[w.heap.size + 1]? = some (.cells zero19 33 (0, 0)) := by rw [← s0, e1]; exact heap_alloc_new _ _
 rw [← e0, ← e1]; obtain ⟨CB, hCB⟩ := je (w.heap.size); rw [← hCB] at f0 f1 f20 f21 f22 f9 s1 ⊢; obtain ⟨UB, hUB⟩ := je (CB + 1); rw [← hUB] at f9 s1 ⊢; have HC := jh (f0.later b1); have HL := jh (NumO.later b1 f1); have C20 := jh (jj f20 b1); have C21 := jh (jj f21 b1); have C22 := jh (jj f22 b1); have HU := jh f9; have HB := jh (jm b0 b1); have HUW := jh (show w.heap.size ≤ UB by omega); clear e0 e1 s0 s1 b0 b1 f0 f1 f20 f21 f22 f9 hCB hUB; refine wp_region_lit ?_; refine ji (v := .pointer (some ⟨CB, 0, none⟩)) rfl (by kernel_rfl) ?_; refine ji rfl (jg (qG HC.out)) ?_; simp only [Act.put, pa, pb, pc]
 go_upto_region 2 with fail
 obtain ⟨v_2, e9⟩ := je (v_1.alloc (.cells #[.int .u64 (jf jd gp 0), .int .u64 (jf jd gp 1), .int .u64 (jf jd gp 2), .int .u64 (jf jd gp 3), .int .u64 (jf jd gq 0), .int .u64 (jf jd gq 1), .int .u64 (jf jd gq 2), .int .u64 (jf jd gq 3), .int .u64 (jf jd gg 0), .int .u64 (jf jd gg 1), .int .u64 (jf jd gg 2), .int .u64 (jf jd gg 3), .int .u64 (jf jd gh 0), .int .u64 (jf jd gh 1), .int .u64 (jf jd gh 2), .int .u64 (jf jd gh 3)] 26)); obtain ⟨GB, h9⟩ := je (v_1.heap.size); have hb := jc e9; have HG := jh (show GrpAt v_2 GB gp gq gg gh by rw [e9, h9]; exact GrpAt.new _ _ _ _ _ _); have HGF := jh (show FreeN v_2 GB 16 by rw [e9, h9]; exact FreeN.new _ _ _ _); have LGB := jh (show GB < v_2.heap.size by rw [e9, h9]; simp); have WGB := jh (show v_1.heap.size = GB from h9.symm); have nGB := jh (show CB ≠ GB ∧ UB ≠ GB by have a1 := HC.out.lt; have a2 := (Array.getElem?_eq_some_iff.1 HU.out).1; omega); have bGB := jh (show w.heap.size ≤ GB by rw [h9]; exact HB.out.size); rw [← e9, ← h9]; clear e9 h9; have HL := jh (NumO.later hb HL.out); have HC := jh (HC.out.later hb); have C20 := jh (jj C20.out hb); have C21 := jh (jj C21.out hb); have C22 := jh (jj C22.out hb); have HU := jb hb HU; have HB := jw HB hb; clear hb; refine wp_region_lit ?_; refine ji rfl (jg (qG HG.out)) ?_; refine ji (v := .pointer (some ⟨GB, 8, none⟩)) rfl (by kernel_rfl) ?_; refine ji rfl (jg (jX HG.out.2.2.1)) ?_; refine ji (v := .pointer (some ⟨CB, 16, none⟩)) rfl (by kernel_rfl) ?_; refine ji rfl (jg (jX HL.out)) ?_; simp only [Act.put, pa, pb, pc]
 go_wp2_with fail
 refine (CE.out _).mono ?_; rintro _ v_3 ⟨rfl, hb⟩; have HL := jh (NumO.later hb HL.out); have HC := jh (HC.out.later hb); have C20 := jh (jj C20.out hb); have C21 := jh (jj C21.out hb); have C22 := jh (jj C22.out hb); have HU := jb hb HU; have HB := jw HB hb; have HG := jh (HG.out.later hb); have HGF := jh (HGF.out.later hb LGB.out); have LGB := jl LGB hb.size; clear hb
 go_upto_region 3 with fail
 obtain ⟨v_4, e9⟩ := je (v_3.alloc (.cells #[.int .u64 (jf jd h 0), .int .u64 (jf jd h 1), .int .u64 (jf jd h 2), .int .u64 (jf jd h 3)] 24)); obtain ⟨HB9, h9⟩ := je (v_3.heap.size); have hb := jc e9; have HH := jh (show NumAt v_4 HB9 h by rw [e9, h9]; exact NumAt.new _ _ _ _ rfl); have LHB9 := jh (show HB9 < v_4.heap.size by rw [e9, h9]; simp); have WHB9 := jh (show v_3.heap.size = HB9 from h9.symm); have nHB := jh (show HB9 ≠ GB by have a1 := LGB.out; omega); rw [← e9, ← h9]; clear e9 h9; have HL := jh (NumO.later hb HL.out); have HC := jh (HC.out.later hb); have C20 := jh (jj C20.out hb); have C21 := jh (jj C21.out hb); have C22 := jh (jj C22.out hb); have HU := jb hb HU; have HB := jw HB hb; have HG := jh (HG.out.later hb); have HGF := jh (HGF.out.later hb LGB.out); have LGB := jl LGB hb.size; clear hb; have l0 := HL.out 0 (by decide); have l1 := HL.out 1 (by decide); have l2 := HL.out 2 (by decide); have l3 := HL.out 3 (by decide); simp only [Nat.reduceAdd] at l0 l1 l2 l3; have q22 := C22.out
 go_upto_region 4 with fail
 refine wp_region_lit ?_; refine ji (v := .agg zero19) rfl (by kernel_rfl) ?_; refine jI rfl _ _ _ rfl UB _ _ _ HU.out rfl rfl (by rw [qu]; rfl) rfl qV ?_; simp only [Act.put, pa, pb, pc]; obtain ⟨w9, e9⟩ := je (v_4.setRow UB zero19); have hr9 : w9.heap[UB]? = some (.cells zero19 33 (0, 0)) := by rw [e9]; exact setRow_heap _ _ _ _ _ _ HU.out
 have hb9 : Below w.heap.size w w9 := by rw [e9]; exact below_setRow HB.out HUW.out _
 have HR9 := jh hr9; have HB9b := jh hb9; rw [← e9]; clear e9 hr9 hb9
 go_wp2_with fail
 refine bodyPost_ret (jT rfl _ w9 UB _ _ _ _ rfl HR9.out Tryz.underlying33 rfl (by rw [qu]; rfl) (.bool false) rfl) rfl ⟨0, 0, 0, 0, 0, 0, none, 0, 0, false, by rw [zY], (fun h => by cases h), HB9b.out⟩
end Go.Proofs.YtdpkpcbikbbcbaaGreat
