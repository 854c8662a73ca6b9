/- SameFrame, of frames that are the same -/
import Derived.Test.YtmijablfjigbhaaGreatDoorSZVG35
import Derived.Test.YtmijablfjigbhaaGreatDoorSZVG38
set_option linter.unusedSimpArgs false
set_option linter.unusedVariables false
set_option maxHeartbeats 4000000
set_option maxRecDepth 40000
namespace Go.Proofs.YtmijablfjigbhaaGreatDoor
open Go.ChangeShapes Go.WideShapes Go.ChangeAt Go.RowKit
theorem sizeK (w : World) : (sizeOf (Tryz.prog.elem 27)).run Tryz.prog w = .ok 8 w := by
 go_simp
theorem sV : Tryz.prog.underlying 27 = some (.slice (Tryz.prog.elem 27)) := by kernel_rfl
theorem PH {g o n c m : Nat} (hc : n < c) (W : World) : (Instr.sliceAt 27 (.slice (some ⟨g, o, none⟩) m c) none (some (.int .i64 (n : Nat))) none).run Tryz.prog W = .ok (.slice (some ⟨g, o, none⟩) n c) W := by
 rw [run_sliceAt_slice _ _ _ _ _ _ sV, run_slice_h _ _ _ _ _ sV .i64 n (by omega) (by omega), sizeK]
 simp [sliced, Addr.add_lit]
theorem ne_key {a b : Nat} (ha : a < jo) (hb : b < jo) (w : World) : (binOp .neq 96 (.agg #[.int .u64 (jf jd a 0), .int .u64 (jf jd a 1), .int .u64 (jf jd a 2), .int .u64 (jf jd a 3), .int .u64 (jf jd b 0), .int .u64 (jf jd b 1), .int .u64 (jf jd b 2), .int .u64 (jf jd b 3)]) (.agg #[.int .u64 (jf jd a 0), .int .u64 (jf jd a 1), .int .u64 (jf jd a 2), .int .u64 (jf jd a 3), .int .u64 (jf jd b 0), .int .u64 (jf jd b 1), .int .u64 (jf jd b 2), .int .u64 (jf jd b 3)])).run Tryz.prog w = .ok (.bool false) w := by
 simp only [binOp]; unfold Op.equal Op.maxDepth; rw [Op.equalIn]; simp only [Sem.run_bind, run_underlying Tryz.underlying96, Result.andThen_ok]
 simp [part0, part4, zl ha ha, zl hb hb]
theorem part16_0 (a0 a1 a2 a3 a4 a5 a6 a7 a8 a9 a10 a11 a12 a13 a14 a15 : Value) (w : World) : (part 24 #[a0, a1, a2, a3, a4, a5, a6, a7, a8, a9, a10, a11, a12, a13, a14, a15] 0).run Tryz.prog w = .ok (.agg #[a0, a1, a2, a3]) w := by kernel_rfl
theorem part16_4 (a0 a1 a2 a3 a4 a5 a6 a7 a8 a9 a10 a11 a12 a13 a14 a15 : Value) (w : World) : (part 24 #[a0, a1, a2, a3, a4, a5, a6, a7, a8, a9, a10, a11, a12, a13, a14, a15] 4).run Tryz.prog w = .ok (.agg #[a4, a5, a6, a7]) w := by kernel_rfl
theorem part16_8 (a0 a1 a2 a3 a4 a5 a6 a7 a8 a9 a10 a11 a12 a13 a14 a15 : Value) (w : World) : (part 24 #[a0, a1, a2, a3, a4, a5, a6, a7, a8, a9, a10, a11, a12, a13, a14, a15] 8).run Tryz.prog w = .ok (.agg #[a8, a9, a10, a11]) w := by kernel_rfl
theorem OW (a0 a1 a2 a3 a4 a5 a6 a7 a8 a9 a10 a11 a12 a13 a14 a15 : Value) (w : World) : (part 24 #[a0, a1, a2, a3, a4, a5, a6, a7, a8, a9, a10, a11, a12, a13, a14, a15] 12).run Tryz.prog w = .ok (.agg #[a12, a13, a14, a15]) w := by kernel_rfl
theorem eq_grp {gp gq gg gh : Nat} (h1 : gp < jo) (h2 : gq < jo) (h3 : gg < jo) (h4 : gh < jo) (w : World) : (binOp .eql 26 (.agg #[.int .u64 (jf jd gp 0), .int .u64 (jf jd gp 1), .int .u64 (jf jd gp 2), .int .u64 (jf jd gp 3), .int .u64 (jf jd gq 0), .int .u64 (jf jd gq 1), .int .u64 (jf jd gq 2), .int .u64 (jf jd gq 3), .int .u64 (jf jd gg 0), .int .u64 (jf jd gg 1), .int .u64 (jf jd gg 2), .int .u64 (jf jd gg 3), .int .u64 (jf jd gh 0), .int .u64 (jf jd gh 1), .int .u64 (jf jd gh 2), .int .u64 (jf jd gh 3)]) (.agg #[.int .u64 (jf jd gp 0), .int .u64 (jf jd gp 1), .int .u64 (jf jd gp 2), .int .u64 (jf jd gp 3), .int .u64 (jf jd gq 0), .int .u64 (jf jd gq 1), .int .u64 (jf jd gq 2), .int .u64 (jf jd gq 3), .int .u64 (jf jd gg 0), .int .u64 (jf jd gg 1), .int .u64 (jf jd gg 2), .int .u64 (jf jd gg 3), .int .u64 (jf jd gh 0), .int .u64 (jf jd gh 1), .int .u64 (jf jd gh 2), .int .u64 (jf jd gh 3)])).run Tryz.prog w = .ok (.bool true) w := by
 simp only [binOp]; unfold Op.equal Op.maxDepth; rw [Op.equalIn]; simp only [Sem.run_bind, run_underlying Tryz.underlying26, Result.andThen_ok]
 simp [part16_0, part16_4, part16_8, OW, zl h1 h1, zl h2 h2, zl h3 h3, zl h4 h4]
theorem kS (w : World) (e : TypeId) (size c : Nat) (Z : Array Value) (hZ : Z.size = c * size) (hc : c ≤ maxLen) : O1 (w.alloc (.cells Z e)) w.heap.size e size (.slice (some ⟨w.heap.size, 0, none⟩) 0 c) 0 [] :=
 ⟨by simp, .inr ⟨w.heap.size, 0, c, Z, rfl, Nat.le_refl _, heap_alloc_new w _, Nat.zero_le _, hc, by omega, by simp⟩⟩
def dA (w : World) (base g o c : Nat) (ks : List (Nat × Nat)) : Prop := ks.length < c ∧ O1 w base 96 8 (.slice (some ⟨g, o, none⟩) (ks.length + 1) c) (ks.length + 1) (qs (ks ++ [(77, 0)]))
theorem dA.later {w w' : World} {base g o c : Nat} {ks : List (Nat × Nat)} (h : dA w base g o c ks) (hb : Below w.heap.size w w') : dA w' base g o c ks := ⟨h.1, h.2.later hb⟩
theorem dA.all {w : World} {base g o c : Nat} {ks : List (Nat × Nat)} (h : dA w base g o c ks) : D8 w g o (ks ++ [(77, 0)]) := fun i k hk => by
 obtain ⟨h1, h2⟩ := Zy _ i k hk; exact ⟨fun j hj => by have := h.2.cells _ _ (h1 j hj); rw [Addr.add_lit] at this; rw [Nat.add_assoc]; exact this, fun j hj => by have := h.2.cells _ _ (h2 j hj); rw [Addr.add_lit] at this; rw [Nat.add_assoc]; exact this⟩
theorem dA.keys {w : World} {base g o c : Nat} {ks : List (Nat × Nat)} (h : dA w base g o c ks) : D8 w g o ks := fun i k hk => h.all i k (by rw [List.getElem?_append_left (List.getElem?_eq_some_iff.1 hk).1]; exact hk)
theorem YE {w : World} {t : TypeId} {c0 c1 c2 c3 c4 c5 c6 c7 : Value} (h1 : ∀ u ∈ [c0, c1, c2, c3, c4, c5, c6, c7], u.oneCell' = true) : Zq (w.alloc (.cells #[c0, c1, c2, c3, c4, c5, c6, c7] t)) 8 (.slice (some ⟨w.heap.size, 0, none⟩) 1 1) 1 [c0, c1, c2, c3, c4, c5, c6, c7] := by
 refine ⟨_, _, rfl, rfl, h1, (fun e => by cases e), fun ad had j u hu => ?_⟩
 cases had
 rw [Addr.add_lit, Nat.zero_add, cell_of_row _ _ _ _ _ _ (heap_alloc_new _ _)]; have hl := (List.getElem?_eq_some_iff.1 hu).1; simp only [List.length_cons, List.length_nil] at hl
 rcases (show j = 0 ∨ j = 1 ∨ j = 2 ∨ j = 3 ∨ j = 4 ∨ j = 5 ∨ j = 6 ∨ j = 7 by omega) with rfl | rfl | rfl | rfl | rfl | rfl | rfl | rfl <;> exact hu
theorem own_addr {w : World} {B : Nat} {e : TypeId} {size n : Nat} {a : Option Addr} {c : Nat} {xs : List Value} (h : O1 w B e size (.slice a (n + 1) c) (n + 1) xs) (_h0 : 0 < n + 1) : ∃ g o, a = some ⟨g, o, none⟩ ∧ n < c := by
 rcases h.2 with ⟨_, h9⟩ | ⟨g, o, cap, cur, h1, _, _, h4, _⟩
 ·omega
 ·injection h1 with h1 _ h3
  exact ⟨g, o, h1, by omega⟩
theorem YN {n cap : Nat} {ao : Option Addr} {ks : List (Nat × Nat)} (hn : n = ks.length) (X8 : n ≤ 1000) (w : World) (hk : 0 < n → ∃ b o, ao = some ⟨b, o, none⟩ ∧ D8 w b o ks) :
  Calls Tryz.prog 23 #[.slice ao n cap] w fun e w' => ∃ g o c, e = .returned (.slice (some ⟨g, o, none⟩) n c) ∧ dA w' w.heap.size g o c ks ∧ Below w.heap.size w w' := by
 obtain ⟨i0, hi, hz0, hz1, hz2⟩ := info_parts gV; have HI := jh hi; obtain ⟨Z, hZ⟩ := je (madeCells (Value.cells (.agg (Array.replicate 8 (.int .u64 0)))) ((n + 1) * 8))
 have hmk : ∀ W, (Instr.makeSlice 27 (.int .i64 0) (.int .i64 ((n : Int) + 1))).run Tryz.prog W = .ok (.slice (some ⟨W.heap.size, 0, none⟩) 0 (n + 1)) (W.alloc (.cells Z 96)) := by
  intro W; have e := run_make (P := Tryz.prog) W 27 96 i0 (.agg (Array.replicate 8 (.int .u64 0))) Tryz.underlying27 hi hz0 .i64 .i64 0 ((n : Int) + 1) (by omega) (by omega) (by rw [hz2]; omega) (by omega); rw [e, hz1, show ((n : Int) + 1).toNat = n + 1 by omega, hZ]
  rfl
 have HST := jh (kS w 96 8 (n + 1) Z (by rw [hZ, size_madeCells]) (by unfold maxLen; omega)); have HBE := jh ((Below.refl w.heap.size w).alloc (Nat.le_refl _) (.cells Z 96)); have HK := jh hk; have HN := jh hn; clear hi hk hn hZ
 go_enter Tryz.func23, Tryz.ntmps23
 go_wp2_with fail
 clear hmk
 go_loopw [3, 4] (fun v i wr => ∃ k : Nat, k ≤ n ∧ i = .int .i64 k ∧ O1 wr w.heap.size 96 8 v k (qs (ks.take k)) ∧ Hid (Below w.heap.size w wr)) (fun _ i _ => n - (intOf i).toNat)
 case atStart => exact ⟨0, Nat.zero_le _, rfl, HST.out, HBE⟩
 case round =>
  clear HST HBE; obtain ⟨k, hk, rfl, hown, HB⟩ := hrel; obtain ⟨a8, c8, rfl⟩ := hown.sl; have HO := jh hown; have hbs := HB.out.size; clear hown; obtain ⟨wo, rfl⟩ : ∃ wo : World, wo = wr := ⟨_, rfl⟩
  by_cases hlt : k < n
  ·obtain ⟨⟨x, y⟩, hx⟩ : ∃ p, ks[k]? = some p := ⟨_, List.getElem?_eq_getElem (by rw [← HN.out]; exact hlt)⟩; obtain ⟨KB, o, rfl, hks⟩ := HK.out (by omega); have r0 := jm ((hks k _ hx).1 0 (by decide)) HB.out; have r1 := jm ((hks k _ hx).1 1 (by decide)) HB.out; have r2 := jm ((hks k _ hx).1 2 (by decide)) HB.out; have r3 := jm ((hks k _ hx).1 3 (by decide)) HB.out; have r4 := jm ((hks k _ hx).2 0 (by decide)) HB.out; have r5 := jm ((hks k _ hx).2 1 (by decide)) HB.out; have r6 := jm ((hks k _ hx).2 2 (by decide)) HB.out; have r7 := jm ((hks k _ hx).2 3 (by decide)) HB.out; rw [Nat.add_zero] at r0; simp only [Nat.reduceAdd] at r4 r5 r6 r7; have HX := jh hx; have N8 : (k : Int) < (n : Int) := by omega
   have L8 := jh hlt; clear hx hks hlt
   go_wp2_with (at_builtin; refine jJ rfl (.tmp 15) (.tmp 20) 27 rfl w.heap.size 96 i0 (.agg (Array.replicate 8 (.int .u64 0))) 8 64 Tryz.underlying27 HI.out hz0 hz1 hz2 rfl (.slice a8 k c8) k (qs (ks.take k)) rfl (O1.later HO.out (ja)) (.slice (some ⟨wo.heap.size, 0, none⟩) 1 1) 1 [.int .u64 (jf jd x 0), .int .u64 (jf jd x 1), .int .u64 (jf jd x 2), .int .u64 (jf jd x 3), .int .u64 (jf jd y 0), .int .u64 (jf jd y 1), .int .u64 (jf jd y 2), .int .u64 (jf jd y 3)] rfl (YE (by intro u hu; simp only [List.mem_cons, List.not_mem_nil, or_false] at hu; rcases hu with rfl | rfl | rfl | rfl | rfl | rfl | rfl | rfl <;> rfl)) (by unfold maxLen; omega) (by omega) (by simp; omega) ?_; intro v9 w3 ho hg hl; obtain ⟨a9, c9, rfl⟩ := ho.sl; have UY := jh ho; have G3 := jh hg; clear ho hg hl)
   go_roundw
   case rel =>
    exact ⟨k + 1, by have := L8.out; omega, by go_num, by
     rw [List.take_add_one, HX.out, show (some (x, y)).toList = [(x, y)] from rfl, QU]
     exact UY.out, jh ((HB.out.alloc HB.out.size _).grown G3.out (by simp; omega) (fun g hg => (O1.lt HO.out g hg).1))⟩
   case measure => (simp [intOf]; have := L8.out; omega)
  ·have hkn : k = n := by omega
   have HO := jh (show O1 wo w.heap.size 96 8 (.slice a8 n c8) n (qs ks) by have h9 := HO.out; rw [hkn, List.take_of_length_le (by rw [← HN.out]; exact Nat.le_refl _)] at h9; exact h9); have hnI : ¬ (k : Int) < (n : Int) := by omega
   have hk9 : (Value.slice a8 k c8) = .slice a8 n c8 := by rw [hkn]
   rw [hk9]; have HKN := jh hkn; clear hkn hlt hk9
   go_wp2_with (first
    | (at_builtin; refine jJ rfl (.tmp 22) (.tmp 25) 27 rfl w.heap.size 96 i0 (.agg (Array.replicate 8 (.int .u64 0))) 8 64 Tryz.underlying27 HI.out hz0 hz1 hz2 rfl (.slice a8 n c8) n (qs ks) rfl (O1.later HO.out (ja)) (.slice (some ⟨wo.heap.size, 0, none⟩) 1 1) 1 [.int .u64 77, .int .u64 0, .int .u64 0, .int .u64 0, .int .u64 0, .int .u64 0, .int .u64 0, .int .u64 0] rfl (YE (by intro u hu; simp only [List.mem_cons, List.not_mem_nil, or_false] at hu; rcases hu with rfl | rfl | rfl | rfl | rfl | rfl | rfl | rfl <;> rfl)) (by unfold maxLen; omega) (by omega) (by simp; omega) ?_; intro v9 w3 ho hg hl; obtain ⟨a9, c9, rfl⟩ := ho.sl; have UY := jh ho; have G3 := jh hg; clear ho hg hl; obtain ⟨g9, o9, rfl, hlc⟩ := own_addr UY.out (by omega); have hsl9 := PH (g := g9) (o := o9) (n := n) (c := c9) (m := n + 1) hlc))
   go_ret
   exact ⟨g9, o9, c9, rfl, ⟨by rw [← HN.out]; exact hlc, by rw [← HN.out, QU]; exact UY.out⟩, (HB.out.alloc HB.out.size _).grown G3.out (by simp; omega) (fun g hg => (O1.lt HO.out g hg).1)⟩
theorem eqg_key : Tryz.prog.eqGuardType Tryz.prog.depth 96 = false := by kernel_rfl
theorem PP : (Tryz.prog.info? 96).map (·.size) = some 8 := by kernel_rfl
theorem VO {g o n c m : Nat} (hc : n ≤ c) (W : World) : (Instr.sliceAt 27 (.slice (some ⟨g, o, none⟩) m c) none (some (.int .i64 (n : Nat))) none).run Tryz.prog W = .ok (.slice (some ⟨g, o, none⟩) n c) W := by
 rw [run_sliceAt_slice _ _ _ _ _ _ sV, run_slice_h _ _ _ _ _ sV .i64 n (by omega) (by omega), sizeK]
 simp [sliced, Addr.add_lit]
theorem fV {w : World} {b o x y : Nat} (h1 : X6 w b o x) (h2 : X6 w b (o + 4) y) : (Instr.loadAt 96 (.pointer (some ⟨b, o, none⟩))).run Tryz.prog w = .ok (.agg #[.int .u64 (jf jd x 0), .int .u64 (jf jd x 1), .int .u64 (jf jd x 2), .int .u64 (jf jd x 3), .int .u64 (jf jd y 0), .int .u64 (jf jd y 1), .int .u64 (jf jd y 2), .int .u64 (jf jd y 3)]) w := by
 have l0 := h1 0 (by decide); have l1 := h1 1 (by decide); have l2 := h1 2 (by decide); have l3 := h1 3 (by decide); have l4 := h2 0 (by decide); have l5 := h2 1 (by decide); have l6 := h2 2 (by decide); have l7 := h2 3 (by decide); simp only [Nat.add_assoc, Nat.reduceAdd] at l4 l5 l6 l7
 exact run_loadAt_mid (P := Tryz.prog) w b o 96 [.int .u64 (jf jd x 0), .int .u64 (jf jd x 1), .int .u64 (jf jd x 2), .int .u64 (jf jd x 3), .int .u64 (jf jd y 0), .int .u64 (jf jd y 1), .int .u64 (jf jd y 2), .int .u64 (jf jd y 3)] _ (by
  intro j v hj; have hl := (List.getElem?_eq_some_iff.1 hj).1; simp only [List.length_cons, List.length_nil] at hl
  rcases (show j = 0 ∨ j = 1 ∨ j = 2 ∨ j = 3 ∨ j = 4 ∨ j = 5 ∨ j = 6 ∨ j = 7 by omega) with rfl | rfl | rfl | rfl | rfl | rfl | rfl | rfl <;> (simp at hj; subst hj; assumption)) Tryz.underlying96 rfl PP
theorem rO {n cap g o c base : Nat} {ao : Option Addr} {ks : List (Nat × Nat)} (hx : ∀ k ∈ ks, k.1 < jo ∧ k.2 < jo) (hn : n = ks.length) (X8 : n ≤ 1000) (w : World) (ht : dA w base g o c ks) (hk : 0 < n → ∃ b o, ao = some ⟨b, o, none⟩ ∧ D8 w b o ks) :
  Calls Tryz.prog 41 #[.slice (some ⟨g, o, none⟩) n c, .slice ao n cap] w fun e w' => e = .returned (.bool true) ∧ Below w.heap.size w w' := by
 have hlc : n < c := by rw [hn]; exact ht.1
 have hcI : ((c : Int) ≤ (n : Int)) = False := by simp; omega
 have HT := jh ht.all; have HK := jh hk; have HN := jh hn; have HX := jh hx; have HLC := jh hlc; have hcl : c ≤ 9223372036854775807 := by rcases ht.2.2 with ⟨h9, _⟩ | ⟨g9, o9, cap9, cur, h1, _, _, _, h5, _⟩; cases h9; injection h1 with _ _ h3; rw [h3]; exact h5
 clear ht hk hn hx hlc
 go_enter Tryz.func41, Tryz.ntmps41
 go_wp2_with fail
 go_loopw [5] (fun i wr => ∃ k : Nat, k ≤ n ∧ i = .int .i64 k ∧ Hid (Below w.heap.size w wr)) (fun i _ => n - (intOf i).toNat)
 case atStart => exact ⟨0, Nat.zero_le _, rfl, jh (Below.refl _ _)⟩
 case round =>
  obtain ⟨k, hk, rfl, HB⟩ := hrel
  by_cases hlt : k < n
  ·obtain ⟨⟨x, y⟩, hx⟩ : ∃ p, ks[k]? = some p := ⟨_, List.getElem?_eq_getElem (by rw [← HN.out]; exact hlt)⟩; obtain ⟨KB, p, rfl, hks⟩ := HK.out (by omega); have hxy := HX.out (x, y) (List.mem_of_getElem? hx); have V9 : (ks ++ [(77, 0)])[k]? = some (x, y) := by rw [List.getElem?_append_left (List.getElem?_eq_some_iff.1 hx).1]; exact hx
   have H1 := jh (show X6 wr KB (p + k * 8) x ∧ X6 wr KB (p + k * 8 + 4) y from ⟨fun j hj => jm ((hks k _ hx).1 j hj) HB.out, fun j hj => by rw [Nat.add_assoc]; exact jm ((hks k _ hx).2 j hj) HB.out⟩); have H2 := jh (show X6 wr g (o + k * 8) x ∧ X6 wr g (o + k * 8 + 4) y from ⟨fun j hj => jm ((HT.out k _ V9).1 j hj) HB.out, fun j hj => by rw [Nat.add_assoc]; exact jm ((HT.out k _ V9).2 j hj) HB.out⟩); have HE := jh (fun W => ne_key hxy.1 hxy.2 W); have N8 : (k : Int) < (n : Int) := by omega
   have L8 := jh hlt; clear hx V9 hks hlt hxy
   go_upto_region 6 with fail
   refine jY (.take 0 (.take 1 (.take 2 (.take 3 (.take 4 (.take 5 (.take 6 (.take 7 (.take 8 .done))))))))) (fun w8 => (X6 w8 KB (p + k * 8) x ∧ X6 w8 KB (p + k * 8 + 4) y) ∧ (X6 w8 g (o + k * 8) x ∧ X6 w8 g (o + k * 8 + 4) y)) (by kernel_rfl) (by kernel_rfl) (fun _ _ _ _ _ h => h) (⟨⟨X6.later ((Below.refl _ _).drew) H1.out.1, X6.later ((Below.refl _ _).drew) H1.out.2⟩, ⟨X6.later ((Below.refl _ _).drew) H2.out.1, X6.later ((Below.refl _ _).drew) H2.out.2⟩⟩) (fun hHeld => ?_); obtain ⟨x1, e1⟩ := je (wr.drew); rw [← e1]; have hb : Below wr.heap.size wr x1 := by rw [e1]; exact (Below.refl _ _).drew
   have HB := jw HB hb; clear hb e1
   iterate 2
    refine WT.tk rfl (k := ?_)
   refine WT.tk (v := .pointer (some ⟨g, o + k * 8, none⟩)) rfl (fun w8 hSw => by simp [go_sem, N8]) (k := ?_); refine WT.tk (v := .agg #[.int .u64 (jf jd x 0), .int .u64 (jf jd x 1), .int .u64 (jf jd x 2), .int .u64 (jf jd x 3), .int .u64 (jf jd y 0), .int .u64 (jf jd y 1), .int .u64 (jf jd y 2), .int .u64 (jf jd y 3)]) rfl (fun w8 hSw => jg (fV hSw.2.1 hSw.2.2)) (k := ?_)
   iterate 2
    refine WT.tk rfl (k := ?_)
   refine WT.tk (v := .pointer (some ⟨KB, p + k * 8, none⟩)) rfl (fun w8 hSw => by simp [go_sem, N8]) (k := ?_); refine WT.tk (v := .agg #[.int .u64 (jf jd x 0), .int .u64 (jf jd x 1), .int .u64 (jf jd x 2), .int .u64 (jf jd x 3), .int .u64 (jf jd y 0), .int .u64 (jf jd y 1), .int .u64 (jf jd y 2), .int .u64 (jf jd y 3)]) rfl (fun w8 hSw => jg (fV hSw.1.1 hSw.1.2)) (k := ?_); refine WT.tk (v := .bool false) rfl (fun w8 hSw => zn eqg_key rfl (by kernel_rfl) (by kernel_rfl) (HE.out _)) (k := ?_); refine WT.done ?_; clear hHeld
   go_wp2_with fail
   go_roundw
   case rel => exact ⟨k + 1, by have := L8.out; omega, by go_num, HB⟩
   case measure => (simp [intOf]; have := L8.out; omega)
  ·have hkn : k = n := by omega
   have hnI : ¬ (k : Int) < (n : Int) := by omega
   have V9 : (ks ++ [(77, 0)])[n]? = some (77, 0) := by rw [List.getElem?_append_right (by rw [HN.out]; exact Nat.le_refl _), HN.out, Nat.sub_self]; rfl
   have r0 := jm ((HT.out n _ V9).1 0 (by decide)) HB.out; have r1 := jm ((HT.out n _ V9).1 1 (by decide)) HB.out; have r2 := jm ((HT.out n _ V9).1 2 (by decide)) HB.out; have r3 := jm ((HT.out n _ V9).1 3 (by decide)) HB.out; have r4 := jm ((HT.out n _ V9).2 0 (by decide)) HB.out; have r5 := jm ((HT.out n _ V9).2 1 (by decide)) HB.out; have r6 := jm ((HT.out n _ V9).2 2 (by decide)) HB.out; have r7 := jm ((HT.out n _ V9).2 3 (by decide)) HB.out; rw [Nat.add_zero] at r0; simp only [Nat.reduceAdd] at r4 r5 r6 r7; have hsl := PH (g := g) (o := o) (n := n + 1) (c := c) (m := n); have HSL := jh hsl; obtain ⟨n1, hn1⟩ := je (n + 1); have hn1I : (n : Int) + 1 = (n1 : Int) := by omega
   have hltn : (n : Int) < (n1 : Int) := by omega
   have HS9 : ∀ W : World, (Instr.sliceAt 27 (.slice (some ⟨g, o, none⟩) n c) none (some (.int .i64 (n1 : Nat))) none).run Tryz.prog W = .ok (.slice (some ⟨g, o, none⟩) n1 c) W := fun W => VO (by have := HLC.out; omega) W
   have heq : ∀ W : World, (binOp .eql 24 (.agg #[.int .u64 (jf jd 77 0), .int .u64 (jf jd 77 1), .int .u64 (jf jd 77 2), .int .u64 (jf jd 77 3)]) (.agg #[.int .u64 77, .int .u64 0, .int .u64 0, .int .u64 0])).run Tryz.prog W = .ok (.bool true) W := fun W => by have h9 := zp 77 77 (by unfold jo; omega) (by unfold jo; omega) W; rewrite [decide_eq_true rfl] at h9; exact h9
   clear hkn hlt hsl HSL hn1 V9
   go_wp2_with fail
   go_ret
   exact ⟨rfl, HB.out.alloc HB.out.size _⟩
def Jg (m : Nat) : List Value := [.int .u64 m, .int .u64 0, .int .u64 0, .int .u64 0, .int .u64 0, .int .u64 0, .int .u64 0, .int .u64 0]
theorem qt (m : Nat) : (Jg m).length = 8 := rfl
theorem infoHKey : (Tryz.prog.info? 147).map (fun i => (i.size, i.bytes)) = some (3, 56) ∧ ((Tryz.prog.info? 147).bind (·.zero)).map (fun z => z.cells.size) = some 3 := ⟨by kernel_rfl, by kernel_rfl⟩
theorem SI : ∃ i z, Tryz.prog.info? 147 = some i ∧ i.zero = some z ∧ i.size = 3 ∧ i.bytes = 56 ∧ z.cells.size = 3 := by
 obtain ⟨h1, h2⟩ := infoHKey
 cases hq : Tryz.prog.info? 147 with
 | none => rw [hq] at h1; cases h1
 | some i =>
  rw [hq] at h1 h2; simp only [Option.map_some, Option.some.injEq, Prod.mk.injEq] at h1
  cases hz : i.zero with
  | none => simp [hz] at h2
  | some z => exact ⟨i, z, rfl, hz, h1.1, h1.2, by simpa [hz] using h2⟩
theorem FP (w : World) (B base n k : Nat) (F L G : Nat → Value) (M : Nat → Nat) (a : Option Addr) (l c : Nat) (hb : I9 w B n F) (ho : O1 w base 147 3 (F 7) k (Zj M L G k)) (hne : (F 7).ownBlock ≠ some B) (hk : k ≤ 1000) (hn : n ≤ 1000) (hB : base ≤ B) (hM : M k = n + 1) (hL : L k = .slice a l c) (hG : G k = .slice none 0 0) :
  Calls Tryz.prog 117 #[.pointer (some ⟨B, 0, none⟩), .slice a l c] w fun e w' => e = .returned (.tuple #[]) ∧ ∃ TV, I9 w' B (n + 1) (fun j => if j = 7 then TV else F j) ∧ O1 w' base 147 3 TV (k + 1) (Zj M L G (k + 1)) ∧ TV.ownBlock ≠ some B ∧
   Below base w w' ∧ (∀ g, g < w.heap.size → g ≠ B → (F 7).ownBlock ≠ some g → w'.heap[g]? = w.heap[g]? ∧ TV.ownBlock ≠ some g) := by
 obtain ⟨i0, z0, hi, hz0, hz1, hz2, hz3⟩ := SI; have HI := jh hi; have hlt := hb.lt; have hn0 : (n : Int) ≤ 1000 := by omega
 have HB0 := jh hb; have HO := jh ho; obtain ⟨va, vn, vc, hvb⟩ := bk_sl ho; have hs : base ≤ w.heap.size := by omega
 obtain ⟨c0, c9, cf⟩ := hb; have c1 := c9 7 (by omega) (by omega); rw [hvb] at c1 HO hne ⊢; have f0 := cf 0 (by omega); have f1 := cf 7 (by omega); clear cf hi ho c9
 go_enter Tryz.func117, Tryz.ntmps117
 go_wp2_with fail
 obtain ⟨w1, e1⟩ := je (w.setCell ⟨B, 0, none⟩ (.int .i64 ((n : Int) + 1))); have hB1 : I9 w1 B (n + 1) F := by rw [e1]; exact HB0.out.set0 (n + 1)
 have hs1 : w1.heap.size = w.heap.size := by rw [e1]; simp
 have hg1 : w.grownBy w1 (some B) := by
  rw [e1]; exact ⟨rfl, rfl, rfl, by simp, fun g _ hg => zW w _ _ g (fun e => hg (by rw [e]))⟩
 have hO1 : O1 w1 base 147 3 (.slice va vn vc) k (Zj M L G k) := O1.kept HO.out hg1 (.inr hne); have SA := jh (fun (W : World) (h : Below w1.heap.size w1 W) => O1.later hO1 h); have HBK := jh (fun (W : World) (h : Below w1.heap.size w1 W) => I9.kept hB1 (h.block B hB1.lt)); have eH := jh hne; have HG1 := jh hg1; have wH := jh hs1; have HL := jh hL; have VF := jh hG; have HM := jh hM; have HVB := jh hvb; rw [← e1]; obtain ⟨d0, d9, df⟩ := hB1; have d1 := d9 7 (by omega) (by omega); rw [hvb] at d1; have g0 := df 0 (by omega); have g1 := df 7 (by omega); have hlt1 : B < w1.heap.size := by omega
 have hbs1 : base ≤ w1.heap.size := by omega
 have H9 := jh (fun (w : World) => kL w a l c ((n : Int) + 1) 147); have e9 : ((n + 1 : Nat) : Int) = (n : Int) + 1 := by omega
 rw [e9] at d0; clear c0 c1 f0 f1 e1 df d9 hO1 hg1 hs1 hL hG HB0 HO e9 hM hvb
 go_region_law (first
  | (refine Zu rfl (.tmp 15) (.tmp 22) 53 rfl base 147 i0 z0 3 56 Tryz.underlying53 HI.out hz0 hz1 hz2 hz3 (.slice va vn vc) k (Zj M L G k) rfl (SA.out _ ((Below.refl _ _).drew.alloc (Nat.le_refl _) _)) (.slice (some ⟨w1.heap.size, 0, none⟩) 1 1) 1 [.slice a l c, .slice none 0 0, .int .i64 ((n : Int) + 1)] rfl (H9.out w1.drew) (by unfold maxLen; omega) (by omega) (by simp; omega) ?_
     intro v2 w2 ho2 hg2 hl2; obtain ⟨a2, c2, rfl⟩ := ho2.sl; have hbk2 := (HBK.out _ ((Below.refl _ _).drew.alloc (Nat.le_refl _) _)).grown hg2 eH.out; have HBK2 := jh hbk2; have d2 := hbk2.2.1 7 (by omega) (by omega); have g2 := hbk2.2.2 7 (by omega); rw [HVB.out] at d2; clear hbk2; have U9 := jh ho2; have HG2 := jh hg2; have HL2 := jh hl2
     clear ho2 hg2 hl2))
 all_goals
  have hf := bk_fin (f := 7) (by omega) hB hlt eH.out HG1.out wH.out (by first | exact (Below.refl _ _).drew.alloc (Nat.le_refl _) _ | exact (ja).drew) (fun g hg => (O1.lt (SA.out _ (Below.refl _ _)) g hg).1) HG2.out HL2.out HBK2.out U9.out
  go_end0
  refine ⟨rfl, _, hf.1, ?_, hf.2.2⟩; rw [Zj, HL.out, VF.out, HM.out]; exact hf.2.1
theorem bG (w : World) (m : Nat) (hm : m ≤ 1000) : Calls Tryz.prog 131 #[.int .i64 m] w fun e w' => e = .returned (.agg #[.int .u64 m, .int .u64 0, .int .u64 0, .int .u64 0, .int .u64 0, .int .u64 0, .int .u64 0, .int .u64 0]) ∧ Below w.heap.size w w' := by
 have h : (m : Int) ≤ 1000 := by omega
 go_enter Tryz.func131, Tryz.ntmps131
 go_wp2_with fail
 refine bodyPost_ret (v := .agg #[.int .u64 m, .int .u64 0, .int .u64 0, .int .u64 0, .int .u64 0, .int .u64 0, .int .u64 0, .int .u64 0]) ?_ rfl ⟨rfl, ja⟩
 simp [results, Tryz.results131, go_sem]
theorem rF (w : World) (m : Nat) (hm : m ≤ 1000) : Calls Tryz.prog 148 #[.agg #[.int .u64 m, .int .u64 0, .int .u64 0, .int .u64 0, .int .u64 0, .int .u64 0, .int .u64 0, .int .u64 0], .int .i64 m] w fun e w' => e = .returned (.bool true) ∧ Below w.heap.size w w' := by
 have h : (m : Int) ≤ 1000 := by omega
 have e9 := eq4 m 0 0 0 m 0 0 0; simp only [beq_self_eq_true, Bool.and_true] at e9
 go_enter Tryz.func148, Tryz.ntmps148
 go_wp2_with fail
 go_ret
 exact ⟨rfl, ja⟩
theorem iQ (w : World) (B base n k : Nat) (F L G : Nat → Value) (M N : Nat → Nat) (X : Nat → List Value) (hF : FD 96 147 8 7 M w base B n k F L G N X) (hA : EC B k (F 7) L) (hk : k ≤ 1000) (hM : ∀ i, i < k → M i ≤ 1000) (hB : base ≤ B) (hG : ∀ i, i < k → G i = .slice none 0 0) (hN : ∀ i, i < k → N i ≤ 4000000) :
  Calls Tryz.prog 48 #[.pointer (some ⟨B, 0, none⟩)] w fun e w' => e = .returned (.tuple #[]) ∧ FD 96 147 8 7 M w' base B n k F L G N (fun i => rep (N i) (Jg (M i))) ∧ Below base w w' ∧ Y7 k L (F 7) w w' := by
 have HF := jh hF; have HA := jh hA; have HG := jh hG; have HN := jh hN; have HM := jh hM; obtain ⟨va, vc, hvb⟩ := hF.row.sl; have hs : base ≤ w.heap.size := by have := hF.book.lt; omega
 have HV := jh hvb; clear hF hA hG hN hM hvb
 go_enter Tryz.func48, Tryz.ntmps48
 go_wp2_with fail
 go_loopw [2] (fun i wr => ∃ i' : Nat, i' ≤ k ∧ i = .int .i64 i' ∧ FD 96 147 8 7 M wr base B n k F L G N (fun j => if j < i' then rep (N j) (Jg (M j)) else X j) ∧ Below base w wr ∧ base ≤ wr.heap.size ∧ Y7 k L (F 7) w wr) (fun i _ => k - (intOf i).toNat)
 case atStart => exact ⟨0, Nat.zero_le _, rfl, HF.out.congr fun i _ => by simp, Below.refl _ _, hs, Y7.refl _ _ _ _⟩
 case round =>
  obtain ⟨i, hi, rfl, hf, hbl, hsz, hsp⟩ := hrel; obtain ⟨wo, rfl⟩ : ∃ wo : World, wo = wr := ⟨_, rfl⟩; have d1 := hf.book.2.1 7 (by omega) (by omega); rw [HV.out] at d1; have HSP := jh hsp; clear hsp
  by_cases hlt : i < k
  ·have hrow := hf.row; rw [HV.out] at hrow; obtain ⟨gv, ov, cv, hvb, hcv1, hcv2, yT, hcv4⟩ := Jo hrow hlt
   cases hvb
   obtain ⟨l0, l1, l2⟩ := Jd hrow hlt; rw [HG.out i hlt] at l1; obtain ⟨la, lc, hL⟩ := (hf.own i hlt).sl; rw [hL] at l0; have hnn := HN.out i hlt; have hmm := HM.out i hlt; have SK := jh hf; have KG := jh hbl; have HL := jh hL; unfold maxLen at hcv2; clear hf hbl hL hrow
   go_wp2_with fail
   obtain ⟨w2, e2⟩ := je (wo.alloc (.cells #[.slice la (N i) lc, .slice none 0 0, .int .i64 (M i)] 147)); have h0 : w2.cell? ⟨wo.heap.size, 0, none⟩ = some (.slice la (N i) lc) := by rw [e2]; simp
   have h2 : w2.cell? ⟨wo.heap.size, 2, none⟩ = some (.int .i64 (M i)) := by rw [e2]; simp
   have hb2 := jc e2; have hs2 : w2.heap.size = wo.heap.size + 1 := by rw [e2]; simp
   rw [← e2]; clear e2 l0 l1 l2 d1; have HF2 := jh (SK.out.later hb2); have HB2 := jh (KG.out.trans (hb2.mono hsz)); have HS2 := jh (HSP.out.later hb2); have H0 := jh h0; have H2 := jh h2; clear h0 h2 hb2
   go_loopw [4] (fun j wq => ∃ j' : Nat, j' ≤ N i ∧ j = .int .i64 j' ∧ FD 96 147 8 7 M wq base B n k F L G N (fun p => if p = i then prt (Jg (M i)) j' (X i) else if p < i then rep (N p) (Jg (M p)) else X p) ∧ wq.cell? ⟨wo.heap.size, 0, none⟩ = some (.slice la (N i) lc) ∧ wq.cell? ⟨wo.heap.size, 2, none⟩ = some (.int .i64 (M i)) ∧ Below base w wq ∧ wo.heap.size + 1 ≤ wq.heap.size ∧ Y7 k L (F 7) w wq) (fun j _ => N i - (intOf j).toNat)
   case atStart => exact ⟨0, Nat.zero_le _, rfl, HF2.out.congr (fun p hp => by
     by_cases hpi : p = i
     ·subst hpi; simp [aP]
     ·simp [hpi]), H0.out, H2.out, HB2.out, by omega, HS2.out⟩
   case round =>
    obtain ⟨j, hj, rfl, hfq, h0, h2, hbq, hsq, WS⟩ := hrel; have HFQ := jh hfq; have HBQ := jh hbq; have HSQ := jh WS; have hown := hfq.own i hlt; rw [HL.out, if_pos rfl] at hown; have hX := (SK.out.own i hlt).1; rw [if_neg (Nat.lt_irrefl i)] at hX; have HX := jh hX
    by_cases hjl : j < N i
    ·obtain ⟨g, o, cap, hh, -, hg4, hg1, hg5⟩ := Jo hown hjl
     cases hh
     have hL9 : L i = .slice (some ⟨g, o, none⟩) (N i) lc := HL.out; have hgl : g < wo.heap.size := (O1.lt (SK.out.own i hlt) g (by rw [hL9]; rfl)).2; have HOW := jh hown; obtain ⟨u0, hc0⟩ := Jy (q := 0) hown (qt _) HX.out hjl (by omega); obtain ⟨u1, hc1⟩ := Jy (q := 1) hown (qt _) HX.out hjl (by omega); obtain ⟨u2, hc2⟩ := Jy (q := 2) hown (qt _) HX.out hjl (by omega); obtain ⟨u3, hc3⟩ := Jy (q := 3) hown (qt _) HX.out hjl (by omega); obtain ⟨u4, hc4⟩ := Jy (q := 4) hown (qt _) HX.out hjl (by omega); obtain ⟨u5, hc5⟩ := Jy (q := 5) hown (qt _) HX.out hjl (by omega); obtain ⟨u6, hc6⟩ := Jy (q := 6) hown (qt _) HX.out hjl (by omega); obtain ⟨u7, hc7⟩ := Jy (q := 7) hown (qt _) HX.out hjl (by omega); rw [Nat.add_zero] at hc0; have hf0 := qw hown (o + j * 8); have hf1 := qw hown (o + j * 8 + 1); have hf2 := qw hown (o + j * 8 + 2); have hf3 := qw hown (o + j * 8 + 3); have hf4 := qw hown (o + j * 8 + 4); have hf5 := qw hown (o + j * 8 + 5); have hf6 := qw hown (o + j * 8 + 6); have hf7 := qw hown (o + j * 8 + 7); unfold maxLen at hg4; have HL9 := jh hL9; clear hfq hbq hown hX hg5 WS hL9
     go_wp2_with fail
     go_region_law (first
      | (go_simp
         go_at_call 131
         refine (bG _ (M i) hmm).mono ?_; rintro _ w9 ⟨rfl, Z4⟩; have hD := (Below.refl wr.heap.size wr).drew.trans Z4; have IC := O1.later HOW.out hD; have h0 := jm h0 hD; have h2 := jm h2 hD; have hc0 := jm hc0 hD; have hf0 := qw IC (o + j * 8); have hc1 := jm hc1 hD; have hf1 := qw IC (o + j * 8 + 1); have hc2 := jm hc2 hD; have hf2 := qw IC (o + j * 8 + 2); have hc3 := jm hc3 hD; have hf3 := qw IC (o + j * 8 + 3); have hc4 := jm hc4 hD; have hf4 := qw IC (o + j * 8 + 4); have hc5 := jm hc5 hD; have hf5 := qw IC (o + j * 8 + 5); have hc6 := jm hc6 hD; have hf6 := qw IC (o + j * 8 + 6); have hc7 := jm hc7 hD; have hf7 := qw IC (o + j * 8 + 7)
         clear IC))
     all_goals
      go_wp2_with fail
      go_roundw
      case rel =>
       have hp := (HFQ.out.later hD).over HA.out hlt HL9.out (if_pos rfl) HX.out hjl (qt _)
       exact ⟨j + 1, by omega, by go_num, FD.congr (show FD 96 147 8 7 M _ base B n k F L G N _ from hp) (fun p hpk => by
        by_cases hpi : p = i
        ·simp only [hpi, if_true]
        ·simp only [hpi, if_false]), cell_far (l := Jg (M i)) (p := o + j * 8) h0 (show wo.heap.size ≠ g by omega), cell_far (l := Jg (M i)) (p := o + j * 8) h2 (show wo.heap.size ≠ g by omega), ZF (Jg (M i)) hg1 (HBQ.out.trans (hD.mono (by omega))), (by have := hD.size; have h8 := Ze (Jg (M i)) w9 g (o + j * 8); exact Nat.le_trans (Nat.le_trans hsq this) (Nat.le_of_eq h8.symm)), (HSQ.out.later hD).put (l := Jg (M i)) (p := o + j * 8) hlt (show (L i).ownBlock = some g by rw [HL9.out]; rfl)⟩
      case measure => simp [intOf]; omega
    ·obtain rfl : j = N i := by omega
     clear hjl hown hX hfq hbq WS
     go_wp2_with fail
     go_roundw
     case rel => exact ⟨i + 1, by omega, by go_num, HFQ.out.congr (fun p hp => by
      by_cases hpi : p = i
      ·subst hpi; simp only [if_true, Nat.lt_succ_self]; exact UU _ _ HX.out
      ·by_cases hpl : p < i
       ·simp [hpi, hpl, show p < i + 1 by omega]
       ·simp [hpi, hpl, show ¬ p < i + 1 by omega]), HBQ.out, by omega, HSQ.out⟩
     case measure => simp [intOf]; omega
  ·obtain rfl : i = k := by omega
   have SK := jh hf; have KG := jh hbl; clear hf hbl
   go_wp2_with fail
   go_end0
   exact ⟨rfl, SK.out.congr (fun p hp => if_pos hp), KG.out, HSP.out⟩
theorem dQ (w : World) (B base n k z : Nat) (F L G : Nat → Value) (M N : Nat → Nat) (hF : Grow 96 147 8 7 Jg M z w base B n k F L G N 0) (hA : EC B k (F 7) L) (hk : k ≤ 1000) (hM : ∀ i, i < k → M i ≤ 1000) (hB : base ≤ B) (hG : ∀ i, i < k → G i = .slice none 0 0) (hN : ∀ i, i < k → N i ≤ 4000000) :
  Calls Tryz.prog 65 #[.pointer (some ⟨B, 0, none⟩)] w fun e w' => e = .returned (.tuple #[]) ∧ (∃ G', Grow 96 147 8 7 Jg M z w' base B n k F L G' N k) ∧ Below base w w' ∧ Y7 k L (F 7) w w' := by
 obtain ⟨i0, hi0, hz0, hz1, hz2⟩ := info_parts gV; have HI := jh hi0; have HF := jh hF; have HA := jh hA; have HN := jh hN; have HM := jh hM; have HG0 := jh hG; obtain ⟨va, vc, hvb⟩ := hF.row.sl; have hs : base ≤ w.heap.size := by have := hF.book.lt; omega
 have HV := jh hvb; clear hF hA hG hN hi0 hM hvb
 go_enter Tryz.func65, Tryz.ntmps65
 go_wp2_with fail
 go_loopw [2] (fun i wr => ∃ (i' : Nat) (G' : Nat → Value), i' ≤ k ∧ i = .int .i64 i' ∧ Grow 96 147 8 7 Jg M z wr base B n k F L G' N i' ∧ (∀ j, i' ≤ j → j < k → G' j = .slice none 0 0) ∧ Below base w wr ∧ base ≤ wr.heap.size ∧ Y7 k L (F 7) w wr) (fun i _ => k - (intOf i).toNat)
 case atStart => exact ⟨0, G, Nat.zero_le _, rfl, HF.out, fun j _ hj => HG0.out j hj, Below.refl _ _, hs, Y7.refl _ _ _ _⟩
 case round =>
  obtain ⟨i, G', hi, rfl, hf, hgn, hbl, hsz, hsp⟩ := hrel; obtain ⟨wo, rfl⟩ : ∃ wo : World, wo = wr := ⟨_, rfl⟩; have d1 := hf.book.2.1 7 (by omega) (by omega); rw [HV.out] at d1; have HSP := jh hsp; clear HG0 hsp
  by_cases hlt : i < k
  ·have hrow := hf.row; rw [HV.out] at hrow; obtain ⟨gv, ov, cv, hvb, hcv1, hcv2, yT, hcv4⟩ := Jo hrow hlt
   cases hvb
   obtain ⟨l0, l1, l2⟩ := Jd hrow hlt; rw [hgn i (Nat.le_refl _) hlt] at l1; obtain ⟨la, lc, hL⟩ := (hf.own i (Nat.le_refl _) hlt).sl; rw [hL] at l0; have hnn := HN.out i hlt; have hmm := HM.out i hlt; have SK := jh hf; have KG := jh hbl; have HL := jh hL; have HGN := jh hgn; unfold maxLen at hcv2; clear hf hbl hL hgn hrow
   go_wp2_with fail
   obtain ⟨w2, e2⟩ := je (wo.alloc (.cells #[.slice la (N i) lc, .slice none 0 0, .int .i64 (M i)] 147)); have h0 : w2.cell? ⟨wo.heap.size, 0, none⟩ = some (.slice la (N i) lc) := by rw [e2]; simp
   have h2 : w2.cell? ⟨wo.heap.size, 2, none⟩ = some (.int .i64 (M i)) := by rw [e2]; simp
   have hb2 := jc e2; have hs2 : w2.heap.size = wo.heap.size + 1 := by rw [e2]; simp
   rw [← e2]; clear e2 l0 l1 l2 d1; have HF2 := jh (SK.out.later hb2); have HB2 := jh (KG.out.trans (hb2.mono hsz)); have HS2 := jh (HSP.out.later hb2); have HLO := jh (xJ.first (qt _) (HF2.out.own i (Nat.le_refl _) hlt)); have WQ := jh h2; have hne : (L i).ownBlock ≠ some wo.heap.size := fun e => by have := SK.out.low i hlt _ e; omega
   have eH := jh hne; clear h2 hb2 hne
   go_wp2_with fail
   go_loopw [4, 5] (fun v j wq => ∃ j' : Nat, j' ≤ 40 ∧ j = .int .i64 j' ∧ xJ 96 8 (Jg (M i)) w2 wq base (N i) (L i) v j') (fun _ j _ => 40 - (intOf j).toNat)
   case atStart => exact ⟨0, by omega, rfl, by have h9 := HLO.out; rw [show Value.slice la (N i) lc = L i from HL.out.symm]; exact h9⟩
   case round =>
    obtain ⟨j, hj, rfl, hlo⟩ := hrel; obtain ⟨a9, c9, rfl⟩ := hlo.own.sl; have hblk := hlo.frame wo.heap.size (by omega) eH.out; have h2 : wr.cell? ⟨wo.heap.size, 2, none⟩ = some (.int .i64 (M i)) := (World.cell?_of_block (w := w2) (a := ⟨wo.heap.size, 2, none⟩) hblk).trans WQ.out; have fH := jh hlo; have hls := hlo.size; clear hlo hblk
    by_cases hjl : j < 40
    ·go_wp2_with (first
      | (go_at_call 131; refine (bG _ (M i) hmm).mono ?_; rintro _ w9 ⟨rfl, Z4⟩; have h9s := Z4.size)
      | (at_builtin; refine jJ rfl (.tmp 28) (.tmp 32) 27 rfl base 96 i0 (.agg (Array.replicate 8 (.int .u64 0))) 8 64 Tryz.underlying27 HI.out hz0 hz1 hz2 rfl (.slice a9 (N i + j) c9) (N i + j) (rep (N i + j) (Jg (M i))) rfl (O1.later (O1.later fH.out.own Z4) (ja)) (.slice (some ⟨w9.heap.size, 0, none⟩) 1 1) 1 [.int .u64 (M i), .int .u64 0, .int .u64 0, .int .u64 0, .int .u64 0, .int .u64 0, .int .u64 0, .int .u64 0] rfl (YE (by intro u hu; simp only [List.mem_cons, List.not_mem_nil, or_false] at hu; rcases hu with rfl | rfl | rfl | rfl | rfl | rfl | rfl | rfl <;> rfl)) (by unfold maxLen; omega) (by omega) (by simp; omega) ?_
         intro v3 w3 ho3 hg3 hl3; have HN3 := jh (fH.out.next (qt _) (by omega) (qH Z4 (ja)) hg3 hl3 ho3)
         clear ho3 hg3 hl3))
     go_roundw
     case rel => exact ⟨j + 1, by omega, by go_num, HN3.out⟩
     case measure => simp [intOf]; omega
    ·obtain rfl : j = 40 := by omega
     clear hjl h2; have hbk : wr.heap[B]? = w2.heap[B]? := fH.out.frame B (by have := HF2.out.book.lt; omega) (fun e => (HA.out.one i hlt B e).1 rfl); have hgk : wr.heap[gv]? = w2.heap[gv]? := fH.out.frame gv (by omega) (fun e => (HA.out.one i hlt gv e).2 (by rw [HV.out]; rfl)); have d1 := (HF2.out.book.kept hbk).2.1 7 (by omega) (by omega); rw [HV.out] at d1; have hrw := O1.block HF2.out.row (w' := wr) (fun g hg => by rw [HV.out] at hg; cases hg; exact hgk); rw [HV.out] at hrw; obtain ⟨-, l1, -⟩ := Jd hrw hlt; have fr1 := qw hrw (ov + i * 3 + 1); have HST := jh (HF2.out.step HV.out HA.out hlt (qt _) fH.out.size fH.out.frame fH.out.own fH.out.at_ fH.out.start_block); have HSG := jh (fun u => HS2.out.grow (gv := gv) (p := ov + i * 3 + 1) (u := u) fH.out.size fH.out.frame hlt (by rw [HV.out]; rfl)); clear hbk hgk hrw
     go_wp2_with fail
     go_roundw
     case rel => exact ⟨i + 1, _, by omega, by go_num, HST.out, fun p h1 h2 => by rw [if_neg (by omega)]; exact HGN.out p (by omega) h2, ((HB2.out.trans fH.out.below).setCell (p := ⟨gv, ov + i * 3 + 1, none⟩) yT _), by simp; omega, HSG.out _⟩
     case measure => simp [intOf]; omega
  ·obtain rfl : i = k := by omega
   have SK := jh hf; have KG := jh hbl; clear hf hbl
   go_wp2_with fail
   go_end0
   exact ⟨rfl, ⟨G', SK.out⟩, KG.out, HSP.out⟩
theorem yS {w : World} {g p m : Nat} (h : ∀ q u, (Jg m)[q]? = some u → w.cell? ⟨g, p + q, none⟩ = some u) : (Instr.loadAt 96 (.pointer (some ⟨g, p, none⟩))).run Tryz.prog w = .ok (.agg #[.int .u64 m, .int .u64 0, .int .u64 0, .int .u64 0, .int .u64 0, .int .u64 0, .int .u64 0, .int .u64 0]) w :=
 run_loadAt_mid (P := Tryz.prog) w g p 96 (Jg m) _ h Tryz.underlying96 rfl PP
def MkAt (m : Nat) (w : World) (g p : Nat) : Prop := ∀ q u, (Jg m)[q]? = some u → w.cell? ⟨g, p + q, none⟩ = some u
theorem MkAt.later {m : Nat} {w w' : World} {g p : Nat} (h : MkAt m w g p) (hb : Below w.heap.size w w') : MkAt m w' g p := fun q u hu => jm (h q u hu) hb
theorem xP (w : World) (B base n k z : Nat) (F L G : Nat → Value) (M N : Nat → Nat) (hF : Grow 96 147 8 7 Jg M z w base B n k F L G N k) (hk : k ≤ 1000) (hM : ∀ i, i < k → M i ≤ 1000) (hN : ∀ i, i < k → N i ≤ 4000000) :
  Calls Tryz.prog 82 #[.pointer (some ⟨B, 0, none⟩)] w fun e w' => e = .returned (.bool true) ∧ Below w.heap.size w w' := by
 have HF := jh hF; have HN := jh hN; have HM := jh hM; obtain ⟨va, vc, hvb⟩ := hF.row.sl; have HV := jh hvb; clear hF hN hM hvb
 go_enter Tryz.func82, Tryz.ntmps82
 go_wp2_with fail
 go_loopw [3] (fun i wr => ∃ i' : Nat, i' ≤ k ∧ i = .int .i64 i' ∧ Below w.heap.size w wr) (fun i _ => k - (intOf i).toNat)
 case atStart => exact ⟨0, Nat.zero_le _, rfl, Below.refl _ _⟩
 case round =>
  obtain ⟨i, hi, rfl, hbl⟩ := hrel; obtain ⟨wo, rfl⟩ : ∃ wo : World, wo = wr := ⟨_, rfl⟩; have hf := HF.out.later hbl; have d1 := hf.book.2.1 7 (by omega) (by omega); rw [HV.out] at d1
  by_cases hlt : i < k
  ·have hrow := hf.row; rw [HV.out] at hrow; obtain ⟨gv, ov, cv, hvb, hcv1, hcv2, yT, hcv4⟩ := Jo hrow hlt
   cases hvb
   obtain ⟨l0, l1, l2⟩ := Jd hrow hlt; obtain ⟨k1, k2⟩ := hf.done i hlt hlt; obtain ⟨la, lc, hL, _, _⟩ := k1.sl; obtain ⟨ga, gc, hG, _, _⟩ := k2.sl; have lo1 := hf.low i hlt; have lo2 := fun g h => (hf.far i hlt hlt g h).1
   rw [hL] at l0 k1 lo1; rw [hG] at l1 k2 lo2; have hnn := HN.out i hlt; have hmm := HM.out i hlt; have KG := jh hbl; have K1 := jh k1; have K2 := jh k2; have LO1 := jh lo1; have LO2 := jh lo2; unfold maxLen at hcv2; clear hf hbl hL hG k1 k2 hrow lo1 lo2
   go_wp2_with fail
   obtain ⟨w2, e2⟩ := je (wo.alloc (.cells #[.slice la (N i) lc, .slice ga (N i + 40) gc, .int .i64 (M i)] 147)); have h0 : w2.cell? ⟨wo.heap.size, 0, none⟩ = some (.slice la (N i) lc) := by rw [e2]; simp
   have h1 : w2.cell? ⟨wo.heap.size, 1, none⟩ = some (.slice ga (N i + 40) gc) := by rw [e2]; simp
   have h2 : w2.cell? ⟨wo.heap.size, 2, none⟩ = some (.int .i64 (M i)) := by rw [e2]; simp
   have hb2 := jc e2; rw [← e2]; clear e2 l0 l1 l2 d1; have HB2 := jh (qH KG.out hb2); have K12 := jh (K1.out.block (w' := w2) (fun g hg => hb2.block g (LO1.out g hg))); have K22 := jh (K2.out.block (w' := w2) (fun g hg => hb2.block g (LO2.out g hg))); have L12 := jh (fun g hg => Nat.lt_of_lt_of_le (LO1.out g hg) hb2.size); have L22 := jh (fun g hg => Nat.lt_of_lt_of_le (LO2.out g hg) hb2.size); have HH0 := jh h0; have HH1 := jh h1; have WQ := jh h2; clear hb2 K1 K2 LO1 LO2
   go_wp2_with fail
   go_loopw [5] (fun j wq => ∃ j' : Nat, j' ≤ N i + 40 ∧ j = .int .i64 j' ∧ Below w2.heap.size w2 wq) (fun j _ => N i + 40 - (intOf j).toNat)
   case atStart => exact ⟨0, by omega, rfl, Below.refl _ _⟩
   case round =>
    obtain ⟨j, hj, rfl, hbq⟩ := hrel; have q0 := jm HH0.out hbq; have q1 := jm HH1.out hbq; have q2 := jm WQ.out hbq; have HBQ := jh hbq; clear hbq h0 h1 h2
    by_cases hjl : j < N i + 40
    ·obtain ⟨g1, o1, rfl, hc1⟩ := K22.out.cell hjl; have hm1 : MkAt (M i) wr g1 (o1 + j * 8) := fun q u hu => jm (hc1 q u hu) HBQ.out
     have yU := jh hm1; clear hc1 hm1; have N8 : (j : Int) < (N i : Int) + 40 := by omega
     by_cases hjn : j < N i
     ·obtain ⟨g2, o2, rfl, hc2⟩ := K12.out.cell hjn; have hm2 : MkAt (M i) wr g2 (o2 + j * 8) := fun q u hu => jm (hc2 q u hu) HBQ.out
      have HM2 := jh hm2; clear hc2 hm2; have hlnI : (j : Int) < (N i : Int) := by omega
      have Q0 := jh q0; have Q1 := jh q1; have Q2 := jh q2
      go_upto_region 10 with fail
      clear q0 q1 q2; refine qF [(0, true), (1, true), (2, true), (3, true), (4, true), (5, true), (6, true), (7, false), (8, true), (9, true), (10, true), (11, true), (12, true), (13, true), (14, true), (15, true), (16, true), (17, true), (18, true), (19, true), (20, true), (21, true), (22, true), (23, false), (24, true), (25, true), (26, true)] (fun w8 => Below wr.heap.size wr w8) (by kernel_rfl) (by kernel_rfl) (fun _ _ _ _ _ h => h) ((Below.refl wr.heap.size wr).drew) (fun hHeld => ?_); refine WP.tk rfl (k := ?_); refine WP.tk (v := .slice (some ⟨g1, o1, none⟩) (N i + 40) gc) rfl (fun w8 hSw => jg (JO (jm Q1.out hSw))) (k := ?_); refine WP.tk rfl (k := ?_); refine WP.tk (v := .pointer (some ⟨g1, o1 + j * 8, none⟩)) rfl (fun w8 hSw => by simp [go_sem, N8]) (k := ?_); refine WP.tk (v := .agg #[.int .u64 (M i), .int .u64 0, .int .u64 0, .int .u64 0, .int .u64 0, .int .u64 0, .int .u64 0, .int .u64 0]) rfl (fun w8 hSw => jg (yS (yU.out.later hSw))) (k := ?_); refine WP.tk rfl (k := ?_); refine WP.tk (v := .int .i64 (M i)) rfl (fun w8 hSw => jg (Qy (jm Q2.out hSw))) (k := ?_); refine WP.step rfl (fun K hK => ?_)
      go_simp
      refine (rF _ (M i) hmm).mono ?_; rintro _ x1 ⟨rfl, hb⟩; refine hK.out _ _ (qH hHeld hb) (fun hHeld => ?_); clear hK K
      try simp only [Act.put, pa, pb, pc]
      iterate 4
       refine WP.tk rfl (k := ?_)
      refine WP.tk (v := .slice (some ⟨g2, o2, none⟩) (N i) lc) rfl (fun w8 hSw => jg (JO (jm Q0.out hSw))) (k := ?_); refine WP.tk rfl (k := ?_); refine WP.tk (v := .bool true) rfl (fun w8 hSw => by simp [go_sem, hlnI]) (k := ?_)
      iterate 2
       refine WP.tk rfl (k := ?_)
      refine WP.tk (v := .slice (some ⟨g2, o2, none⟩) (N i) lc) rfl (fun w8 hSw => jg (JO (jm Q0.out hSw))) (k := ?_); refine WP.tk rfl (k := ?_); refine WP.tk (v := .pointer (some ⟨g2, o2 + j * 8, none⟩)) rfl (fun w8 hSw => by simp [go_sem, hlnI]) (k := ?_); refine WP.tk (v := .agg #[.int .u64 (M i), .int .u64 0, .int .u64 0, .int .u64 0, .int .u64 0, .int .u64 0, .int .u64 0, .int .u64 0]) rfl (fun w8 hSw => jg (yS (HM2.out.later hSw))) (k := ?_); refine WP.tk rfl (k := ?_); refine WP.tk (v := .int .i64 (M i)) rfl (fun w8 hSw => jg (Qy (jm Q2.out hSw))) (k := ?_); refine WP.step rfl (fun K hK => ?_)
      go_simp
      refine (rF _ (M i) hmm).mono ?_; rintro _ x2 ⟨rfl, hb⟩; refine hK.out _ _ (qH hHeld hb) (fun hHeld => ?_); clear hK K
      try simp only [Act.put, pa, pb, pc]
      iterate 3
       refine WP.tk rfl (k := ?_)
      refine WP.done ?_; have HHL := jh hHeld; clear hHeld
      go_wp2_with fail
      go_roundw
      case rel => exact ⟨j + 1, by omega, by go_num, qH HBQ.out HHL.out⟩
      case measure => simp [intOf]; omega
     ·have hlnI : ¬ (j : Int) < (N i : Int) := by omega
      have Q0 := jh q0; have Q1 := jh q1; have Q2 := jh q2
      go_upto_region 10 with fail
      clear q0 q1 q2; refine qF [(0, true), (1, true), (2, true), (3, true), (4, true), (5, true), (6, true), (7, false), (8, true), (9, true), (10, true), (11, true), (12, true), (13, true), (14, true), (15, true), (16, true), (17, true), (18, true), (19, true), (20, true), (21, true), (22, true), (23, false), (24, true), (25, true), (26, true)] (fun w8 => Below wr.heap.size wr w8) (by kernel_rfl) (by kernel_rfl) (fun _ _ _ _ _ h => h) ((Below.refl wr.heap.size wr).drew) (fun hHeld => ?_); refine WP.tk rfl (k := ?_); refine WP.tk (v := .slice (some ⟨g1, o1, none⟩) (N i + 40) gc) rfl (fun w8 hSw => jg (JO (jm Q1.out hSw))) (k := ?_); refine WP.tk rfl (k := ?_); refine WP.tk (v := .pointer (some ⟨g1, o1 + j * 8, none⟩)) rfl (fun w8 hSw => by simp [go_sem, N8]) (k := ?_); refine WP.tk (v := .agg #[.int .u64 (M i), .int .u64 0, .int .u64 0, .int .u64 0, .int .u64 0, .int .u64 0, .int .u64 0, .int .u64 0]) rfl (fun w8 hSw => jg (yS (yU.out.later hSw))) (k := ?_); refine WP.tk rfl (k := ?_); refine WP.tk (v := .int .i64 (M i)) rfl (fun w8 hSw => jg (Qy (jm Q2.out hSw))) (k := ?_); refine WP.step rfl (fun K hK => ?_)
      go_simp
      refine (rF _ (M i) hmm).mono ?_; rintro _ x1 ⟨rfl, hb⟩; refine hK.out _ _ (qH hHeld hb) (fun hHeld => ?_); clear hK K
      try simp only [Act.put, pa, pb, pc]
      iterate 4
       refine WP.tk rfl (k := ?_)
      refine WP.tk (v := .slice la (N i) lc) rfl (fun w8 hSw => jg (JO (jm Q0.out hSw))) (k := ?_); refine WP.tk rfl (k := ?_); refine WP.tk (v := .bool false) rfl (fun w8 hSw => by simp [go_sem, hlnI]) (k := ?_); refine WP.tk rfl (k := ?_)
      iterate 7
       refine WP.tu rfl (k := ?_)
      refine WP.step rfl (fun K hK => ?_); refine LP (by rfl) ?_; refine hK.out _ _ (hHeld) (fun hHeld => ?_); clear hK K
      try simp only [Act.put, pa, pb, pc]
      refine WP.tu rfl (k := ?_)
      iterate 2
       refine WP.tk rfl (k := ?_)
      refine WP.done ?_; have HHL := jh hHeld; clear hHeld
      go_wp2_with fail
      go_roundw
      case rel => exact ⟨j + 1, by omega, by go_num, qH HBQ.out HHL.out⟩
      case measure => simp [intOf]; omega
    ·obtain rfl : j = N i + 40 := by omega
     clear hjl
     go_wp2_with fail
     go_roundw
     case rel => exact ⟨i + 1, by omega, by go_num, qH HB2.out HBQ.out⟩
     case measure => simp [intOf]; omega
  ·obtain rfl : i = k := by omega
   have KG := jh hbl; clear hf hbl
   go_wp2_with fail
   go_ret
   exact ⟨rfl, KG.out⟩
theorem FD.across {E H : TypeId} {s f : Nat} {M : Nat → Nat} {w w1 : World} {base B n k k' : Nat} {F L G L' : Nat → Value} {N : Nat → Nat} {X : Nat → List Value} {v : Value} (h : FD E H s f M w base B n k F L G N X) (hs : Y7 k' L' v w w1) (hb : I9 w1 B n F)
  (h1 : ∀ g, (F f).ownBlock = some g → v.ownBlock ≠ some g ∧ ∀ i, i < k' → (L' i).ownBlock ≠ some g) (h2 : ∀ i, i < k → ∀ g, (L i).ownBlock = some g → v.ownBlock ≠ some g ∧ ∀ j, j < k' → (L' j).ownBlock ≠ some g) : FD E H s f M w1 base B n k F L G N X :=
 ⟨hb, O1.block h.row (fun g hg => hs.2 g (O1.lt h.row g hg).2 (h1 g hg).1 (h1 g hg).2), fun i hi => O1.block (h.own i hi) (fun g hg => hs.2 g (O1.lt (h.own i hi) g hg).2 (h2 i hi g hg).1 (h2 i hi g hg).2)⟩
theorem Grow.across {E H : TypeId} {s f : Nat} {mk : Nat → List Value} {M : Nat → Nat} {z : Nat} {w w1 : World} {base B n k k' : Nat} {F L G L' : Nat → Value} {N : Nat → Nat} {v : Value} (h : Grow E H s f mk M z w base B n k F L G N k) (hs : Y7 k' L' v w w1) (h0 : v.ownBlock ≠ some B ∧ ∀ i, i < k' → (L' i).ownBlock ≠ some B)
  (h1 : ∀ g, (F f).ownBlock = some g → v.ownBlock ≠ some g ∧ ∀ i, i < k' → (L' i).ownBlock ≠ some g) (h2 : ∀ i, i < k → ∀ g, (L i).ownBlock = some g → v.ownBlock ≠ some g ∧ ∀ j, j < k' → (L' j).ownBlock ≠ some g)
  (h3 : ∀ g, z ≤ g → v.ownBlock ≠ some g ∧ ∀ i, i < k' → (L' i).ownBlock ≠ some g) : Grow E H s f mk M z w1 base B n k F L G N k :=
 h.kept hs.1 (hs.2 B h.book.lt h0.1 h0.2) (fun g hg => hs.2 g (O1.lt h.row g hg).2 (h1 g hg).1 (h1 g hg).2) (fun j hj g hg => hs.2 g (h.low j hj g hg) (h2 j hj g hg).1 (h2 j hj g hg).2)
  (fun j _ hj g hg => by
   have hl := (h.far j hj hj g hg).1
   rcases h.new j hj hj g hg with h9 | h9
   ·exact hs.2 g hl (h2 j hj g h9).1 (h2 j hj g h9).2
   ·exact hs.2 g hl (h3 g h9).1 (h3 g h9).2)
structure Kt (w : World) (base B n kB kK KB KK : Nat) (F LB LK : Nat → Value) (MB MK NB NK : Nat → Nat) (XB XK : Nat → List Value) : Prop where
 book : I9 w B n F
 rowB : O1 w base 115 3 (F 1) kB (Zj MB LB (fun _ => .slice none 0 0) kB)
 rowK : O1 w base 147 3 (F 7) kK (Zj MK LK (fun _ => .slice none 0 0) kK)
 ownB : ∀ i, i < KB → O1 w base 5 1 (LB i) (NB i) (XB i)
 ownK : ∀ i, i < KK → O1 w base 96 8 (LK i) (NK i) (XK i)
 nB : (F 1).ownBlock ≠ some B
 nK : (F 7).ownBlock ≠ some B
 rows : ∀ g, (F 1).ownBlock = some g → (F 7).ownBlock ≠ some g
 oneB : ∀ i, i < KB → ∀ g, (LB i).ownBlock = some g → g ≠ B ∧ (F 1).ownBlock ≠ some g ∧ (F 7).ownBlock ≠ some g
 oneK : ∀ i, i < KK → ∀ g, (LK i).ownBlock = some g → g ≠ B ∧ (F 1).ownBlock ≠ some g ∧ (F 7).ownBlock ≠ some g
 twoB : ∀ i j, i < KB → j < KB → i ≠ j → ∀ g, (LB i).ownBlock = some g → (LB j).ownBlock ≠ some g
 twoK : ∀ i j, i < KK → j < KK → i ≠ j → ∀ g, (LK i).ownBlock = some g → (LK j).ownBlock ≠ some g
 twoBK : ∀ i j, i < KB → j < KK → ∀ g, (LB i).ownBlock = some g → (LK j).ownBlock ≠ some g
 nil : ∀ j, 2 ≤ j → j < 18 → j ≠ 7 → F j = .slice none 0 0
 lowB : ∀ g, (F 1).ownBlock = some g → B < g
 lowK : ∀ g, (F 7).ownBlock = some g → B < g
section
variable {w w' : World} {base B n kB kK KB KK : Nat} {F LB LK : Nat → Value} {MB MK NB NK : Nat → Nat} {XB XK : Nat → List Value}
theorem Kt.later (h : Kt w base B n kB kK KB KK F LB LK MB MK NB NK XB XK) (hb : Below w.heap.size w w') : Kt w' base B n kB kK KB KK F LB LK MB MK NB NK XB XK :=
 ⟨h.book.kept (hb.block B h.book.lt), O1.later h.rowB hb, O1.later h.rowK hb, fun i hi => O1.later (h.ownB i hi) hb, fun i hi => O1.later (h.ownK i hi) hb, h.nB, h.nK, h.rows, h.oneB, h.oneK, h.twoB, h.twoK, h.twoBK, h.nil, h.lowB, h.lowK⟩
theorem Kt.nextB (h : Kt w base B n kB kK KB KK F LB LK MB MK NB NK XB XK) (hk : kB < KB) (hK : KB ≤ 1000) (hn : n ≤ 1000) (hB : base ≤ B) (hM : MB kB = n + 1) :
  Calls Tryz.prog 37 #[.pointer (some ⟨B, 0, none⟩), LB kB] w fun e w' => e = .returned (.tuple #[]) ∧ (∃ F', Kt w' base B (n + 1) (kB + 1) kK KB KK F' LB LK MB MK NB NK XB XK) ∧ Below B w w' := by
 obtain ⟨a, c, hL⟩ := (h.ownB kB hk).sl; rw [hL]; refine (dN w B base n kB F LB (fun _ => .slice none 0 0) MB a (NB kB) c h.book h.rowB h.nB (by omega) hn hB hM hL rfl).mono ?_; rintro e w' ⟨he, TV, h1, h2, h3, h4, h5⟩
 refine ⟨he, ⟨_, h1, h2, O1.block h.rowK (fun g hg => (h5 g (O1.lt h.rowK g hg).2 (fun e => h.nK (by rw [← e]; exact hg)) (fun e => h.rows g e hg)).1), fun i hi => O1.block (h.ownB i hi) (fun g hg => (h5 g (O1.lt (h.ownB i hi) g hg).2 (h.oneB i hi g hg).1 (h.oneB i hi g hg).2.1).1), fun i hi => O1.block (h.ownK i hi) (fun g hg => (h5 g (O1.lt (h.ownK i hi) g hg).2 (h.oneK i hi g hg).1 (h.oneK i hi g hg).2.1).1),
  h3, h.nK, fun g e hg => (h5 g (O1.lt h.rowK g hg).2 (fun e => h.nK (by rw [← e]; exact hg)) (fun e => h.rows g e hg)).2 e, fun i hi g hg => ⟨(h.oneB i hi g hg).1, (h5 g (O1.lt (h.ownB i hi) g hg).2 (h.oneB i hi g hg).1 (h.oneB i hi g hg).2.1).2, (h.oneB i hi g hg).2.2⟩, fun i hi g hg => ⟨(h.oneK i hi g hg).1, (h5 g (O1.lt (h.ownK i hi) g hg).2 (h.oneK i hi g hg).1 (h.oneK i hi g hg).2.1).2, (h.oneK i hi g hg).2.2⟩, h.twoB, h.twoK, h.twoBK, fun j h6 h7 h8 => ?_, fun g hg => ?_, h.lowK⟩, ?_⟩
 ·show (if j = 1 then TV else F j) = _
  rw [if_neg (by omega)]; exact h.nil j h6 h7 h8
 ·have hBl := h.book.lt
  by_cases hgs : g < w.heap.size
  ·by_cases hgB : g = B
   ·exact absurd (by rw [← hgB]; exact hg) h3
   ·by_cases hgF : (F 1).ownBlock = some g
    ·exact h.lowB g hgF
    ·exact absurd hg (h5 g hgs hgB hgF).2
  ·omega
 ·obtain ⟨a1, a2, a3, a4, _⟩ := h4; have hBl := h.book.lt; exact ⟨a1, a2, a3, a4, fun g hg => (h5 g (by omega) (by omega) (fun e => by have := h.lowB g e; omega)).1⟩
theorem Kt.nextK (h : Kt w base B n kB kK KB KK F LB LK MB MK NB NK XB XK) (hk : kK < KK) (hK : KK ≤ 1000) (hn : n ≤ 1000) (hB : base ≤ B) (hM : MK kK = n + 1) :
  Calls Tryz.prog 117 #[.pointer (some ⟨B, 0, none⟩), LK kK] w fun e w' => e = .returned (.tuple #[]) ∧ (∃ F', Kt w' base B (n + 1) kB (kK + 1) KB KK F' LB LK MB MK NB NK XB XK) ∧ Below B w w' := by
 obtain ⟨a, c, hL⟩ := (h.ownK kK hk).sl; rw [hL]; refine (FP w B base n kK F LK (fun _ => .slice none 0 0) MK a (NK kK) c h.book h.rowK h.nK (by omega) hn hB hM hL rfl).mono ?_; rintro e w' ⟨he, TV, h1, h2, h3, h4, h5⟩
 refine ⟨he, ⟨_, h1, O1.block h.rowB (fun g hg => (h5 g (O1.lt h.rowB g hg).2 (fun e => h.nB (by rw [← e]; exact hg)) (h.rows g hg)).1), h2, fun i hi => O1.block (h.ownB i hi) (fun g hg => (h5 g (O1.lt (h.ownB i hi) g hg).2 (h.oneB i hi g hg).1 (h.oneB i hi g hg).2.2).1), fun i hi => O1.block (h.ownK i hi) (fun g hg => (h5 g (O1.lt (h.ownK i hi) g hg).2 (h.oneK i hi g hg).1 (h.oneK i hi g hg).2.2).1),
  h.nB, h3, fun g hg => (h5 g (O1.lt h.rowB g hg).2 (fun e => h.nB (by rw [← e]; exact hg)) (h.rows g hg)).2, fun i hi g hg => ⟨(h.oneB i hi g hg).1, (h.oneB i hi g hg).2.1, (h5 g (O1.lt (h.ownB i hi) g hg).2 (h.oneB i hi g hg).1 (h.oneB i hi g hg).2.2).2⟩, fun i hi g hg => ⟨(h.oneK i hi g hg).1, (h.oneK i hi g hg).2.1, (h5 g (O1.lt (h.ownK i hi) g hg).2 (h.oneK i hi g hg).1 (h.oneK i hi g hg).2.2).2⟩, h.twoB, h.twoK, h.twoBK, fun j h6 h7 h8 => ?_, h.lowB, fun g hg => ?_⟩, ?_⟩
 ·show (if j = 7 then TV else F j) = _
  rw [if_neg h8]; exact h.nil j h6 h7 h8
 ·have hBl := h.book.lt
  by_cases hgs : g < w.heap.size
  ·by_cases hgB : g = B
   ·exact absurd (by rw [← hgB]; exact hg) h3
   ·by_cases hgF : (F 7).ownBlock = some g
    ·exact h.lowK g hgF
    ·exact absurd hg (h5 g hgs hgB hgF).2
  ·omega
 ·obtain ⟨a1, a2, a3, a4, _⟩ := h4; have hBl := h.book.lt; exact ⟨a1, a2, a3, a4, fun g hg => (h5 g (by omega) (by omega) (fun e => by have := h.lowK g e; omega)).1⟩
abbrev bk0 : Array Value := #[.int .i64 0, .slice none 0 0, .slice none 0 0, .slice none 0 0, .slice none 0 0, .slice none 0 0, .slice none 0 0, .slice none 0 0, .slice none 0 0, .slice none 0 0, .slice none 0 0, .slice none 0 0, .slice none 0 0, .slice none 0 0, .slice none 0 0, .slice none 0 0, .slice none 0 0, .slice none 0 0]
theorem bk_new (w : World) (t : TypeId) : I9 (w.alloc (.cells bk0 t)) w.heap.size 0 (fun _ => .slice none 0 0) := by
 have h := heap_alloc_new w (.cells bk0 t); have hc : ∀ j, (w.alloc (.cells bk0 t)).cell? ⟨w.heap.size, j, none⟩ = bk0[j]? := fun j => cell_of_row _ w.heap.size j bk0 t (0, 0) h
 refine ⟨hc 0, fun j h1 h2 => ?_, fun j _ => by simp⟩; rw [hc]; have hj : j = 1 ∨ j = 2 ∨ j = 3 ∨ j = 4 ∨ j = 5 ∨ j = 6 ∨ j = 7 ∨ j = 8 ∨ j = 9 ∨ j = 10 ∨ j = 11 ∨ j = 12 ∨ j = 13 ∨ j = 14 ∨ j = 15 ∨ j = 16 ∨ j = 17 := by omega
 rcases hj with rfl | rfl | rfl | rfl | rfl | rfl | rfl | rfl | rfl | rfl | rfl | rfl | rfl | rfl | rfl | rfl | rfl <;> rfl
theorem Kt.start (t : TypeId) (oB : ∀ i, i < KB → O1 w base 5 1 (LB i) (NB i) (XB i)) (oK : ∀ i, i < KK → O1 w base 96 8 (LK i) (NK i) (XK i))
  (tB : ∀ i j, i < KB → j < KB → i ≠ j → ∀ g, (LB i).ownBlock = some g → (LB j).ownBlock ≠ some g) (tK : ∀ i j, i < KK → j < KK → i ≠ j → ∀ g, (LK i).ownBlock = some g → (LK j).ownBlock ≠ some g) (tBK : ∀ i j, i < KB → j < KK → ∀ g, (LB i).ownBlock = some g → (LK j).ownBlock ≠ some g) :
  Kt (w.alloc (.cells bk0 t)) base w.heap.size 0 0 0 KB KK (fun _ => .slice none 0 0) LB LK MB MK NB NK XB XK :=
 ⟨bk_new w t, ⟨rfl, .inl ⟨rfl, rfl⟩⟩, ⟨rfl, .inl ⟨rfl, rfl⟩⟩, fun i hi => O1.later (oB i hi) (ja), fun i hi => O1.later (oK i hi) (ja), fun e => (by simp [Value.ownBlock] at e), fun e => (by simp [Value.ownBlock] at e), fun g e => (by simp [Value.ownBlock] at e),
  fun i hi g hg => ⟨fun e => by have := (O1.lt (oB i hi) g hg).2; omega, fun e => (by simp [Value.ownBlock] at e), fun e => (by simp [Value.ownBlock] at e)⟩, fun i hi g hg => ⟨fun e => by have := (O1.lt (oK i hi) g hg).2; omega, fun e => (by simp [Value.ownBlock] at e), fun e => (by simp [Value.ownBlock] at e)⟩, tB, tK, tBK, fun _ _ _ _ => rfl, fun g e => (by simp [Value.ownBlock] at e), fun g e => (by simp [Value.ownBlock] at e)⟩
end
theorem jS {w : World} {B n : Nat} {F : Nat → Value} (h : I9 w B n F) (hn : ∀ j, 2 ≤ j → j < 18 → j ≠ 7 → F j = .slice none 0 0) (j : Nat) (hj : 2 ≤ j ∧ j < 18 ∧ j ≠ 7) : w.cell? ⟨B, j, none⟩ = some (.slice none 0 0) := by
 rw [h.2.1 j (by omega) hj.2.1, hn j hj.1 hj.2.1 hj.2.2]
theorem Kt.apart {w : World} {base B n KB KK : Nat} {F LB LK : Nat → Value} {MB MK NB NK : Nat → Nat} {XB XK : Nat → List Value} (h : Kt w base B n KB KK KB KK F LB LK MB MK NB NK XB XK) (OY : KB ≤ 1000) (hKK : KK ≤ 1000) (hMB : ∀ i, i < KB → MB i ≤ 1000) (hMK : ∀ i, i < KK → MK i ≤ 1000) (hB : base ≤ B) (hNB : ∀ i, i < KB → NB i ≤ 4000000) (hNK : ∀ i, i < KK → NK i ≤ 4000000) :
  Calls Tryz.prog 19 #[.pointer (some ⟨B, 0, none⟩)] w fun e w' => e = .returned (.bool true) ∧ Below base w w' ∧ ∀ g, g < w.heap.size → (F 1).ownBlock ≠ some g → (F 7).ownBlock ≠ some g → (∀ i, i < KB → (LB i).ownBlock ≠ some g) → (∀ i, i < KK → (LK i).ownBlock ≠ some g) → w'.heap[g]? = w.heap[g]? := by
 have aB : EC B KB (F 1) LB := ⟨h.nB, fun i hi g hg => ⟨(h.oneB i hi g hg).1, (h.oneB i hi g hg).2.1⟩, h.twoB⟩; have aK : EC B KK (F 7) LK := ⟨h.nK, fun i hi g hg => ⟨(h.oneK i hi g hg).1, (h.oneK i hi g hg).2.2⟩, h.twoK⟩; have r1 : ∀ g, (F 7).ownBlock = some g → (F 1).ownBlock ≠ some g ∧ ∀ i, i < KB → (LB i).ownBlock ≠ some g := fun g hg => ⟨fun e => h.rows g e hg, fun i hi e => (h.oneB i hi g e).2.2 hg⟩
 have r2 : ∀ i, i < KK → ∀ g, (LK i).ownBlock = some g → (F 1).ownBlock ≠ some g ∧ ∀ j, j < KB → (LB j).ownBlock ≠ some g := fun i hi g hg => ⟨(h.oneK i hi g hg).2.1, fun j hj e => h.twoBK j i hj hi g e hg⟩
 have r3 : ∀ g, (F 1).ownBlock = some g → (F 7).ownBlock ≠ some g ∧ ∀ i, i < KK → (LK i).ownBlock ≠ some g := fun g hg => ⟨h.rows g hg, fun i hi e => (h.oneK i hi g e).2.1 hg⟩
 have r4 : ∀ i, i < KB → ∀ g, (LB i).ownBlock = some g → (F 7).ownBlock ≠ some g ∧ ∀ j, j < KK → (LK j).ownBlock ≠ some g := fun i hi g hg => ⟨(h.oneB i hi g hg).2.2, fun j hj => h.twoBK i j hi hj g hg⟩
 have fB : FD 5 115 1 1 MB w base B n KB F LB (fun _ => .slice none 0 0) NB XB := ⟨h.book, h.rowB, h.ownB⟩; have fK : FD 96 147 8 7 MK w base B n KK F LK (fun _ => .slice none 0 0) NK XK := ⟨h.book, h.rowK, h.ownK⟩; have hs : base ≤ w.heap.size := by have := h.book.lt; omega
 have NIL := jh h.nil; have nB := jh h.nB; have nK := jh h.nK; have R0 := jh (show ∀ i, i < KK → (LK i).ownBlock ≠ some B from fun i hi e => (h.oneK i hi B e).1 rfl); have C1 := jh (FN w B base n KB F LB (fun _ => .slice none 0 0) MB NB XB fB aB OY hMB hB (fun _ _ => rfl) hNB); have C2 := jh (fun (w1 : World) h9 => iQ w1 B base n KK F LK (fun _ => .slice none 0 0) MK NK XK h9 aK hKK hMK hB (fun _ _ => rfl) hNK); have C3 := jh (fun (w1 : World) h9 => vN w1 B base n KB w1.heap.size F LB (fun _ => .slice none 0 0) MB NB (Grow.of h9) aB OY hMB hB (fun _ _ => rfl) hNB); have C4 := jh (fun (w1 : World) h9 => dQ w1 B base n KK w1.heap.size F LK (fun _ => .slice none 0 0) MK NK (Grow.of h9) aK hKK hMK hB (fun _ _ => rfl) hNK); have C5 := jh (fun (w1 : World) (z : Nat) (G : Nat → Value) h9 => YM w1 B base n KB z F LB G MB NB h9 OY hMB hNB); have C6 := jh (fun (w1 : World) (z : Nat) (G : Nat → Value) h9 => xP w1 B base n KK z F LK G MK NK h9 hKK hMK hNK); have FK := jh fK; have R1 := jh r1; have R2 := jh r2; have R3 := jh r3; have R4 := jh r4; clear aB aK r1 r2 r3 r4 fB fK h hMB hMK hNB hNK
 go_enter Tryz.func19, Tryz.ntmps19
 go_wp2_with fail
 refine C1.out.mono ?_; rintro _ w1 ⟨rfl, fB, hb, sp⟩; have FK := jh (FK.out.across sp fB.book R1.out R2.out); have FB := jh fB; have BK := jh fB.book; have HB := jh hb; have PR := jh (show ∀ g, g < w.heap.size → (F 1).ownBlock ≠ some g → (F 7).ownBlock ≠ some g → (∀ i, i < KB → (LB i).ownBlock ≠ some g) → (∀ i, i < KK → (LK i).ownBlock ≠ some g) → w1.heap[g]? = w.heap[g]? from fun g h1 h2 h3 h4 h5 => sp.2 g h1 h2 h4); have hs1 := hb.size; clear fB hb sp C1
 go_wp2_with fail
 refine (EN _ B (jS BK.out NIL.out 2 (by decide))).mono ?_; rintro _ _ ⟨rfl, rfl⟩
 go_wp2_with fail
 refine (uK _ B (jS BK.out NIL.out 3 (by decide))).mono ?_; rintro _ _ ⟨rfl, rfl⟩
 go_wp2_with fail
 refine (BN _ B (jS BK.out NIL.out 4 (by decide))).mono ?_; rintro _ _ ⟨rfl, rfl⟩
 go_wp2_with fail
 refine (vK _ B (jS BK.out NIL.out 5 (by decide))).mono ?_; rintro _ _ ⟨rfl, rfl⟩
 go_wp2_with fail
 refine (XG _ B (jS BK.out NIL.out 6 (by decide))).mono ?_; rintro _ _ ⟨rfl, rfl⟩
 go_wp2_with fail
 refine (C2.out w1 FK.out).mono ?_; rintro _ w2 ⟨rfl, fK, hb, sp⟩; have FB := jh (FB.out.across sp fK.book R3.out R4.out); have FK := jh fK; have BK := jh fK.book; have HB := jh (HB.out.trans hb); have PR := jh (show ∀ g, g < w.heap.size → (F 1).ownBlock ≠ some g → (F 7).ownBlock ≠ some g → (∀ i, i < KB → (LB i).ownBlock ≠ some g) → (∀ i, i < KK → (LK i).ownBlock ≠ some g) → w2.heap[g]? = w.heap[g]? from fun g h1 h2 h3 h4 h5 => (sp.2 g (by omega) h3 h5).trans (PR.out g h1 h2 h3 h4 h5)); have hs2 := hb.size; clear fK hb sp C2
 go_wp2_with fail
 refine (fJ _ B (jS BK.out NIL.out 8 (by decide))).mono ?_; rintro _ _ ⟨rfl, rfl⟩
 go_wp2_with fail
 refine (wF _ B (jS BK.out NIL.out 9 (by decide))).mono ?_; rintro _ _ ⟨rfl, rfl⟩
 go_wp2_with fail
 refine (YG _ B (jS BK.out NIL.out 10 (by decide))).mono ?_; rintro _ _ ⟨rfl, rfl⟩
 go_wp2_with fail
 refine (dJ _ B (jS BK.out NIL.out 11 (by decide))).mono ?_; rintro _ _ ⟨rfl, rfl⟩
 go_wp2_with fail
 refine (sK _ B (jS BK.out NIL.out 12 (by decide))).mono ?_; rintro _ _ ⟨rfl, rfl⟩
 go_wp2_with fail
 refine (iJ _ B (jS BK.out NIL.out 13 (by decide))).mono ?_; rintro _ _ ⟨rfl, rfl⟩
 go_wp2_with fail
 refine (wE _ B (jS BK.out NIL.out 14 (by decide))).mono ?_; rintro _ _ ⟨rfl, rfl⟩
 go_wp2_with fail
 refine (DN _ B (jS BK.out NIL.out 15 (by decide))).mono ?_; rintro _ _ ⟨rfl, rfl⟩
 go_wp2_with fail
 refine (gJ _ B (jS BK.out NIL.out 16 (by decide))).mono ?_; rintro _ _ ⟨rfl, rfl⟩
 go_wp2_with fail
 refine (WG _ B (jS BK.out NIL.out 17 (by decide))).mono ?_; rintro _ _ ⟨rfl, rfl⟩
 go_wp2_with fail
 refine (C3.out w2 FB.out).mono ?_; rintro _ w3 ⟨rfl, ⟨G1, gB⟩, hb, sp⟩; have H3 := jh (show ∀ g, w2.heap.size ≤ g → (F 7).ownBlock ≠ some g ∧ ∀ i, i < KK → (LK i).ownBlock ≠ some g from fun g hg => ⟨fun e => by have := (O1.lt FK.out.row g e).2; omega, fun i hi e => by have := (O1.lt (FK.out.own i hi) g e).2; omega⟩); have FK := jh (FK.out.across sp gB.book R1.out R2.out); have GB := jh gB; have BK := jh gB.book; have HB := jh (HB.out.trans hb); have PR := jh (show ∀ g, g < w.heap.size → (F 1).ownBlock ≠ some g → (F 7).ownBlock ≠ some g → (∀ i, i < KB → (LB i).ownBlock ≠ some g) → (∀ i, i < KK → (LK i).ownBlock ≠ some g) → w3.heap[g]? = w.heap[g]? from fun g h1 h2 h3 h4 h5 => (sp.2 g (by omega) h2 h4).trans (PR.out g h1 h2 h3 h4 h5)); have hs3 := hb.size; clear gB hb sp C3 FB
 go_wp2_with fail
 refine (uN _ B (jS BK.out NIL.out 2 (by decide))).mono ?_; rintro _ _ ⟨rfl, rfl⟩
 go_wp2_with fail
 refine (lK _ B (jS BK.out NIL.out 3 (by decide))).mono ?_; rintro _ _ ⟨rfl, rfl⟩
 go_wp2_with fail
 refine (sN _ B (jS BK.out NIL.out 4 (by decide))).mono ?_; rintro _ _ ⟨rfl, rfl⟩
 go_wp2_with fail
 refine (pK _ B (jS BK.out NIL.out 5 (by decide))).mono ?_; rintro _ _ ⟨rfl, rfl⟩
 go_wp2_with fail
 refine (UG _ B (jS BK.out NIL.out 6 (by decide))).mono ?_; rintro _ _ ⟨rfl, rfl⟩
 go_wp2_with fail
 refine (C4.out w3 FK.out).mono ?_; rintro _ w4 ⟨rfl, ⟨G2, gK⟩, hb, sp⟩; have GB := jh (GB.out.across sp ⟨nK.out, R0.out⟩ R3.out R4.out H3.out); have GK := jh gK; have BK := jh gK.book; have HB := jh (HB.out.trans hb); have PR := jh (show ∀ g, g < w.heap.size → (F 1).ownBlock ≠ some g → (F 7).ownBlock ≠ some g → (∀ i, i < KB → (LB i).ownBlock ≠ some g) → (∀ i, i < KK → (LK i).ownBlock ≠ some g) → w4.heap[g]? = w.heap[g]? from fun g h1 h2 h3 h4 h5 => (sp.2 g (by omega) h3 h5).trans (PR.out g h1 h2 h3 h4 h5)); have hs4 := hb.size; clear gK hb sp C4 FK
 go_wp2_with fail
 refine (XI _ B (jS BK.out NIL.out 8 (by decide))).mono ?_; rintro _ _ ⟨rfl, rfl⟩
 go_wp2_with fail
 refine (uF _ B (jS BK.out NIL.out 9 (by decide))).mono ?_; rintro _ _ ⟨rfl, rfl⟩
 go_wp2_with fail
 refine (VG _ B (jS BK.out NIL.out 10 (by decide))).mono ?_; rintro _ _ ⟨rfl, rfl⟩
 go_wp2_with fail
 refine (WI _ B (jS BK.out NIL.out 11 (by decide))).mono ?_; rintro _ _ ⟨rfl, rfl⟩
 go_wp2_with fail
 refine (iK _ B (jS BK.out NIL.out 12 (by decide))).mono ?_; rintro _ _ ⟨rfl, rfl⟩
 go_wp2_with fail
 refine (aJ _ B (jS BK.out NIL.out 13 (by decide))).mono ?_; rintro _ _ ⟨rfl, rfl⟩
 go_wp2_with fail
 refine (iE _ B (jS BK.out NIL.out 14 (by decide))).mono ?_; rintro _ _ ⟨rfl, rfl⟩
 go_wp2_with fail
 refine (tN _ B (jS BK.out NIL.out 15 (by decide))).mono ?_; rintro _ _ ⟨rfl, rfl⟩
 go_wp2_with fail
 refine (YI _ B (jS BK.out NIL.out 16 (by decide))).mono ?_; rintro _ _ ⟨rfl, rfl⟩
 go_wp2_with fail
 refine (TG _ B (jS BK.out NIL.out 17 (by decide))).mono ?_; rintro _ _ ⟨rfl, rfl⟩
 go_wp2_with fail
 refine (C5.out w4 _ G1 GB.out).mono ?_; rintro _ w5 ⟨rfl, hb⟩; have GK := jh (GK.out.later hb); have BK := jh GK.out.book; have HB := jh (HB.out.trans (hb.mono (by omega))); have PR := jh (show ∀ g, g < w.heap.size → (F 1).ownBlock ≠ some g → (F 7).ownBlock ≠ some g → (∀ i, i < KB → (LB i).ownBlock ≠ some g) → (∀ i, i < KK → (LK i).ownBlock ≠ some g) → w5.heap[g]? = w.heap[g]? from fun g h1 h2 h3 h4 h5 => (hb.block g (by omega)).trans (PR.out g h1 h2 h3 h4 h5)); have hs5 := hb.size; clear hb C5 GB
 go_wp2_with fail
 refine (XM _ B (jS BK.out NIL.out 2 (by decide))).mono ?_; rintro _ _ ⟨rfl, rfl⟩
 go_wp2_with fail
 refine (VJ _ B (jS BK.out NIL.out 3 (by decide))).mono ?_; rintro _ _ ⟨rfl, rfl⟩
 go_wp2_with fail
 refine (VM _ B (jS BK.out NIL.out 4 (by decide))).mono ?_; rintro _ _ ⟨rfl, rfl⟩
 go_wp2_with fail
 refine (WJ _ B (jS BK.out NIL.out 5 (by decide))).mono ?_; rintro _ _ ⟨rfl, rfl⟩
 go_wp2_with fail
 refine (OG _ B (jS BK.out NIL.out 6 (by decide))).mono ?_; rintro _ _ ⟨rfl, rfl⟩
 go_wp2_with fail
 refine (C6.out w5 _ G2 GK.out).mono ?_; rintro _ w6 ⟨rfl, hb⟩; have BK := jh (BK.out.kept (hb.block B BK.out.lt)); have HB := jh (HB.out.trans (hb.mono (by omega))); have PR := jh (show ∀ g, g < w.heap.size → (F 1).ownBlock ≠ some g → (F 7).ownBlock ≠ some g → (∀ i, i < KB → (LB i).ownBlock ≠ some g) → (∀ i, i < KK → (LK i).ownBlock ≠ some g) → w6.heap[g]? = w.heap[g]? from fun g h1 h2 h3 h4 h5 => (hb.block g (by omega)).trans (PR.out g h1 h2 h3 h4 h5)); have hs6 := hb.size; clear hb C6 GK
 go_wp2_with fail
 refine (FI _ B (jS BK.out NIL.out 8 (by decide))).mono ?_; rintro _ _ ⟨rfl, rfl⟩
 go_wp2_with fail
 refine (mF _ B (jS BK.out NIL.out 9 (by decide))).mono ?_; rintro _ _ ⟨rfl, rfl⟩
 go_wp2_with fail
 refine (PG _ B (jS BK.out NIL.out 10 (by decide))).mono ?_; rintro _ _ ⟨rfl, rfl⟩
 go_wp2_with fail
 refine (EI _ B (jS BK.out NIL.out 11 (by decide))).mono ?_; rintro _ _ ⟨rfl, rfl⟩
 go_wp2_with fail
 refine (UJ _ B (jS BK.out NIL.out 12 (by decide))).mono ?_; rintro _ _ ⟨rfl, rfl⟩
 go_wp2_with fail
 refine (II _ B (jS BK.out NIL.out 13 (by decide))).mono ?_; rintro _ _ ⟨rfl, rfl⟩
 go_wp2_with fail
 refine (OD _ B (jS BK.out NIL.out 14 (by decide))).mono ?_; rintro _ _ ⟨rfl, rfl⟩
 go_wp2_with fail
 refine (WM _ B (jS BK.out NIL.out 15 (by decide))).mono ?_; rintro _ _ ⟨rfl, rfl⟩
 go_wp2_with fail
 refine (GI _ B (jS BK.out NIL.out 16 (by decide))).mono ?_; rintro _ _ ⟨rfl, rfl⟩
 go_wp2_with fail
 refine (NG _ B (jS BK.out NIL.out 17 (by decide))).mono ?_; rintro _ _ ⟨rfl, rfl⟩
 go_wp2_with fail
 go_ret
 exact ⟨rfl, HB.out, PR.out⟩
theorem uM {B n c : Nat} {a : Option Addr} {Q : World → Prop} (w : World) (H : Calls Tryz.prog 37 #[.pointer (some ⟨B, 0, none⟩), .slice a n c] w fun e w' => e = .returned (.tuple #[]) ∧ Q w') :
  Calls Tryz.prog 12 #[.pointer (some ⟨B, 0, none⟩), .slice a n c] w fun e w' => e = .returned (.tuple #[]) ∧ Q w' := by
 have H := jh H
 go_enter Tryz.func12, Tryz.ntmps12
 go_wp2_with fail
 refine H.out.mono ?_; rintro _ w' ⟨rfl, h⟩; have HH := jh h; clear h
 go_wp2_with fail
 go_end0
 exact ⟨rfl, HH.out⟩
theorem Keys_via {B n c : Nat} {a : Option Addr} {Q : World → Prop} (w : World) (H : Calls Tryz.prog 117 #[.pointer (some ⟨B, 0, none⟩), .slice a n c] w fun e w' => e = .returned (.tuple #[]) ∧ Q w') :
  Calls Tryz.prog 36 #[.pointer (some ⟨B, 0, none⟩), .slice a n c] w fun e w' => e = .returned (.tuple #[]) ∧ Q w' := by
 have H := jh H
 go_enter Tryz.func36, Tryz.ntmps36
 go_wp2_with fail
 refine H.out.mono ?_; rintro _ w' ⟨rfl, h⟩; have HH := jh h; clear h
 go_wp2_with fail
 go_end0
 exact ⟨rfl, HH.out⟩
theorem LQ {B n c gp gq gg gh : Nat} {fa se : Int} {a : Option Addr} {Q : World → Prop} (w : World) (H : ∀ W, Below w.heap.size w W → Calls Tryz.prog 36 #[.pointer (some ⟨B, 0, none⟩), .slice a n c] W fun e w' => e = .returned (.tuple #[]) ∧ Q w') :
  Calls Tryz.prog 11 #[.pointer (some ⟨B, 0, none⟩), qU gp gq gg gh fa se (.slice a n c)] w fun e w' => e = .returned (.tuple #[]) ∧ Q w' := by
 have H := jh H; unfold qU
 go_enter Tryz.func11, Tryz.ntmps11
 go_upto_region 1 with fail
 obtain ⟨w0, e0⟩ := je (w.alloc (.cells #[.int .u64 (jf jd gp 0), .int .u64 (jf jd gp 1), .int .u64 (jf jd gp 2), .int .u64 (jf jd gp 3), .int .u64 (jf jd gq 0), .int .u64 (jf jd gq 1), .int .u64 (jf jd gq 2), .int .u64 (jf jd gq 3), .int .u64 (jf jd gg 0), .int .u64 (jf jd gg 1), .int .u64 (jf jd gg 2), .int .u64 (jf jd gg 3), .int .u64 (jf jd gh 0), .int .u64 (jf jd gh 1), .int .u64 (jf jd gh 2), .int .u64 (jf jd gh 3), .int .i64 fa, .int .i64 se, .slice a n c] 29)); obtain ⟨SB, L9⟩ := je (w.heap.size); have hb := jc e0; have HS := jh (show UA w0 SB gp gq gg gh fa se (.slice a n c) by rw [e0, L9]; exact UA.new _ _ _ _ _ _ _ _ _); have CK := jh (H.out w0 hb); rw [← e0, ← L9]; clear e0 L9 hb H; have GY := HS.out.nd
 go_wp2_with fail
 refine CK.out.mono ?_; rintro _ w' ⟨rfl, h⟩; have HH := jh h; clear h
 go_wp2_with fail
 go_end0
 exact ⟨rfl, HH.out⟩
theorem EY {B n c fr tt x y : Nat} {a : Option Addr} {Q : World → Prop} (w : World) (H : ∀ W, Below w.heap.size w W → Calls Tryz.prog 12 #[.pointer (some ⟨B, 0, none⟩), .slice a n c] W fun e w' => e = .returned (.tuple #[]) ∧ Q w') :
  Calls Tryz.prog 13 #[.pointer (some ⟨B, 0, none⟩), zy fr tt (.slice a n c) x y] w fun e w' => e = .returned (.tuple #[]) ∧ Q w' := by
 have H := jh H; unfold zy
 go_enter Tryz.func13, Tryz.ntmps13
 go_upto_region 1 with fail
 obtain ⟨w0, e0⟩ := je (w.alloc (.cells #[.int .u8 fr, .int .u8 tt, .slice a n c, .int .u64 (jf jd x 0), .int .u64 (jf jd x 1), .int .u64 (jf jd x 2), .int .u64 (jf jd x 3), .int .u64 (jf jd y 0), .int .u64 (jf jd y 1), .int .u64 (jf jd y 2), .int .u64 (jf jd y 3)] 41)); obtain ⟨SB, L9⟩ := je (w.heap.size); have hb := jc e0; have HS := jh (show Z7 w0 SB fr tt (.slice a n c) x y by rw [e0, L9]; exact Z7.new _ _ _ _ _ _ _); have CK := jh (H.out w0 hb); rw [← e0, ← L9]; clear e0 L9 hb H; have GY := HS.out.bv
 go_wp2_with fail
 refine CK.out.mono ?_; rintro _ w' ⟨rfl, h⟩; have HH := jh h; clear h
 go_wp2_with fail
 go_end0
 exact ⟨rfl, HH.out⟩
theorem eqg_grp : Tryz.prog.eqGuardType Tryz.prog.depth 26 = false := by kernel_rfl
theorem DK {w0 w : World} {g : Nat} (h : Below w0.heap.size w0 w) (hg : w0.heap.size ≤ g) (T : Array Value) : Below w0.heap.size w0 (w.setRow g T) :=
 h.grown (Ji w g T) h.size (fun k hk => by injection hk with hk; omega)
theorem O1.kept9 {w w' : World} {B : Nat} {e : TypeId} {size n : Nat} {v : Value} {xs : List Value} {r : Nat} (h : O1 w B e size v n xs) (hg : w.grownBy w' (some r)) (hn : v.ownBlock ≠ some r) : O1 w' B e size v n xs :=
 h.block fun g UC => hg.block g (h.lt g UC).2 (fun e => hn (by rw [UC, e]))
theorem Z7.keep9 {w w' : World} {b fr tt : Nat} {bv : Value} {c s r : Nat} (h : Z7 w b fr tt bv c s) (hg : w.grownBy w' (some r)) (hn : b ≠ r) : Z7 w' b fr tt bv c s :=
 ⟨hg.cell h.fr (fun e => hn (by injection e)), hg.cell h.tt (fun e => hn (by injection e)), hg.cell h.bv (fun e => hn (by injection e)), fun j hj => hg.cell (h.c j hj) (fun e => hn (by injection e)), fun j hj => hg.cell (h.s j hj) (fun e => hn (by injection e)), fun j hj => (qq (hg.block b h.lt (fun e => hn (by injection e)))).trans (h.free j hj)⟩
theorem bH {gp gq gg gh n cap : Nat} {fa se : Int} {ao : Option Addr} {ks : List (Nat × Nat)} (hn : n = ks.length) (X8 : n ≤ 1000) (w : World) (hk : 0 < n → ∃ b o, ao = some ⟨b, o, none⟩ ∧ D8 w b o ks) :
  Calls Tryz.prog 5 #[qU gp gq gg gh fa se (.slice ao n cap)] w fun e w' => ∃ g o c, e = .returned (qU gp gq gg gh fa se (.slice (some ⟨g, o, none⟩) n c)) ∧ dA w' w.heap.size g o c ks ∧ Below w.heap.size w w' := by
 have CK := jh (fun (W : World) (hb : Below w.heap.size w W) => YN (cap := cap) (ao := ao) hn X8 W (fun h0 => by obtain ⟨b, o, h1, h2⟩ := hk h0; exact ⟨b, o, h1, h2.later hb⟩)); clear hn X8 hk; unfold qU
 go_enter Tryz.func5, Tryz.ntmps5
 go_upto_region 1 with fail
 obtain ⟨A8, e0⟩ := je (w.alloc (.cells #[.int .u64 (jf jd gp 0), .int .u64 (jf jd gp 1), .int .u64 (jf jd gp 2), .int .u64 (jf jd gp 3), .int .u64 (jf jd gq 0), .int .u64 (jf jd gq 1), .int .u64 (jf jd gq 2), .int .u64 (jf jd gq 3), .int .u64 (jf jd gg 0), .int .u64 (jf jd gg 1), .int .u64 (jf jd gg 2), .int .u64 (jf jd gg 3), .int .u64 (jf jd gh 0), .int .u64 (jf jd gh 1), .int .u64 (jf jd gh 2), .int .u64 (jf jd gh 3), .int .i64 fa, .int .i64 se, .slice ao n cap] 29)); obtain ⟨F8, e1⟩ := je (A8.alloc (.cells #[.int .u64 0, .int .u64 0, .int .u64 0, .int .u64 0, .int .u64 0, .int .u64 0, .int .u64 0, .int .u64 0, .int .u64 0, .int .u64 0, .int .u64 0, .int .u64 0, .int .u64 0, .int .u64 0, .int .u64 0, .int .u64 0, .int .i64 0, .int .i64 0, .slice none 0 0] 29)); have s0 : A8.heap.size = w.heap.size + 1 := by rw [e0]; simp
 have b0 := jc e0; have b1 := jc e1; have f0 : UA A8 w.heap.size gp gq gg gh fa se (.slice ao n cap) := by rw [e0]; exact UA.new _ _ _ _ _ _ _ _ _
 have f1 : F8.heap[w.heap.size + 1]? = some (.cells #[.int .u64 0, .int .u64 0, .int .u64 0, .int .u64 0, .int .u64 0, .int .u64 0, .int .u64 0, .int .u64 0, .int .u64 0, .int .u64 0, .int .u64 0, .int .u64 0, .int .u64 0, .int .u64 0, .int .u64 0, .int .u64 0, .int .i64 0, .int .i64 0, .slice none 0 0] 29 (0, 0)) := by rw [← s0, e1]; exact heap_alloc_new _ _
 rw [← e0, ← e1]; obtain ⟨SB, L9⟩ := je (w.heap.size); rw [← L9] at f0 f1 ⊢; obtain ⟨RB, oH⟩ := je (SB + 1); rw [← oH] at f1 ⊢; have HB := jh (jk b0 b1); have HS := jh (f0.later b1); have HR := jh f1; have HWR := jh (show w.heap.size ≤ RB by omega); have HSR := jh (show RB < F8.heap.size from (Array.getElem?_eq_some_iff.1 f1).1); have eH := jh (show SB ≠ RB by omega); clear e0 e1 s0 b0 b1 f0 f1 L9 oH
 skip
 refine jY (.take 0 (.take 1 (.take 2 (.take 3 (.take 4 (.take 5 (.take 6 (.take 7 (.step 8 (.take 9 (.step 10 .done))))))))))) (fun w8 => UA w8 SB gp gq gg gh fa se (.slice ao n cap)) (by kernel_rfl) (by kernel_rfl) (fun _ _ _ _ _ h => h) (HS.out.later ((Below.refl _ _).drew)) (fun hHeld => ?_); obtain ⟨x1, e1⟩ := je (F8.drew); rw [← e1]; have hb : Below F8.heap.size F8 x1 := by rw [e1]; exact (Below.refl _ _).drew
 have HS := jh (HS.out.later hb); have HB := jw HB hb; have HR := jb hb HR; clear hb e1; refine WT.tk rfl (k := ?_); refine WT.take rfl (Or.inl ⟨by rfl, fun w8 hSw => jg (qR hSw.grp)⟩) ?_
 try simp only [Act.put, pa, pb, pc]
 refine WT.tk rfl (k := ?_); refine WT.tk (v := .int .i64 fa) rfl (fun w8 hSw => jg (Qy hSw.fa)) (k := ?_); refine WT.tk rfl (k := ?_); refine WT.tk (v := .int .i64 se) rfl (fun w8 hSw => jg (Qy hSw.se)) (k := ?_); refine WT.tk rfl (k := ?_); refine WT.tk (v := .slice ao n cap) rfl (fun w8 hSw => jg (JO hSw.nd)) (k := ?_); refine WT.step rfl (fun K hK => ?_)
 go_simp
 refine (CK.out _ HB.out).mono ?_; rintro _ x2 ⟨g9, o9, c9, rfl, ht, hb⟩; have HT := jh (show dA x2 w.heap.size g9 o9 c9 ks from ⟨ht.1, O1.base ht.2 HB.out.size⟩); have HTR := jh (show RB ≠ g9 by have h8 := (O1.lt ht.2 g9 rfl).1; have h9 := (Array.getElem?_eq_some_iff.1 HR.out).1; omega); clear ht; have HS := jh (HS.out.later hb); have HB := jw HB hb; have HR := jb hb HR; clear hb; refine hK.out _ _ (HS.out) (fun hHeld => ?_); clear hK K
 try simp only [Act.put, pa, pb, pc]
 refine WT.tk (v := .agg #[.int .u64 (jf jd gp 0), .int .u64 (jf jd gp 1), .int .u64 (jf jd gp 2), .int .u64 (jf jd gp 3), .int .u64 (jf jd gq 0), .int .u64 (jf jd gq 1), .int .u64 (jf jd gq 2), .int .u64 (jf jd gq 3), .int .u64 (jf jd gg 0), .int .u64 (jf jd gg 1), .int .u64 (jf jd gg 2), .int .u64 (jf jd gg 3), .int .u64 (jf jd gh 0), .int .u64 (jf jd gh 1), .int .u64 (jf jd gh 2), .int .u64 (jf jd gh 3), .int .i64 fa, .int .i64 se, .slice (some ⟨g9, o9, none⟩) n c9]) rfl (fun w8 hSw => by kernel_rfl) (k := ?_); refine WT.step rfl (fun K hK => ?_); refine QM (by kernel_rfl) _ _ _ rfl RB _ #[.int .u64 (jf jd gp 0), .int .u64 (jf jd gp 1), .int .u64 (jf jd gp 2), .int .u64 (jf jd gp 3), .int .u64 (jf jd gq 0), .int .u64 (jf jd gq 1), .int .u64 (jf jd gq 2), .int .u64 (jf jd gq 3), .int .u64 (jf jd gg 0), .int .u64 (jf jd gg 1), .int .u64 (jf jd gg 2), .int .u64 (jf jd gg 3), .int .u64 (jf jd gh 0), .int .u64 (jf jd gh 1), .int .u64 (jf jd gh 2), .int .u64 (jf jd gh 3), .int .i64 fa, .int .i64 se, .slice (some ⟨g9, o9, none⟩) n c9] _ HR.out (by kernel_rfl) (by kernel_rfl) (by rw [RD]; rfl) rfl (by simp [Value.oneCell']) ?_; obtain ⟨x3, e9⟩ := je (x2.setRow RB #[.int .u64 (jf jd gp 0), .int .u64 (jf jd gp 1), .int .u64 (jf jd gp 2), .int .u64 (jf jd gp 3), .int .u64 (jf jd gq 0), .int .u64 (jf jd gq 1), .int .u64 (jf jd gq 2), .int .u64 (jf jd gq 3), .int .u64 (jf jd gg 0), .int .u64 (jf jd gg 1), .int .u64 (jf jd gg 2), .int .u64 (jf jd gg 3), .int .u64 (jf jd gh 0), .int .u64 (jf jd gh 1), .int .u64 (jf jd gh 2), .int .u64 (jf jd gh 3), .int .i64 fa, .int .i64 se, .slice (some ⟨g9, o9, none⟩) n c9]); have hgs : x2.grownBy x3 (some RB) := by rw [e9]; exact Ji _ _ _
 have D7 : x3.heap[RB]? = some (.cells #[.int .u64 (jf jd gp 0), .int .u64 (jf jd gp 1), .int .u64 (jf jd gp 2), .int .u64 (jf jd gp 3), .int .u64 (jf jd gq 0), .int .u64 (jf jd gq 1), .int .u64 (jf jd gq 2), .int .u64 (jf jd gq 3), .int .u64 (jf jd gg 0), .int .u64 (jf jd gg 1), .int .u64 (jf jd gg 2), .int .u64 (jf jd gg 3), .int .u64 (jf jd gh 0), .int .u64 (jf jd gh 1), .int .u64 (jf jd gh 2), .int .u64 (jf jd gh 3), .int .i64 fa, .int .i64 se, .slice (some ⟨g9, o9, none⟩) n c9] 29 (0, 0)) := by rw [e9]; exact setRow_heap _ _ _ _ _ _ HR.out
 have HB := jh (show Below w.heap.size w x3 by rw [e9]; exact DK HB.out HWR.out _); rw [← e9]; clear e9; have HR := jh D7; have HT := jh (show dA x3 w.heap.size g9 o9 c9 ks from ⟨HT.out.1, O1.kept9 HT.out.2 hgs (fun e => HTR.out (by injection e with e; exact e.symm))⟩); have HS := jh (HS.out.keep hgs (fun e => by injection e with e; exact absurd e eH.out)); clear hgs D7; refine hK.out _ _ (HS.out) (fun hHeld => ?_); clear hK K
 try simp only [Act.put, pa, pb, pc]
 refine WT.done ?_; clear hHeld; obtain ⟨T9, I8⟩ : ∃ T9 : Array Value, T9 = #[.int .u64 (jf jd gp 0), .int .u64 (jf jd gp 1), .int .u64 (jf jd gp 2), .int .u64 (jf jd gp 3), .int .u64 (jf jd gq 0), .int .u64 (jf jd gq 1), .int .u64 (jf jd gq 2), .int .u64 (jf jd gq 3), .int .u64 (jf jd gg 0), .int .u64 (jf jd gg 1), .int .u64 (jf jd gg 2), .int .u64 (jf jd gg 3), .int .u64 (jf jd gh 0), .int .u64 (jf jd gh 1), .int .u64 (jf jd gh 2), .int .u64 (jf jd gh 3), .int .i64 fa, .int .i64 se, .slice (some ⟨g9, o9, none⟩) n c9] := ⟨_, rfl⟩; have hs9 : (Tryz.prog.info? 29).map (·.size) = some T9.size := by rw [RD, I8]; rfl
 have D7 := HR.out; rw [← I8] at D7; have Z9 := jh D7; have OE := jh I8; clear D7 I8
 go_wp2_with fail
 exact bodyPost_ret (results_cell_row rfl _ x3 RB _ _ _ _ rfl Z9.out Tryz.underlying29 rfl hs9) rfl ⟨g9, o9, c9, by rw [OE.out], HT.out, HB.out⟩
theorem dH {gp gq gg gh n cap g o c9 base : Nat} {fa se : Int} {ao : Option Addr} {ks : List (Nat × Nat)} (hx : ∀ k ∈ ks, k.1 < jo ∧ k.2 < jo) (iG : gp < jo) (hgq : gq < jo) (hgg : gg < jo) (hgh : gh < jo) (hn : n = ks.length) (X8 : n ≤ 1000) (w : World) (ht : dA w base g o c9 ks) (hk : 0 < n → ∃ b o, ao = some ⟨b, o, none⟩ ∧ D8 w b o ks) :
  Calls Tryz.prog 17 #[qU gp gq gg gh fa se (.slice (some ⟨g, o, none⟩) n c9), qU gp gq gg gh fa se (.slice ao n cap)] w fun e w' => e = .returned (.bool true) ∧ Below w.heap.size w w' := by
 have CK := jh (fun (W : World) (hb : Below w.heap.size w W) => rO (cap := cap) (ao := ao) hx hn X8 W (ht.later hb) (fun h0 => by obtain ⟨b, o, h1, h2⟩ := hk h0; exact ⟨b, o, h1, h2.later hb⟩)); have HEG := jh (fun W => eq_grp iG hgq hgg hgh W); clear hx iG hgq hgg hgh hn X8 hk ht; unfold qU
 go_enter Tryz.func17, Tryz.ntmps17
 go_upto_region 1 with fail
 obtain ⟨A8, e0⟩ := je (w.alloc (.cells #[.int .u64 (jf jd gp 0), .int .u64 (jf jd gp 1), .int .u64 (jf jd gp 2), .int .u64 (jf jd gp 3), .int .u64 (jf jd gq 0), .int .u64 (jf jd gq 1), .int .u64 (jf jd gq 2), .int .u64 (jf jd gq 3), .int .u64 (jf jd gg 0), .int .u64 (jf jd gg 1), .int .u64 (jf jd gg 2), .int .u64 (jf jd gg 3), .int .u64 (jf jd gh 0), .int .u64 (jf jd gh 1), .int .u64 (jf jd gh 2), .int .u64 (jf jd gh 3), .int .i64 fa, .int .i64 se, .slice (some ⟨g, o, none⟩) n c9] 29)); obtain ⟨F8, e1⟩ := je (A8.alloc (.cells #[.int .u64 (jf jd gp 0), .int .u64 (jf jd gp 1), .int .u64 (jf jd gp 2), .int .u64 (jf jd gp 3), .int .u64 (jf jd gq 0), .int .u64 (jf jd gq 1), .int .u64 (jf jd gq 2), .int .u64 (jf jd gq 3), .int .u64 (jf jd gg 0), .int .u64 (jf jd gg 1), .int .u64 (jf jd gg 2), .int .u64 (jf jd gg 3), .int .u64 (jf jd gh 0), .int .u64 (jf jd gh 1), .int .u64 (jf jd gh 2), .int .u64 (jf jd gh 3), .int .i64 fa, .int .i64 se, .slice ao n cap] 29)); have s0 : A8.heap.size = w.heap.size + 1 := by rw [e0]; simp
 have b0 := jc e0; have b1 := jc e1; have f0 : UA A8 w.heap.size gp gq gg gh fa se (.slice (some ⟨g, o, none⟩) n c9) := by rw [e0]; exact UA.new _ _ _ _ _ _ _ _ _
 have f1 : UA F8 (w.heap.size + 1) gp gq gg gh fa se (.slice ao n cap) := by rw [← s0, e1]; exact UA.new _ _ _ _ _ _ _ _ _
 rw [← e0, ← e1]; obtain ⟨SB, L9⟩ := je (w.heap.size); rw [← L9] at f0 f1 ⊢; obtain ⟨RB, oH⟩ := je (SB + 1); rw [← oH] at f1 ⊢; have HB := jh (jk b0 b1); have HS := jh (f0.later b1); have HR := jh f1; clear e0 e1 s0 b0 b1 f0 f1 L9 oH; refine wp_region_lit ?_; refine ji (v := .pointer (some ⟨SB, 0, none⟩)) rfl (by kernel_rfl) ?_; simp only [Act.put, pa, pb, pc]; refine ji rfl (jg (qR HS.out.grp)) ?_; simp only [Act.put, pa, pb, pc]; refine ji (v := .pointer (some ⟨RB, 0, none⟩)) rfl (by kernel_rfl) ?_; simp only [Act.put, pa, pb, pc]; refine ji rfl (jg (qR HR.out.grp)) ?_; simp only [Act.put, pa, pb, pc]; refine ji (v := .bool true) rfl (zn eqg_grp rfl (by kernel_rfl) (by kernel_rfl) (HEG.out _)) ?_; simp only [Act.put, pa, pb, pc]; refine ji (v := .bool true) rfl (by kernel_rfl) ?_; simp only [Act.put, pa, pb, pc]; refine jv (v := .pointer (some ⟨SB, 16, none⟩)) (by kernel_rfl) (by kernel_rfl) ?_; simp only [Act.put, pa, pb, pc]; refine jv (v := .int .i64 fa) (by kernel_rfl) (jg (Qy HS.out.fa)) ?_; simp only [Act.put, pa, pb, pc]; refine jv (v := .pointer (some ⟨RB, 16, none⟩)) (by kernel_rfl) (by kernel_rfl) ?_; simp only [Act.put, pa, pb, pc]; refine jv (v := .int .i64 fa) (by kernel_rfl) (jg (Qy HR.out.fa)) ?_; simp only [Act.put, pa, pb, pc]; refine jv (v := .bool true) (by kernel_rfl) (by simp [go_sem]) ?_
 iterate 2
  simp only [Act.put, pa, pb, pc]; refine ji (v := .bool true) rfl (by kernel_rfl) ?_
 simp only [Act.put, pa, pb, pc]; refine jv (v := .pointer (some ⟨SB, 17, none⟩)) (by kernel_rfl) (by kernel_rfl) ?_; simp only [Act.put, pa, pb, pc]; refine jv (v := .int .i64 se) (by kernel_rfl) (jg (Qy HS.out.se)) ?_; simp only [Act.put, pa, pb, pc]; refine jv (v := .pointer (some ⟨RB, 17, none⟩)) (by kernel_rfl) (by kernel_rfl) ?_; simp only [Act.put, pa, pb, pc]; refine jv (v := .int .i64 se) (by kernel_rfl) (jg (Qy HR.out.se)) ?_; simp only [Act.put, pa, pb, pc]; refine jv (v := .bool true) (by kernel_rfl) (by simp [go_sem]) ?_
 iterate 2
  simp only [Act.put, pa, pb, pc]; refine ji (v := .bool true) rfl (by kernel_rfl) ?_
 simp only [Act.put, pa, pb, pc]; refine jv (v := .pointer (some ⟨SB, 18, none⟩)) (by kernel_rfl) (by kernel_rfl) ?_; simp only [Act.put, pa, pb, pc]; refine jv (v := .slice (some ⟨g, o, none⟩) n c9) (by kernel_rfl) (jg (JO HS.out.nd)) ?_; simp only [Act.put, pa, pb, pc]; refine jv (v := .pointer (some ⟨RB, 18, none⟩)) (by kernel_rfl) (by kernel_rfl) ?_; simp only [Act.put, pa, pb, pc]; refine jv (v := .slice ao n cap) (by kernel_rfl) (jg (JO HR.out.nd)) ?_; simp only [Act.put, pa, pb, pc]
 go_wp2_with fail
 refine (CK.out _ HB.out).mono ?_; rintro _ w2 ⟨rfl, hb⟩; have HS := jh (HS.out.later hb); have HR := jh (HR.out.later hb); have HB := jw HB hb; clear hb
 go_wp2_with fail
 go_ret
 exact ⟨rfl, HB.out⟩
theorem IK {fr tt c s m cb c9 : Nat} {ab a9 : Option Addr} {b : List Nat} (hc : c < jo) (hs : s < jo) (w : World) (ht : J6 .u8 w (.slice a9 m c9) b) (hb : J6 .u8 w (.slice ab m cb) b) :
  Calls Tryz.prog 14 #[zy fr tt (.slice a9 m c9) c s, zy fr tt (.slice ab m cb) c s] w fun e w' => e = .returned (.bool true) ∧ Below w.heap.size w w' := by
 have CK := jh (fun (W : World) (h9 : Below w.heap.size w W) => by have h := FZ W (ht.later h9) (hb.later h9); rw [decide_eq_true (rfl : b = b)] at h; exact h); have HES := jh (fun (W : World) => by have h9 := eq_sig hc hs hc hs W; rewrite [decide_eq_true (rfl : c = c), decide_eq_true (rfl : s = s)] at h9; exact h9); clear hb ht hc hs; unfold zy
 go_enter Tryz.func14, Tryz.ntmps14
 go_upto_region 1 with fail
 obtain ⟨A8, e0⟩ := je (w.alloc (.cells #[.int .u8 fr, .int .u8 tt, .slice a9 m c9, .int .u64 (jf jd c 0), .int .u64 (jf jd c 1), .int .u64 (jf jd c 2), .int .u64 (jf jd c 3), .int .u64 (jf jd s 0), .int .u64 (jf jd s 1), .int .u64 (jf jd s 2), .int .u64 (jf jd s 3)] 41)); obtain ⟨F8, e1⟩ := je (A8.alloc (.cells #[.int .u8 fr, .int .u8 tt, .slice ab m cb, .int .u64 (jf jd c 0), .int .u64 (jf jd c 1), .int .u64 (jf jd c 2), .int .u64 (jf jd c 3), .int .u64 (jf jd s 0), .int .u64 (jf jd s 1), .int .u64 (jf jd s 2), .int .u64 (jf jd s 3)] 41)); have s0 : A8.heap.size = w.heap.size + 1 := by rw [e0]; simp
 have b0 := jc e0; have b1 := jc e1; have f0 : Z7 A8 w.heap.size fr tt (.slice a9 m c9) c s := by rw [e0]; exact Z7.new _ _ _ _ _ _ _
 have f1 : Z7 F8 (w.heap.size + 1) fr tt (.slice ab m cb) c s := by rw [← s0, e1]; exact Z7.new _ _ _ _ _ _ _
 rw [← e0, ← e1]; obtain ⟨SB, L9⟩ := je (w.heap.size); rw [← L9] at f0 f1 ⊢; obtain ⟨RB, oH⟩ := je (SB + 1); rw [← oH] at f1 ⊢; have HB := jh (jk b0 b1); have HS := jh (f0.later b1); have HR := jh f1; clear e0 e1 s0 b0 b1 f0 f1 L9 oH; refine wp_region_lit ?_; refine ji (v := .pointer (some ⟨SB, 0, none⟩)) rfl (by kernel_rfl) ?_; simp only [Act.put, pa, pb, pc]; refine ji (v := .int .u8 fr) rfl (jg (Qg HS.out.fr)) ?_; simp only [Act.put, pa, pb, pc]; refine ji (v := .pointer (some ⟨RB, 0, none⟩)) rfl (by kernel_rfl) ?_; simp only [Act.put, pa, pb, pc]; refine ji (v := .int .u8 fr) rfl (jg (Qg HR.out.fr)) ?_; simp only [Act.put, pa, pb, pc]; refine ji (v := .bool true) rfl (by simp [go_sem]) ?_; simp only [Act.put, pa, pb, pc]; refine ji (v := .bool true) rfl (by kernel_rfl) ?_; simp only [Act.put, pa, pb, pc]; refine jv (v := .pointer (some ⟨SB, 1, none⟩)) (by kernel_rfl) (by kernel_rfl) ?_; simp only [Act.put, pa, pb, pc]; refine jv (v := .int .u8 tt) (by kernel_rfl) (jg (Qg HS.out.tt)) ?_; simp only [Act.put, pa, pb, pc]; refine jv (v := .pointer (some ⟨RB, 1, none⟩)) (by kernel_rfl) (by kernel_rfl) ?_; simp only [Act.put, pa, pb, pc]; refine jv (v := .int .u8 tt) (by kernel_rfl) (jg (Qg HR.out.tt)) ?_; simp only [Act.put, pa, pb, pc]; refine jv (v := .bool true) (by kernel_rfl) (by simp [go_sem]) ?_
 iterate 2
  simp only [Act.put, pa, pb, pc]; refine ji (v := .bool true) rfl (by kernel_rfl) ?_
 simp only [Act.put, pa, pb, pc]; refine jv (v := .pointer (some ⟨SB, 2, none⟩)) (by kernel_rfl) (by kernel_rfl) ?_; simp only [Act.put, pa, pb, pc]; refine jv (v := .slice a9 m c9) (by kernel_rfl) (jg (pF HS.out.bv)) ?_; simp only [Act.put, pa, pb, pc]; refine jv (v := .pointer (some ⟨RB, 2, none⟩)) (by kernel_rfl) (by kernel_rfl) ?_; simp only [Act.put, pa, pb, pc]; refine jv (v := .slice ab m cb) (by kernel_rfl) (jg (pF HR.out.bv)) ?_; simp only [Act.put, pa, pb, pc]
 go_wp2_with fail
 refine (CK.out _ HB.out).mono ?_; rintro _ w2 ⟨rfl, nd, hw⟩; have hb : Below F8.heap.size F8 w2 := by rw [hw]; exact QC _ _
 clear hw; have HS := jh (HS.out.later hb); have HR := jh (HR.out.later hb); have HB := jw HB hb; clear hb; dsimp only
 go_step
 iterate 2
  refine ji (v := .bool true) rfl (by kernel_rfl) ?_; simp only [Act.put, pa, pb, pc]
 refine jv (v := .pointer (some ⟨SB, 3, none⟩)) (by kernel_rfl) (by kernel_rfl) ?_; simp only [Act.put, pa, pb, pc]; refine jv (by kernel_rfl) (jg (lH HS.out.c HS.out.s)) ?_; simp only [Act.put, pa, pb, pc]; refine jv (v := .pointer (some ⟨RB, 3, none⟩)) (by kernel_rfl) (by kernel_rfl) ?_; simp only [Act.put, pa, pb, pc]; refine jv (by kernel_rfl) (jg (lH HR.out.c HR.out.s)) ?_; simp only [Act.put, pa, pb, pc]; refine jv (v := .bool true) (by kernel_rfl) (zn rV rfl (by kernel_rfl) (by kernel_rfl) (HES.out _)) ?_; simp only [Act.put, pa, pb, pc]; refine ji (v := .bool true) rfl (by kernel_rfl) ?_; simp only [Act.put, pa, pb, pc]
 go_wp2_with fail
 go_ret
 exact ⟨rfl, HB.out⟩
end Go.Proofs.YtmijablfjigbhaaGreatDoor
