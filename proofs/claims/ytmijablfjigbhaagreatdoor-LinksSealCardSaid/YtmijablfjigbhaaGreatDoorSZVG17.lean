/- Layer 5 (shas) -/
import Derived.Test.YtmijablfjigbhaaGreatDoorSZVG16
import Derived.Laws.AppendOwn
set_option linter.unusedSimpArgs false
set_option linter.unusedVariables false
set_option maxHeartbeats 3000000
set_option maxRecDepth 20000
namespace Go.Proofs.YtmijablfjigbhaaGreatDoor
open Go.ChangeShapes Go.WideShapes Go.ChangeAt Go.RowKit
theorem qT {P : Program} {ops : Array Oper} {rest : List Oper} {o : Oper} {a : Act} {w w' : World} {Q : Exit → Act → World → Prop} {v : Value} (hgd : o.guard = none) (h : (execOp a.eval o).run P w = .ok (.value v) w')
  (k : wpList P ops Q rest (a.put o.dst v) w') : wpList P ops Q (o :: rest) a w :=
 wpList_plain hgd fun _ hK => by
  unfold Oper.wp; rw [h]; exact hK _ _ k
def GU : List Value := .int .i64 0 :: (List.replicate 8 (.int .u32 0) ++ (List.replicate 64 (.int .u8 0) ++ [.int .u64 0]))
theorem NP : (Tryz.prog.info? 251).map (·.size) = some 74 := by kernel_rfl
theorem uZ (st : S8) (R : List Nat) (n : Nat) : (Zm st R n).toArray.all (·.oneCell') = true := all_oneCell_toArray fun v hv => by
 unfold Zm at hv; simp only [List.mem_cons, List.mem_append, List.not_mem_nil, or_false] at hv
 rcases hv with rfl | rfl | rfl | rfl | rfl | rfl | rfl | rfl | rfl | hv | rfl <;> first | rfl | exact zI _ _ _ hv
theorem jy {P : Program} {ops : Array Oper} {rest : List Oper} {o : Oper} {a : Act} {w : World} {Q : Exit → Act → World → Prop} (hgd : o.guard = none) (ty : TypeId) (x y : Operand) (ho : o.op = .store ty x y) (g : Nat) (c T : Array Value) (t : TypeId)
  (hg : w.heap[g]? = some (.cells c t (0, 0))) (hx : a.eval x = .pointer (some ⟨g, 0, none⟩)) (hy : a.eval y = .agg T) (hi : (P.info? ty).map (·.size) = some T.size) (hc : c.size = T.size) (h1 : T.all (·.oneCell') = true)
  (k : wpList P ops Q rest (a.put o.dst undef) (w.setRow g T)) : wpList P ops Q (o :: rest) a w :=
 wpList_plain hgd fun _ hK => by
  unfold Oper.wp execOp; simp only [ho, hx, hy, Sem.run_bind, Instr.storeAt, Instr.sureAddr, Sem.run_pure, Result.andThen_ok, run_storeVar_row w g t ty c T hg hi hc h1]; exact hK _ _ k
theorem flat_get : ∀ (l : List Nat) (q r : Nat), q < l.length → r < 4 → qM (l.flatMap (be 4)) (4 * q + r) = qM l q / 256 ^ (3 - r) % 256
 | [], q, r, h, _ => absurd h (Nat.not_lt_zero q)
 | x :: l, 0, r, _, hr => by
  unfold qM; rw [List.flatMap_cons, Nat.mul_zero, Nat.zero_add, List.getD_eq_getElem?_getD, List.getElem?_append_left (by rw [jH]; exact hr), List.getElem?_eq_getElem (by rw [jH]; exact hr), aU 4 x r hr]
  rfl
 | x :: l, q + 1, r, h, hr => by
  have ih := flat_get l q r (by simpa using h) hr; unfold qM at ih ⊢; rw [List.flatMap_cons, List.getD_eq_getElem?_getD, List.getElem?_append_right (by rw [jH]; omega), jH, show 4 * (q + 1) + r - 4 = 4 * q + r by omega, ← List.getD_eq_getElem?_getD, ih]
  rfl
theorem xW (l : List Nat) (i : Nat) (hi : i < 32) : qM (qE l) i = qM (UR l).list (i / 4) / 256 ^ (3 - i % 4) % 256 := by
 have h := flat_get (UR l).list (i / 4) (i % 4) (by unfold S8.list; simp; omega) (Nat.mod_lt _ (by decide)); rw [Nat.div_add_mod] at h; exact h
def bI (l : List Nat) (i : Nat) : List Nat := l.take i ++ List.replicate (32 - i) 0
theorem outK_set {l : List Nat} (hl : l.length = 32) {i : Nat} (hi : i < 32) : (jp .u8 (bI l i)).toArray.setIfInBounds i (.int .u8 (qM l i)) = (jp .u8 (bI l (i + 1))).toArray := by
 have h8 : (l.take i).length = i := by rw [List.length_take]; omega
 unfold bI; rw [show 32 - i = (32 - (i + 1)) + 1 by omega, List.replicate_succ, List.take_add_one, QD (by omega), jV, jV, jV, List.setIfInBounds_toArray]
 congr 1
 rw [List.set_append_right _ _ (by rw [jt, h8]; exact Nat.le_refl _), jt, h8, Nat.sub_self]
 simp [jp]
theorem Y4.nowQ {w : World} {S : Nat} {st : S8} {R : List Nat} {n : Nat} (h : Y4 w S st R n) {q : Nat} (hq : q < 8) : w.cell? ⟨S, 1 + q, none⟩ = some (.int .u32 (qM st.list q)) := by
 obtain ⟨k1, k2, k3, k4, k5, k6, k7, k8⟩ := h.now8
 rcases (show q = 0 ∨ q = 1 ∨ q = 2 ∨ q = 3 ∨ q = 4 ∨ q = 5 ∨ q = 6 ∨ q = 7 by omega) with rfl | rfl | rfl | rfl | rfl | rfl | rfl | rfl <;> assumption
theorem mP {l : List Nat} (hl : l.length = 32) {i : Nat} (hi : i ≤ 32) : (bI l i).length = 32 := by unfold bI; simp; omega
theorem outK_all {l : List Nat} (hl : l.length = 32) : bI l 32 = l := by unfold bI; rw [List.take_of_length_le (by omega)]; simp
theorem KZ {w : World} {g : Nat} {l : List Nat} {t : TypeId} (h : w.heap[g]? = some (.cells (jp .u8 l).toArray t (0, 0))) {i : Nat} (hi : i < l.length) : w.cell? ⟨g, i, none⟩ = some (.int .u8 (qM l i)) := by
 rw [cell_of_row _ _ _ _ _ _ h]
 simp [qv, QD hi]
theorem zt : (Tryz.prog.info? 32).map (·.size) = some 32 := by kernel_rfl
def KN (k : Nat) : List Nat := 128 :: List.replicate k 0
theorem GX (k : Nat) : KN k ++ [0] = KN (k + 1) := by unfold KN; rw [List.cons_append, ← List.replicate_succ']
theorem BL {w : World} {base : Nat} {e : TypeId} {v : Value} {n : Nat} {xs : List Value} (h : w.ownsRow base e 1 v n xs) (hn : 0 < n) : ∃ g c, v = .slice (some ⟨g, 0, none⟩) n c ∧ base ≤ g ∧ n ≤ c ∧ c ≤ maxLen := by
 obtain ⟨_, h2⟩ := h
 rcases h2 with ⟨_, h2⟩ | ⟨g, cap, cur, h3, h4, h5, h6, h7, h8, h9⟩
 ·omega
 ·exact ⟨g, cap, h3, h4, h6, h7⟩
theorem Hash_any {S : Nat} {l : List Nat} (w : World) (hs : J8 w S l) (hsz : l.length ≤ 549755813888) :
  Calls Tryz.prog 122 #[.pointer (some ⟨S, 0, none⟩)] w fun e w' => e = .returned (.agg (jp .u8 (qE l)).toArray) ∧ Below w.heap.size w w' := by
 have HS := jh hs; have HSL := jh hs.lt; have HZ := jh hsz; clear hs hsz
 go_enter Tryz.func122, Tryz.ntmps122
 go_upto_region 1 with fail
 obtain ⟨w1, e1⟩ := je (w.alloc (.cells (Array.replicate 32 (.int .u8 0)) 32)); have HO := jh (show O9 .u8 w1 w.heap.size 0 32 (fun _ => 0) by rw [e1]; exact O9.zero w 32 _ rfl _ _ rfl); have L6 := jh (show Y0 w1 w.heap.size 32 by rw [e1]; exact Y0.new _ _ _ _); have HB1 := jh (show Below w.heap.size w w1 by rw [e1]; exact ja); have bD := jh (show w1.heap.size = w.heap.size + 1 by rw [e1]; simp); have HRO := jh (show w1.heap[w.heap.size]? = some (.cells (jp .u8 (bI (qE l) 0)).toArray 32 (0, 0)) by rw [e1, heap_alloc_new]; rfl); have h9 : (w.alloc (.cells #[.int .u8 0, .int .u8 0, .int .u8 0, .int .u8 0, .int .u8 0, .int .u8 0, .int .u8 0, .int .u8 0, .int .u8 0, .int .u8 0, .int .u8 0, .int .u8 0, .int .u8 0, .int .u8 0, .int .u8 0, .int .u8 0, .int .u8 0, .int .u8 0, .int .u8 0, .int .u8 0, .int .u8 0, .int .u8 0, .int .u8 0, .int .u8 0, .int .u8 0, .int .u8 0, .int .u8 0, .int .u8 0, .int .u8 0, .int .u8 0, .int .u8 0, .int .u8 0] 32)) = w1 := e1.symm; rw [h9]; clear h9 e1; obtain ⟨OO, dE⟩ := je (w.heap.size); rw [← dE] at HO L6 bD HRO ⊢; have W9 := jh dE; clear dE; have wH := jh (HS.out.later HB1.out); obtain ⟨R, hraw, oH, htk⟩ := wH.out; obtain ⟨N, hN⟩ := je (l.length); obtain ⟨st, hst⟩ := je (OH l (l.length / 64)); rw [← hst, ← hN] at hraw; have DJ := jh hraw; have Z5 := jh hN; have HZN := jh (show N ≤ 549755813888 by rw [hN]; exact HZ.out); have c0 := hraw.made; have SC := jh oH; have HTK := jh htk; have HST := jh hst; clear hraw oH htk hN hst
 go_upto_region 3 with fail
 refine wp_region_lit ?_
 iterate 2
  refine ji (v := .pointer (some ⟨S, 0, none⟩)) rfl (by kernel_rfl) ?_
 refine wpList_load_row rfl _ _ rfl S rfl _ _ _ _ DJ.out.2 Tryz.underlying251 rfl (by rw [NP]; simp [JY, DJ.out.1]) ?_; refine qT (v := .pointer (some ⟨w1.heap.size, 0, none⟩)) (w' := w1.alloc (.cells GU.toArray 251)) rfl (by kernel_rfl) ?_; refine qg rfl _ _ _ rfl _ _ rfl rfl (by rw [NP]; simp [JY, DJ.out.1]) (by simp [JY, DJ.out.1, GU]) (uZ _ _ _) ?_; obtain ⟨w2, e2⟩ := je (w1.alloc (.cells (Zm st R N).toArray 251)); have HL := jh (show J8 w2 w1.heap.size l from ⟨R, ⟨DJ.out.1, by rw [e2, heap_alloc_new, HST.out, Z5.out]⟩, SC.out, HTK.out⟩); have HB2 := jh (show Below w1.heap.size w1 w2 by rw [e2]; exact ja); have HN2 := jh (show w2.heap.size = w1.heap.size + 1 by rw [e2]; simp); rw [← e2]; clear e2 c0; obtain ⟨LL, hLL⟩ := je (w1.heap.size); rw [← hLL] at HL HN2; have HLL := jh hLL; simp only [Act.put, pa, pb, pc, ← hLL]; clear hLL; have c73 := (DJ.out.later HB2.out).many; obtain ⟨M, hM⟩ := je (8 * N); have hMI : (8 : Int) * (N : Int) = (M : Int) := by omega
 have hMb : M ≤ 4398046511104 := by have := HZN.out; omega
 have HM := jh hM; clear hM
 have hmk : ∀ w, (Instr.makeSlice 30 (.int .i64 1) (.int .i64 64)).run Tryz.prog w = .ok (.slice (some ⟨w.heap.size, 0, none⟩) 1 64) (w.alloc (.cells (List.replicate 64 (Value.int .u8 0)).toArray 5)) := by
  intro w; obtain ⟨i0, hi, hz0, hz1, hz2⟩ := info_parts QI; have e := run_make (P := Tryz.prog) w 30 5 i0 (.int .u8 0) Tryz.underlying30 hi hz0 .i64 .i64 1 64 (by omega) (by omega) (by rw [hz2]; omega) (by omega); rw [e, hz1]; exact congrArg (fun c => Result.ok _ (w.alloc (.cells c _))) (BI .u8 64)
 go_upto_region 7 with fail
 obtain ⟨w3, e3, HE, HB3⟩ : ∃ w3, w3 = _ ∧ Hid (w3.ownsRow w2.heap.size 5 1 (.slice (some ⟨w2.heap.size, 0, none⟩) 1 64) 1 (jp .u8 (KN 0))) ∧ Hid (Below w2.heap.size w2 w3) :=
  ⟨w2.alloc (.cells (Value.int .u8 128 :: List.replicate 63 (.int .u8 0)).toArray 5), rfl, jh ⟨rfl, .inr ⟨w2.heap.size, 64, _, rfl, Nat.le_refl _, heap_alloc_new _ _, by decide, by decide, by decide, by rfl⟩⟩, jh (ja)⟩
 have h9 : w2.alloc (.cells #[.int .u8 128, .int .u8 0, .int .u8 0, .int .u8 0, .int .u8 0, .int .u8 0, .int .u8 0, .int .u8 0, .int .u8 0, .int .u8 0, .int .u8 0, .int .u8 0, .int .u8 0, .int .u8 0, .int .u8 0, .int .u8 0, .int .u8 0, .int .u8 0, .int .u8 0, .int .u8 0, .int .u8 0, .int .u8 0, .int .u8 0, .int .u8 0, .int .u8 0, .int .u8 0, .int .u8 0, .int .u8 0, .int .u8 0, .int .u8 0, .int .u8 0, .int .u8 0, .int .u8 0, .int .u8 0, .int .u8 0, .int .u8 0, .int .u8 0, .int .u8 0, .int .u8 0, .int .u8 0, .int .u8 0, .int .u8 0, .int .u8 0, .int .u8 0, .int .u8 0, .int .u8 0, .int .u8 0, .int .u8 0, .int .u8 0, .int .u8 0, .int .u8 0, .int .u8 0, .int .u8 0, .int .u8 0, .int .u8 0, .int .u8 0, .int .u8 0, .int .u8 0, .int .u8 0, .int .u8 0, .int .u8 0, .int .u8 0, .int .u8 0, .int .u8 0] 5) = w3 := e3.symm; rw [h9]; clear h9 e3 hmk; obtain ⟨z, hz⟩ := je (aF N); have HZZ := jh hz; have hz2 : z < 64 := by rw [hz]; unfold aF; omega
 have hz3 : (N + 1 + z) % 64 = 56 := by rw [hz]; unfold aF; omega
 have hz4 : ∀ k, k < z → (N + 1 + k) % 64 ≠ 56 := fun k hk => by rw [hz] at hk; unfold aF at hk; omega
 have HZ2 := jh hz2; have HZ3 := jh hz3; have HZ4 := jh hz4; have C73 := jh c73; clear hz hz2 hz3 hz4 c73; obtain ⟨i0, hi, hz0, hz1, hz2⟩ := info_parts QI; have HI := jh hi; clear hi
 go_loopg [5] z (fun g v wr => ∃ k : Nat, g = z - k ∧ k ≤ z ∧ Hid (wr.ownsRow w2.heap.size 5 1 v (k + 1) (jp .u8 (KN k))) ∧ Hid (Below w2.heap.size w2 wr))
 case atStart => exact ⟨0, rfl, Nat.zero_le _, HE, HB3⟩
 case round =>
  clear HE HB3; obtain ⟨k, UC, hk, HE, HB3⟩ := hrel; obtain ⟨g, cp, rfl, hgb, hgc, hcm⟩ := BL HE.out (Nat.succ_pos k); have c73 := jm C73.out HB3.out; obtain ⟨ln, hln⟩ := je (k + 1); have HLN := jh hln; obtain ⟨t, ht⟩ := je (N + ln); have htI : (N : Int) + (ln : Int) = (t : Int) := by omega
  have htb : t ≤ 549755814000 := by have := HZN.out; have := HZ2.out; omega
  rw [← hln] at HE ⊢; have HGC := jh hgc; have HGBB := jh hgb; have HCM := jh hcm; have hlb : ln ≤ 64 := by have := HZ2.out; omega
  have HK := jh hk
  by_cases hlt : k < z
  ·have h56 : ¬ (t : Int) % 64 = 56 := by have := HZ4.out k hlt; omega
   have L8 := jh hlt; have HTT := jh ht; clear hln ht hgc hgb hcm hlt hk
   go_wp2_with (at_builtin; refine wpList_append_own _ rfl _ _ 30 rfl w2.heap.size 5 i0 (.int .u8 0) 1 1 Tryz.underlying30 HI.out hz0 hz1 hz2 rfl (by decide) _ _ _ rfl (HE.out.alloc _) ⟨wr.heap.size, 0, none⟩ 1 1 [.int .u8 0] rfl rfl (Qx _ _ _) (Zg _) (by unfold maxLen; omega) (by omega) (by have := HB3.out.size; simp only [World.size_alloc]; omega) ?_; intro v' w4 hown2 hgrow _; have U9 := jh hown2; have HG2 := jh hgrow; clear hown2 hgrow)
   go_roundg (z - (k + 1))
   case measure => have := L8.out; omega
   case rel => exact ⟨k + 1, rfl, L8.out, jh (by have h9 := U9.out; rw [HLN.out] at h9; rw [← GX, jV]; exact h9), jh ((HB3.out.alloc HB3.out.size _).grown HG2.out (by have := HB3.out.size; simp only [World.size_alloc]; omega) (fun q hq => (HE.out.lt q hq).1))⟩
  ·obtain rfl : k = z := by omega
   have h56 : (t : Int) % 64 = 56 := by have := HZ3.out; omega
   have HTT := jh ht; clear hln ht hgc hgb hcm hlt hk UC
   go_wp2_with fail
   clear c73 h56
   go_loopw [5, 42] (fun v j wr => ∃ j' : Nat, j' ≤ 8 ∧ j = .int .i64 j' ∧ wr.ownsRow w2.heap.size 5 1 v (k + 1 + j') (jp .u8 (KN k ++ (be 8 M).take j')) ∧ Below w2.heap.size w2 wr) (fun _ j _ => 8 - (intOf j).toNat)
   case atStart => exact ⟨0, Nat.zero_le _, rfl, by have h9 := HE.out; rw [HLN.out] at h9; simpa [HLN.out] using h9, HB3.out⟩
   case round =>
    obtain ⟨j, hj, rfl, hown, hbel⟩ := hrel; have HP := jh hown; have HC2 := jh hbel; clear hown hbel
    by_cases hj8 : j < 8
    ·obtain ⟨j8, hj8e⟩ := je (8 * j); obtain ⟨sh, hsh⟩ := je (8 * (7 - j)); have i1 : (8 : Int) * (j : Int) = (j8 : Int) := by omega
     have i2 : (56 : Int) - (j8 : Int) = (sh : Int) := by omega
     have hshb : sh ≤ 56 := by omega
     have hjI : (j : Int) < 8 := by omega
     have HSH := jh hsh; have HJ := jh hj8; have hk64 := HZ2.out; clear hsh hj8e hj8
     go_wp2_with (at_builtin; refine wpList_append_own _ rfl _ _ 30 rfl w2.heap.size 5 i0 (.int .u8 0) 1 1 Tryz.underlying30 HI.out hz0 hz1 hz2 rfl (by decide) _ _ _ rfl (HP.out.alloc _) ⟨wr.heap.size, 0, none⟩ 1 1 [.int .u8 ((M : Int) / 2 ^ sh % 256)] rfl rfl (Qx _ _ _) (Zg _) (by unfold maxLen; omega) (by omega) (by have := HC2.out.size; simp only [World.size_alloc]; omega) ?_; intro v' w4 hown2 hgrow _; have U9 := jh hown2; have HG2 := jh hgrow; clear hown2 hgrow)
     go_roundw
     case rel => exact ⟨j + 1, HJ.out, by go_num, by
      rw [JB HJ.out, ← List.append_assoc, jV, show jp .u8 [M / 256 ^ (8 - 1 - j) % 256] = [.int .u8 ((M : Int) / 2 ^ sh % 256)] by rw [HSH.out, EE, show 8 - 1 - j = 7 - j by omega]; rfl]
      exact U9.out, (HC2.out.alloc HC2.out.size _).grown HG2.out (by have := HC2.out.size; simp only [World.size_alloc]; omega) (fun q hq => (HP.out.lt q hq).1)⟩
     case measure => simp [intOf]; have := HJ.out; omega
    ·obtain rfl : j = 8 := by omega
     obtain ⟨E, hE⟩ := je (zE N)
     have hE2 : KN k ++ (be 8 M).take 8 = E := by
      rw [List.take_of_length_le (by rw [jH]; exact Nat.le_refl _), hE]; unfold KN zE; rw [HZZ.out, HM.out]
      rfl
     have hP9 := HP.out; rw [hE2] at hP9; have hEl : k + 1 + 8 = E.length := by have h7 := hP9.1; rw [jt] at h7; omega
     rw [hEl] at hP9; obtain ⟨g5, c5, rfl, hg5, _, _⟩ := BL hP9 (by omega)
     have hEb : jM E := by
      rw [← hE2]; intro x hx
      rcases List.mem_append.1 hx with h7 | h7
      ·unfold KN at h7
       rcases List.mem_cons.1 h7 with h7 | h7
       ·omega
       ·rw [List.eq_of_mem_replicate h7]; decide
      ·exact zs _ _ x (List.take_subset _ _ h7)
     have HW := jh (yH wr (HL.out.later HC2.out) (J6.of_own hP9 rfl) (fun _ e => by
      have e7 : g5 = LL := by injection e
      have := HN2.out
      omega) hEb (by have := HZ.out; have := HZ2.out; omega))
     have HEE := jh hE; have HEL := jh hEl; clear hP9 hE hE2 hEb hg5 hEl hj
     go_wp2_with fail
     refine HW.out.mono ?_; rintro _ w5 ⟨rfl, hs5, hg5⟩; have HS5 := jh hs5; have a1 := bD.out; have a2 := HN2.out; have a3 := W9.out; have a4 := HLL.out; have a5 := HC2.out.size; have b2 := HB2.out.size
     have e9 : ∀ q, some LL = some q → w.heap.size ≤ q := fun q hq => by
      injection hq with hq
      omega
     have e8 : some OO ≠ some LL := fun hq => by
      injection hq with hq
      omega
     have HB5 := jh ((jk (jk HB1.out HB2.out) HC2.out).grown hg5 (by omega) e9)
     have hrow : wr.heap[OO]? = some (.cells (jp .u8 (bI (qE l) 0)).toArray 32 (0, 0)) := by
      have h7 := HRO.out; rw [HC2.out.block OO (by omega), HB2.out.block OO (by omega)]; exact h7
     have HRW := jh (show w5.heap[OO]? = some (.cells (jp .u8 (bI (qE l) 0)).toArray 32 (0, 0)) by
      rw [hg5.block OO (by omega) e8]
      exact hrow)
     clear a1 a2 a3 a4 a5 b2 e9 e8; clear hs5 hg5 hrow HW HP HC2; obtain ⟨R5, h51, _, _⟩ := HS5.out; have e5 : OH (l ++ E) ((l ++ E).length / 64) = UR l := by rw [HEE.out, Z5.out]; rfl
     rw [e5] at h51; have H51 := jh h51; have HOK := jh (show ∀ j, qM (UR l).list j < 2 ^ 32 from s8_lt (wM _ _)); clear h51 e5
     go_wp2_with fail
     obtain ⟨n5, hn5⟩ := je ((l ++ E).length); rw [← hn5] at H51; clear hn5
     go_loopw [57] (fun i wr => ∃ i' : Nat, i' ≤ 32 ∧ i = .int .i64 i' ∧ Hid (wr.heap[OO]? = some (.cells (jp .u8 (bI (qE l) i')).toArray 32 (0, 0))) ∧ Hid (Y4 wr LL (UR l) R5 n5) ∧ Hid (Below w.heap.size w wr)) (fun i _ => 32 - (intOf i).toNat)
     case atStart => exact ⟨0, Nat.zero_le _, rfl, HRW, H51, HB5⟩
     case round =>
      obtain ⟨i, hi32, rfl, HR, HQ, HB⟩ := hrel
      by_cases hlt : i < 32
      ·obtain ⟨q, hq⟩ := je (i / 4); obtain ⟨r, hr⟩ := je (i % 4); obtain ⟨r8, hr8⟩ := je (r * 8); obtain ⟨sh, hsh⟩ := je (8 * (3 - r)); have i1 : (i : Int) / 4 = (q : Int) := by omega
       have i2 : (i : Int) % 4 = (r : Int) := by omega
       have i3 : (r : Int) * 8 = (r8 : Int) := by omega
       have i4 : (24 : Int) - (r8 : Int) = (sh : Int) := by omega
       have hq8 : q < 8 := by omega
       have hqI : (q : Int) < 8 := by omega
       have hr4 : r < 4 := by omega
       have hshb : sh ≤ 24 := by omega
       have N8 : (i : Int) < 32 := by omega
       have cq := HQ.out.nowQ hq8; have xl := HOK.out q; have hy := xW l i hlt; rw [← hq, ← hr] at hy
       generalize qM (UR l).list q = x at cq hy xl
       obtain ⟨y, hyy⟩ := je (qM (qE l) i); rw [← hyy] at hy; have hbv : (x : Int) / 2 ^ sh % 256 = (y : Int) := by rw [hsh, EE, hy]
       have HY := jh hyy; have L8 := jh hlt; have q0 := KZ HR.out (i := i) (by rw [mP (qe l) hi32]; exact hlt); have f0 := frozen_of_row wr OO i _ _ HR.out; clear hy hyy hq hr hr8 hsh hlt hi32
       go_wp2_with fail
       go_roundw
       case rel => exact ⟨i + 1, L8.out, by go_num, jh (by rw [heap_setCell_same _ _ _ _ _ _ HR.out, HY.out, outK_set (qe l) L8.out]), jh (HQ.out.block (heap_setCell_other _ _ _ _ (by have := bD.out; have := HLL.out; show LL ≠ OO; omega))), jh (HB.out.setCell (by have := W9.out; show w.heap.size ≤ OO; omega) _)⟩
       case measure => simp [intOf]; have := L8.out; omega
      ·obtain rfl : i = 32 := by omega
       clear hlt
       go_upto_region 20 with fail
       refine wp_region_lit ?_; have hrow := HR.out; rw [outK_all (qe l)] at hrow; have hsz : (Tryz.prog.info? 32).map (·.size) = some (jp .u8 (qE l)).toArray.size := by rw [zt]; simp [jt, qe]
       refine wpList_load_row rfl _ _ rfl OO rfl _ _ _ _ hrow Tryz.underlying32 rfl hsz ?_; refine jy rfl _ _ _ rfl OO _ _ _ hrow rfl rfl hsz rfl (zY _ _) ?_; obtain ⟨w6, e6⟩ := je (wr.setRow OO (jp .u8 (qE l)).toArray); have hrow6 : w6.heap[OO]? = some (.cells (jp .u8 (qE l)).toArray 32 (0, 0)) := by rw [e6]; exact setRow_heap wr OO _ _ _ _ hrow
       have hb6 : Below w.heap.size w w6 := by rw [e6]; exact below_setRow HB.out (by have := W9.out; omega) _
       have dD := jh hb6; have HR6 := jh hrow6; rw [← e6]; simp only [Act.put, pa, pb, pc]; clear e6 hrow hrow6 hb6
       go_wp2_with fail
       refine bodyPost_ret (results_cell_row rfl _ w6 OO _ _ _ _ rfl HR6.out Tryz.underlying32 rfl hsz) rfl ⟨rfl, dD.out⟩
end Go.Proofs.YtmijablfjigbhaaGreatDoor
