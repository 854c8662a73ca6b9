/- The law's Prime -/
import Derived.Test.YtpoocnkflmimdaaLPWG41
import Derived.Test.YtpoocnkflmimdaaLPWG42
namespace Go.Proofs.Ytpoocnkflmimdaa
open Go.ChangeShapes Go.WideShapes Go.ChangeAt Go.RowKit
/-- A cast, as a value. -/
def castV (gp gq gg gh lg : Nat) (fa se : Int) (ks : Value) : Value := .agg #[.int .u64 (dgt W64 gp 0), .int .u64 (dgt W64 gp 1), .int .u64 (dgt W64 gp 2), .int .u64 (dgt W64 gp 3), .int .u64 (dgt W64 gq 0), .int .u64 (dgt W64 gq 1), .int .u64 (dgt W64 gq 2), .int .u64 (dgt W64 gq 3), .int .u64 (dgt W64 gg 0), .int .u64 (dgt W64 gg 1), .int .u64 (dgt W64 gg 2), .int .u64 (dgt W64 gg 3), .int .u64 (dgt W64 gh 0), .int .u64 (dgt W64 gh 1), .int .u64 (dgt W64 gh 2), .int .u64 (dgt W64 gh 3), .int .u64 (dgt W64 lg 0), .int .u64 (dgt W64 lg 1), .int .u64 (dgt W64 lg 2), .int .u64 (dgt W64 lg 3), .int .i64 fa, .int .i64 se, ks]
/-- Are P and Q primes below 2^32, and Q one that divides P less one? -/
def isPrime (gp gq : Nat) : Prop := gp < 4294967296 ∧ 1 < gq ∧ gq < W64 ∧ (PrimeN gp ∧ gp < 4294967296) ∧ (PrimeN gq ∧ gq < 4294967296) ∧ (gp - 1) % gq = 0
theorem cast_grp {w : World} {gp gq gg gh lg : Nat} {x y z : Value} {t : TypeId} : GrpAt (w.alloc (.cells #[.int .u64 (dgt W64 gp 0), .int .u64 (dgt W64 gp 1), .int .u64 (dgt W64 gp 2), .int .u64 (dgt W64 gp 3), .int .u64 (dgt W64 gq 0), .int .u64 (dgt W64 gq 1), .int .u64 (dgt W64 gq 2), .int .u64 (dgt W64 gq 3), .int .u64 (dgt W64 gg 0), .int .u64 (dgt W64 gg 1), .int .u64 (dgt W64 gg 2), .int .u64 (dgt W64 gg 3), .int .u64 (dgt W64 gh 0), .int .u64 (dgt W64 gh 1), .int .u64 (dgt W64 gh 2), .int .u64 (dgt W64 gh 3), .int .u64 (dgt W64 lg 0), .int .u64 (dgt W64 lg 1), .int .u64 (dgt W64 lg 2), .int .u64 (dgt W64 lg 3), x, y, z] t)) w.heap.size gp gq gg gh :=
 grp_cells fun j v hj => by
  rw [cell_of_row _ _ _ _ _ _ (heap_alloc_new _ _)]
  have hl := (List.getElem?_eq_some_iff.1 hj).1
  simp only [List.length_cons, List.length_nil] at hl
  rcases (show j = 0 ∨ j = 1 ∨ j = 2 ∨ j = 3 ∨ j = 4 ∨ j = 5 ∨ j = 6 ∨ j = 7 ∨ j = 8 ∨ j = 9 ∨ j = 10 ∨ j = 11 ∨ j = 12 ∨ j = 13 ∨ j = 14 ∨ j = 15 by omega) with rfl | rfl | rfl | rfl | rfl | rfl | rfl | rfl | rfl | rfl | rfl | rfl | rfl | rfl | rfl | rfl <;> exact hj
theorem small_is {n : Nat} (hn : n < W64) {b : Bool} (hb : b = true ↔ PrimeN n ∧ n < 4294967296) (w : World) : Calls Try.prog 28 #[.int .u64 n] w fun e w' => e = .returned (.bool b) ∧ Below w.heap.size w w' :=
 (Small_any hn w).mono fun _ _ ⟨b', h1, h2, h3⟩ => ⟨by rw [h1, show b' = b from Bool.eq_iff_iff.2 (h2.trans hb.symm)], by rw [h3]; exact Below.refl _ _⟩
set_option linter.unusedVariables false in
set_option linter.unusedSimpArgs false in
set_option maxRecDepth 100000 in
set_option maxHeartbeats 4000000 in
theorem prime_0 {gp gq gg gh lg p0 q0 : Nat} {fa se : Int} {ks : Value} (hp0 : dgt W64 gp 0 = p0) (hq0 : dgt W64 gq 0 = q0)  (h0 : ¬ p0 < 4294967296) (hm : gp < M256) (hq : gq < M256) (w : World) :
  Calls Try.prog 11 #[castV gp gq gg gh lg fa se ks] w fun e w' => e = .returned (.bool false) ∧ Below w.heap.size w w' := by
 have lp0 : p0 < W64 := by rw [← hp0]; exact dgtW_lt _ _
 have lq0 : q0 < W64 := by rw [← hq0]; exact dgtW_lt _ _
 have i0 : ¬ (p0 : Int) < 4294967296 := by omega
 have HP0 := Lib.hid hp0
 have HQ0 := Lib.hid hq0
 clear hp0 hq0
 clear h0 hm hq lp0 lq0
 unfold castV
 go_enter Try.func11, Try.ntmps11
 go_upto_region 1 with fail
 obtain ⟨v_0, e0⟩ : ∃ w9, w9 = w.alloc (.cells #[.int .u64 (dgt W64 gp 0), .int .u64 (dgt W64 gp 1), .int .u64 (dgt W64 gp 2), .int .u64 (dgt W64 gp 3), .int .u64 (dgt W64 gq 0), .int .u64 (dgt W64 gq 1), .int .u64 (dgt W64 gq 2), .int .u64 (dgt W64 gq 3), .int .u64 (dgt W64 gg 0), .int .u64 (dgt W64 gg 1), .int .u64 (dgt W64 gg 2), .int .u64 (dgt W64 gg 3), .int .u64 (dgt W64 gh 0), .int .u64 (dgt W64 gh 1), .int .u64 (dgt W64 gh 2), .int .u64 (dgt W64 gh 3), .int .u64 (dgt W64 lg 0), .int .u64 (dgt W64 lg 1), .int .u64 (dgt W64 lg 2), .int .u64 (dgt W64 lg 3), .int .i64 fa, .int .i64 se, ks] 29) := ⟨_, rfl⟩
 obtain ⟨CB, hCB⟩ : ∃ b, b = w.heap.size := ⟨_, rfl⟩
 have hb : Below w.heap.size w v_0 := by rw [e0]; exact (Below.refl _ _).alloc (Nat.le_refl _) _
 have HG := Lib.hid (show GrpAt v_0 CB gp gq gg gh by rw [e0, hCB]; exact cast_grp)
 have HB := Lib.hid hb
 rw [← e0, ← hCB]
 clear e0 hCB hb
 have y0 := HG.out.1 0 (by decide)
 have y1 := HG.out.1 1 (by decide)
 have y2 := HG.out.1 2 (by decide)
 have y3 := HG.out.1 3 (by decide)
 simp only [Nat.reduceAdd] at y0 y1 y2 y3
 go_upto_region 2 with fail
 clear y0 y1 y2 y3
 obtain ⟨v_2, e9⟩ : ∃ w9, w9 = v_0.alloc (.cells #[.int .u64 (dgt W64 gp 0), .int .u64 (dgt W64 gp 1), .int .u64 (dgt W64 gp 2), .int .u64 (dgt W64 gp 3)] 24) := ⟨_, rfl⟩
 obtain ⟨PB, h9⟩ : ∃ b, b = v_0.heap.size := ⟨_, rfl⟩
 have hb : Below v_0.heap.size v_0 v_2 := by rw [e9]; exact (Below.refl _ _).alloc (Nat.le_refl _) _
 have HPB := Lib.hid (show NumAt v_2 PB gp by rw [e9, h9]; exact NumAt.new _ _ _ _ rfl)
 have HG := Lib.hid (HG.out.later hb)
 have HB := Lib.hid (below_later HB.out hb)
 rw [← e9, ← h9]
 clear e9 h9 hb
 have y0 := HG.out.2.1 0 (by decide)
 have y1 := HG.out.2.1 1 (by decide)
 have y2 := HG.out.2.1 2 (by decide)
 have y3 := HG.out.2.1 3 (by decide)
 simp only [Nat.reduceAdd] at y0 y1 y2 y3
 go_upto_region 3 with fail
 clear y0 y1 y2 y3
 obtain ⟨v_3, e9⟩ : ∃ w9, w9 = v_2.alloc (.cells #[.int .u64 (dgt W64 gq 0), .int .u64 (dgt W64 gq 1), .int .u64 (dgt W64 gq 2), .int .u64 (dgt W64 gq 3)] 24) := ⟨_, rfl⟩
 obtain ⟨QB, h9⟩ : ∃ b, b = v_2.heap.size := ⟨_, rfl⟩
 have hb : Below v_2.heap.size v_2 v_3 := by rw [e9]; exact (Below.refl _ _).alloc (Nat.le_refl _) _
 have HQB := Lib.hid (show NumAt v_3 QB gq by rw [e9, h9]; exact NumAt.new _ _ _ _ rfl)
 have HPB := Lib.hid (NumAt.later hb HPB.out)
 have HG := Lib.hid (HG.out.later hb)
 have HB := Lib.hid (below_later HB.out hb)
 rw [← e9, ← h9]
 clear e9 h9 hb
 have hRd : QB < v_3.heap.size := HQB.out.lt
 have B := HB
 refine wp_region_fresh 41 (fun _ => none) (by kernel_rfl) (by kernel_rfl) (fun _ _ _ _ _ h => h) (fun F hn9 hcl hbl => ?_)
 have r_PB_0 := fun X9 : Wd F => (NumAt.later (hbl X9.world X9.fact) HPB.out) 0 (by omega)
 have r_PB_1 := fun X9 : Wd F => (NumAt.later (hbl X9.world X9.fact) HPB.out) 1 (by omega)
 have r_PB_2 := fun X9 : Wd F => (NumAt.later (hbl X9.world X9.fact) HPB.out) 2 (by omega)
 have r_PB_3 := fun X9 : Wd F => (NumAt.later (hbl X9.world X9.fact) HPB.out) 3 (by omega)
 have r_QB_0 := fun X9 : Wd F => (NumAt.later (hbl X9.world X9.fact) HQB.out) 0 (by omega)
 have r_QB_1 := fun X9 : Wd F => (NumAt.later (hbl X9.world X9.fact) HQB.out) 1 (by omega)
 have r_QB_2 := fun X9 : Wd F => (NumAt.later (hbl X9.world X9.fact) HQB.out) 2 (by omega)
 have r_QB_3 := fun X9 : Wd F => (NumAt.later (hbl X9.world X9.fact) HQB.out) 3 (by omega)
 simp only [HP0.out] at r_PB_0
 simp only [HQ0.out] at r_QB_0
 have HCL := Lib.hid hcl
 clear hcl hbl
 refine wpF_seg 41 0 _ _ (fun _ _ _ => rfl) (by decide) ?_
 simp only [List.take_succ_cons, List.take_zero, List.drop_succ_cons, List.drop_zero, Nat.reduceAdd]
 repeat (go_big_quiet_step ((first | (go_at_call 27; with_reducible exact to_class HCL.out (HB.out _)))))
 refine wpQuiet_nil ?_
 refine wpF_nil ?_
 intro bs w2 hb _ _
 clear r_PB_0 r_PB_1 r_PB_2 r_PB_3 r_QB_0 r_QB_1 r_QB_2 r_QB_3
 have HPB := Lib.hid (NumAt.later hb HPB.out)
 have HQB := Lib.hid (NumAt.later hb HQB.out)
 have hRd := Nat.lt_of_lt_of_le hRd hb.size
 have B := Lib.hid (below_later B.out hb)
 clear hb
 simp only [over]
 go_wp2_with fail
 refine bodyPost_ret (v := .bool false) ?_ rfl ⟨rfl, B.out⟩
 simp [results, Try.results11, go_sem]
set_option linter.unusedVariables false in
set_option linter.unusedSimpArgs false in
set_option maxRecDepth 100000 in
set_option maxHeartbeats 4000000 in
theorem prime_1 {gp gq gg gh lg p0 q0 : Nat} {fa se : Int} {ks : Value} (hp0 : dgt W64 gp 0 = p0) (hq0 : dgt W64 gq 0 = q0) (h0 : p0 < 4294967296) (h1 : ¬ 1 < q0) (hm : gp < M256) (hq : gq < M256) (w : World) :
  Calls Try.prog 11 #[castV gp gq gg gh lg fa se ks] w fun e w' => e = .returned (.bool false) ∧ Below w.heap.size w w' := by
 have lp0 : p0 < W64 := by rw [← hp0]; exact dgtW_lt _ _
 have lq0 : q0 < W64 := by rw [← hq0]; exact dgtW_lt _ _
 have i0 : (p0 : Int) < 4294967296 := by omega
 have i1 : ¬ (1 : Int) < (q0 : Int) := by omega
 have HP0 := Lib.hid hp0
 have HQ0 := Lib.hid hq0
 clear hp0 hq0
 clear h0 h1 hm hq lp0 lq0
 unfold castV
 go_enter Try.func11, Try.ntmps11
 go_upto_region 1 with fail
 obtain ⟨v_0, e0⟩ : ∃ w9, w9 = w.alloc (.cells #[.int .u64 (dgt W64 gp 0), .int .u64 (dgt W64 gp 1), .int .u64 (dgt W64 gp 2), .int .u64 (dgt W64 gp 3), .int .u64 (dgt W64 gq 0), .int .u64 (dgt W64 gq 1), .int .u64 (dgt W64 gq 2), .int .u64 (dgt W64 gq 3), .int .u64 (dgt W64 gg 0), .int .u64 (dgt W64 gg 1), .int .u64 (dgt W64 gg 2), .int .u64 (dgt W64 gg 3), .int .u64 (dgt W64 gh 0), .int .u64 (dgt W64 gh 1), .int .u64 (dgt W64 gh 2), .int .u64 (dgt W64 gh 3), .int .u64 (dgt W64 lg 0), .int .u64 (dgt W64 lg 1), .int .u64 (dgt W64 lg 2), .int .u64 (dgt W64 lg 3), .int .i64 fa, .int .i64 se, ks] 29) := ⟨_, rfl⟩
 obtain ⟨CB, hCB⟩ : ∃ b, b = w.heap.size := ⟨_, rfl⟩
 have hb : Below w.heap.size w v_0 := by rw [e0]; exact (Below.refl _ _).alloc (Nat.le_refl _) _
 have HG := Lib.hid (show GrpAt v_0 CB gp gq gg gh by rw [e0, hCB]; exact cast_grp)
 have HB := Lib.hid hb
 rw [← e0, ← hCB]
 clear e0 hCB hb
 have y0 := HG.out.1 0 (by decide)
 have y1 := HG.out.1 1 (by decide)
 have y2 := HG.out.1 2 (by decide)
 have y3 := HG.out.1 3 (by decide)
 simp only [Nat.reduceAdd] at y0 y1 y2 y3
 go_upto_region 2 with fail
 clear y0 y1 y2 y3
 obtain ⟨v_2, e9⟩ : ∃ w9, w9 = v_0.alloc (.cells #[.int .u64 (dgt W64 gp 0), .int .u64 (dgt W64 gp 1), .int .u64 (dgt W64 gp 2), .int .u64 (dgt W64 gp 3)] 24) := ⟨_, rfl⟩
 obtain ⟨PB, h9⟩ : ∃ b, b = v_0.heap.size := ⟨_, rfl⟩
 have hb : Below v_0.heap.size v_0 v_2 := by rw [e9]; exact (Below.refl _ _).alloc (Nat.le_refl _) _
 have HPB := Lib.hid (show NumAt v_2 PB gp by rw [e9, h9]; exact NumAt.new _ _ _ _ rfl)
 have HG := Lib.hid (HG.out.later hb)
 have HB := Lib.hid (below_later HB.out hb)
 rw [← e9, ← h9]
 clear e9 h9 hb
 have y0 := HG.out.2.1 0 (by decide)
 have y1 := HG.out.2.1 1 (by decide)
 have y2 := HG.out.2.1 2 (by decide)
 have y3 := HG.out.2.1 3 (by decide)
 simp only [Nat.reduceAdd] at y0 y1 y2 y3
 go_upto_region 3 with fail
 clear y0 y1 y2 y3
 obtain ⟨v_3, e9⟩ : ∃ w9, w9 = v_2.alloc (.cells #[.int .u64 (dgt W64 gq 0), .int .u64 (dgt W64 gq 1), .int .u64 (dgt W64 gq 2), .int .u64 (dgt W64 gq 3)] 24) := ⟨_, rfl⟩
 obtain ⟨QB, h9⟩ : ∃ b, b = v_2.heap.size := ⟨_, rfl⟩
 have hb : Below v_2.heap.size v_2 v_3 := by rw [e9]; exact (Below.refl _ _).alloc (Nat.le_refl _) _
 have HQB := Lib.hid (show NumAt v_3 QB gq by rw [e9, h9]; exact NumAt.new _ _ _ _ rfl)
 have HPB := Lib.hid (NumAt.later hb HPB.out)
 have HG := Lib.hid (HG.out.later hb)
 have HB := Lib.hid (below_later HB.out hb)
 rw [← e9, ← h9]
 clear e9 h9 hb
 have hRd : QB < v_3.heap.size := HQB.out.lt
 have B := HB
 refine wp_region_fresh 41 (fun _ => none) (by kernel_rfl) (by kernel_rfl) (fun _ _ _ _ _ h => h) (fun F hn9 hcl hbl => ?_)
 have r_PB_0 := fun X9 : Wd F => (NumAt.later (hbl X9.world X9.fact) HPB.out) 0 (by omega)
 have r_PB_1 := fun X9 : Wd F => (NumAt.later (hbl X9.world X9.fact) HPB.out) 1 (by omega)
 have r_PB_2 := fun X9 : Wd F => (NumAt.later (hbl X9.world X9.fact) HPB.out) 2 (by omega)
 have r_PB_3 := fun X9 : Wd F => (NumAt.later (hbl X9.world X9.fact) HPB.out) 3 (by omega)
 have r_QB_0 := fun X9 : Wd F => (NumAt.later (hbl X9.world X9.fact) HQB.out) 0 (by omega)
 have r_QB_1 := fun X9 : Wd F => (NumAt.later (hbl X9.world X9.fact) HQB.out) 1 (by omega)
 have r_QB_2 := fun X9 : Wd F => (NumAt.later (hbl X9.world X9.fact) HQB.out) 2 (by omega)
 have r_QB_3 := fun X9 : Wd F => (NumAt.later (hbl X9.world X9.fact) HQB.out) 3 (by omega)
 simp only [HP0.out] at r_PB_0
 simp only [HQ0.out] at r_QB_0
 have HCL := Lib.hid hcl
 clear hcl hbl
 refine wpF_seg 41 0 _ _ (fun _ _ _ => rfl) (by decide) ?_
 simp only [List.take_succ_cons, List.take_zero, List.drop_succ_cons, List.drop_zero, Nat.reduceAdd]
 repeat (go_big_quiet_step ((first | (go_at_call 27; with_reducible exact to_class HCL.out (HB.out _)))))
 refine wpQuiet_nil ?_
 refine wpF_nil ?_
 intro bs w2 hb _ _
 clear r_PB_0 r_PB_1 r_PB_2 r_PB_3 r_QB_0 r_QB_1 r_QB_2 r_QB_3
 have HPB := Lib.hid (NumAt.later hb HPB.out)
 have HQB := Lib.hid (NumAt.later hb HQB.out)
 have hRd := Nat.lt_of_lt_of_le hRd hb.size
 have B := Lib.hid (below_later B.out hb)
 clear hb
 simp only [over]
 go_wp2_with fail
 refine bodyPost_ret (v := .bool false) ?_ rfl ⟨rfl, B.out⟩
 simp [results, Try.results11, go_sem]
set_option linter.unusedVariables false in
set_option linter.unusedSimpArgs false in
set_option maxRecDepth 100000 in
set_option maxHeartbeats 4000000 in
theorem prime_2 {gp gq gg gh lg p0 q0 : Nat} {fa se : Int} {ks : Value} (hp0 : dgt W64 gp 0 = p0) (hq0 : dgt W64 gq 0 = q0) (h0 : p0 < 4294967296) (h1 : 1 < q0) (h2 : ¬ gp = p0) (hm : gp < M256) (hq : gq < M256) (w : World) :
  Calls Try.prog 11 #[castV gp gq gg gh lg fa se ks] w fun e w' => e = .returned (.bool false) ∧ Below w.heap.size w w' := by
 have lp0 : p0 < W64 := by rw [← hp0]; exact dgtW_lt _ _
 have lq0 : q0 < W64 := by rw [← hq0]; exact dgtW_lt _ _
 have i0 : (p0 : Int) < 4294967296 := by omega
 have i1 : (1 : Int) < (q0 : Int) := by omega
 have heq2 := eq_num gp p0 hm (Nat.lt_trans lp0 (by decide))
 rw [decide_eq_false h2, hp0] at heq2
 have CO2 := Lib.hid (fun w => by have h := of_any p0 lp0 w; unfold numV words at h; exact h)
 have HP0 := Lib.hid hp0
 have HQ0 := Lib.hid hq0
 clear hp0 hq0
 clear h0 h1 h2 hm hq lp0 lq0
 unfold castV
 go_enter Try.func11, Try.ntmps11
 go_upto_region 1 with fail
 obtain ⟨v_0, e0⟩ : ∃ w9, w9 = w.alloc (.cells #[.int .u64 (dgt W64 gp 0), .int .u64 (dgt W64 gp 1), .int .u64 (dgt W64 gp 2), .int .u64 (dgt W64 gp 3), .int .u64 (dgt W64 gq 0), .int .u64 (dgt W64 gq 1), .int .u64 (dgt W64 gq 2), .int .u64 (dgt W64 gq 3), .int .u64 (dgt W64 gg 0), .int .u64 (dgt W64 gg 1), .int .u64 (dgt W64 gg 2), .int .u64 (dgt W64 gg 3), .int .u64 (dgt W64 gh 0), .int .u64 (dgt W64 gh 1), .int .u64 (dgt W64 gh 2), .int .u64 (dgt W64 gh 3), .int .u64 (dgt W64 lg 0), .int .u64 (dgt W64 lg 1), .int .u64 (dgt W64 lg 2), .int .u64 (dgt W64 lg 3), .int .i64 fa, .int .i64 se, ks] 29) := ⟨_, rfl⟩
 obtain ⟨CB, hCB⟩ : ∃ b, b = w.heap.size := ⟨_, rfl⟩
 have hb : Below w.heap.size w v_0 := by rw [e0]; exact (Below.refl _ _).alloc (Nat.le_refl _) _
 have HG := Lib.hid (show GrpAt v_0 CB gp gq gg gh by rw [e0, hCB]; exact cast_grp)
 have HB := Lib.hid hb
 rw [← e0, ← hCB]
 clear e0 hCB hb
 have y0 := HG.out.1 0 (by decide)
 have y1 := HG.out.1 1 (by decide)
 have y2 := HG.out.1 2 (by decide)
 have y3 := HG.out.1 3 (by decide)
 simp only [Nat.reduceAdd] at y0 y1 y2 y3
 go_upto_region 2 with fail
 clear y0 y1 y2 y3
 obtain ⟨v_2, e9⟩ : ∃ w9, w9 = v_0.alloc (.cells #[.int .u64 (dgt W64 gp 0), .int .u64 (dgt W64 gp 1), .int .u64 (dgt W64 gp 2), .int .u64 (dgt W64 gp 3)] 24) := ⟨_, rfl⟩
 obtain ⟨PB, h9⟩ : ∃ b, b = v_0.heap.size := ⟨_, rfl⟩
 have hb : Below v_0.heap.size v_0 v_2 := by rw [e9]; exact (Below.refl _ _).alloc (Nat.le_refl _) _
 have HPB := Lib.hid (show NumAt v_2 PB gp by rw [e9, h9]; exact NumAt.new _ _ _ _ rfl)
 have HG := Lib.hid (HG.out.later hb)
 have HB := Lib.hid (below_later HB.out hb)
 rw [← e9, ← h9]
 clear e9 h9 hb
 have y0 := HG.out.2.1 0 (by decide)
 have y1 := HG.out.2.1 1 (by decide)
 have y2 := HG.out.2.1 2 (by decide)
 have y3 := HG.out.2.1 3 (by decide)
 simp only [Nat.reduceAdd] at y0 y1 y2 y3
 go_upto_region 3 with fail
 clear y0 y1 y2 y3
 obtain ⟨v_3, e9⟩ : ∃ w9, w9 = v_2.alloc (.cells #[.int .u64 (dgt W64 gq 0), .int .u64 (dgt W64 gq 1), .int .u64 (dgt W64 gq 2), .int .u64 (dgt W64 gq 3)] 24) := ⟨_, rfl⟩
 obtain ⟨QB, h9⟩ : ∃ b, b = v_2.heap.size := ⟨_, rfl⟩
 have hb : Below v_2.heap.size v_2 v_3 := by rw [e9]; exact (Below.refl _ _).alloc (Nat.le_refl _) _
 have HQB := Lib.hid (show NumAt v_3 QB gq by rw [e9, h9]; exact NumAt.new _ _ _ _ rfl)
 have HPB := Lib.hid (NumAt.later hb HPB.out)
 have HG := Lib.hid (HG.out.later hb)
 have HB := Lib.hid (below_later HB.out hb)
 rw [← e9, ← h9]
 clear e9 h9 hb
 have hRd : QB < v_3.heap.size := HQB.out.lt
 have B := HB
 refine wp_region_fresh 41 (fun _ => none) (by kernel_rfl) (by kernel_rfl) (fun _ _ _ _ _ h => h) (fun F hn9 hcl hbl => ?_)
 have r_PB_0 := fun X9 : Wd F => (NumAt.later (hbl X9.world X9.fact) HPB.out) 0 (by omega)
 have r_PB_1 := fun X9 : Wd F => (NumAt.later (hbl X9.world X9.fact) HPB.out) 1 (by omega)
 have r_PB_2 := fun X9 : Wd F => (NumAt.later (hbl X9.world X9.fact) HPB.out) 2 (by omega)
 have r_PB_3 := fun X9 : Wd F => (NumAt.later (hbl X9.world X9.fact) HPB.out) 3 (by omega)
 have r_QB_0 := fun X9 : Wd F => (NumAt.later (hbl X9.world X9.fact) HQB.out) 0 (by omega)
 have r_QB_1 := fun X9 : Wd F => (NumAt.later (hbl X9.world X9.fact) HQB.out) 1 (by omega)
 have r_QB_2 := fun X9 : Wd F => (NumAt.later (hbl X9.world X9.fact) HQB.out) 2 (by omega)
 have r_QB_3 := fun X9 : Wd F => (NumAt.later (hbl X9.world X9.fact) HQB.out) 3 (by omega)
 simp only [HP0.out] at r_PB_0
 simp only [HQ0.out] at r_QB_0
 have HCL := Lib.hid hcl
 clear hcl hbl
 refine wpF_seg 41 0 _ _ (fun _ _ _ => rfl) (by decide) ?_
 simp only [List.take_succ_cons, List.take_zero, List.drop_succ_cons, List.drop_zero, Nat.reduceAdd]
 repeat (go_big_quiet_step ((first | (go_at_call 27; with_reducible exact to_class HCL.out (CO2.out _)))))
 refine wpQuiet_nil ?_
 refine wpF_nil ?_
 intro bs w2 hb _ _
 clear r_PB_0 r_PB_1 r_PB_2 r_PB_3 r_QB_0 r_QB_1 r_QB_2 r_QB_3
 have HPB := Lib.hid (NumAt.later hb HPB.out)
 have HQB := Lib.hid (NumAt.later hb HQB.out)
 have hRd := Nat.lt_of_lt_of_le hRd hb.size
 have B := Lib.hid (below_later B.out hb)
 clear hb
 simp only [over]
 go_wp2_with fail
 refine bodyPost_ret (v := .bool false) ?_ rfl ⟨rfl, B.out⟩
 simp [results, Try.results11, go_sem]
set_option linter.unusedVariables false in
set_option linter.unusedSimpArgs false in
set_option maxRecDepth 100000 in
set_option maxHeartbeats 4000000 in
theorem prime_3 {gp gq gg gh lg p0 q0 : Nat} {fa se : Int} {ks : Value} (hp0 : dgt W64 gp 0 = p0) (hq0 : dgt W64 gq 0 = q0) (h0 : p0 < 4294967296) (h1 : 1 < q0) (h2 : gp = p0) (h3 : ¬ gq = q0) (hm : gp < M256) (hq : gq < M256) (w : World) :
  Calls Try.prog 11 #[castV gp gq gg gh lg fa se ks] w fun e w' => e = .returned (.bool false) ∧ Below w.heap.size w w' := by
 have lp0 : p0 < W64 := by rw [← hp0]; exact dgtW_lt _ _
 have lq0 : q0 < W64 := by rw [← hq0]; exact dgtW_lt _ _
 have i0 : (p0 : Int) < 4294967296 := by omega
 have i1 : (1 : Int) < (q0 : Int) := by omega
 have heq2 := eq_num gp p0 hm (Nat.lt_trans lp0 (by decide))
 rw [decide_eq_true h2, hp0] at heq2
 have CO2 := Lib.hid (fun w => by have h := of_any p0 lp0 w; unfold numV words at h; exact h)
 have heq3 := eq_num gq q0 hq (Nat.lt_trans lq0 (by decide))
 rw [decide_eq_false h3, hq0] at heq3
 have CO3 := Lib.hid (fun w => by have h := of_any q0 lq0 w; unfold numV words at h; exact h)
 have HP0 := Lib.hid hp0
 have HQ0 := Lib.hid hq0
 clear hp0 hq0
 clear h0 h1 h2 h3 hm hq lp0 lq0
 unfold castV
 go_enter Try.func11, Try.ntmps11
 go_upto_region 1 with fail
 obtain ⟨v_0, e0⟩ : ∃ w9, w9 = w.alloc (.cells #[.int .u64 (dgt W64 gp 0), .int .u64 (dgt W64 gp 1), .int .u64 (dgt W64 gp 2), .int .u64 (dgt W64 gp 3), .int .u64 (dgt W64 gq 0), .int .u64 (dgt W64 gq 1), .int .u64 (dgt W64 gq 2), .int .u64 (dgt W64 gq 3), .int .u64 (dgt W64 gg 0), .int .u64 (dgt W64 gg 1), .int .u64 (dgt W64 gg 2), .int .u64 (dgt W64 gg 3), .int .u64 (dgt W64 gh 0), .int .u64 (dgt W64 gh 1), .int .u64 (dgt W64 gh 2), .int .u64 (dgt W64 gh 3), .int .u64 (dgt W64 lg 0), .int .u64 (dgt W64 lg 1), .int .u64 (dgt W64 lg 2), .int .u64 (dgt W64 lg 3), .int .i64 fa, .int .i64 se, ks] 29) := ⟨_, rfl⟩
 obtain ⟨CB, hCB⟩ : ∃ b, b = w.heap.size := ⟨_, rfl⟩
 have hb : Below w.heap.size w v_0 := by rw [e0]; exact (Below.refl _ _).alloc (Nat.le_refl _) _
 have HG := Lib.hid (show GrpAt v_0 CB gp gq gg gh by rw [e0, hCB]; exact cast_grp)
 have HB := Lib.hid hb
 rw [← e0, ← hCB]
 clear e0 hCB hb
 have y0 := HG.out.1 0 (by decide)
 have y1 := HG.out.1 1 (by decide)
 have y2 := HG.out.1 2 (by decide)
 have y3 := HG.out.1 3 (by decide)
 simp only [Nat.reduceAdd] at y0 y1 y2 y3
 go_upto_region 2 with fail
 clear y0 y1 y2 y3
 obtain ⟨v_2, e9⟩ : ∃ w9, w9 = v_0.alloc (.cells #[.int .u64 (dgt W64 gp 0), .int .u64 (dgt W64 gp 1), .int .u64 (dgt W64 gp 2), .int .u64 (dgt W64 gp 3)] 24) := ⟨_, rfl⟩
 obtain ⟨PB, h9⟩ : ∃ b, b = v_0.heap.size := ⟨_, rfl⟩
 have hb : Below v_0.heap.size v_0 v_2 := by rw [e9]; exact (Below.refl _ _).alloc (Nat.le_refl _) _
 have HPB := Lib.hid (show NumAt v_2 PB gp by rw [e9, h9]; exact NumAt.new _ _ _ _ rfl)
 have HG := Lib.hid (HG.out.later hb)
 have HB := Lib.hid (below_later HB.out hb)
 rw [← e9, ← h9]
 clear e9 h9 hb
 have y0 := HG.out.2.1 0 (by decide)
 have y1 := HG.out.2.1 1 (by decide)
 have y2 := HG.out.2.1 2 (by decide)
 have y3 := HG.out.2.1 3 (by decide)
 simp only [Nat.reduceAdd] at y0 y1 y2 y3
 go_upto_region 3 with fail
 clear y0 y1 y2 y3
 obtain ⟨v_3, e9⟩ : ∃ w9, w9 = v_2.alloc (.cells #[.int .u64 (dgt W64 gq 0), .int .u64 (dgt W64 gq 1), .int .u64 (dgt W64 gq 2), .int .u64 (dgt W64 gq 3)] 24) := ⟨_, rfl⟩
 obtain ⟨QB, h9⟩ : ∃ b, b = v_2.heap.size := ⟨_, rfl⟩
 have hb : Below v_2.heap.size v_2 v_3 := by rw [e9]; exact (Below.refl _ _).alloc (Nat.le_refl _) _
 have HQB := Lib.hid (show NumAt v_3 QB gq by rw [e9, h9]; exact NumAt.new _ _ _ _ rfl)
 have HPB := Lib.hid (NumAt.later hb HPB.out)
 have HG := Lib.hid (HG.out.later hb)
 have HB := Lib.hid (below_later HB.out hb)
 rw [← e9, ← h9]
 clear e9 h9 hb
 have hRd : QB < v_3.heap.size := HQB.out.lt
 have B := HB
 refine wp_region_fresh 41 (fun _ => none) (by kernel_rfl) (by kernel_rfl) (fun _ _ _ _ _ h => h) (fun F hn9 hcl hbl => ?_)
 have r_PB_0 := fun X9 : Wd F => (NumAt.later (hbl X9.world X9.fact) HPB.out) 0 (by omega)
 have r_PB_1 := fun X9 : Wd F => (NumAt.later (hbl X9.world X9.fact) HPB.out) 1 (by omega)
 have r_PB_2 := fun X9 : Wd F => (NumAt.later (hbl X9.world X9.fact) HPB.out) 2 (by omega)
 have r_PB_3 := fun X9 : Wd F => (NumAt.later (hbl X9.world X9.fact) HPB.out) 3 (by omega)
 have r_QB_0 := fun X9 : Wd F => (NumAt.later (hbl X9.world X9.fact) HQB.out) 0 (by omega)
 have r_QB_1 := fun X9 : Wd F => (NumAt.later (hbl X9.world X9.fact) HQB.out) 1 (by omega)
 have r_QB_2 := fun X9 : Wd F => (NumAt.later (hbl X9.world X9.fact) HQB.out) 2 (by omega)
 have r_QB_3 := fun X9 : Wd F => (NumAt.later (hbl X9.world X9.fact) HQB.out) 3 (by omega)
 simp only [HP0.out] at r_PB_0
 simp only [HQ0.out] at r_QB_0
 have HCL := Lib.hid hcl
 clear hcl hbl
 refine wpF_seg 41 0 _ _ (fun _ _ _ => rfl) (by decide) ?_
 simp only [List.take_succ_cons, List.take_zero, List.drop_succ_cons, List.drop_zero, Nat.reduceAdd]
 repeat (go_big_quiet_step ((first | (go_at_call 27; with_reducible exact to_class HCL.out (CO2.out _)) | (go_at_call 27; with_reducible exact to_class HCL.out (CO3.out _)))))
 refine wpQuiet_nil ?_
 refine wpF_nil ?_
 intro bs w2 hb _ _
 clear r_PB_0 r_PB_1 r_PB_2 r_PB_3 r_QB_0 r_QB_1 r_QB_2 r_QB_3
 have HPB := Lib.hid (NumAt.later hb HPB.out)
 have HQB := Lib.hid (NumAt.later hb HQB.out)
 have hRd := Nat.lt_of_lt_of_le hRd hb.size
 have B := Lib.hid (below_later B.out hb)
 clear hb
 simp only [over]
 go_wp2_with fail
 refine bodyPost_ret (v := .bool false) ?_ rfl ⟨rfl, B.out⟩
 simp [results, Try.results11, go_sem]
set_option linter.unusedVariables false in
set_option linter.unusedSimpArgs false in
set_option maxRecDepth 100000 in
set_option maxHeartbeats 4000000 in
theorem prime_4 {gp gq gg gh lg p0 q0 : Nat} {fa se : Int} {ks : Value} (hp0 : dgt W64 gp 0 = p0) (hq0 : dgt W64 gq 0 = q0) (h0 : p0 < 4294967296) (h1 : 1 < q0) (h2 : gp = p0) (h3 : gq = q0) (h4 : ¬ (PrimeN p0 ∧ p0 < 4294967296)) (hm : gp < M256) (hq : gq < M256) (w : World) :
  Calls Try.prog 11 #[castV gp gq gg gh lg fa se ks] w fun e w' => e = .returned (.bool false) ∧ Below w.heap.size w w' := by
 have lp0 : p0 < W64 := by rw [← hp0]; exact dgtW_lt _ _
 have lq0 : q0 < W64 := by rw [← hq0]; exact dgtW_lt _ _
 have i0 : (p0 : Int) < 4294967296 := by omega
 have i1 : (1 : Int) < (q0 : Int) := by omega
 have heq2 := eq_num gp p0 hm (Nat.lt_trans lp0 (by decide))
 rw [decide_eq_true h2, hp0] at heq2
 have CO2 := Lib.hid (fun w => by have h := of_any p0 lp0 w; unfold numV words at h; exact h)
 have heq3 := eq_num gq q0 hq (Nat.lt_trans lq0 (by decide))
 rw [decide_eq_true h3, hq0] at heq3
 have CO3 := Lib.hid (fun w => by have h := of_any q0 lq0 w; unfold numV words at h; exact h)
 have CP := Lib.hid (fun W => small_is (b := false) lp0 (by simp [h4]) W)
 have HP0 := Lib.hid hp0
 have HQ0 := Lib.hid hq0
 clear hp0 hq0
 clear h0 h1 h2 h3 h4 hm hq lp0 lq0
 unfold castV
 go_enter Try.func11, Try.ntmps11
 go_upto_region 1 with fail
 obtain ⟨v_0, e0⟩ : ∃ w9, w9 = w.alloc (.cells #[.int .u64 (dgt W64 gp 0), .int .u64 (dgt W64 gp 1), .int .u64 (dgt W64 gp 2), .int .u64 (dgt W64 gp 3), .int .u64 (dgt W64 gq 0), .int .u64 (dgt W64 gq 1), .int .u64 (dgt W64 gq 2), .int .u64 (dgt W64 gq 3), .int .u64 (dgt W64 gg 0), .int .u64 (dgt W64 gg 1), .int .u64 (dgt W64 gg 2), .int .u64 (dgt W64 gg 3), .int .u64 (dgt W64 gh 0), .int .u64 (dgt W64 gh 1), .int .u64 (dgt W64 gh 2), .int .u64 (dgt W64 gh 3), .int .u64 (dgt W64 lg 0), .int .u64 (dgt W64 lg 1), .int .u64 (dgt W64 lg 2), .int .u64 (dgt W64 lg 3), .int .i64 fa, .int .i64 se, ks] 29) := ⟨_, rfl⟩
 obtain ⟨CB, hCB⟩ : ∃ b, b = w.heap.size := ⟨_, rfl⟩
 have hb : Below w.heap.size w v_0 := by rw [e0]; exact (Below.refl _ _).alloc (Nat.le_refl _) _
 have HG := Lib.hid (show GrpAt v_0 CB gp gq gg gh by rw [e0, hCB]; exact cast_grp)
 have HB := Lib.hid hb
 rw [← e0, ← hCB]
 clear e0 hCB hb
 have y0 := HG.out.1 0 (by decide)
 have y1 := HG.out.1 1 (by decide)
 have y2 := HG.out.1 2 (by decide)
 have y3 := HG.out.1 3 (by decide)
 simp only [Nat.reduceAdd] at y0 y1 y2 y3
 go_upto_region 2 with fail
 clear y0 y1 y2 y3
 obtain ⟨v_2, e9⟩ : ∃ w9, w9 = v_0.alloc (.cells #[.int .u64 (dgt W64 gp 0), .int .u64 (dgt W64 gp 1), .int .u64 (dgt W64 gp 2), .int .u64 (dgt W64 gp 3)] 24) := ⟨_, rfl⟩
 obtain ⟨PB, h9⟩ : ∃ b, b = v_0.heap.size := ⟨_, rfl⟩
 have hb : Below v_0.heap.size v_0 v_2 := by rw [e9]; exact (Below.refl _ _).alloc (Nat.le_refl _) _
 have HPB := Lib.hid (show NumAt v_2 PB gp by rw [e9, h9]; exact NumAt.new _ _ _ _ rfl)
 have HG := Lib.hid (HG.out.later hb)
 have HB := Lib.hid (below_later HB.out hb)
 rw [← e9, ← h9]
 clear e9 h9 hb
 have y0 := HG.out.2.1 0 (by decide)
 have y1 := HG.out.2.1 1 (by decide)
 have y2 := HG.out.2.1 2 (by decide)
 have y3 := HG.out.2.1 3 (by decide)
 simp only [Nat.reduceAdd] at y0 y1 y2 y3
 go_upto_region 3 with fail
 clear y0 y1 y2 y3
 obtain ⟨v_3, e9⟩ : ∃ w9, w9 = v_2.alloc (.cells #[.int .u64 (dgt W64 gq 0), .int .u64 (dgt W64 gq 1), .int .u64 (dgt W64 gq 2), .int .u64 (dgt W64 gq 3)] 24) := ⟨_, rfl⟩
 obtain ⟨QB, h9⟩ : ∃ b, b = v_2.heap.size := ⟨_, rfl⟩
 have hb : Below v_2.heap.size v_2 v_3 := by rw [e9]; exact (Below.refl _ _).alloc (Nat.le_refl _) _
 have HQB := Lib.hid (show NumAt v_3 QB gq by rw [e9, h9]; exact NumAt.new _ _ _ _ rfl)
 have HPB := Lib.hid (NumAt.later hb HPB.out)
 have HG := Lib.hid (HG.out.later hb)
 have HB := Lib.hid (below_later HB.out hb)
 rw [← e9, ← h9]
 clear e9 h9 hb
 have hRd : QB < v_3.heap.size := HQB.out.lt
 have B := HB
 refine wp_region_fresh 41 (fun _ => none) (by kernel_rfl) (by kernel_rfl) (fun _ _ _ _ _ h => h) (fun F hn9 hcl hbl => ?_)
 have r_PB_0 := fun X9 : Wd F => (NumAt.later (hbl X9.world X9.fact) HPB.out) 0 (by omega)
 have r_PB_1 := fun X9 : Wd F => (NumAt.later (hbl X9.world X9.fact) HPB.out) 1 (by omega)
 have r_PB_2 := fun X9 : Wd F => (NumAt.later (hbl X9.world X9.fact) HPB.out) 2 (by omega)
 have r_PB_3 := fun X9 : Wd F => (NumAt.later (hbl X9.world X9.fact) HPB.out) 3 (by omega)
 have r_QB_0 := fun X9 : Wd F => (NumAt.later (hbl X9.world X9.fact) HQB.out) 0 (by omega)
 have r_QB_1 := fun X9 : Wd F => (NumAt.later (hbl X9.world X9.fact) HQB.out) 1 (by omega)
 have r_QB_2 := fun X9 : Wd F => (NumAt.later (hbl X9.world X9.fact) HQB.out) 2 (by omega)
 have r_QB_3 := fun X9 : Wd F => (NumAt.later (hbl X9.world X9.fact) HQB.out) 3 (by omega)
 simp only [HP0.out] at r_PB_0
 simp only [HQ0.out] at r_QB_0
 have HCL := Lib.hid hcl
 clear hcl hbl
 refine wpF_seg 41 0 _ _ (fun _ _ _ => rfl) (by decide) ?_
 simp only [List.take_succ_cons, List.take_zero, List.drop_succ_cons, List.drop_zero, Nat.reduceAdd]
 repeat (go_big_quiet_step ((first | (go_at_call 27; with_reducible exact to_class HCL.out (CO2.out _)) | (go_at_call 27; with_reducible exact to_class HCL.out (CO3.out _)) | (go_at_call 28; with_reducible exact to_class HCL.out (CP.out _)))))
 refine wpQuiet_nil ?_
 refine wpF_nil ?_
 intro bs w2 hb _ _
 clear r_PB_0 r_PB_1 r_PB_2 r_PB_3 r_QB_0 r_QB_1 r_QB_2 r_QB_3
 have HPB := Lib.hid (NumAt.later hb HPB.out)
 have HQB := Lib.hid (NumAt.later hb HQB.out)
 have hRd := Nat.lt_of_lt_of_le hRd hb.size
 have B := Lib.hid (below_later B.out hb)
 clear hb
 simp only [over]
 go_wp2_with fail
 refine bodyPost_ret (v := .bool false) ?_ rfl ⟨rfl, B.out⟩
 simp [results, Try.results11, go_sem]
set_option linter.unusedVariables false in
set_option linter.unusedSimpArgs false in
set_option maxRecDepth 100000 in
set_option maxHeartbeats 4000000 in
theorem prime_5 {gp gq gg gh lg p0 q0 : Nat} {fa se : Int} {ks : Value} (hp0 : dgt W64 gp 0 = p0) (hq0 : dgt W64 gq 0 = q0) (h0 : p0 < 4294967296) (h1 : 1 < q0) (h2 : gp = p0) (h3 : gq = q0) (h4 : (PrimeN p0 ∧ p0 < 4294967296)) (h5 : ¬ (PrimeN q0 ∧ q0 < 4294967296)) (hm : gp < M256) (hq : gq < M256) (w : World) :
  Calls Try.prog 11 #[castV gp gq gg gh lg fa se ks] w fun e w' => e = .returned (.bool false) ∧ Below w.heap.size w w' := by
 have lp0 : p0 < W64 := by rw [← hp0]; exact dgtW_lt _ _
 have lq0 : q0 < W64 := by rw [← hq0]; exact dgtW_lt _ _
 have i0 : (p0 : Int) < 4294967296 := by omega
 have i1 : (1 : Int) < (q0 : Int) := by omega
 have heq2 := eq_num gp p0 hm (Nat.lt_trans lp0 (by decide))
 rw [decide_eq_true h2, hp0] at heq2
 have CO2 := Lib.hid (fun w => by have h := of_any p0 lp0 w; unfold numV words at h; exact h)
 have heq3 := eq_num gq q0 hq (Nat.lt_trans lq0 (by decide))
 rw [decide_eq_true h3, hq0] at heq3
 have CO3 := Lib.hid (fun w => by have h := of_any q0 lq0 w; unfold numV words at h; exact h)
 have CP := Lib.hid (fun W => small_is (b := true) lp0 (by simp [h4]) W)
 have CQ := Lib.hid (fun W => small_is (b := false) lq0 (by simp [h5]) W)
 have HP0 := Lib.hid hp0
 have HQ0 := Lib.hid hq0
 clear hp0 hq0
 clear h0 h1 h2 h3 h4 h5 hm hq lp0 lq0
 unfold castV
 go_enter Try.func11, Try.ntmps11
 go_upto_region 1 with fail
 obtain ⟨v_0, e0⟩ : ∃ w9, w9 = w.alloc (.cells #[.int .u64 (dgt W64 gp 0), .int .u64 (dgt W64 gp 1), .int .u64 (dgt W64 gp 2), .int .u64 (dgt W64 gp 3), .int .u64 (dgt W64 gq 0), .int .u64 (dgt W64 gq 1), .int .u64 (dgt W64 gq 2), .int .u64 (dgt W64 gq 3), .int .u64 (dgt W64 gg 0), .int .u64 (dgt W64 gg 1), .int .u64 (dgt W64 gg 2), .int .u64 (dgt W64 gg 3), .int .u64 (dgt W64 gh 0), .int .u64 (dgt W64 gh 1), .int .u64 (dgt W64 gh 2), .int .u64 (dgt W64 gh 3), .int .u64 (dgt W64 lg 0), .int .u64 (dgt W64 lg 1), .int .u64 (dgt W64 lg 2), .int .u64 (dgt W64 lg 3), .int .i64 fa, .int .i64 se, ks] 29) := ⟨_, rfl⟩
 obtain ⟨CB, hCB⟩ : ∃ b, b = w.heap.size := ⟨_, rfl⟩
 have hb : Below w.heap.size w v_0 := by rw [e0]; exact (Below.refl _ _).alloc (Nat.le_refl _) _
 have HG := Lib.hid (show GrpAt v_0 CB gp gq gg gh by rw [e0, hCB]; exact cast_grp)
 have HB := Lib.hid hb
 rw [← e0, ← hCB]
 clear e0 hCB hb
 have y0 := HG.out.1 0 (by decide)
 have y1 := HG.out.1 1 (by decide)
 have y2 := HG.out.1 2 (by decide)
 have y3 := HG.out.1 3 (by decide)
 simp only [Nat.reduceAdd] at y0 y1 y2 y3
 go_upto_region 2 with fail
 clear y0 y1 y2 y3
 obtain ⟨v_2, e9⟩ : ∃ w9, w9 = v_0.alloc (.cells #[.int .u64 (dgt W64 gp 0), .int .u64 (dgt W64 gp 1), .int .u64 (dgt W64 gp 2), .int .u64 (dgt W64 gp 3)] 24) := ⟨_, rfl⟩
 obtain ⟨PB, h9⟩ : ∃ b, b = v_0.heap.size := ⟨_, rfl⟩
 have hb : Below v_0.heap.size v_0 v_2 := by rw [e9]; exact (Below.refl _ _).alloc (Nat.le_refl _) _
 have HPB := Lib.hid (show NumAt v_2 PB gp by rw [e9, h9]; exact NumAt.new _ _ _ _ rfl)
 have HG := Lib.hid (HG.out.later hb)
 have HB := Lib.hid (below_later HB.out hb)
 rw [← e9, ← h9]
 clear e9 h9 hb
 have y0 := HG.out.2.1 0 (by decide)
 have y1 := HG.out.2.1 1 (by decide)
 have y2 := HG.out.2.1 2 (by decide)
 have y3 := HG.out.2.1 3 (by decide)
 simp only [Nat.reduceAdd] at y0 y1 y2 y3
 go_upto_region 3 with fail
 clear y0 y1 y2 y3
 obtain ⟨v_3, e9⟩ : ∃ w9, w9 = v_2.alloc (.cells #[.int .u64 (dgt W64 gq 0), .int .u64 (dgt W64 gq 1), .int .u64 (dgt W64 gq 2), .int .u64 (dgt W64 gq 3)] 24) := ⟨_, rfl⟩
 obtain ⟨QB, h9⟩ : ∃ b, b = v_2.heap.size := ⟨_, rfl⟩
 have hb : Below v_2.heap.size v_2 v_3 := by rw [e9]; exact (Below.refl _ _).alloc (Nat.le_refl _) _
 have HQB := Lib.hid (show NumAt v_3 QB gq by rw [e9, h9]; exact NumAt.new _ _ _ _ rfl)
 have HPB := Lib.hid (NumAt.later hb HPB.out)
 have HG := Lib.hid (HG.out.later hb)
 have HB := Lib.hid (below_later HB.out hb)
 rw [← e9, ← h9]
 clear e9 h9 hb
 have hRd : QB < v_3.heap.size := HQB.out.lt
 have B := HB
 refine wp_region_fresh 41 (fun _ => none) (by kernel_rfl) (by kernel_rfl) (fun _ _ _ _ _ h => h) (fun F hn9 hcl hbl => ?_)
 have r_PB_0 := fun X9 : Wd F => (NumAt.later (hbl X9.world X9.fact) HPB.out) 0 (by omega)
 have r_PB_1 := fun X9 : Wd F => (NumAt.later (hbl X9.world X9.fact) HPB.out) 1 (by omega)
 have r_PB_2 := fun X9 : Wd F => (NumAt.later (hbl X9.world X9.fact) HPB.out) 2 (by omega)
 have r_PB_3 := fun X9 : Wd F => (NumAt.later (hbl X9.world X9.fact) HPB.out) 3 (by omega)
 have r_QB_0 := fun X9 : Wd F => (NumAt.later (hbl X9.world X9.fact) HQB.out) 0 (by omega)
 have r_QB_1 := fun X9 : Wd F => (NumAt.later (hbl X9.world X9.fact) HQB.out) 1 (by omega)
 have r_QB_2 := fun X9 : Wd F => (NumAt.later (hbl X9.world X9.fact) HQB.out) 2 (by omega)
 have r_QB_3 := fun X9 : Wd F => (NumAt.later (hbl X9.world X9.fact) HQB.out) 3 (by omega)
 simp only [HP0.out] at r_PB_0
 simp only [HQ0.out] at r_QB_0
 have HCL := Lib.hid hcl
 clear hcl hbl
 refine wpF_seg 41 0 _ _ (fun _ _ _ => rfl) (by decide) ?_
 simp only [List.take_succ_cons, List.take_zero, List.drop_succ_cons, List.drop_zero, Nat.reduceAdd]
 repeat (go_big_quiet_step ((first | (go_at_call 27; with_reducible exact to_class HCL.out (CO2.out _)) | (go_at_call 27; with_reducible exact to_class HCL.out (CO3.out _)) | (go_at_call 28; with_reducible exact to_class HCL.out (CP.out _)) | (go_at_call 28; with_reducible exact to_class HCL.out (CQ.out _)))))
 refine wpQuiet_nil ?_
 refine wpF_nil ?_
 intro bs w2 hb _ _
 clear r_PB_0 r_PB_1 r_PB_2 r_PB_3 r_QB_0 r_QB_1 r_QB_2 r_QB_3
 have HPB := Lib.hid (NumAt.later hb HPB.out)
 have HQB := Lib.hid (NumAt.later hb HQB.out)
 have hRd := Nat.lt_of_lt_of_le hRd hb.size
 have B := Lib.hid (below_later B.out hb)
 clear hb
 simp only [over]
 go_wp2_with fail
 refine bodyPost_ret (v := .bool false) ?_ rfl ⟨rfl, B.out⟩
 simp [results, Try.results11, go_sem]
set_option linter.unusedVariables false in
set_option linter.unusedSimpArgs false in
set_option maxRecDepth 100000 in
set_option maxHeartbeats 4000000 in
theorem prime_6 {gp gq gg gh lg p0 q0 : Nat} {fa se : Int} {ks : Value} (hp0 : dgt W64 gp 0 = p0) (hq0 : dgt W64 gq 0 = q0) (h0 : p0 < 4294967296) (h1 : 1 < q0) (h2 : gp = p0) (h3 : gq = q0) (h4 : (PrimeN p0 ∧ p0 < 4294967296)) (h5 : (PrimeN q0 ∧ q0 < 4294967296)) (h6 : ¬ (p0 - 1) % q0 = 0) (hm : gp < M256) (hq : gq < M256) (w : World) :
  Calls Try.prog 11 #[castV gp gq gg gh lg fa se ks] w fun e w' => e = .returned (.bool false) ∧ Below w.heap.size w w' := by
 have lp0 : p0 < W64 := by rw [← hp0]; exact dgtW_lt _ _
 have lq0 : q0 < W64 := by rw [← hq0]; exact dgtW_lt _ _
 have i0 : (p0 : Int) < 4294967296 := by omega
 have i1 : (1 : Int) < (q0 : Int) := by omega
 have heq2 := eq_num gp p0 hm (Nat.lt_trans lp0 (by decide))
 rw [decide_eq_true h2, hp0] at heq2
 have CO2 := Lib.hid (fun w => by have h := of_any p0 lp0 w; unfold numV words at h; exact h)
 have heq3 := eq_num gq q0 hq (Nat.lt_trans lq0 (by decide))
 rw [decide_eq_true h3, hq0] at heq3
 have CO3 := Lib.hid (fun w => by have h := of_any q0 lq0 w; unfold numV words at h; exact h)
 have CP := Lib.hid (fun W => small_is (b := true) lp0 (by simp [h4]) W)
 have CQ := Lib.hid (fun W => small_is (b := true) lq0 (by simp [h5]) W)
 have hp2 : 2 ≤ p0 := h4.1.1
 obtain ⟨m, hm9⟩ : ∃ m, m = p0 - 1 := ⟨_, rfl⟩
 have hmI : (p0 : Int) - 1 = (m : Int) := by omega
 have hmb : m < 18446744073709551616 := by unfold W64 at lp0; omega
 have hmw : IntKind.u64.wrap (m : Int) = (m : Int) := by simp [IntKind.wrap, IntKind.bits, IntKind.signed]; omega
 obtain ⟨r, hr⟩ : ∃ r, r = m % q0 := ⟨_, rfl⟩
 have hrI : (m : Int) % (q0 : Int) = (r : Int) := by rw [hr]; simp
 have hq00 : ¬ (q0 : Int) = 0 := by omega
 have hz : ¬ (r : Int) = 0 := by rw [hm9] at hr; omega
 clear hr hm9 hp2
 have hbeq : ((r : Int) == 0) = false := by simp; omega
 have HP0 := Lib.hid hp0
 have HQ0 := Lib.hid hq0
 clear hp0 hq0
 clear h0 h1 h2 h3 h4 h5 h6 hm hq lp0 lq0
 unfold castV
 go_enter Try.func11, Try.ntmps11
 go_upto_region 1 with fail
 obtain ⟨v_0, e0⟩ : ∃ w9, w9 = w.alloc (.cells #[.int .u64 (dgt W64 gp 0), .int .u64 (dgt W64 gp 1), .int .u64 (dgt W64 gp 2), .int .u64 (dgt W64 gp 3), .int .u64 (dgt W64 gq 0), .int .u64 (dgt W64 gq 1), .int .u64 (dgt W64 gq 2), .int .u64 (dgt W64 gq 3), .int .u64 (dgt W64 gg 0), .int .u64 (dgt W64 gg 1), .int .u64 (dgt W64 gg 2), .int .u64 (dgt W64 gg 3), .int .u64 (dgt W64 gh 0), .int .u64 (dgt W64 gh 1), .int .u64 (dgt W64 gh 2), .int .u64 (dgt W64 gh 3), .int .u64 (dgt W64 lg 0), .int .u64 (dgt W64 lg 1), .int .u64 (dgt W64 lg 2), .int .u64 (dgt W64 lg 3), .int .i64 fa, .int .i64 se, ks] 29) := ⟨_, rfl⟩
 obtain ⟨CB, hCB⟩ : ∃ b, b = w.heap.size := ⟨_, rfl⟩
 have hb : Below w.heap.size w v_0 := by rw [e0]; exact (Below.refl _ _).alloc (Nat.le_refl _) _
 have HG := Lib.hid (show GrpAt v_0 CB gp gq gg gh by rw [e0, hCB]; exact cast_grp)
 have HB := Lib.hid hb
 rw [← e0, ← hCB]
 clear e0 hCB hb
 have y0 := HG.out.1 0 (by decide)
 have y1 := HG.out.1 1 (by decide)
 have y2 := HG.out.1 2 (by decide)
 have y3 := HG.out.1 3 (by decide)
 simp only [Nat.reduceAdd] at y0 y1 y2 y3
 go_upto_region 2 with fail
 clear y0 y1 y2 y3
 obtain ⟨v_2, e9⟩ : ∃ w9, w9 = v_0.alloc (.cells #[.int .u64 (dgt W64 gp 0), .int .u64 (dgt W64 gp 1), .int .u64 (dgt W64 gp 2), .int .u64 (dgt W64 gp 3)] 24) := ⟨_, rfl⟩
 obtain ⟨PB, h9⟩ : ∃ b, b = v_0.heap.size := ⟨_, rfl⟩
 have hb : Below v_0.heap.size v_0 v_2 := by rw [e9]; exact (Below.refl _ _).alloc (Nat.le_refl _) _
 have HPB := Lib.hid (show NumAt v_2 PB gp by rw [e9, h9]; exact NumAt.new _ _ _ _ rfl)
 have HG := Lib.hid (HG.out.later hb)
 have HB := Lib.hid (below_later HB.out hb)
 rw [← e9, ← h9]
 clear e9 h9 hb
 have y0 := HG.out.2.1 0 (by decide)
 have y1 := HG.out.2.1 1 (by decide)
 have y2 := HG.out.2.1 2 (by decide)
 have y3 := HG.out.2.1 3 (by decide)
 simp only [Nat.reduceAdd] at y0 y1 y2 y3
 go_upto_region 3 with fail
 clear y0 y1 y2 y3
 obtain ⟨v_3, e9⟩ : ∃ w9, w9 = v_2.alloc (.cells #[.int .u64 (dgt W64 gq 0), .int .u64 (dgt W64 gq 1), .int .u64 (dgt W64 gq 2), .int .u64 (dgt W64 gq 3)] 24) := ⟨_, rfl⟩
 obtain ⟨QB, h9⟩ : ∃ b, b = v_2.heap.size := ⟨_, rfl⟩
 have hb : Below v_2.heap.size v_2 v_3 := by rw [e9]; exact (Below.refl _ _).alloc (Nat.le_refl _) _
 have HQB := Lib.hid (show NumAt v_3 QB gq by rw [e9, h9]; exact NumAt.new _ _ _ _ rfl)
 have HPB := Lib.hid (NumAt.later hb HPB.out)
 have HG := Lib.hid (HG.out.later hb)
 have HB := Lib.hid (below_later HB.out hb)
 rw [← e9, ← h9]
 clear e9 h9 hb
 have hRd : QB < v_3.heap.size := HQB.out.lt
 have B := HB
 refine wp_region_fresh 41 (fun _ => none) (by kernel_rfl) (by kernel_rfl) (fun _ _ _ _ _ h => h) (fun F hn9 hcl hbl => ?_)
 have r_PB_0 := fun X9 : Wd F => (NumAt.later (hbl X9.world X9.fact) HPB.out) 0 (by omega)
 have r_PB_1 := fun X9 : Wd F => (NumAt.later (hbl X9.world X9.fact) HPB.out) 1 (by omega)
 have r_PB_2 := fun X9 : Wd F => (NumAt.later (hbl X9.world X9.fact) HPB.out) 2 (by omega)
 have r_PB_3 := fun X9 : Wd F => (NumAt.later (hbl X9.world X9.fact) HPB.out) 3 (by omega)
 have r_QB_0 := fun X9 : Wd F => (NumAt.later (hbl X9.world X9.fact) HQB.out) 0 (by omega)
 have r_QB_1 := fun X9 : Wd F => (NumAt.later (hbl X9.world X9.fact) HQB.out) 1 (by omega)
 have r_QB_2 := fun X9 : Wd F => (NumAt.later (hbl X9.world X9.fact) HQB.out) 2 (by omega)
 have r_QB_3 := fun X9 : Wd F => (NumAt.later (hbl X9.world X9.fact) HQB.out) 3 (by omega)
 simp only [HP0.out] at r_PB_0
 simp only [HQ0.out] at r_QB_0
 have HCL := Lib.hid hcl
 clear hcl hbl
 refine wpF_seg 41 0 _ _ (fun _ _ _ => rfl) (by decide) ?_
 simp only [List.take_succ_cons, List.take_zero, List.drop_succ_cons, List.drop_zero, Nat.reduceAdd]
 repeat (go_big_quiet_step ((first | (go_at_call 27; with_reducible exact to_class HCL.out (CO2.out _)) | (go_at_call 27; with_reducible exact to_class HCL.out (CO3.out _)) | (go_at_call 28; with_reducible exact to_class HCL.out (CP.out _)) | (go_at_call 28; with_reducible exact to_class HCL.out (CQ.out _)))))
 refine wpQuiet_nil ?_
 refine wpF_nil ?_
 intro bs w2 hb _ _
 clear r_PB_0 r_PB_1 r_PB_2 r_PB_3 r_QB_0 r_QB_1 r_QB_2 r_QB_3
 have HPB := Lib.hid (NumAt.later hb HPB.out)
 have HQB := Lib.hid (NumAt.later hb HQB.out)
 have hRd := Nat.lt_of_lt_of_le hRd hb.size
 have B := Lib.hid (below_later B.out hb)
 clear hb
 simp only [over]
 go_wp2_with fail
 refine bodyPost_ret (v := .bool false) ?_ rfl ⟨rfl, B.out⟩
 simp [results, Try.results11, go_sem]
set_option linter.unusedVariables false in
set_option linter.unusedSimpArgs false in
set_option maxRecDepth 100000 in
set_option maxHeartbeats 4000000 in
theorem prime_7 {gp gq gg gh lg p0 q0 : Nat} {fa se : Int} {ks : Value} (hp0 : dgt W64 gp 0 = p0) (hq0 : dgt W64 gq 0 = q0) (h0 : p0 < 4294967296) (h1 : 1 < q0) (h2 : gp = p0) (h3 : gq = q0) (h4 : (PrimeN p0 ∧ p0 < 4294967296)) (h5 : (PrimeN q0 ∧ q0 < 4294967296)) (h6 : (p0 - 1) % q0 = 0) (hm : gp < M256) (hq : gq < M256) (w : World) :
  Calls Try.prog 11 #[castV gp gq gg gh lg fa se ks] w fun e w' => e = .returned (.bool true) ∧ Below w.heap.size w w' := by
 have lp0 : p0 < W64 := by rw [← hp0]; exact dgtW_lt _ _
 have lq0 : q0 < W64 := by rw [← hq0]; exact dgtW_lt _ _
 have i0 : (p0 : Int) < 4294967296 := by omega
 have i1 : (1 : Int) < (q0 : Int) := by omega
 have heq2 := eq_num gp p0 hm (Nat.lt_trans lp0 (by decide))
 rw [decide_eq_true h2, hp0] at heq2
 have CO2 := Lib.hid (fun w => by have h := of_any p0 lp0 w; unfold numV words at h; exact h)
 have heq3 := eq_num gq q0 hq (Nat.lt_trans lq0 (by decide))
 rw [decide_eq_true h3, hq0] at heq3
 have CO3 := Lib.hid (fun w => by have h := of_any q0 lq0 w; unfold numV words at h; exact h)
 have CP := Lib.hid (fun W => small_is (b := true) lp0 (by simp [h4]) W)
 have CQ := Lib.hid (fun W => small_is (b := true) lq0 (by simp [h5]) W)
 have hp2 : 2 ≤ p0 := h4.1.1
 obtain ⟨m, hm9⟩ : ∃ m, m = p0 - 1 := ⟨_, rfl⟩
 have hmI : (p0 : Int) - 1 = (m : Int) := by omega
 have hmb : m < 18446744073709551616 := by unfold W64 at lp0; omega
 have hmw : IntKind.u64.wrap (m : Int) = (m : Int) := by simp [IntKind.wrap, IntKind.bits, IntKind.signed]; omega
 obtain ⟨r, hr⟩ : ∃ r, r = m % q0 := ⟨_, rfl⟩
 have hrI : (m : Int) % (q0 : Int) = (r : Int) := by rw [hr]; simp
 have hq00 : ¬ (q0 : Int) = 0 := by omega
 have hz : (r : Int) = 0 := by rw [hm9] at hr; omega
 clear hr hm9 hp2
 have hbeq : ((r : Int) == 0) = true := by simp; omega
 have HP0 := Lib.hid hp0
 have HQ0 := Lib.hid hq0
 clear hp0 hq0
 clear h0 h1 h2 h3 h4 h5 h6 hm hq lp0 lq0
 unfold castV
 go_enter Try.func11, Try.ntmps11
 go_upto_region 1 with fail
 obtain ⟨v_0, e0⟩ : ∃ w9, w9 = w.alloc (.cells #[.int .u64 (dgt W64 gp 0), .int .u64 (dgt W64 gp 1), .int .u64 (dgt W64 gp 2), .int .u64 (dgt W64 gp 3), .int .u64 (dgt W64 gq 0), .int .u64 (dgt W64 gq 1), .int .u64 (dgt W64 gq 2), .int .u64 (dgt W64 gq 3), .int .u64 (dgt W64 gg 0), .int .u64 (dgt W64 gg 1), .int .u64 (dgt W64 gg 2), .int .u64 (dgt W64 gg 3), .int .u64 (dgt W64 gh 0), .int .u64 (dgt W64 gh 1), .int .u64 (dgt W64 gh 2), .int .u64 (dgt W64 gh 3), .int .u64 (dgt W64 lg 0), .int .u64 (dgt W64 lg 1), .int .u64 (dgt W64 lg 2), .int .u64 (dgt W64 lg 3), .int .i64 fa, .int .i64 se, ks] 29) := ⟨_, rfl⟩
 obtain ⟨CB, hCB⟩ : ∃ b, b = w.heap.size := ⟨_, rfl⟩
 have hb : Below w.heap.size w v_0 := by rw [e0]; exact (Below.refl _ _).alloc (Nat.le_refl _) _
 have HG := Lib.hid (show GrpAt v_0 CB gp gq gg gh by rw [e0, hCB]; exact cast_grp)
 have HB := Lib.hid hb
 rw [← e0, ← hCB]
 clear e0 hCB hb
 have y0 := HG.out.1 0 (by decide)
 have y1 := HG.out.1 1 (by decide)
 have y2 := HG.out.1 2 (by decide)
 have y3 := HG.out.1 3 (by decide)
 simp only [Nat.reduceAdd] at y0 y1 y2 y3
 go_upto_region 2 with fail
 clear y0 y1 y2 y3
 obtain ⟨v_2, e9⟩ : ∃ w9, w9 = v_0.alloc (.cells #[.int .u64 (dgt W64 gp 0), .int .u64 (dgt W64 gp 1), .int .u64 (dgt W64 gp 2), .int .u64 (dgt W64 gp 3)] 24) := ⟨_, rfl⟩
 obtain ⟨PB, h9⟩ : ∃ b, b = v_0.heap.size := ⟨_, rfl⟩
 have hb : Below v_0.heap.size v_0 v_2 := by rw [e9]; exact (Below.refl _ _).alloc (Nat.le_refl _) _
 have HPB := Lib.hid (show NumAt v_2 PB gp by rw [e9, h9]; exact NumAt.new _ _ _ _ rfl)
 have HG := Lib.hid (HG.out.later hb)
 have HB := Lib.hid (below_later HB.out hb)
 rw [← e9, ← h9]
 clear e9 h9 hb
 have y0 := HG.out.2.1 0 (by decide)
 have y1 := HG.out.2.1 1 (by decide)
 have y2 := HG.out.2.1 2 (by decide)
 have y3 := HG.out.2.1 3 (by decide)
 simp only [Nat.reduceAdd] at y0 y1 y2 y3
 go_upto_region 3 with fail
 clear y0 y1 y2 y3
 obtain ⟨v_3, e9⟩ : ∃ w9, w9 = v_2.alloc (.cells #[.int .u64 (dgt W64 gq 0), .int .u64 (dgt W64 gq 1), .int .u64 (dgt W64 gq 2), .int .u64 (dgt W64 gq 3)] 24) := ⟨_, rfl⟩
 obtain ⟨QB, h9⟩ : ∃ b, b = v_2.heap.size := ⟨_, rfl⟩
 have hb : Below v_2.heap.size v_2 v_3 := by rw [e9]; exact (Below.refl _ _).alloc (Nat.le_refl _) _
 have HQB := Lib.hid (show NumAt v_3 QB gq by rw [e9, h9]; exact NumAt.new _ _ _ _ rfl)
 have HPB := Lib.hid (NumAt.later hb HPB.out)
 have HG := Lib.hid (HG.out.later hb)
 have HB := Lib.hid (below_later HB.out hb)
 rw [← e9, ← h9]
 clear e9 h9 hb
 have hRd : QB < v_3.heap.size := HQB.out.lt
 have B := HB
 refine wp_region_fresh 41 (fun _ => none) (by kernel_rfl) (by kernel_rfl) (fun _ _ _ _ _ h => h) (fun F hn9 hcl hbl => ?_)
 have r_PB_0 := fun X9 : Wd F => (NumAt.later (hbl X9.world X9.fact) HPB.out) 0 (by omega)
 have r_PB_1 := fun X9 : Wd F => (NumAt.later (hbl X9.world X9.fact) HPB.out) 1 (by omega)
 have r_PB_2 := fun X9 : Wd F => (NumAt.later (hbl X9.world X9.fact) HPB.out) 2 (by omega)
 have r_PB_3 := fun X9 : Wd F => (NumAt.later (hbl X9.world X9.fact) HPB.out) 3 (by omega)
 have r_QB_0 := fun X9 : Wd F => (NumAt.later (hbl X9.world X9.fact) HQB.out) 0 (by omega)
 have r_QB_1 := fun X9 : Wd F => (NumAt.later (hbl X9.world X9.fact) HQB.out) 1 (by omega)
 have r_QB_2 := fun X9 : Wd F => (NumAt.later (hbl X9.world X9.fact) HQB.out) 2 (by omega)
 have r_QB_3 := fun X9 : Wd F => (NumAt.later (hbl X9.world X9.fact) HQB.out) 3 (by omega)
 simp only [HP0.out] at r_PB_0
 simp only [HQ0.out] at r_QB_0
 have HCL := Lib.hid hcl
 clear hcl hbl
 refine wpF_seg 41 0 _ _ (fun _ _ _ => rfl) (by decide) ?_
 simp only [List.take_succ_cons, List.take_zero, List.drop_succ_cons, List.drop_zero, Nat.reduceAdd]
 repeat (go_big_quiet_step ((first | (go_at_call 27; with_reducible exact to_class HCL.out (CO2.out _)) | (go_at_call 27; with_reducible exact to_class HCL.out (CO3.out _)) | (go_at_call 28; with_reducible exact to_class HCL.out (CP.out _)) | (go_at_call 28; with_reducible exact to_class HCL.out (CQ.out _)))))
 refine wpQuiet_nil ?_
 refine wpF_nil ?_
 intro bs w2 hb _ _
 clear r_PB_0 r_PB_1 r_PB_2 r_PB_3 r_QB_0 r_QB_1 r_QB_2 r_QB_3
 have HPB := Lib.hid (NumAt.later hb HPB.out)
 have HQB := Lib.hid (NumAt.later hb HQB.out)
 have hRd := Nat.lt_of_lt_of_le hRd hb.size
 have B := Lib.hid (below_later B.out hb)
 clear hb
 simp only [over]
 go_wp2_with fail
 refine bodyPost_ret (v := .bool true) ?_ rfl ⟨rfl, B.out⟩
 simp [results, Try.results11, go_sem]
theorem Prime_any {gp gq gg gh lg : Nat} {fa se : Int} {ks : Value} (hm : gp < M256) (hq : gq < M256) (w : World) :
  Calls Try.prog 11 #[castV gp gq gg gh lg fa se ks] w fun e w' => ∃ b, e = .returned (.bool b) ∧ (b = true → isPrime gp gq) ∧ Below w.heap.size w w' := by
 obtain ⟨p0, hp0⟩ : ∃ x, dgt W64 gp 0 = x := ⟨_, rfl⟩
 obtain ⟨q0, hq0⟩ : ∃ x, dgt W64 gq 0 = x := ⟨_, rfl⟩
 by_cases h0 : p0 < 4294967296
 rotate_left
 ·exact (prime_0 hp0 hq0 h0 hm hq w).mono fun _ _ ⟨h1, h2⟩ => ⟨false, h1, (fun h => by cases h), h2⟩
 by_cases h1 : 1 < q0
 rotate_left
 ·exact (prime_1 hp0 hq0 h0 h1 hm hq w).mono fun _ _ ⟨h1, h2⟩ => ⟨false, h1, (fun h => by cases h), h2⟩
 by_cases h2 : gp = p0
 rotate_left
 ·exact (prime_2 hp0 hq0 h0 h1 h2 hm hq w).mono fun _ _ ⟨h1, h2⟩ => ⟨false, h1, (fun h => by cases h), h2⟩
 by_cases h3 : gq = q0
 rotate_left
 ·exact (prime_3 hp0 hq0 h0 h1 h2 h3 hm hq w).mono fun _ _ ⟨h1, h2⟩ => ⟨false, h1, (fun h => by cases h), h2⟩
 by_cases h4 : (PrimeN p0 ∧ p0 < 4294967296)
 rotate_left
 ·exact (prime_4 hp0 hq0 h0 h1 h2 h3 h4 hm hq w).mono fun _ _ ⟨h1, h2⟩ => ⟨false, h1, (fun h => by cases h), h2⟩
 by_cases h5 : (PrimeN q0 ∧ q0 < 4294967296)
 rotate_left
 ·exact (prime_5 hp0 hq0 h0 h1 h2 h3 h4 h5 hm hq w).mono fun _ _ ⟨h1, h2⟩ => ⟨false, h1, (fun h => by cases h), h2⟩
 by_cases h6 : (p0 - 1) % q0 = 0
 rotate_left
 ·exact (prime_6 hp0 hq0 h0 h1 h2 h3 h4 h5 h6 hm hq w).mono fun _ _ ⟨h1, h2⟩ => ⟨false, h1, (fun h => by cases h), h2⟩
 refine (prime_7 hp0 hq0 h0 h1 h2 h3 h4 h5 h6 hm hq w).mono fun _ _ ⟨e1, e2⟩ => ⟨true, e1, fun _ => ?_, e2⟩
 subst h2
 subst h3
 exact ⟨h0, h1, by rw [← hq0]; exact dgtW_lt _ _, h4, h5, h6⟩
end Go.Proofs.Ytpoocnkflmimdaa
