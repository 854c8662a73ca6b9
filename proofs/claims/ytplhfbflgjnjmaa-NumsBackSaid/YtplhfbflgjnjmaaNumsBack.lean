/- Layer 1 (nums): the walk of NumsBack: it returns true. -/
import Derived.Test.YtplhfbflgjnjmaaNumsJoin
import Derived.Test.YtplhfbflgjnjmaaStepV
namespace Go.Proofs.Ytplhfbflgjnjmaa
open Go.ChangeShapes Go.WideShapes Go.ChangeAt Go.RowKit

/-- A Given in its block. -/
def BoxZ (w : World) (b : Nat) (zn : Nat) (zb : Int) (x : Nat → Nat) : Prop := w.cell? ⟨b, 0, none⟩ = some (.int .u64 zn) ∧ w.cell? ⟨b, 1, none⟩ = some (.int .i64 zb) ∧ ∀ i, i < 4 → w.cell? ⟨b, 2 + i, none⟩ = some (.int .u64 (x i))
theorem BoxZ.later {w w' : World} {b n zn : Nat} {zb : Int} {x : Nat → Nat} (h : BoxZ w b zn zb x) (hn : n = w.heap.size) (hb : Below n w w') : BoxZ w' b zn zb x := by
  subst hn
  exact ⟨cell_al h.1 hb, cell_al h.2.1 hb, fun i hi => cell_al (h.2.2 i hi) hb⟩
theorem BoxZ.new (w : World) (zn : Nat) (zb : Int) (x : Nat → Nat) (t : TypeId) : BoxZ (w.alloc (.cells #[.int .u64 zn, .int .i64 zb, .int .u64 (x 0), .int .u64 (x 1), .int .u64 (x 2), .int .u64 (x 3)] t)) w.heap.size zn zb x := by
  refine ⟨by simp, by simp, fun i hi => ?_⟩
  obtain rfl | rfl | rfl | rfl : i = 0 ∨ i = 1 ∨ i = 2 ∨ i = 3 := by omega
  all_goals simp
theorem KAt.pre {k : IntKind} {w : World} {a : Option Addr} {n c m : Nat} {l r : List Nat} (h : KAt k w (.slice a n c) (l ++ r)) (hm : m = l.length) : KAt k w (.slice a m c) l := by
  subst hm
  obtain ⟨ao, cap, h1, h2, h3, h4, h5⟩ := h
  cases h1
  rw [List.length_append] at h2
  refine ⟨a, c, rfl, by omega, h3, h4, fun h0 => ?_⟩
  obtain ⟨b, o, h6, h7⟩ := h5 (by rw [List.length_append]; omega)
  exact ⟨b, o, h6, fun i x hx => h7 i x (by rw [List.getElem?_append_left (List.getElem?_eq_some_iff.1 hx).1]; exact hx)⟩

theorem be4_length (x : Nat → Nat) : (be4 x).length = 32 := by simp only [List.length_append, be4, be_length]
/-- A new block of four words, as it was laid. -/
def Zero4 (w : World) (b : Nat) : Prop := (∀ i, i < 4 → w.cell? ⟨b, i, none⟩ = some (.int .u64 0)) ∧ ∀ i, i < 4 → w.frozen? ⟨b, i, none⟩ = false
theorem zero4_new (W : World) (t : TypeId) : Zero4 (W.alloc (.cells #[.int .u64 0, .int .u64 0, .int .u64 0, .int .u64 0] t)) W.heap.size := by
  refine ⟨fun i hi => ?_, fun i hi => ?_⟩
  all_goals
    obtain rfl | rfl | rfl | rfl : i = 0 ∨ i = 1 ∨ i = 2 ∨ i = 3 := by omega
    all_goals simp
theorem zero4_newd (W : World) (t : TypeId) : Zero4 ((W.alloc (.cells #[.int .u64 0, .int .u64 0, .int .u64 0, .int .u64 0] t)).drew) W.heap.size := zero4_new W t
theorem Zero4.block {w w' : World} {b : Nat} (h : Zero4 w b) (hb : w'.heap[b]? = w.heap[b]?) : Zero4 w' b :=
  ⟨fun i hi => (World.cell?_of_block (w := w) hb).trans (h.1 i hi), fun i hi => (World.frozen?_of_block (w := w) hb).trans (h.2 i hi)⟩
theorem Zero4.lt {w : World} {b : Nat} (h : Zero4 w b) : b < w.heap.size := World.block_lt_of_cell? (a := ⟨b, 0, none⟩) _ (h.1 0 (by omega))
theorem Zero4.grown {w w' : World} {b : Nat} {row : Option Nat} (h : Zero4 w b) (hg : w.grownBy w' row) (hr : row ≠ some b) : Zero4 w' b := h.block (hg.block b h.lt (fun e => hr e.symm))
theorem Zero4.later {w w' : World} {b : Nat} (h : Zero4 w b) (hb : Below w.heap.size w w') : Zero4 w' b := h.block (hb.block b h.lt)
theorem KAt.cap {k : IntKind} {w : World} {a : Option Addr} {n c : Nat} {l : List Nat} (h : KAt k w (.slice a n c) l) : n = l.length ∧ n ≤ c ∧ c ≤ maxLen := by
  obtain ⟨ao, cap, h1, h2, h3, _⟩ := h
  cases h1
  exact ⟨rfl, h2, h3⟩
theorem take_be (k n : Nat) (l : List Nat) : (be k n ++ l).take k = be k n := List.take_left' (be_length _ _)
theorem drop_be (k n : Nat) (l : List Nat) : (be k n ++ l).drop k = l := List.drop_left' (be_length _ _)
theorem num_be8 {n : Nat} (h : n < 18446744073709551616) : num (be 8 n) = n := by rw [num_be]; exact Nat.mod_eq_of_lt h
theorem wordAt_be4 {x : Nat → Nat} (hx : ∀ i, i < 4 → x i < 18446744073709551616) (l : List Nat) : wordAt (be4 x ++ l) 3 = x 0 ∧ wordAt (be4 x ++ l) 2 = x 1 ∧ wordAt (be4 x ++ l) 1 = x 2 ∧ wordAt (be4 x ++ l) 0 = x 3 := by
  have e : be4 x ++ l = be 8 (x 3) ++ (be 8 (x 2) ++ (be 8 (x 1) ++ (be 8 (x 0) ++ l))) := by simp only [be4, List.append_assoc]
  rw [e]
  have d1 : ∀ m : List Nat, (be 8 (x 3) ++ m).drop (8 * 1) = m := fun m => drop_be 8 _ m
  have d2 : ∀ m : List Nat, (be 8 (x 3) ++ (be 8 (x 2) ++ m)).drop (8 * 2) = m := fun m => by rw [show 8 * 2 = 8 + 8 from rfl, ← List.drop_drop, drop_be, drop_be]
  have d3 : ∀ m : List Nat, (be 8 (x 3) ++ (be 8 (x 2) ++ (be 8 (x 1) ++ m))).drop (8 * 3) = m := fun m => by rw [show 8 * 3 = 8 + 8 + 8 from rfl, ← List.drop_drop, ← List.drop_drop, drop_be, drop_be, drop_be]
  refine ⟨?_, ?_, ?_, ?_⟩
  · unfold wordAt; rw [d3, take_be, num_be8 (hx 0 (by omega))]
  · unfold wordAt; rw [d2, take_be, num_be8 (hx 1 (by omega))]
  · unfold wordAt; rw [d1, take_be, num_be8 (hx 2 (by omega))]
  · unfold wordAt; rw [Nat.mul_zero, List.drop_zero, take_be, num_be8 (hx 3 (by omega))]
theorem low_mask {n M : Nat} (hn : n < 18446744073709551616) (hM : M < 8) : bits BinOp.and IntKind.u64 (n : Int) (IntKind.u64.wrap (IntKind.u64.wrap (2 ^ (8 * M)) - 1)) = ((n % 256 ^ M : Nat) : Int) := by
  have hp : 2 ^ (8 * M) < 2 ^ 64 := Nat.pow_lt_pow_right (by omega) (by omega)
  have h1 : 1 ≤ 2 ^ (8 * M) := Nat.one_le_two_pow
  have e1 : IntKind.u64.wrap (2 ^ (8 * M)) = ((2 ^ (8 * M) : Nat) : Int) := by
    rw [IntKind.wrap_u64, show ((2 : Int) ^ (8 * M)) = ((2 ^ (8 * M) : Nat) : Int) by simp]
    omega
  have e2 : IntKind.u64.wrap (((2 ^ (8 * M) : Nat) : Int) - 1) = ((2 ^ (8 * M) - 1 : Nat) : Int) := by
    rw [IntKind.wrap_u64]
    omega
  rw [e1, e2, bits_and_u64_nat _ _ hn (by omega), Nat.and_two_pow_sub_one_eq_mod, Nat.pow_mul]
theorem eq_same (x : Nat → Nat) (w : World) : (binOp .eql 24 (.agg #[.int .u64 (x 0), .int .u64 (x 1), .int .u64 (x 2), .int .u64 (x 3)]) (.agg #[.int .u64 (x 0), .int .u64 (x 1), .int .u64 (x 2), .int .u64 (x 3)])).run Try.prog w = .ok (.bool true) w := by
  rw [eq_four x x w]
  simp
/-- The world in which the walk ends. -/
def BackFin (w W : World) (b : Nat) (zn : Nat) (zb : Int) (x : Nat → Nat) : Prop := Below w.heap.size w W ∧ BoxZ W w.heap.size zn zb x ∧ ∀ i, i < 4 → W.cell? ⟨b, i, none⟩ = some (.int .u64 (x i))
theorem fin_new {w W : World} {zn : Nat} {zb : Int} {x : Nat → Nat} (hB : Below w.heap.size w W) (hz : BoxZ W w.heap.size zn zb x) (t : TypeId) : BackFin w (W.alloc (.cells #[.int .u64 (x 0), .int .u64 (x 1), .int .u64 (x 2), .int .u64 (x 3)] t)) W.heap.size zn zb x := by
  refine ⟨hB.alloc hB.size _, hz.later rfl ((Below.refl _ W).alloc (Nat.le_refl _) _), fun i hi => ?_⟩
  obtain rfl | rfl | rfl | rfl : i = 0 ∨ i = 1 ∨ i = 2 ∨ i = 3 := by omega
  all_goals simp
theorem BoxZ.far {W : World} {b0 zn : Nat} {zb : Int} {x : Nat → Nat} (h : BoxZ W b0 zn zb x) {c : Nat} (i : Nat) (v : Value) (hc : b0 ≠ c) : BoxZ (W.setCell ⟨c, i, none⟩ v) b0 zn zb x := by
  obtain ⟨h1, h2, h3⟩ := h
  refine ⟨?_, ?_, fun j hj => ?_⟩
  · rw [World.cell?_setCell_other _ _ _ _ (by intro h; injection h; omega), h1]
  · rw [World.cell?_setCell_other _ _ _ _ (by intro h; injection h; omega), h2]
  · rw [World.cell?_setCell_other _ _ _ _ (by intro h; injection h; omega), h3 j hj]
theorem fin_set {w W : World} {b : Nat} {zn : Nat} {zb : Int} {x : Nat → Nat} (hB : Below w.heap.size w W) (hz : BoxZ W w.heap.size zn zb x) (hb : w.heap.size < b) (hZ : Zero4 W b) :
    BackFin w ((((W.setCell ⟨b, 0, none⟩ (.int .u64 (x 0))).setCell ⟨b, 1, none⟩ (.int .u64 (x 1))).setCell ⟨b, 2, none⟩ (.int .u64 (x 2))).setCell ⟨b, 3, none⟩ (.int .u64 (x 3))) b zn zb x := by
  have hZ1 : UAt W b 4 (fun _ => 0) := hZ.1
  have h := (((hZ1.set 0 (x 0)).set 1 (x 1)).set 2 (x 2)).set 3 (x 3)
  refine ⟨(((hB.setCell (p := ⟨b, 0, none⟩) (Nat.le_of_lt hb) _).setCell (p := ⟨b, 1, none⟩) (Nat.le_of_lt hb) _).setCell (p := ⟨b, 2, none⟩) (Nat.le_of_lt hb) _).setCell (p := ⟨b, 3, none⟩) (Nat.le_of_lt hb) _, (((hz.far 0 _ (by omega)).far 1 _ (by omega)).far 2 _ (by omega)).far 3 _ (by omega), fun i hi => ?_⟩
  have hh := h i hi
  obtain rfl | rfl | rfl | rfl : i = 0 ∨ i = 1 ∨ i = 2 ∨ i = 3 := by omega
  all_goals simpa using hh
theorem BoxZ.grown {w w' : World} {b zn : Nat} {zb : Int} {x : Nat → Nat} {row : Option Nat} (h : BoxZ w b zn zb x) (hg : w.grownBy w' row) (hr : row ≠ some b) : BoxZ w' b zn zb x := by
  have hb := hg.block b (World.block_lt_of_cell? (a := ⟨b, 0, none⟩) _ h.1) (fun e => hr e.symm)
  exact ⟨(World.cell?_of_block (w := w) hb).trans h.1, (World.cell?_of_block (w := w) hb).trans h.2.1, fun i hi => (World.cell?_of_block (w := w) hb).trans (h.2.2 i hi)⟩

set_option maxRecDepth 40000 in
set_option maxHeartbeats 2000000 in
theorem numsBack_small (l0 l1 : List Nat) (n0 n1 : Nat) (E0 : Hid (l0.length = n0)) (E1 : Hid (l1.length = n1)) (a0 a1 : Option Addr) (c0 c1 : Nat) (zn : Nat) (zb : Int) (x : Nat → Nat) (mx M R9 : Nat) (ER : Hid (zn % 256 ^ M = R9)) (hM8 : M ≤ 8) (w : World)
    (EM : Hid (many zb = M)) (hzb : Hid (-9223372036854775808 ≤ zb ∧ zb ≤ 9223372036854775807)) (H0 : Hid (KAt .u8 w (.slice a0 n0 c0) l0)) (H1 : Hid (KAt .u8 w (.slice a1 n1 c1) l1)) (B1 : Hid (Bytes l1)) (hsm : n0 + n1 ≤ 1048576)
    (hzn : zn < 18446744073709551616) (HX : Hid (∀ i, i < 4 → x i < 18446744073709551616))
    (hmx : ∀ w, (Builtin.max_ #[3, 3] 3 #[.int .i64 0, .int .i64 zb]).run Try.prog w = .ok (.int .i64 mx) w) (hmn : ∀ w, (Builtin.min_ #[3, 3] 3 #[.int .i64 8, .int .i64 mx]).run Try.prog w = .ok (.int .i64 M) w)
    (HY : Hid (∀ (w : World) (b : Nat), b = w.heap.size → Calls Try.prog 7 #[.slice (some ⟨b, 0, none⟩) 2 2] (w.alloc (.cells #[.int .i64 n0, .int .i64 n1] 3)) fun e w' => e = .returned (.bool false) ∧ w.alloc (.cells #[.int .i64 n0, .int .i64 n1] 3) = w')) :
    Calls Try.prog 3 #[.agg #[.int .u64 zn, .int .i64 zb, .int .u64 (x 0), .int .u64 (x 1), .int .u64 (x 2), .int .u64 (x 3)], .agg #[.slice a0 n0 c0, .slice a1 n1 c1]] w fun e w' => e = .returned (.bool true) ∧ Below w.heap.size w w' := by
  have HZ := Lib.hid (BoxZ.new w zn zb x)
  have HN := Lib.hid (fun (w : World) (b : Nat) (t : TypeId) (hb : b = w.heap.size) => (show Box2 (w.alloc (.cells #[.slice a0 n0 c0, .slice a1 n1 c1] t)) b (.slice a0 n0 c0) (.slice a1 n1 c1) from by subst hb; exact Box2.new w (.slice a0 n0 c0) (.slice a1 n1 c1) t))
  go_enter Try.func3, Try.ntmps3
  go_wp2_with fail
  refine (alive_any _).mono ?_
  rintro _ w1 ⟨rfl, hb1⟩
  have hbox1 := (HN.out _ (w.heap.size + 1) _ (by simp)).later (by simp) hb1
  have hz1 := ((HZ.out _).later rfl ((Below.refl _ _).alloc (Nat.le_refl _) _)).later (by simp) hb1
  have HB1 := Lib.hid (((((Below.refl w.heap.size w).alloc (Nat.le_refl _) _)).alloc (by simp) _).trans (hb1.mono (by simp; omega)))
  obtain ⟨p0, p1⟩ := hbox1
  have HZ1 := Lib.hid hz1
  clear hb1 hz1 HZ HN
  go_wp2_with fail
  go_fit (HY.out w1 _ rfl)
  rintro _ w2 ⟨rfl, rfl⟩
  have H3 : ∃ w3 : World, w3 = w1.alloc (.cells #[.int .i64 n0, .int .i64 n1] 3) := ⟨_, rfl⟩
  obtain ⟨w3, e3⟩ := H3
  have hb3 : Below w.heap.size w w3 := by rw [e3]; exact HB1.out.alloc HB1.out.size _
  have hx3 : Box2 w3 (w.heap.size + 1) (.slice a0 n0 c0) (.slice a1 n1 c1) := by rw [e3]; exact Box2.later ⟨p0, p1⟩ rfl ((Below.refl _ w1).alloc (Nat.le_refl _) _)
  have hz3 : BoxZ w3 w.heap.size zn zb x := by rw [e3]; exact HZ1.out.later rfl ((Below.refl _ w1).alloc (Nat.le_refl _) _)
  rw [← e3]
  clear e3 p0 p1 HB1 HZ1
  have K0 := Lib.hid (H0.out.later hb3)
  have K1 := Lib.hid (H1.out.later hb3)
  have HB3 := Lib.hid hb3
  have HB3s := HB3
  have HX3 := Lib.hid hx3
  have HZ3 := Lib.hid hz3
  have J1 := K1
  have JX := HX3
  have JZ := HZ3
  clear hb3 hx3 hz3 H0 H1 HY
  have q0 := HX3.out.1
  have r0 := HZ3.out.1
  have r1 := HZ3.out.2.1
  have HP := Lib.hid (Put_any w3 K0.out zn zb hzb.out.1 hzb.out.2 (by rw [E0.out]; omega))
  go_wp2_with fail
  refine HP.out.mono ?_
  rintro _ w4 ⟨v7, rfl, ho, hb4⟩
  rw [EM.out] at ho
  have HS34 := Lib.hid hb4
  obtain ⟨a7, c7, rfl⟩ := own_shape (n := n0 + M) ho (by rw [List.length_append, be_length, E0.out])
  have HO7 := Lib.hid ho
  have HB4 := Lib.hid (below_later HB3.out hb4)
  have HB4s := Lib.hid (show w.heap.size < w4.heap.size from by have h1 : w.heap.size < w3.heap.size := World.block_lt_of_cell? (a := ⟨w.heap.size, 0, none⟩) _ HZ3.out.1; have := hb4.size; omega)
  have HX4 := Lib.hid (HX3.out.later rfl hb4)
  have HZ4 := Lib.hid (HZ3.out.later rfl hb4)
  have L0 := Lib.hid (K0.out.later hb4)
  have L1 := Lib.hid (K1.out.later hb4)
  have HS3 := Lib.hid (show w.heap.size ≤ w3.heap.size from HB3.out.size)
  clear ho hb4 HP q0 r0 r1 HB3 HX3 HZ3 K0 K1
  have q0 := HX4.out.1
  have r2 := HZ4.out.2.2 0 (by omega)
  have r3 := HZ4.out.2.2 1 (by omega)
  have r4 := HZ4.out.2.2 2 (by omega)
  have r5 := HZ4.out.2.2 3 (by omega)
  have HP := Lib.hid (PutLong_any w4 L0.out (x 0) (x 1) (x 2) (x 3) (by rw [E0.out]; omega))
  go_wp2_with fail
  refine HP.out.mono ?_
  rintro _ w5 ⟨v8, rfl, ho, hb5⟩
  obtain ⟨a8, c8, rfl⟩ := own_shape (n := n0 + 32) ho (by simp only [List.length_append, be_length, E0.out])
  have HO8 := Lib.hid (show Own w5 w4.heap.size (.slice a8 (n0 + 32) c8) (l0 ++ be4 x) from ho)
  have HB5 := Lib.hid (below_later HB4.out hb5)
  have HX5 := Lib.hid (HX4.out.later rfl hb5)
  have HZ5 := Lib.hid (HZ4.out.later rfl hb5)
  have M0 := Lib.hid (L0.out.later hb5)
  have M1 := Lib.hid (L1.out.later hb5)
  have HO7b := Lib.hid (HO7.out.later hb5)
  have HS4 := Lib.hid (show w3.heap.size ≤ w4.heap.size ∧ w4.heap.size ≤ w5.heap.size ∧ (∀ k, (Value.slice a7 (n0 + M) c7).ownBlock = some k → k < w4.heap.size) from ⟨HS34.out.size, hb5.size, fun k hk => (OwnV.lt HO7.out k hk).2⟩)
  have HS45 := Lib.hid hb5
  clear ho hb5 HP q0 r2 r3 r4 r5 HB4 HX4 HZ4 L0 L1 HO7
  have S7 := Lib.hid (fun n => Calls.quiet_of (same_self (w5.drewN n) ((HO7b.out.at_.pre E0.out.symm).drewN n) (M0.out.drewN n)))
  have S8 := Lib.hid (fun n => Calls.quiet_of (same_self (w5.drewN n) ((HO8.out.at_.pre E0.out.symm).drewN n) (M0.out.drewN n)))
  have q0 := HX5.out.1
  go_wp2_with fail
  have hc7 : n0 + M ≤ c7 := HO7b.out.at_.cap.2.1
  have hc8 : n0 + 32 ≤ c8 := HO8.out.at_.cap.2.1
  go_quiet ((first | (go_at_call 10; with_reducible exact S7.out _) | (go_at_call 10; with_reducible exact S8.out _)))
  clear q0 hc7 hc8 S7 S8 hmx hmn M0
  go_wp2_with fail
  obtain ⟨w6, e6⟩ : ∃ w6 : World, w6 = w5.drewN nq := ⟨_, rfl⟩
  have hb6 : Below w5.heap.size w5 w6 := by rw [e6]; exact below_drewN _ _
  rw [← e6]
  clear e6
  have HB6 := Lib.hid (below_later HB5.out hb6)
  have HX6 := Lib.hid (HX5.out.later rfl hb6)
  have HZ6 := Lib.hid (HZ5.out.later rfl hb6)
  have N1 := Lib.hid (M1.out.later hb6)
  have HO8b := Lib.hid (HO8.out.later hb6)
  obtain ⟨a80, c80, hsl, -, hO80, hown80⟩ := own_from (k := n0) (HO7b.out.later hb6) (by rw [List.length_append, E0.out]; omega)
  rw [show n0 + M - n0 = M from by omega] at hsl hO80 hown80
  rw [show (l0 ++ be M zn).drop n0 = be M zn from by rw [← E0.out]; exact List.drop_left] at hO80
  have HO80 := Lib.hid hO80
  have HW80 := Lib.hid (show ∀ k, (Value.slice a80 M c80).ownBlock = some k → w3.heap.size ≤ k ∧ k < w4.heap.size from fun k hk => ⟨(OwnV.lt hO80 k hk).1, HS4.out.2.2 k (hown80 ▸ hk)⟩)
  have HJ6 := Lib.hid (show Below w3.heap.size w3 w6 from below_later (below_later HS34.out HS45.out) hb6)
  have HS6 := Lib.hid (show w5.heap.size ≤ w6.heap.size from hb6.size)
  clear hb6 hO80 hown80 HB5 HX5 HZ5 M1 HO8 HO7b
  obtain ⟨i0, hi, hz0, hz1, hz2⟩ := info_parts infoB
  have HI := Lib.hid hi
  clear hi
  have q1 := HX6.out.2
  have HBase := Lib.hid (show w3.heap.size ≤ w6.heap.size from by have := HS34.out.size; have := HS4.out.2.1; have := HS6.out; omega)
  have HG := Lib.hid (fun (v : Value) (w7 : World) (ho : OwnV w7 w3.heap.size 5 1 v ((be M zn).length + n1) (cellsK .u8 (be M zn) ++ cellsK .u8 l1)) => show ∃ a c, v = .slice a (M + n1) c ∧ Own w7 w3.heap.size (.slice a (M + n1) c) (be M zn ++ l1) from by
    have ho' : Own w7 w3.heap.size v (be M zn ++ l1) := by unfold Own; rw [List.length_append, E1.out, cellsK_append]; exact ho
    obtain ⟨a, c, rfl⟩ := own_shape (n := M + n1) ho' (by rw [List.length_append, be_length, E1.out])
    exact ⟨a, c, rfl, ho'⟩)
  have HGet := Lib.hid (fun (a : Option Addr) (c : Nat) (w7 : World) (ho : Own w7 w3.heap.size (.slice a (M + n1) c) (be M zn ++ l1)) => show Calls Try.prog 11 #[.slice a (M + n1) c, .int .i64 M] w7 fun e w' => e = .returned (.tuple #[(.int .u64 R9), .int .i64 0]) ∧ w7 = w' from by
    have h := Get_get w7 ho.at_ (bytes_append (be_bytes _ _) B1.out) M
    have e : getR (be M zn ++ l1) M = (R9, 0) := by
      rw [← ER.out]
      unfold getR
      rw [if_neg (by omega), if_neg (by rw [List.length_append, be_length]; omega), Int.toNat_natCast, List.take_left' (be_length _ _), num_be]
    rw [e] at h
    exact h)
  go_region_law (first
    | (refine step_append_V rfl (.tmp 80) (.tmp 82) 27 rfl w3.heap.size 5 i0 (.int .u8 0) 1 1 Try.underlying27 HI.out hz0 hz1 hz2 rfl (.slice a80 M c80) _ _ rfl HO80.out (.slice a1 n1 c1) n1 _ rfl (by have h := N1.out.src; rw [E1.out] at h; exact h) (by rw [be_length]; unfold maxLen; omega) (by rw [be_length]; omega) HBase.out ?_
       intro v83 w7 ho83 hg83
       obtain ⟨a83, c83, rfl, ho83b⟩ := HG.out _ _ ho83
       have HO83 := Lib.hid ho83b
       have HG83 := Lib.hid (show w6.grownBy w7 (Value.slice a80 M c80).ownBlock from ⟨hg83.os, hg83.tape, hg83.output, hg83.size, hg83.block⟩)
       clear ho83 ho83b hg83)
    | (go_simp
       go_at_call 11
       refine (HGet.out _ _ _ HO83.out).mono ?_
       rintro _ w8 ⟨rfl, rfl⟩))
  have hb7 : Below w3.heap.size w3 w7 := HJ6.out.grown HG83.out HBase.out (fun k hk => (HW80.out k hk).1)
  have hO8 : Own w7 w4.heap.size (.slice a8 (n0 + 32) c8) (l0 ++ be4 x) := by
    refine OwnV.kept HO8b.out HG83.out ?_
    cases hr : (Value.slice a8 (n0 + 32) c8).ownBlock with
    | none => exact .inl rfl
    | some k =>
      right
      intro he
      have h1 := (OwnV.lt HO8b.out k hr).1
      have h2 := (HW80.out k he.symm).2
      omega
  have R1 := Lib.hid (J1.out.later hb7)
  have RX := Lib.hid (JX.out.later rfl hb7)
  have RZ := Lib.hid (JZ.out.later rfl hb7)
  obtain ⟨a91, c91, hsl, -, hO91, hown91⟩ := own_from (k := n0) hO8 (by rw [List.length_append, E0.out]; omega)
  rw [show n0 + 32 - n0 = 32 from by omega] at hsl hO91 hown91
  rw [show (l0 ++ be4 x).drop n0 = be4 x from by rw [← E0.out]; exact List.drop_left] at hO91
  have HO91 := Lib.hid hO91
  have R04 := Lib.hid (show w.heap.size < w4.heap.size from by have := HB4s.out; omega)
  have RS := Lib.hid (show w4.heap.size ≤ w7.heap.size from by have := HS4.out.2.1; have := HS6.out; have := HG83.out.size; omega)
  have RB := Lib.hid (show Below w.heap.size w w7 from below_later HB3s.out hb7)
  clear hb7 hO8 hO91 hown91 N1 HX6 HZ6 HB6 HO8b HO80 HW80 HG83 HO83 HJ6 HG HGet HBase HS6 HS34 HS45 HS4 HS3 J1 JX JZ
  go_simp
  go_wp2_with fail
  have q1 := RX.out.2
  have q2 : w.heap.size + 1 < w7.heap.size := World.block_lt_of_cell? (a := ⟨w.heap.size + 1, 1, none⟩) _ q1
  have HG := Lib.hid (fun (v : Value) (w8 : World) (ho : OwnV w8 w4.heap.size 5 1 v ((be4 x).length + n1) (cellsK .u8 (be4 x) ++ cellsK .u8 l1)) => show ∃ a c, v = .slice a (32 + n1) c ∧ Own w8 w4.heap.size (.slice a (32 + n1) c) (be4 x ++ l1) from by
    have ho' : Own w8 w4.heap.size v (be4 x ++ l1) := by unfold Own; rw [List.length_append, E1.out, cellsK_append]; exact ho
    obtain ⟨a, c, rfl⟩ := own_shape (n := 32 + n1) ho' (by simp only [List.length_append, be4, be_length, E1.out])
    exact ⟨a, c, rfl, ho'⟩)
  have HGet := Lib.hid (fun (a : Option Addr) (c : Nat) (w8 : World) (ho : Own w8 w4.heap.size (.slice a (32 + n1) c) (be4 x ++ l1)) => show Calls Try.prog 12 #[.slice a (32 + n1) c] w8 fun e w' => e = .returned (.tuple #[.agg #[.int .u64 (x 0), .int .u64 (x 1), .int .u64 (x 2), .int .u64 (x 3)], .int .i64 0]) ∧ Below w8.heap.size w8 w' from by
    have h := GetLong_any w8 ho.at_ (bytes_append (be4_bytes _) B1.out) (by simp only [List.length_append, be4, be_length]; omega)
    obtain ⟨e0, e1, e2, e3⟩ := wordAt_be4 HX.out l1
    rw [e0, e1, e2, e3] at h
    exact h)
  have HA := Lib.hid (fun (W : World) (hb : Below w7.heap.size w7 W) => show OwnV W w4.heap.size 5 1 (.slice a91 32 c91) (be4 x).length (cellsK .u8 (be4 x)) ∧ SrcV W 1 (.slice a1 n1 c1) n1 (cellsK .u8 l1) ∧ w4.heap.size ≤ W.heap.size from
    ⟨OwnV.later HO91.out hb, by have h := (R1.out.later hb).src; rw [E1.out] at h; exact h, by have := RS.out; have := hb.size; omega⟩)
  have HR := Lib.hid (show (Value.slice a91 32 c91).ownBlock ≠ some w7.heap.size from fun e => by have := (OwnV.lt HO91.out _ e).2; omega)
  go_region_law (first
    | (refine step_append_V rfl (.tmp 91) (.tmp 93) 27 rfl w4.heap.size 5 i0 (.int .u8 0) 1 1 Try.underlying27 HI.out hz0 hz1 hz2 rfl (.slice a91 32 c91) _ _ rfl (HA.out _ (by first | exact (Below.refl _ _).drew | exact ((Below.refl _ _).drew).alloc (Nat.le_refl _) _)).1 (.slice a1 n1 c1) n1 _ rfl (HA.out _ (by first | exact (Below.refl _ _).drew | exact ((Below.refl _ _).drew).alloc (Nat.le_refl _) _)).2.1 (by rw [be4_length]; unfold maxLen; omega) (by rw [be4_length]; omega) (HA.out _ (by first | exact (Below.refl _ _).drew | exact ((Below.refl _ _).drew).alloc (Nat.le_refl _) _)).2.2 ?_
       intro v94 w8 ho94 hg94
       obtain ⟨a94, c94, rfl, ho94b⟩ := HG.out _ _ ho94
       have HO94 := Lib.hid ho94b
       have HG94 := Lib.hid hg94
       first | (have HZA := Lib.hid (show Zero4 w8 w7.heap.size from (zero4_newd _ _).grown hg94 HR.out)) | (have HZA := Lib.hid (show Zero4 w8 w7.heap.size from (zero4_new _ _).grown hg94 HR.out)) | skip
       clear ho94 ho94b hg94)
    | (go_simp
       go_at_call 12
       refine (HGet.out _ _ _ (by first | exact HO94.out | exact HO94.out.later ((Below.refl _ _).alloc (Nat.le_refl _) _))).mono ?_
       rintro _ w9 ⟨rfl, hb9⟩
       have HB9 := Lib.hid hb9
       first | (have HZB := Lib.hid (show Zero4 w9 w7.heap.size from HZA.out.later hb9)) | (have HZB := Lib.hid ((zero4_new _ _).later hb9)) | skip
       try have z0 := HZB.out.1 0 (by omega)
       try have z1 := HZB.out.1 1 (by omega)
       try have z2 := HZB.out.1 2 (by omega)
       try have z3 := HZB.out.1 3 (by omega)
       try have y0 := HZB.out.2 0 (by omega)
       try have y1 := HZB.out.2 1 (by omega)
       try have y2 := HZB.out.2 2 (by omega)
       try have y3 := HZB.out.2 3 (by omega)
       clear hb9))
  all_goals
    have hg8 : ∀ W, Below w.heap.size w W → BoxZ W w.heap.size zn zb x → W.grownBy w8 (Value.slice a91 32 c91).ownBlock → w4.heap.size ≤ W.heap.size → Below w.heap.size w w8 ∧ BoxZ w8 w.heap.size zn zb x := fun W h1 h2 h3 h4 =>
      ⟨h1.grown h3 h1.size (fun k hk => by have := (OwnV.lt HO91.out k hk).1; have := R04.out; omega), h2.grown h3 (fun e => by have := (OwnV.lt HO91.out _ e).1; have := R04.out; omega)⟩
    have h8 := Lib.hid (show Below w.heap.size w w8 ∧ BoxZ w8 w.heap.size zn zb x from by
      first
        | exact hg8 _ RB.out.drew (RZ.out.later rfl (Below.refl _ _).drew) HG94.out RS.out
        | exact hg8 _ (RB.out.drew.alloc RB.out.size _) (RZ.out.later rfl ((Below.refl _ _).drew.alloc (Nat.le_refl _) _)) HG94.out (by simp; have := RS.out; omega))
    have h9 := Lib.hid (show Below w.heap.size w w9 ∧ BoxZ w9 w.heap.size zn zb x from by
      first
        | exact ⟨below_later h8.out.1 HB9.out, h8.out.2.later rfl HB9.out⟩
        | exact ⟨below_later (h8.out.1.alloc h8.out.1.size _) HB9.out, (h8.out.2.later rfl ((Below.refl _ _).alloc (Nat.le_refl _) _)).later rfl HB9.out⟩)
    clear hg8
    go_simp
  · have hfin := Lib.hid (fin_new h9.out.1 h9.out.2 24)
    generalize hWW : w9.alloc (.cells #[.int .u64 (x 0), .int .u64 (x 1), .int .u64 (x 2), .int .u64 (x 3)] 24) = WW at hfin ⊢
    generalize hbb : w9.heap.size = bb at hfin ⊢
    clear hWW hbb
    obtain ⟨fB, ⟨f0, -, f1⟩, f2⟩ := hfin.out
    have HF := Lib.hid fB
    have g0 := f1 0 (by omega)
    have g1 := f1 1 (by omega)
    have g2 := f1 2 (by omega)
    have g3 := f1 3 (by omega)
    have k0 := f2 0 (by omega)
    have k1 := f2 1 (by omega)
    have k2 := f2 2 (by omega)
    have k3 := f2 3 (by omega)
    clear fB f1 f2 hfin
    clear h8 h9 HB9 HG94 HO94 HR HA HGet HG
    try clear HZA
    try clear HZB z0 z1 z2 z3 y0 y1 y2 y3
    have hmask := Lib.hid (fun (h : M < 8) => (low_mask hzn h).trans (congrArg Nat.cast ER.out))
    have hmost := Lib.hid (fun (h : ¬ M < 8) => show zn = R9 from by
      obtain rfl : M = 8 := by omega
      have h := ER.out
      rwa [Nat.mod_eq_of_lt (by omega)] at h)
    have heq := eq_same x
    go_wp2_with fail
    · go_ret
      exact ⟨rfl, HF.out⟩
    · rename_i h1 h2
      exact absurd (hmask.out (by omega)).symm h2
    · go_ret
      exact ⟨rfl, HF.out⟩
    · rename_i h1 h2
      have := hmost.out (by omega)
      omega
  · have hfin := Lib.hid (fin_set (b := w8.heap.size) h9.out.1 h9.out.2 (by have := R04.out; have := h8.out.1.size; have h1 : w.heap.size < w8.heap.size := World.block_lt_of_cell? (a := ⟨w.heap.size, 0, none⟩) _ h8.out.2.1; omega) HZB.out)
    generalize hWW : ((((w9.setCell ⟨w8.heap.size, 0, none⟩ (.int .u64 (x 0))).setCell ⟨w8.heap.size, 1, none⟩ (.int .u64 (x 1))).setCell ⟨w8.heap.size, 2, none⟩ (.int .u64 (x 2))).setCell ⟨w8.heap.size, 3, none⟩ (.int .u64 (x 3))) = WW at hfin ⊢
    generalize hbb : w8.heap.size = bb at hfin ⊢
    clear hWW hbb
    obtain ⟨fB, ⟨f0, -, f1⟩, f2⟩ := hfin.out
    have HF := Lib.hid fB
    have g0 := f1 0 (by omega)
    have g1 := f1 1 (by omega)
    have g2 := f1 2 (by omega)
    have g3 := f1 3 (by omega)
    have k0 := f2 0 (by omega)
    have k1 := f2 1 (by omega)
    have k2 := f2 2 (by omega)
    have k3 := f2 3 (by omega)
    clear fB f1 f2 hfin
    clear h8 h9 HB9 HG94 HO94 HR HA HGet HG
    try clear HZA
    try clear HZB z0 z1 z2 z3 y0 y1 y2 y3
    have hmask := Lib.hid (fun (h : M < 8) => (low_mask hzn h).trans (congrArg Nat.cast ER.out))
    have hmost := Lib.hid (fun (h : ¬ M < 8) => show zn = R9 from by
      obtain rfl : M = 8 := by omega
      have h := ER.out
      rwa [Nat.mod_eq_of_lt (by omega)] at h)
    have heq := eq_same x
    go_wp2_with fail
    · go_ret
      exact ⟨rfl, HF.out⟩
    · rename_i h1 h2
      exact absurd (hmask.out (by omega)).symm h2
    · go_ret
      exact ⟨rfl, HF.out⟩
    · rename_i h1 h2
      have := hmost.out (by omega)
      omega
  · have hfin := Lib.hid (fin_set (b := w7.heap.size) h9.out.1 h9.out.2 (by have := R04.out; have := RS.out; omega) HZB.out)
    generalize hWW : ((((w9.setCell ⟨w7.heap.size, 0, none⟩ (.int .u64 (x 0))).setCell ⟨w7.heap.size, 1, none⟩ (.int .u64 (x 1))).setCell ⟨w7.heap.size, 2, none⟩ (.int .u64 (x 2))).setCell ⟨w7.heap.size, 3, none⟩ (.int .u64 (x 3))) = WW at hfin ⊢
    generalize hbb : w7.heap.size = bb at hfin ⊢
    clear hWW hbb
    obtain ⟨fB, ⟨f0, -, f1⟩, f2⟩ := hfin.out
    have HF := Lib.hid fB
    have g0 := f1 0 (by omega)
    have g1 := f1 1 (by omega)
    have g2 := f1 2 (by omega)
    have g3 := f1 3 (by omega)
    have k0 := f2 0 (by omega)
    have k1 := f2 1 (by omega)
    have k2 := f2 2 (by omega)
    have k3 := f2 3 (by omega)
    clear fB f1 f2 hfin
    clear h8 h9 HB9 HG94 HO94 HR HA HGet HG
    try clear HZA
    try clear HZB z0 z1 z2 z3 y0 y1 y2 y3
    have hmask := Lib.hid (fun (h : M < 8) => (low_mask hzn h).trans (congrArg Nat.cast ER.out))
    have hmost := Lib.hid (fun (h : ¬ M < 8) => show zn = R9 from by
      obtain rfl : M = 8 := by omega
      have h := ER.out
      rwa [Nat.mod_eq_of_lt (by omega)] at h)
    have heq := eq_same x
    go_wp2_with fail
    · go_ret
      exact ⟨rfl, HF.out⟩
    · rename_i h1 h2
      exact absurd (hmask.out (by omega)).symm h2
    · go_ret
      exact ⟨rfl, HF.out⟩
    · rename_i h1 h2
      have := hmost.out (by omega)
      omega
  · have hfin := Lib.hid (fin_set (b := w7.heap.size) h9.out.1 h9.out.2 (by have := R04.out; have := RS.out; omega) HZB.out)
    generalize hWW : ((((w9.setCell ⟨w7.heap.size, 0, none⟩ (.int .u64 (x 0))).setCell ⟨w7.heap.size, 1, none⟩ (.int .u64 (x 1))).setCell ⟨w7.heap.size, 2, none⟩ (.int .u64 (x 2))).setCell ⟨w7.heap.size, 3, none⟩ (.int .u64 (x 3))) = WW at hfin ⊢
    generalize hbb : w7.heap.size = bb at hfin ⊢
    clear hWW hbb
    obtain ⟨fB, ⟨f0, -, f1⟩, f2⟩ := hfin.out
    have HF := Lib.hid fB
    have g0 := f1 0 (by omega)
    have g1 := f1 1 (by omega)
    have g2 := f1 2 (by omega)
    have g3 := f1 3 (by omega)
    have k0 := f2 0 (by omega)
    have k1 := f2 1 (by omega)
    have k2 := f2 2 (by omega)
    have k3 := f2 3 (by omega)
    clear fB f1 f2 hfin
    clear h8 h9 HB9 HG94 HO94 HR HA HGet HG
    try clear HZA
    try clear HZB z0 z1 z2 z3 y0 y1 y2 y3
    have hmask := Lib.hid (fun (h : M < 8) => (low_mask hzn h).trans (congrArg Nat.cast ER.out))
    have hmost := Lib.hid (fun (h : ¬ M < 8) => show zn = R9 from by
      obtain rfl : M = 8 := by omega
      have h := ER.out
      rwa [Nat.mod_eq_of_lt (by omega)] at h)
    have heq := eq_same x
    go_wp2_with fail
    · go_ret
      exact ⟨rfl, HF.out⟩
    · rename_i h1 h2
      exact absurd (hmask.out (by omega)).symm h2
    · go_ret
      exact ⟨rfl, HF.out⟩
    · rename_i h1 h2
      have := hmost.out (by omega)
      omega

end Go.Proofs.Ytplhfbflgjnjmaa
