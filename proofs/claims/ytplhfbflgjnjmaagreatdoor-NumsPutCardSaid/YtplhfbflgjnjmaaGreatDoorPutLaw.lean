/- The walk of NumsPut: it returns true. -/
import Derived.Test.YtplhfbflgjnjmaaGreatDoorRefPut2
import Derived.Test.YtplhfbflgjnjmaaGreatDoorNumsBytes
namespace Go.Proofs.YtplhfbflgjnjmaaGreatDoor
open Go.ChangeShapes Go.WideShapes Go.ChangeAt Go.RowKit

/-- A Given in its block. -/
def BoxP (w : World) (b : Nat) (zn : Nat) (zb : Int) (x0 x1 x2 x3 : Nat) : Prop := w.cell? ⟨b, 0, none⟩ = some (.int .u64 zn) ∧ w.cell? ⟨b, 1, none⟩ = some (.int .i64 zb) ∧ w.cell? ⟨b, 2, none⟩ = some (.int .u64 x0) ∧ w.cell? ⟨b, 3, none⟩ = some (.int .u64 x1) ∧ w.cell? ⟨b, 4, none⟩ = some (.int .u64 x2) ∧ w.cell? ⟨b, 5, none⟩ = some (.int .u64 x3)
theorem BoxP.later {w w' : World} {b zn : Nat} {zb : Int} {x0 x1 x2 x3 : Nat} (h : BoxP w b zn zb x0 x1 x2 x3) (hb : Below w.heap.size w w') : BoxP w' b zn zb x0 x1 x2 x3 :=
  ⟨cell_on h.1 hb, cell_on h.2.1 hb, cell_on h.2.2.1 hb, cell_on h.2.2.2.1 hb, cell_on h.2.2.2.2.1 hb, cell_on h.2.2.2.2.2 hb⟩
theorem BoxP.new (w : World) (zn : Nat) (zb : Int) (x0 x1 x2 x3 : Nat) (t : TypeId) : BoxP (w.alloc (.cells #[.int .u64 zn, .int .i64 zb, .int .u64 x0, .int .u64 x1, .int .u64 x2, .int .u64 x3] t)) w.heap.size zn zb x0 x1 x2 x3 := by
  refine ⟨?_, ?_, ?_, ?_, ?_, ?_⟩ <;> simp
theorem two_at (w : World) (x y : Nat) (t : TypeId) : KAt .i64 (w.alloc (.cells #[.int .i64 x, .int .i64 y] t)) (.slice (some ⟨w.heap.size, 0, none⟩) 2 2) [x, y] := by
  refine ⟨_, _, rfl, Nat.le_refl _, by unfold maxLen; simp, (fun h => by cases h), fun _ => ⟨_, _, rfl, fun i z hz => ?_⟩⟩
  match i, hz with
  | 0, hz => simp at hz; subst hz; simp
  | 1, hz => simp at hz; subst hz; simp
theorem beyond_two (x y : Nat) (hx : x ≤ 9223372036854775807 - 1048576) (hy : y ≤ 9223372036854775807 - 1048576) (w : World) (b : Nat) (hb : b = w.heap.size) :
    Calls Tryz.prog 5 #[.slice (some ⟨b, 0, none⟩) 2 2] (w.alloc (.cells #[.int .i64 x, .int .i64 y] 3)) fun e w' => e = .returned (.bool (decide (1048576 < x + y))) ∧ w.alloc (.cells #[.int .i64 x, .int .i64 y] 3) = w' := by
  subst hb
  have h := beyond_any (l := [x, y]) _ (two_at w x y 3) (by simp) (by simp; omega)
  rw [show [x, y].sum = x + y from by simp] at h
  exact h
theorem own_call {w : World} {f : FuncId} {args : Array Value} {l : List Nat} {n : Nat} (hn : l.length = n) (h : Calls Tryz.prog f args w fun e w' => ∃ v', e = .returned v' ∧ Own w' w.heap.size v' l ∧ Below w.heap.size w w') :
    Calls Tryz.prog f args w fun e w' => ∃ a c, e = .returned (.slice a n c) ∧ Own w' w.heap.size (.slice a n c) l ∧ Below w.heap.size w w' := by
  refine h.mono ?_
  rintro _ w' ⟨v, rfl, ho, hb⟩
  obtain ⟨a, c, rfl⟩ := own_parts ho hn
  exact ⟨a, c, rfl, ho, hb⟩
abbrev GivenV (zn : Nat) (zb : Int) (x0 x1 x2 x3 : Nat) : Value := .agg #[.int .u64 zn, .int .i64 zb, .int .u64 x0, .int .u64 x1, .int .u64 x2, .int .u64 x3]
set_option maxRecDepth 40000 in
set_option maxHeartbeats 2000000 in
theorem numsPut_big (n0 n1 : Nat) (a0 a1 : Option Addr) (c0 c1 : Nat) (zn : Nat) (zb : Int) (x0 x1 x2 x3 : Nat) (w : World) (hbig : 1048576 < n0 + n1) (hn0 : n0 ≤ 140737488355328) (hn1 : n1 ≤ 140737488355328) :
    Calls Tryz.prog 4 #[.slice a0 n0 c0, .slice a1 n1 c1, GivenV zn zb x0 x1 x2 x3] w fun e w' => e = .returned (.bool true) ∧ Below w.heap.size w w' := by
  have HY := Lib.hid (fun w b hb => beyond_two n0 n1 (by omega) (by omega) w b hb)
  rw [show decide (1048576 < n0 + n1) = true by simpa using hbig] at HY
  go_enter Tryz.func4, Tryz.ntmps4
  go_wp2_with fail
  refine (HY.out _ _ (by simp)).mono ?_
  rintro _ w1 ⟨rfl, rfl⟩
  go_wp2_with fail
  go_ret
  exact ⟨rfl, ((Below.refl _ _).alloc (Nat.le_refl _) _).alloc (by simp) _⟩
set_option maxRecDepth 40000 in
set_option maxHeartbeats 4000000 in
theorem numsPut_small (l0 l1 : List Nat) (n0 n1 : Nat) (E0 : Hid (l0.length = n0)) (E1 : Hid (l1.length = n1)) (a0 a1 : Option Addr) (c0 c1 : Nat) (zn : Nat) (zb : Int) (x0 x1 x2 x3 M : Nat) (EM : Hid (many zb = M)) (hM : M ≤ 8) (w : World) (H0 : Hid (KAt .u8 w (.slice a0 n0 c0) l0)) (H1 : Hid (KAt .u8 w (.slice a1 n1 c1) l1)) (hsm : n0 + n1 ≤ 1048576)
    (hzn : zn < 18446744073709551616) (hzb : Hid (-9223372036854775808 ≤ zb ∧ zb ≤ 9223372036854775807)) (h0 : x0 < 18446744073709551616) (h1 : x1 < 18446744073709551616) (h2 : x2 < 18446744073709551616) (h3 : x3 < 18446744073709551616) :
    Calls Tryz.prog 4 #[.slice a0 n0 c0, .slice a1 n1 c1, GivenV zn zb x0 x1 x2 x3] w fun e w' => e = .returned (.bool true) ∧ Below w.heap.size w w' := by
  have HY := Lib.hid (fun w b hb => beyond_two n0 n1 (by omega) (by omega) w b hb)
  rw [show decide (1048576 < n0 + n1) = false by simpa using hsm] at HY
  have HZ := Lib.hid (BoxP.new w zn zb x0 x1 x2 x3)
  have hlx : (l0 ++ be M zn).length = n0 + M := by rw [List.length_append, be_length, E0.out]
  have hly : (l0 ++ (be 8 x3 ++ (be 8 x2 ++ (be 8 x1 ++ be 8 x0)))).length = n0 + 32 := by simp only [List.length_append, be_length, E0.out]
  have hlw : (l0 ++ (be 4 n1 ++ l1)).length = n0 + 4 + n1 := by simp only [List.length_append, be_length, E0.out, E1.out]; omega
  have HPx := Lib.hid (fun w v (hv : KAt .u8 w v l0) => own_call (n := n0 + M) (by rw [EM.out]; exact hlx) (Put_any w hv zn zb hzb.out.1 hzb.out.2 (by rw [E0.out]; omega)))
  have HRx := Lib.hid (fun w v (hv : KAt .u8 w v l0) => own_call (n := n0 + M) (by rw [EM.out]; exact hlx) (RPut_any w hv zn hzn zb (by rw [E0.out]; omega)))
  rw [EM.out] at HPx HRx
  have HPy := Lib.hid (fun w v (hv : KAt .u8 w v l0) => own_call hly (PutLong_any w hv x0 x1 x2 x3 (by rw [E0.out]; omega)))
  have HRy := Lib.hid (fun w v (hv : KAt .u8 w v l0) => own_call hly (RPutLong_any w hv x0 x1 x2 x3 h0 h1 h2 h3 (by rw [E0.out]; omega)))
  have HPw := Lib.hid (fun w v u (hv : KAt .u8 w v l0) (hu : KAt .u8 w u l1) => own_call (n := n0 + 4 + n1) (by rw [E1.out]; exact hlw) (PutBytes_any w hv hu (by rw [E0.out, E1.out]; omega)))
  have HRw := Lib.hid (fun w v u (hv : KAt .u8 w v l0) (hu : KAt .u8 w u l1) => own_call (n := n0 + 4 + n1) (by rw [E1.out]; exact hlw) (RPutBytes_any w hv hu (by rw [E0.out, E1.out]; omega)))
  rw [E1.out] at HPw HRw
  obtain ⟨lx, ex⟩ : ∃ lx, lx = l0 ++ be M zn := ⟨_, rfl⟩
  obtain ⟨ly, ey⟩ : ∃ ly, ly = l0 ++ (be 8 x3 ++ (be 8 x2 ++ (be 8 x1 ++ be 8 x0))) := ⟨_, rfl⟩
  obtain ⟨lw, ew⟩ : ∃ lw, lw = l0 ++ (be 4 n1 ++ l1) := ⟨_, rfl⟩
  rw [← ex] at HPx HRx hlx
  rw [← ey] at HPy HRy hly
  rw [← ew] at HPw HRw hlw
  have Ex := Lib.hid hlx
  have Ey := Lib.hid hly
  have Ew := Lib.hid hlw
  clear ex ey ew hlx hly hlw
  go_enter Tryz.func4, Tryz.ntmps4
  go_wp2_with fail
  refine (HY.out _ _ (by simp)).mono ?_
  rintro _ w0 ⟨rfl, rfl⟩
  obtain ⟨w1, e1⟩ : ∃ w1 : World, w1 = (w.alloc (.cells #[.int .u64 zn, .int .i64 zb, .int .u64 x0, .int .u64 x1, .int .u64 x2, .int .u64 x3] 59)).alloc (.cells #[.int .i64 n0, .int .i64 n1] 3) := ⟨_, rfl⟩
  have hb1 : Below w.heap.size w w1 := by rw [e1]; exact ((Below.refl _ _).alloc (Nat.le_refl _) _).alloc (by simp) _
  have hz1 : BoxP w1 w.heap.size zn zb x0 x1 x2 x3 := by rw [e1]; exact (HZ.out _).later ((Below.refl _ _).alloc (Nat.le_refl _) _)
  rw [← e1]
  have HB1 := Lib.hid hb1
  have BZ1 := Lib.hid hz1
  have Ka1 := Lib.hid (H0.out.later hb1)
  have Kl1 := Lib.hid (H1.out.later hb1)
  have hs1 := hb1.size
  clear e1 hb1 hz1 HY HZ H0 H1
  go_wp2_with fail
  refine (Twin_any w1 Ka1.out (by rw [E0.out]; omega)).mono ?_
  rintro _ w2 ⟨v2, rfl, ht, hb⟩
  obtain ⟨aT, cT, rfl⟩ := twin_parts ht E0.out
  have T2 := Lib.hid ht
  have TB := Lib.hid (fun g hg => OwnV.lt ht.own g hg)
  clear ht
  have HB2 := Lib.hid (below_on HB1.out hb)
  have BZ2 := Lib.hid (BZ1.out.later hb)
  have Ka2 := Lib.hid (Ka1.out.later hb)
  have Kl2 := Lib.hid (Kl1.out.later hb)
  have hs2 := hb.size
  clear hb HB1 BZ1 Ka1 Kl1
  go_wp2_with fail
  refine (Twin_any w2 Kl2.out (by rw [E1.out]; omega)).mono ?_
  rintro _ w3 ⟨v3, rfl, ht, hb⟩
  obtain ⟨aU, cU, rfl⟩ := twin_parts ht E1.out
  have U3 := Lib.hid ht
  have UB := Lib.hid (fun g hg => OwnV.lt ht.own g hg)
  clear ht
  have HB3 := Lib.hid (below_on HB2.out hb)
  have BZ3 := Lib.hid (BZ2.out.later hb)
  have Ka3 := Lib.hid (Ka2.out.later hb)
  have Kl3 := Lib.hid (Kl2.out.later hb)
  have T3 := Lib.hid (T2.out.later hb)
  have hs3 := hb.size
  clear hb HB2 BZ2 Ka2 Kl2 T2
  obtain ⟨p0, p1, p2, p3, p4, p5⟩ := BZ3.out
  go_wp2_with fail
  clear p0 p1 p2 p3 p4 p5
  refine (HPx.out w3 _ T3.out.own.at_).mono ?_
  rintro _ w4 ⟨aX, cX, rfl, ho, hb⟩
  have X4 := Lib.hid ho
  have XB := Lib.hid (fun g hg => OwnV.lt ho g hg)
  clear ho
  have HB4 := Lib.hid (below_on HB3.out hb)
  have BZ4 := Lib.hid (BZ3.out.later hb)
  have Ka4 := Lib.hid (Ka3.out.later hb)
  have Kl4 := Lib.hid (Kl3.out.later hb)
  have T4 := Lib.hid (T3.out.later hb)
  have U4 := Lib.hid (U3.out.later hb)
  have hs4 := hb.size
  clear hb HB3 BZ3 Ka3 Kl3 T3 U3
  obtain ⟨p0, p1, p2, p3, p4, p5⟩ := BZ4.out
  go_wp2_with fail
  clear p0 p1 p2 p3 p4 p5
  refine (HPy.out w4 _ T4.out.own.at_).mono ?_
  rintro _ w5 ⟨aY, cY, rfl, ho, hb⟩
  have Y5 := Lib.hid ho
  have YB := Lib.hid (fun g hg => OwnV.lt ho g hg)
  clear ho
  have HB5 := Lib.hid (below_on HB4.out hb)
  have BZ5 := Lib.hid (BZ4.out.later hb)
  have Ka5 := Lib.hid (Ka4.out.later hb)
  have Kl5 := Lib.hid (Kl4.out.later hb)
  have T5 := Lib.hid (T4.out.later hb)
  have U5 := Lib.hid (U4.out.later hb)
  have X5 := Lib.hid (X4.out.later hb)
  have hs5 := hb.size
  clear hb HB4 BZ4 Ka4 Kl4 T4 U4 X4
  go_wp2_with fail
  refine (HPw.out w5 _ _ T5.out.own.at_ U5.out.own.at_).mono ?_
  rintro _ w6 ⟨aW, cW, rfl, ho, hb⟩
  have W6 := Lib.hid ho
  have WB := Lib.hid (fun g hg => OwnV.lt ho g hg)
  clear ho
  have HB6 := Lib.hid (below_on HB5.out hb)
  have BZ6 := Lib.hid (BZ5.out.later hb)
  have Ka6 := Lib.hid (Ka5.out.later hb)
  have Kl6 := Lib.hid (Kl5.out.later hb)
  have T6 := Lib.hid (T5.out.later hb)
  have U6 := Lib.hid (U5.out.later hb)
  have X6 := Lib.hid (X5.out.later hb)
  have Y6 := Lib.hid (Y5.out.later hb)
  have hs6 := hb.size
  clear hb HB5 BZ5 Ka5 Kl5 T5 U5 X5 Y5
  go_wp2_with fail
  refine (HPw.out w6 _ _ T6.out.own.at_ U6.out.own.at_).mono ?_
  rintro _ w7 ⟨aV, cV, rfl, ho, hb⟩
  have V7 := Lib.hid ho
  have VB := Lib.hid (fun g hg => OwnV.lt ho g hg)
  clear ho
  have HB7 := Lib.hid (below_on HB6.out hb)
  have BZ7 := Lib.hid (BZ6.out.later hb)
  have Ka7 := Lib.hid (Ka6.out.later hb)
  have Kl7 := Lib.hid (Kl6.out.later hb)
  have T7 := Lib.hid (T6.out.later hb)
  have U7 := Lib.hid (U6.out.later hb)
  have X7 := Lib.hid (X6.out.later hb)
  have Y7 := Lib.hid (Y6.out.later hb)
  have W7 := Lib.hid (W6.out.later hb)
  have hs7 := hb.size
  clear hb HB6 BZ6 Ka6 Kl6 T6 U6 X6 Y6 W6
  clear HPx HPy HPw
  obtain ⟨p0, p1, p2, p3, p4, p5⟩ := BZ7.out
  go_wp2_with fail
  clear p0 p1 p2 p3 p4 p5
  refine (HRx.out w7 _ Ka7.out).mono ?_
  rintro _ w8 ⟨ar, cr, rfl, ho, hb⟩
  have R8 := Lib.hid ho
  clear ho
  have HB8 := Lib.hid (below_on HB7.out hb)
  have BZ8 := Lib.hid (BZ7.out.later hb)
  have Ka8 := Lib.hid (Ka7.out.later hb)
  have Kl8 := Lib.hid (Kl7.out.later hb)
  have T8 := Lib.hid (T7.out.later hb)
  have U8 := Lib.hid (U7.out.later hb)
  have X8 := Lib.hid (X7.out.later hb)
  have Y8 := Lib.hid (Y7.out.later hb)
  have W8 := Lib.hid (W7.out.later hb)
  have V8 := Lib.hid (V7.out.later hb)
  have hs8 := hb.size
  clear hb HB7 BZ7 Ka7 Kl7 T7 U7 X7 Y7 W7 V7
  go_wp2_with fail
  refine (same_self w8 X8.out.at_ R8.out.at_).mono ?_
  rintro _ w9 ⟨rfl, n9, e9⟩
  have hb : Below w8.heap.size w8 w9 := by rw [e9]; exact below_drewN9 _ _
  clear e9
  have HB9 := Lib.hid (below_on HB8.out hb)
  have BZ9 := Lib.hid (BZ8.out.later hb)
  have Ka9 := Lib.hid (Ka8.out.later hb)
  have Kl9 := Lib.hid (Kl8.out.later hb)
  have T9 := Lib.hid (T8.out.later hb)
  have U9 := Lib.hid (U8.out.later hb)
  have X9 := Lib.hid (X8.out.later hb)
  have Y9 := Lib.hid (Y8.out.later hb)
  have W9 := Lib.hid (W8.out.later hb)
  have V9 := Lib.hid (V8.out.later hb)
  have hs9 := hb.size
  clear hb HB8 BZ8 Ka8 Kl8 T8 U8 X8 Y8 W8 V8
  obtain ⟨p0, p1, p2, p3, p4, p5⟩ := BZ9.out
  go_wp2_with fail
  clear p0 p1 p2 p3 p4 p5
  refine (HRy.out w9 _ Ka9.out).mono ?_
  rintro _ w10 ⟨ar2, cr2, rfl, ho, hb⟩
  have R10 := Lib.hid ho
  clear ho
  have HB10 := Lib.hid (below_on HB9.out hb)
  have BZ10 := Lib.hid (BZ9.out.later hb)
  have Ka10 := Lib.hid (Ka9.out.later hb)
  have Kl10 := Lib.hid (Kl9.out.later hb)
  have T10 := Lib.hid (T9.out.later hb)
  have U10 := Lib.hid (U9.out.later hb)
  have X10 := Lib.hid (X9.out.later hb)
  have Y10 := Lib.hid (Y9.out.later hb)
  have W10 := Lib.hid (W9.out.later hb)
  have V10 := Lib.hid (V9.out.later hb)
  have hs10 := hb.size
  clear hb HB9 BZ9 Ka9 Kl9 T9 U9 X9 Y9 W9 V9
  go_wp2_with fail
  refine (same_self w10 Y10.out.at_ R10.out.at_).mono ?_
  rintro _ w11 ⟨rfl, n911, e9⟩
  have hb : Below w10.heap.size w10 w11 := by rw [e9]; exact below_drewN9 _ _
  clear e9
  have HB11 := Lib.hid (below_on HB10.out hb)
  have BZ11 := Lib.hid (BZ10.out.later hb)
  have Ka11 := Lib.hid (Ka10.out.later hb)
  have Kl11 := Lib.hid (Kl10.out.later hb)
  have T11 := Lib.hid (T10.out.later hb)
  have U11 := Lib.hid (U10.out.later hb)
  have X11 := Lib.hid (X10.out.later hb)
  have Y11 := Lib.hid (Y10.out.later hb)
  have W11 := Lib.hid (W10.out.later hb)
  have V11 := Lib.hid (V10.out.later hb)
  have hs11 := hb.size
  clear hb HB10 BZ10 Ka10 Kl10 T10 U10 X10 Y10 W10 V10
  go_wp2_with fail
  refine (HRw.out w11 _ _ Ka11.out Kl11.out).mono ?_
  rintro _ w12 ⟨ar3, cr3, rfl, ho, hb⟩
  have R12 := Lib.hid ho
  clear ho
  have HB12 := Lib.hid (below_on HB11.out hb)
  have BZ12 := Lib.hid (BZ11.out.later hb)
  have Ka12 := Lib.hid (Ka11.out.later hb)
  have Kl12 := Lib.hid (Kl11.out.later hb)
  have T12 := Lib.hid (T11.out.later hb)
  have U12 := Lib.hid (U11.out.later hb)
  have X12 := Lib.hid (X11.out.later hb)
  have Y12 := Lib.hid (Y11.out.later hb)
  have W12 := Lib.hid (W11.out.later hb)
  have V12 := Lib.hid (V11.out.later hb)
  have hs12 := hb.size
  clear hb HB11 BZ11 Ka11 Kl11 T11 U11 X11 Y11 W11 V11
  go_wp2_with fail
  refine (same_self w12 W12.out.at_ R12.out.at_).mono ?_
  rintro _ w13 ⟨rfl, n913, e9⟩
  have hb : Below w12.heap.size w12 w13 := by rw [e9]; exact below_drewN9 _ _
  clear e9
  have HB13 := Lib.hid (below_on HB12.out hb)
  have BZ13 := Lib.hid (BZ12.out.later hb)
  have Ka13 := Lib.hid (Ka12.out.later hb)
  have Kl13 := Lib.hid (Kl12.out.later hb)
  have T13 := Lib.hid (T12.out.later hb)
  have U13 := Lib.hid (U12.out.later hb)
  have X13 := Lib.hid (X12.out.later hb)
  have Y13 := Lib.hid (Y12.out.later hb)
  have W13 := Lib.hid (W12.out.later hb)
  have V13 := Lib.hid (V12.out.later hb)
  have hs13 := hb.size
  clear hb HB12 BZ12 Ka12 Kl12 T12 U12 X12 Y12 W12 V12
  go_wp2_with fail
  refine (same_self w13 V13.out.at_ W13.out.at_).mono ?_
  rintro _ w14 ⟨rfl, n914, e9⟩
  have hb : Below w13.heap.size w13 w14 := by rw [e9]; exact below_drewN9 _ _
  clear e9
  have HB14 := Lib.hid (below_on HB13.out hb)
  have BZ14 := Lib.hid (BZ13.out.later hb)
  have Ka14 := Lib.hid (Ka13.out.later hb)
  have Kl14 := Lib.hid (Kl13.out.later hb)
  have T14 := Lib.hid (T13.out.later hb)
  have U14 := Lib.hid (U13.out.later hb)
  have X14 := Lib.hid (X13.out.later hb)
  have Y14 := Lib.hid (Y13.out.later hb)
  have W14 := Lib.hid (W13.out.later hb)
  have V14 := Lib.hid (V13.out.later hb)
  have hs14 := hb.size
  clear hb HB13 BZ13 Ka13 Kl13 T13 U13 X13 Y13 W13 V13
  go_wp2_with fail
  refine (Left_any w14 T14.out Ka14.out).mono ?_
  rintro _ w15 ⟨rfl, n915, e9⟩
  have hb : Below w14.heap.size w14 w15 := by rw [e9]; exact below_drewN9 _ _
  clear e9
  have HB15 := Lib.hid (below_on HB14.out hb)
  have BZ15 := Lib.hid (BZ14.out.later hb)
  have Ka15 := Lib.hid (Ka14.out.later hb)
  have Kl15 := Lib.hid (Kl14.out.later hb)
  have T15 := Lib.hid (T14.out.later hb)
  have U15 := Lib.hid (U14.out.later hb)
  have X15 := Lib.hid (X14.out.later hb)
  have Y15 := Lib.hid (Y14.out.later hb)
  have W15 := Lib.hid (W14.out.later hb)
  have V15 := Lib.hid (V14.out.later hb)
  have hs15 := hb.size
  clear hb HB14 BZ14 Ka14 Kl14 T14 U14 X14 Y14 W14 V14
  go_wp2_with fail
  refine (Left_any w15 U15.out Kl15.out).mono ?_
  rintro _ w16 ⟨rfl, n916, e9⟩
  have hb : Below w15.heap.size w15 w16 := by rw [e9]; exact below_drewN9 _ _
  clear e9
  have HB16 := Lib.hid (below_on HB15.out hb)
  have BZ16 := Lib.hid (BZ15.out.later hb)
  have Ka16 := Lib.hid (Ka15.out.later hb)
  have Kl16 := Lib.hid (Kl15.out.later hb)
  have T16 := Lib.hid (T15.out.later hb)
  have U16 := Lib.hid (U15.out.later hb)
  have X16 := Lib.hid (X15.out.later hb)
  have Y16 := Lib.hid (Y15.out.later hb)
  have W16 := Lib.hid (W15.out.later hb)
  have V16 := Lib.hid (V15.out.later hb)
  have hs16 := hb.size
  clear hb HB15 BZ15 Ka15 Kl15 T15 U15 X15 Y15 W15 V15
  go_wp2_with fail
  have hw : w.heap.size ≤ w16.heap.size := HB16.out.size
  have hK : Kp (w16.alloc (.cells book0 54)) w.heap.size w16.heap.size 0 6 (.slice none 0 0) (fun i => if i = 0 then .slice aT (n0) cT else if i = 1 then .slice aU (n1) cU else if i = 2 then .slice aX (n0 + M) cX else if i = 3 then .slice aY (n0 + 32) cY else if i = 4 then .slice aW (n0 + 4 + n1) cW else .slice aV (n0 + 4 + n1) cV) (fun i => if i = 0 then n0 else if i = 1 then n1 else if i = 2 then n0 + M else if i = 3 then n0 + 32 else if i = 4 then n0 + 4 + n1 else n0 + 4 + n1) (fun i => if i = 0 then cellsK .u8 l0 else if i = 1 then cellsK .u8 l1 else if i = 2 then cellsK .u8 lx else if i = 3 then cellsK .u8 ly else if i = 4 then cellsK .u8 lw else cellsK .u8 lw) := by
    refine Kp.start _ (fun i hi => ?_) (fun i j hi hj hij g hg e => ?_)
    · have h0 := (T16.out.own).base (B' := w.heap.size) (by omega)
      have h1 := (U16.out.own).base (B' := w.heap.size) (by omega)
      have h2 := (X16.out).base (B' := w.heap.size) (by omega)
      have h3 := (Y16.out).base (B' := w.heap.size) (by omega)
      have h4 := (W16.out).base (B' := w.heap.size) (by omega)
      have h5 := (V16.out).base (B' := w.heap.size) (by omega)
      unfold Own at h0 h1 h2 h3 h4 h5
      rw [E0.out] at h0
      rw [E1.out] at h1
      rw [Ex.out] at h2
      rw [Ey.out] at h3
      rw [Ew.out] at h4
      rw [Ew.out] at h5
      obtain rfl | rfl | rfl | rfl | rfl | rfl : i = 0 ∨ i = 1 ∨ i = 2 ∨ i = 3 ∨ i = 4 ∨ i = 5 := by omega
      · exact h0
      · exact h1
      · exact h2
      · exact h3
      · exact h4
      · exact h5
    · obtain rfl | rfl | rfl | rfl | rfl | rfl : i = 0 ∨ i = 1 ∨ i = 2 ∨ i = 3 ∨ i = 4 ∨ i = 5 := by omega
      · obtain rfl | rfl | rfl | rfl | rfl | rfl : j = 0 ∨ j = 1 ∨ j = 2 ∨ j = 3 ∨ j = 4 ∨ j = 5 := by omega
        · exact absurd rfl hij
        · have y0 := TB.out g hg; have y1 := UB.out g e; omega
        · have y0 := TB.out g hg; have y1 := XB.out g e; omega
        · have y0 := TB.out g hg; have y1 := YB.out g e; omega
        · have y0 := TB.out g hg; have y1 := WB.out g e; omega
        · have y0 := TB.out g hg; have y1 := VB.out g e; omega
      · obtain rfl | rfl | rfl | rfl | rfl | rfl : j = 0 ∨ j = 1 ∨ j = 2 ∨ j = 3 ∨ j = 4 ∨ j = 5 := by omega
        · have y0 := UB.out g hg; have y1 := TB.out g e; omega
        · exact absurd rfl hij
        · have y0 := UB.out g hg; have y1 := XB.out g e; omega
        · have y0 := UB.out g hg; have y1 := YB.out g e; omega
        · have y0 := UB.out g hg; have y1 := WB.out g e; omega
        · have y0 := UB.out g hg; have y1 := VB.out g e; omega
      · obtain rfl | rfl | rfl | rfl | rfl | rfl : j = 0 ∨ j = 1 ∨ j = 2 ∨ j = 3 ∨ j = 4 ∨ j = 5 := by omega
        · have y0 := XB.out g hg; have y1 := TB.out g e; omega
        · have y0 := XB.out g hg; have y1 := UB.out g e; omega
        · exact absurd rfl hij
        · have y0 := XB.out g hg; have y1 := YB.out g e; omega
        · have y0 := XB.out g hg; have y1 := WB.out g e; omega
        · have y0 := XB.out g hg; have y1 := VB.out g e; omega
      · obtain rfl | rfl | rfl | rfl | rfl | rfl : j = 0 ∨ j = 1 ∨ j = 2 ∨ j = 3 ∨ j = 4 ∨ j = 5 := by omega
        · have y0 := YB.out g hg; have y1 := TB.out g e; omega
        · have y0 := YB.out g hg; have y1 := UB.out g e; omega
        · have y0 := YB.out g hg; have y1 := XB.out g e; omega
        · exact absurd rfl hij
        · have y0 := YB.out g hg; have y1 := WB.out g e; omega
        · have y0 := YB.out g hg; have y1 := VB.out g e; omega
      · obtain rfl | rfl | rfl | rfl | rfl | rfl : j = 0 ∨ j = 1 ∨ j = 2 ∨ j = 3 ∨ j = 4 ∨ j = 5 := by omega
        · have y0 := WB.out g hg; have y1 := TB.out g e; omega
        · have y0 := WB.out g hg; have y1 := UB.out g e; omega
        · have y0 := WB.out g hg; have y1 := XB.out g e; omega
        · have y0 := WB.out g hg; have y1 := YB.out g e; omega
        · exact absurd rfl hij
        · have y0 := WB.out g hg; have y1 := VB.out g e; omega
      · obtain rfl | rfl | rfl | rfl | rfl | rfl : j = 0 ∨ j = 1 ∨ j = 2 ∨ j = 3 ∨ j = 4 ∨ j = 5 := by omega
        · have y0 := VB.out g hg; have y1 := TB.out g e; omega
        · have y0 := VB.out g hg; have y1 := UB.out g e; omega
        · have y0 := VB.out g hg; have y1 := XB.out g e; omega
        · have y0 := VB.out g hg; have y1 := YB.out g e; omega
        · have y0 := VB.out g hg; have y1 := WB.out g e; omega
        · exact absurd rfl hij
  obtain ⟨wd, ed⟩ : ∃ wd : World, wd = w16.alloc (.cells book0 54) := ⟨_, rfl⟩
  have hbd : Below w.heap.size w wd := by rw [ed]; exact HB16.out.alloc hw _
  rw [← ed] at hK
  rw [← ed]
  have HK0 := Lib.hid hK
  have HD0 := Lib.hid hbd
  have HNN : Hid (∀ i, i < 6 → (fun i => if i = 0 then n0 else if i = 1 then n1 else if i = 2 then n0 + M else if i = 3 then n0 + 32 else if i = 4 then n0 + 4 + n1 else n0 + 4 + n1) i ≤ 4000000) := Lib.hid (fun i hi => by
    obtain rfl | rfl | rfl | rfl | rfl | rfl : i = 0 ∨ i = 1 ∨ i = 2 ∨ i = 3 ∨ i = 4 ∨ i = 5 := by omega
    all_goals (simp; omega))
  clear hK hbd ed BZ16 Ka16 Kl16 T16 U16 X16 Y16 W16 V16 TB UB XB YB WB VB HB16
  refine (HK0.out.next (by omega) (by omega) hw _ rfl).mono ?_
  rintro _ wk0 ⟨rfl, ⟨vb0, hk⟩, hb⟩
  have HK1 := Lib.hid hk
  have HD1 := Lib.hid (HD0.out.trans hb)
  clear hk hb HK0 HD0
  go_wp2_with fail
  refine (HK1.out.next (by omega) (by omega) hw _ rfl).mono ?_
  rintro _ wk1 ⟨rfl, ⟨vb1, hk⟩, hb⟩
  have HK2 := Lib.hid hk
  have HD2 := Lib.hid (HD1.out.trans hb)
  clear hk hb HK1 HD1
  go_wp2_with fail
  refine (HK2.out.next (by omega) (by omega) hw _ rfl).mono ?_
  rintro _ wk2 ⟨rfl, ⟨vb2, hk⟩, hb⟩
  have HK3 := Lib.hid hk
  have HD3 := Lib.hid (HD2.out.trans hb)
  clear hk hb HK2 HD2
  go_wp2_with fail
  refine (HK3.out.next (by omega) (by omega) hw _ rfl).mono ?_
  rintro _ wk3 ⟨rfl, ⟨vb3, hk⟩, hb⟩
  have HK4 := Lib.hid hk
  have HD4 := Lib.hid (HD3.out.trans hb)
  clear hk hb HK3 HD3
  go_wp2_with fail
  refine (HK4.out.next (by omega) (by omega) hw _ rfl).mono ?_
  rintro _ wk4 ⟨rfl, ⟨vb4, hk⟩, hb⟩
  have HK5 := Lib.hid hk
  have HD5 := Lib.hid (HD4.out.trans hb)
  clear hk hb HK4 HD4
  go_wp2_with fail
  refine (HK5.out.next (by omega) (by omega) hw _ rfl).mono ?_
  rintro _ wk5 ⟨rfl, ⟨vb5, hk⟩, hb⟩
  have HK6 := Lib.hid hk
  have HD6 := Lib.hid (HD5.out.trans hb)
  clear hk hb HK5 HD5
  go_wp2_with fail
  refine (HK6.out.apart (by omega) hw HNN.out).mono ?_
  rintro _ wz ⟨rfl, hb⟩
  have HDZ := Lib.hid (HD6.out.trans hb)
  clear hb
  go_wp2_with fail
  go_ret
  exact ⟨rfl, HDZ.out⟩
theorem four_of_ints (x0 x1 x2 x3 : Int) (h0 : 0 ≤ x0 ∧ x0 ≤ 18446744073709551615) (h1 : 0 ≤ x1 ∧ x1 ≤ 18446744073709551615) (h2 : 0 ≤ x2 ∧ x2 ≤ 18446744073709551615) (h3 : 0 ≤ x3 ∧ x3 ≤ 18446744073709551615) :
    ∃ x : Nat → Nat, (∀ i, i < 4 → x i < 18446744073709551616) ∧ x0 = ((x 0 : Nat) : Int) ∧ x1 = ((x 1 : Nat) : Int) ∧ x2 = ((x 2 : Nat) : Int) ∧ x3 = ((x 3 : Nat) : Int) := by
  refine ⟨fun j => [x0.toNat, x1.toNat, x2.toNat, x3.toNat].getD j 0, fun j hj => ?_, by simp; omega, by simp; omega, by simp; omega, by simp; omega⟩
  have : j = 0 ∨ j = 1 ∨ j = 2 ∨ j = 3 := by omega
  rcases this with rfl | rfl | rfl | rfl <;> simp <;> omega
theorem numsPut_walk (l0 l1 : List Nat) (v0 v1 : Value) (zn : Nat) (zb : Int) (x : Nat → Nat) (w : World) (h0 : KAt .u8 w v0 l0) (h1 : KAt .u8 w v1 l1) (s0 : l0.length ≤ 140737488351232) (s1 : l1.length ≤ 140737488351232)
    (hzn : zn < 18446744073709551616) (hzb : -9223372036854775808 ≤ zb ∧ zb ≤ 9223372036854775807) (hx : ∀ i, i < 4 → x i < 18446744073709551616) :
    Calls Tryz.prog 4 #[v0, v1, .agg #[.int .u64 zn, .int .i64 zb, .int .u64 (x 0), .int .u64 (x 1), .int .u64 (x 2), .int .u64 (x 3)]] w fun e w' => e = .returned (.bool true) ∧ Below w.heap.size w w' := by
  obtain ⟨a0, c0, e0, _⟩ : ∃ a c, v0 = .slice a l0.length c ∧ l0.length ≤ c := by
    obtain ⟨ao, cap, h1, h2, _⟩ := h0
    exact ⟨ao, cap, h1, h2⟩
  obtain ⟨a1, c1, e1, _⟩ : ∃ a c, v1 = .slice a l1.length c ∧ l1.length ≤ c := by
    obtain ⟨ao, cap, h1, h2, _⟩ := h1
    exact ⟨ao, cap, h1, h2⟩
  subst e0 e1
  by_cases hbig : 1048576 < l0.length + l1.length
  · exact numsPut_big _ _ a0 a1 c0 c1 zn zb _ _ _ _ w hbig (by omega) (by omega)
  · exact numsPut_small l0 l1 _ _ (Lib.hid rfl) (Lib.hid rfl) a0 a1 c0 c1 zn zb _ _ _ _ _ (Lib.hid rfl) (many_le zb) w (Lib.hid h0) (Lib.hid h1) (by omega) hzn (Lib.hid hzb) (hx 0 (by omega)) (hx 1 (by omega)) (hx 2 (by omega)) (hx 3 (by omega))
end Go.Proofs.YtplhfbflgjnjmaaGreatDoor
