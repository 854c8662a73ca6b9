/- Layer 1 (nums): the walk of NumsOrder: it returns true. -/
import Derived.Test.YtplhfbflgjnjmaaNumsOrder0
import Derived.Test.YtplhfbflgjnjmaaSeq2
namespace Go.Proofs.Ytplhfbflgjnjmaa
open Go.ChangeShapes Go.WideShapes Go.ChangeAt Go.RowKit

/-- Two numbers of four words in one block. -/
def Box8 (w : World) (b : Nat) (x y : Nat → Nat) : Prop := ∀ i, i < 4 → w.cell? ⟨b, i, none⟩ = some (.int .u64 (x i)) ∧ w.cell? ⟨b, 4 + i, none⟩ = some (.int .u64 (y i))
theorem Box8.later {w w' : World} {b n : Nat} {x y : Nat → Nat} (h : Box8 w b x y) (hn : n = w.heap.size) (hb : Below n w w') : Box8 w' b x y := by
  subst hn
  exact fun i hi => ⟨cell_al (h i hi).1 hb, cell_al (h i hi).2 hb⟩
theorem Box8.new (w : World) (x y : Nat → Nat) (t : TypeId) : Box8 (w.alloc (.cells #[.int .u64 (x 0), .int .u64 (x 1), .int .u64 (x 2), .int .u64 (x 3), .int .u64 (y 0), .int .u64 (y 1), .int .u64 (y 2), .int .u64 (y 3)] t)) w.heap.size x y := by
  intro i hi
  obtain rfl | rfl | rfl | rfl : i = 0 ∨ i = 1 ∨ i = 2 ∨ i = 3 := by omega
  all_goals exact ⟨by simp, by simp⟩
theorem les_eq {x y : Nat → Nat} {i : Nat} (h : x i = y i) : les x y (i + 1) = les x y i := by rw [les, if_pos h]
theorem les_ne {x y : Nat → Nat} {i : Nat} (h : ¬ x i = y i) : les x y (i + 1) = decide (x i < y i) := by rw [les, if_neg h]

theorem to_class {P : Program} {F : World → Prop} (hcl : ∀ w1 w2, F w1 → Below w1.heap.size w1 w2 → F w2) {f : FuncId} {args : Array Value} {x : Wd F} {v : Value}
    (h : Calls P f args x.world fun e w' => e = .returned v ∧ Below x.world.heap.size x.world w') : Calls P f args x.world fun e w'' => e = .returned v ∧ ∃ y : Wd F, w'' = y.world :=
  h.mono fun _ w'' ⟨he, hb⟩ => ⟨he, ⟨w'', hcl _ _ x.fact hb⟩, rfl⟩
theorem below_drewN (w : World) (n : Nat) : Below w.heap.size w (w.drewN n) := by
  exact ⟨rfl, rfl, rfl, Nat.le_refl _, fun _ _ => rfl⟩
theorem wpS_one {P : Program} {ops : Array Oper} {C : World → Prop} {R : Nat → Option Rel} {xs : Nat → Lt} {K : Act → Prop} {p : List Item} {D : List Nat} {i : Nat} {a a' : Act} {o : Oper} {r : Rel} {v : Value} (d : Tmp)
    (ho : ops[i]? = some o) (hd : o.dst = some d) (hr : R i = some r) (hv : r.val (xs i) = v) (hw : Region.wanted o (yielded ops a.tmps) = true)
    (h : ∀ w, C w → (∀ j ∈ D, holds R xs j w) → does P w (fun v w' => ∃ x : Lt, v = r.val x ∧ x.lo = w.heap.size ∧ x.hi = w'.heap.size ∧ r.post x w') ((execOp a.eval o).run P w))
    (ha : a.put (some d) v = a') (hk : wpS P ops C R xs K p (i + 1) a') : wpS P ops C R xs K (.one D :: p) i a := by
  subst ha hv
  unfold wpS
  refine ⟨o, r, ho, hr, hw, h, ?_⟩
  rw [hd]
  exact hk
theorem quiet_read {P : Program} {ops : Array Oper} {F : World → Prop} {Q : Act → Prop} {o : Oper} {rest : List Oper} {a a' : Act} {v : Value} (d : Tmp) (hd : o.dst = some d) (hw : Region.wanted o (yielded ops a.tmps) = true)
    (h : ∀ x : Wd F, (execOp a.eval o).run P x.world = .ok (.value v) x.world) (ha : a.put (some d) v = a') (hk : wpQuiet P ops (fun w' => ∃ x : Wd F, w' = x.world) Q rest a') : wpQuiet P ops (fun w' => ∃ x : Wd F, w' = x.world) Q (o :: rest) a := by
  subst ha
  unfold wpQuiet
  rw [if_pos hw]
  refine ⟨v, ?_, by rw [hd]; exact hk⟩
  rintro _ ⟨x, rfl⟩
  unfold Oper.quietAt
  rw [h x]
  exact ⟨rfl, rfl⟩
theorem run_value_of {P : Program} {e : Sem Value} {w : World} {v : Value} (h : e.run P w = .ok v w) : (e >>= fun v => pure (Next.value v)).run P w = .ok (.value v) w := by
  rw [Sem.run_bind, h]
  rfl
theorem words_get (A : Nat → Nat) : ∀ i, i < 4 → (#[Value.int .u64 (A 0), .int .u64 (A 1), .int .u64 (A 2), .int .u64 (A 3)])[i]? = some (.int .u64 ((A i : Nat) : Int))
  | 0, _ => rfl
  | 1, _ => rfl
  | 2, _ => rfl
  | 3, _ => rfl
  | k + 4, h => absurd h (by omega)
theorem eq_four (x y : Nat → Nat) (w : World) : (binOp .eql 24 (.agg #[.int .u64 (x 0), .int .u64 (x 1), .int .u64 (x 2), .int .u64 (x 3)]) (.agg #[.int .u64 (y 0), .int .u64 (y 1), .int .u64 (y 2), .int .u64 (y 3)])).run Try.prog w = .ok (.bool ((List.range 4).all fun i => (x i : Int) == (y i : Int))) w := by
  rw [run_eql_arr w 24 22 .u64 4 Try.underlying24 Try.underlying22 (fun _ => by kernel_rfl) (fun _ => by kernel_rfl) _ _ (fun i => (x i : Int)) (fun i => (y i : Int)) (words_get _) (words_get _)]
def relP (m : Nat) : Rel := ⟨fun x => .slice x.a 8 x.c, fun x w => KAt .u8 w (.slice x.a 8 x.c) (be 8 m), fun _ _ _ hb h => h.later hb⟩
theorem put8 (w : World) (m : Nat) : Calls Try.prog 8 #[.slice none 0 0, .int .u64 m, .int .i64 8] w fun e w' => ∃ v, e = .returned v ∧ Below w.heap.size w w' ∧ ∃ x : Lt, v = (relP m).val x ∧ x.lo = w.heap.size ∧ x.hi = w'.heap.size ∧ (relP m).post x w' := by
  refine (Put_any (b := []) w (KAt.nil _ _) m 8 (by decide) (by decide) (by simp)).mono ?_
  rintro _ w' ⟨v, rfl, ho, hb⟩
  obtain ⟨a, c, rfl⟩ := own_shape (n := 8) ho (by rw [List.nil_append, be_length]; rfl)
  exact ⟨_, rfl, hb, ⟨a, 8, c, w.heap.size, w'.heap.size⟩, rfl, rfl, rfl, ho.at_⟩
theorem does_call {P : Program} {w : World} {post : Value → World → Prop} {r : Result Next} {f : FuncId} {args : Array Value} (hr : r = .ok (.enter f args) w)
    (h : Calls P f args w fun e w' => ∃ v, e = .returned v ∧ Below w.heap.size w w' ∧ post v w') : does P w post r := by
  subst hr
  exact ⟨rfl, h⟩
def orderR (m n : Nat) (j : Nat) : Option Rel := if j = 3 then some (relP m) else if j = 6 then some (relP n) else none
theorem orderR_is (m n j : Nat) : (orderR m n j).isSome = (j == 3 || j == 6) := by
  unfold orderR
  by_cases h : j = 3
  · simp [h]
  · by_cases h' : j = 6
    · simp [h']
    · simp [h, h']
def orderT : List (List Nat) := [[], [0], [0, 1], [0, 1, 2], [0, 1, 2, 3], [0, 1], [0, 1, 2, 3, 5], [0, 1, 2, 3, 5, 6], [0, 1, 2, 3, 4, 5, 6, 7], [0, 1], [0, 1], [0, 1, 9, 10], [0, 1, 2, 3, 4, 5, 6, 7, 8, 9, 10, 11], [0, 1, 2, 3, 4, 5, 6, 7, 8, 9, 10, 11, 12], [0, 1, 2, 3, 4, 5, 6, 7, 8, 9, 10, 11, 12, 13], [0, 1, 2, 3, 4, 5, 6, 7, 8, 9, 10, 11, 12, 13, 14], [0, 1, 2, 3, 4, 5, 6, 7, 8, 9, 10, 11, 12, 13, 14, 15], [0, 1, 2, 3, 4, 5, 6, 7, 8, 9, 10, 11, 12, 13, 14], [0, 1, 2, 3, 4, 5, 6, 7, 8, 9, 10, 11, 12, 13, 14, 17], [0, 1, 2, 3, 4, 5, 6, 7, 8, 9, 10, 11, 12, 13, 14, 15, 16, 17, 18], [0, 1, 2, 3, 4, 5, 6, 7, 8, 9, 10, 11, 12, 13, 14], [0, 1, 2, 3, 4, 5, 6, 7, 8, 9, 10, 11, 12, 13, 14, 15, 16, 17, 18, 19, 20], [0, 1, 2, 3, 4, 5, 6, 7, 8, 9, 10, 11, 12, 13, 14, 15, 16, 17, 18, 19, 20, 21], [0, 1, 2, 3, 4, 5, 6, 7, 8, 9, 10, 11, 12, 13, 14, 15, 16, 17, 18, 19, 20, 21, 22], [0, 1, 2, 3, 4, 5, 6, 7, 8, 9, 10, 11, 12, 13, 14, 15, 16, 17, 18, 19, 20, 21, 22, 23], [0, 1, 2, 3, 4, 5, 6, 7, 8, 9, 10, 11, 12, 13, 14, 15, 16, 17, 18, 19, 20, 21, 22, 23, 24], [0, 1, 2, 3, 4, 5, 6, 7, 8, 9, 10, 11, 12, 13, 14, 15, 16, 17, 18, 19, 20, 21, 22, 23], [0, 1, 2, 3, 4, 5, 6, 7, 8, 9, 10, 11, 12, 13, 14, 15, 16, 17, 18, 19, 20, 21, 22, 23, 26], [0, 1, 2, 3, 4, 5, 6, 7, 8, 9, 10, 11, 12, 13, 14, 15, 16, 17, 18, 19, 20, 21, 22, 23, 24, 25, 26, 27], [0, 1, 2, 3, 4, 5, 6, 7, 8, 9, 10, 11, 12, 13, 14, 15, 16, 17, 18, 19, 20, 21, 22, 23], [0, 1, 2, 3, 4, 5, 6, 7, 8, 9, 10, 11, 12, 13, 14, 15, 16, 17, 18, 19, 20, 21, 22, 23, 29], [0, 1, 2, 3, 4, 5, 6, 7, 8, 9, 10, 11, 12, 13, 14, 15, 16, 17, 18, 19, 20, 21, 22, 23], [0, 1, 2, 3, 4, 5, 6, 7, 8, 9, 10, 11, 12, 13, 14, 15, 16, 17, 18, 19, 20, 21, 22, 23, 31], [0, 1, 2, 3, 4, 5, 6, 7, 8, 9, 10, 11, 12, 13, 14, 15, 16, 17, 18, 19, 20, 21, 22, 23, 29, 30, 31, 32], [0, 1, 2, 3, 4, 5, 6, 7, 8, 9, 10, 11, 12, 13, 14, 15, 16, 17, 18, 19, 20, 21, 22, 23, 24, 25, 26, 27, 28, 29, 30, 31, 32, 33], [0, 1, 2, 3, 4, 5, 6, 7, 8, 9, 10, 11, 12, 13, 14, 15, 16, 17, 18, 19, 20, 21, 22, 23, 24, 25, 26, 27, 28, 29, 30, 31, 32, 33, 34]]

set_option maxRecDepth 40000 in
set_option maxHeartbeats 2000000 in
theorem numsOrder_walk (m n9 : Nat) (x y : Nat → Nat) (hm : m < 18446744073709551616) (hn : n9 < 18446744073709551616) (hx : ∀ i, i < 4 → x i < 18446744073709551616) (hy : ∀ i, i < 4 → y i < 18446744073709551616) (w : World) :
    Calls Try.prog 5 #[.int .u64 m, .int .u64 n9, .agg #[.int .u64 (x 0), .int .u64 (x 1), .int .u64 (x 2), .int .u64 (x 3), .int .u64 (y 0), .int .u64 (y 1), .int .u64 (y 2), .int .u64 (y 3)]] w fun e w' => e = .returned (.bool true) ∧ Below w.heap.size w w' := by
  have HC := Lib.hid (fun (w : World) (x0 x1 x2 x3 : Nat) => PutLong_any (b := []) w (KAt.nil _ _) x0 x1 x2 x3 (by simp))
  have HN := Lib.hid (Box8.new w x y)
  have Hx := Lib.hid hx
  have Hy := Lib.hid hy
  have Hm := Lib.hid hm
  have Hn := Lib.hid hn
  clear hx hy hm hn
  go_enter Try.func5, Try.ntmps5
  go_wp2_with fail
  refine (HC.out _ _ _ _ _).mono ?_
  rintro _ w1 ⟨v7, rfl, ho7, hb1⟩
  have hbox1 := (HN.out _).later (by simp) hb1
  obtain ⟨a7, c7, rfl⟩ := own_shape (n := 32) ho7 (by simp [be_length])
  have HO7 := Lib.hid ho7
  have HB1 := Lib.hid hb1
  clear ho7 hb1
  have p0 := (hbox1 0 (by omega)).2
  have p1 := (hbox1 1 (by omega)).2
  have p2 := (hbox1 2 (by omega)).2
  have p3 := (hbox1 3 (by omega)).2
  have HX1 := Lib.hid hbox1
  clear hbox1
  go_wp2_with fail
  refine (HC.out _ _ _ _ _).mono ?_
  rintro _ w2 ⟨v8, rfl, ho8, hb2⟩
  clear p0 p1 p2 p3
  have hbox2 := HX1.out.later rfl hb2
  obtain ⟨a8, c8, rfl⟩ := own_shape (n := 32) ho8 (by simp [be_length])
  have HO8 := Lib.hid ho8
  have HB2 := Lib.hid hb2
  have HX2 := Lib.hid hbox2
  clear ho8 hb2 hbox2
  go_wp2_with fail
  go_loopw [9, 10] (fun v i wr => ∃ k n : Nat, k ≤ 4 ∧ i = .int .i64 k ∧ v = .bool (les x y k) ∧ wr = w2.drewN n) (fun _ i _ => 4 - (intOf i).toNat)
  case atStart => exact ⟨0, 0, by omega, rfl, rfl, rfl⟩
  case round =>
    obtain ⟨i, n, hi, rfl, rfl, rfl⟩ := hrel
    by_cases hlt : i < 4
    · have cx := (HX2.out i hlt).1
      have cy := (HX2.out i hlt).2
      by_cases hxy : x i = y i
      · have E := Lib.hid hxy
        rw [hxy] at cx
        clear hxy
        go_wp2
        go_quiet (fail)
        go_wp2
        go_roundw
        case rel => exact ⟨i + 1, _, by omega, by go_num, by rw [les_eq E.out], rfl⟩
        case measure => simp [intOf]; omega
      · have E := Lib.hid hxy
        have e1 : ((x i : Int) == (y i : Int)) = false := by simp; omega
        have e2 : ((x i : Int) != (y i : Int)) = true := by simp; omega
        clear hxy
        go_wp2
        go_quiet (fail)
        go_wp2
        go_quiet (fail)
        go_wp2
        go_roundw
        case rel => exact ⟨i + 1, _, by omega, by go_num, by rw [les_ne E.out], rfl⟩
        case measure => simp [intOf]; omega
    · obtain rfl : i = 4 := by omega
      clear hlt
      go_wp2_with fail
      have H3 : ∃ w3 : World, w3 = w2.drewN n := ⟨_, rfl⟩
      obtain ⟨w3, e3⟩ := H3
      have hb3 : Below w2.heap.size w2 w3 := by rw [e3]; exact below_drewN _ _
      rw [← e3]
      clear e3
      have k7 := (HO7.out.at_.later HB2.out).later hb3
      have k8 := HO8.out.at_.later hb3
      have hx3 := HX2.out.later rfl hb3
      simp only [List.nil_append] at k7 k8
      have HK7 := Lib.hid k7
      have HK8 := Lib.hid k8
      have HX3 := Lib.hid hx3
      have HB3 := Lib.hid hb3
      clear k7 k8 hx3 hb3
      have T1 := Lib.hid (show Op.bytesLess (strOf (be 8 m)).toList (strOf (be 8 n9)).toList = decide (m < n9) by rw [strOf_less _ _ (be_bytes _ _) (be_bytes _ _)]; exact decide_eq_decide.2 (be8_lt Hm.out Hn.out))
      have T2 := Lib.hid (show Op.bytesLess (strOf (be4 x)).toList (strOf (be4 y)).toList = les x y 4 by rw [strOf_less _ _ (be4_bytes _) (be4_bytes _), be4_lt Hx.out Hy.out])
      generalize les x y 4 = LS at *
      generalize hS3 : strOf (be 8 m) = S3 at *
      generalize hS6 : strOf (be 8 n9) = S6 at *
      generalize hS7 : strOf (be4 x) = S7 at *
      generalize hS8 : strOf (be4 y) = S8 at *
      have HS3 := Lib.hid hS3
      have HS6 := Lib.hid hS6
      have HS7 := Lib.hid hS7
      have HS8 := Lib.hid hS8
      clear hS3 hS6 hS7 hS8
      refine wp_region_seq 36 (fun j => j == 3 || j == 6) (orderR m n9) orderT [.seg 3 [], .one [], .seg 1 [3], .seg 1 [], .one [], .seg 1 [6], .seg 28 []] (by kernel_rfl) (by kernel_rfl) (orderR_is m n9) (fun _ _ _ _ _ h => h) (fun xs => ?_)
      unfold wpS
      intro F hn9 hcl hC
      have HCL := Lib.hid hcl
      clear hcl
      simp only [List.take_succ_cons, List.take_zero, List.drop_succ_cons, List.drop_zero, Nat.reduceAdd]
      repeat (go_big_quiet_step ((first
        | (go_at_call 6; exact to_class HCL.out (alive_any _)))))
      refine wpQuiet_nil ?_
      clear HCL hn9 hC
      refine wpS_one 42 rfl rfl rfl rfl (by go_simp) (fun w4 h4 hD => does_call (by go_simp) (put8 _ _)) (by go_simp; rfl) ?_
      unfold wpS
      intro F hn9 hcl hC
      have s3 := fun X9 : Wd F => str_of ((hC _ X9.fact).2 3 (by simp) (relP m) rfl) (be_bytes 8 m)
      clear hC
      rw [HS3.out] at s3
      simp only [List.take_succ_cons, List.take_zero, List.drop_succ_cons, List.drop_zero, Nat.reduceAdd]
      refine quiet_read (v := .string S3) 43 rfl (by go_simp) (fun X9 => by have h := s3 X9; first | (exact run_value_of h) | (go_simp; done) | (go_simp; rw [h]; rfl) | (simp [execOp, h]; done)) (by go_simp; rfl) ?_
      refine wpQuiet_nil ?_
      clear hcl hn9 s3
      unfold wpS
      intro F hn9 hcl hC
      clear hC
      simp only [List.take_succ_cons, List.take_zero, List.drop_succ_cons, List.drop_zero, Nat.reduceAdd]
      go_big_quiet_step (fail)
      refine wpQuiet_nil ?_
      clear hcl hn9
      refine wpS_one 45 rfl rfl rfl rfl (by go_simp) (fun w4 h4 hD => does_call (by go_simp) (put8 _ _)) (by go_simp; rfl) ?_
      unfold wpS
      intro F hn9 hcl hC
      have s6 := fun X9 : Wd F => str_of ((hC _ X9.fact).2 6 (by simp) (relP n9) rfl) (be_bytes 8 n9)
      clear hC
      rw [HS6.out] at s6
      simp only [List.take_succ_cons, List.take_zero, List.drop_succ_cons, List.drop_zero, Nat.reduceAdd]
      refine quiet_read (v := .string S6) 46 rfl (by go_simp) (fun X9 => by have h := s6 X9; first | (exact run_value_of h) | (go_simp; done) | (go_simp; rw [h]; rfl)) (by go_simp; rfl) ?_
      refine wpQuiet_nil ?_
      clear hcl hn9 s6
      unfold wpS
      intro F hn9 hcl hC
      have bx0 := fun X9 : Wd F => (HX3.out.later rfl (hC _ X9.fact).1 0 (by omega)).1
      have bx1 := fun X9 : Wd F => (HX3.out.later rfl (hC _ X9.fact).1 1 (by omega)).1
      have bx2 := fun X9 : Wd F => (HX3.out.later rfl (hC _ X9.fact).1 2 (by omega)).1
      have bx3 := fun X9 : Wd F => (HX3.out.later rfl (hC _ X9.fact).1 3 (by omega)).1
      have by0 := fun X9 : Wd F => (HX3.out.later rfl (hC _ X9.fact).1 0 (by omega)).2
      have by1 := fun X9 : Wd F => (HX3.out.later rfl (hC _ X9.fact).1 1 (by omega)).2
      have by2 := fun X9 : Wd F => (HX3.out.later rfl (hC _ X9.fact).1 2 (by omega)).2
      have by3 := fun X9 : Wd F => (HX3.out.later rfl (hC _ X9.fact).1 3 (by omega)).2
      have s7 := fun X9 : Wd F => str_of (l := be4 x) (HK7.out.later (hC _ X9.fact).1) (be4_bytes x)
      have s8 := fun X9 : Wd F => str_of (l := be4 y) (HK8.out.later (hC _ X9.fact).1) (be4_bytes y)
      clear hC
      simp only [List.take_succ_cons, List.take_zero, List.drop_succ_cons, List.drop_zero, Nat.reduceAdd]
      rw [HS7.out] at s7
      rw [HS8.out] at s8
      have t1 := T1.out
      have t2 := T2.out
      have heq := eq_four x y
      repeat (go_big_quiet_step (fail))
      refine wpQuiet_nil ?_
      unfold wpS
      intro w5 hb5 hall hap
      clear hall hap
      go_wp2_with fail
      go_ret
      have key : ((S7.toList == S8.toList) == (((x 0 : Nat) : Int) == ((y 0 : Nat) : Int) && (((x 1 : Nat) : Int) == ((y 1 : Nat) : Int) && (((x 2 : Nat) : Int) == ((y 2 : Nat) : Int) && ((x 3 : Nat) : Int) == ((y 3 : Nat) : Int))))) = true := by
        rw [← HS7.out, ← HS8.out, strOf_toList, strOf_toList]
        have hi := be4_inj Hx.out Hy.out
        have hm := map_inj8 (be4 x) (be4 y) (be4_bytes x) (be4_bytes y)
        rw [beq_iff_eq, Bool.eq_iff_iff]
        simp only [beq_iff_eq, Bool.and_eq_true, Int.natCast_inj]
        rw [← hi]
        exact ⟨hm, fun h => by rw [h]⟩
      refine ⟨congrArg (fun b => Ending.returned (.bool b)) key, ?_⟩
      have hb0 := (Below.refl w.heap.size w).alloc (Nat.le_refl _) (.cells #[.int .u64 (x 0), .int .u64 (x 1), .int .u64 (x 2), .int .u64 (x 3), .int .u64 (y 0), .int .u64 (y 1), .int .u64 (y 2), .int .u64 (y 3)] 45)
      exact below_later (below_later (below_later (below_later hb0 HB1.out) HB2.out) HB3.out) hb5
end Go.Proofs.Ytplhfbflgjnjmaa
