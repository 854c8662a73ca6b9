/- Layer 5's reference -/
import Derived.Test.YtmijablfjigbhaaGreatDoorSZVG06
import Derived.Test.YtmijablfjigbhaaGreatDoorSZVG13
import Derived.Test.YtmijablfjigbhaaGreatDoorSZVG14
set_option linter.unusedSimpArgs false
set_option linter.unusedVariables false
set_option maxHeartbeats 4000000
set_option maxRecDepth 20000
namespace Go.Proofs.YtmijablfjigbhaaGreatDoor
open Go.ChangeShapes Go.WideShapes Go.ChangeAt Go.RowKit
def O9 (k : IntKind) (w : World) (b o n : Nat) (A : Nat → Nat) : Prop := ∀ j, j < n → w.cell? ⟨b, o + j, none⟩ = some (.int k (A j))
theorem O9.later {k : IntKind} {w w' : World} {b o n : Nat} {A : Nat → Nat} (h : O9 k w b o n A) (hb : Below w.heap.size w w') : O9 k w' b o n A := fun j hj => by
 have h1 := h j hj; exact (hb.cell (p := ⟨b, o + j, none⟩) (World.block_lt_of_cell? (a := ⟨b, o + j, none⟩) _ h1)).trans h1
theorem O9.set {k : IntKind} {w : World} {b n : Nat} {A : Nat → Nat} (h : O9 k w b 0 n A) (c x : Nat) : O9 k (w.setCell ⟨b, c, none⟩ (.int k x)) b 0 n (fun j => if j = c then x else A j) := by
 intro j hj; have h1 := h j hj; rw [Nat.zero_add] at h1 ⊢
 by_cases hjc : j = c
 ·subst hjc; rw [World.cell?_setCell_same (h := h1)]
  simp
 ·rw [World.cell?_setCell_other _ _ _ _ (by intro h; injection h; omega), h1]
  simp [hjc]
theorem O9.other {k : IntKind} {w : World} {b o n : Nat} {A : Nat → Nat} (h : O9 k w b o n A) {c : Nat} (i : Nat) (v : Value) (hc : b ≠ c) : O9 k (w.setCell ⟨c, i, none⟩ v) b o n A := fun j hj => by
 rw [World.cell?_setCell_other _ _ _ _ (by intro h; injection h; omega), h j hj]
theorem O9.congr {k : IntKind} {w : World} {b o n : Nat} {A B : Nat → Nat} (h : O9 k w b o n A) (hg : ∀ j, j < n → A j = B j) : O9 k w b o n B := fun j hj => by rw [h j hj, hg j hj]
theorem QD {l : List Nat} {i : Nat} (h : i < l.length) : l[i]? = some (qM l i) := by
 unfold qM; rw [List.getD_eq_getElem?_getD, List.getElem?_eq_getElem h]
 rfl
theorem zj {n : Nat} (h : n < 9223372036854775808) : IntKind.i64.wrap (n : Int) = (n : Int) := by simp [IntKind.wrap, IntKind.bits, IntKind.signed]; omega
theorem ZQ {n : Nat} (h : n < 4294967296) : IntKind.u32.wrap (n : Int) = (n : Int) := by rw [IntKind.wrap_u32']; omega
theorem XE (x : Nat) (c : Int) (y : Nat) (h : (x : Int) * c = (y : Int)) (hy : y < 4294967296) : IntKind.u32.wrap ((x : Int) * c) = (y : Int) := by rw [h]; exact ZQ hy
theorem kF {x y k : Nat} (hy : y < 2 ^ k) (hx : x % 2 ^ k = 0) (V9 : x < 4294967296) (hy9 : y < 4294967296) : bits BinOp.or IntKind.u32 (x : Int) (y : Int) = ((x + y : Nat) : Int) := by
 rw [u32_or_nat x y V9 hy9, nat_join k x y hx hy]
theorem jF {k : IntKind} {w : World} {b n : Nat} {A : Nat → Nat} (h : O9 k w b 0 n A) {j : Nat} (hj : j < n) : w.cell? ⟨b, j, none⟩ = some (.int k (A j)) := by
 have h1 := h j hj
 rwa [Nat.zero_add] at h1
theorem JV {a b : Nat} (c : Nat) (h : c = (a + b) % 4294967296) : IntKind.u32.wrap ((a : Int) + (b : Int)) = (c : Int) := by rw [IntKind.wrap_u32', h]; omega
theorem ZD {a b : Nat} (ha : a < 4294967296) (hb : b < 4294967296) (c : Nat) (h : c = a ^^^ b) : bits BinOp.xor IntKind.u32 (a : Int) (b : Int) = (c : Int) := by rw [h]; exact u32_xor_nat a b ha hb
theorem XN {a b : Nat} (ha : a < 4294967296) (hb : b < 4294967296) (c : Nat) (h : c = a &&& b) : bits BinOp.and IntKind.u32 (a : Int) (b : Int) = (c : Int) := by rw [h]; exact u32_and_nat a b ha hb
theorem O9.new {k : IntKind} (w : World) (l : List Nat) (T : Array Value) (hT : T = (jp k l).toArray) (t : TypeId) (b : Nat) (hb : b = w.heap.size) : O9 k (w.alloc (.cells T t)) b 0 l.length (qM l) := by
 subst hb hT; intro j hj; rw [Nat.zero_add, cell_of_row _ _ _ _ _ _ (heap_alloc_new _ _)]
 simp [qv, QD hj]
structure fU (w wr : World) (s : S8) (b : List Nat) (SS : Nat) (i : Nat) : Prop where
 sS : O9 .u32 wr SS 0 8 (qM s.list)
 sB : O9 .u8 wr (SS + 1) 0 64 (qM b)
 sR : O9 .u32 wr (SS + 1 + 1) 0 8 (fun _ => 0)
 fR : Y0 wr (SS + 1 + 1) 8
 sW : O9 .u32 wr (SS + 1 + 1 + 1) 0 64 (jZ b i)
 fW : Y0 wr (SS + 1 + 1 + 1) 64
 below : Below w.heap.size w wr
 at9 : SS = w.heap.size
 lt : SS + 1 + 1 + 1 < wr.heap.size
theorem fU.later {w wr w' : World} {s : S8} {b : List Nat} {SS i : Nat} (h : fU w wr s b SS i) (hb : Below wr.heap.size wr w') : fU w w' s b SS i :=
 ⟨h.sS.later hb, h.sB.later hb, h.sR.later hb, h.fR.later hb (by have := h.lt; omega), h.sW.later hb, h.fW.later hb h.lt, jk h.below hb, h.at9, Nat.lt_of_lt_of_le h.lt hb.size⟩
theorem fU.set {w wr : World} {s : S8} {b : List Nat} {SS i : Nat} (h : fU w wr s b SS i) (x : Nat) (hx : x = (if i < 16 then swd b i else RH (jZ b i (i - 15)) (jZ b i (i - 2)) (jZ b i (i - 16)) (jZ b i (i - 7)))) :
  fU w (wr.setCell ⟨SS + 1 + 1 + 1, i, none⟩ (.int .u32 x)) s b SS (i + 1) := by
 refine ⟨h.sS.other _ _ (by omega), h.sB.other _ _ (by omega), h.sR.other _ _ (by omega), h.fR.set _ _, ?_, h.fW.set _ _, h.below.setCell (by have := h.at9; show w.heap.size ≤ SS + 1 + 1 + 1; omega) _, h.at9, by simpa using h.lt⟩; refine (h.sW.set i x).congr fun j _ => ?_
 show _ = (if j = i then _ else _)
 rw [← hx]
theorem O9.zero {k : IntKind} (w : World) (n : Nat) (Z : Array Value) (hZ : Z = Array.replicate n (.int k 0)) (t : TypeId) (b : Nat) (hb : b = w.heap.size) : O9 k (w.alloc (.cells Z t)) b 0 n (fun _ => 0) := by
 subst hb hZ; intro j hj; rw [Nat.zero_add, cell_of_row _ _ _ _ _ _ (heap_alloc_new _ _)]
 simp [hj]
theorem bW (w : World) (s : S8) (b : List Nat) (T : Array Value) (hT : T = (jp .u8 b).toArray) (hl : b.length = 64) (t1 t2 t3 t4 : TypeId) (Z : Array Value) (hZ : Z = Array.replicate 64 (.int .u32 0)) :
  fU w ((((w.alloc (.cells #[.int .u32 s.a, .int .u32 s.b, .int .u32 s.c, .int .u32 s.d, .int .u32 s.e, .int .u32 s.f, .int .u32 s.g, .int .u32 s.h] t1)).alloc (.cells T t2)).alloc (.cells #[.int .u32 0, .int .u32 0, .int .u32 0, .int .u32 0, .int .u32 0, .int .u32 0, .int .u32 0, .int .u32 0] t3)).alloc (.cells Z t4)) s b w.heap.size 0 := by
 have h1 := O9.new (k := .u32) w s.list #[.int .u32 s.a, .int .u32 s.b, .int .u32 s.c, .int .u32 s.d, .int .u32 s.e, .int .u32 s.f, .int .u32 s.g, .int .u32 s.h] rfl t1 _ rfl; obtain ⟨w1, e1⟩ := je (w.alloc (.cells #[.int .u32 s.a, .int .u32 s.b, .int .u32 s.c, .int .u32 s.d, .int .u32 s.e, .int .u32 s.f, .int .u32 s.g, .int .u32 s.h] t1)); have n1 : w1.heap.size = w.heap.size + 1 := by rw [e1]; simp
 have b1 := jc e1; rw [← e1] at h1 ⊢; clear e1; have h2 := O9.new (k := .u8) w1 b T hT t2 _ rfl; rw [hl] at h2; obtain ⟨w2, e2⟩ := je (w1.alloc (.cells T t2)); have n2 : w2.heap.size = w1.heap.size + 1 := by rw [e2]; simp
 have b2 := jc e2; rw [← e2] at h2 ⊢; clear e2; have h3 := O9.zero (k := .u32) w2 8 #[.int .u32 0, .int .u32 0, .int .u32 0, .int .u32 0, .int .u32 0, .int .u32 0, .int .u32 0, .int .u32 0] rfl t3 _ rfl; have f3 := Y0.new w2 #[.int .u32 0, .int .u32 0, .int .u32 0, .int .u32 0, .int .u32 0, .int .u32 0, .int .u32 0, .int .u32 0] t3 8; obtain ⟨w3, e3⟩ := je (w2.alloc (.cells #[.int .u32 0, .int .u32 0, .int .u32 0, .int .u32 0, .int .u32 0, .int .u32 0, .int .u32 0, .int .u32 0] t3)); have n3 : w3.heap.size = w2.heap.size + 1 := by rw [e3]; simp
 have b3 := jc e3; rw [← e3] at h3 f3 ⊢; clear e3; have h4 := O9.zero (k := .u32) w3 64 Z hZ t4 _ rfl; have f4 := Y0.new w3 Z t4 64; obtain ⟨w4, e4⟩ := je (w3.alloc (.cells Z t4)); have n4 : w4.heap.size = w3.heap.size + 1 := by rw [e4]; simp
 have b4 := jc e4; rw [← e4] at h4 f4 ⊢; clear e4; rw [n1] at n2 h2; rw [n2] at n3 h3 f3; rw [n3] at n4 h4 f4; exact ⟨((h1.later b2).later b3).later b4, (h2.later b3).later b4, h3.later b4, f3.later b4 (by omega), h4, f4, jk (jk (jk b1 b2) b3) b4, rfl, by omega⟩
structure gU (w wr : World) (s : S8) (b : List Nat) (SS NN : Nat) (A : Nat → Nat) : Prop where
 base : fU w wr s b SS 64
 nn : O9 .u32 wr NN 0 8 A
 fN : Y0 wr NN 8
 gt : SS + 1 + 1 + 1 < NN
 lt : NN < wr.heap.size
theorem gU.later {w wr w' : World} {s : S8} {b : List Nat} {SS NN : Nat} {A : Nat → Nat} (h : gU w wr s b SS NN A) (hb : Below wr.heap.size wr w') : gU w w' s b SS NN A :=
 ⟨h.base.later hb, h.nn.later hb, h.fN.later hb h.lt, h.gt, Nat.lt_of_lt_of_le h.lt hb.size⟩
theorem fU.other {w wr : World} {s : S8} {b : List Nat} {SS i NN : Nat} (h : fU w wr s b SS i) (hg : SS + 1 + 1 + 1 < NN) (c : Nat) (v : Value) : fU w (wr.setCell ⟨NN, c, none⟩ v) s b SS i :=
 ⟨h.sS.other _ _ (by omega), h.sB.other _ _ (by omega), h.sR.other _ _ (by omega), h.fR.set _ _, h.sW.other _ _ (by omega), h.fW.set _ _, h.below.setCell (by have := h.at9; show w.heap.size ≤ NN; omega) _, h.at9, by simpa using h.lt⟩
theorem gU.set {w wr : World} {s : S8} {b : List Nat} {SS NN : Nat} {A : Nat → Nat} (h : gU w wr s b SS NN A) (c x : Nat) (C : Nat → Nat) (hC : ∀ j, C j = if j = c then x else A j) : gU w (wr.setCell ⟨NN, c, none⟩ (.int .u32 x)) s b SS NN C :=
 ⟨h.base.other h.gt _ _, (h.nn.set c x).congr fun j _ => (hC j).symm, h.fN.set _ _, h.gt, by simpa using h.lt⟩
theorem gU.set8 {w wr : World} {s : S8} {b : List Nat} {SS NN : Nat} {A : Nat → Nat} (h : gU w wr s b SS NN A) (x0 x1 x2 x3 x4 x5 x6 x7 : Nat) (C : Nat → Nat) (hC : C = qM [x0, x1, x2, x3, x4, x5, x6, x7]) :
  gU w ((((((((wr.setCell ⟨NN, 0, none⟩ (.int .u32 x0)).setCell ⟨NN, 1, none⟩ (.int .u32 x1)).setCell ⟨NN, 2, none⟩ (.int .u32 x2)).setCell ⟨NN, 3, none⟩ (.int .u32 x3)).setCell ⟨NN, 4, none⟩ (.int .u32 x4)).setCell ⟨NN, 5, none⟩ (.int .u32 x5)).setCell ⟨NN, 6, none⟩ (.int .u32 x6)).setCell ⟨NN, 7, none⟩ (.int .u32 x7)) s b SS NN C := by
 have h9 := (((((((h.set 0 x0 _ fun _ => rfl).set 1 x1 _ fun _ => rfl).set 2 x2 _ fun _ => rfl).set 3 x3 _ fun _ => rfl).set 4 x4 _ fun _ => rfl).set 5 x5 _ fun _ => rfl).set 6 x6 _ fun _ => rfl).set 7 x7 _ fun _ => rfl
 refine ⟨h9.base, h9.nn.congr fun j hj => ?_, h9.fN, h9.gt, h9.lt⟩; rw [hC]
 rcases (show j = 0 ∨ j = 1 ∨ j = 2 ∨ j = 3 ∨ j = 4 ∨ j = 5 ∨ j = 6 ∨ j = 7 by omega) with rfl | rfl | rfl | rfl | rfl | rfl | rfl | rfl <;> rfl
theorem dW {w wr : World} {s : S8} {b : List Nat} {SS : Nat} (h : fU w wr s b SS 64) (t : TypeId) :
  gU w (wr.alloc (.cells #[.int .u32 s.a, .int .u32 s.b, .int .u32 s.c, .int .u32 s.d, .int .u32 s.e, .int .u32 s.f, .int .u32 s.g, .int .u32 s.h] t)) s b SS wr.heap.size (qM s.list) :=
 ⟨h.later (ja), O9.new (k := .u32) wr s.list #[.int .u32 s.a, .int .u32 s.b, .int .u32 s.c, .int .u32 s.d, .int .u32 s.e, .int .u32 s.f, .int .u32 s.g, .int .u32 s.h] rfl t _ rfl, Y0.new _ _ _ _, h.lt, by simp⟩
theorem zv {w : World} {NN : Nat} {a b c d e f g h : Nat} (H : O9 .u32 w NN 0 8 (qM (S8.list ⟨a, b, c, d, e, f, g, h⟩))) :
  w.cell? ⟨NN, 0, none⟩ = some (.int .u32 a) ∧ w.cell? ⟨NN, 1, none⟩ = some (.int .u32 b) ∧ w.cell? ⟨NN, 2, none⟩ = some (.int .u32 c) ∧ w.cell? ⟨NN, 3, none⟩ = some (.int .u32 d) ∧
  w.cell? ⟨NN, 4, none⟩ = some (.int .u32 e) ∧ w.cell? ⟨NN, 5, none⟩ = some (.int .u32 f) ∧ w.cell? ⟨NN, 6, none⟩ = some (.int .u32 g) ∧ w.cell? ⟨NN, 7, none⟩ = some (.int .u32 h) :=
 ⟨jF H (j := 0) (by decide), jF H (j := 1) (by decide), jF H (j := 2) (by decide), jF H (j := 3) (by decide), jF H (j := 4) (by decide), jF H (j := 5) (by decide), jF H (j := 6) (by decide), jF H (j := 7) (by decide)⟩
theorem nZ {w wr : World} {s : S8} {l : List Nat} {SS NN : Nat} {a b c d e f g h : Nat} (H : gU w wr s l SS NN (qM (S8.list ⟨a, b, c, d, e, f, g, h⟩))) :
  wr.cell? ⟨NN, 0, none⟩ = some (.int .u32 a) ∧ wr.cell? ⟨NN, 1, none⟩ = some (.int .u32 b) ∧ wr.cell? ⟨NN, 2, none⟩ = some (.int .u32 c) ∧ wr.cell? ⟨NN, 3, none⟩ = some (.int .u32 d) ∧
  wr.cell? ⟨NN, 4, none⟩ = some (.int .u32 e) ∧ wr.cell? ⟨NN, 5, none⟩ = some (.int .u32 f) ∧ wr.cell? ⟨NN, 6, none⟩ = some (.int .u32 g) ∧ wr.cell? ⟨NN, 7, none⟩ = some (.int .u32 h) := zv H.nn
theorem pX : ∀ (k : Nat) (_ : k < 64) (w : World), (Instr.index 279 (.agg (jp .u32 Qv).toArray) (.int .i64 k)).run Tryz.prog w = .ok (.int .u32 (qM Qv k)) w
 | 0, _, _ => by kernel_rfl
 | 1, _, _ => by kernel_rfl
 | 2, _, _ => by kernel_rfl
 | 3, _, _ => by kernel_rfl
 | 4, _, _ => by kernel_rfl
 | 5, _, _ => by kernel_rfl
 | 6, _, _ => by kernel_rfl
 | 7, _, _ => by kernel_rfl
 | 8, _, _ => by kernel_rfl
 | 9, _, _ => by kernel_rfl
 | 10, _, _ => by kernel_rfl
 | 11, _, _ => by kernel_rfl
 | 12, _, _ => by kernel_rfl
 | 13, _, _ => by kernel_rfl
 | 14, _, _ => by kernel_rfl
 | 15, _, _ => by kernel_rfl
 | 16, _, _ => by kernel_rfl
 | 17, _, _ => by kernel_rfl
 | 18, _, _ => by kernel_rfl
 | 19, _, _ => by kernel_rfl
 | 20, _, _ => by kernel_rfl
 | 21, _, _ => by kernel_rfl
 | 22, _, _ => by kernel_rfl
 | 23, _, _ => by kernel_rfl
 | 24, _, _ => by kernel_rfl
 | 25, _, _ => by kernel_rfl
 | 26, _, _ => by kernel_rfl
 | 27, _, _ => by kernel_rfl
 | 28, _, _ => by kernel_rfl
 | 29, _, _ => by kernel_rfl
 | 30, _, _ => by kernel_rfl
 | 31, _, _ => by kernel_rfl
 | 32, _, _ => by kernel_rfl
 | 33, _, _ => by kernel_rfl
 | 34, _, _ => by kernel_rfl
 | 35, _, _ => by kernel_rfl
 | 36, _, _ => by kernel_rfl
 | 37, _, _ => by kernel_rfl
 | 38, _, _ => by kernel_rfl
 | 39, _, _ => by kernel_rfl
 | 40, _, _ => by kernel_rfl
 | 41, _, _ => by kernel_rfl
 | 42, _, _ => by kernel_rfl
 | 43, _, _ => by kernel_rfl
 | 44, _, _ => by kernel_rfl
 | 45, _, _ => by kernel_rfl
 | 46, _, _ => by kernel_rfl
 | 47, _, _ => by kernel_rfl
 | 48, _, _ => by kernel_rfl
 | 49, _, _ => by kernel_rfl
 | 50, _, _ => by kernel_rfl
 | 51, _, _ => by kernel_rfl
 | 52, _, _ => by kernel_rfl
 | 53, _, _ => by kernel_rfl
 | 54, _, _ => by kernel_rfl
 | 55, _, _ => by kernel_rfl
 | 56, _, _ => by kernel_rfl
 | 57, _, _ => by kernel_rfl
 | 58, _, _ => by kernel_rfl
 | 59, _, _ => by kernel_rfl
 | 60, _, _ => by kernel_rfl
 | 61, _, _ => by kernel_rfl
 | 62, _, _ => by kernel_rfl
 | 63, _, _ => by kernel_rfl
 | k + 64, h, _ => absurd h (by omega)
def gapR (j : Nat) : Option iU := if j = 11 then some (IW .i64 [7, 18]) else if j = 18 then some (IW .i64 [17, 19]) else none
theorem gapR_is (j : Nat) : (gapR j).isSome = (j == 11 || j == 18) := by
 unfold gapR
 by_cases h : j = 11
 ·simp [h]
 ·by_cases h' : j = 18
  ·simp [h']
  ·simp [h, h']
def gapT : List (List Nat) := [[], [], [1], [1, 2], [1, 2, 3], [], [5], [5, 6], [5, 6, 7], [1, 2, 3, 4, 5, 6, 7, 8], [], [], [10, 11], [], [13], [10, 11, 12, 13, 14], [1, 2, 3, 4, 5, 6, 7, 8, 9, 10, 11, 12, 13, 14, 15], [], [], [10, 11, 12, 17, 18], [], [20], [10, 11, 12, 17, 18, 19, 20, 21], [1, 2, 3, 4, 5, 6, 7, 8, 9, 10, 11, 12, 13, 14, 15, 16, 17, 18, 19, 20, 21, 22], [0, 1, 2, 3, 4, 5, 6, 7, 8, 9, 10, 11, 12, 13, 14, 15, 16, 17, 18, 19, 20, 21, 22, 23], [0, 1, 2, 3, 4, 5, 6, 7, 8, 9, 10, 11, 12, 13, 14, 15, 16, 17, 18, 19, 20, 21, 22, 23, 24]]
theorem UM {x : Nat} {ks : List Nat} (hx : x < 2 ^ 32) (hks : ∀ k ∈ ks, 1 ≤ k ∧ k ≤ 31) {y : Nat} (hy : JN x ks = y) (w : World) {a : Option Addr} {c : Nat} (hv : J6 .i64 w (.slice a ks.length c) ks) :
  Calls Tryz.prog 229 #[.int .u32 x, .slice a ks.length c] w fun e w' => e = .returned (.int .u32 y) ∧ Below w.heap.size w w' := by
 subst hy; exact (mix_any hx hks w hv).mono fun _ _ ⟨h1, h2⟩ => ⟨h1, by rw [h2]; exact Below.refl _ _⟩
def Zx (z s : S8) (i j : Nat) : Nat := if j < i then (qM z.list j + qM s.list j) % 4294967296 else qM z.list j
theorem WH (z s : S8) : Zx z s 0 = qM z.list := by funext j; unfold Zx; rw [if_neg (Nat.not_lt_zero j)]
theorem YH (z s : S8) (i j : Nat) : Zx z s (i + 1) j = if j = i then (qM z.list i + qM s.list i) % 4294967296 else Zx z s i j := by
 unfold Zx
 by_cases h : j = i
 ·subst h; rw [if_pos (Nat.lt_succ_self j), if_pos rfl]
 ·rw [if_neg h]
  by_cases h' : j < i
  ·rw [if_pos h', if_pos (by omega)]
  ·rw [if_neg h', if_neg (by omega)]
theorem XH (z s : S8) (i : Nat) : Zx z s i i = qM z.list i := by unfold Zx; rw [if_neg (Nat.lt_irrefl i)]
theorem GL (z s : S8) : ∀ j, j < 8 → Zx z s 8 j = qM (z.plus s).list j := fun j hj => by
 rcases (show j = 0 ∨ j = 1 ∨ j = 2 ∨ j = 3 ∨ j = 4 ∨ j = 5 ∨ j = 6 ∨ j = 7 by omega) with rfl | rfl | rfl | rfl | rfl | rfl | rfl | rfl <;> rfl
theorem s8_lt {s : S8} (h : s.Ok) : ∀ j, qM s.list j < 2 ^ 32 := fun j => by
 obtain ⟨h0, h1, h2, h3, h4, h5, h6, h7⟩ := h
 rcases (show j = 0 ∨ j = 1 ∨ j = 2 ∨ j = 3 ∨ j = 4 ∨ j = 5 ∨ j = 6 ∨ j = 7 ∨ 8 ≤ j by omega) with rfl | rfl | rfl | rfl | rfl | rfl | rfl | rfl | hj
 ·exact h0
 ·exact h1
 ·exact h2
 ·exact h3
 ·exact h4
 ·exact h5
 ·exact h6
 ·exact h7
 ·unfold qM; rw [List.getD_eq_getElem?_getD, List.getElem?_eq_none (by unfold S8.list; exact hj)]
  decide
theorem O9.set8 {wr : World} {B : Nat} {A : Nat → Nat} (h : O9 .u32 wr B 0 8 A) (x0 x1 x2 x3 x4 x5 x6 x7 : Nat) : O9 .u32 ((((((((wr.setCell ⟨B, 0, none⟩ (.int .u32 x0)).setCell ⟨B, 1, none⟩ (.int .u32 x1)).setCell ⟨B, 2, none⟩ (.int .u32 x2)).setCell ⟨B, 3, none⟩ (.int .u32 x3)).setCell ⟨B, 4, none⟩ (.int .u32 x4)).setCell ⟨B, 5, none⟩ (.int .u32 x5)).setCell ⟨B, 6, none⟩ (.int .u32 x6)).setCell ⟨B, 7, none⟩ (.int .u32 x7)) B 0 8 (qM [x0, x1, x2, x3, x4, x5, x6, x7]) := by
 have h9 := (((((((h.set 0 x0).set 1 x1).set 2 x2).set 3 x3).set 4 x4).set 5 x5).set 6 x6).set 7 x7; refine h9.congr fun j hj => ?_
 rcases (show j = 0 ∨ j = 1 ∨ j = 2 ∨ j = 3 ∨ j = 4 ∨ j = 5 ∨ j = 6 ∨ j = 7 by omega) with rfl | rfl | rfl | rfl | rfl | rfl | rfl | rfl <;> rfl
theorem zZ {w wr : World} {B : Nat} (h : Below w.heap.size w wr) (hB : w.heap.size ≤ B) (x0 x1 x2 x3 x4 x5 x6 x7 : Value) : Below w.heap.size w ((((((((wr.setCell ⟨B, 0, none⟩ x0).setCell ⟨B, 1, none⟩ x1).setCell ⟨B, 2, none⟩ x2).setCell ⟨B, 3, none⟩ x3).setCell ⟨B, 4, none⟩ x4).setCell ⟨B, 5, none⟩ x5).setCell ⟨B, 6, none⟩ x6).setCell ⟨B, 7, none⟩ x7) :=
 (((((((h.setCell hB _).setCell hB _).setCell hB _).setCell hB _).setCell hB _).setCell hB _).setCell hB _).setCell hB _
def sumR (j : Nat) : Option iU := if j = 2 then some (IW .i64 [6, 11, 25]) else none
theorem sumR_is (j : Nat) : (sumR j).isSome = (j == 2) := by
 unfold sumR
 by_cases h : j = 2
 ·simp [h]
 ·simp [h]
def sumT : List (List Nat) := [[], [], [], [1, 2], [0, 1, 2, 3], [], [], [], [], [7, 8], [6, 7, 8, 9], [5, 6, 7, 8, 9, 10], [0, 1, 2, 3, 4, 5, 6, 7, 8, 9, 10, 11], [], [0, 1, 2, 3, 4, 5, 6, 7, 8, 9, 10, 11, 12, 13], [], [15], [15, 16], [0, 1, 2, 3, 4, 5, 6, 7, 8, 9, 10, 11, 12, 13, 14, 15, 16, 17], [0, 1, 2, 3, 4, 5, 6, 7, 8, 9, 10, 11, 12, 13, 14, 15, 16, 17, 18]]
theorem Qk {s : S8} {b : List Nat} (hs : s.Ok) (hb : jM b) (hl : b.length = 64) (w : World) :
  Calls Tryz.prog 218 #[s.val, .agg (jp .u8 b).toArray] w fun e w' => e = .returned (QL s b).val ∧ Below w.heap.size w w' := by
 obtain ⟨T, hT⟩ := je ((jp .u8 b).toArray); rw [← hT]; have HS := jh (fun t1 t2 t3 t4 => bW w s b T hT hl t1 t2 t3 t4); have wO := jh hb; have HOk := jh hs; clear hT hs hb hl; unfold S8.val
 go_enter Tryz.func218, Tryz.ntmps218
 go_wp2_with fail
 go_loopw [22] (fun i wr => ∃ k : Nat, k ≤ 64 ∧ i = .int .i64 k ∧ Hid (fU w wr s b w.heap.size k)) (fun i _ => 64 - (intOf i).toNat)
 case atStart => exact ⟨0, Nat.zero_le _, rfl, jh (HS.out _ _ _ _ _ rfl)⟩
 case round =>
  obtain ⟨k, hk, rfl, HT⟩ := hrel
  by_cases hlt : k < 64
  ·by_cases h16 : k < 16
   ·obtain ⟨m, hm⟩ := je (4 * k); obtain ⟨m1, hm1⟩ := je (4 * k + 1); obtain ⟨m2, hm2⟩ := je (4 * k + 2); obtain ⟨m3, NY⟩ := je (4 * k + 3); have r0 := HT.out.sB (4 * k) (by omega); have r1 := HT.out.sB (4 * k + 1) (by omega); have r2 := HT.out.sB (4 * k + 2) (by omega); have r3 := HT.out.sB (4 * k + 3) (by omega); have q0 := HT.out.sW k (by omega); have f0 := HT.out.fW k (by omega); rw [Nat.zero_add, ← hm] at r0; rw [Nat.zero_add, ← hm1] at r1; rw [Nat.zero_add, ← hm2] at r2; rw [Nat.zero_add, ← NY] at r3; rw [Nat.zero_add] at q0; have i0 : (4 : Int) * (k : Int) = (m : Int) := by omega
    have i1 : (m : Int) + 1 = (m1 : Int) := by omega
    have i2 : (m : Int) + 2 = (m2 : Int) := by omega
    have i3 : (m : Int) + 3 = (m3 : Int) := by omega
    have HX := jh (show swd b k = qM b (4 * k) * 16777216 + qM b (4 * k + 1) * 65536 + qM b (4 * k + 2) * 256 + qM b (4 * k + 3) from rfl); rw [← hm1, ← hm2, ← NY, ← hm] at HX; have y0 := Jv wO.out m; have y1 := Jv wO.out m1; have y2 := Jv wO.out m2; have y3 := Jv wO.out m3
    generalize qM b m = x0 at r0 HX y0
    generalize qM b m1 = x1 at r1 HX y1
    generalize qM b m2 = x2 at r2 HX y2
    generalize qM b m3 = x3 at r3 HX y3
    have N9 := HT; clear HT; have b0 : (m : Int) < 64 := by omega
    have b1 : (m1 : Int) < 64 := by omega
    have b2 : (m2 : Int) < 64 := by omega
    have b3 : (m3 : Int) < 64 := by omega
    have h16I : (k : Int) < 16 := by omega
    have N8 : (k : Int) < 64 := by omega
    have v0 := zj (n := m) (by omega); have v1 := zj (n := m1) (by omega); have v2 := zj (n := m2) (by omega); have v3 := zj (n := m3) (by omega); have u0 := ZQ (n := x0) (by omega); have u1 := ZQ (n := x1) (by omega); have u2 := ZQ (n := x2) (by omega); have u3 := ZQ (n := x3) (by omega); obtain ⟨X0, hX0⟩ := je (x0 * 16777216); obtain ⟨X1, hX1⟩ := je (x1 * 65536); obtain ⟨X2, hX2⟩ := je (x2 * 256); obtain ⟨Y1, hY1⟩ := je (X0 + X1); obtain ⟨Y2, hY2⟩ := je (Y1 + X2); obtain ⟨Y3, hY3⟩ := je (Y2 + x3); have c0 := XE x0 16777216 X0 (by omega) (by omega); have c1 := XE x1 65536 X1 (by omega) (by omega); have c2 := XE x2 256 X2 (by omega) (by omega); have o1 := kF (x := X0) (y := X1) (k := 24) (by omega) (by omega) (by omega) (by omega); have o2 := kF (x := Y1) (y := X2) (k := 16) (by omega) (by omega) (by omega) (by omega); have o3 := kF (x := Y2) (y := x3) (k := 8) (by omega) (by omega) (by omega) (by omega); rw [← hY1] at o1; rw [← hY2] at o2; rw [← hY3] at o3; have HX := jh (show Y3 = swd b k by rw [HX.out]; omega); have h16' := jh h16; clear hm hm1 hm2 NY h16 hlt hX0 hX1 hX2 hY1 hY2 hY3 y0 y1 y2 y3
    go_wp2
    refine js 31 (fun _ => none) (by kernel_rfl) (by kernel_rfl) (fun _ _ _ _ _ h => h) (fun F X8 hcl hbl => ?_); have r0 := fun X9 : Wd F => jm r0 (hbl X9.world X9.fact)
    have r1 := fun X9 : Wd F => jm r1 (hbl X9.world X9.fact)
    have r2 := fun X9 : Wd F => jm r2 (hbl X9.world X9.fact)
    have r3 := fun X9 : Wd F => jm r3 (hbl X9.world X9.fact)
    clear hcl hbl q0 f0; refine jN 31 0 _ _ (fun _ _ _ => rfl) (by decide) ?_; simp only [List.take_succ_cons, List.take_zero, List.drop_succ_cons, List.drop_zero, Nat.reduceAdd]
    repeat (go_big_quiet_step (fail))
    refine wpQuiet_nil ?_; refine jR ?_; intro bs w2 hb _ _; clear r0 r1 r2 r3; have HT2 := jh (N9.out.later hb); have q0 := HT2.out.sW k (by omega); have f0 := HT2.out.fW k (by omega); rw [Nat.zero_add] at q0; simp only [over]
    go_wp2_with fail
    go_roundw
    case rel => exact ⟨k + 1, by omega, by go_num, jh (HT2.out.set Y3 (by rw [if_pos h16'.out]; exact HX.out))⟩
    case measure => simp [intOf]; omega
   ·obtain ⟨m, hm⟩ := je (k - 15); obtain ⟨m1, hm1⟩ := je (k - 2); obtain ⟨m2, hm2⟩ := je (k - 16); obtain ⟨m3, NY⟩ := je (k - 7); have r0 := jF HT.out.sW (j := m) (by omega); have r1 := jF HT.out.sW (j := m1) (by omega); have i0 : (k : Int) - 15 = (m : Int) := by omega
    have i1 : (k : Int) - 2 = (m1 : Int) := by omega
    have i2 : (k : Int) - 16 = (m2 : Int) := by omega
    have i3 : (k : Int) - 7 = (m3 : Int) := by omega
    have HX := jh (show RH (jZ b k m) (jZ b k m1) (jZ b k m2) (jZ b k m3) = RH (jZ b k (k - 15)) (jZ b k (k - 2)) (jZ b k (k - 16)) (jZ b k (k - 7)) by rw [hm, hm1, hm2, NY]); have R2 := jh (fun (W : World) (h : fU w W s b w.heap.size k) => jF h.sW (j := m2) (by omega)); have R3 := jh (fun (W : World) (h : fU w W s b w.heap.size k) => jF h.sW (j := m3) (by omega)); have y0 := zF wO.out k m; have y1 := zF wO.out k m1; have y2 := zF wO.out k m2; have y3 := zF wO.out k m3
    generalize jZ b k m = x at r0 HX y0
    generalize jZ b k m1 = y at r1 HX y1
    generalize jZ b k m2 = p at R2 HX y2
    generalize jZ b k m3 = q at R3 HX y3
    have b0 : (m : Int) < 64 := by omega
    have b1 : (m1 : Int) < 64 := by omega
    have b2 : (m2 : Int) < 64 := by omega
    have b3 : (m3 : Int) < 64 := by omega
    have h16I : ¬ (k : Int) < 16 := by omega
    have N8 : (k : Int) < 64 := by omega
    have v0 := zj (n := m) (by omega); have v1 := zj (n := m1) (by omega); have v2 := zj (n := m2) (by omega); have v3 := zj (n := m3) (by omega); obtain ⟨g1, hg1⟩ : ∃ g, JN x [7, 18] = g := ⟨_, rfl⟩; obtain ⟨g2, hg2⟩ : ∃ g, JN y [17, 19] = g := ⟨_, rfl⟩; have lg1 : g1 < 2 ^ 32 := by rw [← hg1]; exact ZZ y0 (by decide)
    have lg2 : g2 < 2 ^ 32 := by rw [← hg2]; exact ZZ y1 (by decide)
    have CG1 := jh (fun (W : World) (a : Option Addr) (c : Nat) h => UM y0 (by decide) hg1 W (a := a) (c := c) h); have CG2 := jh (fun (W : World) (a : Option Addr) (c : Nat) h => UM y1 (by decide) hg2 W (a := a) (c := c) h); obtain ⟨x8, hx8⟩ := je (x / 8); obtain ⟨y8, hy8⟩ := je (y / 1024); have d1 : (x : Int) / 8 = (x8 : Int) := by omega
    have d2 : (y : Int) / 1024 = (y8 : Int) := by omega
    obtain ⟨s1, hs1⟩ := je ((p + q) % 4294967296); obtain ⟨t1, ht1⟩ := je (g1 ^^^ x8); obtain ⟨t2, ht2⟩ := je (g2 ^^^ y8); obtain ⟨s2, hs2⟩ := je ((s1 + t1) % 4294967296); obtain ⟨s3, hs3⟩ := je ((s2 + t2) % 4294967296)
    have HX := jh (show s3 = RH (jZ b k (k - 15)) (jZ b k (k - 2)) (jZ b k (k - 16)) (jZ b k (k - 7)) by
     rw [← HX.out]; unfold RH; rw [hg1, hg2, ← hx8, ← hy8, ← ht1, ← ht2]; omega)
    have o1 := JV s1 hs1; have o2 := ZD (by omega) (by omega) t1 ht1; have o3 := JV s2 hs2; have o4 := ZD (by omega) (by omega) t2 ht2; have o5 := JV s3 hs3; have h16' := jh h16; have N9 := HT; clear HT hm hm1 hm2 NY h16 hlt hs1 ht1 ht2 hs2 hs3 hx8 hy8 hg1 hg2 lg1 lg2 y0 y1 y2 y3
    go_wp2
    refine qF [(0, true), (1, true), (2, true), (3, true), (4, true), (5, true), (6, true), (7, true), (8, true), (9, true)] (fun w8 => w8.cell? ⟨w.heap.size + 1 + 1 + 1, m, none⟩ = some (.int .u32 x) ∧ w8.cell? ⟨w.heap.size + 1 + 1 + 1, m1, none⟩ = some (.int .u32 y)) (by kernel_rfl) (by kernel_rfl) (fun _ _ _ _ _ h => h) (⟨r0, r1⟩) (fun hHeld => ?_)
    iterate 10
     refine WP.tk rfl (k := ?_)
    refine WP.done ?_; clear hHeld
    go_wp2_with fail
    obtain ⟨w2, e2⟩ := je (wr.drew); have HT2 := jh (N9.out.later (show Below wr.heap.size wr w2 by rw [e2]; exact (Below.refl _ _).drew)); rw [← e2]; clear e2 N9 r0 r1; refine Zr 25 (fun j => j == 11 || j == 18) gapR gapT [.seg 11 [], .one [], .seg 1 [11], .seg 5 [], .one [], .seg 1 [18], .seg 5 []] (by kernel_rfl) (by kernel_rfl) gapR_is (fun _ _ _ _ _ h => h) (fun xs => ?_); unfold wpS; intro F X8 hcl hC; have r2 := fun X9 : Wd F => R2.out _ (HT2.out.later (hC _ X9.fact).1)
    have r3 := fun X9 : Wd F => R3.out _ (HT2.out.later (hC _ X9.fact).1)
    clear hC hcl; simp only [List.take_succ_cons, List.take_zero, List.drop_succ_cons, List.drop_zero, Nat.reduceAdd]
    repeat (go_big_quiet_step (fail))
    refine wpQuiet_nil ?_; clear r2 r3 X8; refine vM 77 rfl rfl rfl rfl (by go_simp) (fun w4 h4 hD => DF (w' := w4.alloc (.cells #[.int .i64 7, .int .i64 18] 3)) (v := .slice (some ⟨w4.heap.size, 0, none⟩) 2 2) (by go_simp) (ja) ⟨⟨some ⟨w4.heap.size, 0, none⟩, 2, 2, w4.heap.size, w4.heap.size + 1⟩, rfl, rfl, by simp, J6.made w4 [7, 18] (by decide) _ rfl _⟩) (by go_simp; rfl) ?_; unfold wpS; intro F X8 hcl hC; have U5 := jh hcl; have k1 := fun X9 : Wd F => (hC _ X9.fact).2 11 (by simp) (IW .i64 [7, 18]) rfl
    clear hC hcl; simp only [List.take_succ_cons, List.take_zero, List.drop_succ_cons, List.drop_zero, Nat.reduceAdd]
    go_big_quiet_step ((go_at_call 229; exact jq U5.out (CG1.out _ _ _ (k1 _))))
    refine wpQuiet_nil ?_; clear k1 U5 X8; unfold wpS; intro F X8 hcl hC; clear hC hcl; simp only [List.take_succ_cons, List.take_zero, List.drop_succ_cons, List.drop_zero, Nat.reduceAdd]
    repeat (go_big_quiet_step (fail))
    refine wpQuiet_nil ?_; clear X8; refine vM 84 rfl rfl rfl rfl (by go_simp) (fun w4 h4 hD => DF (w' := w4.alloc (.cells #[.int .i64 17, .int .i64 19] 3)) (v := .slice (some ⟨w4.heap.size, 0, none⟩) 2 2) (by go_simp) (ja) ⟨⟨some ⟨w4.heap.size, 0, none⟩, 2, 2, w4.heap.size, w4.heap.size + 1⟩, rfl, rfl, by simp, J6.made w4 [17, 19] (by decide) _ rfl _⟩) (by go_simp; rfl) ?_; unfold wpS; intro F X8 hcl hC; have U5 := jh hcl; have k1 := fun X9 : Wd F => (hC _ X9.fact).2 18 (by simp) (IW .i64 [17, 19]) rfl
    clear hC hcl; simp only [List.take_succ_cons, List.take_zero, List.drop_succ_cons, List.drop_zero, Nat.reduceAdd]
    go_big_quiet_step ((go_at_call 229; exact jq U5.out (CG2.out _ _ _ (k1 _))))
    refine wpQuiet_nil ?_; clear k1 U5 X8; unfold wpS; intro F X8 hcl hC; clear hC hcl; simp only [List.take_succ_cons, List.take_zero, List.drop_succ_cons, List.drop_zero, Nat.reduceAdd]
    repeat (go_big_quiet_step (fail))
    refine wpQuiet_nil ?_; clear X8; unfold wpS; intro w4 hb hall hap; clear hall hap; have HT3 := jh (HT2.out.later hb); clear hb HT2; have q0 := jF HT3.out.sW (j := k) (by omega); have f0 := HT3.out.fW k (by omega)
    go_wp2_with fail
    go_roundw
    case rel => exact ⟨k + 1, by omega, by go_num, jh (HT3.out.set s3 (by rw [if_neg h16'.out]; exact HX.out))⟩
    case measure => simp [intOf]; omega
  ·obtain rfl : k = 64 := by omega
   have N9 := HT; clear HT; have c0 : wr.cell? ⟨w.heap.size, 0, none⟩ = some (.int .u32 s.a) := jF N9.out.sS (j := 0) (by decide); have c1 : wr.cell? ⟨w.heap.size, 1, none⟩ = some (.int .u32 s.b) := jF N9.out.sS (j := 1) (by decide); have c2 : wr.cell? ⟨w.heap.size, 2, none⟩ = some (.int .u32 s.c) := jF N9.out.sS (j := 2) (by decide); have c3 : wr.cell? ⟨w.heap.size, 3, none⟩ = some (.int .u32 s.d) := jF N9.out.sS (j := 3) (by decide); have c4 : wr.cell? ⟨w.heap.size, 4, none⟩ = some (.int .u32 s.e) := jF N9.out.sS (j := 4) (by decide); have c5 : wr.cell? ⟨w.heap.size, 5, none⟩ = some (.int .u32 s.f) := jF N9.out.sS (j := 5) (by decide); have c6 : wr.cell? ⟨w.heap.size, 6, none⟩ = some (.int .u32 s.g) := jF N9.out.sS (j := 6) (by decide); have c7 : wr.cell? ⟨w.heap.size, 7, none⟩ = some (.int .u32 s.h) := jF N9.out.sS (j := 7) (by decide)
   go_wp2_with fail
   clear c0 c1 c2 c3 c4 c5 c6 c7; obtain ⟨NN, hNN⟩ := je (wr.heap.size); have HN := jh (dW N9.out 247); rw [← hNN] at HN; rw [← hNN]; obtain ⟨w1, e1⟩ := je (wr.alloc (.cells #[.int .u32 s.a, .int .u32 s.b, .int .u32 s.c, .int .u32 s.d, .int .u32 s.e, .int .u32 s.f, .int .u32 s.g, .int .u32 s.h] 247)); rw [← e1] at HN; rw [← e1]; clear e1 hNN N9; refine (oW w1).mono ?_; rintro _ w2 ⟨rfl, hb⟩; have HN := jh (HN.out.later hb); clear hb; obtain ⟨TK, hTK⟩ := je ((jp .u32 Qv).toArray); rw [← hTK]; have HI := jh pX; rw [← hTK] at HI; clear hTK
   go_wp2_with fail
   go_loopw [94] (fun i wr => ∃ k : Nat, k ≤ 64 ∧ i = .int .i64 k ∧ Hid (gU w wr s b w.heap.size NN (qM (QJ b s k).list))) (fun i _ => 64 - (intOf i).toNat)
   case atStart => exact ⟨0, Nat.zero_le _, rfl, HN⟩
   case round =>
    obtain ⟨k, hk, rfl, HT⟩ := hrel
    by_cases hlt : k < 64
    ·have N8 : (k : Int) < 64 := by omega
     have hix := HI.out k hlt; have L8 := jh hlt; have y0 := OU k; have y1 := zF wO.out 64 k; have N9 := HT; have hok := kH b HOk.out k; have HR := jh (show QJ b s (k + 1) = rnd (QJ b s k) (qM Qv k) (jZ b 64 k) from rfl); have RW := jh (fun (W : World) (h : gU w W s b w.heap.size NN (qM (QJ b s k).list)) => jF h.base.sW (j := k) hlt); obtain ⟨z, hz⟩ := je (QJ b s k); rw [← hz] at N9 hok HR RW; clear hz HT
     generalize qM Qv k = kk at hix HR y0
     generalize jZ b 64 k = wk at RW HR y1
     obtain ⟨za, zb, zc, zd, ze, zf, zg, zh⟩ := z; have RN := jh (fun (W : World) (h : gU w W s b w.heap.size NN (qM (S8.list ⟨za, zb, zc, zd, ze, zf, zg, zh⟩))) => nZ h); obtain ⟨l0, l1, l2, l3, l4, l5, l6, l7⟩ := hok; simp only at l0 l1 l2 l3 l4 l5 l6 l7; clear hlt
     go_wp2_with fail
     obtain ⟨c0, c1, c2, c3, c4, c5, c6, c7⟩ := RN.out _ N9.out; refine qF [(0, true), (1, true), (2, true), (3, true), (4, true), (5, true), (6, true), (7, true), (8, true), (9, true), (10, true), (11, true), (12, true), (13, true), (14, true), (15, true), (16, true), (17, true), (18, true), (19, true), (20, true), (21, true), (22, true), (23, true)] (fun w8 => w8.cell? ⟨NN, 0, none⟩ = some (.int .u32 za) ∧ w8.cell? ⟨NN, 1, none⟩ = some (.int .u32 zb) ∧ w8.cell? ⟨NN, 2, none⟩ = some (.int .u32 zc) ∧ w8.cell? ⟨NN, 3, none⟩ = some (.int .u32 zd) ∧ w8.cell? ⟨NN, 4, none⟩ = some (.int .u32 ze) ∧ w8.cell? ⟨NN, 5, none⟩ = some (.int .u32 zf) ∧ w8.cell? ⟨NN, 6, none⟩ = some (.int .u32 zg) ∧ w8.cell? ⟨NN, 7, none⟩ = some (.int .u32 zh)) (by kernel_rfl) (by kernel_rfl) (fun _ _ _ _ _ h => h) (⟨c0, c1, c2, c3, c4, c5, c6, c7⟩) (fun hHeld => ?_)
     iterate 24
      refine WP.tk rfl (k := ?_)
     refine WP.done ?_; clear hHeld c0 c1 c2 c3 c4 c5 c6 c7; obtain ⟨g1, hg1⟩ : ∃ g, JN ze [6, 11, 25] = g := ⟨_, rfl⟩; obtain ⟨g2, hg2⟩ : ∃ g, JN za [2, 13, 22] = g := ⟨_, rfl⟩; have lg1 : g1 < 2 ^ 32 := by rw [← hg1]; exact ZZ l4 (by decide)
     have lg2 : g2 < 2 ^ 32 := by rw [← hg2]; exact ZZ l0 (by decide)
     have CG1 := jh (fun (W : World) (a : Option Addr) (c : Nat) h => UM l4 (by decide) hg1 W (a := a) (c := c) h); have CG2 := jh (fun (W : World) (a : Option Addr) (c : Nat) h => UM l0 (by decide) hg2 W (a := a) (c := c) h); obtain ⟨x1, hx1⟩ := je (zf ^^^ zg); have n1 : x1 < 2 ^ 32 := by rw [hx1]; exact Nat.xor_lt_two_pow l5 l6
     obtain ⟨x2, hx2⟩ := je (ze &&& x1); have n2 : x2 < 2 ^ 32 := by rw [hx2]; exact Nat.and_lt_two_pow _ n1
     obtain ⟨x3, hx3⟩ := je (zg ^^^ x2); have n3 : x3 < 2 ^ 32 := by rw [hx3]; exact Nat.xor_lt_two_pow l6 n2
     obtain ⟨a1, ha1⟩ := je ((zh + g1) % 4294967296); obtain ⟨a2, ha2⟩ := je ((a1 + x3) % 4294967296); obtain ⟨a3, lV⟩ := je ((a2 + kk) % 4294967296); obtain ⟨a4, ha4⟩ := je ((a3 + wk) % 4294967296); obtain ⟨b1, hb1⟩ := je ((a4 + g2) % 4294967296); obtain ⟨p1, hp1⟩ := je (za &&& zb); obtain ⟨p2, hp2⟩ := je (za &&& zc); obtain ⟨p3, hp3⟩ := je (p1 ^^^ p2); obtain ⟨p4, LY⟩ := je (zb &&& zc); obtain ⟨p5, hp5⟩ := je (p3 ^^^ p4); have n4 : p1 < 2 ^ 32 := by rw [hp1]; exact Nat.and_lt_two_pow _ l1
     have n5 : p2 < 2 ^ 32 := by rw [hp2]; exact Nat.and_lt_two_pow _ l2
     have n6 : p3 < 2 ^ 32 := by rw [hp3]; exact Nat.xor_lt_two_pow n4 n5
     have n7 : p4 < 2 ^ 32 := by rw [LY]; exact Nat.and_lt_two_pow _ l2
     obtain ⟨b2, hb2⟩ := je ((b1 + p5) % 4294967296); obtain ⟨b3, hb3⟩ := je ((zd + a4) % 4294967296); have o1 := JV a1 ha1; have o2 := JV a2 ha2; have o3 := JV a3 lV; have o4 := JV a4 ha4; have o5 := JV b1 hb1; have o6 := JV b2 hb2; have o7 := JV b3 hb3; have o8 := ZD l5 l6 x1 hx1; have o9 := XN l4 n1 x2 hx2; have o10 := ZD l6 n2 x3 hx3; have o11 := XN l0 l1 p1 hp1; have o12 := XN l0 l2 p2 hp2; have o13 := ZD n4 n5 p3 hp3; have o14 := XN l1 l2 p4 LY; have o15 := ZD n6 n7 p5 hp5
     have HR := jh (show QJ b s (k + 1) = ⟨b2, za, zb, zc, b3, ze, zf, zg⟩ by
      rw [HR.out]; unfold rnd shaT; simp only [hg1, hg2, ← hx1, ← hx2, ← hx3, ← hp1, ← hp2, ← hp3, ← LY, ← hp5]
      congr 1 <;> omega)
     clear hx1 hx2 hx3 ha1 ha2 lV ha4 hb1 hb2 hb3 hp1 hp2 hp3 LY hp5 n1 n2 n3 n4 n5 n6 n7 l0 l1 l2 l3 l4 l5 l6 l7 lg1 lg2 hg1 hg2 y0 y1
     go_wp2_with fail
     obtain ⟨w3, e3⟩ := je (wr.drew); have HT2 := jh (N9.out.later (show Below wr.heap.size wr w3 by rw [e3]; exact (Below.refl _ _).drew)); rw [← e3]; clear e3 N9; refine Zr 19 (fun j => j == 2) sumR sumT [.seg 2 [], .one [], .seg 1 [2], .seg 15 []] (by kernel_rfl) (by kernel_rfl) sumR_is (fun _ _ _ _ _ h => h) (fun xs => ?_); unfold wpS; intro F X8 hcl hC; clear hC hcl; simp only [List.take_succ_cons, List.take_zero, List.drop_succ_cons, List.drop_zero, Nat.reduceAdd]
     repeat (go_big_quiet_step (fail))
     refine wpQuiet_nil ?_; clear X8; refine vM 116 rfl rfl rfl rfl (by go_simp) (fun w4 h4 hD => DF (w' := w4.alloc (.cells #[.int .i64 6, .int .i64 11, .int .i64 25] 3)) (v := .slice (some ⟨w4.heap.size, 0, none⟩) 3 3) (by go_simp) (ja) ⟨⟨some ⟨w4.heap.size, 0, none⟩, 3, 3, w4.heap.size, w4.heap.size + 1⟩, rfl, rfl, by simp, J6.made w4 [6, 11, 25] (by decide) _ rfl _⟩) (by go_simp; rfl) ?_; unfold wpS; intro F X8 hcl hC; have U5 := jh hcl; have k1 := fun X9 : Wd F => (hC _ X9.fact).2 2 (by simp) (IW .i64 [6, 11, 25]) rfl
     clear hC hcl; simp only [List.take_succ_cons, List.take_zero, List.drop_succ_cons, List.drop_zero, Nat.reduceAdd]
     go_big_quiet_step ((go_at_call 229; exact jq U5.out (CG1.out _ _ _ (k1 _))))
     refine wpQuiet_nil ?_; clear k1 U5 X8; unfold wpS; intro F X8 hcl hC; have r2 := fun X9 : Wd F => RW.out _ (HT2.out.later (hC _ X9.fact).1)
     clear hC hcl; simp only [List.take_succ_cons, List.take_zero, List.drop_succ_cons, List.drop_zero, Nat.reduceAdd]
     repeat (go_big_quiet_step (fail))
     refine wpQuiet_nil ?_; clear X8 r2; unfold wpS; intro w4 hb hall hap; clear hall hap; have HT3 := jh (HT2.out.later hb); clear hb HT2
     go_wp2_with fail
     have HT4 := jh (HT3.out.later ((Below.refl w4.heap.size w4).alloc (Nat.le_refl _) (.cells #[.int .i64 2, .int .i64 13, .int .i64 22] 3))); refine (CG2.out _ _ _ (J6.made w4 [2, 13, 22] (by decide) _ rfl _)).mono ?_; rintro _ w5 ⟨rfl, hb⟩; have HT5 := jh (HT4.out.later hb); clear hb HT3 HT4; obtain ⟨c0, c1, c2, c3, c4, c5, c6, c7⟩ := RN.out _ HT5.out; have f0 := HT5.out.fN 0 (by decide); have f1 := HT5.out.fN 1 (by decide); have f2 := HT5.out.fN 2 (by decide); have f3 := HT5.out.fN 3 (by decide); have f4 := HT5.out.fN 4 (by decide); have f5 := HT5.out.fN 5 (by decide); have f6 := HT5.out.fN 6 (by decide); have f7 := HT5.out.fN 7 (by decide)
     go_wp2_with fail
     go_roundw
     case rel => exact ⟨k + 1, by have := L8.out; omega, by go_num, jh (HT5.out.set8 _ _ _ _ _ _ _ _ _ (by rw [HR.out]; rfl))⟩
     case measure => simp [intOf]; omega
    ·obtain rfl : k = 64 := by omega
     have N9 := HT; clear HT; have hok := kH b HOk.out 64; have HF := jh (show QL s b = (QJ b s 64).plus s from rfl); obtain ⟨z, hz⟩ := je (QJ b s 64); rw [← hz] at N9 hok HF; clear hz
     go_wp2_with fail
     go_loopw [161] (fun i wr => ∃ k : Nat, k ≤ 8 ∧ i = .int .i64 k ∧ Hid (gU w wr s b w.heap.size NN (Zx z s k))) (fun i _ => 8 - (intOf i).toNat)
     case atStart => exact ⟨0, Nat.zero_le _, rfl, jh (by rw [WH]; exact N9.out)⟩
     case round =>
      obtain ⟨k, hk, rfl, HT⟩ := hrel
      by_cases hlt : k < 8
      ·have N8 : (k : Int) < 8 := by omega
       have L8 := jh hlt; have kC := HT; have r0 := jF HT.out.nn hlt; rw [XH] at r0; have r1 := jF HT.out.base.sS hlt; have EJ := jh (YH z s k)
       generalize qM z.list k = x at r0 EJ
       generalize qM s.list k = y at r1 EJ
       obtain ⟨t, ht⟩ := je ((x + y) % 4294967296); have o1 := JV t ht; rw [← ht] at EJ; clear ht HT hlt
       go_wp2_with fail
       refine js 8 (fun _ => none) (by kernel_rfl) (by kernel_rfl) (fun _ _ _ _ _ h => h) (fun F X8 hcl hbl => ?_); have r0 := fun X9 : Wd F => jm r0 (hbl X9.world X9.fact)
       have r1 := fun X9 : Wd F => jm r1 (hbl X9.world X9.fact)
       clear hcl hbl; refine jN 8 0 _ _ (fun _ _ _ => rfl) (by decide) ?_; simp only [List.take_succ_cons, List.take_zero, List.drop_succ_cons, List.drop_zero, Nat.reduceAdd]
       repeat (go_big_quiet_step (fail))
       refine wpQuiet_nil ?_; refine jR ?_; intro bs w2 hb _ _; clear r0 r1; have HT2 := jh (kC.out.later hb); have q0 := jF HT2.out.nn L8.out; have f0 := HT2.out.fN k L8.out; simp only [over]
       go_wp2_with fail
       go_roundw
       case rel => exact ⟨k + 1, by have := L8.out; omega, by go_num, jh (HT2.out.set k t _ EJ.out)⟩
       case measure => simp [intOf]; have := L8.out; omega
      ·obtain rfl : k = 8 := by omega
       have kC := HT; clear HT; have hnn := kC.out.nn.congr (GL z s); rw [← HF.out] at hnn; obtain ⟨u, hu⟩ := je (QL s b); rw [← hu] at hnn; obtain ⟨ua, ub, uc, ud, ue, uf, ug, uh⟩ := u; have HU := jh hu; clear hu; obtain ⟨c0, c1, c2, c3, c4, c5, c6, c7⟩ := zv hnn; have q0 := jF kC.out.base.sR (j := 0) (by decide); have q1 := jF kC.out.base.sR (j := 1) (by decide); have q2 := jF kC.out.base.sR (j := 2) (by decide); have q3 := jF kC.out.base.sR (j := 3) (by decide); have q4 := jF kC.out.base.sR (j := 4) (by decide); have q5 := jF kC.out.base.sR (j := 5) (by decide); have q6 := jF kC.out.base.sR (j := 6) (by decide); have q7 := jF kC.out.base.sR (j := 7) (by decide); have f0 := kC.out.base.fR 0 (by decide); have f1 := kC.out.base.fR 1 (by decide); have f2 := kC.out.base.fR 2 (by decide); have f3 := kC.out.base.fR 3 (by decide); have f4 := kC.out.base.fR 4 (by decide); have f5 := kC.out.base.fR 5 (by decide); have f6 := kC.out.base.fR 6 (by decide); have f7 := kC.out.base.fR 7 (by decide); clear hnn
       go_wp2_with fail
       have B9 := zZ (B := w.heap.size + 1 + 1) kC.out.base.below (by omega) (.int .u32 ua) (.int .u32 ub) (.int .u32 uc) (.int .u32 ud) (.int .u32 ue) (.int .u32 uf) (.int .u32 ug) (.int .u32 uh); obtain ⟨g0, g1, g2, g3, g4, g5, g6, g7⟩ := zv (kC.out.base.sR.set8 ua ub uc ud ue uf ug uh); rw [← HU.out]; refine bodyPost_ret (v := .agg #[.int .u32 ua, .int .u32 ub, .int .u32 uc, .int .u32 ud, .int .u32 ue, .int .u32 uf, .int .u32 ug, .int .u32 uh]) ?_ rfl ⟨rfl, B9⟩
       simp [results, Tryz.results218, go_sem, g0, g1, g2, g3, g4, g5, g6, g7]
def Zm (st : S8) (R : List Nat) (n : Nat) : List Value := .int .i64 1 :: .int .u32 st.a :: .int .u32 st.b :: .int .u32 st.c :: .int .u32 st.d :: .int .u32 st.e :: .int .u32 st.f :: .int .u32 st.g :: .int .u32 st.h :: (jp .u8 R ++ [.int .u64 n])
theorem JY (st : S8) (R : List Nat) (n : Nat) : (Zm st R n).length = R.length + 10 := by unfold Zm; simp [jt]
def Y4 (w : World) (S : Nat) (st : S8) (R : List Nat) (n : Nat) : Prop := R.length = 64 ∧ w.heap[S]? = some (.cells (Zm st R n).toArray 251 (0, 0))
theorem Y4.cell {w : World} {S : Nat} {st : S8} {R : List Nat} {n : Nat} (h : Y4 w S st R n) (j : Nat) : w.cell? ⟨S, j, none⟩ = (Zm st R n)[j]? := by
 rw [cell_of_row w S j _ _ _ h.2]
 simp
theorem Y4.made {w : World} {S : Nat} {st : S8} {R : List Nat} {n : Nat} (h : Y4 w S st R n) : w.cell? ⟨S, 0, none⟩ = some (.int .i64 1) := by rw [h.cell]; rfl
theorem Y4.now8 {w : World} {S : Nat} {st : S8} {R : List Nat} {n : Nat} (h : Y4 w S st R n) :
  w.cell? ⟨S, 1, none⟩ = some (.int .u32 st.a) ∧ w.cell? ⟨S, 2, none⟩ = some (.int .u32 st.b) ∧ w.cell? ⟨S, 3, none⟩ = some (.int .u32 st.c) ∧ w.cell? ⟨S, 4, none⟩ = some (.int .u32 st.d) ∧
  w.cell? ⟨S, 5, none⟩ = some (.int .u32 st.e) ∧ w.cell? ⟨S, 6, none⟩ = some (.int .u32 st.f) ∧ w.cell? ⟨S, 7, none⟩ = some (.int .u32 st.g) ∧ w.cell? ⟨S, 8, none⟩ = some (.int .u32 st.h) := by
 refine ⟨?_, ?_, ?_, ?_, ?_, ?_, ?_, ?_⟩ <;> (rw [h.cell]; rfl)
theorem Y4.rest {w : World} {S : Nat} {st : S8} {R : List Nat} {n : Nat} (h : Y4 w S st R n) (j : Nat) (hj : j < 64) : w.cell? ⟨S, 9 + j, none⟩ = some (.int .u8 (qM R j)) := by
 rw [h.cell, show 9 + j = j + 1 + 1 + 1 + 1 + 1 + 1 + 1 + 1 + 1 by omega]; unfold Zm; simp only [List.getElem?_cons_succ]; rw [List.getElem?_append_left (by rw [jt, h.1]; exact hj), qv, QD (by rw [h.1]; exact hj)]
 rfl
theorem Y4.many {w : World} {S : Nat} {st : S8} {R : List Nat} {n : Nat} (h : Y4 w S st R n) : w.cell? ⟨S, 73, none⟩ = some (.int .u64 n) := by
 rw [h.cell]; unfold Zm; simp only [List.getElem?_cons_succ]; rw [List.getElem?_append_right (by rw [jt, h.1]; decide), jt, h.1]
 rfl
theorem Y4.free {w : World} {S : Nat} {st : S8} {R : List Nat} {n : Nat} (h : Y4 w S st R n) (j : Nat) : w.frozen? ⟨S, j, none⟩ = false := frozen_of_row w S j _ _ h.2
theorem Y4.lt {w : World} {S : Nat} {st : S8} {R : List Nat} {n : Nat} (h : Y4 w S st R n) : S < w.heap.size := (Array.getElem?_eq_some_iff.1 h.2).1
theorem Y4.range {w : World} {S : Nat} {st : S8} {R : List Nat} {n : Nat} (h : Y4 w S st R n) : w.rangeAt S 9 (jp .u8 R) := fun j v hj => by
 rw [qv] at hj; obtain ⟨x, hx, rfl⟩ := Option.map_eq_some_iff.1 hj; have hl : j < 64 := by have := (List.getElem?_eq_some_iff.1 hx).1; have := h.1; omega
 rw [h.rest j hl, ← Option.some.inj ((QD (by rw [h.1]; exact hl)).symm.trans hx)]
theorem Y4.block {w w' : World} {S : Nat} {st : S8} {R : List Nat} {n : Nat} (h : Y4 w S st R n) (hb : w'.heap[S]? = w.heap[S]?) : Y4 w' S st R n := ⟨h.1, hb.trans h.2⟩
theorem Y4.later {w w' : World} {S : Nat} {st : S8} {R : List Nat} {n : Nat} (h : Y4 w S st R n) (hb : Below w.heap.size w w') : Y4 w' S st R n := h.block (hb.block S h.lt)
theorem Y4.setMany {w : World} {S : Nat} {st : S8} {R : List Nat} {n : Nat} (h : Y4 w S st R n) (m : Nat) : Y4 (w.setCell ⟨S, 73, none⟩ (.int .u64 m)) S st R m := by
 refine ⟨h.1, ?_⟩; rw [heap_setCell_same w S 73 _ _ _ h.2]
 congr 2
 have h9 := h.1; unfold Zm
 simp [jt, h9]
theorem Y4.setNow {w : World} {S : Nat} {st : S8} {R : List Nat} {n : Nat} (h : Y4 w S st R n) (a b c d e f g i : Nat) :
  Y4 ((((((((w.setCell ⟨S, 1, none⟩ (.int .u32 a)).setCell ⟨S, 2, none⟩ (.int .u32 b)).setCell ⟨S, 3, none⟩ (.int .u32 c)).setCell ⟨S, 4, none⟩ (.int .u32 d)).setCell ⟨S, 5, none⟩ (.int .u32 e)).setCell ⟨S, 6, none⟩ (.int .u32 f)).setCell ⟨S, 7, none⟩ (.int .u32 g)).setCell ⟨S, 8, none⟩ (.int .u32 i)) S ⟨a, b, c, d, e, f, g, i⟩ R n := by
 refine ⟨h.1, ?_⟩; have k1 := heap_setCell_same w S 1 _ _ (.int .u32 a) h.2; have k2 := heap_setCell_same _ S 2 _ _ (.int .u32 b) k1; have k3 := heap_setCell_same _ S 3 _ _ (.int .u32 c) k2; have k4 := heap_setCell_same _ S 4 _ _ (.int .u32 d) k3; have k5 := heap_setCell_same _ S 5 _ _ (.int .u32 e) k4; have k6 := heap_setCell_same _ S 6 _ _ (.int .u32 f) k5; have k7 := heap_setCell_same _ S 7 _ _ (.int .u32 g) k6; have k8 := heap_setCell_same _ S 8 _ _ (.int .u32 i) k7; refine k8.trans ?_; unfold Zm
 simp
theorem Y4.copy {w : World} {S : Nat} {st : S8} {R : List Nat} {n : Nat} (h : Y4 w S st R n) (p : Nat) (c : List Nat) (hp : p + c.length ≤ 64) :
  Y4 (w.setRow S ((Zm st R n).toArray.toList.take (9 + p) ++ (jp .u8 c ++ (Zm st R n).toArray.toList.drop (9 + p + (jp .u8 c).length))).toArray) S st (splice R p c) n := by
 have h9 := h.1; refine ⟨by rw [length_splice _ _ _ (by omega)]; exact h9, ?_⟩; rw [setRow_heap w S _ _ _ _ h.2]
 congr 2
 unfold splice Zm; rw [show 9 + p = p + 1 + 1 + 1 + 1 + 1 + 1 + 1 + 1 + 1 by omega, jt, show p + 1 + 1 + 1 + 1 + 1 + 1 + 1 + 1 + 1 + c.length = p + c.length + 1 + 1 + 1 + 1 + 1 + 1 + 1 + 1 + 1 by omega]; simp only [List.take_succ_cons, List.drop_succ_cons, List.cons_append]; rw [List.take_append_of_le_length (by rw [jt]; omega), List.drop_append_of_le_length (by rw [jt]; omega)]
 simp [jp, List.map_take, List.map_drop]
def J8 (w : World) (S : Nat) (l : List Nat) : Prop := ∃ R, Y4 w S (OH l (l.length / 64)) R l.length ∧ jM R ∧ R.take (l.length % 64) = l.drop (64 * (l.length / 64))
theorem J8.block {w w' : World} {S : Nat} {l : List Nat} (h : J8 w S l) (hb : w'.heap[S]? = w.heap[S]?) : J8 w' S l := by
 obtain ⟨R, h1, h2⟩ := h; exact ⟨R, h1.block hb, h2⟩
theorem J8.lt {w : World} {S : Nat} {l : List Nat} (h : J8 w S l) : S < w.heap.size := by
 obtain ⟨R, h1, h2⟩ := h; exact h1.lt
theorem J8.later {w w' : World} {S : Nat} {l : List Nat} (h : J8 w S l) (hb : Below w.heap.size w w') : J8 w' S l := h.block (hb.block S h.lt)
theorem XF {l R c : List Nat} (hR : R.length = 64) (h : R.take (l.length % 64) = l.drop (64 * (l.length / 64))) :
  (splice R (l.length % 64) c).take (l.length % 64 + c.length) = (l ++ c).drop (64 * (l.length / 64)) := by
 have h8 : (R.take (l.length % 64)).length = l.length % 64 := by rw [List.length_take, hR]; omega
 unfold splice; rw [h, List.drop_append_of_le_length (by omega), ← List.append_assoc]; rw [List.take_append_of_le_length (by rw [← h, List.length_append, h8]; omega)]; rw [List.take_of_length_le (by rw [← h, List.length_append, h8]; omega)]
theorem Qu {R c : List Nat} {p : Nat} (hR : jM R) (hc : jM c) : jM (splice R p c) := by
 intro x hx; unfold splice at hx
 rcases List.mem_append.1 hx with h | h
 ·exact hR x (List.take_subset _ _ h)
 ·rcases List.mem_append.1 h with h | h
  ·exact hc x h
  ·exact hR x (List.drop_subset _ _ h)
theorem J8.part {w : World} {S : Nat} {l c R : List Nat} (h1 : Y4 w S (OH l (l.length / 64)) (splice R (l.length % 64) c) (l.length + c.length)) (hR : R.length = 64) (hb : jM R) (hc : jM c)
  (h : R.take (l.length % 64) = l.drop (64 * (l.length / 64))) (hlt : l.length % 64 + c.length < 64) : J8 w S (l ++ c) := by
 have e1 : (l ++ c).length / 64 = l.length / 64 := by rw [List.length_append]; omega
 have e2 : (l ++ c).length % 64 = l.length % 64 + c.length := by rw [List.length_append]; omega
 refine ⟨splice R (l.length % 64) c, ?_, Qu hb hc, ?_⟩
 ·rw [e1, List.length_append, ZE l c _ (by omega)]; exact h1
 ·rw [e1, e2]; exact XF hR h
theorem J8.full {w : World} {S : Nat} {l c R : List Nat} (h1 : Y4 w S (QL (OH l (l.length / 64)) (splice R (l.length % 64) c)) (splice R (l.length % 64) c) (l.length + c.length)) (hR : R.length = 64) (hb : jM R) (hc : jM c)
  (h : R.take (l.length % 64) = l.drop (64 * (l.length / 64))) (he : l.length % 64 + c.length = 64) : J8 w S (l ++ c) := by
 have e1 : (l ++ c).length / 64 = l.length / 64 + 1 := by rw [List.length_append]; omega
 have e2 : (l ++ c).length % 64 = 0 := by rw [List.length_append]; omega
 have e3 := XF hR h (c := c); rw [he, List.take_of_length_le (by rw [length_splice _ _ _ (by omega)]; omega)] at e3; refine ⟨splice R (l.length % 64) c, ?_, Qu hb hc, ?_⟩
 ·rw [e1, List.length_append, OH, ZE l c _ (by omega), ← e3, List.take_of_length_le (by rw [length_splice _ _ _ (by omega)]; omega)]; exact h1
 ·rw [e1, e2, List.take_zero, List.drop_eq_nil_of_le (by rw [List.length_append]; omega)]
theorem u32_or {x y z : Nat} (hx : x < 4294967296) (hy : y < 4294967296) (h : (x ||| y) = z) : bits BinOp.or IntKind.u32 (x : Int) (y : Int) = (z : Int) := by rw [u32_or_nat x y hx hy, h]
theorem RRot_any {x k : Nat} (hx : x < 2 ^ 32) (h1 : 1 ≤ k) (h2 : k ≤ 31) (n : Int) (hn : n = (k : Int)) (w : World) :
  Calls Tryz.prog 220 #[.int .u32 x, .int .u64 n] w fun e w' => e = .returned (.int .u32 (Je x k)) ∧ w = w' := by
 subst hn; obtain ⟨m, hm⟩ := je (32 - k); have hI : (32 : Int) - (k : Int) = (m : Int) := by omega
 have o := u32_or (x := x / 2 ^ k) (y := x * 2 ^ m % 2 ^ 32) (Nat.lt_of_le_of_lt (Nat.div_le_self _ _) hx) (Nat.mod_lt _ (by decide)) (z := Je x k) (by rw [hm]; exact round_eq hx (by omega)); have E5 := jh o; clear hm o
 go_enter Tryz.func220, Tryz.ntmps220
 go_wp2
 go_ret
 exact ⟨by have h := E5.out; simp only [Int.natCast_emod, Int.natCast_mul, Int.natCast_pow, Int.natCast_ediv] at h; exact congrArg (fun n : Int => Ending.returned (.int .u32 n)) h, rfl⟩
theorem pU (w : World) : Calls Tryz.prog 189 #[] w fun e w' => ∃ g, e = .returned (.slice (some ⟨g, 0, none⟩) 64 64) ∧ J6 .u32 w' (.slice (some ⟨g, 0, none⟩) 64 64) Qv ∧ w.heap.size ≤ g ∧ Below w.heap.size w w' := by
 go_enter Tryz.func189, Tryz.ntmps189
 go_wp2_with fail
 refine bodyPost_ret (v := .slice (some ⟨w.heap.size, 0, none⟩) 64 64) ?_ rfl ⟨w.heap.size, rfl, J6.made w Qv (by decide) _ rfl _, Nat.le_refl _, ja⟩
 simp [results, Tryz.results189, go_sem]
structure yR (w wr : World) (s : S8) (b : List Nat) (SS : Nat) (i : Nat) : Prop where
 sS : O9 .u32 wr SS 0 8 (qM s.list)
 sR : O9 .u32 wr (SS + 1) 0 8 (fun _ => 0)
 fR : Y0 wr (SS + 1) 8
 sW : O9 .u32 wr (SS + 1 + 1) 0 64 (jZ b i)
 fW : Y0 wr (SS + 1 + 1) 64
 below : Below w.heap.size w wr
 at9 : SS = w.heap.size
 lt : SS + 1 + 1 < wr.heap.size
theorem yR.later {w wr w' : World} {s : S8} {b : List Nat} {SS i : Nat} (h : yR w wr s b SS i) (hb : Below wr.heap.size wr w') : yR w w' s b SS i :=
 ⟨h.sS.later hb, h.sR.later hb, h.fR.later hb (by have := h.lt; omega), h.sW.later hb, h.fW.later hb h.lt, jk h.below hb, h.at9, Nat.lt_of_lt_of_le h.lt hb.size⟩
theorem yR.set {w wr : World} {s : S8} {b : List Nat} {SS i : Nat} (h : yR w wr s b SS i) (x : Nat) (hx : x = (if i < 16 then swd b i else RH (jZ b i (i - 15)) (jZ b i (i - 2)) (jZ b i (i - 16)) (jZ b i (i - 7)))) :
  yR w (wr.setCell ⟨SS + 1 + 1, i, none⟩ (.int .u32 x)) s b SS (i + 1) := by
 refine ⟨h.sS.other _ _ (by omega), h.sR.other _ _ (by omega), h.fR.set _ _, ?_, h.fW.set _ _, h.below.setCell (by have := h.at9; show w.heap.size ≤ SS + 1 + 1; omega) _, h.at9, by simpa using h.lt⟩; refine (h.sW.set i x).congr fun j _ => ?_
 show _ = (if j = i then _ else _)
 rw [← hx]
theorem yR.slice {w wr : World} {s : S8} {b : List Nat} {SS i : Nat} (h : yR w wr s b SS i) {g o : Nat} {v : Value} (hc : w.cell? ⟨g, o, none⟩ = some v) : wr.cell? ⟨g, o, none⟩ = some v := jm hc h.below
theorem UX (w : World) (s : S8) (b : List Nat) (t1 t2 t3 : TypeId) (Z : Array Value) (hZ : Z = Array.replicate 64 (.int .u32 0)) :
  yR w (((w.alloc (.cells #[.int .u32 s.a, .int .u32 s.b, .int .u32 s.c, .int .u32 s.d, .int .u32 s.e, .int .u32 s.f, .int .u32 s.g, .int .u32 s.h] t1)).alloc (.cells #[.int .u32 0, .int .u32 0, .int .u32 0, .int .u32 0, .int .u32 0, .int .u32 0, .int .u32 0, .int .u32 0] t2)).alloc (.cells Z t3)) s b w.heap.size 0 := by
 have h1 := O9.new (k := .u32) w s.list #[.int .u32 s.a, .int .u32 s.b, .int .u32 s.c, .int .u32 s.d, .int .u32 s.e, .int .u32 s.f, .int .u32 s.g, .int .u32 s.h] rfl t1 _ rfl; obtain ⟨w1, e1⟩ := je (w.alloc (.cells #[.int .u32 s.a, .int .u32 s.b, .int .u32 s.c, .int .u32 s.d, .int .u32 s.e, .int .u32 s.f, .int .u32 s.g, .int .u32 s.h] t1)); have n1 : w1.heap.size = w.heap.size + 1 := by rw [e1]; simp
 have b1 := jc e1; rw [← e1] at h1 ⊢; clear e1; have h3 := O9.zero (k := .u32) w1 8 #[.int .u32 0, .int .u32 0, .int .u32 0, .int .u32 0, .int .u32 0, .int .u32 0, .int .u32 0, .int .u32 0] rfl t2 _ rfl; have f3 := Y0.new w1 #[.int .u32 0, .int .u32 0, .int .u32 0, .int .u32 0, .int .u32 0, .int .u32 0, .int .u32 0, .int .u32 0] t2 8; obtain ⟨w3, e3⟩ := je (w1.alloc (.cells #[.int .u32 0, .int .u32 0, .int .u32 0, .int .u32 0, .int .u32 0, .int .u32 0, .int .u32 0, .int .u32 0] t2)); have n3 : w3.heap.size = w1.heap.size + 1 := by rw [e3]; simp
 have b3 := jc e3; rw [← e3] at h3 f3 ⊢; clear e3; have h4 := O9.zero (k := .u32) w3 64 Z hZ t3 _ rfl; have f4 := Y0.new w3 Z t3 64; obtain ⟨w4, e4⟩ := je (w3.alloc (.cells Z t3)); have n4 : w4.heap.size = w3.heap.size + 1 := by rw [e4]; simp
 have b4 := jc e4; rw [← e4] at h4 f4 ⊢; clear e4; rw [n1] at n3 h3 f3; rw [n3] at n4 h4 f4; exact ⟨(h1.later b3).later b4, h3.later b4, f3.later b4 (by omega), h4, f4, jk (jk b1 b3) b4, rfl, by omega⟩
structure VY (w wr : World) (s : S8) (b : List Nat) (SS NN : Nat) (A : Nat → Nat) : Prop where
 base : yR w wr s b SS 64
 nn : O9 .u32 wr NN 0 8 A
 fN : Y0 wr NN 8
 gt : SS + 1 + 1 < NN
 lt : NN < wr.heap.size
theorem VY.later {w wr w' : World} {s : S8} {b : List Nat} {SS NN : Nat} {A : Nat → Nat} (h : VY w wr s b SS NN A) (hb : Below wr.heap.size wr w') : VY w w' s b SS NN A :=
 ⟨h.base.later hb, h.nn.later hb, h.fN.later hb h.lt, h.gt, Nat.lt_of_lt_of_le h.lt hb.size⟩
theorem yR.other {w wr : World} {s : S8} {b : List Nat} {SS i NN : Nat} (h : yR w wr s b SS i) (hg : SS + 1 + 1 < NN) (c : Nat) (v : Value) : yR w (wr.setCell ⟨NN, c, none⟩ v) s b SS i :=
 ⟨h.sS.other _ _ (by omega), h.sR.other _ _ (by omega), h.fR.set _ _, h.sW.other _ _ (by omega), h.fW.set _ _, h.below.setCell (by have := h.at9; show w.heap.size ≤ NN; omega) _, h.at9, by simpa using h.lt⟩
theorem VY.set {w wr : World} {s : S8} {b : List Nat} {SS NN : Nat} {A : Nat → Nat} (h : VY w wr s b SS NN A) (c x : Nat) (C : Nat → Nat) (hC : ∀ j, C j = if j = c then x else A j) : VY w (wr.setCell ⟨NN, c, none⟩ (.int .u32 x)) s b SS NN C :=
 ⟨h.base.other h.gt _ _, (h.nn.set c x).congr fun j _ => (hC j).symm, h.fN.set _ _, h.gt, by simpa using h.lt⟩
theorem VY.set8 {w wr : World} {s : S8} {b : List Nat} {SS NN : Nat} {A : Nat → Nat} (h : VY w wr s b SS NN A) (x0 x1 x2 x3 x4 x5 x6 x7 : Nat) (C : Nat → Nat) (hC : C = qM [x0, x1, x2, x3, x4, x5, x6, x7]) :
  VY w ((((((((wr.setCell ⟨NN, 0, none⟩ (.int .u32 x0)).setCell ⟨NN, 1, none⟩ (.int .u32 x1)).setCell ⟨NN, 2, none⟩ (.int .u32 x2)).setCell ⟨NN, 3, none⟩ (.int .u32 x3)).setCell ⟨NN, 4, none⟩ (.int .u32 x4)).setCell ⟨NN, 5, none⟩ (.int .u32 x5)).setCell ⟨NN, 6, none⟩ (.int .u32 x6)).setCell ⟨NN, 7, none⟩ (.int .u32 x7)) s b SS NN C := by
 have h9 := (((((((h.set 0 x0 _ fun _ => rfl).set 1 x1 _ fun _ => rfl).set 2 x2 _ fun _ => rfl).set 3 x3 _ fun _ => rfl).set 4 x4 _ fun _ => rfl).set 5 x5 _ fun _ => rfl).set 6 x6 _ fun _ => rfl).set 7 x7 _ fun _ => rfl
 refine ⟨h9.base, h9.nn.congr fun j hj => ?_, h9.fN, h9.gt, h9.lt⟩; rw [hC]
 rcases (show j = 0 ∨ j = 1 ∨ j = 2 ∨ j = 3 ∨ j = 4 ∨ j = 5 ∨ j = 6 ∨ j = 7 by omega) with rfl | rfl | rfl | rfl | rfl | rfl | rfl | rfl <;> rfl
theorem VX {w wr : World} {s : S8} {b : List Nat} {SS : Nat} (h : yR w wr s b SS 64) (t : TypeId) :
  VY w (wr.alloc (.cells #[.int .u32 s.a, .int .u32 s.b, .int .u32 s.c, .int .u32 s.d, .int .u32 s.e, .int .u32 s.f, .int .u32 s.g, .int .u32 s.h] t)) s b SS wr.heap.size (qM s.list) :=
 ⟨h.later (ja), O9.new (k := .u32) wr s.list #[.int .u32 s.a, .int .u32 s.b, .int .u32 s.c, .int .u32 s.d, .int .u32 s.e, .int .u32 s.f, .int .u32 s.g, .int .u32 s.h] rfl t _ rfl, Y0.new _ _ _ _, h.lt, by simp⟩
theorem mix2 (x a b : Nat) : JN x [a, b] = Je x a ^^^ Je x b := by unfold JN; simp
theorem mix3 (x a b c : Nat) : JN x [a, b, c] = (Je x a ^^^ Je x b) ^^^ Je x c := by unfold JN; simp
theorem not32 {e n : Nat} (he : e < 2 ^ 32) (hn : n = 2 ^ 32 - 1 - e) : bits BinOp.xor IntKind.u32 (if IntKind.u32.signed = true then -1 else IntKind.u32.max) (e : Int) = (n : Int) := by
 show bits BinOp.xor IntKind.u32 ((4294967295 : Nat) : Int) (e : Int) = (n : Int)
 rw [u32_xor_nat 4294967295 e (by omega) (by omega), hn]
 congr 1
 refine Nat.eq_of_testBit_eq fun i => ?_
 have h1 : (2 ^ 32 - 1 - e).testBit i = (decide (i < 32) && !e.testBit i) := by
  rw [show 2 ^ 32 - 1 - e = 2 ^ 32 - (e + 1) by omega]; exact Nat.testBit_two_pow_sub_succ he i
 rw [Nat.testBit_xor, h1, show (4294967295 : Nat) = 2 ^ 32 - 1 from rfl, Nat.testBit_two_pow_sub_one]
 by_cases hi : i < 32
 ·rw [decide_eq_true hi]
  cases e.testBit i <;> rfl
 ·have h3 : e.testBit i = false := Nat.testBit_lt_two_pow (Nat.lt_of_lt_of_le he (Nat.pow_le_pow_right (by decide) (by omega))); rw [decide_eq_false hi, h3]
  rfl
theorem vG {k : IntKind} {w : World} {g o n c : Nat} {l : List Nat} (h : J6 k w (.slice (some ⟨g, o, none⟩) n c) l) {i : Nat} (hi : i < l.length) : w.cell? ⟨g, o + i, none⟩ = some (.int k (qM l i)) := by
 obtain ⟨ao, cap, e, h1, h2, h3, h4⟩ := h; obtain ⟨g', o', e2, h5⟩ := h4 (by omega); rw [e2] at e; injection e with e3 _ _
 injection e3 with e4
 injection e4 with e5 e6 _
 rw [e5, e6]; exact h5 i _ (QD hi)
theorem vU {s : S8} {b : List Nat} {gb ob cb gk ok ck : Nat} (hs : s.Ok) (hb : jM b) (hl : b.length = 64) (w : World) (hB : J6 .u8 w (.slice (some ⟨gb, ob, none⟩) 64 cb) b) (hK : J6 .u32 w (.slice (some ⟨gk, ok, none⟩) 64 ck) Qv) :
  Calls Tryz.prog 190 #[s.val, .slice (some ⟨gb, ob, none⟩) 64 cb, .slice (some ⟨gk, ok, none⟩) 64 ck] w fun e w' => e = .returned (QL s b).val ∧ Below w.heap.size w w' := by
 have HS := jh (fun t1 t2 t3 => UX w s b t1 t2 t3); have wO := jh hb; have HOk := jh hs; have HBC := jh (show ∀ i, i < 64 → w.cell? ⟨gb, ob + i, none⟩ = some (.int .u8 (qM b i)) from fun i hi => vG hB (by rw [hl]; exact hi)); have HKC := jh (show ∀ i, i < 64 → w.cell? ⟨gk, ok + i, none⟩ = some (.int .u32 (qM Qv i)) from fun i hi => vG hK (by exact hi)); have CR := jh (fun (x k : Nat) (n : Int) (hx : x < 2 ^ 32) (h1 : 1 ≤ k) (h2 : k ≤ 31) (hn : n = (k : Int)) (y : Nat) (hy : y = Je x k) => show ∀ W : World, Calls Tryz.prog 220 #[.int .u32 x, .int .u64 n] W (fun e w' => e = .returned (.int .u32 y) ∧ Below W.heap.size W w') from fun W => (RRot_any hx h1 h2 n hn W).mono (fun _ _ h => ⟨by rw [h.1, hy], h.2 ▸ Below.refl _ _⟩)); clear hs hb hl hB hK; unfold S8.val
 go_enter Tryz.func190, Tryz.ntmps190
 go_wp2_with fail
 go_loopw [8] (fun i wr => ∃ k : Nat, k ≤ 16 ∧ i = .int .i64 k ∧ Hid (yR w wr s b w.heap.size k)) (fun i _ => 16 - (intOf i).toNat)
 case atStart => exact ⟨0, Nat.zero_le _, rfl, jh (HS.out _ _ _ _ rfl)⟩
 case round =>
  clear HS; obtain ⟨k, hk, rfl, HT⟩ := hrel
  by_cases hlt : k < 16
  ·obtain ⟨m0, hm0⟩ := je (4 * k + 0); obtain ⟨m1, hm1⟩ := je (4 * k + 1); obtain ⟨m2, hm2⟩ := je (4 * k + 2); obtain ⟨m3, NY⟩ := je (4 * k + 3); have r0 := HT.out.slice (HBC.out m0 (by omega)); have r1 := HT.out.slice (HBC.out m1 (by omega)); have r2 := HT.out.slice (HBC.out m2 (by omega)); have r3 := HT.out.slice (HBC.out m3 (by omega)); have i0 : (4 : Int) * (k : Int) = (m0 : Int) := by omega
   have i1 : (m0 : Int) + 1 = (m1 : Int) := by omega
   have i2 : (m0 : Int) + 2 = (m2 : Int) := by omega
   have i3 : (m0 : Int) + 3 = (m3 : Int) := by omega
   have HX := jh (show swd b k = qM b m0 * 16777216 + qM b m1 * 65536 + qM b m2 * 256 + qM b m3 by rw [hm0, hm1, hm2, NY]; rfl); have y0 := Jv wO.out m0
   generalize qM b m0 = x0 at r0 HX y0
   have y1 := Jv wO.out m1
   generalize qM b m1 = x1 at r1 HX y1
   have y2 := Jv wO.out m2
   generalize qM b m2 = x2 at r2 HX y2
   have y3 := Jv wO.out m3
   generalize qM b m3 = x3 at r3 HX y3
   have N9 := HT; clear HT; have b0 : (m0 : Int) < 64 := by omega
   have b1 : (m1 : Int) < 64 := by omega
   have b2 : (m2 : Int) < 64 := by omega
   have b3 : (m3 : Int) < 64 := by omega
   have N8 : (k : Int) < 16 := by omega
   have v0 := zj (n := m0) (by omega); have v1 := zj (n := m1) (by omega); have v2 := zj (n := m2) (by omega); have v3 := zj (n := m3) (by omega); have u0 := ZQ (n := x0) (by omega); have u1 := ZQ (n := x1) (by omega); have u2 := ZQ (n := x2) (by omega); have u3 := ZQ (n := x3) (by omega); obtain ⟨X0, hX0⟩ := je (x0 * 16777216); obtain ⟨X1, hX1⟩ := je (x1 * 65536); obtain ⟨X2, hX2⟩ := je (x2 * 256); obtain ⟨Y1, hY1⟩ := je (X0 + X1); obtain ⟨Y2, hY2⟩ := je (Y1 + X2); obtain ⟨Y3, hY3⟩ := je (Y2 + x3); have c0 := XE x0 16777216 X0 (by omega) (by omega); have c1 := XE x1 65536 X1 (by omega) (by omega); have c2 := XE x2 256 X2 (by omega) (by omega); have o1 := kF (x := X0) (y := X1) (k := 24) (by omega) (by omega) (by omega) (by omega); have o2 := kF (x := Y1) (y := X2) (k := 16) (by omega) (by omega) (by omega) (by omega); have o3 := kF (x := Y2) (y := x3) (k := 8) (by omega) (by omega) (by omega) (by omega); rw [← hY1] at o1; rw [← hY2] at o2; rw [← hY3] at o3; have HX := jh (show Y3 = swd b k by rw [HX.out]; omega); have L8 := jh hlt; clear hm0 hm1 hm2 NY hlt hX0 hX1 hX2 hY1 hY2 hY3 y0 y1 y2 y3
   go_wp2_with fail
   refine js 35 (fun _ => none) (by kernel_rfl) (by kernel_rfl) (fun _ _ _ _ _ h => h) (fun F X8 hcl hbl => ?_); have r0 := fun X9 : Wd F => jm r0 (hbl X9.world X9.fact)
   have r1 := fun X9 : Wd F => jm r1 (hbl X9.world X9.fact)
   have r2 := fun X9 : Wd F => jm r2 (hbl X9.world X9.fact)
   have r3 := fun X9 : Wd F => jm r3 (hbl X9.world X9.fact)
   have U5 := jh hcl; clear hcl hbl; refine jN 35 0 _ _ (fun _ _ _ => rfl) (by decide) ?_; simp only [List.take_succ_cons, List.take_zero, List.drop_succ_cons, List.drop_zero, Nat.reduceAdd]
   repeat (go_big_quiet_step (fail))
   refine wpQuiet_nil ?_; refine jR ?_; intro bs w2 hb _ _; clear r0 r1 r2 r3 U5; simp only [over]; have HT2 := jh (N9.out.later hb); have q0 := jF HT2.out.sW (j := k) (by have := L8.out; omega); have f0 := HT2.out.fW k (by have := L8.out; omega)
   go_wp2_with fail
   go_roundw
   case rel => exact ⟨k + 1, by have := L8.out; omega, by go_num, jh (HT2.out.set Y3 (by rw [if_pos L8.out]; exact HX.out))⟩
   case measure => (simp [intOf]; have := L8.out; omega)
  ·obtain rfl : k = 16 := by omega
   obtain ⟨wo, rfl⟩ : ∃ wo : World, wo = wr := ⟨_, rfl⟩; have HT0 := HT; clear HT hk hlt
   go_wp2_with fail
   go_loopw [9] (fun i wr => ∃ k : Nat, 16 ≤ k ∧ k ≤ 64 ∧ i = .int .i64 k ∧ Hid (yR w wr s b w.heap.size k)) (fun i _ => 64 - (intOf i).toNat)
   case atStart => exact ⟨16, Nat.le_refl _, by omega, rfl, HT0⟩
   case round =>
    clear HT0; obtain ⟨k, h16, hk, rfl, HT⟩ := hrel
    by_cases hlt : k < 64
    ·obtain ⟨m0, hm0⟩ := je (k - 15); obtain ⟨m1, hm1⟩ := je (k - 2); obtain ⟨m2, hm2⟩ := je (k - 16); obtain ⟨m3, NY⟩ := je (k - 7); have r0 := jF HT.out.sW (j := m0) (by omega); have r1 := jF HT.out.sW (j := m1) (by omega); have r2 := jF HT.out.sW (j := m2) (by omega); have r3 := jF HT.out.sW (j := m3) (by omega); have i0 : (k : Int) - 15 = (m0 : Int) := by omega
     have i1 : (k : Int) - 2 = (m1 : Int) := by omega
     have i2 : (k : Int) - 16 = (m2 : Int) := by omega
     have i3 : (k : Int) - 7 = (m3 : Int) := by omega
     have HX := jh (show RH (jZ b k m0) (jZ b k m1) (jZ b k m2) (jZ b k m3) = RH (jZ b k (k - 15)) (jZ b k (k - 2)) (jZ b k (k - 16)) (jZ b k (k - 7)) by rw [hm0, hm1, hm2, NY]); have y0 := zF wO.out k m0
     generalize jZ b k m0 = x at r0 HX y0
     have y1 := zF wO.out k m1
     generalize jZ b k m1 = y at r1 HX y1
     have y2 := zF wO.out k m2
     generalize jZ b k m2 = p at r2 HX y2
     have y3 := zF wO.out k m3
     generalize jZ b k m3 = q at r3 HX y3
     have b0 : (m0 : Int) < 64 := by omega
     have b1 : (m1 : Int) < 64 := by omega
     have b2 : (m2 : Int) < 64 := by omega
     have b3 : (m3 : Int) < 64 := by omega
     have N8 : (k : Int) < 64 := by omega
     have v0 := zj (n := m0) (by omega); have v1 := zj (n := m1) (by omega); have v2 := zj (n := m2) (by omega); have v3 := zj (n := m3) (by omega); obtain ⟨ga, hga⟩ := je (Je x 7); have lga : ga < 2 ^ 32 := by rw [hga]; exact zK y0 (by decide)
     have Cga := jh (CR.out x 7 7 y0 (by decide) (by decide) rfl ga hga); obtain ⟨gb9, kN⟩ := je (Je x 18); have ES : gb9 < 2 ^ 32 := by rw [kN]; exact zK y0 (by decide)
     have Cgb9 := jh (CR.out x 18 18 y0 (by decide) (by decide) rfl gb9 kN); obtain ⟨gc, hgc⟩ := je (Je y 17); have lgc : gc < 2 ^ 32 := by rw [hgc]; exact zK y1 (by decide)
     have Cgc := jh (CR.out y 17 17 y1 (by decide) (by decide) rfl gc hgc); obtain ⟨gd, hgd⟩ := je (Je y 19); have lgd : gd < 2 ^ 32 := by rw [hgd]; exact zK y1 (by decide)
     have Cgd := jh (CR.out y 19 19 y1 (by decide) (by decide) rfl gd hgd); obtain ⟨g1, hg1⟩ := je (ga ^^^ gb9); obtain ⟨g2, hg2⟩ := je (gc ^^^ gd); have lg1 : g1 < 2 ^ 32 := by rw [hg1]; exact Nat.xor_lt_two_pow lga ES
     have lg2 : g2 < 2 ^ 32 := by rw [hg2]; exact Nat.xor_lt_two_pow lgc lgd
     obtain ⟨x8, hx8⟩ := je (x / 8); obtain ⟨y8, hy8⟩ := je (y / 1024); have d1 : (x : Int) / 8 = (x8 : Int) := by omega
     have d2 : (y : Int) / 1024 = (y8 : Int) := by omega
     obtain ⟨s1, hs1⟩ := je ((p + q) % 4294967296); obtain ⟨t1, ht1⟩ := je (g1 ^^^ x8); obtain ⟨t2, ht2⟩ := je (g2 ^^^ y8); obtain ⟨s2, hs2⟩ := je ((s1 + t1) % 4294967296); obtain ⟨s3, hs3⟩ := je ((s2 + t2) % 4294967296); have HX := jh (show s3 = RH (jZ b k (k - 15)) (jZ b k (k - 2)) (jZ b k (k - 16)) (jZ b k (k - 7)) by rw [← HX.out]; unfold RH; rw [mix2, mix2, ← hga, ← kN, ← hgc, ← hgd, ← hg1, ← hg2, ← hx8, ← hy8, ← ht1, ← ht2]; omega); have oa := ZD lga ES g1 hg1; have ob9 := ZD lgc lgd g2 hg2; have o1 := JV s1 hs1; have o2 := ZD (by omega) (by omega) t1 ht1; have o3 := JV s2 hs2; have o4 := ZD (by omega) (by omega) t2 ht2; have o5 := JV s3 hs3; have h16x := jh h16; have L8 := jh hlt; have N9 := HT; clear HT hm0 hm1 hm2 NY h16 hlt hs1 ht1 ht2 hs2 hs3 hx8 hy8 hga kN hgc hgd hg1 hg2 lga ES lgc lgd lg1 lg2 y0 y1 y2 y3
     go_wp2_with fail
     refine js 29 (fun _ => none) (by kernel_rfl) (by kernel_rfl) (fun _ _ _ _ _ h => h) (fun F X8 hcl hbl => ?_); have r0 := fun X9 : Wd F => jm r0 (hbl X9.world X9.fact)
     have r1 := fun X9 : Wd F => jm r1 (hbl X9.world X9.fact)
     have r2 := fun X9 : Wd F => jm r2 (hbl X9.world X9.fact)
     have r3 := fun X9 : Wd F => jm r3 (hbl X9.world X9.fact)
     have U5 := jh hcl; clear hcl hbl; refine jN 29 0 _ _ (fun _ _ _ => rfl) (by decide) ?_; simp only [List.take_succ_cons, List.take_zero, List.drop_succ_cons, List.drop_zero, Nat.reduceAdd]
     repeat (go_big_quiet_step ((first | (go_at_call 220; with_reducible exact jq U5.out (Cga.out _)) | (go_at_call 220; with_reducible exact jq U5.out (Cgb9.out _)) | (go_at_call 220; with_reducible exact jq U5.out (Cgc.out _)) | (go_at_call 220; with_reducible exact jq U5.out (Cgd.out _)))))
     refine wpQuiet_nil ?_; refine jR ?_; intro bs w2 hb _ _; clear r0 r1 r2 r3 U5; simp only [over]; have HT2 := jh (N9.out.later hb); have q0 := jF HT2.out.sW (j := k) L8.out; have f0 := HT2.out.fW k L8.out
     go_wp2_with fail
     go_roundw
     case rel => exact ⟨k + 1, by have := h16x.out; omega, by have := L8.out; omega, by go_num, jh (HT2.out.set s3 (by rw [if_neg (by have := h16x.out; omega)]; exact HX.out))⟩
     case measure => (simp [intOf]; have := L8.out; omega)
    ·obtain rfl : k = 64 := by omega
     obtain ⟨wp, rfl⟩ : ∃ wp : World, wp = wr := ⟨_, rfl⟩; have N9 := HT; clear HT hk h16 hlt; have c0 : wp.cell? ⟨w.heap.size, 0, none⟩ = some (.int .u32 s.a) := jF N9.out.sS (j := 0) (by decide); have c1 : wp.cell? ⟨w.heap.size, 1, none⟩ = some (.int .u32 s.b) := jF N9.out.sS (j := 1) (by decide); have c2 : wp.cell? ⟨w.heap.size, 2, none⟩ = some (.int .u32 s.c) := jF N9.out.sS (j := 2) (by decide); have c3 : wp.cell? ⟨w.heap.size, 3, none⟩ = some (.int .u32 s.d) := jF N9.out.sS (j := 3) (by decide); have c4 : wp.cell? ⟨w.heap.size, 4, none⟩ = some (.int .u32 s.e) := jF N9.out.sS (j := 4) (by decide); have c5 : wp.cell? ⟨w.heap.size, 5, none⟩ = some (.int .u32 s.f) := jF N9.out.sS (j := 5) (by decide); have c6 : wp.cell? ⟨w.heap.size, 6, none⟩ = some (.int .u32 s.g) := jF N9.out.sS (j := 6) (by decide); have c7 : wp.cell? ⟨w.heap.size, 7, none⟩ = some (.int .u32 s.h) := jF N9.out.sS (j := 7) (by decide)
     go_upto_region 13 with fail
     clear c0 c1 c2 c3 c4 c5 c6 c7; obtain ⟨NN, hNN⟩ := je (wp.heap.size); have HN := jh (VX N9.out 246); rw [← hNN] at HN; rw [← hNN]; obtain ⟨w1, e1⟩ := je (wp.alloc (.cells #[.int .u32 s.a, .int .u32 s.b, .int .u32 s.c, .int .u32 s.d, .int .u32 s.e, .int .u32 s.f, .int .u32 s.g, .int .u32 s.h] 246)); rw [← e1] at HN; rw [← e1]; clear e1 hNN N9
     go_wp2_with fail
     go_loopw [13] (fun i wr => ∃ k : Nat, k ≤ 64 ∧ i = .int .i64 k ∧ Hid (VY w wr s b w.heap.size NN (qM (QJ b s k).list))) (fun i _ => 64 - (intOf i).toNat)
     case atStart => exact ⟨0, Nat.zero_le _, rfl, HN⟩
     case round =>
      clear HN; obtain ⟨k, hk, rfl, HT⟩ := hrel
      by_cases hlt : k < 64
      ·have N8 : (k : Int) < 64 := by omega
       have rk := HT.out.base.slice (HKC.out k hlt); have rw9 := jF HT.out.base.sW (j := k) hlt; have L8 := jh hlt; have y0 := OU k; have y1 := zF wO.out 64 k; have N9 := HT; have hok := kH b HOk.out k; have HR := jh (show QJ b s (k + 1) = rnd (QJ b s k) (qM Qv k) (jZ b 64 k) from rfl); obtain ⟨z, hz⟩ := je (QJ b s k); rw [← hz] at N9 hok HR; clear hz HT
       generalize qM Qv k = kk at rk HR y0
       generalize jZ b 64 k = wk at rw9 HR y1
       obtain ⟨za, zb, zc, zd, ze, zf, zg, zh⟩ := z; obtain ⟨l0, l1, l2, l3, l4, l5, l6, l7⟩ := hok; simp only at l0 l1 l2 l3 l4 l5 l6 l7; clear hlt; obtain ⟨c0, c1, c2, c3, c4, c5, c6, c7⟩ := zv N9.out.nn; obtain ⟨ga, hga⟩ := je (Je ze 6); have lga : ga < 2 ^ 32 := by rw [hga]; exact zK l4 (by decide)
       have Cga := jh (CR.out ze 6 6 l4 (by decide) (by decide) rfl ga hga); obtain ⟨gb9, kN⟩ := je (Je ze 11); have ES : gb9 < 2 ^ 32 := by rw [kN]; exact zK l4 (by decide)
       have Cgb9 := jh (CR.out ze 11 11 l4 (by decide) (by decide) rfl gb9 kN); obtain ⟨gc, hgc⟩ := je (Je ze 25); have lgc : gc < 2 ^ 32 := by rw [hgc]; exact zK l4 (by decide)
       have Cgc := jh (CR.out ze 25 25 l4 (by decide) (by decide) rfl gc hgc); obtain ⟨gd, hgd⟩ := je (Je za 2); have lgd : gd < 2 ^ 32 := by rw [hgd]; exact zK l0 (by decide)
       have Cgd := jh (CR.out za 2 2 l0 (by decide) (by decide) rfl gd hgd); obtain ⟨ge, hge⟩ := je (Je za 13); have lge : ge < 2 ^ 32 := by rw [hge]; exact zK l0 (by decide)
       have Cge := jh (CR.out za 13 13 l0 (by decide) (by decide) rfl ge hge); obtain ⟨gf, hgf⟩ := je (Je za 22); have lgf : gf < 2 ^ 32 := by rw [hgf]; exact zK l0 (by decide)
       have Cgf := jh (CR.out za 22 22 l0 (by decide) (by decide) rfl gf hgf); obtain ⟨f1, hf1⟩ := je (ga ^^^ gb9); obtain ⟨g1, hg1⟩ := je (f1 ^^^ gc); obtain ⟨f2, hf2⟩ := je (gd ^^^ ge); obtain ⟨g2, hg2⟩ := je (f2 ^^^ gf); have lf1 : f1 < 2 ^ 32 := by rw [hf1]; exact Nat.xor_lt_two_pow lga ES
       have lg1 : g1 < 2 ^ 32 := by rw [hg1]; exact Nat.xor_lt_two_pow lf1 lgc
       have lf2 : f2 < 2 ^ 32 := by rw [hf2]; exact Nat.xor_lt_two_pow lgd lge
       have lg2 : g2 < 2 ^ 32 := by rw [hg2]; exact Nat.xor_lt_two_pow lf2 lgf
       obtain ⟨x1, hx1⟩ := je (ze &&& zf); obtain ⟨ne, hne⟩ := je (2 ^ 32 - 1 - ze); obtain ⟨x2, hx2⟩ := je (ne &&& zg); obtain ⟨x3, hx3⟩ := je (x1 ^^^ x2); have n1 : x1 < 2 ^ 32 := by rw [hx1]; exact Nat.and_lt_two_pow _ l5
       have n0 : ne < 2 ^ 32 := by omega
       have n2 : x2 < 2 ^ 32 := by rw [hx2]; exact Nat.and_lt_two_pow _ l6
       have n3 : x3 < 2 ^ 32 := by rw [hx3]; exact Nat.xor_lt_two_pow n1 n2
       obtain ⟨a1, ha1⟩ := je ((zh + g1) % 4294967296); obtain ⟨a2, ha2⟩ := je ((a1 + x3) % 4294967296); obtain ⟨a3, lV⟩ := je ((a2 + kk) % 4294967296); obtain ⟨a4, ha4⟩ := je ((a3 + wk) % 4294967296); obtain ⟨p1, hp1⟩ := je (za &&& zb); obtain ⟨p2, hp2⟩ := je (za &&& zc); obtain ⟨p3, hp3⟩ := je (p1 ||| p2); obtain ⟨p4, LY⟩ := je (zb &&& zc); obtain ⟨p5, hp5⟩ := je (p3 ||| p4); have n4 : p1 < 2 ^ 32 := by rw [hp1]; exact Nat.and_lt_two_pow _ l1
       have n5 : p2 < 2 ^ 32 := by rw [hp2]; exact Nat.and_lt_two_pow _ l2
       have n6 : p3 < 2 ^ 32 := by rw [hp3]; exact Nat.or_lt_two_pow n4 n5
       have n7 : p4 < 2 ^ 32 := by rw [LY]; exact Nat.and_lt_two_pow _ l2
       obtain ⟨b1, hb1⟩ := je ((g2 + p5) % 4294967296); obtain ⟨b2, hb2⟩ := je ((a4 + b1) % 4294967296); obtain ⟨b3, hb3⟩ := je ((zd + a4) % 4294967296); have nI := not32 l4 hne; have q1 := ZD lga ES f1 hf1; have q2 := ZD lf1 lgc g1 hg1; have q3 := ZD lgd lge f2 hf2; have q4 := ZD lf2 lgf g2 hg2; have q5 := XN l4 l5 x1 hx1; have q6 := XN n0 l6 x2 hx2; have q7 := ZD n1 n2 x3 hx3; have q8 := XN l0 l1 p1 hp1; have q9 := XN l0 l2 p2 hp2; have qa := u32_or n4 n5 hp3.symm; have qb := XN l1 l2 p4 LY; have qc := u32_or n6 n7 hp5.symm; have o0 := JV a1 ha1; have o1 := JV a2 ha2; have o2 := JV a3 lV; have o3 := JV a4 ha4; have o4 := JV b1 hb1; have o5 := JV b2 hb2; have o6 := JV b3 hb3
       have HR := jh (show QJ b s (k + 1) = ⟨b2, za, zb, zc, b3, ze, zf, zg⟩ by
        rw [HR.out]; unfold rnd shaT; dsimp only; rw [mix3, mix3, ← ch_eq l4 l6, ← maj_eq, ← hga, ← kN, ← hgc, ← hgd, ← hge, ← hgf, ← hf1, ← hf2, ← hg1, ← hg2, ← hx1, ← hne, ← hx2, ← hx3, ← hp1, ← hp2, ← hp3, ← LY, ← hp5]
        congr 1 <;> omega)
       clear hga kN hgc hgd hge hgf hf1 hf2 hg1 hg2 hx1 hne hx2 hx3 ha1 ha2 lV ha4 hb1 hb2 hb3 hp1 hp2 hp3 LY hp5 n0 n1 n2 n3 n4 n5 n6 n7 l0 l1 l2 l3 l4 l5 l6 l7 lga ES lgc lgd lge lgf lf1 lf2 lg1 lg2 y0 y1
       go_upto_region 18 with fail
       refine js 31 (fun _ => none) (by kernel_rfl) (by kernel_rfl) (fun _ _ _ _ _ h => h) (fun F X8 hcl hbl => ?_); have c0 := fun X9 : Wd F => jm c0 (hbl X9.world X9.fact)
       have c1 := fun X9 : Wd F => jm c1 (hbl X9.world X9.fact)
       have c2 := fun X9 : Wd F => jm c2 (hbl X9.world X9.fact)
       have c3 := fun X9 : Wd F => jm c3 (hbl X9.world X9.fact)
       have c4 := fun X9 : Wd F => jm c4 (hbl X9.world X9.fact)
       have c5 := fun X9 : Wd F => jm c5 (hbl X9.world X9.fact)
       have c6 := fun X9 : Wd F => jm c6 (hbl X9.world X9.fact)
       have c7 := fun X9 : Wd F => jm c7 (hbl X9.world X9.fact)
       have rk := fun X9 : Wd F => jm rk (hbl X9.world X9.fact)
       have rw9 := fun X9 : Wd F => jm rw9 (hbl X9.world X9.fact)
       have U5 := jh hcl; clear hcl hbl; refine jN 31 0 _ _ (fun _ _ _ => rfl) (by decide) ?_; simp only [List.take_succ_cons, List.take_zero, List.drop_succ_cons, List.drop_zero, Nat.reduceAdd]
       repeat (go_big_quiet_step ((first | (go_at_call 220; with_reducible exact jq U5.out (Cga.out _)) | (go_at_call 220; with_reducible exact jq U5.out (Cgb9.out _)) | (go_at_call 220; with_reducible exact jq U5.out (Cgc.out _)))))
       refine wpQuiet_nil ?_; refine jR ?_; intro bs w2 hb _ _; clear c0 c1 c2 c3 c4 c5 c6 c7 rk rw9 U5; simp only [over]; have N9 := jh (N9.out.later hb); clear hb; obtain ⟨c0, c1, c2, c3, c4, c5, c6, c7⟩ := zv N9.out.nn
       go_upto_region 19 with fail
       refine js 24 (fun _ => none) (by kernel_rfl) (by kernel_rfl) (fun _ _ _ _ _ h => h) (fun F X8 hcl hbl => ?_); have c0 := fun X9 : Wd F => jm c0 (hbl X9.world X9.fact)
       have c1 := fun X9 : Wd F => jm c1 (hbl X9.world X9.fact)
       have c2 := fun X9 : Wd F => jm c2 (hbl X9.world X9.fact)
       have c3 := fun X9 : Wd F => jm c3 (hbl X9.world X9.fact)
       have c4 := fun X9 : Wd F => jm c4 (hbl X9.world X9.fact)
       have c5 := fun X9 : Wd F => jm c5 (hbl X9.world X9.fact)
       have c6 := fun X9 : Wd F => jm c6 (hbl X9.world X9.fact)
       have c7 := fun X9 : Wd F => jm c7 (hbl X9.world X9.fact)
       have U5 := jh hcl; clear hcl hbl; refine jN 24 0 _ _ (fun _ _ _ => rfl) (by decide) ?_; simp only [List.take_succ_cons, List.take_zero, List.drop_succ_cons, List.drop_zero, Nat.reduceAdd]
       repeat (go_big_quiet_step ((first | (go_at_call 220; with_reducible exact jq U5.out (Cgd.out _)) | (go_at_call 220; with_reducible exact jq U5.out (Cge.out _)) | (go_at_call 220; with_reducible exact jq U5.out (Cgf.out _)))))
       refine wpQuiet_nil ?_; refine jR ?_; intro bs w3 hb _ _; clear c0 c1 c2 c3 c4 c5 c6 c7 U5; simp only [over]; have N9 := jh (N9.out.later hb); clear hb; obtain ⟨c0, c1, c2, c3, c4, c5, c6, c7⟩ := zv N9.out.nn; have fa := N9.out.fN 0 (by decide); have fb := N9.out.fN 1 (by decide); have fc := N9.out.fN 2 (by decide); have fd := N9.out.fN 3 (by decide); have fe := N9.out.fN 4 (by decide); have ff := N9.out.fN 5 (by decide); have fg := N9.out.fN 6 (by decide); have fh := N9.out.fN 7 (by decide)
       go_wp2_with fail
       go_roundw
       case rel => exact ⟨k + 1, by have := L8.out; omega, by go_num, jh (N9.out.set8 _ _ _ _ _ _ _ _ _ (by rw [HR.out]; rfl))⟩
       case measure => (simp [intOf]; have := L8.out; omega)
      ·obtain rfl : k = 64 := by omega
       obtain ⟨wq, rfl⟩ : ∃ wq : World, wq = wr := ⟨_, rfl⟩; have N9 := HT; clear HT hlt hk; have HF := jh (show QL s b = (QJ b s 64).plus s from rfl); obtain ⟨z, hz⟩ := je (QJ b s 64); rw [← hz] at N9 HF; clear hz
       go_wp2_with fail
       go_loopw [18] (fun i wr => ∃ k : Nat, k ≤ 8 ∧ i = .int .i64 k ∧ Hid (VY w wr s b w.heap.size NN (Zx z s k))) (fun i _ => 8 - (intOf i).toNat)
       case atStart => exact ⟨0, Nat.zero_le _, rfl, jh (by rw [WH]; exact N9.out)⟩
       case round =>
        clear N9; obtain ⟨k, hk, rfl, HT⟩ := hrel
        by_cases hlt : k < 8
        ·have N8 : (k : Int) < 8 := by omega
         have L8 := jh hlt; have kC := HT; have r0 := jF HT.out.nn hlt; rw [XH] at r0; have r1 := jF HT.out.base.sS hlt; have EJ := jh (YH z s k)
         generalize qM z.list k = x at r0 EJ
         generalize qM s.list k = y at r1 EJ
         obtain ⟨t, ht⟩ := je ((x + y) % 4294967296); have o1 := JV t ht; rw [← ht] at EJ; clear ht HT hlt
         go_wp2_with fail
         refine js 9 (fun _ => none) (by kernel_rfl) (by kernel_rfl) (fun _ _ _ _ _ h => h) (fun F X8 hcl hbl => ?_); have r0 := fun X9 : Wd F => jm r0 (hbl X9.world X9.fact)
         have r1 := fun X9 : Wd F => jm r1 (hbl X9.world X9.fact)
         have U5 := jh hcl; clear hcl hbl; refine jN 9 0 _ _ (fun _ _ _ => rfl) (by decide) ?_; simp only [List.take_succ_cons, List.take_zero, List.drop_succ_cons, List.drop_zero, Nat.reduceAdd]
         repeat (go_big_quiet_step (fail))
         refine wpQuiet_nil ?_; refine jR ?_; intro bs w2 hb _ _; clear r0 r1 U5; simp only [over]; have HT2 := jh (kC.out.later hb); have q0 := jF HT2.out.nn L8.out; have f0 := HT2.out.fN k L8.out
         go_wp2_with fail
         go_roundw
         case rel => exact ⟨k + 1, by have := L8.out; omega, by go_num, jh (HT2.out.set k t _ EJ.out)⟩
         case measure => (simp [intOf]; have := L8.out; omega)
        ·obtain rfl : k = 8 := by omega
         have kC := HT; clear HT; have hnn := kC.out.nn.congr (GL z s); rw [← HF.out] at hnn; obtain ⟨u, hu⟩ := je (QL s b); rw [← hu] at hnn; obtain ⟨ua, ub, uc, ud, ue, uf, ug, uh⟩ := u; have HU := jh hu; clear hu; obtain ⟨c0, c1, c2, c3, c4, c5, c6, c7⟩ := zv hnn; have q0 := jF kC.out.base.sR (j := 0) (by decide); have q1 := jF kC.out.base.sR (j := 1) (by decide); have q2 := jF kC.out.base.sR (j := 2) (by decide); have q3 := jF kC.out.base.sR (j := 3) (by decide); have q4 := jF kC.out.base.sR (j := 4) (by decide); have q5 := jF kC.out.base.sR (j := 5) (by decide); have q6 := jF kC.out.base.sR (j := 6) (by decide); have q7 := jF kC.out.base.sR (j := 7) (by decide); have f0 := kC.out.base.fR 0 (by decide); have f1 := kC.out.base.fR 1 (by decide); have f2 := kC.out.base.fR 2 (by decide); have f3 := kC.out.base.fR 3 (by decide); have f4 := kC.out.base.fR 4 (by decide); have f5 := kC.out.base.fR 5 (by decide); have f6 := kC.out.base.fR 6 (by decide); have f7 := kC.out.base.fR 7 (by decide); clear hnn
         go_wp2_with fail
         have B9 := zZ (B := w.heap.size + 1) kC.out.base.below (by omega) (.int .u32 ua) (.int .u32 ub) (.int .u32 uc) (.int .u32 ud) (.int .u32 ue) (.int .u32 uf) (.int .u32 ug) (.int .u32 uh); obtain ⟨g0, g1, g2, g3, g4, g5, g6, g7⟩ := zv (kC.out.base.sR.set8 ua ub uc ud ue uf ug uh); rw [← HU.out]; refine bodyPost_ret (v := .agg #[.int .u32 ua, .int .u32 ub, .int .u32 uc, .int .u32 ud, .int .u32 ue, .int .u32 uf, .int .u32 ug, .int .u32 uh]) ?_ rfl ⟨rfl, B9⟩
         simp [results, Tryz.results190, go_sem, g0, g1, g2, g3, g4, g5, g6, g7]
theorem rW {g o T c m : Nat} (hm : m + 64 ≤ T) (hc : T ≤ c) (W : World) :
  (Instr.sliceAt 30 (.slice (some ⟨g, o, none⟩) T c) (some (.int .i64 (m : Nat))) (some (.int .i64 ((m + 64 : Nat) : Int))) none).run Tryz.prog W = .ok (.slice (some ⟨g, o + m, none⟩) 64 (c - m)) W := by
 rw [run_sliceAt_slice _ _ _ _ _ _ XL, run_slice_lh _ _ _ _ _ XL .i64 .i64 m ((m + 64 : Nat) : Int) (by omega) (by omega) (by omega), AZ]
 simp [sliced, Addr.add_lit]
 omega
theorem O9.keep {k : IntKind} {w w' : World} {b o n : Nat} {A : Nat → Nat} {row : Option Nat} (h : O9 k w b o n A) (hg : w.grownBy w' row) (hn : some b ≠ row) : O9 k w' b o n A := fun j hj => hg.cell (h j hj) hn
theorem Y0.keep {w w' : World} {b n : Nat} {row : Option Nat} (h : Y0 w b n) (hg : w.grownBy w' row) (hl : b < w.heap.size) (hn : some b ≠ row) : Y0 w' b n := fun j hj => (by unfold World.frozen?; rw [hg.block b hl hn] : w'.frozen? ⟨b, j, none⟩ = w.frozen? ⟨b, j, none⟩).trans (h j hj)
theorem shaZ_le (n : Nat) : aF n ≤ 63 := by unfold aF; omega
theorem shaZ_at {n z : Nat} (hz : z ≤ aF n) : (n + 1 + z) % 64 = 56 ↔ z = aF n := by
 unfold aF at *; omega
theorem Zv (l : List Nat) : (l ++ zE l.length).length = l.length + 9 + aF l.length := by
 unfold zE
 simp [jH]
 omega
theorem NJ (l : List Nat) : (l ++ zE l.length).length = 64 * ((l ++ zE l.length).length / 64) := by
 rw [Zv]; unfold aF; omega
theorem at0_be4 (u : S8) : ∀ i, i < 32 → qM (u.list.flatMap (be 4)) i = qM u.list (i / 4) / 256 ^ (3 - i % 4) % 256 := by
 intro i hi; have e : u.list.flatMap (be 4) = [u.a / 256 / 256 / 256 % 256, u.a / 256 / 256 % 256, u.a / 256 % 256, u.a % 256, u.b / 256 / 256 / 256 % 256, u.b / 256 / 256 % 256, u.b / 256 % 256, u.b % 256, u.c / 256 / 256 / 256 % 256, u.c / 256 / 256 % 256, u.c / 256 % 256, u.c % 256, u.d / 256 / 256 / 256 % 256, u.d / 256 / 256 % 256, u.d / 256 % 256, u.d % 256, u.e / 256 / 256 / 256 % 256, u.e / 256 / 256 % 256, u.e / 256 % 256, u.e % 256, u.f / 256 / 256 / 256 % 256, u.f / 256 / 256 % 256, u.f / 256 % 256, u.f % 256, u.g / 256 / 256 / 256 % 256, u.g / 256 / 256 % 256, u.g / 256 % 256, u.g % 256, u.h / 256 / 256 / 256 % 256, u.h / 256 / 256 % 256, u.h / 256 % 256, u.h % 256] := rfl; rw [e]; have e3 : ∀ x : Nat, x / 256 / 256 / 256 % 256 = x / 256 ^ 3 % 256 := fun x => by rw [Nat.div_div_eq_div_mul, Nat.div_div_eq_div_mul]
 have e2 : ∀ x : Nat, x / 256 / 256 % 256 = x / 256 ^ 2 % 256 := fun x => by rw [Nat.div_div_eq_div_mul]
 have e1 : ∀ x : Nat, x / 256 % 256 = x / 256 ^ 1 % 256 := fun x => by rw [Nat.pow_one]
 have e0 : ∀ x : Nat, x % 256 = x / 256 ^ 0 % 256 := fun x => by rw [Nat.pow_zero, Nat.div_one]
 obtain ⟨q, r, hq, hr, rfl⟩ : ∃ q r, q < 8 ∧ r < 4 ∧ i = 4 * q + r := ⟨i / 4, i % 4, by omega, by omega, by omega⟩; rw [show (4 * q + r) / 4 = q by omega, show (4 * q + r) % 4 = r by omega]
 rcases (show q = 0 ∨ q = 1 ∨ q = 2 ∨ q = 3 ∨ q = 4 ∨ q = 5 ∨ q = 6 ∨ q = 7 by omega) with rfl | rfl | rfl | rfl | rfl | rfl | rfl | rfl <;> rcases (show r = 0 ∨ r = 1 ∨ r = 2 ∨ r = 3 by omega) with rfl | rfl | rfl | rfl <;> first | exact e3 _ | exact e2 _ | exact e1 _ | exact e0 _
theorem qC {w w' : World} {size m : Nat} {x : Value} {news : List Value} (h : Zq w size x m news) (hb : Below w.heap.size w w') : Zq w' size x m news := by
 obtain ⟨sp, c, rfl, h1, h2, h3, h4⟩ := h; exact ⟨sp, c, rfl, h1, h2, h3, fun ad had j u hu => jm (h4 ad had j u hu) hb⟩
theorem oJ (x e m : Nat) (hm : m = 8 * e) : (x : Int) / 2 ^ m % 256 = ((x / 256 ^ e % 256 : Nat) : Int) := by rw [hm]; exact EE x e
structure Sf (w : World) (R : Nat) (wr : World) : Prop where
 c : O9 .u8 wr R 0 32 (fun _ => 0)
 f : Y0 wr R 32
 below : Below w.heap.size w wr
 lt : R < wr.heap.size
 le : w.heap.size ≤ R
theorem Sf.later {w wr w' : World} {R : Nat} (h : Sf w R wr) (hb : Below wr.heap.size wr w') : Sf w R w' := ⟨h.c.later hb, h.f.later hb h.lt, jk h.below hb, Nat.lt_of_lt_of_le h.lt hb.size, h.le⟩
theorem Sf.grown {w wr w' : World} {R : Nat} {row : Option Nat} (h : Sf w R wr) (hg : wr.grownBy w' row) (hr : ∀ k, row = some k → R + 1 ≤ k) : Sf w R w' :=
 have hn : some R ≠ row := fun e => by have := hr R e.symm; omega
 ⟨h.c.keep hg hn, h.f.keep hg h.lt hn, h.below.grown hg (Nat.le_of_lt (Nat.lt_of_le_of_lt h.le h.lt)) (fun k hk => by have := hr k hk; have := h.le; omega), Nat.lt_of_lt_of_le h.lt hg.size, h.le⟩
theorem Sf.app {w wr w' : World} {R : Nat} {o : Obj} {e : TypeId} {size n : Nat} {v : Value} {xs : List Value} (h : Sf w R wr) (ho : O1 wr (R + 1) e size v n xs) (hg : (wr.alloc o).grownBy w' v.ownBlock) : Sf w R w' :=
 (h.later (ja)).grown hg fun k hk => (O1.lt ho k hk).1
theorem Sf.set {w wr : World} {R b : Nat} (h : Sf w R wr) (hb : R < b) (i : Nat) (v : Value) : Sf w R (wr.setCell ⟨b, i, none⟩ v) :=
 ⟨h.c.other _ _ (by omega), h.f.set _ _, h.below.setCell (by have := h.le; show w.heap.size ≤ b; omega) _, by simpa using h.lt, h.le⟩
theorem J6.set {k : IntKind} {wr : World} {g o n c b : Nat} {l : List Nat} (h : J6 k wr (.slice (some ⟨g, o, none⟩) n c) l) (hn : g ≠ b) (i : Nat) (v : Value) : J6 k (wr.setCell ⟨b, i, none⟩ v) (.slice (some ⟨g, o, none⟩) n c) l :=
 h.block fun g' hg' => Below.heap_setCell _ _ _ g' (fun e => by simp [Value.ownBlock] at hg'; exact hn (hg'.trans e))
structure So (w : World) (R HB ga oa ca gk T : Nat) (L : List Nat) (u : S8) (wr : World) : Prop where
 sf : Sf w R wr
 h : O9 .u32 wr HB 0 8 (qM u.list)
 fh : Y0 wr HB 8
 all : J6 .u8 wr (.slice (some ⟨ga, oa, none⟩) T ca) L
 tab : J6 .u32 wr (.slice (some ⟨gk, 0, none⟩) 64 64) Qv
 n1 : ga ≠ HB
 n2 : gk ≠ HB
 n3 : R < HB
 lt : HB < wr.heap.size
theorem So.later {w wr w' : World} {R HB ga oa ca gk T : Nat} {L : List Nat} {u : S8} (h : So w R HB ga oa ca gk T L u wr) (hb : Below wr.heap.size wr w') : So w R HB ga oa ca gk T L u w' :=
 ⟨h.sf.later hb, h.h.later hb, h.fh.later hb h.lt, h.all.later hb, h.tab.later hb, h.n1, h.n2, h.n3, Nat.lt_of_lt_of_le h.lt hb.size⟩
theorem So.put {w wr : World} {R HB ga oa ca gk T : Nat} {L : List Nat} {u : S8} (h : So w R HB ga oa ca gk T L u wr) (z : S8) : So w R HB ga oa ca gk T L z
  ((((((((wr.setCell ⟨HB, 0, none⟩ (.int .u32 z.a)).setCell ⟨HB, 1, none⟩ (.int .u32 z.b)).setCell ⟨HB, 2, none⟩ (.int .u32 z.c)).setCell ⟨HB, 3, none⟩ (.int .u32 z.d)).setCell ⟨HB, 4, none⟩ (.int .u32 z.e)).setCell ⟨HB, 5, none⟩ (.int .u32 z.f)).setCell ⟨HB, 6, none⟩ (.int .u32 z.g)).setCell ⟨HB, 7, none⟩ (.int .u32 z.h)) :=
 ⟨(((((((h.sf.set h.n3 _ _).set h.n3 _ _).set h.n3 _ _).set h.n3 _ _).set h.n3 _ _).set h.n3 _ _).set h.n3 _ _).set h.n3 _ _, h.h.set8 z.a z.b z.c z.d z.e z.f z.g z.h,
   (((((((h.fh.set _ _).set _ _).set _ _).set _ _).set _ _).set _ _).set _ _).set _ _, (((((((h.all.set h.n1 _ _).set h.n1 _ _).set h.n1 _ _).set h.n1 _ _).set h.n1 _ _).set h.n1 _ _).set h.n1 _ _).set h.n1 _ _,
   (((((((h.tab.set h.n2 _ _).set h.n2 _ _).set h.n2 _ _).set h.n2 _ _).set h.n2 _ _).set h.n2 _ _).set h.n2 _ _).set h.n2 _ _, h.n1, h.n2, h.n3, by simpa using h.lt⟩
theorem cut_blk {w : World} {g o n c : Nat} {l : List Nat} (h : J6 .u8 w (.slice (some ⟨g, o, none⟩) n c) l) {m : Nat} (hm : m + 64 ≤ l.length) : J6 .u8 w (.slice (some ⟨g, o + m, none⟩) 64 (c - m)) ((l.drop m).take 64) := by
 obtain ⟨ao, cap, e, h1, h2, h3, h4⟩ := h; obtain ⟨g', o', e2, h5⟩ := h4 (by omega); rw [e2] at e; injection e with e3 e7 e8
 injection e3 with e4
 injection e4 with e5 e6 _
 rw [e5, e6, e8]; exact J6.cut h5 h1 h2 m 64 hm
theorem PX {k : IntKind} {w : World} {b : Nat} {l : List Nat} (h : O9 k w b 0 l.length (qM l)) : w.rangeAt b 0 (jp k l) := by
 intro j v hj; have hl : j < l.length := by have := (List.getElem?_eq_some_iff.1 hj).1; rwa [jt] at this
 rw [h j hl, ← hj, qv, QD hl]
 rfl
theorem EF {k : IntKind} {w : World} {b n : Nat} {A : Nat → Nat} (h : O9 k w b 0 n A) (hf : Y0 w b n) : w.there b 0 n := fun j hj => by
 have h1 := h j hj; rw [Nat.zero_add] at h1 ⊢; exact ⟨by rw [h1]; rfl, hf j hj⟩
theorem out_next {D : List Nat} {i : Nat} (x : Nat) (hx : x = qM D i) (j : Nat) : (if j = i then x else if j < i then qM D j else 0) = (if j < i + 1 then qM D j else 0) := by
 by_cases h : j = i
 ·subst h; rw [if_pos rfl, if_pos (Nat.lt_succ_self j), hx]
 ·rw [if_neg h]
  by_cases h' : j < i
  ·rw [if_pos h', if_pos (by omega)]
  ·rw [if_neg h', if_neg (by omega)]
end Go.Proofs.YtmijablfjigbhaaGreatDoor
