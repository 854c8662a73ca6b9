/- Layer 5's reference -/
import Derived.Test.YtcaeaejefdhloaaGreatZWG06
import Derived.Test.YtcaeaejefdhloaaGreatZWG13
import Derived.Test.YtcaeaejefdhloaaGreatZWG14
set_option linter.unusedSimpArgs false
set_option linter.unusedVariables false
set_option maxHeartbeats 4000000
set_option maxRecDepth 20000
namespace Go.Proofs.YtcaeaejefdhloaaGreat
open Go.ChangeShapes Go.WideShapes Go.ChangeAt Go.RowKit
def CAt (k : IntKind) (w : World) (b o n : Nat) (A : Nat → Nat) : Prop := ∀ j, j < n → w.cell? ⟨b, o + j, none⟩ = some (.int k (A j))
theorem CAt.later {k : IntKind} {w w' : World} {b o n : Nat} {A : Nat → Nat} (h : CAt k w b o n A) (hb : Below w.heap.size w w') : CAt k w' b o n A := fun j hj => by
 have h1 := h j hj; exact (hb.cell (p := ⟨b, o + j, none⟩) (World.block_lt_of_cell? (a := ⟨b, o + j, none⟩) _ h1)).trans h1
theorem CAt.set {k : IntKind} {w : World} {b n : Nat} {A : Nat → Nat} (h : CAt k w b 0 n A) (c x : Nat) : CAt k (w.setCell ⟨b, c, none⟩ (.int k x)) b 0 n (fun j => if j = c then x else A j) := by
 intro j hj; have h1 := h j hj; rw [Nat.zero_add] at h1 ⊢
 by_cases hjc : j = c
 ·subst hjc; rw [World.cell?_setCell_same (h := h1)]
  simp
 ·rw [World.cell?_setCell_other _ _ _ _ (by intro h; injection h; omega), h1]
  simp [hjc]
theorem CAt.other {k : IntKind} {w : World} {b o n : Nat} {A : Nat → Nat} (h : CAt k w b o n A) {c : Nat} (i : Nat) (v : Value) (hc : b ≠ c) : CAt k (w.setCell ⟨c, i, none⟩ v) b o n A := fun j hj => by
 rw [World.cell?_setCell_other _ _ _ _ (by intro h; injection h; omega), h j hj]
theorem CAt.congr {k : IntKind} {w : World} {b o n : Nat} {A B : Nat → Nat} (h : CAt k w b o n A) (hg : ∀ j, j < n → A j = B j) : CAt k w b o n B := fun j hj => by rw [h j hj, hg j hj]
theorem Qa {l : List Nat} {i : Nat} (h : i < l.length) : l[i]? = some (qE l i) := by
 unfold qE; rw [List.getD_eq_getElem?_getD, List.getElem?_eq_getElem h]
 rfl
theorem qL {n : Nat} (h : n < 9223372036854775808) : IntKind.i64.wrap (n : Int) = (n : Int) := by simp [IntKind.wrap, IntKind.bits, IntKind.signed]; omega
theorem QW {n : Nat} (h : n < 4294967296) : IntKind.u32.wrap (n : Int) = (n : Int) := by rw [IntKind.wrap_u32']; omega
theorem Zq (x : Nat) (c : Int) (y : Nat) (h : (x : Int) * c = (y : Int)) (hy : y < 4294967296) : IntKind.u32.wrap ((x : Int) * c) = (y : Int) := by rw [h]; exact QW hy
theorem Zu {x y k : Nat} (hy : y < 2 ^ k) (hx : x % 2 ^ k = 0) (hx9 : x < 4294967296) (hy9 : y < 4294967296) : bits BinOp.or IntKind.u32 (x : Int) (y : Int) = ((x + y : Nat) : Int) := by
 rw [u32_or_nat x y hx9 hy9, nat_join k x y hx hy]
theorem jA {k : IntKind} {w : World} {b n : Nat} {A : Nat → Nat} (h : CAt k w b 0 n A) {j : Nat} (hj : j < n) : w.cell? ⟨b, j, none⟩ = some (.int k (A j)) := by
 have h1 := h j hj
 rwa [Nat.zero_add] at h1
theorem Ju {a b : Nat} (c : Nat) (h : c = (a + b) % 4294967296) : IntKind.u32.wrap ((a : Int) + (b : Int)) = (c : Int) := by rw [IntKind.wrap_u32', h]; omega
theorem QK {a b : Nat} (ha : a < 4294967296) (hb : b < 4294967296) (c : Nat) (h : c = a ^^^ b) : bits BinOp.xor IntKind.u32 (a : Int) (b : Int) = (c : Int) := by rw [h]; exact u32_xor_nat a b ha hb
theorem andU {a b : Nat} (ha : a < 4294967296) (hb : b < 4294967296) (c : Nat) (h : c = a &&& b) : bits BinOp.and IntKind.u32 (a : Int) (b : Int) = (c : Int) := by rw [h]; exact u32_and_nat a b ha hb
theorem CAt.new {k : IntKind} (w : World) (l : List Nat) (T : Array Value) (hT : T = (jq k l).toArray) (t : TypeId) (b : Nat) (hb : b = w.heap.size) : CAt k (w.alloc (.cells T t)) b 0 l.length (qE l) := by
 subst hb hT; intro j hj; rw [Nat.zero_add, cell_of_row _ _ _ _ _ _ (heap_alloc_new _ _)]
 simp [qe, Qa hj]
structure TkW (w wr : World) (s : S8) (b : List Nat) (SS : Nat) (i : Nat) : Prop where
 sS : CAt .u32 wr SS 0 8 (qE s.list)
 sB : CAt .u8 wr (SS + 1) 0 64 (qE b)
 sR : CAt .u32 wr (SS + 1 + 1) 0 8 (fun _ => 0)
 fR : FreeN wr (SS + 1 + 1) 8
 sW : CAt .u32 wr (SS + 1 + 1 + 1) 0 64 (jQ b i)
 fW : FreeN wr (SS + 1 + 1 + 1) 64
 below : Below w.heap.size w wr
 at9 : SS = w.heap.size
 lt : SS + 1 + 1 + 1 < wr.heap.size
theorem TkW.later {w wr w' : World} {s : S8} {b : List Nat} {SS i : Nat} (h : TkW w wr s b SS i) (hb : Below wr.heap.size wr w') : TkW w w' s b SS i :=
 ⟨h.sS.later hb, h.sB.later hb, h.sR.later hb, h.fR.later hb (by have := h.lt; omega), h.sW.later hb, h.fW.later hb h.lt, jk h.below hb, h.at9, Nat.lt_of_lt_of_le h.lt hb.size⟩
theorem TkW.set {w wr : World} {s : S8} {b : List Nat} {SS i : Nat} (h : TkW w wr s b SS i) (x : Nat) (hx : x = (if i < 16 then swd b i else sgap (jQ b i (i - 15)) (jQ b i (i - 2)) (jQ b i (i - 16)) (jQ b i (i - 7)))) :
  TkW w (wr.setCell ⟨SS + 1 + 1 + 1, i, none⟩ (.int .u32 x)) s b SS (i + 1) := by
 refine ⟨h.sS.other _ _ (by omega), h.sB.other _ _ (by omega), h.sR.other _ _ (by omega), h.fR.set _ _, ?_, h.fW.set _ _, h.below.setCell (by have := h.at9; show w.heap.size ≤ SS + 1 + 1 + 1; omega) _, h.at9, by simpa using h.lt⟩; refine (h.sW.set i x).congr fun j _ => ?_
 show _ = (if j = i then _ else _)
 rw [← hx]
theorem CAt.zero {k : IntKind} (w : World) (n : Nat) (Z : Array Value) (hZ : Z = Array.replicate n (.int k 0)) (t : TypeId) (b : Nat) (hb : b = w.heap.size) : CAt k (w.alloc (.cells Z t)) b 0 n (fun _ => 0) := by
 subst hb hZ; intro j hj; rw [Nat.zero_add, cell_of_row _ _ _ _ _ _ (heap_alloc_new _ _)]
 simp [hj]
theorem tkw_start (w : World) (s : S8) (b : List Nat) (T : Array Value) (hT : T = (jq .u8 b).toArray) (hl : b.length = 64) (t1 t2 t3 t4 : TypeId) (Z : Array Value) (hZ : Z = Array.replicate 64 (.int .u32 0)) :
  TkW w ((((w.alloc (.cells #[.int .u32 s.a, .int .u32 s.b, .int .u32 s.c, .int .u32 s.d, .int .u32 s.e, .int .u32 s.f, .int .u32 s.g, .int .u32 s.h] t1)).alloc (.cells T t2)).alloc (.cells #[.int .u32 0, .int .u32 0, .int .u32 0, .int .u32 0, .int .u32 0, .int .u32 0, .int .u32 0, .int .u32 0] t3)).alloc (.cells Z t4)) s b w.heap.size 0 := by
 have h1 := CAt.new (k := .u32) w s.list #[.int .u32 s.a, .int .u32 s.b, .int .u32 s.c, .int .u32 s.d, .int .u32 s.e, .int .u32 s.f, .int .u32 s.g, .int .u32 s.h] rfl t1 _ rfl; obtain ⟨w1, e1⟩ := je (w.alloc (.cells #[.int .u32 s.a, .int .u32 s.b, .int .u32 s.c, .int .u32 s.d, .int .u32 s.e, .int .u32 s.f, .int .u32 s.g, .int .u32 s.h] t1)); have n1 : w1.heap.size = w.heap.size + 1 := by rw [e1]; simp
 have b1 := jc e1; rw [← e1] at h1 ⊢; clear e1; have h2 := CAt.new (k := .u8) w1 b T hT t2 _ rfl; rw [hl] at h2; obtain ⟨w2, e2⟩ := je (w1.alloc (.cells T t2)); have n2 : w2.heap.size = w1.heap.size + 1 := by rw [e2]; simp
 have b2 := jc e2; rw [← e2] at h2 ⊢; clear e2; have h3 := CAt.zero (k := .u32) w2 8 #[.int .u32 0, .int .u32 0, .int .u32 0, .int .u32 0, .int .u32 0, .int .u32 0, .int .u32 0, .int .u32 0] rfl t3 _ rfl; have f3 := FreeN.new w2 #[.int .u32 0, .int .u32 0, .int .u32 0, .int .u32 0, .int .u32 0, .int .u32 0, .int .u32 0, .int .u32 0] t3 8; obtain ⟨w3, e3⟩ := je (w2.alloc (.cells #[.int .u32 0, .int .u32 0, .int .u32 0, .int .u32 0, .int .u32 0, .int .u32 0, .int .u32 0, .int .u32 0] t3)); have n3 : w3.heap.size = w2.heap.size + 1 := by rw [e3]; simp
 have b3 := jc e3; rw [← e3] at h3 f3 ⊢; clear e3; have h4 := CAt.zero (k := .u32) w3 64 Z hZ t4 _ rfl; have f4 := FreeN.new w3 Z t4 64; obtain ⟨w4, e4⟩ := je (w3.alloc (.cells Z t4)); have n4 : w4.heap.size = w3.heap.size + 1 := by rw [e4]; simp
 have b4 := jc e4; rw [← e4] at h4 f4 ⊢; clear e4; rw [n1] at n2 h2; rw [n2] at n3 h3 f3; rw [n3] at n4 h4 f4; exact ⟨((h1.later b2).later b3).later b4, (h2.later b3).later b4, h3.later b4, f3.later b4 (by omega), h4, f4, jk (jk (jk b1 b2) b3) b4, rfl, by omega⟩
structure TkN (w wr : World) (s : S8) (b : List Nat) (SS NN : Nat) (A : Nat → Nat) : Prop where
 base : TkW w wr s b SS 64
 nn : CAt .u32 wr NN 0 8 A
 fN : FreeN wr NN 8
 gt : SS + 1 + 1 + 1 < NN
 lt : NN < wr.heap.size
theorem TkN.later {w wr w' : World} {s : S8} {b : List Nat} {SS NN : Nat} {A : Nat → Nat} (h : TkN w wr s b SS NN A) (hb : Below wr.heap.size wr w') : TkN w w' s b SS NN A :=
 ⟨h.base.later hb, h.nn.later hb, h.fN.later hb h.lt, h.gt, Nat.lt_of_lt_of_le h.lt hb.size⟩
theorem TkW.other {w wr : World} {s : S8} {b : List Nat} {SS i NN : Nat} (h : TkW w wr s b SS i) (hg : SS + 1 + 1 + 1 < NN) (c : Nat) (v : Value) : TkW w (wr.setCell ⟨NN, c, none⟩ v) s b SS i :=
 ⟨h.sS.other _ _ (by omega), h.sB.other _ _ (by omega), h.sR.other _ _ (by omega), h.fR.set _ _, h.sW.other _ _ (by omega), h.fW.set _ _, h.below.setCell (by have := h.at9; show w.heap.size ≤ NN; omega) _, h.at9, by simpa using h.lt⟩
theorem TkN.set {w wr : World} {s : S8} {b : List Nat} {SS NN : Nat} {A : Nat → Nat} (h : TkN w wr s b SS NN A) (c x : Nat) (C : Nat → Nat) (hC : ∀ j, C j = if j = c then x else A j) : TkN w (wr.setCell ⟨NN, c, none⟩ (.int .u32 x)) s b SS NN C :=
 ⟨h.base.other h.gt _ _, (h.nn.set c x).congr fun j _ => (hC j).symm, h.fN.set _ _, h.gt, by simpa using h.lt⟩
theorem TkN.set8 {w wr : World} {s : S8} {b : List Nat} {SS NN : Nat} {A : Nat → Nat} (h : TkN w wr s b SS NN A) (x0 x1 x2 x3 x4 x5 x6 x7 : Nat) (C : Nat → Nat) (hC : C = qE [x0, x1, x2, x3, x4, x5, x6, x7]) :
  TkN w ((((((((wr.setCell ⟨NN, 0, none⟩ (.int .u32 x0)).setCell ⟨NN, 1, none⟩ (.int .u32 x1)).setCell ⟨NN, 2, none⟩ (.int .u32 x2)).setCell ⟨NN, 3, none⟩ (.int .u32 x3)).setCell ⟨NN, 4, none⟩ (.int .u32 x4)).setCell ⟨NN, 5, none⟩ (.int .u32 x5)).setCell ⟨NN, 6, none⟩ (.int .u32 x6)).setCell ⟨NN, 7, none⟩ (.int .u32 x7)) s b SS NN C := by
 have h9 := (((((((h.set 0 x0 _ fun _ => rfl).set 1 x1 _ fun _ => rfl).set 2 x2 _ fun _ => rfl).set 3 x3 _ fun _ => rfl).set 4 x4 _ fun _ => rfl).set 5 x5 _ fun _ => rfl).set 6 x6 _ fun _ => rfl).set 7 x7 _ fun _ => rfl
 refine ⟨h9.base, h9.nn.congr fun j hj => ?_, h9.fN, h9.gt, h9.lt⟩; rw [hC]
 rcases (show j = 0 ∨ j = 1 ∨ j = 2 ∨ j = 3 ∨ j = 4 ∨ j = 5 ∨ j = 6 ∨ j = 7 by omega) with rfl | rfl | rfl | rfl | rfl | rfl | rfl | rfl <;> rfl
theorem tkn_start {w wr : World} {s : S8} {b : List Nat} {SS : Nat} (h : TkW w wr s b SS 64) (t : TypeId) :
  TkN w (wr.alloc (.cells #[.int .u32 s.a, .int .u32 s.b, .int .u32 s.c, .int .u32 s.d, .int .u32 s.e, .int .u32 s.f, .int .u32 s.g, .int .u32 s.h] t)) s b SS wr.heap.size (qE s.list) :=
 ⟨h.later (ja), CAt.new (k := .u32) wr s.list #[.int .u32 s.a, .int .u32 s.b, .int .u32 s.c, .int .u32 s.d, .int .u32 s.e, .int .u32 s.f, .int .u32 s.g, .int .u32 s.h] rfl t _ rfl, FreeN.new _ _ _ _, h.lt, by simp⟩
theorem qU {w : World} {NN : Nat} {a b c d e f g h : Nat} (H : CAt .u32 w NN 0 8 (qE (S8.list ⟨a, b, c, d, e, f, g, h⟩))) :
  w.cell? ⟨NN, 0, none⟩ = some (.int .u32 a) ∧ w.cell? ⟨NN, 1, none⟩ = some (.int .u32 b) ∧ w.cell? ⟨NN, 2, none⟩ = some (.int .u32 c) ∧ w.cell? ⟨NN, 3, none⟩ = some (.int .u32 d) ∧
  w.cell? ⟨NN, 4, none⟩ = some (.int .u32 e) ∧ w.cell? ⟨NN, 5, none⟩ = some (.int .u32 f) ∧ w.cell? ⟨NN, 6, none⟩ = some (.int .u32 g) ∧ w.cell? ⟨NN, 7, none⟩ = some (.int .u32 h) :=
 ⟨jA H (j := 0) (by decide), jA H (j := 1) (by decide), jA H (j := 2) (by decide), jA H (j := 3) (by decide), jA H (j := 4) (by decide), jA H (j := 5) (by decide), jA H (j := 6) (by decide), jA H (j := 7) (by decide)⟩
theorem tkn_read {w wr : World} {s : S8} {l : List Nat} {SS NN : Nat} {a b c d e f g h : Nat} (H : TkN w wr s l SS NN (qE (S8.list ⟨a, b, c, d, e, f, g, h⟩))) :
  wr.cell? ⟨NN, 0, none⟩ = some (.int .u32 a) ∧ wr.cell? ⟨NN, 1, none⟩ = some (.int .u32 b) ∧ wr.cell? ⟨NN, 2, none⟩ = some (.int .u32 c) ∧ wr.cell? ⟨NN, 3, none⟩ = some (.int .u32 d) ∧
  wr.cell? ⟨NN, 4, none⟩ = some (.int .u32 e) ∧ wr.cell? ⟨NN, 5, none⟩ = some (.int .u32 f) ∧ wr.cell? ⟨NN, 6, none⟩ = some (.int .u32 g) ∧ wr.cell? ⟨NN, 7, none⟩ = some (.int .u32 h) := qU H.nn
theorem idx_steps : ∀ (k : Nat) (_ : k < 64) (w : World), (Instr.index 151 (.agg (jq .u32 JV).toArray) (.int .i64 k)).run Tryz.prog w = .ok (.int .u32 (qE JV k)) w
 | 0, _, _ => by kernel_rfl
 | 1, _, _ => by kernel_rfl
 | 2, _, _ => by kernel_rfl
 | 3, _, _ => by kernel_rfl
 | 4, _, _ => by kernel_rfl
 | 5, _, _ => by kernel_rfl
 | 6, _, _ => by kernel_rfl
 | 7, _, _ => by kernel_rfl
 | 8, _, _ => by kernel_rfl
 | 9, _, _ => by kernel_rfl
 | 10, _, _ => by kernel_rfl
 | 11, _, _ => by kernel_rfl
 | 12, _, _ => by kernel_rfl
 | 13, _, _ => by kernel_rfl
 | 14, _, _ => by kernel_rfl
 | 15, _, _ => by kernel_rfl
 | 16, _, _ => by kernel_rfl
 | 17, _, _ => by kernel_rfl
 | 18, _, _ => by kernel_rfl
 | 19, _, _ => by kernel_rfl
 | 20, _, _ => by kernel_rfl
 | 21, _, _ => by kernel_rfl
 | 22, _, _ => by kernel_rfl
 | 23, _, _ => by kernel_rfl
 | 24, _, _ => by kernel_rfl
 | 25, _, _ => by kernel_rfl
 | 26, _, _ => by kernel_rfl
 | 27, _, _ => by kernel_rfl
 | 28, _, _ => by kernel_rfl
 | 29, _, _ => by kernel_rfl
 | 30, _, _ => by kernel_rfl
 | 31, _, _ => by kernel_rfl
 | 32, _, _ => by kernel_rfl
 | 33, _, _ => by kernel_rfl
 | 34, _, _ => by kernel_rfl
 | 35, _, _ => by kernel_rfl
 | 36, _, _ => by kernel_rfl
 | 37, _, _ => by kernel_rfl
 | 38, _, _ => by kernel_rfl
 | 39, _, _ => by kernel_rfl
 | 40, _, _ => by kernel_rfl
 | 41, _, _ => by kernel_rfl
 | 42, _, _ => by kernel_rfl
 | 43, _, _ => by kernel_rfl
 | 44, _, _ => by kernel_rfl
 | 45, _, _ => by kernel_rfl
 | 46, _, _ => by kernel_rfl
 | 47, _, _ => by kernel_rfl
 | 48, _, _ => by kernel_rfl
 | 49, _, _ => by kernel_rfl
 | 50, _, _ => by kernel_rfl
 | 51, _, _ => by kernel_rfl
 | 52, _, _ => by kernel_rfl
 | 53, _, _ => by kernel_rfl
 | 54, _, _ => by kernel_rfl
 | 55, _, _ => by kernel_rfl
 | 56, _, _ => by kernel_rfl
 | 57, _, _ => by kernel_rfl
 | 58, _, _ => by kernel_rfl
 | 59, _, _ => by kernel_rfl
 | 60, _, _ => by kernel_rfl
 | 61, _, _ => by kernel_rfl
 | 62, _, _ => by kernel_rfl
 | 63, _, _ => by kernel_rfl
 | k + 64, h, _ => absurd h (by omega)
def gapR (j : Nat) : Option Rel := if j = 11 then some (relK .i64 [7, 18]) else if j = 18 then some (relK .i64 [17, 19]) else none
theorem gapR_is (j : Nat) : (gapR j).isSome = (j == 11 || j == 18) := by
 unfold gapR
 by_cases h : j = 11
 ·simp [h]
 ·by_cases h' : j = 18
  ·simp [h']
  ·simp [h, h']
def gapT : List (List Nat) := [[], [], [1], [1, 2], [1, 2, 3], [], [5], [5, 6], [5, 6, 7], [1, 2, 3, 4, 5, 6, 7, 8], [], [], [10, 11], [], [13], [10, 11, 12, 13, 14], [1, 2, 3, 4, 5, 6, 7, 8, 9, 10, 11, 12, 13, 14, 15], [], [], [10, 11, 12, 17, 18], [], [20], [10, 11, 12, 17, 18, 19, 20, 21], [1, 2, 3, 4, 5, 6, 7, 8, 9, 10, 11, 12, 13, 14, 15, 16, 17, 18, 19, 20, 21, 22], [0, 1, 2, 3, 4, 5, 6, 7, 8, 9, 10, 11, 12, 13, 14, 15, 16, 17, 18, 19, 20, 21, 22, 23], [0, 1, 2, 3, 4, 5, 6, 7, 8, 9, 10, 11, 12, 13, 14, 15, 16, 17, 18, 19, 20, 21, 22, 23, 24]]
theorem mix_at {x : Nat} {ks : List Nat} (hx : x < 2 ^ 32) (hks : ∀ k ∈ ks, 1 ≤ k ∧ k ≤ 31) {y : Nat} (hy : Jn x ks = y) (w : World) {a : Option Addr} {c : Nat} (hv : KAt .i64 w (.slice a ks.length c) ks) :
  Calls Tryz.prog 140 #[.int .u32 x, .slice a ks.length c] w fun e w' => e = .returned (.int .u32 y) ∧ Below w.heap.size w w' := by
 subst hy; exact (mix_any hx hks w hv).mono fun _ _ ⟨h1, h2⟩ => ⟨h1, by rw [h2]; exact Below.refl _ _⟩
def QF (z s : S8) (i j : Nat) : Nat := if j < i then (qE z.list j + qE s.list j) % 4294967296 else qE z.list j
theorem plusA_zero (z s : S8) : QF z s 0 = qE z.list := by funext j; unfold QF; rw [if_neg (Nat.not_lt_zero j)]
theorem plusA_next (z s : S8) (i j : Nat) : QF z s (i + 1) j = if j = i then (qE z.list i + qE s.list i) % 4294967296 else QF z s i j := by
 unfold QF
 by_cases h : j = i
 ·subst h; rw [if_pos (Nat.lt_succ_self j), if_pos rfl]
 ·rw [if_neg h]
  by_cases h' : j < i
  ·rw [if_pos h', if_pos (by omega)]
  ·rw [if_neg h', if_neg (by omega)]
theorem plusA_self (z s : S8) (i : Nat) : QF z s i i = qE z.list i := by unfold QF; rw [if_neg (Nat.lt_irrefl i)]
theorem plusA_all (z s : S8) : ∀ j, j < 8 → QF z s 8 j = qE (z.plus s).list j := fun j hj => by
 rcases (show j = 0 ∨ j = 1 ∨ j = 2 ∨ j = 3 ∨ j = 4 ∨ j = 5 ∨ j = 6 ∨ j = 7 by omega) with rfl | rfl | rfl | rfl | rfl | rfl | rfl | rfl <;> rfl
theorem s8_lt {s : S8} (h : s.Ok) : ∀ j, qE s.list j < 2 ^ 32 := fun j => by
 obtain ⟨h0, h1, h2, h3, h4, h5, h6, h7⟩ := h
 rcases (show j = 0 ∨ j = 1 ∨ j = 2 ∨ j = 3 ∨ j = 4 ∨ j = 5 ∨ j = 6 ∨ j = 7 ∨ 8 ≤ j by omega) with rfl | rfl | rfl | rfl | rfl | rfl | rfl | rfl | hj
 ·exact h0
 ·exact h1
 ·exact h2
 ·exact h3
 ·exact h4
 ·exact h5
 ·exact h6
 ·exact h7
 ·unfold qE; rw [List.getD_eq_getElem?_getD, List.getElem?_eq_none (by unfold S8.list; exact hj)]
  decide
theorem CAt.set8 {wr : World} {B : Nat} {A : Nat → Nat} (h : CAt .u32 wr B 0 8 A) (x0 x1 x2 x3 x4 x5 x6 x7 : Nat) : CAt .u32 ((((((((wr.setCell ⟨B, 0, none⟩ (.int .u32 x0)).setCell ⟨B, 1, none⟩ (.int .u32 x1)).setCell ⟨B, 2, none⟩ (.int .u32 x2)).setCell ⟨B, 3, none⟩ (.int .u32 x3)).setCell ⟨B, 4, none⟩ (.int .u32 x4)).setCell ⟨B, 5, none⟩ (.int .u32 x5)).setCell ⟨B, 6, none⟩ (.int .u32 x6)).setCell ⟨B, 7, none⟩ (.int .u32 x7)) B 0 8 (qE [x0, x1, x2, x3, x4, x5, x6, x7]) := by
 have h9 := (((((((h.set 0 x0).set 1 x1).set 2 x2).set 3 x3).set 4 x4).set 5 x5).set 6 x6).set 7 x7; refine h9.congr fun j hj => ?_
 rcases (show j = 0 ∨ j = 1 ∨ j = 2 ∨ j = 3 ∨ j = 4 ∨ j = 5 ∨ j = 6 ∨ j = 7 by omega) with rfl | rfl | rfl | rfl | rfl | rfl | rfl | rfl <;> rfl
theorem below_set8 {w wr : World} {B : Nat} (h : Below w.heap.size w wr) (hB : w.heap.size ≤ B) (x0 x1 x2 x3 x4 x5 x6 x7 : Value) : Below w.heap.size w ((((((((wr.setCell ⟨B, 0, none⟩ x0).setCell ⟨B, 1, none⟩ x1).setCell ⟨B, 2, none⟩ x2).setCell ⟨B, 3, none⟩ x3).setCell ⟨B, 4, none⟩ x4).setCell ⟨B, 5, none⟩ x5).setCell ⟨B, 6, none⟩ x6).setCell ⟨B, 7, none⟩ x7) :=
 (((((((h.setCell hB _).setCell hB _).setCell hB _).setCell hB _).setCell hB _).setCell hB _).setCell hB _).setCell hB _
def sumR (j : Nat) : Option Rel := if j = 2 then some (relK .i64 [6, 11, 25]) else none
theorem sumR_is (j : Nat) : (sumR j).isSome = (j == 2) := by
 unfold sumR
 by_cases h : j = 2
 ·simp [h]
 ·simp [h]
def sumT : List (List Nat) := [[], [], [], [1, 2], [0, 1, 2, 3], [], [], [], [], [7, 8], [6, 7, 8, 9], [5, 6, 7, 8, 9, 10], [0, 1, 2, 3, 4, 5, 6, 7, 8, 9, 10, 11], [], [0, 1, 2, 3, 4, 5, 6, 7, 8, 9, 10, 11, 12, 13], [], [15], [15, 16], [0, 1, 2, 3, 4, 5, 6, 7, 8, 9, 10, 11, 12, 13, 14, 15, 16, 17], [0, 1, 2, 3, 4, 5, 6, 7, 8, 9, 10, 11, 12, 13, 14, 15, 16, 17, 18]]
theorem JJ {s : S8} {b : List Nat} (hs : s.Ok) (hb : jO b) (hl : b.length = 64) (w : World) :
  Calls Tryz.prog 127 #[s.val, .agg (jq .u8 b).toArray] w fun e w' => e = .returned (Qh s b).val ∧ Below w.heap.size w w' := by
 obtain ⟨T, hT⟩ := je ((jq .u8 b).toArray); rw [← hT]; have HS := jh (fun t1 t2 t3 t4 => tkw_start w s b T hT hl t1 t2 t3 t4); have HBy := jh hb; have HOk := jh hs; clear hT hs hb hl; unfold S8.val
 go_enter Tryz.func127, Tryz.ntmps127
 go_wp2_with fail
 go_loopw [22] (fun i wr => ∃ k : Nat, k ≤ 64 ∧ i = .int .i64 k ∧ Hid (TkW w wr s b w.heap.size k)) (fun i _ => 64 - (intOf i).toNat)
 case atStart => exact ⟨0, Nat.zero_le _, rfl, jh (HS.out _ _ _ _ _ rfl)⟩
 case round =>
  obtain ⟨k, hk, rfl, HT⟩ := hrel
  by_cases hlt : k < 64
  ·by_cases h16 : k < 16
   ·obtain ⟨m, hm⟩ := je (4 * k); obtain ⟨m1, hm1⟩ := je (4 * k + 1); obtain ⟨m2, hm2⟩ := je (4 * k + 2); obtain ⟨m3, hm3⟩ := je (4 * k + 3); have r0 := HT.out.sB (4 * k) (by omega); have r1 := HT.out.sB (4 * k + 1) (by omega); have r2 := HT.out.sB (4 * k + 2) (by omega); have r3 := HT.out.sB (4 * k + 3) (by omega); have q0 := HT.out.sW k (by omega); have f0 := HT.out.fW k (by omega); rw [Nat.zero_add, ← hm] at r0; rw [Nat.zero_add, ← hm1] at r1; rw [Nat.zero_add, ← hm2] at r2; rw [Nat.zero_add, ← hm3] at r3; rw [Nat.zero_add] at q0; have i0 : (4 : Int) * (k : Int) = (m : Int) := by omega
    have i1 : (m : Int) + 1 = (m1 : Int) := by omega
    have i2 : (m : Int) + 2 = (m2 : Int) := by omega
    have i3 : (m : Int) + 3 = (m3 : Int) := by omega
    have HX := jh (show swd b k = qE b (4 * k) * 16777216 + qE b (4 * k + 1) * 65536 + qE b (4 * k + 2) * 256 + qE b (4 * k + 3) from rfl); rw [← hm1, ← hm2, ← hm3, ← hm] at HX; have y0 := zX HBy.out m; have y1 := zX HBy.out m1; have y2 := zX HBy.out m2; have y3 := zX HBy.out m3
    generalize qE b m = x0 at r0 HX y0
    generalize qE b m1 = x1 at r1 HX y1
    generalize qE b m2 = x2 at r2 HX y2
    generalize qE b m3 = x3 at r3 HX y3
    have HTx := HT; clear HT; have b0 : (m : Int) < 64 := by omega
    have b1 : (m1 : Int) < 64 := by omega
    have b2 : (m2 : Int) < 64 := by omega
    have b3 : (m3 : Int) < 64 := by omega
    have h16I : (k : Int) < 16 := by omega
    have hltI : (k : Int) < 64 := by omega
    have v0 := qL (n := m) (by omega); have v1 := qL (n := m1) (by omega); have v2 := qL (n := m2) (by omega); have v3 := qL (n := m3) (by omega); have u0 := QW (n := x0) (by omega); have u1 := QW (n := x1) (by omega); have u2 := QW (n := x2) (by omega); have u3 := QW (n := x3) (by omega); obtain ⟨X0, hX0⟩ := je (x0 * 16777216); obtain ⟨X1, hX1⟩ := je (x1 * 65536); obtain ⟨X2, hX2⟩ := je (x2 * 256); obtain ⟨Y1, hY1⟩ := je (X0 + X1); obtain ⟨Y2, hY2⟩ := je (Y1 + X2); obtain ⟨Y3, hY3⟩ := je (Y2 + x3); have c0 := Zq x0 16777216 X0 (by omega) (by omega); have c1 := Zq x1 65536 X1 (by omega) (by omega); have c2 := Zq x2 256 X2 (by omega) (by omega); have o1 := Zu (x := X0) (y := X1) (k := 24) (by omega) (by omega) (by omega) (by omega); have o2 := Zu (x := Y1) (y := X2) (k := 16) (by omega) (by omega) (by omega) (by omega); have o3 := Zu (x := Y2) (y := x3) (k := 8) (by omega) (by omega) (by omega) (by omega); rw [← hY1] at o1; rw [← hY2] at o2; rw [← hY3] at o3; have HX := jh (show Y3 = swd b k by rw [HX.out]; omega); have h16' := jh h16; clear hm hm1 hm2 hm3 h16 hlt hX0 hX1 hX2 hY1 hY2 hY3 y0 y1 y2 y3
    go_wp2
    refine jv 31 (fun _ => none) (by kernel_rfl) (by kernel_rfl) (fun _ _ _ _ _ h => h) (fun F hn9 hcl hbl => ?_); have r0 := fun X9 : Wd F => jm r0 (hbl X9.world X9.fact)
    have r1 := fun X9 : Wd F => jm r1 (hbl X9.world X9.fact)
    have r2 := fun X9 : Wd F => jm r2 (hbl X9.world X9.fact)
    have r3 := fun X9 : Wd F => jm r3 (hbl X9.world X9.fact)
    clear hcl hbl q0 f0; refine jG 31 0 _ _ (fun _ _ _ => rfl) (by decide) ?_; simp only [List.take_succ_cons, List.take_zero, List.drop_succ_cons, List.drop_zero, Nat.reduceAdd]
    repeat (go_big_quiet_step (fail))
    refine wpQuiet_nil ?_; refine jI ?_; intro bs w2 hb _ _; clear r0 r1 r2 r3; have HT2 := jh (HTx.out.later hb); have q0 := HT2.out.sW k (by omega); have f0 := HT2.out.fW k (by omega); rw [Nat.zero_add] at q0; simp only [qx]
    go_wp2_with fail
    go_roundw
    case rel => exact ⟨k + 1, by omega, by go_num, jh (HT2.out.set Y3 (by rw [if_pos h16'.out]; exact HX.out))⟩
    case measure => simp [intOf]; omega
   ·obtain ⟨m, hm⟩ := je (k - 15); obtain ⟨m1, hm1⟩ := je (k - 2); obtain ⟨m2, hm2⟩ := je (k - 16); obtain ⟨m3, hm3⟩ := je (k - 7); have r0 := jA HT.out.sW (j := m) (by omega); have r1 := jA HT.out.sW (j := m1) (by omega); have i0 : (k : Int) - 15 = (m : Int) := by omega
    have i1 : (k : Int) - 2 = (m1 : Int) := by omega
    have i2 : (k : Int) - 16 = (m2 : Int) := by omega
    have i3 : (k : Int) - 7 = (m3 : Int) := by omega
    have HX := jh (show sgap (jQ b k m) (jQ b k m1) (jQ b k m2) (jQ b k m3) = sgap (jQ b k (k - 15)) (jQ b k (k - 2)) (jQ b k (k - 16)) (jQ b k (k - 7)) by rw [hm, hm1, hm2, hm3]); have R2 := jh (fun (W : World) (h : TkW w W s b w.heap.size k) => jA h.sW (j := m2) (by omega)); have R3 := jh (fun (W : World) (h : TkW w W s b w.heap.size k) => jA h.sW (j := m3) (by omega)); have y0 := zi HBy.out k m; have y1 := zi HBy.out k m1; have y2 := zi HBy.out k m2; have y3 := zi HBy.out k m3
    generalize jQ b k m = x at r0 HX y0
    generalize jQ b k m1 = y at r1 HX y1
    generalize jQ b k m2 = p at R2 HX y2
    generalize jQ b k m3 = q at R3 HX y3
    have b0 : (m : Int) < 64 := by omega
    have b1 : (m1 : Int) < 64 := by omega
    have b2 : (m2 : Int) < 64 := by omega
    have b3 : (m3 : Int) < 64 := by omega
    have h16I : ¬ (k : Int) < 16 := by omega
    have hltI : (k : Int) < 64 := by omega
    have v0 := qL (n := m) (by omega); have v1 := qL (n := m1) (by omega); have v2 := qL (n := m2) (by omega); have v3 := qL (n := m3) (by omega); obtain ⟨g1, hg1⟩ : ∃ g, Jn x [7, 18] = g := ⟨_, rfl⟩; obtain ⟨g2, hg2⟩ : ∃ g, Jn y [17, 19] = g := ⟨_, rfl⟩; have lg1 : g1 < 2 ^ 32 := by rw [← hg1]; exact Zf y0 (by decide)
    have lg2 : g2 < 2 ^ 32 := by rw [← hg2]; exact Zf y1 (by decide)
    have CG1 := jh (fun (W : World) (a : Option Addr) (c : Nat) h => mix_at y0 (by decide) hg1 W (a := a) (c := c) h); have CG2 := jh (fun (W : World) (a : Option Addr) (c : Nat) h => mix_at y1 (by decide) hg2 W (a := a) (c := c) h); obtain ⟨x8, hx8⟩ := je (x / 8); obtain ⟨y8, hy8⟩ := je (y / 1024); have d1 : (x : Int) / 8 = (x8 : Int) := by omega
    have d2 : (y : Int) / 1024 = (y8 : Int) := by omega
    obtain ⟨s1, hs1⟩ := je ((p + q) % 4294967296); obtain ⟨t1, ht1⟩ := je (g1 ^^^ x8); obtain ⟨t2, ht2⟩ := je (g2 ^^^ y8); obtain ⟨s2, hs2⟩ := je ((s1 + t1) % 4294967296); obtain ⟨s3, hs3⟩ := je ((s2 + t2) % 4294967296)
    have HX := jh (show s3 = sgap (jQ b k (k - 15)) (jQ b k (k - 2)) (jQ b k (k - 16)) (jQ b k (k - 7)) by
     rw [← HX.out]; unfold sgap; rw [hg1, hg2, ← hx8, ← hy8, ← ht1, ← ht2]; omega)
    have o1 := Ju s1 hs1; have o2 := QK (by omega) (by omega) t1 ht1; have o3 := Ju s2 hs2; have o4 := QK (by omega) (by omega) t2 ht2; have o5 := Ju s3 hs3; have h16' := jh h16; have HTx := HT; clear HT hm hm1 hm2 hm3 h16 hlt hs1 ht1 ht2 hs2 hs3 hx8 hy8 hg1 hg2 lg1 lg2 y0 y1 y2 y3
    go_wp2
    refine qX [(0, true), (1, true), (2, true), (3, true), (4, true), (5, true), (6, true), (7, true), (8, true), (9, true)] (fun w8 => w8.cell? ⟨w.heap.size + 1 + 1 + 1, m, none⟩ = some (.int .u32 x) ∧ w8.cell? ⟨w.heap.size + 1 + 1 + 1, m1, none⟩ = some (.int .u32 y)) (by kernel_rfl) (by kernel_rfl) (fun _ _ _ _ _ h => h) (⟨r0, r1⟩) (fun hHeld => ?_)
    iterate 10
     refine WP.tk rfl (k := ?_)
    refine WP.done ?_; clear hHeld
    go_wp2_with fail
    obtain ⟨w2, e2⟩ := je (wr.drew); have HT2 := jh (HTx.out.later (show Below wr.heap.size wr w2 by rw [e2]; exact (Below.refl _ _).drew)); rw [← e2]; clear e2 HTx r0 r1; refine Qz 25 (fun j => j == 11 || j == 18) gapR gapT [.seg 11 [], .one [], .seg 1 [11], .seg 5 [], .one [], .seg 1 [18], .seg 5 []] (by kernel_rfl) (by kernel_rfl) gapR_is (fun _ _ _ _ _ h => h) (fun xs => ?_); unfold wpS; intro F hn9 hcl hC; have r2 := fun X9 : Wd F => R2.out _ (HT2.out.later (hC _ X9.fact).1)
    have r3 := fun X9 : Wd F => R3.out _ (HT2.out.later (hC _ X9.fact).1)
    clear hC hcl; simp only [List.take_succ_cons, List.take_zero, List.drop_succ_cons, List.drop_zero, Nat.reduceAdd]
    repeat (go_big_quiet_step (fail))
    refine wpQuiet_nil ?_; clear r2 r3 hn9; refine wpS_one 77 rfl rfl rfl rfl (by go_simp) (fun w4 h4 hD => ZA (w' := w4.alloc (.cells #[.int .i64 7, .int .i64 18] 3)) (v := .slice (some ⟨w4.heap.size, 0, none⟩) 2 2) (by go_simp) (ja) ⟨⟨some ⟨w4.heap.size, 0, none⟩, 2, 2, w4.heap.size, w4.heap.size + 1⟩, rfl, rfl, by simp, KAt.made w4 [7, 18] (by decide) _ rfl _⟩) (by go_simp; rfl) ?_; unfold wpS; intro F hn9 hcl hC; have HCL := jh hcl; have k1 := fun X9 : Wd F => (hC _ X9.fact).2 11 (by simp) (relK .i64 [7, 18]) rfl
    clear hC hcl; simp only [List.take_succ_cons, List.take_zero, List.drop_succ_cons, List.drop_zero, Nat.reduceAdd]
    go_big_quiet_step ((go_at_call 140; exact js HCL.out (CG1.out _ _ _ (k1 _))))
    refine wpQuiet_nil ?_; clear k1 HCL hn9; unfold wpS; intro F hn9 hcl hC; clear hC hcl; simp only [List.take_succ_cons, List.take_zero, List.drop_succ_cons, List.drop_zero, Nat.reduceAdd]
    repeat (go_big_quiet_step (fail))
    refine wpQuiet_nil ?_; clear hn9; refine wpS_one 84 rfl rfl rfl rfl (by go_simp) (fun w4 h4 hD => ZA (w' := w4.alloc (.cells #[.int .i64 17, .int .i64 19] 3)) (v := .slice (some ⟨w4.heap.size, 0, none⟩) 2 2) (by go_simp) (ja) ⟨⟨some ⟨w4.heap.size, 0, none⟩, 2, 2, w4.heap.size, w4.heap.size + 1⟩, rfl, rfl, by simp, KAt.made w4 [17, 19] (by decide) _ rfl _⟩) (by go_simp; rfl) ?_; unfold wpS; intro F hn9 hcl hC; have HCL := jh hcl; have k1 := fun X9 : Wd F => (hC _ X9.fact).2 18 (by simp) (relK .i64 [17, 19]) rfl
    clear hC hcl; simp only [List.take_succ_cons, List.take_zero, List.drop_succ_cons, List.drop_zero, Nat.reduceAdd]
    go_big_quiet_step ((go_at_call 140; exact js HCL.out (CG2.out _ _ _ (k1 _))))
    refine wpQuiet_nil ?_; clear k1 HCL hn9; unfold wpS; intro F hn9 hcl hC; clear hC hcl; simp only [List.take_succ_cons, List.take_zero, List.drop_succ_cons, List.drop_zero, Nat.reduceAdd]
    repeat (go_big_quiet_step (fail))
    refine wpQuiet_nil ?_; clear hn9; unfold wpS; intro w4 hb hall hap; clear hall hap; have HT3 := jh (HT2.out.later hb); clear hb HT2; have q0 := jA HT3.out.sW (j := k) (by omega); have f0 := HT3.out.fW k (by omega)
    go_wp2_with fail
    go_roundw
    case rel => exact ⟨k + 1, by omega, by go_num, jh (HT3.out.set s3 (by rw [if_neg h16'.out]; exact HX.out))⟩
    case measure => simp [intOf]; omega
  ·obtain rfl : k = 64 := by omega
   have HTx := HT; clear HT; have c0 : wr.cell? ⟨w.heap.size, 0, none⟩ = some (.int .u32 s.a) := jA HTx.out.sS (j := 0) (by decide); have c1 : wr.cell? ⟨w.heap.size, 1, none⟩ = some (.int .u32 s.b) := jA HTx.out.sS (j := 1) (by decide); have c2 : wr.cell? ⟨w.heap.size, 2, none⟩ = some (.int .u32 s.c) := jA HTx.out.sS (j := 2) (by decide); have c3 : wr.cell? ⟨w.heap.size, 3, none⟩ = some (.int .u32 s.d) := jA HTx.out.sS (j := 3) (by decide); have c4 : wr.cell? ⟨w.heap.size, 4, none⟩ = some (.int .u32 s.e) := jA HTx.out.sS (j := 4) (by decide); have c5 : wr.cell? ⟨w.heap.size, 5, none⟩ = some (.int .u32 s.f) := jA HTx.out.sS (j := 5) (by decide); have c6 : wr.cell? ⟨w.heap.size, 6, none⟩ = some (.int .u32 s.g) := jA HTx.out.sS (j := 6) (by decide); have c7 : wr.cell? ⟨w.heap.size, 7, none⟩ = some (.int .u32 s.h) := jA HTx.out.sS (j := 7) (by decide)
   go_wp2_with fail
   clear c0 c1 c2 c3 c4 c5 c6 c7; obtain ⟨NN, hNN⟩ := je (wr.heap.size); have HN := jh (tkn_start HTx.out 112); rw [← hNN] at HN; rw [← hNN]; obtain ⟨w1, e1⟩ := je (wr.alloc (.cells #[.int .u32 s.a, .int .u32 s.b, .int .u32 s.c, .int .u32 s.d, .int .u32 s.e, .int .u32 s.f, .int .u32 s.g, .int .u32 s.h] 112)); rw [← e1] at HN; rw [← e1]; clear e1 hNN HTx; refine (steps_any w1).mono ?_; rintro _ w2 ⟨rfl, hb⟩; have HN := jh (HN.out.later hb); clear hb; obtain ⟨TK, hTK⟩ := je ((jq .u32 JV).toArray); rw [← hTK]; have HI := jh idx_steps; rw [← hTK] at HI; clear hTK
   go_wp2_with fail
   go_loopw [94] (fun i wr => ∃ k : Nat, k ≤ 64 ∧ i = .int .i64 k ∧ Hid (TkN w wr s b w.heap.size NN (qE (Qf b s k).list))) (fun i _ => 64 - (intOf i).toNat)
   case atStart => exact ⟨0, Nat.zero_le _, rfl, HN⟩
   case round =>
    obtain ⟨k, hk, rfl, HT⟩ := hrel
    by_cases hlt : k < 64
    ·have hltI : (k : Int) < 64 := by omega
     have hix := HI.out k hlt; have HLT := jh hlt; have y0 := shaK_lt k; have y1 := zi HBy.out 64 k; have HTx := HT; have hok := ZY b HOk.out k; have HR := jh (show Qf b s (k + 1) = rnd (Qf b s k) (qE JV k) (jQ b 64 k) from rfl); have RW := jh (fun (W : World) (h : TkN w W s b w.heap.size NN (qE (Qf b s k).list)) => jA h.base.sW (j := k) hlt); obtain ⟨z, hz⟩ := je (Qf b s k); rw [← hz] at HTx hok HR RW; clear hz HT
     generalize qE JV k = kk at hix HR y0
     generalize jQ b 64 k = wk at RW HR y1
     obtain ⟨za, zb, zc, zd, ze, zf, zg, zh⟩ := z; have RN := jh (fun (W : World) (h : TkN w W s b w.heap.size NN (qE (S8.list ⟨za, zb, zc, zd, ze, zf, zg, zh⟩))) => tkn_read h); obtain ⟨l0, l1, l2, l3, l4, l5, l6, l7⟩ := hok; simp only at l0 l1 l2 l3 l4 l5 l6 l7; clear hlt
     go_wp2_with fail
     obtain ⟨c0, c1, c2, c3, c4, c5, c6, c7⟩ := RN.out _ HTx.out; refine qX [(0, true), (1, true), (2, true), (3, true), (4, true), (5, true), (6, true), (7, true), (8, true), (9, true), (10, true), (11, true), (12, true), (13, true), (14, true), (15, true), (16, true), (17, true), (18, true), (19, true), (20, true), (21, true), (22, true), (23, true)] (fun w8 => w8.cell? ⟨NN, 0, none⟩ = some (.int .u32 za) ∧ w8.cell? ⟨NN, 1, none⟩ = some (.int .u32 zb) ∧ w8.cell? ⟨NN, 2, none⟩ = some (.int .u32 zc) ∧ w8.cell? ⟨NN, 3, none⟩ = some (.int .u32 zd) ∧ w8.cell? ⟨NN, 4, none⟩ = some (.int .u32 ze) ∧ w8.cell? ⟨NN, 5, none⟩ = some (.int .u32 zf) ∧ w8.cell? ⟨NN, 6, none⟩ = some (.int .u32 zg) ∧ w8.cell? ⟨NN, 7, none⟩ = some (.int .u32 zh)) (by kernel_rfl) (by kernel_rfl) (fun _ _ _ _ _ h => h) (⟨c0, c1, c2, c3, c4, c5, c6, c7⟩) (fun hHeld => ?_)
     iterate 24
      refine WP.tk rfl (k := ?_)
     refine WP.done ?_; clear hHeld c0 c1 c2 c3 c4 c5 c6 c7; obtain ⟨g1, hg1⟩ : ∃ g, Jn ze [6, 11, 25] = g := ⟨_, rfl⟩; obtain ⟨g2, hg2⟩ : ∃ g, Jn za [2, 13, 22] = g := ⟨_, rfl⟩; have lg1 : g1 < 2 ^ 32 := by rw [← hg1]; exact Zf l4 (by decide)
     have lg2 : g2 < 2 ^ 32 := by rw [← hg2]; exact Zf l0 (by decide)
     have CG1 := jh (fun (W : World) (a : Option Addr) (c : Nat) h => mix_at l4 (by decide) hg1 W (a := a) (c := c) h); have CG2 := jh (fun (W : World) (a : Option Addr) (c : Nat) h => mix_at l0 (by decide) hg2 W (a := a) (c := c) h); obtain ⟨x1, hx1⟩ := je (zf ^^^ zg); have n1 : x1 < 2 ^ 32 := by rw [hx1]; exact Nat.xor_lt_two_pow l5 l6
     obtain ⟨x2, hx2⟩ := je (ze &&& x1); have n2 : x2 < 2 ^ 32 := by rw [hx2]; exact Nat.and_lt_two_pow _ n1
     obtain ⟨x3, hx3⟩ := je (zg ^^^ x2); have n3 : x3 < 2 ^ 32 := by rw [hx3]; exact Nat.xor_lt_two_pow l6 n2
     obtain ⟨a1, ha1⟩ := je ((zh + g1) % 4294967296); obtain ⟨a2, ha2⟩ := je ((a1 + x3) % 4294967296); obtain ⟨a3, ha3⟩ := je ((a2 + kk) % 4294967296); obtain ⟨a4, ha4⟩ := je ((a3 + wk) % 4294967296); obtain ⟨b1, hb1⟩ := je ((a4 + g2) % 4294967296); obtain ⟨p1, hp1⟩ := je (za &&& zb); obtain ⟨p2, hp2⟩ := je (za &&& zc); obtain ⟨p3, hp3⟩ := je (p1 ^^^ p2); obtain ⟨p4, hp4⟩ := je (zb &&& zc); obtain ⟨p5, hp5⟩ := je (p3 ^^^ p4); have n4 : p1 < 2 ^ 32 := by rw [hp1]; exact Nat.and_lt_two_pow _ l1
     have n5 : p2 < 2 ^ 32 := by rw [hp2]; exact Nat.and_lt_two_pow _ l2
     have n6 : p3 < 2 ^ 32 := by rw [hp3]; exact Nat.xor_lt_two_pow n4 n5
     have n7 : p4 < 2 ^ 32 := by rw [hp4]; exact Nat.and_lt_two_pow _ l2
     obtain ⟨b2, hb2⟩ := je ((b1 + p5) % 4294967296); obtain ⟨b3, hb3⟩ := je ((zd + a4) % 4294967296); have o1 := Ju a1 ha1; have o2 := Ju a2 ha2; have o3 := Ju a3 ha3; have o4 := Ju a4 ha4; have o5 := Ju b1 hb1; have o6 := Ju b2 hb2; have o7 := Ju b3 hb3; have o8 := QK l5 l6 x1 hx1; have o9 := andU l4 n1 x2 hx2; have o10 := QK l6 n2 x3 hx3; have o11 := andU l0 l1 p1 hp1; have o12 := andU l0 l2 p2 hp2; have o13 := QK n4 n5 p3 hp3; have o14 := andU l1 l2 p4 hp4; have o15 := QK n6 n7 p5 hp5
     have HR := jh (show Qf b s (k + 1) = ⟨b2, za, zb, zc, b3, ze, zf, zg⟩ by
      rw [HR.out]; unfold rnd shaT; simp only [hg1, hg2, ← hx1, ← hx2, ← hx3, ← hp1, ← hp2, ← hp3, ← hp4, ← hp5]
      congr 1 <;> omega)
     clear hx1 hx2 hx3 ha1 ha2 ha3 ha4 hb1 hb2 hb3 hp1 hp2 hp3 hp4 hp5 n1 n2 n3 n4 n5 n6 n7 l0 l1 l2 l3 l4 l5 l6 l7 lg1 lg2 hg1 hg2 y0 y1
     go_wp2_with fail
     obtain ⟨w3, e3⟩ := je (wr.drew); have HT2 := jh (HTx.out.later (show Below wr.heap.size wr w3 by rw [e3]; exact (Below.refl _ _).drew)); rw [← e3]; clear e3 HTx; refine Qz 19 (fun j => j == 2) sumR sumT [.seg 2 [], .one [], .seg 1 [2], .seg 15 []] (by kernel_rfl) (by kernel_rfl) sumR_is (fun _ _ _ _ _ h => h) (fun xs => ?_); unfold wpS; intro F hn9 hcl hC; clear hC hcl; simp only [List.take_succ_cons, List.take_zero, List.drop_succ_cons, List.drop_zero, Nat.reduceAdd]
     repeat (go_big_quiet_step (fail))
     refine wpQuiet_nil ?_; clear hn9; refine wpS_one 116 rfl rfl rfl rfl (by go_simp) (fun w4 h4 hD => ZA (w' := w4.alloc (.cells #[.int .i64 6, .int .i64 11, .int .i64 25] 3)) (v := .slice (some ⟨w4.heap.size, 0, none⟩) 3 3) (by go_simp) (ja) ⟨⟨some ⟨w4.heap.size, 0, none⟩, 3, 3, w4.heap.size, w4.heap.size + 1⟩, rfl, rfl, by simp, KAt.made w4 [6, 11, 25] (by decide) _ rfl _⟩) (by go_simp; rfl) ?_; unfold wpS; intro F hn9 hcl hC; have HCL := jh hcl; have k1 := fun X9 : Wd F => (hC _ X9.fact).2 2 (by simp) (relK .i64 [6, 11, 25]) rfl
     clear hC hcl; simp only [List.take_succ_cons, List.take_zero, List.drop_succ_cons, List.drop_zero, Nat.reduceAdd]
     go_big_quiet_step ((go_at_call 140; exact js HCL.out (CG1.out _ _ _ (k1 _))))
     refine wpQuiet_nil ?_; clear k1 HCL hn9; unfold wpS; intro F hn9 hcl hC; have r2 := fun X9 : Wd F => RW.out _ (HT2.out.later (hC _ X9.fact).1)
     clear hC hcl; simp only [List.take_succ_cons, List.take_zero, List.drop_succ_cons, List.drop_zero, Nat.reduceAdd]
     repeat (go_big_quiet_step (fail))
     refine wpQuiet_nil ?_; clear hn9 r2; unfold wpS; intro w4 hb hall hap; clear hall hap; have HT3 := jh (HT2.out.later hb); clear hb HT2
     go_wp2_with fail
     have HT4 := jh (HT3.out.later ((Below.refl w4.heap.size w4).alloc (Nat.le_refl _) (.cells #[.int .i64 2, .int .i64 13, .int .i64 22] 3))); refine (CG2.out _ _ _ (KAt.made w4 [2, 13, 22] (by decide) _ rfl _)).mono ?_; rintro _ w5 ⟨rfl, hb⟩; have HT5 := jh (HT4.out.later hb); clear hb HT3 HT4; obtain ⟨c0, c1, c2, c3, c4, c5, c6, c7⟩ := RN.out _ HT5.out; have f0 := HT5.out.fN 0 (by decide); have f1 := HT5.out.fN 1 (by decide); have f2 := HT5.out.fN 2 (by decide); have f3 := HT5.out.fN 3 (by decide); have f4 := HT5.out.fN 4 (by decide); have f5 := HT5.out.fN 5 (by decide); have f6 := HT5.out.fN 6 (by decide); have f7 := HT5.out.fN 7 (by decide)
     go_wp2_with fail
     go_roundw
     case rel => exact ⟨k + 1, by have := HLT.out; omega, by go_num, jh (HT5.out.set8 _ _ _ _ _ _ _ _ _ (by rw [HR.out]; rfl))⟩
     case measure => simp [intOf]; omega
    ·obtain rfl : k = 64 := by omega
     have HTx := HT; clear HT; have hok := ZY b HOk.out 64; have HF := jh (show Qh s b = (Qf b s 64).plus s from rfl); obtain ⟨z, hz⟩ := je (Qf b s 64); rw [← hz] at HTx hok HF; clear hz
     go_wp2_with fail
     go_loopw [161] (fun i wr => ∃ k : Nat, k ≤ 8 ∧ i = .int .i64 k ∧ Hid (TkN w wr s b w.heap.size NN (QF z s k))) (fun i _ => 8 - (intOf i).toNat)
     case atStart => exact ⟨0, Nat.zero_le _, rfl, jh (by rw [plusA_zero]; exact HTx.out)⟩
     case round =>
      obtain ⟨k, hk, rfl, HT⟩ := hrel
      by_cases hlt : k < 8
      ·have hltI : (k : Int) < 8 := by omega
       have HLT := jh hlt; have HTy := HT; have r0 := jA HT.out.nn hlt; rw [plusA_self] at r0; have r1 := jA HT.out.base.sS hlt; have HN9 := jh (plusA_next z s k)
       generalize qE z.list k = x at r0 HN9
       generalize qE s.list k = y at r1 HN9
       obtain ⟨t, ht⟩ := je ((x + y) % 4294967296); have o1 := Ju t ht; rw [← ht] at HN9; clear ht HT hlt
       go_wp2_with fail
       refine jv 8 (fun _ => none) (by kernel_rfl) (by kernel_rfl) (fun _ _ _ _ _ h => h) (fun F hn9 hcl hbl => ?_); have r0 := fun X9 : Wd F => jm r0 (hbl X9.world X9.fact)
       have r1 := fun X9 : Wd F => jm r1 (hbl X9.world X9.fact)
       clear hcl hbl; refine jG 8 0 _ _ (fun _ _ _ => rfl) (by decide) ?_; simp only [List.take_succ_cons, List.take_zero, List.drop_succ_cons, List.drop_zero, Nat.reduceAdd]
       repeat (go_big_quiet_step (fail))
       refine wpQuiet_nil ?_; refine jI ?_; intro bs w2 hb _ _; clear r0 r1; have HT2 := jh (HTy.out.later hb); have q0 := jA HT2.out.nn HLT.out; have f0 := HT2.out.fN k HLT.out; simp only [qx]
       go_wp2_with fail
       go_roundw
       case rel => exact ⟨k + 1, by have := HLT.out; omega, by go_num, jh (HT2.out.set k t _ HN9.out)⟩
       case measure => simp [intOf]; have := HLT.out; omega
      ·obtain rfl : k = 8 := by omega
       have HTy := HT; clear HT; have hnn := HTy.out.nn.congr (plusA_all z s); rw [← HF.out] at hnn; obtain ⟨u, hu⟩ := je (Qh s b); rw [← hu] at hnn; obtain ⟨ua, ub, uc, ud, ue, uf, ug, uh⟩ := u; have HU := jh hu; clear hu; obtain ⟨c0, c1, c2, c3, c4, c5, c6, c7⟩ := qU hnn; have q0 := jA HTy.out.base.sR (j := 0) (by decide); have q1 := jA HTy.out.base.sR (j := 1) (by decide); have q2 := jA HTy.out.base.sR (j := 2) (by decide); have q3 := jA HTy.out.base.sR (j := 3) (by decide); have q4 := jA HTy.out.base.sR (j := 4) (by decide); have q5 := jA HTy.out.base.sR (j := 5) (by decide); have q6 := jA HTy.out.base.sR (j := 6) (by decide); have q7 := jA HTy.out.base.sR (j := 7) (by decide); have f0 := HTy.out.base.fR 0 (by decide); have f1 := HTy.out.base.fR 1 (by decide); have f2 := HTy.out.base.fR 2 (by decide); have f3 := HTy.out.base.fR 3 (by decide); have f4 := HTy.out.base.fR 4 (by decide); have f5 := HTy.out.base.fR 5 (by decide); have f6 := HTy.out.base.fR 6 (by decide); have f7 := HTy.out.base.fR 7 (by decide); clear hnn
       go_wp2_with fail
       have B9 := below_set8 (B := w.heap.size + 1 + 1) HTy.out.base.below (by omega) (.int .u32 ua) (.int .u32 ub) (.int .u32 uc) (.int .u32 ud) (.int .u32 ue) (.int .u32 uf) (.int .u32 ug) (.int .u32 uh); obtain ⟨g0, g1, g2, g3, g4, g5, g6, g7⟩ := qU (HTy.out.base.sR.set8 ua ub uc ud ue uf ug uh); rw [← HU.out]; refine bodyPost_ret (v := .agg #[.int .u32 ua, .int .u32 ub, .int .u32 uc, .int .u32 ud, .int .u32 ue, .int .u32 uf, .int .u32 ug, .int .u32 uh]) ?_ rfl ⟨rfl, B9⟩
       simp [results, Tryz.results127, go_sem, g0, g1, g2, g3, g4, g5, g6, g7]
def Qx (st : S8) (R : List Nat) (n : Nat) : List Value := .int .i64 1 :: .int .u32 st.a :: .int .u32 st.b :: .int .u32 st.c :: .int .u32 st.d :: .int .u32 st.e :: .int .u32 st.f :: .int .u32 st.g :: .int .u32 st.h :: (jq .u8 R ++ [.int .u64 n])
theorem Jx (st : S8) (R : List Nat) (n : Nat) : (Qx st R n).length = R.length + 10 := by unfold Qx; simp [jx]
def SumRaw (w : World) (S : Nat) (st : S8) (R : List Nat) (n : Nat) : Prop := R.length = 64 ∧ w.heap[S]? = some (.cells (Qx st R n).toArray 116 (0, 0))
theorem SumRaw.cell {w : World} {S : Nat} {st : S8} {R : List Nat} {n : Nat} (h : SumRaw w S st R n) (j : Nat) : w.cell? ⟨S, j, none⟩ = (Qx st R n)[j]? := by
 rw [cell_of_row w S j _ _ _ h.2]
 simp
theorem SumRaw.made {w : World} {S : Nat} {st : S8} {R : List Nat} {n : Nat} (h : SumRaw w S st R n) : w.cell? ⟨S, 0, none⟩ = some (.int .i64 1) := by rw [h.cell]; rfl
theorem SumRaw.now8 {w : World} {S : Nat} {st : S8} {R : List Nat} {n : Nat} (h : SumRaw w S st R n) :
  w.cell? ⟨S, 1, none⟩ = some (.int .u32 st.a) ∧ w.cell? ⟨S, 2, none⟩ = some (.int .u32 st.b) ∧ w.cell? ⟨S, 3, none⟩ = some (.int .u32 st.c) ∧ w.cell? ⟨S, 4, none⟩ = some (.int .u32 st.d) ∧
  w.cell? ⟨S, 5, none⟩ = some (.int .u32 st.e) ∧ w.cell? ⟨S, 6, none⟩ = some (.int .u32 st.f) ∧ w.cell? ⟨S, 7, none⟩ = some (.int .u32 st.g) ∧ w.cell? ⟨S, 8, none⟩ = some (.int .u32 st.h) := by
 refine ⟨?_, ?_, ?_, ?_, ?_, ?_, ?_, ?_⟩ <;> (rw [h.cell]; rfl)
theorem SumRaw.rest {w : World} {S : Nat} {st : S8} {R : List Nat} {n : Nat} (h : SumRaw w S st R n) (j : Nat) (hj : j < 64) : w.cell? ⟨S, 9 + j, none⟩ = some (.int .u8 (qE R j)) := by
 rw [h.cell, show 9 + j = j + 1 + 1 + 1 + 1 + 1 + 1 + 1 + 1 + 1 by omega]; unfold Qx; simp only [List.getElem?_cons_succ]; rw [List.getElem?_append_left (by rw [jx, h.1]; exact hj), qe, Qa (by rw [h.1]; exact hj)]
 rfl
theorem SumRaw.many {w : World} {S : Nat} {st : S8} {R : List Nat} {n : Nat} (h : SumRaw w S st R n) : w.cell? ⟨S, 73, none⟩ = some (.int .u64 n) := by
 rw [h.cell]; unfold Qx; simp only [List.getElem?_cons_succ]; rw [List.getElem?_append_right (by rw [jx, h.1]; decide), jx, h.1]
 rfl
theorem SumRaw.free {w : World} {S : Nat} {st : S8} {R : List Nat} {n : Nat} (h : SumRaw w S st R n) (j : Nat) : w.frozen? ⟨S, j, none⟩ = false := frozen_of_row w S j _ _ h.2
theorem SumRaw.lt {w : World} {S : Nat} {st : S8} {R : List Nat} {n : Nat} (h : SumRaw w S st R n) : S < w.heap.size := (Array.getElem?_eq_some_iff.1 h.2).1
theorem SumRaw.range {w : World} {S : Nat} {st : S8} {R : List Nat} {n : Nat} (h : SumRaw w S st R n) : w.rangeAt S 9 (jq .u8 R) := fun j v hj => by
 rw [qe] at hj; obtain ⟨x, hx, rfl⟩ := Option.map_eq_some_iff.1 hj; have hl : j < 64 := by have := (List.getElem?_eq_some_iff.1 hx).1; have := h.1; omega
 rw [h.rest j hl, ← Option.some.inj ((Qa (by rw [h.1]; exact hl)).symm.trans hx)]
theorem SumRaw.block {w w' : World} {S : Nat} {st : S8} {R : List Nat} {n : Nat} (h : SumRaw w S st R n) (hb : w'.heap[S]? = w.heap[S]?) : SumRaw w' S st R n := ⟨h.1, hb.trans h.2⟩
theorem SumRaw.later {w w' : World} {S : Nat} {st : S8} {R : List Nat} {n : Nat} (h : SumRaw w S st R n) (hb : Below w.heap.size w w') : SumRaw w' S st R n := h.block (hb.block S h.lt)
theorem SumRaw.setMany {w : World} {S : Nat} {st : S8} {R : List Nat} {n : Nat} (h : SumRaw w S st R n) (m : Nat) : SumRaw (w.setCell ⟨S, 73, none⟩ (.int .u64 m)) S st R m := by
 refine ⟨h.1, ?_⟩; rw [heap_setCell_same w S 73 _ _ _ h.2]
 congr 2
 have h9 := h.1; unfold Qx
 simp [jx, h9]
theorem SumRaw.setNow {w : World} {S : Nat} {st : S8} {R : List Nat} {n : Nat} (h : SumRaw w S st R n) (a b c d e f g i : Nat) :
  SumRaw ((((((((w.setCell ⟨S, 1, none⟩ (.int .u32 a)).setCell ⟨S, 2, none⟩ (.int .u32 b)).setCell ⟨S, 3, none⟩ (.int .u32 c)).setCell ⟨S, 4, none⟩ (.int .u32 d)).setCell ⟨S, 5, none⟩ (.int .u32 e)).setCell ⟨S, 6, none⟩ (.int .u32 f)).setCell ⟨S, 7, none⟩ (.int .u32 g)).setCell ⟨S, 8, none⟩ (.int .u32 i)) S ⟨a, b, c, d, e, f, g, i⟩ R n := by
 refine ⟨h.1, ?_⟩; have k1 := heap_setCell_same w S 1 _ _ (.int .u32 a) h.2; have k2 := heap_setCell_same _ S 2 _ _ (.int .u32 b) k1; have k3 := heap_setCell_same _ S 3 _ _ (.int .u32 c) k2; have k4 := heap_setCell_same _ S 4 _ _ (.int .u32 d) k3; have k5 := heap_setCell_same _ S 5 _ _ (.int .u32 e) k4; have k6 := heap_setCell_same _ S 6 _ _ (.int .u32 f) k5; have k7 := heap_setCell_same _ S 7 _ _ (.int .u32 g) k6; have k8 := heap_setCell_same _ S 8 _ _ (.int .u32 i) k7; refine k8.trans ?_; unfold Qx
 simp
theorem SumRaw.copy {w : World} {S : Nat} {st : S8} {R : List Nat} {n : Nat} (h : SumRaw w S st R n) (p : Nat) (c : List Nat) (hp : p + c.length ≤ 64) :
  SumRaw (w.setRow S ((Qx st R n).toArray.toList.take (9 + p) ++ (jq .u8 c ++ (Qx st R n).toArray.toList.drop (9 + p + (jq .u8 c).length))).toArray) S st (splice R p c) n := by
 have h9 := h.1; refine ⟨by rw [length_splice _ _ _ (by omega)]; exact h9, ?_⟩; rw [setRow_heap w S _ _ _ _ h.2]
 congr 2
 unfold splice Qx; rw [show 9 + p = p + 1 + 1 + 1 + 1 + 1 + 1 + 1 + 1 + 1 by omega, jx, show p + 1 + 1 + 1 + 1 + 1 + 1 + 1 + 1 + 1 + c.length = p + c.length + 1 + 1 + 1 + 1 + 1 + 1 + 1 + 1 + 1 by omega]; simp only [List.take_succ_cons, List.drop_succ_cons, List.cons_append]; rw [List.take_append_of_le_length (by rw [jx]; omega), List.drop_append_of_le_length (by rw [jx]; omega)]
 simp [jq, List.map_take, List.map_drop]
def SumAt (w : World) (S : Nat) (l : List Nat) : Prop := ∃ R, SumRaw w S (stN l (l.length / 64)) R l.length ∧ jO R ∧ R.take (l.length % 64) = l.drop (64 * (l.length / 64))
theorem SumAt.block {w w' : World} {S : Nat} {l : List Nat} (h : SumAt w S l) (hb : w'.heap[S]? = w.heap[S]?) : SumAt w' S l := by
 obtain ⟨R, h1, h2⟩ := h; exact ⟨R, h1.block hb, h2⟩
theorem SumAt.lt {w : World} {S : Nat} {l : List Nat} (h : SumAt w S l) : S < w.heap.size := by
 obtain ⟨R, h1, h2⟩ := h; exact h1.lt
theorem SumAt.later {w w' : World} {S : Nat} {l : List Nat} (h : SumAt w S l) (hb : Below w.heap.size w w') : SumAt w' S l := h.block (hb.block S h.lt)
theorem ZH {l R c : List Nat} (hR : R.length = 64) (h : R.take (l.length % 64) = l.drop (64 * (l.length / 64))) :
  (splice R (l.length % 64) c).take (l.length % 64 + c.length) = (l ++ c).drop (64 * (l.length / 64)) := by
 have h8 : (R.take (l.length % 64)).length = l.length % 64 := by rw [List.length_take, hR]; omega
 unfold splice; rw [h, List.drop_append_of_le_length (by omega), ← List.append_assoc]; rw [List.take_append_of_le_length (by rw [← h, List.length_append, h8]; omega)]; rw [List.take_of_length_le (by rw [← h, List.length_append, h8]; omega)]
theorem JU {R c : List Nat} {p : Nat} (hR : jO R) (hc : jO c) : jO (splice R p c) := by
 intro x hx; unfold splice at hx
 rcases List.mem_append.1 hx with h | h
 ·exact hR x (List.take_subset _ _ h)
 ·rcases List.mem_append.1 h with h | h
  ·exact hc x h
  ·exact hR x (List.drop_subset _ _ h)
theorem SumAt.part {w : World} {S : Nat} {l c R : List Nat} (h1 : SumRaw w S (stN l (l.length / 64)) (splice R (l.length % 64) c) (l.length + c.length)) (hR : R.length = 64) (hb : jO R) (hc : jO c)
  (h : R.take (l.length % 64) = l.drop (64 * (l.length / 64))) (hlt : l.length % 64 + c.length < 64) : SumAt w S (l ++ c) := by
 have e1 : (l ++ c).length / 64 = l.length / 64 := by rw [List.length_append]; omega
 have e2 : (l ++ c).length % 64 = l.length % 64 + c.length := by rw [List.length_append]; omega
 refine ⟨splice R (l.length % 64) c, ?_, JU hb hc, ?_⟩
 ·rw [e1, List.length_append, QL l c _ (by omega)]; exact h1
 ·rw [e1, e2]; exact ZH hR h
theorem SumAt.full {w : World} {S : Nat} {l c R : List Nat} (h1 : SumRaw w S (Qh (stN l (l.length / 64)) (splice R (l.length % 64) c)) (splice R (l.length % 64) c) (l.length + c.length)) (hR : R.length = 64) (hb : jO R) (hc : jO c)
  (h : R.take (l.length % 64) = l.drop (64 * (l.length / 64))) (he : l.length % 64 + c.length = 64) : SumAt w S (l ++ c) := by
 have e1 : (l ++ c).length / 64 = l.length / 64 + 1 := by rw [List.length_append]; omega
 have e2 : (l ++ c).length % 64 = 0 := by rw [List.length_append]; omega
 have e3 := ZH hR h (c := c); rw [he, List.take_of_length_le (by rw [length_splice _ _ _ (by omega)]; omega)] at e3; refine ⟨splice R (l.length % 64) c, ?_, JU hb hc, ?_⟩
 ·rw [e1, List.length_append, stN, QL l c _ (by omega), ← e3, List.take_of_length_le (by rw [length_splice _ _ _ (by omega)]; omega)]; exact h1
 ·rw [e1, e2, List.take_zero, List.drop_eq_nil_of_le (by rw [List.length_append]; omega)]
theorem u32_or {x y z : Nat} (hx : x < 4294967296) (hy : y < 4294967296) (h : (x ||| y) = z) : bits BinOp.or IntKind.u32 (x : Int) (y : Int) = (z : Int) := by rw [u32_or_nat x y hx hy, h]
theorem RRot_any {x k : Nat} (hx : x < 2 ^ 32) (h1 : 1 ≤ k) (h2 : k ≤ 31) (n : Int) (hn : n = (k : Int)) (w : World) :
  Calls Tryz.prog 134 #[.int .u32 x, .int .u64 n] w fun e w' => e = .returned (.int .u32 (zD x k)) ∧ w = w' := by
 subst hn; obtain ⟨m, hm⟩ := je (32 - k); have hI : (32 : Int) - (k : Int) = (m : Int) := by omega
 have o := u32_or (x := x / 2 ^ k) (y := x * 2 ^ m % 2 ^ 32) (Nat.lt_of_le_of_lt (Nat.div_le_self _ _) hx) (Nat.mod_lt _ (by decide)) (z := zD x k) (by rw [hm]; exact round_eq hx (by omega)); have E5 := jh o; clear hm o
 go_enter Tryz.func134, Tryz.ntmps134
 go_wp2
 go_ret
 exact ⟨by have h := E5.out; simp only [Int.natCast_emod, Int.natCast_mul, Int.natCast_pow, Int.natCast_ediv] at h; exact congrArg (fun n : Int => Ending.returned (.int .u32 n)) h, rfl⟩
theorem RTable_any (w : World) : Calls Tryz.prog 106 #[] w fun e w' => ∃ g, e = .returned (.slice (some ⟨g, 0, none⟩) 64 64) ∧ KAt .u32 w' (.slice (some ⟨g, 0, none⟩) 64 64) JV ∧ w.heap.size ≤ g ∧ Below w.heap.size w w' := by
 go_enter Tryz.func106, Tryz.ntmps106
 go_wp2_with fail
 refine bodyPost_ret (v := .slice (some ⟨w.heap.size, 0, none⟩) 64 64) ?_ rfl ⟨w.heap.size, rfl, KAt.made w JV (by decide) _ rfl _, Nat.le_refl _, ja⟩
 simp [results, Tryz.results106, go_sem]
structure BkW (w wr : World) (s : S8) (b : List Nat) (SS : Nat) (i : Nat) : Prop where
 sS : CAt .u32 wr SS 0 8 (qE s.list)
 sR : CAt .u32 wr (SS + 1) 0 8 (fun _ => 0)
 fR : FreeN wr (SS + 1) 8
 sW : CAt .u32 wr (SS + 1 + 1) 0 64 (jQ b i)
 fW : FreeN wr (SS + 1 + 1) 64
 below : Below w.heap.size w wr
 at9 : SS = w.heap.size
 lt : SS + 1 + 1 < wr.heap.size
theorem BkW.later {w wr w' : World} {s : S8} {b : List Nat} {SS i : Nat} (h : BkW w wr s b SS i) (hb : Below wr.heap.size wr w') : BkW w w' s b SS i :=
 ⟨h.sS.later hb, h.sR.later hb, h.fR.later hb (by have := h.lt; omega), h.sW.later hb, h.fW.later hb h.lt, jk h.below hb, h.at9, Nat.lt_of_lt_of_le h.lt hb.size⟩
theorem BkW.set {w wr : World} {s : S8} {b : List Nat} {SS i : Nat} (h : BkW w wr s b SS i) (x : Nat) (hx : x = (if i < 16 then swd b i else sgap (jQ b i (i - 15)) (jQ b i (i - 2)) (jQ b i (i - 16)) (jQ b i (i - 7)))) :
  BkW w (wr.setCell ⟨SS + 1 + 1, i, none⟩ (.int .u32 x)) s b SS (i + 1) := by
 refine ⟨h.sS.other _ _ (by omega), h.sR.other _ _ (by omega), h.fR.set _ _, ?_, h.fW.set _ _, h.below.setCell (by have := h.at9; show w.heap.size ≤ SS + 1 + 1; omega) _, h.at9, by simpa using h.lt⟩; refine (h.sW.set i x).congr fun j _ => ?_
 show _ = (if j = i then _ else _)
 rw [← hx]
theorem BkW.slice {w wr : World} {s : S8} {b : List Nat} {SS i : Nat} (h : BkW w wr s b SS i) {g o : Nat} {v : Value} (hc : w.cell? ⟨g, o, none⟩ = some v) : wr.cell? ⟨g, o, none⟩ = some v := jm hc h.below
theorem bkw_start (w : World) (s : S8) (b : List Nat) (t1 t2 t3 : TypeId) (Z : Array Value) (hZ : Z = Array.replicate 64 (.int .u32 0)) :
  BkW w (((w.alloc (.cells #[.int .u32 s.a, .int .u32 s.b, .int .u32 s.c, .int .u32 s.d, .int .u32 s.e, .int .u32 s.f, .int .u32 s.g, .int .u32 s.h] t1)).alloc (.cells #[.int .u32 0, .int .u32 0, .int .u32 0, .int .u32 0, .int .u32 0, .int .u32 0, .int .u32 0, .int .u32 0] t2)).alloc (.cells Z t3)) s b w.heap.size 0 := by
 have h1 := CAt.new (k := .u32) w s.list #[.int .u32 s.a, .int .u32 s.b, .int .u32 s.c, .int .u32 s.d, .int .u32 s.e, .int .u32 s.f, .int .u32 s.g, .int .u32 s.h] rfl t1 _ rfl; obtain ⟨w1, e1⟩ := je (w.alloc (.cells #[.int .u32 s.a, .int .u32 s.b, .int .u32 s.c, .int .u32 s.d, .int .u32 s.e, .int .u32 s.f, .int .u32 s.g, .int .u32 s.h] t1)); have n1 : w1.heap.size = w.heap.size + 1 := by rw [e1]; simp
 have b1 := jc e1; rw [← e1] at h1 ⊢; clear e1; have h3 := CAt.zero (k := .u32) w1 8 #[.int .u32 0, .int .u32 0, .int .u32 0, .int .u32 0, .int .u32 0, .int .u32 0, .int .u32 0, .int .u32 0] rfl t2 _ rfl; have f3 := FreeN.new w1 #[.int .u32 0, .int .u32 0, .int .u32 0, .int .u32 0, .int .u32 0, .int .u32 0, .int .u32 0, .int .u32 0] t2 8; obtain ⟨w3, e3⟩ := je (w1.alloc (.cells #[.int .u32 0, .int .u32 0, .int .u32 0, .int .u32 0, .int .u32 0, .int .u32 0, .int .u32 0, .int .u32 0] t2)); have n3 : w3.heap.size = w1.heap.size + 1 := by rw [e3]; simp
 have b3 := jc e3; rw [← e3] at h3 f3 ⊢; clear e3; have h4 := CAt.zero (k := .u32) w3 64 Z hZ t3 _ rfl; have f4 := FreeN.new w3 Z t3 64; obtain ⟨w4, e4⟩ := je (w3.alloc (.cells Z t3)); have n4 : w4.heap.size = w3.heap.size + 1 := by rw [e4]; simp
 have b4 := jc e4; rw [← e4] at h4 f4 ⊢; clear e4; rw [n1] at n3 h3 f3; rw [n3] at n4 h4 f4; exact ⟨(h1.later b3).later b4, h3.later b4, f3.later b4 (by omega), h4, f4, jk (jk b1 b3) b4, rfl, by omega⟩
structure BkN (w wr : World) (s : S8) (b : List Nat) (SS NN : Nat) (A : Nat → Nat) : Prop where
 base : BkW w wr s b SS 64
 nn : CAt .u32 wr NN 0 8 A
 fN : FreeN wr NN 8
 gt : SS + 1 + 1 < NN
 lt : NN < wr.heap.size
theorem BkN.later {w wr w' : World} {s : S8} {b : List Nat} {SS NN : Nat} {A : Nat → Nat} (h : BkN w wr s b SS NN A) (hb : Below wr.heap.size wr w') : BkN w w' s b SS NN A :=
 ⟨h.base.later hb, h.nn.later hb, h.fN.later hb h.lt, h.gt, Nat.lt_of_lt_of_le h.lt hb.size⟩
theorem BkW.other {w wr : World} {s : S8} {b : List Nat} {SS i NN : Nat} (h : BkW w wr s b SS i) (hg : SS + 1 + 1 < NN) (c : Nat) (v : Value) : BkW w (wr.setCell ⟨NN, c, none⟩ v) s b SS i :=
 ⟨h.sS.other _ _ (by omega), h.sR.other _ _ (by omega), h.fR.set _ _, h.sW.other _ _ (by omega), h.fW.set _ _, h.below.setCell (by have := h.at9; show w.heap.size ≤ NN; omega) _, h.at9, by simpa using h.lt⟩
theorem BkN.set {w wr : World} {s : S8} {b : List Nat} {SS NN : Nat} {A : Nat → Nat} (h : BkN w wr s b SS NN A) (c x : Nat) (C : Nat → Nat) (hC : ∀ j, C j = if j = c then x else A j) : BkN w (wr.setCell ⟨NN, c, none⟩ (.int .u32 x)) s b SS NN C :=
 ⟨h.base.other h.gt _ _, (h.nn.set c x).congr fun j _ => (hC j).symm, h.fN.set _ _, h.gt, by simpa using h.lt⟩
theorem BkN.set8 {w wr : World} {s : S8} {b : List Nat} {SS NN : Nat} {A : Nat → Nat} (h : BkN w wr s b SS NN A) (x0 x1 x2 x3 x4 x5 x6 x7 : Nat) (C : Nat → Nat) (hC : C = qE [x0, x1, x2, x3, x4, x5, x6, x7]) :
  BkN w ((((((((wr.setCell ⟨NN, 0, none⟩ (.int .u32 x0)).setCell ⟨NN, 1, none⟩ (.int .u32 x1)).setCell ⟨NN, 2, none⟩ (.int .u32 x2)).setCell ⟨NN, 3, none⟩ (.int .u32 x3)).setCell ⟨NN, 4, none⟩ (.int .u32 x4)).setCell ⟨NN, 5, none⟩ (.int .u32 x5)).setCell ⟨NN, 6, none⟩ (.int .u32 x6)).setCell ⟨NN, 7, none⟩ (.int .u32 x7)) s b SS NN C := by
 have h9 := (((((((h.set 0 x0 _ fun _ => rfl).set 1 x1 _ fun _ => rfl).set 2 x2 _ fun _ => rfl).set 3 x3 _ fun _ => rfl).set 4 x4 _ fun _ => rfl).set 5 x5 _ fun _ => rfl).set 6 x6 _ fun _ => rfl).set 7 x7 _ fun _ => rfl
 refine ⟨h9.base, h9.nn.congr fun j hj => ?_, h9.fN, h9.gt, h9.lt⟩; rw [hC]
 rcases (show j = 0 ∨ j = 1 ∨ j = 2 ∨ j = 3 ∨ j = 4 ∨ j = 5 ∨ j = 6 ∨ j = 7 by omega) with rfl | rfl | rfl | rfl | rfl | rfl | rfl | rfl <;> rfl
theorem bkn_start {w wr : World} {s : S8} {b : List Nat} {SS : Nat} (h : BkW w wr s b SS 64) (t : TypeId) :
  BkN w (wr.alloc (.cells #[.int .u32 s.a, .int .u32 s.b, .int .u32 s.c, .int .u32 s.d, .int .u32 s.e, .int .u32 s.f, .int .u32 s.g, .int .u32 s.h] t)) s b SS wr.heap.size (qE s.list) :=
 ⟨h.later (ja), CAt.new (k := .u32) wr s.list #[.int .u32 s.a, .int .u32 s.b, .int .u32 s.c, .int .u32 s.d, .int .u32 s.e, .int .u32 s.f, .int .u32 s.g, .int .u32 s.h] rfl t _ rfl, FreeN.new _ _ _ _, h.lt, by simp⟩
theorem mix2 (x a b : Nat) : Jn x [a, b] = zD x a ^^^ zD x b := by unfold Jn; simp
theorem mix3 (x a b c : Nat) : Jn x [a, b, c] = (zD x a ^^^ zD x b) ^^^ zD x c := by unfold Jn; simp
theorem not32 {e n : Nat} (he : e < 2 ^ 32) (hn : n = 2 ^ 32 - 1 - e) : bits BinOp.xor IntKind.u32 (if IntKind.u32.signed = true then -1 else IntKind.u32.max) (e : Int) = (n : Int) := by
 show bits BinOp.xor IntKind.u32 ((4294967295 : Nat) : Int) (e : Int) = (n : Int)
 rw [u32_xor_nat 4294967295 e (by omega) (by omega), hn]
 congr 1
 refine Nat.eq_of_testBit_eq fun i => ?_
 have h1 : (2 ^ 32 - 1 - e).testBit i = (decide (i < 32) && !e.testBit i) := by
  rw [show 2 ^ 32 - 1 - e = 2 ^ 32 - (e + 1) by omega]; exact Nat.testBit_two_pow_sub_succ he i
 rw [Nat.testBit_xor, h1, show (4294967295 : Nat) = 2 ^ 32 - 1 from rfl, Nat.testBit_two_pow_sub_one]
 by_cases hi : i < 32
 ·rw [decide_eq_true hi]
  cases e.testBit i <;> rfl
 ·have h3 : e.testBit i = false := Nat.testBit_lt_two_pow (Nat.lt_of_lt_of_le he (Nat.pow_le_pow_right (by decide) (by omega))); rw [decide_eq_false hi, h3]
  rfl
theorem ZR {k : IntKind} {w : World} {g o n c : Nat} {l : List Nat} (h : KAt k w (.slice (some ⟨g, o, none⟩) n c) l) {i : Nat} (hi : i < l.length) : w.cell? ⟨g, o + i, none⟩ = some (.int k (qE l i)) := by
 obtain ⟨ao, cap, e, h1, h2, h3, h4⟩ := h; obtain ⟨g', o', e2, h5⟩ := h4 (by omega); rw [e2] at e; injection e with e3 _ _
 injection e3 with e4
 injection e4 with e5 e6 _
 rw [e5, e6]; exact h5 i _ (Qa hi)
theorem RBlock_any {s : S8} {b : List Nat} {gb ob cb gk ok ck : Nat} (hs : s.Ok) (hb : jO b) (hl : b.length = 64) (w : World) (hB : KAt .u8 w (.slice (some ⟨gb, ob, none⟩) 64 cb) b) (hK : KAt .u32 w (.slice (some ⟨gk, ok, none⟩) 64 ck) JV) :
  Calls Tryz.prog 107 #[s.val, .slice (some ⟨gb, ob, none⟩) 64 cb, .slice (some ⟨gk, ok, none⟩) 64 ck] w fun e w' => e = .returned (Qh s b).val ∧ Below w.heap.size w w' := by
 have HS := jh (fun t1 t2 t3 => bkw_start w s b t1 t2 t3); have HBy := jh hb; have HOk := jh hs; have HBC := jh (show ∀ i, i < 64 → w.cell? ⟨gb, ob + i, none⟩ = some (.int .u8 (qE b i)) from fun i hi => ZR hB (by rw [hl]; exact hi)); have HKC := jh (show ∀ i, i < 64 → w.cell? ⟨gk, ok + i, none⟩ = some (.int .u32 (qE JV i)) from fun i hi => ZR hK (by exact hi)); have CR := jh (fun (x k : Nat) (n : Int) (hx : x < 2 ^ 32) (h1 : 1 ≤ k) (h2 : k ≤ 31) (hn : n = (k : Int)) (y : Nat) (hy : y = zD x k) => show ∀ W : World, Calls Tryz.prog 134 #[.int .u32 x, .int .u64 n] W (fun e w' => e = .returned (.int .u32 y) ∧ Below W.heap.size W w') from fun W => (RRot_any hx h1 h2 n hn W).mono (fun _ _ h => ⟨by rw [h.1, hy], h.2 ▸ Below.refl _ _⟩)); clear hs hb hl hB hK; unfold S8.val
 go_enter Tryz.func107, Tryz.ntmps107
 go_wp2_with fail
 go_loopw [8] (fun i wr => ∃ k : Nat, k ≤ 16 ∧ i = .int .i64 k ∧ Hid (BkW w wr s b w.heap.size k)) (fun i _ => 16 - (intOf i).toNat)
 case atStart => exact ⟨0, Nat.zero_le _, rfl, jh (HS.out _ _ _ _ rfl)⟩
 case round =>
  clear HS; obtain ⟨k, hk, rfl, HT⟩ := hrel
  by_cases hlt : k < 16
  ·obtain ⟨m0, hm0⟩ := je (4 * k + 0); obtain ⟨m1, hm1⟩ := je (4 * k + 1); obtain ⟨m2, hm2⟩ := je (4 * k + 2); obtain ⟨m3, hm3⟩ := je (4 * k + 3); have r0 := HT.out.slice (HBC.out m0 (by omega)); have r1 := HT.out.slice (HBC.out m1 (by omega)); have r2 := HT.out.slice (HBC.out m2 (by omega)); have r3 := HT.out.slice (HBC.out m3 (by omega)); have i0 : (4 : Int) * (k : Int) = (m0 : Int) := by omega
   have i1 : (m0 : Int) + 1 = (m1 : Int) := by omega
   have i2 : (m0 : Int) + 2 = (m2 : Int) := by omega
   have i3 : (m0 : Int) + 3 = (m3 : Int) := by omega
   have HX := jh (show swd b k = qE b m0 * 16777216 + qE b m1 * 65536 + qE b m2 * 256 + qE b m3 by rw [hm0, hm1, hm2, hm3]; rfl); have y0 := zX HBy.out m0
   generalize qE b m0 = x0 at r0 HX y0
   have y1 := zX HBy.out m1
   generalize qE b m1 = x1 at r1 HX y1
   have y2 := zX HBy.out m2
   generalize qE b m2 = x2 at r2 HX y2
   have y3 := zX HBy.out m3
   generalize qE b m3 = x3 at r3 HX y3
   have HTx := HT; clear HT; have b0 : (m0 : Int) < 64 := by omega
   have b1 : (m1 : Int) < 64 := by omega
   have b2 : (m2 : Int) < 64 := by omega
   have b3 : (m3 : Int) < 64 := by omega
   have hltI : (k : Int) < 16 := by omega
   have v0 := qL (n := m0) (by omega); have v1 := qL (n := m1) (by omega); have v2 := qL (n := m2) (by omega); have v3 := qL (n := m3) (by omega); have u0 := QW (n := x0) (by omega); have u1 := QW (n := x1) (by omega); have u2 := QW (n := x2) (by omega); have u3 := QW (n := x3) (by omega); obtain ⟨X0, hX0⟩ := je (x0 * 16777216); obtain ⟨X1, hX1⟩ := je (x1 * 65536); obtain ⟨X2, hX2⟩ := je (x2 * 256); obtain ⟨Y1, hY1⟩ := je (X0 + X1); obtain ⟨Y2, hY2⟩ := je (Y1 + X2); obtain ⟨Y3, hY3⟩ := je (Y2 + x3); have c0 := Zq x0 16777216 X0 (by omega) (by omega); have c1 := Zq x1 65536 X1 (by omega) (by omega); have c2 := Zq x2 256 X2 (by omega) (by omega); have o1 := Zu (x := X0) (y := X1) (k := 24) (by omega) (by omega) (by omega) (by omega); have o2 := Zu (x := Y1) (y := X2) (k := 16) (by omega) (by omega) (by omega) (by omega); have o3 := Zu (x := Y2) (y := x3) (k := 8) (by omega) (by omega) (by omega) (by omega); rw [← hY1] at o1; rw [← hY2] at o2; rw [← hY3] at o3; have HX := jh (show Y3 = swd b k by rw [HX.out]; omega); have HLT := jh hlt; clear hm0 hm1 hm2 hm3 hlt hX0 hX1 hX2 hY1 hY2 hY3 y0 y1 y2 y3
   go_wp2_with fail
   refine jv 35 (fun _ => none) (by kernel_rfl) (by kernel_rfl) (fun _ _ _ _ _ h => h) (fun F hn9 hcl hbl => ?_); have r0 := fun X9 : Wd F => jm r0 (hbl X9.world X9.fact)
   have r1 := fun X9 : Wd F => jm r1 (hbl X9.world X9.fact)
   have r2 := fun X9 : Wd F => jm r2 (hbl X9.world X9.fact)
   have r3 := fun X9 : Wd F => jm r3 (hbl X9.world X9.fact)
   have HCL := jh hcl; clear hcl hbl; refine jG 35 0 _ _ (fun _ _ _ => rfl) (by decide) ?_; simp only [List.take_succ_cons, List.take_zero, List.drop_succ_cons, List.drop_zero, Nat.reduceAdd]
   repeat (go_big_quiet_step (fail))
   refine wpQuiet_nil ?_; refine jI ?_; intro bs w2 hb _ _; clear r0 r1 r2 r3 HCL; simp only [qx]; have HT2 := jh (HTx.out.later hb); have q0 := jA HT2.out.sW (j := k) (by have := HLT.out; omega); have f0 := HT2.out.fW k (by have := HLT.out; omega)
   go_wp2_with fail
   go_roundw
   case rel => exact ⟨k + 1, by have := HLT.out; omega, by go_num, jh (HT2.out.set Y3 (by rw [if_pos HLT.out]; exact HX.out))⟩
   case measure => (simp [intOf]; have := HLT.out; omega)
  ·obtain rfl : k = 16 := by omega
   obtain ⟨wo, rfl⟩ : ∃ wo : World, wo = wr := ⟨_, rfl⟩; have HT0 := HT; clear HT hk hlt
   go_wp2_with fail
   go_loopw [9] (fun i wr => ∃ k : Nat, 16 ≤ k ∧ k ≤ 64 ∧ i = .int .i64 k ∧ Hid (BkW w wr s b w.heap.size k)) (fun i _ => 64 - (intOf i).toNat)
   case atStart => exact ⟨16, Nat.le_refl _, by omega, rfl, HT0⟩
   case round =>
    clear HT0; obtain ⟨k, h16, hk, rfl, HT⟩ := hrel
    by_cases hlt : k < 64
    ·obtain ⟨m0, hm0⟩ := je (k - 15); obtain ⟨m1, hm1⟩ := je (k - 2); obtain ⟨m2, hm2⟩ := je (k - 16); obtain ⟨m3, hm3⟩ := je (k - 7); have r0 := jA HT.out.sW (j := m0) (by omega); have r1 := jA HT.out.sW (j := m1) (by omega); have r2 := jA HT.out.sW (j := m2) (by omega); have r3 := jA HT.out.sW (j := m3) (by omega); have i0 : (k : Int) - 15 = (m0 : Int) := by omega
     have i1 : (k : Int) - 2 = (m1 : Int) := by omega
     have i2 : (k : Int) - 16 = (m2 : Int) := by omega
     have i3 : (k : Int) - 7 = (m3 : Int) := by omega
     have HX := jh (show sgap (jQ b k m0) (jQ b k m1) (jQ b k m2) (jQ b k m3) = sgap (jQ b k (k - 15)) (jQ b k (k - 2)) (jQ b k (k - 16)) (jQ b k (k - 7)) by rw [hm0, hm1, hm2, hm3]); have y0 := zi HBy.out k m0
     generalize jQ b k m0 = x at r0 HX y0
     have y1 := zi HBy.out k m1
     generalize jQ b k m1 = y at r1 HX y1
     have y2 := zi HBy.out k m2
     generalize jQ b k m2 = p at r2 HX y2
     have y3 := zi HBy.out k m3
     generalize jQ b k m3 = q at r3 HX y3
     have b0 : (m0 : Int) < 64 := by omega
     have b1 : (m1 : Int) < 64 := by omega
     have b2 : (m2 : Int) < 64 := by omega
     have b3 : (m3 : Int) < 64 := by omega
     have hltI : (k : Int) < 64 := by omega
     have v0 := qL (n := m0) (by omega); have v1 := qL (n := m1) (by omega); have v2 := qL (n := m2) (by omega); have v3 := qL (n := m3) (by omega); obtain ⟨ga, hga⟩ := je (zD x 7); have lga : ga < 2 ^ 32 := by rw [hga]; exact zp y0 (by decide)
     have Cga := jh (CR.out x 7 7 y0 (by decide) (by decide) rfl ga hga); obtain ⟨gb9, hgb9⟩ := je (zD x 18); have lgb9 : gb9 < 2 ^ 32 := by rw [hgb9]; exact zp y0 (by decide)
     have Cgb9 := jh (CR.out x 18 18 y0 (by decide) (by decide) rfl gb9 hgb9); obtain ⟨gc, hgc⟩ := je (zD y 17); have lgc : gc < 2 ^ 32 := by rw [hgc]; exact zp y1 (by decide)
     have Cgc := jh (CR.out y 17 17 y1 (by decide) (by decide) rfl gc hgc); obtain ⟨gd, hgd⟩ := je (zD y 19); have lgd : gd < 2 ^ 32 := by rw [hgd]; exact zp y1 (by decide)
     have Cgd := jh (CR.out y 19 19 y1 (by decide) (by decide) rfl gd hgd); obtain ⟨g1, hg1⟩ := je (ga ^^^ gb9); obtain ⟨g2, hg2⟩ := je (gc ^^^ gd); have lg1 : g1 < 2 ^ 32 := by rw [hg1]; exact Nat.xor_lt_two_pow lga lgb9
     have lg2 : g2 < 2 ^ 32 := by rw [hg2]; exact Nat.xor_lt_two_pow lgc lgd
     obtain ⟨x8, hx8⟩ := je (x / 8); obtain ⟨y8, hy8⟩ := je (y / 1024); have d1 : (x : Int) / 8 = (x8 : Int) := by omega
     have d2 : (y : Int) / 1024 = (y8 : Int) := by omega
     obtain ⟨s1, hs1⟩ := je ((p + q) % 4294967296); obtain ⟨t1, ht1⟩ := je (g1 ^^^ x8); obtain ⟨t2, ht2⟩ := je (g2 ^^^ y8); obtain ⟨s2, hs2⟩ := je ((s1 + t1) % 4294967296); obtain ⟨s3, hs3⟩ := je ((s2 + t2) % 4294967296); have HX := jh (show s3 = sgap (jQ b k (k - 15)) (jQ b k (k - 2)) (jQ b k (k - 16)) (jQ b k (k - 7)) by rw [← HX.out]; unfold sgap; rw [mix2, mix2, ← hga, ← hgb9, ← hgc, ← hgd, ← hg1, ← hg2, ← hx8, ← hy8, ← ht1, ← ht2]; omega); have oa := QK lga lgb9 g1 hg1; have ob9 := QK lgc lgd g2 hg2; have o1 := Ju s1 hs1; have o2 := QK (by omega) (by omega) t1 ht1; have o3 := Ju s2 hs2; have o4 := QK (by omega) (by omega) t2 ht2; have o5 := Ju s3 hs3; have h16x := jh h16; have HLT := jh hlt; have HTx := HT; clear HT hm0 hm1 hm2 hm3 h16 hlt hs1 ht1 ht2 hs2 hs3 hx8 hy8 hga hgb9 hgc hgd hg1 hg2 lga lgb9 lgc lgd lg1 lg2 y0 y1 y2 y3
     go_wp2_with fail
     refine jv 29 (fun _ => none) (by kernel_rfl) (by kernel_rfl) (fun _ _ _ _ _ h => h) (fun F hn9 hcl hbl => ?_); have r0 := fun X9 : Wd F => jm r0 (hbl X9.world X9.fact)
     have r1 := fun X9 : Wd F => jm r1 (hbl X9.world X9.fact)
     have r2 := fun X9 : Wd F => jm r2 (hbl X9.world X9.fact)
     have r3 := fun X9 : Wd F => jm r3 (hbl X9.world X9.fact)
     have HCL := jh hcl; clear hcl hbl; refine jG 29 0 _ _ (fun _ _ _ => rfl) (by decide) ?_; simp only [List.take_succ_cons, List.take_zero, List.drop_succ_cons, List.drop_zero, Nat.reduceAdd]
     repeat (go_big_quiet_step ((first | (go_at_call 134; with_reducible exact js HCL.out (Cga.out _)) | (go_at_call 134; with_reducible exact js HCL.out (Cgb9.out _)) | (go_at_call 134; with_reducible exact js HCL.out (Cgc.out _)) | (go_at_call 134; with_reducible exact js HCL.out (Cgd.out _)))))
     refine wpQuiet_nil ?_; refine jI ?_; intro bs w2 hb _ _; clear r0 r1 r2 r3 HCL; simp only [qx]; have HT2 := jh (HTx.out.later hb); have q0 := jA HT2.out.sW (j := k) HLT.out; have f0 := HT2.out.fW k HLT.out
     go_wp2_with fail
     go_roundw
     case rel => exact ⟨k + 1, by have := h16x.out; omega, by have := HLT.out; omega, by go_num, jh (HT2.out.set s3 (by rw [if_neg (by have := h16x.out; omega)]; exact HX.out))⟩
     case measure => (simp [intOf]; have := HLT.out; omega)
    ·obtain rfl : k = 64 := by omega
     obtain ⟨wp, rfl⟩ : ∃ wp : World, wp = wr := ⟨_, rfl⟩; have HTx := HT; clear HT hk h16 hlt; have c0 : wp.cell? ⟨w.heap.size, 0, none⟩ = some (.int .u32 s.a) := jA HTx.out.sS (j := 0) (by decide); have c1 : wp.cell? ⟨w.heap.size, 1, none⟩ = some (.int .u32 s.b) := jA HTx.out.sS (j := 1) (by decide); have c2 : wp.cell? ⟨w.heap.size, 2, none⟩ = some (.int .u32 s.c) := jA HTx.out.sS (j := 2) (by decide); have c3 : wp.cell? ⟨w.heap.size, 3, none⟩ = some (.int .u32 s.d) := jA HTx.out.sS (j := 3) (by decide); have c4 : wp.cell? ⟨w.heap.size, 4, none⟩ = some (.int .u32 s.e) := jA HTx.out.sS (j := 4) (by decide); have c5 : wp.cell? ⟨w.heap.size, 5, none⟩ = some (.int .u32 s.f) := jA HTx.out.sS (j := 5) (by decide); have c6 : wp.cell? ⟨w.heap.size, 6, none⟩ = some (.int .u32 s.g) := jA HTx.out.sS (j := 6) (by decide); have c7 : wp.cell? ⟨w.heap.size, 7, none⟩ = some (.int .u32 s.h) := jA HTx.out.sS (j := 7) (by decide)
     go_upto_region 13 with fail
     clear c0 c1 c2 c3 c4 c5 c6 c7; obtain ⟨NN, hNN⟩ := je (wp.heap.size); have HN := jh (bkn_start HTx.out 111); rw [← hNN] at HN; rw [← hNN]; obtain ⟨w1, e1⟩ := je (wp.alloc (.cells #[.int .u32 s.a, .int .u32 s.b, .int .u32 s.c, .int .u32 s.d, .int .u32 s.e, .int .u32 s.f, .int .u32 s.g, .int .u32 s.h] 111)); rw [← e1] at HN; rw [← e1]; clear e1 hNN HTx
     go_wp2_with fail
     go_loopw [13] (fun i wr => ∃ k : Nat, k ≤ 64 ∧ i = .int .i64 k ∧ Hid (BkN w wr s b w.heap.size NN (qE (Qf b s k).list))) (fun i _ => 64 - (intOf i).toNat)
     case atStart => exact ⟨0, Nat.zero_le _, rfl, HN⟩
     case round =>
      clear HN; obtain ⟨k, hk, rfl, HT⟩ := hrel
      by_cases hlt : k < 64
      ·have hltI : (k : Int) < 64 := by omega
       have rk := HT.out.base.slice (HKC.out k hlt); have rw9 := jA HT.out.base.sW (j := k) hlt; have HLT := jh hlt; have y0 := shaK_lt k; have y1 := zi HBy.out 64 k; have HTx := HT; have hok := ZY b HOk.out k; have HR := jh (show Qf b s (k + 1) = rnd (Qf b s k) (qE JV k) (jQ b 64 k) from rfl); obtain ⟨z, hz⟩ := je (Qf b s k); rw [← hz] at HTx hok HR; clear hz HT
       generalize qE JV k = kk at rk HR y0
       generalize jQ b 64 k = wk at rw9 HR y1
       obtain ⟨za, zb, zc, zd, ze, zf, zg, zh⟩ := z; obtain ⟨l0, l1, l2, l3, l4, l5, l6, l7⟩ := hok; simp only at l0 l1 l2 l3 l4 l5 l6 l7; clear hlt; obtain ⟨c0, c1, c2, c3, c4, c5, c6, c7⟩ := qU HTx.out.nn; obtain ⟨ga, hga⟩ := je (zD ze 6); have lga : ga < 2 ^ 32 := by rw [hga]; exact zp l4 (by decide)
       have Cga := jh (CR.out ze 6 6 l4 (by decide) (by decide) rfl ga hga); obtain ⟨gb9, hgb9⟩ := je (zD ze 11); have lgb9 : gb9 < 2 ^ 32 := by rw [hgb9]; exact zp l4 (by decide)
       have Cgb9 := jh (CR.out ze 11 11 l4 (by decide) (by decide) rfl gb9 hgb9); obtain ⟨gc, hgc⟩ := je (zD ze 25); have lgc : gc < 2 ^ 32 := by rw [hgc]; exact zp l4 (by decide)
       have Cgc := jh (CR.out ze 25 25 l4 (by decide) (by decide) rfl gc hgc); obtain ⟨gd, hgd⟩ := je (zD za 2); have lgd : gd < 2 ^ 32 := by rw [hgd]; exact zp l0 (by decide)
       have Cgd := jh (CR.out za 2 2 l0 (by decide) (by decide) rfl gd hgd); obtain ⟨ge, hge⟩ := je (zD za 13); have lge : ge < 2 ^ 32 := by rw [hge]; exact zp l0 (by decide)
       have Cge := jh (CR.out za 13 13 l0 (by decide) (by decide) rfl ge hge); obtain ⟨gf, hgf⟩ := je (zD za 22); have lgf : gf < 2 ^ 32 := by rw [hgf]; exact zp l0 (by decide)
       have Cgf := jh (CR.out za 22 22 l0 (by decide) (by decide) rfl gf hgf); obtain ⟨f1, hf1⟩ := je (ga ^^^ gb9); obtain ⟨g1, hg1⟩ := je (f1 ^^^ gc); obtain ⟨f2, hf2⟩ := je (gd ^^^ ge); obtain ⟨g2, hg2⟩ := je (f2 ^^^ gf); have lf1 : f1 < 2 ^ 32 := by rw [hf1]; exact Nat.xor_lt_two_pow lga lgb9
       have lg1 : g1 < 2 ^ 32 := by rw [hg1]; exact Nat.xor_lt_two_pow lf1 lgc
       have lf2 : f2 < 2 ^ 32 := by rw [hf2]; exact Nat.xor_lt_two_pow lgd lge
       have lg2 : g2 < 2 ^ 32 := by rw [hg2]; exact Nat.xor_lt_two_pow lf2 lgf
       obtain ⟨x1, hx1⟩ := je (ze &&& zf); obtain ⟨ne, hne⟩ := je (2 ^ 32 - 1 - ze); obtain ⟨x2, hx2⟩ := je (ne &&& zg); obtain ⟨x3, hx3⟩ := je (x1 ^^^ x2); have n1 : x1 < 2 ^ 32 := by rw [hx1]; exact Nat.and_lt_two_pow _ l5
       have n0 : ne < 2 ^ 32 := by omega
       have n2 : x2 < 2 ^ 32 := by rw [hx2]; exact Nat.and_lt_two_pow _ l6
       have n3 : x3 < 2 ^ 32 := by rw [hx3]; exact Nat.xor_lt_two_pow n1 n2
       obtain ⟨a1, ha1⟩ := je ((zh + g1) % 4294967296); obtain ⟨a2, ha2⟩ := je ((a1 + x3) % 4294967296); obtain ⟨a3, ha3⟩ := je ((a2 + kk) % 4294967296); obtain ⟨a4, ha4⟩ := je ((a3 + wk) % 4294967296); obtain ⟨p1, hp1⟩ := je (za &&& zb); obtain ⟨p2, hp2⟩ := je (za &&& zc); obtain ⟨p3, hp3⟩ := je (p1 ||| p2); obtain ⟨p4, hp4⟩ := je (zb &&& zc); obtain ⟨p5, hp5⟩ := je (p3 ||| p4); have n4 : p1 < 2 ^ 32 := by rw [hp1]; exact Nat.and_lt_two_pow _ l1
       have n5 : p2 < 2 ^ 32 := by rw [hp2]; exact Nat.and_lt_two_pow _ l2
       have n6 : p3 < 2 ^ 32 := by rw [hp3]; exact Nat.or_lt_two_pow n4 n5
       have n7 : p4 < 2 ^ 32 := by rw [hp4]; exact Nat.and_lt_two_pow _ l2
       obtain ⟨b1, hb1⟩ := je ((g2 + p5) % 4294967296); obtain ⟨b2, hb2⟩ := je ((a4 + b1) % 4294967296); obtain ⟨b3, hb3⟩ := je ((zd + a4) % 4294967296); have nI := not32 l4 hne; have q1 := QK lga lgb9 f1 hf1; have q2 := QK lf1 lgc g1 hg1; have q3 := QK lgd lge f2 hf2; have q4 := QK lf2 lgf g2 hg2; have q5 := andU l4 l5 x1 hx1; have q6 := andU n0 l6 x2 hx2; have q7 := QK n1 n2 x3 hx3; have q8 := andU l0 l1 p1 hp1; have q9 := andU l0 l2 p2 hp2; have qa := u32_or n4 n5 hp3.symm; have qb := andU l1 l2 p4 hp4; have qc := u32_or n6 n7 hp5.symm; have o0 := Ju a1 ha1; have o1 := Ju a2 ha2; have o2 := Ju a3 ha3; have o3 := Ju a4 ha4; have o4 := Ju b1 hb1; have o5 := Ju b2 hb2; have o6 := Ju b3 hb3
       have HR := jh (show Qf b s (k + 1) = ⟨b2, za, zb, zc, b3, ze, zf, zg⟩ by
        rw [HR.out]; unfold rnd shaT; dsimp only; rw [mix3, mix3, ← ch_eq l4 l6, ← maj_eq, ← hga, ← hgb9, ← hgc, ← hgd, ← hge, ← hgf, ← hf1, ← hf2, ← hg1, ← hg2, ← hx1, ← hne, ← hx2, ← hx3, ← hp1, ← hp2, ← hp3, ← hp4, ← hp5]
        congr 1 <;> omega)
       clear hga hgb9 hgc hgd hge hgf hf1 hf2 hg1 hg2 hx1 hne hx2 hx3 ha1 ha2 ha3 ha4 hb1 hb2 hb3 hp1 hp2 hp3 hp4 hp5 n0 n1 n2 n3 n4 n5 n6 n7 l0 l1 l2 l3 l4 l5 l6 l7 lga lgb9 lgc lgd lge lgf lf1 lf2 lg1 lg2 y0 y1
       go_upto_region 18 with fail
       refine jv 31 (fun _ => none) (by kernel_rfl) (by kernel_rfl) (fun _ _ _ _ _ h => h) (fun F hn9 hcl hbl => ?_); have c0 := fun X9 : Wd F => jm c0 (hbl X9.world X9.fact)
       have c1 := fun X9 : Wd F => jm c1 (hbl X9.world X9.fact)
       have c2 := fun X9 : Wd F => jm c2 (hbl X9.world X9.fact)
       have c3 := fun X9 : Wd F => jm c3 (hbl X9.world X9.fact)
       have c4 := fun X9 : Wd F => jm c4 (hbl X9.world X9.fact)
       have c5 := fun X9 : Wd F => jm c5 (hbl X9.world X9.fact)
       have c6 := fun X9 : Wd F => jm c6 (hbl X9.world X9.fact)
       have c7 := fun X9 : Wd F => jm c7 (hbl X9.world X9.fact)
       have rk := fun X9 : Wd F => jm rk (hbl X9.world X9.fact)
       have rw9 := fun X9 : Wd F => jm rw9 (hbl X9.world X9.fact)
       have HCL := jh hcl; clear hcl hbl; refine jG 31 0 _ _ (fun _ _ _ => rfl) (by decide) ?_; simp only [List.take_succ_cons, List.take_zero, List.drop_succ_cons, List.drop_zero, Nat.reduceAdd]
       repeat (go_big_quiet_step ((first | (go_at_call 134; with_reducible exact js HCL.out (Cga.out _)) | (go_at_call 134; with_reducible exact js HCL.out (Cgb9.out _)) | (go_at_call 134; with_reducible exact js HCL.out (Cgc.out _)))))
       refine wpQuiet_nil ?_; refine jI ?_; intro bs w2 hb _ _; clear c0 c1 c2 c3 c4 c5 c6 c7 rk rw9 HCL; simp only [qx]; have HTx := jh (HTx.out.later hb); clear hb; obtain ⟨c0, c1, c2, c3, c4, c5, c6, c7⟩ := qU HTx.out.nn
       go_upto_region 19 with fail
       refine jv 24 (fun _ => none) (by kernel_rfl) (by kernel_rfl) (fun _ _ _ _ _ h => h) (fun F hn9 hcl hbl => ?_); have c0 := fun X9 : Wd F => jm c0 (hbl X9.world X9.fact)
       have c1 := fun X9 : Wd F => jm c1 (hbl X9.world X9.fact)
       have c2 := fun X9 : Wd F => jm c2 (hbl X9.world X9.fact)
       have c3 := fun X9 : Wd F => jm c3 (hbl X9.world X9.fact)
       have c4 := fun X9 : Wd F => jm c4 (hbl X9.world X9.fact)
       have c5 := fun X9 : Wd F => jm c5 (hbl X9.world X9.fact)
       have c6 := fun X9 : Wd F => jm c6 (hbl X9.world X9.fact)
       have c7 := fun X9 : Wd F => jm c7 (hbl X9.world X9.fact)
       have HCL := jh hcl; clear hcl hbl; refine jG 24 0 _ _ (fun _ _ _ => rfl) (by decide) ?_; simp only [List.take_succ_cons, List.take_zero, List.drop_succ_cons, List.drop_zero, Nat.reduceAdd]
       repeat (go_big_quiet_step ((first | (go_at_call 134; with_reducible exact js HCL.out (Cgd.out _)) | (go_at_call 134; with_reducible exact js HCL.out (Cge.out _)) | (go_at_call 134; with_reducible exact js HCL.out (Cgf.out _)))))
       refine wpQuiet_nil ?_; refine jI ?_; intro bs w3 hb _ _; clear c0 c1 c2 c3 c4 c5 c6 c7 HCL; simp only [qx]; have HTx := jh (HTx.out.later hb); clear hb; obtain ⟨c0, c1, c2, c3, c4, c5, c6, c7⟩ := qU HTx.out.nn; have fa := HTx.out.fN 0 (by decide); have fb := HTx.out.fN 1 (by decide); have fc := HTx.out.fN 2 (by decide); have fd := HTx.out.fN 3 (by decide); have fe := HTx.out.fN 4 (by decide); have ff := HTx.out.fN 5 (by decide); have fg := HTx.out.fN 6 (by decide); have fh := HTx.out.fN 7 (by decide)
       go_wp2_with fail
       go_roundw
       case rel => exact ⟨k + 1, by have := HLT.out; omega, by go_num, jh (HTx.out.set8 _ _ _ _ _ _ _ _ _ (by rw [HR.out]; rfl))⟩
       case measure => (simp [intOf]; have := HLT.out; omega)
      ·obtain rfl : k = 64 := by omega
       obtain ⟨wq, rfl⟩ : ∃ wq : World, wq = wr := ⟨_, rfl⟩; have HTx := HT; clear HT hlt hk; have HF := jh (show Qh s b = (Qf b s 64).plus s from rfl); obtain ⟨z, hz⟩ := je (Qf b s 64); rw [← hz] at HTx HF; clear hz
       go_wp2_with fail
       go_loopw [18] (fun i wr => ∃ k : Nat, k ≤ 8 ∧ i = .int .i64 k ∧ Hid (BkN w wr s b w.heap.size NN (QF z s k))) (fun i _ => 8 - (intOf i).toNat)
       case atStart => exact ⟨0, Nat.zero_le _, rfl, jh (by rw [plusA_zero]; exact HTx.out)⟩
       case round =>
        clear HTx; obtain ⟨k, hk, rfl, HT⟩ := hrel
        by_cases hlt : k < 8
        ·have hltI : (k : Int) < 8 := by omega
         have HLT := jh hlt; have HTy := HT; have r0 := jA HT.out.nn hlt; rw [plusA_self] at r0; have r1 := jA HT.out.base.sS hlt; have HN9 := jh (plusA_next z s k)
         generalize qE z.list k = x at r0 HN9
         generalize qE s.list k = y at r1 HN9
         obtain ⟨t, ht⟩ := je ((x + y) % 4294967296); have o1 := Ju t ht; rw [← ht] at HN9; clear ht HT hlt
         go_wp2_with fail
         refine jv 9 (fun _ => none) (by kernel_rfl) (by kernel_rfl) (fun _ _ _ _ _ h => h) (fun F hn9 hcl hbl => ?_); have r0 := fun X9 : Wd F => jm r0 (hbl X9.world X9.fact)
         have r1 := fun X9 : Wd F => jm r1 (hbl X9.world X9.fact)
         have HCL := jh hcl; clear hcl hbl; refine jG 9 0 _ _ (fun _ _ _ => rfl) (by decide) ?_; simp only [List.take_succ_cons, List.take_zero, List.drop_succ_cons, List.drop_zero, Nat.reduceAdd]
         repeat (go_big_quiet_step (fail))
         refine wpQuiet_nil ?_; refine jI ?_; intro bs w2 hb _ _; clear r0 r1 HCL; simp only [qx]; have HT2 := jh (HTy.out.later hb); have q0 := jA HT2.out.nn HLT.out; have f0 := HT2.out.fN k HLT.out
         go_wp2_with fail
         go_roundw
         case rel => exact ⟨k + 1, by have := HLT.out; omega, by go_num, jh (HT2.out.set k t _ HN9.out)⟩
         case measure => (simp [intOf]; have := HLT.out; omega)
        ·obtain rfl : k = 8 := by omega
         have HTy := HT; clear HT; have hnn := HTy.out.nn.congr (plusA_all z s); rw [← HF.out] at hnn; obtain ⟨u, hu⟩ := je (Qh s b); rw [← hu] at hnn; obtain ⟨ua, ub, uc, ud, ue, uf, ug, uh⟩ := u; have HU := jh hu; clear hu; obtain ⟨c0, c1, c2, c3, c4, c5, c6, c7⟩ := qU hnn; have q0 := jA HTy.out.base.sR (j := 0) (by decide); have q1 := jA HTy.out.base.sR (j := 1) (by decide); have q2 := jA HTy.out.base.sR (j := 2) (by decide); have q3 := jA HTy.out.base.sR (j := 3) (by decide); have q4 := jA HTy.out.base.sR (j := 4) (by decide); have q5 := jA HTy.out.base.sR (j := 5) (by decide); have q6 := jA HTy.out.base.sR (j := 6) (by decide); have q7 := jA HTy.out.base.sR (j := 7) (by decide); have f0 := HTy.out.base.fR 0 (by decide); have f1 := HTy.out.base.fR 1 (by decide); have f2 := HTy.out.base.fR 2 (by decide); have f3 := HTy.out.base.fR 3 (by decide); have f4 := HTy.out.base.fR 4 (by decide); have f5 := HTy.out.base.fR 5 (by decide); have f6 := HTy.out.base.fR 6 (by decide); have f7 := HTy.out.base.fR 7 (by decide); clear hnn
         go_wp2_with fail
         have B9 := below_set8 (B := w.heap.size + 1) HTy.out.base.below (by omega) (.int .u32 ua) (.int .u32 ub) (.int .u32 uc) (.int .u32 ud) (.int .u32 ue) (.int .u32 uf) (.int .u32 ug) (.int .u32 uh); obtain ⟨g0, g1, g2, g3, g4, g5, g6, g7⟩ := qU (HTy.out.base.sR.set8 ua ub uc ud ue uf ug uh); rw [← HU.out]; refine bodyPost_ret (v := .agg #[.int .u32 ua, .int .u32 ub, .int .u32 uc, .int .u32 ud, .int .u32 ue, .int .u32 uf, .int .u32 ug, .int .u32 uh]) ?_ rfl ⟨rfl, B9⟩
         simp [results, Tryz.results107, go_sem, g0, g1, g2, g3, g4, g5, g6, g7]
end Go.Proofs.YtcaeaejefdhloaaGreat
