/- Bytes of a call's own: how they read, what is cut of them, what is put behind them; slices.Clip of bytes; Which blocks a call may have turned; slices.Clip of bytes; Book, for lists of any kind: what it holds, and how lists are written over and grow -/
import Derived.Test.YtidhlbhfhfonoaaGreatDoorJZXG03
import Derived.Test.YtidhlbhfhfonoaaGreatDoorRows
import Derived.WalkKit
import Derived.ProofKit
import Derived.OpenShut
import Derived.WalkLawsBesides
import Derived.Deep.QuietTactic
import Derived.BigQuiet
import Derived.BigRegion
import Derived.Outline
import Derived.Lib.Hide
import Derived.LoopTactic
namespace Go.Proofs.YtidhlbhfhfonoaaGreatDoor
open Go.ChangeShapes Go.WideShapes Go.ChangeAt Go.RowKit

theorem infoB : (Tryz.prog.info? 5).map (fun i => (i.zero, i.size, i.bytes)) = some (some (.int .u8 0), 1, 1) := by kernel_rfl

theorem one_new (w : World) (x : Value) (t : TypeId) : ∀ (j : Nat) (u : Value), [x][j]? = some u → (w.alloc (.cells #[x] t)).cell? ((⟨w.heap.size, 0, none⟩ : Addr).add j) = some u := by
  intro j u h
  cases j with
  | zero => simp at h; subst h; simp [Addr.add]
  | succ j => simp at h
theorem one_one {k : IntKind} (n : Int) : ∀ u ∈ [Value.int k n], u.oneCell' = true := fun u hu => by simp at hu; subst hu; rfl

/-- Bytes of the call's own: a slice whose row, up to its capacity, lies from block base on; or nothing at all. -/
def Own (w : World) (base : Nat) (v : Value) (l : List Nat) : Prop := OwnV w base 5 1 v l.length (cellsK .u8 l)
theorem Own.at_ {w : World} {base : Nat} {v : Value} {l : List Nat} (h : Own w base v l) : KAt .u8 w v l := by
  have h' := h
  obtain ⟨h1, h2⟩ := h'
  rcases h2 with ⟨rfl, h3⟩ | ⟨g, o, cap, cur, rfl, hb, hg, hc, hm, hs, ht⟩
  · have : l = [] := List.length_eq_zero_iff.1 h3
    subst this
    exact KAt.nil _ w
  · refine ⟨_, _, rfl, hc, hm, (fun h => by cases h), fun _ => ⟨g, o, rfl, fun i x hx => ?_⟩⟩
    have := OwnV.cells h i (.int .u8 x) (by rw [cellsK_get, hx]; rfl)
    rw [Addr.add_lit] at this
    exact this
theorem Own.base {w : World} {B B' : Nat} {v : Value} {l : List Nat} (h : Own w B v l) (hB : B' ≤ B) : Own w B' v l := OwnV.base h hB
theorem Own.later {w w' : World} {B : Nat} {v : Value} {l : List Nat} (h : Own w B v l) (hb : Below w.heap.size w w') : Own w' B v l := OwnV.later h hb
theorem Own.shape {w : World} {B : Nat} {v : Value} {l : List Nat} (h : Own w B v l) : ∃ ao n cap, v = .slice ao n cap := by
  obtain ⟨ao, cap, h, _⟩ := h.at_
  exact ⟨ao, _, cap, h⟩
/-- What reads as bytes may be appended. -/
theorem KAt.src {k : IntKind} {w : World} {v : Value} {l : List Nat} (h : KAt k w v l) : SrcV w 1 v l.length (cellsK k l) := by
  obtain ⟨ao, cap, rfl, h1, h2, h3, h4⟩ := h
  refine ⟨ao, cap, rfl, by simp [cellsK_length], cellsK_one _ _, fun h0 => by have := h3 h0; omega, fun ad had j u hu => ?_⟩
  rw [cellsK_get] at hu
  obtain ⟨x, hx, rfl⟩ := Option.map_eq_some_iff.1 hu
  obtain ⟨b, o, hbo, hc⟩ := h4 (by have := (List.getElem?_eq_some_iff.1 hx).1; omega)
  rw [had] at hbo
  cases hbo
  rw [Addr.add_lit]
  exact hc j x hx
theorem OwnV.clip {w : World} {B : Nat} {e : TypeId} {size : Nat} {ao : Option Addr} {n cap : Nat} {xs : List Value} (h : OwnV w B e size (.slice ao n cap) n xs) : OwnV w B e size (.slice ao n n) n xs := by
  obtain ⟨h1, h2⟩ := h
  refine ⟨h1, ?_⟩
  rcases h2 with ⟨h2, h3⟩ | ⟨g, o, c, cur, h3, h4, h5, h6, h7, h8, h9⟩
  · cases h2
    exact .inl ⟨rfl, rfl⟩
  · cases h3
    exact .inr ⟨g, o, n, cur, rfl, h4, h5, Nat.le_refl _, Nat.le_trans h6 h7, Nat.le_trans (Nat.add_le_add_left (Nat.mul_le_mul_right _ h6) _) h8, h9⟩
/-- append, as a run equation says it. -/
theorem wpList_append_run {P : Program} {w : World} {ops : Array Oper} {rest : List Oper} {o : Oper} {a : Act} {Q : Exit → Act → World → Prop} (hgd : o.guard = none) (s x : Operand) (t k : TypeId)
    (ho : o.op = .call { callee := .builtin .append, args := #[s, x], argTypes := #[t, k] }) (v y r : Value) (w' : World) (hs : a.eval s = v) (hy : a.eval x = y) (hr : ∀ ty, (Builtin.append_ #[t, k] ty #[v, y]).run P w = .ok r w')
    (h : wpList P ops Q rest (a.put o.dst r) w') : wpList P ops Q (o :: rest) a w := by
  refine wpList_plain hgd fun K hK => ?_
  unfold Oper.wp execOp
  simp only [ho, resolve, invoke, builtin, Sem.run_bind, Sem.run_pure, Result.andThen_ok, List.map_toArray, List.map_cons, List.map_nil, hs, hy, hr]
  exact hK _ _ h
/-- A slice of slices: its elements, and how they read. -/
def Parts (w : World) (g o : Nat) (vs : List Value) (ls : List (List Nat)) : Prop := vs.length = ls.length ∧ ∀ i, i < ls.length → ∃ v l, vs[i]? = some v ∧ ls[i]? = some l ∧ w.cell? ⟨g, o + i, none⟩ = some v ∧ KAt .u8 w v l
theorem sum_len_take {ls : List (List Nat)} {i : Nat} {l : List Nat} (h : ls[i]? = some l) : (ls.take (i + 1)).flatten = (ls.take i).flatten ++ l := by
  rw [List.take_add_one, h]
  simp
theorem len_take_le (ls : List (List Nat)) (i : Nat) : (ls.take i).flatten.length ≤ ls.flatten.length := by
  have h := congrArg (fun x => x.flatten.length) (List.take_append_drop i ls)
  simp only [List.flatten_append, List.length_append] at h
  omega

/-! ### A slice of a slice of bytes -/
theorem sizeB (w : World) : (sizeOf (Tryz.prog.elem 58)).run Tryz.prog w = .ok 1 w := by
  have : Tryz.prog.elem 58 = 5 := by kernel_rfl
  rw [this]
  go_simp
theorem elemB : Tryz.prog.underlying 58 = some (.slice (Tryz.prog.elem 58)) := by kernel_rfl
theorem slice_from {w : World} {v : Value} {l : List Nat} (hk : KAt .u8 w v l) (n : Nat) (hn : n ≤ l.length) :
    ∃ a c, (∀ W, (Instr.sliceAt 58 v (some (.int .i64 n)) none none).run Tryz.prog W = .ok (.slice a (l.length - n) c) W) ∧ KAt .u8 w (.slice a (l.length - n) c) (l.drop n) := by
  obtain ⟨ao, cap, rfl, h1, h2, h3, h4⟩ := hk
  have hrun : ∀ W, (Instr.sliceAt 58 (.slice ao l.length cap) (some (.int .i64 n)) none none).run Tryz.prog W = .ok (sliced ao n l.length cap 1) W := fun W => by
    rw [run_sliceAt_slice _ _ _ _ _ _ elemB, run_slice_l _ _ _ _ _ elemB .i64 n (by omega) (by omega), sizeB]
    simp
  unfold sliced at hrun
  refine ⟨_, _, hrun, ?_⟩
  have hl : (l.drop n).length = l.length - n := by simp
  refine ⟨_, _, by rw [hl], by rw [hl]; omega, by omega, fun hno => ?_, fun h0 => ?_⟩
  · split at hno
    · omega
    · have : ao = none := by cases ao with | none => rfl | some _ => cases hno
      have := h3 this
      omega
  · rw [hl] at h0
    obtain ⟨b, o, rfl, hc⟩ := h4 (by omega)
    rw [if_neg (by omega)]
    refine ⟨b, o + n, by simp [Addr.add_lit], fun i x hx => ?_⟩
    rw [List.getElem?_drop] at hx
    rw [Nat.add_assoc]
    exact hc _ _ hx
theorem slice_to {w : World} {v : Value} {l : List Nat} (hk : KAt .u8 w v l) (n : Nat) (hn : n ≤ l.length) :
    ∃ a c, (∀ W, (Instr.sliceAt 58 v none (some (.int .i64 n)) none).run Tryz.prog W = .ok (.slice a n c) W) ∧ KAt .u8 w (.slice a n c) (l.take n) := by
  obtain ⟨ao, cap, rfl, h1, h2, h3, h4⟩ := hk
  have hrun : ∀ W, (Instr.sliceAt 58 (.slice ao l.length cap) none (some (.int .i64 n)) none).run Tryz.prog W = .ok (sliced ao 0 n cap 1) W := fun W => by
    rw [run_sliceAt_slice _ _ _ _ _ _ elemB, run_slice_h _ _ _ _ _ elemB .i64 n (by omega) (by omega), sizeB]
    simp
  unfold sliced at hrun
  have hl : (l.take n).length = n := by simp; omega
  refine ⟨_, _, fun W => hrun W, ?_⟩
  refine ⟨_, _, by rw [hl], by rw [hl]; omega, by omega, fun hno => ?_, fun h0 => ?_⟩
  · split at hno
    · omega
    · have : ao = none := by cases ao with | none => rfl | some _ => cases hno
      have := h3 this
      omega
  · rw [hl] at h0
    obtain ⟨b, o, rfl, hc⟩ := h4 (by omega)
    refine ⟨b, o, ?_, fun i x hx => ?_⟩
    · split
      · rfl
      · simp [Addr.add]
    · rw [List.getElem?_take] at hx
      split at hx
      · exact hc _ _ hx
      · cases hx
end Go.Proofs.YtidhlbhfhfonoaaGreatDoor
namespace Go.Proofs.YtidhlbhfhfonoaaGreatDoor
open Go.ChangeShapes Go.WideShapes Go.ChangeAt Go.RowKit
/-- Only blocks of S, and new ones, have turned. -/
structure Chg (w w' : World) (S : Nat → Prop) : Prop where
  os : w'.os = w.os
  tape : w'.tape = w.tape
  output : w'.output = w.output
  size : w.heap.size ≤ w'.heap.size
  block : ∀ g, g < w.heap.size → ¬ S g → w'.heap[g]? = w.heap[g]?
/-- S, and what is new. -/
def plus (S : Nat → Prop) (w w' : World) (g : Nat) : Prop := S g ∨ (w.heap.size ≤ g ∧ g < w'.heap.size)
theorem Chg.refl (w : World) (S : Nat → Prop) : Chg w w S := ⟨rfl, rfl, rfl, Nat.le_refl _, fun _ _ _ => rfl⟩
theorem Chg.of_below {w w' : World} (h : Below w.heap.size w w') (S : Nat → Prop) : Chg w w' S := ⟨h.os, h.tape, h.output, h.size, fun g hg _ => h.block g hg⟩
theorem Chg.below {w w' : World} {S : Nat → Prop} {base : Nat} (h : Chg w w' S) (hS : ∀ g, S g → base ≤ g) (hb : base ≤ w.heap.size) : Below base w w' :=
  ⟨h.os, h.tape, h.output, h.size, fun g hg => h.block g (by omega) (fun e => by have := hS g e; omega)⟩
theorem Chg.trans {w w1 w2 : World} {S : Nat → Prop} (h : Chg w w1 S) (k : Chg w1 w2 (plus S w w1)) : Chg w w2 S :=
  ⟨k.os.trans h.os, k.tape.trans h.tape, k.output.trans h.output, Nat.le_trans h.size k.size, fun g hg hn => by
    rw [k.block g (by have := h.size; omega) (fun e => by rcases e with e | e; exact hn e; omega)]
    exact h.block g hg hn⟩
theorem Chg.setCell {w w' : World} {S : Nat → Prop} (h : Chg w w' S) {p : Addr} (hp : S p.block ∨ w.heap.size ≤ p.block) (v : Value) : Chg w (w'.setCell p v) S :=
  ⟨h.os, h.tape, h.output, by simpa [World.setCell] using h.size, fun g hg hn => by
    rw [Below.heap_setCell _ _ _ _ (by rintro rfl; rcases hp with hp | hp; exact hn hp; omega)]
    exact h.block g hg hn⟩
theorem Chg.alloc {w w' : World} {S : Nat → Prop} (h : Chg w w' S) (o : Obj) : Chg w (w'.alloc o) S :=
  ⟨h.os, h.tape, h.output, Nat.le_trans h.size (by simp), fun g hg hn => (Below.heap_alloc _ _ _ (by have := h.size; omega)).trans (h.block g hg hn)⟩
theorem Chg.drew {w w' : World} {S : Nat → Prop} (h : Chg w w' S) : Chg w w'.drew S := ⟨h.os, h.tape, h.output, h.size, h.block⟩
theorem Chg.grown {w w' w2 : World} {S : Nat → Prop} {row : Option Nat} (h : Chg w w' S) (hg : w'.grownBy w2 row) (hr : ∀ k, row = some k → S k ∨ w.heap.size ≤ k) : Chg w w2 S :=
  ⟨hg.os.trans h.os, hg.tape.trans h.tape, hg.output.trans h.output, Nat.le_trans h.size hg.size, fun g hl hn => by
    rw [hg.block g (by have := h.size; omega) (fun e => by rcases hr g e.symm with e | e; exact hn e; omega)]
    exact h.block g hl hn⟩
theorem Chg.on {w w1 w2 : World} {S : Nat → Prop} (h : Chg w w1 S) (hb : Below w1.heap.size w1 w2) : Chg w w2 S :=
  ⟨hb.os.trans h.os, hb.tape.trans h.tape, hb.output.trans h.output, Nat.le_trans h.size hb.size, fun g hl hn => (hb.block g (by have := h.size; omega)).trans (h.block g hl hn)⟩
end Go.Proofs.YtidhlbhfhfonoaaGreatDoor
namespace Go.Proofs.YtidhlbhfhfonoaaGreatDoor
open Go.ChangeShapes Go.WideShapes Go.ChangeAt Go.RowKit

set_option maxRecDepth 20000 in
set_option maxHeartbeats 1500000 in
theorem Clip_any {b : List Nat} {v : Value} (w : World) {B : Nat} (hv : Own w B v b) :
    Calls Tryz.prog 113 #[v] w fun e w' => ∃ v', e = .returned v' ∧ Own w' B v' b ∧ w = w' := by
  obtain ⟨ao, cap, rfl, hc1, hc2, hc3, hc4⟩ := hv.at_
  have HV := Lib.hid hv
  have hc5 : cap ≤ 9223372036854775807 := by unfold maxLen at hc2; omega
  clear hv hc4 hc2 hc3
  go_enter Tryz.func113, Tryz.ntmps113
  go_wp2
  go_ret
  exact ⟨_, rfl, OwnV.clip HV.out, rfl⟩

end Go.Proofs.YtidhlbhfhfonoaaGreatDoor
namespace Go.Proofs.YtidhlbhfhfonoaaGreatDoor
open Go.ChangeShapes Go.WideShapes Go.ChangeAt Go.RowKit

/-- n times these cells. -/
def rep (n : Nat) (l : List Value) : List Value := (List.replicate n l).flatten
theorem rep_length (n : Nat) (l : List Value) : (rep n l).length = n * l.length := by
  induction n with
  | zero => simp [rep]
  | succ n ih => unfold rep at ih ⊢; rw [List.replicate_succ, List.flatten_cons, List.length_append, ih, Nat.succ_mul]; omega
theorem rep_succ (n : Nat) (l : List Value) : rep (n + 1) l = rep n l ++ l := by
  unfold rep
  rw [List.replicate_succ', List.flatten_append]
  simp
theorem rep_get {l : List Value} {s : Nat} (hs : l.length = s) {p q : Nat} {u : Value} (hq : l[q]? = some u) : ∀ {n : Nat}, p < n → (rep n l)[p * s + q]? = some u
  | n + 1, h => by
    have hql := (List.getElem?_eq_some_iff.1 hq).1
    have hl := rep_length n l
    rw [hs] at hl
    by_cases hp : p < n
    · have h1 : p * s + q < n * s := by have h2 : (p + 1) * s ≤ n * s := Nat.mul_le_mul_right s hp; rw [Nat.succ_mul] at h2; omega
      rw [rep_succ, List.getElem?_append_left (by omega)]
      exact rep_get hs hq hp
    · obtain rfl : p = n := by omega
      rw [rep_succ, List.getElem?_append_right (by omega), hl, show p * s + q - p * s = q by omega]
      exact hq
/-- The cells of k lists that are held. -/
def hld (M : Nat → Nat) (L G : Nat → Value) : Nat → List Value
  | 0 => []
  | k + 1 => hld M L G k ++ [L k, G k, .int .i64 (M k)]
theorem hld_length (M : Nat → Nat) (L G : Nat → Value) : ∀ k, (hld M L G k).length = k * 3
  | 0 => rfl
  | k + 1 => by rw [hld, List.length_append, hld_length M L G k]; simp; omega
theorem hld_get (M : Nat → Nat) (L G : Nat → Value) : ∀ {k i : Nat}, i < k → (hld M L G k)[i * 3]? = some (L i) ∧ (hld M L G k)[i * 3 + 1]? = some (G i) ∧ (hld M L G k)[i * 3 + 2]? = some (.int .i64 (M i))
  | k + 1, i, h => by
    have hl := hld_length M L G k
    by_cases hik : i < k
    · obtain ⟨h1, h2, h3⟩ := hld_get M L G hik
      rw [hld, List.getElem?_append_left (by omega), List.getElem?_append_left (by omega), List.getElem?_append_left (by omega)]
      exact ⟨h1, h2, h3⟩
    · obtain rfl : i = k := by omega
      rw [hld, List.getElem?_append_right (by omega), List.getElem?_append_right (by omega), List.getElem?_append_right (by omega), hl]
      simp [show i * 3 + 1 - i * 3 = 1 by omega, show i * 3 + 2 - i * 3 = 2 by omega]
theorem hld_congr {M : Nat → Nat} {L L' G G' : Nat → Value} : ∀ {k : Nat}, (∀ i, i < k → L i = L' i ∧ G i = G' i) → hld M L G k = hld M L' G' k
  | 0, _ => rfl
  | k + 1, h => by rw [hld, hld, hld_congr (k := k) fun i hi => h i (by omega), (h k (by omega)).1, (h k (by omega)).2]
theorem hld_set (M : Nat → Nat) (L G : Nat → Value) (v : Value) : ∀ {k i : Nat}, i < k → (hld M L G k).set (i * 3 + 1) v = hld M L (fun j => if j = i then v else G j) k
  | k + 1, i, h => by
    have hl := hld_length M L G k
    by_cases hik : i < k
    · rw [hld, hld, List.set_append_left _ _ (by omega), hld_set M L G v hik]
      simp [show ¬ k = i by omega]
    · obtain rfl : i = k := by omega
      rw [hld, hld, List.set_append_right _ _ (by omega), hl, show i * 3 + 1 - i * 3 = 1 by omega]
      rw [hld_congr (k := i) (L' := L) (G' := fun j => if j = i then v else G j) fun j hj => ⟨rfl, by simp [show ¬ j = i by omega]⟩]
      simp
/-- A book in block B: how many are kept, and its lists. -/
def BkAt (w : World) (B n : Nat) (F : Nat → Value) : Prop :=
  w.cell? ⟨B, 0, none⟩ = some (.int .i64 n) ∧ (∀ j, 1 ≤ j → j < 18 → w.cell? ⟨B, j, none⟩ = some (F j)) ∧ ∀ j, j < 18 → w.frozen? ⟨B, j, none⟩ = false
theorem BkAt.lt {w : World} {B n : Nat} {F : Nat → Value} (h : BkAt w B n F) : B < w.heap.size := World.block_lt_of_cell? (a := ⟨B, 0, none⟩) _ h.1
theorem BkAt.kept {w w' : World} {B n : Nat} {F : Nat → Value} (h : BkAt w B n F) (hb : w'.heap[B]? = w.heap[B]?) : BkAt w' B n F :=
  ⟨(World.cell?_of_block (w := w) hb).trans h.1, fun j h1 h2 => (World.cell?_of_block (w := w) hb).trans (h.2.1 j h1 h2), fun j hj => (World.frozen?_of_block (w := w) hb).trans (h.2.2 j hj)⟩
theorem BkAt.grown {w w' : World} {B n : Nat} {F : Nat → Value} {row : Option Nat} (h : BkAt w B n F) (hg : w.grownBy w' row) (hr : row ≠ some B) : BkAt w' B n F := h.kept (hg.block B h.lt (fun e => hr e.symm))
theorem BkAt.set0 {w : World} {B n : Nat} {F : Nat → Value} (h : BkAt w B n F) (m : Nat) : BkAt (w.setCell ⟨B, 0, none⟩ (.int .i64 m)) B m F :=
  ⟨by rw [World.cell?_setCell_same (h := h.1)], fun j h1 h2 => by rw [World.cell?_setCell_other _ _ _ _ (by intro h; injection h; omega), h.2.1 j h1 h2], fun j hj => by simpa using h.2.2 j hj⟩
theorem BkAt.setF {w : World} {B n : Nat} {F : Nat → Value} (h : BkAt w B n F) (f : Nat) (hf : 1 ≤ f ∧ f < 18) (v : Value) : BkAt (w.setCell ⟨B, f, none⟩ v) B n (fun j => if j = f then v else F j) :=
  ⟨by rw [World.cell?_setCell_other _ _ _ _ (by intro h; injection h; omega), h.1], fun j h1 h2 => by
    show _ = some (if j = f then v else F j)
    by_cases hj : j = f
    · subst hj; rw [if_pos rfl, World.cell?_setCell_same (h := h.2.1 j h1 h2)]
    · rw [if_neg hj, World.cell?_setCell_other _ _ _ _ (by intro h; injection h; omega), h.2.1 j h1 h2], fun j hj => by simpa using h.2.2 j hj⟩
theorem heap_other (w : World) (a : Addr) (v : Value) (k : Nat) (h : k ≠ a.block) : (w.setCell a v).heap[k]? = w.heap[k]? := Below.heap_setCell w a v k h
theorem three_new (w : World) (x y z : Value) (t : TypeId) : ∀ (j : Nat) (u : Value), [x, y, z][j]? = some u → (w.alloc (.cells #[x, y, z] t)).cell? ((⟨w.heap.size, 0, none⟩ : Addr).add j) = some u := by
  intro j u h
  match j, h with
  | 0, h => simp at h; subst h; simp [Addr.add]
  | 1, h => simp at h; subst h; simp [Addr.add]
  | 2, h => simp at h; subst h; simp [Addr.add]
  | j + 3, h => simp at h
theorem src_three (w : World) (a : Option Addr) (n c : Nat) (z : Int) (t : TypeId) : SrcV (w.alloc (.cells #[.slice a n c, .slice none 0 0, .int .i64 z] t)) 3 (.slice (some ⟨w.heap.size, 0, none⟩) 1 1) 1 [.slice a n c, .slice none 0 0, .int .i64 z] := by
  refine ⟨_, 1, rfl, rfl, fun u hu => ?_, (fun h => by cases h), fun ad had j u hu => ?_⟩
  · simp only [List.mem_cons, List.not_mem_nil, or_false] at hu
    rcases hu with rfl | rfl | rfl <;> rfl
  · cases had
    exact three_new w _ _ _ t j u hu
theorem bk_sl {w : World} {base : Nat} {e : TypeId} {size k : Nat} {v : Value} {xs : List Value} (h : OwnV w base e size v k xs) : ∃ a n c, v = .slice a n c := by
  rcases h.2 with ⟨h, _⟩ | ⟨g, o, cap, cur, h, _⟩
  · exact ⟨_, _, _, h⟩
  · exact ⟨_, _, _, h⟩
theorem bk_fin {w w1 X w2 : World} {H : TypeId} {B base k n2 f : Nat} {F : Nat → Value} {vb v2 : Value} {ys : List Value} (hf : 1 ≤ f ∧ f < 18) (hB : base ≤ B) (hlt : B < w.heap.size) (hne : vb.ownBlock ≠ some B) (hg1 : w.grownBy w1 (some B)) (hs1 : w1.heap.size = w.heap.size) (hX : Below w1.heap.size w1 X) (hvb : ∀ g, vb.ownBlock = some g → base ≤ g)
    (hg2 : X.grownBy w2 vb.ownBlock) (hl2 : Lies X w2 vb v2 k 1) (hbk : BkAt w2 B n2 F) (ho2 : OwnV w2 base H 3 v2 (k + 1) ys) :
    BkAt (w2.setCell ⟨B, f, none⟩ v2) B n2 (fun j => if j = f then v2 else F j) ∧ OwnV (w2.setCell ⟨B, f, none⟩ v2) base H 3 v2 (k + 1) ys ∧ v2.ownBlock ≠ some B ∧ Below base w (w2.setCell ⟨B, f, none⟩ v2) ∧
      (∀ g, g < w.heap.size → g ≠ B → vb.ownBlock ≠ some g → (w2.setCell ⟨B, f, none⟩ v2).heap[g]? = w.heap[g]? ∧ v2.ownBlock ≠ some g) := by
  have hXs := hX.size
  have hn2 := lies_apart hl2 hne (by omega)
  have hset : w2.grownBy (w2.setCell ⟨B, f, none⟩ v2) (some B) := ⟨rfl, rfl, rfl, by simp, fun g _ hg => heap_other w2 _ _ g (fun e => hg (by rw [e]))⟩
  refine ⟨hbk.setF f hf v2, OwnV.kept ho2 hset (.inr hn2), hn2, ?_, fun g hg hgB hgv => ⟨?_, lies_apart hl2 hgv (by omega)⟩⟩
  · have h1 : Below base w w1 := (Below.refl base w).grown hg1 (by omega) (fun k hk => by cases hk; exact hB)
    have h2 : Below base w X := h1.trans (hX.mono (by omega))
    exact (h2.grown hg2 (by omega) hvb).setCell (p := ⟨B, f, none⟩) hB v2
  · rw [heap_other w2 _ _ g hgB, hg2.block g (by omega) (fun e => hgv e.symm), hX.block g (by omega), hg1.block g hg (fun e => hgB (by cases e; rfl))]

/-! ### Lists are written over -/
theorem heap_same (w : World) (b off : Nat) (u : Value) (c : Array Value) (t : TypeId) (fr : Nat × Nat) (h : w.heap[b]? = some (.cells c t fr)) : (w.setCell ⟨b, off, none⟩ u).heap[b]? = some (.cells (c.setIfInBounds off u) t fr) := by
  simp only [World.setCell]
  rw [Array.getElem?_modify]
  simp [h]
/-- One cell of a slice of the call's own is written over. -/
theorem OwnV.put {w : World} {base : Nat} {e : TypeId} {size n : Nat} {xs : List Value} {g o cap : Nat} (h : OwnV w base e size (.slice (some ⟨g, o, none⟩) n cap) n xs) {j : Nat} (u : Value) : OwnV (w.setCell ⟨g, o + j, none⟩ u) base e size (.slice (some ⟨g, o, none⟩) n cap) n (xs.set j u) := by
  obtain ⟨h1, h2⟩ := h
  rcases h2 with ⟨h2, _⟩ | ⟨g', o', cap', cur, h3, h4, h5, h6, h7, h8, h9⟩
  · cases h2
  · cases h3
    refine ⟨by rw [List.length_set]; exact h1, .inr ⟨g, o, cap, _, rfl, h4, heap_same w g (o + j) u cur e (0, 0) h5, h6, h7, by rw [Array.size_setIfInBounds]; exact h8, ?_⟩⟩
    rw [Array.toList_setIfInBounds, List.drop_set, if_neg (by omega), show o + j - o = j by omega, List.take_set, h9]
/-- These cells are stored, one behind the other. -/
def putL (w : World) (g p : Nat) : List Value → World
  | [] => w
  | u :: l => putL (w.setCell ⟨g, p, none⟩ u) g (p + 1) l
def putV (xs : List Value) (j : Nat) : List Value → List Value
  | [] => xs
  | u :: l => putV (xs.set j u) (j + 1) l
theorem OwnV.putL {base : Nat} {e : TypeId} {size n : Nat} {g o cap : Nat} : ∀ (l : List Value) {w : World} {xs : List Value} {j : Nat}, OwnV w base e size (.slice (some ⟨g, o, none⟩) n cap) n xs → OwnV (Go.Proofs.YtidhlbhfhfonoaaGreatDoor.putL w g (o + j) l) base e size (.slice (some ⟨g, o, none⟩) n cap) n (putV xs j l)
  | [], _, _, _, h => h
  | u :: l, _, _, j, h => by
    have h1 := OwnV.putL l (j := j + 1) (OwnV.put h (j := j) u)
    rw [← Nat.add_assoc] at h1
    exact h1
theorem putV_part : ∀ (l A R : List Value), l.length ≤ R.length → putV (A ++ R) A.length l = A ++ l ++ R.drop l.length
  | [], A, R, _ => by simp [putV]
  | u :: l, A, [], h => by simp at h
  | u :: l, A, r :: R, h => by
    have h1 := putV_part l (A ++ [u]) R (by simpa using h)
    rw [putV, List.set_append_right _ _ (Nat.le_refl _), Nat.sub_self, List.set_cons_zero]
    rw [List.length_append, List.length_singleton] at h1
    rw [show A ++ u :: R = (A ++ [u]) ++ R by simp, h1]
    simp
theorem putL_heap : ∀ (l : List Value) (w : World) (g p k : Nat), k ≠ g → (putL w g p l).heap[k]? = w.heap[k]?
  | [], _, _, _, _, _ => rfl
  | u :: l, w, g, p, k, h => (putL_heap l _ g (p + 1) k h).trans (heap_other w ⟨g, p, none⟩ u k h)
theorem putL_size : ∀ (l : List Value) (w : World) (g p : Nat), (putL w g p l).heap.size = w.heap.size
  | [], _, _, _ => rfl
  | u :: l, w, g, p => (putL_size l _ g (p + 1)).trans (by simp)
theorem putL_below {base : Nat} {w0 : World} : ∀ (l : List Value) {w : World} {g p : Nat}, base ≤ g → Below base w0 w → Below base w0 (putL w g p l)
  | [], _, _, _, _, h => h
  | u :: l, _, g, p, hg, h => putL_below l hg (h.setCell (p := ⟨g, p, none⟩) hg u)
theorem cell_far {w : World} {a : Addr} {v : Value} {g p : Nat} {l : List Value} (h : w.cell? a = some v) (hn : a.block ≠ g) : (putL w g p l).cell? a = some v := (World.cell?_of_block (w := w) (putL_heap l w g p a.block hn)).trans h
/-- The first p are written over. -/
def prt (mk : List Value) (p : Nat) (xs : List Value) : List Value := rep p mk ++ xs.drop (p * mk.length)
theorem prt_zero (mk xs : List Value) : prt mk 0 xs = xs := by simp [prt, rep]
theorem prt_all (mk xs : List Value) {n : Nat} (h : xs.length = n * mk.length) : prt mk n xs = rep n mk := by rw [prt, List.drop_eq_nil_of_le (by omega), List.append_nil]
theorem prt_set {mk xs : List Value} {p s : Nat} (hs : mk.length = s) (h : (p + 1) * s ≤ xs.length) : putV (prt mk p xs) (p * s) mk = prt mk (p + 1) xs := by
  subst hs
  unfold prt
  rw [Nat.succ_mul] at h
  have h1 := putV_part mk (rep p mk) (xs.drop (p * mk.length)) (by rw [List.length_drop]; omega)
  rw [rep_length] at h1
  rw [h1, rep_succ, List.drop_drop, Nat.succ_mul]
theorem prt_get {mk xs : List Value} {p s : Nat} (hs : mk.length = s) (q : Nat) : (prt mk p xs)[p * s + q]? = xs[p * s + q]? := by
  subst hs
  unfold prt
  rw [List.getElem?_append_right (by rw [rep_length]; omega), rep_length, List.getElem?_drop]
  congr 1
  omega
/-- What is known of the lists that a book holds. -/
structure Fam (E H : TypeId) (s f : Nat) (M : Nat → Nat) (w : World) (base B n k : Nat) (F L G : Nat → Value) (N : Nat → Nat) (X : Nat → List Value) : Prop where
  book : BkAt w B n F
  row : OwnV w base H 3 (F f) k (hld M L G k)
  own : ∀ i, i < k → OwnV w base E s (L i) (N i) (X i)
theorem Fam.later {E H : TypeId} {s f : Nat} {M : Nat → Nat} {w w' : World} {base B n k : Nat} {F L G : Nat → Value} {N : Nat → Nat} {X : Nat → List Value} (h : Fam E H s f M w base B n k F L G N X) (hb : Below w.heap.size w w') : Fam E H s f M w' base B n k F L G N X :=
  ⟨h.book.kept (hb.block B h.book.lt), OwnV.later h.row hb, fun i hi => OwnV.later (h.own i hi) hb⟩
/-- The lists lie apart. -/
structure Aparts (B k : Nat) (vb : Value) (L : Nat → Value) : Prop where
  notB : vb.ownBlock ≠ some B
  one : ∀ i, i < k → ∀ g, (L i).ownBlock = some g → g ≠ B ∧ vb.ownBlock ≠ some g
  two : ∀ i j, i < k → j < k → i ≠ j → ∀ g, (L i).ownBlock = some g → (L j).ownBlock ≠ some g
theorem Fam.put {E H : TypeId} {s f : Nat} {M : Nat → Nat} {w : World} {base B n k : Nat} {F L G : Nat → Value} {N : Nat → Nat} {X : Nat → List Value} (h : Fam E H s f M w base B n k F L G N X) (ha : Aparts B k (F f) L) {i : Nat} (hi : i < k) {g o cap : Nat} (hL : L i = .slice (some ⟨g, o, none⟩) (N i) cap) {j : Nat} (l : List Value) :
    Fam E H s f M (putL w g (o + j) l) base B n k F L G N (fun p => if p = i then putV (X i) j l else X p) := by
  have hg : (L i).ownBlock = some g := by rw [hL]; rfl
  have hab := ha.one i hi g hg
  have hs := fun q (hq : q ≠ g) => putL_heap l w g (o + j) q hq
  refine ⟨h.book.kept (hs B (fun e => hab.1 e.symm)), OwnV.block h.row (fun q hq => hs q (fun e => hab.2 (by rw [← e]; exact hq))), fun p hp => ?_⟩
  by_cases hpi : p = i
  · subst hpi
    rw [if_pos rfl]
    have h1 := h.own p hp
    rw [hL] at h1 ⊢
    exact OwnV.putL l h1
  · rw [if_neg hpi]
    exact OwnV.block (h.own p hp) (fun q hq => hs q (fun e => ha.two i p hi hp (fun e => hpi e.symm) g hg (by rw [← e]; exact hq)))
theorem Fam.congr {E H : TypeId} {s f : Nat} {M : Nat → Nat} {w : World} {base B n k : Nat} {F L G : Nat → Value} {N : Nat → Nat} {X Y : Nat → List Value} (h : Fam E H s f M w base B n k F L G N X) (hxy : ∀ i, i < k → X i = Y i) : Fam E H s f M w base B n k F L G N Y :=
  ⟨h.book, h.row, fun i hi => by rw [← hxy i hi]; exact h.own i hi⟩
/-- A held list, in its row. -/
theorem hld_cells {H : TypeId} {M : Nat → Nat} {w : World} {base k : Nat} {L G : Nat → Value} {g o cap : Nat} (h : OwnV w base H 3 (.slice (some ⟨g, o, none⟩) k cap) k (hld M L G k)) {i : Nat} (hi : i < k) :
    w.cell? ⟨g, o + i * 3, none⟩ = some (L i) ∧ w.cell? ⟨g, o + i * 3 + 1, none⟩ = some (G i) ∧ w.cell? ⟨g, o + i * 3 + 2, none⟩ = some (.int .i64 (M i)) := by
  obtain ⟨h1, h2, h3⟩ := hld_get M L G hi
  have hc := OwnV.cells h
  refine ⟨?_, ?_, ?_⟩
  · have := hc _ _ h1; rwa [Addr.add_lit] at this
  · have := hc _ _ h2; rwa [Addr.add_lit, ← Nat.add_assoc] at this
  · have := hc _ _ h3; rwa [Addr.add_lit, ← Nat.add_assoc] at this
theorem row_some {H : TypeId} {s : Nat} {w : World} {base k n : Nat} {vb : Value} {xs : List Value} (h : OwnV w base H s vb n xs) (hk : k < n) : ∃ g o cap, vb = .slice (some ⟨g, o, none⟩) n cap ∧ n ≤ cap ∧ cap ≤ maxLen ∧ base ≤ g ∧ g < w.heap.size := by
  rcases h.2 with ⟨_, h⟩ | ⟨g, o, cap, cur, h1, h2, h3, h4, h5, _⟩
  · omega
  · exact ⟨g, o, cap, h1, h4, h5, h2, (Array.getElem?_eq_some_iff.1 h3).1⟩

/-! ### What stays -/
def Spare (k : Nat) (L : Nat → Value) (v : Value) (w w' : World) : Prop := w.heap.size ≤ w'.heap.size ∧ ∀ g, g < w.heap.size → v.ownBlock ≠ some g → (∀ i, i < k → (L i).ownBlock ≠ some g) → w'.heap[g]? = w.heap[g]?
theorem Spare.refl (k : Nat) (L : Nat → Value) (v : Value) (w : World) : Spare k L v w w := ⟨Nat.le_refl _, fun _ _ _ _ => rfl⟩
theorem Spare.later {k : Nat} {L : Nat → Value} {v : Value} {w w1 w2 : World} (h : Spare k L v w w1) (hb : Below w1.heap.size w1 w2) : Spare k L v w w2 :=
  ⟨Nat.le_trans h.1 hb.size, fun g h1 h2 h3 => (hb.block g (Nat.lt_of_lt_of_le h1 h.1)).trans (h.2 g h1 h2 h3)⟩
theorem Spare.put {k : Nat} {L : Nat → Value} {v : Value} {w w1 : World} {i g p : Nat} {l : List Value} (h : Spare k L v w w1) (hi : i < k) (hg : (L i).ownBlock = some g) : Spare k L v w (putL w1 g p l) :=
  ⟨by rw [putL_size]; exact h.1, fun q h1 h2 h3 => (putL_heap l w1 g p q (fun e => h3 i hi (by rw [hg, e]))).trans (h.2 q h1 h2 h3)⟩
theorem Spare.grow {k : Nat} {L : Nat → Value} {v : Value} {w wo w' : World} {i gv p : Nat} {u : Value} (h : Spare k L v w wo) (hsz : wo.heap.size ≤ w'.heap.size) (hfr : ∀ g, g < wo.heap.size → (L i).ownBlock ≠ some g → w'.heap[g]? = wo.heap[g]?) (hi : i < k) (hv : v.ownBlock = some gv) : Spare k L v w (w'.setCell ⟨gv, p, none⟩ u) :=
  ⟨by simp only [World.size_setCell]; exact Nat.le_trans h.1 hsz, fun q h1 h2 h3 => (heap_other w' ⟨gv, p, none⟩ u q (fun e => h2 (by rw [hv, e]))).trans ((hfr q (Nat.lt_of_lt_of_le h1 h.1) (h3 i hi)).trans (h.2 q h1 h2 h3))⟩
/-- One element more is written over. -/
theorem Fam.over {E H : TypeId} {s f : Nat} {M : Nat → Nat} {w : World} {base B n k : Nat} {F L G : Nat → Value} {N : Nat → Nat} {X : Nat → List Value} (h : Fam E H s f M w base B n k F L G N X) (ha : Aparts B k (F f) L) {i : Nat} (hi : i < k) {g o cap : Nat} (hL : L i = .slice (some ⟨g, o, none⟩) (N i) cap) {j : Nat} {mk Y : List Value} (hX : X i = prt mk j Y) (hY : Y.length = N i * s) (hj : j < N i) (hs : mk.length = s) :
    Fam E H s f M (putL w g (o + j * s) mk) base B n k F L G N (fun p => if p = i then prt mk (j + 1) Y else X p) :=
  (h.put ha hi hL (j := j * s) mk).congr fun p _ => by
    by_cases hp : p = i
    · subst hp
      rw [if_pos rfl, if_pos rfl, hX]
      exact prt_set hs (by rw [hY]; exact Nat.mul_le_mul_right s hj)
    · rw [if_neg hp, if_neg hp]
theorem prt_old {w : World} {base N s o cap g j q : Nat} {E : TypeId} {mk Y : List Value} (h : OwnV w base E s (.slice (some ⟨g, o, none⟩) N cap) N (prt mk j Y)) (hs : mk.length = s) (hY : Y.length = N * s) (hj : j < N) (hq : q < s) : ∃ u, w.cell? ⟨g, o + j * s + q, none⟩ = some u := by
  have h1 : j * s + q < Y.length := by have h2 : (j + 1) * s ≤ N * s := Nat.mul_le_mul_right s hj; rw [Nat.succ_mul] at h2; omega
  refine ⟨Y[j * s + q], ?_⟩
  have := OwnV.cells h (j * s + q) Y[j * s + q] (by rw [prt_get hs, List.getElem?_eq_getElem h1])
  rwa [Addr.add_lit, ← Nat.add_assoc] at this
/-! ### More is put behind each list -/
/-- v has n elements, each of them these cells. -/
def MAt (w : World) (mk : List Value) (v : Value) (n : Nat) : Prop :=
  ∃ a c, v = .slice a n c ∧ n ≤ c ∧ c ≤ maxLen ∧ (0 < n → ∃ g o, a = some ⟨g, o, none⟩ ∧ ∀ p q u, p < n → mk[q]? = some u → w.cell? ⟨g, o + p * mk.length + q, none⟩ = some u)
theorem MAt.block {w w' : World} {mk : List Value} {v : Value} {n : Nat} (h : MAt w mk v n) (hb : ∀ g, v.ownBlock = some g → w'.heap[g]? = w.heap[g]?) : MAt w' mk v n := by
  obtain ⟨a, c, rfl, h1, h2, h3⟩ := h
  refine ⟨a, c, rfl, h1, h2, fun h0 => ?_⟩
  obtain ⟨g, o, rfl, h4⟩ := h3 h0
  exact ⟨g, o, rfl, fun p q u hp hu => (World.cell?_of_block (w := w) (a := ⟨g, _, none⟩) (hb g rfl)).trans (h4 p q u hp hu)⟩
theorem own_mat {w : World} {base n : Nat} {E : TypeId} {s : Nat} {mk : List Value} {v : Value} (hs : mk.length = s) (h : OwnV w base E s v n (rep n mk)) : MAt w mk v n := by
  rcases h.2 with ⟨rfl, rfl⟩ | ⟨g, o, cap, cur, rfl, h4, h5, h6, h7, _⟩
  · exact ⟨none, 0, rfl, Nat.le_refl _, Nat.zero_le _, fun h0 => absurd h0 (Nat.lt_irrefl _)⟩
  · refine ⟨_, cap, rfl, h6, h7, fun _ => ⟨g, o, rfl, fun p q u hp hu => ?_⟩⟩
    have := OwnV.cells h (p * s + q) u (rep_get hs hu hp)
    rwa [Addr.add_lit, ← Nat.add_assoc, ← hs] at this
theorem MAt.sl {w : World} {mk : List Value} {v : Value} {n : Nat} (h : MAt w mk v n) : ∃ a c, v = .slice a n c ∧ n ≤ c ∧ c ≤ maxLen := by
  obtain ⟨a, c, h1, h2, h3, _⟩ := h
  exact ⟨a, c, h1, h2, h3⟩
theorem MAt.cell {w : World} {mk : List Value} {a : Option Addr} {n c p : Nat} (h : MAt w mk (.slice a n c) n) (hp : p < n) : ∃ g o, a = some ⟨g, o, none⟩ ∧ ∀ q u, mk[q]? = some u → w.cell? ⟨g, o + p * mk.length + q, none⟩ = some u := by
  obtain ⟨ao, cap, e, _, _, h4⟩ := h
  cases e
  obtain ⟨g, o, rfl, hc⟩ := h4 (by omega)
  exact ⟨g, o, rfl, fun q u hu => hc p q u hp hu⟩
/-- Behind which lists more is put already. -/
structure Grow (E H : TypeId) (s f : Nat) (mk : Nat → List Value) (M : Nat → Nat) (z : Nat) (w : World) (base B n k : Nat) (F L G : Nat → Value) (N : Nat → Nat) (i : Nat) : Prop where
  book : BkAt w B n F
  row : OwnV w base H 3 (F f) k (hld M L G k)
  own : ∀ j, i ≤ j → j < k → OwnV w base E s (L j) (N j) (rep (N j) (mk (M j)))
  done : ∀ j, j < i → j < k → MAt w (mk (M j)) (L j) (N j) ∧ MAt w (mk (M j)) (G j) (N j + 40)
  low : ∀ j, j < k → ∀ g, (L j).ownBlock = some g → g < w.heap.size
  far : ∀ j, j < i → j < k → ∀ g, (G j).ownBlock = some g → g < w.heap.size ∧ g ≠ B ∧ (F f).ownBlock ≠ some g ∧ ∀ p, i ≤ p → p < k → (L p).ownBlock ≠ some g
  new : ∀ j, j < i → j < k → ∀ g, (G j).ownBlock = some g → (L j).ownBlock = some g ∨ z ≤ g
  zz : z ≤ w.heap.size
theorem Grow.kept {E H : TypeId} {s f : Nat} {mk : Nat → List Value} {M : Nat → Nat} {z : Nat} {w w' : World} {base B n k : Nat} {F L G : Nat → Value} {N : Nat → Nat} {i : Nat} (h : Grow E H s f mk M z w base B n k F L G N i) (hs : w.heap.size ≤ w'.heap.size) (hB : w'.heap[B]? = w.heap[B]?) (hr : ∀ g, (F f).ownBlock = some g → w'.heap[g]? = w.heap[g]?)
    (hl : ∀ j, j < k → ∀ g, (L j).ownBlock = some g → w'.heap[g]? = w.heap[g]?) (hgr : ∀ j, j < i → j < k → ∀ g, (G j).ownBlock = some g → w'.heap[g]? = w.heap[g]?) : Grow E H s f mk M z w' base B n k F L G N i :=
  ⟨h.book.kept hB, OwnV.block h.row hr, fun j h1 h2 => OwnV.block (h.own j h1 h2) (hl j h2), fun j h1 h2 => ⟨(h.done j h1 h2).1.block (hl j h2), (h.done j h1 h2).2.block (hgr j h1 h2)⟩,
    fun j hj g hg => Nat.lt_of_lt_of_le (h.low j hj g hg) hs, fun j h1 h2 g hg => ⟨Nat.lt_of_lt_of_le (h.far j h1 h2 g hg).1 hs, (h.far j h1 h2 g hg).2⟩, h.new, Nat.le_trans h.zz hs⟩
theorem Grow.later {E H : TypeId} {s f : Nat} {mk : Nat → List Value} {M : Nat → Nat} {z : Nat} {w w' : World} {base B n k : Nat} {F L G : Nat → Value} {N : Nat → Nat} {i : Nat} (h : Grow E H s f mk M z w base B n k F L G N i) (hb : Below w.heap.size w w') : Grow E H s f mk M z w' base B n k F L G N i :=
  h.kept hb.size (hb.block B h.book.lt) (fun g hg => hb.block g (OwnV.lt h.row g hg).2) (fun j hj g hg => hb.block g (h.low j hj g hg)) (fun j h1 h2 g hg => hb.block g (h.far j h1 h2 g hg).1)
/-- One list grows. -/
theorem Grow.step {E H : TypeId} {s f : Nat} {mk : Nat → List Value} {M : Nat → Nat} {z : Nat} {w w' : World} {base B n k : Nat} {F : Nat → Value} {gv ov cv : Nat} {L G : Nat → Value} {N : Nat → Nat} {i : Nat} {v : Value} (h : Grow E H s f mk M z w base B n k F L G N i) (hF : F f = .slice (some ⟨gv, ov, none⟩) k cv) (ha : Aparts B k (F f) L) (hi : i < k) (hmk : (mk (M i)).length = s)
    (hsz : w.heap.size ≤ w'.heap.size) (hfr : ∀ g, g < w.heap.size → (L i).ownBlock ≠ some g → w'.heap[g]? = w.heap[g]?)
    (hv : OwnV w' base E s v (N i + 40) (rep (N i + 40) (mk (M i)))) (hl : MAt w' (mk (M i)) (L i) (N i)) (hw : v.ownBlock = (L i).ownBlock ∨ ∀ g, v.ownBlock = some g → w.heap.size ≤ g) :
    Grow E H s f mk M z (w'.setCell ⟨gv, ov + i * 3 + 1, none⟩ v) base B n k F L (fun j => if j = i then v else G j) N (i + 1) := by
  have hFg : (F f).ownBlock = some gv := by rw [hF]; rfl
  have hBg : gv ≠ B := fun e => ha.notB (by rw [← e]; exact hFg)
  have hLg : ∀ j, j < k → ∀ g, (L j).ownBlock = some g → g ≠ gv := fun j hj g hg e => (ha.one j hj g hg).2 (by rw [e]; exact hFg)
  have hgv : gv < w.heap.size := (OwnV.lt h.row gv hFg).2
  have hrow : OwnV w' base H 3 (.slice (some ⟨gv, ov, none⟩) k cv) k (hld M L G k) := by
    rw [← hF]
    exact OwnV.block h.row (fun g hg => by rw [hFg] at hg; cases hg; exact hfr gv hgv (fun e => (ha.one i hi gv e).2 hFg))
  have hB : w'.heap[B]? = w.heap[B]? := hfr B h.book.lt (fun e => (ha.one i hi B e).1 rfl)
  have hvg : ∀ g, v.ownBlock = some g → g < w'.heap.size ∧ g ≠ B ∧ g ≠ gv ∧ ∀ p, i + 1 ≤ p → p < k → (L p).ownBlock ≠ some g := by
    intro g hg
    refine ⟨(OwnV.lt hv g hg).2, ?_⟩
    rcases hw with hw | hw
    · rw [hw] at hg
      exact ⟨(ha.one i hi g hg).1, hLg i hi g hg, fun p h1 h2 => ha.two i p hi h2 (by omega) g hg⟩
    · have hge := hw g hg
      have := h.book.lt
      exact ⟨by omega, by omega, fun p h1 h2 e => by have := h.low p h2 g e; omega⟩
  have hother : ∀ g, g ≠ gv → (w'.setCell ⟨gv, ov + i * 3 + 1, none⟩ v).heap[g]? = w'.heap[g]? := fun g hg => heap_other w' _ _ g hg
  refine ⟨(h.book.kept hB).kept (hother B (fun e => hBg e.symm)), ?_, fun j h1 h2 => ?_, fun j h1 h2 => ?_, fun j hj g hg => ?_, fun j h1 h2 g hg => ?_, fun j h1 h2 g hg => ?_, by simp only [World.size_setCell]; exact Nat.le_trans h.zz hsz⟩
  · have := OwnV.put hrow (j := i * 3 + 1) v
    rw [hld_set M L G v hi, ← Nat.add_assoc] at this
    rw [hF]
    exact this
  · refine OwnV.block (h.own j (by omega) h2) (fun g hg => ?_)
    rw [hother g (hLg j h2 g hg)]
    exact hfr g (h.low j h2 g hg) (fun e => ha.two i j hi h2 (by omega) g e hg)
  · by_cases hji : j = i
    · subst hji
      rw [if_pos rfl]
      exact ⟨hl.block (fun g hg => hother g (hLg j h2 g hg)), (own_mat hmk hv).block (fun g hg => hother g (hvg g hg).2.2.1)⟩
    · rw [if_neg hji]
      obtain ⟨d1, d2⟩ := h.done j (by omega) h2
      refine ⟨d1.block (fun g hg => ?_), d2.block (fun g hg => ?_)⟩
      · rw [hother g (hLg j h2 g hg)]
        exact hfr g (h.low j h2 g hg) (fun e => ha.two i j hi h2 (by omega) g e hg)
      · obtain ⟨f1, f2, f3, f4⟩ := h.far j (by omega) h2 g hg
        rw [hother g (fun e => f3 (by rw [e]; exact hFg))]
        exact hfr g f1 (f4 i (Nat.le_refl _) hi)
  · have := h.low j hj g hg
    simp only [World.size_setCell]
    omega
  · simp only [World.size_setCell]
    by_cases hji : j = i
    · rw [if_pos hji] at hg
      obtain ⟨f1, f2, f3, f4⟩ := hvg g hg
      exact ⟨f1, f2, fun e => f3 (by rw [hFg] at e; cases e; rfl), f4⟩
    · rw [if_neg hji] at hg
      obtain ⟨f1, f2, f3, f4⟩ := h.far j (by omega) h2 g hg
      exact ⟨by omega, f2, f3, fun p h3 h4 => f4 p (by omega) h4⟩
  · by_cases hji : j = i
    · rw [if_pos hji] at hg
      subst hji
      rcases hw with hw | hw
      · exact .inl (by rw [← hw]; exact hg)
      · exact .inr (Nat.le_trans h.zz (hw g hg))
    · rw [if_neg hji] at hg
      exact h.new j (by omega) h2 g hg
/-- In the midst of a list's growth: p are put behind. -/
structure Long (E : TypeId) (s : Nat) (mk : List Value) (wo wq : World) (base n : Nat) (Li v : Value) (p : Nat) : Prop where
  own : OwnV wq base E s v (n + p) (rep (n + p) mk)
  at_ : MAt wq mk Li n
  start : (∃ g o c c', Li = .slice (some ⟨g, o, none⟩) n c ∧ v = .slice (some ⟨g, o, none⟩) (n + p) c') ∨ ∀ g, v.ownBlock = some g → wo.heap.size ≤ g
  frame : ∀ g, g < wo.heap.size → Li.ownBlock ≠ some g → wq.heap[g]? = wo.heap[g]?
  below : Below base wo wq
  low : ∀ g, Li.ownBlock = some g → g < wo.heap.size
  size : wo.heap.size ≤ wq.heap.size
theorem Long.first {E : TypeId} {s : Nat} {mk : List Value} {wo : World} {base n : Nat} {Li : Value} (hs : mk.length = s) (h : OwnV wo base E s Li n (rep n mk)) : Long E s mk wo wo base n Li Li 0 := by
  refine ⟨h, own_mat hs h, ?_, fun _ _ _ => rfl, Below.refl _ _, fun g hg => (OwnV.lt h g hg).2, Nat.le_refl _⟩
  rcases h.2 with ⟨rfl, _⟩ | ⟨g, o, cap, cur, rfl, _⟩
  · exact .inr (fun g hg => by simp [Value.ownBlock] at hg)
  · exact .inl ⟨g, o, cap, cap, rfl, rfl⟩
theorem Long.next {E : TypeId} {s : Nat} {mk : List Value} {wo wq X w2 : World} {base n p : Nat} {Li v v' : Value} (h : Long E s mk wo wq base n Li v p) (hs : mk.length = s) (hb : base ≤ wo.heap.size) (hX : Below wq.heap.size wq X) (hg : X.grownBy w2 v.ownBlock) (hl : Lies X w2 v v' (n + p) 1)
    (ho : OwnV w2 base E s v' (n + p + 1) (rep (n + p) mk ++ mk)) : Long E s mk wo w2 base n Li v' (p + 1) := by
  have hXs := hX.size
  have hwq := h.size
  have ho' : OwnV w2 base E s v' (n + (p + 1)) (rep (n + (p + 1)) mk) := by
    rw [← Nat.add_assoc, rep_succ]
    exact ho
  have hvb : ∀ g, g < wo.heap.size → Li.ownBlock ≠ some g → v.ownBlock ≠ some g := by
    intro g h1 h2 e
    rcases h.start with ⟨g1, o, c, c', rfl, rfl⟩ | h3
    · exact h2 e
    · have := h3 g e; omega
  refine ⟨ho', ?_, ?_, fun g h1 h2 => ?_, ?_, h.low, by have := hg.size; omega⟩
  · have hother : (∀ g, Li.ownBlock = some g → w2.heap[g]? = X.heap[g]?) → MAt w2 mk Li n := fun hh => (h.at_.block (fun g hg => hX.block g (Nat.lt_of_lt_of_le (h.low g hg) hwq))).block hh
    rcases hl with ⟨g, o, cap, hv, hv'⟩ | ⟨_, hn⟩ | ⟨h0, _⟩
    · rcases h.start with ⟨g1, o1, c, c', hL, hv1⟩ | h3
      · rw [hv] at hv1
        cases hv1
        obtain ⟨ao, cap0, e, h1, h2, h3⟩ := h.at_
        obtain ⟨ao2, cap2, e2, _, _, h5⟩ := own_mat hs ho'
        rw [hL] at e
        cases e
        refine ⟨_, _, hL, h1, h2, fun h0 => ⟨g, o, rfl, fun q r x hq hr => ?_⟩⟩
        obtain ⟨g3, o3, e3, h6⟩ := h5 (by omega)
        rw [hv', e3] at e2
        cases e2
        exact h6 q r x (by omega) hr
      · refine hother (fun g2 hg2 => hg.block g2 (by have := h.low g2 hg2; omega) (fun e => ?_))
        have := h3 g2 e.symm
        have := h.low g2 hg2
        omega
    · exact hother (fun g2 hg2 => hn.block g2 (by have := h.low g2 hg2; omega) (fun e => by cases e))
    · cases h0
  · rcases hl with ⟨g, o, cap, hv, hv'⟩ | ⟨hf, _⟩ | ⟨h0, _⟩
    · rcases h.start with ⟨g1, o1, c, c', hL, hv1⟩ | h3
      · rw [hv] at hv1
        cases hv1
        exact .inl ⟨g, o, c, cap, hL, by rw [hv', Nat.add_assoc]⟩
      · right
        intro g2 hg2
        rw [hv'] at hg2
        exact h3 g2 (by rw [hv]; exact hg2)
    · right
      intro g2 hg2
      rw [hf] at hg2
      cases hg2
      omega
    · cases h0
  · rw [hg.block g (by omega) (fun e => hvb g h1 h2 e.symm), hX.block g (by omega)]
    exact h.frame g h1 h2
  · exact (h.below.trans (hX.mono (by omega))).grown hg (by omega) (fun q hq => (OwnV.lt h.own q hq).1)
theorem Long.start_block {E : TypeId} {s : Nat} {mk : List Value} {wo wq : World} {base n p : Nat} {Li v : Value} (h : Long E s mk wo wq base n Li v p) : v.ownBlock = Li.ownBlock ∨ ∀ g, v.ownBlock = some g → wo.heap.size ≤ g := by
  rcases h.start with ⟨g, o, c, c', rfl, rfl⟩ | h
  · exact .inl rfl
  · exact .inr h
theorem Grow.of {E H : TypeId} {s f : Nat} {mk : Nat → List Value} {M : Nat → Nat} {w : World} {base B n k : Nat} {F L G : Nat → Value} {N : Nat → Nat} (h : Fam E H s f M w base B n k F L G N (fun i => rep (N i) (mk (M i)))) : Grow E H s f mk M w.heap.size w base B n k F L G N 0 :=
  ⟨h.book, h.row, fun j _ hj => h.own j hj, fun _ hj => absurd hj (Nat.not_lt_zero _), fun j hj g hg => (OwnV.lt (h.own j hj) g hg).2, fun _ hj => absurd hj (Nat.not_lt_zero _), fun _ hj => absurd hj (Nat.not_lt_zero _), Nat.le_refl _⟩
end Go.Proofs.YtidhlbhfhfonoaaGreatDoor
