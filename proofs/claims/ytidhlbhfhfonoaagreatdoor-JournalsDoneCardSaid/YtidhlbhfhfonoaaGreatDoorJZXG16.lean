/- Layer 17's reference: names without one; Layer 17's reference: what appends and stores make of its disk -/
import Derived.Test.YtidhlbhfhfonoaaGreatDoorJZXG11
import Derived.Test.YtidhlbhfhfonoaaGreatDoorJZXG04
namespace Go.Proofs.YtidhlbhfhfonoaaGreatDoor
open Go.ChangeShapes Go.WideShapes Go.ChangeAt Go.RowKit
theorem infoP : (Tryz.prog.info? 120).map (fun i => (i.zero, i.size, i.bytes)) = some (some (.agg #[.string ⟨#[]⟩, .int .i64 0]), 2, 24) := by kernel_rfl
theorem sizeP (w : World) : (sizeOf (Tryz.prog.elem 95)).run Tryz.prog w = .ok 2 w := by
  have : Tryz.prog.elem 95 = 120 := by kernel_rfl
  rw [this]
  go_simp
theorem elemP : Tryz.prog.underlying 95 = some (.slice (Tryz.prog.elem 95)) := by kernel_rfl
theorem own_at {w : World} {base : Nat} {e : TypeId} {s n c : Nat} {a : Option Addr} {xs : List Value} (h : OwnV w base e s (.slice a n c) n xs) {j : Nat} {u : Value} (hu : xs[j]? = some u) (ad : Addr) (had : a = some ad) : w.cell? (ad.add j) = some u := by
  subst had
  have h' := h
  rcases h'.2 with ⟨h2, _⟩ | ⟨g, o, cap, cur, h3, _⟩
  · cases h2
  · cases h3
    exact OwnV.cells h j u hu
/-- Names that lie somewhere may be appended. -/
theorem src_pairs {w : World} {base : Nat} {v : Value} {l : List (ByteArray × Nat)} (h : OwnV w base 120 2 v l.length (pairs8 l)) : SrcV w 2 v l.length (pairs8 l) := by
  obtain ⟨a, c, hv⟩ := h.sl
  subst hv
  refine ⟨a, c, rfl, h.1, pairs8_one l, fun h0 => ?_, fun ad had j u hu => ?_⟩
  · rcases h.2 with ⟨_, h3⟩ | ⟨g, o, cap, cur, h3, _⟩
    · exact h3
    · cases h3; cases h0
  · exact own_at h hu ad had
theorem slice_toP {w : World} {base : Nat} {a : Option Addr} {n c : Nat} {l : List (ByteArray × Nat)} (h : OwnV w base 120 2 (.slice a n c) n (pairs8 l)) (hl : l.length = n) (k : Nat) (hk : k ≤ n) :
    ∃ a' c', (∀ W, (Instr.sliceAt 95 (.slice a n c) none (some (.int .i64 k)) none).run Tryz.prog W = .ok (.slice a' k c') W) ∧ ∀ W, Below w.heap.size w W → SrcV W 2 (.slice a' k c') k (pairs8 (l.take k)) := by
  have hc : k ≤ c := by
    rcases h.2 with ⟨h2, h3⟩ | ⟨g, o, cap, cur, h3, _, _, hcc, _⟩
    · omega
    · cases h3; omega
  have hrun : ∀ W, (Instr.sliceAt 95 (.slice a n c) none (some (.int .i64 k)) none).run Tryz.prog W = .ok (sliced a 0 k c 2) W := fun W => by
    rw [run_sliceAt_slice _ _ _ _ _ _ elemP, run_slice_h _ _ _ _ _ elemP .i64 k (by omega) (by omega), sizeP]
    simp
  unfold sliced at hrun
  refine ⟨_, _, fun W => hrun W, fun W hb => ⟨_, _, rfl, by rw [pairs8_length, List.length_take]; omega, pairs8_one _, fun h0 => ?_, fun ad had j u hu => ?_⟩⟩
  · split at h0
    · subst h0
      rcases h.2 with ⟨_, h3⟩ | ⟨g, o, cap, cur, h3, _⟩
      · omega
      · cases h3
    · cases a with
      | none =>
        rcases h.2 with ⟨_, h3⟩ | ⟨g, o, cap, cur, h3, _⟩
        · omega
        · cases h3
      | some _ => cases h0
  · have hj : (pairs8 l)[j]? = some u := by
      rw [← pairs8_take l k (by omega), List.getElem?_take] at hu
      split at hu
      · exact hu
      · cases hu
    have hc : ∀ ad, a = some ad → w.cell? (ad.add j) = some u := fun ad e => own_at h hj ad e
    split at had
    · exact cell_on (hc ad had) hb
    · cases a with
      | none => cases had
      | some a0 =>
        simp only [Option.map_some, Option.some.injEq, Nat.zero_mul] at had
        subst had
        have e : (a0.add 0).add j = a0.add j := by simp [Addr.add]
        rw [e]
        exact cell_on (hc a0 rfl) hb
theorem slice_fromP {w : World} {base : Nat} {a : Option Addr} {n c : Nat} {l : List (ByteArray × Nat)} (h : OwnV w base 120 2 (.slice a n c) n (pairs8 l)) (hl : l.length = n) (k : Nat) (hk : k ≤ n) :
    ∃ a' c', (∀ W, (Instr.sliceAt 95 (.slice a n c) (some (.int .i64 k)) none none).run Tryz.prog W = .ok (.slice a' (n - k) c') W) ∧ ∀ W, Below w.heap.size w W → SrcV W 2 (.slice a' (n - k) c') (n - k) (pairs8 (l.drop k)) := by
  have hrun : ∀ W, (Instr.sliceAt 95 (.slice a n c) (some (.int .i64 k)) none none).run Tryz.prog W = .ok (sliced a k n c 2) W := fun W => by
    rw [run_sliceAt_slice _ _ _ _ _ _ elemP, run_slice_l _ _ _ _ _ elemP .i64 k (by omega) (by omega), sizeP]
    simp
  unfold sliced at hrun
  have hcap : n ≤ c := by
    rcases h.2 with ⟨h2, h3⟩ | ⟨g, o, cap, cur, h3, _, _, hcc, _⟩
    · cases h2; omega
    · cases h3; exact hcc
  refine ⟨_, _, fun W => hrun W, fun W hb => ⟨_, _, rfl, by rw [pairs8_length, List.length_drop]; omega, pairs8_one _, fun h0 => ?_, fun ad had j u hu => ?_⟩⟩
  · split at h0
    · omega
    · cases a with
      | none =>
        rcases h.2 with ⟨_, h3⟩ | ⟨g, o, cap, cur, h3, _⟩
        · omega
        · cases h3
      | some _ => cases h0
  · rw [← pairs8_drop l k (by omega), List.getElem?_drop] at hu
    have hj2 : k * 2 + j < (pairs8 l).length := (List.getElem?_eq_some_iff.1 hu).1
    rw [pairs8_length] at hj2
    rw [if_neg (by omega)] at had
    cases a with
    | none => cases had
    | some a0 =>
      simp only [Option.map_some, Option.some.injEq] at had
      subst had
      have h9 := own_at h hu a0 rfl
      rcases h.2 with ⟨h2, _⟩ | ⟨g, o, cap, cur, h3, _⟩
      · cases h2
      · cases h3
        rw [Addr.add_lit] at h9
        rw [Addr.add_lit, Addr.add_lit, Nat.add_assoc]
        exact cell_on h9 hb
set_option linter.unusedSimpArgs false in
set_option linter.unusedVariables false in
set_option maxRecDepth 20000 in
set_option maxHeartbeats 1500000 in
theorem Rgone_any {w : World} {base : Nat} {a : Option Addr} {n c k : Nat} {l : List (ByteArray × Nat)} (h : OwnV w base 120 2 (.slice a n c) n (pairs8 l)) (hl : l.length = n) (hk : k < n) (hn : n ≤ 1000) :
    Calls Tryz.prog 51 #[.slice a n c, .int .i64 k] w fun e w' => ∃ v, e = .returned v ∧ OwnV w' w.heap.size 120 2 v (l.eraseIdx k).length (pairs8 (l.eraseIdx k)) ∧ Below w.heap.size w w' := by
  obtain ⟨a1, c1, r1, s1⟩ := slice_toP h hl k (by omega)
  obtain ⟨a2, c2, r2, s2⟩ := slice_fromP h hl (k + 1) (by omega)
  obtain ⟨i0, hi0, hz0, hz1, hz2⟩ := info_parts infoP
  have HI := Lib.hid hi0
  have S1 := Lib.hid s1
  have S2 := Lib.hid s2
  have HE := Lib.hid (show pairs8 (l.take k) ++ pairs8 (l.drop (k + 1)) = pairs8 (l.eraseIdx k) ∧ (k + (n - (k + 1))) = (l.eraseIdx k).length by
    constructor
    · rw [← pairs8_append, ← List.eraseIdx_eq_take_drop_succ]
    · rw [List.length_eraseIdx]; rw [if_pos (by omega)]; omega)
  have kI : (k : Int) + 1 ≤ (n : Int) := by omega
  have nI : (n : Int) ≤ 1000 := by omega
  have hwr : IntKind.i64.wrap ((k : Int) + 1) = (k : Int) + 1 := by simp [IntKind.wrap, IntKind.bits, IntKind.signed]; omega
  have e2 : ((k + 1 : Nat) : Int) = (k : Int) + 1 := by omega
  rw [e2] at r2
  obtain ⟨C, hC⟩ : ∃ C, C = w.heap.size := ⟨_, rfl⟩
  have HC := Lib.hid hC
  have hCl : C ≤ w.heap.size := by omega
  rw [← hC] at S1 S2 ⊢
  clear h hl s1 s2 hi0 e2 hC
  go_enter Tryz.func51, Tryz.ntmps51
  go_wp2_with fail
  go_region_law (first
    | (refine step_append_W rfl (.const (.slice none 0 0)) (.tmp 7) 95 rfl C 120 i0 (.agg #[.string ⟨#[]⟩, .int .i64 0]) 2 24 Tryz.underlying95 HI.out hz0 hz1 hz2 rfl (.slice none 0 0) 0 [] rfl ⟨rfl, .inl ⟨rfl, rfl⟩⟩ (.slice a1 k c1) k (pairs8 (l.take k)) rfl (S1.out _ (Below.refl _ _).drew) (by unfold maxLen; omega) (by omega) (by simp; omega) ?_
       intro v2 w2 ho2 hg2 hl2
       obtain ⟨a3, c3, rfl⟩ := ho2.sl
       have HO2 := Lib.hid (show OwnV w2 C 120 2 (.slice a3 k c3) k (pairs8 (l.take k)) by rw [Nat.zero_add, List.nil_append] at ho2; exact ho2)
       have HB2 := Lib.hid (show Below C w w2 from (Below.refl C w).drew.grown hg2 (by simp; omega) (fun g hg => by cases hg))
       have hs2 : C ≤ w2.heap.size := by have := HB2.out.size; omega
       clear ho2 hg2 hl2)
    | (refine step_append_W rfl (.tmp 8) (.tmp 12) 95 rfl C 120 i0 (.agg #[.string ⟨#[]⟩, .int .i64 0]) 2 24 Tryz.underlying95 HI.out hz0 hz1 hz2 rfl (.slice a3 k c3) k (pairs8 (l.take k)) rfl HO2.out (.slice a2 (n - (k + 1)) c2) (n - (k + 1)) (pairs8 (l.drop (k + 1))) rfl (S2.out _ HB2.out) (by unfold maxLen; omega) (by omega) (by omega) ?_
       intro v4 w4 ho4 hg4 hl4
       obtain ⟨a5, c5, rfl⟩ := ho4.sl
       have HO4 := Lib.hid (show OwnV w4 C 120 2 (.slice a5 (k + (n - (k + 1))) c5) (l.eraseIdx k).length (pairs8 (l.eraseIdx k)) by rw [← HE.out.1, ← HE.out.2]; exact ho4)
       have HB4 := Lib.hid (show Below C w w4 from HB2.out.grown hg4 hs2 (fun g hg => (OwnV.lt HO2.out g hg).1))
       clear ho4 hg4 hl4))
  all_goals
    go_wp2_with fail
    go_ret
    exact ⟨_, rfl, HO4.out, HB4.out⟩
end Go.Proofs.YtidhlbhfhfonoaaGreatDoor
namespace Go.Proofs.YtidhlbhfhfonoaaGreatDoor
open Go.ChangeShapes Go.WideShapes Go.ChangeAt Go.RowKit
theorem fld1 {w : World} {D : Nat} {a b c d e : Value} {t : TypeId} (h : w.heap[D]? = some (.cells #[a, b, c, d, e] t (0, 0))) (v : Value) : (w.setCell ⟨D, 1, none⟩ v).heap[D]? = some (.cells #[a, v, c, d, e] t (0, 0)) := heap_setCell_same w D 1 _ t v h
theorem fld2 {w : World} {D : Nat} {a b c d e : Value} {t : TypeId} (h : w.heap[D]? = some (.cells #[a, b, c, d, e] t (0, 0))) (v : Value) : (w.setCell ⟨D, 2, none⟩ v).heap[D]? = some (.cells #[a, b, v, d, e] t (0, 0)) := heap_setCell_same w D 2 _ t v h
theorem fld3 {w : World} {D : Nat} {a b c d e : Value} {t : TypeId} (h : w.heap[D]? = some (.cells #[a, b, c, d, e] t (0, 0))) (v : Value) : (w.setCell ⟨D, 3, none⟩ v).heap[D]? = some (.cells #[a, b, c, v, e] t (0, 0)) := heap_setCell_same w D 3 _ t v h
theorem fld4 {w : World} {D : Nat} {a b c d e : Value} {t : TypeId} (h : w.heap[D]? = some (.cells #[a, b, c, d, e] t (0, 0))) (v : Value) : (w.setCell ⟨D, 4, none⟩ v).heap[D]? = some (.cells #[a, b, c, d, v] t (0, 0)) := heap_setCell_same w D 4 _ t v h
theorem lies_new {X w2 : World} {v v2 : Value} {n m : Nat} (h : Lies X w2 v v2 n m) (g : Nat) (hg : v2.ownBlock = some g) : v.ownBlock = some g ∨ X.heap.size ≤ g := by
  rcases h with ⟨b, o, cap, rfl, rfl⟩ | ⟨h, _⟩ | ⟨_, rfl, _⟩
  · exact .inl hg
  · rw [h] at hg
    cases hg
    exact .inr (Nat.le_refl _)
  · exact .inl hg
/-- What a list of the disk becomes that is appended to: of its block, or new; and all else is as it was. -/
structure Appd (w w1 w2 : World) (D : Nat) (v v2 : Value) : Prop where
  new : ∀ g, v2.ownBlock = some g → v.ownBlock = some g ∨ w.heap.size ≤ g
  keep : ∀ g, g < w.heap.size → v.ownBlock ≠ some g → w2.heap[g]? = w.heap[g]?
  size : w.heap.size ≤ w2.heap.size
  os : w2.os = w.os
  tape : w2.tape = w.tape
  output : w2.output = w.output
theorem appd_of {w w1 w2 : World} {D : Nat} {v v2 : Value} {n m : Nat} (hb : Below w.heap.size w w1) (hg : w1.grownBy w2 v.ownBlock) (hl : Lies w1 w2 v v2 n m) : Appd w w1 w2 D v v2 := by
  have hs := hb.size
  refine ⟨fun g h => ?_, fun g h1 h2 => ?_, Nat.le_trans hs hg.size, hg.os.trans hb.os, hg.tape.trans hb.tape, hg.output.trans hb.output⟩
  · rcases lies_new hl g h with h | h
    · exact .inl h
    · exact .inr (by omega)
  · rw [hg.block g (by omega) (fun e => h2 e.symm)]
    exact hb.block g h1
section
variable {w w1 w2 : World} {base D : Nat} {R : Rf} {rv mv nv sv v2 : Value}
theorem Appd.chg {v : Value} (h : Appd w w1 w2 D v v2) (j : Nat) {S : Nat → Prop} (hD : S D) (hv : ∀ g, v.ownBlock = some g → S g) : Chg w (w2.setCell ⟨D, j, none⟩ v2) S :=
  (⟨h.os, h.tape, h.output, h.size, fun g hg hn => h.keep g hg (fun e => hn (hv g e))⟩ : Chg w w2 S).setCell (.inl hD) v2
theorem Appd.blk {v : Value} (h : Appd w w1 w2 D v v2) (hv : v.ownBlock ≠ some D) (hD : D < w.heap.size) : w2.heap[D]? = w.heap[D]? := h.keep D hD hv
theorem Appd.fit {v : Value} (h : Appd w w1 w2 D v v2) (j g : Nat) (hg : g < w.heap.size) (hD : g ≠ D) (hv : v.ownBlock ≠ some g) : (w2.setCell ⟨D, j, none⟩ v2).heap[g]? = w.heap[g]? := by
  rw [heap_other w2 _ _ g hD]
  exact h.keep g hg hv
theorem Appd.own {v : Value} {e : TypeId} {s n : Nat} {xs : List Value} (h : Appd w w1 w2 D v v2) (hv : v.ownBlock ≠ some D) (hD : D < w.heap.size) (j : Nat) (ho : OwnV w2 base e s v2 n xs) : OwnV (w2.setCell ⟨D, j, none⟩ v2) base e s v2 n xs :=
  ho.block fun g hg => heap_other w2 _ _ g fun e => by
    have e : g = D := e
    rcases h.new g hg with h1 | h1
    · exact hv (by rw [← e]; exact h1)
    · omega
theorem Appd.cell {v x : Value} (h : Appd w w1 w2 D v v2) (hv : v.ownBlock ≠ some D) {j : Nat} (hc : w.cell? ⟨D, j, none⟩ = some x) : w2.cell? ⟨D, j, none⟩ = some x :=
  (World.cell?_of_block (w := w) (a := ⟨D, j, none⟩) (h.keep D (World.block_lt_of_cell? (a := ⟨D, j, none⟩) _ hc) hv)).trans hc
theorem Appd.free {v : Value} (h : Appd w w1 w2 D v v2) (hv : v.ownBlock ≠ some D) (hD : D < w.heap.size) {j : Nat} (hc : w.frozen? ⟨D, j, none⟩ = false) : w2.frozen? ⟨D, j, none⟩ = false :=
  (World.frozen?_of_block (w := w) (a := ⟨D, j, none⟩) (h.keep D hD hv)).trans hc
theorem RdAt.appNow (h : RdAt w base D R rv mv nv sv) (ha : Appd w w1 w2 D nv v2) {l : List (ByteArray × Nat)} (ho : OwnV w2 base 120 2 v2 l.length (pairs8 l)) : RdAt (w2.setCell ⟨D, 3, none⟩ v2) base D { R with now := l } rv mv v2 sv :=
  h.setNow (fld3 ((ha.blk h.notD.2.2.1 h.lt).trans h.blk) v2) (ha.own h.notD.2.2.1 h.lt 3 ho) ha.new (fun g h1 h2 h3 => ha.fit 3 g h1 h2 h3)
theorem RdAt.appRows (h : RdAt w base D R rv mv nv sv) (ha : Appd w w1 w2 D rv v2) {l : List ByteArray} (ho : OwnV w2 base 9 1 v2 l.length (strs l)) : RdAt (w2.setCell ⟨D, 1, none⟩ v2) base D { R with rows := l } v2 mv nv sv :=
  h.setRows (fld1 ((ha.blk h.notD.1 h.lt).trans h.blk) v2) (ha.own h.notD.1 h.lt 1 ho) ha.new (fun g h1 h2 h3 => ha.fit 1 g h1 h2 h3)
theorem RdAt.appMarks (h : RdAt w base D R rv mv nv sv) (ha : Appd w w1 w2 D mv v2) {l : List Nat} (ho : OwnV w2 base 3 1 v2 l.length (cellsK .i64 l)) : RdAt (w2.setCell ⟨D, 2, none⟩ v2) base D { R with marks := l } rv v2 nv sv :=
  h.setMarks (fld2 ((ha.blk h.notD.2.1 h.lt).trans h.blk) v2) (ha.own h.notD.2.1 h.lt 2 ho) ha.new (fun g h1 h2 h3 => ha.fit 2 g h1 h2 h3)
/-- Names that lie elsewhere, in memory of their own, are laid into the disk. -/
theorem RdAt.newNow (h : RdAt w base D R rv mv nv sv) (hb : Below w.heap.size w w2) {l : List (ByteArray × Nat)} (ho : OwnV w2 w.heap.size 120 2 v2 l.length (pairs8 l)) (hB : base ≤ w.heap.size) : RdAt (w2.setCell ⟨D, 3, none⟩ v2) base D { R with now := l } rv mv v2 sv := by
  have ha : Appd w w w2 D (.slice none 0 0) v2 := ⟨fun g hg => .inr (OwnV.lt ho g hg).1, fun g hg _ => hb.block g hg, hb.size, hb.os, hb.tape, hb.output⟩
  exact h.setNow (fld3 ((hb.block D h.lt).trans h.blk) v2) (ha.own (by simp [Value.ownBlock]) h.lt 3 (OwnV.base ho hB)) (fun g hg => .inr (OwnV.lt ho g hg).1) (fun g h1 h2 _ => by rw [heap_other w2 _ _ g h2]; exact hb.block g h1)
theorem RdAt.newSafe (h : RdAt w base D R rv mv nv sv) (hb : Below w.heap.size w w2) {l : List (ByteArray × Nat)} (ho : OwnV w2 w.heap.size 120 2 v2 l.length (pairs8 l)) (hB : base ≤ w.heap.size) : RdAt (w2.setCell ⟨D, 4, none⟩ v2) base D { R with safe := l } rv mv nv v2 := by
  have ha : Appd w w w2 D (.slice none 0 0) v2 := ⟨fun g hg => .inr (OwnV.lt ho g hg).1, fun g hg _ => hb.block g hg, hb.size, hb.os, hb.tape, hb.output⟩
  exact h.setSafe (fld4 ((hb.block D h.lt).trans h.blk) v2) (ha.own (by simp [Value.ownBlock]) h.lt 4 (OwnV.base ho hB)) (fun g hg => .inr (OwnV.lt ho g hg).1) (fun g h1 h2 _ => by rw [heap_other w2 _ _ g h2]; exact hb.block g h1)
end
theorem two_new (w : World) (x y : Value) (t : TypeId) : ∀ (j : Nat) (u : Value), [x, y][j]? = some u → (w.alloc (.cells #[x, y] t)).cell? ((⟨w.heap.size, 0, none⟩ : Addr).add j) = some u := by
  intro j u h
  have h9 := heap_alloc_new w (.cells #[x, y] t)
  match j, h with
  | 0, h => cases h; exact cell_of_row _ w.heap.size 0 _ t (0, 0) h9
  | 1, h => cases h; rw [Addr.add_lit]; exact cell_of_row _ w.heap.size 1 _ t (0, 0) h9
theorem src_pair (w : World) (s : ByteArray) (k : Nat) (t : TypeId) : SrcV (w.alloc (.cells #[.string s, .int .i64 k] t)) 2 (.slice (some ⟨w.heap.size, 0, none⟩) 1 1) 1 (pairs8 [(s, k)]) := by
  refine ⟨_, 1, rfl, rfl, pairs8_one _, (fun h => by cases h), fun ad had j u hu => ?_⟩
  cases had
  exact two_new w _ _ t j u hu
theorem Chg.more {w w' : World} {S S' : Nat → Prop} (h : Chg w w' S) (hS : ∀ g, S g → S' g) : Chg w w' S' := ⟨h.os, h.tape, h.output, h.size, fun g hg hn => h.block g hg fun e => hn (hS g e)⟩
section
variable {w : World} {base D : Nat} {R : Rf} {rv mv nv sv : Value}
/-- A mark is laid. -/
theorem RdAt.markAt (h : RdAt w base D R rv mv nv sv) {g o c : Nat} (hv : mv = .slice (some ⟨g, o, none⟩) R.marks.length c) (k z : Nat) : RdAt (w.setCell ⟨g, o + k, none⟩ (.int .i64 z)) base D { R with marks := R.marks.set k z } rv mv nv sv := by
  have hg : mv.ownBlock = some g := by rw [hv]; rfl
  have hgD : D ≠ g := fun e => h.notD.2.1 (by rw [hg, e])
  refine h.setMarks ((heap_other w _ _ D hgD).trans h.blk) ?_ (fun g' hg' => .inl hg') (fun g' _ _ h3 => heap_other w _ _ g' (fun e => h3 (by rw [hg, e])))
  have h9 := h.marks
  rw [hv] at h9 ⊢
  have h8 := OwnV.put h9 (j := k) (.int .i64 z)
  rw [List.length_set]
  have e : (cellsK .i64 R.marks).set k (.int .i64 z) = cellsK .i64 (R.marks.set k z) := by simp [cellsK, List.map_set]
  rw [← e]
  exact h8
/-- A row is laid. -/
theorem RdAt.rowAt (h : RdAt w base D R rv mv nv sv) {g o c : Nat} (hv : rv = .slice (some ⟨g, o, none⟩) R.rows.length c) (k : Nat) (b : ByteArray) : RdAt (w.setCell ⟨g, o + k, none⟩ (.string b)) base D { R with rows := R.rows.set k b } rv mv nv sv := by
  have hg : rv.ownBlock = some g := by rw [hv]; rfl
  have hgD : D ≠ g := fun e => h.notD.1 (by rw [hg, e])
  refine h.setRows ((heap_other w _ _ D hgD).trans h.blk) ?_ (fun g' hg' => .inl hg') (fun g' _ _ h3 => heap_other w _ _ g' (fun e => h3 (by rw [hg, e])))
  have h9 := h.rows
  rw [hv] at h9 ⊢
  have h8 := OwnV.put h9 (j := k) (.string b)
  rw [List.length_set]
  have e : (strs R.rows).set k (.string b) = strs (R.rows.set k b) := by simp [strs, List.map_set]
  rw [← e]
  exact h8
end
end Go.Proofs.YtidhlbhfhfonoaaGreatDoor
