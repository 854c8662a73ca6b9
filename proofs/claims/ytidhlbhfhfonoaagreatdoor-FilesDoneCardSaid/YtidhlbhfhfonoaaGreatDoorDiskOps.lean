/- Layer 17 (files): calls on one disk, and on two side by side, as the laws take them; Layer 17 (files): disks beside blocks that stay as they are -/
import Derived.Test.YtidhlbhfhfonoaaGreatDoorSeen
import Derived.Lib.ConvBytes
namespace Go.Proofs.YtidhlbhfhfonoaaGreatDoor
open Go.ChangeShapes Go.WideShapes Go.ChangeAt Go.RowKit

/-- One disk, wherever it lies (from base on). -/
def One (w : World) (base D : Nat) (M : Dm) : Prop := ∃ S, Dk w base D M S
theorem One.later {w w' : World} {base D : Nat} {M : Dm} (h : One w base D M) (hb : Below w.heap.size w w') : One w' base D M := by
  obtain ⟨S, h⟩ := h
  exact ⟨S, h.later hb⟩
theorem One.ok {w : World} {base D : Nat} {M : Dm} (h : One w base D M) : M.ok := by
  obtain ⟨S, h⟩ := h
  exact h.ok
theorem One.base {w : World} {base D : Nat} {M : Dm} (h : One w base D M) : base ≤ w.heap.size := by
  obtain ⟨S, h⟩ := h
  exact h.base
theorem Two.fst {w : World} {base C D : Nat} {M M' : Dm} (h : Two w base C D M M') : One w base C M := by
  obtain ⟨S, S', h1, h2, h3⟩ := h
  exact ⟨S, h1⟩
theorem Two.snd {w : World} {base C D : Nat} {M M' : Dm} (h : Two w base C D M M') : One w base D M' := h.swap.fst
section
variable {P : Program} {f : FuncId} {args : Array Value} {w : World} {base C D : Nat} {M M' : Dm}
theorem One.act {x : Dm × Nat} {N : Dm} {e : Nat} (z : Int) (h : One w base C M) (hx : x = (N, e)) (hz : z = e) (hc : ∀ S, Dk w base C M S → Calls P f args w (Errs w base C S x)) :
    Calls P f args w fun en w' => en = .returned (.int .i64 z) ∧ One w' base C N ∧ Below base w w' := by
  obtain ⟨S, h⟩ := h
  subst hx hz
  refine (hc S h).mono ?_
  rintro en w' ⟨rfl, hn⟩
  exact ⟨rfl, ⟨_, hn.dk⟩, hn.below (fun g hg => (h.2 g hg).1) h.base⟩
theorem Two.act {x : Dm × Nat} {N : Dm} {e : Nat} (z : Int) (h : Two w base C D M M') (hx : x = (N, e)) (hz : z = e) (hc : ∀ S, Dk w base C M S → Calls P f args w (Errs w base C S x)) :
    Calls P f args w fun en w' => en = .returned (.int .i64 z) ∧ Two w' base C D N M' ∧ Below base w w' := by
  obtain ⟨S, S', h1, h2, h3⟩ := h
  subst hx hz
  refine (hc S h1).mono ?_
  rintro en w' ⟨rfl, hn⟩
  exact ⟨rfl, Two.first S S' h2 h3 hn, hn.below (fun g hg => (h1.2 g hg).1) h1.base⟩
theorem Two.act2 {x : Dm × Nat} {N : Dm} {e : Nat} (z : Int) (h : Two w base C D M M') (hx : x = (N, e)) (hz : z = e) (hc : ∀ S, Dk w base D M' S → Calls P f args w (Errs w base D S x)) :
    Calls P f args w fun en w' => en = .returned (.int .i64 z) ∧ Two w' base C D M N ∧ Below base w w' :=
  (h.swap.act z hx hz hc).mono fun _ _ ⟨h1, h2, h3⟩ => ⟨h1, h2.swap, h3⟩
/-- A call that only looks, and tells v. -/
theorem One.look {v : Value} (h : One w base C M) (hc : ∀ S, Dk w base C M S → Calls P f args w fun e w' => e = .returned v ∧ Below w.heap.size w w') :
    Calls P f args w fun e w' => e = .returned v ∧ Below w.heap.size w w' := by
  obtain ⟨S, h⟩ := h
  exact hc S h
end
theorem One.start {w w' : World} {D : Nat} {M : Dm} {S : Nat → Prop} {base : Nat} (h : Dk w D D M S) (hb : Below w.heap.size w w') (hB : base ≤ D) : One w' base D M := by
  obtain ⟨⟨rb, rv, d1, d2⟩, d3⟩ := h.later hb
  exact ⟨S, ⟨rb, rv, ⟨d1.ok, d1.blk, fun k r hr => ⟨(d1.row k r hr).blk, OwnV.base (d1.row k r hr).own hB⟩, hB, fun k hk => ⟨Nat.le_trans hB (d1.low k hk).1, (d1.low k hk).2⟩, d1.two⟩, d2⟩, fun g hg => ⟨Nat.le_trans hB (d3 g hg).1, (d3 g hg).2⟩⟩
theorem Dk.down {w : World} {B base D : Nat} {M : Dm} {S : Nat → Prop} (h : Dk w B D M S) (hB : base ≤ B) : Dk w base D M S := by
  obtain ⟨⟨rb, rv, d1, d2⟩, d3⟩ := h
  exact ⟨⟨rb, rv, ⟨d1.ok, d1.blk, fun k r hr => ⟨(d1.row k r hr).blk, OwnV.base (d1.row k r hr).own hB⟩, Nat.le_trans hB d1.lowD, fun k hk => ⟨Nat.le_trans hB (d1.low k hk).1, (d1.low k hk).2⟩, d1.two⟩, d2⟩, fun g hg => ⟨Nat.le_trans hB (d3 g hg).1, (d3 g hg).2⟩⟩
/-- A new disk beside one that is there. -/
theorem One.beside {w w' : World} {base C D B : Nat} {M M' : Dm} {S' : Nat → Prop} (h : One w base C M) (hb : Below w.heap.size w w') (hd : Dk w' B D M' S') (hB : w.heap.size ≤ B) : Two w' base C D M M' := by
  obtain ⟨S, h⟩ := h
  have hbs := h.base
  exact ⟨S, S', h.later hb, hd.down (by omega), fun g hg hs => by have := (h.2 g hg).2; have := (hd.2 g hs).1; omega⟩
theorem kat_lit (w : World) (l : List Nat) (t : TypeId) (fr : Nat × Nat) (hl : l.length ≤ maxLen) : KAt .u8 (w.alloc (.cells (cellsK .u8 l).toArray t fr)) (.slice (some ⟨w.heap.size, 0, none⟩) l.length l.length) l := by
  refine ⟨_, _, rfl, Nat.le_refl _, hl, (fun h => by cases h), fun _ => ⟨w.heap.size, 0, rfl, fun i x hx => ?_⟩⟩
  have h1 : (w.alloc (.cells (cellsK .u8 l).toArray t fr)).heap[w.heap.size]? = some (.cells (cellsK .u8 l).toArray t fr) := heap_alloc_new w _
  simp only [World.cell?, h1, Nat.zero_add, List.getElem?_toArray, cellsK_get, hx, Option.map_some]
  rfl
theorem sat_lit (w : World) (s : ByteArray) (t : TypeId) : SAt (w.alloc (.cells #[.string s] t)) (.slice (some ⟨w.heap.size, 0, none⟩) 1 1) [s] := by
  refine ⟨_, _, rfl, Nat.le_refl _, by unfold maxLen; simp, (fun h => by cases h), fun _ => ⟨w.heap.size, 0, rfl, fun i x hx => ?_⟩⟩
  have h1 : (w.alloc (.cells #[.string s] t)).heap[w.heap.size]? = some (.cells #[.string s] t (0, 0)) := heap_alloc_new w _
  cases i with
  | zero =>
    simp only [List.getElem?_cons_zero, Option.some.injEq] at hx
    subst hx
    rw [cell_of_row _ _ _ _ _ (0, 0) h1]
    rfl
  | succ i => simp at hx
end Go.Proofs.YtidhlbhfhfonoaaGreatDoor
namespace Go.Proofs.YtidhlbhfhfonoaaGreatDoor
open Go.ChangeShapes Go.WideShapes Go.ChangeAt Go.RowKit

/-- The blocks of K are as they were. -/
structure Stay (K : Nat → Prop) (w w' : World) : Prop where
  os : w'.os = w.os
  tape : w'.tape = w.tape
  output : w'.output = w.output
  size : w.heap.size ≤ w'.heap.size
  block : ∀ g, K g → w'.heap[g]? = w.heap[g]?
theorem Stay.refl (K : Nat → Prop) (w : World) : Stay K w w := ⟨rfl, rfl, rfl, Nat.le_refl _, fun _ _ => rfl⟩
theorem Stay.trans {K K' : Nat → Prop} {w w1 w2 : World} (h : Stay K w w1) (k : Stay K' w1 w2) (hK : ∀ g, K g → K' g) : Stay K w w2 :=
  ⟨k.os.trans h.os, k.tape.trans h.tape, k.output.trans h.output, Nat.le_trans h.size k.size, fun g hg => (k.block g (hK g hg)).trans (h.block g hg)⟩
theorem Stay.below {K : Nat → Prop} {w w' : World} {base : Nat} (h : Stay K w w') (hK : ∀ g, g < base → K g) : Below base w w' := ⟨h.os, h.tape, h.output, h.size, fun g hg => h.block g (hK g hg)⟩
theorem Stay.of_below {K : Nat → Prop} {w w' : World} (h : Below w.heap.size w w') (hK : ∀ g, K g → g < w.heap.size) : Stay K w w' := ⟨h.os, h.tape, h.output, h.size, fun g hg => h.block g (hK g hg)⟩
/-- One disk, beside the blocks of K. -/
def OneK (K : Nat → Prop) (w : World) (base C : Nat) (M : Dm) : Prop := ∃ S, Dk w base C M S ∧ ∀ g, K g → g < w.heap.size ∧ ¬ S g
/-- Two disks, beside the blocks of K. -/
def TwoK (K : Nat → Prop) (w : World) (base C D : Nat) (M M' : Dm) : Prop := ∃ S S', Dk w base C M S ∧ Dk w base D M' S' ∧ (∀ g, S g → ¬ S' g) ∧ ∀ g, K g → g < w.heap.size ∧ ¬ S g ∧ ¬ S' g
theorem TwoK.swap {K : Nat → Prop} {w : World} {base C D : Nat} {M M' : Dm} (h : TwoK K w base C D M M') : TwoK K w base D C M' M := by
  obtain ⟨S, S', h1, h2, h3, h4⟩ := h
  exact ⟨S', S, h2, h1, fun g hg hs => h3 g hs hg, fun g hg => ⟨(h4 g hg).1, (h4 g hg).2.2, (h4 g hg).2.1⟩⟩
theorem TwoK.fst {K : Nat → Prop} {w : World} {base C D : Nat} {M M' : Dm} (h : TwoK K w base C D M M') : OneK K w base C M := by
  obtain ⟨S, S', h1, h2, h3, h4⟩ := h
  exact ⟨S, h1, fun g hg => ⟨(h4 g hg).1, (h4 g hg).2.1⟩⟩
theorem TwoK.snd {K : Nat → Prop} {w : World} {base C D : Nat} {M M' : Dm} (h : TwoK K w base C D M M') : OneK K w base D M' := h.swap.fst
theorem TwoK.later {K : Nat → Prop} {w w' : World} {base C D : Nat} {M M' : Dm} (h : TwoK K w base C D M M') (hb : Below w.heap.size w w') : TwoK K w' base C D M M' := by
  obtain ⟨S, S', h1, h2, h3, h4⟩ := h
  exact ⟨S, S', h1.later hb, h2.later hb, h3, fun g hg => ⟨Nat.lt_of_lt_of_le (h4 g hg).1 hb.size, (h4 g hg).2⟩⟩
theorem OneK.later {K : Nat → Prop} {w w' : World} {base C : Nat} {M : Dm} (h : OneK K w base C M) (hb : Below w.heap.size w w') : OneK K w' base C M := by
  obtain ⟨S, h1, h4⟩ := h
  exact ⟨S, h1.later hb, fun g hg => ⟨Nat.lt_of_lt_of_le (h4 g hg).1 hb.size, (h4 g hg).2⟩⟩
theorem OneK.stay {K : Nat → Prop} {w w' : World} {base C : Nat} {M : Dm} (h : OneK K w base C M) (hb : Below w.heap.size w w') : Stay K w w' := by
  obtain ⟨S, h1, h4⟩ := h
  exact Stay.of_below hb fun g hg => (h4 g hg).1
theorem TwoK.stay {K : Nat → Prop} {w w' : World} {base C D : Nat} {M M' : Dm} (h : TwoK K w base C D M M') (hb : Below w.heap.size w w') : Stay K w w' := h.fst.stay hb
theorem OneK.ok {K : Nat → Prop} {w : World} {base C : Nat} {M : Dm} (h : OneK K w base C M) : M.ok := by
  obtain ⟨S, h1, h4⟩ := h
  exact h1.ok
theorem OneK.size {K : Nat → Prop} {w : World} {base C : Nat} {M : Dm} (h : OneK K w base C M) : base ≤ w.heap.size := by
  obtain ⟨S, h1, h4⟩ := h
  exact h1.base
/-- One new block more stays. -/
theorem OneK.more {K : Nat → Prop} {w w' : World} {base C : Nat} {M : Dm} (h : OneK K w base C M) (hb : Below w.heap.size w w') {G : Nat} (h1 : w.heap.size ≤ G) (h2 : G < w'.heap.size) : OneK (fun g => K g ∨ g = G) w' base C M := by
  obtain ⟨S, d1, h4⟩ := h
  refine ⟨S, d1.later hb, fun g hg => ?_⟩
  rcases hg with hg | rfl
  · exact ⟨Nat.lt_of_lt_of_le (h4 g hg).1 hb.size, (h4 g hg).2⟩
  · exact ⟨h2, fun hs => by have := (d1.2 g hs).2; omega⟩
theorem TwoK.more {K : Nat → Prop} {w w' : World} {base C D : Nat} {M M' : Dm} (h : TwoK K w base C D M M') (hb : Below w.heap.size w w') {G : Nat} (h1 : w.heap.size ≤ G) (h2 : G < w'.heap.size) : TwoK (fun g => K g ∨ g = G) w' base C D M M' := by
  obtain ⟨S, S', d1, d2, h3, h4⟩ := h
  refine ⟨S, S', d1.later hb, d2.later hb, h3, fun g hg => ?_⟩
  rcases hg with hg | rfl
  · exact ⟨Nat.lt_of_lt_of_le (h4 g hg).1 hb.size, (h4 g hg).2⟩
  · exact ⟨h2, fun hs => by have := (d1.2 g hs).2; omega, fun hs => by have := (d2.2 g hs).2; omega⟩
theorem OneK.new {w : World} {C : Nat} {M : Dm} {S : Nat → Prop} (h : Dk w C C M S) : OneK (fun g => g < C) w C C M :=
  ⟨S, h, fun g hg => ⟨by have := h.base; omega, fun hs => by have := (h.2 g hs).1; omega⟩⟩
theorem OneK.beside {K : Nat → Prop} {w w' : World} {base C D B : Nat} {M M' : Dm} {S' : Nat → Prop} (h : OneK K w base C M) (hb : Below w.heap.size w w') (hd : Dk w' B D M' S') (hB : w.heap.size ≤ B) : TwoK K w' base C D M M' := by
  obtain ⟨S, h, h4⟩ := h
  have hbs := h.base
  exact ⟨S, S', h.later hb, hd.down (by omega), fun g hg hs => by have := (h.2 g hg).2; have := (hd.2 g hs).1; omega, fun g hg => ⟨Nat.lt_of_lt_of_le (h4 g hg).1 hb.size, (h4 g hg).2, fun hs => by have := (hd.2 g hs).1; have := (h4 g hg).1; omega⟩⟩
section
variable {P : Program} {f : FuncId} {args : Array Value} {K : Nat → Prop} {w : World} {base C D : Nat} {M M' : Dm}
theorem stay_of {w' : World} {N : Dm} {S : Nat → Prop} (hK : ∀ g, K g → g < w.heap.size ∧ ¬ S g) (hn : Dn w w' base C N S) : Stay K w w' :=
  ⟨hn.chg.os, hn.chg.tape, hn.chg.output, hn.chg.size, fun g hg => hn.chg.block g (hK g hg).1 (hK g hg).2⟩
theorem OneK.act {x : Dm × Nat} {N : Dm} {e : Nat} (z : Int) (h : OneK K w base C M) (hx : x = (N, e)) (hz : z = e) (hc : ∀ S, Dk w base C M S → Calls P f args w (Errs w base C S x)) :
    Calls P f args w fun en w' => en = .returned (.int .i64 z) ∧ OneK K w' base C N ∧ Stay K w w' := by
  obtain ⟨S, h, h4⟩ := h
  subst hx hz
  refine (hc S h).mono ?_
  rintro en w' ⟨rfl, hn⟩
  refine ⟨rfl, ⟨_, hn.dk, fun g hg => ⟨Nat.lt_of_lt_of_le (h4 g hg).1 hn.chg.size, fun hs => ?_⟩⟩, stay_of h4 hn⟩
  rcases hs with hs | hs
  · exact (h4 g hg).2 hs
  · have := (h4 g hg).1; omega
theorem TwoK.act {x : Dm × Nat} {N : Dm} {e : Nat} (z : Int) (h : TwoK K w base C D M M') (hx : x = (N, e)) (hz : z = e) (hc : ∀ S, Dk w base C M S → Calls P f args w (Errs w base C S x)) :
    Calls P f args w fun en w' => en = .returned (.int .i64 z) ∧ TwoK K w' base C D N M' ∧ Stay K w w' := by
  obtain ⟨S, S', h1, h2, h3, h4⟩ := h
  subst hx hz
  refine (hc S h1).mono ?_
  rintro en w' ⟨rfl, hn⟩
  refine ⟨rfl, ⟨_, S', hn.dk, h2.other hn.chg h3, fun g hg hs => ?_, fun g hg => ⟨Nat.lt_of_lt_of_le (h4 g hg).1 hn.chg.size, fun hs => ?_, (h4 g hg).2.2⟩⟩, stay_of (fun g hg => ⟨(h4 g hg).1, (h4 g hg).2.1⟩) hn⟩
  · rcases hg with hg | hg
    · exact h3 g hg hs
    · have := (h2.2 g hs).2; omega
  · rcases hs with hs | hs
    · exact (h4 g hg).2.1 hs
    · have := (h4 g hg).1; omega
theorem TwoK.act2 {x : Dm × Nat} {N : Dm} {e : Nat} (z : Int) (h : TwoK K w base C D M M') (hx : x = (N, e)) (hz : z = e) (hc : ∀ S, Dk w base D M' S → Calls P f args w (Errs w base D S x)) :
    Calls P f args w fun en w' => en = .returned (.int .i64 z) ∧ TwoK K w' base C D M N ∧ Stay K w w' :=
  (h.swap.act z hx hz hc).mono fun _ _ ⟨h1, h2, h3⟩ => ⟨h1, h2.swap, h3⟩
end
theorem OneK.look {P : Program} {f : FuncId} {args : Array Value} {K : Nat → Prop} {w : World} {base C : Nat} {M : Dm} {R : Ending → World → Prop} (h : OneK K w base C M) (hc : ∀ S, Dk w base C M S → Calls P f args w R) : Calls P f args w R := by
  obtain ⟨S, h, _⟩ := h
  exact hc S h
theorem list_look {w : World} {base D : Nat} {M : Dm} {S : Nat → Prop} {L : List ByteArray} {n : Nat} (hd : Dk w base D M S) (hL : M.list = L) (hn : L.length = n) :
    Calls Tryz.prog 55 #[.pointer (some ⟨D, 0, none⟩)] w fun e w' => ∃ a c, e = .returned (.slice a n c) ∧ OwnS w' w.heap.size (.slice a n c) L ∧ Below w.heap.size w w' := by
  refine (List_any hd).mono ?_
  rintro _ w' ⟨v, rfl, ho, hb⟩
  rw [hL] at ho
  obtain ⟨a, c, rfl⟩ := ho.sl
  subst hn
  exact ⟨a, c, rfl, ho, hb⟩
theorem left_look {w : World} {base D : Nat} {M : Dm} {S : Nat → Prop} {z : Int} (hd : Dk w base D M S) (hz : (M.left : Int) = z) :
    Calls Tryz.prog 41 #[.pointer (some ⟨D, 0, none⟩)] w fun e w' => e = .returned (.int .i64 z) ∧ Below w.heap.size w w' := by
  subst hz
  exact Left_any hd
theorem Stay.heap {K : Nat → Prop} {w w' : World} (h : Stay K w w') {g : Nat} (hg : K g) {o : Obj} (ho : w.heap[g]? = some o) : w'.heap[g]? = some o := (h.block g hg).trans ho
theorem heap_on {w w' : World} (hb : Below w.heap.size w w') {g : Nat} {o : Obj} (ho : w.heap[g]? = some o) : w'.heap[g]? = some o := (hb.block g (lt_of_heap ho)).trans ho
/-! ### Bytes of a text -/
def nums (s : ByteArray) : List Nat := s.data.toList.map UInt8.toNat
theorem nums_length (s : ByteArray) : (nums s).length = s.size := by
  unfold nums
  rw [List.length_map]
  rfl
theorem nums_bytes (s : ByteArray) : Bytes (nums s) := fun x hx => by
  obtain ⟨b, _, rfl⟩ := List.mem_map.1 hx
  exact b.toNat_lt
theorem conv_below (w : World) (s : ByteArray) (e : TypeId) : Below w.heap.size w (Lib.bytesWorld w e s) :=
  ⟨rfl, rfl, rfl, by rw [Lib.bytesWorld_size]; omega, fun g hg => Lib.bytesWorld_at_old w e s g hg⟩
theorem conv_kat (w : World) (s : ByteArray) (e : TypeId) (hs : s.size ≤ 140737488355328) : KAt .u8 (Lib.bytesWorld w e s) (.slice (some ⟨w.heap.size, 0, none⟩) s.size (grownCap w s.size 0 e)) (nums s) := by
  have hl := nums_length s
  refine ⟨_, _, by rw [hl], by rw [hl]; exact grownCap_ge w s.size 0 e, grownCap_le_maxLen w s.size 0 e (by unfold maxLen; omega), (fun h => by cases h), fun _ => ⟨w.heap.size, 0, rfl, fun i x hx => ?_⟩⟩
  have hi : i < s.size := by have := (List.getElem?_eq_some_iff.1 hx).1; omega
  rw [Nat.zero_add, Lib.bytesWorld_cell w e s i hi]
  unfold nums at hx
  rw [List.getElem?_map] at hx
  obtain ⟨b, hb, rfl⟩ := Option.map_eq_some_iff.1 hx
  rw [List.getD_eq_getElem?_getD, hb]
  rfl
end Go.Proofs.YtidhlbhfhfonoaaGreatDoor
