/- Layer 17 (files): calls on one disk, and on two side by side, as the laws take them. -/
import Derived.Test.YtjfejpdeccnlnaaDoorDisk12
namespace Go.Proofs.YtjfejpdeccnlnaaDoor
open Go.ChangeShapes Go.WideShapes Go.ChangeAt Go.RowKit

/-- One disk, wherever it lies (from base on). -/
def One (w : World) (base D : Nat) (M : Dm) : Prop := ∃ S, Dk w base D M S
theorem One.later {w w' : World} {base D : Nat} {M : Dm} (h : One w base D M) (hb : Below w.heap.size w w') : One w' base D M := by
  obtain ⟨S, h⟩ := h
  exact ⟨S, h.later hb⟩
theorem One.ok {w : World} {base D : Nat} {M : Dm} (h : One w base D M) : M.ok := by
  obtain ⟨S, h⟩ := h
  exact h.ok
theorem One.base {w : World} {base D : Nat} {M : Dm} (h : One w base D M) : base ≤ w.heap.size := by
  obtain ⟨S, h⟩ := h
  exact h.base
theorem Two.fst {w : World} {base C D : Nat} {M M' : Dm} (h : Two w base C D M M') : One w base C M := by
  obtain ⟨S, S', h1, h2, h3⟩ := h
  exact ⟨S, h1⟩
theorem Two.snd {w : World} {base C D : Nat} {M M' : Dm} (h : Two w base C D M M') : One w base D M' := h.swap.fst
section
variable {P : Program} {f : FuncId} {args : Array Value} {w : World} {base C D : Nat} {M M' : Dm}
theorem One.act {x : Dm × Nat} {N : Dm} {e : Nat} (z : Int) (h : One w base C M) (hx : x = (N, e)) (hz : z = e) (hc : ∀ S, Dk w base C M S → Calls P f args w (Errs w base C S x)) :
    Calls P f args w fun en w' => en = .returned (.int .i64 z) ∧ One w' base C N ∧ Below base w w' := by
  obtain ⟨S, h⟩ := h
  subst hx hz
  refine (hc S h).mono ?_
  rintro en w' ⟨rfl, hn⟩
  exact ⟨rfl, ⟨_, hn.dk⟩, hn.below (fun g hg => (h.2 g hg).1) h.base⟩
theorem Two.act {x : Dm × Nat} {N : Dm} {e : Nat} (z : Int) (h : Two w base C D M M') (hx : x = (N, e)) (hz : z = e) (hc : ∀ S, Dk w base C M S → Calls P f args w (Errs w base C S x)) :
    Calls P f args w fun en w' => en = .returned (.int .i64 z) ∧ Two w' base C D N M' ∧ Below base w w' := by
  obtain ⟨S, S', h1, h2, h3⟩ := h
  subst hx hz
  refine (hc S h1).mono ?_
  rintro en w' ⟨rfl, hn⟩
  exact ⟨rfl, Two.first S S' h2 h3 hn, hn.below (fun g hg => (h1.2 g hg).1) h1.base⟩
theorem Two.act2 {x : Dm × Nat} {N : Dm} {e : Nat} (z : Int) (h : Two w base C D M M') (hx : x = (N, e)) (hz : z = e) (hc : ∀ S, Dk w base D M' S → Calls P f args w (Errs w base D S x)) :
    Calls P f args w fun en w' => en = .returned (.int .i64 z) ∧ Two w' base C D M N ∧ Below base w w' :=
  (h.swap.act z hx hz hc).mono fun _ _ ⟨h1, h2, h3⟩ => ⟨h1, h2.swap, h3⟩
/-- A call that only looks, and tells v. -/
theorem One.look {v : Value} (h : One w base C M) (hc : ∀ S, Dk w base C M S → Calls P f args w fun e w' => e = .returned v ∧ Below w.heap.size w w') :
    Calls P f args w fun e w' => e = .returned v ∧ Below w.heap.size w w' := by
  obtain ⟨S, h⟩ := h
  exact hc S h
end
theorem One.start {w w' : World} {D : Nat} {M : Dm} {S : Nat → Prop} {base : Nat} (h : Dk w D D M S) (hb : Below w.heap.size w w') (hB : base ≤ D) : One w' base D M := by
  obtain ⟨⟨rb, rv, d1, d2⟩, d3⟩ := h.later hb
  exact ⟨S, ⟨rb, rv, ⟨d1.ok, d1.blk, fun k r hr => ⟨(d1.row k r hr).blk, OwnV.base (d1.row k r hr).own hB⟩, hB, fun k hk => ⟨Nat.le_trans hB (d1.low k hk).1, (d1.low k hk).2⟩, d1.two⟩, d2⟩, fun g hg => ⟨Nat.le_trans hB (d3 g hg).1, (d3 g hg).2⟩⟩
theorem Dk.down {w : World} {B base D : Nat} {M : Dm} {S : Nat → Prop} (h : Dk w B D M S) (hB : base ≤ B) : Dk w base D M S := by
  obtain ⟨⟨rb, rv, d1, d2⟩, d3⟩ := h
  exact ⟨⟨rb, rv, ⟨d1.ok, d1.blk, fun k r hr => ⟨(d1.row k r hr).blk, OwnV.base (d1.row k r hr).own hB⟩, Nat.le_trans hB d1.lowD, fun k hk => ⟨Nat.le_trans hB (d1.low k hk).1, (d1.low k hk).2⟩, d1.two⟩, d2⟩, fun g hg => ⟨Nat.le_trans hB (d3 g hg).1, (d3 g hg).2⟩⟩
/-- A new disk beside one that is there. -/
theorem One.beside {w w' : World} {base C D B : Nat} {M M' : Dm} {S' : Nat → Prop} (h : One w base C M) (hb : Below w.heap.size w w') (hd : Dk w' B D M' S') (hB : w.heap.size ≤ B) : Two w' base C D M M' := by
  obtain ⟨S, h⟩ := h
  have hbs := h.base
  exact ⟨S, S', h.later hb, hd.down (by omega), fun g hg hs => by have := (h.2 g hg).2; have := (hd.2 g hs).1; omega⟩
theorem kat_lit (w : World) (l : List Nat) (t : TypeId) (fr : Nat × Nat) (hl : l.length ≤ maxLen) : KAt .u8 (w.alloc (.cells (cellsK .u8 l).toArray t fr)) (.slice (some ⟨w.heap.size, 0, none⟩) l.length l.length) l := by
  refine ⟨_, _, rfl, Nat.le_refl _, hl, (fun h => by cases h), fun _ => ⟨w.heap.size, 0, rfl, fun i x hx => ?_⟩⟩
  have h1 : (w.alloc (.cells (cellsK .u8 l).toArray t fr)).heap[w.heap.size]? = some (.cells (cellsK .u8 l).toArray t fr) := heap_alloc_new w _
  simp only [World.cell?, h1, Nat.zero_add, List.getElem?_toArray, cellsK_get, hx, Option.map_some]
  rfl
theorem sat_lit (w : World) (s : ByteArray) (t : TypeId) : SAt (w.alloc (.cells #[.string s] t)) (.slice (some ⟨w.heap.size, 0, none⟩) 1 1) [s] := by
  refine ⟨_, _, rfl, Nat.le_refl _, by unfold maxLen; simp, (fun h => by cases h), fun _ => ⟨w.heap.size, 0, rfl, fun i x hx => ?_⟩⟩
  have h1 : (w.alloc (.cells #[.string s] t)).heap[w.heap.size]? = some (.cells #[.string s] t (0, 0)) := heap_alloc_new w _
  cases i with
  | zero =>
    simp only [List.getElem?_cons_zero, Option.some.injEq] at hx
    subst hx
    rw [cell_of_row _ _ _ _ _ (0, 0) h1]
    rfl
  | succ i => simp at hx
end Go.Proofs.YtjfejpdeccnlnaaDoor
