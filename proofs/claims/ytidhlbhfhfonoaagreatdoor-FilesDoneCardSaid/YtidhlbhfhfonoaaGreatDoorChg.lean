/- Which blocks a call may have turned. -/
import Derived.Test.YtidhlbhfhfonoaaGreatDoorOwn
namespace Go.Proofs.YtidhlbhfhfonoaaGreatDoor
open Go.ChangeShapes Go.WideShapes Go.ChangeAt Go.RowKit
/-- Only blocks of S, and new ones, have turned. -/
structure Chg (w w' : World) (S : Nat → Prop) : Prop where
  os : w'.os = w.os
  tape : w'.tape = w.tape
  output : w'.output = w.output
  size : w.heap.size ≤ w'.heap.size
  block : ∀ g, g < w.heap.size → ¬ S g → w'.heap[g]? = w.heap[g]?
/-- S, and what is new. -/
def plus (S : Nat → Prop) (w w' : World) (g : Nat) : Prop := S g ∨ (w.heap.size ≤ g ∧ g < w'.heap.size)
theorem Chg.refl (w : World) (S : Nat → Prop) : Chg w w S := ⟨rfl, rfl, rfl, Nat.le_refl _, fun _ _ _ => rfl⟩
theorem Chg.of_below {w w' : World} (h : Below w.heap.size w w') (S : Nat → Prop) : Chg w w' S := ⟨h.os, h.tape, h.output, h.size, fun g hg _ => h.block g hg⟩
theorem Chg.below {w w' : World} {S : Nat → Prop} {base : Nat} (h : Chg w w' S) (hS : ∀ g, S g → base ≤ g) (hb : base ≤ w.heap.size) : Below base w w' :=
  ⟨h.os, h.tape, h.output, h.size, fun g hg => h.block g (by omega) (fun e => by have := hS g e; omega)⟩
theorem Chg.trans {w w1 w2 : World} {S : Nat → Prop} (h : Chg w w1 S) (k : Chg w1 w2 (plus S w w1)) : Chg w w2 S :=
  ⟨k.os.trans h.os, k.tape.trans h.tape, k.output.trans h.output, Nat.le_trans h.size k.size, fun g hg hn => by
    rw [k.block g (by have := h.size; omega) (fun e => by rcases e with e | e; exact hn e; omega)]
    exact h.block g hg hn⟩
theorem Chg.setCell {w w' : World} {S : Nat → Prop} (h : Chg w w' S) {p : Addr} (hp : S p.block ∨ w.heap.size ≤ p.block) (v : Value) : Chg w (w'.setCell p v) S :=
  ⟨h.os, h.tape, h.output, by simpa [World.setCell] using h.size, fun g hg hn => by
    rw [Below.heap_setCell _ _ _ _ (by rintro rfl; rcases hp with hp | hp; exact hn hp; omega)]
    exact h.block g hg hn⟩
theorem Chg.alloc {w w' : World} {S : Nat → Prop} (h : Chg w w' S) (o : Obj) : Chg w (w'.alloc o) S :=
  ⟨h.os, h.tape, h.output, Nat.le_trans h.size (by simp), fun g hg hn => (Below.heap_alloc _ _ _ (by have := h.size; omega)).trans (h.block g hg hn)⟩
theorem Chg.drew {w w' : World} {S : Nat → Prop} (h : Chg w w' S) : Chg w w'.drew S := ⟨h.os, h.tape, h.output, h.size, h.block⟩
theorem Chg.drewN {w w' : World} {S : Nat → Prop} (h : Chg w w' S) (n : Nat) : Chg w (w'.drewN n) S := ⟨h.os, h.tape, h.output, h.size, h.block⟩
theorem Chg.grown {w w' w2 : World} {S : Nat → Prop} {row : Option Nat} (h : Chg w w' S) (hg : w'.grownBy w2 row) (hr : ∀ k, row = some k → S k ∨ w.heap.size ≤ k) : Chg w w2 S :=
  ⟨hg.os.trans h.os, hg.tape.trans h.tape, hg.output.trans h.output, Nat.le_trans h.size hg.size, fun g hl hn => by
    rw [hg.block g (by have := h.size; omega) (fun e => by rcases hr g e.symm with e | e; exact hn e; omega)]
    exact h.block g hl hn⟩
theorem Chg.on {w w1 w2 : World} {S : Nat → Prop} (h : Chg w w1 S) (hb : Below w1.heap.size w1 w2) : Chg w w2 S :=
  ⟨hb.os.trans h.os, hb.tape.trans h.tape, hb.output.trans h.output, Nat.le_trans h.size hb.size, fun g hl hn => (hb.block g (by have := h.size; omega)).trans (h.block g hl hn)⟩
end Go.Proofs.YtidhlbhfhfonoaaGreatDoor
