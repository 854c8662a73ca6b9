/- Bytes in memory: slices that read as a list, and rows of a call's own. -/
import Derived.Test.YtidhlbhfhfonoaaGreatDoorCommon
import Derived.Test.YtidhlbhfhfonoaaGreatDoorNumsPlain
import Derived.OwnWalk
import Derived.Laws.CopyOwn
import Derived.Laws.MakeOwn
import Derived.Deep.Quiet
namespace Go.Proofs.YtidhlbhfhfonoaaGreatDoor
open Go.ChangeShapes Go.WideShapes Go.ChangeAt Go.RowKit

/-- Numbers as cells of a kind. -/
def cellsK (k : IntKind) (l : List Nat) : List Value := l.map fun x : Nat => Value.int k (x : Int)
theorem cellsK_length (k : IntKind) (l : List Nat) : (cellsK k l).length = l.length := by simp [cellsK]
theorem cellsK_append (k : IntKind) (l m : List Nat) : cellsK k (l ++ m) = cellsK k l ++ cellsK k m := by simp [cellsK]
theorem cellsK_one (k : IntKind) (l : List Nat) : ∀ u ∈ cellsK k l, u.oneCell' = true := by
  intro u hu
  obtain ⟨_, _, rfl⟩ := List.mem_map.1 hu
  rfl
theorem cellsK_get (k : IntKind) (l : List Nat) (i : Nat) : (cellsK k l)[i]? = (l[i]?).map fun x : Nat => Value.int k (x : Int) := by simp [cellsK]

/-- The slice v reads as these numbers. -/
def KAt (k : IntKind) (w : World) (v : Value) (l : List Nat) : Prop :=
  ∃ (ao : Option Addr) (cap : Nat), v = .slice ao l.length cap ∧ l.length ≤ cap ∧ cap ≤ maxLen ∧ (ao = none → cap = 0) ∧
    (0 < l.length → ∃ b o, ao = some ⟨b, o, none⟩ ∧ ∀ i x : Nat, l[i]? = some x → w.cell? ⟨b, o + i, none⟩ = some (.int k (x : Int)))
theorem KAt.len {k : IntKind} {w : World} {v : Value} {l : List Nat} (h : KAt k w v l) : l.length ≤ maxLen := by
  obtain ⟨_, _, _, h1, h2, _⟩ := h
  exact Nat.le_trans h1 h2
theorem KAt.later {k : IntKind} {w w' : World} {v : Value} {l : List Nat} (h : KAt k w v l) (hb : Below w.heap.size w w') : KAt k w' v l := by
  obtain ⟨ao, cap, h1, h2, h3, h4, h5⟩ := h
  refine ⟨ao, cap, h1, h2, h3, h4, fun h0 => ?_⟩
  obtain ⟨b, o, h6, h7⟩ := h5 h0
  refine ⟨b, o, h6, fun i x hx => ?_⟩
  rw [hb.cell (p := ⟨b, o + i, none⟩) (World.block_lt_of_cell? (a := ⟨b, o + i, none⟩) _ (h7 i x hx))]
  exact h7 i x hx
theorem KAt.drewN {k : IntKind} {w : World} {v : Value} {l : List Nat} (h : KAt k w v l) (n : Nat) : KAt k (w.drewN n) v l := h
theorem KAt.nil (k : IntKind) (w : World) : KAt k w (.slice none 0 0) [] := ⟨none, 0, rfl, Nat.le_refl _, Nat.zero_le _, fun _ => rfl, fun h => absurd h (Nat.lt_irrefl _)⟩

/-- What is owned reads as it is. -/
theorem KAt.of_own {k : IntKind} {w : World} {base : Nat} {e : TypeId} {v : Value} {l : List Nat} {n : Nat} (h : w.ownsRow base e 1 v n (cellsK k l)) (hn : n = l.length) : KAt k w v l := by
  subst hn
  obtain ⟨h1, h2⟩ := h
  rcases h2 with ⟨rfl, h3⟩ | ⟨g, cap, cur, rfl, hb, hg, hc, hm, hs, ht⟩
  · have : l = [] := List.length_eq_zero_iff.1 h3
    subst this
    exact KAt.nil k w
  · refine ⟨_, _, rfl, hc, hm, (fun h => by cases h), fun _ => ⟨g, 0, rfl, fun i x hx => ?_⟩⟩
    have hi : i < l.length := (List.getElem?_eq_some_iff.1 hx).1
    rw [Nat.zero_add, cell_of_row w g i cur e (0, 0) hg]
    have : (cur.toList.take (l.length * 1))[i]? = some (.int k (x : Int)) := by rw [ht, cellsK_get, hx]; rfl
    rw [List.getElem?_take, if_pos (by omega)] at this
    simpa using this

/-- make([]T, l, c), then what was there ahead copied into it: the call's own. -/
theorem made_row (k : IntKind) (c : Nat) : madeCells (Value.cells (.int k 0)) (c * 1) = (List.replicate c (Value.int k 0)).toArray := by
  apply Array.ext'
  simp [madeCells, Value.cells, Nat.mod_one, List.map_const']
theorem own_of_copy {k : IntKind} {w : World} {g c base : Nat} {e : TypeId} {l : List Nat} (hB : base ≤ g) (hc : l.length ≤ c) (hm : c ≤ maxLen)
    (h : w.heap[g]? = some (.cells (splice (List.replicate c (Value.int k 0)) 0 (cellsK k l)).toArray e (0, 0))) : w.ownsRow base e 1 (.slice (some ⟨g, 0, none⟩) l.length c) l.length (cellsK k l) := by
  refine ⟨by simp [cellsK_length], .inr ⟨g, c, _, rfl, hB, h, hc, hm, ?_, ?_⟩⟩
  · simp [splice, cellsK_length]
    omega
  · simp [splice, cellsK_length]
end Go.Proofs.YtidhlbhfhfonoaaGreatDoor
