/- Arguments with slices in them, opened: slices of bytes, arrays of two; how long they are at most (the reach) -/
import Derived.Test.YtidhlbhfhfonoaaGreatDoorJZXG03
import Derived.SizedLaws
namespace Go.Proofs.YtidhlbhfhfonoaaGreatDoor
open Go.ChangeShapes Go.WideShapes Go.ChangeAt Go.RowKit Go.Deep

section
variable {H : Type} {enc : TypeId × Value → H} {P : Program} {w : World}
/-- One argument's weights are within the reach. -/
theorem arg_reach {ts : List TypeId} {ds : List (DataW H)} (h : (DataW.weightsEach P ts ds).all (· ≤ reachBytes) = true) {j : Nat} {t : TypeId} {d : DataW H} (ht : ts[j]? = some t) (hd : ds[j]? = some d) : ∀ n ∈ d.weights P t, n ≤ reachBytes := by
  intro n hn
  have := List.all_eq_true.1 h n (DataW.weights_mem_each ht hd n hn)
  simpa using this
theorem kat_of_ints {v : Value} {l : List Int} (h : IntsAt w .u8 v l) : ∃ l' : List Nat, KAt .u8 w v l' ∧ Bytes l' ∧ l'.length = l.length := by
  obtain ⟨ao, cap, rfl, h1, h2, h3, h4, h5⟩ := h
  refine ⟨l.map Int.toNat, ?_, ?_, by simp⟩
  · refine ⟨ao, cap, by simp, by simpa using h1, h2, h3, fun h0 => ?_⟩
    rw [List.length_map] at h0
    obtain ⟨b, o, hb, _⟩ := h5 0 h0
    refine ⟨b, o, hb, fun i x hx => ?_⟩
    rw [List.getElem?_map] at hx
    obtain ⟨y, hy, rfl⟩ := Option.map_eq_some_iff.1 hx
    obtain ⟨hi, hy'⟩ := List.getElem?_eq_some_iff.1 hy
    obtain ⟨b', o', hb', hc⟩ := h5 i hi
    rw [hb] at hb'
    cases hb'
    rw [hc, hy']
    have hw := bounds_u8 (h4 y (List.mem_of_getElem? hy))
    rw [Int.toNat_of_nonneg hw.1]
  · intro x hx
    obtain ⟨y, hy, rfl⟩ := List.mem_map.1 hx
    have hw := bounds_u8 (h4 y hy)
    omega
/-- A slice of integers, by its cell: what it reads as, and how long it is at most. -/
theorem ints_of_cell {t e : TypeId} {k : IntKind} {fuel : Nat} {cs : List Value} {x : DataW H × List MemPlace} (ht : P.underlying t = some (.slice e)) (he : P.underlying e = some (.int k)) (hc : P.cellsOf e = 1) (hb : P.bytesOf e = 1)
    (h : DataW.trod enc P w 0 (fun _ => true) true fuel t cs = some x) (hw : ∀ n ∈ x.1.weights P t, n ≤ reachBytes) : ∃ (v : Value) (l : List Int), cs = [v] ∧ IntsAt w k v l ∧ l.length ≤ 140737488351232 := by
  rcases Deep.open_slice ht h with ⟨rfl, _⟩ | ⟨a, len, cap, m, n, D, Pl, rfl, _, hl, hm, hmm, rfl, hi⟩
  · exact ⟨_, [], rfl, ⟨Option.none, 0, rfl, Nat.le_refl _, Nat.zero_le _, fun _ => rfl, fun x hx => (by cases hx), fun i h => absurd h (Nat.not_lt_zero _)⟩, by simp⟩
  · have hm' : m = cap := by rw [hmm]; rfl
    have hr := hw ((((List.range len).map D).length + ((List.range (m - len)).map fun j => D (len + j)).length) * P.bytesOf e) (by simp [DataW.weights, ht])
    rw [List.length_map, List.length_range, List.length_map, List.length_range, hb] at hr
    have hrl : len ≤ 140737488351232 := by unfold reachBytes at hr; omega
    have hel : ∀ i, i < len → ∃ x : Int, w.cell? (a.add i) = some (.int k x) ∧ (Lit.int k x).wf = true := by
      intro i hil
      obtain ⟨cs, hcells, htr⟩ := hi i (by omega)
      rw [hc] at hcells
      obtain ⟨_, hcl, hat⟩ := World.cells?_some hcells
      obtain ⟨x, rfl, _, hw⟩ := DataW.trod_int he htr
      refine ⟨x, ?_, hw⟩
      have := hat 0 (by omega)
      simpa [Addr.add] using this
    let f : Nat → Int := fun i => if h : i < len then (hel i h).choose else 0
    have hfs : ∀ i (_ : i < len), w.cell? (a.add i) = some (.int k (f i)) ∧ (Lit.int k (f i)).wf = true := by
      intro i h
      have := (hel i h).choose_spec
      simpa [f, h] using this
    refine ⟨_, (List.range len).map f, rfl, ⟨some a, cap, by simp, by simpa using hl, hm, (fun h => by cases h), ?_, ?_⟩, by simpa using hrl⟩
    · intro x hx
      obtain ⟨i, hi', rfl⟩ := List.mem_map.1 hx
      exact (hfs i (List.mem_range.1 hi')).2
    · intro i h
      have hil : i < len := by simpa using h
      have h0 := (hfs i hil).1
      have hs : a.spot = Option.none := spot_of_cell (hfs 0 (by omega)).1
      obtain ⟨ab, ao, asp⟩ := a
      obtain rfl : asp = Option.none := hs
      refine ⟨ab, ao, rfl, ?_⟩
      simp only [List.getElem_map, List.getElem_range]
      rw [← h0]
      unfold Addr.add
      split
      · rename_i hz
        rw [hz]
        rfl
      · rfl
theorem bytes_of_cell {t e : TypeId} {fuel : Nat} {cs : List Value} {x : DataW H × List MemPlace} (ht : P.underlying t = some (.slice e)) (he : P.underlying e = some (.int .u8)) (hc : P.cellsOf e = 1) (hb : P.bytesOf e = 1)
    (h : DataW.trod enc P w 0 (fun _ => true) true fuel t cs = some x) (hw : ∀ n ∈ x.1.weights P t, n ≤ reachBytes) : ∃ (v : Value) (l : List Nat), cs = [v] ∧ KAt .u8 w v l ∧ Bytes l ∧ l.length ≤ 140737488351232 := by
  obtain ⟨v, l, hv, hi, hl⟩ := ints_of_cell ht he hc hb h hw
  obtain ⟨l', h1, h2, h3⟩ := kat_of_ints hi
  exact ⟨v, l', hv, h1, h2, by omega⟩
end
end Go.Proofs.YtidhlbhfhfonoaaGreatDoor
