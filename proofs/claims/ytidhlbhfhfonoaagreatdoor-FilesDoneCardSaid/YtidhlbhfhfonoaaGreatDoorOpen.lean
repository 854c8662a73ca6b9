/- Arguments with slices in them, opened: slices of bytes, arrays of two; how long they are at most (the reach). -/
import Derived.Test.YtidhlbhfhfonoaaGreatDoorBytes
import Derived.SizedLaws
namespace Go.Proofs.YtidhlbhfhfonoaaGreatDoor
open Go.ChangeShapes Go.WideShapes Go.ChangeAt Go.RowKit Go.Deep

section
variable {H : Type} {enc : TypeId × Value → H} {P : Program} {w : World}
/-- One argument's weights are within the reach. -/
theorem arg_reach {ts : List TypeId} {ds : List (DataW H)} (h : (DataW.weightsEach P ts ds).all (· ≤ reachBytes) = true) {j : Nat} {t : TypeId} {d : DataW H} (ht : ts[j]? = some t) (hd : ds[j]? = some d) : ∀ n ∈ d.weights P t, n ≤ reachBytes := by
  intro n hn
  have := List.all_eq_true.1 h n (DataW.weights_mem_each ht hd n hn)
  simpa using this
theorem kat_of_ints {v : Value} {l : List Int} (h : IntsAt w .u8 v l) : ∃ l' : List Nat, KAt .u8 w v l' ∧ Bytes l' ∧ l'.length = l.length := by
  obtain ⟨ao, cap, rfl, h1, h2, h3, h4, h5⟩ := h
  refine ⟨l.map Int.toNat, ?_, ?_, by simp⟩
  · refine ⟨ao, cap, by simp, by simpa using h1, h2, h3, fun h0 => ?_⟩
    rw [List.length_map] at h0
    obtain ⟨b, o, hb, _⟩ := h5 0 h0
    refine ⟨b, o, hb, fun i x hx => ?_⟩
    rw [List.getElem?_map] at hx
    obtain ⟨y, hy, rfl⟩ := Option.map_eq_some_iff.1 hx
    obtain ⟨hi, hy'⟩ := List.getElem?_eq_some_iff.1 hy
    obtain ⟨b', o', hb', hc⟩ := h5 i hi
    rw [hb] at hb'
    cases hb'
    rw [hc, hy']
    have hw := bounds_u8 (h4 y (List.mem_of_getElem? hy))
    rw [Int.toNat_of_nonneg hw.1]
  · intro x hx
    obtain ⟨y, hy, rfl⟩ := List.mem_map.1 hx
    have hw := bounds_u8 (h4 y hy)
    omega
/-- A slice of integers, by its cell: what it reads as, and how long it is at most. -/
theorem ints_of_cell {t e : TypeId} {k : IntKind} {fuel : Nat} {cs : List Value} {x : DataW H × List MemPlace} (ht : P.underlying t = some (.slice e)) (he : P.underlying e = some (.int k)) (hc : P.cellsOf e = 1) (hb : P.bytesOf e = 1)
    (h : DataW.trod enc P w 0 (fun _ => true) true fuel t cs = some x) (hw : ∀ n ∈ x.1.weights P t, n ≤ reachBytes) : ∃ (v : Value) (l : List Int), cs = [v] ∧ IntsAt w k v l ∧ l.length ≤ 140737488351232 := by
  rcases Deep.open_slice ht h with ⟨rfl, _⟩ | ⟨a, len, cap, m, n, D, Pl, rfl, _, hl, hm, hmm, rfl, hi⟩
  · exact ⟨_, [], rfl, ⟨Option.none, 0, rfl, Nat.le_refl _, Nat.zero_le _, fun _ => rfl, fun x hx => (by cases hx), fun i h => absurd h (Nat.not_lt_zero _)⟩, by simp⟩
  · have hm' : m = cap := by rw [hmm]; rfl
    have hr := hw ((((List.range len).map D).length + ((List.range (m - len)).map fun j => D (len + j)).length) * P.bytesOf e) (by simp [DataW.weights, ht])
    rw [List.length_map, List.length_range, List.length_map, List.length_range, hb] at hr
    have hrl : len ≤ 140737488351232 := by unfold reachBytes at hr; omega
    have hel : ∀ i, i < len → ∃ x : Int, w.cell? (a.add i) = some (.int k x) ∧ (Lit.int k x).wf = true := by
      intro i hil
      obtain ⟨cs, hcells, htr⟩ := hi i (by omega)
      rw [hc] at hcells
      obtain ⟨_, hcl, hat⟩ := World.cells?_some hcells
      obtain ⟨x, rfl, _, hw⟩ := DataW.trod_int he htr
      refine ⟨x, ?_, hw⟩
      have := hat 0 (by omega)
      simpa [Addr.add] using this
    let f : Nat → Int := fun i => if h : i < len then (hel i h).choose else 0
    have hfs : ∀ i (_ : i < len), w.cell? (a.add i) = some (.int k (f i)) ∧ (Lit.int k (f i)).wf = true := by
      intro i h
      have := (hel i h).choose_spec
      simpa [f, h] using this
    refine ⟨_, (List.range len).map f, rfl, ⟨some a, cap, by simp, by simpa using hl, hm, (fun h => by cases h), ?_, ?_⟩, by simpa using hrl⟩
    · intro x hx
      obtain ⟨i, hi', rfl⟩ := List.mem_map.1 hx
      exact (hfs i (List.mem_range.1 hi')).2
    · intro i h
      have hil : i < len := by simpa using h
      have h0 := (hfs i hil).1
      have hs : a.spot = Option.none := spot_of_cell (hfs 0 (by omega)).1
      obtain ⟨ab, ao, asp⟩ := a
      obtain rfl : asp = Option.none := hs
      refine ⟨ab, ao, rfl, ?_⟩
      simp only [List.getElem_map, List.getElem_range]
      rw [← h0]
      unfold Addr.add
      split
      · rename_i hz
        rw [hz]
        rfl
      · rfl
theorem bytes_of_cell {t e : TypeId} {fuel : Nat} {cs : List Value} {x : DataW H × List MemPlace} (ht : P.underlying t = some (.slice e)) (he : P.underlying e = some (.int .u8)) (hc : P.cellsOf e = 1) (hb : P.bytesOf e = 1)
    (h : DataW.trod enc P w 0 (fun _ => true) true fuel t cs = some x) (hw : ∀ n ∈ x.1.weights P t, n ≤ reachBytes) : ∃ (v : Value) (l : List Nat), cs = [v] ∧ KAt .u8 w v l ∧ Bytes l ∧ l.length ≤ 140737488351232 := by
  obtain ⟨v, l, hv, hi, hl⟩ := ints_of_cell ht he hc hb h hw
  obtain ⟨l', h1, h2, h3⟩ := kat_of_ints hi
  exact ⟨v, l', hv, h1, h2, by omega⟩
/-- An argument that is a slice of bytes. -/
theorem open_bytes {r : Reach} {b0 : Nat} {t e : TypeId} {v : Value} {d : DataW H} {p : List MemPlace} (ht : P.underlying t = some (.slice e)) (he : P.underlying e = some (.int .u8)) (hc : P.cellsOf e = 1) (hb : P.bytesOf e = 1)
    (hv : Value.okWide P w r b0 t v) (h : DataW.Trod enc P w 0 (fun _ => true) true t v d p) (hw : ∀ n ∈ d.weights P t, n ≤ reachBytes) : ∃ l : List Nat, KAt .u8 w v l ∧ Bytes l ∧ l.length ≤ 140737488351232 := by
  obtain ⟨a0, len0, cap0, rfl⟩ := okWide_slice ht hv
  obtain ⟨fuel, hf⟩ := h
  obtain ⟨v', l, hv', h1, h2, h3⟩ := bytes_of_cell ht he hc hb hf hw
  simp only [Value.cells, List.cons.injEq, and_true] at hv'
  subst hv'
  exact ⟨l, h1, h2, h3⟩
/-- An array of two of one cell each. -/
theorem open_two {r : Reach} {b0 : Nat} {t e : TypeId} {v : Value} {d : DataW H} {p : List MemPlace} (ht : P.underlying t = some (.array 2 e)) (hc : P.cellsOf e = 1) (hct : P.cellsOf t = 2)
    (hv : Value.okWide P w r b0 t v) (h : DataW.Trod enc P w 0 (fun _ => true) true t v d p) :
    ∃ (c0 c1 : Value) (x0 x1 : DataW H × List MemPlace) (m : Nat), v = .agg #[c0, c1] ∧ d = .agg [x0.1, x1.1] ∧ DataW.trod enc P w 0 (fun _ => true) true m e [c0] = some x0 ∧ DataW.trod enc P w 0 (fun _ => true) true m e [c1] = some x1 := by
  have hcs : ∃ cs : Array Value, v = .agg cs := by
    unfold Value.okWide at hv
    rw [ht] at hv
    obtain ⟨cs, h, _⟩ := hv
    exact ⟨cs, h⟩
  obtain ⟨⟨cs⟩, rfl⟩ := hcs
  obtain ⟨fuel, hf⟩ := h
  obtain ⟨xs, m, _, hx, hlen, hxs, hel⟩ := DataW.trod_array ht hf
  have hlen' : cs.length = 2 := by rw [← hct]; simpa [Value.cells] using hlen
  match cs, hlen', xs, hxs with
  | [c0, c1], _, [x0, x1], _ =>
    refine ⟨c0, c1, x0, x1, m, rfl, by rw [Prod.mk.injEq] at hx; simpa using hx.1, ?_, ?_⟩
    · have := hel 0 (by omega)
      simpa [hc, Value.cells] using this
    · have := hel 1 (by omega)
      simpa [hc, Value.cells] using this
theorem open_two_bytes {r : Reach} {b0 : Nat} {t e e1 : TypeId} {v : Value} {d : DataW H} {p : List MemPlace} (ht : P.underlying t = some (.array 2 e)) (hce : P.cellsOf e = 1) (hct : P.cellsOf t = 2) (hte : P.underlying e = some (.slice e1)) (he : P.underlying e1 = some (.int .u8)) (hc : P.cellsOf e1 = 1) (hb : P.bytesOf e1 = 1)
    (hv : Value.okWide P w r b0 t v) (h : DataW.Trod enc P w 0 (fun _ => true) true t v d p) (hw : ∀ n ∈ d.weights P t, n ≤ reachBytes) :
    ∃ (c0 c1 : Value) (l0 l1 : List Nat), v = .agg #[c0, c1] ∧ KAt .u8 w c0 l0 ∧ KAt .u8 w c1 l1 ∧ Bytes l0 ∧ Bytes l1 ∧ l0.length ≤ 140737488351232 ∧ l1.length ≤ 140737488351232 := by
  obtain ⟨c0, c1, x0, x1, m, rfl, rfl, h0, h1⟩ := open_two ht hce hct hv h
  have hwt : ∀ n, n ∈ x0.1.weights P e ∨ n ∈ x1.1.weights P e → n ≤ reachBytes := fun n hn => hw n (by simp [DataW.weights, ht, DataW.weightsAll, hn])
  obtain ⟨v0, l0, e0, k0, b0, s0⟩ := bytes_of_cell hte he hc hb h0 (fun n hn => hwt n (.inl hn))
  obtain ⟨v1, l1, e1, k1, b1, s1⟩ := bytes_of_cell hte he hc hb h1 (fun n hn => hwt n (.inr hn))
  cases e0
  cases e1
  exact ⟨_, _, l0, l1, rfl, k0, k1, b0, b1, s0, s1⟩
end
end Go.Proofs.YtidhlbhfhfonoaaGreatDoor
