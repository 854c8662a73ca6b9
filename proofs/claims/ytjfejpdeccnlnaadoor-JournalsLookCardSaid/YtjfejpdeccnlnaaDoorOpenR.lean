/- Arguments with slices of slices of bytes in them, opened. -/
import Derived.Test.YtjfejpdeccnlnaaDoorOpenF
import Derived.Test.YtjfejpdeccnlnaaDoorJover
namespace Go.Proofs.YtjfejpdeccnlnaaDoor
open Go.ChangeShapes Go.WideShapes Go.ChangeAt Go.RowKit Go.Deep
section
variable {H : Type} {enc : TypeId × Value → H} {P : Program} {w : World}
theorem recs_of_cell {t e e1 : TypeId} {fuel : Nat} {cs : List Value} {x : DataW H × List MemPlace} (ht : P.underlying t = some (.slice e)) (he : P.underlying e = some (.slice e1)) (he1 : P.underlying e1 = some (.int .u8)) (hc1 : P.cellsOf e1 = 1) (hb1 : P.bytesOf e1 = 1) (hc : P.cellsOf e = 1) (hb : P.bytesOf e = 24)
    (h : DataW.trod enc P w 0 (fun _ => true) true fuel t cs = some x) (hw : ∀ n ∈ x.1.weights P t, n ≤ reachBytes) : ∃ (v : Value) (L : List (List Nat)), cs = [v] ∧ PartsAt w v L ∧ L.length ≤ 140737488351232 ∧ ∀ s ∈ L, Bytes s ∧ s.length ≤ 140737488351232 := by
  rcases Deep.open_slice ht h with ⟨rfl, _⟩ | ⟨a, len, cap, m, n, D, Pl, rfl, _, hl, hm, hmm, rfl, hi⟩
  · exact ⟨_, [], rfl, ⟨Option.none, 0, rfl, Nat.le_refl _, Nat.zero_le _, fun _ => rfl, fun h => absurd h (Nat.lt_irrefl _)⟩, by simp, fun s hs => by cases hs⟩
  · have hm' : m = cap := by rw [hmm]; rfl
    have hr := hw ((((List.range len).map D).length + ((List.range (m - len)).map fun j => D (len + j)).length) * P.bytesOf e) (by simp [DataW.weights, ht])
    rw [List.length_map, List.length_range, List.length_map, List.length_range, hb] at hr
    have hrl : len ≤ 140737488351232 := by unfold reachBytes at hr; omega
    have hel : ∀ i, i < len → ∃ (v : Value) (l : List Nat), w.cell? (a.add i) = some v ∧ KAt .u8 w v l ∧ Bytes l ∧ l.length ≤ 140737488351232 := by
      intro i hil
      obtain ⟨cs, hcells, htr⟩ := hi i (by omega)
      rw [hc] at hcells
      obtain ⟨_, hcl, hat⟩ := World.cells?_some hcells
      have hmem : D i ∈ (List.range len).map D := List.mem_map.2 ⟨i, List.mem_range.2 hil, rfl⟩
      have hall : ∀ (k : Nat) (ds : List (DataW H)), D i ∈ ds → k ∈ (D i).weights P e → k ∈ DataW.weightsAll P e ds := by
        intro k ds
        induction ds with
        | nil => intro h; cases h
        | cons d ds ih =>
          intro h hk
          rw [DataW.weightsAll]
          rcases List.mem_cons.1 h with rfl | h
          · exact List.mem_append_left _ hk
          · exact List.mem_append_right _ (ih h hk)
      obtain ⟨v, l, rfl, hz⟩ := bytes_of_cell he he1 hc1 hb1 htr (fun k hk => hw k (by
        simp only [DataW.weights, ht]
        exact List.mem_cons_of_mem _ (List.mem_append_left _ (hall k _ hmem hk))))
      refine ⟨v, l, ?_, hz⟩
      have := hat 0 (by omega)
      simpa [Addr.add] using this
    let f : Nat → List Nat := fun i => if h : i < len then (hel i h).choose_spec.choose else []
    have hfs : ∀ i (_ : i < len), ∃ v, w.cell? (a.add i) = some v ∧ KAt .u8 w v (f i) ∧ Bytes (f i) ∧ (f i).length ≤ 140737488351232 := by
      intro i h
      have := (hel i h).choose_spec.choose_spec
      exact ⟨(hel i h).choose, by simpa [f, h] using this⟩
    refine ⟨_, (List.range len).map f, rfl, ⟨some a, cap, by simp, by simpa using hl, hm, (fun h => by cases h), fun h0 => ?_⟩, by simpa using hrl, fun s hs => ?_⟩
    · have hl0 : 0 < len := by simpa using h0
      have hs : a.spot = Option.none := by
        obtain ⟨v, h1, _⟩ := hfs 0 hl0
        exact spot_of_cell h1
      obtain ⟨ab, ao, asp⟩ := a
      obtain rfl : asp = Option.none := hs
      refine ⟨ab, ao, rfl, fun i s hs => ?_⟩
      have hil : i < len := by
        have := (List.getElem?_eq_some_iff.1 hs).1
        simpa using this
      rw [List.getElem?_map, List.getElem?_range hil] at hs
      cases hs
      obtain ⟨v, h1, h2, _⟩ := hfs i hil
      rw [Addr.add_lit] at h1
      exact ⟨v, h1, h2⟩
    · obtain ⟨i, hi', rfl⟩ := List.mem_map.1 hs
      obtain ⟨v, _, _, h3⟩ := hfs i (List.mem_range.1 hi')
      exact h3
/-- An argument that is a slice of slices of bytes. -/
theorem open_recs {r : Reach} {b0 : Nat} {t e e1 : TypeId} {v : Value} {d : DataW H} {p : List MemPlace} (ht : P.underlying t = some (.slice e)) (he : P.underlying e = some (.slice e1)) (he1 : P.underlying e1 = some (.int .u8)) (hc1 : P.cellsOf e1 = 1) (hb1 : P.bytesOf e1 = 1) (hc : P.cellsOf e = 1) (hb : P.bytesOf e = 24)
    (hv : Value.okWide P w r b0 t v) (h : DataW.Trod enc P w 0 (fun _ => true) true t v d p) (hw : ∀ n ∈ d.weights P t, n ≤ reachBytes) :
    ∃ L : List (List Nat), PartsAt w v L ∧ L.length ≤ 140737488351232 ∧ ∀ s ∈ L, Bytes s ∧ s.length ≤ 140737488351232 := by
  obtain ⟨a0, len0, cap0, rfl⟩ := okWide_slice ht hv
  obtain ⟨fuel, hf⟩ := h
  obtain ⟨v', L, hv', h1, h2, h3⟩ := recs_of_cell ht he he1 hc1 hb1 hc hb hf hw
  simp only [Value.cells, List.cons.injEq, and_true] at hv'
  subst hv'
  exact ⟨L, h1, h2, h3⟩
end
end Go.Proofs.YtjfejpdeccnlnaaDoor
