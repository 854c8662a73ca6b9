/- Arguments with slices of texts, and of bools, in them, opened. -/
import Derived.Test.YtjfejpdeccnlnaaDoorOpenF
import Derived.Test.YtjfejpdeccnlnaaDoorDisk12
namespace Go.Proofs.YtjfejpdeccnlnaaDoor
open Go.ChangeShapes Go.WideShapes Go.ChangeAt Go.RowKit Go.Deep
section
variable {H : Type} {enc : TypeId × Value → H} {P : Program} {w : World}
theorem strs_of_cell {t e : TypeId} {fuel : Nat} {cs : List Value} {x : DataW H × List MemPlace} (ht : P.underlying t = some (.slice e)) (he : P.underlying e = some .string) (hc : P.cellsOf e = 1) (hb : P.bytesOf e = 16)
    (h : DataW.trod enc P w 0 (fun _ => true) true fuel t cs = some x) (hw : ∀ n ∈ x.1.weights P t, n ≤ reachBytes) : ∃ (v : Value) (L : List ByteArray), cs = [v] ∧ SAt w v L ∧ L.length ≤ 140737488351232 ∧ ∀ s ∈ L, s.size ≤ 140737488351232 := by
  rcases Deep.open_slice ht h with ⟨rfl, _⟩ | ⟨a, len, cap, m, n, D, Pl, rfl, _, hl, hm, hmm, rfl, hi⟩
  · exact ⟨_, [], rfl, ⟨Option.none, 0, rfl, Nat.le_refl _, Nat.zero_le _, fun _ => rfl, fun h => absurd h (Nat.lt_irrefl _)⟩, by simp, fun s hs => by cases hs⟩
  · have hm' : m = cap := by rw [hmm]; rfl
    have hr := hw ((((List.range len).map D).length + ((List.range (m - len)).map fun j => D (len + j)).length) * P.bytesOf e) (by simp [DataW.weights, ht])
    rw [List.length_map, List.length_range, List.length_map, List.length_range, hb] at hr
    have hrl : len ≤ 140737488351232 := by unfold reachBytes at hr; omega
    have hel : ∀ i, i < len → ∃ s : ByteArray, w.cell? (a.add i) = some (.string s) ∧ s.size ≤ 140737488351232 := by
      intro i hil
      obtain ⟨cs, hcells, htr⟩ := hi i (by omega)
      rw [hc] at hcells
      obtain ⟨_, hcl, hat⟩ := World.cells?_some hcells
      have hmem : D i ∈ (List.range len).map D := List.mem_map.2 ⟨i, List.mem_range.2 hil, rfl⟩
      have hall : ∀ (k : Nat) (ds : List (DataW H)), D i ∈ ds → k ∈ (D i).weights P e → k ∈ DataW.weightsAll P e ds := by
        intro k ds
        induction ds with
        | nil => intro h; cases h
        | cons d ds ih =>
          intro h hk
          rw [DataW.weightsAll]
          rcases List.mem_cons.1 h with rfl | h
          · exact List.mem_append_left _ hk
          · exact List.mem_append_right _ (ih h hk)
      obtain ⟨s, rfl, hz⟩ := text_of_cell he htr (fun k hk => hw k (by
        simp only [DataW.weights, ht]
        exact List.mem_cons_of_mem _ (List.mem_append_left _ (hall k _ hmem hk))))
      refine ⟨s, ?_, hz⟩
      have := hat 0 (by omega)
      simpa [Addr.add] using this
    let f : Nat → ByteArray := fun i => if h : i < len then (hel i h).choose else noName
    have hfs : ∀ i (_ : i < len), w.cell? (a.add i) = some (.string (f i)) ∧ (f i).size ≤ 140737488351232 := by
      intro i h
      have := (hel i h).choose_spec
      simpa [f, h] using this
    refine ⟨_, (List.range len).map f, rfl, ⟨some a, cap, by simp, by simpa using hl, hm, (fun h => by cases h), fun h0 => ?_⟩, by simpa using hrl, fun s hs => ?_⟩
    · have hl0 : 0 < len := by simpa using h0
      have hs : a.spot = Option.none := spot_of_cell (hfs 0 hl0).1
      obtain ⟨ab, ao, asp⟩ := a
      obtain rfl : asp = Option.none := hs
      refine ⟨ab, ao, rfl, fun i s hs => ?_⟩
      have hil : i < len := by
        have := (List.getElem?_eq_some_iff.1 hs).1
        simpa using this
      rw [List.getElem?_map, List.getElem?_range hil] at hs
      cases hs
      have := (hfs i hil).1
      rwa [Addr.add_lit] at this
    · obtain ⟨i, hi', rfl⟩ := List.mem_map.1 hs
      exact (hfs i (List.mem_range.1 hi')).2
/-- An argument that is two slices of texts. -/
theorem open_two_strs {r : Reach} {b0 : Nat} {t e e1 : TypeId} {v : Value} {d : DataW H} {p : List MemPlace} (ht : P.underlying t = some (.array 2 e)) (hce : P.cellsOf e = 1) (hct : P.cellsOf t = 2) (hte : P.underlying e = some (.slice e1)) (he : P.underlying e1 = some .string) (hc : P.cellsOf e1 = 1) (hb : P.bytesOf e1 = 16)
    (hv : Value.okWide P w r b0 t v) (h : DataW.Trod enc P w 0 (fun _ => true) true t v d p) (hw : ∀ n ∈ d.weights P t, n ≤ reachBytes) :
    ∃ (c0 c1 : Value) (L0 L1 : List ByteArray), v = .agg #[c0, c1] ∧ SAt w c0 L0 ∧ SAt w c1 L1 ∧ L0.length ≤ 140737488351232 ∧ L1.length ≤ 140737488351232 ∧ (∀ s ∈ L0, s.size ≤ 140737488351232) ∧ ∀ s ∈ L1, s.size ≤ 140737488351232 := by
  obtain ⟨c0, c1, x0, x1, m, rfl, rfl, h0, h1⟩ := open_two ht hce hct hv h
  have hwt : ∀ n, n ∈ x0.1.weights P e ∨ n ∈ x1.1.weights P e → n ≤ reachBytes := fun n hn => hw n (by simp [DataW.weights, ht, DataW.weightsAll, hn])
  obtain ⟨v0, L0, e0, k0, l0, s0⟩ := strs_of_cell hte he hc hb h0 (fun n hn => hwt n (.inl hn))
  obtain ⟨v1, L1, e1, k1, l1, s1⟩ := strs_of_cell hte he hc hb h1 (fun n hn => hwt n (.inr hn))
  cases e0
  cases e1
  exact ⟨_, _, L0, L1, rfl, k0, k1, l0, l1, s0, s1⟩
/-- The slice v reads as these bools. -/
def BoolsAt (w : World) (v : Value) (l : List Bool) : Prop :=
  ∃ (ao : Option Addr) (cap : Nat), v = .slice ao l.length cap ∧ l.length ≤ cap ∧ cap ≤ maxLen ∧
    (0 < l.length → ∃ b o, ao = some ⟨b, o, none⟩ ∧ ∀ (i : Nat) (x : Bool), l[i]? = some x → w.cell? ⟨b, o + i, none⟩ = some (.bool x))
theorem open_bools {r : Reach} {b0 : Nat} {t e : TypeId} {v : Value} {d : DataW H} {p : List MemPlace} (ht : P.underlying t = some (.slice e)) (he : P.underlying e = some .bool) (hc : P.cellsOf e = 1)
    (hv : Value.okWide P w r b0 t v) (h : DataW.Trod enc P w 0 (fun _ => true) true t v d p) : ∃ l : List Bool, BoolsAt w v l := by
  obtain ⟨a0, len0, cap0, rfl⟩ := okWide_slice ht hv
  obtain ⟨fuel, hf⟩ := h
  rcases Deep.open_slice ht hf with ⟨hcs, _⟩ | ⟨a, len, cap, m, n, D, Pl, hcs, _, hl, hm, hmm, _, hi⟩
  · simp only [Value.cells, List.cons.injEq, and_true, Value.slice.injEq] at hcs
    obtain ⟨rfl, rfl, rfl⟩ := hcs
    exact ⟨[], Option.none, 0, rfl, Nat.le_refl _, Nat.zero_le _, fun h => absurd h (Nat.lt_irrefl _)⟩
  · simp only [Value.cells, List.cons.injEq, and_true, Value.slice.injEq] at hcs
    obtain ⟨rfl, rfl, rfl⟩ := hcs
    have hm' : m = cap0 := by rw [hmm]; rfl
    have hel : ∀ i, i < len0 → ∃ x : Bool, w.cell? (a.add i) = some (.bool x) := by
      intro i hil
      obtain ⟨cs, hcells, htr⟩ := hi i (by omega)
      rw [hc] at hcells
      obtain ⟨_, hcl, hat⟩ := World.cells?_some hcells
      obtain ⟨x, rfl, _⟩ := DataW.trod_bool he htr
      refine ⟨x, ?_⟩
      have := hat 0 (by omega)
      simpa [Addr.add] using this
    let f : Nat → Bool := fun i => if h : i < len0 then (hel i h).choose else false
    have hfs : ∀ i (_ : i < len0), w.cell? (a.add i) = some (.bool (f i)) := by
      intro i h
      have := (hel i h).choose_spec
      simpa [f, h] using this
    refine ⟨(List.range len0).map f, some a, cap0, by simp, by simpa using hl, hm, fun h0 => ?_⟩
    have hl0 : 0 < len0 := by simpa using h0
    have hs : a.spot = Option.none := spot_of_cell (hfs 0 hl0)
    obtain ⟨ab, ao, asp⟩ := a
    obtain rfl : asp = Option.none := hs
    refine ⟨ab, ao, rfl, fun i s hs => ?_⟩
    have hil : i < len0 := by
      have := (List.getElem?_eq_some_iff.1 hs).1
      simpa using this
    rw [List.getElem?_map, List.getElem?_range hil] at hs
    cases hs
    have := hfs i hil
    rwa [Addr.add_lit] at this
end
end Go.Proofs.YtjfejpdeccnlnaaDoor
