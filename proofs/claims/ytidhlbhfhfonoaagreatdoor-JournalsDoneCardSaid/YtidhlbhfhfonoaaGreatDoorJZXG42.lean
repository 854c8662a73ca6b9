/- Layer 17 (files): acts, opened; are they too many?; Layer 17 (files): are there too many acts?; Layer 18 (journals): acts, opened -/
import Derived.Test.YtidhlbhfhfonoaaGreatDoorJZXG41
import Derived.Test.YtidhlbhfhfonoaaGreatDoorJZXG12
import Derived.Deep.Slices
import Derived.Deep.Fields
import Derived.ChangeSame
namespace Go.Proofs.YtidhlbhfhfonoaaGreatDoor
open Go.ChangeShapes Go.WideShapes Go.ChangeAt Go.RowKit Go.Deep
section
variable {H : Type} {enc : TypeId × Value → H} {P : Program} {w : World} {base : Nat} {spare : Nat → Bool} {held : Bool}
/-- A slice of structs of cells of one, by its fields' readings. -/
theorem slice_fields {t e : TypeId} {fs : Array Field} {fuel : Nat} {cs : List Value} {x : DataW H × List MemPlace} (ht : P.underlying t = some (.slice e)) (he : P.underlying e = some (.struct fs))
    (hone : oneCellFields P fs = true) (hC : P.cellsOf e = fs.size) (h : DataW.trod enc P w base spare held fuel t cs = some x) :
    (cs = [.slice none 0 0]) ∨
    ∃ (a : Addr) (len cap m : Nat) (D : Nat → DataW H), cs = [.slice (some a) len cap] ∧ len ≤ cap ∧ cap ≤ maxLen ∧ m = (if spare a.block then cap else len) ∧
      x.1 = (.slice ((List.range len).map D) ((List.range (m - len)).map fun j => D (len + j))) ∧
      ∀ i, i < m → ∃ (ys : List (DataW H × List MemPlace)) (n : Nat), D i = .agg (ys.map (·.1)) ∧ ys.length = fs.size ∧
        ∀ (j : Nat) (f : Field), fs[j]? = some f → ∃ (v : Value) (y : DataW H × List MemPlace), w.cell? (a.add (i * fs.size + j)) = some v ∧ ys[j]? = some y ∧ DataW.trod enc P w base spare held n f.type [v] = some y := by
  rcases open_slice ht h with h0 | ⟨a, len, cap, m, n, D, Pl, hcs, hb, hl, hm, hmm, hx, hi⟩
  · exact .inl h0.1
  · refine .inr ⟨a, len, cap, m, D, hcs, hl, hm, hmm, by rw [hx], fun i him => ?_⟩
    obtain ⟨cs', hc, ht'⟩ := hi i him
    rw [hC] at hc
    obtain ⟨ys, n', _, hy, hlen, hyl, hf⟩ := DataW.trod_struct he ht'
    obtain ⟨_, hcl, hat⟩ := World.cells?_some hc
    simp only [Prod.mk.injEq] at hy
    refine ⟨ys, n', hy.1, hyl, fun j f hj => ?_⟩
    obtain ⟨ho, hk⟩ := hone_of hone j f hj
    have hjl : j < fs.size := (Array.getElem?_eq_some_iff.1 hj).1
    have hcell := hat j hjl
    have hv : cs'[j]? = some (cs'[j]'(by omega)) := List.getElem?_eq_getElem (by omega)
    have h1 := hf j f hj
    rw [ho, hk] at h1
    have hone' : (cs'.drop j).take 1 = [cs'[j]'(by omega)] := by
      rw [List.drop_eq_getElem_cons (by omega)]
      rfl
    rw [hone'] at h1
    have hys : ys[j]? = some (ys[j]'(by omega)) := List.getElem?_eq_getElem (by omega)
    refine ⟨_, _, ?_, hys, h1.trans hys⟩
    rw [← Go.Deep.add_add, hcell, hv]
end
section
variable {H : Type} {enc : TypeId × Value → H} {w : World}
end
end Go.Proofs.YtidhlbhfhfonoaaGreatDoor
namespace Go.Proofs.YtidhlbhfhfonoaaGreatDoor
open Go.ChangeShapes Go.WideShapes Go.ChangeAt Go.RowKit

end Go.Proofs.YtidhlbhfhfonoaaGreatDoor
namespace Go.Proofs.YtidhlbhfhfonoaaGreatDoor
open Go.ChangeShapes Go.WideShapes Go.ChangeAt Go.RowKit Go.Deep
/-- What is done with a journal. -/
structure Jc where
  kind : Nat
  v : Value
  b : List Nat
  keep : Nat
  nm : Bool
structure Jc.ok (a : Jc) : Prop where
  kind : a.kind < 256
  b : Bytes a.b ∧ a.b.length ≤ 140737488351232
  keep : a.keep < 65536
def Jc.cells (a : Jc) : List Value := [.int .u8 a.kind, a.v, .int .u16 a.keep, .bool a.nm]
/-- The slice v reads as these acts. -/
def JactsAt (w : World) (v : Value) (l : List Jc) : Prop :=
  ∃ (ao : Option Addr) (cap : Nat), v = .slice ao l.length cap ∧ l.length ≤ cap ∧ cap ≤ maxLen ∧ (∀ a ∈ l, a.ok ∧ KAt .u8 w a.v a.b) ∧
    (0 < l.length → ∃ b o, ao = some ⟨b, o, none⟩ ∧ ∀ (i : Nat) (a : Jc), l[i]? = some a → ∀ (j : Nat) (u : Value), a.cells[j]? = some u → w.cell? ⟨b, o + i * 4 + j, none⟩ = some u)
section
variable {H : Type} {enc : TypeId × Value → H} {w : World}
theorem jact_fields : ∃ fs : Array Field, Tryz.prog.underlying 60 = some (.struct fs) ∧ oneCellFields Tryz.prog fs = true ∧ Tryz.prog.cellsOf 60 = fs.size ∧ fs.size = 4 ∧
    fs.map (·.type) = #[5, 58, 22, 4] := ⟨_, Tryz.underlying60, by kernel_rfl, by kernel_rfl, rfl, by kernel_rfl⟩
theorem jact_of {fs : Array Field} (hts : fs.map (·.type) = #[5, 58, 22, 4]) {n : Nat} {a : Addr} {i : Nat} {ys : List (DataW H × List MemPlace)}
    (hf : ∀ (j : Nat) (f : Field), fs[j]? = some f → ∃ (v : Value) (y : DataW H × List MemPlace), w.cell? (a.add (i * fs.size + j)) = some v ∧ ys[j]? = some y ∧ DataW.trod enc Tryz.prog w 0 (fun _ => true) true n f.type [v] = some y)
    (hu : Tryz.prog.underlying 60 = some (.struct fs)) (hw : ∀ k ∈ (DataW.agg (ys.map (·.1))).weights Tryz.prog 60, k ≤ reachBytes) :
    ∃ ac : Jc, ac.ok ∧ KAt .u8 w ac.v ac.b ∧ ∀ (j : Nat) (u : Value), ac.cells[j]? = some u → w.cell? (a.add (i * 4 + j)) = some u := by
  have hs4 : fs.size = 4 := by
    have := congrArg Array.size hts
    simpa using this
  have hty : ∀ (j : Nat) (t : TypeId), [5, 58, 22, 4][j]? = some t → ∃ f, fs[j]? = some f ∧ f.type = t := by
    intro j t hj
    have h1 := congrArg (fun x : Array TypeId => x[j]?) hts
    simp only [Array.getElem?_map, List.getElem?_toArray] at h1
    rw [hj] at h1
    exact Option.map_eq_some_iff.1 h1
  have hwe : ∀ (j : Nat) (t : TypeId) (y : DataW H × List MemPlace), [5, 58, 22, 4][j]? = some t → ys[j]? = some y → ∀ k ∈ y.1.weights Tryz.prog t, k ≤ reachBytes := by
    intro j t y hj hy k hk
    refine hw k ?_
    simp only [DataW.weights, hu]
    have hl : fs.toList.map (·.type) = [5, 58, 22, 4] := by
      have := congrArg Array.toList hts
      simpa using this
    rw [hl]
    exact DataW.weights_mem_each hj (by rw [List.getElem?_map, hy]; rfl) k hk
  rw [hs4] at hf
  obtain ⟨f0, g0, t0⟩ := hty 0 _ rfl
  obtain ⟨f1, g1, t1⟩ := hty 1 _ rfl
  obtain ⟨f2, g2, t2⟩ := hty 2 _ rfl
  obtain ⟨f3, g3, t3⟩ := hty 3 _ rfl
  obtain ⟨v0, y0, c0, q0, r0⟩ := hf 0 f0 g0
  obtain ⟨v1, y1, c1, q1, r1⟩ := hf 1 f1 g1
  obtain ⟨v2, y2, c2, q2, r2⟩ := hf 2 f2 g2
  obtain ⟨v3, y3, c3, q3, r3⟩ := hf 3 f3 g3
  rw [t0] at r0
  rw [t1] at r1
  rw [t2] at r2
  rw [t3] at r3
  obtain ⟨z0, e0, _, b0⟩ := DataW.trod_int Tryz.underlying5 r0
  obtain ⟨u1, m1, e1, k1, b1, l1⟩ := bytes_of_cell Tryz.underlying58 Tryz.underlying5 (by kernel_rfl) (by kernel_rfl) r1 (hwe 1 _ y1 rfl q1)
  obtain ⟨z2, e2, _, b2⟩ := DataW.trod_int Tryz.underlying22 r2
  obtain ⟨z3, e3, _⟩ := DataW.trod_bool Tryz.underlying4 r3
  have w0 := bounds_u8 b0
  have w2 := bounds_u16 b2
  cases e0
  cases e1
  cases e2
  cases e3
  refine ⟨⟨z0.toNat, v1, m1, z2.toNat, z3⟩, ⟨by simp only; omega, ⟨b1, l1⟩, by simp only; omega⟩, k1, fun j u hu => ?_⟩
  have hz0 : ((z0.toNat : Nat) : Int) = z0 := by omega
  have hz2 : ((z2.toNat : Nat) : Int) = z2 := by omega
  match j, hu with
  | 0, hu => simp only [Jc.cells, hz0, List.getElem?_cons_zero, Option.some.injEq] at hu; subst hu; exact c0
  | 1, hu => simp [Jc.cells] at hu; subst hu; exact c1
  | 2, hu => simp only [Jc.cells, hz2, List.getElem?_cons_succ, List.getElem?_cons_zero, Option.some.injEq] at hu; subst hu; exact c2
  | 3, hu => simp [Jc.cells] at hu; subst hu; exact c3
  | j + 4, hu => simp [Jc.cells] at hu
set_option maxRecDepth 20000 in
theorem open_jacts {r : Reach} {b0 : Nat} {v : Value} {d : DataW H} {p : List MemPlace} (hv : Value.okWide Tryz.prog w r b0 23 v) (h : DataW.Trod enc Tryz.prog w 0 (fun _ => true) true 23 v d p)
    (hw : ∀ n ∈ d.weights Tryz.prog 23, n ≤ reachBytes) : ∃ l : List Jc, JactsAt w v l := by
  obtain ⟨a0, len0, cap0, rfl⟩ := okWide_slice Tryz.underlying23 hv
  obtain ⟨fuel, hf⟩ := h
  obtain ⟨fs, hu, hone, hC, hs4, hts⟩ := jact_fields
  rcases slice_fields Tryz.underlying23 hu hone hC hf with hcs | ⟨a, len, cap, m, D, hcs, hl, hm, hmm, hx, hi⟩
  · simp only [Value.cells, List.cons.injEq, and_true, Value.slice.injEq] at hcs
    obtain ⟨rfl, rfl, rfl⟩ := hcs
    exact ⟨[], none, 0, rfl, Nat.le_refl _, Nat.zero_le _, fun a ha => (by cases ha), fun h0 => absurd h0 (Nat.lt_irrefl _)⟩
  · simp only [Value.cells, List.cons.injEq, and_true, Value.slice.injEq] at hcs
    obtain ⟨rfl, rfl, rfl⟩ := hcs
    simp only at hx
    subst hx
    have hm' : m = cap0 := by rw [hmm]; rfl
    have hel : ∀ i, i < len0 → ∃ ac : Jc, ac.ok ∧ KAt .u8 w ac.v ac.b ∧ ∀ (j : Nat) (u : Value), ac.cells[j]? = some u → w.cell? (a.add (i * 4 + j)) = some u := by
      intro i hil
      obtain ⟨ys, n, hD, _, hf'⟩ := hi i (by omega)
      refine jact_of hts hf' hu fun k hk => hw k ?_
      have hmem : D i ∈ (List.range len0).map D := List.mem_map.2 ⟨i, List.mem_range.2 hil, rfl⟩
      have hall : ∀ (ds : List (DataW H)), D i ∈ ds → k ∈ DataW.weightsAll Tryz.prog 60 ds := by
        intro ds
        induction ds with
        | nil => intro h; cases h
        | cons d ds ih =>
          intro h
          rw [DataW.weightsAll]
          rcases List.mem_cons.1 h with rfl | h
          · exact List.mem_append_left _ (by rw [hD]; exact hk)
          · exact List.mem_append_right _ (ih h)
      simp only [DataW.weights, Tryz.underlying23]
      exact List.mem_cons_of_mem _ (List.mem_append_left _ (hall _ hmem))
    by_cases h0 : len0 = 0
    · subst h0
      exact ⟨[], some a, cap0, rfl, Nat.zero_le _, hm, fun a ha => (by cases ha), fun h0 => absurd h0 (Nat.lt_irrefl _)⟩
    · have hs : a.spot = Option.none := spot_of_cell (v := .int .u8 ((hel 0 (by omega)).choose.kind : Nat)) (by
        have := (hel 0 (by omega)).choose_spec.2.2 0 _ rfl
        simpa [Addr.add] using this)
      obtain ⟨ab, ao, asp⟩ := a
      obtain rfl : asp = Option.none := hs
      let f : Nat → Jc := fun i => if h : i < len0 then (hel i h).choose else ⟨0, .slice none 0 0, [], 0, false⟩
      have hfs : ∀ i (_ : i < len0), (f i).ok ∧ KAt .u8 w (f i).v (f i).b ∧ ∀ (j : Nat) (u : Value), (f i).cells[j]? = some u → w.cell? ((⟨ab, ao, none⟩ : Addr).add (i * 4 + j)) = some u := by
        intro i h
        have := (hel i h).choose_spec
        simpa [f, h] using this
      refine ⟨(List.range len0).map f, some ⟨ab, ao, none⟩, cap0, by simp, by simpa using hl, hm, fun x hx => ?_, fun _ => ⟨ab, ao, rfl, fun i x hx j u hu => ?_⟩⟩
      · obtain ⟨i, hi', rfl⟩ := List.mem_map.1 hx
        exact ⟨(hfs i (List.mem_range.1 hi')).1, (hfs i (List.mem_range.1 hi')).2.1⟩
      · have hil : i < len0 := by
          have := (List.getElem?_eq_some_iff.1 hx).1
          simpa using this
        rw [List.getElem?_map, List.getElem?_range hil] at hx
        cases hx
        have := (hfs i hil).2.2 j u hu
        rw [Addr.add_lit, ← Nat.add_assoc] at this
        exact this
end
end Go.Proofs.YtidhlbhfhfonoaaGreatDoor
