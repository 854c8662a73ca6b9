/- Arguments that are passes, opened -/
import Derived.Test.YtpoocnkflmimdaaLPWG52
import Derived.Test.YtpoocnkflmimdaaLPWG50
namespace Go.Proofs.Ytpoocnkflmimdaa
open Go.ChangeShapes Go.WideShapes Go.ChangeAt Go.RowKit Go.Deep
section
variable {H : Type} {enc : TypeId × Value → H} {w : World}
theorem ints_of_cell0 {P : Program} {t e : TypeId} {k : IntKind} {fuel : Nat} {cs : List Value} {x : DataW H × List MemPlace} (ht : P.underlying t = some (.slice e)) (he : P.underlying e = some (.int k)) (hc : P.cellsOf e = 1)
    (h : DataW.trod enc P w 0 (fun _ => true) true fuel t cs = some x) : ∃ (v : Value) (l : List Int), cs = [v] ∧ IntsAt w k v l := by
  rcases Deep.open_slice ht h with ⟨rfl, _⟩ | ⟨a, len, cap, m, n, D, Pl, rfl, _, hl, hm, hmm, _, hi⟩
  · exact ⟨_, [], rfl, Option.none, 0, rfl, Nat.le_refl _, Nat.zero_le _, fun _ => rfl, fun x hx => (by cases hx), fun i h => absurd h (Nat.not_lt_zero _)⟩
  · have hm' : m = cap := by rw [hmm]; rfl
    have hel : ∀ i, i < len → ∃ x : Int, w.cell? (a.add i) = some (.int k x) ∧ (Lit.int k x).wf = true := by
      intro i hil
      obtain ⟨cs, hcells, htr⟩ := hi i (by omega)
      rw [hc] at hcells
      obtain ⟨_, hcl, hat⟩ := World.cells?_some hcells
      obtain ⟨x, rfl, _, hw⟩ := DataW.trod_int he htr
      refine ⟨x, ?_, hw⟩
      have := hat 0 (by omega)
      simpa [Addr.add] using this
    obtain ⟨l, hll, hlx⟩ := choose_list hel
    refine ⟨_, l, rfl, some a, cap, by rw [hll], by omega, hm, (fun h => by cases h), fun x hx => ?_, fun i h => ?_⟩
    · obtain ⟨i, hi'⟩ := List.mem_iff_getElem?.1 hx
      exact (hlx i x hi').2
    · have h0 := (hlx i l[i] (List.getElem?_eq_getElem h)).1
      have hs : a.spot = Option.none := spot_of_cell (hlx 0 _ (List.getElem?_eq_getElem (by omega))).1
      obtain ⟨ab, ao, asp⟩ := a
      obtain rfl : asp = Option.none := hs
      refine ⟨ab, ao, rfl, ?_⟩
      rw [← h0, Addr.add_lit]
theorem pass_fields : ∃ fs : Array Field, Try.prog.underlying 48 = some (.struct fs) ∧ fs.map (fun f => (f.type, f.offset, Try.prog.cellsOf f.type)) = #[(29, 0, 23), (5, 23, 1), (5, 24, 1), (46, 25, 1)] ∧ Try.prog.cellsOf 48 = 26 := ⟨_, Try.underlying48, by kernel_rfl, by kernel_rfl⟩
theorem list4 {cs : List Value} (h : cs.length = 26) : cs = (cs.drop 0).take 23 ++ ((cs.drop 23).take 1 ++ ((cs.drop 24).take 1 ++ (cs.drop 25).take 1)) := by
  have e : ∀ (l : List Value) (a b : Nat), l.drop a = (l.drop a).take b ++ l.drop (a + b) := fun l a b => by
    conv => lhs; rw [← List.take_append_drop b (l.drop a), List.drop_drop]
  have h5 : (cs.drop 25).take 1 = cs.drop 25 := List.take_of_length_le (by simp; omega)
  rw [h5, ← e cs 24 1, ← e cs 23 1, ← e cs 0 23, List.drop_zero]
set_option maxRecDepth 20000 in
/-- An argument that is a pass. -/
theorem open_pass {r : Reach} {b0 : Nat} {v : Value} {d : DataW H} {p : List MemPlace} (hv : Value.okWide Try.prog w r b0 48 v) (h : DataW.Trod enc Try.prog w 0 (fun _ => true) true 48 v d p) :
    ∃ (gp gq gg gh lg : Nat) (fa se : Int) (ao : Option Addr) (n cap : Nat) (sk : List (Nat × Nat)) (f0 t0 : Nat) (bv : Value) (bl : List Nat), v = passV gp gq gg gh lg fa se (.slice ao n cap) f0 t0 bv ∧ gp < M256 ∧ gq < M256 ∧ gg < M256 ∧ gh < M256 ∧ lg < M256 ∧ (-9223372036854775808 ≤ fa ∧ fa ≤ 9223372036854775807) ∧ (-9223372036854775808 ≤ se ∧ se ≤ 9223372036854775807) ∧
      n = sk.length ∧ n ≤ cap ∧ cap ≤ maxLen ∧ (∀ k ∈ sk, k.1 < M256 ∧ k.2 < M256) ∧ (0 < n → ∃ b o, ao = some ⟨b, o, none⟩ ∧ KeysAt w b o sk) ∧ f0 < 256 ∧ t0 < 256 ∧ KAt .u8 w bv bl ∧ Bytes bl := by
  have hcs : ∃ cs : Array Value, v = .agg cs := by
    unfold Value.okWide at hv
    rw [Try.underlying48] at hv
    obtain ⟨cs, h, _⟩ := hv
    exact ⟨cs, h⟩
  obtain ⟨csa, rfl⟩ := hcs
  obtain ⟨fuel, hf9⟩ := h
  obtain ⟨cs, hcs9⟩ : ∃ cs : List Value, cs = (Value.agg csa).cells.toList := ⟨_, rfl⟩
  rw [← hcs9] at hf9
  obtain ⟨fs, hu, hts, h26⟩ := pass_fields
  obtain ⟨ys, n', _, hy, hlen, hyl, hf⟩ := DataW.trod_struct hu hf9
  rw [h26] at hlen
  have hs4 : fs.size = 4 := by simpa using congrArg Array.size hts
  have hty : ∀ (j : Nat) (t : TypeId × Nat × Nat), [(29, 0, 23), (5, 23, 1), (5, 24, 1), (46, 25, 1)][j]? = some t → ∃ y, DataW.trod enc Try.prog w 0 (fun _ => true) true n' t.1 ((cs.drop t.2.1).take t.2.2) = some y := by
    intro j t hj
    have h1 := congrArg (fun x : Array (TypeId × Nat × Nat) => x[j]?) hts
    simp only [Array.getElem?_map, List.getElem?_toArray] at h1
    rw [hj] at h1
    obtain ⟨f, hfj, hft⟩ := Option.map_eq_some_iff.1 h1
    have h2 := hf j f hfj
    have hjl : j < ys.length := by have := (Array.getElem?_eq_some_iff.1 hfj).1; omega
    rw [List.getElem?_eq_getElem hjl] at h2
    cases hft
    exact ⟨_, h2⟩
  obtain ⟨y0, t0⟩ := hty 0 _ rfl
  obtain ⟨y1, t1⟩ := hty 1 _ rfl
  obtain ⟨y2, t2⟩ := hty 2 _ rfl
  obtain ⟨y3, t3⟩ := hty 3 _ rfl
  have l4 := list4 hlen
  simp only at t0 t1 t2 t3
  obtain ⟨gp, gq, gg, gh, lg, fa, se, ao, n, cap, sk, e0, m0, m1, m2, m3, m4, m5, m6, m7, m8, m9, m10, m11⟩ := cast_of_cell t0
  obtain ⟨f0, e1, _, b1⟩ := DataW.trod_int Try.underlying5 t1
  obtain ⟨g0, e2, _, b2⟩ := DataW.trod_int Try.underlying5 t2
  obtain ⟨bv, l, e3, hi⟩ := ints_of_cell0 Try.underlying46 Try.underlying5 (by kernel_rfl) t3
  obtain ⟨bl, hk, hb, _⟩ := kat_of_ints hi
  have w1 := bounds_u8 b1
  have w2 := bounds_u8 b2
  obtain ⟨f0, rfl⟩ : ∃ x : Nat, f0 = (x : Int) := ⟨f0.toNat, by omega⟩
  obtain ⟨g0, rfl⟩ : ∃ x : Nat, g0 = (x : Int) := ⟨g0.toNat, by omega⟩
  rw [e0, e1, e2, e3, hcs9] at l4
  refine ⟨gp, gq, gg, gh, lg, fa, se, ao, n, cap, sk, f0, g0, bv, bl, ?_, m0, m1, m2, m3, m4, m5, m6, m7, m8, m9, m10, m11, by omega, by omega, hk, hb⟩
  have e9 := congrArg List.toArray l4
  simp only [Value.cells, Array.toArray_toList] at e9
  rw [e9]
  rfl
end
end Go.Proofs.Ytpoocnkflmimdaa
