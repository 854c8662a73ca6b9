/- Arguments that are slices of choices, opened -/
import Derived.Test.YtdpkpcbikbbcbaaGreatBZWG50
import Derived.Test.YtdpkpcbikbbcbaaGreatBZWG39
set_option maxRecDepth 20000
namespace Go.Proofs.YtdpkpcbikbbcbaaGreat
open Go.ChangeShapes Go.WideShapes Go.ChangeAt Go.RowKit Go.Deep
section
variable {H : Type} {enc : TypeId × Value → H} {w : World}
theorem choice_fields : ∃ fs : Array Field, Tryz.prog.underlying 57 = some (.struct fs) ∧ fs.map (fun f => (f.type, f.offset, Tryz.prog.cellsOf f.type)) = #[(5, 0, 1), (5, 1, 1), (4, 2, 1), (5, 3, 1)] ∧ Tryz.prog.cellsOf 57 = 4 := ⟨_, Tryz.underlying57, by kernel_rfl, by kernel_rfl⟩
theorem list4c {cs : List Value} (h : cs.length = 4) : cs = (cs.drop 0).take 1 ++ ((cs.drop 1).take 1 ++ ((cs.drop 2).take 1 ++ (cs.drop 3).take 1)) := by
 match cs, h with
 | [a, b, c, d], _ => rfl
theorem QH {fuel : Nat} {cs : List Value} {x : DataW H × List MemPlace} (h : DataW.trod enc Tryz.prog w 0 (fun _ => true) true fuel 57 cs = some x) :
  ∃ c : Ch, (c.node < 256 ∧ c.set < 256 ∧ c.view < 256) ∧ cs = [.int .u8 c.node, .int .u8 c.set, .bool c.sec, .int .u8 c.view] := by
 obtain ⟨fs, hu, hts, h4⟩ := choice_fields; obtain ⟨ys, n', _, hy, hlen, hyl, hf⟩ := DataW.trod_struct hu h; rw [h4] at hlen; have hs4 : fs.size = 4 := by simpa using congrArg Array.size hts
 have hty : ∀ (j : Nat) (t : TypeId × Nat × Nat), [(5, 0, 1), (5, 1, 1), (4, 2, 1), (5, 3, 1)][j]? = some t → ∃ y, DataW.trod enc Tryz.prog w 0 (fun _ => true) true n' t.1 ((cs.drop t.2.1).take t.2.2) = some y := by
  intro j t hj; have h1 := congrArg (fun x : Array (TypeId × Nat × Nat) => x[j]?) hts; simp only [Array.getElem?_map, List.getElem?_toArray] at h1; rw [hj] at h1; obtain ⟨f, hfj, hft⟩ := Option.map_eq_some_iff.1 h1; have h2 := hf j f hfj; have hjl : j < ys.length := by have := (Array.getElem?_eq_some_iff.1 hfj).1; omega
  rw [List.getElem?_eq_getElem hjl] at h2
  cases hft
  exact ⟨_, h2⟩
 obtain ⟨y0, t0⟩ := hty 0 _ rfl; obtain ⟨y1, t1⟩ := hty 1 _ rfl; obtain ⟨y2, t2⟩ := hty 2 _ rfl; obtain ⟨y3, t3⟩ := hty 3 _ rfl; have l4 := list4c hlen; simp only at t0 t1 t2 t3; obtain ⟨a, e0, _, b0⟩ := DataW.trod_int Tryz.underlying5 t0; obtain ⟨b, e1, _, b1⟩ := DataW.trod_int Tryz.underlying5 t1; obtain ⟨c, e2, _⟩ := DataW.trod_bool Tryz.underlying4 t2; obtain ⟨d, e3, _, b3⟩ := DataW.trod_int Tryz.underlying5 t3; have c0 := bounds_u8 b0; have c1 := bounds_u8 b1; have c3 := bounds_u8 b3; rw [e0, e1, e2, e3] at l4; refine ⟨⟨a.toNat, b.toNat, c, d.toNat⟩, ⟨?_, ?_, ?_⟩, ?_⟩
 ·show a.toNat < 256
  omega
 ·show b.toNat < 256
  omega
 ·show d.toNat < 256
  omega
 ·rw [l4]; simp only [List.cons_append, List.nil_append, List.cons.injEq, Value.int.injEq, true_and, and_true]; omega
theorem choices_of_cell {fuel : Nat} {cs : List Value} {x : DataW H × List MemPlace} (h : DataW.trod enc Tryz.prog w 0 (fun _ => true) true fuel 30 cs = some x) :
  ∃ (al : Option Addr) (m lc : Nat) (l : List Ch), cs = [.slice al m lc] ∧ m = l.length ∧ m ≤ lc ∧ lc ≤ maxLen ∧ (∀ c ∈ l, c.node < 256 ∧ c.set < 256 ∧ c.view < 256) ∧ (0 < m → ∃ b o, al = some ⟨b, o, none⟩ ∧ ChAt w b o l) := by
 rcases Deep.open_slice Tryz.underlying30 h with ⟨rfl, _⟩ | ⟨a, len, cap, m, n, D, Pl, rfl, _, hl, hm, hmm, rfl, hi⟩
 ·exact ⟨none, 0, 0, [], rfl, rfl, Nat.le_refl _, Nat.zero_le _, (fun k hk => by cases hk), (fun h => absurd h (Nat.lt_irrefl _))⟩
 ·have hm' : m = cap := by rw [hmm]; rfl
  have h4 : Tryz.prog.cellsOf 57 = 4 := by kernel_rfl
  have hel : ∀ i, i < len → ∃ c : Ch, (c.node < 256 ∧ c.set < 256 ∧ c.view < 256) ∧ ∀ j v, ([.int .u8 c.node, .int .u8 c.set, .bool c.sec, .int .u8 c.view] : List Value)[j]? = some v → w.cell? (a.add (i * 4 + j)) = some v := by
   intro i hil; obtain ⟨cs, hcells, htr⟩ := hi i (by omega); rw [h4] at hcells; obtain ⟨_, hcl, hat⟩ := World.cells?_some hcells; obtain ⟨c, hc, rfl⟩ := QH htr; refine ⟨c, hc, fun j v hj => ?_⟩; have hj4 : j < 4 := by simpa using (List.getElem?_eq_some_iff.1 hj).1
   have h9 := hat j hj4; rw [hj] at h9; rw [← Go.Deep.add_add]; exact h9
  haveI : Inhabited Ch := ⟨⟨0, 0, false, 0⟩⟩
  obtain ⟨l, hsl, hsk⟩ := choose_list hel; refine ⟨some a, len, cap, l, rfl, hsl.symm, hl, hm, fun k hk => ?_, fun h0 => ?_⟩
  ·obtain ⟨i, hi'⟩ := List.mem_iff_getElem?.1 hk; exact (hsk i k hi').1
  ·obtain ⟨k0, hk0⟩ : ∃ k0, l[0]? = some k0 := ⟨_, List.getElem?_eq_getElem (by omega)⟩
   have hs : a.spot = Option.none := ZN (v := .int .u8 k0.node) (by
    have := (hsk 0 k0 hk0).2 0 _ rfl
    simpa [Addr.add] using this)
   obtain ⟨ab, ao, asp⟩ := a; obtain rfl : asp = Option.none := hs; refine ⟨ab, ao, rfl, fun i k hik => ?_⟩; have h9 := (hsk i k hik).2; have p0 := h9 0 _ rfl; have p1 := h9 1 _ rfl; have p2 := h9 2 _ rfl; have p3 := h9 3 _ rfl; rw [Addr.add_lit, ← Nat.add_assoc] at p0 p1 p2 p3; exact ⟨p0, p1, p2, p3⟩
end
end Go.Proofs.YtdpkpcbikbbcbaaGreat
