/- Arguments that are a cast, votes, one more, and what is wrong with it, opened -/
import Derived.Test.YtdpkpcbikbbcbaaGreatBZWG51
import Derived.Test.YtdpkpcbikbbcbaaGreatBZWG47
set_option maxRecDepth 20000
namespace Go.Proofs.YtdpkpcbikbbcbaaGreat
open Go.ChangeShapes Go.WideShapes Go.ChangeAt Go.RowKit Go.Deep
section
variable {H : Type} {enc : TypeId × Value → H} {w : World}
theorem none_fields : ∃ fs : Array Field, Tryz.prog.underlying 59 = some (.struct fs) ∧ fs.map (fun f => (f.type, f.offset, Tryz.prog.cellsOf f.type)) = #[(29, 0, 23), (30, 23, 1), (57, 24, 4), (5, 28, 1)] ∧ Tryz.prog.cellsOf 59 = 29 := ⟨_, Tryz.underlying59, by kernel_rfl, by kernel_rfl⟩
theorem list4n {cs : List Value} (h : cs.length = 29) : cs = (cs.drop 0).take 23 ++ ((cs.drop 23).take 1 ++ ((cs.drop 24).take 4 ++ (cs.drop 28).take 1)) := by
 have e : ∀ (l : List Value) (a b : Nat), l.drop a = (l.drop a).take b ++ l.drop (a + b) := fun l a b => by
  conv => lhs; rw [← List.take_append_drop b (l.drop a), List.drop_drop]
 have h5 : (cs.drop 28).take 1 = cs.drop 28 := List.take_of_length_le (by simp; omega); rw [h5, ← e cs 24 4, ← e cs 23 1, ← e cs 0 23, List.drop_zero]
theorem open_none {r : Reach} {b0 : Nat} {v : Value} {d : DataW H} {p : List MemPlace} (hv : Value.okWide Tryz.prog w r b0 59 v) (h : DataW.Trod enc Tryz.prog w 0 (fun _ => true) true 59 v d p) :
  ∃ (gp gq gg gh lg : Nat) (fa se : Int) (ao : Option Addr) (n cap : Nat) (sk : List (Nat × Nat)) (al : Option Addr) (m lc : Nat) (l : List Ch) (x : Ch) (k : Nat), v = noneV gp gq gg gh lg fa se (.slice ao n cap) (.slice al m lc) x k ∧ gp < jk ∧ gq < jk ∧ gg < jk ∧ gh < jk ∧ lg < jk ∧ (-9223372036854775808 ≤ fa ∧ fa ≤ 9223372036854775807) ∧ (-9223372036854775808 ≤ se ∧ se ≤ 9223372036854775807) ∧
   n = sk.length ∧ n ≤ cap ∧ cap ≤ maxLen ∧ (∀ k ∈ sk, k.1 < jk ∧ k.2 < jk) ∧ (0 < n → ∃ b o, ao = some ⟨b, o, none⟩ ∧ KeysAt w b o sk) ∧ m = l.length ∧ m ≤ lc ∧ lc ≤ maxLen ∧ (∀ c ∈ l, c.node < 256 ∧ c.set < 256 ∧ c.view < 256) ∧ (0 < m → ∃ b o, al = some ⟨b, o, none⟩ ∧ ChAt w b o l) ∧ (x.node < 256 ∧ x.set < 256 ∧ x.view < 256) ∧ k < 256 := by
 have hcs : ∃ cs : Array Value, v = .agg cs := by
  unfold Value.okWide at hv; rw [Tryz.underlying59] at hv; obtain ⟨cs, h, _⟩ := hv; exact ⟨cs, h⟩
 obtain ⟨csa, rfl⟩ := hcs; obtain ⟨fuel, hf9⟩ := h; obtain ⟨cs, hcs9⟩ : ∃ cs : List Value, cs = (Value.agg csa).cells.toList := ⟨_, rfl⟩; rw [← hcs9] at hf9; obtain ⟨fs, hu, hts, h29⟩ := none_fields; obtain ⟨ys, n', _, hy, hlen, hyl, hf⟩ := DataW.trod_struct hu hf9; rw [h29] at hlen; have hs4 : fs.size = 4 := by simpa using congrArg Array.size hts
 have hty : ∀ (j : Nat) (t : TypeId × Nat × Nat), [(29, 0, 23), (30, 23, 1), (57, 24, 4), (5, 28, 1)][j]? = some t → ∃ y, DataW.trod enc Tryz.prog w 0 (fun _ => true) true n' t.1 ((cs.drop t.2.1).take t.2.2) = some y := by
  intro j t hj; have h1 := congrArg (fun x : Array (TypeId × Nat × Nat) => x[j]?) hts; simp only [Array.getElem?_map, List.getElem?_toArray] at h1; rw [hj] at h1; obtain ⟨f, hfj, hft⟩ := Option.map_eq_some_iff.1 h1; have h2 := hf j f hfj; have hjl : j < ys.length := by have := (Array.getElem?_eq_some_iff.1 hfj).1; omega
  rw [List.getElem?_eq_getElem hjl] at h2
  cases hft
  exact ⟨_, h2⟩
 obtain ⟨y0, t0⟩ := hty 0 _ rfl; obtain ⟨y1, t1⟩ := hty 1 _ rfl; obtain ⟨y2, t2⟩ := hty 2 _ rfl; obtain ⟨y3, t3⟩ := hty 3 _ rfl; have l4 := list4n hlen; simp only at t0 t1 t2 t3; obtain ⟨gp, gq, gg, gh, lg, fa, se, ao, n, cap, sk, e0, m0, m1, m2, m3, m4, m5, m6, m7, m8, m9, m10, m11⟩ := cast_of_cell t0; obtain ⟨al, m, lc, l, e1, c0, c1, c2, c3, c4⟩ := choices_of_cell t1; obtain ⟨x, c5, e2⟩ := QH t2; obtain ⟨k, e3, _, b3⟩ := DataW.trod_int Tryz.underlying5 t3; have w1 := bounds_u8 b3; obtain ⟨k, rfl⟩ : ∃ y : Nat, k = (y : Int) := ⟨k.toNat, by omega⟩; rw [e0, e1, e2, e3, hcs9] at l4; refine ⟨gp, gq, gg, gh, lg, fa, se, ao, n, cap, sk, al, m, lc, l, x, k, ?_, m0, m1, m2, m3, m4, m5, m6, m7, m8, m9, m10, m11, c0, c1, c2, c3, c4, c5, by omega⟩; have e9 := congrArg List.toArray l4; simp only [Value.cells, Array.toArray_toList] at e9; rw [e9]
 rfl
end
end Go.Proofs.YtdpkpcbikbbcbaaGreat
