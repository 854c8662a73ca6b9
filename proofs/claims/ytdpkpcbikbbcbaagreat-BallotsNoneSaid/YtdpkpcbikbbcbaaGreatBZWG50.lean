/- Arguments that are casts, opened -/
import Derived.Test.YtdpkpcbikbbcbaaGreatBZWG37
import Derived.Test.YtdpkpcbikbbcbaaGreatBZWG49
set_option maxRecDepth 20000
namespace Go.Proofs.YtdpkpcbikbbcbaaGreat
open Go.ChangeShapes Go.WideShapes Go.ChangeAt Go.RowKit Go.Deep
theorem word_num {a b c d : Int} (ha : 0 ≤ a ∧ a ≤ 18446744073709551615) (hb : 0 ≤ b ∧ b ≤ 18446744073709551615) (hc : 0 ≤ c ∧ c ≤ 18446744073709551615) (hd : 0 ≤ d ∧ d ≤ 18446744073709551615) :
  ∃ x : Nat, x < jk ∧ a = ((jf jd x 0 : Nat) : Int) ∧ b = ((jf jd x 1 : Nat) : Int) ∧ c = ((jf jd x 2 : Nat) : Int) ∧ d = ((jf jd x 3 : Nat) : Int) := by
 obtain ⟨a, rfl⟩ : ∃ n : Nat, a = (n : Int) := ⟨a.toNat, by omega⟩; obtain ⟨b, rfl⟩ : ∃ n : Nat, b = (n : Int) := ⟨b.toNat, by omega⟩; obtain ⟨c, rfl⟩ : ∃ n : Nat, c = (n : Int) := ⟨c.toNat, by omega⟩; obtain ⟨d, rfl⟩ : ∃ n : Nat, d = (n : Int) := ⟨d.toNat, by omega⟩; refine ⟨((d * jd + c) * jd + b) * jd + a, ?_, ?_, ?_, ?_, ?_⟩
 ·unfold jk; unfold jd at *; omega
 all_goals (unfold jf jd at *; omega)
theorem choose_list {α : Type} [Inhabited α] {n : Nat} {R : Nat → α → Prop} (h : ∀ i, i < n → ∃ x, R i x) : ∃ l : List α, l.length = n ∧ ∀ i x, l[i]? = some x → R i x := by
 induction n with
 | zero => exact ⟨[], rfl, fun i x hx => by cases hx⟩
 | succ n ih =>
  obtain ⟨l, h1, h2⟩ := ih fun i hi => h i (by omega)
  obtain ⟨x, hx⟩ := h n (by omega); refine ⟨l ++ [x], by simp [h1], fun i y hy => ?_⟩
  rcases Nat.lt_or_ge i l.length with h9 | h9
  ·rw [List.getElem?_append_left h9] at hy; exact h2 i y hy
  ·rw [List.getElem?_append_right h9] at hy
   have hi : i - l.length = 0 := by
    have := (List.getElem?_eq_some_iff.1 hy).1
    simp at this
    omega
   rw [hi] at hy
   cases hy
   rw [show i = n by omega]; exact hx
theorem list5 {cs : List Value} (h : cs.length = 23) : cs = (cs.drop 0).take 16 ++ ((cs.drop 16).take 4 ++ ((cs.drop 20).take 1 ++ ((cs.drop 21).take 1 ++ (cs.drop 22).take 1))) := by
 have e : ∀ (l : List Value) (a b : Nat), l.drop a = (l.drop a).take b ++ l.drop (a + b) := fun l a b => by
  conv => lhs; rw [← List.take_append_drop b (l.drop a), List.drop_drop]
 have h5 : (cs.drop 22).take 1 = cs.drop 22 := List.take_of_length_le (by simp; omega); rw [h5, ← e cs 21 1, ← e cs 20 1, ← e cs 16 4, ← e cs 0 16, List.drop_zero]
section
variable {H : Type} {enc : TypeId × Value → H} {w : World}
theorem cast_fields : ∃ fs : Array Field, Tryz.prog.underlying 29 = some (.struct fs) ∧ fs.map (fun f => (f.type, f.offset, Tryz.prog.cellsOf f.type)) = #[(26, 0, 16), (24, 16, 4), (3, 20, 1), (3, 21, 1), (27, 22, 1)] ∧ Tryz.prog.cellsOf 29 = 23 := ⟨_, Tryz.underlying29, by kernel_rfl, by kernel_rfl⟩
theorem kinds_group : zy Tryz.prog 20 26 = some [.u64, .u64, .u64, .u64, .u64, .u64, .u64, .u64, .u64, .u64, .u64, .u64, .u64, .u64, .u64, .u64] := by kernel_rfl
theorem kinds_num : zy Tryz.prog 20 24 = some [.u64, .u64, .u64, .u64] := by kernel_rfl
theorem kinds_secret : zy Tryz.prog 20 62 = some [.u64, .u64, .u64, .u64, .u64, .u64, .u64, .u64] := by kernel_rfl
theorem ints4 {cs : List Value} (h : Ints [.u64, .u64, .u64, .u64] cs) : ∃ x, x < jk ∧ cs = [.int .u64 (jf jd x 0), .int .u64 (jf jd x 1), .int .u64 (jf jd x 2), .int .u64 (jf jd x 3)] := by
 obtain ⟨a0, c0, rfl, w0, h⟩ := Qr h; obtain ⟨a1, c1, rfl, w1, h⟩ := Qr h; obtain ⟨a2, c2, rfl, w2, h⟩ := Qr h; obtain ⟨a3, c3, rfl, w3, h⟩ := Qr h; obtain rfl := ints_nil h; obtain ⟨x, hx, rfl, rfl, rfl, rfl⟩ := word_num (bounds_u64 w0) (bounds_u64 w1) (bounds_u64 w2) (bounds_u64 w3); exact ⟨x, hx, rfl⟩
theorem ZH : ∀ (ks ls : List IntKind) {cs : List Value}, Ints (ks ++ ls) cs → ∃ a b, cs = a ++ b ∧ Ints ks a ∧ Ints ls b
 | [], ls, cs, h => ⟨[], cs, rfl, trivial, h⟩
 | k :: ks, ls, cs, h => by
  obtain ⟨n, r, rfl, hw, hr⟩ := Qr h; obtain ⟨a, b, rfl, h1, h2⟩ := ZH ks ls hr; exact ⟨_ :: a, b, rfl, ⟨⟨n, rfl, hw⟩, h1⟩, h2⟩
theorem ints8 {cs : List Value} (h : Ints [.u64, .u64, .u64, .u64, .u64, .u64, .u64, .u64] cs) : ∃ x y, x < jk ∧ y < jk ∧ cs = [.int .u64 (jf jd x 0), .int .u64 (jf jd x 1), .int .u64 (jf jd x 2), .int .u64 (jf jd x 3), .int .u64 (jf jd y 0), .int .u64 (jf jd y 1), .int .u64 (jf jd y 2), .int .u64 (jf jd y 3)] := by
 obtain ⟨a, b, rfl, h1, h2⟩ := ZH [.u64, .u64, .u64, .u64] [.u64, .u64, .u64, .u64] h; obtain ⟨x, hx, rfl⟩ := ints4 h1; obtain ⟨y, hy, rfl⟩ := ints4 h2; exact ⟨x, y, hx, hy, rfl⟩
theorem keys_of_cell {fuel : Nat} {cs : List Value} {x : DataW H × List MemPlace} (h : DataW.trod enc Tryz.prog w 0 (fun _ => true) true fuel 27 cs = some x) :
  ∃ (ao : Option Addr) (n cap : Nat) (sk : List (Nat × Nat)), cs = [.slice ao n cap] ∧ n = sk.length ∧ n ≤ cap ∧ cap ≤ maxLen ∧ (∀ k ∈ sk, k.1 < jk ∧ k.2 < jk) ∧ (0 < n → ∃ b o, ao = some ⟨b, o, none⟩ ∧ KeysAt w b o sk) := by
 rcases Deep.open_slice Tryz.underlying27 h with ⟨rfl, _⟩ | ⟨a, len, cap, m, n, D, Pl, rfl, _, hl, hm, hmm, rfl, hi⟩
 ·exact ⟨none, 0, 0, [], rfl, rfl, Nat.le_refl _, Nat.zero_le _, (fun k hk => by cases hk), (fun h => absurd h (Nat.lt_irrefl _))⟩
 ·have hm' : m = cap := by rw [hmm]; rfl
  have h8 : Tryz.prog.cellsOf 62 = 8 := by kernel_rfl
  have hel : ∀ i, i < len → ∃ k : Nat × Nat, (k.1 < jk ∧ k.2 < jk) ∧ ∀ j v, [.int .u64 (jf jd k.1 0), .int .u64 (jf jd k.1 1), .int .u64 (jf jd k.1 2), .int .u64 (jf jd k.1 3), .int .u64 (jf jd k.2 0), .int .u64 (jf jd k.2 1), .int .u64 (jf jd k.2 2), .int .u64 (jf jd k.2 3)][j]? = some v → w.cell? (a.add (i * 8 + j)) = some v := by
   intro i hil; obtain ⟨cs, hcells, htr⟩ := hi i (by omega); rw [h8] at hcells; obtain ⟨_, hcl, hat⟩ := World.cells?_some hcells; obtain ⟨x, y, hx, hy, rfl⟩ := ints8 (Jb 20 kinds_secret htr); refine ⟨(x, y), ⟨hx, hy⟩, fun j v hj => ?_⟩; have hj8 : j < 8 := by simpa using (List.getElem?_eq_some_iff.1 hj).1
   have h9 := hat j hj8; rw [hj] at h9; rw [← Go.Deep.add_add]; exact h9
  obtain ⟨sk, hsl, hsk⟩ := choose_list hel; refine ⟨some a, len, cap, sk, rfl, hsl.symm, hl, hm, fun k hk => ?_, fun h0 => ?_⟩
  ·obtain ⟨i, hi'⟩ := List.mem_iff_getElem?.1 hk; exact (hsk i k hi').1
  ·obtain ⟨k0, hk0⟩ : ∃ k0, sk[0]? = some k0 := ⟨_, List.getElem?_eq_getElem (by omega)⟩
   have hs : a.spot = Option.none := ZN (v := .int .u64 (jf jd k0.1 0)) (by
    have := (hsk 0 k0 hk0).2 0 _ rfl
    simpa [Addr.add] using this)
   obtain ⟨ab, ao, asp⟩ := a; obtain rfl : asp = Option.none := hs; refine ⟨ab, ao, rfl, fun i k hik => ⟨fun j hj => ?_, fun j hj => ?_⟩⟩
   ·have h9 := (hsk i k hik).2 j (.int .u64 (jf jd k.1 j)) (by rcases (show j = 0 ∨ j = 1 ∨ j = 2 ∨ j = 3 by omega) with rfl | rfl | rfl | rfl <;> rfl); rw [Addr.add_lit, ← Nat.add_assoc] at h9; exact h9
   ·have h9 := (hsk i k hik).2 (4 + j) (.int .u64 (jf jd k.2 j)) (by rcases (show j = 0 ∨ j = 1 ∨ j = 2 ∨ j = 3 by omega) with rfl | rfl | rfl | rfl <;> rfl); rw [Addr.add_lit, ← Nat.add_assoc] at h9; exact h9
theorem cast_of_cell {fuel : Nat} {cs : List Value} {x : DataW H × List MemPlace} (h : DataW.trod enc Tryz.prog w 0 (fun _ => true) true fuel 29 cs = some x) :
  ∃ (gp gq gg gh lg : Nat) (fa se : Int) (ao : Option Addr) (n cap : Nat) (sk : List (Nat × Nat)), cs = [.int .u64 (jf jd gp 0), .int .u64 (jf jd gp 1), .int .u64 (jf jd gp 2), .int .u64 (jf jd gp 3), .int .u64 (jf jd gq 0), .int .u64 (jf jd gq 1), .int .u64 (jf jd gq 2), .int .u64 (jf jd gq 3), .int .u64 (jf jd gg 0), .int .u64 (jf jd gg 1), .int .u64 (jf jd gg 2), .int .u64 (jf jd gg 3), .int .u64 (jf jd gh 0), .int .u64 (jf jd gh 1), .int .u64 (jf jd gh 2), .int .u64 (jf jd gh 3), .int .u64 (jf jd lg 0), .int .u64 (jf jd lg 1), .int .u64 (jf jd lg 2), .int .u64 (jf jd lg 3), .int .i64 fa, .int .i64 se, .slice ao n cap] ∧ gp < jk ∧ gq < jk ∧ gg < jk ∧ gh < jk ∧ lg < jk ∧ (-9223372036854775808 ≤ fa ∧ fa ≤ 9223372036854775807) ∧ (-9223372036854775808 ≤ se ∧ se ≤ 9223372036854775807) ∧
   n = sk.length ∧ n ≤ cap ∧ cap ≤ maxLen ∧ (∀ k ∈ sk, k.1 < jk ∧ k.2 < jk) ∧ (0 < n → ∃ b o, ao = some ⟨b, o, none⟩ ∧ KeysAt w b o sk) := by
 obtain ⟨fs, hu, hts, h23⟩ := cast_fields; obtain ⟨ys, n', _, hy, hlen, hyl, hf⟩ := DataW.trod_struct hu h; rw [h23] at hlen; have hs5 : fs.size = 5 := by simpa using congrArg Array.size hts
 have hty : ∀ (j : Nat) (t : TypeId × Nat × Nat), [(26, 0, 16), (24, 16, 4), (3, 20, 1), (3, 21, 1), (27, 22, 1)][j]? = some t → ∃ y, DataW.trod enc Tryz.prog w 0 (fun _ => true) true n' t.1 ((cs.drop t.2.1).take t.2.2) = some y := by
  intro j t hj; have h1 := congrArg (fun x : Array (TypeId × Nat × Nat) => x[j]?) hts; simp only [Array.getElem?_map, List.getElem?_toArray] at h1; rw [hj] at h1; obtain ⟨f, hfj, hft⟩ := Option.map_eq_some_iff.1 h1; have h2 := hf j f hfj; have hjl : j < ys.length := by have := (Array.getElem?_eq_some_iff.1 hfj).1; omega
  rw [List.getElem?_eq_getElem hjl] at h2
  cases hft
  exact ⟨_, h2⟩
 obtain ⟨y0, t0⟩ := hty 0 _ rfl; obtain ⟨y1, t1⟩ := hty 1 _ rfl; obtain ⟨y2, t2⟩ := hty 2 _ rfl; obtain ⟨y3, t3⟩ := hty 3 _ rfl; obtain ⟨y4, t4⟩ := hty 4 _ rfl; have l5 := list5 hlen; simp only at t0 t1 t2 t3 t4; obtain ⟨q0, q1, e0, i0, i1⟩ := ZH [.u64, .u64, .u64, .u64, .u64, .u64, .u64, .u64] [.u64, .u64, .u64, .u64, .u64, .u64, .u64, .u64] (Jb 20 kinds_group t0); obtain ⟨gp, gq, hgp, hgq, rfl⟩ := ints8 i0; obtain ⟨gg, gh, hgg, hgh, rfl⟩ := ints8 i1; obtain ⟨lg, hlg, e1⟩ := ints4 (Jb 20 kinds_num t1); obtain ⟨fa, e2, _, b2⟩ := DataW.trod_int Tryz.underlying3 t2; obtain ⟨se, e3, _, b3⟩ := DataW.trod_int Tryz.underlying3 t3; obtain ⟨ao, n, cap, sk, e4, hn, hc, hm, hsk, hk⟩ := keys_of_cell t4; rw [e0, e1, e2, e3, e4] at l5; exact ⟨gp, gq, gg, gh, lg, fa, se, ao, n, cap, sk, l5, hgp, hgq, hgg, hgh, hlg, bounds_i64 b2, bounds_i64 b3, hn, hc, hm, hsk, hk⟩
end
end Go.Proofs.YtdpkpcbikbbcbaaGreat
