/- Arguments that are settings and frames, opened -/
import Derived.Test.YtcaeaejefdhloaaGreatZWG36
import Derived.Test.YtcaeaejefdhloaaGreatZWG49
set_option maxRecDepth 20000
namespace Go.Proofs.YtcaeaejefdhloaaGreat
open Go.ChangeShapes Go.WideShapes Go.ChangeAt Go.RowKit Go.Deep
theorem word_num {a b c d : Int} (ha : 0 ≤ a ∧ a ≤ 18446744073709551615) (hb : 0 ≤ b ∧ b ≤ 18446744073709551615) (hc : 0 ≤ c ∧ c ≤ 18446744073709551615) (hd : 0 ≤ d ∧ d ≤ 18446744073709551615) :
  ∃ x : Nat, x < jj ∧ a = ((jf jd x 0 : Nat) : Int) ∧ b = ((jf jd x 1 : Nat) : Int) ∧ c = ((jf jd x 2 : Nat) : Int) ∧ d = ((jf jd x 3 : Nat) : Int) := by
 obtain ⟨a, rfl⟩ : ∃ n : Nat, a = (n : Int) := ⟨a.toNat, by omega⟩; obtain ⟨b, rfl⟩ : ∃ n : Nat, b = (n : Int) := ⟨b.toNat, by omega⟩; obtain ⟨c, rfl⟩ : ∃ n : Nat, c = (n : Int) := ⟨c.toNat, by omega⟩; obtain ⟨d, rfl⟩ : ∃ n : Nat, d = (n : Int) := ⟨d.toNat, by omega⟩; refine ⟨((d * jd + c) * jd + b) * jd + a, ?_, ?_, ?_, ?_, ?_⟩
 ·unfold jj; unfold jd at *; omega
 all_goals (unfold jf jd at *; omega)
theorem ZQ {α : Type} [Inhabited α] {n : Nat} {R : Nat → α → Prop} (h : ∀ i, i < n → ∃ x, R i x) : ∃ l : List α, l.length = n ∧ ∀ i x, l[i]? = some x → R i x := by
 induction n with
 | zero => exact ⟨[], rfl, fun i x hx => by cases hx⟩
 | succ n ih =>
  obtain ⟨l, h1, h2⟩ := ih fun i hi => h i (by omega)
  obtain ⟨x, hx⟩ := h n (by omega); refine ⟨l ++ [x], by simp [h1], fun i y hy => ?_⟩
  rcases Nat.lt_or_ge i l.length with h9 | h9
  ·rw [List.getElem?_append_left h9] at hy; exact h2 i y hy
  ·rw [List.getElem?_append_right h9] at hy
   have hi : i - l.length = 0 := by
    have := (List.getElem?_eq_some_iff.1 hy).1
    simp at this
    omega
   rw [hi] at hy
   cases hy
   rw [show i = n by omega]; exact hx
theorem list4s {cs : List Value} (h : cs.length = 19) : cs = (cs.drop 0).take 16 ++ ((cs.drop 16).take 1 ++ ((cs.drop 17).take 1 ++ ((cs.drop 18).take 1))) := by
 have e : ∀ (l : List Value) (a b : Nat), l.drop a = (l.drop a).take b ++ l.drop (a + b) := fun l a b => by
  conv => lhs; rw [← List.take_append_drop b (l.drop a), List.drop_drop]
 have h5 : (cs.drop 18).take 1 = cs.drop 18 := List.take_of_length_le (by simp; omega); rw [h5, ← e cs 17 1, ← e cs 16 1, ← e cs 0 16, List.drop_zero]
theorem list4f {cs : List Value} (h : cs.length = 11) : cs = (cs.drop 0).take 1 ++ ((cs.drop 1).take 1 ++ ((cs.drop 2).take 1 ++ ((cs.drop 3).take 8))) := by
 have e : ∀ (l : List Value) (a b : Nat), l.drop a = (l.drop a).take b ++ l.drop (a + b) := fun l a b => by
  conv => lhs; rw [← List.take_append_drop b (l.drop a), List.drop_drop]
 have h5 : (cs.drop 3).take 8 = cs.drop 3 := List.take_of_length_le (by simp; omega); rw [h5, ← e cs 2 1, ← e cs 1 1, ← e cs 0 1, List.drop_zero]
section
variable {H : Type} {enc : TypeId × Value → H} {w : World}
theorem setting_fields : ∃ fs : Array Field, Tryz.prog.underlying 29 = some (.struct fs) ∧ fs.map (fun f => (f.type, f.offset, Tryz.prog.cellsOf f.type)) = #[(26, 0, 16), (3, 16, 1), (3, 17, 1), (27, 18, 1)] ∧ Tryz.prog.cellsOf 29 = 19 := ⟨_, Tryz.underlying29, by kernel_rfl, by kernel_rfl⟩
theorem frame_fields : ∃ fs : Array Field, Tryz.prog.underlying 34 = some (.struct fs) ∧ fs.map (fun f => (f.type, f.offset, Tryz.prog.cellsOf f.type)) = #[(5, 0, 1), (5, 1, 1), (30, 2, 1), (32, 3, 8)] ∧ Tryz.prog.cellsOf 34 = 11 := ⟨_, Tryz.underlying34, by kernel_rfl, by kernel_rfl⟩
theorem kinds_group : zl Tryz.prog 20 26 = some [.u64, .u64, .u64, .u64, .u64, .u64, .u64, .u64, .u64, .u64, .u64, .u64, .u64, .u64, .u64, .u64] := by kernel_rfl
theorem kinds_key : zl Tryz.prog 20 53 = some [.u64, .u64, .u64, .u64, .u64, .u64, .u64, .u64] := by kernel_rfl
theorem kinds_sig : zl Tryz.prog 20 32 = some [.u64, .u64, .u64, .u64, .u64, .u64, .u64, .u64] := by kernel_rfl
theorem ints4 {cs : List Value} (h : Ints [.u64, .u64, .u64, .u64] cs) : ∃ x, x < jj ∧ cs = [.int .u64 (jf jd x 0), .int .u64 (jf jd x 1), .int .u64 (jf jd x 2), .int .u64 (jf jd x 3)] := by
 obtain ⟨a0, c0, rfl, w0, h⟩ := JP h; obtain ⟨a1, c1, rfl, w1, h⟩ := JP h; obtain ⟨a2, c2, rfl, w2, h⟩ := JP h; obtain ⟨a3, c3, rfl, w3, h⟩ := JP h; obtain rfl := ints_nil h; obtain ⟨x, hx, rfl, rfl, rfl, rfl⟩ := word_num (bounds_u64 w0) (bounds_u64 w1) (bounds_u64 w2) (bounds_u64 w3); exact ⟨x, hx, rfl⟩
theorem QP : ∀ (ks ls : List IntKind) {cs : List Value}, Ints (ks ++ ls) cs → ∃ a b, cs = a ++ b ∧ Ints ks a ∧ Ints ls b
 | [], ls, cs, h => ⟨[], cs, rfl, trivial, h⟩
 | k :: ks, ls, cs, h => by
  obtain ⟨n, r, rfl, hw, hr⟩ := JP h; obtain ⟨a, b, rfl, h1, h2⟩ := QP ks ls hr; exact ⟨_ :: a, b, rfl, ⟨⟨n, rfl, hw⟩, h1⟩, h2⟩
theorem ints8 {cs : List Value} (h : Ints [.u64, .u64, .u64, .u64, .u64, .u64, .u64, .u64] cs) : ∃ x y, x < jj ∧ y < jj ∧ cs = [.int .u64 (jf jd x 0), .int .u64 (jf jd x 1), .int .u64 (jf jd x 2), .int .u64 (jf jd x 3), .int .u64 (jf jd y 0), .int .u64 (jf jd y 1), .int .u64 (jf jd y 2), .int .u64 (jf jd y 3)] := by
 obtain ⟨a, b, rfl, h1, h2⟩ := QP [.u64, .u64, .u64, .u64] [.u64, .u64, .u64, .u64] h; obtain ⟨x, hx, rfl⟩ := ints4 h1; obtain ⟨y, hy, rfl⟩ := ints4 h2; exact ⟨x, y, hx, hy, rfl⟩
theorem ints_of_cell0 {P : Program} {t e : TypeId} {k : IntKind} {fuel : Nat} {cs : List Value} {x : DataW H × List MemPlace} (ht : P.underlying t = some (.slice e)) (he : P.underlying e = some (.int k)) (hc : P.cellsOf e = 1)
  (h : DataW.trod enc P w 0 (fun _ => true) true fuel t cs = some x) : ∃ (v : Value) (l : List Int), cs = [v] ∧ IntsAt w k v l := by
 rcases Deep.open_slice ht h with ⟨rfl, _⟩ | ⟨a, len, cap, m, n, D, Pl, rfl, _, hl, hm, hmm, _, hi⟩
 ·exact ⟨_, [], rfl, Option.none, 0, rfl, Nat.le_refl _, Nat.zero_le _, fun _ => rfl, fun x hx => (by cases hx), fun i h => absurd h (Nat.not_lt_zero _)⟩
 ·have hm' : m = cap := by rw [hmm]; rfl
  have hel : ∀ i, i < len → ∃ x : Int, w.cell? (a.add i) = some (.int k x) ∧ (Lit.int k x).wf = true := by
   intro i hil; obtain ⟨cs, hcells, htr⟩ := hi i (by omega); rw [hc] at hcells; obtain ⟨_, hcl, hat⟩ := World.cells?_some hcells; obtain ⟨x, rfl, _, hw⟩ := DataW.trod_int he htr; refine ⟨x, ?_, hw⟩; have := hat 0 (by omega)
   simpa [Addr.add] using this
  obtain ⟨l, hll, hlx⟩ := ZQ hel; refine ⟨_, l, rfl, some a, cap, by rw [hll], by omega, hm, (fun h => by cases h), fun x hx => ?_, fun i h => ?_⟩
  ·obtain ⟨i, hi'⟩ := List.mem_iff_getElem?.1 hx; exact (hlx i x hi').2
  ·have h0 := (hlx i l[i] (List.getElem?_eq_getElem h)).1; have hs : a.spot = Option.none := QY (hlx 0 _ (List.getElem?_eq_getElem (by omega))).1; obtain ⟨ab, ao, asp⟩ := a; obtain rfl : asp = Option.none := hs; refine ⟨ab, ao, rfl, ?_⟩; rw [← h0, Addr.add_lit]
theorem keys_of_cell {fuel : Nat} {cs : List Value} {x : DataW H × List MemPlace} (h : DataW.trod enc Tryz.prog w 0 (fun _ => true) true fuel 27 cs = some x) :
  ∃ (ao : Option Addr) (n cap : Nat) (sk : List (Nat × Nat)), cs = [.slice ao n cap] ∧ n = sk.length ∧ n ≤ cap ∧ cap ≤ maxLen ∧ (∀ k ∈ sk, k.1 < jj ∧ k.2 < jj) ∧ (0 < n → ∃ b o, ao = some ⟨b, o, none⟩ ∧ KeysAt w b o sk) := by
 rcases Deep.open_slice Tryz.underlying27 h with ⟨rfl, _⟩ | ⟨a, len, cap, m, n, D, Pl, rfl, _, hl, hm, hmm, rfl, hi⟩
 ·exact ⟨none, 0, 0, [], rfl, rfl, Nat.le_refl _, Nat.zero_le _, (fun k hk => by cases hk), (fun h => absurd h (Nat.lt_irrefl _))⟩
 ·have hm' : m = cap := by rw [hmm]; rfl
  have h8 : Tryz.prog.cellsOf 53 = 8 := by kernel_rfl
  have hel : ∀ i, i < len → ∃ k : Nat × Nat, (k.1 < jj ∧ k.2 < jj) ∧ ∀ j v, [.int .u64 (jf jd k.1 0), .int .u64 (jf jd k.1 1), .int .u64 (jf jd k.1 2), .int .u64 (jf jd k.1 3), .int .u64 (jf jd k.2 0), .int .u64 (jf jd k.2 1), .int .u64 (jf jd k.2 2), .int .u64 (jf jd k.2 3)][j]? = some v → w.cell? (a.add (i * 8 + j)) = some v := by
   intro i hil; obtain ⟨cs, hcells, htr⟩ := hi i (by omega); rw [h8] at hcells; obtain ⟨_, hcl, hat⟩ := World.cells?_some hcells; obtain ⟨x, y, hx, hy, rfl⟩ := ints8 (zG 20 kinds_key htr); refine ⟨(x, y), ⟨hx, hy⟩, fun j v hj => ?_⟩; have hj8 : j < 8 := by simpa using (List.getElem?_eq_some_iff.1 hj).1
   have h9 := hat j hj8; rw [hj] at h9; rw [← Go.Deep.add_add]; exact h9
  obtain ⟨sk, hsl, hsk⟩ := ZQ hel; refine ⟨some a, len, cap, sk, rfl, hsl.symm, hl, hm, fun k hk => ?_, fun h0 => ?_⟩
  ·obtain ⟨i, hi'⟩ := List.mem_iff_getElem?.1 hk; exact (hsk i k hi').1
  ·obtain ⟨k0, hk0⟩ : ∃ k0, sk[0]? = some k0 := ⟨_, List.getElem?_eq_getElem (by omega)⟩
   have hs : a.spot = Option.none := QY (v := .int .u64 (jf jd k0.1 0)) (by
    have := (hsk 0 k0 hk0).2 0 _ rfl
    simpa [Addr.add] using this)
   obtain ⟨ab, ao, asp⟩ := a; obtain rfl : asp = Option.none := hs; refine ⟨ab, ao, rfl, fun i k hik => ⟨fun j hj => ?_, fun j hj => ?_⟩⟩
   ·have h9 := (hsk i k hik).2 j (.int .u64 (jf jd k.1 j)) (by rcases (show j = 0 ∨ j = 1 ∨ j = 2 ∨ j = 3 by omega) with rfl | rfl | rfl | rfl <;> rfl); rw [Addr.add_lit, ← Nat.add_assoc] at h9; exact h9
   ·have h9 := (hsk i k hik).2 (4 + j) (.int .u64 (jf jd k.2 j)) (by rcases (show j = 0 ∨ j = 1 ∨ j = 2 ∨ j = 3 by omega) with rfl | rfl | rfl | rfl <;> rfl); rw [Addr.add_lit, ← Nat.add_assoc] at h9; exact h9
theorem open_setting {r : Reach} {b0 : Nat} {v : Value} {d : DataW H} {p : List MemPlace} (hv : Value.okWide Tryz.prog w r b0 29 v) (h : DataW.Trod enc Tryz.prog w 0 (fun _ => true) true 29 v d p) :
  ∃ (gp gq gg gh : Nat) (fa se : Int) (ao : Option Addr) (n cap : Nat) (ks : List (Nat × Nat)), v = qd gp gq gg gh fa se (.slice ao n cap) ∧ gp < jj ∧ gq < jj ∧ gg < jj ∧ gh < jj ∧ (-9223372036854775808 ≤ fa ∧ fa ≤ 9223372036854775807) ∧ (-9223372036854775808 ≤ se ∧ se ≤ 9223372036854775807) ∧
   n = ks.length ∧ n ≤ cap ∧ cap ≤ maxLen ∧ (∀ k ∈ ks, k.1 < jj ∧ k.2 < jj) ∧ (0 < n → ∃ b o, ao = some ⟨b, o, none⟩ ∧ KeysAt w b o ks) := by
 have hcs : ∃ cs : Array Value, v = .agg cs := by
  unfold Value.okWide at hv; rw [Tryz.underlying29] at hv; obtain ⟨cs, h, _⟩ := hv; exact ⟨cs, h⟩
 obtain ⟨csa, rfl⟩ := hcs; obtain ⟨fuel, hf9⟩ := h; obtain ⟨cs, hcs9⟩ : ∃ cs : List Value, cs = (Value.agg csa).cells.toList := ⟨_, rfl⟩; rw [← hcs9] at hf9; obtain ⟨fs, hu, hts, h26⟩ := setting_fields; obtain ⟨ys, n', _, hy, hlen, hyl, hf⟩ := DataW.trod_struct hu hf9; rw [h26] at hlen; have hs4 : fs.size = 4 := by simpa using congrArg Array.size hts
 have hty : ∀ (j : Nat) (t : TypeId × Nat × Nat), [(26, 0, 16), (3, 16, 1), (3, 17, 1), (27, 18, 1)][j]? = some t → ∃ y, DataW.trod enc Tryz.prog w 0 (fun _ => true) true n' t.1 ((cs.drop t.2.1).take t.2.2) = some y := by
  intro j t hj; have h1 := congrArg (fun x : Array (TypeId × Nat × Nat) => x[j]?) hts; simp only [Array.getElem?_map, List.getElem?_toArray] at h1; rw [hj] at h1; obtain ⟨f, hfj, hft⟩ := Option.map_eq_some_iff.1 h1; have h2 := hf j f hfj; have hjl : j < ys.length := by have := (Array.getElem?_eq_some_iff.1 hfj).1; omega
  rw [List.getElem?_eq_getElem hjl] at h2
  cases hft
  exact ⟨_, h2⟩
 obtain ⟨y0, t0⟩ := hty 0 _ rfl; obtain ⟨y1, t1⟩ := hty 1 _ rfl; obtain ⟨y2, t2⟩ := hty 2 _ rfl; obtain ⟨y3, t3⟩ := hty 3 _ rfl; have l4 := list4s hlen; simp only at t0 t1 t2 t3; obtain ⟨q0, q1, e0, i0, i1⟩ := QP [.u64, .u64, .u64, .u64, .u64, .u64, .u64, .u64] [.u64, .u64, .u64, .u64, .u64, .u64, .u64, .u64] (zG 20 kinds_group t0); obtain ⟨gp, gq, hgp, hgq, rfl⟩ := ints8 i0; obtain ⟨gg, gh, hgg, hgh, rfl⟩ := ints8 i1; obtain ⟨fa, e2, _, b2⟩ := DataW.trod_int Tryz.underlying3 t1; obtain ⟨se, e3, _, b3⟩ := DataW.trod_int Tryz.underlying3 t2; obtain ⟨ao, n, cap, ks, e4, hn, hc, hm, hsk, hk⟩ := keys_of_cell t3; rw [e0, e2, e3, e4] at l4; refine ⟨gp, gq, gg, gh, fa, se, ao, n, cap, ks, ?_, hgp, hgq, hgg, hgh, bounds_i64 b2, bounds_i64 b3, hn, hc, hm, hsk, hk⟩
 have e9 : csa = ([.int .u64 (jf jd gp 0), .int .u64 (jf jd gp 1), .int .u64 (jf jd gp 2), .int .u64 (jf jd gp 3), .int .u64 (jf jd gq 0), .int .u64 (jf jd gq 1), .int .u64 (jf jd gq 2), .int .u64 (jf jd gq 3), .int .u64 (jf jd gg 0), .int .u64 (jf jd gg 1), .int .u64 (jf jd gg 2), .int .u64 (jf jd gg 3), .int .u64 (jf jd gh 0), .int .u64 (jf jd gh 1), .int .u64 (jf jd gh 2), .int .u64 (jf jd gh 3), .int .i64 fa, .int .i64 se, .slice ao n cap] : List Value).toArray := by
  have := congrArg List.toArray (hcs9.symm.trans l4)
  simpa [Value.cells] using this
 rw [e9]
 rfl
theorem open_frame {r : Reach} {b0 : Nat} {v : Value} {d : DataW H} {p : List MemPlace} (hv : Value.okWide Tryz.prog w r b0 34 v) (h : DataW.Trod enc Tryz.prog w 0 (fun _ => true) true 34 v d p) :
  ∃ (fr tt c s m cb : Nat) (ab : Option Addr) (b : List Nat), v = qy fr tt (.slice ab m cb) c s ∧ fr < 256 ∧ tt < 256 ∧ c < jj ∧ s < jj ∧ m = b.length ∧ KAt .u8 w (.slice ab m cb) b ∧ jO b := by
 have hcs : ∃ cs : Array Value, v = .agg cs := by
  unfold Value.okWide at hv; rw [Tryz.underlying34] at hv; obtain ⟨cs, h, _⟩ := hv; exact ⟨cs, h⟩
 obtain ⟨csa, rfl⟩ := hcs; obtain ⟨fuel, hf9⟩ := h; obtain ⟨cs, hcs9⟩ : ∃ cs : List Value, cs = (Value.agg csa).cells.toList := ⟨_, rfl⟩; rw [← hcs9] at hf9; obtain ⟨fs, hu, hts, h26⟩ := frame_fields; obtain ⟨ys, n', _, hy, hlen, hyl, hf⟩ := DataW.trod_struct hu hf9; rw [h26] at hlen; have hs4 : fs.size = 4 := by simpa using congrArg Array.size hts
 have hty : ∀ (j : Nat) (t : TypeId × Nat × Nat), [(5, 0, 1), (5, 1, 1), (30, 2, 1), (32, 3, 8)][j]? = some t → ∃ y, DataW.trod enc Tryz.prog w 0 (fun _ => true) true n' t.1 ((cs.drop t.2.1).take t.2.2) = some y := by
  intro j t hj; have h1 := congrArg (fun x : Array (TypeId × Nat × Nat) => x[j]?) hts; simp only [Array.getElem?_map, List.getElem?_toArray] at h1; rw [hj] at h1; obtain ⟨f, hfj, hft⟩ := Option.map_eq_some_iff.1 h1; have h2 := hf j f hfj; have hjl : j < ys.length := by have := (Array.getElem?_eq_some_iff.1 hfj).1; omega
  rw [List.getElem?_eq_getElem hjl] at h2
  cases hft
  exact ⟨_, h2⟩
 obtain ⟨y0, t0⟩ := hty 0 _ rfl; obtain ⟨y1, t1⟩ := hty 1 _ rfl; obtain ⟨y2, t2⟩ := hty 2 _ rfl; obtain ⟨y3, t3⟩ := hty 3 _ rfl; have l4 := list4f hlen; simp only at t0 t1 t2 t3; obtain ⟨fr, e0, _, b0⟩ := DataW.trod_int Tryz.underlying5 t0; obtain ⟨tt, e1, _, b1⟩ := DataW.trod_int Tryz.underlying5 t1; obtain ⟨bv, l, e2, hl⟩ := ints_of_cell0 Tryz.underlying30 Tryz.underlying5 (by kernel_rfl) t2; obtain ⟨c, s, hc, hs, e3⟩ := ints8 (zG 20 kinds_sig t3); obtain ⟨b, hb, hby, hbl⟩ := kat_of_ints hl; obtain ⟨ab, cb, hbv⟩ : ∃ ab cb, bv = .slice ab b.length cb := by obtain ⟨a, c, h, _⟩ := hb; exact ⟨a, c, h⟩
 have h0 := bounds_u8 b0; have h1 := bounds_u8 b1; obtain ⟨fr, rfl⟩ : ∃ n : Nat, fr = (n : Int) := ⟨fr.toNat, by omega⟩; obtain ⟨tt, rfl⟩ : ∃ n : Nat, tt = (n : Int) := ⟨tt.toNat, by omega⟩; rw [e0, e1, e2, e3] at l4; subst hbv; refine ⟨fr, tt, c, s, b.length, cb, ab, b, ?_, by omega, by omega, hc, hs, rfl, hb, hby⟩
 have e9 : csa = ([.int .u8 fr, .int .u8 tt, .slice ab b.length cb, .int .u64 (jf jd c 0), .int .u64 (jf jd c 1), .int .u64 (jf jd c 2), .int .u64 (jf jd c 3), .int .u64 (jf jd s 0), .int .u64 (jf jd s 1), .int .u64 (jf jd s 2), .int .u64 (jf jd s 3)] : List Value).toArray := by
  have := congrArg List.toArray (hcs9.symm.trans l4)
  simpa [Value.cells] using this
 rw [e9]
 rfl
end
end Go.Proofs.YtcaeaejefdhloaaGreat
