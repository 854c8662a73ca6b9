/- What is sealed and signed, in a block -/
import Derived.Test.YtmijablfjigbhaaGreatDoorSZVG36
import Derived.Test.YtmijablfjigbhaaGreatDoorSZVG37
import Derived.Test.YtmijablfjigbhaaGreatDoorSZVG39
set_option maxRecDepth 20000
namespace Go.Proofs.YtmijablfjigbhaaGreatDoor
open Go.ChangeShapes Go.WideShapes Go.ChangeAt Go.RowKit Go.Deep
theorem bZ {a b c d : Int} (ha : 0 ≤ a ∧ a ≤ 18446744073709551615) (hb : 0 ≤ b ∧ b ≤ 18446744073709551615) (hc : 0 ≤ c ∧ c ≤ 18446744073709551615) (hd : 0 ≤ d ∧ d ≤ 18446744073709551615) :
  ∃ x : Nat, x < jo ∧ a = ((jf jd x 0 : Nat) : Int) ∧ b = ((jf jd x 1 : Nat) : Int) ∧ c = ((jf jd x 2 : Nat) : Int) ∧ d = ((jf jd x 3 : Nat) : Int) := by
 obtain ⟨a, rfl⟩ : ∃ n : Nat, a = (n : Int) := ⟨a.toNat, by omega⟩; obtain ⟨b, rfl⟩ : ∃ n : Nat, b = (n : Int) := ⟨b.toNat, by omega⟩; obtain ⟨c, rfl⟩ : ∃ n : Nat, c = (n : Int) := ⟨c.toNat, by omega⟩; obtain ⟨d, rfl⟩ : ∃ n : Nat, d = (n : Int) := ⟨d.toNat, by omega⟩; refine ⟨((d * jd + c) * jd + b) * jd + a, ?_, ?_, ?_, ?_, ?_⟩
 ·unfold jo; unfold jd at *; omega
 all_goals (unfold jf jd at *; omega)
theorem uG {α : Type} [Inhabited α] {n : Nat} {R : Nat → α → Prop} (h : ∀ i, i < n → ∃ x, R i x) : ∃ l : List α, l.length = n ∧ ∀ i x, l[i]? = some x → R i x := by
 induction n with
 | zero => exact ⟨[], rfl, fun i x hx => by cases hx⟩
 | succ n ih =>
  obtain ⟨l, h1, h2⟩ := ih fun i hi => h i (by omega)
  obtain ⟨x, hx⟩ := h n (by omega); refine ⟨l ++ [x], by simp [h1], fun i y hy => ?_⟩
  rcases Nat.lt_or_ge i l.length with h9 | h9
  ·rw [List.getElem?_append_left h9] at hy; exact h2 i y hy
  ·rw [List.getElem?_append_right h9] at hy
   have hi : i - l.length = 0 := by
    have := (List.getElem?_eq_some_iff.1 hy).1
    simp at this
    omega
   rw [hi] at hy
   cases hy
   rw [show i = n by omega]; exact hx
theorem list4s {cs : List Value} (h : cs.length = 19) : cs = (cs.drop 0).take 16 ++ ((cs.drop 16).take 1 ++ ((cs.drop 17).take 1 ++ ((cs.drop 18).take 1))) := by
 have e : ∀ (l : List Value) (a b : Nat), l.drop a = (l.drop a).take b ++ l.drop (a + b) := fun l a b => by
  conv => lhs; rw [← List.take_append_drop b (l.drop a), List.drop_drop]
 have h5 : (cs.drop 18).take 1 = cs.drop 18 := List.take_of_length_le (by simp; omega); rw [h5, ← e cs 17 1, ← e cs 16 1, ← e cs 0 16, List.drop_zero]
section
variable {H : Type} {enc : TypeId × Value → H} {w : World}
theorem SH : ∃ fs : Array Field, Tryz.prog.underlying 29 = some (.struct fs) ∧ fs.map (fun f => (f.type, f.offset, Tryz.prog.cellsOf f.type)) = #[(26, 0, 16), (3, 16, 1), (3, 17, 1), (27, 18, 1)] ∧ Tryz.prog.cellsOf 29 = 19 := ⟨_, Tryz.underlying29, by kernel_rfl, by kernel_rfl⟩
theorem BP : zr Tryz.prog 20 26 = some [.u64, .u64, .u64, .u64, .u64, .u64, .u64, .u64, .u64, .u64, .u64, .u64, .u64, .u64, .u64, .u64] := by kernel_rfl
theorem dX : zr Tryz.prog 20 24 = some [.u64, .u64, .u64, .u64] := by kernel_rfl
theorem eX : zr Tryz.prog 20 96 = some [.u64, .u64, .u64, .u64, .u64, .u64, .u64, .u64] := by kernel_rfl
theorem ints4 {cs : List Value} (h : Ints [.u64, .u64, .u64, .u64] cs) : ∃ x, x < jo ∧ cs = [.int .u64 (jf jd x 0), .int .u64 (jf jd x 1), .int .u64 (jf jd x 2), .int .u64 (jf jd x 3)] := by
 obtain ⟨a0, c0, rfl, w0, h⟩ := JG h; obtain ⟨a1, c1, rfl, w1, h⟩ := JG h; obtain ⟨a2, c2, rfl, w2, h⟩ := JG h; obtain ⟨a3, c3, rfl, w3, h⟩ := JG h; obtain rfl := MP h; obtain ⟨x, hx, rfl, rfl, rfl, rfl⟩ := bZ (bounds_u64 w0) (bounds_u64 w1) (bounds_u64 w2) (bounds_u64 w3); exact ⟨x, hx, rfl⟩
theorem ZK : ∀ (ks ls : List IntKind) {cs : List Value}, Ints (ks ++ ls) cs → ∃ a b, cs = a ++ b ∧ Ints ks a ∧ Ints ls b
 | [], ls, cs, h => ⟨[], cs, rfl, trivial, h⟩
 | k :: ks, ls, cs, h => by
  obtain ⟨n, r, rfl, hw, hr⟩ := JG h; obtain ⟨a, b, rfl, h1, h2⟩ := ZK ks ls hr; exact ⟨_ :: a, b, rfl, ⟨⟨n, rfl, hw⟩, h1⟩, h2⟩
theorem ints8 {cs : List Value} (h : Ints [.u64, .u64, .u64, .u64, .u64, .u64, .u64, .u64] cs) : ∃ x y, x < jo ∧ y < jo ∧ cs = [.int .u64 (jf jd x 0), .int .u64 (jf jd x 1), .int .u64 (jf jd x 2), .int .u64 (jf jd x 3), .int .u64 (jf jd y 0), .int .u64 (jf jd y 1), .int .u64 (jf jd y 2), .int .u64 (jf jd y 3)] := by
 obtain ⟨a, b, rfl, h1, h2⟩ := ZK [.u64, .u64, .u64, .u64] [.u64, .u64, .u64, .u64] h; obtain ⟨x, hx, rfl⟩ := ints4 h1; obtain ⟨y, hy, rfl⟩ := ints4 h2; exact ⟨x, y, hx, hy, rfl⟩
theorem XJ {P : Program} {t e : TypeId} {k : IntKind} {fuel : Nat} {cs : List Value} {x : DataW H × List MemPlace} (ht : P.underlying t = some (.slice e)) (he : P.underlying e = some (.int k)) (hc : P.cellsOf e = 1)
  (h : DataW.trod enc P w 0 (fun _ => true) true fuel t cs = some x) : ∃ (v : Value) (l : List Int), cs = [v] ∧ IntsAt w k v l := by
 rcases Deep.open_slice ht h with ⟨rfl, _⟩ | ⟨a, len, cap, m, n, D, Pl, rfl, _, hl, hm, hmm, _, hi⟩
 ·exact ⟨_, [], rfl, Option.none, 0, rfl, Nat.le_refl _, Nat.zero_le _, fun _ => rfl, fun x hx => (by cases hx), fun i h => absurd h (Nat.not_lt_zero _)⟩
 ·have hm' : m = cap := by rw [hmm]; rfl
  have hel : ∀ i, i < len → ∃ x : Int, w.cell? (a.add i) = some (.int k x) ∧ (Lit.int k x).wf = true := by
   intro i hil; obtain ⟨cs, hcells, htr⟩ := hi i (by omega); rw [hc] at hcells; obtain ⟨_, hcl, hat⟩ := World.cells?_some hcells; obtain ⟨x, rfl, _, hw⟩ := DataW.trod_int he htr; refine ⟨x, ?_, hw⟩; have := hat 0 (by omega)
   simpa [Addr.add] using this
  obtain ⟨l, hll, hlx⟩ := uG hel; refine ⟨_, l, rfl, some a, cap, by rw [hll], by omega, hm, (fun h => by cases h), fun x hx => ?_, fun i h => ?_⟩
  ·obtain ⟨i, hi'⟩ := List.mem_iff_getElem?.1 hx; exact (hlx i x hi').2
  ·have h0 := (hlx i l[i] (List.getElem?_eq_getElem h)).1; have hs : a.spot = Option.none := ZR (hlx 0 _ (List.getElem?_eq_getElem (by omega))).1; obtain ⟨ab, ao, asp⟩ := a; obtain rfl : asp = Option.none := hs; refine ⟨ab, ao, rfl, ?_⟩; rw [← h0, Addr.add_lit]
theorem aN {fuel : Nat} {cs : List Value} {x : DataW H × List MemPlace} (h : DataW.trod enc Tryz.prog w 0 (fun _ => true) true fuel 27 cs = some x) :
  ∃ (ao : Option Addr) (n cap : Nat) (sk : List (Nat × Nat)), cs = [.slice ao n cap] ∧ n = sk.length ∧ n ≤ cap ∧ cap ≤ maxLen ∧ (∀ k ∈ sk, k.1 < jo ∧ k.2 < jo) ∧ (0 < n → ∃ b o, ao = some ⟨b, o, none⟩ ∧ D8 w b o sk) := by
 rcases Deep.open_slice Tryz.underlying27 h with ⟨rfl, _⟩ | ⟨a, len, cap, m, n, D, Pl, rfl, _, hl, hm, hmm, rfl, hi⟩
 ·exact ⟨none, 0, 0, [], rfl, rfl, Nat.le_refl _, Nat.zero_le _, (fun k hk => by cases hk), (fun h => absurd h (Nat.lt_irrefl _))⟩
 ·have hm' : m = cap := by rw [hmm]; rfl
  have h8 : Tryz.prog.cellsOf 96 = 8 := by kernel_rfl
  have hel : ∀ i, i < len → ∃ k : Nat × Nat, (k.1 < jo ∧ k.2 < jo) ∧ ∀ j v, [.int .u64 (jf jd k.1 0), .int .u64 (jf jd k.1 1), .int .u64 (jf jd k.1 2), .int .u64 (jf jd k.1 3), .int .u64 (jf jd k.2 0), .int .u64 (jf jd k.2 1), .int .u64 (jf jd k.2 2), .int .u64 (jf jd k.2 3)][j]? = some v → w.cell? (a.add (i * 8 + j)) = some v := by
   intro i hil; obtain ⟨cs, hcells, htr⟩ := hi i (by omega); rw [h8] at hcells; obtain ⟨_, hcl, hat⟩ := World.cells?_some hcells; obtain ⟨x, y, hx, hy, rfl⟩ := ints8 (zL 20 eX htr); refine ⟨(x, y), ⟨hx, hy⟩, fun j v hj => ?_⟩; have hj8 : j < 8 := by simpa using (List.getElem?_eq_some_iff.1 hj).1
   have h9 := hat j hj8; rw [hj] at h9; rw [← Go.Deep.add_add]; exact h9
  obtain ⟨sk, hsl, hsk⟩ := uG hel; refine ⟨some a, len, cap, sk, rfl, hsl.symm, hl, hm, fun k hk => ?_, fun h0 => ?_⟩
  ·obtain ⟨i, hi'⟩ := List.mem_iff_getElem?.1 hk; exact (hsk i k hi').1
  ·obtain ⟨k0, hk0⟩ : ∃ k0, sk[0]? = some k0 := ⟨_, List.getElem?_eq_getElem (by omega)⟩
   have hs : a.spot = Option.none := ZR (v := .int .u64 (jf jd k0.1 0)) (by
    have := (hsk 0 k0 hk0).2 0 _ rfl
    simpa [Addr.add] using this)
   obtain ⟨ab, ao, asp⟩ := a; obtain rfl : asp = Option.none := hs; refine ⟨ab, ao, rfl, fun i k hik => ⟨fun j hj => ?_, fun j hj => ?_⟩⟩
   ·have h9 := (hsk i k hik).2 j (.int .u64 (jf jd k.1 j)) (by rcases (show j = 0 ∨ j = 1 ∨ j = 2 ∨ j = 3 by omega) with rfl | rfl | rfl | rfl <;> rfl); rw [Addr.add_lit, ← Nat.add_assoc] at h9; exact h9
   ·have h9 := (hsk i k hik).2 (4 + j) (.int .u64 (jf jd k.2 j)) (by rcases (show j = 0 ∨ j = 1 ∨ j = 2 ∨ j = 3 by omega) with rfl | rfl | rfl | rfl <;> rfl); rw [Addr.add_lit, ← Nat.add_assoc] at h9; exact h9
end
def Jk (gp gq gg gh : Nat) (fa se : Int) (nodes : Value) (fr tt : Nat) (bv : Value) (h : List Nat) (secret : Nat) : List Value :=
 [.int .u64 (jf jd gp 0), .int .u64 (jf jd gp 1), .int .u64 (jf jd gp 2), .int .u64 (jf jd gp 3), .int .u64 (jf jd gq 0), .int .u64 (jf jd gq 1), .int .u64 (jf jd gq 2), .int .u64 (jf jd gq 3), .int .u64 (jf jd gg 0), .int .u64 (jf jd gg 1), .int .u64 (jf jd gg 2), .int .u64 (jf jd gg 3), .int .u64 (jf jd gh 0), .int .u64 (jf jd gh 1), .int .u64 (jf jd gh 2), .int .u64 (jf jd gh 3), .int .i64 fa, .int .i64 se, nodes] ++ ([.int .u8 fr] ++ ([.int .u8 tt] ++ ([bv] ++ (jp .u8 h ++ [.int .u64 (jf jd secret 0), .int .u64 (jf jd secret 1), .int .u64 (jf jd secret 2), .int .u64 (jf jd secret 3)]))))
theorem list6z {cs : List Value} (h : cs.length = 58) : cs = (cs.drop 0).take 19 ++ ((cs.drop 19).take 1 ++ ((cs.drop 20).take 1 ++ ((cs.drop 21).take 1 ++ ((cs.drop 22).take 32 ++ ((cs.drop 54).take 4))))) := by
 have e : ∀ (l : List Value) (a b : Nat), l.drop a = (l.drop a).take b ++ l.drop (a + b) := fun l a b => by
  conv => lhs; rw [← List.take_append_drop b (l.drop a), List.drop_drop]
 have h5 : (cs.drop 54).take 4 = cs.drop 54 := List.take_of_length_le (by simp; omega); rw [h5, ← e cs 22 32, ← e cs 21 1, ← e cs 20 1, ← e cs 19 1, ← e cs 0 19, List.drop_zero]
section
variable {H : Type} {enc : TypeId × Value → H} {w : World}
theorem RI : ∀ (n : Nat) {cs : List Value}, Ints (List.replicate n .u8) cs → ∃ h : List Nat, h.length = n ∧ jM h ∧ cs = jp .u8 h
 | 0, cs, hi => ⟨[], rfl, fun x hx => (by cases hx), MP hi⟩
 | n + 1, cs, hi => by
  rw [List.replicate_succ] at hi; obtain ⟨a, r, rfl, hw, hr⟩ := JG hi; obtain ⟨h, h1, h2, rfl⟩ := RI n hr; have hb := bounds_u8 hw; obtain ⟨x, rfl⟩ : ∃ x : Nat, a = (x : Int) := ⟨a.toNat, by omega⟩
  exact ⟨x :: h, by simp [h1], fun y hy => by
   rcases List.mem_cons.1 hy with rfl | hy
   ·omega
   ·exact h2 y hy, rfl⟩
theorem yM : ∃ fs : Array Field, Tryz.prog.underlying 34 = some (.struct fs) ∧ fs.map (fun f => (f.type, f.offset, Tryz.prog.cellsOf f.type)) = #[(29, 0, 19), (5, 19, 1), (5, 20, 1), (30, 21, 1), (32, 22, 32), (24, 54, 4)] ∧ Tryz.prog.cellsOf 34 = 58 := ⟨_, Tryz.underlying34, by kernel_rfl, by kernel_rfl⟩
theorem NS : zr Tryz.prog 20 32 = some (List.replicate 32 .u8) := by kernel_rfl
theorem LG {fuel : Nat} {cs : List Value} {x : DataW H × List MemPlace} (h : DataW.trod enc Tryz.prog w 0 (fun _ => true) true fuel 29 cs = some x) :
  ∃ (gp gq gg gh : Nat) (fa se : Int) (ao : Option Addr) (n cap : Nat) (ks : List (Nat × Nat)), cs = [.int .u64 (jf jd gp 0), .int .u64 (jf jd gp 1), .int .u64 (jf jd gp 2), .int .u64 (jf jd gp 3), .int .u64 (jf jd gq 0), .int .u64 (jf jd gq 1), .int .u64 (jf jd gq 2), .int .u64 (jf jd gq 3), .int .u64 (jf jd gg 0), .int .u64 (jf jd gg 1), .int .u64 (jf jd gg 2), .int .u64 (jf jd gg 3), .int .u64 (jf jd gh 0), .int .u64 (jf jd gh 1), .int .u64 (jf jd gh 2), .int .u64 (jf jd gh 3), .int .i64 fa, .int .i64 se, .slice ao n cap] ∧ gp < jo ∧ gq < jo ∧ gg < jo ∧ gh < jo ∧ (-9223372036854775808 ≤ fa ∧ fa ≤ 9223372036854775807) ∧ (-9223372036854775808 ≤ se ∧ se ≤ 9223372036854775807) ∧ n = ks.length ∧ n ≤ cap ∧ cap ≤ maxLen ∧ (∀ k ∈ ks, k.1 < jo ∧ k.2 < jo) ∧ (0 < n → ∃ b o, ao = some ⟨b, o, none⟩ ∧ D8 w b o ks) := by
 obtain ⟨fs, hu, hts, h26⟩ := SH; obtain ⟨ys, n', _, hy, hlen, hyl, hf⟩ := DataW.trod_struct hu h; rw [h26] at hlen; have hs4 : fs.size = 4 := by simpa using congrArg Array.size hts
 have hty : ∀ (j : Nat) (t : TypeId × Nat × Nat), [(26, 0, 16), (3, 16, 1), (3, 17, 1), (27, 18, 1)][j]? = some t → ∃ y, DataW.trod enc Tryz.prog w 0 (fun _ => true) true n' t.1 ((cs.drop t.2.1).take t.2.2) = some y := by
  intro j t hj; have h1 := congrArg (fun x : Array (TypeId × Nat × Nat) => x[j]?) hts; simp only [Array.getElem?_map, List.getElem?_toArray] at h1; rw [hj] at h1; obtain ⟨f, hfj, hft⟩ := Option.map_eq_some_iff.1 h1; have h2 := hf j f hfj; have hjl : j < ys.length := by have := (Array.getElem?_eq_some_iff.1 hfj).1; omega
  rw [List.getElem?_eq_getElem hjl] at h2
  cases hft
  exact ⟨_, h2⟩
 obtain ⟨y0, t0⟩ := hty 0 _ rfl; obtain ⟨y1, t1⟩ := hty 1 _ rfl; obtain ⟨y2, t2⟩ := hty 2 _ rfl; obtain ⟨y3, t3⟩ := hty 3 _ rfl; have l4 := list4s hlen; simp only at t0 t1 t2 t3; obtain ⟨q0, q1, e0, i0, i1⟩ := ZK [.u64, .u64, .u64, .u64, .u64, .u64, .u64, .u64] [.u64, .u64, .u64, .u64, .u64, .u64, .u64, .u64] (zL 20 BP t0); obtain ⟨gp, gq, iG, hgq, rfl⟩ := ints8 i0; obtain ⟨gg, gh, hgg, hgh, rfl⟩ := ints8 i1; obtain ⟨fa, e2, _, b2⟩ := DataW.trod_int Tryz.underlying3 t1; obtain ⟨se, e3, _, b3⟩ := DataW.trod_int Tryz.underlying3 t2; obtain ⟨ao, n, cap, ks, e4, hn, hc, hm, hsk, hk⟩ := aN t3; rw [e0, e2, e3, e4] at l4; exact ⟨gp, gq, gg, gh, fa, se, ao, n, cap, ks, l4, iG, hgq, hgg, hgh, bounds_i64 b2, bounds_i64 b3, hn, hc, hm, hsk, hk⟩
theorem open_seals {r : Reach} {b0 : Nat} {v : Value} {d : DataW H} {p : List MemPlace} (hv : Value.okWide Tryz.prog w r b0 34 v) (h0 : DataW.Trod enc Tryz.prog w 0 (fun _ => true) true 34 v d p) :
  ∃ (gp gq gg gh : Nat) (fa se : Int) (ao : Option Addr) (n cap : Nat) (ks : List (Nat × Nat)) (fr tt m cb secret : Nat) (ab : Option Addr) (b h : List Nat), v = .agg (Jk gp gq gg gh fa se (.slice ao n cap) fr tt (.slice ab m cb) h secret).toArray ∧ gp < jo ∧ gq < jo ∧ gg < jo ∧ gh < jo ∧ (-9223372036854775808 ≤ fa ∧ fa ≤ 9223372036854775807) ∧ (-9223372036854775808 ≤ se ∧ se ≤ 9223372036854775807) ∧ n = ks.length ∧ n ≤ cap ∧ cap ≤ maxLen ∧ (∀ k ∈ ks, k.1 < jo ∧ k.2 < jo) ∧ (0 < n → ∃ b o, ao = some ⟨b, o, none⟩ ∧ D8 w b o ks) ∧ fr < 256 ∧ tt < 256 ∧ secret < jo ∧ m = b.length ∧ J6 .u8 w (.slice ab m cb) b ∧ jM b ∧ h.length = 32 ∧ jM h := by
 have hcs : ∃ cs : Array Value, v = .agg cs := by
  unfold Value.okWide at hv; rw [Tryz.underlying34] at hv; obtain ⟨cs, h, _⟩ := hv; exact ⟨cs, h⟩
 obtain ⟨csa, rfl⟩ := hcs; obtain ⟨fuel, h⟩ := h0; obtain ⟨cs, hcs9⟩ : ∃ cs : List Value, cs = (Value.agg csa).cells.toList := ⟨_, rfl⟩; rw [← hcs9] at h; obtain ⟨fs, hu, hts, h26⟩ := yM; obtain ⟨ys, n', _, hy, hlen, hyl, hf⟩ := DataW.trod_struct hu h; rw [h26] at hlen; have hs4 : fs.size = 6 := by simpa using congrArg Array.size hts
 have hty : ∀ (j : Nat) (t : TypeId × Nat × Nat), [(29, 0, 19), (5, 19, 1), (5, 20, 1), (30, 21, 1), (32, 22, 32), (24, 54, 4)][j]? = some t → ∃ y, DataW.trod enc Tryz.prog w 0 (fun _ => true) true n' t.1 ((cs.drop t.2.1).take t.2.2) = some y := by
  intro j t hj; have h1 := congrArg (fun x : Array (TypeId × Nat × Nat) => x[j]?) hts; simp only [Array.getElem?_map, List.getElem?_toArray] at h1; rw [hj] at h1; obtain ⟨f, hfj, hft⟩ := Option.map_eq_some_iff.1 h1; have h2 := hf j f hfj; have hjl : j < ys.length := by have := (Array.getElem?_eq_some_iff.1 hfj).1; omega
  rw [List.getElem?_eq_getElem hjl] at h2
  cases hft
  exact ⟨_, h2⟩
 obtain ⟨y0, t0⟩ := hty 0 _ rfl; obtain ⟨y1, t1⟩ := hty 1 _ rfl; obtain ⟨y2, t2⟩ := hty 2 _ rfl; obtain ⟨y3, t3⟩ := hty 3 _ rfl; obtain ⟨y4, t4⟩ := hty 4 _ rfl; obtain ⟨y5, t5⟩ := hty 5 _ rfl; have l4 := list6z hlen; simp only at t0 t1 t2 t3 t4 t5; obtain ⟨gp, gq, gg, gh, fa, se, ao, n, cap, ks, e0, iG, hgq, hgg, hgh, c2, c3, hn, hc, hm, hsk, hk⟩ := LG t0; obtain ⟨fr, e1, _, b0⟩ := DataW.trod_int Tryz.underlying5 t1; obtain ⟨tt, e2, _, b1⟩ := DataW.trod_int Tryz.underlying5 t2; obtain ⟨bv, l, e3, hl⟩ := XJ Tryz.underlying30 Tryz.underlying5 (by kernel_rfl) t3; obtain ⟨h, hh1, hh2, e4⟩ := RI 32 (zL 20 NS t4); obtain ⟨secret, hsM, e5⟩ := ints4 (zL 20 dX t5); obtain ⟨b, hb, hby, hbl⟩ := IP hl; obtain ⟨ab, cb, hbv⟩ : ∃ ab cb, bv = .slice ab b.length cb := by obtain ⟨a, c, h, _⟩ := hb; exact ⟨a, c, h⟩
 have g0 := bounds_u8 b0; have g1 := bounds_u8 b1; obtain ⟨fr, rfl⟩ : ∃ n : Nat, fr = (n : Int) := ⟨fr.toNat, by omega⟩; obtain ⟨tt, rfl⟩ : ∃ n : Nat, tt = (n : Int) := ⟨tt.toNat, by omega⟩; rw [e0, e1, e2, e3, e4, e5] at l4; subst hbv; refine ⟨gp, gq, gg, gh, fa, se, ao, n, cap, ks, fr, tt, b.length, cb, secret, ab, b, h, ?_, iG, hgq, hgg, hgh, c2, c3, hn, hc, hm, hsk, hk, by omega, by omega, hsM, rfl, hb, hby, hh1, hh2⟩
 have e9 : csa = (Jk gp gq gg gh fa se (.slice ao n cap) fr tt (.slice ab b.length cb) h secret).toArray := by
  have := congrArg List.toArray (hcs9.symm.trans l4); have e8 : (Value.agg csa).cells = csa := rfl; rw [e8] at this
  simpa [Jk] using this
 rw [e9]
end
open Go.ChangeShapes Go.WideShapes Go.ChangeAt Go.RowKit
structure ZAt (w : World) (b gp gq gg gh : Nat) (fa se : Int) (v : Value) (fr tt : Nat) (bv : Value) (h : List Nat) (secret : Nat) : Prop where
 st : UA w b gp gq gg gh fa se v
 fr : w.cell? ⟨b, 19, none⟩ = some (.int .u8 fr)
 tt : w.cell? ⟨b, 20, none⟩ = some (.int .u8 tt)
 bv : w.cell? ⟨b, 21, none⟩ = some bv
 hh : ∀ j u, (jp .u8 h)[j]? = some u → w.cell? ⟨b, 22 + j, none⟩ = some u
 sec : X6 w b 54 secret
theorem ZAt.later {w w' : World} {b gp gq gg gh : Nat} {fa se : Int} {v : Value} {fr tt : Nat} {bv : Value} {h : List Nat} {secret : Nat} (z : ZAt w b gp gq gg gh fa se v fr tt bv h secret) (hb : Below w.heap.size w w') : ZAt w' b gp gq gg gh fa se v fr tt bv h secret :=
 ⟨z.st.later hb, jm z.fr hb, jm z.tt hb, jm z.bv hb, fun j u hu => jm (z.hh j u hu) hb, X6.later hb z.sec⟩
theorem ZAt.new (w : World) (gp gq gg gh : Nat) (fa se : Int) (v : Value) (fr tt : Nat) (bv : Value) {h : List Nat} (secret : Nat) (t : TypeId) (hl : h.length = 32) : ZAt (w.alloc (.cells (Jk gp gq gg gh fa se v fr tt bv h secret).toArray t)) w.heap.size gp gq gg gh fa se v fr tt bv h secret := by
 obtain ⟨W, hW⟩ := je (w.alloc (.cells (Jk gp gq gg gh fa se v fr tt bv h secret).toArray t))
 have hc : ∀ j u, (Jk gp gq gg gh fa se v fr tt bv h secret)[j]? = some u → W.cell? ⟨w.heap.size, j, none⟩ = some u := fun j u hu => by
  rw [hW, cell_of_row _ _ _ _ _ _ (heap_alloc_new _ _), List.getElem?_toArray]; exact hu
 have hf : Y0 W w.heap.size 19 := by rw [hW]; exact Y0.new _ _ _ _
 rw [← hW]; have hcl := jt .u8 h; have four : ∀ (o x : Nat), (∀ j, j < 4 → (Jk gp gq gg gh fa se v fr tt bv h secret)[o + j]? = some (.int .u64 (jf jd x j))) → X6 W w.heap.size o x := fun o x hx j hj => hc _ _ (hx j hj)
 refine ⟨⟨⟨four 0 gp ?_, four 4 gq ?_, four 8 gg ?_, four 12 gh ?_⟩, hc 16 _ rfl, hc 17 _ rfl, hc 18 _ rfl, hf⟩, hc 19 _ rfl, hc 20 _ rfl, hc 21 _ rfl, fun j u hu => hc _ _ ?_, four 54 secret ?_⟩
 ·intro j hj; rcases (show j = 0 ∨ j = 1 ∨ j = 2 ∨ j = 3 by omega) with rfl | rfl | rfl | rfl <;> rfl
 ·intro j hj; rcases (show j = 0 ∨ j = 1 ∨ j = 2 ∨ j = 3 by omega) with rfl | rfl | rfl | rfl <;> rfl
 ·intro j hj; rcases (show j = 0 ∨ j = 1 ∨ j = 2 ∨ j = 3 by omega) with rfl | rfl | rfl | rfl <;> rfl
 ·intro j hj; rcases (show j = 0 ∨ j = 1 ∨ j = 2 ∨ j = 3 by omega) with rfl | rfl | rfl | rfl <;> rfl
 ·have hj := (List.getElem?_eq_some_iff.1 hu).1; unfold Jk; rw [← List.append_assoc, ← List.append_assoc, ← List.append_assoc, ← List.append_assoc, List.getElem?_append_left (by simp; omega), List.getElem?_append_right (by simp)]
  simpa using hu
 ·intro j hj; unfold Jk; rw [← List.append_assoc, ← List.append_assoc, ← List.append_assoc, ← List.append_assoc, List.getElem?_append_right (by simp; omega)]; simp only [List.length_append, List.length_cons, List.length_nil, hcl, hl]
  rcases (show j = 0 ∨ j = 1 ∨ j = 2 ∨ j = 3 by omega) with rfl | rfl | rfl | rfl <;> rfl
theorem loadHz {w : World} {b : Nat} {h : List Nat} (hl : h.length = 32) (hh : ∀ j u, (jp .u8 h)[j]? = some u → w.cell? ⟨b, 22 + j, none⟩ = some u) : (Instr.loadAt 32 (.pointer (some ⟨b, 22, none⟩))).run Tryz.prog w = .ok (.agg (jp .u8 h).toArray) w :=
 run_loadAt_mid (P := Tryz.prog) w b 22 32 (jp .u8 h) _ hh Tryz.underlying32 rfl (by rw [zt, jt, hl])
theorem RS : (Tryz.prog.info? 34).map (·.size) = some 58 := by kernel_rfl
theorem OJ {gp gq gg gh : Nat} {fa se : Int} {v : Value} {fr tt : Nat} {bv : Value} {h : List Nat} {secret : Nat} (hl : h.length = 32) : (Jk gp gq gg gh fa se v fr tt bv h secret).length = 58 := by
 unfold Jk
 simp [jt, hl]
theorem eql_hash {h : List Nat} (hl : h.length = 32) (w : World) : (binOp .eql 32 (.agg (jp .u8 h).toArray) (.agg (jp .u8 h).toArray)).run Tryz.prog w = .ok (.bool true) w := by
 have hg : ∀ i, i < 32 → ((jp .u8 h).toArray)[i]? = some (.int .u8 ((h.getD i 0 : Nat) : Int)) := fun i hi => by
  rw [List.getElem?_toArray, qv, List.getElem?_eq_getElem (by rw [hl]; exact hi)]
  simp [List.getD_eq_getElem?_getD, List.getElem?_eq_getElem (show i < h.length by rw [hl]; exact hi)]
 rw [QN w 32 5 .u8 32 Tryz.underlying32 Tryz.underlying5 (fun _ => by kernel_rfl) (fun _ => by kernel_rfl) _ _ (fun i => ((h.getD i 0 : Nat) : Int)) (fun i => ((h.getD i 0 : Nat) : Int)) hg hg]
 simp
theorem eqg_hash : Tryz.prog.eqGuardType Tryz.prog.depth 32 = false := by kernel_rfl
theorem eql_sig {c s : Nat} (hc : c < jo) (hs : s < jo) (w : World) : (binOp .eql 39 (Ql c s) (Ql c s)).run Tryz.prog w = .ok (.bool true) w := by
 have h9 := eq_sig hc hs hc hs w; rw [decide_eq_true (rfl : c = c), decide_eq_true (rfl : s = s)] at h9; exact h9
theorem DW {gp gq gg gh : Nat} {fa se : Int} {n : Nat} {ks : List (Nat × Nat)} {fr tt : Nat} {b : List Nat} {secret : Nat} (hq : gq < jo) (hfr : fr < 256) (hto : tt < 256) (hby : jM b) (hbl : b.length ≤ 70000) :
  (Jb gp gq gg gh fa se n ks fr tt b secret).fr < 256 ∧ (Jb gp gq gg gh fa se n ks fr tt b secret).tt < 256 ∧ jM (Jb gp gq gg gh fa se n ks fr tt b secret).b ∧ (Jb gp gq gg gh fa se n ks fr tt b secret).b.length ≤ 70000 ∧ (Jb gp gq gg gh fa se n ks fr tt b secret).c < jo ∧ (Jb gp gq gg gh fa se n ks fr tt b secret).s < jo := by
 unfold Jb
 split
 ·exact ⟨hfr, hto, hby, hbl, DZ hq, BZ hq⟩
 ·exact ⟨by decide, by decide, (show jM [] from fun x hx => by cases hx), by decide, by decide, by decide⟩
theorem O1.first {w : World} {B : Nat} {e : TypeId} {size n m cap : Nat} {a : Option Addr} {xs : List Value} (h : O1 w B e size (.slice a (n + m) cap) (n + m) xs) (h0 : 0 < n + m) : O1 w B e size (.slice a n cap) n (xs.take (n * size)) := by
 obtain ⟨h1, h2⟩ := h; have hle : n * size ≤ (n + m) * size := Nat.mul_le_mul_right _ (Nat.le_add_right _ _); refine ⟨by rw [List.length_take, h1]; omega, ?_⟩
 rcases h2 with ⟨_, h2⟩ | ⟨g, o, cp, cur, h3, h4, h5, h6, h7, h8, h9⟩
 ·omega
 ·injection h3 with h3 _ h3'
  subst h3 h3'; refine .inr ⟨g, o, _, cur, rfl, h4, h5, by omega, h7, h8, ?_⟩; rw [← h9, List.take_take, Nat.min_eq_left hle]
theorem dA.own {w : World} {base g o c : Nat} {ks : List (Nat × Nat)} (h : dA w base g o c ks) : O1 w base 96 8 (.slice (some ⟨g, o, none⟩) ks.length c) ks.length ((qs (ks ++ [(77, 0)])).take (ks.length * 8)) := h.2.first (by omega)
def zLB (u v : Value) : Nat → Value := fun i => if i = 0 then u else v
theorem kt_two {w w0 w1 w2 : World} {base n m q : Nat} {K U V : Value} {xk xu xv : List Value} (hb0 : base ≤ w0.heap.size) (h01 : w0.heap.size ≤ w1.heap.size) (h12 : w1.heap.size ≤ w2.heap.size) (oK : O1 w base 96 8 K n xk) (oU : O1 w w0.heap.size 5 1 U m xu) (oV : O1 w w2.heap.size 5 1 V q xv)
  (hK : ∀ g, K.ownBlock = some g → g < w0.heap.size) (hU : ∀ g, U.ownBlock = some g → g < w1.heap.size) (t : TypeId) :
  Kt (w.alloc (.cells bk0 t)) base w.heap.size 0 0 0 2 1 (fun _ => .slice none 0 0) (zLB U V) (fun _ => K) (fun i => i + 2) (fun _ => 1) (fun i => if i = 0 then m else q) (fun _ => n) (fun i => if i = 0 then xu else xv) (fun _ => xk) := by
 refine Kt.start t (fun i hi => ?_) (fun i hi => oK) (fun i j hi hj hij g hg => ?_) (fun i j hi hj hij => absurd (show i = j by omega) hij) (fun i j hi hj g hg e => ?_)
 ·rcases (show i = 0 ∨ i = 1 by omega) with rfl | rfl
  ·exact O1.base oU hb0
  ·exact O1.base oV (by omega)
 ·rcases (show i = 0 ∨ i = 1 by omega) with rfl | rfl <;> rcases (show j = 0 ∨ j = 1 by omega) with rfl | rfl
  ·exact absurd rfl hij
  ·intro e; have h1 := hU g hg; have h2 := (O1.lt oV g e).1; omega
  ·intro e; have h1 := hU g e; have h2 := (O1.lt oV g hg).1; omega
  ·exact absurd rfl hij
 ·have h1 := hK g e
  rcases (show i = 0 ∨ i = 1 by omega) with rfl | rfl
  ·have h2 := (O1.lt oU g hg).1; omega
  ·have h2 := (O1.lt oV g hg).1; omega
theorem X6.eqb {w w' : World} {b o x : Nat} (h : X6 w b o x) (e : w'.heap[b]? = w.heap[b]?) : X6 w' b o x := fun j hj => (World.cell?_of_block (w := w) (a := ⟨b, o + j, none⟩) e).trans (h j hj)
theorem JQ {w w' : World} {b o : Nat} {v : Value} (h : w.cell? ⟨b, o, none⟩ = some v) (e : w'.heap[b]? = w.heap[b]?) : w'.cell? ⟨b, o, none⟩ = some v := (World.cell?_of_block (w := w) (a := ⟨b, o, none⟩) e).trans h
theorem Y0.eqb {w w' : World} {b n : Nat} (h : Y0 w b n) (e : w'.heap[b]? = w.heap[b]?) : Y0 w' b n := fun j hj => (World.frozen?_of_block (w := w) (a := ⟨b, j, none⟩) e).trans (h j hj)
theorem UA.eqb {w w' : World} {b gp gq gg gh : Nat} {fa se : Int} {v : Value} (h : UA w b gp gq gg gh fa se v) (e : w'.heap[b]? = w.heap[b]?) : UA w' b gp gq gg gh fa se v :=
 ⟨⟨h.grp.1.eqb e, h.grp.2.1.eqb e, h.grp.2.2.1.eqb e, h.grp.2.2.2.eqb e⟩, JQ h.fa e, JQ h.se e, JQ h.nd e, h.free.eqb e⟩
theorem Z7.eqb {w w' : World} {b fr tt : Nat} {bv : Value} {c s : Nat} (h : Z7 w b fr tt bv c s) (e : w'.heap[b]? = w.heap[b]?) : Z7 w' b fr tt bv c s :=
 ⟨JQ h.fr e, JQ h.tt e, JQ h.bv e, h.c.eqb e, h.s.eqb e, h.free.eqb e⟩
end Go.Proofs.YtmijablfjigbhaaGreatDoor
