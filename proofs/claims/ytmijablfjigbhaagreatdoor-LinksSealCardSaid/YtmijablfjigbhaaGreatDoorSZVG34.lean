/- Steps of walks -/
import Derived.Test.YtmijablfjigbhaaGreatDoorSZVG23
import Derived.Test.YtmijablfjigbhaaGreatDoorSZVG25
import Derived.Laws.OwnMore
import Derived.Test.YtmijablfjigbhaaGreatDoorSZVG33
set_option linter.unusedSimpArgs false
set_option linter.unusedVariables false
set_option maxHeartbeats 8000000
set_option maxRecDepth 20000
namespace Go.Proofs.YtmijablfjigbhaaGreatDoor
open Go.ChangeShapes Go.WideShapes Go.ChangeAt Go.RowKit
theorem bJ : ∀ (b : List Nat) (z : Nat), b.foldl (fun n c => n * 256 + c) z = z * 256 ^ b.length + b.foldl (fun n c => n * 256 + c) 0
 | [], z => by simp
 | c :: b, z => by
  rw [List.foldl_cons, List.foldl_cons, bJ b (z * 256 + c), bJ b (0 * 256 + c), List.length_cons, Nat.pow_succ, Nat.zero_mul, Nat.zero_add, Nat.add_mul, Nat.mul_assoc, Nat.mul_comm 256, Nat.add_assoc]
theorem ZG (a b : List Nat) : ZH (a ++ b) = ZH a * 256 ^ b.length + ZH b := by
 unfold ZH; rw [List.foldl_append, bJ]
theorem word_lt {b : List Nat} (hb : jM b) (i : Nat) (h : 8 * i + 8 ≤ b.length) : qu b i < jd := by
 have h9 := pI 8 ((b.drop (8 * i)).take 8) (by rw [List.length_take, List.length_drop]; omega) (fun x hx => hb x (List.drop_subset _ _ (List.take_subset _ _ hx))); exact h9
theorem num32 {b : List Nat} (hl : b.length = 32) : ZH b = ((qu b 0 * jd + qu b 1) * jd + qu b 2) * jd + qu b 3 := by
 have e0 : b = (((b.drop 0).take 8 ++ (b.drop 8).take 8) ++ (b.drop 16).take 8) ++ (b.drop 24).take 8 := by
  have h1 : (b.drop 24).take 8 = b.drop 24 := List.take_of_length_le (by rw [List.length_drop]; omega); rw [h1, List.append_assoc, List.append_assoc]; have h2 := List.take_append_drop 8 (b.drop 16); rw [List.drop_drop] at h2; have h3 := List.take_append_drop 8 (b.drop 8); rw [List.drop_drop] at h3; have h4 := List.take_append_drop 8 (b.drop 0); rw [List.drop_drop] at h4; rw [show (16 + 8 : Nat) = 24 from rfl] at h2; rw [show (8 + 8 : Nat) = 16 from rfl] at h3; rw [show (0 + 8 : Nat) = 8 from rfl] at h4; rw [h2, h3, h4]
  rfl
 have l1 : ((b.drop 8).take 8).length = 8 := by rw [List.length_take, List.length_drop]; omega
 have l2 : ((b.drop 16).take 8).length = 8 := by rw [List.length_take, List.length_drop]; omega
 have l3 : ((b.drop 24).take 8).length = 8 := by rw [List.length_take, List.length_drop]; omega
 conv => lhs; rw [e0]
 rw [ZG, ZG, ZG, l1, l2, l3]
 rfl
theorem WU {b : List Nat} (hb : jM b) (hl : b.length = 32) : Value.agg #[.int .u64 (qu b 3), .int .u64 (qu b 2), .int .u64 (qu b 1), .int .u64 (qu b 0)] = jj (ZH b) := by
 have h0 := word_lt hb 0 (by omega); have h1 := word_lt hb 1 (by omega); have h2 := word_lt hb 2 (by omega); have h3 := word_lt hb 3 (by omega); rw [num32 hl]
 generalize qu b 0 = x0 at *
 generalize qu b 1 = x1 at *
 generalize qu b 2 = x2 at *
 generalize qu b 3 = x3 at *
 have e3 : jf jd (((x0 * jd + x1) * jd + x2) * jd + x3) 0 = x3 := by unfold jf jd at *; omega
 have e2 : jf jd (((x0 * jd + x1) * jd + x2) * jd + x3) 1 = x2 := by unfold jf jd at *; omega
 have e1 : jf jd (((x0 * jd + x1) * jd + x2) * jd + x3) 2 = x1 := by unfold jf jd at *; omega
 have e0 : jf jd (((x0 * jd + x1) * jd + x2) * jd + x3) 3 = x0 := by unfold jf jd at *; omega
 unfold jj words; rw [e3, e2, e1, e0]
theorem VW {b : List Nat} (hb : jM b) (hl : b.length = 32) : ZH b < jo := by
 have h := pI 32 b hl hb; exact h
theorem row_block {w w' : World} {base : Nat} {e : TypeId} {size : Nat} {v : Value} {n : Nat} {xs : List Value} (h : w.ownsRow base e size v n xs) (hb : ∀ g, v.ownBlock = some g → w'.heap[g]? = w.heap[g]?) : w'.ownsRow base e size v n xs := by
 obtain ⟨h1, h2⟩ := h; refine ⟨h1, ?_⟩
 rcases h2 with h2 | ⟨g, cap, cur, h3, h4, h5, h6⟩
 ·exact .inl h2
 ·exact .inr ⟨g, cap, cur, h3, h4, (hb g (by rw [h3]; rfl)).trans h5, h6⟩
theorem YO {w : World} {base g : Nat} {e : TypeId} {cap n : Nat} {xs : List Value} {x : Value} (h : w.ownsRow base e 1 (.slice (some ⟨g, 0, none⟩) (n + 1) cap) (n + 1) (xs ++ [x])) : w.ownsRow base e 1 (.slice (some ⟨g, 0, none⟩) n cap) n xs := by
 obtain ⟨h1, h2⟩ := h; have h7 : xs.length = n := by simpa using h1
 refine ⟨by simpa using h7, ?_⟩
 rcases h2 with ⟨h2, _⟩ | ⟨g', cap', cur, h3, h4, h5, h6, h8, h9, h10⟩
 ·cases h2
 ·cases h3
  have e := congrArg (List.take n) h10; rw [List.take_take, show min n ((n + 1) * 1) = n by omega, List.take_append_of_le_length (Nat.le_of_eq h7.symm), List.take_of_length_le (Nat.le_of_eq h7)] at e; exact .inr ⟨g, cap, cur, rfl, h4, h5, by omega, h8, h9, by simpa using e⟩
theorem DL {w : World} {base g : Nat} {e : TypeId} {cap n : Nat} {xs : List Value} (h : w.ownsRow base e 1 (.slice (some ⟨g, 0, none⟩) n cap) n xs) {j : Nat} {u : Value} (hj : xs[j]? = some u) : w.cell? ⟨g, j, none⟩ = some u := by
 obtain ⟨h1, h2⟩ := h
 rcases h2 with ⟨h2, _⟩ | ⟨g', cap', cur, h3, h4, h5, h6, h8, h9, h10⟩
 ·cases h2
 ·cases h3
  rw [cell_of_row _ _ _ _ _ _ h5]; rw [← h10, List.getElem?_take] at hj
  split at hj
  ·simpa using hj
  ·cases hj
theorem Jr {c : Bool} {A B : Prop} (h : c = true) (ha : A) : if c = true then A else B := by
 rw [if_pos h]; exact ha
theorem dI {P : Program} {o : Oper} {a : Act} {w : World} {K : Act → World → Prop} {Q : Exit → Act → World → Prop} (ty : TypeId) (x y : Operand) (ho : o.op = .store ty x y) (g : Nat) (c T : Array Value) (t : TypeId)
  (hg : w.heap[g]? = some (.cells c t (0, 0))) (hx : a.eval x = .pointer (some ⟨g, 0, none⟩)) (hy : a.eval y = .agg T) (hi : (P.info? ty).map (·.size) = some T.size) (hc : c.size = T.size) (h1 : T.all (·.oneCell') = true)
  (k : K (a.put o.dst undef) (w.setRow g T)) : o.wp P a w K Q := by
 unfold Oper.wp execOp; simp only [ho, hx, hy, Sem.run_bind, Instr.storeAt, Instr.sureAddr, Sem.run_pure, Result.andThen_ok, run_storeVar_row w g t ty c T hg hi hc h1]; exact k
theorem Qm {P : Program} {o : Oper} {a : Act} {w w' : World} {K : Act → World → Prop} {Q : Exit → Act → World → Prop} {v : Value} (h : (execOp a.eval o).run P w = .ok (.value v) w') (k : K (a.put o.dst v) w') : o.wp P a w K Q := by
 unfold Oper.wp; rw [h]; exact k
theorem Qn {P : Program} {o : Oper} {a : Act} {w : World} {K : Act → World → Prop} {Q : Exit → Act → World → Prop} (s x : Operand) (t : TypeId) (ho : o.op = .call { callee := .builtin .append, args := #[s, x], argTypes := #[t, t] })
  (base : Nat) (e : TypeId) (i : TypeInfo) (size : Nat) (ht : P.underlying t = some (.slice e)) (hi : P.info? e = some i) (hsize : i.size = size) (g n cap : Nat) (xs : List Value) (hs : a.eval s = .slice (some ⟨g, 0, none⟩) n cap) (hown : w.ownsRow base e size (.slice (some ⟨g, 0, none⟩) n cap) n xs)
  (ad : Addr) (m c : Nat) (news : List Value) (hx : a.eval x = .slice (some ad) m c) (hl : news.length = m * size) (hnews : ∀ j u, news[j]? = some u → w.cell? (ad.add j) = some u) (h1 : ∀ u ∈ news, u.oneCell' = true) (hroom : n + m ≤ cap)
  (k : ∀ w', w'.ownsRow base e size (.slice (some ⟨g, 0, none⟩) (n + m) cap) (n + m) (xs ++ news) → w.grownBy w' (some g) → K (a.put o.dst (.slice (some ⟨g, 0, none⟩) (n + m) cap)) w') : o.wp P a w K Q := by
 obtain ⟨w', hr, h2, h3⟩ := run_append_fits (P := P) w base t o.type e i size ht hi hsize g n cap xs hown ad m c news hl hnews h1 hroom; unfold Oper.wp execOp; simp only [ho, resolve, invoke, builtin, Sem.run_bind, Sem.run_pure, Result.andThen_ok, List.map_toArray, List.map_cons, List.map_nil, hs, hx, hr]; exact k w' h2 h3
structure TA (wB wr : World) (AS AL G : Nat) (s : ByteArray) (vs : List Value) (ls : List (List Nat)) (cap : Nat) : Prop where
 as_ : wr.cell? ⟨AS, 0, none⟩ = some (.string s)
 all : wr.cell? ⟨AL, 0, none⟩ = some (.slice (some ⟨G, 0, none⟩) ls.length cap)
 row : wr.ownsRow G 30 1 (.slice (some ⟨G, 0, none⟩) ls.length cap) ls.length vs
 kat : ∀ (i : Nat) v l, vs[i]? = some v → ls[i]? = some l → J6 .u8 wB v l
 below : Below wB.heap.size wB wr
 gt : wB.heap.size ≤ G
 ne1 : AS ≠ G
 ne2 : AL ≠ G
 room : ls.length + 1 ≤ cap
theorem TA.lt {wB wr : World} {AS AL G : Nat} {s : ByteArray} {vs : List Value} {ls : List (List Nat)} {cap : Nat} (h : TA wB wr AS AL G s vs ls cap) : G < wr.heap.size := by
 obtain ⟨_, h2⟩ := h.row
 rcases h2 with ⟨h2, _⟩ | ⟨g', cap', cur, h3, h4, h5, _⟩
 ·cases h2
 ·cases h3
  exact (Array.getElem?_eq_some_iff.1 h5).1
theorem TA.grown {wB wr w' : World} {AS AL G : Nat} {s : ByteArray} {vs : List Value} {ls : List (List Nat)} {cap : Nat} (h : TA wB wr AS AL G s vs ls cap) (hg : wr.grownBy w' (some G)) (hr : w'.ownsRow G 30 1 (.slice (some ⟨G, 0, none⟩) ls.length cap) ls.length vs) : TA wB w' AS AL G s vs ls cap :=
 ⟨hg.cell h.as_ (fun e => h.ne1 (by injection e)), hg.cell h.all (fun e => h.ne2 (by injection e)), hr, h.kat, h.below.grown hg h.below.size (fun k hk => by injection hk with hk; have := h.gt; omega), h.gt, h.ne1, h.ne2, h.room⟩
theorem QX {w w' : World} (hb : Below w.heap.size w w') (r : Option Nat) : w.grownBy w' r := ⟨hb.os, hb.tape, hb.output, hb.size, fun k hk _ => hb.block k hk⟩
theorem TA.later {wB wr w' : World} {AS AL G : Nat} {s : ByteArray} {vs : List Value} {ls : List (List Nat)} {cap : Nat} (h : TA wB wr AS AL G s vs ls cap) (hb : Below wr.heap.size wr w') : TA wB w' AS AL G s vs ls cap :=
 h.grown (QX hb _) (row_block h.row fun g hg => hb.block g (by have e : G = g := (by injection hg); rw [← e]; exact h.lt))
theorem TS : (Tryz.prog.info? 30).map (·.size) = some 1 := by kernel_rfl
theorem FT {wB wr : World} {AS AL G : Nat} {s : ByteArray} {vs : List Value} {ls : List (List Nat)} {cap x B1 : Nat} (h : TA wB wr AS AL G s vs ls cap) (hr : wr.ownsRow G 30 1 (.slice (some ⟨G, 0, none⟩) (ls.length + 1) cap) (ls.length + 1) (vs ++ [.slice (some ⟨B1, 0, none⟩) 1 1]))
  (hx : J6 .u8 wr (.slice (some ⟨B1, 0, none⟩) 1 1) [x]) : Parts wr G 0 (vs ++ [.slice (some ⟨B1, 0, none⟩) 1 1]) (ls ++ [[x]]) := by
 have hl : vs.length = ls.length := by have := h.row.1; simpa using this
 refine ⟨by simp [hl], fun i hi => ?_⟩; simp only [List.length_append, List.length_singleton] at hi
 rcases Nat.lt_or_ge i ls.length with h1 | h1
 ·obtain ⟨v, hv⟩ : ∃ v, vs[i]? = some v := ⟨_, List.getElem?_eq_getElem (by omega)⟩; obtain ⟨l, TD⟩ : ∃ l, ls[i]? = some l := ⟨_, List.getElem?_eq_getElem h1⟩; have h2 : (vs ++ [Value.slice (some ⟨B1, 0, none⟩) 1 1])[i]? = some v := by rw [List.getElem?_append_left (by omega)]; exact hv
  refine ⟨v, l, h2, by rw [List.getElem?_append_left h1]; exact TD, by rw [Nat.zero_add]; exact DL hr h2, (h.kat i v l hv TD).later h.below⟩
 ·obtain rfl : i = ls.length := by omega
  have h2 : (vs ++ [Value.slice (some ⟨B1, 0, none⟩) 1 1])[ls.length]? = some (.slice (some ⟨B1, 0, none⟩) 1 1) := by rw [← hl]; simp
  exact ⟨_, _, h2, by simp, by rw [Nat.zero_add]; exact DL hr h2, hx⟩
theorem Zd {w w' : World} {base g : Nat} {e : TypeId} {n cap : Nat} {xs : List Value} (h : w.ownsRow base e 1 (.slice (some ⟨g, 0, none⟩) n cap) n xs) (hb : Below w.heap.size w w') : w'.ownsRow base e 1 (.slice (some ⟨g, 0, none⟩) n cap) n xs := by
 obtain ⟨h1, h2⟩ := h; refine ⟨h1, ?_⟩
 rcases h2 with h2 | ⟨g', cap', cur, h3, h4, h5, h6⟩
 ·exact .inl h2
 ·exact .inr ⟨g', cap', cur, h3, h4, (hb.block g' (Array.getElem?_eq_some_iff.1 h5).1).trans h5, h6⟩
theorem kat_lt {w : World} {B n c : Nat} {x : Nat} {l : List Nat} (h : J6 .u8 w (.slice (some ⟨B, 0, none⟩) n c) (x :: l)) : B < w.heap.size := by
 obtain ⟨ao, cap, e, _, _, _, h4⟩ := h; obtain ⟨b, o, e2, h5⟩ := h4 (by simp); injection e with e _ _
 rw [← e] at e2; have e3 : B = b := by injection e2 with e2; injection e2
 rw [e3]; exact World.block_lt_of_cell? (a := ⟨b, o + 0, none⟩) _ (h5 0 x rfl)
theorem qq {w w' : World} {b j : Nat} (h : w'.heap[b]? = w.heap[b]?) : w'.frozen? ⟨b, j, none⟩ = w.frozen? ⟨b, j, none⟩ := by simp [World.frozen?, h]
theorem Zi {w : World} {a b : Nat} (h : a < w.heap.size) (h2 : w.heap.size ≤ b) : a ≠ b := by omega
theorem Jh {w : World} {g : Nat} {l : List Nat} {t : TypeId} (h : w.heap[g]? = some (.cells (jp .u8 l).toArray t (0, 0))) (hl : l.length = 32) : J6 .u8 w (.slice (some ⟨g, 0, none⟩) 32 32) l := by
 refine ⟨some ⟨g, 0, none⟩, 32, by rw [hl], by rw [hl]; decide, by unfold maxLen; decide, (fun h => nomatch h), fun _ => ⟨g, 0, rfl, fun i x hx => ?_⟩⟩; rw [Nat.zero_add, cell_of_row _ _ _ _ _ _ h]
 simp [qv, hx]
theorem NT {a w w' : World} {G H : Nat} (h : a.grownBy w (some G)) (h' : w.grownBy w' (some H)) (hH : a.heap.size ≤ H) : a.grownBy w' (some G) :=
 ⟨h'.os.trans h.os, h'.tape.trans h.tape, h'.output.trans h.output, Nat.le_trans h.size h'.size, fun k hk hne => (h'.block k (Nat.lt_of_lt_of_le hk h.size) (fun e => by injection e with e; omega)).trans (h.block k hk hne)⟩
theorem UL {wB wr w' : World} {AS AL G : Nat} {s : ByteArray} {vs : List Value} {ls : List (List Nat)} {cap H : Nat} (h : TA wB wr AS AL G s vs ls cap) (hg : wr.grownBy w' (some H)) (h1 : G < H) (h2 : AS ≠ H) (h3 : AL ≠ H) (h4 : wB.heap.size ≤ H) : TA wB w' AS AL G s vs ls cap :=
 ⟨hg.cell h.as_ (fun e => h2 (by injection e)), hg.cell h.all (fun e => h3 (by injection e)), row_block h.row (fun g hgg => hg.block g (by have e : G = g := (by injection hgg); rw [← e]; exact h.lt) (fun e => by have e2 : G = g := (by injection hgg); have e3 : g = H := (by injection e); omega)), h.kat, h.below.grown hg h.below.size (fun k hk => by injection hk with hk; omega), h.gt, h.ne1, h.ne2, h.room⟩
theorem UD {wB : World} {AS AL G : Nat} {s : ByteArray} {vs : List Value} {ls : List (List Nat)} {cap x : Nat} (w : World) (h : TA wB w AS AL G s vs ls cap) (hx : x < 256) (hby : ∀ l ∈ ls, jM l) (hsz : (jU (qB s) (ls ++ [[x]])).length ≤ 1073741824) :
  Calls Tryz.prog 98 #[.int .u8 x, .pointer (some ⟨AS, 0, none⟩), .pointer (some ⟨AL, 0, none⟩)] w fun e w' => e = .returned (jj (ZH (qE (jU (qB s) (ls ++ [[x]]))))) ∧ TA wB w' AS AL G s vs ls cap ∧ w.grownBy w' (some G) := by
 have HW := jh h; have HX9 := jh hx; have HGL := jh h.lt; have HAS := jh (show AS < w.heap.size from World.block_lt_of_cell? (a := ⟨AS, 0, none⟩) _ h.as_); have UK := jh (show AL < w.heap.size from World.block_lt_of_cell? (a := ⟨AL, 0, none⟩) _ h.all); have HWB := jh h.below.size; have hr0 := h.room
 have hcm : cap ≤ maxLen := by
  obtain ⟨_, h2⟩ := h.row
  rcases h2 with ⟨h2, _⟩ | ⟨g', cap', cur, h3, h4, h5, h6, h7, _⟩
  ·cases h2
  ·cases h3
   exact h7
 obtain ⟨i0, hi⟩ : ∃ i0, Tryz.prog.info? 30 = some i0 := by
  cases hq : Tryz.prog.info? 30 with
  | none => have := TS; rw [hq] at this; cases this
  | some i => exact ⟨i, rfl⟩
 have hi1 : i0.size = 1 := by have := TS; rw [hi] at this; simpa using this
 have HI := jh hi; have hmm := hcm; unfold maxLen at hmm; have HCM := jh hcm
 have XQ := jh (show ∀ l ∈ ls ++ [[x]], jM l from fun l hl => by
  rcases List.mem_append.1 hl with hl | hl
  ·exact hby l hl
  ·simp only [List.mem_singleton] at hl; subst hl; intro y hy; simp only [List.mem_singleton] at hy
   omega)
 have V8 := jh hsz
 have HP := jh (fun (W : World) (B1 : Nat) (hw : TA wB W AS AL G s vs ls cap) (hr : W.ownsRow G 30 1 (.slice (some ⟨G, 0, none⟩) (ls.length + 1) cap) (ls.length + 1) (vs ++ [.slice (some ⟨B1, 0, none⟩) 1 1])) (hk : J6 .u8 W (.slice (some ⟨B1, 0, none⟩) 1 1) [x]) => by
  have h9 := Of_any (s := s) W (FT hw hr hk) (by simpa using hr0) hcm XQ.out V8.out; rw [List.length_append, List.length_singleton] at h9
  exact h9)
 obtain ⟨T, hT⟩ := je (qE (jU (qB s) (ls ++ [[x]]))); have HTL := jh (show T.length = 32 by rw [hT]; exact qe _); have HTB := jh (show jM T by rw [hT]; exact Jn _); have HNV := jh (WU HTB.out HTL.out); rw [← hT] at HP ⊢; have hszH : (Tryz.prog.info? 32).map (·.size) = some (jp .u8 T).toArray.size := by rw [zt]; simp [jt, HTL.out]
 clear hT h hx hby hsz hi hcm; obtain ⟨n, hn⟩ := je (ls.length); obtain ⟨X, hX⟩ := je (ZH T); rw [← hX] at HNV ⊢; clear hX
 go_enter Tryz.func98, Tryz.ntmps98
 go_upto_region 1 with fail
 obtain ⟨w1, e1⟩ := je (w.alloc (.cells jA 24)); obtain ⟨OO, dE⟩ := je (w.heap.size); have hb := jc e1; have HO := jh (show U0 w1 OO 0 by rw [e1, dE]; exact jP w _); have L6 := jh (show Y0 w1 OO 4 by rw [e1, dE]; exact Y0.new _ _ _ _); rw [← e1, ← dE]; have HW := jh (HW.out.later (hb.drew)); have HG := jh (show w.grownBy w1.drew (some G) from QX hb.drew _); have HO := jh (show U0 w1.drew OO 0 from HO.out); have L6 := jh (show Y0 w1.drew OO 4 from L6.out); have F6 := jh (show OO < w1.drew.heap.size by rw [dE]; show w.heap.size < w1.heap.size; rw [e1]; simp); have HOG := jh (show G < OO by rw [dE]; exact HGL.out); have W9 := jh dE; clear e1 hb hn hr0 dE; refine jY (.take 0 (.take 1 (.take 2 (.fork 3 (.fork 4 (.fork 5 (.fork 6 (.step 7 (.step 8 .done)) 7 (.step 6 (.step 8 .done))) 7 (.step 5 (.step 6 (.step 8 .done)))) 7 (.step 4 (.step 5 (.step 6 (.step 8 .done))))) 7 (.step 3 (.step 4 (.step 5 (.step 6 (.step 8 .done))))))))) (fun w8 => w8.cell? ⟨AS, 0, none⟩ = some (.string s) ∧ w8.cell? ⟨AL, 0, none⟩ = some (.slice (some ⟨G, 0, none⟩) ls.length cap)) (by kernel_rfl) (by kernel_rfl) (fun _ _ _ _ _ h => h) (⟨HW.out.as_, HW.out.all⟩) (fun hHeld => ?_); obtain ⟨w0, e0⟩ := je (w1.drew); rw [← e0] at HW HG HO L6 F6 ⊢; clear e0
 iterate 3
  refine WT.tk rfl (k := ?_)
 focus
  refine WT.fork rfl rfl (fun K hK => ?_) (fun K hK => ?_)
 rotate_left
 focus
  refine Jr (by rfl) ?_; refine Qm (v := .pointer (some ⟨w0.heap.size, 0, none⟩)) (w' := w0.alloc (.cells (Array.replicate 32 (.int .u8 0)) 32)) (by kernel_rfl) ?_; obtain ⟨w2, e9⟩ := je (w0.alloc (.cells (Array.replicate 32 (.int .u8 0)) 32)); obtain ⟨yC, vC⟩ := je (w0.heap.size); have hb := jc e9; have HH := jh (show w2.heap[yC]? = some (.cells (Array.replicate 32 (.int .u8 0)) 32 (0, 0)) by rw [e9, vC]; exact heap_alloc_new _ _); have HHG := jh (show G < yC by rw [vC]; exact HW.out.lt); have HHO := jh (show OO < yC by rw [vC]; exact F6.out); have HHw := jh (show w.heap.size ≤ yC by rw [vC]; exact HG.out.size); rw [← e9, ← vC]
  try simp only [Act.put, pa, pb, pc]
  clear e9 vC; have HW := jh (HW.out.later hb); have HG := jh (qr HG.out hb); have HO := jn hb HO; have L6 := jh (L6.out.later hb F6.out); have F6 := jl F6 hb.size; clear hb; refine hK.out _ _ (⟨HW.out.as_, HW.out.all⟩) (fun hHeld => ?_); clear hK K
  try simp only [Act.put, pa, pb, pc]
 rotate_right
 focus
  go_simp
  obtain ⟨w2, e9⟩ := je (w0.alloc (.cells #[.int .u8 x] 5)); obtain ⟨B1, hB1⟩ := je (w0.heap.size); have hb := jc e9; have HX := jh (show J6 .u8 w2 (.slice (some ⟨B1, 0, none⟩) 1 1) [x] by rw [e9, hB1]; exact J6.made w0 [x] (by unfold maxLen; simp) _ rfl _); have HB1 := jh (show G < B1 by rw [hB1]; exact HW.out.lt); rw [← e9, ← hB1]; clear e9 hB1; have HW := jh (HW.out.later hb); have HG := jh (qr HG.out hb); have HO := jn hb HO; have L6 := jh (L6.out.later hb F6.out); have F6 := jl F6 hb.size; clear hb; refine hK.out _ _ (⟨HW.out.as_, HW.out.all⟩) (fun hHeld => ?_); clear hK K
  try simp only [Act.put, pa, pb, pc]
 focus
  refine WT.fork rfl rfl (fun K hK => ?_) (fun K hK => ?_)
 rotate_left
 focus
  refine Jr (by rfl) ?_; refine Qm (v := .pointer (some ⟨w2.heap.size, 0, none⟩)) (w' := w2.alloc (.cells (Array.replicate 32 (.int .u8 0)) 32)) (by kernel_rfl) ?_; obtain ⟨w3, e9⟩ := je (w2.alloc (.cells (Array.replicate 32 (.int .u8 0)) 32)); obtain ⟨yC, vC⟩ := je (w2.heap.size); have hb := jc e9; have HH := jh (show w3.heap[yC]? = some (.cells (Array.replicate 32 (.int .u8 0)) 32 (0, 0)) by rw [e9, vC]; exact heap_alloc_new _ _); have HHG := jh (show G < yC by rw [vC]; exact HW.out.lt); have HHO := jh (show OO < yC by rw [vC]; exact F6.out); have HHw := jh (show w.heap.size ≤ yC by rw [vC]; exact HG.out.size); rw [← e9, ← vC]
  try simp only [Act.put, pa, pb, pc]
  clear e9 vC; have HW := jh (HW.out.later hb); have HG := jh (qr HG.out hb); have HO := jn hb HO; have L6 := jh (L6.out.later hb F6.out); have F6 := jl F6 hb.size; have HX := jh (HX.out.later hb); clear hb; refine hK.out _ _ (⟨HW.out.as_, HW.out.all⟩) (fun hHeld => ?_); clear hK K
  try simp only [Act.put, pa, pb, pc]
 rotate_right
 focus
  go_simp
  obtain ⟨w3, e9⟩ := je (w2.alloc (.cells #[.slice (some ⟨B1, 0, none⟩) 1 1] 30)); obtain ⟨C1, PY⟩ := je (w2.heap.size); have hb := jc e9; have HC := jh (show w3.cell? ⟨C1, 0, none⟩ = some (.slice (some ⟨B1, 0, none⟩) 1 1) by rw [e9, PY, cell_of_row _ _ _ _ _ _ (heap_alloc_new _ _)]; rfl); have HC1 := jh (show G < C1 by rw [PY]; exact HW.out.lt); rw [← e9, ← PY]; clear e9 PY; have HW := jh (HW.out.later hb); have HG := jh (qr HG.out hb); have HO := jn hb HO; have L6 := jh (L6.out.later hb F6.out); have F6 := jl F6 hb.size; have HX := jh (HX.out.later hb); clear hb; refine hK.out _ _ (⟨HW.out.as_, HW.out.all⟩) (fun hHeld => ?_); clear hK K
  try simp only [Act.put, pa, pb, pc]
 focus
  refine WT.fork rfl rfl (fun K hK => ?_) (fun K hK => ?_)
 rotate_left
 focus
  refine Jr (by rfl) ?_; refine Qm (v := .pointer (some ⟨w3.heap.size, 0, none⟩)) (w' := w3.alloc (.cells (Array.replicate 32 (.int .u8 0)) 32)) (by kernel_rfl) ?_; obtain ⟨w4, e9⟩ := je (w3.alloc (.cells (Array.replicate 32 (.int .u8 0)) 32)); obtain ⟨yC, vC⟩ := je (w3.heap.size); have hb := jc e9; have HH := jh (show w4.heap[yC]? = some (.cells (Array.replicate 32 (.int .u8 0)) 32 (0, 0)) by rw [e9, vC]; exact heap_alloc_new _ _); have HHG := jh (show G < yC by rw [vC]; exact HW.out.lt); have HHO := jh (show OO < yC by rw [vC]; exact F6.out); have HHw := jh (show w.heap.size ≤ yC by rw [vC]; exact HG.out.size); rw [← e9, ← vC]
  try simp only [Act.put, pa, pb, pc]
  clear e9 vC; have HW := jh (HW.out.later hb); have HG := jh (qr HG.out hb); have HO := jn hb HO; have L6 := jh (L6.out.later hb F6.out); have F6 := jl F6 hb.size; have HX := jh (HX.out.later hb); have HC := jh (jm HC.out hb); clear hb; refine hK.out _ _ (⟨HW.out.as_, HW.out.all⟩) (fun hHeld => ?_); clear hK K
  try simp only [Act.put, pa, pb, pc]
 rotate_right
 focus
  refine Jr (by rfl) ?_; refine Qn _ _ 102 rfl G 30 i0 1 Tryz.underlying102 HI.out hi1 G ls.length cap vs rfl HW.out.row ⟨C1, 0, none⟩ 1 1 [.slice (some ⟨B1, 0, none⟩) 1 1] rfl rfl (fun j u hj => ?_) (fun u hu => ?_) HW.out.room (fun w4 hrow hgr => ?_)
  ·have hj0 : j = 0 := by have := (List.getElem?_eq_some_iff.1 hj).1; simp at this; omega
   subst hj0; simp only [List.getElem?_cons_zero, Option.some.injEq] at hj; subst hj; rw [Addr.add_mid]; exact HC.out
  ·simp only [List.mem_singleton] at hu; subst hu
   rfl
  have HR := jh hrow
  have HX := jh (HX.out.block fun g9 UC => hgr.block g9 (by have e9 : B1 = g9 := by injection UC
                                                            rw [← e9]; exact kat_lt HX.out) (fun e8 => by have e9 : B1 = g9 := by injection UC
                                                                                                          have e7 : g9 = G := by injection e8
                                                                                                          have := HB1.out; omega))
  have HO := jh (show U0 w4 OO 0 from fun j hj => (hgr.cell (HO.out j hj) (fun e => by have e7 : OO = G := by injection e
                                                                                       have := HOG.out; omega)))
  have L6 := jh (show Y0 w4 OO 4 from fun j hj => (qq (hgr.block OO F6.out (fun e => by have e7 : OO = G := by injection e
                                                                                        have := HOG.out; omega))).trans (L6.out j hj))
  have F6 := jl F6 hgr.size; have HW := jh (HW.out.grown hgr (YO hrow)); have HG := jh (Qd HG.out hgr)
  try simp only [Act.put, pa, pb, pc]
  clear hrow hgr; refine hK.out _ _ (⟨HW.out.as_, HW.out.all⟩) (fun hHeld => ?_); clear hK K
  try simp only [Act.put, pa, pb, pc]
 focus
  refine WT.fork rfl rfl (fun K hK => ?_) (fun K hK => ?_)
 rotate_left
 focus
  refine Jr (by rfl) ?_; refine Qm (v := .pointer (some ⟨w4.heap.size, 0, none⟩)) (w' := w4.alloc (.cells (Array.replicate 32 (.int .u8 0)) 32)) (by kernel_rfl) ?_; obtain ⟨w5, e9⟩ := je (w4.alloc (.cells (Array.replicate 32 (.int .u8 0)) 32)); obtain ⟨yC, vC⟩ := je (w4.heap.size); have hb := jc e9; have HH := jh (show w5.heap[yC]? = some (.cells (Array.replicate 32 (.int .u8 0)) 32 (0, 0)) by rw [e9, vC]; exact heap_alloc_new _ _); have HHG := jh (show G < yC by rw [vC]; exact HW.out.lt); have HHO := jh (show OO < yC by rw [vC]; exact F6.out); have HHw := jh (show w.heap.size ≤ yC by rw [vC]; exact HG.out.size); rw [← e9, ← vC]
  try simp only [Act.put, pa, pb, pc]
  clear e9 vC; have HW := jh (HW.out.later hb); have HG := jh (qr HG.out hb); have HO := jn hb HO; have L6 := jh (L6.out.later hb F6.out); have F6 := jl F6 hb.size; have HX := jh (HX.out.later hb); have HR := jh (Zd HR.out hb); clear hb; refine hK.out _ _ (⟨HW.out.as_, HW.out.all⟩) (fun hHeld => ?_); clear hK K
  try simp only [Act.put, pa, pb, pc]
 rotate_right
 focus
  go_simp
  refine (HP.out _ B1 HW.out HR.out HX.out).mono ?_; rintro _ w5 ⟨rfl, hb⟩; have HW := jh (HW.out.later hb); have HG := jh (qr HG.out hb); have HO := jn hb HO; have L6 := jh (L6.out.later hb F6.out); have F6 := jl F6 hb.size; have HX := jh (HX.out.later hb); have HR := jh (Zd HR.out hb); clear hb; refine hK.out _ _ (⟨HW.out.as_, HW.out.all⟩) (fun hHeld => ?_); clear hK K
  try simp only [Act.put, pa, pb, pc]
 focus
  refine WT.step rfl (fun K hK => ?_); refine Jr (by rfl) ?_; refine Qm (v := .pointer (some ⟨w5.heap.size, 0, none⟩)) (w' := w5.alloc (.cells (Array.replicate 32 (.int .u8 0)) 32)) (by kernel_rfl) ?_; obtain ⟨w6, e9⟩ := je (w5.alloc (.cells (Array.replicate 32 (.int .u8 0)) 32)); obtain ⟨yC, vC⟩ := je (w5.heap.size); have hb := jc e9; have HH := jh (show w6.heap[yC]? = some (.cells (Array.replicate 32 (.int .u8 0)) 32 (0, 0)) by rw [e9, vC]; exact heap_alloc_new _ _); have HHG := jh (show G < yC by rw [vC]; exact HW.out.lt); have HHO := jh (show OO < yC by rw [vC]; exact F6.out); have HHw := jh (show w.heap.size ≤ yC by rw [vC]; exact HG.out.size); rw [← e9, ← vC]
  try simp only [Act.put, pa, pb, pc]
  clear e9 vC; have HW := jh (HW.out.later hb); have HG := jh (qr HG.out hb); have HO := jn hb HO; have L6 := jh (L6.out.later hb F6.out); have F6 := jl F6 hb.size; have HX := jh (HX.out.later hb); have HR := jh (Zd HR.out hb); clear hb; refine hK.out _ _ (⟨HW.out.as_, HW.out.all⟩) (fun hHeld => ?_); clear hK K
  try simp only [Act.put, pa, pb, pc]
 rotate_right
 focus
  refine WT.step rfl (fun K hK => ?_)
  go_simp
  obtain ⟨w3, e9⟩ := je (w2.alloc (.cells #[.int .u8 x] 5)); obtain ⟨B1, hB1⟩ := je (w2.heap.size); have hb := jc e9; have HX := jh (show J6 .u8 w3 (.slice (some ⟨B1, 0, none⟩) 1 1) [x] by rw [e9, hB1]; exact J6.made w2 [x] (by unfold maxLen; simp) _ rfl _); have HB1 := jh (show G < B1 by rw [hB1]; exact HW.out.lt); rw [← e9, ← hB1]; clear e9 hB1; have HW := jh (HW.out.later hb); have HG := jh (qr HG.out hb); have HO := jn hb HO; have L6 := jh (L6.out.later hb F6.out); have F6 := jl F6 hb.size; have HH := jh ((hb.block yC (Array.getElem?_eq_some_iff.1 HH.out).1).trans HH.out); clear hb; refine hK.out _ _ (⟨HW.out.as_, HW.out.all⟩) (fun hHeld => ?_); clear hK K
  try simp only [Act.put, pa, pb, pc]
 rotate_left
 rotate_right 2
 iterate 2
  focus
   refine WT.step rfl (fun K hK => ?_)
   go_simp
   obtain ⟨w4, e9⟩ := je (w3.alloc (.cells #[.slice (some ⟨B1, 0, none⟩) 1 1] 30)); obtain ⟨C1, PY⟩ := je (w3.heap.size); have hb := jc e9; have HC := jh (show w4.cell? ⟨C1, 0, none⟩ = some (.slice (some ⟨B1, 0, none⟩) 1 1) by rw [e9, PY, cell_of_row _ _ _ _ _ _ (heap_alloc_new _ _)]; rfl); have HC1 := jh (show G < C1 by rw [PY]; exact HW.out.lt); rw [← e9, ← PY]; clear e9 PY; have HW := jh (HW.out.later hb); have HG := jh (qr HG.out hb); have HO := jn hb HO; have L6 := jh (L6.out.later hb F6.out); have F6 := jl F6 hb.size; have HX := jh (HX.out.later hb); have HH := jh ((hb.block yC (Array.getElem?_eq_some_iff.1 HH.out).1).trans HH.out); clear hb; refine hK.out _ _ (⟨HW.out.as_, HW.out.all⟩) (fun hHeld => ?_); clear hK K
   try simp only [Act.put, pa, pb, pc]
  rotate_left
 rotate_right 3
 iterate 3
  focus
   refine WT.step rfl (fun K hK => ?_); refine Jr (by rfl) ?_; refine Qn _ _ 102 rfl G 30 i0 1 Tryz.underlying102 HI.out hi1 G ls.length cap vs rfl HW.out.row ⟨C1, 0, none⟩ 1 1 [.slice (some ⟨B1, 0, none⟩) 1 1] rfl rfl (fun j u hj => ?_) (fun u hu => ?_) HW.out.room (fun w5 hrow hgr => ?_)
   ·have hj0 : j = 0 := by have := (List.getElem?_eq_some_iff.1 hj).1; simp at this; omega
    subst hj0; simp only [List.getElem?_cons_zero, Option.some.injEq] at hj; subst hj; rw [Addr.add_mid]; exact HC.out
   ·simp only [List.mem_singleton] at hu; subst hu
    rfl
   have HR := jh hrow
   have HX := jh (HX.out.block fun g9 UC => hgr.block g9 (by have e9 : B1 = g9 := by injection UC
                                                             rw [← e9]; exact kat_lt HX.out) (fun e8 => by have e9 : B1 = g9 := by injection UC
                                                                                                           have e7 : g9 = G := by injection e8
                                                                                                           have := HB1.out; omega))
   have HO := jh (show U0 w5 OO 0 from fun j hj => (hgr.cell (HO.out j hj) (fun e => by have e7 : OO = G := by injection e
                                                                                        have := HOG.out; omega)))
   have L6 := jh (show Y0 w5 OO 4 from fun j hj => (qq (hgr.block OO F6.out (fun e => by have e7 : OO = G := by injection e
                                                                                         have := HOG.out; omega))).trans (L6.out j hj))
   have F6 := jl F6 hgr.size
   have HH := jh ((hgr.block yC (Array.getElem?_eq_some_iff.1 HH.out).1 (fun e => by have e7 : yC = G := by injection e
                                                                                     have := HHG.out; omega)).trans HH.out)
   have HW := jh (HW.out.grown hgr (YO hrow)); have HG := jh (Qd HG.out hgr)
   try simp only [Act.put, pa, pb, pc]
   clear hrow hgr; refine hK.out _ _ (⟨HW.out.as_, HW.out.all⟩) (fun hHeld => ?_); clear hK K
   try simp only [Act.put, pa, pb, pc]
  rotate_left
 rotate_right 4
 iterate 4
  focus
   refine WT.step rfl (fun K hK => ?_)
   go_simp
   refine (HP.out _ B1 HW.out HR.out HX.out).mono ?_; rintro _ w6 ⟨rfl, hb⟩; have HW := jh (HW.out.later hb); have HG := jh (qr HG.out hb); have HO := jn hb HO; have L6 := jh (L6.out.later hb F6.out); have F6 := jl F6 hb.size; have HX := jh (HX.out.later hb); have HR := jh (Zd HR.out hb); have HH := jh ((hb.block yC (Array.getElem?_eq_some_iff.1 HH.out).1).trans HH.out); clear hb; refine hK.out _ _ (⟨HW.out.as_, HW.out.all⟩) (fun hHeld => ?_); clear hK K
   try simp only [Act.put, pa, pb, pc]
  rotate_left
 all_goals (
  refine WT.step rfl (fun K hK => ?_); refine Jr (by rfl) ?_; refine dI _ _ _ rfl yC _ _ _ HH.out rfl rfl hszH (by simp [jt, HTL.out]) (zY _ _) ?_; obtain ⟨w7, e9⟩ := je (w6.setRow yC (jp .u8 T).toArray); have HH := jh (show w7.heap[yC]? = some (.cells (jp .u8 T).toArray 32 (0, 0)) by rw [e9]; exact setRow_heap _ _ _ _ _ _ HH.out); have hgr : ∀ k, k ≠ yC → w7.heap[k]? = w6.heap[k]? := fun k hk => by rw [e9]; exact setRow_other _ yC k _ hk
  have hgs : w6.grownBy w7 (some yC) := by rw [e9]; exact ⟨rfl, rfl, rfl, by simp [World.setRow], fun k _ hk => setRow_other _ yC k _ (fun e => hk (by rw [e]))⟩
  have HW := jh (UL HW.out hgs HHG.out (Zi HAS.out HHw.out) (Zi UK.out HHw.out) (Nat.le_trans HWB.out HHw.out)); have HG := jh (show w.grownBy w7 (some G) from ⟨hgs.os.trans HG.out.os, hgs.tape.trans HG.out.tape, hgs.output.trans HG.out.output, Nat.le_trans HG.out.size hgs.size, fun k hk hne => (hgr k (by have := HHw.out; omega)).trans (HG.out.block k hk hne)⟩)
  have HO := jh (show U0 w7 OO 0 from fun j hj => hgs.cell (HO.out j hj) (fun e => by have e7 : OO = yC := by injection e
                                                                                      have := HHO.out; omega))
  have L6 := jh (show Y0 w7 OO 4 from fun j hj => (qq (hgr OO (by have := HHO.out; omega))).trans (L6.out j hj)); have F6 := jl F6 hgs.size; rw [← e9]
  try simp only [Act.put, pa, pb, pc]
  clear e9 hgr hgs; refine hK.out _ _ (⟨HW.out.as_, HW.out.all⟩) (fun hHeld => ?_); clear hK K
  try simp only [Act.put, pa, pb, pc]
  refine WT.done ?_; clear hHeld HX HR HB1
  go_wp2_with fail
  refine (YQ _ (Jh HH.out HTL.out) HTB.out (by rw [HTL.out]; decide)).mono ?_; rintro _ w8 ⟨rfl, hb⟩; rw [HNV.out]; have HW := jh (HW.out.later hb); have HG := jh (qr HG.out hb); have HO := jn hb HO; have L6 := jh (L6.out.later hb F6.out); have F6 := jl F6 hb.size; have HH := jh ((hb.block yC (Array.getElem?_eq_some_iff.1 HH.out).1).trans HH.out); clear hb; unfold jj words; dsimp only
  go_upto_region 3 with fail
  obtain ⟨w9, e9⟩ := je (w8.alloc (.cells (jD X) 24)); obtain ⟨VV, D9⟩ := je (w8.heap.size); have hb := jc e9; have HV := jh (show U0 w9 VV X by rw [e9, D9]; exact U0.new _ _ _ _ rfl); rw [← e9, ← D9]; clear e9 D9; have HW := jh (HW.out.later hb); have HG := jh (qr HG.out hb); have HO := jn hb HO; have L6 := jh (L6.out.later hb F6.out); have F6 := jl F6 hb.size; have HH := jh ((hb.block yC (Array.getElem?_eq_some_iff.1 HH.out).1).trans HH.out); clear hb; obtain ⟨r0, r1, r2, r3⟩ := jz HV.out; obtain ⟨c0, c1, c2, c3, f0, f1, f2, f3⟩ := jL HO.out L6.out
  go_wp2_with fail
  have HGS := jh (jx (jx (jx (jx (World.grownBy.refl w9 (some OO)) 0 (.int .u64 (jf jd X 0))) 1 (.int .u64 (jf jd X 1))) 2 (.int .u64 (jf jd X 2))) 3 (.int .u64 (jf jd X 3))); have HW := jh (UL HW.out HGS.out HOG.out (Zi HAS.out (Nat.le_of_eq W9.out.symm)) (Zi UK.out (Nat.le_of_eq W9.out.symm)) (Nat.le_trans HWB.out (Nat.le_of_eq W9.out.symm))); have HG := jh (NT HG.out HGS.out (Nat.le_of_eq W9.out.symm)); obtain ⟨g0, g1, g2, g3⟩ := jz (U0.set4 HO.out X); refine bodyPost_ret (v := .agg #[.int .u64 (jf jd X 0), .int .u64 (jf jd X 1), .int .u64 (jf jd X 2), .int .u64 (jf jd X 3)]) ?_ rfl ⟨rfl, HW.out, HG.out⟩
  simp [results, Tryz.results98, go_sem, g0, g1, g2, g3])
theorem VS : (Tryz.prog.info? 30).map (fun i => (i.zero, i.size, i.bytes)) = some (some (.slice none 0 0), 1, 24) := by kernel_rfl
def XD (s : List Nat) (ls : List (List Nat)) (x : Nat) : Nat := ZH (qE (jU s (ls ++ [[x]])))
def zB (m : Nat) (s : List Nat) (ls : List (List Nat)) : Nat := (XD s ls 0 * jo + XD s ls 1) % m
theorem VD (s : List Nat) (ls : List (List Nat)) (x : Nat) : XD s ls x < jo := VW (Jn _) (qe _)
theorem OX : ∀ {vs : List Value}, (∀ v ∈ vs, ∃ a n c, v = .slice a n c) → ∀ v ∈ vs, v.oneCell' = true := fun h v hv => by
 obtain ⟨a, n, c, rfl⟩ := h v hv
 rfl
theorem wQ {w : World} {ops : Array Oper} {rest : List Oper} {o : Oper} {a : Act} {Q : Exit → Act → World → Prop} (hgd : o.guard = none) (d s : Operand) (ho : o.op = .call { callee := .builtin .copy, args := #[d, s], argTypes := #[102, 102] })
  {G n n1 g ob cap : Nat} {vs : List Value} (hd : a.eval d = .slice (some ⟨G, 0, none⟩) n n1) (hs : a.eval s = .slice (some ⟨g, ob, none⟩) n cap) (hl : vs.length = n) (hn1 : n1 = n + 1) (hG : w.heap[G]? = some (.cells (List.replicate n1 (Value.slice none 0 0)).toArray 30 (0, 0)))
  (hcell : ∀ (j : Nat) v, vs[j]? = some v → w.cell? ⟨g, ob + j, none⟩ = some v) (hsl : ∀ v ∈ vs, ∃ a n c, v = .slice a n c)
  (h : ∀ w', w'.heap[G]? = some (.cells (vs ++ [Value.slice none 0 0]).toArray 30 (0, 0)) → w.grownBy w' (some G) → wpList Tryz.prog ops Q rest (a.put o.dst (.int .i64 n)) w') : wpList Tryz.prog ops Q (o :: rest) a w := by
 subst hn1; refine wpList_copy_own hgd d s _ _ ho 30 Tryz.underlying102 TS G 0 n (n + 1) ⟨g, ob, none⟩ n cap hd hs _ _ hG vs (by rw [hl]; exact (Nat.min_self n).symm) (fun j v hj => by rw [Addr.add_mid]; exact hcell j v hj) (by simp [hl]) (OX hsl) ?_
 have e : ((List.replicate (n + 1) (Value.slice none 0 0)).toArray.toList.take 0 ++ (vs ++ (List.replicate (n + 1) (Value.slice none 0 0)).toArray.toList.drop (0 + vs.length))).toArray = (vs ++ [Value.slice none 0 0]).toArray := by
  rw [hl]
  simp
 rw [e, hl]; exact h _ (setRow_heap w G _ _ _ _ hG) ⟨rfl, rfl, rfl, by simp [World.setRow], fun k _ hk => setRow_other w G k _ (fun e => hk (by rw [e]))⟩
theorem wJ {s : ByteArray} {g o cap m : Nat} {vs : List Value} {ls : List (List Nat)} (w : World) (hP : Parts w g o vs ls) (hn0 : ls.length ≤ 1000) (hcap : ls.length ≤ cap) (hcm : cap ≤ maxLen) (hby : ∀ l ∈ ls, jM l) (hm0 : 0 < m) (hm : m < jo)
  (hsz : (jU (qB s) (ls ++ [[0]])).length ≤ 1073741824) :
  Calls Tryz.prog 30 #[jj m, .string s, .slice (some ⟨g, o, none⟩) ls.length cap] w fun e w' => e = .returned (.tuple #[jj (zB m (qB s) ls), .int .i64 0]) ∧ Below w.heap.size w w' := by
 have hl : vs.length = ls.length := hP.1; have HL := jh hl
 have hsl : ∀ v ∈ vs, ∃ a n c, v = .slice a n c := fun v hv => by
  obtain ⟨i, hi, e⟩ := List.getElem_of_mem hv; obtain ⟨v', l', h1, h2, h3, h4⟩ := hP.2 i (by omega); obtain ⟨ao, cp, e2, _⟩ := h4; rw [List.getElem?_eq_getElem hi, e] at h1
  cases h1
  exact ⟨_, _, _, e2⟩
 have HSL := jh hsl; have HP := jh hP; have XQ := jh hby; have V8 := jh hsz
 have HCELL := jh (show ∀ (j : Nat) v, vs[j]? = some v → w.cell? ⟨g, o + j, none⟩ = some v from fun j v hj => by
  obtain ⟨v', l', h1, h2, h3, h4⟩ := hP.2 j (by have := (List.getElem?_eq_some_iff.1 hj).1; omega); rw [h1] at hj
  cases hj
  exact h3)
 obtain ⟨n, hn⟩ := je (ls.length); obtain ⟨n1, hn1⟩ := je (n + 1); have HN := jh hn; have bD := jh hn1; have hnI : (n : Int) + 1 = (n1 : Int) := by omega
 have hnb : n ≤ 1000 := by omega
 have hcm2 := hcm; unfold maxLen at hcm2
 have hmk : ∀ W, (Instr.makeSlice 102 (.int .i64 n) (.int .i64 n1)).run Tryz.prog W = .ok (.slice (some ⟨W.heap.size, 0, none⟩) n n1) (W.alloc (.cells (List.replicate n1 (Value.slice none 0 0)).toArray 30)) := by
  intro W; obtain ⟨i0, hi, hz0, hz1, hz2⟩ := info_parts VS; have e := run_make (P := Tryz.prog) W 102 30 i0 (.slice none 0 0) Tryz.underlying102 hi hz0 .i64 .i64 n n1 (by omega) (by omega) (by rw [hz2]; omega) (by omega); rw [e, hz1]
  exact congrArg (fun c => Result.ok _ (W.alloc (.cells c _))) (by
   apply Array.ext'
   simp [madeCells, Value.cells, Nat.mod_one, List.map_const'])
 obtain ⟨x0, hx0⟩ := je (XD (qB s) ls 0); obtain ⟨x1, hx1⟩ := je (XD (qB s) ls 1); obtain ⟨q, hq⟩ := je (zB m (qB s) ls)
 have CW := jh (fun W => by
  have h := IQ (lo := x1) (hi := x0) (by rw [hx1]; exact VD _ _ _) (by rw [hx0]; exact VD _ _ _) hm hm0 W; rw [show (x0 * jo + x1) % m = q by rw [hq, hx0, hx1]; rfl] at h; unfold jj words at h
  exact h)
 have HX0 := jh hx0; have HX1 := jh hx1
 have wH := jh (show (jU (qB s) (ls ++ [[1]])).length ≤ 1073741824 from by
  have h9 := hsz; unfold jU at h9 ⊢; simp only [List.length_append, List.flatMap_append, List.flatMap_cons, List.flatMap_nil, qo, List.length_singleton, List.append_nil, qn] at h9 ⊢
  exact h9)
 rw [← hq, ← hn]; unfold jj words; clear hP hl hsl hby hsz hn hn1 hm0 hm hn0 hcap hcm hx0 hx1 hq
 go_enter Tryz.func30, Tryz.ntmps30
 go_upto_region 2 with fail
 obtain ⟨A8, xC⟩ := je (w.alloc (.cells (jD m) 24)); have dF : A8.heap.size = w.heap.size + 1 := by rw [xC]; simp
 have WN := jc xC; have aH : U0 A8 w.heap.size m := by rw [xC]; exact U0.new w m _ _ rfl
 obtain ⟨F8, tC⟩ := je (A8.alloc (.cells #[.string s] 9)); have aG : F8.heap.size = w.heap.size + 1 + 1 := by rw [tC]; simp [dF]
 have wG := jc tC; have xE : F8.cell? ⟨w.heap.size + 1, 0, none⟩ = some (.string s) := by rw [← dF, tC, cell_of_row _ _ _ _ _ _ (heap_alloc_new _ _)]; rfl
 obtain ⟨J9, VC⟩ := je (F8.alloc (.cells jA 24)); have yO : J9.heap.size = w.heap.size + 1 + 1 + 1 := by rw [VC]; simp [aG]
 have VE := jc VC; have oG : U0 J9 (w.heap.size + 1 + 1) 0 := by rw [← aG, VC]; exact jP F8 _
 have OT : Y0 J9 (w.heap.size + 1 + 1) 4 := by rw [← aG, VC]; exact Y0.new _ _ _ _
 obtain ⟨S9, yE⟩ := je (J9.alloc (.cells (Array.replicate n1 (Value.slice none 0 0)) 30)); have wL : S9.heap.size = w.heap.size + 1 + 1 + 1 + 1 := by rw [yE]; simp [yO]
 have uD := jc yE; have yF : S9.heap[w.heap.size + 1 + 1 + 1]? = some (.cells (List.replicate n1 (Value.slice none 0 0)).toArray 30 (0, 0)) := by rw [← yO, yE, heap_alloc_new]; simp
 obtain ⟨FC, fD⟩ := je (S9.alloc (.cells #[.slice (some ⟨w.heap.size + 1 + 1 + 1, 0, none⟩) n n1] 102)); have xR : FC.heap.size = w.heap.size + 1 + 1 + 1 + 1 + 1 := by rw [fD]; simp [wL]
 have OC := jc fD; have nG : FC.cell? ⟨w.heap.size + 1 + 1 + 1 + 1, 0, none⟩ = some (.slice (some ⟨w.heap.size + 1 + 1 + 1, 0, none⟩) n n1) := by rw [← wL, fD, cell_of_row _ _ _ _ _ _ (heap_alloc_new _ _)]; rfl
 rw [← xC, ← tC, ← VC, ← yE, ← fD]; have aH := U0.later OC (U0.later uD (U0.later VE (U0.later wG aH))); have xE := jm (jm (jm xE VE) uD) OC; have oG := U0.later OC (U0.later uD oG); have OT := (OT.later uD (by omega)).later OC (by omega); have yF := (OC.block _ (by omega)).trans yF; have B := jk (jk (jk (jk WN wG) VE) uD) OC; have nD := xR; clear xC tC VC yE fD WN wG VE uD OC dF aG yO wL xR; obtain ⟨MM, hMM⟩ := je (w.heap.size); rw [← hMM] at aH xE oG OT yF nG nD ⊢; obtain ⟨AS, hAS⟩ := je (MM + 1); rw [← hAS] at xE oG OT yF nG nD ⊢; obtain ⟨OO, dE⟩ := je (AS + 1); rw [← dE] at oG OT yF nG nD ⊢; obtain ⟨GG, P7⟩ := je (OO + 1); rw [← P7] at yF nG nD ⊢; obtain ⟨AL, hAL⟩ := je (GG + 1); rw [← hAL] at nG nD ⊢; have J4 := jh hMM; have HAS := jh hAS; have W9 := jh dE; have VF := jh P7; have UK := jh hAL; have HSZ4 := jh nD; have F0 := jh aH; have F1 := jh xE; have F2 := jh oG; have G2 := jh OT; have F3 := jh yF; have F4 := jh nG; have HB := jh B; have q0 := nG; clear hMM hAS dE P7 hAL nD aH xE oG OT yF nG B hmk; have hvl : vs.length = n := by rw [HL.out, HN.out]
 have HVL := jh hvl; clear hvl
 go_wp2_with (refine wQ rfl (.tmp 16) (.tmp 17) rfl rfl rfl HVL.out bD.out F3.out (fun j v hj => jm (HCELL.out j v hj) HB.out) HSL.out ?_; intro w5 h5 hg5; have H5 := jh h5; have uO := jh hg5; clear h5 hg5)
 clear q0; have lT : AS ≠ GG := by have := VF.out; have := W9.out; omega
 have kT : AL ≠ GG := by have := UK.out; omega
 have HM := jh (show U0 w5 MM m from fun j hj => uO.out.cell (F0.out j hj) (fun e => by have e7 : MM = GG := (by injection e); have := VF.out; have := HAS.out; have := W9.out; have := UK.out; omega)); have HO := jh (show U0 w5 OO 0 from fun j hj => uO.out.cell (F2.out j hj) (fun e => by have e7 : OO = GG := (by injection e); have := VF.out; have := HAS.out; have := W9.out; have := UK.out; omega)); have L6 := jh (show Y0 w5 OO 4 from fun j hj => (qq (uO.out.block OO (by have := HSZ4.out; have := UK.out; have := VF.out; omega) (fun e => by have e7 : OO = GG := (by injection e); have := VF.out; have := HAS.out; have := W9.out; have := UK.out; omega))).trans (G2.out j hj)); have iH := jh (show Below w.heap.size w w5 from HB.out.grown uO.out HB.out.size (fun k hk => by have e7 : GG = k := (by injection hk); have := VF.out; have := HAS.out; have := W9.out; have := J4.out; omega)); have BU := jh (show TA w w5 AS AL GG s vs ls n1 from ⟨uO.out.cell F1.out (fun e => lT (by injection e)), by rw [← HN.out]; exact uO.out.cell F4.out (fun e => kT (by injection e)), by rw [← HN.out]; exact ⟨by rw [HVL.out, Nat.mul_one], .inr ⟨GG, n1, _, rfl, Nat.le_refl _, H5.out, by have := bD.out; omega, by have := bD.out; unfold maxLen; omega, by have := bD.out; have := HVL.out; simp; omega, by simp [HVL.out]⟩⟩, fun i v l hv hl => (by obtain ⟨v9, l9, h1, h2, _, h4⟩ := HP.out.2 i (List.getElem?_eq_some_iff.1 hl).1; rw [h1] at hv; rw [h2] at hl; cases hv; cases hl; exact h4), iH.out, by have := VF.out; have := HAS.out; have := W9.out; have := J4.out; omega, lT, kT, by rw [← HN.out]; have := bD.out; omega⟩); have lC := jh (show OO < w5.heap.size from Nat.lt_of_lt_of_le (by have := HSZ4.out; have := UK.out; have := VF.out; omega) uO.out.size); have HGW := jh (show w.heap.size ≤ GG from BU.out.gt); have HOW := jh (show w.heap.size ≤ OO by have := HAS.out; have := W9.out; have := J4.out; omega); have HMO := jh (show MM ≠ OO by have := HAS.out; have := W9.out; omega); have HNM := jh (show MM ≠ GG by have := VF.out; have := HAS.out; have := W9.out; omega); have RF := jh (show OO ≠ GG by have := VF.out; omega); clear lT kT F0 F1 F2 G2 F3 F4 HB uO H5 hnI; obtain ⟨w6, e6⟩ := je (w5.drew); have hb : Below w5.heap.size w5 w6 := by rw [e6]; exact (Below.refl _ _).drew
 have HM := jn hb HM; have HO := jn hb HO; have L6 := jh (L6.out.later hb lC.out); have lC := jl lC hb.size; have iH := jw iH hb; have BU := jh (BU.out.later hb); clear hb; refine qF [(0, true), (2, true), (4, true), (1, false), (3, false), (5, false), (6, true), (7, true), (8, false), (9, true)] (fun w8 => w8.cell? ⟨MM, 0, none⟩ = some (.int .u64 (jf jd m 0)) ∧ w8.cell? ⟨MM, 1, none⟩ = some (.int .u64 (jf jd m 1)) ∧ w8.cell? ⟨MM, 2, none⟩ = some (.int .u64 (jf jd m 2)) ∧ w8.cell? ⟨MM, 3, none⟩ = some (.int .u64 (jf jd m 3))) (by kernel_rfl) (by kernel_rfl) (fun _ _ _ _ _ h => h) (jz (show U0 w5.drew MM m by rw [← e6]; exact HM.out)) (fun hHeld => ?_); rw [← e6]; clear e6
 iterate 3
  refine WP.tk rfl (k := ?_)
 refine WP.step rfl (fun K hK => ?_)
 go_simp
 refine (UD (x := 1) w6 BU.out (by decide) XQ.out wH.out).mono ?_; rintro _ w7 ⟨rfl, hhw, hg⟩; have BU := jh hhw; have HM := jh (show U0 w7 MM m from fun j hj => hg.cell (HM.out j hj) (fun e => HNM.out (by injection e))); have HO := jh (show U0 w7 OO 0 from fun j hj => hg.cell (HO.out j hj) (fun e => RF.out (by injection e))); have L6 := jh (show Y0 w7 OO 4 from fun j hj => (qq (hg.block OO lC.out (fun e => RF.out (by injection e)))).trans (L6.out j hj)); have lC := jl lC hg.size; have iH := jh (iH.out.grown hg iH.out.size (fun k hk => by have e7 : GG = k := (by injection hk); rw [← e7]; exact HGW.out)); rw [show ZH (qE (jU (qB s) (ls ++ [[1]]))) = x1 from HX1.out.symm]; clear hhw hg; refine hK.out _ _ (jz HM.out) (fun hHeld => ?_); clear hK K
 try simp only [Act.put, pa, pb, pc]
 refine WP.step rfl (fun K hK => ?_)
 go_simp
 refine (UD (x := 0) w7 BU.out (by decide) XQ.out V8.out).mono ?_; rintro _ w8 ⟨rfl, hhw, hg⟩; have BU := jh hhw; have HM := jh (show U0 w8 MM m from fun j hj => hg.cell (HM.out j hj) (fun e => HNM.out (by injection e))); have HO := jh (show U0 w8 OO 0 from fun j hj => hg.cell (HO.out j hj) (fun e => RF.out (by injection e))); have L6 := jh (show Y0 w8 OO 4 from fun j hj => (qq (hg.block OO lC.out (fun e => RF.out (by injection e)))).trans (L6.out j hj)); have lC := jl lC hg.size; have iH := jh (iH.out.grown hg iH.out.size (fun k hk => by have e7 : GG = k := (by injection hk); rw [← e7]; exact HGW.out)); rw [show ZH (qE (jU (qB s) (ls ++ [[0]]))) = x0 from HX0.out.symm]; clear hhw hg; refine hK.out _ _ (jz HM.out) (fun hHeld => ?_); clear hK K
 try simp only [Act.put, pa, pb, pc]
 refine WP.step rfl (fun K hK => ?_)
 go_simp
 refine (CW.out _).mono ?_; rintro _ w9 ⟨rfl, hb⟩; have HM := jn hb HM; have HO := jn hb HO; have L6 := jh (L6.out.later hb lC.out); have iH := jw iH hb; clear hb; refine hK.out _ _ (jz HM.out) (fun hHeld => ?_); clear hK K
 try simp only [Act.put, pa, pb, pc]
 iterate 2
  refine WP.tk rfl (k := ?_)
 refine WP.step rfl (fun K hK => ?_); obtain ⟨c0, c1, c2, c3, f0, f1, f2, f3⟩ := jL HO.out L6.out
 go_simp
 have HM := jh (U0.other4 HM.out HMO.out (.int .u64 (jf jd q 0)) (.int .u64 (jf jd q 1)) (.int .u64 (jf jd q 2)) (.int .u64 (jf jd q 3))); refine hK.out _ _ (jz HM.out) (fun hHeld => ?_); clear hK K
 try simp only [Act.put, pa, pb, pc]
 refine WP.tk rfl (k := ?_); refine WP.done ?_; clear hHeld c0 c1 c2 c3 f0 f1 f2 f3
 go_wp2_with fail
 obtain ⟨g0, g1, g2, g3⟩ := jz (U0.set4 HO.out q); have E8 := jh (jK iH.out HOW.out (.int .u64 (jf jd q 0)) (.int .u64 (jf jd q 1)) (.int .u64 (jf jd q 2)) (.int .u64 (jf jd q 3))); refine bodyPost_ret (v := .tuple #[jj q, .int .i64 0]) ?_ rfl ⟨rfl, E8.out⟩
 simp [results, Tryz.results30, go_sem, jj, words, g0, g1, g2, g3]
def zH (x : Nat) : List Nat := be 8 (jf jd x 3) ++ (be 8 (jf jd x 2) ++ (be 8 (jf jd x 1) ++ be 8 (jf jd x 0)))
theorem qI (x : Nat) : (zH x).length = 32 := by unfold zH; simp [jH]
theorem zG (x : Nat) : jM (zH x) := fun y hy => by
 unfold zH at hy
 rcases List.mem_append.1 hy with hy | hy
 ·exact zs _ _ y hy
 ·rcases List.mem_append.1 hy with hy | hy
  ·exact zs _ _ y hy
  ·rcases List.mem_append.1 hy with hy | hy
   ·exact zs _ _ y hy
   ·exact zs _ _ y hy
theorem Qp (x : Nat) (w : World) : Calls Tryz.prog 31 #[.slice none 0 0, .agg #[.int .u64 (jf jd x 0), .int .u64 (jf jd x 1), .int .u64 (jf jd x 2), .int .u64 (jf jd x 3)]] w fun e w' => ∃ a c, e = .returned (.slice (some a) 32 c) ∧ J6 .u8 w' (.slice (some a) 32 c) (zH x) ∧ Below w.heap.size w w' := by
 refine (SQ (b := []) w (J6.nil _ _) _ _ _ _ (by simp)).mono ?_; rintro _ w' ⟨v', rfl, ho, hb⟩; have hk := ho.at_; rw [List.nil_append] at hk; obtain ⟨ao, cap, e, _, _, _, h4⟩ := hk; obtain ⟨b, o, e2, _⟩ := h4 (by show 0 < (zH x).length; rw [qI]; decide); subst e; have hl : (be 8 (jf jd x 3) ++ (be 8 (jf jd x 2) ++ (be 8 (jf jd x 1) ++ be 8 (jf jd x 0)))).length = 32 := qI x; have hk := ho.at_; rw [List.nil_append, hl, e2] at hk; exact ⟨_, _, by rw [hl, e2], hk, hb⟩
def signB : List Nat := qB ⟨#[115, 105, 103, 110]⟩
def drawB : List Nat := qB ⟨#[100, 114, 97, 119]⟩
def zu (gq key r : Nat) (h : List Nat) : Nat := zB gq signB [zH key, zH r, h]
def ZA (gq secret : Nat) (h : List Nat) : Nat := zB gq drawB [zH secret, h]
theorem iF {w : World} {b : Nat} {v0 v1 v2 : Value} {l0 l1 l2 : List Nat} (h0 : w.cell? ⟨b, 0, none⟩ = some v0) (h1 : w.cell? ⟨b, 1, none⟩ = some v1) (h2 : w.cell? ⟨b, 2, none⟩ = some v2) (k0 : J6 .u8 w v0 l0) (k1 : J6 .u8 w v1 l1) (k2 : J6 .u8 w v2 l2) : Parts w b 0 [v0, v1, v2] [l0, l1, l2] :=
 ⟨rfl, fun i hi => by
  rcases (show i = 0 ∨ i = 1 ∨ i = 2 by simp at hi; omega) with rfl | rfl | rfl
  ·exact ⟨_, _, rfl, rfl, h0, k0⟩
  ·exact ⟨_, _, rfl, rfl, h1, k1⟩
  ·exact ⟨_, _, rfl, rfl, h2, k2⟩⟩
theorem NM {w : World} {b : Nat} {v0 v1 : Value} {l0 l1 : List Nat} (h0 : w.cell? ⟨b, 0, none⟩ = some v0) (h1 : w.cell? ⟨b, 1, none⟩ = some v1) (k0 : J6 .u8 w v0 l0) (k1 : J6 .u8 w v1 l1) : Parts w b 0 [v0, v1] [l0, l1] :=
 ⟨rfl, fun i hi => by
  rcases (show i = 0 ∨ i = 1 by simp at hi; omega) with rfl | rfl
  ·exact ⟨_, _, rfl, rfl, h0, k0⟩
  ·exact ⟨_, _, rfl, rfl, h1, k1⟩⟩
theorem qf {w8 : World} {GB KB RB gq key r : Nat} (h0 : X6 w8 GB 4 gq) (h1 : U0 w8 KB key) (h2 : U0 w8 RB r) : w8.cell? ⟨GB, 4, none⟩ = some (.int .u64 (jf jd gq 0)) ∧ w8.cell? ⟨GB, 5, none⟩ = some (.int .u64 (jf jd gq 1)) ∧ w8.cell? ⟨GB, 6, none⟩ = some (.int .u64 (jf jd gq 2)) ∧ w8.cell? ⟨GB, 7, none⟩ = some (.int .u64 (jf jd gq 3)) ∧ w8.cell? ⟨KB, 0, none⟩ = some (.int .u64 (jf jd key 0)) ∧ w8.cell? ⟨KB, 1, none⟩ = some (.int .u64 (jf jd key 1)) ∧ w8.cell? ⟨KB, 2, none⟩ = some (.int .u64 (jf jd key 2)) ∧ w8.cell? ⟨KB, 3, none⟩ = some (.int .u64 (jf jd key 3)) ∧ w8.cell? ⟨RB, 0, none⟩ = some (.int .u64 (jf jd r 0)) ∧ w8.cell? ⟨RB, 1, none⟩ = some (.int .u64 (jf jd r 1)) ∧ w8.cell? ⟨RB, 2, none⟩ = some (.int .u64 (jf jd r 2)) ∧ w8.cell? ⟨RB, 3, none⟩ = some (.int .u64 (jf jd r 3)) :=
 ⟨h0 0 (by decide), h0 1 (by decide), h0 2 (by decide), h0 3 (by decide), (jz h1).1, (jz h1).2.1, (jz h1).2.2.1, (jz h1).2.2.2, jz h2⟩
theorem TR {GB KB HB gp gq gg gh key r : Nat} {h : List Nat} (w : World) (hg : U2 w GB gp gq gg gh) (hk : U0 w KB key) (hh : w.heap[HB]? = some (.cells (jp .u8 h).toArray 32 (0, 0))) (hl : h.length = 32) (Z4 : jM h) (hq0 : 0 < gq) (hq : gq < jo) :
  Calls Tryz.prog 173 #[jj r, .pointer (some ⟨GB, 0, none⟩), .pointer (some ⟨KB, 0, none⟩), .pointer (some ⟨HB, 0, none⟩)] w fun e w' => e = .returned (jj (zu gq key r h)) ∧ Below w.heap.size w w' := by
 obtain ⟨q, hqq⟩ := je (zu gq key r h)
 have CN := jh (fun (W : World) (B : Nat) (vs : List Value) (hP : Parts W B 0 vs [zH key, zH r, h]) => by
  have h9 := wJ (s := ⟨#[115, 105, 103, 110]⟩) (m := gq) (cap := 3) W hP (by simp) (by simp) (by unfold maxLen; decide) (by
   intro l TD; simp only [List.mem_cons, List.not_mem_nil, or_false] at TD
   rcases TD with rfl | rfl | rfl
   ·exact zG _
   ·exact zG _
   ·exact Z4) hq0 hq (by unfold jU; simp [qn, jW, qo, qI, hl, ByteArray.size])
  rw [show zB gq (qB ⟨#[115, 105, 103, 110]⟩) [zH key, zH r, h] = q from hqq.symm] at h9; unfold jj words at h9
  exact h9)
 rw [← hqq]; have HG := jh hg; have HK := jh hk; have HH := jh hh; have HL := jh hl; clear hqq hg hk hh hl Z4 hq0 hq; unfold jj words
 go_enter Tryz.func173, Tryz.ntmps173
 go_upto_region 1 with fail
 obtain ⟨A8, xC⟩ := je (w.alloc (.cells (jD r) 24)); obtain ⟨w0, tC⟩ := je (A8.alloc (.cells jA 24)); have dF : A8.heap.size = w.heap.size + 1 := by rw [xC]; simp
 have aG : w0.heap.size = w.heap.size + 1 + 1 := by rw [tC]; simp [dF]
 have WN := jc xC; have wG := jc tC; have aH : U0 A8 w.heap.size r := by rw [xC]; exact U0.new w r _ _ rfl
 have xE : U0 w0 (w.heap.size + 1) 0 := by rw [← dF, tC]; exact jP A8 _
 have g_1 : Y0 w0 (w.heap.size + 1) 4 := by rw [← dF, tC]; exact Y0.new _ _ _ _
 rw [← xC, ← tC]; have HR := jh (U0.later wG aH); have HB0 := jh (jk WN wG); have HG := jh (HG.out.later HB0.out); have HK := jh (U0.later HB0.out HK.out); have HH := jh ((HB0.out.block _ (Array.getElem?_eq_some_iff.1 HH.out).1).trans HH.out); obtain ⟨RB, oH⟩ := je (w.heap.size); rw [← oH] at HR xE g_1 aG ⊢; obtain ⟨OO, dE⟩ := je (RB + 1); rw [← dE] at xE g_1 aG ⊢; have HO := jh xE; have L6 := jh g_1; have HOW := jh (show w.heap.size ≤ OO by omega); have F6 := jh (show OO < w0.heap.size by omega); clear xC tC dF aG WN wG aH xE g_1 oH dE; refine jY (.take 0 (.take 1 (.take 2 (.take 4 (.take 6 (.fork 3 (.fork 5 (.fork 7 (.fork 8 (.take 9 (.take 10 (.take 11 (.step 12 (.step 13 (.take 14 .done)))))) 12 (.step 8 (.take 9 (.take 10 (.take 11 (.step 13 (.take 14 .done))))))) 12 (.step 7 (.step 8 (.take 9 (.take 10 (.take 11 (.step 13 (.take 14 .done)))))))) 12 (.step 5 (.step 7 (.step 8 (.take 9 (.take 10 (.take 11 (.step 13 (.take 14 .done))))))))) 12 (.step 3 (.step 5 (.step 7 (.step 8 (.take 9 (.take 10 (.take 11 (.step 13 (.take 14 .done))))))))))))))) (fun w8 => w8.cell? ⟨GB, 4, none⟩ = some (.int .u64 (jf jd gq 0)) ∧ w8.cell? ⟨GB, 5, none⟩ = some (.int .u64 (jf jd gq 1)) ∧ w8.cell? ⟨GB, 6, none⟩ = some (.int .u64 (jf jd gq 2)) ∧ w8.cell? ⟨GB, 7, none⟩ = some (.int .u64 (jf jd gq 3)) ∧ w8.cell? ⟨KB, 0, none⟩ = some (.int .u64 (jf jd key 0)) ∧ w8.cell? ⟨KB, 1, none⟩ = some (.int .u64 (jf jd key 1)) ∧ w8.cell? ⟨KB, 2, none⟩ = some (.int .u64 (jf jd key 2)) ∧ w8.cell? ⟨KB, 3, none⟩ = some (.int .u64 (jf jd key 3)) ∧ w8.cell? ⟨RB, 0, none⟩ = some (.int .u64 (jf jd r 0)) ∧ w8.cell? ⟨RB, 1, none⟩ = some (.int .u64 (jf jd r 1)) ∧ w8.cell? ⟨RB, 2, none⟩ = some (.int .u64 (jf jd r 2)) ∧ w8.cell? ⟨RB, 3, none⟩ = some (.int .u64 (jf jd r 3))) (by kernel_rfl) (by kernel_rfl) (fun _ _ _ _ _ h => h) (qf HG.out.2.1 HK.out HR.out) (fun hHeld => ?_); obtain ⟨w1, e1⟩ := je (w0.drew); rw [← e1]; have hb : Below w0.heap.size w0 w1 := by rw [e1]; exact (Below.refl _ _).drew
 have HG := jh (HG.out.later hb); have HK := jn hb HK; have HR := jn hb HR; have HH := jb hb HH; have HO := jn hb HO; have L6 := jh (L6.out.later hb F6.out); have F6 := jl F6 hb.size; have HB0 := jw HB0 hb; clear hb e1
 iterate 5
  refine WT.tk rfl (k := ?_)
 focus
  refine WT.fork rfl rfl (fun K hK => ?_) (fun K hK => ?_)
 rotate_left
 focus
  go_simp
  obtain ⟨w2, e9⟩ := je (w1.alloc (.cells jA 24)); obtain ⟨VV, D9⟩ := je (w1.heap.size); have hb := jc e9; have HV := jh (show U0 w2 VV 0 by rw [e9, D9]; exact jP _ _); have Y8 := jh (show Y0 w2 VV 4 by rw [e9, D9]; exact Y0.new _ _ _ _); have HNG := jh (show GB ≠ VV by have := HG.out.lt; omega); have HNK := jh (show KB ≠ VV by have := U0.lt HK.out; omega); have HNR := jh (show RB ≠ VV by have := U0.lt HR.out; omega); have RF := jh (show OO ≠ VV by have := F6.out; omega); have HVW := jh (show w.heap.size ≤ VV by rw [D9]; exact HB0.out.size); rw [← e9, ← D9]; clear e9 D9; have HG := jh (HG.out.later hb); have HK := jn hb HK; have HR := jn hb HR; have HH := jb hb HH; have HO := jn hb HO; have L6 := jh (L6.out.later hb F6.out); have F6 := jl F6 hb.size; have HB0 := jw HB0 hb; clear hb; refine hK.out _ _ (qf HG.out.2.1 HK.out HR.out) (fun hHeld => ?_); clear hK K
  try simp only [Act.put, pa, pb, pc]
 rotate_right
 focus
  go_simp
  refine (Qp key _).mono ?_; rintro _ w2 ⟨a3, c3, rfl, hk9, hb⟩; have HG := jh (HG.out.later hb); have HK := jn hb HK; have HR := jn hb HR; have HH := jb hb HH; have HO := jn hb HO; have L6 := jh (L6.out.later hb F6.out); have F6 := jl F6 hb.size; have HB0 := jw HB0 hb; have K3 := jh hk9; clear hk9 hb; refine hK.out _ _ (qf HG.out.2.1 HK.out HR.out) (fun hHeld => ?_); clear hK K
  try simp only [Act.put, pa, pb, pc]
 focus
  refine WT.fork rfl rfl (fun K hK => ?_) (fun K hK => ?_)
 rotate_left
 focus
  go_simp
  obtain ⟨w3, e9⟩ := je (w2.alloc (.cells jA 24)); obtain ⟨VV, D9⟩ := je (w2.heap.size); have hb := jc e9; have HV := jh (show U0 w3 VV 0 by rw [e9, D9]; exact jP _ _); have Y8 := jh (show Y0 w3 VV 4 by rw [e9, D9]; exact Y0.new _ _ _ _); have HNG := jh (show GB ≠ VV by have := HG.out.lt; omega); have HNK := jh (show KB ≠ VV by have := U0.lt HK.out; omega); have HNR := jh (show RB ≠ VV by have := U0.lt HR.out; omega); have RF := jh (show OO ≠ VV by have := F6.out; omega); have HVW := jh (show w.heap.size ≤ VV by rw [D9]; exact HB0.out.size); rw [← e9, ← D9]; clear e9 D9; have HG := jh (HG.out.later hb); have HK := jn hb HK; have HR := jn hb HR; have HH := jb hb HH; have HO := jn hb HO; have L6 := jh (L6.out.later hb F6.out); have F6 := jl F6 hb.size; have HB0 := jw HB0 hb; have K3 := jh (K3.out.later hb); clear hb; refine hK.out _ _ (qf HG.out.2.1 HK.out HR.out) (fun hHeld => ?_); clear hK K
  try simp only [Act.put, pa, pb, pc]
 rotate_right
 focus
  go_simp
  refine (Qp r _).mono ?_; rintro _ w3 ⟨a5, c5, rfl, hk9, hb⟩; have HG := jh (HG.out.later hb); have HK := jn hb HK; have HR := jn hb HR; have HH := jb hb HH; have HO := jn hb HO; have L6 := jh (L6.out.later hb F6.out); have F6 := jl F6 hb.size; have HB0 := jw HB0 hb; have K3 := jh (K3.out.later hb); have K5 := jh hk9; clear hk9 hb; refine hK.out _ _ (qf HG.out.2.1 HK.out HR.out) (fun hHeld => ?_); clear hK K
  try simp only [Act.put, pa, pb, pc]
 focus
  refine WT.fork rfl rfl (fun K hK => ?_) (fun K hK => ?_)
 rotate_left
 focus
  go_simp
  obtain ⟨w4, e9⟩ := je (w3.alloc (.cells jA 24)); obtain ⟨VV, D9⟩ := je (w3.heap.size); have hb := jc e9; have HV := jh (show U0 w4 VV 0 by rw [e9, D9]; exact jP _ _); have Y8 := jh (show Y0 w4 VV 4 by rw [e9, D9]; exact Y0.new _ _ _ _); have HNG := jh (show GB ≠ VV by have := HG.out.lt; omega); have HNK := jh (show KB ≠ VV by have := U0.lt HK.out; omega); have HNR := jh (show RB ≠ VV by have := U0.lt HR.out; omega); have RF := jh (show OO ≠ VV by have := F6.out; omega); have HVW := jh (show w.heap.size ≤ VV by rw [D9]; exact HB0.out.size); rw [← e9, ← D9]; clear e9 D9; have HG := jh (HG.out.later hb); have HK := jn hb HK; have HR := jn hb HR; have HH := jb hb HH; have HO := jn hb HO; have L6 := jh (L6.out.later hb F6.out); have F6 := jl F6 hb.size; have HB0 := jw HB0 hb; have K3 := jh (K3.out.later hb); have K5 := jh (K5.out.later hb); clear hb; refine hK.out _ _ (qf HG.out.2.1 HK.out HR.out) (fun hHeld => ?_); clear hK K
  try simp only [Act.put, pa, pb, pc]
 rotate_right
 focus
  go_simp
  obtain ⟨w4, e9⟩ := je (w3.alloc (.cells #[.slice (some a3) 32 c3, .slice (some a5) 32 c5, .slice (some ⟨HB, 0, none⟩) 32 32] 30)); obtain ⟨PB, VI⟩ := je (w3.heap.size); have hb := jc e9; have P0 := jh (show w4.cell? ⟨PB, 0, none⟩ = some (.slice (some a3) 32 c3) by rw [e9, VI, cell_of_row _ _ _ _ _ _ (heap_alloc_new _ _)]; rfl); have P1 := jh (show w4.cell? ⟨PB, 1, none⟩ = some (.slice (some a5) 32 c5) by rw [e9, VI, cell_of_row _ _ _ _ _ _ (heap_alloc_new _ _)]; rfl); have P2 := jh (show w4.cell? ⟨PB, 2, none⟩ = some (.slice (some ⟨HB, 0, none⟩) 32 32) by rw [e9, VI, cell_of_row _ _ _ _ _ _ (heap_alloc_new _ _)]; rfl); rw [← e9, ← VI]; clear e9 VI; have HG := jh (HG.out.later hb); have HK := jn hb HK; have HR := jn hb HR; have HH := jb hb HH; have HO := jn hb HO; have L6 := jh (L6.out.later hb F6.out); have F6 := jl F6 hb.size; have HB0 := jw HB0 hb; have K3 := jh (K3.out.later hb); have K5 := jh (K5.out.later hb); clear hb; refine hK.out _ _ (qf HG.out.2.1 HK.out HR.out) (fun hHeld => ?_); clear hK K
  try simp only [Act.put, pa, pb, pc]
 focus
  refine WT.fork rfl rfl (fun K hK => ?_) (fun K hK => ?_)
 rotate_left
 focus
  go_simp
  obtain ⟨w5, e9⟩ := je (w4.alloc (.cells jA 24)); obtain ⟨VV, D9⟩ := je (w4.heap.size); have hb := jc e9; have HV := jh (show U0 w5 VV 0 by rw [e9, D9]; exact jP _ _); have Y8 := jh (show Y0 w5 VV 4 by rw [e9, D9]; exact Y0.new _ _ _ _); have HNG := jh (show GB ≠ VV by have := HG.out.lt; omega); have HNK := jh (show KB ≠ VV by have := U0.lt HK.out; omega); have HNR := jh (show RB ≠ VV by have := U0.lt HR.out; omega); have RF := jh (show OO ≠ VV by have := F6.out; omega); have HVW := jh (show w.heap.size ≤ VV by rw [D9]; exact HB0.out.size); rw [← e9, ← D9]; clear e9 D9; have HG := jh (HG.out.later hb); have HK := jn hb HK; have HR := jn hb HR; have HH := jb hb HH; have HO := jn hb HO; have L6 := jh (L6.out.later hb F6.out); have F6 := jl F6 hb.size; have HB0 := jw HB0 hb; have K3 := jh (K3.out.later hb); have K5 := jh (K5.out.later hb); have P0 := jh (jm P0.out hb); have P1 := jh (jm P1.out hb); have P2 := jh (jm P2.out hb); clear hb; refine hK.out _ _ (qf HG.out.2.1 HK.out HR.out) (fun hHeld => ?_); clear hK K
  try simp only [Act.put, pa, pb, pc]
 rotate_right
 focus
  go_simp
  refine (CN.out _ PB _ (iF P0.out P1.out P2.out K3.out K5.out (Jh HH.out HL.out))).mono ?_; rintro _ w5 ⟨rfl, hb⟩; have HG := jh (HG.out.later hb); have HK := jn hb HK; have HR := jn hb HR; have HH := jb hb HH; have HO := jn hb HO; have L6 := jh (L6.out.later hb F6.out); have F6 := jl F6 hb.size; have HB0 := jw HB0 hb; have K3 := jh (K3.out.later hb); have K5 := jh (K5.out.later hb); have P0 := jh (jm P0.out hb); have P1 := jh (jm P1.out hb); have P2 := jh (jm P2.out hb); clear hb; refine hK.out _ _ (qf HG.out.2.1 HK.out HR.out) (fun hHeld => ?_); clear hK K
  try simp only [Act.put, pa, pb, pc]
 focus
  refine WT.tk rfl (k := ?_); refine WT.tk rfl (k := ?_); refine WT.tk rfl (k := ?_); refine WT.step rfl (fun K hK => ?_)
  go_simp
  obtain ⟨w6, e9⟩ := je (w5.alloc (.cells jA 24)); obtain ⟨VV, D9⟩ := je (w5.heap.size); have hb := jc e9; have HV := jh (show U0 w6 VV 0 by rw [e9, D9]; exact jP _ _); have Y8 := jh (show Y0 w6 VV 4 by rw [e9, D9]; exact Y0.new _ _ _ _); have HNG := jh (show GB ≠ VV by have := HG.out.lt; omega); have HNK := jh (show KB ≠ VV by have := U0.lt HK.out; omega); have HNR := jh (show RB ≠ VV by have := U0.lt HR.out; omega); have RF := jh (show OO ≠ VV by have := F6.out; omega); have HVW := jh (show w.heap.size ≤ VV by rw [D9]; exact HB0.out.size); rw [← e9, ← D9]; clear e9 D9; have HG := jh (HG.out.later hb); have HK := jn hb HK; have HR := jn hb HR; have HH := jb hb HH; have HO := jn hb HO; have L6 := jh (L6.out.later hb F6.out); have F6 := jl F6 hb.size; have HB0 := jw HB0 hb; have K3 := jh (K3.out.later hb); have K5 := jh (K5.out.later hb); have P0 := jh (jm P0.out hb); have P1 := jh (jm P1.out hb); have P2 := jh (jm P2.out hb); clear hb; refine hK.out _ _ (qf HG.out.2.1 HK.out HR.out) (fun hHeld => ?_); clear hK K
  try simp only [Act.put, pa, pb, pc]
 rotate_right
 focus
  refine WT.step rfl (fun K hK => ?_)
  go_simp
  refine (Qp key _).mono ?_; rintro _ w3 ⟨a3, c3, rfl, hk9, hb⟩; have HG := jh (HG.out.later hb); have HK := jn hb HK; have HR := jn hb HR; have HH := jb hb HH; have HO := jn hb HO; have L6 := jh (L6.out.later hb F6.out); have F6 := jl F6 hb.size; have HB0 := jw HB0 hb; have Y8 := jh (Y8.out.later hb (U0.lt HV.out)); have HV := jn hb HV; have K3 := jh hk9; clear hk9 hb; refine hK.out _ _ (qf HG.out.2.1 HK.out HR.out) (fun hHeld => ?_); clear hK K
  try simp only [Act.put, pa, pb, pc]
 rotate_left
 rotate_right 2
 iterate 2
  focus
   refine WT.step rfl (fun K hK => ?_)
   go_simp
   refine (Qp r _).mono ?_; rintro _ w4 ⟨a5, c5, rfl, hk9, hb⟩; have HG := jh (HG.out.later hb); have HK := jn hb HK; have HR := jn hb HR; have HH := jb hb HH; have HO := jn hb HO; have L6 := jh (L6.out.later hb F6.out); have F6 := jl F6 hb.size; have HB0 := jw HB0 hb; have K3 := jh (K3.out.later hb); have Y8 := jh (Y8.out.later hb (U0.lt HV.out)); have HV := jn hb HV; have K5 := jh hk9; clear hk9 hb; refine hK.out _ _ (qf HG.out.2.1 HK.out HR.out) (fun hHeld => ?_); clear hK K
   try simp only [Act.put, pa, pb, pc]
  rotate_left
 rotate_right 3
 iterate 3
  focus
   refine WT.step rfl (fun K hK => ?_)
   go_simp
   obtain ⟨w5, e9⟩ := je (w4.alloc (.cells #[.slice (some a3) 32 c3, .slice (some a5) 32 c5, .slice (some ⟨HB, 0, none⟩) 32 32] 30)); obtain ⟨PB, VI⟩ := je (w4.heap.size); have hb := jc e9; have P0 := jh (show w5.cell? ⟨PB, 0, none⟩ = some (.slice (some a3) 32 c3) by rw [e9, VI, cell_of_row _ _ _ _ _ _ (heap_alloc_new _ _)]; rfl); have P1 := jh (show w5.cell? ⟨PB, 1, none⟩ = some (.slice (some a5) 32 c5) by rw [e9, VI, cell_of_row _ _ _ _ _ _ (heap_alloc_new _ _)]; rfl); have P2 := jh (show w5.cell? ⟨PB, 2, none⟩ = some (.slice (some ⟨HB, 0, none⟩) 32 32) by rw [e9, VI, cell_of_row _ _ _ _ _ _ (heap_alloc_new _ _)]; rfl); rw [← e9, ← VI]; clear e9 VI; have HG := jh (HG.out.later hb); have HK := jn hb HK; have HR := jn hb HR; have HH := jb hb HH; have HO := jn hb HO; have L6 := jh (L6.out.later hb F6.out); have F6 := jl F6 hb.size; have HB0 := jw HB0 hb; have K3 := jh (K3.out.later hb); have K5 := jh (K5.out.later hb); have Y8 := jh (Y8.out.later hb (U0.lt HV.out)); have HV := jn hb HV; clear hb; refine hK.out _ _ (qf HG.out.2.1 HK.out HR.out) (fun hHeld => ?_); clear hK K
   try simp only [Act.put, pa, pb, pc]
  rotate_left
 rotate_right 4
 iterate 4
  focus
   refine WT.step rfl (fun K hK => ?_)
   go_simp
   refine (CN.out _ PB _ (iF P0.out P1.out P2.out K3.out K5.out (Jh HH.out HL.out))).mono ?_; rintro _ w6 ⟨rfl, hb⟩; have HG := jh (HG.out.later hb); have HK := jn hb HK; have HR := jn hb HR; have HH := jb hb HH; have HO := jn hb HO; have L6 := jh (L6.out.later hb F6.out); have F6 := jl F6 hb.size; have HB0 := jw HB0 hb; have K3 := jh (K3.out.later hb); have K5 := jh (K5.out.later hb); have P0 := jh (jm P0.out hb); have P1 := jh (jm P1.out hb); have P2 := jh (jm P2.out hb); have Y8 := jh (Y8.out.later hb (U0.lt HV.out)); have HV := jn hb HV; clear hb; refine hK.out _ _ (qf HG.out.2.1 HK.out HR.out) (fun hHeld => ?_); clear hK K
   try simp only [Act.put, pa, pb, pc]
   refine WT.tk rfl (k := ?_); refine WT.tk rfl (k := ?_); refine WT.tk rfl (k := ?_)
  rotate_left
 all_goals (
  refine WT.step rfl (fun K hK => ?_); obtain ⟨c0, c1, c2, c3, f0, f1, f2, f3⟩ := jL HV.out Y8.out
  go_simp
  have HGS := jh (jx (jx (jx (jx (World.grownBy.refl w6 (some VV)) 0 (.int .u64 (jf jd q 0))) 1 (.int .u64 (jf jd q 1))) 2 (.int .u64 (jf jd q 2))) 3 (.int .u64 (jf jd q 3))); have HQ := jh (show X6 _ GB 4 gq from fun j hj => HGS.out.cell (HG.out.2.1 j hj) (fun e => HNG.out (by injection e))); have HK := jh (U0.other4 HK.out HNK.out (.int .u64 (jf jd q 0)) (.int .u64 (jf jd q 1)) (.int .u64 (jf jd q 2)) (.int .u64 (jf jd q 3))); have HR := jh (U0.other4 HR.out HNR.out (.int .u64 (jf jd q 0)) (.int .u64 (jf jd q 1)) (.int .u64 (jf jd q 2)) (.int .u64 (jf jd q 3))); have HO := jh (U0.other4 HO.out RF.out (.int .u64 (jf jd q 0)) (.int .u64 (jf jd q 1)) (.int .u64 (jf jd q 2)) (.int .u64 (jf jd q 3))); have L6 := jh (Y0.set4 L6.out ⟨VV, 0, none⟩ ⟨VV, 1, none⟩ ⟨VV, 2, none⟩ ⟨VV, 3, none⟩ (.int .u64 (jf jd q 0)) (.int .u64 (jf jd q 1)) (.int .u64 (jf jd q 2)) (.int .u64 (jf jd q 3))); have HV := jh (U0.set4 HV.out q); have HB0 := jh (jK HB0.out HVW.out (.int .u64 (jf jd q 0)) (.int .u64 (jf jd q 1)) (.int .u64 (jf jd q 2)) (.int .u64 (jf jd q 3))); refine hK.out _ _ (qf HQ.out HK.out HR.out) (fun hHeld => ?_); clear hK K
  try simp only [Act.put, pa, pb, pc]
  refine WT.tk rfl (k := ?_); refine WT.done ?_; clear hHeld c0 c1 c2 c3 f0 f1 f2 f3; obtain ⟨r0, r1, r2, r3⟩ := jz HV.out; obtain ⟨c0, c1, c2, c3, f0, f1, f2, f3⟩ := jL HO.out L6.out
  go_wp2_with fail
  obtain ⟨g0, g1, g2, g3⟩ := jz (U0.set4 HO.out q); have E8 := jh (jK HB0.out HOW.out (.int .u64 (jf jd q 0)) (.int .u64 (jf jd q 1)) (.int .u64 (jf jd q 2)) (.int .u64 (jf jd q 3))); refine bodyPost_ret (v := .agg #[.int .u64 (jf jd q 0), .int .u64 (jf jd q 1), .int .u64 (jf jd q 2), .int .u64 (jf jd q 3)]) ?_ rfl ⟨rfl, E8.out⟩
  simp [results, Tryz.results173, go_sem, g0, g1, g2, g3])
theorem wW {gp gq gg gh key : Nat} {h : List Nat} (hl : h.length = 32) (w : World) :
  Calls Tryz.prog 105 #[qd gp gq gg gh, jj key, .agg (jp .u8 h).toArray] w fun e w' => ∃ GB KB HB, e = .returned (.func (.func 173) #[] #[.pointer (some ⟨GB, 0, none⟩), .pointer (some ⟨KB, 0, none⟩), .pointer (some ⟨HB, 0, none⟩)]) ∧
   U2 w' GB gp gq gg gh ∧ U0 w' KB key ∧ w'.heap[HB]? = some (.cells (jp .u8 h).toArray 32 (0, 0)) ∧ Below w.heap.size w w' := by
 obtain ⟨T, hT⟩ := je ((jp .u8 h).toArray); rw [← hT]; unfold qd jj words; clear hT hl
 go_enter Tryz.func105, Tryz.ntmps105
 go_wp2_with fail
 go_ret
 obtain ⟨A8, xC⟩ := je (w.alloc (.cells (jG gp gq gg gh) 26)); obtain ⟨F8, tC⟩ := je (A8.alloc (.cells (jD key) 24)); obtain ⟨J9, VC⟩ := je (F8.alloc (.cells T 32)); have dF : A8.heap.size = w.heap.size + 1 := by rw [xC]; simp
 have aG : F8.heap.size = w.heap.size + 1 + 1 := by rw [tC]; simp [dF]
 have WN := jc xC; have wG := jc tC; have VE := jc VC; have aH : U2 A8 w.heap.size gp gq gg gh := by rw [xC]; exact U2.new _ _ _ _ _ _
 have xE : U0 F8 (w.heap.size + 1) key := by rw [← dF, tC]; exact U0.new _ _ _ _ rfl
 have oG : J9.heap[w.heap.size + 1 + 1]? = some (.cells T 32 (0, 0)) := by rw [← aG, VC]; exact heap_alloc_new _ _
 rw [← xC, ← tC, ← VC]; exact ⟨_, _, _, rfl, (aH.later wG).later VE, U0.later VE xE, oG, jk (jk WN wG) VE⟩
theorem info_g : (Tryz.prog.info? 26).map (·.size) = some 16 := by kernel_rfl
theorem info_n : (Tryz.prog.info? 24).map (·.size) = some 4 := by kernel_rfl
theorem qR {w : World} {b gp gq gg gh : Nat} (h : U2 w b gp gq gg gh) : (Instr.loadAt 26 (.pointer (some ⟨b, 0, none⟩))).run Tryz.prog w = .ok (.agg #[.int .u64 (jf jd gp 0), .int .u64 (jf jd gp 1), .int .u64 (jf jd gp 2), .int .u64 (jf jd gp 3), .int .u64 (jf jd gq 0), .int .u64 (jf jd gq 1), .int .u64 (jf jd gq 2), .int .u64 (jf jd gq 3), .int .u64 (jf jd gg 0), .int .u64 (jf jd gg 1), .int .u64 (jf jd gg 2), .int .u64 (jf jd gg 3), .int .u64 (jf jd gh 0), .int .u64 (jf jd gh 1), .int .u64 (jf jd gh 2), .int .u64 (jf jd gh 3)]) w := by
 obtain ⟨y0, y1, y2, y3, y4, y5, y6, y7, y8, y9, KJ, pR, nR, y13, kR, iR⟩ := QW h
 exact run_loadAt_mid (P := Tryz.prog) w b 0 26 [.int .u64 (jf jd gp 0), .int .u64 (jf jd gp 1), .int .u64 (jf jd gp 2), .int .u64 (jf jd gp 3), .int .u64 (jf jd gq 0), .int .u64 (jf jd gq 1), .int .u64 (jf jd gq 2), .int .u64 (jf jd gq 3), .int .u64 (jf jd gg 0), .int .u64 (jf jd gg 1), .int .u64 (jf jd gg 2), .int .u64 (jf jd gg 3), .int .u64 (jf jd gh 0), .int .u64 (jf jd gh 1), .int .u64 (jf jd gh 2), .int .u64 (jf jd gh 3)] _ (by
  intro j v hj; have hl := (List.getElem?_eq_some_iff.1 hj).1; simp only [List.length_cons, List.length_nil] at hl; rw [Nat.zero_add]
  rcases (show j = 0 ∨ j = 1 ∨ j = 2 ∨ j = 3 ∨ j = 4 ∨ j = 5 ∨ j = 6 ∨ j = 7 ∨ j = 8 ∨ j = 9 ∨ j = 10 ∨ j = 11 ∨ j = 12 ∨ j = 13 ∨ j = 14 ∨ j = 15 by omega) with rfl | rfl | rfl | rfl | rfl | rfl | rfl | rfl | rfl | rfl | rfl | rfl | rfl | rfl | rfl | rfl <;> (simp at hj; subst hj; assumption)) Tryz.underlying26 rfl info_g
theorem qX {w : World} {b o x : Nat} (h : X6 w b o x) : (Instr.loadAt 24 (.pointer (some ⟨b, o, none⟩))).run Tryz.prog w = .ok (.agg #[.int .u64 (jf jd x 0), .int .u64 (jf jd x 1), .int .u64 (jf jd x 2), .int .u64 (jf jd x 3)]) w :=
 run_loadAt_mid (P := Tryz.prog) w b o 24 [.int .u64 (jf jd x 0), .int .u64 (jf jd x 1), .int .u64 (jf jd x 2), .int .u64 (jf jd x 3)] _ (by
  intro j v hj; have hl := (List.getElem?_eq_some_iff.1 hj).1; simp only [List.length_cons, List.length_nil] at hl
  rcases (show j = 0 ∨ j = 1 ∨ j = 2 ∨ j = 3 by omega) with rfl | rfl | rfl | rfl <;> (simp at hj; subst hj; exact h _ (by decide))) Tryz.underlying24 rfl info_n
theorem num_o {w : World} {b x : Nat} (h : U0 w b x) : X6 w b 0 x := fun j hj => by rw [Nat.zero_add]; exact h j hj
theorem qx {w : World} {b x : Nat} (h : U0 w b x) : (Instr.loadAt 24 (.pointer (some ⟨b, 0, none⟩))).run Tryz.prog w = .ok (.agg #[.int .u64 (jf jd x 0), .int .u64 (jf jd x 1), .int .u64 (jf jd x 2), .int .u64 (jf jd x 3)]) w := qX (num_o h)
theorem loadH {w : World} {b : Nat} {h : List Nat} {t : TypeId} (hr : w.heap[b]? = some (.cells (jp .u8 h).toArray t (0, 0))) (hl : h.length = 32) : (Instr.loadAt 32 (.pointer (some ⟨b, 0, none⟩))).run Tryz.prog w = .ok (.agg (jp .u8 h).toArray) w := by
 have := run_loadVar_row (P := Tryz.prog) w b t 32 (jp .u8 h).toArray (0, 0) _ hr Tryz.underlying32 rfl (by rw [zt]; simp [jt, hl]); simp only [Instr.loadAt, Instr.sureAddr, Sem.run_bind, Sem.run_pure, Result.andThen_ok, this]
section
variable {P : Program} {ops : Array Oper} {rest : List Oper} {o : Oper} {a : Act} {w w' : World} {Q : Exit → Act → World → Prop} {v : Value}
theorem jv (hw : Region.wanted o (yielded ops a.tmps) = true) (h : (execOp a.eval o).run P w = .ok (.value v) w) (k : wpList P ops Q rest (a.put o.dst v) w) : wpList P ops Q (o :: rest) a w :=
 wpList_step fun _ hK => by
  rw [if_pos hw]; unfold Oper.wp; rw [h]; exact hK _ _ k
end
theorem zn {P : Program} {o : Oper} {ev : Operand → Value} {w : World} {op : BinOp} {t t' : TypeId} {x y : Operand} {vx vy : Array Value} {v : Value} (hm : P.eqGuardType P.depth t = false) (ho : o.op = .binOp op t x y t') (hx : ev x = .agg vx) (hy : ev y = .agg vy) (h : (binOp op t (.agg vx) (.agg vy)).run P w = .ok v w) : (execOp ev o).run P w = .ok (.value v) w := by
 unfold execOp; simp only [ho, hx, hy]; rw [Sem.run_bind, Sem.run_bind, run_eqGuard_agg w op t x y vx vy hm, Result.andThen_ok, h]
 rfl
theorem sH : Tryz.prog.eqGuardType Tryz.prog.depth 24 = false := by kernel_rfl
theorem rV : Tryz.prog.eqGuardType Tryz.prog.depth 39 = false := by kernel_rfl
theorem info_sig : (Tryz.prog.info? 39).map (·.size) = some 8 := by kernel_rfl
theorem lH {w : World} {b o x y : Nat} (h1 : X6 w b o x) (h2 : X6 w b (o + 4) y) : (Instr.loadAt 39 (.pointer (some ⟨b, o, none⟩))).run Tryz.prog w = .ok (.agg #[.int .u64 (jf jd x 0), .int .u64 (jf jd x 1), .int .u64 (jf jd x 2), .int .u64 (jf jd x 3), .int .u64 (jf jd y 0), .int .u64 (jf jd y 1), .int .u64 (jf jd y 2), .int .u64 (jf jd y 3)]) w := by
 have l0 := h1 0 (by decide); have l1 := h1 1 (by decide); have l2 := h1 2 (by decide); have l3 := h1 3 (by decide); have l4 := h2 0 (by decide); have l5 := h2 1 (by decide); have l6 := h2 2 (by decide); have l7 := h2 3 (by decide); simp only [Nat.add_assoc, Nat.reduceAdd] at l4 l5 l6 l7
 exact run_loadAt_mid (P := Tryz.prog) w b o 39 [.int .u64 (jf jd x 0), .int .u64 (jf jd x 1), .int .u64 (jf jd x 2), .int .u64 (jf jd x 3), .int .u64 (jf jd y 0), .int .u64 (jf jd y 1), .int .u64 (jf jd y 2), .int .u64 (jf jd y 3)] _ (by
  intro j v hj; have hl := (List.getElem?_eq_some_iff.1 hj).1; simp only [List.length_cons, List.length_nil] at hl
  rcases (show j = 0 ∨ j = 1 ∨ j = 2 ∨ j = 3 ∨ j = 4 ∨ j = 5 ∨ j = 6 ∨ j = 7 by omega) with rfl | rfl | rfl | rfl | rfl | rfl | rfl | rfl <;> (simp at hj; subst hj; assumption)) Tryz.underlying39 rfl info_sig
theorem Zh {w : World} {b x y : Nat} {t : TypeId} (h : w.heap[b]? = some (.cells #[.int .u64 (jf jd x 0), .int .u64 (jf jd x 1), .int .u64 (jf jd x 2), .int .u64 (jf jd x 3), .int .u64 (jf jd y 0), .int .u64 (jf jd y 1), .int .u64 (jf jd y 2), .int .u64 (jf jd y 3)] t (0, 0))) : X6 w b 0 x ∧ X6 w b 4 y :=
 ⟨fun j hj => by rw [cell_of_row _ _ _ _ _ _ h]; rcases (show j = 0 ∨ j = 1 ∨ j = 2 ∨ j = 3 by omega) with rfl | rfl | rfl | rfl <;> rfl,
  fun j hj => by rw [cell_of_row _ _ _ _ _ _ h]; rcases (show j = 0 ∨ j = 1 ∨ j = 2 ∨ j = 3 by omega) with rfl | rfl | rfl | rfl <;> rfl⟩
theorem part0 (a0 a1 a2 a3 a4 a5 a6 a7 : Value) (w : World) : (part 24 #[a0, a1, a2, a3, a4, a5, a6, a7] 0).run Tryz.prog w = .ok (.agg #[a0, a1, a2, a3]) w := by kernel_rfl
theorem part4 (a0 a1 a2 a3 a4 a5 a6 a7 : Value) (w : World) : (part 24 #[a0, a1, a2, a3, a4, a5, a6, a7] 4).run Tryz.prog w = .ok (.agg #[a4, a5, a6, a7]) w := by kernel_rfl
theorem zl {a b : Nat} (ha : a < jo) (hb : b < jo) (w : World) : (Op.equalIn 9999 24 (.agg #[.int .u64 (jf jd a 0), .int .u64 (jf jd a 1), .int .u64 (jf jd a 2), .int .u64 (jf jd a 3)]) (.agg #[.int .u64 (jf jd b 0), .int .u64 (jf jd b 1), .int .u64 (jf jd b 2), .int .u64 (jf jd b 3)])).run Tryz.prog w = .ok (decide (a = b)) w := by
 rw [Js w 9997 24 22 .u64 4 Tryz.underlying24 Tryz.underlying22 (fun _ => by kernel_rfl) (fun _ => by kernel_rfl) _ _ (fun i => jf jd a i) (fun i => jf jd b i) (JC _) (JC _), all_words ha hb]
theorem eq_sig {c s d r : Nat} (hc : c < jo) (hs : s < jo) (hd : d < jo) (hr : r < jo) (w : World) : (binOp .eql 39 (.agg #[.int .u64 (jf jd c 0), .int .u64 (jf jd c 1), .int .u64 (jf jd c 2), .int .u64 (jf jd c 3), .int .u64 (jf jd s 0), .int .u64 (jf jd s 1), .int .u64 (jf jd s 2), .int .u64 (jf jd s 3)]) (.agg #[.int .u64 (jf jd d 0), .int .u64 (jf jd d 1), .int .u64 (jf jd d 2), .int .u64 (jf jd d 3), .int .u64 (jf jd r 0), .int .u64 (jf jd r 1), .int .u64 (jf jd r 2), .int .u64 (jf jd r 3)])).run Tryz.prog w = .ok (.bool (decide (c = d) && decide (s = r))) w := by
 simp only [binOp]; unfold Op.equal Op.maxDepth; rw [Op.equalIn]; simp only [Sem.run_bind, run_underlying Tryz.underlying39, Result.andThen_ok]
 simp [part0, part4, zl hc hd, zl hs hr]
 by_cases h1 : c = d <;> by_cases h2 : s = r <;> simp [h1, h2]
end Go.Proofs.YtmijablfjigbhaaGreatDoor
