/- Layer 6 (hashes): what half of a number's hash is (Number's own function); Layer 6 (hashes): what half of a number's hash is (Number's own function); Layer 6 (hashes): Number -/
import Derived.Test.YtpoocnkflmimdaaLPWG19
import Derived.Test.YtpoocnkflmimdaaLPWG21
import Derived.Test.YtpoocnkflmimdaaLPWG13
import Derived.Test.YtpoocnkflmimdaaLPWG27
import Derived.Laws.OwnMore
import Derived.Deep.DeepCutAuto
namespace Go.Proofs.Ytpoocnkflmimdaa
open Go.ChangeShapes Go.WideShapes Go.ChangeAt Go.RowKit

theorem fold_num : ∀ (b : List Nat) (z : Nat), b.foldl (fun n c => n * 256 + c) z = z * 256 ^ b.length + b.foldl (fun n c => n * 256 + c) 0
  | [], z => by simp
  | c :: b, z => by
    rw [List.foldl_cons, List.foldl_cons, fold_num b (z * 256 + c), fold_num b (0 * 256 + c), List.length_cons, Nat.pow_succ, Nat.zero_mul, Nat.zero_add, Nat.add_mul, Nat.mul_assoc, Nat.mul_comm 256, Nat.add_assoc]
theorem num_append (a b : List Nat) : num (a ++ b) = num a * 256 ^ b.length + num b := by
  unfold num
  rw [List.foldl_append, fold_num]
theorem word_lt {b : List Nat} (hb : Bytes b) (i : Nat) (h : 8 * i + 8 ≤ b.length) : wordAt b i < W64 := by
  have h9 := num_lt 8 ((b.drop (8 * i)).take 8) (by rw [List.length_take, List.length_drop]; omega) (fun x hx => hb x (List.drop_subset _ _ (List.take_subset _ _ hx)))
  exact h9
theorem num32 {b : List Nat} (hl : b.length = 32) : num b = ((wordAt b 0 * W64 + wordAt b 1) * W64 + wordAt b 2) * W64 + wordAt b 3 := by
  have e0 : b = (((b.drop 0).take 8 ++ (b.drop 8).take 8) ++ (b.drop 16).take 8) ++ (b.drop 24).take 8 := by
    have h1 : (b.drop 24).take 8 = b.drop 24 := List.take_of_length_le (by rw [List.length_drop]; omega)
    rw [h1, List.append_assoc, List.append_assoc]
    have h2 := List.take_append_drop 8 (b.drop 16)
    rw [List.drop_drop] at h2
    have h3 := List.take_append_drop 8 (b.drop 8)
    rw [List.drop_drop] at h3
    have h4 := List.take_append_drop 8 (b.drop 0)
    rw [List.drop_drop] at h4
    rw [show (16 + 8 : Nat) = 24 from rfl] at h2
    rw [show (8 + 8 : Nat) = 16 from rfl] at h3
    rw [show (0 + 8 : Nat) = 8 from rfl] at h4
    rw [h2, h3, h4]
    rfl
  have l1 : ((b.drop 8).take 8).length = 8 := by rw [List.length_take, List.length_drop]; omega
  have l2 : ((b.drop 16).take 8).length = 8 := by rw [List.length_take, List.length_drop]; omega
  have l3 : ((b.drop 24).take 8).length = 8 := by rw [List.length_take, List.length_drop]; omega
  conv => lhs; rw [e0]
  rw [num_append, num_append, num_append, l1, l2, l3]
  rfl
theorem numV_of {b : List Nat} (hb : Bytes b) (hl : b.length = 32) : Value.agg #[.int .u64 (wordAt b 3), .int .u64 (wordAt b 2), .int .u64 (wordAt b 1), .int .u64 (wordAt b 0)] = numV (num b) := by
  have h0 := word_lt hb 0 (by omega)
  have h1 := word_lt hb 1 (by omega)
  have h2 := word_lt hb 2 (by omega)
  have h3 := word_lt hb 3 (by omega)
  rw [num32 hl]
  generalize wordAt b 0 = x0 at *
  generalize wordAt b 1 = x1 at *
  generalize wordAt b 2 = x2 at *
  generalize wordAt b 3 = x3 at *
  have e3 : dgt W64 (((x0 * W64 + x1) * W64 + x2) * W64 + x3) 0 = x3 := by unfold dgt W64 at *; omega
  have e2 : dgt W64 (((x0 * W64 + x1) * W64 + x2) * W64 + x3) 1 = x2 := by unfold dgt W64 at *; omega
  have e1 : dgt W64 (((x0 * W64 + x1) * W64 + x2) * W64 + x3) 2 = x1 := by unfold dgt W64 at *; omega
  have e0 : dgt W64 (((x0 * W64 + x1) * W64 + x2) * W64 + x3) 3 = x0 := by unfold dgt W64 at *; omega
  unfold numV words
  rw [e3, e2, e1, e0]
theorem num_lt256 {b : List Nat} (hb : Bytes b) (hl : b.length = 32) : num b < M256 := by
  have h := num_lt 32 b hl hb
  exact h
end Go.Proofs.Ytpoocnkflmimdaa
namespace Go.Proofs.Ytpoocnkflmimdaa
open Go.ChangeShapes Go.WideShapes Go.ChangeAt Go.RowKit

theorem row_block {w w' : World} {base : Nat} {e : TypeId} {size : Nat} {v : Value} {n : Nat} {xs : List Value} (h : w.ownsRow base e size v n xs) (hb : ∀ g, v.ownBlock = some g → w'.heap[g]? = w.heap[g]?) : w'.ownsRow base e size v n xs := by
 obtain ⟨h1, h2⟩ := h
 refine ⟨h1, ?_⟩
 rcases h2 with h2 | ⟨g, cap, cur, h3, h4, h5, h6⟩
 ·exact .inl h2
 ·exact .inr ⟨g, cap, cur, h3, h4, (hb g (by rw [h3]; rfl)).trans h5, h6⟩
theorem row_less {w : World} {base g : Nat} {e : TypeId} {cap n : Nat} {xs : List Value} {x : Value} (h : w.ownsRow base e 1 (.slice (some ⟨g, 0, none⟩) (n + 1) cap) (n + 1) (xs ++ [x])) : w.ownsRow base e 1 (.slice (some ⟨g, 0, none⟩) n cap) n xs := by
 obtain ⟨h1, h2⟩ := h
 have h7 : xs.length = n := by simpa using h1
 refine ⟨by simpa using h7, ?_⟩
 rcases h2 with ⟨h2, _⟩ | ⟨g', cap', cur, h3, h4, h5, h6, h8, h9, h10⟩
 ·cases h2
 ·cases h3
  have e := congrArg (List.take n) h10
  rw [List.take_take, show min n ((n + 1) * 1) = n by omega, List.take_append_of_le_length (Nat.le_of_eq h7.symm), List.take_of_length_le (Nat.le_of_eq h7)] at e
  exact .inr ⟨g, cap, cur, rfl, h4, h5, by omega, h8, h9, by simpa using e⟩
theorem row_cells {w : World} {base g : Nat} {e : TypeId} {cap n : Nat} {xs : List Value} (h : w.ownsRow base e 1 (.slice (some ⟨g, 0, none⟩) n cap) n xs) {j : Nat} {u : Value} (hj : xs[j]? = some u) : w.cell? ⟨g, j, none⟩ = some u := by
 obtain ⟨h1, h2⟩ := h
 rcases h2 with ⟨h2, _⟩ | ⟨g', cap', cur, h3, h4, h5, h6, h8, h9, h10⟩
 ·cases h2
 ·cases h3
  rw [cell_of_row _ _ _ _ _ _ h5]
  rw [← h10, List.getElem?_take] at hj
  split at hj
  ·simpa using hj
  ·cases hj
theorem ite_then {c : Bool} {A B : Prop} (h : c = true) (ha : A) : if c = true then A else B := by
 rw [if_pos h]
 exact ha
theorem oper_store_row {P : Program} {o : Oper} {a : Act} {w : World} {K : Act → World → Prop} {Q : Exit → Act → World → Prop} (ty : TypeId) (x y : Operand) (ho : o.op = .store ty x y) (g : Nat) (c T : Array Value) (t : TypeId)
  (hg : w.heap[g]? = some (.cells c t (0, 0))) (hx : a.eval x = .pointer (some ⟨g, 0, none⟩)) (hy : a.eval y = .agg T) (hi : (P.info? ty).map (·.size) = some T.size) (hc : c.size = T.size) (h1 : T.all (·.oneCell') = true)
  (k : K (a.put o.dst undef) (w.setRow g T)) : o.wp P a w K Q := by
 unfold Oper.wp execOp
 simp only [ho, hx, hy, Sem.run_bind, Instr.storeAt, Instr.sureAddr, Sem.run_pure, Result.andThen_ok, run_storeVar_row w g t ty c T hg hi hc h1]
 exact k
theorem oper_made {P : Program} {o : Oper} {a : Act} {w w' : World} {K : Act → World → Prop} {Q : Exit → Act → World → Prop} {v : Value} (h : (execOp a.eval o).run P w = .ok (.value v) w') (k : K (a.put o.dst v) w') : o.wp P a w K Q := by
 unfold Oper.wp
 rw [h]
 exact k
theorem oper_append_fits {P : Program} {o : Oper} {a : Act} {w : World} {K : Act → World → Prop} {Q : Exit → Act → World → Prop} (s x : Operand) (t : TypeId) (ho : o.op = .call { callee := .builtin .append, args := #[s, x], argTypes := #[t, t] })
  (base : Nat) (e : TypeId) (i : TypeInfo) (size : Nat) (ht : P.underlying t = some (.slice e)) (hi : P.info? e = some i) (hsize : i.size = size) (g n cap : Nat) (xs : List Value) (hs : a.eval s = .slice (some ⟨g, 0, none⟩) n cap) (hown : w.ownsRow base e size (.slice (some ⟨g, 0, none⟩) n cap) n xs)
  (ad : Addr) (m c : Nat) (news : List Value) (hx : a.eval x = .slice (some ad) m c) (hl : news.length = m * size) (hnews : ∀ j u, news[j]? = some u → w.cell? (ad.add j) = some u) (h1 : ∀ u ∈ news, u.oneCell' = true) (hroom : n + m ≤ cap)
  (k : ∀ w', w'.ownsRow base e size (.slice (some ⟨g, 0, none⟩) (n + m) cap) (n + m) (xs ++ news) → w.grownBy w' (some g) → K (a.put o.dst (.slice (some ⟨g, 0, none⟩) (n + m) cap)) w') : o.wp P a w K Q := by
 obtain ⟨w', hr, h2, h3⟩ := run_append_fits (P := P) w base t o.type e i size ht hi hsize g n cap xs hown ad m c news hl hnews h1 hroom
 unfold Oper.wp execOp
 simp only [ho, resolve, invoke, builtin, Sem.run_bind, Sem.run_pure, Result.andThen_ok, List.map_toArray, List.map_cons, List.map_nil, hs, hx, hr]
 exact k w' h2 h3
/-- What Number's own function finds. -/
structure HalfW (wB wr : World) (AS AL G : Nat) (s : ByteArray) (vs : List Value) (ls : List (List Nat)) (cap : Nat) : Prop where
 as_ : wr.cell? ⟨AS, 0, none⟩ = some (.string s)
 all : wr.cell? ⟨AL, 0, none⟩ = some (.slice (some ⟨G, 0, none⟩) ls.length cap)
 row : wr.ownsRow G 46 1 (.slice (some ⟨G, 0, none⟩) ls.length cap) ls.length vs
 kat : ∀ (i : Nat) v l, vs[i]? = some v → ls[i]? = some l → KAt .u8 wB v l
 below : Below wB.heap.size wB wr
 gt : wB.heap.size ≤ G
 ne1 : AS ≠ G
 ne2 : AL ≠ G
 room : ls.length + 1 ≤ cap
theorem HalfW.lt {wB wr : World} {AS AL G : Nat} {s : ByteArray} {vs : List Value} {ls : List (List Nat)} {cap : Nat} (h : HalfW wB wr AS AL G s vs ls cap) : G < wr.heap.size := by
 obtain ⟨_, h2⟩ := h.row
 rcases h2 with ⟨h2, _⟩ | ⟨g', cap', cur, h3, h4, h5, _⟩
 ·cases h2
 ·cases h3
  exact (Array.getElem?_eq_some_iff.1 h5).1
theorem HalfW.grown {wB wr w' : World} {AS AL G : Nat} {s : ByteArray} {vs : List Value} {ls : List (List Nat)} {cap : Nat} (h : HalfW wB wr AS AL G s vs ls cap) (hg : wr.grownBy w' (some G)) (hr : w'.ownsRow G 46 1 (.slice (some ⟨G, 0, none⟩) ls.length cap) ls.length vs) : HalfW wB w' AS AL G s vs ls cap :=
 ⟨hg.cell h.as_ (fun e => h.ne1 (by injection e)), hg.cell h.all (fun e => h.ne2 (by injection e)), hr, h.kat, h.below.grown hg h.below.size (fun k hk => by injection hk with hk; have := h.gt; omega), h.gt, h.ne1, h.ne2, h.room⟩
theorem grown_of_below {w w' : World} (hb : Below w.heap.size w w') (r : Option Nat) : w.grownBy w' r := ⟨hb.os, hb.tape, hb.output, hb.size, fun k hk _ => hb.block k hk⟩
theorem HalfW.later {wB wr w' : World} {AS AL G : Nat} {s : ByteArray} {vs : List Value} {ls : List (List Nat)} {cap : Nat} (h : HalfW wB wr AS AL G s vs ls cap) (hb : Below wr.heap.size wr w') : HalfW wB w' AS AL G s vs ls cap :=
 h.grown (grown_of_below hb _) (row_block h.row fun g hg => hb.block g (by have e : G = g := (by injection hg); rw [← e]; exact h.lt))
theorem info_s : (Try.prog.info? 46).map (·.size) = some 1 := by kernel_rfl
/-- The parts, with a byte behind them. -/
theorem half_parts {wB wr : World} {AS AL G : Nat} {s : ByteArray} {vs : List Value} {ls : List (List Nat)} {cap x B1 : Nat} (h : HalfW wB wr AS AL G s vs ls cap) (hr : wr.ownsRow G 46 1 (.slice (some ⟨G, 0, none⟩) (ls.length + 1) cap) (ls.length + 1) (vs ++ [.slice (some ⟨B1, 0, none⟩) 1 1]))
  (hx : KAt .u8 wr (.slice (some ⟨B1, 0, none⟩) 1 1) [x]) : Parts wr G 0 (vs ++ [.slice (some ⟨B1, 0, none⟩) 1 1]) (ls ++ [[x]]) := by
 have hl : vs.length = ls.length := by have := h.row.1; simpa using this
 refine ⟨by simp [hl], fun i hi => ?_⟩
 simp only [List.length_append, List.length_singleton] at hi
 rcases Nat.lt_or_ge i ls.length with h1 | h1
 ·obtain ⟨v, hv⟩ : ∃ v, vs[i]? = some v := ⟨_, List.getElem?_eq_getElem (by omega)⟩
  obtain ⟨l, hl9⟩ : ∃ l, ls[i]? = some l := ⟨_, List.getElem?_eq_getElem h1⟩
  have h2 : (vs ++ [Value.slice (some ⟨B1, 0, none⟩) 1 1])[i]? = some v := by rw [List.getElem?_append_left (by omega)]; exact hv
  refine ⟨v, l, h2, by rw [List.getElem?_append_left h1]; exact hl9, by rw [Nat.zero_add]; exact row_cells hr h2, (h.kat i v l hv hl9).later h.below⟩
 ·obtain rfl : i = ls.length := by omega
  have h2 : (vs ++ [Value.slice (some ⟨B1, 0, none⟩) 1 1])[ls.length]? = some (.slice (some ⟨B1, 0, none⟩) 1 1) := by rw [← hl]; simp
  exact ⟨_, _, h2, by simp, by rw [Nat.zero_add]; exact row_cells hr h2, hx⟩
theorem row_later {w w' : World} {base g : Nat} {e : TypeId} {n cap : Nat} {xs : List Value} (h : w.ownsRow base e 1 (.slice (some ⟨g, 0, none⟩) n cap) n xs) (hb : Below w.heap.size w w') : w'.ownsRow base e 1 (.slice (some ⟨g, 0, none⟩) n cap) n xs := by
 obtain ⟨h1, h2⟩ := h
 refine ⟨h1, ?_⟩
 rcases h2 with h2 | ⟨g', cap', cur, h3, h4, h5, h6⟩
 ·exact .inl h2
 ·exact .inr ⟨g', cap', cur, h3, h4, (hb.block g' (Array.getElem?_eq_some_iff.1 h5).1).trans h5, h6⟩
theorem kat_lt {w : World} {B n c : Nat} {x : Nat} {l : List Nat} (h : KAt .u8 w (.slice (some ⟨B, 0, none⟩) n c) (x :: l)) : B < w.heap.size := by
 obtain ⟨ao, cap, e, _, _, _, h4⟩ := h
 obtain ⟨b, o, e2, h5⟩ := h4 (by simp)
 injection e with e _ _
 rw [← e] at e2
 have e3 : B = b := by injection e2 with e2; injection e2
 rw [e3]
 exact World.block_lt_of_cell? (a := ⟨b, o + 0, none⟩) _ (h5 0 x rfl)
theorem frozen_block {w w' : World} {b j : Nat} (h : w'.heap[b]? = w.heap[b]?) : w'.frozen? ⟨b, j, none⟩ = w.frozen? ⟨b, j, none⟩ := by simp [World.frozen?, h]
theorem ne_of_old {w : World} {a b : Nat} (h : a < w.heap.size) (h2 : w.heap.size ≤ b) : a ≠ b := by omega
theorem kat_row {w : World} {g : Nat} {l : List Nat} {t : TypeId} (h : w.heap[g]? = some (.cells (cellsK .u8 l).toArray t (0, 0))) (hl : l.length = 32) : KAt .u8 w (.slice (some ⟨g, 0, none⟩) 32 32) l := by
 refine ⟨some ⟨g, 0, none⟩, 32, by rw [hl], by rw [hl]; decide, by unfold maxLen; decide, (fun h => nomatch h), fun _ => ⟨g, 0, rfl, fun i x hx => ?_⟩⟩
 rw [Nat.zero_add, cell_of_row _ _ _ _ _ _ h]
 simp [cellsK_get, hx]
theorem grown_over {a w w' : World} {G H : Nat} (h : a.grownBy w (some G)) (h' : w.grownBy w' (some H)) (hH : a.heap.size ≤ H) : a.grownBy w' (some G) :=
 ⟨h'.os.trans h.os, h'.tape.trans h.tape, h'.output.trans h.output, Nat.le_trans h.size h'.size, fun k hk hne => (h'.block k (Nat.lt_of_lt_of_le hk h.size) (fun e => by injection e with e; omega)).trans (h.block k hk hne)⟩
theorem half_keep {wB wr w' : World} {AS AL G : Nat} {s : ByteArray} {vs : List Value} {ls : List (List Nat)} {cap H : Nat} (h : HalfW wB wr AS AL G s vs ls cap) (hg : wr.grownBy w' (some H)) (h1 : G < H) (h2 : AS ≠ H) (h3 : AL ≠ H) (h4 : wB.heap.size ≤ H) : HalfW wB w' AS AL G s vs ls cap :=
 ⟨hg.cell h.as_ (fun e => h2 (by injection e)), hg.cell h.all (fun e => h3 (by injection e)), row_block h.row (fun g hgg => hg.block g (by have e : G = g := (by injection hgg); rw [← e]; exact h.lt) (fun e => by have e2 : G = g := (by injection hgg); have e3 : g = H := (by injection e); omega)), h.kat, h.below.grown hg h.below.size (fun k hk => by injection hk with hk; omega), h.gt, h.ne1, h.ne2, h.room⟩
set_option linter.unusedSimpArgs false in
set_option linter.unusedVariables false in
set_option maxRecDepth 20000 in
set_option maxHeartbeats 8000000 in
theorem half_any {wB : World} {AS AL G : Nat} {s : ByteArray} {vs : List Value} {ls : List (List Nat)} {cap x : Nat} (w : World) (h : HalfW wB w AS AL G s vs ls cap) (hx : x < 256) (hby : ∀ l ∈ ls, Bytes l) (hsz : (hashed (nums s) (ls ++ [[x]])).length ≤ 1073741824) :
  Calls Try.prog 34 #[.int .u8 x, .pointer (some ⟨AS, 0, none⟩), .pointer (some ⟨AL, 0, none⟩)] w fun e w' => e = .returned (numV (num (shaOf (hashed (nums s) (ls ++ [[x]]))))) ∧ HalfW wB w' AS AL G s vs ls cap ∧ w.grownBy w' (some G) := by
 have HW := Lib.hid h
 have HX9 := Lib.hid hx
 have HGL := Lib.hid h.lt
 have HAS := Lib.hid (show AS < w.heap.size from World.block_lt_of_cell? (a := ⟨AS, 0, none⟩) _ h.as_)
 have HAL := Lib.hid (show AL < w.heap.size from World.block_lt_of_cell? (a := ⟨AL, 0, none⟩) _ h.all)
 have HWB := Lib.hid h.below.size
 have hr0 := h.room
 have hcm : cap ≤ maxLen := by
  obtain ⟨_, h2⟩ := h.row
  rcases h2 with ⟨h2, _⟩ | ⟨g', cap', cur, h3, h4, h5, h6, h7, _⟩
  ·cases h2
  ·cases h3
   exact h7
 obtain ⟨i0, hi⟩ : ∃ i0, Try.prog.info? 46 = some i0 := by
  cases hq : Try.prog.info? 46 with
  | none => have := info_s; rw [hq] at this; cases this
  | some i => exact ⟨i, rfl⟩
 have hi1 : i0.size = 1 := by have := info_s; rw [hi] at this; simpa using this
 have HI := Lib.hid hi
 have hmm := hcm
 unfold maxLen at hmm
 have HCM := Lib.hid hcm
 have HBY := Lib.hid (show ∀ l ∈ ls ++ [[x]], Bytes l from fun l hl => by
  rcases List.mem_append.1 hl with hl | hl
  ·exact hby l hl
  ·simp only [List.mem_singleton] at hl
   subst hl
   intro y hy
   simp only [List.mem_singleton] at hy
   omega)
 have HSZ := Lib.hid hsz
 have HP := Lib.hid (fun (W : World) (B1 : Nat) (hw : HalfW wB W AS AL G s vs ls cap) (hr : W.ownsRow G 46 1 (.slice (some ⟨G, 0, none⟩) (ls.length + 1) cap) (ls.length + 1) (vs ++ [.slice (some ⟨B1, 0, none⟩) 1 1])) (hk : KAt .u8 W (.slice (some ⟨B1, 0, none⟩) 1 1) [x]) => by
  have h9 := Of_any (s := s) W (half_parts hw hr hk) (by simpa using hr0) hcm HBY.out HSZ.out
  rw [List.length_append, List.length_singleton] at h9
  exact h9)
 obtain ⟨T, hT⟩ : ∃ T, T = shaOf (hashed (nums s) (ls ++ [[x]])) := ⟨_, rfl⟩
 have HTL := Lib.hid (show T.length = 32 by rw [hT]; exact shaOf_length _)
 have HTB := Lib.hid (show Bytes T by rw [hT]; exact shaOf_bytes _)
 have HNV := Lib.hid (numV_of HTB.out HTL.out)
 rw [← hT] at HP ⊢
 have hszH : (Try.prog.info? 31).map (·.size) = some (cellsK .u8 T).toArray.size := by rw [info_hash]; simp [cellsK_length, HTL.out]
 clear hT h hx hby hsz hi hcm
 obtain ⟨n, hn⟩ : ∃ n, n = ls.length := ⟨_, rfl⟩
 obtain ⟨X, hX⟩ : ∃ X, X = num T := ⟨_, rfl⟩
 rw [← hX] at HNV ⊢
 clear hX
 go_enter Try.func34, Try.ntmps34
 go_upto_region 1 with fail
 obtain ⟨w1, e1⟩ : ∃ w1, w1 = w.alloc (.cells #[.int .u64 0, .int .u64 0, .int .u64 0, .int .u64 0] 24) := ⟨_, rfl⟩
 obtain ⟨OO, hOO⟩ : ∃ b, b = w.heap.size := ⟨_, rfl⟩
 have hb : Below w.heap.size w w1 := by rw [e1]; exact (Below.refl _ _).alloc (Nat.le_refl _) _
 have HO := Lib.hid (show NumAt w1 OO 0 by rw [e1, hOO]; exact num_zero w _)
 have HOF := Lib.hid (show FreeN w1 OO 4 by rw [e1, hOO]; exact FreeN.new _ _ _ _)
 rw [← e1, ← hOO]
 have HW := Lib.hid (HW.out.later (hb.drew))
 have HG := Lib.hid (show w.grownBy w1.drew (some G) from grown_of_below hb.drew _)
 have HO := Lib.hid (show NumAt w1.drew OO 0 from HO.out)
 have HOF := Lib.hid (show FreeN w1.drew OO 4 from HOF.out)
 have HOL := Lib.hid (show OO < w1.drew.heap.size by rw [hOO]; show w.heap.size < w1.heap.size; rw [e1]; simp)
 have HOG := Lib.hid (show G < OO by rw [hOO]; exact HGL.out)
 have HOO := Lib.hid hOO
 clear e1 hb hn hr0 hOO
 refine wp_region_tree (.take 0 (.take 1 (.take 2 (.fork 3 (.fork 4 (.fork 5 (.fork 6 (.step 7 (.step 8 .done)) 7 (.step 6 (.step 8 .done))) 7 (.step 5 (.step 6 (.step 8 .done)))) 7 (.step 4 (.step 5 (.step 6 (.step 8 .done))))) 7 (.step 3 (.step 4 (.step 5 (.step 6 (.step 8 .done))))))))) (fun w8 => w8.cell? ⟨AS, 0, none⟩ = some (.string s) ∧ w8.cell? ⟨AL, 0, none⟩ = some (.slice (some ⟨G, 0, none⟩) ls.length cap)) (by kernel_rfl) (by kernel_rfl) (fun _ _ _ _ _ h => h) (⟨HW.out.as_, HW.out.all⟩) (fun hHeld => ?_)
 obtain ⟨w0, e0⟩ : ∃ w9, w9 = w1.drew := ⟨_, rfl⟩
 rw [← e0] at HW HG HO HOF HOL ⊢
 clear e0
 refine WT.take (v := ?_) rfl (Or.inl ⟨by rfl, ?_⟩) ?_
 rotate_left
 ·intro w8 hSw
  (try dsimp only at hSw)
  go_simp
  any_goals with_reducible rfl
 try simp only [Act.put, pa, pb, pc]
 refine WT.take (v := ?_) rfl (Or.inl ⟨by rfl, ?_⟩) ?_
 rotate_left
 ·intro w8 hSw
  (try dsimp only at hSw)
  go_simp
  any_goals with_reducible rfl
 try simp only [Act.put, pa, pb, pc]
 refine WT.take (v := ?_) rfl (Or.inl ⟨by rfl, ?_⟩) ?_
 rotate_left
 ·intro w8 hSw
  (try dsimp only at hSw)
  go_simp
  any_goals with_reducible rfl
 try simp only [Act.put, pa, pb, pc]
 refine WT.fork rfl rfl (fun K hK => ?_) (fun K hK => ?_)
 ·go_simp
  obtain ⟨w2, e9⟩ : ∃ w9, w9 = w0.alloc (.cells #[.int .u8 x] 5) := ⟨_, rfl⟩
  obtain ⟨B1, hB1⟩ : ∃ b, b = w0.heap.size := ⟨_, rfl⟩
  have hb : Below w0.heap.size w0 w2 := by rw [e9]; exact (Below.refl _ _).alloc (Nat.le_refl _) _
  have HX := Lib.hid (show KAt .u8 w2 (.slice (some ⟨B1, 0, none⟩) 1 1) [x] by rw [e9, hB1]; exact KAt.made w0 [x] (by unfold maxLen; simp) _ rfl _)
  have HB1 := Lib.hid (show G < B1 by rw [hB1]; exact HW.out.lt)
  rw [← e9, ← hB1]
  clear e9 hB1
  have HW := Lib.hid (HW.out.later hb)
  have HG := Lib.hid (grown_later HG.out hb)
  have HO := Lib.hid (NumAt.later hb HO.out)
  have HOF := Lib.hid (HOF.out.later hb HOL.out)
  have HOL := Lib.hid (Nat.lt_of_lt_of_le HOL.out hb.size)
  clear hb
  refine hK.out _ _ (⟨HW.out.as_, HW.out.all⟩) (fun hHeld => ?_)
  clear hK K
  try simp only [Act.put, pa, pb, pc]
  refine WT.fork rfl rfl (fun K hK => ?_) (fun K hK => ?_)
  ·go_simp
   obtain ⟨w3, e9⟩ : ∃ w9, w9 = w2.alloc (.cells #[.slice (some ⟨B1, 0, none⟩) 1 1] 46) := ⟨_, rfl⟩
   obtain ⟨C1, hC1⟩ : ∃ b, b = w2.heap.size := ⟨_, rfl⟩
   have hb : Below w2.heap.size w2 w3 := by rw [e9]; exact (Below.refl _ _).alloc (Nat.le_refl _) _
   have HC := Lib.hid (show w3.cell? ⟨C1, 0, none⟩ = some (.slice (some ⟨B1, 0, none⟩) 1 1) by rw [e9, hC1, cell_of_row _ _ _ _ _ _ (heap_alloc_new _ _)]; rfl)
   have HC1 := Lib.hid (show G < C1 by rw [hC1]; exact HW.out.lt)
   rw [← e9, ← hC1]
   clear e9 hC1
   have HW := Lib.hid (HW.out.later hb)
   have HG := Lib.hid (grown_later HG.out hb)
   have HO := Lib.hid (NumAt.later hb HO.out)
   have HOF := Lib.hid (HOF.out.later hb HOL.out)
   have HOL := Lib.hid (Nat.lt_of_lt_of_le HOL.out hb.size)
   have HX := Lib.hid (HX.out.later hb)
   clear hb
   refine hK.out _ _ (⟨HW.out.as_, HW.out.all⟩) (fun hHeld => ?_)
   clear hK K
   try simp only [Act.put, pa, pb, pc]
   refine WT.fork rfl rfl (fun K hK => ?_) (fun K hK => ?_)
   ·refine ite_then (by rfl) ?_
    refine oper_append_fits _ _ 87 rfl G 46 i0 1 Try.underlying87 HI.out hi1 G ls.length cap vs rfl HW.out.row ⟨C1, 0, none⟩ 1 1 [.slice (some ⟨B1, 0, none⟩) 1 1] rfl rfl (fun j u hj => ?_) (fun u hu => ?_) HW.out.room (fun w4 hrow hgr => ?_)
    ·have hj0 : j = 0 := by have := (List.getElem?_eq_some_iff.1 hj).1; simp at this; omega
     subst hj0
     simp only [List.getElem?_cons_zero, Option.some.injEq] at hj
     subst hj
     rw [Addr.add_mid]
     exact HC.out
    ·simp only [List.mem_singleton] at hu
     subst hu
     rfl
    have HR := Lib.hid hrow
    have HX := Lib.hid (HX.out.block fun g9 hg9 => hgr.block g9 (by have e9 : B1 = g9 := by injection hg9
                                                                    rw [← e9]; exact kat_lt HX.out) (fun e8 => by have e9 : B1 = g9 := by injection hg9
                                                                                                                  have e7 : g9 = G := by injection e8
                                                                                                                  have := HB1.out; omega))
    have HO := Lib.hid (show NumAt w4 OO 0 from fun j hj => (hgr.cell (HO.out j hj) (fun e => by have e7 : OO = G := by injection e
                                                                                                 have := HOG.out; omega)))
    have HOF := Lib.hid (show FreeN w4 OO 4 from fun j hj => (frozen_block (hgr.block OO HOL.out (fun e => by have e7 : OO = G := by injection e
                                                                                                              have := HOG.out; omega))).trans (HOF.out j hj))
    have HOL := Lib.hid (Nat.lt_of_lt_of_le HOL.out hgr.size)
    have HW := Lib.hid (HW.out.grown hgr (row_less hrow))
    have HG := Lib.hid (grown_trans HG.out hgr)
    try simp only [Act.put, pa, pb, pc]
    clear hrow hgr
    refine hK.out _ _ (⟨HW.out.as_, HW.out.all⟩) (fun hHeld => ?_)
    clear hK K
    try simp only [Act.put, pa, pb, pc]
    refine WT.fork rfl rfl (fun K hK => ?_) (fun K hK => ?_)
    ·go_simp
     refine (HP.out _ B1 HW.out HR.out HX.out).mono ?_
     rintro _ w5 ⟨rfl, hb⟩
     have HW := Lib.hid (HW.out.later hb)
     have HG := Lib.hid (grown_later HG.out hb)
     have HO := Lib.hid (NumAt.later hb HO.out)
     have HOF := Lib.hid (HOF.out.later hb HOL.out)
     have HOL := Lib.hid (Nat.lt_of_lt_of_le HOL.out hb.size)
     have HX := Lib.hid (HX.out.later hb)
     have HR := Lib.hid (row_later HR.out hb)
     clear hb
     refine hK.out _ _ (⟨HW.out.as_, HW.out.all⟩) (fun hHeld => ?_)
     clear hK K
     try simp only [Act.put, pa, pb, pc]
     refine WT.step rfl (fun K hK => ?_)
     refine ite_then (by rfl) ?_
     refine oper_made (v := .pointer (some ⟨w5.heap.size, 0, none⟩)) (w' := w5.alloc (.cells (Array.replicate 32 (.int .u8 0)) 31)) (by kernel_rfl) ?_
     obtain ⟨w6, e9⟩ : ∃ w9, w9 = w5.alloc (.cells (Array.replicate 32 (.int .u8 0)) 31) := ⟨_, rfl⟩
     obtain ⟨HHb, hHb⟩ : ∃ b, b = w5.heap.size := ⟨_, rfl⟩
     have hb : Below w5.heap.size w5 w6 := by rw [e9]; exact (Below.refl _ _).alloc (Nat.le_refl _) _
     have HH := Lib.hid (show w6.heap[HHb]? = some (.cells (Array.replicate 32 (.int .u8 0)) 31 (0, 0)) by rw [e9, hHb]; exact heap_alloc_new _ _)
     have HHG := Lib.hid (show G < HHb by rw [hHb]; exact HW.out.lt)
     have HHO := Lib.hid (show OO < HHb by rw [hHb]; exact HOL.out)
     have HHw := Lib.hid (show w.heap.size ≤ HHb by rw [hHb]; exact HG.out.size)
     rw [← e9, ← hHb]
     try simp only [Act.put, pa, pb, pc]
     clear e9 hHb
     have HW := Lib.hid (HW.out.later hb)
     have HG := Lib.hid (grown_later HG.out hb)
     have HO := Lib.hid (NumAt.later hb HO.out)
     have HOF := Lib.hid (HOF.out.later hb HOL.out)
     have HOL := Lib.hid (Nat.lt_of_lt_of_le HOL.out hb.size)
     have HX := Lib.hid (HX.out.later hb)
     have HR := Lib.hid (row_later HR.out hb)
     clear hb
     refine hK.out _ _ (⟨HW.out.as_, HW.out.all⟩) (fun hHeld => ?_)
     clear hK K
     try simp only [Act.put, pa, pb, pc]
     refine WT.step rfl (fun K hK => ?_)
     refine ite_then (by rfl) ?_
     refine oper_store_row _ _ _ rfl HHb _ _ _ HH.out rfl rfl hszH (by simp [cellsK_length, HTL.out]) (cellsK_all _ _) ?_
     obtain ⟨w7, e9⟩ : ∃ w9, w9 = w6.setRow HHb (cellsK .u8 T).toArray := ⟨_, rfl⟩
     have HH := Lib.hid (show w7.heap[HHb]? = some (.cells (cellsK .u8 T).toArray 31 (0, 0)) by rw [e9]; exact setRow_heap _ _ _ _ _ _ HH.out)
     have hgr : ∀ k, k ≠ HHb → w7.heap[k]? = w6.heap[k]? := fun k hk => by rw [e9]; exact setRow_other _ HHb k _ hk
     have hgs : w6.grownBy w7 (some HHb) := by rw [e9]; exact ⟨rfl, rfl, rfl, by simp [World.setRow], fun k _ hk => setRow_other _ HHb k _ (fun e => hk (by rw [e]))⟩
     have HW := Lib.hid (half_keep HW.out hgs HHG.out (ne_of_old HAS.out HHw.out) (ne_of_old HAL.out HHw.out) (Nat.le_trans HWB.out HHw.out))
     have HG := Lib.hid (show w.grownBy w7 (some G) from ⟨hgs.os.trans HG.out.os, hgs.tape.trans HG.out.tape, hgs.output.trans HG.out.output, Nat.le_trans HG.out.size hgs.size, fun k hk hne => (hgr k (by have := HHw.out; omega)).trans (HG.out.block k hk hne)⟩)
     have HO := Lib.hid (show NumAt w7 OO 0 from fun j hj => hgs.cell (HO.out j hj) (fun e => by have e7 : OO = HHb := by injection e
                                                                                                 have := HHO.out; omega))
     have HOF := Lib.hid (show FreeN w7 OO 4 from fun j hj => (frozen_block (hgr OO (by have := HHO.out; omega))).trans (HOF.out j hj))
     have HOL := Lib.hid (Nat.lt_of_lt_of_le HOL.out hgs.size)
     rw [← e9]
     try simp only [Act.put, pa, pb, pc]
     clear e9 hgr hgs
     refine hK.out _ _ (⟨HW.out.as_, HW.out.all⟩) (fun hHeld => ?_)
     clear hK K
     try simp only [Act.put, pa, pb, pc]
     refine WT.done ?_
     clear hHeld HX HR HB1
     go_wp2_with fail
     refine (GetLong_any _ (kat_row HH.out HTL.out) HTB.out (by rw [HTL.out]; decide)).mono ?_
     rintro _ w8 ⟨rfl, hb⟩
     rw [HNV.out]
     have HW := Lib.hid (HW.out.later hb)
     have HG := Lib.hid (grown_later HG.out hb)
     have HO := Lib.hid (NumAt.later hb HO.out)
     have HOF := Lib.hid (HOF.out.later hb HOL.out)
     have HOL := Lib.hid (Nat.lt_of_lt_of_le HOL.out hb.size)
     have HH := Lib.hid ((hb.block HHb (Array.getElem?_eq_some_iff.1 HH.out).1).trans HH.out)
     clear hb
     unfold numV words
     dsimp only
     go_upto_region 3 with fail
     obtain ⟨w9, e9⟩ : ∃ w9, w9 = w8.alloc (.cells #[.int .u64 (dgt W64 X 0), .int .u64 (dgt W64 X 1), .int .u64 (dgt W64 X 2), .int .u64 (dgt W64 X 3)] 24) := ⟨_, rfl⟩
     obtain ⟨VV, hVV⟩ : ∃ b, b = w8.heap.size := ⟨_, rfl⟩
     have hb : Below w8.heap.size w8 w9 := by rw [e9]; exact (Below.refl _ _).alloc (Nat.le_refl _) _
     have HV := Lib.hid (show NumAt w9 VV X by rw [e9, hVV]; exact NumAt.new _ _ _ _ rfl)
     rw [← e9, ← hVV]
     clear e9 hVV
     have HW := Lib.hid (HW.out.later hb)
     have HG := Lib.hid (grown_later HG.out hb)
     have HO := Lib.hid (NumAt.later hb HO.out)
     have HOF := Lib.hid (HOF.out.later hb HOL.out)
     have HOL := Lib.hid (Nat.lt_of_lt_of_le HOL.out hb.size)
     have HH := Lib.hid ((hb.block HHb (Array.getElem?_eq_some_iff.1 HH.out).1).trans HH.out)
     clear hb
     obtain ⟨r0, r1, r2, r3⟩ := num4 HV.out
     obtain ⟨c0, c1, c2, c3, f0, f1, f2, f3⟩ := num4f HO.out HOF.out
     go_wp2_with fail
     have HGS := Lib.hid (only_setS (only_setS (only_setS (only_setS (World.grownBy.refl w9 (some OO)) 0 (.int .u64 (dgt W64 X 0))) 1 (.int .u64 (dgt W64 X 1))) 2 (.int .u64 (dgt W64 X 2))) 3 (.int .u64 (dgt W64 X 3)))
     have HW := Lib.hid (half_keep HW.out HGS.out HOG.out (ne_of_old HAS.out (Nat.le_of_eq HOO.out.symm)) (ne_of_old HAL.out (Nat.le_of_eq HOO.out.symm)) (Nat.le_trans HWB.out (Nat.le_of_eq HOO.out.symm)))
     have HG := Lib.hid (grown_over HG.out HGS.out (Nat.le_of_eq HOO.out.symm))
     obtain ⟨g0, g1, g2, g3⟩ := num4 (NumAt.set4 HO.out X)
     refine bodyPost_ret (v := .agg #[.int .u64 (dgt W64 X 0), .int .u64 (dgt W64 X 1), .int .u64 (dgt W64 X 2), .int .u64 (dgt W64 X 3)]) ?_ rfl ⟨rfl, HW.out, HG.out⟩
     simp [results, Try.results34, go_sem, g0, g1, g2, g3]
    ·refine ite_then (by rfl) ?_
     refine oper_made (v := .pointer (some ⟨w4.heap.size, 0, none⟩)) (w' := w4.alloc (.cells (Array.replicate 32 (.int .u8 0)) 31)) (by kernel_rfl) ?_
     obtain ⟨w5, e9⟩ : ∃ w9, w9 = w4.alloc (.cells (Array.replicate 32 (.int .u8 0)) 31) := ⟨_, rfl⟩
     obtain ⟨HHb, hHb⟩ : ∃ b, b = w4.heap.size := ⟨_, rfl⟩
     have hb : Below w4.heap.size w4 w5 := by rw [e9]; exact (Below.refl _ _).alloc (Nat.le_refl _) _
     have HH := Lib.hid (show w5.heap[HHb]? = some (.cells (Array.replicate 32 (.int .u8 0)) 31 (0, 0)) by rw [e9, hHb]; exact heap_alloc_new _ _)
     have HHG := Lib.hid (show G < HHb by rw [hHb]; exact HW.out.lt)
     have HHO := Lib.hid (show OO < HHb by rw [hHb]; exact HOL.out)
     have HHw := Lib.hid (show w.heap.size ≤ HHb by rw [hHb]; exact HG.out.size)
     rw [← e9, ← hHb]
     try simp only [Act.put, pa, pb, pc]
     clear e9 hHb
     have HW := Lib.hid (HW.out.later hb)
     have HG := Lib.hid (grown_later HG.out hb)
     have HO := Lib.hid (NumAt.later hb HO.out)
     have HOF := Lib.hid (HOF.out.later hb HOL.out)
     have HOL := Lib.hid (Nat.lt_of_lt_of_le HOL.out hb.size)
     have HX := Lib.hid (HX.out.later hb)
     have HR := Lib.hid (row_later HR.out hb)
     clear hb
     refine hK.out _ _ (⟨HW.out.as_, HW.out.all⟩) (fun hHeld => ?_)
     clear hK K
     try simp only [Act.put, pa, pb, pc]
     refine WT.step rfl (fun K hK => ?_)
     go_simp
     refine (HP.out _ B1 HW.out HR.out HX.out).mono ?_
     rintro _ w6 ⟨rfl, hb⟩
     have HW := Lib.hid (HW.out.later hb)
     have HG := Lib.hid (grown_later HG.out hb)
     have HO := Lib.hid (NumAt.later hb HO.out)
     have HOF := Lib.hid (HOF.out.later hb HOL.out)
     have HOL := Lib.hid (Nat.lt_of_lt_of_le HOL.out hb.size)
     have HX := Lib.hid (HX.out.later hb)
     have HR := Lib.hid (row_later HR.out hb)
     have HH := Lib.hid ((hb.block HHb (Array.getElem?_eq_some_iff.1 HH.out).1).trans HH.out)
     clear hb
     refine hK.out _ _ (⟨HW.out.as_, HW.out.all⟩) (fun hHeld => ?_)
     clear hK K
     try simp only [Act.put, pa, pb, pc]
     refine WT.step rfl (fun K hK => ?_)
     refine ite_then (by rfl) ?_
     refine oper_store_row _ _ _ rfl HHb _ _ _ HH.out rfl rfl hszH (by simp [cellsK_length, HTL.out]) (cellsK_all _ _) ?_
     obtain ⟨w7, e9⟩ : ∃ w9, w9 = w6.setRow HHb (cellsK .u8 T).toArray := ⟨_, rfl⟩
     have HH := Lib.hid (show w7.heap[HHb]? = some (.cells (cellsK .u8 T).toArray 31 (0, 0)) by rw [e9]; exact setRow_heap _ _ _ _ _ _ HH.out)
     have hgr : ∀ k, k ≠ HHb → w7.heap[k]? = w6.heap[k]? := fun k hk => by rw [e9]; exact setRow_other _ HHb k _ hk
     have hgs : w6.grownBy w7 (some HHb) := by rw [e9]; exact ⟨rfl, rfl, rfl, by simp [World.setRow], fun k _ hk => setRow_other _ HHb k _ (fun e => hk (by rw [e]))⟩
     have HW := Lib.hid (half_keep HW.out hgs HHG.out (ne_of_old HAS.out HHw.out) (ne_of_old HAL.out HHw.out) (Nat.le_trans HWB.out HHw.out))
     have HG := Lib.hid (show w.grownBy w7 (some G) from ⟨hgs.os.trans HG.out.os, hgs.tape.trans HG.out.tape, hgs.output.trans HG.out.output, Nat.le_trans HG.out.size hgs.size, fun k hk hne => (hgr k (by have := HHw.out; omega)).trans (HG.out.block k hk hne)⟩)
     have HO := Lib.hid (show NumAt w7 OO 0 from fun j hj => hgs.cell (HO.out j hj) (fun e => by have e7 : OO = HHb := by injection e
                                                                                                 have := HHO.out; omega))
     have HOF := Lib.hid (show FreeN w7 OO 4 from fun j hj => (frozen_block (hgr OO (by have := HHO.out; omega))).trans (HOF.out j hj))
     have HOL := Lib.hid (Nat.lt_of_lt_of_le HOL.out hgs.size)
     rw [← e9]
     try simp only [Act.put, pa, pb, pc]
     clear e9 hgr hgs
     refine hK.out _ _ (⟨HW.out.as_, HW.out.all⟩) (fun hHeld => ?_)
     clear hK K
     try simp only [Act.put, pa, pb, pc]
     refine WT.done ?_
     clear hHeld HX HR HB1
     go_wp2_with fail
     refine (GetLong_any _ (kat_row HH.out HTL.out) HTB.out (by rw [HTL.out]; decide)).mono ?_
     rintro _ w8 ⟨rfl, hb⟩
     rw [HNV.out]
     have HW := Lib.hid (HW.out.later hb)
     have HG := Lib.hid (grown_later HG.out hb)
     have HO := Lib.hid (NumAt.later hb HO.out)
     have HOF := Lib.hid (HOF.out.later hb HOL.out)
     have HOL := Lib.hid (Nat.lt_of_lt_of_le HOL.out hb.size)
     have HH := Lib.hid ((hb.block HHb (Array.getElem?_eq_some_iff.1 HH.out).1).trans HH.out)
     clear hb
     unfold numV words
     dsimp only
     go_upto_region 3 with fail
     obtain ⟨w9, e9⟩ : ∃ w9, w9 = w8.alloc (.cells #[.int .u64 (dgt W64 X 0), .int .u64 (dgt W64 X 1), .int .u64 (dgt W64 X 2), .int .u64 (dgt W64 X 3)] 24) := ⟨_, rfl⟩
     obtain ⟨VV, hVV⟩ : ∃ b, b = w8.heap.size := ⟨_, rfl⟩
     have hb : Below w8.heap.size w8 w9 := by rw [e9]; exact (Below.refl _ _).alloc (Nat.le_refl _) _
     have HV := Lib.hid (show NumAt w9 VV X by rw [e9, hVV]; exact NumAt.new _ _ _ _ rfl)
     rw [← e9, ← hVV]
     clear e9 hVV
     have HW := Lib.hid (HW.out.later hb)
     have HG := Lib.hid (grown_later HG.out hb)
     have HO := Lib.hid (NumAt.later hb HO.out)
     have HOF := Lib.hid (HOF.out.later hb HOL.out)
     have HOL := Lib.hid (Nat.lt_of_lt_of_le HOL.out hb.size)
     have HH := Lib.hid ((hb.block HHb (Array.getElem?_eq_some_iff.1 HH.out).1).trans HH.out)
     clear hb
     obtain ⟨r0, r1, r2, r3⟩ := num4 HV.out
     obtain ⟨c0, c1, c2, c3, f0, f1, f2, f3⟩ := num4f HO.out HOF.out
     go_wp2_with fail
     have HGS := Lib.hid (only_setS (only_setS (only_setS (only_setS (World.grownBy.refl w9 (some OO)) 0 (.int .u64 (dgt W64 X 0))) 1 (.int .u64 (dgt W64 X 1))) 2 (.int .u64 (dgt W64 X 2))) 3 (.int .u64 (dgt W64 X 3)))
     have HW := Lib.hid (half_keep HW.out HGS.out HOG.out (ne_of_old HAS.out (Nat.le_of_eq HOO.out.symm)) (ne_of_old HAL.out (Nat.le_of_eq HOO.out.symm)) (Nat.le_trans HWB.out (Nat.le_of_eq HOO.out.symm)))
     have HG := Lib.hid (grown_over HG.out HGS.out (Nat.le_of_eq HOO.out.symm))
     obtain ⟨g0, g1, g2, g3⟩ := num4 (NumAt.set4 HO.out X)
     refine bodyPost_ret (v := .agg #[.int .u64 (dgt W64 X 0), .int .u64 (dgt W64 X 1), .int .u64 (dgt W64 X 2), .int .u64 (dgt W64 X 3)]) ?_ rfl ⟨rfl, HW.out, HG.out⟩
     simp [results, Try.results34, go_sem, g0, g1, g2, g3]
   ·refine ite_then (by rfl) ?_
    refine oper_made (v := .pointer (some ⟨w3.heap.size, 0, none⟩)) (w' := w3.alloc (.cells (Array.replicate 32 (.int .u8 0)) 31)) (by kernel_rfl) ?_
    obtain ⟨w4, e9⟩ : ∃ w9, w9 = w3.alloc (.cells (Array.replicate 32 (.int .u8 0)) 31) := ⟨_, rfl⟩
    obtain ⟨HHb, hHb⟩ : ∃ b, b = w3.heap.size := ⟨_, rfl⟩
    have hb : Below w3.heap.size w3 w4 := by rw [e9]; exact (Below.refl _ _).alloc (Nat.le_refl _) _
    have HH := Lib.hid (show w4.heap[HHb]? = some (.cells (Array.replicate 32 (.int .u8 0)) 31 (0, 0)) by rw [e9, hHb]; exact heap_alloc_new _ _)
    have HHG := Lib.hid (show G < HHb by rw [hHb]; exact HW.out.lt)
    have HHO := Lib.hid (show OO < HHb by rw [hHb]; exact HOL.out)
    have HHw := Lib.hid (show w.heap.size ≤ HHb by rw [hHb]; exact HG.out.size)
    rw [← e9, ← hHb]
    try simp only [Act.put, pa, pb, pc]
    clear e9 hHb
    have HW := Lib.hid (HW.out.later hb)
    have HG := Lib.hid (grown_later HG.out hb)
    have HO := Lib.hid (NumAt.later hb HO.out)
    have HOF := Lib.hid (HOF.out.later hb HOL.out)
    have HOL := Lib.hid (Nat.lt_of_lt_of_le HOL.out hb.size)
    have HX := Lib.hid (HX.out.later hb)
    have HC := Lib.hid (cell_on HC.out hb)
    clear hb
    refine hK.out _ _ (⟨HW.out.as_, HW.out.all⟩) (fun hHeld => ?_)
    clear hK K
    try simp only [Act.put, pa, pb, pc]
    refine WT.step rfl (fun K hK => ?_)
    refine ite_then (by rfl) ?_
    refine oper_append_fits _ _ 87 rfl G 46 i0 1 Try.underlying87 HI.out hi1 G ls.length cap vs rfl HW.out.row ⟨C1, 0, none⟩ 1 1 [.slice (some ⟨B1, 0, none⟩) 1 1] rfl rfl (fun j u hj => ?_) (fun u hu => ?_) HW.out.room (fun w5 hrow hgr => ?_)
    ·have hj0 : j = 0 := by have := (List.getElem?_eq_some_iff.1 hj).1; simp at this; omega
     subst hj0
     simp only [List.getElem?_cons_zero, Option.some.injEq] at hj
     subst hj
     rw [Addr.add_mid]
     exact HC.out
    ·simp only [List.mem_singleton] at hu
     subst hu
     rfl
    have HR := Lib.hid hrow
    have HX := Lib.hid (HX.out.block fun g9 hg9 => hgr.block g9 (by have e9 : B1 = g9 := by injection hg9
                                                                    rw [← e9]; exact kat_lt HX.out) (fun e8 => by have e9 : B1 = g9 := by injection hg9
                                                                                                                  have e7 : g9 = G := by injection e8
                                                                                                                  have := HB1.out; omega))
    have HO := Lib.hid (show NumAt w5 OO 0 from fun j hj => (hgr.cell (HO.out j hj) (fun e => by have e7 : OO = G := by injection e
                                                                                                 have := HOG.out; omega)))
    have HOF := Lib.hid (show FreeN w5 OO 4 from fun j hj => (frozen_block (hgr.block OO HOL.out (fun e => by have e7 : OO = G := by injection e
                                                                                                              have := HOG.out; omega))).trans (HOF.out j hj))
    have HOL := Lib.hid (Nat.lt_of_lt_of_le HOL.out hgr.size)
    have HH := Lib.hid ((hgr.block HHb (Array.getElem?_eq_some_iff.1 HH.out).1 (fun e => by have e7 : HHb = G := by injection e
                                                                                            have := HHG.out; omega)).trans HH.out)
    have HW := Lib.hid (HW.out.grown hgr (row_less hrow))
    have HG := Lib.hid (grown_trans HG.out hgr)
    try simp only [Act.put, pa, pb, pc]
    clear hrow hgr
    refine hK.out _ _ (⟨HW.out.as_, HW.out.all⟩) (fun hHeld => ?_)
    clear hK K
    try simp only [Act.put, pa, pb, pc]
    refine WT.step rfl (fun K hK => ?_)
    go_simp
    refine (HP.out _ B1 HW.out HR.out HX.out).mono ?_
    rintro _ w6 ⟨rfl, hb⟩
    have HW := Lib.hid (HW.out.later hb)
    have HG := Lib.hid (grown_later HG.out hb)
    have HO := Lib.hid (NumAt.later hb HO.out)
    have HOF := Lib.hid (HOF.out.later hb HOL.out)
    have HOL := Lib.hid (Nat.lt_of_lt_of_le HOL.out hb.size)
    have HX := Lib.hid (HX.out.later hb)
    have HR := Lib.hid (row_later HR.out hb)
    have HH := Lib.hid ((hb.block HHb (Array.getElem?_eq_some_iff.1 HH.out).1).trans HH.out)
    clear hb
    refine hK.out _ _ (⟨HW.out.as_, HW.out.all⟩) (fun hHeld => ?_)
    clear hK K
    try simp only [Act.put, pa, pb, pc]
    refine WT.step rfl (fun K hK => ?_)
    refine ite_then (by rfl) ?_
    refine oper_store_row _ _ _ rfl HHb _ _ _ HH.out rfl rfl hszH (by simp [cellsK_length, HTL.out]) (cellsK_all _ _) ?_
    obtain ⟨w7, e9⟩ : ∃ w9, w9 = w6.setRow HHb (cellsK .u8 T).toArray := ⟨_, rfl⟩
    have HH := Lib.hid (show w7.heap[HHb]? = some (.cells (cellsK .u8 T).toArray 31 (0, 0)) by rw [e9]; exact setRow_heap _ _ _ _ _ _ HH.out)
    have hgr : ∀ k, k ≠ HHb → w7.heap[k]? = w6.heap[k]? := fun k hk => by rw [e9]; exact setRow_other _ HHb k _ hk
    have hgs : w6.grownBy w7 (some HHb) := by rw [e9]; exact ⟨rfl, rfl, rfl, by simp [World.setRow], fun k _ hk => setRow_other _ HHb k _ (fun e => hk (by rw [e]))⟩
    have HW := Lib.hid (half_keep HW.out hgs HHG.out (ne_of_old HAS.out HHw.out) (ne_of_old HAL.out HHw.out) (Nat.le_trans HWB.out HHw.out))
    have HG := Lib.hid (show w.grownBy w7 (some G) from ⟨hgs.os.trans HG.out.os, hgs.tape.trans HG.out.tape, hgs.output.trans HG.out.output, Nat.le_trans HG.out.size hgs.size, fun k hk hne => (hgr k (by have := HHw.out; omega)).trans (HG.out.block k hk hne)⟩)
    have HO := Lib.hid (show NumAt w7 OO 0 from fun j hj => hgs.cell (HO.out j hj) (fun e => by have e7 : OO = HHb := by injection e
                                                                                                have := HHO.out; omega))
    have HOF := Lib.hid (show FreeN w7 OO 4 from fun j hj => (frozen_block (hgr OO (by have := HHO.out; omega))).trans (HOF.out j hj))
    have HOL := Lib.hid (Nat.lt_of_lt_of_le HOL.out hgs.size)
    rw [← e9]
    try simp only [Act.put, pa, pb, pc]
    clear e9 hgr hgs
    refine hK.out _ _ (⟨HW.out.as_, HW.out.all⟩) (fun hHeld => ?_)
    clear hK K
    try simp only [Act.put, pa, pb, pc]
    refine WT.done ?_
    clear hHeld HX HR HB1
    go_wp2_with fail
    refine (GetLong_any _ (kat_row HH.out HTL.out) HTB.out (by rw [HTL.out]; decide)).mono ?_
    rintro _ w8 ⟨rfl, hb⟩
    rw [HNV.out]
    have HW := Lib.hid (HW.out.later hb)
    have HG := Lib.hid (grown_later HG.out hb)
    have HO := Lib.hid (NumAt.later hb HO.out)
    have HOF := Lib.hid (HOF.out.later hb HOL.out)
    have HOL := Lib.hid (Nat.lt_of_lt_of_le HOL.out hb.size)
    have HH := Lib.hid ((hb.block HHb (Array.getElem?_eq_some_iff.1 HH.out).1).trans HH.out)
    clear hb
    unfold numV words
    dsimp only
    go_upto_region 3 with fail
    obtain ⟨w9, e9⟩ : ∃ w9, w9 = w8.alloc (.cells #[.int .u64 (dgt W64 X 0), .int .u64 (dgt W64 X 1), .int .u64 (dgt W64 X 2), .int .u64 (dgt W64 X 3)] 24) := ⟨_, rfl⟩
    obtain ⟨VV, hVV⟩ : ∃ b, b = w8.heap.size := ⟨_, rfl⟩
    have hb : Below w8.heap.size w8 w9 := by rw [e9]; exact (Below.refl _ _).alloc (Nat.le_refl _) _
    have HV := Lib.hid (show NumAt w9 VV X by rw [e9, hVV]; exact NumAt.new _ _ _ _ rfl)
    rw [← e9, ← hVV]
    clear e9 hVV
    have HW := Lib.hid (HW.out.later hb)
    have HG := Lib.hid (grown_later HG.out hb)
    have HO := Lib.hid (NumAt.later hb HO.out)
    have HOF := Lib.hid (HOF.out.later hb HOL.out)
    have HOL := Lib.hid (Nat.lt_of_lt_of_le HOL.out hb.size)
    have HH := Lib.hid ((hb.block HHb (Array.getElem?_eq_some_iff.1 HH.out).1).trans HH.out)
    clear hb
    obtain ⟨r0, r1, r2, r3⟩ := num4 HV.out
    obtain ⟨c0, c1, c2, c3, f0, f1, f2, f3⟩ := num4f HO.out HOF.out
    go_wp2_with fail
    have HGS := Lib.hid (only_setS (only_setS (only_setS (only_setS (World.grownBy.refl w9 (some OO)) 0 (.int .u64 (dgt W64 X 0))) 1 (.int .u64 (dgt W64 X 1))) 2 (.int .u64 (dgt W64 X 2))) 3 (.int .u64 (dgt W64 X 3)))
    have HW := Lib.hid (half_keep HW.out HGS.out HOG.out (ne_of_old HAS.out (Nat.le_of_eq HOO.out.symm)) (ne_of_old HAL.out (Nat.le_of_eq HOO.out.symm)) (Nat.le_trans HWB.out (Nat.le_of_eq HOO.out.symm)))
    have HG := Lib.hid (grown_over HG.out HGS.out (Nat.le_of_eq HOO.out.symm))
    obtain ⟨g0, g1, g2, g3⟩ := num4 (NumAt.set4 HO.out X)
    refine bodyPost_ret (v := .agg #[.int .u64 (dgt W64 X 0), .int .u64 (dgt W64 X 1), .int .u64 (dgt W64 X 2), .int .u64 (dgt W64 X 3)]) ?_ rfl ⟨rfl, HW.out, HG.out⟩
    simp [results, Try.results34, go_sem, g0, g1, g2, g3]
  ·refine ite_then (by rfl) ?_
   refine oper_made (v := .pointer (some ⟨w2.heap.size, 0, none⟩)) (w' := w2.alloc (.cells (Array.replicate 32 (.int .u8 0)) 31)) (by kernel_rfl) ?_
   obtain ⟨w3, e9⟩ : ∃ w9, w9 = w2.alloc (.cells (Array.replicate 32 (.int .u8 0)) 31) := ⟨_, rfl⟩
   obtain ⟨HHb, hHb⟩ : ∃ b, b = w2.heap.size := ⟨_, rfl⟩
   have hb : Below w2.heap.size w2 w3 := by rw [e9]; exact (Below.refl _ _).alloc (Nat.le_refl _) _
   have HH := Lib.hid (show w3.heap[HHb]? = some (.cells (Array.replicate 32 (.int .u8 0)) 31 (0, 0)) by rw [e9, hHb]; exact heap_alloc_new _ _)
   have HHG := Lib.hid (show G < HHb by rw [hHb]; exact HW.out.lt)
   have HHO := Lib.hid (show OO < HHb by rw [hHb]; exact HOL.out)
   have HHw := Lib.hid (show w.heap.size ≤ HHb by rw [hHb]; exact HG.out.size)
   rw [← e9, ← hHb]
   try simp only [Act.put, pa, pb, pc]
   clear e9 hHb
   have HW := Lib.hid (HW.out.later hb)
   have HG := Lib.hid (grown_later HG.out hb)
   have HO := Lib.hid (NumAt.later hb HO.out)
   have HOF := Lib.hid (HOF.out.later hb HOL.out)
   have HOL := Lib.hid (Nat.lt_of_lt_of_le HOL.out hb.size)
   have HX := Lib.hid (HX.out.later hb)
   clear hb
   refine hK.out _ _ (⟨HW.out.as_, HW.out.all⟩) (fun hHeld => ?_)
   clear hK K
   try simp only [Act.put, pa, pb, pc]
   refine WT.step rfl (fun K hK => ?_)
   go_simp
   obtain ⟨w4, e9⟩ : ∃ w9, w9 = w3.alloc (.cells #[.slice (some ⟨B1, 0, none⟩) 1 1] 46) := ⟨_, rfl⟩
   obtain ⟨C1, hC1⟩ : ∃ b, b = w3.heap.size := ⟨_, rfl⟩
   have hb : Below w3.heap.size w3 w4 := by rw [e9]; exact (Below.refl _ _).alloc (Nat.le_refl _) _
   have HC := Lib.hid (show w4.cell? ⟨C1, 0, none⟩ = some (.slice (some ⟨B1, 0, none⟩) 1 1) by rw [e9, hC1, cell_of_row _ _ _ _ _ _ (heap_alloc_new _ _)]; rfl)
   have HC1 := Lib.hid (show G < C1 by rw [hC1]; exact HW.out.lt)
   rw [← e9, ← hC1]
   clear e9 hC1
   have HW := Lib.hid (HW.out.later hb)
   have HG := Lib.hid (grown_later HG.out hb)
   have HO := Lib.hid (NumAt.later hb HO.out)
   have HOF := Lib.hid (HOF.out.later hb HOL.out)
   have HOL := Lib.hid (Nat.lt_of_lt_of_le HOL.out hb.size)
   have HX := Lib.hid (HX.out.later hb)
   have HH := Lib.hid ((hb.block HHb (Array.getElem?_eq_some_iff.1 HH.out).1).trans HH.out)
   clear hb
   refine hK.out _ _ (⟨HW.out.as_, HW.out.all⟩) (fun hHeld => ?_)
   clear hK K
   try simp only [Act.put, pa, pb, pc]
   refine WT.step rfl (fun K hK => ?_)
   refine ite_then (by rfl) ?_
   refine oper_append_fits _ _ 87 rfl G 46 i0 1 Try.underlying87 HI.out hi1 G ls.length cap vs rfl HW.out.row ⟨C1, 0, none⟩ 1 1 [.slice (some ⟨B1, 0, none⟩) 1 1] rfl rfl (fun j u hj => ?_) (fun u hu => ?_) HW.out.room (fun w5 hrow hgr => ?_)
   ·have hj0 : j = 0 := by have := (List.getElem?_eq_some_iff.1 hj).1; simp at this; omega
    subst hj0
    simp only [List.getElem?_cons_zero, Option.some.injEq] at hj
    subst hj
    rw [Addr.add_mid]
    exact HC.out
   ·simp only [List.mem_singleton] at hu
    subst hu
    rfl
   have HR := Lib.hid hrow
   have HX := Lib.hid (HX.out.block fun g9 hg9 => hgr.block g9 (by have e9 : B1 = g9 := by injection hg9
                                                                   rw [← e9]; exact kat_lt HX.out) (fun e8 => by have e9 : B1 = g9 := by injection hg9
                                                                                                                 have e7 : g9 = G := by injection e8
                                                                                                                 have := HB1.out; omega))
   have HO := Lib.hid (show NumAt w5 OO 0 from fun j hj => (hgr.cell (HO.out j hj) (fun e => by have e7 : OO = G := by injection e
                                                                                                have := HOG.out; omega)))
   have HOF := Lib.hid (show FreeN w5 OO 4 from fun j hj => (frozen_block (hgr.block OO HOL.out (fun e => by have e7 : OO = G := by injection e
                                                                                                             have := HOG.out; omega))).trans (HOF.out j hj))
   have HOL := Lib.hid (Nat.lt_of_lt_of_le HOL.out hgr.size)
   have HH := Lib.hid ((hgr.block HHb (Array.getElem?_eq_some_iff.1 HH.out).1 (fun e => by have e7 : HHb = G := by injection e
                                                                                           have := HHG.out; omega)).trans HH.out)
   have HW := Lib.hid (HW.out.grown hgr (row_less hrow))
   have HG := Lib.hid (grown_trans HG.out hgr)
   try simp only [Act.put, pa, pb, pc]
   clear hrow hgr
   refine hK.out _ _ (⟨HW.out.as_, HW.out.all⟩) (fun hHeld => ?_)
   clear hK K
   try simp only [Act.put, pa, pb, pc]
   refine WT.step rfl (fun K hK => ?_)
   go_simp
   refine (HP.out _ B1 HW.out HR.out HX.out).mono ?_
   rintro _ w6 ⟨rfl, hb⟩
   have HW := Lib.hid (HW.out.later hb)
   have HG := Lib.hid (grown_later HG.out hb)
   have HO := Lib.hid (NumAt.later hb HO.out)
   have HOF := Lib.hid (HOF.out.later hb HOL.out)
   have HOL := Lib.hid (Nat.lt_of_lt_of_le HOL.out hb.size)
   have HX := Lib.hid (HX.out.later hb)
   have HR := Lib.hid (row_later HR.out hb)
   have HH := Lib.hid ((hb.block HHb (Array.getElem?_eq_some_iff.1 HH.out).1).trans HH.out)
   clear hb
   refine hK.out _ _ (⟨HW.out.as_, HW.out.all⟩) (fun hHeld => ?_)
   clear hK K
   try simp only [Act.put, pa, pb, pc]
   refine WT.step rfl (fun K hK => ?_)
   refine ite_then (by rfl) ?_
   refine oper_store_row _ _ _ rfl HHb _ _ _ HH.out rfl rfl hszH (by simp [cellsK_length, HTL.out]) (cellsK_all _ _) ?_
   obtain ⟨w7, e9⟩ : ∃ w9, w9 = w6.setRow HHb (cellsK .u8 T).toArray := ⟨_, rfl⟩
   have HH := Lib.hid (show w7.heap[HHb]? = some (.cells (cellsK .u8 T).toArray 31 (0, 0)) by rw [e9]; exact setRow_heap _ _ _ _ _ _ HH.out)
   have hgr : ∀ k, k ≠ HHb → w7.heap[k]? = w6.heap[k]? := fun k hk => by rw [e9]; exact setRow_other _ HHb k _ hk
   have hgs : w6.grownBy w7 (some HHb) := by rw [e9]; exact ⟨rfl, rfl, rfl, by simp [World.setRow], fun k _ hk => setRow_other _ HHb k _ (fun e => hk (by rw [e]))⟩
   have HW := Lib.hid (half_keep HW.out hgs HHG.out (ne_of_old HAS.out HHw.out) (ne_of_old HAL.out HHw.out) (Nat.le_trans HWB.out HHw.out))
   have HG := Lib.hid (show w.grownBy w7 (some G) from ⟨hgs.os.trans HG.out.os, hgs.tape.trans HG.out.tape, hgs.output.trans HG.out.output, Nat.le_trans HG.out.size hgs.size, fun k hk hne => (hgr k (by have := HHw.out; omega)).trans (HG.out.block k hk hne)⟩)
   have HO := Lib.hid (show NumAt w7 OO 0 from fun j hj => hgs.cell (HO.out j hj) (fun e => by have e7 : OO = HHb := by injection e
                                                                                               have := HHO.out; omega))
   have HOF := Lib.hid (show FreeN w7 OO 4 from fun j hj => (frozen_block (hgr OO (by have := HHO.out; omega))).trans (HOF.out j hj))
   have HOL := Lib.hid (Nat.lt_of_lt_of_le HOL.out hgs.size)
   rw [← e9]
   try simp only [Act.put, pa, pb, pc]
   clear e9 hgr hgs
   refine hK.out _ _ (⟨HW.out.as_, HW.out.all⟩) (fun hHeld => ?_)
   clear hK K
   try simp only [Act.put, pa, pb, pc]
   refine WT.done ?_
   clear hHeld HX HR HB1
   go_wp2_with fail
   refine (GetLong_any _ (kat_row HH.out HTL.out) HTB.out (by rw [HTL.out]; decide)).mono ?_
   rintro _ w8 ⟨rfl, hb⟩
   rw [HNV.out]
   have HW := Lib.hid (HW.out.later hb)
   have HG := Lib.hid (grown_later HG.out hb)
   have HO := Lib.hid (NumAt.later hb HO.out)
   have HOF := Lib.hid (HOF.out.later hb HOL.out)
   have HOL := Lib.hid (Nat.lt_of_lt_of_le HOL.out hb.size)
   have HH := Lib.hid ((hb.block HHb (Array.getElem?_eq_some_iff.1 HH.out).1).trans HH.out)
   clear hb
   unfold numV words
   dsimp only
   go_upto_region 3 with fail
   obtain ⟨w9, e9⟩ : ∃ w9, w9 = w8.alloc (.cells #[.int .u64 (dgt W64 X 0), .int .u64 (dgt W64 X 1), .int .u64 (dgt W64 X 2), .int .u64 (dgt W64 X 3)] 24) := ⟨_, rfl⟩
   obtain ⟨VV, hVV⟩ : ∃ b, b = w8.heap.size := ⟨_, rfl⟩
   have hb : Below w8.heap.size w8 w9 := by rw [e9]; exact (Below.refl _ _).alloc (Nat.le_refl _) _
   have HV := Lib.hid (show NumAt w9 VV X by rw [e9, hVV]; exact NumAt.new _ _ _ _ rfl)
   rw [← e9, ← hVV]
   clear e9 hVV
   have HW := Lib.hid (HW.out.later hb)
   have HG := Lib.hid (grown_later HG.out hb)
   have HO := Lib.hid (NumAt.later hb HO.out)
   have HOF := Lib.hid (HOF.out.later hb HOL.out)
   have HOL := Lib.hid (Nat.lt_of_lt_of_le HOL.out hb.size)
   have HH := Lib.hid ((hb.block HHb (Array.getElem?_eq_some_iff.1 HH.out).1).trans HH.out)
   clear hb
   obtain ⟨r0, r1, r2, r3⟩ := num4 HV.out
   obtain ⟨c0, c1, c2, c3, f0, f1, f2, f3⟩ := num4f HO.out HOF.out
   go_wp2_with fail
   have HGS := Lib.hid (only_setS (only_setS (only_setS (only_setS (World.grownBy.refl w9 (some OO)) 0 (.int .u64 (dgt W64 X 0))) 1 (.int .u64 (dgt W64 X 1))) 2 (.int .u64 (dgt W64 X 2))) 3 (.int .u64 (dgt W64 X 3)))
   have HW := Lib.hid (half_keep HW.out HGS.out HOG.out (ne_of_old HAS.out (Nat.le_of_eq HOO.out.symm)) (ne_of_old HAL.out (Nat.le_of_eq HOO.out.symm)) (Nat.le_trans HWB.out (Nat.le_of_eq HOO.out.symm)))
   have HG := Lib.hid (grown_over HG.out HGS.out (Nat.le_of_eq HOO.out.symm))
   obtain ⟨g0, g1, g2, g3⟩ := num4 (NumAt.set4 HO.out X)
   refine bodyPost_ret (v := .agg #[.int .u64 (dgt W64 X 0), .int .u64 (dgt W64 X 1), .int .u64 (dgt W64 X 2), .int .u64 (dgt W64 X 3)]) ?_ rfl ⟨rfl, HW.out, HG.out⟩
   simp [results, Try.results34, go_sem, g0, g1, g2, g3]
 ·refine ite_then (by rfl) ?_
  refine oper_made (v := .pointer (some ⟨w0.heap.size, 0, none⟩)) (w' := w0.alloc (.cells (Array.replicate 32 (.int .u8 0)) 31)) (by kernel_rfl) ?_
  obtain ⟨w2, e9⟩ : ∃ w9, w9 = w0.alloc (.cells (Array.replicate 32 (.int .u8 0)) 31) := ⟨_, rfl⟩
  obtain ⟨HHb, hHb⟩ : ∃ b, b = w0.heap.size := ⟨_, rfl⟩
  have hb : Below w0.heap.size w0 w2 := by rw [e9]; exact (Below.refl _ _).alloc (Nat.le_refl _) _
  have HH := Lib.hid (show w2.heap[HHb]? = some (.cells (Array.replicate 32 (.int .u8 0)) 31 (0, 0)) by rw [e9, hHb]; exact heap_alloc_new _ _)
  have HHG := Lib.hid (show G < HHb by rw [hHb]; exact HW.out.lt)
  have HHO := Lib.hid (show OO < HHb by rw [hHb]; exact HOL.out)
  have HHw := Lib.hid (show w.heap.size ≤ HHb by rw [hHb]; exact HG.out.size)
  rw [← e9, ← hHb]
  try simp only [Act.put, pa, pb, pc]
  clear e9 hHb
  have HW := Lib.hid (HW.out.later hb)
  have HG := Lib.hid (grown_later HG.out hb)
  have HO := Lib.hid (NumAt.later hb HO.out)
  have HOF := Lib.hid (HOF.out.later hb HOL.out)
  have HOL := Lib.hid (Nat.lt_of_lt_of_le HOL.out hb.size)
  clear hb
  refine hK.out _ _ (⟨HW.out.as_, HW.out.all⟩) (fun hHeld => ?_)
  clear hK K
  try simp only [Act.put, pa, pb, pc]
  refine WT.step rfl (fun K hK => ?_)
  go_simp
  obtain ⟨w3, e9⟩ : ∃ w9, w9 = w2.alloc (.cells #[.int .u8 x] 5) := ⟨_, rfl⟩
  obtain ⟨B1, hB1⟩ : ∃ b, b = w2.heap.size := ⟨_, rfl⟩
  have hb : Below w2.heap.size w2 w3 := by rw [e9]; exact (Below.refl _ _).alloc (Nat.le_refl _) _
  have HX := Lib.hid (show KAt .u8 w3 (.slice (some ⟨B1, 0, none⟩) 1 1) [x] by rw [e9, hB1]; exact KAt.made w2 [x] (by unfold maxLen; simp) _ rfl _)
  have HB1 := Lib.hid (show G < B1 by rw [hB1]; exact HW.out.lt)
  rw [← e9, ← hB1]
  clear e9 hB1
  have HW := Lib.hid (HW.out.later hb)
  have HG := Lib.hid (grown_later HG.out hb)
  have HO := Lib.hid (NumAt.later hb HO.out)
  have HOF := Lib.hid (HOF.out.later hb HOL.out)
  have HOL := Lib.hid (Nat.lt_of_lt_of_le HOL.out hb.size)
  have HH := Lib.hid ((hb.block HHb (Array.getElem?_eq_some_iff.1 HH.out).1).trans HH.out)
  clear hb
  refine hK.out _ _ (⟨HW.out.as_, HW.out.all⟩) (fun hHeld => ?_)
  clear hK K
  try simp only [Act.put, pa, pb, pc]
  refine WT.step rfl (fun K hK => ?_)
  go_simp
  obtain ⟨w4, e9⟩ : ∃ w9, w9 = w3.alloc (.cells #[.slice (some ⟨B1, 0, none⟩) 1 1] 46) := ⟨_, rfl⟩
  obtain ⟨C1, hC1⟩ : ∃ b, b = w3.heap.size := ⟨_, rfl⟩
  have hb : Below w3.heap.size w3 w4 := by rw [e9]; exact (Below.refl _ _).alloc (Nat.le_refl _) _
  have HC := Lib.hid (show w4.cell? ⟨C1, 0, none⟩ = some (.slice (some ⟨B1, 0, none⟩) 1 1) by rw [e9, hC1, cell_of_row _ _ _ _ _ _ (heap_alloc_new _ _)]; rfl)
  have HC1 := Lib.hid (show G < C1 by rw [hC1]; exact HW.out.lt)
  rw [← e9, ← hC1]
  clear e9 hC1
  have HW := Lib.hid (HW.out.later hb)
  have HG := Lib.hid (grown_later HG.out hb)
  have HO := Lib.hid (NumAt.later hb HO.out)
  have HOF := Lib.hid (HOF.out.later hb HOL.out)
  have HOL := Lib.hid (Nat.lt_of_lt_of_le HOL.out hb.size)
  have HX := Lib.hid (HX.out.later hb)
  have HH := Lib.hid ((hb.block HHb (Array.getElem?_eq_some_iff.1 HH.out).1).trans HH.out)
  clear hb
  refine hK.out _ _ (⟨HW.out.as_, HW.out.all⟩) (fun hHeld => ?_)
  clear hK K
  try simp only [Act.put, pa, pb, pc]
  refine WT.step rfl (fun K hK => ?_)
  refine ite_then (by rfl) ?_
  refine oper_append_fits _ _ 87 rfl G 46 i0 1 Try.underlying87 HI.out hi1 G ls.length cap vs rfl HW.out.row ⟨C1, 0, none⟩ 1 1 [.slice (some ⟨B1, 0, none⟩) 1 1] rfl rfl (fun j u hj => ?_) (fun u hu => ?_) HW.out.room (fun w5 hrow hgr => ?_)
  ·have hj0 : j = 0 := by have := (List.getElem?_eq_some_iff.1 hj).1; simp at this; omega
   subst hj0
   simp only [List.getElem?_cons_zero, Option.some.injEq] at hj
   subst hj
   rw [Addr.add_mid]
   exact HC.out
  ·simp only [List.mem_singleton] at hu
   subst hu
   rfl
  have HR := Lib.hid hrow
  have HX := Lib.hid (HX.out.block fun g9 hg9 => hgr.block g9 (by have e9 : B1 = g9 := by injection hg9
                                                                  rw [← e9]; exact kat_lt HX.out) (fun e8 => by have e9 : B1 = g9 := by injection hg9
                                                                                                                have e7 : g9 = G := by injection e8
                                                                                                                have := HB1.out; omega))
  have HO := Lib.hid (show NumAt w5 OO 0 from fun j hj => (hgr.cell (HO.out j hj) (fun e => by have e7 : OO = G := by injection e
                                                                                               have := HOG.out; omega)))
  have HOF := Lib.hid (show FreeN w5 OO 4 from fun j hj => (frozen_block (hgr.block OO HOL.out (fun e => by have e7 : OO = G := by injection e
                                                                                                            have := HOG.out; omega))).trans (HOF.out j hj))
  have HOL := Lib.hid (Nat.lt_of_lt_of_le HOL.out hgr.size)
  have HH := Lib.hid ((hgr.block HHb (Array.getElem?_eq_some_iff.1 HH.out).1 (fun e => by have e7 : HHb = G := by injection e
                                                                                          have := HHG.out; omega)).trans HH.out)
  have HW := Lib.hid (HW.out.grown hgr (row_less hrow))
  have HG := Lib.hid (grown_trans HG.out hgr)
  try simp only [Act.put, pa, pb, pc]
  clear hrow hgr
  refine hK.out _ _ (⟨HW.out.as_, HW.out.all⟩) (fun hHeld => ?_)
  clear hK K
  try simp only [Act.put, pa, pb, pc]
  refine WT.step rfl (fun K hK => ?_)
  go_simp
  refine (HP.out _ B1 HW.out HR.out HX.out).mono ?_
  rintro _ w6 ⟨rfl, hb⟩
  have HW := Lib.hid (HW.out.later hb)
  have HG := Lib.hid (grown_later HG.out hb)
  have HO := Lib.hid (NumAt.later hb HO.out)
  have HOF := Lib.hid (HOF.out.later hb HOL.out)
  have HOL := Lib.hid (Nat.lt_of_lt_of_le HOL.out hb.size)
  have HX := Lib.hid (HX.out.later hb)
  have HR := Lib.hid (row_later HR.out hb)
  have HH := Lib.hid ((hb.block HHb (Array.getElem?_eq_some_iff.1 HH.out).1).trans HH.out)
  clear hb
  refine hK.out _ _ (⟨HW.out.as_, HW.out.all⟩) (fun hHeld => ?_)
  clear hK K
  try simp only [Act.put, pa, pb, pc]
  refine WT.step rfl (fun K hK => ?_)
  refine ite_then (by rfl) ?_
  refine oper_store_row _ _ _ rfl HHb _ _ _ HH.out rfl rfl hszH (by simp [cellsK_length, HTL.out]) (cellsK_all _ _) ?_
  obtain ⟨w7, e9⟩ : ∃ w9, w9 = w6.setRow HHb (cellsK .u8 T).toArray := ⟨_, rfl⟩
  have HH := Lib.hid (show w7.heap[HHb]? = some (.cells (cellsK .u8 T).toArray 31 (0, 0)) by rw [e9]; exact setRow_heap _ _ _ _ _ _ HH.out)
  have hgr : ∀ k, k ≠ HHb → w7.heap[k]? = w6.heap[k]? := fun k hk => by rw [e9]; exact setRow_other _ HHb k _ hk
  have hgs : w6.grownBy w7 (some HHb) := by rw [e9]; exact ⟨rfl, rfl, rfl, by simp [World.setRow], fun k _ hk => setRow_other _ HHb k _ (fun e => hk (by rw [e]))⟩
  have HW := Lib.hid (half_keep HW.out hgs HHG.out (ne_of_old HAS.out HHw.out) (ne_of_old HAL.out HHw.out) (Nat.le_trans HWB.out HHw.out))
  have HG := Lib.hid (show w.grownBy w7 (some G) from ⟨hgs.os.trans HG.out.os, hgs.tape.trans HG.out.tape, hgs.output.trans HG.out.output, Nat.le_trans HG.out.size hgs.size, fun k hk hne => (hgr k (by have := HHw.out; omega)).trans (HG.out.block k hk hne)⟩)
  have HO := Lib.hid (show NumAt w7 OO 0 from fun j hj => hgs.cell (HO.out j hj) (fun e => by have e7 : OO = HHb := by injection e
                                                                                              have := HHO.out; omega))
  have HOF := Lib.hid (show FreeN w7 OO 4 from fun j hj => (frozen_block (hgr OO (by have := HHO.out; omega))).trans (HOF.out j hj))
  have HOL := Lib.hid (Nat.lt_of_lt_of_le HOL.out hgs.size)
  rw [← e9]
  try simp only [Act.put, pa, pb, pc]
  clear e9 hgr hgs
  refine hK.out _ _ (⟨HW.out.as_, HW.out.all⟩) (fun hHeld => ?_)
  clear hK K
  try simp only [Act.put, pa, pb, pc]
  refine WT.done ?_
  clear hHeld HX HR HB1
  go_wp2_with fail
  refine (GetLong_any _ (kat_row HH.out HTL.out) HTB.out (by rw [HTL.out]; decide)).mono ?_
  rintro _ w8 ⟨rfl, hb⟩
  rw [HNV.out]
  have HW := Lib.hid (HW.out.later hb)
  have HG := Lib.hid (grown_later HG.out hb)
  have HO := Lib.hid (NumAt.later hb HO.out)
  have HOF := Lib.hid (HOF.out.later hb HOL.out)
  have HOL := Lib.hid (Nat.lt_of_lt_of_le HOL.out hb.size)
  have HH := Lib.hid ((hb.block HHb (Array.getElem?_eq_some_iff.1 HH.out).1).trans HH.out)
  clear hb
  unfold numV words
  dsimp only
  go_upto_region 3 with fail
  obtain ⟨w9, e9⟩ : ∃ w9, w9 = w8.alloc (.cells #[.int .u64 (dgt W64 X 0), .int .u64 (dgt W64 X 1), .int .u64 (dgt W64 X 2), .int .u64 (dgt W64 X 3)] 24) := ⟨_, rfl⟩
  obtain ⟨VV, hVV⟩ : ∃ b, b = w8.heap.size := ⟨_, rfl⟩
  have hb : Below w8.heap.size w8 w9 := by rw [e9]; exact (Below.refl _ _).alloc (Nat.le_refl _) _
  have HV := Lib.hid (show NumAt w9 VV X by rw [e9, hVV]; exact NumAt.new _ _ _ _ rfl)
  rw [← e9, ← hVV]
  clear e9 hVV
  have HW := Lib.hid (HW.out.later hb)
  have HG := Lib.hid (grown_later HG.out hb)
  have HO := Lib.hid (NumAt.later hb HO.out)
  have HOF := Lib.hid (HOF.out.later hb HOL.out)
  have HOL := Lib.hid (Nat.lt_of_lt_of_le HOL.out hb.size)
  have HH := Lib.hid ((hb.block HHb (Array.getElem?_eq_some_iff.1 HH.out).1).trans HH.out)
  clear hb
  obtain ⟨r0, r1, r2, r3⟩ := num4 HV.out
  obtain ⟨c0, c1, c2, c3, f0, f1, f2, f3⟩ := num4f HO.out HOF.out
  go_wp2_with fail
  have HGS := Lib.hid (only_setS (only_setS (only_setS (only_setS (World.grownBy.refl w9 (some OO)) 0 (.int .u64 (dgt W64 X 0))) 1 (.int .u64 (dgt W64 X 1))) 2 (.int .u64 (dgt W64 X 2))) 3 (.int .u64 (dgt W64 X 3)))
  have HW := Lib.hid (half_keep HW.out HGS.out HOG.out (ne_of_old HAS.out (Nat.le_of_eq HOO.out.symm)) (ne_of_old HAL.out (Nat.le_of_eq HOO.out.symm)) (Nat.le_trans HWB.out (Nat.le_of_eq HOO.out.symm)))
  have HG := Lib.hid (grown_over HG.out HGS.out (Nat.le_of_eq HOO.out.symm))
  obtain ⟨g0, g1, g2, g3⟩ := num4 (NumAt.set4 HO.out X)
  refine bodyPost_ret (v := .agg #[.int .u64 (dgt W64 X 0), .int .u64 (dgt W64 X 1), .int .u64 (dgt W64 X 2), .int .u64 (dgt W64 X 3)]) ?_ rfl ⟨rfl, HW.out, HG.out⟩
  simp [results, Try.results34, go_sem, g0, g1, g2, g3]
end Go.Proofs.Ytpoocnkflmimdaa
namespace Go.Proofs.Ytpoocnkflmimdaa
open Go.ChangeShapes Go.WideShapes Go.ChangeAt Go.RowKit

theorem infoS9 : (Try.prog.info? 46).map (fun i => (i.zero, i.size, i.bytes)) = some (some (.slice none 0 0), 1, 24) := by kernel_rfl
/-- What the hash of parts, with a byte behind them, is as a number. -/
def halfN (s : List Nat) (ls : List (List Nat)) (x : Nat) : Nat := num (shaOf (hashed s (ls ++ [[x]])))
/-- A hash of parts as a number below m. -/
def numberN (m : Nat) (s : List Nat) (ls : List (List Nat)) : Nat := (halfN s ls 0 * M256 + halfN s ls 1) % m
theorem halfN_lt (s : List Nat) (ls : List (List Nat)) (x : Nat) : halfN s ls x < M256 := num_lt256 (shaOf_bytes _) (shaOf_length _)
theorem cellS_one : ∀ {vs : List Value}, (∀ v ∈ vs, ∃ a n c, v = .slice a n c) → ∀ v ∈ vs, v.oneCell' = true := fun h v hv => by
  obtain ⟨a, n, c, rfl⟩ := h v hv
  rfl
theorem copy_all {w : World} {ops : Array Oper} {rest : List Oper} {o : Oper} {a : Act} {Q : Exit → Act → World → Prop} (hgd : o.guard = none) (d s : Operand) (ho : o.op = .call { callee := .builtin .copy, args := #[d, s], argTypes := #[87, 87] })
    {G n n1 g ob cap : Nat} {vs : List Value} (hd : a.eval d = .slice (some ⟨G, 0, none⟩) n n1) (hs : a.eval s = .slice (some ⟨g, ob, none⟩) n cap) (hl : vs.length = n) (hn1 : n1 = n + 1) (hG : w.heap[G]? = some (.cells (List.replicate n1 (Value.slice none 0 0)).toArray 46 (0, 0)))
    (hcell : ∀ (j : Nat) v, vs[j]? = some v → w.cell? ⟨g, ob + j, none⟩ = some v) (hsl : ∀ v ∈ vs, ∃ a n c, v = .slice a n c)
    (h : ∀ w', w'.heap[G]? = some (.cells (vs ++ [Value.slice none 0 0]).toArray 46 (0, 0)) → w.grownBy w' (some G) → wpList Try.prog ops Q rest (a.put o.dst (.int .i64 n)) w') : wpList Try.prog ops Q (o :: rest) a w := by
  subst hn1
  refine wpList_copy_own hgd d s _ _ ho 46 Try.underlying87 info_s G 0 n (n + 1) ⟨g, ob, none⟩ n cap hd hs _ _ hG vs (by rw [hl]; exact (Nat.min_self n).symm) (fun j v hj => by rw [Addr.add_mid]; exact hcell j v hj) (by simp [hl]) (cellS_one hsl) ?_
  have e : ((List.replicate (n + 1) (Value.slice none 0 0)).toArray.toList.take 0 ++ (vs ++ (List.replicate (n + 1) (Value.slice none 0 0)).toArray.toList.drop (0 + vs.length))).toArray = (vs ++ [Value.slice none 0 0]).toArray := by
    rw [hl]
    simp
  rw [e, hl]
  exact h _ (setRow_heap w G _ _ _ _ hG) ⟨rfl, rfl, rfl, by simp [World.setRow], fun k _ hk => setRow_other w G k _ (fun e => hk (by rw [e]))⟩
set_option linter.unusedSimpArgs false in
set_option linter.unusedVariables false in
set_option maxRecDepth 20000 in
set_option maxHeartbeats 8000000 in
theorem Number_any {s : ByteArray} {g o cap m : Nat} {vs : List Value} {ls : List (List Nat)} (w : World) (hP : Parts w g o vs ls) (hn0 : ls.length ≤ 1000) (hcap : ls.length ≤ cap) (hcm : cap ≤ maxLen) (hby : ∀ l ∈ ls, Bytes l) (hm0 : 0 < m) (hm : m < M256)
    (hsz : (hashed (nums s) (ls ++ [[0]])).length ≤ 1073741824) :
    Calls Try.prog 17 #[numV m, .string s, .slice (some ⟨g, o, none⟩) ls.length cap] w fun e w' => e = .returned (.tuple #[numV (numberN m (nums s) ls), .int .i64 0]) ∧ Below w.heap.size w w' := by
  have hl : vs.length = ls.length := hP.1
  have HL := Lib.hid hl
  have hsl : ∀ v ∈ vs, ∃ a n c, v = .slice a n c := fun v hv => by
    obtain ⟨i, hi, e⟩ := List.getElem_of_mem hv
    obtain ⟨v', l', h1, h2, h3, h4⟩ := hP.2 i (by omega)
    obtain ⟨ao, cp, e2, _⟩ := h4
    rw [List.getElem?_eq_getElem hi, e] at h1
    cases h1
    exact ⟨_, _, _, e2⟩
  have HSL := Lib.hid hsl
  have HP := Lib.hid hP
  have HBY := Lib.hid hby
  have HSZ := Lib.hid hsz
  have HCELL := Lib.hid (show ∀ (j : Nat) v, vs[j]? = some v → w.cell? ⟨g, o + j, none⟩ = some v from fun j v hj => by
    obtain ⟨v', l', h1, h2, h3, h4⟩ := hP.2 j (by have := (List.getElem?_eq_some_iff.1 hj).1; omega)
    rw [h1] at hj
    cases hj
    exact h3)
  obtain ⟨n, hn⟩ : ∃ n, n = ls.length := ⟨_, rfl⟩
  obtain ⟨n1, hn1⟩ : ∃ n1, n1 = n + 1 := ⟨_, rfl⟩
  have HN := Lib.hid hn
  have HN1 := Lib.hid hn1
  have hnI : (n : Int) + 1 = (n1 : Int) := by omega
  have hnb : n ≤ 1000 := by omega
  have hcm2 := hcm
  unfold maxLen at hcm2
  have hmk : ∀ W, (Instr.makeSlice 87 (.int .i64 n) (.int .i64 n1)).run Try.prog W = .ok (.slice (some ⟨W.heap.size, 0, none⟩) n n1) (W.alloc (.cells (List.replicate n1 (Value.slice none 0 0)).toArray 46)) := by
    intro W
    obtain ⟨i0, hi, hz0, hz1, hz2⟩ := info_parts infoS9
    have e := run_make (P := Try.prog) W 87 46 i0 (.slice none 0 0) Try.underlying87 hi hz0 .i64 .i64 n n1 (by omega) (by omega) (by rw [hz2]; omega) (by omega)
    rw [e, hz1]
    exact congrArg (fun c => Result.ok _ (W.alloc (.cells c _))) (by
      apply Array.ext'
      simp [madeCells, Value.cells, Nat.mod_one, List.map_const'])
  obtain ⟨x0, hx0⟩ : ∃ x, x = halfN (nums s) ls 0 := ⟨_, rfl⟩
  obtain ⟨x1, hx1⟩ : ∃ x, x = halfN (nums s) ls 1 := ⟨_, rfl⟩
  obtain ⟨q, hq⟩ : ∃ q, q = numberN m (nums s) ls := ⟨_, rfl⟩
  have CW := Lib.hid (fun W => by
    have h := Wide_any (lo := x1) (hi := x0) (by rw [hx1]; exact halfN_lt _ _ _) (by rw [hx0]; exact halfN_lt _ _ _) hm hm0 W
    rw [show (x0 * M256 + x1) % m = q by rw [hq, hx0, hx1]; rfl] at h
    unfold numV words at h
    exact h)
  have HX0 := Lib.hid hx0
  have HX1 := Lib.hid hx1
  have HS1 := Lib.hid (show (hashed (nums s) (ls ++ [[1]])).length ≤ 1073741824 from by
    have h9 := hsz
    unfold hashed at h9 ⊢
    simp only [List.length_append, List.flatMap_append, List.flatMap_cons, List.flatMap_nil, enc_length, List.length_singleton, List.append_nil, hdr_length] at h9 ⊢
    exact h9)
  rw [← hq, ← hn]
  unfold numV words
  clear hP hl hsl hby hsz hn hn1 hm0 hm hn0 hcap hcm hx0 hx1 hq
  go_enter Try.func17, Try.ntmps17
  go_upto_region 2 with fail
  obtain ⟨v_0, e_0⟩ : ∃ w9, w9 = w.alloc (.cells #[.int .u64 (dgt W64 m 0), .int .u64 (dgt W64 m 1), .int .u64 (dgt W64 m 2), .int .u64 (dgt W64 m 3)] 24) := ⟨_, rfl⟩
  have s_0 : v_0.heap.size = w.heap.size + 1 := by rw [e_0]; simp
  have b_0 : Below w.heap.size w v_0 := by rw [e_0]; exact (Below.refl _ _).alloc (Nat.le_refl _) _
  have f_0 : NumAt v_0 w.heap.size m := by rw [e_0]; exact NumAt.new w m _ _ rfl
  obtain ⟨v_1, e_1⟩ : ∃ w9, w9 = v_0.alloc (.cells #[.string s] 9) := ⟨_, rfl⟩
  have s_1 : v_1.heap.size = w.heap.size + 1 + 1 := by rw [e_1]; simp [s_0]
  have b_1 : Below v_0.heap.size v_0 v_1 := by rw [e_1]; exact (Below.refl _ _).alloc (Nat.le_refl _) _
  have f_1 : v_1.cell? ⟨w.heap.size + 1, 0, none⟩ = some (.string s) := by rw [← s_0, e_1, cell_of_row _ _ _ _ _ _ (heap_alloc_new _ _)]; rfl
  obtain ⟨v_2, e_2⟩ : ∃ w9, w9 = v_1.alloc (.cells #[.int .u64 0, .int .u64 0, .int .u64 0, .int .u64 0] 24) := ⟨_, rfl⟩
  have s_2 : v_2.heap.size = w.heap.size + 1 + 1 + 1 := by rw [e_2]; simp [s_1]
  have b_2 : Below v_1.heap.size v_1 v_2 := by rw [e_2]; exact (Below.refl _ _).alloc (Nat.le_refl _) _
  have f_2 : NumAt v_2 (w.heap.size + 1 + 1) 0 := by rw [← s_1, e_2]; exact num_zero v_1 _
  have g_2 : FreeN v_2 (w.heap.size + 1 + 1) 4 := by rw [← s_1, e_2]; exact FreeN.new _ _ _ _
  obtain ⟨v_3, e_3⟩ : ∃ w9, w9 = v_2.alloc (.cells (Array.replicate n1 (Value.slice none 0 0)) 46) := ⟨_, rfl⟩
  have s_3 : v_3.heap.size = w.heap.size + 1 + 1 + 1 + 1 := by rw [e_3]; simp [s_2]
  have b_3 : Below v_2.heap.size v_2 v_3 := by rw [e_3]; exact (Below.refl _ _).alloc (Nat.le_refl _) _
  have f_3 : v_3.heap[w.heap.size + 1 + 1 + 1]? = some (.cells (List.replicate n1 (Value.slice none 0 0)).toArray 46 (0, 0)) := by rw [← s_2, e_3, heap_alloc_new]; simp
  obtain ⟨v_4, e_4⟩ : ∃ w9, w9 = v_3.alloc (.cells #[.slice (some ⟨w.heap.size + 1 + 1 + 1, 0, none⟩) n n1] 87) := ⟨_, rfl⟩
  have s_4 : v_4.heap.size = w.heap.size + 1 + 1 + 1 + 1 + 1 := by rw [e_4]; simp [s_3]
  have b_4 : Below v_3.heap.size v_3 v_4 := by rw [e_4]; exact (Below.refl _ _).alloc (Nat.le_refl _) _
  have f_4 : v_4.cell? ⟨w.heap.size + 1 + 1 + 1 + 1, 0, none⟩ = some (.slice (some ⟨w.heap.size + 1 + 1 + 1, 0, none⟩) n n1) := by rw [← s_3, e_4, cell_of_row _ _ _ _ _ _ (heap_alloc_new _ _)]; rfl
  rw [← e_0, ← e_1, ← e_2, ← e_3, ← e_4]
  have f_0 := NumAt.later b_4 (NumAt.later b_3 (NumAt.later b_2 (NumAt.later b_1 f_0)))
  have f_1 := cell_on (cell_on (cell_on f_1 b_2) b_3) b_4
  have f_2 := NumAt.later b_4 (NumAt.later b_3 f_2)
  have g_2 := (g_2.later b_3 (by omega)).later b_4 (by omega)
  have f_3 := (b_4.block _ (by omega)).trans f_3
  have B := below_later (below_later (below_later (below_later b_0 b_1) b_2) b_3) b_4
  have hsz4 := s_4
  clear e_0 e_1 e_2 e_3 e_4 b_0 b_1 b_2 b_3 b_4 s_0 s_1 s_2 s_3 s_4
  obtain ⟨MM, hMM⟩ : ∃ b, b = w.heap.size := ⟨_, rfl⟩
  rw [← hMM] at f_0 f_1 f_2 g_2 f_3 f_4 hsz4 ⊢
  obtain ⟨AS, hAS⟩ : ∃ b, b = MM + 1 := ⟨_, rfl⟩
  rw [← hAS] at f_1 f_2 g_2 f_3 f_4 hsz4 ⊢
  obtain ⟨OO, hOO⟩ : ∃ b, b = AS + 1 := ⟨_, rfl⟩
  rw [← hOO] at f_2 g_2 f_3 f_4 hsz4 ⊢
  obtain ⟨GG, hGG⟩ : ∃ b, b = OO + 1 := ⟨_, rfl⟩
  rw [← hGG] at f_3 f_4 hsz4 ⊢
  obtain ⟨AL, hAL⟩ : ∃ b, b = GG + 1 := ⟨_, rfl⟩
  rw [← hAL] at f_4 hsz4 ⊢
  have HMM := Lib.hid hMM
  have HAS := Lib.hid hAS
  have HOO := Lib.hid hOO
  have HGG := Lib.hid hGG
  have HAL := Lib.hid hAL
  have HSZ4 := Lib.hid hsz4
  have F0 := Lib.hid f_0
  have F1 := Lib.hid f_1
  have F2 := Lib.hid f_2
  have G2 := Lib.hid g_2
  have F3 := Lib.hid f_3
  have F4 := Lib.hid f_4
  have HB := Lib.hid B
  have q0 := f_4
  clear hMM hAS hOO hGG hAL hsz4 f_0 f_1 f_2 g_2 f_3 f_4 B hmk
  have hvl : vs.length = n := by rw [HL.out, HN.out]
  have HVL := Lib.hid hvl
  clear hvl
  go_wp2_with (refine copy_all rfl (.tmp 16) (.tmp 17) rfl rfl rfl HVL.out HN1.out F3.out (fun j v hj => cell_on (HCELL.out j v hj) HB.out) HSL.out ?_; intro w5 h5 hg5; have H5 := Lib.hid h5; have HG5 := Lib.hid hg5; clear h5 hg5)
  clear q0
  have hneA : AS ≠ GG := by have := HGG.out; have := HOO.out; omega
  have hneL : AL ≠ GG := by have := HAL.out; omega
  have HM := Lib.hid (show NumAt w5 MM m from fun j hj => HG5.out.cell (F0.out j hj) (fun e => by have e7 : MM = GG := (by injection e); have := HGG.out; have := HAS.out; have := HOO.out; have := HAL.out; omega))
  have HO := Lib.hid (show NumAt w5 OO 0 from fun j hj => HG5.out.cell (F2.out j hj) (fun e => by have e7 : OO = GG := (by injection e); have := HGG.out; have := HAS.out; have := HOO.out; have := HAL.out; omega))
  have HOF := Lib.hid (show FreeN w5 OO 4 from fun j hj => (frozen_block (HG5.out.block OO (by have := HSZ4.out; have := HAL.out; have := HGG.out; omega) (fun e => by have e7 : OO = GG := (by injection e); have := HGG.out; have := HAS.out; have := HOO.out; have := HAL.out; omega))).trans (G2.out j hj))
  have HBW := Lib.hid (show Below w.heap.size w w5 from HB.out.grown HG5.out HB.out.size (fun k hk => by have e7 : GG = k := (by injection hk); have := HGG.out; have := HAS.out; have := HOO.out; have := HMM.out; omega))
  have HHW := Lib.hid (show HalfW w w5 AS AL GG s vs ls n1 from ⟨HG5.out.cell F1.out (fun e => hneA (by injection e)), by rw [← HN.out]; exact HG5.out.cell F4.out (fun e => hneL (by injection e)), by rw [← HN.out]; exact ⟨by rw [HVL.out, Nat.mul_one], .inr ⟨GG, n1, _, rfl, Nat.le_refl _, H5.out, by have := HN1.out; omega, by have := HN1.out; unfold maxLen; omega, by have := HN1.out; have := HVL.out; simp; omega, by simp [HVL.out]⟩⟩, fun i v l hv hl => (by obtain ⟨v9, l9, h1, h2, _, h4⟩ := HP.out.2 i (List.getElem?_eq_some_iff.1 hl).1; rw [h1] at hv; rw [h2] at hl; cases hv; cases hl; exact h4), HBW.out, by have := HGG.out; have := HAS.out; have := HOO.out; have := HMM.out; omega, hneA, hneL, by rw [← HN.out]; have := HN1.out; omega⟩)
  have HLTO := Lib.hid (show OO < w5.heap.size from Nat.lt_of_lt_of_le (by have := HSZ4.out; have := HAL.out; have := HGG.out; omega) HG5.out.size)
  have HGW := Lib.hid (show w.heap.size ≤ GG from HHW.out.gt)
  have HOW := Lib.hid (show w.heap.size ≤ OO by have := HAS.out; have := HOO.out; have := HMM.out; omega)
  have HMO := Lib.hid (show MM ≠ OO by have := HAS.out; have := HOO.out; omega)
  have HNM := Lib.hid (show MM ≠ GG by have := HGG.out; have := HAS.out; have := HOO.out; omega)
  have HNO := Lib.hid (show OO ≠ GG by have := HGG.out; omega)
  clear hneA hneL F0 F1 F2 G2 F3 F4 HB HG5 H5 hnI
  obtain ⟨w6, e6⟩ : ∃ w6, w6 = w5.drew := ⟨_, rfl⟩
  have hb : Below w5.heap.size w5 w6 := by rw [e6]; exact (Below.refl _ _).drew
  have HM := Lib.hid (NumAt.later hb HM.out)
  have HO := Lib.hid (NumAt.later hb HO.out)
  have HOF := Lib.hid (HOF.out.later hb HLTO.out)
  have HLTO := Lib.hid (Nat.lt_of_lt_of_le HLTO.out hb.size)
  have HBW := Lib.hid (below_later HBW.out hb)
  have HHW := Lib.hid (HHW.out.later hb)
  clear hb
  refine wp_region_perm [(0, true), (2, true), (4, true), (1, false), (3, false), (5, false), (6, true), (7, true), (8, false), (9, true)] (fun w8 => w8.cell? ⟨MM, 0, none⟩ = some (.int .u64 (dgt W64 m 0)) ∧ w8.cell? ⟨MM, 1, none⟩ = some (.int .u64 (dgt W64 m 1)) ∧ w8.cell? ⟨MM, 2, none⟩ = some (.int .u64 (dgt W64 m 2)) ∧ w8.cell? ⟨MM, 3, none⟩ = some (.int .u64 (dgt W64 m 3))) (by kernel_rfl) (by kernel_rfl) (fun _ _ _ _ _ h => h) (num4 (show NumAt w5.drew MM m by rw [← e6]; exact HM.out)) (fun hHeld => ?_)
  rw [← e6]
  clear e6
  refine WP.take (v := ?_) rfl (Or.inl ⟨by rfl, ?_⟩) ?_
  rotate_left
  · intro w8 hSw
    (try dsimp only at hSw)
    go_simp
    any_goals with_reducible rfl
  try simp only [Act.put, pa, pb, pc]
  refine WP.take (v := ?_) rfl (Or.inl ⟨by rfl, ?_⟩) ?_
  rotate_left
  · intro w8 hSw
    (try dsimp only at hSw)
    go_simp
    any_goals with_reducible rfl
  try simp only [Act.put, pa, pb, pc]
  refine WP.take (v := ?_) rfl (Or.inl ⟨by rfl, ?_⟩) ?_
  rotate_left
  · intro w8 hSw
    (try dsimp only at hSw)
    go_simp
    any_goals with_reducible rfl
  try simp only [Act.put, pa, pb, pc]
  refine WP.step rfl (fun K hK => ?_)
  go_simp
  refine (half_any (x := 1) w6 HHW.out (by decide) HBY.out HS1.out).mono ?_
  rintro _ w7 ⟨rfl, hhw, hg⟩
  have HHW := Lib.hid hhw
  have HM := Lib.hid (show NumAt w7 MM m from fun j hj => hg.cell (HM.out j hj) (fun e => HNM.out (by injection e)))
  have HO := Lib.hid (show NumAt w7 OO 0 from fun j hj => hg.cell (HO.out j hj) (fun e => HNO.out (by injection e)))
  have HOF := Lib.hid (show FreeN w7 OO 4 from fun j hj => (frozen_block (hg.block OO HLTO.out (fun e => HNO.out (by injection e)))).trans (HOF.out j hj))
  have HLTO := Lib.hid (Nat.lt_of_lt_of_le HLTO.out hg.size)
  have HBW := Lib.hid (HBW.out.grown hg HBW.out.size (fun k hk => by have e7 : GG = k := (by injection hk); rw [← e7]; exact HGW.out))
  rw [show num (shaOf (hashed (nums s) (ls ++ [[1]]))) = x1 from HX1.out.symm]
  clear hhw hg
  refine hK.out _ _ (num4 HM.out) (fun hHeld => ?_)
  clear hK K
  try simp only [Act.put, pa, pb, pc]
  refine WP.step rfl (fun K hK => ?_)
  go_simp
  refine (half_any (x := 0) w7 HHW.out (by decide) HBY.out HSZ.out).mono ?_
  rintro _ w8 ⟨rfl, hhw, hg⟩
  have HHW := Lib.hid hhw
  have HM := Lib.hid (show NumAt w8 MM m from fun j hj => hg.cell (HM.out j hj) (fun e => HNM.out (by injection e)))
  have HO := Lib.hid (show NumAt w8 OO 0 from fun j hj => hg.cell (HO.out j hj) (fun e => HNO.out (by injection e)))
  have HOF := Lib.hid (show FreeN w8 OO 4 from fun j hj => (frozen_block (hg.block OO HLTO.out (fun e => HNO.out (by injection e)))).trans (HOF.out j hj))
  have HLTO := Lib.hid (Nat.lt_of_lt_of_le HLTO.out hg.size)
  have HBW := Lib.hid (HBW.out.grown hg HBW.out.size (fun k hk => by have e7 : GG = k := (by injection hk); rw [← e7]; exact HGW.out))
  rw [show num (shaOf (hashed (nums s) (ls ++ [[0]]))) = x0 from HX0.out.symm]
  clear hhw hg
  refine hK.out _ _ (num4 HM.out) (fun hHeld => ?_)
  clear hK K
  try simp only [Act.put, pa, pb, pc]
  refine WP.step rfl (fun K hK => ?_)
  go_simp
  refine (CW.out _).mono ?_
  rintro _ w9 ⟨rfl, hb⟩
  have HM := Lib.hid (NumAt.later hb HM.out)
  have HO := Lib.hid (NumAt.later hb HO.out)
  have HOF := Lib.hid (HOF.out.later hb HLTO.out)
  have HBW := Lib.hid (below_later HBW.out hb)
  clear hb
  refine hK.out _ _ (num4 HM.out) (fun hHeld => ?_)
  clear hK K
  try simp only [Act.put, pa, pb, pc]
  refine WP.take (v := ?_) rfl (Or.inl ⟨by rfl, ?_⟩) ?_
  rotate_left
  · intro w8 hSw
    (try dsimp only at hSw)
    go_simp
    any_goals with_reducible rfl
  try simp only [Act.put, pa, pb, pc]
  refine WP.take (v := ?_) rfl (Or.inl ⟨by rfl, ?_⟩) ?_
  rotate_left
  · intro w8 hSw
    (try dsimp only at hSw)
    go_simp
    any_goals with_reducible rfl
  try simp only [Act.put, pa, pb, pc]
  refine WP.step rfl (fun K hK => ?_)
  obtain ⟨c0, c1, c2, c3, f0, f1, f2, f3⟩ := num4f HO.out HOF.out
  go_simp
  have HM := Lib.hid (NumAt.other4 HM.out HMO.out (.int .u64 (dgt W64 q 0)) (.int .u64 (dgt W64 q 1)) (.int .u64 (dgt W64 q 2)) (.int .u64 (dgt W64 q 3)))
  refine hK.out _ _ (num4 HM.out) (fun hHeld => ?_)
  clear hK K
  try simp only [Act.put, pa, pb, pc]
  refine WP.take (v := ?_) rfl (Or.inl ⟨by rfl, ?_⟩) ?_
  rotate_left
  · intro w8 hSw
    (try dsimp only at hSw)
    go_simp
    any_goals with_reducible rfl
  try simp only [Act.put, pa, pb, pc]
  refine WP.done ?_
  clear hHeld c0 c1 c2 c3 f0 f1 f2 f3
  go_wp2_with fail
  obtain ⟨g0, g1, g2, g3⟩ := num4 (NumAt.set4 HO.out q)
  have HB9 := Lib.hid (below_set4 HBW.out HOW.out (.int .u64 (dgt W64 q 0)) (.int .u64 (dgt W64 q 1)) (.int .u64 (dgt W64 q 2)) (.int .u64 (dgt W64 q 3)))
  refine bodyPost_ret (v := .tuple #[.agg #[.int .u64 (dgt W64 q 0), .int .u64 (dgt W64 q 1), .int .u64 (dgt W64 q 2), .int .u64 (dgt W64 q 3)], .int .i64 0]) ?_ rfl ⟨rfl, HB9.out⟩
  simp [results, Try.results17, go_sem, g0, g1, g2, g3]
end Go.Proofs.Ytpoocnkflmimdaa
