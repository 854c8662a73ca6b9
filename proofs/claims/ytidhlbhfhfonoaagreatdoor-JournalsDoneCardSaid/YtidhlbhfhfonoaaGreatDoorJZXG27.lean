/- Layer 18 (journals): Open, what its loop keeps; Layer 18 (journals): slices.Clip of slices of bytes; what a call's own slices read as; Layer 18 (journals), in plain words: a disk with one file, and a journal in it; Layer 18 (journals): Open, where the name won't do -/
import Derived.Test.YtidhlbhfhfonoaaGreatDoorJZXG26
import Derived.Test.YtidhlbhfhfonoaaGreatDoorJZXG09
namespace Go.Proofs.YtidhlbhfhfonoaaGreatDoor
open Go.ChangeShapes Go.WideShapes Go.ChangeAt Go.RowKit

theorem recs_sum : ∀ (n c : Nat) (b : List Nat), b.length ≤ n → ((recs c b).map fun x => x.1.length + 8).sum ≤ b.length
  | 0, c, b, h => by
    rw [recs_eq, if_pos (by omega)]
    simp
  | n + 1, c, b, h => by
    rw [recs_eq]
    split
    · simp
    · split
      · simp
      · split
        · have h1 := recs_sum n (crc c (b.take (4 + val4 b))) (b.drop (4 + val4 b + 4)) (by simp; omega)
          simp only [List.map_cons, List.sum_cons, List.length_take, List.length_drop] at h1 ⊢
          omega
        · simp
def longR (L : List (List Nat × Nat)) : Nat := (L.map fun x => x.1.length + 8).sum
def lastR (L : List (List Nat × Nat)) : Nat := (L.getLast?.map Prod.snd).getD firstC
theorem longR_snoc (L : List (List Nat × Nat)) (x : List Nat × Nat) : longR (L ++ [x]) = longR L + (x.1.length + 8) := by simp [longR]
theorem lastR_snoc (L : List (List Nat × Nat)) (x : List Nat × Nat) : lastR (L ++ [x]) = x.2 := by simp [lastR]
theorem longR_le {b : List Nat} {c : Nat} {L R : List (List Nat × Nat)} (h : recs c b = L ++ R) : longR L ≤ b.length := by
  have h1 := recs_sum b.length c b (Nat.le_refl _)
  rw [h, List.map_append, List.sum_append] at h1
  unfold longR
  omega
/-- A journal's block. -/
def Journ (w : World) (Jb D : Nat) (s : ByteArray) (long c : Nat) : Prop := w.heap[Jb]? = some (.cells #[.pointer (some ⟨D, 0, none⟩), .string s, .int .i64 long, .int .u32 c] 101 (0, 0))
theorem readE_ok {M : Dm} (h : M.ok) (s : ByteArray) (a n : Int) : Bytes (M.readE s a n).1 ∧ (M.readE s a n).1.length ≤ 1048576 := by
  unfold Dm.readE
  split
  · split
    · rcases M.ways s with ⟨hok, j, hj⟩ | hno
      · obtain ⟨k, r, _, h2, _, _, h5⟩ := h.found hok hj
        have h3 := h.rl k r h2
        rw [hj]
        simp only [Option.map_some, Option.getD_some, h5]
        split
        · exact ⟨fun x hx => h3.2.2 x (List.mem_of_mem_drop (List.mem_of_mem_take hx)), by simp; omega⟩
        · exact ⟨fun x hx => (by cases hx), by simp⟩
      · exact absurd ‹_› hno
    · exact ⟨fun x hx => (by cases hx), by simp⟩
  · exact ⟨fun x hx => (by cases hx), by simp⟩
set_option maxRecDepth 20000 in
set_option maxHeartbeats 1500000 in
theorem records_any (a : Option Addr) (n c : Nat) (w : World) :
    Calls Tryz.prog 43 #[.slice a n c] w fun e w' => e = .returned (.func (.func 114) #[] #[.pointer (some ⟨w.heap.size, 0, none⟩)]) ∧ w' = w.alloc (.cells #[.slice a n c] 58) := by
  go_enter Tryz.func43, Tryz.ntmps43
  go_wp2
  go_ret
  exact ⟨rfl, rfl⟩
/-- What stands between two rounds. -/
structure LoopI (w5 : World) (J5 Jb Bn D : Nat) (s : ByteArray) (pre : List Rec) (vl : Value) (W : World) : Prop where
  c5 : W.heap[J5]? = some (.cells #[vl] 33 (0, 0))
  row : OwnV W w5.heap.size 58 1 vl pre.length (pre.map Rec.v)
  jb : Journ W Jb D s (longR (pre.map Rec.rc)) (lastR (pre.map Rec.rc))
  chg : Chg w5 W (fun g => g = J5 ∨ g = Jb ∨ g = Bn)
  held : ∀ x ∈ pre, Own W w5.heap.size x.v x.r ∧ ∀ k, x.v.ownBlock = some k → vl.ownBlock ≠ some k
  pair : pre.Pairwise fun x y => ∀ k, x.v.ownBlock = some k → y.v.ownBlock ≠ some k
theorem LoopI.same {w5 A B : World} {J5 Jb Bn D : Nat} {s : ByteArray} {pre : List Rec} {vl : Value} (h : LoopI w5 J5 Jb Bn D s pre vl A) (hc : Chg w5 B (fun g => g = J5 ∨ g = Jb ∨ g = Bn))
    (hb : ∀ g, (g = J5 ∨ g = Jb ∨ (∃ c t, A.heap[g]? = some (.cells c t (0, 0)) ∧ w5.heap.size ≤ g)) → B.heap[g]? = A.heap[g]?) : LoopI w5 J5 Jb Bn D s pre vl B := by
  have hrow : ∀ g, vl.ownBlock = some g → B.heap[g]? = A.heap[g]? := fun g hg => by
    rcases h.row.2 with ⟨rfl, _⟩ | ⟨g', o9, cap, cur, rfl, h3, h4, _⟩
    · cases hg
    · cases hg
      exact hb _ (.inr (.inr ⟨_, _, h4, h3⟩))
  refine ⟨(hb J5 (.inl rfl)).trans h.c5, h.row.block hrow, (hb Jb (.inr (.inl rfl))).trans h.jb, hc, fun x hx => ⟨OwnV.block (h.held x hx).1 fun g hg => ?_, (h.held x hx).2⟩, h.pair⟩
  rcases (h.held x hx).1.2 with ⟨e, _⟩ | ⟨g', o, cap, cur, e, h3, h4, _⟩
  · rw [e] at hg; cases hg
  · rw [e] at hg
    cases hg
    exact hb _ (.inr (.inr ⟨_, _, h4, h3⟩))
theorem LoopI.putObj {w5 A : World} {J5 Jb Bn D : Nat} {s : ByteArray} {pre : List Rec} {vl : Value} (h : LoopI w5 J5 Jb Bn D s pre vl A) {l : Nat} {o o' : Obj} (hl : w5.heap.size ≤ l) (ho : A.heap[l]? = some o) (hn : o.isCells = false) : LoopI w5 J5 Jb Bn D s pre vl (A.putObj l o') := by
  have hne : ∀ (g : Nat) (c : Array Value) (t : TypeId) (f : Nat × Nat), A.heap[g]? = some (.cells c t f) → g ≠ l := fun g c t f hg e => by
    subst e
    rw [hg] at ho
    cases ho
    cases hn
  refine h.same (chg_putObj h.chg l o' hl) fun g hg => World.putObj_heap_other ?_
  rcases hg with rfl | rfl | ⟨c, t, hg, _⟩
  · exact hne _ _ _ _ h.c5
  · exact hne _ _ _ _ h.jb
  · exact hne _ _ _ _ hg
theorem LoopI.steps {w5 A B : World} {J5 Jb Bn D : Nat} {s : ByteArray} {pre : List Rec} {vl : Value} (h : LoopI w5 J5 Jb Bn D s pre vl A) (hc : Chg A B (fun g => g = Bn)) (h5 : J5 ≠ Bn) (hj : Jb ≠ Bn) (hB : Bn < w5.heap.size) : LoopI w5 J5 Jb Bn D s pre vl B := by
  refine h.same (h.chg.trans ⟨hc.os, hc.tape, hc.output, hc.size, fun g hg hn => hc.block g hg fun e => hn (.inl (.inr (.inr e)))⟩) fun g hg => ?_
  rcases hg with rfl | rfl | ⟨c, t, hg, hle⟩
  · exact hc.block _ (lt_of_heap h.c5) h5
  · exact hc.block _ (lt_of_heap h.jb) hj
  · exact hc.block _ (lt_of_heap hg) (by omega)
theorem own_putObj {A : World} {base : Nat} {v : Value} {r : List Nat} (h : Own A base v r) {l : Nat} {o o' : Obj} (ho : A.heap[l]? = some o) (hn : o.isCells = false) : Own (A.putObj l o') base v r := by
  refine OwnV.block h fun g hg => World.putObj_heap_other ?_
  rcases h.2 with ⟨e, _⟩ | ⟨g', o9, cap, cur, e, h3, h4, _⟩
  · rw [e] at hg; cases hg
  · rw [e] at hg
    cases hg
    rintro rfl
    rw [h4] at ho
    cases ho
    cases hn
theorem row_lt {A : World} {base : Nat} {e : TypeId} {size : Nat} {v : Value} {n : Nat} {xs : List Value} (h : OwnV A base e size v n xs) : ∀ k, v.ownBlock = some k → base ≤ k ∧ k < A.heap.size := h.lt
theorem LoopI.start {w5 W : World} {J5 Jb Bn D : Nat} {s : ByteArray} (hb : Below w5.heap.size w5 W) (h5 : w5.heap[J5]? = some (.cells #[.slice none 0 0] 33 (0, 0))) (hj : Journ w5 Jb D s 0 firstC) : LoopI w5 J5 Jb Bn D s [] (.slice none 0 0) W :=
  ⟨heap_on hb h5, ⟨rfl, .inl ⟨rfl, rfl⟩⟩, heap_on hb hj, Chg.of_below hb _, (fun x hx => by cases hx), .nil⟩
theorem wpListIn_append_W {F : Fence} {n : Nat} {P : Program} {w : World} {ops : Array Oper} {rest : List Oper} {o : Oper} {a : Act} {Q : Exit → Act → World → Prop} (hgd : o.guard = none) (s x : Operand) (t : TypeId)
    (ho : o.op = .call { callee := .builtin .append, args := #[s, x], argTypes := #[t, t] })
    (base : Nat) (e : TypeId) (i : TypeInfo) (z : Value) (size bytes : Nat) (ht : P.underlying t = some (.slice e)) (hi : P.info? e = some i) (hz : i.zero = some z)
    (hsize : i.size = size) (hby : i.bytes = bytes) (hzs : z.cells.size = size) (v : Value) (k : Nat) (xs : List Value) (hs : a.eval s = v) (hown : OwnV w base e size v k xs)
    (y : Value) (m : Nat) (news : List Value) (hy : a.eval x = y) (hx : SrcV w size y m news) (h63 : k + m ≤ maxLen) (hbytes : (k + m) * bytes ≤ 140737488355328) (hbase : base ≤ w.heap.size)
    (h : ∀ v' w', OwnV w' base e size v' (k + m) (xs ++ news) → w.grownBy w' v.ownBlock → Lies w w' v v' k m → wpListIn F n P ops Q rest (a.put o.dst v') w') : wpListIn F n P ops Q (o :: rest) a w := by
  obtain ⟨v', w', hr, h2, h3, h4⟩ := run_append_W (P := P) w base t o.type e i z size bytes ht hi hz hsize hby hzs v k xs hown y m news hx h63 hbytes hbase
  refine wpListIn_plain hgd fun K hK => ?_
  unfold Oper.wpIn
  constructor
  · simp [Oper.about, ho, resolve, Target.leads, Sem.run_pure]
  · rw [Oper.semAt_plain F _ _ (by rw [ho]; intro c hc'; cases hc')]
    simp [execOp, ho, resolve, invoke, builtin, hs, hy, hr, Result.andThen]
    exact hK _ _ (h v' w' h2 h3 h4)
theorem src_one' (w : World) (u : Value) (t : TypeId) (hu : u.oneCell' = true) : SrcV (w.alloc (.cells #[u] t)) 1 (.slice (some ⟨w.heap.size, 0, none⟩) 1 1) 1 [u] :=
  ⟨_, _, rfl, rfl, fun z hz => by simp at hz; subst hz; exact hu, (fun h => by cases h), fun ad had j z hz => (by
    cases had
    exact one_new w u t j z hz)⟩
theorem len_longR (L : List (List Nat × Nat)) : L.length ≤ longR L := by
  induction L with
  | nil => simp [longR]
  | cons x L ih =>
    unfold longR at ih ⊢
    simp only [List.map_cons, List.sum_cons, List.length_cons]
    omega
/-- What a round leaves. -/
structure RoundW (W we : World) (J5 Jb : Nat) (vl : Value) : Prop where
  os : we.os = W.os
  tape : we.tape = W.tape
  output : we.output = W.output
  size : W.heap.size ≤ we.heap.size
  block : ∀ g, g < W.heap.size → g ≠ J5 → g ≠ Jb → vl.ownBlock ≠ some g → we.heap[g]? = W.heap[g]?
theorem LoopI.next {w5 W we : World} {J5 Jb Bn D : Nat} {s : ByteArray} {pre : List Rec} {x : Rec} {vl v' : Value} (h : LoopI w5 J5 Jb Bn D s pre vl W) (hJ5 : J5 < w5.heap.size) (hJb : Jb < w5.heap.size) (hx : Own W w5.heap.size x.v x.r) (hxn : ∀ k, x.v.ownBlock = some k → vl.ownBlock ≠ some k) (hxp : ∀ y ∈ pre, ∀ k, y.v.ownBlock = some k → x.v.ownBlock ≠ some k)
    (hw : RoundW W we J5 Jb vl) (h5 : we.heap[J5]? = some (.cells #[v'] 33 (0, 0))) (hj : Journ we Jb D s (longR (pre.map Rec.rc) + (x.r.length + 8)) x.c)
    (hrow : OwnV we w5.heap.size 58 1 v' (pre.length + 1) (pre.map Rec.v ++ [x.v])) (hne : ∀ k, k < W.heap.size → vl.ownBlock ≠ some k → v'.ownBlock ≠ some k) :
    KeepsFrom w5.heap.size W we ∧ Stay (fun g => g < w5.heap.size ∧ g ≠ J5 ∧ g ≠ Jb) W we ∧ LoopI w5 J5 Jb Bn D s (pre ++ [x]) v' we := by
  have hcell : ∀ k, vl.ownBlock = some k → ∃ c t, W.heap[k]? = some (.cells c t (0, 0)) ∧ w5.heap.size ≤ k := fun k hk => by
    rcases h.row.2 with ⟨rfl, _⟩ | ⟨g', o9, cap, cur, rfl, h3, h4, _⟩
    · cases hk
    · cases hk
      exact ⟨_, _, h4, h3⟩
  refine ⟨⟨hw.size, fun k o hB hk hn => ?_⟩, ⟨hw.os, hw.tape, hw.output, hw.size, fun g hg => ?_⟩, ?_⟩
  · refine (hw.block k (lt_of_heap hk) (by omega) (by omega) fun e => ?_).trans hk
    obtain ⟨c, t, h1, _⟩ := hcell k e
    rw [h1] at hk
    cases hk
    cases hn
  · refine hw.block g (Nat.lt_of_lt_of_le hg.1 h.chg.size) hg.2.1 hg.2.2 fun e => ?_
    obtain ⟨c, t, _, h2⟩ := hcell g e
    have := hg.1
    omega
  · have hall : ∀ z ∈ pre ++ [x], Own W w5.heap.size z.v z.r ∧ ∀ k, z.v.ownBlock = some k → vl.ownBlock ≠ some k := fun z hz => by
      rcases List.mem_append.1 hz with hz | hz
      · exact h.held z hz
      · simp only [List.mem_cons, List.not_mem_nil, or_false] at hz
        subst hz
        exact ⟨hx, hxn⟩
    refine ⟨h5, by simpa using hrow, ?_, ⟨hw.os.trans h.chg.os, hw.tape.trans h.chg.tape, hw.output.trans h.chg.output, Nat.le_trans h.chg.size hw.size, fun g hg hn => ?_⟩, fun z hz => ⟨OwnV.block (hall z hz).1 fun g hg => ?_, fun k hk => ?_⟩, List.pairwise_append.2 ⟨h.pair, List.pairwise_singleton _ _, fun y hy z hz => by simp only [List.mem_singleton] at hz; subst hz; exact hxp y hy⟩⟩
    · rw [List.map_append, List.map_cons, List.map_nil, longR_snoc, lastR_snoc]
      exact hj
    · refine (hw.block g (Nat.lt_of_lt_of_le hg h.chg.size) (fun e => hn (.inl e)) (fun e => hn (.inr (.inl e))) fun e => ?_).trans (h.chg.block g hg hn)
      obtain ⟨c, t, _, h2⟩ := hcell g e
      omega
    · have hlt := (hall z hz).1.lt g hg
      exact hw.block g hlt.2 (by omega) (by omega) ((hall z hz).2 g hg)
    · exact hne k ((hall z hz).1.lt k hk).2 ((hall z hz).2 k hk)
theorem round_keep {W wb : World} {vl : Value} {o : Obj} (hg : (W.alloc o).grownBy wb vl.ownBlock) : ∀ g, g < W.heap.size → vl.ownBlock ≠ some g → wb.heap[g]? = W.heap[g]? := fun g h1 h2 => by
  rw [hg.block g (by simp; omega) (fun e => h2 e.symm)]
  exact Below.heap_alloc W o g h1
theorem LoopI.body {w5 W wb : World} {J5 Jb Bn D : Nat} {s : ByteArray} {pre : List Rec} {x : Rec} {vl v' : Value} {o : Obj} {z : Int} (h : LoopI w5 J5 Jb Bn D s pre vl W) (hJ5 : J5 < w5.heap.size) (hJb : Jb < w5.heap.size) (hn : J5 ≠ Jb) (hx : Own W w5.heap.size x.v x.r) (hxn : ∀ k, x.v.ownBlock = some k → vl.ownBlock ≠ some k) (hxp : ∀ y ∈ pre, ∀ k, y.v.ownBlock = some k → x.v.ownBlock ≠ some k)
    (hg : (W.alloc o).grownBy wb vl.ownBlock) (hown : OwnV wb w5.heap.size 58 1 v' (pre.length + 1) (pre.map Rec.v ++ [x.v])) (hl : Lies (W.alloc o) wb vl v' pre.length 1) (hz : z = ((longR (pre.map Rec.rc) + (x.r.length + 8) : Nat) : Int)) :
    ∀ we, we = ((wb.setCell ⟨J5, 0, none⟩ v').setCell ⟨Jb, 2, none⟩ (.int .i64 z)).setCell ⟨Jb, 3, none⟩ (.int .u32 x.c) →
    KeepsFrom w5.heap.size W we ∧ Stay (fun g => g < w5.heap.size ∧ g ≠ J5 ∧ g ≠ Jb) W we ∧ LoopI w5 J5 Jb Bn D s (pre ++ [x]) v' we := by
  rintro we rfl
  have hk := round_keep hg
  have hr := row_lt h.row
  have hsz := h.chg.size
  have k5 := (hk J5 (lt_of_heap h.c5) fun e => by have := (hr _ e).1; omega).trans h.c5
  have kj := (hk Jb (lt_of_heap h.jb) fun e => by have := (hr _ e).1; omega).trans h.jb
  have s1 := heap_setCell_same wb J5 0 _ _ v' k5
  have t1 : (wb.setCell ⟨J5, 0, none⟩ v').heap[Jb]? = _ := (Below.heap_setCell wb ⟨J5, 0, none⟩ v' Jb (fun e => hn e.symm)).trans kj
  have t2 := heap_setCell_same _ Jb 2 _ _ (.int .i64 z) t1
  have t3 := heap_setCell_same _ Jb 3 _ _ (.int .u32 x.c) t2
  have hsame : ∀ g, g ≠ J5 → g ≠ Jb → (((wb.setCell ⟨J5, 0, none⟩ v').setCell ⟨Jb, 2, none⟩ (.int .i64 z)).setCell ⟨Jb, 3, none⟩ (.int .u32 x.c)).heap[g]? = wb.heap[g]? := fun g h1 h2 => by
    rw [Below.heap_setCell _ _ _ _ h2, Below.heap_setCell _ _ _ _ h2, Below.heap_setCell _ _ _ _ h1]
  refine h.next hJ5 hJb hx hxn hxp ⟨hg.os, hg.tape, hg.output, ?_, fun g h1 h2 h3 h4 => (hsame g h2 h3).trans (hk g h1 h4)⟩ ?_ ?_ ?_ ?_
  · have := hg.size
    simp at this ⊢
    omega
  · rw [Below.heap_setCell _ _ _ _ hn, Below.heap_setCell _ _ _ _ hn]
    exact s1
  · subst hz
    exact t3
  · refine OwnV.block hown fun g hg' => ?_
    have := (hown.lt g hg').1
    exact hsame g (by omega) (by omega)
  · intro k h1 h2
    exact lies_apart hl h2 (by simp; omega)
end Go.Proofs.YtidhlbhfhfonoaaGreatDoor
namespace Go.Proofs.YtidhlbhfhfonoaaGreatDoor
open Go.ChangeShapes Go.WideShapes Go.ChangeAt Go.RowKit

set_option maxRecDepth 20000 in
set_option maxHeartbeats 1500000 in
theorem ClipR_any {a : Option Addr} {n c : Nat} {xs : List Value} (w : World) {B : Nat} (hv : OwnV w B 58 1 (.slice a n c) n xs) :
    Calls Tryz.prog 44 #[.slice a n c] w fun e w' => e = .returned (.slice a n n) ∧ OwnV w' B 58 1 (.slice a n n) n xs ∧ w = w' := by
  obtain ⟨_, hbc, hc, _⟩ := own_cap hv
  have HV := Lib.hid hv
  have hc5 : c ≤ 9223372036854775807 := by unfold maxLen at hc; omega
  clear hv hc
  go_enter Tryz.func44, Tryz.ntmps44
  go_wp2
  go_ret
  exact ⟨rfl, HV.out.clip, rfl⟩
/-- A call's own slices, each of which reads as bytes. -/
theorem parts_own {w : World} {B : Nat} {v : Value} {L : List (List Nat)} {xs : List Value} (h : OwnV w B 58 1 v L.length xs) (hx : ∀ (i : Nat) (l : List Nat), L[i]? = some l → ∃ u, xs[i]? = some u ∧ KAt .u8 w u l) : PartsAt w v L := by
  rcases h.2 with ⟨rfl, h0⟩ | ⟨g, o, cap, cur, rfl, h3, h4, h5, h6, h7, h8⟩
  · have : L = [] := List.length_eq_zero_iff.1 h0
    subst this
    exact ⟨_, 0, rfl, Nat.le_refl _, Nat.zero_le _, fun _ => rfl, fun h => absurd h (Nat.lt_irrefl _)⟩
  · refine ⟨_, cap, rfl, h5, h6, (fun h => by cases h), fun _ => ⟨g, o, rfl, fun i l hl => ?_⟩⟩
    obtain ⟨u, h1, h2⟩ := hx i l hl
    have := OwnV.cells h i u h1
    rw [Addr.add_lit] at this
    exact ⟨u, this, h2⟩
end Go.Proofs.YtidhlbhfhfonoaaGreatDoor
namespace Go.Proofs.YtidhlbhfhfonoaaGreatDoor
open Go.ChangeShapes Go.WideShapes Go.ChangeAt Go.RowKit

section
variable {n : Nat} {s : ByteArray} {l : List Nat} {m : Nat} {t : List Pl}
end
/-- What a record is added to. -/
def Dm.add (M : Dm) (s : ByteArray) (long c : Nat) (r : List Nat) : (Dm × Nat × Nat) × Nat :=
  if 65536 < r.length then ((M, long, c), 3) else
    if (M.sizeE s).2 ≠ 0 then ((M, long, c), (M.sizeE s).2) else
      if (M.sizeE s).1 ≠ long then ((M, long, c), 9) else
        if (M.append s (laidR c r)).2 = 0 then (((M.append s (laidR c r)).1, long + (r.length + 8), nextC c r), 0)
        else (((M.append s (laidR c r)).1, long, c), (M.append s (laidR c r)).2)
/-- A list of lists of the call's own, each in a block apart from the others' and from the list's. -/
def Handed (w : World) (B : Nat) (v : Value) (xs : List Value) (L : List (List Nat)) : Prop :=
  OwnV w B 58 1 v L.length xs ∧ (∀ (i : Nat) (l : List Nat), L[i]? = some l → ∃ u, xs[i]? = some u ∧ Own w B u l ∧ ∀ g, u.ownBlock = some g → v.ownBlock ≠ some g) ∧ xs.Pairwise fun x y => ∀ k, x.ownBlock = some k → y.ownBlock ≠ some k
end Go.Proofs.YtidhlbhfhfonoaaGreatDoor
namespace Go.Proofs.YtidhlbhfhfonoaaGreatDoor
open Go.ChangeShapes Go.WideShapes Go.ChangeAt Go.RowKit
set_option linter.unusedSimpArgs false in
set_option maxRecDepth 100000 in
set_option maxHeartbeats 4000000 in
theorem Open_no {K : Nat → Prop} {w : World} {base D : Nat} {M : Dm} {s : ByteArray} {zn e : Nat} (h : OneK K w base D M) (hs : s.size ≤ 140737488355328) (h0 : M.sizeE s = (zn, e)) (he : e ≠ 0 ∧ e ≠ 7) :
    Calls Tryz.prog 8 #[.pointer (some ⟨D, 0, none⟩), .string s] w fun en w' => en = .returned (.tuple #[.pointer none, .slice none 0 0, .int .i64 e]) ∧ Below w.heap.size w w' := by
  have HS := Lib.hid (fun (w1 : World) (hb : Below w.heap.size w w1) => (h.later hb).look fun S hS => Size_any hS s hs)
  rw [h0] at HS
  have e1 : ¬ ((e : Int) = 0) := by omega
  have e2 : ¬ ((e : Int) = 7) := by omega
  clear h0 he h
  go_enter Tryz.func8, Tryz.ntmps8
  go_wp2_with fail
  obtain ⟨wA, eA⟩ : ∃ wA, wA = (w.alloc (.cells #[.pointer none] 32)).alloc (.cells #[.slice none 0 0] 33) := ⟨_, rfl⟩
  have hbA : Below w.heap.size w wA := by rw [eA]; exact ((Below.refl _ w).alloc (Nat.le_refl _) _).alloc (by simp) _
  have hsA : wA.heap.size = w.heap.size + 1 + 1 := by rw [eA]; simp
  have F4 : wA.heap[w.heap.size]? = some (.cells #[.pointer none] 32 (0, 0)) := by rw [eA]; exact (Below.heap_alloc _ _ _ (by simp)).trans (heap_alloc_new w _)
  have F5 : wA.heap[w.heap.size + 1]? = some (.cells #[.slice none 0 0] 33 (0, 0)) := by rw [eA]; have := heap_alloc_new (w.alloc (.cells #[.pointer none] 32)) (.cells #[.slice none 0 0] 33); simpa using this
  rw [← eA]
  clear eA
  obtain ⟨J4, h4⟩ : ∃ J, J = w.heap.size := ⟨_, rfl⟩
  have hJ : w.heap.size ≤ J4 := by omega
  rw [← h4] at F4 F5 ⊢
  have HB := Lib.hid hbA
  clear h4 hsA hbA
  refine (HS.out wA HB.out).mono ?_
  rintro _ w2 ⟨rfl, hb⟩
  have g4 := heap_on hb F4
  have g5 := heap_on hb F5
  have B := Lib.hid (below_on HB.out hb)
  have k4 := cell_of_row w2 J4 0 _ _ (0, 0) g4
  have k5 := cell_of_row w2 (J4 + 1) 0 _ _ (0, 0) g5
  have f4 := frozen_row g4 0
  have f5 := frozen_row g5 0
  have G4 := Lib.hid g4
  have G5 := Lib.hid g5
  clear hb F4 F5 g4 g5
  go_wp2_with fail
  obtain ⟨we, ewe⟩ : ∃ we, we = (w2.setCell ⟨J4, 0, none⟩ (.pointer none)).setCell ⟨J4 + 1, 0, none⟩ (.slice none 0 0) := ⟨_, rfl⟩
  rw [← ewe]
  have y4 : we.cell? ⟨J4, 0, none⟩ = some (.pointer none) := by
    rw [ewe]
    exact cell_of_row _ J4 0 _ _ (0, 0) ((Below.heap_setCell _ _ _ _ (show J4 ≠ J4 + 1 by omega)).trans (heap_setCell_same w2 J4 0 _ _ (.pointer none) G4.out))
  have y5 : we.cell? ⟨J4 + 1, 0, none⟩ = some (.slice none 0 0) := by
    rw [ewe]
    exact cell_of_row _ (J4 + 1) 0 _ _ (0, 0) (heap_setCell_same _ (J4 + 1) 0 _ _ (.slice none 0 0) ((Below.heap_setCell w2 ⟨J4, 0, none⟩ _ (J4 + 1) (show J4 + 1 ≠ J4 by omega)).trans G5.out))
  have hbe : Below w.heap.size w we := by rw [ewe]; exact (B.out.setCell (p := ⟨J4, 0, none⟩) hJ _).setCell (p := ⟨J4 + 1, 0, none⟩) (by show w.heap.size ≤ J4 + 1; omega) _
  refine bodyPost_ret (v := .tuple #[.pointer none, .slice none 0 0, .int .i64 e]) ?_ rfl ⟨rfl, hbe⟩
  simp [results, Tryz.results8, go_sem, y4, y5]
end Go.Proofs.YtidhlbhfhfonoaaGreatDoor
