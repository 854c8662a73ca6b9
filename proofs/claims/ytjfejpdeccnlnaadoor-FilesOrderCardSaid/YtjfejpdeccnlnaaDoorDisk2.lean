/- Layer 17 (files): the table in memory; at. -/
import Derived.Test.YtjfejpdeccnlnaaDoorDisk
import Derived.WalkMore
import Derived.Test.YtjfejpdeccnlnaaDoorOwn
namespace Go.Proofs.YtjfejpdeccnlnaaDoor
open Go.ChangeShapes Go.WideShapes Go.ChangeAt Go.RowKit

def ptrOf (rb : Nat → Nat) (f : Option Nat) : Value := .pointer (f.map fun k => ⟨rb k, 0, none⟩)
/-- A place's cells. -/
def plC (rb : Nat → Nat) (p : Pl) : List Value := [.string p.name, ptrOf rb p.file]
/-- A table's cells. -/
def tab (rb : Nat → Nat) : List Pl → List Value
  | [] => []
  | p :: t => .string p.name :: ptrOf rb p.file :: tab rb t
theorem tab_length (rb : Nat → Nat) : ∀ t, (tab rb t).length = t.length * 2
  | [] => rfl
  | p :: t => by rw [tab, List.length_cons, List.length_cons, tab_length rb t, List.length_cons]; omega
theorem tab_get (rb : Nat → Nat) : ∀ {t : List Pl} {i : Nat} {p : Pl}, t[i]? = some p → (tab rb t)[i * 2]? = some (.string p.name) ∧ (tab rb t)[i * 2 + 1]? = some (ptrOf rb p.file)
  | p :: t, 0, q, h => by simp at h; subst h; exact ⟨rfl, rfl⟩
  | p :: t, i + 1, q, h => by
    have := tab_get rb (t := t) (i := i) (p := q) (by simpa using h)
    rw [tab, show (i + 1) * 2 = i * 2 + 1 + 1 by omega]
    simpa using this
theorem tab_set (rb : Nat → Nat) : ∀ (t : List Pl) (i : Nat) (p : Pl), tab rb (t.set i p) = ((tab rb t).set (i * 2) (.string p.name)).set (i * 2 + 1) (ptrOf rb p.file)
  | [], i, p => by simp [tab]
  | q :: t, 0, p => by simp [tab]
  | q :: t, i + 1, p => by
    rw [List.set_cons_succ, tab, tab, tab_set rb t i p, show (i + 1) * 2 = i * 2 + 1 + 1 by omega]
    simp
theorem tab_congr {rb rb' : Nat → Nat} : ∀ {t : List Pl}, (∀ p ∈ t, ∀ k, p.file = some k → rb k = rb' k) → tab rb t = tab rb' t
  | [], _ => rfl
  | p :: t, h => by
    rw [tab, tab, tab_congr (t := t) fun q hq => h q (List.mem_cons_of_mem _ hq)]
    congr 2
    unfold ptrOf
    cases hp : p.file with
    | none => rfl
    | some k => rw [Option.map_some, Option.map_some, h p (List.mem_cons_self ..) k hp]
theorem rangeAt.later {w w' : World} {b o : Nat} {l : List Value} (h : w.rangeAt b o l) (hb : Below w.heap.size w w') : w'.rangeAt b o l := fun j v hj => by
  have h0 := h j v hj
  exact (World.cell?_of_block (w := w) (hb.block b (World.block_lt_of_cell? (a := ⟨b, o + j, none⟩) _ h0))).trans h0
theorem spot_some {t : List Pl} {s : ByteArray} {i : Nat} (h : find t s = some i) : spot t s = i := by unfold spot; rw [h]
theorem spot_none {t : List Pl} {s : ByteArray} (h : find t s = none) : spot t s = -1 := by unfold spot; rw [h]
set_option maxRecDepth 20000 in
set_option maxHeartbeats 3000000 in
theorem at_any (w : World) (D o : Nat) (t : List Pl) (rb : Nat → Nat) (h : w.rangeAt D o (tab rb t)) (hl : t.length = 64) (s : ByteArray) :
    Calls Tryd.prog 46 #[.pointer (some ⟨D, o, none⟩), .string s] w fun e w' => e = .returned (.int .i64 (spot t s)) ∧ Below w.heap.size w w' := by
  have HR := Lib.hid h
  clear h
  go_enter Tryd.func46, Tryd.ntmps46
  go_wp2_with fail
  go_step3
  go_wp2_with fail
  go_step3
  go_wp2_with fail
  go_loopw [4, 9] (fun n i wr => ∃ k : Nat, k ≤ 64 ∧ i = .int .i64 k ∧ n = .int .i64 (-1) ∧ (∀ j (hj : j < t.length), j < k → t[j].name ≠ s) ∧ Below w.heap.size w wr) (fun _ i _ => 64 - (intOf i).toNat)
  case atStart => exact ⟨0, Nat.zero_le _, rfl, rfl, fun j _ hj => absurd hj (Nat.not_lt_zero _), Below.refl _ _⟩
  case round =>
    obtain ⟨k, hk, rfl, rfl, hne, hb⟩ := hrel
    have HB := Lib.hid hb
    have HNE := Lib.hid hne
    by_cases hlt : k < 64
    · have hkt : k < t.length := by omega
      have hp := tab_get rb (List.getElem?_eq_getElem hkt)
      have c0 := rangeAt.later HR.out hb _ _ hp.1
      have c1 := rangeAt.later HR.out hb _ _ hp.2
      rw [show o + (k * 2 + 1) = o + k * 2 + 1 by omega] at c1
      obtain ⟨p, hp'⟩ : ∃ p, p = t[k] := ⟨_, rfl⟩
      rw [← hp'] at c0 c1
      obtain ⟨q, hptr⟩ : ∃ q, ptrOf rb p.file = .pointer q := ⟨_, rfl⟩
      rw [hptr] at c1
      have HP := Lib.hid hp'
      clear hptr
      have d0 : ∀ ob, (wr.alloc ob).cell? ⟨D, o + k * 2, none⟩ = some (.string p.name) := fun ob => (World.cell?_alloc_lt wr ob ⟨D, o + k * 2, none⟩ (World.block_lt_of_cell? (a := ⟨D, o + k * 2, none⟩) _ c0)).trans c0
      have d1 : ∀ ob, (wr.alloc ob).cell? ⟨D, o + k * 2 + 1, none⟩ = some (.pointer q) := fun ob => (World.cell?_alloc_lt wr ob ⟨D, o + k * 2 + 1, none⟩ (World.block_lt_of_cell? (a := ⟨D, o + k * 2 + 1, none⟩) _ c1)).trans c1
      clear hb hne hp hp'
      by_cases hs : p.name = s
      · have hsp : spot t s = k := spot_some (find_of hkt (by rw [← HP.out, hs]) fun j hj => HNE.out j (by omega) hj)
        have HSP := Lib.hid hsp
        subst hs
        clear hsp
        go_wp2_with fail
        go_region
        go_wp2_with fail
        try rw [Exit.noGoto_ret]
        go_ret
        exact ⟨by rw [HSP.out]; rfl, (HB.out.alloc HB.out.size _).drew⟩
      · have hq : (p.name.toList == s.toList) = false := by rw [list_eq_str, decide_eq_false hs]
        have HS := Lib.hid hs
        clear hs
        go_wp2_with fail
        go_region
        go_wp2_with fail
        go_roundw
        case rel => exact ⟨k + 1, by omega, by go_num, rfl, fun j hj h => by
          by_cases hjk : j < k
          · exact HNE.out j hj hjk
          · obtain rfl : j = k := by omega
            rw [← HP.out]
            exact HS.out, (HB.out.alloc HB.out.size _).drew⟩
        case measure => simp [intOf]; omega
    · obtain rfl : k = 64 := by omega
      have hf : find t s = none := find_none_of fun j hj => HNE.out j hj (by omega)
      have HSP := Lib.hid (spot_none hf)
      clear hb hne hf
      go_wp2_with fail
      try rw [Exit.noGoto_ret]
      go_ret
      exact ⟨by rw [HSP.out]; rfl, HB.out⟩

/-- A disk in block D; file k's row in block rb k, its bytes rv k. -/
def dc (M : Dm) (rb : Nat → Nat) : List Value := .int .i64 M.size :: (tab rb M.now ++ tab rb M.safe)
structure RowAt (w : World) (base b : Nat) (v : Value) (r : Rw) : Prop where
  blk : w.heap[b]? = some (.cells #[v, .int .i64 r.m] 85 (0, 0))
  own : OwnV w base 5 1 v r.l.length (cellsK .u8 r.l)
structure DiskAt (w : World) (base D : Nat) (M : Dm) (rb : Nat → Nat) (rv : Nat → Value) : Prop where
  ok : M.ok
  blk : w.heap[D]? = some (.cells (dc M rb).toArray 72 (0, 0))
  row : ∀ k r, M.rows[k]? = some r → RowAt w base (rb k) (rv k) r
  lowD : base ≤ D
  low : ∀ k, k < M.rows.length → base ≤ rb k ∧ rb k ≠ D ∧ (rv k).ownBlock ≠ some D
  two : ∀ j k, j < M.rows.length → k < M.rows.length → (rv j).ownBlock ≠ some (rb k) ∧ (j ≠ k → rb j ≠ rb k ∧ ∀ g, (rv j).ownBlock = some g → (rv k).ownBlock ≠ some g)
/-- The blocks that are a disk's. -/
def Foot (D : Nat) (M : Dm) (rb : Nat → Nat) (rv : Nat → Value) (g : Nat) : Prop := g = D ∨ ∃ k, k < M.rows.length ∧ (g = rb k ∨ (rv k).ownBlock = some g)
theorem DiskAt.kept {w w' : World} {base D : Nat} {M : Dm} {rb : Nat → Nat} {rv : Nat → Value} (h : DiskAt w base D M rb rv) (hf : ∀ g, Foot D M rb rv g → w'.heap[g]? = w.heap[g]?) : DiskAt w' base D M rb rv := by
  refine ⟨h.ok, (hf D (.inl rfl)).trans h.blk, fun k r hr => ?_, h.lowD, h.low, h.two⟩
  have hk : k < M.rows.length := (List.getElem?_eq_some_iff.1 hr).1
  have h0 := h.row k r hr
  exact ⟨(hf _ (.inr ⟨k, hk, .inl rfl⟩)).trans h0.blk, h0.own.block fun g hg => hf g (.inr ⟨k, hk, .inr hg⟩)⟩
theorem lt_of_heap {w : World} {g : Nat} {o : Obj} (h : w.heap[g]? = some o) : g < w.heap.size := (Array.getElem?_eq_some_iff.1 h).1
theorem DiskAt.foot {w : World} {base D : Nat} {M : Dm} {rb : Nat → Nat} {rv : Nat → Value} (h : DiskAt w base D M rb rv) (g : Nat) (hf : Foot D M rb rv g) : base ≤ g ∧ g < w.heap.size := by
  rcases hf with rfl | ⟨k, hk, rfl | hg⟩
  · exact ⟨h.lowD, lt_of_heap h.blk⟩
  · exact ⟨(h.low k hk).1, lt_of_heap (h.row k _ (List.getElem?_eq_getElem hk)).blk⟩
  · exact (h.row k _ (List.getElem?_eq_getElem hk)).own.lt g hg
theorem DiskAt.later {w w' : World} {base D : Nat} {M : Dm} {rb : Nat → Nat} {rv : Nat → Value} (h : DiskAt w base D M rb rv) (hb : Below w.heap.size w w') : DiskAt w' base D M rb rv := h.kept fun g hg => hb.block g (h.foot g hg).2
theorem DiskAt.size {w : World} {base D : Nat} {M : Dm} {rb : Nat → Nat} {rv : Nat → Value} (h : DiskAt w base D M rb rv) : w.cell? ⟨D, 0, none⟩ = some (.int .i64 M.size) := cell_of_row _ D 0 _ _ (0, 0) h.blk
theorem DiskAt.now {w : World} {base D : Nat} {M : Dm} {rb : Nat → Nat} {rv : Nat → Value} (h : DiskAt w base D M rb rv) : w.rangeAt D 1 (tab rb M.now) := fun j v hj => by
  have hl := (List.getElem?_eq_some_iff.1 hj).1
  show w.cell? ⟨D, 1 + j, none⟩ = some v
  rw [cell_of_row _ D (1 + j) _ _ (0, 0) h.blk]
  simp only [dc, List.getElem?_toArray]
  rw [Nat.add_comm 1 j, List.getElem?_cons_succ, List.getElem?_append_left hl, hj]
theorem DiskAt.safe {w : World} {base D : Nat} {M : Dm} {rb : Nat → Nat} {rv : Nat → Value} (h : DiskAt w base D M rb rv) : w.rangeAt D 129 (tab rb M.safe) := fun j v hj => by
  show w.cell? ⟨D, 129 + j, none⟩ = some v
  have hn : (tab rb M.now).length = 128 := by rw [tab_length, h.ok.nl]
  rw [cell_of_row _ D (129 + j) _ _ (0, 0) h.blk]
  simp only [dc, List.getElem?_toArray]
  rw [show 129 + j = 128 + j + 1 by omega, List.getElem?_cons_succ, List.getElem?_append_right (by omega), hn, show 128 + j - 128 = j by omega, hj]
end Go.Proofs.YtjfejpdeccnlnaaDoor
