/- Layer 17 (files): a disk in memory; goes, at, finds; Layer 17 (files): the table in memory; at; Layer 17 (files): what a call leaves of a disk; finds, Size, Left; Layer 17 (files): what stores make of a disk; Layer 17 (files): Create, Remove, Rename, Sync, Names -/
import Derived.Test.YtidhlbhfhfonoaaGreatDoorJZXG01
import Derived.Test.YtidhlbhfhfonoaaGreatDoorJZXG04
import Derived.Test.YtidhlbhfhfonoaaGreatDoorJZXG05
import Derived.Test.YtidhlbhfhfonoaaGreatDoorRows
import Derived.ProofKit
import Derived.OpenShut
import Derived.WalkLawsBesides
import Derived.Deep.QuietTactic
import Derived.BigQuiet
import Derived.BigRegion
import Derived.Outline
import Derived.LoopTactic
import Derived.Deep.MidRow
import Derived.Great.Walk
import Derived.Shelf.Strings.SlTrimAscii
import Derived.WalkMore
import Derived.StillTailTactics
namespace Go.Proofs.YtidhlbhfhfonoaaGreatDoor
open Go.ChangeShapes Go.WideShapes Go.ChangeAt Go.RowKit

theorem trim_nil (l : List UInt8) : ((⟨(Lib.trimLeftS l mayB).toArray⟩ : ByteArray) = ⟨#[]⟩) ↔ l.all (fun b => mayB.contains b) = true := by
  have h1 : ((⟨(Lib.trimLeftS l mayB).toArray⟩ : ByteArray) = ⟨#[]⟩) ↔ Lib.trimLeftS l mayB = [] := by
    constructor
    · intro h
      have := congrArg (fun x : ByteArray => x.data.toList) h
      simpa using this
    · intro h
      rw [h]
  rw [h1]
  unfold Lib.trimLeftS
  clear h1
  induction l with
  | nil => simp
  | cons a l ih =>
    rw [List.dropWhile_cons, List.all_cons]
    cases h : mayB.contains a
    · simp
    · simpa using ih
theorem TrimLeft_may (s : ByteArray) (w : World) : Calls Tryz.prog 121 #[.string s, .string ⟨#[97, 98, 99, 100, 101, 102, 103, 104, 105, 106, 107, 108, 109, 110, 111, 112, 113, 114, 115, 116, 117, 118, 119, 120, 121, 122, 48, 49, 50, 51, 52, 53, 54, 55, 56, 57, 45, 46]⟩] w fun e w' => e = .returned (.string ⟨(Lib.trimLeftS s.data.toList mayB).toArray⟩) ∧ Below w.heap.size w w' :=
  Any.strings_TrimLeft_laid Tryz.lays161 (by kernel_rfl) s ⟨#[97, 98, 99, 100, 101, 102, 103, 104, 105, 106, 107, 108, 109, 110, 111, 112, 113, 114, 115, 116, 117, 118, 119, 120, 121, 122, 48, 49, 50, 51, 52, 53, 54, 55, 56, 57, 45, 46]⟩ w (by decide) (ascii_of_all (by decide))
theorem size_zero {s : ByteArray} : s.size = 0 ↔ s = ⟨#[]⟩ := by
  constructor
  · intro h
    cases s with
    | mk d => congr; exact Array.eq_empty_of_size_eq_zero h
  · rintro rfl
    rfl
theorem list_eq_str (a b : ByteArray) : (a.toList == b.toList) = decide (a = b) := by
  rw [ByteArray.toList_eq, ByteArray.toList_eq]
  by_cases h : a = b
  · subst h
    simp
  · have h2 : a.data.toList ≠ b.data.toList := fun e => h (bytes_inj e)
    rw [decide_eq_false h]
    simpa using h2
theorem ne_nil {s : ByteArray} (h : s ≠ ⟨#[]⟩) : s.toList ≠ [] ∧ s.toList.isEmpty = false := by
  have h1 : s.toList ≠ [] := fun e => by
    rw [ByteArray.toList_eq] at e
    exact h (bytes_inj e)
  exact ⟨h1, by cases hl : s.toList with | nil => exact absurd hl h1 | cons _ _ => rfl⟩
set_option maxRecDepth 20000 in
set_option maxHeartbeats 1500000 in
theorem goes_any (w : World) (D n : Nat) (h : w.cell? ⟨D, 0, none⟩ = some (.int .i64 n)) (hn : 1 ≤ n) (ok : Bool) (s : ByteArray) (hs : s.size ≤ 140737488355328) :
    Calls Tryz.prog 52 #[.pointer (some ⟨D, 0, none⟩), .bool ok, .string s] w fun e w' => e = .returned (.int .i64 (if ok && nameOk s then 0 else 1)) ∧ Below w.heap.size w w' := by
  have HT := Lib.hid (TrimLeft_may s w)
  cases ok with
  | false =>
    clear HT
    go_enter Tryz.func52, Tryz.ntmps52
    go_wp2_with fail
    go_ret
    exact ⟨rfl, Below.refl _ _⟩
  | true =>
    by_cases h0 : s = ⟨#[]⟩
    · subst h0
      clear HT
      go_enter Tryz.func52, Tryz.ntmps52
      go_wp2_with fail
      go_ret
      exact ⟨rfl, Below.refl _ _⟩
    · have hz : s.size ≠ 0 := fun e => h0 (size_zero.1 e)
      obtain ⟨hq, hq2⟩ := ne_nil h0
      by_cases h16 : 16 < s.size
      · have e : nameOk s = false := by
          unfold nameOk
          rw [show decide (s.size ≤ 16) = false by simpa using h16]
          simp
        rw [e]
        clear HT
        go_enter Tryz.func52, Tryz.ntmps52
        go_wp2_with fail
        go_ret
        exact ⟨rfl, Below.refl _ _⟩
      · have e : nameOk s = s.data.toList.all (fun b => mayB.contains b) := by
          unfold nameOk
          rw [show decide (s.size ≤ 16) = true by simpa using h16, show decide (s.size ≠ 0) = true by simpa using hz]
          simp
        rw [e]
        have ht := trim_nil s.data.toList
        obtain ⟨r, hr'⟩ : ∃ r, r = (⟨(Lib.trimLeftS s.data.toList mayB).toArray⟩ : ByteArray) := ⟨_, rfl⟩
        rw [← hr'] at HT ht
        cases ha : s.data.toList.all (fun b => mayB.contains b) with
        | true =>
          have hr := ht.2 ha
          subst hr
          clear ht ha e hr' h0 hz
          go_enter Tryz.func52, Tryz.ntmps52
          go_wp2_with fail
          refine (HT.out).mono ?_
          rintro _ w1 ⟨rfl, hb⟩
          have HB := Lib.hid hb
          clear hb
          go_wp2_with fail
          go_ret
          exact ⟨rfl, HB.out⟩
        | false =>
          have hr : r ≠ ⟨#[]⟩ := fun x => by rw [ht.1 x] at ha; cases ha
          obtain ⟨hn, hn2⟩ := ne_nil hr
          clear ht ha hr e hr' h0 hz
          go_enter Tryz.func52, Tryz.ntmps52
          go_wp2_with fail
          refine (HT.out).mono ?_
          rintro _ w1 ⟨rfl, hb⟩
          have HB := Lib.hid hb
          clear hb
          go_wp2_with fail
          go_ret
          exact ⟨rfl, HB.out⟩
end Go.Proofs.YtidhlbhfhfonoaaGreatDoor
namespace Go.Proofs.YtidhlbhfhfonoaaGreatDoor
open Go.ChangeShapes Go.WideShapes Go.ChangeAt Go.RowKit

def ptrOf (rb : Nat → Nat) (f : Option Nat) : Value := .pointer (f.map fun k => ⟨rb k, 0, none⟩)
/-- A table's cells. -/
def tab (rb : Nat → Nat) : List Pl → List Value
  | [] => []
  | p :: t => .string p.name :: ptrOf rb p.file :: tab rb t
theorem tab_length (rb : Nat → Nat) : ∀ t, (tab rb t).length = t.length * 2
  | [] => rfl
  | p :: t => by rw [tab, List.length_cons, List.length_cons, tab_length rb t, List.length_cons]; omega
theorem tab_get (rb : Nat → Nat) : ∀ {t : List Pl} {i : Nat} {p : Pl}, t[i]? = some p → (tab rb t)[i * 2]? = some (.string p.name) ∧ (tab rb t)[i * 2 + 1]? = some (ptrOf rb p.file)
  | p :: t, 0, q, h => by simp at h; subst h; exact ⟨rfl, rfl⟩
  | p :: t, i + 1, q, h => by
    have := tab_get rb (t := t) (i := i) (p := q) (by simpa using h)
    rw [tab, show (i + 1) * 2 = i * 2 + 1 + 1 by omega]
    simpa using this
theorem tab_set (rb : Nat → Nat) : ∀ (t : List Pl) (i : Nat) (p : Pl), tab rb (t.set i p) = ((tab rb t).set (i * 2) (.string p.name)).set (i * 2 + 1) (ptrOf rb p.file)
  | [], i, p => by simp [tab]
  | q :: t, 0, p => by simp [tab]
  | q :: t, i + 1, p => by
    rw [List.set_cons_succ, tab, tab, tab_set rb t i p, show (i + 1) * 2 = i * 2 + 1 + 1 by omega]
    simp
theorem tab_congr {rb rb' : Nat → Nat} : ∀ {t : List Pl}, (∀ p ∈ t, ∀ k, p.file = some k → rb k = rb' k) → tab rb t = tab rb' t
  | [], _ => rfl
  | p :: t, h => by
    rw [tab, tab, tab_congr (t := t) fun q hq => h q (List.mem_cons_of_mem _ hq)]
    congr 2
    unfold ptrOf
    cases hp : p.file with
    | none => rfl
    | some k => rw [Option.map_some, Option.map_some, h p (List.mem_cons_self ..) k hp]
theorem rangeAt.later {w w' : World} {b o : Nat} {l : List Value} (h : w.rangeAt b o l) (hb : Below w.heap.size w w') : w'.rangeAt b o l := fun j v hj => by
  have h0 := h j v hj
  exact (World.cell?_of_block (w := w) (hb.block b (World.block_lt_of_cell? (a := ⟨b, o + j, none⟩) _ h0))).trans h0
theorem spot_some {t : List Pl} {s : ByteArray} {i : Nat} (h : find t s = some i) : spot t s = i := by unfold spot; rw [h]
theorem spot_none {t : List Pl} {s : ByteArray} (h : find t s = none) : spot t s = -1 := by unfold spot; rw [h]
set_option maxRecDepth 20000 in
set_option maxHeartbeats 3000000 in
theorem at_any (w : World) (D o : Nat) (t : List Pl) (rb : Nat → Nat) (h : w.rangeAt D o (tab rb t)) (hl : t.length = 64) (s : ByteArray) :
    Calls Tryz.prog 110 #[.pointer (some ⟨D, o, none⟩), .string s] w fun e w' => e = .returned (.int .i64 (spot t s)) ∧ Below w.heap.size w w' := by
  have HR := Lib.hid h
  clear h
  go_enter Tryz.func110, Tryz.ntmps110
  go_wp2_with fail
  go_step3
  go_wp2_with fail
  go_step3
  go_wp2_with fail
  go_loopw [4, 9] (fun n i wr => ∃ k : Nat, k ≤ 64 ∧ i = .int .i64 k ∧ n = .int .i64 (-1) ∧ (∀ j (hj : j < t.length), j < k → t[j].name ≠ s) ∧ Below w.heap.size w wr) (fun _ i _ => 64 - (intOf i).toNat)
  case atStart => exact ⟨0, Nat.zero_le _, rfl, rfl, fun j _ hj => absurd hj (Nat.not_lt_zero _), Below.refl _ _⟩
  case round =>
    obtain ⟨k, hk, rfl, rfl, hne, hb⟩ := hrel
    have HB := Lib.hid hb
    have HNE := Lib.hid hne
    by_cases hlt : k < 64
    · have hkt : k < t.length := by omega
      have hp := tab_get rb (List.getElem?_eq_getElem hkt)
      have c0 := rangeAt.later HR.out hb _ _ hp.1
      have c1 := rangeAt.later HR.out hb _ _ hp.2
      rw [show o + (k * 2 + 1) = o + k * 2 + 1 by omega] at c1
      obtain ⟨p, hp'⟩ : ∃ p, p = t[k] := ⟨_, rfl⟩
      rw [← hp'] at c0 c1
      obtain ⟨q, hptr⟩ : ∃ q, ptrOf rb p.file = .pointer q := ⟨_, rfl⟩
      rw [hptr] at c1
      have HP := Lib.hid hp'
      clear hptr
      have d0 : ∀ ob, (wr.alloc ob).cell? ⟨D, o + k * 2, none⟩ = some (.string p.name) := fun ob => (World.cell?_alloc_lt wr ob ⟨D, o + k * 2, none⟩ (World.block_lt_of_cell? (a := ⟨D, o + k * 2, none⟩) _ c0)).trans c0
      have d1 : ∀ ob, (wr.alloc ob).cell? ⟨D, o + k * 2 + 1, none⟩ = some (.pointer q) := fun ob => (World.cell?_alloc_lt wr ob ⟨D, o + k * 2 + 1, none⟩ (World.block_lt_of_cell? (a := ⟨D, o + k * 2 + 1, none⟩) _ c1)).trans c1
      clear hb hne hp hp'
      by_cases hs : p.name = s
      · have hsp : spot t s = k := spot_some (find_of hkt (by rw [← HP.out, hs]) fun j hj => HNE.out j (by omega) hj)
        have HSP := Lib.hid hsp
        subst hs
        clear hsp
        go_wp2_with fail
        go_region
        go_wp2_with fail
        try rw [Exit.noGoto_ret]
        go_ret
        exact ⟨by rw [HSP.out]; rfl, (HB.out.alloc HB.out.size _).drew⟩
      · have hq : (p.name.toList == s.toList) = false := by rw [list_eq_str, decide_eq_false hs]
        have HS := Lib.hid hs
        clear hs
        go_wp2_with fail
        go_region
        go_wp2_with fail
        go_roundw
        case rel => exact ⟨k + 1, by omega, by go_num, rfl, fun j hj h => by
          by_cases hjk : j < k
          · exact HNE.out j hj hjk
          · obtain rfl : j = k := by omega
            rw [← HP.out]
            exact HS.out, (HB.out.alloc HB.out.size _).drew⟩
        case measure => simp [intOf]; omega
    · obtain rfl : k = 64 := by omega
      have hf : find t s = none := find_none_of fun j hj => HNE.out j hj (by omega)
      have HSP := Lib.hid (spot_none hf)
      clear hb hne hf
      go_wp2_with fail
      try rw [Exit.noGoto_ret]
      go_ret
      exact ⟨by rw [HSP.out]; rfl, HB.out⟩

/-- A disk in block D; file k's row in block rb k, its bytes rv k. -/
def dc (M : Dm) (rb : Nat → Nat) : List Value := .int .i64 M.size :: (tab rb M.now ++ tab rb M.safe)
structure RowAt (w : World) (base b : Nat) (v : Value) (r : Rw) : Prop where
  blk : w.heap[b]? = some (.cells #[v, .int .i64 r.m] 118 (0, 0))
  own : OwnV w base 5 1 v r.l.length (cellsK .u8 r.l)
structure DiskAt (w : World) (base D : Nat) (M : Dm) (rb : Nat → Nat) (rv : Nat → Value) : Prop where
  ok : M.ok
  blk : w.heap[D]? = some (.cells (dc M rb).toArray 92 (0, 0))
  row : ∀ k r, M.rows[k]? = some r → RowAt w base (rb k) (rv k) r
  lowD : base ≤ D
  low : ∀ k, k < M.rows.length → base ≤ rb k ∧ rb k ≠ D ∧ (rv k).ownBlock ≠ some D
  two : ∀ j k, j < M.rows.length → k < M.rows.length → (rv j).ownBlock ≠ some (rb k) ∧ (j ≠ k → rb j ≠ rb k ∧ ∀ g, (rv j).ownBlock = some g → (rv k).ownBlock ≠ some g)
/-- The blocks that are a disk's. -/
def Foot (D : Nat) (M : Dm) (rb : Nat → Nat) (rv : Nat → Value) (g : Nat) : Prop := g = D ∨ ∃ k, k < M.rows.length ∧ (g = rb k ∨ (rv k).ownBlock = some g)
theorem DiskAt.kept {w w' : World} {base D : Nat} {M : Dm} {rb : Nat → Nat} {rv : Nat → Value} (h : DiskAt w base D M rb rv) (hf : ∀ g, Foot D M rb rv g → w'.heap[g]? = w.heap[g]?) : DiskAt w' base D M rb rv := by
  refine ⟨h.ok, (hf D (.inl rfl)).trans h.blk, fun k r hr => ?_, h.lowD, h.low, h.two⟩
  have hk : k < M.rows.length := (List.getElem?_eq_some_iff.1 hr).1
  have h0 := h.row k r hr
  exact ⟨(hf _ (.inr ⟨k, hk, .inl rfl⟩)).trans h0.blk, h0.own.block fun g hg => hf g (.inr ⟨k, hk, .inr hg⟩)⟩
theorem lt_of_heap {w : World} {g : Nat} {o : Obj} (h : w.heap[g]? = some o) : g < w.heap.size := (Array.getElem?_eq_some_iff.1 h).1
theorem DiskAt.foot {w : World} {base D : Nat} {M : Dm} {rb : Nat → Nat} {rv : Nat → Value} (h : DiskAt w base D M rb rv) (g : Nat) (hf : Foot D M rb rv g) : base ≤ g ∧ g < w.heap.size := by
  rcases hf with rfl | ⟨k, hk, rfl | hg⟩
  · exact ⟨h.lowD, lt_of_heap h.blk⟩
  · exact ⟨(h.low k hk).1, lt_of_heap (h.row k _ (List.getElem?_eq_getElem hk)).blk⟩
  · exact (h.row k _ (List.getElem?_eq_getElem hk)).own.lt g hg
theorem DiskAt.later {w w' : World} {base D : Nat} {M : Dm} {rb : Nat → Nat} {rv : Nat → Value} (h : DiskAt w base D M rb rv) (hb : Below w.heap.size w w') : DiskAt w' base D M rb rv := h.kept fun g hg => hb.block g (h.foot g hg).2
theorem DiskAt.size {w : World} {base D : Nat} {M : Dm} {rb : Nat → Nat} {rv : Nat → Value} (h : DiskAt w base D M rb rv) : w.cell? ⟨D, 0, none⟩ = some (.int .i64 M.size) := cell_of_row _ D 0 _ _ (0, 0) h.blk
theorem DiskAt.now {w : World} {base D : Nat} {M : Dm} {rb : Nat → Nat} {rv : Nat → Value} (h : DiskAt w base D M rb rv) : w.rangeAt D 1 (tab rb M.now) := fun j v hj => by
  have hl := (List.getElem?_eq_some_iff.1 hj).1
  show w.cell? ⟨D, 1 + j, none⟩ = some v
  rw [cell_of_row _ D (1 + j) _ _ (0, 0) h.blk]
  simp only [dc, List.getElem?_toArray]
  rw [Nat.add_comm 1 j, List.getElem?_cons_succ, List.getElem?_append_left hl, hj]
theorem DiskAt.safe {w : World} {base D : Nat} {M : Dm} {rb : Nat → Nat} {rv : Nat → Value} (h : DiskAt w base D M rb rv) : w.rangeAt D 129 (tab rb M.safe) := fun j v hj => by
  show w.cell? ⟨D, 129 + j, none⟩ = some v
  have hn : (tab rb M.now).length = 128 := by rw [tab_length, h.ok.nl]
  rw [cell_of_row _ D (129 + j) _ _ (0, 0) h.blk]
  simp only [dc, List.getElem?_toArray]
  rw [show 129 + j = 128 + j + 1 by omega, List.getElem?_cons_succ, List.getElem?_append_right (by omega), hn, show 128 + j - 128 = j by omega, hj]
end Go.Proofs.YtidhlbhfhfonoaaGreatDoor
namespace Go.Proofs.YtidhlbhfhfonoaaGreatDoor
open Go.ChangeShapes Go.WideShapes Go.ChangeAt Go.RowKit

/-- A disk in block D, all of whose blocks are of S. -/
def Dk (w : World) (base D : Nat) (M : Dm) (S : Nat → Prop) : Prop := (∃ rb rv, DiskAt w base D M rb rv ∧ ∀ g, Foot D M rb rv g → S g) ∧ ∀ g, S g → base ≤ g ∧ g < w.heap.size
/-- What a call on a disk leaves. -/
structure Dn (w w' : World) (base D : Nat) (M : Dm) (S : Nat → Prop) : Prop where
  dk : Dk w' base D M (plus S w w')
  chg : Chg w w' S
theorem Dk.later {w w' : World} {base D : Nat} {M : Dm} {S : Nat → Prop} (h : Dk w base D M S) (hb : Below w.heap.size w w') : Dk w' base D M S := by
  obtain ⟨⟨rb, rv, h1, h2⟩, h3⟩ := h
  exact ⟨⟨rb, rv, h1.later hb, h2⟩, fun g hg => ⟨(h3 g hg).1, Nat.lt_of_lt_of_le (h3 g hg).2 hb.size⟩⟩
theorem Dk.wide {w : World} {base D : Nat} {M : Dm} {S S' : Nat → Prop} (h : Dk w base D M S) (hS : ∀ g, S g → S' g) (hb : ∀ g, S' g → base ≤ g ∧ g < w.heap.size) : Dk w base D M S' := by
  obtain ⟨⟨rb, rv, h1, h2⟩, h3⟩ := h
  exact ⟨⟨rb, rv, h1, fun g hg => hS g (h2 g hg)⟩, hb⟩
theorem Dk.ok {w : World} {base D : Nat} {M : Dm} {S : Nat → Prop} (h : Dk w base D M S) : M.ok := by
  obtain ⟨⟨rb, rv, h1, h2⟩, h3⟩ := h
  exact h1.ok
theorem Dk.base {w : World} {base D : Nat} {M : Dm} {S : Nat → Prop} (h : Dk w base D M S) : base ≤ w.heap.size := by
  obtain ⟨⟨rb, rv, h1, h2⟩, h3⟩ := h
  have := h3 D (h2 D (.inl rfl))
  omega
/-- A call that only looks. -/
theorem Dk.looked {w w' : World} {base D : Nat} {M : Dm} {S : Nat → Prop} (h : Dk w base D M S) (hb : Below w.heap.size w w') : Dn w w' base D M S := by
  have hB := h.base
  have h3 := h.2
  have hs := hb.size
  refine ⟨(h.later hb).wide (fun g hg => .inl hg) (fun g hg => ?_), Chg.of_below hb S⟩
  rcases hg with hg | hg
  · have := h3 g hg; omega
  · omega
/-! ### A place, a row -/
theorem DiskAt.place {w : World} {base D : Nat} {M : Dm} {rb : Nat → Nat} {rv : Nat → Value} (h : DiskAt w base D M rb rv) {i : Nat} {p : Pl} (hi : M.now[i]? = some p) :
    w.cell? ⟨D, 1 + i * 2, none⟩ = some (.string p.name) ∧ w.cell? ⟨D, 1 + i * 2 + 1, none⟩ = some (ptrOf rb p.file) := by
  obtain ⟨h1, h2⟩ := tab_get rb hi
  exact ⟨h.now _ _ h1, by have := h.now _ _ h2; rwa [← Nat.add_assoc] at this⟩
theorem RowAt.cells {w : World} {base b : Nat} {v : Value} {r : Rw} (h : RowAt w base b v r) : w.cell? ⟨b, 0, none⟩ = some v ∧ w.cell? ⟨b, 1, none⟩ = some (.int .i64 r.m) :=
  ⟨cell_of_row _ b 0 _ _ (0, 0) h.blk, cell_of_row _ b 1 _ _ (0, 0) h.blk⟩
theorem frozen_row {w : World} {b : Nat} {c : Array Value} {t : TypeId} (h : w.heap[b]? = some (.cells c t (0, 0))) (o : Nat) : w.frozen? ⟨b, o, none⟩ = false := by
  simp [World.frozen?, h]
theorem DiskAt.free {w : World} {base D : Nat} {M : Dm} {rb : Nat → Nat} {rv : Nat → Value} (h : DiskAt w base D M rb rv) (o : Nat) : w.frozen? ⟨D, o, none⟩ = false := frozen_row h.blk o
/-- What finds tells. -/
def Dm.why (M : Dm) (ok : Bool) (s : ByteArray) : Nat := if ok && nameOk s then (match find M.now s with | none => 7 | some _ => 0) else 1
set_option maxRecDepth 20000 in
set_option maxHeartbeats 1500000 in
theorem finds_yes {w : World} {base D : Nat} {M : Dm} {rb : Nat → Nat} {rv : Nat → Value} (h : DiskAt w base D M rb rv) (s : ByteArray) (hs : s.size ≤ 140737488355328) (hok : nameOk s = true) (i : Nat) (hf : find M.now s = some i) :
    Calls Tryz.prog 49 #[.pointer (some ⟨D, 0, none⟩), .bool true, .string s] w fun e w' => e = .returned (.tuple #[.pointer (some ⟨D, 1 + i * 2, none⟩), .int .i64 0]) ∧ Below w.heap.size w w' := by
  have HG := Lib.hid (goes_any w D M.size h.size h.ok.size.1 true s hs)
  rw [if_pos (by simpa using hok)] at HG
  have HA := Lib.hid (fun (w1 : World) (hb : Below w.heap.size w w1) => at_any w1 D 1 M.now rb (h.later hb).now h.ok.nl s)
  rw [spot_some hf] at HA
  have hi : (i : Int) < 64 := by obtain ⟨_, _, h2⟩ := find_get hf; have := h.ok.nl; omega
  clear h hf hok
  go_enter Tryz.func49, Tryz.ntmps49
  go_wp2_with fail
  refine HG.out.mono ?_
  rintro _ w1 ⟨rfl, hb⟩
  have HB := Lib.hid hb
  go_wp2_with fail
  refine (HA.out w1 HB.out).mono ?_
  rintro _ w2 ⟨rfl, hb2⟩
  have HB2 := Lib.hid (below_on HB.out hb2)
  clear hb hb2
  go_wp2_with fail
  go_ret2
  exact ⟨rfl, HB2.out⟩
set_option maxRecDepth 20000 in
set_option maxHeartbeats 1500000 in
theorem finds_no {w : World} {base D : Nat} {M : Dm} {rb : Nat → Nat} {rv : Nat → Value} (h : DiskAt w base D M rb rv) (ok : Bool) (s : ByteArray) (hs : s.size ≤ 140737488355328) (hw : M.why ok s ≠ 0) :
    Calls Tryz.prog 49 #[.pointer (some ⟨D, 0, none⟩), .bool ok, .string s] w fun e w' => e = .returned (.tuple #[.pointer none, .int .i64 (M.why ok s)]) ∧ Below w.heap.size w w' := by
  have HG := Lib.hid (goes_any w D M.size h.size h.ok.size.1 ok s hs)
  by_cases hg : (ok && nameOk s) = true
  · rw [if_pos hg] at HG
    have HA := Lib.hid (fun (w1 : World) (hb : Below w.heap.size w w1) => at_any w1 D 1 M.now rb (h.later hb).now h.ok.nl s)
    unfold Dm.why at hw ⊢
    rw [if_pos hg] at hw ⊢
    cases hf : find M.now s with
    | some i => rw [hf] at hw; exact absurd rfl hw
    | none =>
      rw [spot_none hf] at HA
      clear h hf hw hg
      go_enter Tryz.func49, Tryz.ntmps49
      go_wp2_with fail
      refine HG.out.mono ?_
      rintro _ w1 ⟨rfl, hb⟩
      have HB := Lib.hid hb
      go_wp2_with fail
      refine (HA.out w1 HB.out).mono ?_
      rintro _ w2 ⟨rfl, hb2⟩
      have HB2 := Lib.hid (below_on HB.out hb2)
      clear hb hb2
      go_wp2_with fail
      go_ret2
      exact ⟨rfl, HB2.out⟩
  · rw [if_neg hg] at HG
    unfold Dm.why
    rw [if_neg hg]
    clear h hw hg
    go_enter Tryz.func49, Tryz.ntmps49
    go_wp2_with fail
    refine HG.out.mono ?_
    rintro _ w1 ⟨rfl, hb⟩
    have HB := Lib.hid hb
    clear hb
    go_wp2_with fail
    go_ret2
    exact ⟨rfl, HB.out⟩
/-- The two ways of finds. -/
theorem Dm.ways (M : Dm) (s : ByteArray) : (nameOk s = true ∧ ∃ i, find M.now s = some i) ∨ M.why true s ≠ 0 := by
  unfold Dm.why
  by_cases h : nameOk s = true
  · cases hf : find M.now s with
    | some i => exact .inl ⟨h, i, rfl⟩
    | none => right; simp [h]
  · right; simp [h]
theorem Dm.at_no {M : Dm} {s : ByteArray} {f : Nat → Dm × Nat} (h : M.why true s ≠ 0) : M.at s f = (M, M.why true s) := by
  unfold Dm.why at h ⊢
  unfold Dm.at
  by_cases hn : nameOk s = true
  · cases hf : find M.now s with
    | some i => simp [hn, hf] at h
    | none => simp [hn]
  · simp [hn]
theorem Dm.at_yes {M : Dm} {s : ByteArray} {f : Nat → Dm × Nat} {i : Nat} (h : nameOk s = true) (hf : find M.now s = some i) : M.at s f = f i := by
  unfold Dm.at
  simp [h, hf]
/-- A file's bytes' number, and the error. -/
def Dm.sizeE (M : Dm) (s : ByteArray) : Nat × Nat := if M.why true s = 0 then (((find M.now s).map fun i => (M.row i).l.length).getD 0, 0) else (0, M.why true s)
theorem Dm.why_yes {M : Dm} {s : ByteArray} {i : Nat} (h : nameOk s = true) (hf : find M.now s = some i) : M.why true s = 0 := by simp [Dm.why, h, hf]
set_option maxRecDepth 20000 in
set_option maxHeartbeats 1500000 in
theorem Size_any {w : World} {base D : Nat} {M : Dm} {S : Nat → Prop} (h : Dk w base D M S) (s : ByteArray) (hs : s.size ≤ 140737488355328) :
    Calls Tryz.prog 39 #[.pointer (some ⟨D, 0, none⟩), .string s] w fun e w' => e = .returned (.tuple #[.int .i64 (M.sizeE s).1, .int .i64 (M.sizeE s).2]) ∧ Below w.heap.size w w' := by
  obtain ⟨⟨rb, rv, h, _⟩, _⟩ := h
  rcases M.ways s with ⟨hok, i, hf⟩ | hno
  · obtain ⟨k, r, h1, h2, h3, h4, h5⟩ := h.ok.found hok hf
    rw [show M.sizeE s = (r.l.length, 0) by simp [Dm.sizeE, Dm.why_yes hok hf, hf, h5]]
    have HF := Lib.hid (finds_yes h s hs hok i hf)
    obtain ⟨_, cp⟩ := h.place h1
    obtain ⟨cv, _⟩ := (h.row k r h2).cells
    obtain ⟨a, c, hv⟩ := (h.row k r h2).own.sl
    rw [hv] at cv
    have hl := (h.ok.rl k r h2).1
    have cp' : w.cell? ⟨D, 1 + i * 2 + 1, none⟩ = some (.pointer (some ⟨rb k, 0, none⟩)) := cp
    have CP := Lib.hid (fun w1 (hb : Below w.heap.size w w1) => cell_on cp' hb)
    have CV := Lib.hid (fun w1 (hb : Below w.heap.size w w1) => cell_on cv hb)
    clear h h1 h2 h3 h4 h5 hf hok cp cp' cv hv
    go_enter Tryz.func39, Tryz.ntmps39
    go_wp2_with fail
    refine HF.out.mono ?_
    rintro _ w1 ⟨rfl, hb⟩
    have HB := Lib.hid hb
    have c1 := CP.out w1 hb
    have c2 := CV.out w1 hb
    clear hb
    go_wp2_with fail
    go_ret2
    exact ⟨rfl, HB.out⟩
  · rw [show M.sizeE s = (0, M.why true s) by simp [Dm.sizeE, hno]]
    have HF := Lib.hid (finds_no h true s hs hno)
    obtain ⟨e, he⟩ : ∃ e, M.why true s = e := ⟨_, rfl⟩
    rw [he] at HF hno ⊢
    have hn : ((e : Int) != 0) = true := by simp; omega
    clear h he
    go_enter Tryz.func39, Tryz.ntmps39
    go_wp2_with fail
    refine HF.out.mono ?_
    rintro _ w1 ⟨rfl, hb⟩
    have HB := Lib.hid hb
    clear hb
    go_wp2_with fail
    go_ret2
    exact ⟨rfl, HB.out⟩
end Go.Proofs.YtidhlbhfhfonoaaGreatDoor
namespace Go.Proofs.YtidhlbhfhfonoaaGreatDoor
open Go.ChangeShapes Go.WideShapes Go.ChangeAt Go.RowKit

/-! ### A table's store -/
theorem dc_put (M : Dm) (rb : Nat → Nat) (i : Nat) (p : Pl) (hi : i < M.now.length) : dc { M with now := M.now.set i p } rb = ((dc M rb).set (1 + i * 2) (.string p.name)).set (1 + i * 2 + 1) (ptrOf rb p.file) := by
  have hl := tab_length rb M.now
  unfold dc
  rw [show 1 + i * 2 = i * 2 + 1 by omega, List.set_cons_succ, List.set_cons_succ, List.set_append_left _ _ (by omega), List.set_append_left _ _ (by rw [List.length_set]; omega), tab_set]
theorem dc_length {M : Dm} (h : M.ok) (rb : Nat → Nat) : (dc M rb).length = 257 := by
  simp [dc, tab_length, h.nl, h.sl]
theorem heap_two {w : World} {D a b : Nat} {l : List Value} {t : TypeId} (h : w.heap[D]? = some (.cells l.toArray t (0, 0))) (u v : Value) :
    ((w.setCell ⟨D, a, none⟩ u).setCell ⟨D, b, none⟩ v).heap[D]? = some (.cells ((l.set a u).set b v).toArray t (0, 0)) := by
  have h1 := heap_setCell_same w D a _ t u h
  rw [List.setIfInBounds_toArray] at h1
  have h2 := heap_setCell_same _ D b _ t v h1
  rw [List.setIfInBounds_toArray] at h2
  exact h2
theorem DiskAt.put {w : World} {base D : Nat} {M : Dm} {rb : Nat → Nat} {rv : Nat → Value} (h : DiskAt w base D M rb rv) {i : Nat} {p : Pl} (hi : i < 64) (hok : Dm.ok { M with now := M.now.set i p }) {f : Value} (hf : f = ptrOf rb p.file) :
    DiskAt ((w.setCell ⟨D, 1 + i * 2, none⟩ (.string p.name)).setCell ⟨D, 1 + i * 2 + 1, none⟩ f) base D { M with now := M.now.set i p } rb rv := by
  subst hf
  have hk : ∀ g, g ≠ D → ((w.setCell ⟨D, 1 + i * 2, none⟩ (.string p.name)).setCell ⟨D, 1 + i * 2 + 1, none⟩ (ptrOf rb p.file)).heap[g]? = w.heap[g]? := fun g hg => by
    rw [Below.heap_setCell _ _ _ _ hg, Below.heap_setCell _ _ _ _ hg]
  refine ⟨hok, ?_, fun k r hr => ?_, h.lowD, h.low, h.two⟩
  · rw [dc_put M rb i p (by have := h.ok.nl; omega)]
    exact heap_two h.blk _ _
  · have hkl : k < M.rows.length := (List.getElem?_eq_some_iff.1 hr).1
    have h0 := h.row k r hr
    obtain ⟨l1, l2, l3⟩ := h.low k hkl
    exact ⟨(hk _ l2).trans h0.blk, h0.own.block fun g hg => hk g (fun e => l3 (by rw [hg, e]))⟩
/-! ### A new row -/
theorem DiskAt.newRow {w : World} {base D : Nat} {M : Dm} {rb : Nat → Nat} {rv : Nat → Value} (h : DiskAt w base D M rb rv) :
    DiskAt (w.alloc (.cells #[.slice none 0 0, .int .i64 0] 118)) base D { M with rows := M.rows ++ [⟨[], 0⟩] } (fun k => if k = M.rows.length then w.heap.size else rb k) (fun k => if k = M.rows.length then .slice none 0 0 else rv k) := by
  have hD := (h.foot D (.inl rfl)).2
  have hb : Below w.heap.size w (w.alloc (.cells #[.slice none 0 0, .int .i64 0] 118)) := (Below.refl _ _).alloc (Nat.le_refl _) _
  have hlen : (M.rows ++ [(⟨[], 0⟩ : Rw)]).length = M.rows.length + 1 := by simp
  have hrow : ∀ (k : Nat) (r : Rw), (M.rows ++ [(⟨[], 0⟩ : Rw)])[k]? = some r → (k < M.rows.length ∧ M.rows[k]? = some r) ∨ (k = M.rows.length ∧ r = ⟨[], 0⟩) := by
    intro k r hr
    rcases Nat.lt_or_ge k M.rows.length with hk | hk
    · rw [List.getElem?_append_left hk] at hr
      exact .inl ⟨hk, hr⟩
    · rw [List.getElem?_append_right hk] at hr
      obtain ⟨h1, h2⟩ := List.getElem?_eq_some_iff.1 hr
      have h0 : k - M.rows.length = 0 := by simpa using h1
      exact .inr ⟨by omega, by rw [← h2]; simp [h0]⟩
  have hne : ∀ k, k < M.rows.length → k ≠ M.rows.length := fun k hk => by omega
  have hrbk : ∀ k, k < M.rows.length → rb k < w.heap.size := fun k hk => (h.foot _ (.inr ⟨k, hk, .inl rfl⟩)).2
  have hrvk : ∀ k, k < M.rows.length → ∀ g, (rv k).ownBlock = some g → g < w.heap.size := fun k hk g hg => (h.foot _ (.inr ⟨k, hk, .inr hg⟩)).2
  refine ⟨⟨h.ok.size, ?_, ?_, ?_⟩, ?_, fun k r hr => ?_, h.lowD, fun k hk => ?_, fun j k hj hk => ?_⟩
  · show okT (M.rows ++ [(⟨[], 0⟩ : Rw)]).length M.now
    rw [hlen]; exact h.ok.now.mono (Nat.le_succ _)
  · show okT (M.rows ++ [(⟨[], 0⟩ : Rw)]).length M.safe
    rw [hlen]; exact h.ok.safe.mono (Nat.le_succ _)
  · intro k r hr
    rcases hrow k r hr with ⟨_, hr⟩ | ⟨_, rfl⟩
    · exact h.ok.rl k r hr
    · simp
  · have e1 : ∀ (t : List Pl), okT M.rows.length t → tab (fun k => if k = M.rows.length then w.heap.size else rb k) t = tab rb t := fun t ht => tab_congr fun p hp k hk => by
      obtain ⟨i, hi⟩ := List.mem_iff_getElem?.1 hp
      exact if_neg (hne k ((ht.file i p hi).2 k hk))
    rw [Below.heap_alloc _ _ _ hD, h.blk]
    simp only [dc]
    rw [e1 _ h.ok.now, e1 _ h.ok.safe]
  · rcases hrow k r hr with ⟨hk, hr⟩ | ⟨rfl, rfl⟩
    · simp only [if_neg (hne k hk)]
      have h0 := h.row k r hr
      exact ⟨(hb.block _ (hrbk k hk)).trans h0.blk, h0.own.later hb⟩
    · simp only [if_pos]
      exact ⟨heap_alloc_new w _, rfl, .inl ⟨rfl, rfl⟩⟩
  · have hk' : k < M.rows.length + 1 := by rw [← hlen]; exact hk
    by_cases hkl : k = M.rows.length
    · simp only [if_pos hkl]
      exact ⟨by have := h.lowD; omega, by omega, by simp [Value.ownBlock]⟩
    · simp only [if_neg hkl]
      exact h.low k (by omega)
  · have hj' : j < M.rows.length + 1 := by rw [← hlen]; exact hj
    have hk' : k < M.rows.length + 1 := by rw [← hlen]; exact hk
    by_cases hjl : j = M.rows.length
    · subst hjl
      refine ⟨by simp [Value.ownBlock], fun hjk => ?_⟩
      have hkn : k ≠ M.rows.length := fun e => hjk e.symm
      simp only [if_pos, if_neg hkn]
      exact ⟨by have := hrbk k (by omega); omega, fun g hg => by simp [Value.ownBlock] at hg⟩
    · have hjl' : j < M.rows.length := by omega
      by_cases hkl : k = M.rows.length
      · subst hkl
        simp only [if_pos, if_neg hjl]
        refine ⟨fun e => by have := hrvk j hjl' _ e; omega, fun _ => ⟨by have := hrbk j hjl'; omega, fun g hg => by simp [Value.ownBlock]⟩⟩
      · simp only [if_neg hjl, if_neg hkl]
        exact h.two j k hjl' (by omega)

/-! ### A row that turns -/
theorem DiskAt.setRow {w w' : World} {base D : Nat} {M : Dm} {rb : Nat → Nat} {rv : Nat → Value} (h : DiskAt w base D M rb rv) {k : Nat} {r r' : Rw} {v' : Value} (hr : M.rows[k]? = some r) (hok : Dm.ok { M with rows := M.rows.set k r' })
    (hb : ∀ g, g < w.heap.size → g ≠ rb k → (rv k).ownBlock ≠ some g → w'.heap[g]? = w.heap[g]?) (hrow : RowAt w' base (rb k) v' r') (hv : v'.ownBlock = (rv k).ownBlock ∨ ∀ g, v'.ownBlock = some g → w.heap.size ≤ g) :
    DiskAt w' base D { M with rows := M.rows.set k r' } rb (fun j => if j = k then v' else rv j) := by
  have hk : k < M.rows.length := (List.getElem?_eq_some_iff.1 hr).1
  have hlen : (M.rows.set k r').length = M.rows.length := List.length_set
  obtain ⟨l1, l2, l3⟩ := h.low k hk
  have hrbk : ∀ j, j < M.rows.length → rb j < w.heap.size := fun j hj => (h.foot _ (.inr ⟨j, hj, .inl rfl⟩)).2
  have hrvk : ∀ j, j < M.rows.length → ∀ g, (rv j).ownBlock = some g → g < w.heap.size := fun j hj g hg => (h.foot _ (.inr ⟨j, hj, .inr hg⟩)).2
  have hD := (h.foot D (.inl rfl)).2
  refine ⟨hok, ?_, fun j q hq => ?_, h.lowD, fun j hj => ?_, fun i j hi hj => ?_⟩
  · exact (hb D hD (fun e => l2 e.symm) l3).trans h.blk
  · by_cases hjk : j = k
    · subst hjk
      simp only [if_pos]
      have hq' : (M.rows.set j r')[j]? = some q := hq
      rw [List.getElem?_set_self hk] at hq'
      cases hq'
      exact hrow
    · simp only [if_neg hjk]
      have hq' : (M.rows.set k r')[j]? = some q := hq
      rw [List.getElem?_set_ne (fun e => hjk e.symm)] at hq'
      have hjl : j < M.rows.length := (List.getElem?_eq_some_iff.1 hq').1
      have h0 := h.row j q hq'
      obtain ⟨t1, t2⟩ := h.two j k hjl hk
      obtain ⟨t3, t4⟩ := t2 hjk
      obtain ⟨t5, t6⟩ := h.two k j hk hjl
      exact ⟨(hb _ (hrbk j hjl) t3 (fun e => t5 e)).trans h0.blk, h0.own.block fun g hg => hb g (hrvk j hjl g hg) (fun e => t1 (by rw [hg, e])) (t4 g hg)⟩
  · have hj' : j < M.rows.length := by rw [← hlen]; exact hj
    by_cases hjk : j = k
    · subst hjk
      simp only [if_pos]
      refine ⟨l1, l2, fun e => ?_⟩
      rcases hv with hv | hv
      · exact l3 (hv ▸ e)
      · have := hv D e; omega
    · simp only [if_neg hjk]
      exact h.low j hj'
  · have hi' : i < M.rows.length := by rw [← hlen]; exact hi
    have hj' : j < M.rows.length := by rw [← hlen]; exact hj
    obtain ⟨t1, t2⟩ := h.two i j hi' hj'
    obtain ⟨t1', t2'⟩ := h.two j i hj' hi'
    by_cases hik : i = k
    · subst hik
      simp only [if_pos]
      refine ⟨fun e => ?_, fun hne => ?_⟩
      · rcases hv with hv | hv
        · exact t1 (hv ▸ e)
        · have := hv _ e; have := hrbk j hj'; omega
      · have hjk : j ≠ i := fun e => hne e.symm
        simp only [if_neg hjk]
        refine ⟨(t2 hne).1, fun g hg => ?_⟩
        rcases hv with hv | hv
        · exact (t2 hne).2 g (hv ▸ hg)
        · exact fun e => by have := hv g hg; have := hrvk j hj' g e; omega
    · simp only [if_neg hik]
      refine ⟨t1, fun hne => ⟨(t2 hne).1, fun g hg => ?_⟩⟩
      by_cases hjk : j = k
      · subst hjk
        simp only [if_pos]
        intro e
        rcases hv with hv | hv
        · exact (t2 hne).2 g hg (hv ▸ e)
        · have := hv g e; have := hrvk i hi' g hg; omega
      · simp only [if_neg hjk]
        exact (t2 hne).2 g hg

/-! ### Names -/
def setL (l : List Value) : Nat → List Value → List Value
  | _, [] => l
  | o, v :: r => setL (l.set o v) (o + 1) r
theorem setL_mid : ∀ (vs a b c : List Value), b.length = vs.length → setL (a ++ (b ++ c)) a.length vs = a ++ (vs ++ c)
  | [], a, b, c, h => by
    have : b = [] := List.length_eq_zero_iff.1 h
    subst this
    rfl
  | v :: vs, a, x :: b, c, h => by
    rw [setL]
    have h1 : (a ++ (x :: b ++ c)).set a.length v = (a ++ [v]) ++ (b ++ c) := by
      rw [List.set_append_right _ _ (Nat.le_refl _), Nat.sub_self]
      simp
    have h2 := setL_mid vs (a ++ [v]) b c (by simpa using h)
    rw [List.length_append, List.length_singleton] at h2
    rw [h1, h2]
    simp
theorem heap_setCells {t : TypeId} {D : Nat} : ∀ (vs : List Value) (o : Nat) (w : World) (l : List Value), w.heap[D]? = some (.cells l.toArray t (0, 0)) → (w.setCells D o vs).heap[D]? = some (.cells (setL l o vs).toArray t (0, 0))
  | [], _, _, _, h => h
  | v :: vs, o, w, l, h => by
    have h1 := heap_setCell_same w D o _ t v h
    rw [List.setIfInBounds_toArray] at h1
    exact heap_setCells vs (o + 1) _ _ h1
theorem setCells_other (D : Nat) : ∀ (vs : List Value) (o : Nat) (w : World) (g : Nat), g ≠ D → (w.setCells D o vs).heap[g]? = w.heap[g]?
  | [], _, _, _, _ => rfl
  | v :: vs, o, w, g, h => by
    rw [World.setCells, setCells_other D vs (o + 1) _ g h, Below.heap_setCell _ _ _ _ h]
theorem setCells_size (D : Nat) : ∀ (vs : List Value) (o : Nat) (w : World), (w.setCells D o vs).heap.size = w.heap.size
  | [], _, _ => rfl
  | v :: vs, o, w => by rw [World.setCells, setCells_size D vs]; simp
theorem setCells_rest (D : Nat) : ∀ (vs : List Value) (o : Nat) (w : World), (w.setCells D o vs).os = w.os ∧ (w.setCells D o vs).tape = w.tape ∧ (w.setCells D o vs).output = w.output
  | [], _, _ => ⟨rfl, rfl, rfl⟩
  | v :: vs, o, w => setCells_rest D vs (o + 1) (w.setCell ⟨D, o, none⟩ v)
theorem DiskAt.names {w : World} {base D : Nat} {M : Dm} {rb : Nat → Nat} {rv : Nat → Value} (h : DiskAt w base D M rb rv) : DiskAt (w.setCells D 129 (tab rb M.now)) base D M.names rb rv := by
  have hk : ∀ g, g ≠ D → (w.setCells D 129 (tab rb M.now)).heap[g]? = w.heap[g]? := fun g hg => setCells_other D _ _ _ g hg
  refine ⟨h.ok.names, ?_, fun k r hr => ?_, h.lowD, h.low, h.two⟩
  · have h1 := heap_setCells (tab rb M.now) 129 w _ h.blk
    rw [h1]
    have h2 := setL_mid (tab rb M.now) (.int .i64 M.size :: tab rb M.now) (tab rb M.safe) [] (by rw [tab_length, tab_length, h.ok.nl, h.ok.sl])
    rw [List.length_cons, tab_length, h.ok.nl] at h2
    simp only [List.append_nil] at h2
    show some (Obj.cells (setL (dc M rb) 129 (tab rb M.now)).toArray _ _) = some (Obj.cells (dc M.names rb).toArray _ _)
    congr 3
  · have hkl : k < M.rows.length := (List.getElem?_eq_some_iff.1 hr).1
    have h0 := h.row k r hr
    obtain ⟨l1, l2, l3⟩ := h.low k hkl
    exact ⟨(hk _ l2).trans h0.blk, h0.own.block fun g hg => hk g (fun e => l3 (by rw [hg, e]))⟩
theorem Chg.setCells {w w' : World} {S : Nat → Prop} (h : Chg w w' S) {D : Nat} (hp : S D ∨ w.heap.size ≤ D) (o : Nat) (vs : List Value) : Chg w (w'.setCells D o vs) S := by
  obtain ⟨e1, e2, e3⟩ := setCells_rest D vs o w'
  refine ⟨e1.trans h.os, e2.trans h.tape, e3.trans h.output, by rw [setCells_size]; exact h.size, fun g hg hn => ?_⟩
  rw [setCells_other D vs o w' g (by rintro rfl; rcases hp with hp | hp; exact hn hp; omega)]
  exact h.block g hg hn
end Go.Proofs.YtidhlbhfhfonoaaGreatDoor
namespace Go.Proofs.YtidhlbhfhfonoaaGreatDoor
open Go.ChangeShapes Go.WideShapes Go.ChangeAt Go.RowKit

/-- The end of a call that writes: the disk as it is then, and what has turned. -/
theorem dn_of {w w' : World} {base D : Nat} {M M' : Dm} {S : Nat → Prop} {rb : Nat → Nat} {rv : Nat → Value} (hd : Dk w base D M S) (h' : DiskAt w' base D M' rb rv) (hc : Chg w w' S) (hf : ∀ g, Foot D M' rb rv g → S g ∨ w.heap.size ≤ g) : Dn w w' base D M' S := by
  have hB := hd.base
  have h3 := hd.2
  have hs := hc.size
  refine ⟨⟨⟨rb, rv, h', fun g hg => ?_⟩, fun g hg => ?_⟩, hc⟩
  · rcases hf g hg with e | e
    · exact .inl e
    · exact .inr ⟨e, (h'.foot g hg).2⟩
  · rcases hg with hg | hg
    · have := h3 g hg; omega
    · omega
abbrev Errs (w : World) (base D : Nat) (S : Nat → Prop) (x : Dm × Nat) (e : Ending) (w' : World) : Prop := e = .returned (.int .i64 x.2) ∧ Dn w w' base D x.1 S
/-- The hash of the ways: what finds does not find. -/
theorem foot_newRow {D : Nat} {M : Dm} {rb : Nat → Nat} {rv : Nat → Value} {n g : Nat} (hg : Foot D { M with rows := M.rows ++ [⟨[], 0⟩] } (fun k => if k = M.rows.length then n else rb k) (fun k => if k = M.rows.length then .slice none 0 0 else rv k) g) : Foot D M rb rv g ∨ g = n := by
  rcases hg with rfl | ⟨k, hk, hg⟩
  · exact .inl (.inl rfl)
  · have hk' : k < M.rows.length + 1 := by simpa using hk
    by_cases hkl : k = M.rows.length
    · subst hkl
      simp [Value.ownBlock] at hg
      exact .inr hg
    · simp only [if_neg hkl] at hg
      exact .inl (.inr ⟨k, by omega, hg⟩)
set_option maxRecDepth 20000 in
set_option maxHeartbeats 1500000 in
theorem Create_any {w : World} {base D : Nat} {M : Dm} {S : Nat → Prop} (hd : Dk w base D M S) (s : ByteArray) (hs : s.size ≤ 140737488355328) :
    Calls Tryz.prog 30 #[.pointer (some ⟨D, 0, none⟩), .string s] w (Errs w base D S (M.create s)) := by
  have HD := Lib.hid hd
  obtain ⟨⟨rb, rv, h, hS⟩, _⟩ := hd
  have HG := Lib.hid (goes_any w D M.size h.size h.ok.size.1 true s hs)
  have HA := Lib.hid (fun (z : ByteArray) (w1 : World) (hb : Below w.heap.size w w1) => at_any w1 D 1 M.now rb (h.later hb).now h.ok.nl z)
  have H := Lib.hid h
  have HS := Lib.hid hS
  by_cases hok : nameOk s = true
  · rw [if_pos (by simpa using hok)] at HG
    have HN := Lib.hid hok
    cases hf : find M.now noName with
    | none =>
      have A1 := Lib.hid (HA.out noName)
      rw [spot_none hf] at A1
      cases hz : find M.now s with
      | some i =>
        rw [show M.create s = (M, 8) by simp [Dm.create, hok, hz]]
        have A2 := Lib.hid (HA.out s)
        rw [spot_some hz] at A2
        clear h hS hok hf hz HA
        go_enter Tryz.func30, Tryz.ntmps30
        go_wp2_with fail
        refine HG.out.mono ?_
        rintro _ w1 ⟨rfl, hb⟩
        have HB := Lib.hid hb
        clear hb
        go_wp2_with fail
        refine (A1.out w1 HB.out).mono ?_
        rintro _ w2 ⟨rfl, hb⟩
        have HB2 := Lib.hid (below_on HB.out hb)
        clear hb
        go_wp2_with fail
        refine (A2.out w2 HB2.out).mono ?_
        rintro _ w3 ⟨rfl, hb⟩
        have HB3 := Lib.hid (below_on HB2.out hb)
        clear hb
        go_wp2_with fail
        go_ret
        exact ⟨rfl, HD.out.looked HB3.out⟩
      | none =>
        rw [show M.create s = (M, 6) by simp [Dm.create, hok, hz, hf]]
        have A2 := Lib.hid (HA.out s)
        rw [spot_none hz] at A2
        clear h hS hok hf hz HA
        go_enter Tryz.func30, Tryz.ntmps30
        go_wp2_with fail
        refine HG.out.mono ?_
        rintro _ w1 ⟨rfl, hb⟩
        have HB := Lib.hid hb
        clear hb
        go_wp2_with fail
        refine (A1.out w1 HB.out).mono ?_
        rintro _ w2 ⟨rfl, hb⟩
        have HB2 := Lib.hid (below_on HB.out hb)
        clear hb
        go_wp2_with fail
        refine (A2.out w2 HB2.out).mono ?_
        rintro _ w3 ⟨rfl, hb⟩
        have HB3 := Lib.hid (below_on HB2.out hb)
        clear hb
        go_wp2_with fail
        go_ret
        exact ⟨rfl, HD.out.looked HB3.out⟩
    | some i =>
      have A1 := Lib.hid (HA.out noName)
      rw [spot_some hf] at A1
      have hi64 : i < 64 := by obtain ⟨_, _, h2⟩ := find_get hf; have := h.ok.nl; omega
      have hi : (i : Int) < 64 := by omega
      cases hz : find M.now s with
      | some j =>
        rw [show M.create s = (M, 8) by simp [Dm.create, hok, hz]]
        have A2 := Lib.hid (HA.out s)
        rw [spot_some hz] at A2
        clear h hS hok hf hz HA
        go_enter Tryz.func30, Tryz.ntmps30
        go_wp2_with fail
        refine HG.out.mono ?_
        rintro _ w1 ⟨rfl, hb⟩
        have HB := Lib.hid hb
        clear hb
        go_wp2_with fail
        refine (A1.out w1 HB.out).mono ?_
        rintro _ w2 ⟨rfl, hb⟩
        have HB2 := Lib.hid (below_on HB.out hb)
        clear hb
        go_wp2_with fail
        refine (A2.out w2 HB2.out).mono ?_
        rintro _ w3 ⟨rfl, hb⟩
        have HB3 := Lib.hid (below_on HB2.out hb)
        clear hb
        go_wp2_with fail
        go_ret
        exact ⟨rfl, HD.out.looked HB3.out⟩
      | none =>
        rw [show M.create s = ({ M with now := M.now.set i ⟨s, some M.rows.length⟩, rows := M.rows ++ [⟨[], 0⟩] }, 0) by simp [Dm.create, hok, hz, hf]]
        have A2 := Lib.hid (HA.out s)
        rw [spot_none hz] at A2
        have HOK := Lib.hid (h.ok.create hok hz i)
        obtain ⟨q, hq⟩ : ∃ q, M.now[i]? = some q := ⟨_, List.getElem?_eq_getElem (by have := h.ok.nl; omega)⟩
        have C1 := Lib.hid (h.place hq)
        clear h hS hok hf hz HA hq
        go_enter Tryz.func30, Tryz.ntmps30
        go_wp2_with fail
        refine HG.out.mono ?_
        rintro _ w1 ⟨rfl, hb⟩
        have HB := Lib.hid hb
        clear hb
        go_wp2_with fail
        refine (A1.out w1 HB.out).mono ?_
        rintro _ w2 ⟨rfl, hb⟩
        have HB2 := Lib.hid (below_on HB.out hb)
        clear hb
        go_wp2_with fail
        refine (A2.out w2 HB2.out).mono ?_
        rintro _ w3 ⟨rfl, hb⟩
        have HB3 := Lib.hid (below_on HB2.out hb)
        clear hb
        have H3 := H.out.later HB3.out
        have hD3 := (H3.foot D (.inl rfl)).2
        have f1 := H3.free (1 + i * 2)
        have f2 := H3.free (1 + i * 2 + 1)
        have c1 := cell_on C1.out.1 HB3.out
        have c2 := cell_on C1.out.2 HB3.out
        have HH := Lib.hid H3.newRow
        clear H3 C1
        go_wp2_with fail
        go_ret
        refine ⟨rfl, ?_⟩
        have e : ((w3.setCell ⟨D, 1 + i * 2, none⟩ (.string s)).setCell ⟨D, 1 + i * 2 + 1, none⟩ (.pointer (some ⟨w3.heap.size, 0, none⟩))).alloc (.cells #[.slice none 0 0, .int .i64 0] 118) = ((w3.alloc (.cells #[.slice none 0 0, .int .i64 0] 118)).setCell ⟨D, 1 + i * 2, none⟩ (.string s)).setCell ⟨D, 1 + i * 2 + 1, none⟩ (.pointer (some ⟨w3.heap.size, 0, none⟩)) := by
          rw [World.setCell_alloc_past _ _ _ _ hD3, World.setCell_alloc_past _ _ _ _ (by simpa using hD3)]
        rw [e]
        exact dn_of HD.out (HH.out.put (p := ⟨s, some M.rows.length⟩) hi64 HOK.out (by simp [ptrOf])) ((((Chg.of_below HB3.out S).alloc _).setCell (.inl (HS.out D (.inl rfl))) _).setCell (.inl (HS.out D (.inl rfl))) _)
          (fun g hg => by
            rcases foot_newRow (show Foot D { M with rows := M.rows ++ [⟨[], 0⟩] } _ _ g from hg) with hg | rfl
            · exact .inl (HS.out g hg)
            · exact .inr HB3.out.size)
  · rw [if_neg (by simpa using hok)] at HG
    rw [show M.create s = (M, 1) by simp [Dm.create, hok]]
    clear h hS hok HA
    go_enter Tryz.func30, Tryz.ntmps30
    go_wp2_with fail
    refine HG.out.mono ?_
    rintro _ w1 ⟨rfl, hb⟩
    have HB := Lib.hid hb
    clear hb
    go_wp2_with fail
    go_ret
    exact ⟨rfl, HD.out.looked HB.out⟩
theorem str_ne {a b : ByteArray} (h : a ≠ b) : (a.toList == b.toList) = false := by rw [list_eq_str, decide_eq_false h]
end Go.Proofs.YtidhlbhfhfonoaaGreatDoor
