/- Layer 18: the reference's Add and Open go with the program's, in plain words; Layer 18's law, in plain words: a disk on which at most the one name stands, and what Open finds there; Layer 18's law: a disk, the reference's one, and a book, that lie apart; what journals do with them; The law JournalsDone, walked -/
import Derived.Test.YtidhlbhfhfonoaaGreatDoorJZXG20
import Derived.Test.YtidhlbhfhfonoaaGreatDoorJZXG30
import Derived.Test.YtidhlbhfhfonoaaGreatDoorJZXG44
import Derived.Test.YtidhlbhfhfonoaaGreatDoorJZXG45
import Derived.Test.YtidhlbhfhfonoaaGreatDoorJZXG46
import Derived.Test.YtidhlbhfhfonoaaGreatDoorJZXG27
import Derived.Test.YtidhlbhfhfonoaaGreatDoorJZXG23
namespace Go.Proofs.YtidhlbhfhfonoaaGreatDoor
open Go.ChangeShapes Go.WideShapes Go.ChangeAt Go.RowKit
theorem Rel.add {M : Dm} {R : Rf} {f : Nat → Nat} (H : Rel M R f) (ok : M.ok) (s : ByteArray) (n c : Nat) {r : List Nat} (hb : Bytes r) : (R.add s n c r).2 = (M.add s n c r).2 ∧ (R.add s n c r).1.2 = (M.add s n c r).1.2 ∧ ∃ g, Rel (M.add s n c r).1.1 (R.add s n c r).1.1 g := by
  have hz := H.sizeE ok s
  obtain ⟨ha, g, hg⟩ := H.append ok s (bstr (laidR c r))
  rw [bstr_num (laidR_bytes hb)] at ha hg
  unfold Rf.add Dm.add
  rw [hz, ha]
  split
  · exact ⟨rfl, rfl, f, H⟩
  · split
    · exact ⟨rfl, rfl, f, H⟩
    · split
      · exact ⟨rfl, rfl, f, H⟩
      · split
        · exact ⟨rfl, rfl, g, hg⟩
        · exact ⟨rfl, rfl, g, hg⟩
end Go.Proofs.YtidhlbhfhfonoaaGreatDoor
namespace Go.Proofs.YtidhlbhfhfonoaaGreatDoor
open Go.ChangeShapes Go.WideShapes Go.ChangeAt Go.RowKit
/-- No other name stands in the table. -/
def onlyT (t : List Pl) (s : ByteArray) : Prop := ∀ p ∈ t, p.name = noName ∨ p.name = s
def Only (M : Dm) (s : ByteArray) : Prop := onlyT M.now s ∧ onlyT M.safe s
theorem onlyT.free0 (n : Nat) (s : ByteArray) : onlyT (List.replicate n free) s := fun p hp => by rw [(List.mem_replicate.1 hp).2]; exact .inl rfl
theorem onlyT.set {t : List Pl} {s : ByteArray} (h : onlyT t s) (i : Nat) {q : Pl} (hq : q.name = noName ∨ q.name = s) : onlyT (t.set i q) s := fun p hp => by
  rcases List.mem_or_eq_of_mem_set hp with hp | rfl
  · exact h p hp
  · exact hq
theorem Only.new (n : Nat) (s : ByteArray) : Only (new0 n) s := ⟨onlyT.free0 _ _, onlyT.free0 _ _⟩
theorem Only.create {M : Dm} {s : ByteArray} (h : Only M s) : Only (M.create s).1 s := by
  unfold Dm.create
  split
  · split
    · exact h
    · split
      · exact h
      · exact ⟨h.1.set _ (.inr rfl), h.2⟩
  · exact h
theorem Only.at {M : Dm} {s : ByteArray} (h : Only M s) {f : Nat → Dm × Nat} (hf : ∀ i, Only (f i).1 s) : Only (M.at s f).1 s := by
  unfold Dm.at
  split
  · split
    · exact h
    · exact hf _
  · exact h
theorem Only.remove {M : Dm} {s : ByteArray} (h : Only M s) : Only (M.remove s).1 s := h.at fun _ => ⟨h.1.set _ (.inl rfl), h.2⟩
theorem Only.append {M : Dm} {s : ByteArray} (h : Only M s) (b : List Nat) : Only (M.append s b).1 s := h.at fun _ => by split <;> exact h
theorem Only.sync {M : Dm} {s : ByteArray} (h : Only M s) : Only (M.sync s).1 s := h.at fun _ => h
theorem Only.names {M : Dm} {s : ByteArray} (h : Only M s) : Only M.names s := ⟨h.1, h.1⟩
theorem Only.fail {M : Dm} {s : ByteArray} (h : Only M s) (ok : M.ok) (keep : Nat) (names : Bool) : Only (M.fail keep names) s := by
  have hf := failT_ok ok keep _ (ok.tab names).mem
  have ht : onlyT (if names then M.now else M.safe) s := by cases names; exact h.2; exact h.1
  have hn : onlyT (failT M keep (if names then M.now else M.safe)).1 s := by
    generalize (if names then M.now else M.safe) = t at hf ht ⊢
    intro p hp
    have h1 : p.name ∈ t.map Pl.name := by rw [← hf.names]; exact List.mem_map_of_mem hp
    obtain ⟨q, hq, e⟩ := List.mem_map.1 h1
    rw [← e]
    exact ht q hq
  exact ⟨hn, hn⟩
theorem Only.add {M : Dm} {s : ByteArray} (h : Only M s) (long c : Nat) (r : List Nat) : Only (M.add s long c r).1.1 s := by
  unfold Dm.add
  split
  · exact h
  · split
    · exact h
    · split
      · exact h
      · split
        · exact h.append _
        · exact h.append _
/-- What is made there is made. -/
theorem Only.made {M : Dm} {s : ByteArray} (h : Only M s) (ok : M.ok) (hs : nameOk s = true) (hf : find M.now s = none) : ∃ N, M.create s = (N, 0) := by
  have h0 : 0 < M.now.length := by rw [ok.nl]; decide
  have hn : (M.now[0]).name = noName := by
    rcases h.1 _ (List.getElem_mem h0) with h1 | h1
    · exact h1
    · exact absurd h1 (find_none hf 0 _ (List.getElem?_eq_getElem h0))
  have hfree : find M.now noName = some 0 := find_of h0 hn fun j hj => absurd hj (Nat.not_lt_zero _)
  unfold Dm.create
  rw [if_pos hs, hf, hfree]
  exact ⟨_, rfl⟩
/-- The disk behind Open. -/
def Dm.opened (M : Dm) (s : ByteArray) : Dm := if (M.sizeE s).2 = 7 then (M.create s).1 else M
def Rf.openedR (R : Rf) (s : ByteArray) : Rf := if (R.sizeE s).2 = 7 then (R.create s).1 else R
theorem Only.opened {M : Dm} {s : ByteArray} (h : Only M s) : Only (M.opened s) s := by
  unfold Dm.opened
  split
  · exact h.create
  · exact h
theorem Rel.opened {M : Dm} {R : Rf} {f : Nat → Nat} (H : Rel M R f) (ok : M.ok) (s : ByteArray) : ∃ g, Rel (M.opened s) (R.openedR s) g := by
  unfold Dm.opened Rf.openedR
  rw [H.sizeE ok s]
  split
  · exact (H.create ok s).2
  · exact ⟨f, H⟩
theorem few_opened (R : Rf) (s : ByteArray) : (R.openedR s).rows.length ≤ R.rows.length + 1 := by
  unfold Rf.openedR
  split
  · exact few_create R s
  · exact Nat.le_succ _
/-- Either the file is there, or it is made. -/
theorem Only.ways {M : Dm} {s : ByteArray} (h : Only M s) (ok : M.ok) (hs : nameOk s = true) : (∃ zn, M.sizeE s = (zn, 0) ∧ M.opened s = M) ∨ (M.sizeE s = (0, 7) ∧ M.create s = (M.opened s, 0)) := by
  cases hf : find M.now s with
  | some i =>
    left
    have e : M.sizeE s = ((M.row i).l.length, 0) := by
      unfold Dm.sizeE
      rw [if_pos (Dm.why_yes hs hf), hf]
      rfl
    refine ⟨_, e, ?_⟩
    unfold Dm.opened
    rw [e]
    rfl
  | none =>
    right
    have e : M.sizeE s = (0, 7) := by
      have hw : M.why true s = 7 := by simp [Dm.why, hs, hf]
      unfold Dm.sizeE
      rw [hw]
      rfl
    obtain ⟨N, hN⟩ := h.made ok hs hf
    refine ⟨e, ?_⟩
    unfold Dm.opened
    rw [e, hN]
    rfl
/-- A name that won't do. -/
theorem sizeE_bad {M : Dm} {s : ByteArray} (hs : nameOk s = false) : M.sizeE s = (0, 1) := by
  have hw : M.why true s = 1 := by simp [Dm.why, hs]
  unfold Dm.sizeE
  rw [hw]
  rfl
/-- What a journal says of itself stays small. -/
theorem add_long {M : Dm} (_ : M.ok) (s : ByteArray) {long c : Nat} (hl : long ≤ 1048576) (hc : c < 4294967296) {r : List Nat} (hb : Bytes r) : (M.add s long c r).1.2.1 ≤ 1048576 ∧ (M.add s long c r).1.2.2 < 4294967296 := by
  unfold Dm.add
  split
  · exact ⟨hl, hc⟩
  · split
    · exact ⟨hl, hc⟩
    · rename_i hz
      split
      · exact ⟨hl, hc⟩
      · rename_i hn
        split
        · rename_i ha
          have hnx := nextC_lt hc hb
          show long + (r.length + 8) ≤ 1048576 ∧ nextC c r < 4294967296
          generalize nextC c r = nx at hnx ⊢
          refine ⟨?_, hnx⟩
          have hz0 : (M.sizeE s).2 = 0 := Classical.byContradiction hz
          have hn0 : (M.sizeE s).1 = long := Classical.byContradiction hn
          have hw : M.why true s = 0 := by
            refine Classical.byContradiction fun hw => ?_
            unfold Dm.sizeE at hz0
            rw [if_neg hw] at hz0
            exact hw hz0
          rcases M.ways s with ⟨hs, i, hi⟩ | hno
          · have e : (M.sizeE s).1 = (M.row i).l.length := by
              unfold Dm.sizeE
              rw [if_pos hw, hi]
              rfl
            unfold Dm.append Dm.at at ha
            rw [if_pos hs, hi] at ha
            dsimp only at ha
            split at ha
            · rename_i h9
              have := h9.2
              rw [laidR_length] at this
              omega
            · cases ha
          · exact absurd hw hno
        · exact ⟨hl, hc⟩
theorem few_add (R : Rf) (s : ByteArray) (n c : Nat) (r : List Nat) : (R.add s n c r).1.1.rows.length ≤ R.rows.length + 1 := by
  unfold Rf.add
  split
  · exact Nat.le_succ _
  · split
    · exact Nat.le_succ _
    · split
      · exact Nat.le_succ _
      · split
        · exact few_append R s _
        · exact few_append R s _
/-- What is told of bytes: records of bytes, few, and short. -/
theorem recs_each : ∀ (n c : Nat) (b : List Nat), b.length ≤ n → Bytes b → c < 4294967296 → ∀ x ∈ recs c b, Bytes x.1 ∧ x.1.length ≤ 65536 ∧ x.2 < 4294967296
  | 0, c, b, h, _, _ => by
    rw [recs_eq, if_pos (by omega)]
    intro x hx
    cases hx
  | n + 1, c, b, h, hb, hc => by
    rw [recs_eq]
    split
    · intro x hx; cases hx
    · split
      · intro x hx; cases hx
      · rename_i h2
        split
        · have hc2 : crc c (b.take (4 + val4 b)) < 4294967296 := crc_lt _ hc fun x hx => hb x (List.mem_of_mem_take hx)
          intro x hx
          rcases List.mem_cons.1 hx with rfl | hx
          · refine ⟨fun y hy => hb y (List.mem_of_mem_drop (List.mem_of_mem_take hy)), ?_, hc2⟩
            simp only [List.length_take, List.length_drop]
            omega
          · exact recs_each n _ _ (by simp; omega) (fun y hy => hb y (List.mem_of_mem_drop hy)) hc2 x hx
        · intro x hx; cases hx
theorem lastR_lt {b : List Nat} (hb : Bytes b) : lastR (recs firstC b) < 4294967296 := by
  unfold lastR
  cases h : (recs firstC b).getLast? with
  | none => decide
  | some x => exact (recs_each _ _ b (Nat.le_refl _) hb (by decide) x (List.mem_of_getLast? h)).2.2
theorem longR_recs (b : List Nat) : longR (recs firstC b) ≤ b.length := longR_le (R := []) (List.append_nil _).symm
end Go.Proofs.YtidhlbhfhfonoaaGreatDoor
namespace Go.Proofs.YtidhlbhfhfonoaaGreatDoor
open Go.ChangeShapes Go.WideShapes Go.ChangeAt Go.RowKit
/-- A book of n lists, or none yet. -/
def Bo (w : World) (base B : Nat) (q : Option Nat) (S : Nat → Prop) : Prop := (match q with | some n => Bk2 w base B n S | none => True) ∧ ∀ g, S g → base ≤ g ∧ g < w.heap.size
theorem Bo.other {w w' : World} {base B : Nat} {q : Option Nat} {S S' : Nat → Prop} (h : Bo w base B q S) (hc : Chg w w' S') (hd : ∀ g, S' g → ¬ S g) : Bo w' base B q S := by
  obtain ⟨h1, h2⟩ := h
  refine ⟨?_, fun g hg => ⟨(h2 g hg).1, Nat.lt_of_lt_of_le (h2 g hg).2 hc.size⟩⟩
  cases q with
  | some n => exact Bk2.other h1 hc hd
  | none => trivial
theorem Bo.later {w w' : World} {base B : Nat} {q : Option Nat} {S : Nat → Prop} (h : Bo w base B q S) (hb : Below w.heap.size w w') : Bo w' base B q S := h.other (Chg.of_below hb (fun _ => False)) fun _ h => h.elim
theorem Bk2.down {w : World} {base base' B n : Nat} {S : Nat → Prop} (h : Bk2 w base B n S) (hb : base' ≤ base) : Bk2 w base' B n S := by
  obtain ⟨⟨k, q, F, L, R, ML, MR, NL, NR, XL, XR, h1, h2⟩, h3⟩ := h
  exact ⟨⟨k, q, F, L, R, ML, MR, NL, NR, XL, XR, ⟨⟨h1.famL.book, OwnV.base h1.famL.row hb, fun i hi => OwnV.base (h1.famL.own i hi) hb⟩, ⟨h1.famR.book, OwnV.base h1.famR.row hb, fun i hi => OwnV.base (h1.famR.own i hi) hb⟩, h1.apL, h1.apR, h1.xF, h1.xL, h1.nil, Nat.le_trans hb h1.low, h1.shL, h1.shR, h1.mL, h1.mR, h1.kn, h1.qn⟩, h2⟩, fun g hg => ⟨Nat.le_trans hb (h3 g hg).1, (h3 g hg).2⟩⟩
/-- A slice of slices of the call's own reads as its parts. -/
theorem Handed.parts {w : World} {B : Nat} {v : Value} {xs : List Value} {L : List (List Nat)} (h : Handed w B v xs L) : PartsAt w v L := by
  obtain ⟨h1, h2, _⟩ := h
  obtain ⟨hl, a, c, hv, hc1, hc2, h5⟩ := own_cat h1
  refine ⟨a, c, hv, hc1, hc2, fun e => ?_, fun h0 => ?_⟩
  · rcases h1.2 with ⟨e1, _⟩ | ⟨g, o, cap, cur, e1, _⟩
    · rw [hv] at e1
      injection e1
    · rw [hv, e] at e1
      cases e1
  · obtain ⟨g, o, rfl, h6⟩ := h5 h0
    refine ⟨g, o, rfl, fun i l hi => ?_⟩
    obtain ⟨u, hu, h7, _⟩ := h2 i l hi
    exact ⟨u, h6 i u hu, h7.at_⟩
theorem Handed.kept {w w' : World} {B : Nat} {v : Value} {xs : List Value} {L : List (List Nat)} (h : Handed w B v xs L) (hb : ∀ g, B ≤ g → g < w.heap.size → w'.heap[g]? = w.heap[g]?) : Handed w' B v xs L := by
  obtain ⟨h1, h2, h3⟩ := h
  refine ⟨OwnV.block h1 fun g hg => hb g (OwnV.lt h1 g hg).1 (OwnV.lt h1 g hg).2, fun i l hi => ?_, h3⟩
  obtain ⟨u, hu, h7, h8⟩ := h2 i l hi
  exact ⟨u, hu, OwnV.block h7 fun g hg => hb g (OwnV.lt h7 g hg).1 (OwnV.lt h7 g hg).2, h8⟩
theorem Handed.lt {w : World} {B : Nat} {v : Value} {xs : List Value} {L : List (List Nat)} (h : Handed w B v xs L) : ∀ g, (v.ownBlock = some g ∨ ∃ u ∈ xs, u.ownBlock = some g) → B ≤ g ∧ g < w.heap.size := by
  obtain ⟨h1, h2, h3⟩ := h
  intro g hg
  rcases hg with hg | ⟨u, hu, hg⟩
  · exact OwnV.lt h1 g hg
  · obtain ⟨i, hi⟩ := List.mem_iff_getElem?.1 hu
    have hil := (List.getElem?_eq_some_iff.1 hi).1
    have hxl : xs.length = L.length := by have := h1.1; omega
    obtain ⟨u', hu', c4, c5⟩ := h2 i L[i] (List.getElem?_eq_getElem (by omega))
    rw [hi] at hu'
    cases hu'
    exact OwnV.lt c4 g hg
theorem len8_longR (L : List (List Nat × Nat)) : L.length * 8 ≤ longR L := by
  induction L with
  | nil => simp [longR]
  | cons x L ih =>
    unfold longR at ih ⊢
    simp only [List.map_cons, List.sum_cons, List.length_cons]
    omega
def Tj (K : Nat → Prop) (w : World) (C D E B : Nat) (q : Option Nat) (M : Dm) (R : Rf) : Prop := ∃ S1 S2 S3, Dk w C D M S1 ∧ Rk w C E R S2 ∧ Bo w C B q S3 ∧ (∀ g, S1 g → ¬ S2 g) ∧ (∀ g, S1 g → ¬ S3 g) ∧ (∀ g, S2 g → ¬ S3 g) ∧ ∀ g, K g → g < w.heap.size ∧ ¬ S1 g ∧ ¬ S2 g ∧ ¬ S3 g
section
variable {K : Nat → Prop} {w w' : World} {C D E B : Nat} {q : Option Nat} {M : Dm} {R : Rf} {P : Program} {f : FuncId} {args : Array Value}
theorem Tj.later (T : Tj K w C D E B q M R) (hb : Below w.heap.size w w') : Tj K w' C D E B q M R := by
  obtain ⟨S1, S2, S3, h1, h2, h3, d1, d2, d3, hk⟩ := T
  exact ⟨S1, S2, S3, h1.later hb, h2.later hb, h3.later hb, d1, d2, d3, fun g hg => ⟨Nat.lt_of_lt_of_le (hk g hg).1 hb.size, (hk g hg).2⟩⟩
theorem Tj.kept (T : Tj K w C D E B q M R) (hb : Below w.heap.size w w') : Kept K w w' := by
  obtain ⟨S1, S2, S3, h1, h2, h3, d1, d2, d3, hk⟩ := T
  exact ⟨hb.size, fun g hg => hb.block g (hk g hg).1⟩
theorem Tj.more {K' : Nat → Prop} (T : Tj K w C D E B q M R) (hb : Below w.heap.size w w') (hK : ∀ g, K' g → K g ∨ (w.heap.size ≤ g ∧ g < w'.heap.size)) : Tj K' w' C D E B q M R := by
  obtain ⟨S1, S2, S3, h1, h2, h3, d1, d2, d3, hk⟩ := T
  refine ⟨S1, S2, S3, h1.later hb, h2.later hb, h3.later hb, d1, d2, d3, fun g hg => ?_⟩
  rcases hK g hg with h | h
  · exact ⟨Nat.lt_of_lt_of_le (hk g h).1 hb.size, (hk g h).2⟩
  · exact ⟨h.2, fun e => by have := h1.2 g e; omega, fun e => by have := h2.2 g e; omega, fun e => by have := h3.2 g e; omega⟩
theorem Tj.base (T : Tj K w C D E B q M R) : C ≤ w.heap.size := by
  obtain ⟨S1, S2, S3, h1, _⟩ := T
  exact h1.base
theorem Tj.ok (T : Tj K w C D E B q M R) : M.ok := by
  obtain ⟨S1, S2, S3, h1, _⟩ := T
  exact h1.ok
theorem Tj.both (T : Tj K w C D E B q M R) (hr : ∃ f, Rel M R f) (hf : R.rows.length ≤ 1000000) : ∃ S1 S2, Both w C D E M R S1 S2 := by
  obtain ⟨S1, S2, S3, h1, h2, h3, _⟩ := T
  exact ⟨S1, S2, h1, h2, hr, hf⟩
/-- An act of the disk. -/
theorem Tj.actD {x : Dm × Nat} (T : Tj K w C D E B q M R) (hc : ∀ S, Dk w C D M S → Calls P f args w (Errs w C D S x)) : Calls P f args w fun e w' => e = .returned (.int .i64 x.2) ∧ Tj K w' C D E B q x.1 R ∧ Kept K w w' ∧ Below C w w' := by
  obtain ⟨S1, S2, S3, h1, h2, h3, d1, d2, d3, hk⟩ := T
  refine (hc S1 h1).mono ?_
  rintro e w' ⟨rfl, hn⟩
  have hs := hn.chg.size
  refine ⟨rfl, ⟨plus S1 w w', S2, S3, hn.dk, h2.other hn.chg d1, h3.other hn.chg d2, fun g hg => ?_, fun g hg => ?_, d3, fun g hg => ⟨by have := (hk g hg).1; omega, fun e => ?_, (hk g hg).2.2⟩⟩, ⟨hs, fun g hg => hn.chg.block g (hk g hg).1 (hk g hg).2.1⟩, hn.chg.below (fun g hg => (h1.2 g hg).1) h1.base⟩
  · rcases hg with hg | hg
    · exact d1 g hg
    · exact fun e => by have := h2.2 g e; omega
  · rcases hg with hg | hg
    · exact d2 g hg
    · exact fun e => by have := h3.2 g e; omega
  · rcases e with e | e
    · exact (hk g hg).2.1 e
    · have := (hk g hg).1; omega
/-- An act of the reference's disk. -/
theorem Tj.actR {x : Rf × Nat} (T : Tj K w C D E B q M R) (hc : ∀ S, Rk w C E R S → Calls P f args w (RErrs w C E S x)) : Calls P f args w fun e w' => e = .returned (.int .i64 x.2) ∧ Tj K w' C D E B q M x.1 ∧ Kept K w w' ∧ Below C w w' := by
  obtain ⟨S1, S2, S3, h1, h2, h3, d1, d2, d3, hk⟩ := T
  refine (hc S2 h2).mono ?_
  rintro e w' ⟨rfl, hn⟩
  have hs := hn.chg.size
  refine ⟨rfl, ⟨S1, plus S2 w w', S3, h1.other hn.chg (fun g hg h => d1 g h hg), hn.rk, h3.other hn.chg d3, fun g hg e => ?_, d2, fun g hg => ?_, fun g hg => ⟨by have := (hk g hg).1; omega, (hk g hg).2.1, fun e => ?_, (hk g hg).2.2.2⟩⟩, ⟨hs, fun g hg => hn.chg.block g (hk g hg).1 (hk g hg).2.2.1⟩, hn.chg.below (fun g hg => (h2.2 g hg).1) h2.from_⟩
  · rcases e with e | e
    · exact d1 g hg e
    · have := h1.2 g hg; omega
  · rcases hg with hg | hg
    · exact d3 g hg
    · exact fun e => by have := h3.2 g e; omega
  · rcases e with e | e
    · exact (hk g hg).2.2.1 e
    · have := (hk g hg).1; omega
/-- A list is kept. -/
theorem Tj.keepB {K' : Nat → Prop} {n9 : Nat} (T : Tj K w C D E B (some n9) M R) (hq : n9 < 100000000) {v : Value} {n : Nat} {xs : List Value} (hv : OwnV w C 5 1 v n xs) (hn : n ≤ 4000000) (hK : ∀ g, v.ownBlock = some g → K g) (hK' : ∀ g, K' g → K g ∧ v.ownBlock ≠ some g) :
    Calls Tryz.prog 27 #[.pointer (some ⟨B, 0, none⟩), v] w fun e w' => e = .returned (.tuple #[]) ∧ Tj K' w' C D E B (some (n9 + 1)) M R ∧ Kept K' w w' ∧ Below C w w' := by
  obtain ⟨S1, S2, S3, h1, h2, h3, d1, d2, d3, hk⟩ := T
  refine (h3.1.Bytes hq hv hn fun g hg e => (hk g (hK g hg)).2.2.2 e).mono ?_
  rintro e w' ⟨rfl, hb, hc⟩
  have hs := hc.size
  refine ⟨rfl, ⟨S1, S2, _, h1.other hc (fun g hg h => d2 g h hg), h2.other hc (fun g hg h => d3 g h hg), ⟨hb, hb.2⟩, d1, fun g hg e => ?_, fun g hg e => ?_, fun g hg => ⟨by have := (hk g (hK' g hg).1).1; omega, (hk g (hK' g hg).1).2.1, (hk g (hK' g hg).1).2.2.1, fun e => ?_⟩⟩, ⟨hs, fun g hg => hc.block g (hk g (hK' g hg).1).1 (hk g (hK' g hg).1).2.2.2⟩, hc.below (fun g hg => (h3.2 g hg).1) h1.base⟩
  · rcases e with e | e | e
    · exact d2 g hg e
    · exact (hk g (hK g e)).2.1 hg
    · have := h1.2 g hg; omega
  · rcases e with e | e | e
    · exact d3 g hg e
    · exact (hk g (hK g e)).2.2.1 hg
    · have := h2.2 g hg; omega
  · rcases e with e | e | e
    · exact (hk g (hK' g hg).1).2.2.2 e
    · exact (hK' g hg).2 e
    · have := (hk g (hK' g hg).1).1; omega
/-- Other disks, in memory of their own. -/
theorem Tj.fresh {w1 w2 : World} {X Y : Nat} {M' : Dm} {R' : Rf} {S' : Nat → Prop} (T : Tj K w C D E B q M R) (hd : Dk w1 w.heap.size X M' (fun g => w.heap.size ≤ g ∧ g < w1.heap.size)) (hb : Below w.heap.size w w1) (hr : Rk w2 w1.heap.size Y R' S') (hb2 : Below w1.heap.size w1 w2) : Tj K w2 C X Y B q M' R' := by
  obtain ⟨S1, S2, S3, h1, h2, h3, d1, d2, d3, hk⟩ := T
  have hs := hb.size
  have hs2 := hb2.size
  have hC := h1.base
  have hr' : Rk w2 C Y R' S' := by
    obtain ⟨⟨rv, mv, nv, sv, r1, r2⟩, r3⟩ := hr
    exact ⟨⟨rv, mv, nv, sv, ⟨r1.blk, OwnV.base r1.rows (by omega), OwnV.base r1.marks (by omega), OwnV.base r1.now (by omega), OwnV.base r1.safe (by omega), by have := r1.low; omega, r1.notD, r1.rm, r1.rn, r1.rs, r1.mn, r1.ms, r1.ns⟩, r2⟩, fun g hg => ⟨by have := r3 g hg; omega, (r3 g hg).2⟩⟩
  refine ⟨_, S', S3, (hd.down (by omega)).later hb2, hr', (h3.later hb).later hb2, fun g hg e => ?_, fun g hg e => ?_, fun g hg e => ?_, fun g hg => ⟨?_, fun e => ?_, fun e => ?_, (hk g hg).2.2.2⟩⟩
  · have := hr.2 g e; omega
  · have := h3.2 g e; omega
  · have := hr.2 g hg; have := h3.2 g e; omega
  · have := (hk g hg).1; omega
  · have := (hk g hg).1; omega
  · have := hr.2 g e; have := (hk g hg).1; omega
theorem Tj.failD (T : Tj K w C D E B q M R) (keep : Nat) (names : Bool) (hk : keep ≤ 9223372036854775807) : Calls Tryz.prog 21 #[.pointer (some ⟨D, 0, none⟩), .int .i64 keep, .bool names] w fun e w' => ∃ X, e = .returned (.tuple #[.pointer (some ⟨X, 0, none⟩), .int .i64 0]) ∧ Dk w' w.heap.size X (M.fail keep names) (fun g => w.heap.size ≤ g ∧ g < w'.heap.size) ∧ Below w.heap.size w w' := by
  obtain ⟨S1, S2, S3, h1, _⟩ := T
  exact Fail_yes h1 keep names hk
theorem Tj.failR (T : Tj K w C D E B q M R) (ok : RfOk R) (keep : Nat) (names : Bool) (hk : keep ≤ 9223372036854775807) (hf : R.rows.length ≤ 1000000) : Calls Tryz.prog 22 #[.pointer (some ⟨E, 0, none⟩), .int .i64 keep, .bool names] w fun e w' => e = .returned (.tuple #[.pointer (some ⟨w.heap.size, 0, none⟩), .int .i64 0]) ∧ (∃ S', Rk w' w.heap.size w.heap.size (R.fail keep names) S') ∧ Below w.heap.size w w' := by
  obtain ⟨S1, S2, S3, h1, h2, _⟩ := T
  exact RFail_yes h2 ok keep hk names hf
theorem Tj.same (T : Tj K w C D E B q M R) (hr : ∃ f, Rel M R f) (hf : R.rows.length ≤ 1000000) : Calls Tryz.prog 26 #[.pointer (some ⟨D, 0, none⟩), .pointer (some ⟨E, 0, none⟩)] w fun e w' => e = .returned (.bool true) ∧ Below w.heap.size w w' := by
  obtain ⟨S1, S2, h⟩ := T.both hr hf
  exact Same_any h
theorem Tj.apart {n9 : Nat} (T : Tj K w C D E B (some n9) M R) (hq : n9 < 100000000) : Calls Tryz.prog 28 #[.pointer (some ⟨B, 0, none⟩)] w fun e w' => e = .returned (.bool true) ∧ Below C w w' := by
  obtain ⟨S1, S2, S3, h1, h2, h3, _⟩ := T
  exact (h3.1.apart hq).mono fun e w' h => ⟨h.1, h.2.1⟩
/-- A book is begun. -/
theorem Tj.book (T : Tj K w C D E B none M R) (t : TypeId) : Tj K (w.alloc (.cells bkZ2 t)) C D E w.heap.size (some 0) M R := by
  obtain ⟨S1, S2, S3, h1, h2, h3, d1, d2, d3, hk⟩ := T
  have hb : Below w.heap.size w (w.alloc (.cells bkZ2 t)) := (Below.refl _ _).alloc (Nat.le_refl _) _
  have hn := (Bk2.new w t).down h1.base
  exact ⟨S1, S2, fun g => g = w.heap.size, h1.later hb, h2.later hb, ⟨hn, hn.2⟩, d1, fun g hg e => by have := h1.2 g hg; omega, fun g hg e => by have := h2.2 g hg; omega, fun g hg => ⟨Nat.lt_of_lt_of_le (hk g hg).1 hb.size, (hk g hg).2.1, (hk g hg).2.2.1, fun e => by have := (hk g hg).1; omega⟩⟩
/-- New disks. -/
theorem Tj.start {w0 w1 : World} {n : Nat} (hd : Dk w0 C C (new0 n) (fun g => g = C)) (hr : Rk w1 w0.heap.size w0.heap.size (newR n) (fun g => g = w0.heap.size)) (hb : Below w0.heap.size w0 w1) : Tj (fun _ => False) w1 C C w0.heap.size 0 none (new0 n) (newR n) := by
  have hC := hd.base
  have hl := (hd.2 C rfl).2
  refine ⟨fun g => g = C, fun g => g = w0.heap.size, fun _ => False, hd.later hb, ?_, ⟨trivial, fun g hg => hg.elim⟩, fun g h1 h2 => by omega, fun g _ h => h, fun g _ h => h, fun g hg => hg.elim⟩
  obtain ⟨⟨rv, mv, nv, sv, r1, r2⟩, r3⟩ := hr
  exact ⟨⟨rv, mv, nv, sv, ⟨r1.blk, OwnV.base r1.rows hC, OwnV.base r1.marks hC, OwnV.base r1.now hC, OwnV.base r1.safe hC, by have := r1.low; omega, r1.notD, r1.rm, r1.rn, r1.rs, r1.mn, r1.ms, r1.ns⟩, r2⟩, fun g hg => ⟨by have := r3 g hg; omega, (r3 g hg).2⟩⟩
/-- The disk alone, beside all else. -/
theorem Tj.one (T : Tj K w C D E B q M R) : ∃ S2 S3, OneK (fun g => K g ∨ S2 g ∨ S3 g ∨ g < C) w C D M ∧ Rk w C E R S2 ∧ Bo w C B q S3 ∧ (∀ g, S2 g → ¬ S3 g) ∧ ∀ g, K g → g < w.heap.size ∧ ¬ S2 g ∧ ¬ S3 g := by
  obtain ⟨S1, S2, S3, h1, h2, h3, d1, d2, d3, hk⟩ := T
  refine ⟨S2, S3, ⟨S1, h1, fun g hg => ?_⟩, h2, h3, d3, fun g hg => ⟨(hk g hg).1, (hk g hg).2.2⟩⟩
  rcases hg with hg | hg | hg | hg
  · exact ⟨(hk g hg).1, (hk g hg).2.1⟩
  · exact ⟨(h2.2 g hg).2, fun e => d1 g e hg⟩
  · exact ⟨(h3.2 g hg).2, fun e => d2 g e hg⟩
  · exact ⟨Nat.lt_of_lt_of_le hg h1.base, fun e => by have := (h1.2 g e).1; omega⟩
theorem Tj.ofOne {K' S2 S3 : Nat → Prop} (h : OneK K' w C D M) (r : Rk w C E R S2) (b : Bo w C B q S3) (d : ∀ g, S2 g → ¬ S3 g) (h2 : ∀ g, S2 g → K' g) (h3 : ∀ g, S3 g → K' g) (hK : ∀ g, K g → K' g ∧ ¬ S2 g ∧ ¬ S3 g) : Tj K w C D E B q M R := by
  obtain ⟨S, h1, h4⟩ := h
  exact ⟨S, S2, S3, h1, r, b, fun g hg e => (h4 g (h2 g e)).2 hg, fun g hg e => (h4 g (h3 g e)).2 hg, d, fun g hg => ⟨(h4 g (hK g hg).1).1, (h4 g (hK g hg).1).2, (hK g hg).2⟩⟩
theorem Stay.chg {K : Nat → Prop} {w w' : World} (h : Stay K w w') : Chg w w' (fun g => ¬ K g) := ⟨h.os, h.tape, h.output, h.size, fun g _ hn => h.block g (Classical.byContradiction hn)⟩
theorem Tj.fewer {K' : Nat → Prop} (T : Tj K w C D E B q M R) (h : ∀ g, K' g → K g) : Tj K' w C D E B q M R := by
  obtain ⟨S1, S2, S3, h1, h2, h3, d1, d2, d3, hk⟩ := T
  exact ⟨S1, S2, S3, h1, h2, h3, d1, d2, d3, fun g hg => hk g (h g hg)⟩
variable {s : ByteArray} {Jb Jr long c : Nat}
/-- The journal's Add. -/
theorem Tj.addD (T : Tj K w C D E B q M R) (hK : K Jb) (hC : C ≤ Jb) (hj : Journ w Jb D s long c) (hs : s.size ≤ 140737488355328) (hlong : long ≤ 1048576) (hc : c < 4294967296) {v : Value} {r : List Nat} (hv : KAt .u8 w v r) (hb : Bytes r) {x : (Dm × Nat × Nat) × Nat} (hx : M.add s long c r = x) :
    Calls Tryz.prog 11 #[.pointer (some ⟨Jb, 0, none⟩), v] w fun e w' => e = .returned (.int .i64 (x.2 : Nat)) ∧ Tj K w' C D E B q x.1.1 R ∧ Journ w' Jb D s x.1.2.1 x.1.2.2 ∧ Kept (fun g => K g ∧ g ≠ Jb) w w' ∧ Below C w w' := by
  subst hx
  obtain ⟨S2, S3, ho, hr, hb3, d, hk⟩ := T.one
  have hk' := hk
  refine (Add_any ho (.inl hK) hj hs hlong hc hv hb).mono ?_
  rintro e w' ⟨he, h1, h2, h3⟩
  have hc9 := h3.chg
  refine ⟨he, Tj.ofOne h1 (hr.other hc9 fun g hg e => hg ⟨.inr (.inl e), fun e9 => by rw [e9] at e; exact (hk Jb hK).2.1 e⟩) (hb3.other hc9 fun g hg e => hg ⟨.inr (.inr (.inl e)), fun e9 => by rw [e9] at e; exact (hk Jb hK).2.2 e⟩) d (fun g hg => .inr (.inl hg)) (fun g hg => .inr (.inr (.inl hg))) (fun g hg => ⟨.inl hg, (hk g hg).2⟩), h2, ⟨h3.size, fun g hg => h3.block g ⟨.inl hg.1, hg.2⟩⟩, h3.below fun g hg => ⟨.inr (.inr (.inr hg)), by omega⟩⟩
/-- The journal's Sync. -/
theorem Tj.syncD (T : Tj K w C D E B q M R) (hK : K Jb) (hj : Journ w Jb D s long c) (hs : s.size ≤ 140737488355328) {x : Dm × Nat} (hx : M.sync s = x) :
    Calls Tryz.prog 13 #[.pointer (some ⟨Jb, 0, none⟩)] w fun e w' => e = .returned (.int .i64 x.2) ∧ Tj K w' C D E B q x.1 R ∧ Kept K w w' ∧ Below C w w' := by
  obtain ⟨N, e9⟩ := x
  obtain ⟨S2, S3, ho, hr, hb3, d, hk⟩ := T.one
  refine (JSync_any ho (.inl hK) hj hs hx).mono ?_
  rintro e w' ⟨he, h1, h3⟩
  have hc9 := h3.chg
  exact ⟨he, Tj.ofOne h1 (hr.other hc9 fun g hg e => hg (.inr (.inl e))) (hb3.other hc9 fun g hg e => hg (.inr (.inr (.inl e)))) d (fun g hg => .inr (.inl hg)) (fun g hg => .inr (.inr (.inl hg))) (fun g hg => ⟨.inl hg, (hk g hg).2⟩), ⟨h3.size, fun g hg => h3.block g (.inl hg)⟩, h3.below fun g hg => .inr (.inr (.inr hg))⟩
/-- Open, on the program's side. -/
theorem Tj.openD (T : Tj K w C D E B q M R) (hs : nameOk s = true) (hsz : s.size ≤ 140737488355328) (ho : Only M s) {L : List (List Nat × Nat)} (hL : recs firstC ((M.opened s).readE s 0 ((M.sizeE s).1 : Nat)).1 = L) :
    Calls Tryz.prog 8 #[.pointer (some ⟨D, 0, none⟩), .string s] w fun e w' => ∃ (Jb : Nat) (a : Option Addr) (k : Nat) (xs : List Value) (G : Nat), e = .returned (.tuple #[.pointer (some ⟨Jb, 0, none⟩), .slice a L.length k, .int .i64 0]) ∧
      Journ w' Jb D s (longR L) (lastR L) ∧ PartsAt w' (.slice a L.length k) (L.map Prod.fst) ∧ Tj (fun g => K g ∨ g = Jb ∨ (G ≤ g ∧ g < w'.heap.size)) w' C D E B q (M.opened s) R ∧ Kept K w w' ∧ Below C w w' ∧ w.heap.size ≤ Jb ∧ Jb < G ∧ Handed w' G (.slice a L.length k) xs (L.map Prod.fst) := by
  have hok := T.ok
  have hC := T.base
  obtain ⟨S2, S3, h, hr, hb3, d, hk⟩ := T.one
  have fin : ∀ (e : Ending) (w' : World) (b : List Nat), recs firstC b = L → (∃ (Jb : Nat) (a : Option Addr) (k : Nat) (xs : List Value) (G : Nat), e = .returned (.tuple #[.pointer (some ⟨Jb, 0, none⟩), .slice a (recs firstC b).length k, .int .i64 0]) ∧
      Journ w' Jb D s (longR (recs firstC b)) (lastR (recs firstC b)) ∧ PartsAt w' (.slice a (recs firstC b).length k) ((recs firstC b).map Prod.fst) ∧ OneK (fun g => ((K g ∨ S2 g ∨ S3 g ∨ g < C) ∨ g = Jb) ∨ (G ≤ g ∧ g < w'.heap.size)) w' C D (M.opened s) ∧ Stay (fun g => K g ∨ S2 g ∨ S3 g ∨ g < C) w w' ∧ w.heap.size ≤ Jb ∧ Jb < G ∧ Handed w' G (.slice a (recs firstC b).length k) xs ((recs firstC b).map Prod.fst)) → ∃ (Jb : Nat) (a : Option Addr) (k : Nat) (xs : List Value) (G : Nat), e = .returned (.tuple #[.pointer (some ⟨Jb, 0, none⟩), .slice a L.length k, .int .i64 0]) ∧
      Journ w' Jb D s (longR L) (lastR L) ∧ PartsAt w' (.slice a L.length k) (L.map Prod.fst) ∧ Tj (fun g => K g ∨ g = Jb ∨ (G ≤ g ∧ g < w'.heap.size)) w' C D E B q (M.opened s) R ∧ Kept K w w' ∧ Below C w w' ∧ w.heap.size ≤ Jb ∧ Jb < G ∧ Handed w' G (.slice a L.length k) xs (L.map Prod.fst) := by
    rintro e w' b rfl ⟨Jb, a, k, xs, G, h1, h2, h3, h4, h5, h6, h7, h8⟩
    have hc9 := h5.chg
    refine ⟨Jb, a, k, xs, G, h1, h2, h3, Tj.ofOne h4 (hr.other hc9 fun g hg e => hg (.inr (.inl e))) (hb3.other hc9 fun g hg e => hg (.inr (.inr (.inl e)))) d (fun g hg => .inl (.inl (.inr (.inl hg)))) (fun g hg => .inl (.inl (.inr (.inr (.inl hg))))) (fun g hg => ?_), ⟨h5.size, fun g hg => h5.block g (.inl hg)⟩, h5.below fun g hg => .inr (.inr (.inr hg)), h6, h7, h8⟩
    rcases hg with hg | hg | hg
    · exact ⟨.inl (.inl (.inl hg)), (hk g hg).2⟩
    · exact ⟨.inl (.inr hg), fun e => by have := hr.2 g e; omega, fun e => by have := hb3.2 g e; omega⟩
    · exact ⟨.inr hg, fun e => by have := hr.2 g e; omega, fun e => by have := hb3.2 g e; omega⟩
  rcases ho.ways hok hs with ⟨zn, h0, h9⟩ | ⟨h0, h9⟩
  · rw [h0] at hL
    rw [h9] at hL fin ⊢
    exact (Open_thereH h s hsz h0 rfl).mono fun e w' h8 => fin e w' _ hL h8
  · rw [h0] at hL
    exact (Open_madeH h s hsz h0 h9 rfl).mono fun e w' h8 => fin e w' _ hL h8
/-- The reference's Add. -/
theorem Tj.addR (T : Tj K w C D E B q M R) (ok : RfOk R) (hf : R.rows.length ≤ 1000000) (hK : K Jr) (hC : C ≤ Jr) (hj : RJ w Jr E s long c) (hs : s.size ≤ 140737488355328) (hlong : long ≤ 1048576) (hc : c < 4294967296) {v : Value} {r : List Nat} (hv : KAt .u8 w v r) (hb : Bytes r) {x : (Rf × Nat × Nat) × Nat} (hx : R.add s long c r = x) :
    Calls Tryz.prog 12 #[.pointer (some ⟨Jr, 0, none⟩), v] w fun e w' => e = .returned (.int .i64 (x.2 : Nat)) ∧ Tj K w' C D E B q M x.1.1 ∧ RJ w' Jr E s x.1.2.1 x.1.2.2 ∧ Kept (fun g => K g ∧ g ≠ Jr) w w' ∧ Below C w w' := by
  subst hx
  have hCw := T.base
  obtain ⟨S1, S2, S3, h1, h2, h3, d1, d2, d3, hk⟩ := T
  refine (RJAdd_any h2 ok hs hf hj (hk Jr hK).2.2.1 hlong hc hv hb).mono ?_
  rintro e w' ⟨he, k1, k2, k3⟩
  have hsz := k2.size
  refine ⟨he, ⟨S1, plus S2 w w', S3, h1.other k2 (fun g hg e => ?_), k1, h3.other k2 (fun g hg e => ?_), fun g hg e => ?_, d2, fun g hg => ?_, fun g hg => ⟨by have := (hk g hg).1; omega, (hk g hg).2.1, fun e => ?_, (hk g hg).2.2.2⟩⟩, k3, ⟨hsz, fun g hg => k2.block g (hk g hg.1).1 fun e => ?_⟩, k2.below (fun g hg => ?_) hCw⟩
  · rcases hg with hg | rfl
    · exact d1 g e hg
    · exact (hk _ hK).2.1 e
  · rcases hg with hg | rfl
    · exact d3 g hg e
    · exact (hk _ hK).2.2.2 e
  · rcases e with e | e
    · exact d1 g hg e
    · have := h1.2 g hg; omega
  · rcases hg with hg | hg
    · exact d3 g hg
    · exact fun e => by have := h3.2 g e; omega
  · rcases e with e | e
    · exact (hk g hg).2.2.1 e
    · have := (hk g hg).1; omega
  · rcases e with e | e
    · exact (hk g hg.1).2.2.1 e
    · exact hg.2 e
  · rcases hg with hg | rfl
    · exact (h2.2 g hg).1
    · exact hC
/-- The reference's Sync. -/
theorem Tj.syncR (T : Tj K w C D E B q M R) (ok : RfOk R) (hf : R.rows.length ≤ 1000000) (hK : K Jr) (hj : RJ w Jr E s long c) (hs : s.size ≤ 140737488355328) {x : Rf × Nat} (hx : R.sync s = x) :
    Calls Tryz.prog 14 #[.pointer (some ⟨Jr, 0, none⟩)] w fun e w' => e = .returned (.int .i64 x.2) ∧ Tj K w' C D E B q M x.1 ∧ Kept K w w' ∧ Below C w w' := by
  subst hx
  obtain ⟨S1, S2, S3, h1, h2, h3, d1, d2, d3, hk⟩ := T
  refine (RJSync_any h2 ok hs hf hj (hk Jr hK).2.2.1).mono ?_
  rintro e w' ⟨rfl, hn⟩
  have hs := hn.chg.size
  refine ⟨rfl, ⟨S1, plus S2 w w', S3, h1.other hn.chg (fun g hg h => d1 g h hg), hn.rk, h3.other hn.chg d3, fun g hg e => ?_, d2, fun g hg => ?_, fun g hg => ⟨by have := (hk g hg).1; omega, (hk g hg).2.1, fun e => ?_, (hk g hg).2.2.2⟩⟩, ⟨hs, fun g hg => hn.chg.block g (hk g hg).1 (hk g hg).2.2.1⟩, hn.chg.below (fun g hg => (h2.2 g hg).1) h2.from_⟩
  · rcases e with e | e
    · exact d1 g hg e
    · have := h1.2 g hg; omega
  · rcases hg with hg | hg
    · exact d3 g hg
    · exact fun e => by have := h3.2 g e; omega
  · rcases e with e | e
    · exact (hk g hg).2.2.1 e
    · have := (hk g hg).1; omega
theorem create_ok {M N : Dm} {s : ByteArray} (ok : M.ok) (h : M.create s = (N, 0)) : N.ok := by
  unfold Dm.create at h
  split at h
  · rename_i hs
    split at h
    · cases h
    · rename_i hf
      split at h
      · cases h
      · have e := congrArg Prod.fst h
        rw [← show _ = N from e]
        exact ok.create hs hf _
  · cases h
/-- Open, on the reference's side. -/
theorem Tj.openR {M0 : Dm} (T : Tj K w C D E B q M R) (hr : ∃ f, Rel M0 R f) (ok0 : M0.ok) (hf : R.rows.length ≤ 999999) (hs : nameOk s = true) (hsz : s.size ≤ 140737488355328) (ho : Only M0 s) {L : List (List Nat × Nat)} (hL : recs firstC ((M0.opened s).readE s 0 ((M0.sizeE s).1 : Nat)).1 = L) :
    Calls Tryz.prog 9 #[.pointer (some ⟨E, 0, none⟩), .string s] w fun e w' => ∃ (J : Nat) (u : Value), e = .returned (.tuple #[.pointer (some ⟨J, 0, none⟩), u, .int .i64 0]) ∧
      RJ w' J E s (longR L) (lastR L) ∧ PartsAt w' u (L.map Prod.fst) ∧ Tj (fun g => K g ∨ g = J) w' C D E B q M (R.openedR s) ∧ Kept K w w' ∧ Below C w w' ∧ w.heap.size ≤ J := by
  obtain ⟨f, H⟩ := hr
  obtain ⟨f', H'⟩ := H.opened ok0 s
  have okR := H.okR ok0
  have hCw := T.base
  have okO : (M0.opened s).ok := by
    rcases ho.ways ok0 hs with ⟨zn, h0, h9⟩ | ⟨h0, h9⟩
    · rw [h9]; exact ok0
    · exact create_ok ok0 h9
  have okR' := H'.okR okO
  have hfew := few_opened R s
  have hrd := readE_ok okO s 0 ((M0.sizeE s).1 : Nat)
  have hzn := sizeE_le ok0 s
  have e1 : ∀ (a n : Int), (R.openedR s).readE s a n = (M0.opened s).readE s a n := H'.readE okO s
  have e2 : R.sizeE s = M0.sizeE s := H.sizeE ok0 s
  obtain ⟨S1, S2, S3, h1, h2, h3, d1, d2, d3, hk⟩ := T
  have fin : ∀ (e : Ending) (w' : World), ROpenEnd w C E S2 s (R.openedR s) L e w' → ∃ (J : Nat) (u : Value), e = .returned (.tuple #[.pointer (some ⟨J, 0, none⟩), u, .int .i64 0]) ∧
      RJ w' J E s (longR L) (lastR L) ∧ PartsAt w' u (L.map Prod.fst) ∧ Tj (fun g => K g ∨ g = J) w' C D E B q M (R.openedR s) ∧ Kept K w w' ∧ Below C w w' ∧ w.heap.size ≤ J := by
    rintro e w' ⟨J, u, S', k1, k2, k3, k4, k5, k6, k7, k8⟩
    have hsz := k8.size
    refine ⟨J, u, k1, k2, k3, ⟨S1, S', S3, h1.other k8 (fun g hg e => d1 g e hg), k4, h3.other k8 (fun g hg e => d3 g hg e), fun g hg e => ?_, d2, fun g hg e => ?_, fun g hg => ?_⟩, ⟨hsz, fun g hg => k8.block g (hk g hg).1 (hk g hg).2.2.1⟩, k8.below (fun g hg => (h2.2 g hg).1) hCw, k6⟩
    · rcases k7 g e with e | e
      · exact d1 g hg e
      · have := h1.2 g hg; omega
    · rcases k7 g hg with e' | e'
      · exact d3 g e' e
      · have := h3.2 g e; omega
    · rcases hg with hg | rfl
      · refine ⟨by have := (hk g hg).1; omega, (hk g hg).2.1, fun e => ?_, (hk g hg).2.2.2⟩
        rcases k7 g e with e | e
        · exact (hk g hg).2.2.1 e
        · have := (hk g hg).1; omega
      · exact ⟨lt_of_heap k2, fun e => by have := h1.2 g e; omega, k5, fun e => by have := h3.2 g e; omega⟩
  subst hL
  rcases ho.ways ok0 hs with ⟨zn, h0, h9⟩ | ⟨h0, h9⟩
  · have e3 : R.openedR s = R := by unfold Rf.openedR; rw [e2, h0]; rfl
    rw [h0] at hzn hrd fin ⊢
    rw [e3] at e1 fin ⊢
    exact (ROpen_there h2 okR hsz (by omega) (e2.trans h0) hzn (congrArg Prod.fst (e1 0 zn)) hrd.1 hrd.2).mono fun e w' h8 => fin e w' h8
  · rw [h0] at hzn hrd fin ⊢
    have e3 : R.create s = (R.openedR s, 0) := by
      have hc := (H.create ok0 s).1
      rw [h9] at hc
      unfold Rf.openedR
      rw [e2, h0, if_pos rfl]
      exact Prod.ext rfl hc
    exact (ROpen_made h2 okR okR' hsz (by omega) (by omega) (e2.trans h0) hzn e3 (congrArg Prod.fst (e1 0 (0 : Nat))) hrd.1 hrd.2).mono fun e w' h8 => fin e w' h8
/-- Records are kept. -/
theorem Tj.keepR {K' : Nat → Prop} {n9 : Nat} (T : Tj K w C D E B (some n9) M R) {G m : Nat} {v : Value} {xs : List Value} {ls : List (List Nat)} (hm : ls.length = m) (hq : n9 + m < 100000000) (hml : m ≤ 4000000) (hG : C ≤ G) (hH : Handed w G v xs ls) (hl : ∀ l ∈ ls, l.length ≤ 4000000)
    (hK : ∀ g, (v.ownBlock = some g ∨ ∃ u ∈ xs, u.ownBlock = some g) → K g) (hK' : ∀ g, K' g → K g ∧ v.ownBlock ≠ some g ∧ ∀ u ∈ xs, u.ownBlock ≠ some g) :
    Calls Tryz.prog 24 #[.pointer (some ⟨B, 0, none⟩), v] w fun e w' => e = .returned (.tuple #[]) ∧ Tj K' w' C D E B (some (n9 + m + 1)) M R ∧ Kept K' w w' ∧ Below C w w' := by
  subst hm
  have hCw := T.base
  obtain ⟨S1, S2, S3, h1, h2, h3, d1, d2, d3, hk⟩ := T
  obtain ⟨c1, c2, c3⟩ := hH
  have hxl : xs.length = ls.length := by have := c1.1; omega
  refine (h3.1.Records (v := v) (m := ls.length) (xs := xs) hq (OwnV.base c1 hG) hml (fun g hg e => (hk g (hK g (.inl hg))).2.2.2 e) (fun i u hu => ?_) c3).mono ?_
  · have hi := (List.getElem?_eq_some_iff.1 hu).1
    obtain ⟨u', hu', c4, c5⟩ := c2 i ls[i] (List.getElem?_eq_getElem (by omega))
    rw [hu] at hu'
    cases hu'
    exact ⟨_, _, OwnV.base c4 hG, hl _ (List.getElem_mem _), fun g hg => ⟨c5 g hg, fun e => (hk g (hK g (.inr ⟨u, List.mem_of_getElem? hu, hg⟩))).2.2.2 e⟩⟩
  rintro e w' ⟨rfl, ⟨S', hb, hS'⟩, hc⟩
  have hs := hc.size
  have hx : ∀ g, (S3 g ∨ ∃ u ∈ xs, u.ownBlock = some g) → ¬ S1 g ∧ ¬ S2 g ∧ C ≤ g := fun g hg => by
    rcases hg with hg | ⟨u, hu, hg⟩
    · exact ⟨fun e => d2 g e hg, fun e => d3 g e hg, (h3.2 g hg).1⟩
    · have h9 := hk g (hK g (.inr ⟨u, hu, hg⟩))
      obtain ⟨i, hi⟩ := List.mem_iff_getElem?.1 hu
      have hil := (List.getElem?_eq_some_iff.1 hi).1
      obtain ⟨u', hu', c4, c5⟩ := c2 i ls[i] (List.getElem?_eq_getElem (by omega))
      rw [hi] at hu'
      cases hu'
      exact ⟨h9.2.1, h9.2.2.1, by have := (OwnV.lt c4 g hg).1; omega⟩
  refine ⟨rfl, ⟨S1, S2, S', h1.other hc (fun g hg => (hx g hg).1), h2.other hc (fun g hg => (hx g hg).2.1), ⟨hb, hb.2⟩, d1, fun g hg e => ?_, fun g hg e => ?_, fun g hg => ⟨by have := (hk g (hK' g hg).1).1; omega, (hk g (hK' g hg).1).2.1, (hk g (hK' g hg).1).2.2.1, fun e => ?_⟩⟩, ⟨hs, fun g hg => hc.block g (hk g (hK' g hg).1).1 fun e => ?_⟩, hc.below (fun g hg => (hx g hg).2.2) hCw⟩
  · rcases hS' g e with e | e | e | e
    · exact d2 g hg e
    · exact (hk g (hK g (.inl e))).2.1 hg
    · exact (hk g (hK g (.inr e))).2.1 hg
    · have := h1.2 g hg; omega
  · rcases hS' g e with e | e | e | e
    · exact d3 g hg e
    · exact (hk g (hK g (.inl e))).2.2.1 hg
    · exact (hk g (hK g (.inr e))).2.2.1 hg
    · have := h2.2 g hg; omega
  · rcases hS' g e with e | e | ⟨u, hu, e⟩ | e
    · exact (hk g (hK' g hg).1).2.2.2 e
    · exact (hK' g hg).2.1 e
    · exact (hK' g hg).2.2 u hu e
    · have := (hk g (hK' g hg).1).1; omega
  · rcases e with e | ⟨u, hu, e⟩
    · exact (hk g (hK' g hg).1).2.2.2 e
    · exact (hK' g hg).2.2 u hu e
end
end Go.Proofs.YtidhlbhfhfonoaaGreatDoor
namespace Go.Proofs.YtidhlbhfhfonoaaGreatDoor
open Go.ChangeShapes Go.WideShapes Go.ChangeAt Go.RowKit
theorem jactC {w : World} {X : Nat} {a0 a1 a2 a3 : Value} {t : TypeId} (h : w.heap[X]? = some (.cells #[a0, a1, a2, a3] t (0, 0))) : w.cell? ⟨X, 0, none⟩ = some a0 ∧ w.cell? ⟨X, 1, none⟩ = some a1 ∧ w.cell? ⟨X, 2, none⟩ = some a2 ∧ w.cell? ⟨X, 3, none⟩ = some a3 :=
  ⟨cell_of_row _ X 0 _ _ (0, 0) h, cell_of_row _ X 1 _ _ (0, 0) h, cell_of_row _ X 2 _ _ (0, 0) h, cell_of_row _ X 3 _ _ (0, 0) h⟩
theorem readE_zero (M : Dm) (s : ByteArray) : (M.readE s 0 ((0 : Nat) : Int)).1 = [] := by
  unfold Dm.readE
  split
  · split
    · dsimp only
      split
      · simp
      · rfl
    · rfl
  · rfl
set_option linter.unusedSimpArgs false in
set_option linter.unusedVariables false in
set_option maxRecDepth 40000 in
set_option maxHeartbeats 8000000 in
theorem jdone_great (sz : Nat) (hsz : sz < 65536) (s : ByteArray) (l : List Jc) {v : Value} (w : World) (h : JactsAt w v l) (hg : greatJ l = true) :
    Calls Tryz.prog 3 #[.int .u16 sz, .string s, v] w fun e w' => e = .returned (.bool true) ∧ Below w.heap.size w w' := by
  have HG := Lib.hid (GreatJ_any l w h)
  rw [hg] at HG
  obtain ⟨ao, cap, rfl, _⟩ := h
  clear hg
  go_enter Tryz.func3, Tryz.ntmps3
  go_wp2_with fail
  refine HG.out.mono ?_
  rintro _ w1 ⟨rfl, n, rfl⟩
  go_wp2_with fail
  go_ret
  exact ⟨rfl, below_drewN9 _ _⟩
set_option linter.unusedSimpArgs false in
set_option linter.unusedVariables false in
set_option maxRecDepth 40000 in
set_option maxHeartbeats 8000000 in
theorem jdone_long (sz : Nat) (hsz : sz < 65536) (s : ByteArray) (l : List Jc) {v : Value} (w : World) (h : JactsAt w v l) (hg : greatJ l = false) (hs : 1000 < s.size) (hs2 : s.size ≤ 140737488351232) :
    Calls Tryz.prog 3 #[.int .u16 sz, .string s, v] w fun e w' => e = .returned (.bool true) ∧ Below w.heap.size w w' := by
  have HG := Lib.hid (GreatJ_any l w h)
  rw [hg] at HG
  obtain ⟨ao, cap, rfl, _⟩ := h
  obtain ⟨q, hq⟩ : ∃ q, q = s.size := ⟨_, rfl⟩
  have eq : (s.size : Int) = (q : Int) := by rw [hq]
  have hq1 : (1000 : Int) < (q : Int) := by omega
  have hq2 : (q : Int) ≤ 140737488351232 := by omega
  clear hg hq hs hs2
  go_enter Tryz.func3, Tryz.ntmps3
  go_wp2_with fail
  refine HG.out.mono ?_
  rintro _ w1 ⟨rfl, n, rfl⟩
  go_wp2_with fail
  go_ret
  exact ⟨rfl, below_drewN9 _ _⟩

set_option linter.unusedSimpArgs false in
set_option linter.unusedVariables false in
set_option maxRecDepth 40000 in
set_option maxHeartbeats 8000000 in
theorem jdone_bad (sz : Nat) (hsz : sz < 65536) (s : ByteArray) (l : List Jc) {v : Value} (w : World) (h : JactsAt w v l) (hg : greatJ l = false) (hs : s.size ≤ 1000) (hbad : nameOk s = false) :
    Calls Tryz.prog 3 #[.int .u16 sz, .string s, v] w fun e w' => e = .returned (.bool true) ∧ Below w.heap.size w w' := by
  have HG := Lib.hid (GreatJ_any l w h)
  rw [hg] at HG
  obtain ⟨n, hn⟩ : ∃ n, n = 1 + sz := ⟨_, rfl⟩
  have en : (n : Int) = 1 + (sz : Int) := by omega
  have hn1 : 1 ≤ n := by omega
  have hn2 : n ≤ 8388608 := by omega
  have szI : (sz : Int) ≤ 65535 := by omega
  have HN := Lib.hid (fun W : World => New_yes n W hn1 hn2)
  have HRN := Lib.hid (fun W : World => RNew_yes n W hn1 hn2)
  rw [en] at HN HRN
  obtain ⟨q, hq⟩ : ∃ q, q = s.size := ⟨_, rfl⟩
  have eq : (s.size : Int) = (q : Int) := by rw [hq]
  have hq1 : ¬ (1000 : Int) < (q : Int) := by omega
  have HS9 := Lib.hid (show s.size ≤ 140737488355328 by omega)
  have HREL0 := Lib.hid (show ∃ f, Rel (new0 n) (newR n) f from ⟨_, new_rel n⟩)
  have HOK0 := Lib.hid (new0_ok hn1 hn2)
  obtain ⟨C, hC⟩ : ∃ C, C = w.heap.size := ⟨_, rfl⟩
  have HC := Lib.hid hC
  have HZ := Lib.hid (sizeE_bad (M := new0 n) hbad)
  obtain ⟨ao, cap, rfl, _⟩ := h
  clear hg hC hq hs hn hn1 hn2 en hbad hsz
  go_enter Tryz.func3, Tryz.ntmps3
  go_wp2_with fail
  refine HG.out.mono ?_
  rintro _ w0 ⟨rfl, n0, e0⟩
  have hb0 : Below C w w0 := by rw [e0, HC.out]; exact below_drewN9 _ _
  have hs0 : C = w0.heap.size := by rw [e0, HC.out]; rfl
  have HB0 := Lib.hid hb0
  have HS0 := Lib.hid hs0
  clear e0 hb0 hs0
  go_wp2_with fail
  refine (HN.out w0).mono ?_
  rintro _ w1 ⟨rfl, hd, hb⟩
  rw [← HS0.out] at hd
  have HD1 := Lib.hid hd
  have HB1 := Lib.hid (HB0.out.trans (hb.mono (Nat.le_of_eq HS0.out)))
  clear hd hb
  go_wp2_with fail
  rw [← HS0.out]
  refine (HRN.out w1).mono ?_
  rintro _ w2 ⟨rfl, hr, hb⟩
  have T := Lib.hid (Tj.start HD1.out hr hb)
  have BW := Lib.hid (HB1.out.trans (hb.mono HD1.out.base))
  obtain ⟨E, hE⟩ : ∃ E, E = w1.heap.size := ⟨_, rfl⟩
  rw [← hE] at T
  go_wp2_with fail
  rw [← hE]
  clear hr hb hE HD1 HB1
  have HO := Lib.hid (show Calls Tryz.prog 8 #[.pointer (some ⟨C, 0, none⟩), .string s] w2 fun e w' => e = .returned (.tuple #[.pointer none, .slice none 0 0, .int .i64 (1 : Nat)]) ∧ Below w2.heap.size w2 w' by
    obtain ⟨S2, S3, ho, _⟩ := T.out.one
    exact Open_no ho HS9.out HZ.out (by decide))
  refine HO.out.mono ?_
  rintro _ w3 ⟨rfl, hb⟩
  have HR := Lib.hid (show Calls Tryz.prog 9 #[.pointer (some ⟨E, 0, none⟩), .string s] w3 fun e w' => e = .returned (.tuple #[.pointer none, .slice none 0 0, .int .i64 (1 : Nat)]) ∧ Below w3.heap.size w3 w' by
    obtain ⟨S1, S2, S3, h1, h2, _⟩ := T.out.later hb
    obtain ⟨f, H⟩ := HREL0.out
    exact ROpen_no h2 (H.okR HOK0.out) HS9.out (by simp [newR]) ((H.sizeE HOK0.out s).trans HZ.out) (by decide) (by decide))
  have BW := Lib.hid (BW.out.trans (hb.mono T.out.base))
  have hC3 : C ≤ w3.heap.size := Nat.le_trans T.out.base hb.size
  clear hb HO
  go_wp2_with fail
  refine HR.out.mono ?_
  rintro _ w4 ⟨rfl, hb⟩
  have BW := Lib.hid (BW.out.trans (hb.mono hC3))
  clear hb HR
  go_wp2_with fail
  go_ret
  exact ⟨rfl, by rw [← HC.out]; exact BW.out⟩
set_option linter.unusedSimpArgs false in
set_option linter.unusedVariables false in
set_option maxRecDepth 40000 in
set_option maxHeartbeats 8000000 in
theorem jdone_small (sz : Nat) (hsz : sz < 65536) (s : ByteArray) (l : List Jc) {v : Value} (w : World) (h : JactsAt w v l) (hg : greatJ l = false) (hs : s.size ≤ 1000) (hok : nameOk s = true) :
    Calls Tryz.prog 3 #[.int .u16 sz, .string s, v] w fun e w' => e = .returned (.bool true) ∧ Below w.heap.size w w' := by
  have HG := Lib.hid (GreatJ_any l w h)
  rw [hg] at HG
  obtain ⟨n, hn⟩ : ∃ n, n = 1 + sz := ⟨_, rfl⟩
  have en : (n : Int) = 1 + (sz : Int) := by omega
  have hn1 : 1 ≤ n := by omega
  have hn2 : n ≤ 8388608 := by omega
  have szI : (sz : Int) ≤ 65535 := by omega
  have HN := Lib.hid (fun W : World => New_yes n W hn1 hn2)
  have HRN := Lib.hid (fun W : World => RNew_yes n W hn1 hn2)
  rw [en] at HN HRN
  obtain ⟨q, hq⟩ : ∃ q, q = s.size := ⟨_, rfl⟩
  have eq : (s.size : Int) = (q : Int) := by rw [hq]
  have hq1 : ¬ (1000 : Int) < (q : Int) := by omega
  have HS9 := Lib.hid (show s.size ≤ 140737488355328 by omega)
  have HREL0 := Lib.hid (show ∃ f, Rel (new0 n) (newR n) f from ⟨_, new_rel n⟩)
  have HOK0 := Lib.hid (new0_ok hn1 hn2)
  obtain ⟨C, hC⟩ : ∃ C, C = w.heap.size := ⟨_, rfl⟩
  have HC := Lib.hid hC
  have HNM := Lib.hid hok
  obtain ⟨hl100, hbulk⟩ := greatJ_small hg
  have HBULK := Lib.hid hbulk
  have HA := Lib.hid h
  obtain ⟨ao, cap, hv, hc1, hc2, hc3, hc4⟩ := h
  unfold maxLen at hc2
  obtain ⟨m, hm⟩ : ∃ m, m = l.length := ⟨_, rfl⟩
  have HM := Lib.hid hm
  rw [← hm] at hc1 hc4 hv hl100
  have H3 := Lib.hid hc3
  have H4 := Lib.hid hc4
  subst hv
  have mI : (m : Int) ≤ 100 := by omega
  have HFEW0 := Lib.hid (show (newR n).rows.length = 0 by simp [newR])
  have HWAY := Lib.hid (show (new0 n).sizeE s = (0, 7) by
    rcases (Only.new n s).ways (new0_ok hn1 hn2) hok with ⟨zn, h1, h2⟩ | ⟨h1, h2⟩
    · have h3 := find_none_of (t := (new0 n).now) (s := s) fun j hj e => by
        have : (new0 n).now[j] = free := List.eq_of_mem_replicate (n := 64) (List.getElem_mem hj)
        rw [this] at e
        exact nameOk_ne hok e.symm
      unfold Dm.sizeE Dm.why at h1 ⊢
      simp [hok, h3] at h1
    · exact h1)
  have HL0 := Lib.hid (show recs firstC (((new0 n).opened s).readE s 0 (((new0 n).sizeE s).1 : Nat)).1 = [] by
    rw [HWAY.out, readE_zero]
    rfl)
  obtain ⟨M0, hM0⟩ : ∃ M, M = (new0 n).opened s := ⟨_, rfl⟩
  obtain ⟨R0, hR0⟩ : ∃ R, R = (newR n).openedR s := ⟨_, rfl⟩
  have HM0 := Lib.hid (show (∃ f, Rel M0 R0 f) ∧ Only M0 s ∧ R0.rows.length ≤ 64 by
    obtain ⟨f, H⟩ := HREL0.out
    have h9 := few_opened (newR n) s
    exact ⟨by rw [hM0, hR0]; exact H.opened HOK0.out s, by rw [hM0]; exact (Only.new n s).opened, by rw [hR0]; have := HFEW0.out; omega⟩)
  have HEM := Lib.hid hM0
  have HER := Lib.hid hR0
  clear hc3 hc4 hm hg hbulk hC hq hs hn hn1 hn2 en hok hsz hM0 hR0
  go_enter Tryz.func3, Tryz.ntmps3
  go_wp2_with fail
  refine HG.out.mono ?_
  rintro _ w0 ⟨rfl, n0, e0⟩
  have hb0 : Below C w w0 := by rw [e0, HC.out]; exact below_drewN9 _ _
  have hs0 : C = w0.heap.size := by rw [e0, HC.out]; rfl
  have HB0 := Lib.hid hb0
  have HS0 := Lib.hid hs0
  clear e0 hb0 hs0
  go_wp2_with fail
  refine (HN.out w0).mono ?_
  rintro _ w1 ⟨rfl, hd, hb⟩
  rw [← HS0.out] at hd
  have HD1 := Lib.hid hd
  have HB1 := Lib.hid (HB0.out.trans (hb.mono (Nat.le_of_eq HS0.out)))
  clear hd hb
  go_wp2_with fail
  rw [← HS0.out]
  refine (HRN.out w1).mono ?_
  rintro _ w2 ⟨rfl, hr, hb⟩
  have T := Lib.hid (Tj.start HD1.out hr hb)
  have BW := Lib.hid (HB1.out.trans (hb.mono HD1.out.base))
  obtain ⟨E, hE⟩ : ∃ E, E = w1.heap.size := ⟨_, rfl⟩
  rw [← hE] at T
  go_wp2_with fail
  rw [← hE]
  clear hr hb hE HD1 HB1
  refine (T.out.openD HNM.out HS9.out (Only.new n s) HL0.out).mono ?_
  rintro _ w3 ⟨Jb, ja, jc, jx, G, rfl, hj, _, ht, _, hb, hJ1, hJ2, _⟩
  rw [← HEM.out] at ht
  have T3 := Lib.hid ht
  have HJ := Lib.hid (show Journ w3 Jb C s 0 firstC from hj)
  have HCJ := Lib.hid (show C ≤ Jb from Nat.le_trans T.out.base hJ1)
  have BW := Lib.hid (BW.out.trans hb)
  have hjl := lt_of_heap hj
  clear ht hj hb hJ1 hJ2 T
  go_wp2_with fail
  refine (T3.out.openR HREL0.out HOK0.out (by have := HFEW0.out; omega) HNM.out HS9.out (Only.new n s) HL0.out).mono ?_
  rintro _ w4 ⟨Jr, ju, rfl, hr, hpu, ht, hk9, hb, hJr⟩
  rw [← HER.out] at ht
  have HJ := Lib.hid ((hk9.2 Jb (.inr (.inl rfl))).trans HJ.out)
  have HR := Lib.hid (show RJ w4 Jr E s 0 firstC from hr)
  have HNE := Lib.hid (show Jb ≠ Jr by omega)
  have HCR := Lib.hid (show C ≤ Jr from Nat.le_trans T3.out.base hJr)
  have BW := Lib.hid (BW.out.trans hb)
  have T := Lib.hid (ht.fewer (K' := fun g => g = Jb ∨ g = Jr) fun g hg => by rcases hg with rfl | rfl; exact .inl (.inr (.inl rfl)); exact .inr rfl)
  clear ht hr hk9 hb hJr T3 hjl
  obtain ⟨ua, uc, eju, _⟩ := hpu
  subst eju
  go_upto_region 14 with fail
  obtain ⟨w5, e5⟩ : ∃ w5, w5 = w4.alloc (.cells #[.int .i64 0, .slice none 0 0, .slice none 0 0, .slice none 0 0, .slice none 0 0, .slice none 0 0, .slice none 0 0, .slice none 0 0, .slice none 0 0, .slice none 0 0, .slice none 0 0, .slice none 0 0, .slice none 0 0, .slice none 0 0, .slice none 0 0, .slice none 0 0, .slice none 0 0, .slice none 0 0] 57) := ⟨_, rfl⟩
  obtain ⟨B, hB⟩ : ∃ B, B = w4.heap.size := ⟨_, rfl⟩
  have hb : Below w4.heap.size w4 w5 := by rw [e5]; exact (Below.refl _ _).alloc (Nat.le_refl _) _
  have ht := T.out.book 57
  rw [← hB, show w4.alloc (.cells bkZ2 57) = w5 from e5.symm] at ht
  have HJ := Lib.hid (heap_on hb HJ.out)
  have HR := Lib.hid (heap_on hb HR.out)
  have BW := Lib.hid (BW.out.trans (hb.mono T.out.base))
  have T := Lib.hid ht
  rw [← e5, ← hB]
  clear e5 hB hb ht HN HRN HG HB0 HS0 HWAY HL0 HEM HER HREL0
  go_wp2_with fail
  go_loopw [7, 9, 11, 13, 16] (fun d cc jj mm i wr => ∃ (k D E Jb Jr q long c : Nat) (M : Dm) (R : Rf), k ≤ m ∧ i = .int .i64 k ∧ d = .pointer (some ⟨D, 0, none⟩) ∧ cc = .pointer (some ⟨E, 0, none⟩) ∧ jj = .pointer (some ⟨Jb, 0, none⟩) ∧ mm = .pointer (some ⟨Jr, 0, none⟩) ∧ Hid (Tj (fun g => g = Jb ∨ g = Jr) wr C D E B (some q) M R) ∧ Hid (Journ wr Jb D s long c) ∧ Hid (RJ wr Jr E s long c) ∧ Hid (Jb ≠ Jr ∧ C ≤ Jb ∧ C ≤ Jr) ∧ Hid (∃ f, Rel M R f) ∧ Hid (Only M s) ∧ Hid (long ≤ 1048576 ∧ c < 4294967296) ∧ q ≤ 200000 * k ∧ R.rows.length ≤ 64 + 2 * k ∧ Hid (Below C w wr)) (fun _ _ _ _ i _ => m - (intOf i).toNat)
  case atStart => exact ⟨0, C, E, Jb, Jr, 0, 0, firstC, M0, R0, Nat.zero_le _, rfl, rfl, rfl, rfl, rfl, T, HJ, HR, Lib.hid ⟨HNE.out, HCJ.out, HCR.out⟩, Lib.hid HM0.out.1, Lib.hid HM0.out.2.1, Lib.hid ⟨by decide, by decide⟩, Nat.zero_le _, by have := HM0.out.2.2; omega, BW⟩
  case round =>
    clear T HJ HR HNE HCJ HCR HM0 BW HOK0 HFEW0
    obtain ⟨k, D, E, Jb, Jr, q, long, c, M, R, hk, rfl, rfl, rfl, rfl, rfl, T, HJ, HR, HNE, HREL, HONE, HLC, hq, hfew, BW⟩ := hrel
    by_cases hlt : k < m
    · have hkI : (k : Int) < (m : Int) := by omega
      obtain ⟨a, ha⟩ : ∃ a, l[k]? = some a := ⟨_, List.getElem?_eq_getElem (by rw [← HM.out]; exact hlt)⟩
      obtain ⟨b0, o0, rfl, hcell⟩ := H4.out (by omega)
      have ham := List.mem_of_getElem? ha
      obtain ⟨hok, hkv⟩ := H3.out a ham
      have hbk := HBULK.out a ham
      unfold Jc.bulk at hbk
      have HKV := Lib.hid hkv
      obtain ⟨ab, ac, hav, _, _, _, _⟩ := hkv
      have c0 := cell_on (hcell k a ha 0 _ rfl) (show Below w.heap.size w wr by rw [← HC.out]; exact BW.out)
      have c1 := cell_on (hcell k a ha 1 _ rfl) (show Below w.heap.size w wr by rw [← HC.out]; exact BW.out)
      have c2 := cell_on (hcell k a ha 2 _ rfl) (show Below w.heap.size w wr by rw [← HC.out]; exact BW.out)
      have c3 := cell_on (hcell k a ha 3 _ rfl) (show Below w.heap.size w wr by rw [← HC.out]; exact BW.out)
      rw [Nat.add_zero] at c0
      rw [hav] at c1 HKV
      have HBL := Lib.hid (show a.b.length ≤ 40000 by omega)
      have HBY := Lib.hid hok.b.1
      have hkp9 : a.keep < 65536 := hok.keep
      have hkpI : (a.keep : Int) ≤ 65535 := by omega
      have hk9 := hok.kind
      obtain ⟨r, hr⟩ : ∃ r, r = a.kind % 9 := ⟨_, rfl⟩
      have hr9 : r < 9 := by omega
      have er : (a.kind : Int) % 9 = (r : Int) := by omega
      clear hcell ha ham hok hav hbk hr
      go_upto_region 18 with fail
      obtain ⟨wx, e9⟩ : ∃ wx : World, wx = wr.alloc (.cells #[.int .u8 a.kind, .slice ab a.b.length ac, .int .u16 a.keep, .bool a.nm] 60) := ⟨_, rfl⟩
      obtain ⟨AX, hAX⟩ : ∃ AX, AX = wr.heap.size := ⟨_, rfl⟩
      have hb : Below wr.heap.size wr wx := by rw [e9]; exact (Below.refl _ _).alloc (Nat.le_refl _) _
      have HAX := Lib.hid (show wx.heap[AX]? = some (.cells #[.int .u8 a.kind, .slice ab a.b.length ac, .int .u16 a.keep, .bool a.nm] 60 (0, 0)) by rw [e9, hAX]; exact heap_alloc_new _ _)
      have hsx : wx.heap.size = AX + 1 := by rw [e9, hAX]; simp
      have hjx := lt_of_heap HJ.out
      have hrx := lt_of_heap HR.out
      have HJ := Lib.hid (heap_on hb HJ.out)
      have HR := Lib.hid (heap_on hb HR.out)
      have BW := Lib.hid (BW.out.trans (hb.mono T.out.base))
      have T := Lib.hid (T.out.more (K' := fun g => g = Jb ∨ g = Jr ∨ g = AX) hb (fun g hg => by rcases hg with hg | hg | hg; exact .inl (.inl hg); exact .inl (.inr hg); exact .inr ⟨by omega, by omega⟩))
      rw [← e9, ← hAX]
      have HX9 := Lib.hid (show AX = wr.heap.size ∧ wx.heap.size = AX + 1 ∧ Jb < wr.heap.size ∧ Jr < wr.heap.size from ⟨hAX, hsx, hjx, hrx⟩)
      clear e9 hb c0 c1 c2 c3 hAX hsx hjx hrx
      obtain ⟨x0, x1, x2, x3⟩ := jactC HAX.out
      go_wp2_with fail
      refine (Twin_any _ (HKV.out.later (show Below w.heap.size w _ from by rw [← HC.out]; exact BW.out)) (by have := HBL.out; omega)).mono ?_
      rintro _ w1 ⟨tv, rfl, ht, hb⟩
      obtain ⟨ta, tc, htv⟩ := ht.own.at_.len |> fun _ => ht.own.sl
      have HNT := Lib.hid (show AX ≠ Jb ∧ AX ≠ Jr ∧ (∀ g, tv.ownBlock = some g → g ≠ Jb ∧ g ≠ Jr) from by
          obtain ⟨q1, q2, q3, q4⟩ := HX9.out
          exact ⟨by omega, by omega, fun g hg => by have := (OwnV.lt ht.own g hg).1; exact ⟨by omega, by omega⟩⟩)
      have HTW := Lib.hid (Twin.down ht T.out.base)
      have HAX := Lib.hid (((T.out.kept hb).2 AX (.inr (.inr rfl))).trans HAX.out)
      have HJ := Lib.hid (((T.out.kept hb).2 Jb (.inl rfl)).trans HJ.out)
      have HR := Lib.hid (((T.out.kept hb).2 Jr (.inr (.inl rfl))).trans HR.out)
      have BW := Lib.hid (BW.out.trans (hb.mono T.out.base))
      have T := Lib.hid (T.out.more (K' := fun g => g = Jb ∨ g = Jr ∨ g = AX ∨ tv.ownBlock = some g) hb (fun g hg => by rcases hg with hg | hg | hg | hg; exact .inl (.inl hg); exact .inl (.inr (.inl hg)); exact .inl (.inr (.inr hg)); exact .inr ⟨(OwnV.lt ht.own g hg).1, (OwnV.lt ht.own g hg).2⟩))
      clear x0 x1 x2 x3 hb ht HX9
      obtain ⟨x0, x1, x2, x3⟩ := jactC HAX.out
      subst htv
      match r, hr9 with
      | 0, _ => as_aux_lemma =>
        obtain ⟨f9, hf9⟩ := HREL.out
        have HOKR := Lib.hid (hf9.okR T.out.ok)
        obtain ⟨h1, h2, h3⟩ := hf9.add T.out.ok s long c HBY.out
        have h4 := add_long T.out.ok s HLC.out.1 HLC.out.2 (r := a.b) HBY.out
        obtain ⟨xM, hM⟩ : ∃ x, x = M.add s long c a.b := ⟨_, rfl⟩
        obtain ⟨xR, hR⟩ : ∃ x, x = R.add s long c a.b := ⟨_, rfl⟩
        have hone := HONE.out.add long c a.b
        have hfw := few_add R s long c a.b
        rw [← hM] at h1 h2 h3 h4 hone
        rw [← hR] at h1 h2 h3 hfw
        obtain ⟨⟨M', l1, c1'⟩, e⟩ := xM
        obtain ⟨⟨R', l2, c2'⟩, e2⟩ := xR
        dsimp only at h1 h2 h3 h4 hone hfw
        cases h1
        cases h2
        have HXM := Lib.hid hM.symm
        have HXR := Lib.hid hR.symm
        have HREL := Lib.hid h3
        have HLC2 := Lib.hid h4
        have HONE := Lib.hid hone
        have hfew2 : R'.rows.length ≤ 64 + 2 * (k + 1) := by omega
        have hfew1 : R.rows.length ≤ 1000000 := by omega
        clear hf9 h3 h4 hM hR hone f9 hfew hfw
        go_wp2_with fail
        refine (T.out.addD (.inl rfl) HNE.out.2.1 HJ.out HS9.out HLC.out.1 HLC.out.2 HTW.out.own.at_ HBY.out HXM.out).mono ?_
        rintro _ wy ⟨rfl, ht, hj, hk8, hb⟩
        have T := Lib.hid ht
        have HR := Lib.hid ((hk8.2 Jr ⟨.inr (.inl rfl), fun e9 => HNE.out.1 e9.symm⟩).trans HR.out)
        have HAX := Lib.hid ((hk8.2 AX ⟨.inr (.inr (.inl rfl)), HNT.out.1⟩).trans HAX.out)
        have HTW := Lib.hid (HTW.out.block fun g hg => hk8.2 g ⟨.inr (.inr (.inr hg)), (HNT.out.2.2 g hg).1⟩)
        have HJ := Lib.hid hj
        have BW := Lib.hid (BW.out.trans hb)
        clear ht hj hk8 hb
        clear x0 x1 x2 x3
        obtain ⟨x0, x1, x2, x3⟩ := jactC HAX.out
        go_wp2_with fail
        refine (T.out.addR HOKR.out hfew1 (.inr (.inl rfl)) HNE.out.2.2 HR.out HS9.out HLC.out.1 HLC.out.2 (HKV.out.later (show Below w.heap.size w _ from by rw [← HC.out]; exact BW.out)) HBY.out HXR.out).mono ?_
        rintro _ wz ⟨rfl, ht, hj, hk8, hb⟩
        have T := Lib.hid ht
        have HJ := Lib.hid ((hk8.2 Jb ⟨.inl rfl, HNE.out.1⟩).trans HJ.out)
        have HAX := Lib.hid ((hk8.2 AX ⟨.inr (.inr (.inl rfl)), HNT.out.2.1⟩).trans HAX.out)
        have HTW := Lib.hid (HTW.out.block fun g hg => hk8.2 g ⟨.inr (.inr (.inr hg)), (HNT.out.2.2 g hg).2⟩)
        have HR := Lib.hid hj
        have BW := Lib.hid (BW.out.trans hb)
        have HLC := HLC2
        clear ht hj hk8 hb HLC2
        clear x0 x1 x2 x3
        obtain ⟨x0, x1, x2, x3⟩ := jactC HAX.out
        have hfewT : R'.rows.length ≤ 1000000 := by omega
        go_wp2_with fail
        refine (LeftB_any _ HTW.out (HKV.out.later (show Below w.heap.size w _ from by rw [← HC.out]; exact BW.out))).mono ?_
        rintro _ y5 ⟨rfl, n5, e5⟩
        have hb9 := show Below _ _ y5 from by rw [e5]; exact below_drewN9 _ _
        have hk9 := T.out.kept hb9
        have hb := hb9.mono T.out.base
        have T := Lib.hid (T.out.later hb9)
        clear hb9 e5
        have HJ := Lib.hid ((hk9.2 Jb (.inl rfl)).trans HJ.out)
        have HR := Lib.hid ((hk9.2 Jr (.inr (.inl rfl))).trans HR.out)
        have HAX := Lib.hid ((hk9.2 AX (.inr (.inr (.inl rfl)))).trans HAX.out)
        have HTW := Lib.hid (HTW.out.block fun g hg => hk9.2 g (.inr (.inr (.inr hg))))
        have BW := Lib.hid (BW.out.trans hb)
        clear hk9 hb
        clear x0 x1 x2 x3
        obtain ⟨x0, x1, x2, x3⟩ := jactC HAX.out
        go_wp2_with fail
        refine (T.out.same HREL.out hfewT).mono ?_
        rintro _ y6 ⟨rfl, hb9⟩
        have hk9 := T.out.kept hb9
        have hb := hb9.mono T.out.base
        have T := Lib.hid (T.out.later hb9)
        clear hb9
        have HJ := Lib.hid ((hk9.2 Jb (.inl rfl)).trans HJ.out)
        have HR := Lib.hid ((hk9.2 Jr (.inr (.inl rfl))).trans HR.out)
        have HAX := Lib.hid ((hk9.2 AX (.inr (.inr (.inl rfl)))).trans HAX.out)
        have HTW := Lib.hid (HTW.out.block fun g hg => hk9.2 g (.inr (.inr (.inr hg))))
        have BW := Lib.hid (BW.out.trans hb)
        clear hk9 hb
        clear x0 x1 x2 x3
        obtain ⟨x0, x1, x2, x3⟩ := jactC HAX.out
        go_wp2_with fail
        refine (T.out.keepB (K' := fun g => g = Jb ∨ g = Jr) (by omega) HTW.out.own (by have := HBL.out; omega) (fun g hg => .inr (.inr (.inr hg))) (fun g hg => by rcases hg with rfl | rfl; exact ⟨.inl rfl, fun e => (HNT.out.2.2 _ e).1 rfl⟩; exact ⟨.inr (.inl rfl), fun e => (HNT.out.2.2 _ e).2 rfl⟩)).mono ?_
        rintro _ y7 ⟨rfl, ht, hk9, hb⟩
        have T := Lib.hid ht
        have HJ := Lib.hid ((hk9.2 Jb (.inl rfl)).trans HJ.out)
        have HR := Lib.hid ((hk9.2 Jr (.inr rfl)).trans HR.out)
        have BW := Lib.hid (BW.out.trans hb)
        clear ht hk9 hb x0 x1 x2 x3
        go_wp2_with fail
        go_roundw
        case rel => exact ⟨k + 1, D, E, Jb, Jr, q + 1, l1, c1', M', R', by omega, by go_num, rfl, rfl, rfl, rfl, T, HJ, HR, HNE, HREL, HONE, HLC, by omega, by omega, BW⟩
        case measure => simp [intOf]; omega
      | 1, _ => as_aux_lemma =>
        obtain ⟨f9, hf9⟩ := HREL.out
        have HOKR := Lib.hid (hf9.okR T.out.ok)
        obtain ⟨h1, h2, h3⟩ := hf9.add T.out.ok s long c HBY.out
        have h4 := add_long T.out.ok s HLC.out.1 HLC.out.2 (r := a.b) HBY.out
        obtain ⟨xM, hM⟩ : ∃ x, x = M.add s long c a.b := ⟨_, rfl⟩
        obtain ⟨xR, hR⟩ : ∃ x, x = R.add s long c a.b := ⟨_, rfl⟩
        have hone := HONE.out.add long c a.b
        have hfw := few_add R s long c a.b
        rw [← hM] at h1 h2 h3 h4 hone
        rw [← hR] at h1 h2 h3 hfw
        obtain ⟨⟨M', l1, c1'⟩, e⟩ := xM
        obtain ⟨⟨R', l2, c2'⟩, e2⟩ := xR
        dsimp only at h1 h2 h3 h4 hone hfw
        cases h1
        cases h2
        have HXM := Lib.hid hM.symm
        have HXR := Lib.hid hR.symm
        have HREL := Lib.hid h3
        have HLC2 := Lib.hid h4
        have HONE := Lib.hid hone
        have hfew2 : R'.rows.length ≤ 64 + 2 * (k + 1) := by omega
        have hfew1 : R.rows.length ≤ 1000000 := by omega
        clear hf9 h3 h4 hM hR hone f9 hfew hfw
        go_wp2_with fail
        refine (T.out.addD (.inl rfl) HNE.out.2.1 HJ.out HS9.out HLC.out.1 HLC.out.2 HTW.out.own.at_ HBY.out HXM.out).mono ?_
        rintro _ wy ⟨rfl, ht, hj, hk8, hb⟩
        have T := Lib.hid ht
        have HR := Lib.hid ((hk8.2 Jr ⟨.inr (.inl rfl), fun e9 => HNE.out.1 e9.symm⟩).trans HR.out)
        have HAX := Lib.hid ((hk8.2 AX ⟨.inr (.inr (.inl rfl)), HNT.out.1⟩).trans HAX.out)
        have HTW := Lib.hid (HTW.out.block fun g hg => hk8.2 g ⟨.inr (.inr (.inr hg)), (HNT.out.2.2 g hg).1⟩)
        have HJ := Lib.hid hj
        have BW := Lib.hid (BW.out.trans hb)
        clear ht hj hk8 hb
        clear x0 x1 x2 x3
        obtain ⟨x0, x1, x2, x3⟩ := jactC HAX.out
        go_wp2_with fail
        refine (T.out.addR HOKR.out hfew1 (.inr (.inl rfl)) HNE.out.2.2 HR.out HS9.out HLC.out.1 HLC.out.2 (HKV.out.later (show Below w.heap.size w _ from by rw [← HC.out]; exact BW.out)) HBY.out HXR.out).mono ?_
        rintro _ wz ⟨rfl, ht, hj, hk8, hb⟩
        have T := Lib.hid ht
        have HJ := Lib.hid ((hk8.2 Jb ⟨.inl rfl, HNE.out.1⟩).trans HJ.out)
        have HAX := Lib.hid ((hk8.2 AX ⟨.inr (.inr (.inl rfl)), HNT.out.2.1⟩).trans HAX.out)
        have HTW := Lib.hid (HTW.out.block fun g hg => hk8.2 g ⟨.inr (.inr (.inr hg)), (HNT.out.2.2 g hg).2⟩)
        have HR := Lib.hid hj
        have BW := Lib.hid (BW.out.trans hb)
        have HLC := HLC2
        clear ht hj hk8 hb HLC2
        clear x0 x1 x2 x3
        obtain ⟨x0, x1, x2, x3⟩ := jactC HAX.out
        have hfewT : R'.rows.length ≤ 1000000 := by omega
        go_wp2_with fail
        refine (LeftB_any _ HTW.out (HKV.out.later (show Below w.heap.size w _ from by rw [← HC.out]; exact BW.out))).mono ?_
        rintro _ y5 ⟨rfl, n5, e5⟩
        have hb9 := show Below _ _ y5 from by rw [e5]; exact below_drewN9 _ _
        have hk9 := T.out.kept hb9
        have hb := hb9.mono T.out.base
        have T := Lib.hid (T.out.later hb9)
        clear hb9 e5
        have HJ := Lib.hid ((hk9.2 Jb (.inl rfl)).trans HJ.out)
        have HR := Lib.hid ((hk9.2 Jr (.inr (.inl rfl))).trans HR.out)
        have HAX := Lib.hid ((hk9.2 AX (.inr (.inr (.inl rfl)))).trans HAX.out)
        have HTW := Lib.hid (HTW.out.block fun g hg => hk9.2 g (.inr (.inr (.inr hg))))
        have BW := Lib.hid (BW.out.trans hb)
        clear hk9 hb
        clear x0 x1 x2 x3
        obtain ⟨x0, x1, x2, x3⟩ := jactC HAX.out
        go_wp2_with fail
        refine (T.out.same HREL.out hfewT).mono ?_
        rintro _ y6 ⟨rfl, hb9⟩
        have hk9 := T.out.kept hb9
        have hb := hb9.mono T.out.base
        have T := Lib.hid (T.out.later hb9)
        clear hb9
        have HJ := Lib.hid ((hk9.2 Jb (.inl rfl)).trans HJ.out)
        have HR := Lib.hid ((hk9.2 Jr (.inr (.inl rfl))).trans HR.out)
        have HAX := Lib.hid ((hk9.2 AX (.inr (.inr (.inl rfl)))).trans HAX.out)
        have HTW := Lib.hid (HTW.out.block fun g hg => hk9.2 g (.inr (.inr (.inr hg))))
        have BW := Lib.hid (BW.out.trans hb)
        clear hk9 hb
        clear x0 x1 x2 x3
        obtain ⟨x0, x1, x2, x3⟩ := jactC HAX.out
        go_wp2_with fail
        refine (T.out.keepB (K' := fun g => g = Jb ∨ g = Jr) (by omega) HTW.out.own (by have := HBL.out; omega) (fun g hg => .inr (.inr (.inr hg))) (fun g hg => by rcases hg with rfl | rfl; exact ⟨.inl rfl, fun e => (HNT.out.2.2 _ e).1 rfl⟩; exact ⟨.inr (.inl rfl), fun e => (HNT.out.2.2 _ e).2 rfl⟩)).mono ?_
        rintro _ y7 ⟨rfl, ht, hk9, hb⟩
        have T := Lib.hid ht
        have HJ := Lib.hid ((hk9.2 Jb (.inl rfl)).trans HJ.out)
        have HR := Lib.hid ((hk9.2 Jr (.inr rfl)).trans HR.out)
        have BW := Lib.hid (BW.out.trans hb)
        clear ht hk9 hb x0 x1 x2 x3
        go_wp2_with fail
        go_roundw
        case rel => exact ⟨k + 1, D, E, Jb, Jr, q + 1, l1, c1', M', R', by omega, by go_num, rfl, rfl, rfl, rfl, T, HJ, HR, HNE, HREL, HONE, HLC, by omega, by omega, BW⟩
        case measure => simp [intOf]; omega
      | 2, _ => as_aux_lemma =>
        obtain ⟨f9, hf9⟩ := HREL.out
        have HOKR := Lib.hid (hf9.okR T.out.ok)
        obtain ⟨h1, h2, h3⟩ := hf9.add T.out.ok s long c HBY.out
        have h4 := add_long T.out.ok s HLC.out.1 HLC.out.2 (r := a.b) HBY.out
        obtain ⟨xM, hM⟩ : ∃ x, x = M.add s long c a.b := ⟨_, rfl⟩
        obtain ⟨xR, hR⟩ : ∃ x, x = R.add s long c a.b := ⟨_, rfl⟩
        have hone := HONE.out.add long c a.b
        have hfw := few_add R s long c a.b
        rw [← hM] at h1 h2 h3 h4 hone
        rw [← hR] at h1 h2 h3 hfw
        obtain ⟨⟨M', l1, c1'⟩, e⟩ := xM
        obtain ⟨⟨R', l2, c2'⟩, e2⟩ := xR
        dsimp only at h1 h2 h3 h4 hone hfw
        cases h1
        cases h2
        have HXM := Lib.hid hM.symm
        have HXR := Lib.hid hR.symm
        have HREL := Lib.hid h3
        have HLC2 := Lib.hid h4
        have HONE := Lib.hid hone
        have hfew2 : R'.rows.length ≤ 64 + 2 * (k + 1) := by omega
        have hfew1 : R.rows.length ≤ 1000000 := by omega
        clear hf9 h3 h4 hM hR hone f9 hfew hfw
        go_wp2_with fail
        refine (T.out.addD (.inl rfl) HNE.out.2.1 HJ.out HS9.out HLC.out.1 HLC.out.2 HTW.out.own.at_ HBY.out HXM.out).mono ?_
        rintro _ wy ⟨rfl, ht, hj, hk8, hb⟩
        have T := Lib.hid ht
        have HR := Lib.hid ((hk8.2 Jr ⟨.inr (.inl rfl), fun e9 => HNE.out.1 e9.symm⟩).trans HR.out)
        have HAX := Lib.hid ((hk8.2 AX ⟨.inr (.inr (.inl rfl)), HNT.out.1⟩).trans HAX.out)
        have HTW := Lib.hid (HTW.out.block fun g hg => hk8.2 g ⟨.inr (.inr (.inr hg)), (HNT.out.2.2 g hg).1⟩)
        have HJ := Lib.hid hj
        have BW := Lib.hid (BW.out.trans hb)
        clear ht hj hk8 hb
        clear x0 x1 x2 x3
        obtain ⟨x0, x1, x2, x3⟩ := jactC HAX.out
        go_wp2_with fail
        refine (T.out.addR HOKR.out hfew1 (.inr (.inl rfl)) HNE.out.2.2 HR.out HS9.out HLC.out.1 HLC.out.2 (HKV.out.later (show Below w.heap.size w _ from by rw [← HC.out]; exact BW.out)) HBY.out HXR.out).mono ?_
        rintro _ wz ⟨rfl, ht, hj, hk8, hb⟩
        have T := Lib.hid ht
        have HJ := Lib.hid ((hk8.2 Jb ⟨.inl rfl, HNE.out.1⟩).trans HJ.out)
        have HAX := Lib.hid ((hk8.2 AX ⟨.inr (.inr (.inl rfl)), HNT.out.2.1⟩).trans HAX.out)
        have HTW := Lib.hid (HTW.out.block fun g hg => hk8.2 g ⟨.inr (.inr (.inr hg)), (HNT.out.2.2 g hg).2⟩)
        have HR := Lib.hid hj
        have BW := Lib.hid (BW.out.trans hb)
        have HLC := HLC2
        clear ht hj hk8 hb HLC2
        clear x0 x1 x2 x3
        obtain ⟨x0, x1, x2, x3⟩ := jactC HAX.out
        have hfewT : R'.rows.length ≤ 1000000 := by omega
        go_wp2_with fail
        refine (LeftB_any _ HTW.out (HKV.out.later (show Below w.heap.size w _ from by rw [← HC.out]; exact BW.out))).mono ?_
        rintro _ y5 ⟨rfl, n5, e5⟩
        have hb9 := show Below _ _ y5 from by rw [e5]; exact below_drewN9 _ _
        have hk9 := T.out.kept hb9
        have hb := hb9.mono T.out.base
        have T := Lib.hid (T.out.later hb9)
        clear hb9 e5
        have HJ := Lib.hid ((hk9.2 Jb (.inl rfl)).trans HJ.out)
        have HR := Lib.hid ((hk9.2 Jr (.inr (.inl rfl))).trans HR.out)
        have HAX := Lib.hid ((hk9.2 AX (.inr (.inr (.inl rfl)))).trans HAX.out)
        have HTW := Lib.hid (HTW.out.block fun g hg => hk9.2 g (.inr (.inr (.inr hg))))
        have BW := Lib.hid (BW.out.trans hb)
        clear hk9 hb
        clear x0 x1 x2 x3
        obtain ⟨x0, x1, x2, x3⟩ := jactC HAX.out
        go_wp2_with fail
        refine (T.out.same HREL.out hfewT).mono ?_
        rintro _ y6 ⟨rfl, hb9⟩
        have hk9 := T.out.kept hb9
        have hb := hb9.mono T.out.base
        have T := Lib.hid (T.out.later hb9)
        clear hb9
        have HJ := Lib.hid ((hk9.2 Jb (.inl rfl)).trans HJ.out)
        have HR := Lib.hid ((hk9.2 Jr (.inr (.inl rfl))).trans HR.out)
        have HAX := Lib.hid ((hk9.2 AX (.inr (.inr (.inl rfl)))).trans HAX.out)
        have HTW := Lib.hid (HTW.out.block fun g hg => hk9.2 g (.inr (.inr (.inr hg))))
        have BW := Lib.hid (BW.out.trans hb)
        clear hk9 hb
        clear x0 x1 x2 x3
        obtain ⟨x0, x1, x2, x3⟩ := jactC HAX.out
        go_wp2_with fail
        refine (T.out.keepB (K' := fun g => g = Jb ∨ g = Jr) (by omega) HTW.out.own (by have := HBL.out; omega) (fun g hg => .inr (.inr (.inr hg))) (fun g hg => by rcases hg with rfl | rfl; exact ⟨.inl rfl, fun e => (HNT.out.2.2 _ e).1 rfl⟩; exact ⟨.inr (.inl rfl), fun e => (HNT.out.2.2 _ e).2 rfl⟩)).mono ?_
        rintro _ y7 ⟨rfl, ht, hk9, hb⟩
        have T := Lib.hid ht
        have HJ := Lib.hid ((hk9.2 Jb (.inl rfl)).trans HJ.out)
        have HR := Lib.hid ((hk9.2 Jr (.inr rfl)).trans HR.out)
        have BW := Lib.hid (BW.out.trans hb)
        clear ht hk9 hb x0 x1 x2 x3
        go_wp2_with fail
        go_roundw
        case rel => exact ⟨k + 1, D, E, Jb, Jr, q + 1, l1, c1', M', R', by omega, by go_num, rfl, rfl, rfl, rfl, T, HJ, HR, HNE, HREL, HONE, HLC, by omega, by omega, BW⟩
        case measure => simp [intOf]; omega
      | 3, _ => as_aux_lemma =>
        obtain ⟨f9, hf9⟩ := HREL.out
        have HOKR := Lib.hid (hf9.okR T.out.ok)
        obtain ⟨h1, h2⟩ := hf9.sync T.out.ok s
        obtain ⟨M', hM⟩ : ∃ M', M' = (M.sync s).1 := ⟨_, rfl⟩
        obtain ⟨R', hR⟩ : ∃ R', R' = (R.sync s).1 := ⟨_, rfl⟩
        obtain ⟨e, he⟩ : ∃ e, e = (M.sync s).2 := ⟨_, rfl⟩
        have HXM := Lib.hid (show M.sync s = (M', e) from Prod.ext hM.symm he.symm)
        have HXR := Lib.hid (show R.sync s = (R', e) from Prod.ext hR.symm (by rw [he]; first | done | exact h1))
        have HREL := Lib.hid (show ∃ f, Rel M' R' f by rw [hM, hR]; exact h2)
        have HONE := Lib.hid (show Only M' s by rw [hM]; exact HONE.out.sync)
        have hfew2 : R'.rows.length ≤ 64 + 2 * (k + 1) := by have h9 := few_sync R s; rw [hR]; exact Nat.le_trans h9 (by omega)
        have hfew1 : R.rows.length ≤ 1000000 := by omega
        clear hf9 h1 h2 hM hR he f9 hfew
        go_wp2_with fail
        refine (T.out.syncD (.inl rfl) HJ.out HS9.out HXM.out).mono ?_
        rintro _ wy ⟨rfl, ht, hk9, hb⟩
        have T := Lib.hid ht
        clear ht
        have HJ := Lib.hid ((hk9.2 Jb (.inl rfl)).trans HJ.out)
        have HR := Lib.hid ((hk9.2 Jr (.inr (.inl rfl))).trans HR.out)
        have HAX := Lib.hid ((hk9.2 AX (.inr (.inr (.inl rfl)))).trans HAX.out)
        have HTW := Lib.hid (HTW.out.block fun g hg => hk9.2 g (.inr (.inr (.inr hg))))
        have BW := Lib.hid (BW.out.trans hb)
        clear hk9 hb
        clear x0 x1 x2 x3
        obtain ⟨x0, x1, x2, x3⟩ := jactC HAX.out
        go_wp2_with fail
        refine (T.out.syncR HOKR.out hfew1 (.inr (.inl rfl)) HR.out HS9.out HXR.out).mono ?_
        rintro _ wz ⟨rfl, ht, hk9, hb⟩
        have T := Lib.hid ht
        clear ht
        have HJ := Lib.hid ((hk9.2 Jb (.inl rfl)).trans HJ.out)
        have HR := Lib.hid ((hk9.2 Jr (.inr (.inl rfl))).trans HR.out)
        have HAX := Lib.hid ((hk9.2 AX (.inr (.inr (.inl rfl)))).trans HAX.out)
        have HTW := Lib.hid (HTW.out.block fun g hg => hk9.2 g (.inr (.inr (.inr hg))))
        have BW := Lib.hid (BW.out.trans hb)
        clear hk9 hb
        clear x0 x1 x2 x3
        obtain ⟨x0, x1, x2, x3⟩ := jactC HAX.out
        have hfewT : R'.rows.length ≤ 1000000 := by omega
        go_wp2_with fail
        refine (LeftB_any _ HTW.out (HKV.out.later (show Below w.heap.size w _ from by rw [← HC.out]; exact BW.out))).mono ?_
        rintro _ y5 ⟨rfl, n5, e5⟩
        have hb9 := show Below _ _ y5 from by rw [e5]; exact below_drewN9 _ _
        have hk9 := T.out.kept hb9
        have hb := hb9.mono T.out.base
        have T := Lib.hid (T.out.later hb9)
        clear hb9 e5
        have HJ := Lib.hid ((hk9.2 Jb (.inl rfl)).trans HJ.out)
        have HR := Lib.hid ((hk9.2 Jr (.inr (.inl rfl))).trans HR.out)
        have HAX := Lib.hid ((hk9.2 AX (.inr (.inr (.inl rfl)))).trans HAX.out)
        have HTW := Lib.hid (HTW.out.block fun g hg => hk9.2 g (.inr (.inr (.inr hg))))
        have BW := Lib.hid (BW.out.trans hb)
        clear hk9 hb
        clear x0 x1 x2 x3
        obtain ⟨x0, x1, x2, x3⟩ := jactC HAX.out
        go_wp2_with fail
        refine (T.out.same HREL.out hfewT).mono ?_
        rintro _ y6 ⟨rfl, hb9⟩
        have hk9 := T.out.kept hb9
        have hb := hb9.mono T.out.base
        have T := Lib.hid (T.out.later hb9)
        clear hb9
        have HJ := Lib.hid ((hk9.2 Jb (.inl rfl)).trans HJ.out)
        have HR := Lib.hid ((hk9.2 Jr (.inr (.inl rfl))).trans HR.out)
        have HAX := Lib.hid ((hk9.2 AX (.inr (.inr (.inl rfl)))).trans HAX.out)
        have HTW := Lib.hid (HTW.out.block fun g hg => hk9.2 g (.inr (.inr (.inr hg))))
        have BW := Lib.hid (BW.out.trans hb)
        clear hk9 hb
        clear x0 x1 x2 x3
        obtain ⟨x0, x1, x2, x3⟩ := jactC HAX.out
        go_wp2_with fail
        refine (T.out.keepB (K' := fun g => g = Jb ∨ g = Jr) (by omega) HTW.out.own (by have := HBL.out; omega) (fun g hg => .inr (.inr (.inr hg))) (fun g hg => by rcases hg with rfl | rfl; exact ⟨.inl rfl, fun e => (HNT.out.2.2 _ e).1 rfl⟩; exact ⟨.inr (.inl rfl), fun e => (HNT.out.2.2 _ e).2 rfl⟩)).mono ?_
        rintro _ y7 ⟨rfl, ht, hk9, hb⟩
        have T := Lib.hid ht
        have HJ := Lib.hid ((hk9.2 Jb (.inl rfl)).trans HJ.out)
        have HR := Lib.hid ((hk9.2 Jr (.inr rfl)).trans HR.out)
        have BW := Lib.hid (BW.out.trans hb)
        clear ht hk9 hb x0 x1 x2 x3
        go_wp2_with fail
        go_roundw
        case rel => exact ⟨k + 1, D, E, Jb, Jr, q + 1, long, c, M', R', by omega, by go_num, rfl, rfl, rfl, rfl, T, HJ, HR, HNE, HREL, HONE, HLC, by omega, by omega, BW⟩
        case measure => simp [intOf]; omega
      | 4, _ => as_aux_lemma =>
        obtain ⟨f9, hf9⟩ := HREL.out
        have HOKR := Lib.hid (hf9.okR T.out.ok)
        obtain ⟨h1, h2⟩ := (show (0 : Nat) = 0 ∧ ∃ g, Rel M.names R.names g from ⟨rfl, _, hf9.names⟩)
        obtain ⟨M', hM⟩ : ∃ M', M' = ((M.names, (0 : Nat))).1 := ⟨_, rfl⟩
        obtain ⟨R', hR⟩ : ∃ R', R' = ((R.names, (0 : Nat))).1 := ⟨_, rfl⟩
        obtain ⟨e, he⟩ : ∃ e, e = ((M.names, (0 : Nat))).2 := ⟨_, rfl⟩
        have HXM := Lib.hid (show (M.names, (0 : Nat)) = (M', e) from Prod.ext hM.symm he.symm)
        have HXR := Lib.hid (show (R.names, (0 : Nat)) = (R', e) from Prod.ext hR.symm (by rw [he]; first | done | exact h1))
        have HREL := Lib.hid (show ∃ f, Rel M' R' f by rw [hM, hR]; exact h2)
        have HONE := Lib.hid (show Only M' s by rw [hM]; exact HONE.out.names)
        have hfew2 : R'.rows.length ≤ 64 + 2 * (k + 1) := by have h9 := (show R.names.rows.length ≤ R.rows.length + 1 from Nat.le_succ _); rw [hR]; exact Nat.le_trans h9 (by omega)
        have hfew1 : R.rows.length ≤ 1000000 := by omega
        clear hf9 h1 h2 hM hR he f9 hfew
        go_wp2_with fail
        refine (T.out.actD (x := (M', e)) (fun S hS => by have h9 := Names_any hS; rewrite [HXM.out] at h9; exact h9)).mono ?_
        rintro _ wy ⟨rfl, ht, hk9, hb⟩
        have T := Lib.hid ht
        clear ht
        have HJ := Lib.hid ((hk9.2 Jb (.inl rfl)).trans HJ.out)
        have HR := Lib.hid ((hk9.2 Jr (.inr (.inl rfl))).trans HR.out)
        have HAX := Lib.hid ((hk9.2 AX (.inr (.inr (.inl rfl)))).trans HAX.out)
        have HTW := Lib.hid (HTW.out.block fun g hg => hk9.2 g (.inr (.inr (.inr hg))))
        have BW := Lib.hid (BW.out.trans hb)
        clear hk9 hb
        clear x0 x1 x2 x3
        obtain ⟨x0, x1, x2, x3⟩ := jactC HAX.out
        go_wp2_with fail
        refine (T.out.actR (x := (R', e)) (fun S hS => by have h9 := RNames_any hS HOKR.out.nl; rewrite [HXR.out] at h9; exact h9)).mono ?_
        rintro _ wz ⟨rfl, ht, hk9, hb⟩
        have T := Lib.hid ht
        clear ht
        have HJ := Lib.hid ((hk9.2 Jb (.inl rfl)).trans HJ.out)
        have HR := Lib.hid ((hk9.2 Jr (.inr (.inl rfl))).trans HR.out)
        have HAX := Lib.hid ((hk9.2 AX (.inr (.inr (.inl rfl)))).trans HAX.out)
        have HTW := Lib.hid (HTW.out.block fun g hg => hk9.2 g (.inr (.inr (.inr hg))))
        have BW := Lib.hid (BW.out.trans hb)
        clear hk9 hb
        clear x0 x1 x2 x3
        obtain ⟨x0, x1, x2, x3⟩ := jactC HAX.out
        have hfewT : R'.rows.length ≤ 1000000 := by omega
        go_wp2_with fail
        refine (LeftB_any _ HTW.out (HKV.out.later (show Below w.heap.size w _ from by rw [← HC.out]; exact BW.out))).mono ?_
        rintro _ y5 ⟨rfl, n5, e5⟩
        have hb9 := show Below _ _ y5 from by rw [e5]; exact below_drewN9 _ _
        have hk9 := T.out.kept hb9
        have hb := hb9.mono T.out.base
        have T := Lib.hid (T.out.later hb9)
        clear hb9 e5
        have HJ := Lib.hid ((hk9.2 Jb (.inl rfl)).trans HJ.out)
        have HR := Lib.hid ((hk9.2 Jr (.inr (.inl rfl))).trans HR.out)
        have HAX := Lib.hid ((hk9.2 AX (.inr (.inr (.inl rfl)))).trans HAX.out)
        have HTW := Lib.hid (HTW.out.block fun g hg => hk9.2 g (.inr (.inr (.inr hg))))
        have BW := Lib.hid (BW.out.trans hb)
        clear hk9 hb
        clear x0 x1 x2 x3
        obtain ⟨x0, x1, x2, x3⟩ := jactC HAX.out
        go_wp2_with fail
        refine (T.out.same HREL.out hfewT).mono ?_
        rintro _ y6 ⟨rfl, hb9⟩
        have hk9 := T.out.kept hb9
        have hb := hb9.mono T.out.base
        have T := Lib.hid (T.out.later hb9)
        clear hb9
        have HJ := Lib.hid ((hk9.2 Jb (.inl rfl)).trans HJ.out)
        have HR := Lib.hid ((hk9.2 Jr (.inr (.inl rfl))).trans HR.out)
        have HAX := Lib.hid ((hk9.2 AX (.inr (.inr (.inl rfl)))).trans HAX.out)
        have HTW := Lib.hid (HTW.out.block fun g hg => hk9.2 g (.inr (.inr (.inr hg))))
        have BW := Lib.hid (BW.out.trans hb)
        clear hk9 hb
        clear x0 x1 x2 x3
        obtain ⟨x0, x1, x2, x3⟩ := jactC HAX.out
        go_wp2_with fail
        refine (T.out.keepB (K' := fun g => g = Jb ∨ g = Jr) (by omega) HTW.out.own (by have := HBL.out; omega) (fun g hg => .inr (.inr (.inr hg))) (fun g hg => by rcases hg with rfl | rfl; exact ⟨.inl rfl, fun e => (HNT.out.2.2 _ e).1 rfl⟩; exact ⟨.inr (.inl rfl), fun e => (HNT.out.2.2 _ e).2 rfl⟩)).mono ?_
        rintro _ y7 ⟨rfl, ht, hk9, hb⟩
        have T := Lib.hid ht
        have HJ := Lib.hid ((hk9.2 Jb (.inl rfl)).trans HJ.out)
        have HR := Lib.hid ((hk9.2 Jr (.inr rfl)).trans HR.out)
        have BW := Lib.hid (BW.out.trans hb)
        clear ht hk9 hb x0 x1 x2 x3
        go_wp2_with fail
        go_roundw
        case rel => exact ⟨k + 1, D, E, Jb, Jr, q + 1, long, c, M', R', by omega, by go_num, rfl, rfl, rfl, rfl, T, HJ, HR, HNE, HREL, HONE, HLC, by omega, by omega, BW⟩
        case measure => simp [intOf]; omega
      | 5, _ => as_aux_lemma =>
        have hfewT : R.rows.length ≤ 1000000 := by omega
        obtain ⟨kp, hkp⟩ : ∃ kp : Nat, kp = a.keep := ⟨_, rfl⟩
        have hkp9 : kp ≤ 9223372036854775807 := by omega
        rw [← hkp] at x2 HAX
        have hkpI : (kp : Int) ≤ 65535 := by omega
        clear hkp
        obtain ⟨f9, hf9⟩ := HREL.out
        have HRELF := Lib.hid (hf9.fail T.out.ok kp a.nm)
        have HONEF := Lib.hid (HONE.out.fail T.out.ok kp a.nm)
        have HOKR := Lib.hid (hf9.okR T.out.ok)
        have hfewF : (R.fail kp a.nm).rows.length ≤ 64 := few_fail HOKR.out kp a.nm
        clear hf9 f9
        go_wp2_with fail
        refine (T.out.failD kp a.nm hkp9).mono ?_
        rintro _ wy ⟨X9, rfl, hd9, hb1⟩
        have HD9 := Lib.hid hd9
        have HB9 := Lib.hid hb1
        have hk9 := T.out.kept hb1
        have T1 := Lib.hid (T.out.later hb1)
        have hb := hb1.mono T.out.base
        clear hd9 hb1
        have HJ := Lib.hid ((hk9.2 Jb (.inl rfl)).trans HJ.out)
        have HR := Lib.hid ((hk9.2 Jr (.inr (.inl rfl))).trans HR.out)
        have HAX := Lib.hid ((hk9.2 AX (.inr (.inr (.inl rfl)))).trans HAX.out)
        have HTW := Lib.hid (HTW.out.block fun g hg => hk9.2 g (.inr (.inr (.inr hg))))
        have BW := Lib.hid (BW.out.trans hb)
        clear hk9 hb
        clear x0 x1 x2 x3
        obtain ⟨x0, x1, x2, x3⟩ := jactC HAX.out
        go_wp2_with fail
        refine (T1.out.failR HOKR.out kp a.nm hkp9 hfewT).mono ?_
        rintro _ wz ⟨rfl, ⟨S', hr9⟩, hb1⟩
        have T2 := Lib.hid (T.out.fresh HD9.out HB9.out hr9 hb1)
        have hk9 := T1.out.kept hb1
        have hb := hb1.mono T1.out.base
        obtain ⟨Y9, hY9⟩ : ∃ Y9, Y9 = wy.heap.size := ⟨_, rfl⟩
        rw [← hY9] at T2 ⊢
        clear hr9 hb1 T1 HD9 HB9 hY9 T
        have HJ := Lib.hid ((hk9.2 Jb (.inl rfl)).trans HJ.out)
        have HR := Lib.hid ((hk9.2 Jr (.inr (.inl rfl))).trans HR.out)
        have HAX := Lib.hid ((hk9.2 AX (.inr (.inr (.inl rfl)))).trans HAX.out)
        have HTW := Lib.hid (HTW.out.block fun g hg => hk9.2 g (.inr (.inr (.inr hg))))
        have BW := Lib.hid (BW.out.trans hb)
        clear hk9 hb
        clear x0 x1 x2 x3
        obtain ⟨x0, x1, x2, x3⟩ := jactC HAX.out
        have T := T2
        have HREL := HRELF
        have HONE := HONEF
        obtain ⟨MF, hMF⟩ : ∃ x, M.fail kp a.nm = x := ⟨_, rfl⟩
        obtain ⟨RF, hRF⟩ : ∃ x, R.fail kp a.nm = x := ⟨_, rfl⟩
        rw [hMF] at HREL HONE T
        rw [hRF] at HREL T hfewF
        have hfewo : RF.rows.length ≤ 999999 := by omega
        clear T2 HRELF HONEF hMF hRF HOKR hfewT
        have HOK := Lib.hid T.out.ok
        obtain ⟨LL, hLL⟩ : ∃ L, recs firstC ((Dm.opened MF s).readE s 0 ((Dm.sizeE MF s).1 : Nat)).1 = L := ⟨_, rfl⟩
        have HLR := Lib.hid (show longR LL ≤ 1048576 ∧ lastR LL < 4294967296 ∧ LL.length * 8 ≤ 1048576 ∧ ∀ r ∈ LL.map Prod.fst, r.length ≤ 4000000 from by
            have okO : (Dm.opened MF s).ok := by
              rcases HONE.out.ways HOK.out HNM.out with ⟨zn, _, h9⟩ | ⟨_, h9⟩
              · rw [h9]; exact HOK.out
              · exact create_ok HOK.out h9
            obtain ⟨hby, hbl⟩ := readE_ok okO s 0 ((Dm.sizeE MF s).1 : Nat)
            have h5 := longR_recs ((Dm.opened MF s).readE s 0 ((Dm.sizeE MF s).1 : Nat)).1
            have h6 := lastR_lt hby
            have h7 := recs_each _ firstC _ (Nat.le_refl _) hby (by decide)
            rw [hLL] at h5 h6 h7
            have h8 := len8_longR LL
            exact ⟨by omega, h6, by omega, fun r hr => by obtain ⟨x, hx, rfl⟩ := List.mem_map.1 hr; have := (h7 x hx).2.1; omega⟩)
        have HLL := Lib.hid hLL
        have HRELO := Lib.hid (show ∃ f, Rel (Dm.opened MF s) (Rf.openedR RF s) f by obtain ⟨f, H⟩ := HREL.out; exact H.opened HOK.out s)
        obtain ⟨M', hM⟩ : ∃ M', Dm.opened MF s = M' := ⟨_, rfl⟩
        obtain ⟨R', hR⟩ : ∃ R', Rf.openedR RF s = R' := ⟨_, rfl⟩
        have HONEO := Lib.hid (show Only M' s by rw [← hM]; exact HONE.out.opened)
        have hfew2 : R'.rows.length ≤ RF.rows.length + 1 := by rw [← hR]; exact few_opened _ s
        rw [hM, hR] at HRELO
        have HEM := Lib.hid hM
        have HER := Lib.hid hR
        obtain ⟨m9, hm9⟩ : ∃ x, x = LL.length := ⟨_, rfl⟩
        have HM9 := Lib.hid hm9
        have hm99 : m9 * 8 ≤ 1048576 := by rw [hm9]; exact HLR.out.2.2.1
        have hm9I : (m9 : Int) ≤ 1048576 := by omega
        clear hLL hM hR hm9
        go_wp2_with fail
        refine (T.out.openD HNM.out HS9.out HONE.out HLL.out).mono ?_
        rintro _ v1 ⟨Jb2, pa, pc, px, G, rfl, hj, _, ht, hk9, hb, hJ1, hJ2, hh⟩
        rw [HEM.out] at ht
        have hCw := T.out.base
        have T := Lib.hid ht
        have HHD := Lib.hid hh
        rw [← HM9.out] at HHD ⊢
        have HPLT := Lib.hid hh.lt
        rw [← HM9.out] at HPLT
        have HJ2 := Lib.hid hj
        have HJG := Lib.hid (And.intro hJ1 hJ2)
        have hjl := lt_of_heap hj
        have HCG := Lib.hid (show C ≤ Jb2 ∧ C ≤ G from ⟨by omega, by omega⟩)
        have HNT2 := Lib.hid (show AX < Jb2 ∧ ∀ g, (Value.slice ta a.b.length tc).ownBlock = some g → g < Jb2 from by
            have h1 := lt_of_heap HAX.out
            exact ⟨by omega, fun g hg => by have := (OwnV.lt HTW.out.own g hg).2; omega⟩)
        clear ht hh hj hJ1 hJ2
        have HJ := Lib.hid ((hk9.2 Jb (.inl rfl)).trans HJ.out)
        have HR := Lib.hid ((hk9.2 Jr (.inr (.inl rfl))).trans HR.out)
        have HAX := Lib.hid ((hk9.2 AX (.inr (.inr (.inl rfl)))).trans HAX.out)
        have HTW := Lib.hid (HTW.out.block fun g hg => hk9.2 g (.inr (.inr (.inr hg))))
        have BW := Lib.hid (BW.out.trans hb)
        clear hk9 hb
        clear x0 x1 x2 x3
        obtain ⟨x0, x1, x2, x3⟩ := jactC HAX.out
        go_wp2_with fail
        refine (T.out.openR HREL.out HOK.out hfewo HNM.out HS9.out HONE.out HLL.out).mono ?_
        rintro _ v2 ⟨Jr2, pu, rfl, hr, hpu, ht, hk8, hb, hJr⟩
        rw [HER.out] at ht
        have T := Lib.hid ht
        have HJ := Lib.hid ((hk8.2 Jb2 (.inr (.inl rfl))).trans HJ2.out)
        have HAX := Lib.hid ((hk8.2 AX (.inl (.inr (.inr (.inl rfl))))).trans HAX.out)
        have HTW := Lib.hid (HTW.out.block fun g hg => hk8.2 g (.inl (.inr (.inr (.inr hg)))))
        have HHD := Lib.hid (HHD.out.kept fun g h1 h2 => hk8.2 g (.inr (.inr ⟨h1, h2⟩)))
        have HR := Lib.hid hr
        have HPU := Lib.hid hpu
        have HNJ := Lib.hid (show Jb2 < Jr2 ∧ ∀ g, ((Value.slice pa m9 pc).ownBlock = some g ∨ ∃ u ∈ px, u.ownBlock = some g) → g ≠ Jr2 from ⟨by omega, fun g hg => by have := (HPLT.out g hg).2; omega⟩)
        have BW := Lib.hid (BW.out.trans hb)
        clear ht hk8 hb hr hJr hjl HJ2
        obtain ⟨ua, uc, epu, _⟩ := hpu
        rw [List.length_map, ← HM9.out] at epu
        subst epu
        clear x0 x1 x2 x3
        obtain ⟨x0, x1, x2, x3⟩ := jactC HAX.out
        have HSR := Lib.hid (fun (W : World) (hW : Below v2.heap.size v2 W) => SameRecs_any W (HHD.out.parts.later hW) (HPU.out.later hW))
        simp only [decide_true] at HSR
        go_wp2_with fail
        refine (HSR.out _ (Below.refl _ _)).mono ?_
        rintro _ v3 ⟨rfl, n3, e3⟩
        have hb9 : Below v2.heap.size v2 v3 := by rw [e3]; exact below_drewN9 _ _
        have hk8 := T.out.kept hb9
        have hb := hb9.mono T.out.base
        have T := Lib.hid (T.out.later hb9)
        have HHD := Lib.hid (HHD.out.kept fun g _ h2 => hb9.block g h2)
        have HJ := Lib.hid (heap_on hb9 HJ.out)
        have HR := Lib.hid (heap_on hb9 HR.out)
        have HAX := Lib.hid (heap_on hb9 HAX.out)
        have HTW := Lib.hid (HTW.out.block fun g hg => hk8.2 g (.inl (.inl (.inr (.inr (.inr hg))))))
        have BW := Lib.hid (BW.out.trans hb)
        clear hb9 e3 hk8 hb HSR HPU
        clear x0 x1 x2 x3
        obtain ⟨x0, x1, x2, x3⟩ := jactC HAX.out
        go_wp2_with fail
        refine (T.out.keepR (K' := fun g => g = Jb2 ∨ g = Jr2 ∨ g = AX ∨ (Value.slice ta a.b.length tc).ownBlock = some g) (m := m9) (by rw [List.length_map]; exact HM9.out.symm) (by omega) (by omega) HCG.out.2 HHD.out HLR.out.2.2.2 (fun g hg => .inl (.inr (.inr (HPLT.out g hg)))) (fun g hg => ?_)).mono ?_
        · have hno : (∀ g, ((Value.slice pa m9 pc).ownBlock = some g ∨ ∃ u ∈ px, u.ownBlock = some g) → G ≤ g ∧ g ≠ Jr2) := fun g hg => ⟨(HPLT.out g hg).1, HNJ.out.2 g hg⟩
          have h9 : (fun g => (g = Jb ∨ g = Jr ∨ g = AX ∨ (Value.slice ta a.b.length tc).ownBlock = some g) ∨ g = Jb2 ∨ (G ≤ g ∧ g < v1.heap.size)) g ∨ g = Jr2 := by
            rcases hg with hg | hg | hg | hg
            · exact .inl (.inr (.inl hg))
            · exact .inr hg
            · exact .inl (.inl (.inr (.inr (.inl hg))))
            · exact .inl (.inl (.inr (.inr (.inr hg))))
          have h8 : g < G ∨ g = Jr2 := by
            rcases hg with hg | hg | hg | hg
            · exact .inl (by rw [hg]; exact HJG.out.2)
            · exact .inr hg
            · exact .inl (by have := HNT2.out.1; have := HJG.out.2; omega)
            · exact .inl (by have := HNT2.out.2 g hg; have := HJG.out.2; omega)
          exact ⟨h9, fun e => by have := hno g (.inl e); omega, fun u hu e => by have := hno g (.inr ⟨u, hu, e⟩); omega⟩
        rintro _ v4 ⟨rfl, ht, hk9, hb⟩
        have T := Lib.hid ht
        have HNT := Lib.hid (show AX ≠ Jb2 ∧ AX ≠ Jr2 ∧ (∀ g, (Value.slice ta a.b.length tc).ownBlock = some g → g ≠ Jb2 ∧ g ≠ Jr2) from ⟨by have := HNT2.out.1; omega, by have := HNT2.out.1; have := HNJ.out.1; omega, fun g hg => by have := HNT2.out.2 g hg; have := HNJ.out.1; exact ⟨by omega, by omega⟩⟩)
        have HNE := Lib.hid (show Jb2 ≠ Jr2 ∧ C ≤ Jb2 ∧ C ≤ Jr2 from ⟨by have := HNJ.out.1; omega, HCG.out.1, by have := HNJ.out.1; have := HCG.out.1; omega⟩)
        have HREL := HRELO
        have HONE := HONEO
        have HLC := Lib.hid (show longR LL ≤ 1048576 ∧ lastR LL < 4294967296 from ⟨HLR.out.1, HLR.out.2.1⟩)
        clear ht HRELO HONEO HNT2 HNJ HJG HHD HPLT
        have HJ := Lib.hid ((hk9.2 Jb2 (.inl rfl)).trans HJ.out)
        have HR := Lib.hid ((hk9.2 Jr2 (.inr (.inl rfl))).trans HR.out)
        have HAX := Lib.hid ((hk9.2 AX (.inr (.inr (.inl rfl)))).trans HAX.out)
        have HTW := Lib.hid (HTW.out.block fun g hg => hk9.2 g (.inr (.inr (.inr hg))))
        have BW := Lib.hid (BW.out.trans hb)
        clear hk9 hb
        clear x0 x1 x2 x3
        obtain ⟨x0, x1, x2, x3⟩ := jactC HAX.out
        have hfewT : R'.rows.length ≤ 1000000 := by omega
        go_wp2_with fail
        refine (LeftB_any _ HTW.out (HKV.out.later (show Below w.heap.size w _ from by rw [← HC.out]; exact BW.out))).mono ?_
        rintro _ y5 ⟨rfl, n5, e5⟩
        have hb9 := show Below _ _ y5 from by rw [e5]; exact below_drewN9 _ _
        have hk9 := T.out.kept hb9
        have hb := hb9.mono T.out.base
        have T := Lib.hid (T.out.later hb9)
        clear hb9 e5
        have HJ := Lib.hid ((hk9.2 Jb2 (.inl rfl)).trans HJ.out)
        have HR := Lib.hid ((hk9.2 Jr2 (.inr (.inl rfl))).trans HR.out)
        have HAX := Lib.hid ((hk9.2 AX (.inr (.inr (.inl rfl)))).trans HAX.out)
        have HTW := Lib.hid (HTW.out.block fun g hg => hk9.2 g (.inr (.inr (.inr hg))))
        have BW := Lib.hid (BW.out.trans hb)
        clear hk9 hb
        clear x0 x1 x2 x3
        obtain ⟨x0, x1, x2, x3⟩ := jactC HAX.out
        go_wp2_with fail
        refine (T.out.same HREL.out hfewT).mono ?_
        rintro _ y6 ⟨rfl, hb9⟩
        have hk9 := T.out.kept hb9
        have hb := hb9.mono T.out.base
        have T := Lib.hid (T.out.later hb9)
        clear hb9
        have HJ := Lib.hid ((hk9.2 Jb2 (.inl rfl)).trans HJ.out)
        have HR := Lib.hid ((hk9.2 Jr2 (.inr (.inl rfl))).trans HR.out)
        have HAX := Lib.hid ((hk9.2 AX (.inr (.inr (.inl rfl)))).trans HAX.out)
        have HTW := Lib.hid (HTW.out.block fun g hg => hk9.2 g (.inr (.inr (.inr hg))))
        have BW := Lib.hid (BW.out.trans hb)
        clear hk9 hb
        clear x0 x1 x2 x3
        obtain ⟨x0, x1, x2, x3⟩ := jactC HAX.out
        go_wp2_with fail
        refine (T.out.keepB (K' := fun g => g = Jb2 ∨ g = Jr2) (by omega) HTW.out.own (by have := HBL.out; omega) (fun g hg => .inr (.inr (.inr hg))) (fun g hg => by rcases hg with rfl | rfl; exact ⟨.inl rfl, fun e => (HNT.out.2.2 _ e).1 rfl⟩; exact ⟨.inr (.inl rfl), fun e => (HNT.out.2.2 _ e).2 rfl⟩)).mono ?_
        rintro _ y7 ⟨rfl, ht, hk9, hb⟩
        have T := Lib.hid ht
        have HJ := Lib.hid ((hk9.2 Jb2 (.inl rfl)).trans HJ.out)
        have HR := Lib.hid ((hk9.2 Jr2 (.inr rfl)).trans HR.out)
        have BW := Lib.hid (BW.out.trans hb)
        clear ht hk9 hb x0 x1 x2 x3
        go_wp2_with fail
        go_roundw
        case rel => exact ⟨k + 1, X9, Y9, Jb2, Jr2, (q + m9 + 1) + 1, (longR LL), (lastR LL), M', R', by omega, by go_num, rfl, rfl, rfl, rfl, T, HJ, HR, HNE, HREL, HONE, HLC, by omega, by omega, BW⟩
        case measure => simp [intOf]; omega
      | 6, _ => as_aux_lemma =>
        have hfewo : R.rows.length ≤ 999999 := by omega
        have HOK := Lib.hid T.out.ok
        obtain ⟨LL, hLL⟩ : ∃ L, recs firstC ((Dm.opened M s).readE s 0 ((Dm.sizeE M s).1 : Nat)).1 = L := ⟨_, rfl⟩
        have HLR := Lib.hid (show longR LL ≤ 1048576 ∧ lastR LL < 4294967296 ∧ LL.length * 8 ≤ 1048576 ∧ ∀ r ∈ LL.map Prod.fst, r.length ≤ 4000000 from by
            have okO : (Dm.opened M s).ok := by
              rcases HONE.out.ways HOK.out HNM.out with ⟨zn, _, h9⟩ | ⟨_, h9⟩
              · rw [h9]; exact HOK.out
              · exact create_ok HOK.out h9
            obtain ⟨hby, hbl⟩ := readE_ok okO s 0 ((Dm.sizeE M s).1 : Nat)
            have h5 := longR_recs ((Dm.opened M s).readE s 0 ((Dm.sizeE M s).1 : Nat)).1
            have h6 := lastR_lt hby
            have h7 := recs_each _ firstC _ (Nat.le_refl _) hby (by decide)
            rw [hLL] at h5 h6 h7
            have h8 := len8_longR LL
            exact ⟨by omega, h6, by omega, fun r hr => by obtain ⟨x, hx, rfl⟩ := List.mem_map.1 hr; have := (h7 x hx).2.1; omega⟩)
        have HLL := Lib.hid hLL
        have HRELO := Lib.hid (show ∃ f, Rel (Dm.opened M s) (Rf.openedR R s) f by obtain ⟨f, H⟩ := HREL.out; exact H.opened HOK.out s)
        obtain ⟨M', hM⟩ : ∃ M', Dm.opened M s = M' := ⟨_, rfl⟩
        obtain ⟨R', hR⟩ : ∃ R', Rf.openedR R s = R' := ⟨_, rfl⟩
        have HONEO := Lib.hid (show Only M' s by rw [← hM]; exact HONE.out.opened)
        have hfew2 : R'.rows.length ≤ R.rows.length + 1 := by rw [← hR]; exact few_opened _ s
        rw [hM, hR] at HRELO
        have HEM := Lib.hid hM
        have HER := Lib.hid hR
        obtain ⟨m9, hm9⟩ : ∃ x, x = LL.length := ⟨_, rfl⟩
        have HM9 := Lib.hid hm9
        have hm99 : m9 * 8 ≤ 1048576 := by rw [hm9]; exact HLR.out.2.2.1
        have hm9I : (m9 : Int) ≤ 1048576 := by omega
        clear hLL hM hR hm9
        go_wp2_with fail
        refine (T.out.openD HNM.out HS9.out HONE.out HLL.out).mono ?_
        rintro _ v1 ⟨Jb2, pa, pc, px, G, rfl, hj, _, ht, hk9, hb, hJ1, hJ2, hh⟩
        rw [HEM.out] at ht
        have hCw := T.out.base
        have T := Lib.hid ht
        have HHD := Lib.hid hh
        rw [← HM9.out] at HHD ⊢
        have HPLT := Lib.hid hh.lt
        rw [← HM9.out] at HPLT
        have HJ2 := Lib.hid hj
        have HJG := Lib.hid (And.intro hJ1 hJ2)
        have hjl := lt_of_heap hj
        have HCG := Lib.hid (show C ≤ Jb2 ∧ C ≤ G from ⟨by omega, by omega⟩)
        have HNT2 := Lib.hid (show AX < Jb2 ∧ ∀ g, (Value.slice ta a.b.length tc).ownBlock = some g → g < Jb2 from by
            have h1 := lt_of_heap HAX.out
            exact ⟨by omega, fun g hg => by have := (OwnV.lt HTW.out.own g hg).2; omega⟩)
        clear ht hh hj hJ1 hJ2
        have HJ := Lib.hid ((hk9.2 Jb (.inl rfl)).trans HJ.out)
        have HR := Lib.hid ((hk9.2 Jr (.inr (.inl rfl))).trans HR.out)
        have HAX := Lib.hid ((hk9.2 AX (.inr (.inr (.inl rfl)))).trans HAX.out)
        have HTW := Lib.hid (HTW.out.block fun g hg => hk9.2 g (.inr (.inr (.inr hg))))
        have BW := Lib.hid (BW.out.trans hb)
        clear hk9 hb
        clear x0 x1 x2 x3
        obtain ⟨x0, x1, x2, x3⟩ := jactC HAX.out
        go_wp2_with fail
        refine (T.out.openR HREL.out HOK.out hfewo HNM.out HS9.out HONE.out HLL.out).mono ?_
        rintro _ v2 ⟨Jr2, pu, rfl, hr, hpu, ht, hk8, hb, hJr⟩
        rw [HER.out] at ht
        have T := Lib.hid ht
        have HJ := Lib.hid ((hk8.2 Jb2 (.inr (.inl rfl))).trans HJ2.out)
        have HAX := Lib.hid ((hk8.2 AX (.inl (.inr (.inr (.inl rfl))))).trans HAX.out)
        have HTW := Lib.hid (HTW.out.block fun g hg => hk8.2 g (.inl (.inr (.inr (.inr hg)))))
        have HHD := Lib.hid (HHD.out.kept fun g h1 h2 => hk8.2 g (.inr (.inr ⟨h1, h2⟩)))
        have HR := Lib.hid hr
        have HPU := Lib.hid hpu
        have HNJ := Lib.hid (show Jb2 < Jr2 ∧ ∀ g, ((Value.slice pa m9 pc).ownBlock = some g ∨ ∃ u ∈ px, u.ownBlock = some g) → g ≠ Jr2 from ⟨by omega, fun g hg => by have := (HPLT.out g hg).2; omega⟩)
        have BW := Lib.hid (BW.out.trans hb)
        clear ht hk8 hb hr hJr hjl HJ2
        obtain ⟨ua, uc, epu, _⟩ := hpu
        rw [List.length_map, ← HM9.out] at epu
        subst epu
        clear x0 x1 x2 x3
        obtain ⟨x0, x1, x2, x3⟩ := jactC HAX.out
        have HSR := Lib.hid (fun (W : World) (hW : Below v2.heap.size v2 W) => SameRecs_any W (HHD.out.parts.later hW) (HPU.out.later hW))
        simp only [decide_true] at HSR
        go_wp2_with fail
        refine (HSR.out _ (Below.refl _ _)).mono ?_
        rintro _ v3 ⟨rfl, n3, e3⟩
        have hb9 : Below v2.heap.size v2 v3 := by rw [e3]; exact below_drewN9 _ _
        have hk8 := T.out.kept hb9
        have hb := hb9.mono T.out.base
        have T := Lib.hid (T.out.later hb9)
        have HHD := Lib.hid (HHD.out.kept fun g _ h2 => hb9.block g h2)
        have HJ := Lib.hid (heap_on hb9 HJ.out)
        have HR := Lib.hid (heap_on hb9 HR.out)
        have HAX := Lib.hid (heap_on hb9 HAX.out)
        have HTW := Lib.hid (HTW.out.block fun g hg => hk8.2 g (.inl (.inl (.inr (.inr (.inr hg))))))
        have BW := Lib.hid (BW.out.trans hb)
        clear hb9 e3 hk8 hb HSR HPU
        clear x0 x1 x2 x3
        obtain ⟨x0, x1, x2, x3⟩ := jactC HAX.out
        go_wp2_with fail
        refine (T.out.keepR (K' := fun g => g = Jb2 ∨ g = Jr2 ∨ g = AX ∨ (Value.slice ta a.b.length tc).ownBlock = some g) (m := m9) (by rw [List.length_map]; exact HM9.out.symm) (by omega) (by omega) HCG.out.2 HHD.out HLR.out.2.2.2 (fun g hg => .inl (.inr (.inr (HPLT.out g hg)))) (fun g hg => ?_)).mono ?_
        · have hno : (∀ g, ((Value.slice pa m9 pc).ownBlock = some g ∨ ∃ u ∈ px, u.ownBlock = some g) → G ≤ g ∧ g ≠ Jr2) := fun g hg => ⟨(HPLT.out g hg).1, HNJ.out.2 g hg⟩
          have h9 : (fun g => (g = Jb ∨ g = Jr ∨ g = AX ∨ (Value.slice ta a.b.length tc).ownBlock = some g) ∨ g = Jb2 ∨ (G ≤ g ∧ g < v1.heap.size)) g ∨ g = Jr2 := by
            rcases hg with hg | hg | hg | hg
            · exact .inl (.inr (.inl hg))
            · exact .inr hg
            · exact .inl (.inl (.inr (.inr (.inl hg))))
            · exact .inl (.inl (.inr (.inr (.inr hg))))
          have h8 : g < G ∨ g = Jr2 := by
            rcases hg with hg | hg | hg | hg
            · exact .inl (by rw [hg]; exact HJG.out.2)
            · exact .inr hg
            · exact .inl (by have := HNT2.out.1; have := HJG.out.2; omega)
            · exact .inl (by have := HNT2.out.2 g hg; have := HJG.out.2; omega)
          exact ⟨h9, fun e => by have := hno g (.inl e); omega, fun u hu e => by have := hno g (.inr ⟨u, hu, e⟩); omega⟩
        rintro _ v4 ⟨rfl, ht, hk9, hb⟩
        have T := Lib.hid ht
        have HNT := Lib.hid (show AX ≠ Jb2 ∧ AX ≠ Jr2 ∧ (∀ g, (Value.slice ta a.b.length tc).ownBlock = some g → g ≠ Jb2 ∧ g ≠ Jr2) from ⟨by have := HNT2.out.1; omega, by have := HNT2.out.1; have := HNJ.out.1; omega, fun g hg => by have := HNT2.out.2 g hg; have := HNJ.out.1; exact ⟨by omega, by omega⟩⟩)
        have HNE := Lib.hid (show Jb2 ≠ Jr2 ∧ C ≤ Jb2 ∧ C ≤ Jr2 from ⟨by have := HNJ.out.1; omega, HCG.out.1, by have := HNJ.out.1; have := HCG.out.1; omega⟩)
        have HREL := HRELO
        have HONE := HONEO
        have HLC := Lib.hid (show longR LL ≤ 1048576 ∧ lastR LL < 4294967296 from ⟨HLR.out.1, HLR.out.2.1⟩)
        clear ht HRELO HONEO HNT2 HNJ HJG HHD HPLT
        have HJ := Lib.hid ((hk9.2 Jb2 (.inl rfl)).trans HJ.out)
        have HR := Lib.hid ((hk9.2 Jr2 (.inr (.inl rfl))).trans HR.out)
        have HAX := Lib.hid ((hk9.2 AX (.inr (.inr (.inl rfl)))).trans HAX.out)
        have HTW := Lib.hid (HTW.out.block fun g hg => hk9.2 g (.inr (.inr (.inr hg))))
        have BW := Lib.hid (BW.out.trans hb)
        clear hk9 hb
        clear x0 x1 x2 x3
        obtain ⟨x0, x1, x2, x3⟩ := jactC HAX.out
        have hfewT : R'.rows.length ≤ 1000000 := by omega
        go_wp2_with fail
        refine (LeftB_any _ HTW.out (HKV.out.later (show Below w.heap.size w _ from by rw [← HC.out]; exact BW.out))).mono ?_
        rintro _ y5 ⟨rfl, n5, e5⟩
        have hb9 := show Below _ _ y5 from by rw [e5]; exact below_drewN9 _ _
        have hk9 := T.out.kept hb9
        have hb := hb9.mono T.out.base
        have T := Lib.hid (T.out.later hb9)
        clear hb9 e5
        have HJ := Lib.hid ((hk9.2 Jb2 (.inl rfl)).trans HJ.out)
        have HR := Lib.hid ((hk9.2 Jr2 (.inr (.inl rfl))).trans HR.out)
        have HAX := Lib.hid ((hk9.2 AX (.inr (.inr (.inl rfl)))).trans HAX.out)
        have HTW := Lib.hid (HTW.out.block fun g hg => hk9.2 g (.inr (.inr (.inr hg))))
        have BW := Lib.hid (BW.out.trans hb)
        clear hk9 hb
        clear x0 x1 x2 x3
        obtain ⟨x0, x1, x2, x3⟩ := jactC HAX.out
        go_wp2_with fail
        refine (T.out.same HREL.out hfewT).mono ?_
        rintro _ y6 ⟨rfl, hb9⟩
        have hk9 := T.out.kept hb9
        have hb := hb9.mono T.out.base
        have T := Lib.hid (T.out.later hb9)
        clear hb9
        have HJ := Lib.hid ((hk9.2 Jb2 (.inl rfl)).trans HJ.out)
        have HR := Lib.hid ((hk9.2 Jr2 (.inr (.inl rfl))).trans HR.out)
        have HAX := Lib.hid ((hk9.2 AX (.inr (.inr (.inl rfl)))).trans HAX.out)
        have HTW := Lib.hid (HTW.out.block fun g hg => hk9.2 g (.inr (.inr (.inr hg))))
        have BW := Lib.hid (BW.out.trans hb)
        clear hk9 hb
        clear x0 x1 x2 x3
        obtain ⟨x0, x1, x2, x3⟩ := jactC HAX.out
        go_wp2_with fail
        refine (T.out.keepB (K' := fun g => g = Jb2 ∨ g = Jr2) (by omega) HTW.out.own (by have := HBL.out; omega) (fun g hg => .inr (.inr (.inr hg))) (fun g hg => by rcases hg with rfl | rfl; exact ⟨.inl rfl, fun e => (HNT.out.2.2 _ e).1 rfl⟩; exact ⟨.inr (.inl rfl), fun e => (HNT.out.2.2 _ e).2 rfl⟩)).mono ?_
        rintro _ y7 ⟨rfl, ht, hk9, hb⟩
        have T := Lib.hid ht
        have HJ := Lib.hid ((hk9.2 Jb2 (.inl rfl)).trans HJ.out)
        have HR := Lib.hid ((hk9.2 Jr2 (.inr rfl)).trans HR.out)
        have BW := Lib.hid (BW.out.trans hb)
        clear ht hk9 hb x0 x1 x2 x3
        go_wp2_with fail
        go_roundw
        case rel => exact ⟨k + 1, D, E, Jb2, Jr2, (q + m9 + 1) + 1, (longR LL), (lastR LL), M', R', by omega, by go_num, rfl, rfl, rfl, rfl, T, HJ, HR, HNE, HREL, HONE, HLC, by omega, by omega, BW⟩
        case measure => simp [intOf]; omega
      | 7, _ => as_aux_lemma =>
        obtain ⟨f9, hf9⟩ := HREL.out
        have HOKR := Lib.hid (hf9.okR T.out.ok)
        obtain ⟨h1, h2⟩ := (show (R.append s (bstr a.b)).2 = (M.append s a.b).2 ∧ ∃ g, Rel (M.append s a.b).1 (R.append s (bstr a.b)).1 g by have h9 := hf9.append T.out.ok s (bstr a.b); rw [bstr_num HBY.out] at h9; exact h9)
        obtain ⟨M', hM⟩ : ∃ M', M' = (M.append s a.b).1 := ⟨_, rfl⟩
        obtain ⟨R', hR⟩ : ∃ R', R' = (R.append s (bstr a.b)).1 := ⟨_, rfl⟩
        obtain ⟨e, he⟩ : ∃ e, e = (M.append s a.b).2 := ⟨_, rfl⟩
        have HXM := Lib.hid (show M.append s a.b = (M', e) from Prod.ext hM.symm he.symm)
        have HXR := Lib.hid (show R.append s (bstr a.b) = (R', e) from Prod.ext hR.symm (by rw [he]; first | done | exact h1))
        have HREL := Lib.hid (show ∃ f, Rel M' R' f by rw [hM, hR]; exact h2)
        have HONE := Lib.hid (show Only M' s by rw [hM]; exact HONE.out.append a.b)
        have hfew2 : R'.rows.length ≤ 64 + 2 * (k + 1) := by have h9 := few_append R s (bstr a.b); rw [hR]; exact Nat.le_trans h9 (by omega)
        have hfew1 : R.rows.length ≤ 1000000 := by omega
        clear hf9 h1 h2 hM hR he f9 hfew
        go_wp2_with fail
        refine (T.out.actD (x := (M', e)) (fun S hS => by have h9 := Append_any hS s HS9.out HTW.out.own.at_ HBY.out; rewrite [HXM.out] at h9; exact h9)).mono ?_
        rintro _ wy ⟨rfl, ht, hk9, hb⟩
        have T := Lib.hid ht
        clear ht
        have HJ := Lib.hid ((hk9.2 Jb (.inl rfl)).trans HJ.out)
        have HR := Lib.hid ((hk9.2 Jr (.inr (.inl rfl))).trans HR.out)
        have HAX := Lib.hid ((hk9.2 AX (.inr (.inr (.inl rfl)))).trans HAX.out)
        have HTW := Lib.hid (HTW.out.block fun g hg => hk9.2 g (.inr (.inr (.inr hg))))
        have BW := Lib.hid (BW.out.trans hb)
        clear hk9 hb
        clear x0 x1 x2 x3
        obtain ⟨x0, x1, x2, x3⟩ := jactC HAX.out
        go_wp2_with fail
        refine (T.out.actR (x := (R', e)) (fun S hS => by have h9 := RAppend_any hS HOKR.out s HS9.out hfew1 (HKV.out.later (show Below w.heap.size w _ from by rw [← HC.out]; exact BW.out)) (by have := HBL.out; omega) HBY.out; rewrite [HXR.out] at h9; exact h9)).mono ?_
        rintro _ wz ⟨rfl, ht, hk9, hb⟩
        have T := Lib.hid ht
        clear ht
        have HJ := Lib.hid ((hk9.2 Jb (.inl rfl)).trans HJ.out)
        have HR := Lib.hid ((hk9.2 Jr (.inr (.inl rfl))).trans HR.out)
        have HAX := Lib.hid ((hk9.2 AX (.inr (.inr (.inl rfl)))).trans HAX.out)
        have HTW := Lib.hid (HTW.out.block fun g hg => hk9.2 g (.inr (.inr (.inr hg))))
        have BW := Lib.hid (BW.out.trans hb)
        clear hk9 hb
        clear x0 x1 x2 x3
        obtain ⟨x0, x1, x2, x3⟩ := jactC HAX.out
        have hfewT : R'.rows.length ≤ 1000000 := by omega
        go_wp2_with fail
        refine (LeftB_any _ HTW.out (HKV.out.later (show Below w.heap.size w _ from by rw [← HC.out]; exact BW.out))).mono ?_
        rintro _ y5 ⟨rfl, n5, e5⟩
        have hb9 := show Below _ _ y5 from by rw [e5]; exact below_drewN9 _ _
        have hk9 := T.out.kept hb9
        have hb := hb9.mono T.out.base
        have T := Lib.hid (T.out.later hb9)
        clear hb9 e5
        have HJ := Lib.hid ((hk9.2 Jb (.inl rfl)).trans HJ.out)
        have HR := Lib.hid ((hk9.2 Jr (.inr (.inl rfl))).trans HR.out)
        have HAX := Lib.hid ((hk9.2 AX (.inr (.inr (.inl rfl)))).trans HAX.out)
        have HTW := Lib.hid (HTW.out.block fun g hg => hk9.2 g (.inr (.inr (.inr hg))))
        have BW := Lib.hid (BW.out.trans hb)
        clear hk9 hb
        clear x0 x1 x2 x3
        obtain ⟨x0, x1, x2, x3⟩ := jactC HAX.out
        go_wp2_with fail
        refine (T.out.same HREL.out hfewT).mono ?_
        rintro _ y6 ⟨rfl, hb9⟩
        have hk9 := T.out.kept hb9
        have hb := hb9.mono T.out.base
        have T := Lib.hid (T.out.later hb9)
        clear hb9
        have HJ := Lib.hid ((hk9.2 Jb (.inl rfl)).trans HJ.out)
        have HR := Lib.hid ((hk9.2 Jr (.inr (.inl rfl))).trans HR.out)
        have HAX := Lib.hid ((hk9.2 AX (.inr (.inr (.inl rfl)))).trans HAX.out)
        have HTW := Lib.hid (HTW.out.block fun g hg => hk9.2 g (.inr (.inr (.inr hg))))
        have BW := Lib.hid (BW.out.trans hb)
        clear hk9 hb
        clear x0 x1 x2 x3
        obtain ⟨x0, x1, x2, x3⟩ := jactC HAX.out
        go_wp2_with fail
        refine (T.out.keepB (K' := fun g => g = Jb ∨ g = Jr) (by omega) HTW.out.own (by have := HBL.out; omega) (fun g hg => .inr (.inr (.inr hg))) (fun g hg => by rcases hg with rfl | rfl; exact ⟨.inl rfl, fun e => (HNT.out.2.2 _ e).1 rfl⟩; exact ⟨.inr (.inl rfl), fun e => (HNT.out.2.2 _ e).2 rfl⟩)).mono ?_
        rintro _ y7 ⟨rfl, ht, hk9, hb⟩
        have T := Lib.hid ht
        have HJ := Lib.hid ((hk9.2 Jb (.inl rfl)).trans HJ.out)
        have HR := Lib.hid ((hk9.2 Jr (.inr rfl)).trans HR.out)
        have BW := Lib.hid (BW.out.trans hb)
        clear ht hk9 hb x0 x1 x2 x3
        go_wp2_with fail
        go_roundw
        case rel => exact ⟨k + 1, D, E, Jb, Jr, q + 1, long, c, M', R', by omega, by go_num, rfl, rfl, rfl, rfl, T, HJ, HR, HNE, HREL, HONE, HLC, by omega, by omega, BW⟩
        case measure => simp [intOf]; omega
      | 8, _ => as_aux_lemma =>
        obtain ⟨z4, hz4⟩ : ∃ z4, z4 = a.keep % 4 := ⟨_, rfl⟩
        have ez : (a.keep : Int) % 4 = (z4 : Int) := by omega
        clear hz4
        by_cases hz0 : z4 = 0
        · subst hz0
          obtain ⟨f9, hf9⟩ := HREL.out
          have HOKR := Lib.hid (hf9.okR T.out.ok)
          obtain ⟨h1, h2⟩ := hf9.remove T.out.ok s
          obtain ⟨M', hM⟩ : ∃ M', M' = (M.remove s).1 := ⟨_, rfl⟩
          obtain ⟨R', hR⟩ : ∃ R', R' = (R.remove s).1 := ⟨_, rfl⟩
          obtain ⟨e, he⟩ : ∃ e, e = (M.remove s).2 := ⟨_, rfl⟩
          have HXM := Lib.hid (show M.remove s = (M', e) from Prod.ext hM.symm he.symm)
          have HXR := Lib.hid (show R.remove s = (R', e) from Prod.ext hR.symm (by rw [he]; first | done | exact h1))
          have HREL := Lib.hid (show ∃ f, Rel M' R' f by rw [hM, hR]; exact h2)
          have HONE := Lib.hid (show Only M' s by rw [hM]; exact HONE.out.remove)
          have hfew2 : R'.rows.length ≤ 64 + 2 * (k + 1) := by have h9 := few_remove R s; rw [hR]; exact Nat.le_trans h9 (by omega)
          have hfew1 : R.rows.length ≤ 1000000 := by omega
          clear hf9 h1 h2 hM hR he f9 hfew
          go_wp2_with fail
          refine (T.out.actD (x := (M', e)) (fun S hS => by have h9 := Remove_any hS s HS9.out; rewrite [HXM.out] at h9; exact h9)).mono ?_
          rintro _ wy ⟨rfl, ht, hk9, hb⟩
          have T := Lib.hid ht
          clear ht
          have HJ := Lib.hid ((hk9.2 Jb (.inl rfl)).trans HJ.out)
          have HR := Lib.hid ((hk9.2 Jr (.inr (.inl rfl))).trans HR.out)
          have HAX := Lib.hid ((hk9.2 AX (.inr (.inr (.inl rfl)))).trans HAX.out)
          have HTW := Lib.hid (HTW.out.block fun g hg => hk9.2 g (.inr (.inr (.inr hg))))
          have BW := Lib.hid (BW.out.trans hb)
          clear hk9 hb
          clear x0 x1 x2 x3
          obtain ⟨x0, x1, x2, x3⟩ := jactC HAX.out
          go_wp2_with fail
          refine (T.out.actR (x := (R', e)) (fun S hS => by have h9 := RRemove_any hS HOKR.out s HS9.out; rewrite [HXR.out] at h9; exact h9)).mono ?_
          rintro _ wz ⟨rfl, ht, hk9, hb⟩
          have T := Lib.hid ht
          clear ht
          have HJ := Lib.hid ((hk9.2 Jb (.inl rfl)).trans HJ.out)
          have HR := Lib.hid ((hk9.2 Jr (.inr (.inl rfl))).trans HR.out)
          have HAX := Lib.hid ((hk9.2 AX (.inr (.inr (.inl rfl)))).trans HAX.out)
          have HTW := Lib.hid (HTW.out.block fun g hg => hk9.2 g (.inr (.inr (.inr hg))))
          have BW := Lib.hid (BW.out.trans hb)
          clear hk9 hb
          clear x0 x1 x2 x3
          obtain ⟨x0, x1, x2, x3⟩ := jactC HAX.out
          have hfewT : R'.rows.length ≤ 1000000 := by omega
          go_wp2_with fail
          refine (LeftB_any _ HTW.out (HKV.out.later (show Below w.heap.size w _ from by rw [← HC.out]; exact BW.out))).mono ?_
          rintro _ y5 ⟨rfl, n5, e5⟩
          have hb9 := show Below _ _ y5 from by rw [e5]; exact below_drewN9 _ _
          have hk9 := T.out.kept hb9
          have hb := hb9.mono T.out.base
          have T := Lib.hid (T.out.later hb9)
          clear hb9 e5
          have HJ := Lib.hid ((hk9.2 Jb (.inl rfl)).trans HJ.out)
          have HR := Lib.hid ((hk9.2 Jr (.inr (.inl rfl))).trans HR.out)
          have HAX := Lib.hid ((hk9.2 AX (.inr (.inr (.inl rfl)))).trans HAX.out)
          have HTW := Lib.hid (HTW.out.block fun g hg => hk9.2 g (.inr (.inr (.inr hg))))
          have BW := Lib.hid (BW.out.trans hb)
          clear hk9 hb
          clear x0 x1 x2 x3
          obtain ⟨x0, x1, x2, x3⟩ := jactC HAX.out
          go_wp2_with fail
          refine (T.out.same HREL.out hfewT).mono ?_
          rintro _ y6 ⟨rfl, hb9⟩
          have hk9 := T.out.kept hb9
          have hb := hb9.mono T.out.base
          have T := Lib.hid (T.out.later hb9)
          clear hb9
          have HJ := Lib.hid ((hk9.2 Jb (.inl rfl)).trans HJ.out)
          have HR := Lib.hid ((hk9.2 Jr (.inr (.inl rfl))).trans HR.out)
          have HAX := Lib.hid ((hk9.2 AX (.inr (.inr (.inl rfl)))).trans HAX.out)
          have HTW := Lib.hid (HTW.out.block fun g hg => hk9.2 g (.inr (.inr (.inr hg))))
          have BW := Lib.hid (BW.out.trans hb)
          clear hk9 hb
          clear x0 x1 x2 x3
          obtain ⟨x0, x1, x2, x3⟩ := jactC HAX.out
          go_wp2_with fail
          refine (T.out.keepB (K' := fun g => g = Jb ∨ g = Jr) (by omega) HTW.out.own (by have := HBL.out; omega) (fun g hg => .inr (.inr (.inr hg))) (fun g hg => by rcases hg with rfl | rfl; exact ⟨.inl rfl, fun e => (HNT.out.2.2 _ e).1 rfl⟩; exact ⟨.inr (.inl rfl), fun e => (HNT.out.2.2 _ e).2 rfl⟩)).mono ?_
          rintro _ y7 ⟨rfl, ht, hk9, hb⟩
          have T := Lib.hid ht
          have HJ := Lib.hid ((hk9.2 Jb (.inl rfl)).trans HJ.out)
          have HR := Lib.hid ((hk9.2 Jr (.inr rfl)).trans HR.out)
          have BW := Lib.hid (BW.out.trans hb)
          clear ht hk9 hb x0 x1 x2 x3
          go_wp2_with fail
          go_roundw
          case rel => exact ⟨k + 1, D, E, Jb, Jr, q + 1, long, c, M', R', by omega, by go_num, rfl, rfl, rfl, rfl, T, HJ, HR, HNE, HREL, HONE, HLC, by omega, by omega, BW⟩
          case measure => simp [intOf]; omega
        · have hz0I : ¬ ((z4 : Int) = 0) := by omega
          have hfewT : R.rows.length ≤ 1000000 := by omega
          go_wp2_with fail
          refine (LeftB_any _ HTW.out (HKV.out.later (show Below w.heap.size w _ from by rw [← HC.out]; exact BW.out))).mono ?_
          rintro _ y5 ⟨rfl, n5, e5⟩
          have hb9 := show Below _ _ y5 from by rw [e5]; exact below_drewN9 _ _
          have hk9 := T.out.kept hb9
          have hb := hb9.mono T.out.base
          have T := Lib.hid (T.out.later hb9)
          clear hb9 e5
          have HJ := Lib.hid ((hk9.2 Jb (.inl rfl)).trans HJ.out)
          have HR := Lib.hid ((hk9.2 Jr (.inr (.inl rfl))).trans HR.out)
          have HAX := Lib.hid ((hk9.2 AX (.inr (.inr (.inl rfl)))).trans HAX.out)
          have HTW := Lib.hid (HTW.out.block fun g hg => hk9.2 g (.inr (.inr (.inr hg))))
          have BW := Lib.hid (BW.out.trans hb)
          clear hk9 hb
          clear x0 x1 x2 x3
          obtain ⟨x0, x1, x2, x3⟩ := jactC HAX.out
          go_wp2_with fail
          refine (T.out.same HREL.out hfewT).mono ?_
          rintro _ y6 ⟨rfl, hb9⟩
          have hk9 := T.out.kept hb9
          have hb := hb9.mono T.out.base
          have T := Lib.hid (T.out.later hb9)
          clear hb9
          have HJ := Lib.hid ((hk9.2 Jb (.inl rfl)).trans HJ.out)
          have HR := Lib.hid ((hk9.2 Jr (.inr (.inl rfl))).trans HR.out)
          have HAX := Lib.hid ((hk9.2 AX (.inr (.inr (.inl rfl)))).trans HAX.out)
          have HTW := Lib.hid (HTW.out.block fun g hg => hk9.2 g (.inr (.inr (.inr hg))))
          have BW := Lib.hid (BW.out.trans hb)
          clear hk9 hb
          clear x0 x1 x2 x3
          obtain ⟨x0, x1, x2, x3⟩ := jactC HAX.out
          go_wp2_with fail
          refine (T.out.keepB (K' := fun g => g = Jb ∨ g = Jr) (by omega) HTW.out.own (by have := HBL.out; omega) (fun g hg => .inr (.inr (.inr hg))) (fun g hg => by rcases hg with rfl | rfl; exact ⟨.inl rfl, fun e => (HNT.out.2.2 _ e).1 rfl⟩; exact ⟨.inr (.inl rfl), fun e => (HNT.out.2.2 _ e).2 rfl⟩)).mono ?_
          rintro _ y7 ⟨rfl, ht, hk9, hb⟩
          have T := Lib.hid ht
          have HJ := Lib.hid ((hk9.2 Jb (.inl rfl)).trans HJ.out)
          have HR := Lib.hid ((hk9.2 Jr (.inr rfl)).trans HR.out)
          have BW := Lib.hid (BW.out.trans hb)
          clear ht hk9 hb x0 x1 x2 x3
          go_wp2_with fail
          go_roundw
          case rel => exact ⟨k + 1, D, E, Jb, Jr, q + 1, long, c, M, R, by omega, by go_num, rfl, rfl, rfl, rfl, T, HJ, HR, HNE, HREL, HONE, HLC, by omega, by omega, BW⟩
          case measure => simp [intOf]; omega
      | r + 9, h => omega
    · obtain rfl : k = m := by omega
      go_wp2_with fail
      refine (T.out.apart (by omega)).mono ?_
      rintro _ y2 ⟨rfl, hb⟩
      have BW := Lib.hid (BW.out.trans hb)
      clear hb
      go_wp2_with fail
      go_ret
      exact ⟨rfl, by rw [← HC.out]; exact BW.out⟩
end Go.Proofs.YtidhlbhfhfonoaaGreatDoor
