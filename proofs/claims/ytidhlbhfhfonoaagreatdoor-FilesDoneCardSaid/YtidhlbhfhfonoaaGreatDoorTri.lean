/- Layer 17: a disk, the reference's one, and a book, that lie apart. -/
import Derived.Test.YtidhlbhfhfonoaaGreatDoorRdSame
import Derived.Test.YtidhlbhfhfonoaaGreatDoorBk1B
import Derived.Test.YtidhlbhfhfonoaaGreatDoorTwin
import Derived.Test.YtidhlbhfhfonoaaGreatDoorDiskOps
import Derived.Test.YtidhlbhfhfonoaaGreatDoorGreat
import Derived.Test.YtidhlbhfhfonoaaGreatDoorDisk5r
namespace Go.Proofs.YtidhlbhfhfonoaaGreatDoor
open Go.ChangeShapes Go.WideShapes Go.ChangeAt Go.RowKit
def Tri (K : Nat → Prop) (w : World) (C D E B q : Nat) (M : Dm) (R : Rf) : Prop := ∃ S1 S2 S3, Dk w C D M S1 ∧ Rk w C E R S2 ∧ Bk 5 141 1 1 w C B q S3 ∧ (∀ g, S1 g → ¬ S2 g) ∧ (∀ g, S1 g → ¬ S3 g) ∧ (∀ g, S2 g → ¬ S3 g) ∧ ∀ g, K g → g < w.heap.size ∧ ¬ S1 g ∧ ¬ S2 g ∧ ¬ S3 g
def Kept (K : Nat → Prop) (w w' : World) : Prop := w.heap.size ≤ w'.heap.size ∧ ∀ g, K g → w'.heap[g]? = w.heap[g]?
section
variable {K : Nat → Prop} {w w' : World} {C D E B q : Nat} {M : Dm} {R : Rf} {P : Program} {f : FuncId} {args : Array Value}
theorem Tri.later (T : Tri K w C D E B q M R) (hb : Below w.heap.size w w') : Tri K w' C D E B q M R := by
  obtain ⟨S1, S2, S3, h1, h2, h3, d1, d2, d3, hk⟩ := T
  exact ⟨S1, S2, S3, h1.later hb, h2.later hb, h3.later hb, d1, d2, d3, fun g hg => ⟨Nat.lt_of_lt_of_le (hk g hg).1 hb.size, (hk g hg).2⟩⟩
theorem Tri.kept (T : Tri K w C D E B q M R) (hb : Below w.heap.size w w') : Kept K w w' := by
  obtain ⟨S1, S2, S3, h1, h2, h3, d1, d2, d3, hk⟩ := T
  exact ⟨hb.size, fun g hg => hb.block g (hk g hg).1⟩
theorem Tri.more {K' : Nat → Prop} (T : Tri K w C D E B q M R) (hb : Below w.heap.size w w') (hK : ∀ g, K' g → K g ∨ (w.heap.size ≤ g ∧ g < w'.heap.size)) : Tri K' w' C D E B q M R := by
  obtain ⟨S1, S2, S3, h1, h2, h3, d1, d2, d3, hk⟩ := T
  refine ⟨S1, S2, S3, h1.later hb, h2.later hb, h3.later hb, d1, d2, d3, fun g hg => ?_⟩
  rcases hK g hg with h | h
  · exact ⟨Nat.lt_of_lt_of_le (hk g h).1 hb.size, (hk g h).2⟩
  · exact ⟨h.2, fun e => by have := h1.2 g e; omega, fun e => by have := h2.2 g e; omega, fun e => by have := h3.2 g e; omega⟩
theorem Tri.base (T : Tri K w C D E B q M R) : C ≤ w.heap.size := by
  obtain ⟨S1, S2, S3, h1, _⟩ := T
  exact h1.base
theorem Tri.ok (T : Tri K w C D E B q M R) : M.ok := by
  obtain ⟨S1, S2, S3, h1, _⟩ := T
  exact h1.ok
theorem Tri.both (T : Tri K w C D E B q M R) (hr : ∃ f, Rel M R f) (hf : R.rows.length ≤ 1000000) : ∃ S1 S2, Both w C D E M R S1 S2 := by
  obtain ⟨S1, S2, S3, h1, h2, h3, _⟩ := T
  exact ⟨S1, S2, h1, h2, hr, hf⟩
/-- An act of the disk. -/
theorem Tri.actD {x : Dm × Nat} (T : Tri K w C D E B q M R) (hc : ∀ S, Dk w C D M S → Calls P f args w (Errs w C D S x)) : Calls P f args w fun e w' => e = .returned (.int .i64 x.2) ∧ Tri K w' C D E B q x.1 R ∧ Kept K w w' ∧ Below C w w' := by
  obtain ⟨S1, S2, S3, h1, h2, h3, d1, d2, d3, hk⟩ := T
  refine (hc S1 h1).mono ?_
  rintro e w' ⟨rfl, hn⟩
  have hs := hn.chg.size
  refine ⟨rfl, ⟨plus S1 w w', S2, S3, hn.dk, h2.other hn.chg d1, h3.other hn.chg d2, fun g hg => ?_, fun g hg => ?_, d3, fun g hg => ⟨by have := (hk g hg).1; omega, fun e => ?_, (hk g hg).2.2⟩⟩, ⟨hs, fun g hg => hn.chg.block g (hk g hg).1 (hk g hg).2.1⟩, hn.chg.below (fun g hg => (h1.2 g hg).1) h1.base⟩
  · rcases hg with hg | hg
    · exact d1 g hg
    · exact fun e => by have := h2.2 g e; omega
  · rcases hg with hg | hg
    · exact d2 g hg
    · exact fun e => by have := h3.2 g e; omega
  · rcases e with e | e
    · exact (hk g hg).2.1 e
    · have := (hk g hg).1; omega
/-- An act of the reference's disk. -/
theorem Tri.actR {x : Rf × Nat} (T : Tri K w C D E B q M R) (hc : ∀ S, Rk w C E R S → Calls P f args w (RErrs w C E S x)) : Calls P f args w fun e w' => e = .returned (.int .i64 x.2) ∧ Tri K w' C D E B q M x.1 ∧ Kept K w w' ∧ Below C w w' := by
  obtain ⟨S1, S2, S3, h1, h2, h3, d1, d2, d3, hk⟩ := T
  refine (hc S2 h2).mono ?_
  rintro e w' ⟨rfl, hn⟩
  have hs := hn.chg.size
  refine ⟨rfl, ⟨S1, plus S2 w w', S3, h1.other hn.chg (fun g hg h => d1 g h hg), hn.rk, h3.other hn.chg d3, fun g hg e => ?_, d2, fun g hg => ?_, fun g hg => ⟨by have := (hk g hg).1; omega, (hk g hg).2.1, fun e => ?_, (hk g hg).2.2.2⟩⟩, ⟨hs, fun g hg => hn.chg.block g (hk g hg).1 (hk g hg).2.2.1⟩, hn.chg.below (fun g hg => (h2.2 g hg).1) h2.from_⟩
  · rcases e with e | e
    · exact d1 g hg e
    · have := h1.2 g hg; omega
  · rcases hg with hg | hg
    · exact d3 g hg
    · exact fun e => by have := h3.2 g e; omega
  · rcases e with e | e
    · exact (hk g hg).2.2.1 e
    · have := (hk g hg).1; omega
/-- A list is kept. -/
theorem Tri.keepB {K' : Nat → Prop} (T : Tri K w C D E B q M R) (hq : q < 1000) {v : Value} {n : Nat} {xs : List Value} (hv : OwnV w C 5 1 v n xs) (hn : n ≤ 4000000) (hK : ∀ g, v.ownBlock = some g → K g) (hK' : ∀ g, K' g → K g ∧ v.ownBlock ≠ some g) :
    Calls Tryz.prog 27 #[.pointer (some ⟨B, 0, none⟩), v] w fun e w' => e = .returned (.tuple #[]) ∧ Tri K' w' C D E B (q + 1) M R ∧ Kept K' w w' ∧ Below C w w' := by
  obtain ⟨S1, S2, S3, h1, h2, h3, d1, d2, d3, hk⟩ := T
  refine (h3.Bytes hq hv hn fun g hg e => (hk g (hK g hg)).2.2.2 e).mono ?_
  rintro e w' ⟨rfl, hb, hc⟩
  have hs := hc.size
  refine ⟨rfl, ⟨S1, S2, _, h1.other hc (fun g hg h => d2 g h hg), h2.other hc (fun g hg h => d3 g h hg), hb, d1, fun g hg e => ?_, fun g hg e => ?_, fun g hg => ⟨by have := (hk g (hK' g hg).1).1; omega, (hk g (hK' g hg).1).2.1, (hk g (hK' g hg).1).2.2.1, fun e => ?_⟩⟩, ⟨hs, fun g hg => hc.block g (hk g (hK' g hg).1).1 (hk g (hK' g hg).1).2.2.2⟩, hc.below (fun g hg => (h3.2 g hg).1) h1.base⟩
  · rcases e with e | e | e
    · exact d2 g hg e
    · exact (hk g (hK g e)).2.1 hg
    · have := h1.2 g hg; omega
  · rcases e with e | e | e
    · exact d3 g hg e
    · exact (hk g (hK g e)).2.2.1 hg
    · have := h2.2 g hg; omega
  · rcases e with e | e | e
    · exact (hk g (hK' g hg).1).2.2.2 e
    · exact (hK' g hg).2 e
    · have := (hk g (hK' g hg).1).1; omega
/-- Other disks, in memory of their own. -/
theorem Tri.fresh {w1 w2 : World} {X Y : Nat} {M' : Dm} {R' : Rf} {S' : Nat → Prop} (T : Tri K w C D E B q M R) (hd : Dk w1 w.heap.size X M' (fun g => w.heap.size ≤ g ∧ g < w1.heap.size)) (hb : Below w.heap.size w w1) (hr : Rk w2 w1.heap.size Y R' S') (hb2 : Below w1.heap.size w1 w2) : Tri K w2 C X Y B q M' R' := by
  obtain ⟨S1, S2, S3, h1, h2, h3, d1, d2, d3, hk⟩ := T
  have hs := hb.size
  have hs2 := hb2.size
  have hC := h1.base
  have hr' : Rk w2 C Y R' S' := by
    obtain ⟨⟨rv, mv, nv, sv, r1, r2⟩, r3⟩ := hr
    exact ⟨⟨rv, mv, nv, sv, ⟨r1.blk, OwnV.base r1.rows (by omega), OwnV.base r1.marks (by omega), OwnV.base r1.now (by omega), OwnV.base r1.safe (by omega), by have := r1.low; omega, r1.notD, r1.rm, r1.rn, r1.rs, r1.mn, r1.ms, r1.ns⟩, r2⟩, fun g hg => ⟨by have := r3 g hg; omega, (r3 g hg).2⟩⟩
  refine ⟨_, S', S3, (hd.down (by omega)).later hb2, hr', (h3.later hb).later hb2, fun g hg e => ?_, fun g hg e => ?_, fun g hg e => ?_, fun g hg => ⟨?_, fun e => ?_, fun e => ?_, (hk g hg).2.2.2⟩⟩
  · have := hr.2 g e; omega
  · have := h3.2 g e; omega
  · have := hr.2 g hg; have := h3.2 g e; omega
  · have := (hk g hg).1; omega
  · have := (hk g hg).1; omega
  · have := hr.2 g e; have := (hk g hg).1; omega
end
theorem Twin.block {w w' : World} {base : Nat} {v : Value} {l : List Nat} (h : Twin w base v l) (hb : ∀ g, v.ownBlock = some g → w'.heap[g]? = w.heap[g]?) : Twin w' base v l := by
  obtain ⟨g, o, cap, rfl, h0⟩ := h
  exact ⟨g, o, cap, rfl, OwnV.block h0 fun g' hg' => hb g' hg'⟩
theorem Twin.down {w : World} {base base' : Nat} {v : Value} {l : List Nat} (h : Twin w base v l) (hb : base' ≤ base) : Twin w base' v l := by
  obtain ⟨g, o, cap, rfl, h0⟩ := h
  exact ⟨g, o, cap, rfl, Own.base h0 hb⟩
theorem bstr_num {l : List Nat} (h : Bytes l) : num8 (bstr l) = l := by
  unfold num8 bstr
  simp only [List.map_map]
  conv => rhs; rw [← List.map_id l]
  exact List.map_congr_left fun x hx => by
    have := h x hx
    simp [Nat.mod_eq_of_lt this]
/-! ### How many rows there are -/
theorem few_create (R : Rf) (s : ByteArray) : (R.create s).1.rows.length ≤ R.rows.length + 1 := by unfold Rf.create; (repeat' split) <;> simp
theorem few_remove (R : Rf) (s : ByteArray) : (R.remove s).1.rows.length ≤ R.rows.length + 1 := by unfold Rf.remove; split <;> simp
theorem few_rename (R : Rf) (s z : ByteArray) : (R.rename s z).1.rows.length ≤ R.rows.length + 1 := by unfold Rf.rename; (repeat' split) <;> simp
theorem few_append (R : Rf) (s b : ByteArray) : (R.append s b).1.rows.length ≤ R.rows.length + 1 := by unfold Rf.append; (repeat' split) <;> simp
theorem few_sync (R : Rf) (s : ByteArray) : (R.sync s).1.rows.length ≤ R.rows.length + 1 := by unfold Rf.sync; split <;> simp
theorem few_fail {R : Rf} (ok : RfOk R) (keep : Nat) (names : Bool) : (R.fail keep names).rows.length ≤ 64 := by
  unfold Rf.fail Rf.cuts
  simp only [List.length_map]
  cases names
  · exact ok.sl
  · exact ok.nl
theorem great_small {l : List Ac} (h : great l = false) : l.length ≤ 200 ∧ ∀ a ∈ l, a.bulk ≤ 40000 := by
  unfold great at h
  have h9 : ¬ (40000 < bulk l ∨ 200 < l.length) := of_decide_eq_false h
  refine ⟨by omega, fun a ha => ?_⟩
  obtain ⟨i, hi⟩ := List.mem_iff_getElem?.1 ha
  have h1 := bulk_take hi
  have h2 := bulk_le l (i + 1)
  omega
end Go.Proofs.YtidhlbhfhfonoaaGreatDoor
