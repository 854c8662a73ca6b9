/- Layer 17 (files): what a call leaves of a disk; finds, Size, Left. -/
import Derived.Test.YtjfejpdeccnlnaaDoorDisk2
import Derived.StillTailTactics
namespace Go.Proofs.YtjfejpdeccnlnaaDoor
open Go.ChangeShapes Go.WideShapes Go.ChangeAt Go.RowKit

/-- Only blocks of S, and new ones, have turned. -/
structure Chg (w w' : World) (S : Nat → Prop) : Prop where
  os : w'.os = w.os
  tape : w'.tape = w.tape
  output : w'.output = w.output
  size : w.heap.size ≤ w'.heap.size
  block : ∀ g, g < w.heap.size → ¬ S g → w'.heap[g]? = w.heap[g]?
/-- S, and what is new. -/
def plus (S : Nat → Prop) (w w' : World) (g : Nat) : Prop := S g ∨ (w.heap.size ≤ g ∧ g < w'.heap.size)
theorem Chg.refl (w : World) (S : Nat → Prop) : Chg w w S := ⟨rfl, rfl, rfl, Nat.le_refl _, fun _ _ _ => rfl⟩
theorem Chg.of_below {w w' : World} (h : Below w.heap.size w w') (S : Nat → Prop) : Chg w w' S := ⟨h.os, h.tape, h.output, h.size, fun g hg _ => h.block g hg⟩
theorem Chg.below {w w' : World} {S : Nat → Prop} {base : Nat} (h : Chg w w' S) (hS : ∀ g, S g → base ≤ g) (hb : base ≤ w.heap.size) : Below base w w' :=
  ⟨h.os, h.tape, h.output, h.size, fun g hg => h.block g (by omega) (fun e => by have := hS g e; omega)⟩
theorem Chg.trans {w w1 w2 : World} {S : Nat → Prop} (h : Chg w w1 S) (k : Chg w1 w2 (plus S w w1)) : Chg w w2 S :=
  ⟨k.os.trans h.os, k.tape.trans h.tape, k.output.trans h.output, Nat.le_trans h.size k.size, fun g hg hn => by
    rw [k.block g (by have := h.size; omega) (fun e => by rcases e with e | e; exact hn e; omega)]
    exact h.block g hg hn⟩
/-- A disk in block D, all of whose blocks are of S. -/
def Dk (w : World) (base D : Nat) (M : Dm) (S : Nat → Prop) : Prop := (∃ rb rv, DiskAt w base D M rb rv ∧ ∀ g, Foot D M rb rv g → S g) ∧ ∀ g, S g → base ≤ g ∧ g < w.heap.size
/-- What a call on a disk leaves. -/
structure Dn (w w' : World) (base D : Nat) (M : Dm) (S : Nat → Prop) : Prop where
  dk : Dk w' base D M (plus S w w')
  chg : Chg w w' S
theorem Dk.later {w w' : World} {base D : Nat} {M : Dm} {S : Nat → Prop} (h : Dk w base D M S) (hb : Below w.heap.size w w') : Dk w' base D M S := by
  obtain ⟨⟨rb, rv, h1, h2⟩, h3⟩ := h
  exact ⟨⟨rb, rv, h1.later hb, h2⟩, fun g hg => ⟨(h3 g hg).1, Nat.lt_of_lt_of_le (h3 g hg).2 hb.size⟩⟩
theorem Dk.wide {w : World} {base D : Nat} {M : Dm} {S S' : Nat → Prop} (h : Dk w base D M S) (hS : ∀ g, S g → S' g) (hb : ∀ g, S' g → base ≤ g ∧ g < w.heap.size) : Dk w base D M S' := by
  obtain ⟨⟨rb, rv, h1, h2⟩, h3⟩ := h
  exact ⟨⟨rb, rv, h1, fun g hg => hS g (h2 g hg)⟩, hb⟩
theorem Dk.ok {w : World} {base D : Nat} {M : Dm} {S : Nat → Prop} (h : Dk w base D M S) : M.ok := by
  obtain ⟨⟨rb, rv, h1, h2⟩, h3⟩ := h
  exact h1.ok
theorem Dk.base {w : World} {base D : Nat} {M : Dm} {S : Nat → Prop} (h : Dk w base D M S) : base ≤ w.heap.size := by
  obtain ⟨⟨rb, rv, h1, h2⟩, h3⟩ := h
  have := h3 D (h2 D (.inl rfl))
  omega
/-- A call that only looks. -/
theorem Dk.looked {w w' : World} {base D : Nat} {M : Dm} {S : Nat → Prop} (h : Dk w base D M S) (hb : Below w.heap.size w w') : Dn w w' base D M S := by
  have hB := h.base
  have h3 := h.2
  have hs := hb.size
  refine ⟨(h.later hb).wide (fun g hg => .inl hg) (fun g hg => ?_), Chg.of_below hb S⟩
  rcases hg with hg | hg
  · have := h3 g hg; omega
  · omega
theorem Dn.trans {w w1 w2 : World} {base D : Nat} {M M' : Dm} {S : Nat → Prop} (h : Dn w w1 base D M S) (k : Dn w1 w2 base D M' (plus S w w1)) : Dn w w2 base D M' S := by
  have h1 := h.chg.size
  have h2 := k.chg.size
  have h3 := h.dk.2
  have hk := k.dk.2
  refine ⟨k.dk.wide (fun g hg => ?_) (fun g hg => ?_), h.chg.trans k.chg⟩
  · rcases hg with (hg | hg) | hg
    · exact .inl hg
    · exact .inr ⟨hg.1, by omega⟩
    · exact .inr ⟨by omega, hg.2⟩
  · rcases hg with hg | hg
    · exact hk g (.inl (.inl hg))
    · by_cases hlt : g < w1.heap.size
      · exact hk g (.inl (.inr ⟨hg.1, hlt⟩))
      · exact hk g (.inr ⟨by omega, hg.2⟩)

/-! ### A place, a row -/
theorem DiskAt.place {w : World} {base D : Nat} {M : Dm} {rb : Nat → Nat} {rv : Nat → Value} (h : DiskAt w base D M rb rv) {i : Nat} {p : Pl} (hi : M.now[i]? = some p) :
    w.cell? ⟨D, 1 + i * 2, none⟩ = some (.string p.name) ∧ w.cell? ⟨D, 1 + i * 2 + 1, none⟩ = some (ptrOf rb p.file) := by
  obtain ⟨h1, h2⟩ := tab_get rb hi
  exact ⟨h.now _ _ h1, by have := h.now _ _ h2; rwa [← Nat.add_assoc] at this⟩
theorem RowAt.cells {w : World} {base b : Nat} {v : Value} {r : Rw} (h : RowAt w base b v r) : w.cell? ⟨b, 0, none⟩ = some v ∧ w.cell? ⟨b, 1, none⟩ = some (.int .i64 r.m) :=
  ⟨cell_of_row _ b 0 _ _ (0, 0) h.blk, cell_of_row _ b 1 _ _ (0, 0) h.blk⟩
theorem frozen_row {w : World} {b : Nat} {c : Array Value} {t : TypeId} (h : w.heap[b]? = some (.cells c t (0, 0))) (o : Nat) : w.frozen? ⟨b, o, none⟩ = false := by
  simp [World.frozen?, h]
theorem DiskAt.free {w : World} {base D : Nat} {M : Dm} {rb : Nat → Nat} {rv : Nat → Value} (h : DiskAt w base D M rb rv) (o : Nat) : w.frozen? ⟨D, o, none⟩ = false := frozen_row h.blk o
/-- What finds tells. -/
def Dm.why (M : Dm) (ok : Bool) (s : ByteArray) : Nat := if ok && nameOk s then (match find M.now s with | none => 7 | some _ => 0) else 1
set_option maxRecDepth 20000 in
set_option maxHeartbeats 1500000 in
theorem finds_yes {w : World} {base D : Nat} {M : Dm} {rb : Nat → Nat} {rv : Nat → Value} (h : DiskAt w base D M rb rv) (s : ByteArray) (hs : s.size ≤ 140737488355328) (hok : nameOk s = true) (i : Nat) (hf : find M.now s = some i) :
    Calls Tryd.prog 40 #[.pointer (some ⟨D, 0, none⟩), .bool true, .string s] w fun e w' => e = .returned (.tuple #[.pointer (some ⟨D, 1 + i * 2, none⟩), .int .i64 0]) ∧ Below w.heap.size w w' := by
  have HG := Lib.hid (goes_any w D M.size h.size h.ok.size.1 true s hs)
  rw [if_pos (by simpa using hok)] at HG
  have HA := Lib.hid (fun (w1 : World) (hb : Below w.heap.size w w1) => at_any w1 D 1 M.now rb (h.later hb).now h.ok.nl s)
  rw [spot_some hf] at HA
  have hi : (i : Int) < 64 := by obtain ⟨_, _, h2⟩ := find_get hf; have := h.ok.nl; omega
  clear h hf hok
  go_enter Tryd.func40, Tryd.ntmps40
  go_wp2_with fail
  refine HG.out.mono ?_
  rintro _ w1 ⟨rfl, hb⟩
  have HB := Lib.hid hb
  go_wp2_with fail
  refine (HA.out w1 HB.out).mono ?_
  rintro _ w2 ⟨rfl, hb2⟩
  have HB2 := Lib.hid (below_on HB.out hb2)
  clear hb hb2
  go_wp2_with fail
  go_ret2
  exact ⟨rfl, HB2.out⟩
set_option maxRecDepth 20000 in
set_option maxHeartbeats 1500000 in
theorem finds_no {w : World} {base D : Nat} {M : Dm} {rb : Nat → Nat} {rv : Nat → Value} (h : DiskAt w base D M rb rv) (ok : Bool) (s : ByteArray) (hs : s.size ≤ 140737488355328) (hw : M.why ok s ≠ 0) :
    Calls Tryd.prog 40 #[.pointer (some ⟨D, 0, none⟩), .bool ok, .string s] w fun e w' => e = .returned (.tuple #[.pointer none, .int .i64 (M.why ok s)]) ∧ Below w.heap.size w w' := by
  have HG := Lib.hid (goes_any w D M.size h.size h.ok.size.1 ok s hs)
  by_cases hg : (ok && nameOk s) = true
  · rw [if_pos hg] at HG
    have HA := Lib.hid (fun (w1 : World) (hb : Below w.heap.size w w1) => at_any w1 D 1 M.now rb (h.later hb).now h.ok.nl s)
    unfold Dm.why at hw ⊢
    rw [if_pos hg] at hw ⊢
    cases hf : find M.now s with
    | some i => rw [hf] at hw; exact absurd rfl hw
    | none =>
      rw [spot_none hf] at HA
      clear h hf hw hg
      go_enter Tryd.func40, Tryd.ntmps40
      go_wp2_with fail
      refine HG.out.mono ?_
      rintro _ w1 ⟨rfl, hb⟩
      have HB := Lib.hid hb
      go_wp2_with fail
      refine (HA.out w1 HB.out).mono ?_
      rintro _ w2 ⟨rfl, hb2⟩
      have HB2 := Lib.hid (below_on HB.out hb2)
      clear hb hb2
      go_wp2_with fail
      go_ret2
      exact ⟨rfl, HB2.out⟩
  · rw [if_neg hg] at HG
    unfold Dm.why
    rw [if_neg hg]
    clear h hw hg
    go_enter Tryd.func40, Tryd.ntmps40
    go_wp2_with fail
    refine HG.out.mono ?_
    rintro _ w1 ⟨rfl, hb⟩
    have HB := Lib.hid hb
    clear hb
    go_wp2_with fail
    go_ret2
    exact ⟨rfl, HB.out⟩
/-- The two ways of finds. -/
theorem Dm.ways (M : Dm) (s : ByteArray) : (nameOk s = true ∧ ∃ i, find M.now s = some i) ∨ M.why true s ≠ 0 := by
  unfold Dm.why
  by_cases h : nameOk s = true
  · cases hf : find M.now s with
    | some i => exact .inl ⟨h, i, rfl⟩
    | none => right; simp [h]
  · right; simp [h]
theorem Dm.at_no {M : Dm} {s : ByteArray} {f : Nat → Dm × Nat} (h : M.why true s ≠ 0) : M.at s f = (M, M.why true s) := by
  unfold Dm.why at h ⊢
  unfold Dm.at
  by_cases hn : nameOk s = true
  · cases hf : find M.now s with
    | some i => simp [hn, hf] at h
    | none => simp [hn]
  · simp [hn]
theorem Dm.at_yes {M : Dm} {s : ByteArray} {f : Nat → Dm × Nat} {i : Nat} (h : nameOk s = true) (hf : find M.now s = some i) : M.at s f = f i := by
  unfold Dm.at
  simp [h, hf]
/-- A file's bytes' number, and the error. -/
def Dm.sizeE (M : Dm) (s : ByteArray) : Nat × Nat := if M.why true s = 0 then (((find M.now s).map fun i => (M.row i).l.length).getD 0, 0) else (0, M.why true s)
theorem Dm.why_yes {M : Dm} {s : ByteArray} {i : Nat} (h : nameOk s = true) (hf : find M.now s = some i) : M.why true s = 0 := by simp [Dm.why, h, hf]
set_option maxRecDepth 20000 in
set_option maxHeartbeats 1500000 in
theorem Size_any {w : World} {base D : Nat} {M : Dm} {S : Nat → Prop} (h : Dk w base D M S) (s : ByteArray) (hs : s.size ≤ 140737488355328) :
    Calls Tryd.prog 30 #[.pointer (some ⟨D, 0, none⟩), .string s] w fun e w' => e = .returned (.tuple #[.int .i64 (M.sizeE s).1, .int .i64 (M.sizeE s).2]) ∧ Below w.heap.size w w' := by
  obtain ⟨⟨rb, rv, h, _⟩, _⟩ := h
  rcases M.ways s with ⟨hok, i, hf⟩ | hno
  · obtain ⟨k, r, h1, h2, h3, h4, h5⟩ := h.ok.found hok hf
    rw [show M.sizeE s = (r.l.length, 0) by simp [Dm.sizeE, Dm.why_yes hok hf, hf, h5]]
    have HF := Lib.hid (finds_yes h s hs hok i hf)
    obtain ⟨_, cp⟩ := h.place h1
    obtain ⟨cv, _⟩ := (h.row k r h2).cells
    obtain ⟨a, c, hv⟩ := (h.row k r h2).own.sl
    rw [hv] at cv
    have hl := (h.ok.rl k r h2).1
    have cp' : w.cell? ⟨D, 1 + i * 2 + 1, none⟩ = some (.pointer (some ⟨rb k, 0, none⟩)) := cp
    have CP := Lib.hid (fun w1 (hb : Below w.heap.size w w1) => cell_on cp' hb)
    have CV := Lib.hid (fun w1 (hb : Below w.heap.size w w1) => cell_on cv hb)
    clear h h1 h2 h3 h4 h5 hf hok cp cp' cv hv
    go_enter Tryd.func30, Tryd.ntmps30
    go_wp2_with fail
    refine HF.out.mono ?_
    rintro _ w1 ⟨rfl, hb⟩
    have HB := Lib.hid hb
    have c1 := CP.out w1 hb
    have c2 := CV.out w1 hb
    clear hb
    go_wp2_with fail
    go_ret2
    exact ⟨rfl, HB.out⟩
  · rw [show M.sizeE s = (0, M.why true s) by simp [Dm.sizeE, hno]]
    have HF := Lib.hid (finds_no h true s hs hno)
    obtain ⟨e, he⟩ : ∃ e, M.why true s = e := ⟨_, rfl⟩
    rw [he] at HF hno ⊢
    have hn : ((e : Int) != 0) = true := by simp; omega
    clear h he
    go_enter Tryd.func30, Tryd.ntmps30
    go_wp2_with fail
    refine HF.out.mono ?_
    rintro _ w1 ⟨rfl, hb⟩
    have HB := Lib.hid hb
    clear hb
    go_wp2_with fail
    go_ret2
    exact ⟨rfl, HB.out⟩
end Go.Proofs.YtjfejpdeccnlnaaDoor
