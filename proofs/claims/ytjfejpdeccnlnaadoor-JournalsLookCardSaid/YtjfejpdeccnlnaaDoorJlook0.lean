/- Layer 18 (journals): JournalsLook, in plain words. -/
import Derived.Test.YtjfejpdeccnlnaaDoorJno
namespace Go.Proofs.YtjfejpdeccnlnaaDoor
open Go.ChangeShapes Go.WideShapes Go.ChangeAt Go.RowKit

section
variable {M : Dm} {s : ByteArray} {l : List Nat} {m : Nat} {t : List Pl} {r : List Rw}
theorem hd_find (h : M.now = ⟨s, some 0⟩ :: t) : find M.now s = some 0 := by
  unfold find
  rw [h, List.findIdx?_cons, if_pos (by simp)]
theorem hd_row (h : M.now = ⟨s, some 0⟩ :: t) (hr : M.rows = ⟨l, m⟩ :: r) : M.row 0 = ⟨l, m⟩ := by
  unfold Dm.row Dm.file
  rw [h, hr]
  rfl
theorem hd_size (h : M.now = ⟨s, some 0⟩ :: t) (hr : M.rows = ⟨l, m⟩ :: r) (hs : nameOk s = true) : M.sizeE s = (l.length, 0) := by
  unfold Dm.sizeE
  rw [if_pos (Dm.why_yes hs (hd_find h)), hd_find h, Option.map_some, hd_row h hr]
  rfl
theorem hd_read (h : M.now = ⟨s, some 0⟩ :: t) (hr : M.rows = ⟨l, m⟩ :: r) (hs : nameOk s = true) : M.readE s 0 l.length = (l, 0) := by
  unfold Dm.readE
  rw [if_pos ⟨by omega, by omega⟩, if_pos (Dm.why_yes hs (hd_find h)), hd_find h, Option.map_some, hd_row h hr]
  simp
theorem hd_all (h : M.now = ⟨s, some 0⟩ :: t) (hr : M.rows = ⟨l, m⟩ :: r) (hs : nameOk s = true) : M.allB s = l := by
  unfold Dm.allB
  rw [hd_size h hr hs, hd_read h hr hs]
end
abbrev jn : ByteArray := ⟨#[106]⟩
/-- Other names. -/
def nm (i : Nat) : ByteArray := bstr [110, 48 + i / 10, 48 + i % 10]
theorem nm_ok : ∀ i, i < 70 → nameOk (nm i) = true := by decide +kernel
theorem nm_bytes {i : Nat} (h : i < 70) : Bytes [110, 48 + i / 10, 48 + i % 10] := fun x hx => by
  simp only [List.mem_cons, List.not_mem_nil, or_false] at hx
  rcases hx with rfl | rfl | rfl <;> omega
theorem nm_inj {i j : Nat} (hi : i < 70) (hj : j < 70) (h : nm i = nm j) : i = j := by
  have := bstr_inj (nm_bytes hi) (nm_bytes hj) h
  simp only [List.cons.injEq, and_true, true_and] at this
  omega
theorem nm_j {i : Nat} (hi : i < 70) : nm i ≠ jn := fun h => by
  have := bstr_inj (b := [106]) (nm_bytes hi) (by unfold Bytes; decide) h
  simp at this
def others (c : Nat) : List Pl := (List.range c).map fun i => ⟨nm i, some (i + 1)⟩
theorem others_length (c : Nat) : (others c).length = c := by simp [others]
theorem others_get {c i : Nat} (h : i < c) : (others c)[i]? = some ⟨nm i, some (i + 1)⟩ := by
  unfold others
  rw [List.getElem?_map, List.getElem?_range h]
  rfl
theorem others_succ (c : Nat) : others (c + 1) = others c ++ [⟨nm c, some (c + 1)⟩] := by simp [others, List.range_succ]
/-- The disk with a file, and so many others. -/
def lk (l : List Nat) (c : Nat) : Dm := ⟨1000000, ⟨jn, some 0⟩ :: (others c ++ List.replicate (63 - c) Go.Proofs.YtjfejpdeccnlnaaDoor.free), free64, ⟨l, 0⟩ :: List.replicate c ⟨[], 0⟩⟩
theorem lk_zero (l : List Nat) : lk l 0 = jd 1000000 jn l 0 free64 := rfl
/-- Where things stand. -/
theorem lk_at {l : List Nat} {c j : Nat} (hc : c ≤ 63) {p : Pl} (h : (lk l c).now[j]? = some p) : (j = 0 ∧ p = ⟨jn, some 0⟩) ∨ (∃ i, i < c ∧ j = i + 1 ∧ p = ⟨nm i, some (i + 1)⟩) ∨ (c < j ∧ j < 64 ∧ p = Go.Proofs.YtjfejpdeccnlnaaDoor.free) := by
  cases j with
  | zero =>
    cases h
    exact .inl ⟨rfl, rfl⟩
  | succ j =>
    have h' : (others c ++ List.replicate (63 - c) Go.Proofs.YtjfejpdeccnlnaaDoor.free)[j]? = some p := h
    rcases Nat.lt_or_ge j c with hj | hj
    · rw [List.getElem?_append_left (by rw [others_length]; exact hj), others_get hj] at h'
      cases h'
      exact .inr (.inl ⟨j, hj, rfl, rfl⟩)
    · rw [List.getElem?_append_right (by rw [others_length]; exact hj), others_length, List.getElem?_replicate] at h'
      split at h'
      · cases h'
        exact .inr (.inr ⟨by omega, by omega, rfl⟩)
      · cases h'
theorem lk_find {l : List Nat} {c : Nat} {s : ByteArray} (hc : c ≤ 63) (hj : s ≠ jn) (hn : ∀ i, i < c → nm i ≠ s) (h0 : s ≠ noName) : find (lk l c).now s = none := by
  refine find_none_of fun j hj' e => ?_
  rcases lk_at hc (List.getElem?_eq_getElem hj') with ⟨_, h2⟩ | ⟨i, h1, _, h2⟩ | ⟨_, _, h2⟩
  · rw [h2] at e; exact hj e.symm
  · rw [h2] at e; exact hn i h1 e
  · rw [h2] at e; exact h0 e.symm
theorem nm_no {i : Nat} (hi : i < 70) : nm i ≠ noName := nameOk_ne (nm_ok i hi)
theorem jn_no : jn ≠ noName := nameOk_ne (by decide)
theorem lk_len {l : List Nat} {c : Nat} (hc : c ≤ 63) : (lk l c).now.length = 64 := by
  show (others c ++ List.replicate (63 - c) Go.Proofs.YtjfejpdeccnlnaaDoor.free).length + 1 = 64
  rw [List.length_append, others_length, List.length_replicate]
  omega
theorem lk_free {l : List Nat} {c : Nat} (hc : c < 63) : find (lk l c).now noName = some (c + 1) := by
  have hg : (lk l c).now[c + 1]? = some Go.Proofs.YtjfejpdeccnlnaaDoor.free := by
    show (others c ++ List.replicate (63 - c) Go.Proofs.YtjfejpdeccnlnaaDoor.free)[c]? = _
    rw [List.getElem?_append_right (by rw [others_length]; exact Nat.le_refl _), others_length, List.getElem?_replicate, if_pos (by omega)]
  have hlt : c + 1 < (lk l c).now.length := by rw [lk_len (by omega)]; omega
  refine find_of hlt ?_ fun j hj => ?_
  · have := List.getElem?_eq_getElem hlt
    rw [hg] at this
    rw [← Option.some.inj this]
  · have hlt' : j < (lk l c).now.length := by omega
    rcases lk_at (by omega) (List.getElem?_eq_getElem hlt') with ⟨_, h2⟩ | ⟨i, h1, _, h2⟩ | ⟨h1, _, h2⟩
    · rw [h2]; exact jn_no
    · rw [h2]; exact nm_no (by omega)
    · omega
theorem lk_nofree {l : List Nat} : find (lk l 63).now noName = none := by
  refine find_none_of fun j hj e => ?_
  rcases lk_at (Nat.le_refl _) (List.getElem?_eq_getElem hj) with ⟨_, h2⟩ | ⟨i, h1, _, h2⟩ | ⟨h1, h3, _⟩
  · rw [h2] at e; exact jn_no e
  · rw [h2] at e; exact nm_no (by omega) e
  · omega
theorem lk_set {l : List Nat} {c : Nat} (hc : c < 63) (p : Pl) : (lk l c).now.set (c + 1) p = ⟨jn, some 0⟩ :: (others c ++ p :: List.replicate (62 - c) Go.Proofs.YtjfejpdeccnlnaaDoor.free) := by
  show (⟨jn, some 0⟩ :: (others c ++ List.replicate (63 - c) Go.Proofs.YtjfejpdeccnlnaaDoor.free) : List Pl).set (c + 1) p = _
  rw [List.set_cons_succ, List.set_append_right _ _ (by rw [others_length]; exact Nat.le_refl _), others_length, Nat.sub_self, show 63 - c = (62 - c) + 1 by omega, List.replicate_succ, List.set_cons_zero]
theorem lk_rows (l : List Nat) (c : Nat) : (lk l c).rows.length = c + 1 := by simp [lk]
/-- One name more. -/
def lk1 (l : List Nat) (c : Nat) (s : ByteArray) : Dm := ⟨1000000, ⟨jn, some 0⟩ :: (others c ++ ⟨s, some (c + 1)⟩ :: List.replicate (62 - c) Go.Proofs.YtjfejpdeccnlnaaDoor.free), free64, ⟨l, 0⟩ :: (List.replicate c ⟨[], 0⟩ ++ [⟨[], 0⟩])⟩
theorem lk_create {l : List Nat} {c : Nat} {s : ByteArray} (hc : c < 63) (hs : nameOk s = true) (hf : find (lk l c).now s = none) : (lk l c).create s = (lk1 l c s, 0) := by
  unfold Dm.create
  rw [if_pos hs, hf, lk_free hc]
  simp only [lk_set hc, lk_rows]
  rfl
theorem lk_full {l : List Nat} {s : ByteArray} (hs : nameOk s = true) (hf : find (lk l 63).now s = none) : (lk l 63).create s = (lk l 63, 6) := by
  unfold Dm.create
  rw [if_pos hs, hf, lk_nofree]
theorem lk1_nm {l : List Nat} {c : Nat} (hc : c < 63) : lk1 l c (nm c) = lk l (c + 1) := by
  unfold lk1 lk
  rw [others_succ, List.append_assoc, List.replicate_succ', show 63 - (c + 1) = 62 - c by omega]
  rfl
theorem lk_step {l : List Nat} {c : Nat} (hc : c < 63) : (lk l c).create (nm c) = (lk l (c + 1), 0) := by
  rw [lk_create hc (nm_ok c (by omega)) (lk_find (by omega) (nm_j (by omega)) (fun i hi e => by have := nm_inj (by omega) (by omega) e; omega) (nm_no (by omega))), lk1_nm hc]
theorem lk_stop {l : List Nat} {i : Nat} (hi : 63 ≤ i) (hi9 : i < 70) : (lk l 63).create (nm i) = (lk l 63, 6) :=
  lk_full (nm_ok i hi9) (lk_find (Nat.le_refl _) (nm_j hi9) (fun j hj e => by have := nm_inj (by omega) hi9 e; omega) (nm_no hi9))
theorem filt_others (c : Nat) : (others c).filter (fun p => p.file.isSome) = others c := by
  rw [List.filter_eq_self]
  intro p hp
  obtain ⟨i, _, rfl⟩ := List.mem_map.1 hp
  rfl
theorem filt_free (k : Nat) : (List.replicate k Go.Proofs.YtjfejpdeccnlnaaDoor.free).filter (fun p => p.file.isSome) = [] := by
  rw [List.filter_eq_nil_iff]
  intro p hp
  rw [(List.mem_replicate.1 hp).2]
  simp
theorem lk_list {l : List Nat} {c : Nat} : ((lk l c).list).length = c + 1 := by
  unfold Dm.list namesOf
  rw [sortB_length, List.length_map]
  show ((⟨jn, some 0⟩ :: (others c ++ List.replicate (63 - c) Go.Proofs.YtjfejpdeccnlnaaDoor.free) : List Pl).filter fun p => p.file.isSome).length = c + 1
  rw [List.filter_cons_of_pos (by rfl), List.filter_append, filt_others, filt_free, List.append_nil, List.length_cons, others_length]
theorem lk1_list {l : List Nat} {c : Nat} {s : ByteArray} : ((lk1 l c s).list).length = c + 2 := by
  unfold Dm.list namesOf
  rw [sortB_length, List.length_map]
  show ((⟨jn, some 0⟩ :: (others c ++ ⟨s, some (c + 1)⟩ :: List.replicate (62 - c) Go.Proofs.YtjfejpdeccnlnaaDoor.free) : List Pl).filter fun p => p.file.isSome).length = c + 2
  rw [List.filter_cons_of_pos (by rfl), List.filter_append, filt_others, List.filter_cons_of_pos (by rfl), filt_free, List.length_cons, List.length_append, others_length]
  rfl
theorem lk_j {l : List Nat} {c : Nat} : (lk l c).sizeE jn = (l.length, 0) ∧ (lk l c).readE jn 0 l.length = (l, 0) ∧ (lk l c).allB jn = l :=
  ⟨hd_size rfl rfl (by decide), hd_read rfl rfl (by decide), hd_all rfl rfl (by decide)⟩
theorem lk1_j {l : List Nat} {c : Nat} {s : ByteArray} : (lk1 l c s).allB jn = l := hd_all rfl rfl (by decide)
theorem repl_get {k i : Nat} {r : Rw} (h : (List.replicate k (⟨[], 0⟩ : Rw))[i]? = some r) : r = ⟨[], 0⟩ := by
  rw [List.getElem?_replicate] at h
  split at h
  · cases h; rfl
  · cases h
/-- A file of nothing. -/
theorem empty_of {M : Dm} {s : ByteArray} {i : Nat} (hs : nameOk s = true) (hf : find M.now s = some i) (hr : M.row i = ⟨[], 0⟩) : M.sizeE s = (0, 0) ∧ M.readE s 0 0 = ([], 0) := by
  constructor
  · unfold Dm.sizeE
    rw [if_pos (Dm.why_yes hs hf), hf, Option.map_some, hr]
    rfl
  · unfold Dm.readE
    rw [if_pos ⟨by omega, by omega⟩, if_pos (Dm.why_yes hs hf), hf, Option.map_some, hr]
    rfl
/-- What Open finds at a name. -/
theorem lk_ways {l : List Nat} {c : Nat} (hc : c ≤ 63) (ok : (lk l c).ok) (s : ByteArray) :
    (nameOk s = false ∧ (lk l c).sizeE s = (0, 1)) ∨ (nameOk s = true ∧ s ≠ jn ∧ find (lk l c).now s = none ∧ (lk l c).sizeE s = (0, 7)) ∨ s = jn ∨ (s ≠ jn ∧ (lk l c).sizeE s = (0, 0) ∧ (lk l c).readE s 0 0 = ([], 0)) := by
  cases hs : nameOk s with
  | false =>
    refine .inl ⟨rfl, ?_⟩
    unfold Dm.sizeE Dm.why
    rw [hs]
    rfl
  | true =>
    by_cases hj : s = jn
    · exact .inr (.inr (.inl hj))
    · cases hf : find (lk l c).now s with
      | none =>
        refine .inr (.inl ⟨rfl, hj, rfl, ?_⟩)
        unfold Dm.sizeE Dm.why
        rw [hs, hf]
        rfl
      | some i =>
        obtain ⟨k, r, h1, h2, _, _, h5⟩ := ok.found hs hf
        refine .inr (.inr (.inr ⟨hj, empty_of hs hf ?_⟩))
        rw [h5]
        rcases lk_at hc h1 with ⟨_, h9⟩ | ⟨i', h8, _, h9⟩ | ⟨_, _, h9⟩
        · have := congrArg Pl.name h9
          exact absurd this hj
        · have h7 := congrArg Pl.file h9
          cases h7
          exact repl_get (k := c) (i := i') h2
        · have := congrArg Pl.file h9
          cases this
/-- A file that was made. -/
theorem lk1_read {l : List Nat} {c : Nat} {s : ByteArray} : ((lk1 l c s).readE s 0 0).1 = [] := by
  unfold Dm.readE
  rw [if_pos ⟨by omega, by omega⟩]
  split
  · simp only [Int.toNat_zero, List.drop_zero, List.take_zero]
    split <;> rfl
  · rfl
end Go.Proofs.YtjfejpdeccnlnaaDoor
