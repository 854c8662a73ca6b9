/- Layer 17 (files): lists of names that read as lists; bytes as texts; what is seen of two disks that are alike; A file's size is bounded -/
import Derived.Test.YtidhlbhfhfonoaaGreatDoorJZXG08
import Derived.Laws.BytesArg
import Derived.Shelf.Bytes.SlSmallAll
namespace Go.Proofs.YtidhlbhfhfonoaaGreatDoor
open Go.ChangeShapes Go.WideShapes Go.ChangeAt Go.RowKit

/-! ### Slices of strings that read as a list -/
def SAt (w : World) (v : Value) (L : List ByteArray) : Prop :=
  ∃ (ao : Option Addr) (cap : Nat), v = .slice ao L.length cap ∧ L.length ≤ cap ∧ cap ≤ maxLen ∧ (ao = none → cap = 0) ∧
    (0 < L.length → ∃ b o, ao = some ⟨b, o, none⟩ ∧ ∀ (i : Nat) (s : ByteArray), L[i]? = some s → w.cell? ⟨b, o + i, none⟩ = some (.string s))
theorem SAt.later {w w' : World} {v : Value} {L : List ByteArray} (h : SAt w v L) (hb : Below w.heap.size w w') : SAt w' v L := by
  obtain ⟨ao, cap, h1, h2, h3, h4, h5⟩ := h
  exact ⟨ao, cap, h1, h2, h3, h4, fun h0 => by obtain ⟨b, o, h6, h7⟩ := h5 h0; exact ⟨b, o, h6, fun i s hs => cell_on (h7 i s hs) hb⟩⟩
theorem OwnS.at_ {w : World} {base : Nat} {v : Value} {L : List ByteArray} (h : OwnS w base v L) : SAt w v L := by
  have hc := h
  rcases h.2 with ⟨rfl, h6⟩ | ⟨g, o, cap, cur, rfl, _⟩
  · have : L = [] := List.length_eq_zero_iff.1 h6
    subst this
    exact ⟨none, 0, rfl, Nat.le_refl _, Nat.zero_le _, fun _ => rfl, fun h0 => absurd h0 (Nat.lt_irrefl _)⟩
  · obtain ⟨_, h2, h3, _⟩ := own_cap h
    refine ⟨_, cap, rfl, h2, h3, (fun h => by cases h), fun _ => ⟨g, o, rfl, fun i s hs => ?_⟩⟩
    have := OwnV.cells hc i (.string s) (by rw [strs_get, hs]; rfl)
    rwa [Addr.add_lit] at this
/-- The same texts. -/
theorem texts_same (L : List ByteArray) {u v : Value} (w : World) (hu : SAt w u L) (hv : SAt w v L) :
    Calls Tryz.prog 56 #[u, v] w fun e w' => e = .returned (.bool true) ∧ ∃ n, w' = w.drewN n := by
  obtain ⟨ao, cap, rfl, hc1, hc2, hc3, hc4⟩ := hu
  obtain ⟨bo, bap, rfl, hd1, hd2, hd3, hd4⟩ := hv
  unfold maxLen at hc2 hd2
  by_cases h0 : 0 < L.length
  · obtain ⟨g, o, rfl, h5⟩ := hc4 h0
    obtain ⟨h, p, rfl, h6⟩ := hd4 h0
    have H5 := Lib.hid h5
    have H6 := Lib.hid h6
    clear hc4 hd4 h5 h6 hc3 hd3
    go_enter Tryz.func56, Tryz.ntmps56
    go_wp2
    go_loopw [5] (fun i wr => ∃ i' n : Nat, i' ≤ L.length ∧ i = .int .i64 i' ∧ wr = w.drewN n) (fun i _ => L.length - (intOf i).toNat)
    case atStart => exact ⟨0, 0, Nat.zero_le _, rfl, rfl⟩
    case round =>
      obtain ⟨i, n, hi, rfl, rfl⟩ := hrel
      by_cases hlt : i < L.length
      · obtain ⟨x, hx⟩ : ∃ x, L[i]? = some x := ⟨_, List.getElem?_eq_getElem hlt⟩
        have cx := H5.out i x hx
        have cy := H6.out i x hx
        clear hx
        go_wp2
        go_quiet (fail)
        go_wp2
        go_roundw
        case rel => exact ⟨i + 1, _, by omega, by go_num, rfl⟩
        case measure => simp [intOf]; omega
      · obtain rfl : i = L.length := by omega
        go_wp2
        go_ret
        exact ⟨rfl, n, rfl⟩
  · have ha : L = [] := List.length_eq_zero_iff.1 (by omega)
    subst ha
    clear h0 hc4 hd4
    go_enter Tryz.func56, Tryz.ntmps56
    go_wp2
    refine wp_loop_rounds 1 ?_
    rw [rounds_succ]
    go_wp2
    go_ret
    exact ⟨rfl, 0, rfl⟩

/-! ### All bytes of a file -/
def bstr (l : List Nat) : ByteArray := ⟨(l.map UInt8.ofNat).toArray⟩
theorem conv_any {w : World} {v : Value} {l : List Nat} (h : KAt .u8 w v l) : (convert 58 9 v).run Tryz.prog w = .ok (.string (bstr l)) w := by
  obtain ⟨ao, cap, rfl, h1, h2, h3, h4⟩ := h
  by_cases h0 : 0 < l.length
  · obtain ⟨b, o, rfl, hc⟩ := h4 h0
    have := run_convert_bytes_arg (P := Tryz.prog) w 58 5 Tryz.underlying58 Tryz.underlying5 b o l.length cap (l.map fun x : Nat => (x : Int)) (by simp) (fun i hi => by
      rw [hc i l[i] (List.getElem?_eq_getElem hi)]
      simp [hi]) 9 Tryz.underlying9
    rw [this]
    simp [strOfNums, bstr, Function.comp_def]
  · have : l = [] := List.length_eq_zero_iff.1 (by omega)
    subst this
    exact run_convert_bytes_zero w 58 5 Tryz.underlying58 Tryz.underlying5 ao cap 9 Tryz.underlying9
/-! ### Two disks that show the same -/
theorem sortB_mem {L : List ByteArray} {s : ByteArray} (h : s ∈ sortB L) : s ∈ L := by
  unfold sortB at h
  obtain ⟨l, hl, rfl⟩ := List.mem_map.1 h
  rw [List.mem_mergeSort] at hl
  obtain ⟨s, hs, rfl⟩ := List.mem_map.1 hl
  exact hs
theorem list_ok {M : Dm} (h : M.ok) {s : ByteArray} (hs : s ∈ M.list) : nameOk s = true := by
  have h1 := sortB_mem hs
  unfold namesOf at h1
  obtain ⟨p, hp, rfl⟩ := List.mem_map.1 h1
  obtain ⟨hp, hf⟩ := List.mem_filter.1 hp
  obtain ⟨i, hi⟩ := List.mem_iff_getElem?.1 hp
  refine h.now.may i p hi (fun e => ?_)
  rw [(h.now.file i p hi).1.1 e] at hf
  cases hf
theorem nameOk_size {s : ByteArray} (h : nameOk s = true) : s.size ≤ 16 := by
  unfold nameOk at h
  simp only [Bool.and_eq_true, decide_eq_true_eq] at h
  exact h.1.2
theorem list_len {M : Dm} (h : M.ok) : M.list.length ≤ 64 := by
  unfold Dm.list
  rw [sortB_length]
  have := namesOf_le M.now
  have := h.nl
  omega
/-- Two disks side by side. -/
structure Two (w : World) (base C D : Nat) (M M' : Dm) : Prop where
  c : ∃ S S', Dk w base C M S ∧ Dk w base D M' S' ∧ ∀ g, S g → ¬ S' g
theorem Dk.other {w w' : World} {base D : Nat} {M : Dm} {S S' : Nat → Prop} (h : Dk w base D M S') (hc : Chg w w' S) (hd : ∀ g, S g → ¬ S' g) : Dk w' base D M S' := by
  obtain ⟨⟨rb, rv, h1, h2⟩, h3⟩ := h
  exact ⟨⟨rb, rv, h1.kept fun g hg => hc.block g (h3 g (h2 g hg)).2 (fun hs => hd g hs (h2 g hg)), h2⟩, fun g hg => ⟨(h3 g hg).1, Nat.lt_of_lt_of_le (h3 g hg).2 hc.size⟩⟩
end Go.Proofs.YtidhlbhfhfonoaaGreatDoor
namespace Go.Proofs.YtidhlbhfhfonoaaGreatDoor
open Go.ChangeShapes Go.WideShapes Go.ChangeAt Go.RowKit
theorem sizeE_le {M : Dm} (h : M.ok) (s : ByteArray) : (M.sizeE s).1 ≤ 1048576 := by
  unfold Dm.sizeE
  split
  · cases hf : find M.now s with
    | none => simp
    | some i =>
      simp only [Option.map_some, Option.getD_some]
      rcases M.ways s with ⟨hok, j, hj⟩ | hno
      · obtain ⟨k, r, _, h2, _, _, h5⟩ := h.found hok hj
        rw [hf] at hj
        cases hj
        rw [h5]
        exact (h.rl k r h2).1
      · exact absurd ‹_› hno
  · simp
end Go.Proofs.YtidhlbhfhfonoaaGreatDoor
