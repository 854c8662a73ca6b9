/- Layer 17 (files): lists of names that read as lists; bytes as texts; what is seen of two disks that are alike. -/
import Derived.Test.YtidhlbhfhfonoaaGreatDoorDisk11
import Derived.Laws.BytesArg
import Derived.Shelf.Bytes.SlSmallAll
namespace Go.Proofs.YtidhlbhfhfonoaaGreatDoor
open Go.ChangeShapes Go.WideShapes Go.ChangeAt Go.RowKit

/-! ### Slices of strings that read as a list -/
def SAt (w : World) (v : Value) (L : List ByteArray) : Prop :=
  ∃ (ao : Option Addr) (cap : Nat), v = .slice ao L.length cap ∧ L.length ≤ cap ∧ cap ≤ maxLen ∧ (ao = none → cap = 0) ∧
    (0 < L.length → ∃ b o, ao = some ⟨b, o, none⟩ ∧ ∀ (i : Nat) (s : ByteArray), L[i]? = some s → w.cell? ⟨b, o + i, none⟩ = some (.string s))
theorem SAt.later {w w' : World} {v : Value} {L : List ByteArray} (h : SAt w v L) (hb : Below w.heap.size w w') : SAt w' v L := by
  obtain ⟨ao, cap, h1, h2, h3, h4, h5⟩ := h
  exact ⟨ao, cap, h1, h2, h3, h4, fun h0 => by obtain ⟨b, o, h6, h7⟩ := h5 h0; exact ⟨b, o, h6, fun i s hs => cell_on (h7 i s hs) hb⟩⟩
theorem OwnS.at_ {w : World} {base : Nat} {v : Value} {L : List ByteArray} (h : OwnS w base v L) : SAt w v L := by
  have hc := h
  rcases h.2 with ⟨rfl, h6⟩ | ⟨g, o, cap, cur, rfl, _⟩
  · have : L = [] := List.length_eq_zero_iff.1 h6
    subst this
    exact ⟨none, 0, rfl, Nat.le_refl _, Nat.zero_le _, fun _ => rfl, fun h0 => absurd h0 (Nat.lt_irrefl _)⟩
  · obtain ⟨_, h2, h3, _⟩ := own_cap h
    refine ⟨_, cap, rfl, h2, h3, (fun h => by cases h), fun _ => ⟨g, o, rfl, fun i s hs => ?_⟩⟩
    have := OwnV.cells hc i (.string s) (by rw [strs_get, hs]; rfl)
    rwa [Addr.add_lit] at this
/-- The same texts. -/
theorem texts_same (L : List ByteArray) {u v : Value} (w : World) (hu : SAt w u L) (hv : SAt w v L) :
    Calls Tryz.prog 56 #[u, v] w fun e w' => e = .returned (.bool true) ∧ ∃ n, w' = w.drewN n := by
  obtain ⟨ao, cap, rfl, hc1, hc2, hc3, hc4⟩ := hu
  obtain ⟨bo, bap, rfl, hd1, hd2, hd3, hd4⟩ := hv
  unfold maxLen at hc2 hd2
  by_cases h0 : 0 < L.length
  · obtain ⟨g, o, rfl, h5⟩ := hc4 h0
    obtain ⟨h, p, rfl, h6⟩ := hd4 h0
    have H5 := Lib.hid h5
    have H6 := Lib.hid h6
    clear hc4 hd4 h5 h6 hc3 hd3
    go_enter Tryz.func56, Tryz.ntmps56
    go_wp2
    go_loopw [5] (fun i wr => ∃ i' n : Nat, i' ≤ L.length ∧ i = .int .i64 i' ∧ wr = w.drewN n) (fun i _ => L.length - (intOf i).toNat)
    case atStart => exact ⟨0, 0, Nat.zero_le _, rfl, rfl⟩
    case round =>
      obtain ⟨i, n, hi, rfl, rfl⟩ := hrel
      by_cases hlt : i < L.length
      · obtain ⟨x, hx⟩ : ∃ x, L[i]? = some x := ⟨_, List.getElem?_eq_getElem hlt⟩
        have cx := H5.out i x hx
        have cy := H6.out i x hx
        clear hx
        go_wp2
        go_quiet (fail)
        go_wp2
        go_roundw
        case rel => exact ⟨i + 1, _, by omega, by go_num, rfl⟩
        case measure => simp [intOf]; omega
      · obtain rfl : i = L.length := by omega
        go_wp2
        go_ret
        exact ⟨rfl, n, rfl⟩
  · have ha : L = [] := List.length_eq_zero_iff.1 (by omega)
    subst ha
    clear h0 hc4 hd4
    go_enter Tryz.func56, Tryz.ntmps56
    go_wp2
    refine wp_loop_rounds 1 ?_
    rw [rounds_succ]
    go_wp2
    go_ret
    exact ⟨rfl, 0, rfl⟩

/-! ### All bytes of a file -/
def bstr (l : List Nat) : ByteArray := ⟨(l.map UInt8.ofNat).toArray⟩
theorem conv_any {w : World} {v : Value} {l : List Nat} (h : KAt .u8 w v l) : (convert 58 9 v).run Tryz.prog w = .ok (.string (bstr l)) w := by
  obtain ⟨ao, cap, rfl, h1, h2, h3, h4⟩ := h
  by_cases h0 : 0 < l.length
  · obtain ⟨b, o, rfl, hc⟩ := h4 h0
    have := run_convert_bytes_arg (P := Tryz.prog) w 58 5 Tryz.underlying58 Tryz.underlying5 b o l.length cap (l.map fun x : Nat => (x : Int)) (by simp) (fun i hi => by
      rw [hc i l[i] (List.getElem?_eq_getElem hi)]
      simp [hi]) 9 Tryz.underlying9
    rw [this]
    simp [strOfNums, bstr, Function.comp_def]
  · have : l = [] := List.length_eq_zero_iff.1 (by omega)
    subst this
    exact run_convert_bytes_zero w 58 5 Tryz.underlying58 Tryz.underlying5 ao cap 9 Tryz.underlying9
def Dm.allB (M : Dm) (s : ByteArray) : List Nat := (M.readE s 0 (M.sizeE s).1).1
/-! ### Two disks that show the same -/
theorem see_names {rows rows' : List Rw} {t t' : List Pl} (h : view rows t = view rows' t') : namesOf t = namesOf t' := by
  have e : ∀ (rows : List Rw) (t : List Pl), namesOf t = ((view rows t).filter fun x => x.2.isSome).map Prod.fst := by
    intro rows t
    unfold namesOf view
    rw [List.filter_map, List.map_map]
    congr 1
    refine List.filter_congr fun p _ => ?_
    simp
  rw [e rows t, e rows' t', h]
theorem rowOf_see (M : Dm) (p : Pl) : (rowOf M p).l.length = ((p.file.map fun k => M.rows.getD k noRow).map fun r => r.l.length).getD 0 := by
  unfold rowOf
  cases p.file <;> rfl
theorem used_see {M M' : Dm} {t t' : List Pl} (h : view M.rows t = view M'.rows t') : used M t = used M' t' := by
  have e : ∀ (M : Dm) (t : List Pl), used M t = ((view M.rows t).map fun x => (x.2.map fun r => r.l.length).getD 0).sum := by
    intro M t
    unfold used view
    rw [List.map_map]
    congr 1
    exact List.map_congr_left fun p _ => rowOf_see M p
  rw [e M t, e M' t', h]
theorem find_see {rows rows' : List Rw} {t t' : List Pl} (h : view rows t = view rows' t') (s : ByteArray) : find t s = find t' s := by
  have e : ∀ (rows : List Rw) (t : List Pl), find t s = (view rows t).findIdx? (fun x => decide (x.1 = s)) := by
    intro rows t
    unfold find view
    rw [List.findIdx?_map]
    rfl
  rw [e rows t, e rows' t', h]
theorem row_see {M M' : Dm} (h : M.see = M'.see) (ok : M.ok) (ok' : M'.ok) {s : ByteArray} (hs : nameOk s = true) {i : Nat} (hf : find M.now s = some i) : M.row i = M'.row i := by
  obtain ⟨k, r, h1, h2, _, _, h5⟩ := ok.found hs hf
  have hf' : find M'.now s = some i := by rw [← find_see h s]; exact hf
  obtain ⟨k', r', h1', h2', _, _, h5'⟩ := ok'.found hs hf'
  rw [h5, h5']
  have e := congrArg (fun l => l[i]?) h
  simp only [Dm.see, view, List.getElem?_map, h1, h1', Option.map_some, Option.some.injEq, Prod.mk.injEq, true_and] at e
  rw [List.getD_eq_getElem?_getD, List.getD_eq_getElem?_getD, h2, h2'] at e
  exact e
theorem why_see {M M' : Dm} (h : M.see = M'.see) (s : ByteArray) : M.why true s = M'.why true s := by
  unfold Dm.why
  rw [find_see h s]
theorem sizeE_see {M M' : Dm} (h : M.see = M'.see) (ok : M.ok) (ok' : M'.ok) (s : ByteArray) : M.sizeE s = M'.sizeE s := by
  unfold Dm.sizeE
  rw [why_see h s]
  rcases M'.ways s with ⟨hok, i, hf⟩ | hno
  · have hf2 : find M.now s = some i := by rw [find_see h s]; exact hf
    rw [hf, hf2, Option.map_some, Option.map_some, row_see h ok ok' hok hf2]
  · rw [if_neg hno, if_neg hno]
theorem readE_see {M M' : Dm} (h : M.see = M'.see) (ok : M.ok) (ok' : M'.ok) (s : ByteArray) (a n : Int) : M.readE s a n = M'.readE s a n := by
  unfold Dm.readE
  rw [why_see h s]
  rcases M'.ways s with ⟨hok, i, hf⟩ | hno
  · have hf2 : find M.now s = some i := by rw [find_see h s]; exact hf
    rw [hf, hf2, Option.map_some, Option.map_some, row_see h ok ok' hok hf2]
  · rw [if_neg hno, if_neg hno]
theorem allB_see {M M' : Dm} (h : M.see = M'.see) (ok : M.ok) (ok' : M'.ok) (s : ByteArray) : M.allB s = M'.allB s := by
  unfold Dm.allB
  rw [sizeE_see h ok ok', readE_see h ok ok']
theorem list_see {M M' : Dm} (h : M.see = M'.see) : M.list = M'.list := by
  unfold Dm.list
  rw [see_names h]
theorem left_see {M M' : Dm} (h : M.see = M'.see) (hs : M.size = M'.size) : M.left = M'.left := by
  unfold Dm.left
  rw [used_see h, hs]
theorem sortB_mem {L : List ByteArray} {s : ByteArray} (h : s ∈ sortB L) : s ∈ L := by
  unfold sortB at h
  obtain ⟨l, hl, rfl⟩ := List.mem_map.1 h
  rw [List.mem_mergeSort] at hl
  obtain ⟨s, hs, rfl⟩ := List.mem_map.1 hl
  exact hs
theorem list_ok {M : Dm} (h : M.ok) {s : ByteArray} (hs : s ∈ M.list) : nameOk s = true := by
  have h1 := sortB_mem hs
  unfold namesOf at h1
  obtain ⟨p, hp, rfl⟩ := List.mem_map.1 h1
  obtain ⟨hp, hf⟩ := List.mem_filter.1 hp
  obtain ⟨i, hi⟩ := List.mem_iff_getElem?.1 hp
  refine h.now.may i p hi (fun e => ?_)
  rw [(h.now.file i p hi).1.1 e] at hf
  cases hf
theorem nameOk_size {s : ByteArray} (h : nameOk s = true) : s.size ≤ 16 := by
  unfold nameOk at h
  simp only [Bool.and_eq_true, decide_eq_true_eq] at h
  exact h.1.2
theorem list_len {M : Dm} (h : M.ok) : M.list.length ≤ 64 := by
  unfold Dm.list
  rw [sortB_length]
  have := namesOf_le M.now
  have := h.nl
  omega
/-- Two disks side by side. -/
structure Two (w : World) (base C D : Nat) (M M' : Dm) : Prop where
  c : ∃ S S', Dk w base C M S ∧ Dk w base D M' S' ∧ ∀ g, S g → ¬ S' g
theorem Two.later {w w' : World} {base C D : Nat} {M M' : Dm} (h : Two w base C D M M') (hb : Below w.heap.size w w') : Two w' base C D M M' := by
  obtain ⟨S, S', h1, h2, h3⟩ := h
  exact ⟨S, S', h1.later hb, h2.later hb, h3⟩
theorem Two.swap {w : World} {base C D : Nat} {M M' : Dm} (h : Two w base C D M M') : Two w base D C M' M := by
  obtain ⟨S, S', h1, h2, h3⟩ := h
  exact ⟨S', S, h2, h1, fun g hg hs => h3 g hs hg⟩
theorem Dk.other {w w' : World} {base D : Nat} {M : Dm} {S S' : Nat → Prop} (h : Dk w base D M S') (hc : Chg w w' S) (hd : ∀ g, S g → ¬ S' g) : Dk w' base D M S' := by
  obtain ⟨⟨rb, rv, h1, h2⟩, h3⟩ := h
  exact ⟨⟨rb, rv, h1.kept fun g hg => hc.block g (h3 g (h2 g hg)).2 (fun hs => hd g hs (h2 g hg)), h2⟩, fun g hg => ⟨(h3 g hg).1, Nat.lt_of_lt_of_le (h3 g hg).2 hc.size⟩⟩
/-- What is done with the first one. -/
theorem Two.first {w w' : World} {base C D : Nat} {M' N : Dm} (S S' : Nat → Prop) (h2 : Dk w base D M' S') (h3 : ∀ g, S g → ¬ S' g) (hn : Dn w w' base C N S) : Two w' base C D N M' :=
  ⟨_, S', hn.dk, h2.other hn.chg h3, fun g hg hs => by
    rcases hg with hg | hg
    · exact h3 g hg hs
    · have := (h2.2 g hs).2; omega⟩
theorem Dn.below {w w' : World} {base D : Nat} {M : Dm} {S : Nat → Prop} (h : Dn w w' base D M S) (hS : ∀ g, S g → base ≤ g) (hb : base ≤ w.heap.size) : Below base w w' := h.chg.below hS hb
end Go.Proofs.YtidhlbhfhfonoaaGreatDoor
