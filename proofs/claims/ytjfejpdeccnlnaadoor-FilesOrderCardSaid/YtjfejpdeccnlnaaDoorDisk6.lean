/- Layer 17 (files): Sync, Names, Left, Append. -/
import Derived.Test.YtjfejpdeccnlnaaDoorDisk5
namespace Go.Proofs.YtjfejpdeccnlnaaDoor
open Go.ChangeShapes Go.WideShapes Go.ChangeAt Go.RowKit

theorem foot_setRow {D : Nat} {M : Dm} {rb : Nat → Nat} {rv : Nat → Value} {k g : Nat} {r' : Rw} {v' : Value} {n : Nat} (hk : k < M.rows.length) (hv : v'.ownBlock = (rv k).ownBlock ∨ ∀ g, v'.ownBlock = some g → n ≤ g)
    (hg : Foot D { M with rows := M.rows.set k r' } rb (fun j => if j = k then v' else rv j) g) : Foot D M rb rv g ∨ n ≤ g := by
  rcases hg with rfl | ⟨j, hj, hg⟩
  · exact .inl (.inl rfl)
  · have hj' : j < M.rows.length := by simpa using hj
    by_cases hjk : j = k
    · subst hjk
      simp only [if_pos] at hg
      rcases hg with hg | hg
      · exact .inl (.inr ⟨j, hj', .inl hg⟩)
      · rcases hv with hv | hv
        · exact .inl (.inr ⟨j, hj', .inr (hv ▸ hg)⟩)
        · exact .inr (hv g hg)
    · simp only [if_neg hjk] at hg
      exact .inl (.inr ⟨j, hj', hg⟩)
theorem RowAt.mark {w : World} {base b : Nat} {v : Value} {r : Rw} (h : RowAt w base b v r) (hv : v.ownBlock ≠ some b) (m : Nat) : RowAt (w.setCell ⟨b, 1, none⟩ (.int .i64 m)) base b v ⟨r.l, m⟩ := by
  refine ⟨?_, h.own.block fun g hg => Below.heap_setCell _ _ _ _ (fun e => hv (by rw [hg, e]))⟩
  rw [heap_setCell_same w b 1 _ _ _ h.blk]
  rfl
set_option maxRecDepth 20000 in
set_option maxHeartbeats 1500000 in
theorem Sync_any {w : World} {base D : Nat} {M : Dm} {S : Nat → Prop} (hd : Dk w base D M S) (s : ByteArray) (hs : s.size ≤ 140737488355328) :
    Calls Tryd.prog 21 #[.pointer (some ⟨D, 0, none⟩), .string s] w (Errs w base D S (M.sync s)) := by
  have HD := Lib.hid hd
  obtain ⟨⟨rb, rv, h, hS⟩, _⟩ := hd
  rcases M.ways s with ⟨hok, i, hf⟩ | hno
  · obtain ⟨k, r, h1, h2, h3, h4, h5⟩ := h.ok.found hok hf
    rw [show M.sync s = ({ M with rows := M.rows.set k ⟨r.l, r.l.length⟩ }, 0) by rw [Dm.sync, Dm.at_yes hok hf, h4, h5]]
    have HF := Lib.hid (finds_yes h s hs hok i hf)
    have c2 := (h.place h1).2
    have H := Lib.hid h
    have HS := Lib.hid hS
    have HR := Lib.hid h2
    have hrl := h.ok.rl k r h2
    have HOK := Lib.hid (h.ok.setRow (k := k) (r := ⟨r.l, r.l.length⟩) hrl.1 (Nat.le_refl _) hrl.2.2)
    have C2 := Lib.hid (fun w1 (hb : Below w.heap.size w w1) => cell_on c2 hb)
    have hk : k < M.rows.length := (List.getElem?_eq_some_iff.1 h2).1
    clear h hS h1 h2 h4 h5 hf hok c2 hrl
    go_enter Tryd.func21, Tryd.ntmps21
    go_wp2_with fail
    refine HF.out.mono ?_
    rintro _ w1 ⟨rfl, hb⟩
    have HB := Lib.hid hb
    have c2 : w1.cell? ⟨D, 1 + i * 2 + 1, none⟩ = some (.pointer (some ⟨rb k, 0, none⟩)) := C2.out w1 hb
    have H1 := H.out.later hb
    have hrow := H1.row k r HR.out
    obtain ⟨c3, c4⟩ := hrow.cells
    obtain ⟨a, c, hv⟩ := hrow.own.sl
    rw [hv] at c3
    have f1 := frozen_row hrow.blk 1
    have hkb := (H1.foot _ (.inr ⟨k, hk, .inl rfl⟩)).2
    have HV := Lib.hid hv
    have HH := Lib.hid H1
    clear hb H1 hrow hv
    go_wp2_with fail
    go_still_tail 14, (by kernel_rfl)
    change wpList _ _ _ _ _ w1.drew
    go_wp2_with fail
    go_ret
    have hset := HH.out.setRow (w' := w1.setCell ⟨rb k, 1, none⟩ (.int .i64 (r.l.length : Nat))) HR.out HOK.out (fun g _ h1 _ => Below.heap_setCell _ _ _ _ h1) ((HH.out.row k r HR.out).mark (HH.out.two k k hk hk).1 r.l.length) (.inl rfl)
    exact ⟨rfl, dn_of HD.out (hset.later ((Below.refl _ _).drew)) (((Chg.of_below HB.out S).setCell (.inl (HS.out _ (.inr ⟨k, hk, .inl rfl⟩))) _).drew) (fun g hg => (foot_setRow (n := w.heap.size) hk (.inl rfl) hg).imp_left (HS.out g))⟩
  · rw [show M.sync s = (M, M.why true s) from Dm.at_no hno]
    have HF := Lib.hid (finds_no h true s hs hno)
    obtain ⟨e, he⟩ : ∃ e, M.why true s = e := ⟨_, rfl⟩
    rw [he] at HF hno ⊢
    have hn : ((e : Int) == 0) = false := by simp; omega
    clear h he hS
    go_enter Tryd.func21, Tryd.ntmps21
    go_wp2_with fail
    refine HF.out.mono ?_
    rintro _ w1 ⟨rfl, hb⟩
    have HB := Lib.hid hb
    clear hb
    go_wp2_with fail
    go_ret
    exact ⟨rfl, HD.out.looked HB.out⟩
theorem ptr_one (rb : Nat → Nat) (f : Option Nat) : (ptrOf rb f).oneCell' = true := by cases f <;> rfl
theorem tab_one (rb : Nat → Nat) : ∀ (t : List Pl), ∀ v ∈ tab rb t, v.oneCell' = true
  | [], v, h => by cases h
  | p :: t, v, h => by
    simp only [tab, List.mem_cons] at h
    rcases h with rfl | rfl | h
    · rfl
    · exact ptr_one _ _
    · exact tab_one rb t v h
theorem DiskAt.there {w : World} {base D : Nat} {M : Dm} {rb : Nat → Nat} {rv : Nat → Value} (h : DiskAt w base D M rb rv) {o n : Nat} (hn : o + n ≤ 257) : w.there D o n := fun j hj => by
  refine ⟨?_, h.free _⟩
  rw [cell_of_row _ D (o + j) _ _ (0, 0) h.blk]
  rw [List.getElem?_toArray, List.getElem?_eq_getElem (by rw [dc_length h.ok]; omega)]
  rfl
set_option maxRecDepth 20000 in
set_option maxHeartbeats 1500000 in
theorem Names_any {w : World} {base D : Nat} {M : Dm} {S : Nat → Prop} (hd : Dk w base D M S) :
    Calls Tryd.prog 22 #[.pointer (some ⟨D, 0, none⟩)] w (Errs w base D S (M.names, 0)) := by
  have HD := Lib.hid hd
  obtain ⟨⟨rb, rv, h, hS⟩, _⟩ := hd
  have H := Lib.hid h
  have HS := Lib.hid hS
  have c0 := h.size
  have hsz := h.ok.size.1
  have HN := Lib.hid h.now
  have HT := Lib.hid (h.there (o := 129) (n := 128) (by omega))
  have HL := Lib.hid (show (tab rb M.now).length = 128 by rw [tab_length, h.ok.nl])
  have HO := Lib.hid (tab_one rb M.now)
  have HA := Lib.hid h.names
  obtain ⟨cs, hcs⟩ : ∃ cs, cs = tab rb M.now := ⟨_, rfl⟩
  rw [← hcs] at HN HL HO HA
  clear h hS hcs
  go_enter Tryd.func22, Tryd.ntmps22
  go_wp2_with (first
    | (refine wpList_load_mid rfl 70 _ rfl D 1 rfl cs _ HN.out Tryd.underlying70 rfl (by rw [HL.out]; kernel_rfl) ?_)
    | (refine wpList_store_mid rfl 70 _ _ rfl D 129 cs.toArray rfl rfl (by rw [List.size_toArray, HL.out]; exact HT.out) (by rw [List.size_toArray, HL.out]; kernel_rfl) (all_oneCell_toArray HO.out) ?_))
  go_ret
  exact ⟨rfl, dn_of HD.out HA.out ((Chg.refl w S).setCells (.inl (HS.out D (.inl rfl))) _ _) (fun g hg => .inl (HS.out g hg))⟩

/-! ### The table's places -/
theorem index_tab {t : List Pl} (rb : Nat → Nat) {i : Nat} {p : Pl} (h : t[i]? = some p) (hl : t.length = 64) (w : World) :
    (Instr.index 70 (.agg (tab rb t).toArray) (.int .i64 i)).run Tryd.prog w = .ok (.agg #[.string p.name, ptrOf rb p.file]) w := by
  have hu := fun w => run_underlying (P := Tryd.prog) Tryd.underlying70 w
  have hs : (sizeOf 68).run Tryd.prog w = .ok 2 w := by go_simp
  have ha : (isAgg 68).run Tryd.prog w = .ok true w := by go_simp
  have hi : i < 64 := by have := (List.getElem?_eq_some_iff.1 h).1; omega
  have ht := tab_length rb t
  obtain ⟨g1, g2⟩ := tab_get rb h
  have hp : (tab rb t).toArray.extract (i * 2) (i * 2 + 2) = #[.string p.name, ptrOf rb p.file] := by
    apply Array.ext'
    rw [Array.toList_extract]
    simp only [List.extract_eq_take_drop]
    rw [show i * 2 + 2 - i * 2 = 2 by omega]
    have e0 : (tab rb t).drop (i * 2) = .string p.name :: ptrOf rb p.file :: (tab rb t).drop (i * 2 + 2) := by
      rw [List.drop_eq_getElem_cons (by omega), List.drop_eq_getElem_cons (by omega)]
      rw [List.getElem?_eq_getElem (by omega)] at g1 g2
      rw [Option.some.inj g1, Option.some.inj g2]
    rw [e0]
    rfl
  unfold Instr.index
  simp only [asIntOf, Sem.run_bind, Sem.run_pure, Result.andThen_ok, hu]
  rw [if_pos ⟨by omega, by omega⟩]
  simp only [Sem.run_bind, hs, Result.andThen_ok, part, ha, Int.toNat_natCast, if_true, Sem.run_pure, hp]
theorem used_take (M : Dm) {t : List Pl} {i : Nat} {p : Pl} (h : t[i]? = some p) : used M (t.take (i + 1)) = used M (t.take i) + (rowOf M p).l.length := by
  unfold used
  rw [List.take_add_one, h]
  simp
theorem used_le {M : Dm} (h : M.ok) : ∀ (t : List Pl), used M t ≤ t.length * 1048576
  | [] => by simp [used]
  | p :: t => by
    have h1 := used_le h t
    have h2 : (rowOf M p).l.length ≤ 1048576 := by
      unfold rowOf
      split
      · rename_i k _
        by_cases hk : k < M.rows.length
        · rw [List.getD_eq_getElem?_getD, List.getElem?_eq_getElem hk]
          exact (h.rl k _ (List.getElem?_eq_getElem hk)).1
        · rw [List.getD_eq_getElem?_getD, List.getElem?_eq_none (by omega)]
          simp
      · simp
    simp only [used, List.map_cons, List.sum_cons, List.length_cons] at h1 ⊢
    omega
set_option maxRecDepth 20000 in
set_option maxHeartbeats 1500000 in
theorem Left_any {w : World} {base D : Nat} {M : Dm} {S : Nat → Prop} (hd : Dk w base D M S) :
    Calls Tryd.prog 14 #[.pointer (some ⟨D, 0, none⟩)] w fun e w' => e = .returned (.int .i64 M.left) ∧ Below w.heap.size w w' := by
  obtain ⟨⟨rb, rv, h, hS⟩, _⟩ := hd
  have H := Lib.hid h
  have c0 := h.size
  have hsz := h.ok.size
  have HN := Lib.hid h.now
  have HL := Lib.hid (show (tab rb M.now).length = 128 by rw [tab_length, h.ok.nl])
  have HI := Lib.hid (fun (i : Nat) (p : Pl) (hp : M.now[i]? = some p) (w : World) => index_tab rb hp h.ok.nl w)
  have HU := Lib.hid (fun (k : Nat) (hk : k ≤ 64) => (show used M (M.now.take k) ≤ 64 * 1048576 from Nat.le_trans (used_le h.ok _) (Nat.mul_le_mul_right _ (by rw [List.length_take]; omega))))
  have HNL := Lib.hid h.ok.nl
  obtain ⟨cs, hcs⟩ : ∃ cs, cs = tab rb M.now := ⟨_, rfl⟩
  rw [← hcs] at HN HL HI
  clear h hS hcs
  go_enter Tryd.func14, Tryd.ntmps14
  go_wp2_with (refine wpList_load_mid rfl 70 _ rfl D 1 rfl cs _ HN.out Tryd.underlying70 rfl (by rw [HL.out]; kernel_rfl) ?_)
  go_loopw [2, 15] (fun l i wr => ∃ k u : Nat, k ≤ 64 ∧ i = .int .i64 k ∧ u ≤ 64 * 1048576 ∧ l = .int .i64 ((M.size : Int) - (u : Int)) ∧ Hid (used M (M.now.take k) = u) ∧ Below w.heap.size w wr) (fun _ i _ => 64 - (intOf i).toNat)
  case atStart => exact ⟨0, 0, Nat.zero_le _, rfl, Nat.zero_le _, by simp, Lib.hid rfl, Below.refl _ _⟩
  case round =>
    obtain ⟨k, u, hk, rfl, hu, rfl, hus, hb⟩ := hrel
    have HB := Lib.hid hb
    have h0 := HU.out
    by_cases hlt : k < 64
    · obtain ⟨p, hp⟩ : ∃ p, M.now[k]? = some p := ⟨_, List.getElem?_eq_getElem (by have := HNL.out; omega)⟩
      have hi := HI.out k p hp
      have hut := used_take M hp
      have hu2 := h0 (k + 1) (by omega)
      rw [hut, hus.out] at hu2
      cases hf : p.file with
      | none =>
        have hr0 : (rowOf M p).l.length = 0 := by simp [rowOf, hf]
        rw [hr0, hus.out] at hut
        have HT := Lib.hid hut
        have hi2 : ∀ w, (Instr.index 70 (.agg cs.toArray) (.int .i64 k)).run Tryd.prog w = .ok (.agg #[.string p.name, .pointer none]) w := by rw [hf] at hi; exact hi
        clear hb hp hi hut hu2 hf hr0 h0
        go_wp2_with fail
        go_round
        case rel => exact ⟨k + 1, u, by omega, by go_num, hu, rfl, Lib.hid HT.out, HB.out.alloc HB.out.size _⟩
        case measure => simp [intOf]; omega
      | some j =>
        obtain ⟨_, hj⟩ := H.out.ok.now.file k p hp
        have hj := hj j hf
        obtain ⟨r, hr⟩ : ∃ r, M.rows[j]? = some r := ⟨_, List.getElem?_eq_getElem hj⟩
        have hr0 : (rowOf M p).l.length = r.l.length := by simp [rowOf, hf, List.getD, hr]
        rw [hr0] at hut hu2
        rw [hus.out] at hut
        have HT := Lib.hid hut
        have hi2 : ∀ w, (Instr.index 70 (.agg cs.toArray) (.int .i64 k)).run Tryd.prog w = .ok (.agg #[.string p.name, .pointer (some ⟨rb j, 0, none⟩)]) w := by rw [hf] at hi; exact hi
        have hrow := (H.out.later hb).row j r hr
        obtain ⟨c1, _⟩ := hrow.cells
        obtain ⟨a, c, hv⟩ := hrow.own.sl
        rw [hv] at c1
        have hjs := World.block_lt_of_cell? (a := ⟨rb j, 0, none⟩) _ c1
        have d1 : ∀ ob, (wr.alloc ob).cell? ⟨rb j, 0, none⟩ = some (.slice a r.l.length c) := fun ob => (World.cell?_alloc_lt wr ob ⟨rb j, 0, none⟩ hjs).trans c1
        clear hb hp hi hut hf hr0 h0 hrow hv c1 hr
        go_wp2_with fail
        go_round
        case rel => exact ⟨k + 1, u + r.l.length, by omega, by go_num, hu2, by go_num, Lib.hid HT.out, HB.out.alloc HB.out.size _⟩
        case measure => simp [intOf]; omega
    · obtain rfl : k = 64 := by omega
      have hfin : used M M.now = u := by have := hus.out; rwa [List.take_of_length_le (by have := HNL.out; omega)] at this
      have HF := Lib.hid hfin
      clear hb hus hfin h0
      have e : M.left = M.size - u := by unfold Dm.left; rw [HF.out]
      by_cases hle : u ≤ M.size
      · have h1 : (0 : Int) ≤ (M.size : Int) - (u : Int) := by omega
        go_wp2_with fail
        go_ret
        exact ⟨by rw [e]; go_num, HB.out⟩
      · have h1 : (M.size : Int) - (u : Int) < 0 := by omega
        go_wp2_with fail
        go_ret
        exact ⟨by rw [e]; go_num, HB.out⟩
end Go.Proofs.YtjfejpdeccnlnaaDoor
