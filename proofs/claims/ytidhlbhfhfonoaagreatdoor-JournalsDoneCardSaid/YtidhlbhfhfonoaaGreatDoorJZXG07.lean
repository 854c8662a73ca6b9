/- Layer 17 (files): Sync, Names, Left, Append; Layer 17 (files): Append, Read, New; Layer 17 (files): New; a disk that is built; Layer 17 (files): List; Layer 17 (files): Fail -/
import Derived.Test.YtidhlbhfhfonoaaGreatDoorJZXG06
import Derived.Test.YtidhlbhfhfonoaaGreatDoorJZXG04
import Derived.Test.YtidhlbhfhfonoaaGreatDoorJZXG01
import Derived.Deep.RegionHeld3
import Derived.Deep.RegionWith
namespace Go.Proofs.YtidhlbhfhfonoaaGreatDoor
open Go.ChangeShapes Go.WideShapes Go.ChangeAt Go.RowKit

theorem foot_setRow {D : Nat} {M : Dm} {rb : Nat → Nat} {rv : Nat → Value} {k g : Nat} {r' : Rw} {v' : Value} {n : Nat} (hk : k < M.rows.length) (hv : v'.ownBlock = (rv k).ownBlock ∨ ∀ g, v'.ownBlock = some g → n ≤ g)
    (hg : Foot D { M with rows := M.rows.set k r' } rb (fun j => if j = k then v' else rv j) g) : Foot D M rb rv g ∨ n ≤ g := by
  rcases hg with rfl | ⟨j, hj, hg⟩
  · exact .inl (.inl rfl)
  · have hj' : j < M.rows.length := by simpa using hj
    by_cases hjk : j = k
    · subst hjk
      simp only [if_pos] at hg
      rcases hg with hg | hg
      · exact .inl (.inr ⟨j, hj', .inl hg⟩)
      · rcases hv with hv | hv
        · exact .inl (.inr ⟨j, hj', .inr (hv ▸ hg)⟩)
        · exact .inr (hv g hg)
    · simp only [if_neg hjk] at hg
      exact .inl (.inr ⟨j, hj', hg⟩)
theorem RowAt.mark {w : World} {base b : Nat} {v : Value} {r : Rw} (h : RowAt w base b v r) (hv : v.ownBlock ≠ some b) (m : Nat) : RowAt (w.setCell ⟨b, 1, none⟩ (.int .i64 m)) base b v ⟨r.l, m⟩ := by
  refine ⟨?_, h.own.block fun g hg => Below.heap_setCell _ _ _ _ (fun e => hv (by rw [hg, e]))⟩
  rw [heap_setCell_same w b 1 _ _ _ h.blk]
  rfl
set_option maxRecDepth 20000 in
set_option maxHeartbeats 1500000 in
theorem Sync_any {w : World} {base D : Nat} {M : Dm} {S : Nat → Prop} (hd : Dk w base D M S) (s : ByteArray) (hs : s.size ≤ 140737488355328) :
    Calls Tryz.prog 37 #[.pointer (some ⟨D, 0, none⟩), .string s] w (Errs w base D S (M.sync s)) := by
  have HD := Lib.hid hd
  obtain ⟨⟨rb, rv, h, hS⟩, _⟩ := hd
  rcases M.ways s with ⟨hok, i, hf⟩ | hno
  · obtain ⟨k, r, h1, h2, h3, h4, h5⟩ := h.ok.found hok hf
    rw [show M.sync s = ({ M with rows := M.rows.set k ⟨r.l, r.l.length⟩ }, 0) by rw [Dm.sync, Dm.at_yes hok hf, h4, h5]]
    have HF := Lib.hid (finds_yes h s hs hok i hf)
    have c2 := (h.place h1).2
    have H := Lib.hid h
    have HS := Lib.hid hS
    have HR := Lib.hid h2
    have hrl := h.ok.rl k r h2
    have HOK := Lib.hid (h.ok.setRow (k := k) (r := ⟨r.l, r.l.length⟩) hrl.1 (Nat.le_refl _) hrl.2.2)
    have C2 := Lib.hid (fun w1 (hb : Below w.heap.size w w1) => cell_on c2 hb)
    have hk : k < M.rows.length := (List.getElem?_eq_some_iff.1 h2).1
    clear h hS h1 h2 h4 h5 hf hok c2 hrl
    go_enter Tryz.func37, Tryz.ntmps37
    go_wp2_with fail
    refine HF.out.mono ?_
    rintro _ w1 ⟨rfl, hb⟩
    have HB := Lib.hid hb
    have c2 : w1.cell? ⟨D, 1 + i * 2 + 1, none⟩ = some (.pointer (some ⟨rb k, 0, none⟩)) := C2.out w1 hb
    have H1 := H.out.later hb
    have hrow := H1.row k r HR.out
    obtain ⟨c3, c4⟩ := hrow.cells
    obtain ⟨a, c, hv⟩ := hrow.own.sl
    rw [hv] at c3
    have f1 := frozen_row hrow.blk 1
    have hkb := (H1.foot _ (.inr ⟨k, hk, .inl rfl⟩)).2
    have HV := Lib.hid hv
    have HH := Lib.hid H1
    clear hb H1 hrow hv
    go_wp2_with fail
    go_still_tail 14, (by kernel_rfl)
    change wpList _ _ _ _ _ w1.drew
    go_wp2_with fail
    go_ret
    have hset := HH.out.setRow (w' := w1.setCell ⟨rb k, 1, none⟩ (.int .i64 (r.l.length : Nat))) HR.out HOK.out (fun g _ h1 _ => Below.heap_setCell _ _ _ _ h1) ((HH.out.row k r HR.out).mark (HH.out.two k k hk hk).1 r.l.length) (.inl rfl)
    exact ⟨rfl, dn_of HD.out (hset.later ((Below.refl _ _).drew)) (((Chg.of_below HB.out S).setCell (.inl (HS.out _ (.inr ⟨k, hk, .inl rfl⟩))) _).drew) (fun g hg => (foot_setRow (n := w.heap.size) hk (.inl rfl) hg).imp_left (HS.out g))⟩
  · rw [show M.sync s = (M, M.why true s) from Dm.at_no hno]
    have HF := Lib.hid (finds_no h true s hs hno)
    obtain ⟨e, he⟩ : ∃ e, M.why true s = e := ⟨_, rfl⟩
    rw [he] at HF hno ⊢
    have hn : ((e : Int) == 0) = false := by simp; omega
    clear h he hS
    go_enter Tryz.func37, Tryz.ntmps37
    go_wp2_with fail
    refine HF.out.mono ?_
    rintro _ w1 ⟨rfl, hb⟩
    have HB := Lib.hid hb
    clear hb
    go_wp2_with fail
    go_ret
    exact ⟨rfl, HD.out.looked HB.out⟩
theorem ptr_one (rb : Nat → Nat) (f : Option Nat) : (ptrOf rb f).oneCell' = true := by cases f <;> rfl
theorem tab_one (rb : Nat → Nat) : ∀ (t : List Pl), ∀ v ∈ tab rb t, v.oneCell' = true
  | [], v, h => by cases h
  | p :: t, v, h => by
    simp only [tab, List.mem_cons] at h
    rcases h with rfl | rfl | h
    · rfl
    · exact ptr_one _ _
    · exact tab_one rb t v h
theorem DiskAt.there {w : World} {base D : Nat} {M : Dm} {rb : Nat → Nat} {rv : Nat → Value} (h : DiskAt w base D M rb rv) {o n : Nat} (hn : o + n ≤ 257) : w.there D o n := fun j hj => by
  refine ⟨?_, h.free _⟩
  rw [cell_of_row _ D (o + j) _ _ (0, 0) h.blk]
  rw [List.getElem?_toArray, List.getElem?_eq_getElem (by rw [dc_length h.ok]; omega)]
  rfl
set_option maxRecDepth 20000 in
set_option maxHeartbeats 1500000 in
theorem Names_any {w : World} {base D : Nat} {M : Dm} {S : Nat → Prop} (hd : Dk w base D M S) :
    Calls Tryz.prog 15 #[.pointer (some ⟨D, 0, none⟩)] w (Errs w base D S (M.names, 0)) := by
  have HD := Lib.hid hd
  obtain ⟨⟨rb, rv, h, hS⟩, _⟩ := hd
  have H := Lib.hid h
  have HS := Lib.hid hS
  have c0 := h.size
  have hsz := h.ok.size.1
  have HN := Lib.hid h.now
  have HT := Lib.hid (h.there (o := 129) (n := 128) (by omega))
  have HL := Lib.hid (show (tab rb M.now).length = 128 by rw [tab_length, h.ok.nl])
  have HO := Lib.hid (tab_one rb M.now)
  have HA := Lib.hid h.names
  obtain ⟨cs, hcs⟩ : ∃ cs, cs = tab rb M.now := ⟨_, rfl⟩
  rw [← hcs] at HN HL HO HA
  clear h hS hcs
  go_enter Tryz.func15, Tryz.ntmps15
  go_wp2_with (first
    | (refine wpList_load_mid rfl 90 _ rfl D 1 rfl cs _ HN.out Tryz.underlying90 rfl (by rw [HL.out]; kernel_rfl) ?_)
    | (refine wpList_store_mid rfl 90 _ _ rfl D 129 cs.toArray rfl rfl (by rw [List.size_toArray, HL.out]; exact HT.out) (by rw [List.size_toArray, HL.out]; kernel_rfl) (all_oneCell_toArray HO.out) ?_))
  go_ret
  exact ⟨rfl, dn_of HD.out HA.out ((Chg.refl w S).setCells (.inl (HS.out D (.inl rfl))) _ _) (fun g hg => .inl (HS.out g hg))⟩

/-! ### The table's places -/
theorem index_tab {t : List Pl} (rb : Nat → Nat) {i : Nat} {p : Pl} (h : t[i]? = some p) (hl : t.length = 64) (w : World) :
    (Instr.index 90 (.agg (tab rb t).toArray) (.int .i64 i)).run Tryz.prog w = .ok (.agg #[.string p.name, ptrOf rb p.file]) w := by
  have hu := fun w => run_underlying (P := Tryz.prog) Tryz.underlying90 w
  have hs : (sizeOf 88).run Tryz.prog w = .ok 2 w := by go_simp
  have ha : (isAgg 88).run Tryz.prog w = .ok true w := by go_simp
  have hi : i < 64 := by have := (List.getElem?_eq_some_iff.1 h).1; omega
  have ht := tab_length rb t
  obtain ⟨g1, g2⟩ := tab_get rb h
  have hp : (tab rb t).toArray.extract (i * 2) (i * 2 + 2) = #[.string p.name, ptrOf rb p.file] := by
    apply Array.ext'
    rw [Array.toList_extract]
    simp only [List.extract_eq_take_drop]
    rw [show i * 2 + 2 - i * 2 = 2 by omega]
    have e0 : (tab rb t).drop (i * 2) = .string p.name :: ptrOf rb p.file :: (tab rb t).drop (i * 2 + 2) := by
      rw [List.drop_eq_getElem_cons (by omega), List.drop_eq_getElem_cons (by omega)]
      rw [List.getElem?_eq_getElem (by omega)] at g1 g2
      rw [Option.some.inj g1, Option.some.inj g2]
    rw [e0]
    rfl
  unfold Instr.index
  simp only [asIntOf, Sem.run_bind, Sem.run_pure, Result.andThen_ok, hu]
  rw [if_pos ⟨by omega, by omega⟩]
  simp only [Sem.run_bind, hs, Result.andThen_ok, part, ha, Int.toNat_natCast, if_true, Sem.run_pure, hp]
theorem used_take (M : Dm) {t : List Pl} {i : Nat} {p : Pl} (h : t[i]? = some p) : used M (t.take (i + 1)) = used M (t.take i) + (rowOf M p).l.length := by
  unfold used
  rw [List.take_add_one, h]
  simp
theorem used_le {M : Dm} (h : M.ok) : ∀ (t : List Pl), used M t ≤ t.length * 1048576
  | [] => by simp [used]
  | p :: t => by
    have h1 := used_le h t
    have h2 : (rowOf M p).l.length ≤ 1048576 := by
      unfold rowOf
      split
      · rename_i k _
        by_cases hk : k < M.rows.length
        · rw [List.getD_eq_getElem?_getD, List.getElem?_eq_getElem hk]
          exact (h.rl k _ (List.getElem?_eq_getElem hk)).1
        · rw [List.getD_eq_getElem?_getD, List.getElem?_eq_none (by omega)]
          simp
      · simp
    simp only [used, List.map_cons, List.sum_cons, List.length_cons] at h1 ⊢
    omega
set_option maxRecDepth 20000 in
set_option maxHeartbeats 1500000 in
theorem Left_any {w : World} {base D : Nat} {M : Dm} {S : Nat → Prop} (hd : Dk w base D M S) :
    Calls Tryz.prog 41 #[.pointer (some ⟨D, 0, none⟩)] w fun e w' => e = .returned (.int .i64 M.left) ∧ Below w.heap.size w w' := by
  obtain ⟨⟨rb, rv, h, hS⟩, _⟩ := hd
  have H := Lib.hid h
  have c0 := h.size
  have hsz := h.ok.size
  have HN := Lib.hid h.now
  have HL := Lib.hid (show (tab rb M.now).length = 128 by rw [tab_length, h.ok.nl])
  have HI := Lib.hid (fun (i : Nat) (p : Pl) (hp : M.now[i]? = some p) (w : World) => index_tab rb hp h.ok.nl w)
  have HU := Lib.hid (fun (k : Nat) (hk : k ≤ 64) => (show used M (M.now.take k) ≤ 64 * 1048576 from Nat.le_trans (used_le h.ok _) (Nat.mul_le_mul_right _ (by rw [List.length_take]; omega))))
  have HNL := Lib.hid h.ok.nl
  obtain ⟨cs, hcs⟩ : ∃ cs, cs = tab rb M.now := ⟨_, rfl⟩
  rw [← hcs] at HN HL HI
  clear h hS hcs
  go_enter Tryz.func41, Tryz.ntmps41
  go_wp2_with (refine wpList_load_mid rfl 90 _ rfl D 1 rfl cs _ HN.out Tryz.underlying90 rfl (by rw [HL.out]; kernel_rfl) ?_)
  go_loopw [2, 15] (fun l i wr => ∃ k u : Nat, k ≤ 64 ∧ i = .int .i64 k ∧ u ≤ 64 * 1048576 ∧ l = .int .i64 ((M.size : Int) - (u : Int)) ∧ Hid (used M (M.now.take k) = u) ∧ Below w.heap.size w wr) (fun _ i _ => 64 - (intOf i).toNat)
  case atStart => exact ⟨0, 0, Nat.zero_le _, rfl, Nat.zero_le _, by simp, Lib.hid rfl, Below.refl _ _⟩
  case round =>
    obtain ⟨k, u, hk, rfl, hu, rfl, hus, hb⟩ := hrel
    have HB := Lib.hid hb
    have h0 := HU.out
    by_cases hlt : k < 64
    · obtain ⟨p, hp⟩ : ∃ p, M.now[k]? = some p := ⟨_, List.getElem?_eq_getElem (by have := HNL.out; omega)⟩
      have hi := HI.out k p hp
      have hut := used_take M hp
      have hu2 := h0 (k + 1) (by omega)
      rw [hut, hus.out] at hu2
      cases hf : p.file with
      | none =>
        have hr0 : (rowOf M p).l.length = 0 := by simp [rowOf, hf]
        rw [hr0, hus.out] at hut
        have HT := Lib.hid hut
        have hi2 : ∀ w, (Instr.index 90 (.agg cs.toArray) (.int .i64 k)).run Tryz.prog w = .ok (.agg #[.string p.name, .pointer none]) w := by rw [hf] at hi; exact hi
        clear hb hp hi hut hu2 hf hr0 h0
        go_wp2_with fail
        go_round
        case rel => exact ⟨k + 1, u, by omega, by go_num, hu, rfl, Lib.hid HT.out, HB.out.alloc HB.out.size _⟩
        case measure => simp [intOf]; omega
      | some j =>
        obtain ⟨_, hj⟩ := H.out.ok.now.file k p hp
        have hj := hj j hf
        obtain ⟨r, hr⟩ : ∃ r, M.rows[j]? = some r := ⟨_, List.getElem?_eq_getElem hj⟩
        have hr0 : (rowOf M p).l.length = r.l.length := by simp [rowOf, hf, List.getD, hr]
        rw [hr0] at hut hu2
        rw [hus.out] at hut
        have HT := Lib.hid hut
        have hi2 : ∀ w, (Instr.index 90 (.agg cs.toArray) (.int .i64 k)).run Tryz.prog w = .ok (.agg #[.string p.name, .pointer (some ⟨rb j, 0, none⟩)]) w := by rw [hf] at hi; exact hi
        have hrow := (H.out.later hb).row j r hr
        obtain ⟨c1, _⟩ := hrow.cells
        obtain ⟨a, c, hv⟩ := hrow.own.sl
        rw [hv] at c1
        have hjs := World.block_lt_of_cell? (a := ⟨rb j, 0, none⟩) _ c1
        have d1 : ∀ ob, (wr.alloc ob).cell? ⟨rb j, 0, none⟩ = some (.slice a r.l.length c) := fun ob => (World.cell?_alloc_lt wr ob ⟨rb j, 0, none⟩ hjs).trans c1
        clear hb hp hi hut hf hr0 h0 hrow hv c1 hr
        go_wp2_with fail
        go_round
        case rel => exact ⟨k + 1, u + r.l.length, by omega, by go_num, hu2, by go_num, Lib.hid HT.out, HB.out.alloc HB.out.size _⟩
        case measure => simp [intOf]; omega
    · obtain rfl : k = 64 := by omega
      have hfin : used M M.now = u := by have := hus.out; rwa [List.take_of_length_le (by have := HNL.out; omega)] at this
      have HF := Lib.hid hfin
      clear hb hus hfin h0
      have e : M.left = M.size - u := by unfold Dm.left; rw [HF.out]
      by_cases hle : u ≤ M.size
      · have h1 : (0 : Int) ≤ (M.size : Int) - (u : Int) := by omega
        go_wp2_with fail
        go_ret
        exact ⟨by rw [e]; go_num, HB.out⟩
      · have h1 : (M.size : Int) - (u : Int) < 0 := by omega
        go_wp2_with fail
        go_ret
        exact ⟨by rw [e]; go_num, HB.out⟩
end Go.Proofs.YtidhlbhfhfonoaaGreatDoor
namespace Go.Proofs.YtidhlbhfhfonoaaGreatDoor
open Go.ChangeShapes Go.WideShapes Go.ChangeAt Go.RowKit

theorem rowGrown {w2 w3 : World} {base b : Nat} {v v' : Value} {r : Rw} {l : List Nat} (h : RowAt w2 base b v r) (hv : v.ownBlock ≠ some b) (ho : OwnV w3 base 5 1 v' (r.l.length + l.length) (cellsK .u8 r.l ++ cellsK .u8 l)) (hg : w2.grownBy w3 v.ownBlock) (hl : Lies w2 w3 v v' r.l.length l.length) :
    RowAt (w3.setCell ⟨b, 0, none⟩ v') base b v' ⟨r.l ++ l, r.m⟩ := by
  have hb := lt_of_heap h.blk
  have h3 : w3.heap[b]? = some (.cells #[v, .int .i64 r.m] 118 (0, 0)) := (hg.block b hb (fun e => hv e.symm)).trans h.blk
  have hn := lies_apart hl hv hb
  refine ⟨?_, ?_⟩
  · rw [heap_setCell_same w3 b 0 _ _ _ h3]
    rfl
  · have h4 := ho.block (w' := w3.setCell ⟨b, 0, none⟩ v') fun g hg => Below.heap_setCell _ _ _ _ (fun e => hn (by rw [hg, e]))
    rw [← cellsK_append] at h4
    rw [List.length_append]
    exact h4
theorem lies_block {w2 w3 : World} {v v' : Value} {n m : Nat} (hl : Lies w2 w3 v v' n m) : v'.ownBlock = v.ownBlock ∨ ∀ g, v'.ownBlock = some g → w2.heap.size ≤ g := by
  rcases hl with ⟨b, o, cap, rfl, rfl⟩ | ⟨h, _⟩ | ⟨_, rfl, _⟩
  · exact .inl rfl
  · refine .inr fun g hg => ?_
    rw [h] at hg
    cases hg
    exact Nat.le_refl _
  · exact .inl rfl
set_option maxRecDepth 20000 in
set_option maxHeartbeats 1500000 in
theorem Append_any {w : World} {base D : Nat} {M : Dm} {S : Nat → Prop} (hd : Dk w base D M S) (s : ByteArray) (hs : s.size ≤ 140737488355328) {v : Value} {l : List Nat} (hv : KAt .u8 w v l) (hl : Bytes l) :
    Calls Tryz.prog 17 #[.pointer (some ⟨D, 0, none⟩), .string s, v] w (Errs w base D S (M.append s l)) := by
  have HD := Lib.hid hd
  have HK := Lib.hid hv
  have hlen := hv.len
  obtain ⟨av, cv, hve⟩ : ∃ a c, v = .slice a l.length c := by obtain ⟨a, c, h, _⟩ := hv; exact ⟨a, c, h⟩
  obtain ⟨⟨rb, rv, h, hS⟩, _⟩ := hd
  unfold maxLen at hlen
  rcases M.ways s with ⟨hok, i, hf⟩ | hno
  · obtain ⟨k, r, h1, h2, h3, h4, h5⟩ := h.ok.found hok hf
    have hap : M.append s l = if l.length ≤ M.left ∧ r.l.length + l.length ≤ 1048576 then ({ M with rows := M.rows.set k ⟨r.l ++ l, r.m⟩ }, 0) else (M, 6) := by rw [Dm.append, Dm.at_yes hok hf, h4, h5]
    have HF := Lib.hid (finds_yes h s hs hok i hf)
    have HL := Lib.hid (fun (w1 : World) (hb : Below w.heap.size w w1) => Left_any (HD.out.later hb))
    have c2 := (h.place h1).2
    have H := Lib.hid h
    have HS := Lib.hid hS
    have HR := Lib.hid h2
    have hrl := h.ok.rl k r h2
    have hr1 := hrl.1
    have hleft : M.left ≤ 8388608 := by have := h.ok.size.2; unfold Dm.left; omega
    have HOK := Lib.hid (fun (hle : r.l.length + l.length ≤ 1048576) => h.ok.setRow (k := k) (r := ⟨r.l ++ l, r.m⟩) (by simpa using hle) (by have := hrl.2.1; simp; omega) (fun b hb => by
      rcases List.mem_append.1 hb with hb | hb
      · exact hrl.2.2 b hb
      · exact hl b hb))
    have C2 := Lib.hid (fun w1 (hb : Below w.heap.size w w1) => cell_on c2 hb)
    have hk : k < M.rows.length := (List.getElem?_eq_some_iff.1 h2).1
    obtain ⟨L, hL⟩ : ∃ L, M.left = L := ⟨_, rfl⟩
    rw [hL] at HL hleft hap
    by_cases hc : l.length ≤ L ∧ r.l.length + l.length ≤ 1048576
    · rw [if_pos hc] at hap
      rw [hap]
      obtain ⟨hc1, hc2⟩ := hc
      obtain ⟨i0, hi0, hz0, hz1, hz2⟩ := info_parts infoB
      have HI := Lib.hid hi0
      subst hve
      have hcI : (r.l.length : Int) + (l.length : Int) ≤ 1048576 := by omega
      clear h hS h1 h2 h4 h5 hf hok c2 hrl hap hv hL hi0
      go_enter Tryz.func17, Tryz.ntmps17
      go_wp2_with fail
      refine HF.out.mono ?_
      rintro _ w1 ⟨rfl, hb⟩
      have HB := Lib.hid hb
      have c2 : w1.cell? ⟨D, 1 + i * 2 + 1, none⟩ = some (.pointer (some ⟨rb k, 0, none⟩)) := C2.out w1 hb
      clear hb
      go_wp2_with fail
      refine (HL.out w1 HB.out).mono ?_
      rintro _ w2 ⟨rfl, hb⟩
      have HB2 := Lib.hid (below_on HB.out hb)
      have H2 := H.out.later HB2.out
      have hrow := H2.row k r HR.out
      obtain ⟨c3, c4⟩ := hrow.cells
      have HROW := Lib.hid hrow
      have HO2 := Lib.hid hrow.own
      have hnv := H2.two k k hk hk
      have HNV := Lib.hid hnv.1
      have hkb := lt_of_heap hrow.blk
      have hbs := H2.lowD
      have hDs := lt_of_heap H2.blk
      have hbase : base ≤ w2.heap.size := by omega
      obtain ⟨vv, hvv⟩ : ∃ x, x = rv k := ⟨_, rfl⟩
      rw [← hvv] at c3 HROW HO2 HNV
      obtain ⟨a, c, hsl⟩ := HO2.out.sl
      have HH := Lib.hid H2
      have HVV := Lib.hid hvv
      have HSRC := Lib.hid (HK.out.later HB2.out).src
      subst hsl
      have f3 := frozen_row hrow.blk 0
      clear hb H2 hrow hnv hvv
      go_wp2_with (at_builtin; refine wpList_append_W rfl _ _ 58 rfl base 5 i0 (.int .u8 0) 1 1 Tryz.underlying58 HI.out hz0 hz1 hz2 rfl (.slice a r.l.length c) r.l.length (cellsK .u8 r.l) rfl HO2.out (.slice av l.length cv) l.length (cellsK .u8 l) rfl HSRC.out (by unfold maxLen; omega) (by omega) hbase ?_; intro v3 w3 ho3 hg3 hl3; obtain ⟨a3, cp3, rfl⟩ := ho3.sl; have HO3 := Lib.hid ho3; have HG3 := Lib.hid hg3; have HL3 := Lib.hid hl3; have hb3 : w3.heap[rb k]? = w2.heap[rb k]? := hg3.block (rb k) hkb (fun e => HNV.out e.symm); have d3 := (World.cell?_of_block (w := w2) (a := ⟨rb k, 0, none⟩) hb3).trans c3; have g3 := (World.frozen?_of_block (w := w2) (a := ⟨rb k, 0, none⟩) hb3).trans f3; clear ho3 hg3 hl3 hb3)
      go_ret
      have hro := rowGrown HROW.out HNV.out HO3.out HG3.out HL3.out
      have hset := HH.out.setRow (k := k) (r' := ⟨r.l ++ l, r.m⟩) (w' := w3.setCell ⟨rb k, 0, none⟩ (.slice a3 (r.l.length + l.length) cp3)) HR.out (HOK.out hc2) (fun g hg h1 h2 => by
        rw [Below.heap_setCell _ _ _ _ h1]
        exact HG3.out.block g hg (fun e => h2 (by rw [← HVV.out]; exact e.symm))) hro (by have := lies_block HL3.out; rwa [HVV.out] at this)
      refine ⟨rfl, dn_of HD.out hset (((Chg.of_below HB2.out S).grown HG3.out (fun j hj => .inl (HS.out _ (.inr ⟨k, hk, .inr (by rw [← HVV.out]; exact hj)⟩)))).setCell (.inl (HS.out _ (.inr ⟨k, hk, .inl rfl⟩))) _) (fun g hg => (foot_setRow (n := w.heap.size) hk ?_ hg).imp_left (HS.out g))⟩
      rw [← HVV.out]
      exact (lies_block HL3.out).imp_right fun h g hg => Nat.le_trans HB2.out.size (h g hg)
    · rw [if_neg hc] at hap
      rw [hap]
      subst hve
      have hr0 : (r.l.length : Int) ≤ 1048576 := by omega
      by_cases hc1 : l.length ≤ L
      · have hc2 : ¬ ((r.l.length : Int) + (l.length : Int) ≤ 1048576) := by omega
        clear hc h hS h1 h2 h4 h5 hf hok c2 hrl hap hv hL
        go_enter Tryz.func17, Tryz.ntmps17
        go_wp2_with fail
        refine HF.out.mono ?_
        rintro _ w1 ⟨rfl, hb⟩
        have HB := Lib.hid hb
        have c2 : w1.cell? ⟨D, 1 + i * 2 + 1, none⟩ = some (.pointer (some ⟨rb k, 0, none⟩)) := C2.out w1 hb
        clear hb
        go_wp2_with fail
        refine (HL.out w1 HB.out).mono ?_
        rintro _ w2 ⟨rfl, hb⟩
        have HB2 := Lib.hid (below_on HB.out hb)
        have hrow := (H.out.later HB2.out).row k r HR.out
        obtain ⟨c3, c4⟩ := hrow.cells
        obtain ⟨a, c, hsl⟩ := hrow.own.sl
        rw [hsl] at c3
        clear hb hrow hsl
        go_wp2_with fail
        go_ret
        exact ⟨rfl, HD.out.looked HB2.out⟩
      · clear hc h hS h1 h2 h4 h5 hf hok c2 hrl hap hv hL
        have hc2 : ¬ ((l.length : Int) ≤ (L : Int)) := by omega
        go_enter Tryz.func17, Tryz.ntmps17
        go_wp2_with fail
        refine HF.out.mono ?_
        rintro _ w1 ⟨rfl, hb⟩
        have HB := Lib.hid hb
        have c2 : w1.cell? ⟨D, 1 + i * 2 + 1, none⟩ = some (.pointer (some ⟨rb k, 0, none⟩)) := C2.out w1 hb
        clear hb
        go_wp2_with fail
        refine (HL.out w1 HB.out).mono ?_
        rintro _ w2 ⟨rfl, hb⟩
        have HB2 := Lib.hid (below_on HB.out hb)
        clear hb
        go_wp2_with fail
        go_ret
        exact ⟨rfl, HD.out.looked HB2.out⟩
  · rw [show M.append s l = (M, M.why true s) from Dm.at_no hno]
    have HF := Lib.hid (finds_no h true s hs hno)
    obtain ⟨e, he⟩ : ∃ e, M.why true s = e := ⟨_, rfl⟩
    rw [he] at HF hno ⊢
    have hn : ((e : Int) != 0) = true := by simp; omega
    subst hve
    clear h he hS hv
    go_enter Tryz.func17, Tryz.ntmps17
    go_wp2_with fail
    refine HF.out.mono ?_
    rintro _ w1 ⟨rfl, hb⟩
    have HB := Lib.hid hb
    clear hb
    go_wp2_with fail
    go_ret
    exact ⟨rfl, HD.out.looked HB.out⟩
theorem kat_ints {w : World} {g o : Nat} {l : List Nat} (hc : ∀ i x : Nat, l[i]? = some x → w.cell? ⟨g, o + i, none⟩ = some (.int .u8 (x : Int))) (i : Nat) (hi : i < l.length) :
    w.cell? ((⟨g, o, none⟩ : Addr).add i) = some (.int .u8 ((l.map fun x : Nat => (x : Int)).getD i 0)) := by
  rw [Addr.add_lit, hc i l[i] (List.getElem?_eq_getElem hi)]
  simp [hi]
/-- bytes.Clone. -/
theorem BClone_any {w : World} {v : Value} {l : List Nat} (hv : KAt .u8 w v l) (hsz : l.length ≤ 140737488355328) :
    Calls Tryz.prog 53 #[v] w fun e w' => ∃ v', e = .returned v' ∧ Own w' w.heap.size v' l ∧ Below w.heap.size w w' := by
  obtain ⟨ao, cap, rfl, h1, h2, h3, h4⟩ := hv
  cases ao with
  | none =>
    have : l = [] := List.length_eq_zero_iff.1 (by have := h3 rfl; omega)
    subst this
    refine (Tryz.bytes_Clone_nil _ _ w).mono ?_
    rintro e w' ⟨rfl, rfl⟩
    exact ⟨_, rfl, ⟨rfl, .inl ⟨rfl, rfl⟩⟩, Below.refl _ _⟩
  | some a =>
    have hb : ∀ i, i < l.length → w.cell? (a.add i) = some (.int .u8 ((l.map fun x : Nat => (x : Int)).getD i 0)) := by
      intro i hi
      obtain ⟨g, o, hao, hc⟩ := h4 (by omega)
      cases hao
      exact kat_ints hc i hi
    refine (Tryz.bytes_Clone_at a l.length cap (l.map fun x : Nat => (x : Int)) w (by simp) hsz hb).mono ?_
    rintro e w' ⟨v', rfl, ho, _, hbl⟩
    refine ⟨v', rfl, ?_, hbl⟩
    have := OwnV.of_row ho
    rw [List.map_map] at this
    exact this
/-- What Read tells: bytes, and an error. -/
def Dm.readE (M : Dm) (s : ByteArray) (at_ n : Int) : List Nat × Nat :=
  if 0 ≤ at_ ∧ 0 ≤ n then
    if M.why true s = 0 then
      let b := ((find M.now s).map fun i => (M.row i).l).getD []
      if at_ ≤ b.length ∧ n ≤ b.length - at_ then ((b.drop at_.toNat).take n.toNat, 0) else ([], 5)
    else ([], M.why true s)
  else ([], 1)
set_option maxRecDepth 20000 in
set_option maxHeartbeats 1500000 in
theorem Read_any {w : World} {base D : Nat} {M : Dm} {S : Nat → Prop} (hd : Dk w base D M S) (s : ByteArray) (hs : s.size ≤ 140737488355328) (at_ n : Int) (ha : -9223372036854775808 ≤ at_ ∧ at_ ≤ 9223372036854775807) (hn : -9223372036854775808 ≤ n ∧ n ≤ 9223372036854775807) :
    Calls Tryz.prog 34 #[.pointer (some ⟨D, 0, none⟩), .string s, .int .i64 at_, .int .i64 n] w fun e w' => ∃ v, e = .returned (.tuple #[v, .int .i64 (M.readE s at_ n).2]) ∧ Own w' w.heap.size v (M.readE s at_ n).1 ∧ Below w.heap.size w w' := by
  have HD := Lib.hid hd
  have hnil : ∀ W : World, Own W w.heap.size (.slice none 0 0) [] := fun W => ⟨rfl, .inl ⟨rfl, rfl⟩⟩
  obtain ⟨⟨rb, rv, h, hS⟩, _⟩ := hd
  by_cases h0 : 0 ≤ at_ ∧ 0 ≤ n
  · obtain ⟨ha0, hn0⟩ := h0
    have hmin : (0 : Int) ≤ min at_ n := by omega
    rcases M.ways s with ⟨hok, i, hf⟩ | hno
    · obtain ⟨k, r, h1, h2, h3, h4, h5⟩ := h.ok.found hok hf
      have hre : M.readE s at_ n = if at_ ≤ r.l.length ∧ n ≤ r.l.length - at_ then ((r.l.drop at_.toNat).take n.toNat, 0) else ([], 5) := by
        rw [Dm.readE, if_pos ⟨ha0, hn0⟩, if_pos (Dm.why_yes hok hf)]
        simp [hf, h5]
      have HF := Lib.hid (finds_yes h s hs hok i hf)
      have c2 := (h.place h1).2
      have H := Lib.hid h
      have HR := Lib.hid h2
      have hr1 := (h.ok.rl k r h2).1
      have C2 := Lib.hid (fun w1 (hb : Below w.heap.size w w1) => cell_on c2 hb)
      obtain ⟨p, rfl⟩ : ∃ p : Nat, at_ = p := ⟨at_.toNat, by omega⟩
      obtain ⟨q, rfl⟩ : ∃ q : Nat, n = q := ⟨n.toNat, by omega⟩
      rw [Int.toNat_natCast, Int.toNat_natCast] at hre
      by_cases hc1 : p ≤ r.l.length
      · by_cases hc2 : q ≤ r.l.length - p
        · rw [if_pos (by omega)] at hre
          obtain ⟨L2, hL2⟩ : ∃ L2, L2 = (r.l.drop p).take q := ⟨_, rfl⟩
          rw [hre, ← hL2]
          have HL2 := Lib.hid hL2
          clear hL2
          have hcI : (q : Int) ≤ (r.l.length : Int) - (p : Int) := by omega
          clear h hS h1 h2 h4 h5 hf hok c2 hre
          go_enter Tryz.func34, Tryz.ntmps34
          go_wp2_with fail
          refine HF.out.mono ?_
          rintro _ w1 ⟨rfl, hb⟩
          have HB := Lib.hid hb
          have c2 : w1.cell? ⟨D, 1 + i * 2 + 1, none⟩ = some (.pointer (some ⟨rb k, 0, none⟩)) := C2.out w1 hb
          have hrow := (H.out.later hb).row k r HR.out
          obtain ⟨c3, c4⟩ := hrow.cells
          have hkat : KAt .u8 w1 (rv k) r.l := Own.at_ (base := base) hrow.own
          obtain ⟨a, c, hsl⟩ := hrow.own.sl
          rw [hsl] at c3 hkat
          obtain ⟨a1, c1, hr1', hk1⟩ := slice_from hkat p hc1
          obtain ⟨a2, c2', hr2', hk2⟩ := slice_to hk1 q (by simpa using hc2)
          have HR1 := Lib.hid hr1'
          have HR2 := Lib.hid hr2'
          have hcl := BClone_any hk2 (by simp; omega)
          rw [← HL2.out] at hcl
          have HCL := Lib.hid hcl
          clear hb hrow hsl hkat hr1' hr2' hk1 hk2 hcl
          have hs1 := HR1.out
          have hs2 := HR2.out
          go_wp2_with fail
          clear hs1 hs2
          refine HCL.out.mono ?_
          rintro _ w2 ⟨v2, rfl, ho, hb⟩
          have HO := Lib.hid ho
          have HB2 := Lib.hid hb
          obtain ⟨a3, c3', rfl⟩ := ho.sl
          clear ho hb
          go_wp2_with fail
          refine (Clip_any w2 HO.out).mono ?_
          rintro _ w3 ⟨v3, rfl, ho, rfl⟩
          have HO3 := Lib.hid ho
          obtain ⟨a4, c4', rfl⟩ := ho.sl
          clear ho
          go_wp2_with fail
          go_ret2
          exact ⟨_, rfl, HO3.out.base HB.out.size, below_on HB.out HB2.out⟩
        · rw [if_neg (by omega)] at hre
          have hcI : ¬ ((q : Int) ≤ (r.l.length : Int) - (p : Int)) := by omega
          rw [hre]
          clear h hS h1 h2 h4 h5 hf hok c2 hre
          go_enter Tryz.func34, Tryz.ntmps34
          go_wp2_with fail
          refine HF.out.mono ?_
          rintro _ w1 ⟨rfl, hb⟩
          have HB := Lib.hid hb
          have c2 : w1.cell? ⟨D, 1 + i * 2 + 1, none⟩ = some (.pointer (some ⟨rb k, 0, none⟩)) := C2.out w1 hb
          have hrow := (H.out.later hb).row k r HR.out
          obtain ⟨c3, c4⟩ := hrow.cells
          obtain ⟨a, c, hsl⟩ := hrow.own.sl
          rw [hsl] at c3
          clear hb hrow hsl
          go_wp2_with fail
          go_ret2
          exact ⟨_, rfl, hnil _, HB.out⟩
      · rw [if_neg (by omega)] at hre
        have hcI : ¬ ((p : Int) ≤ (r.l.length : Int)) := by omega
        rw [hre]
        clear h hS h1 h2 h4 h5 hf hok c2 hre
        go_enter Tryz.func34, Tryz.ntmps34
        go_wp2_with fail
        refine HF.out.mono ?_
        rintro _ w1 ⟨rfl, hb⟩
        have HB := Lib.hid hb
        have c2 : w1.cell? ⟨D, 1 + i * 2 + 1, none⟩ = some (.pointer (some ⟨rb k, 0, none⟩)) := C2.out w1 hb
        have hrow := (H.out.later hb).row k r HR.out
        obtain ⟨c3, c4⟩ := hrow.cells
        obtain ⟨a, c, hsl⟩ := hrow.own.sl
        rw [hsl] at c3
        clear hb hrow hsl
        go_wp2_with fail
        go_ret2
        exact ⟨_, rfl, hnil _, HB.out⟩
    · rw [show M.readE s at_ n = ([], M.why true s) by rw [Dm.readE, if_pos ⟨ha0, hn0⟩, if_neg hno]]
      have HF := Lib.hid (finds_no h true s hs hno)
      obtain ⟨e, he⟩ : ∃ e, M.why true s = e := ⟨_, rfl⟩
      rw [he] at HF hno ⊢
      have hne : ((e : Int) != 0) = true := by simp; omega
      clear h he hS
      go_enter Tryz.func34, Tryz.ntmps34
      go_wp2_with fail
      refine HF.out.mono ?_
      rintro _ w1 ⟨rfl, hb⟩
      have HB := Lib.hid hb
      clear hb
      go_wp2_with fail
      go_ret2
      exact ⟨_, rfl, hnil _, HB.out⟩
  · rw [show M.readE s at_ n = ([], 1) by rw [Dm.readE, if_neg h0]]
    have hmin : ¬ ((0 : Int) ≤ min at_ n) := by omega
    have hw : M.why false s = 1 := by simp [Dm.why]
    have HF := Lib.hid (finds_no h false s hs (by rw [hw]; decide))
    rw [hw] at HF
    clear h hS hw
    go_enter Tryz.func34, Tryz.ntmps34
    go_wp2_with fail
    refine HF.out.mono ?_
    rintro _ w1 ⟨rfl, hb⟩
    have HB := Lib.hid hb
    clear hb
    go_wp2_with fail
    go_ret2
    exact ⟨_, rfl, hnil _, HB.out⟩

end Go.Proofs.YtidhlbhfhfonoaaGreatDoor
namespace Go.Proofs.YtidhlbhfhfonoaaGreatDoor
open Go.ChangeShapes Go.WideShapes Go.ChangeAt Go.RowKit

theorem zip_setL (off : Nat) : ∀ (l : List Value) (k : Nat) (cs : Array Value), ((l.zipIdx k).foldl (fun (cs : Array Value) (x : Value × Nat) => cs.setIfInBounds (off + x.2) x.1) cs).toList = setL cs.toList (off + k) l
  | [], _, _ => rfl
  | v :: l, k, cs => by
    rw [List.zipIdx_cons, List.foldl_cons, zip_setL off l (k + 1), setL]
    simp [Nat.add_assoc]
theorem tab_free (rb : Nat → Nat) : tab rb (List.replicate 64 free) = tab (fun _ => 0) (List.replicate 64 free) := tab_congr fun p hp k hk => by
  rw [List.eq_of_mem_replicate hp] at hk
  cases hk
theorem zero_disk : Tryz.zeroCells92 = (dc (new0 0) fun _ => 0).toArray := by kernel_rfl
theorem zero_set (n : Nat) : Tryz.zeroCells92.setIfInBounds 0 (.int .i64 n) = (dc (new0 n) fun _ => 0).toArray := by
  rw [zero_disk, List.setIfInBounds_toArray]
  unfold dc
  rw [List.set_cons_zero]
  rfl
set_option maxRecDepth 20000 in
theorem New_yes (n : Nat) (w : World) (h1 : 1 ≤ n) (h2 : n ≤ 8388608) :
    Calls Tryz.prog 6 #[.int .i64 n] w fun e w' => e = .returned (.tuple #[.pointer (some ⟨w.heap.size, 0, none⟩), .int .i64 0]) ∧ Dk w' w.heap.size w.heap.size (new0 n) (fun g => g = w.heap.size) ∧ Below w.heap.size w w' := by
  have hnI1 : (1 : Int) ≤ n := by omega
  have hnI2 : (n : Int) ≤ 8388608 := by omega
  go_enter Tryz.func6, Tryz.ntmps6
  go_wp2_with fail
  go_ret2
  refine ⟨rfl, ?_, (Below.refl _ _).alloc (Nat.le_refl _) _⟩
  rw [zero_set]
  have hrows : ∀ k, ¬ k < (new0 n).rows.length := fun k hk => by simp [new0] at hk
  refine ⟨⟨fun _ => 0, fun _ => .slice none 0 0, ⟨new0_ok h1 h2, heap_alloc_new w _, fun k r hr => absurd (List.getElem?_eq_some_iff.1 hr).1 (hrows k), Nat.le_refl _, fun k hk => absurd hk (hrows k), fun j k hj _ => absurd hj (hrows j)⟩, fun g hg => ?_⟩, fun g hg => ?_⟩
  · rcases hg with rfl | ⟨k, hk, _⟩
    · rfl
    · exact absurd hk (hrows k)
  · subst hg
    exact ⟨Nat.le_refl _, by simp⟩
end Go.Proofs.YtidhlbhfhfonoaaGreatDoor
namespace Go.Proofs.YtidhlbhfhfonoaaGreatDoor
open Go.ChangeShapes Go.WideShapes Go.ChangeAt Go.RowKit

/-! ### Strings of a call's own -/
def strs (L : List ByteArray) : List Value := L.map Value.string
theorem strs_get (L : List ByteArray) (i : Nat) : (strs L)[i]? = (L[i]?).map Value.string := by simp [strs]
theorem strs_append (L M : List ByteArray) : strs (L ++ M) = strs L ++ strs M := by simp [strs]
def OwnS (w : World) (base : Nat) (v : Value) (L : List ByteArray) : Prop := OwnV w base 9 1 v L.length (strs L)
theorem infoS : (Tryz.prog.info? 9).map (fun i => (i.zero, i.size, i.bytes)) = some (some (.string ⟨#[]⟩), 1, 16) := by kernel_rfl
def sortB (L : List ByteArray) : List ByteArray := ((L.map fun s => s.data.toList).mergeSort fun x y => decide (x ≤ y)).map fun l => ⟨l.toArray⟩
theorem sortB_length (L : List ByteArray) : (sortB L).length = L.length := by simp [sortB]
theorem src_val (w : World) (x : Value) (hx : x.oneCell' = true) (t : TypeId) : SrcV (w.alloc (.cells #[x] t)) 1 (.slice (some ⟨w.heap.size, 0, none⟩) 1 1) 1 [x] := by
  refine ⟨_, 1, rfl, rfl, fun u hu => ?_, (fun h => by cases h), fun ad had j u hu => ?_⟩
  · simp only [List.mem_cons, List.not_mem_nil, or_false] at hu
    subst hu
    exact hx
  · cases had
    exact one_new w _ t j u hu
theorem heap_mapBlock (w : World) (g : Nat) (f : Array Value → Array Value) {c : Array Value} {e : TypeId} {fr : Nat × Nat} (h : w.heap[g]? = some (.cells c e fr)) : (Go.Sort.mapBlock w g f).heap[g]? = some (.cells (f c) e fr) := by
  unfold Go.Sort.mapBlock
  simp only [Array.getElem?_modify, if_true]
  rw [h]
  rfl
theorem mapBlock_far (w : World) (g k : Nat) (f : Array Value → Array Value) (h : k ≠ g) : (Go.Sort.mapBlock w g f).heap[k]? = w.heap[k]? := by
  simp only [Go.Sort.mapBlock, Array.getElem?_modify]
  rw [if_neg (fun e => h e.symm)]
theorem Sort_own {w : World} {base g o cap : Nat} {L : List ByteArray} (h : OwnS w base (.slice (some ⟨g, o, none⟩) L.length cap) L) (hn : L.length < 4611686018427387904) :
    Calls Tryz.prog 122 #[.slice (some ⟨g, o, none⟩) L.length cap] w fun e w' => e = .returned (.tuple #[]) ∧ OwnS w' base (.slice (some ⟨g, o, none⟩) L.length cap) (sortB L) ∧ w.grownBy w' (some g) := by
  have hcell := OwnV.cells h
  have hfree := own_free h
  obtain ⟨hl, h2⟩ := h
  rcases h2 with ⟨h2, _⟩ | ⟨g', o', cap', cur, h3, hbase, hblk, hnc, hcm, hsz, htake⟩
  · cases h2
  cases h3
  have hg := (Array.getElem?_eq_some_iff.1 hblk).1
  have hH : Go.Sort.Holds encStr w g o (L.map fun s => s.data.toList).toArray := by
    intro j hj
    have hj' : j < L.length := by simpa using hj
    refine ⟨?_, hfree _⟩
    have := hcell j (.string L[j]) (by rw [strs_get, List.getElem?_eq_getElem hj']; rfl)
    rw [Addr.add_lit] at this
    rw [this, getElem!_pos _ j hj]
    simp [encStr]
  have hc := Tryz.slices_Sort_string g o cap (L.map fun s => s.data.toList) w hH hg (by simpa using hn)
  rw [List.length_map] at hc
  refine hc.mono ?_
  rintro e w' ⟨rfl, n, os, rfl⟩
  obtain ⟨ss, hss⟩ : ∃ ss, ss = (L.map fun s => s.data.toList).mergeSort fun x y => decide (x ≤ y) := ⟨_, rfl⟩
  have hsl : ss.length = L.length := by rw [hss]; simp
  have hsb : sortB L = ss.map fun l => ⟨l.toArray⟩ := by rw [hss]; rfl
  rw [← hss, hsb]
  have hg0 : (Go.Sort.ahead w n).heap[g]? = some (.cells cur 9 (0, 0)) := hblk
  have hb1 : (Go.Sort.putRow encStr (Go.Sort.ahead w n) g o ss.toArray).heap[g]? = some (.cells (Go.Sort.putCells encStr o ss.toArray cur) 9 (0, 0)) := heap_mapBlock _ _ _ hg0
  have hsz1 : (Go.Sort.putRow encStr (Go.Sort.ahead w n) g o ss.toArray).heap.size = w.heap.size := by rw [Go.Sort.size_putRow]; rfl
  have hgrow : ∀ k, k < w.heap.size → (Go.Sort.grow (Go.Sort.putRow encStr (Go.Sort.ahead w n) g o ss.toArray) os).heap[k]? = (Go.Sort.putRow encStr (Go.Sort.ahead w n) g o ss.toArray).heap[k]? := fun k hk => by
    simp only [Go.Sort.grow]
    rw [Array.getElem?_append_left (by rw [hsz1]; exact hk)]
  refine ⟨rfl, ⟨by simp [strs, hsl], .inr ⟨g, o, cap, _, by simp [hsl], hbase, (hgrow g hg).trans hb1, by simpa [hsl] using hnc, hcm, ?_, ?_⟩⟩, ⟨rfl, rfl, rfl, ?_, fun k hk hne => ?_⟩⟩
  · simpa [Go.Sort.putCells] using hsz
  · refine List.ext_getElem? fun j => ?_
    rw [List.getElem?_take]
    simp only [List.length_map, hsl, Nat.mul_one]
    split
    · rename_i hj
      rw [List.getElem?_drop, Array.getElem?_toList]
      simp only [Go.Sort.putCells, Array.getElem?_mapIdx]
      rw [Array.getElem?_eq_getElem (by have := hnc; omega), Option.map_some, if_pos ⟨by omega, by simp [hsl]; omega⟩, show o + j - o = j by omega, getElem!_pos _ j (by simp [hsl]; exact hj)]
      simp [strs, encStr, hsl, hj]
    · rename_i hj
      rw [List.getElem?_eq_none (by simp [strs, hsl]; omega)]
  · rw [Go.Sort.size_grow, hsz1]
    omega
  · rw [hgrow k hk]
    exact mapBlock_far _ _ _ _ (fun e => hne (by rw [e]))
theorem Sort_own0 (p : Option Addr) (cap : Nat) (w : World) : Calls Tryz.prog 122 #[.slice p 0 cap] w fun e w' => e = .returned (.tuple #[]) ∧ w = w' :=
  (Tryz.slices_Sort_string_none p cap w).mono fun _ _ ⟨h1, h2⟩ => ⟨h1, h2.symm⟩
/-- The names in a table, by their places. -/
def namesOf (t : List Pl) : List ByteArray := (t.filter fun p => p.file.isSome).map Pl.name
theorem namesOf_take {t : List Pl} {i : Nat} {p : Pl} (h : t[i]? = some p) : namesOf (t.take (i + 1)) = namesOf (t.take i) ++ (if p.file.isSome then [p.name] else []) := by
  unfold namesOf
  rw [List.take_add_one, h, List.filter_append, List.map_append]
  congr 1
  by_cases hp : p.file.isSome = true
  · simp [hp]
  · simp [hp]
theorem namesOf_le (t : List Pl) : (namesOf t).length ≤ t.length := by
  unfold namesOf
  rw [List.length_map]
  exact List.length_filter_le ..
def Dm.list (M : Dm) : List ByteArray := sortB (namesOf M.now)
set_option maxRecDepth 20000 in
set_option maxHeartbeats 1500000 in
theorem ClipS_any {b : List ByteArray} {a : Option Addr} {n c : Nat} (hn : n = b.length) (w : World) {B : Nat} (hv : OwnS w B (.slice a n c) b) (hc : c ≤ maxLen) (hbc : n ≤ c) :
    Calls Tryz.prog 123 #[.slice a n c] w fun e w' => e = .returned (.slice a n n) ∧ OwnS w' B (.slice a n n) b ∧ w = w' := by
  have HV := Lib.hid hv
  have HN := Lib.hid hn
  have hc5 : c ≤ 9223372036854775807 := by unfold maxLen at hc; omega
  clear hv hc hn
  go_enter Tryz.func123, Tryz.ntmps123
  go_wp2
  go_ret
  exact ⟨rfl, by have h := HV.out; unfold OwnS at h ⊢; rw [← HN.out] at h ⊢; exact OwnV.clip h, rfl⟩
theorem own_cap {w : World} {base : Nat} {e : TypeId} {size : Nat} {a : Option Addr} {n m c : Nat} {xs : List Value} (h : OwnV w base e size (.slice a m c) n xs) : m = n ∧ n ≤ c ∧ c ≤ maxLen ∧ (a = none → n = 0) := by
  rcases h.2 with ⟨h1, rfl⟩ | ⟨g, o, cap, cur, h1, _, _, h2, h3, _⟩
  · cases h1
    exact ⟨rfl, Nat.le_refl _, Nat.zero_le _, fun _ => rfl⟩
  · cases h1
    exact ⟨rfl, h2, h3, fun h => by cases h⟩
set_option maxRecDepth 20000 in
set_option maxHeartbeats 1500000 in
theorem List_any {w : World} {base D : Nat} {M : Dm} {S : Nat → Prop} (hd : Dk w base D M S) :
    Calls Tryz.prog 55 #[.pointer (some ⟨D, 0, none⟩)] w fun e w' => ∃ v, e = .returned v ∧ OwnS w' w.heap.size v M.list ∧ Below w.heap.size w w' := by
  obtain ⟨⟨rb, rv, h, hS⟩, _⟩ := hd
  have HN := Lib.hid h.now
  have HL := Lib.hid (show (tab rb M.now).length = 128 by rw [tab_length, h.ok.nl])
  have HI := Lib.hid (fun (i : Nat) (p : Pl) (hp : M.now[i]? = some p) (w : World) => index_tab rb hp h.ok.nl w)
  have HNL := Lib.hid h.ok.nl
  obtain ⟨i0, hi0, hz0, hz1, hz2⟩ := info_parts infoS
  have HI0 := Lib.hid hi0
  obtain ⟨cs, hcs⟩ : ∃ cs, cs = tab rb M.now := ⟨_, rfl⟩
  rw [← hcs] at HN HL HI
  clear h hS hcs hi0
  go_enter Tryz.func55, Tryz.ntmps55
  go_wp2_with (refine wpList_load_mid rfl 90 _ rfl D 1 rfl cs _ HN.out Tryz.underlying90 rfl (by rw [HL.out]; kernel_rfl) ?_)
  go_loopw [2, 11] (fun l i wr => ∃ (k n c : Nat) (a : Option Addr), k ≤ 64 ∧ n ≤ k ∧ i = .int .i64 k ∧ l = .slice a n c ∧ Hid (n = (namesOf (M.now.take k)).length) ∧ Hid (OwnV wr w.heap.size 9 1 (.slice a n c) n (strs (namesOf (M.now.take k)))) ∧ Below w.heap.size w wr) (fun _ i _ => 64 - (intOf i).toNat)
  case atStart => exact ⟨0, 0, 0, none, Nat.zero_le _, Nat.le_refl _, rfl, rfl, Lib.hid rfl, Lib.hid ⟨rfl, .inl ⟨rfl, rfl⟩⟩, Below.refl _ _⟩
  case round =>
    obtain ⟨k, n, c, a, hk, hnk, rfl, rfl, hn, ho, hb⟩ := hrel
    have HB := Lib.hid hb
    by_cases hlt : k < 64
    · obtain ⟨p, hp⟩ : ∃ p, M.now[k]? = some p := ⟨_, List.getElem?_eq_getElem (by have := HNL.out; omega)⟩
      have hi := HI.out k p hp
      have hnt := namesOf_take hp
      cases hf : p.file with
      | none =>
        rw [hf] at hi hnt
        have hi2 : ∀ w, (Instr.index 90 (.agg cs.toArray) (.int .i64 k)).run Tryz.prog w = .ok (.agg #[.string p.name, .pointer none]) w := hi
        have HT := Lib.hid (show namesOf (M.now.take (k + 1)) = namesOf (M.now.take k) by rw [hnt]; simp)
        clear hb hp hi hnt hf
        go_wp2_with fail
        go_round
        case rel => exact ⟨k + 1, n, c, a, by omega, by omega, by go_num, rfl, Lib.hid (by rw [HT.out]; exact hn.out), Lib.hid (by rw [HT.out]; exact ho.out.later ((Below.refl _ _).alloc (Nat.le_refl _) _)), HB.out.alloc HB.out.size _⟩
        case measure => simp [intOf]; omega
      | some j =>
        rw [hf] at hi hnt
        have hi2 : ∀ w, (Instr.index 90 (.agg cs.toArray) (.int .i64 k)).run Tryz.prog w = .ok (.agg #[.string p.name, .pointer (some ⟨rb j, 0, none⟩)]) w := hi
        have HT := Lib.hid (show namesOf (M.now.take (k + 1)) = namesOf (M.now.take k) ++ [p.name] by rw [hnt]; simp)
        have hsz := HB.out.size
        clear hb hp hi hnt hf
        go_wp2_with (at_builtin; refine wpList_append_W rfl _ _ 93 rfl w.heap.size 9 i0 (.string ⟨#[]⟩) 1 16 Tryz.underlying93 HI0.out hz0 hz1 hz2 rfl (.slice a n c) n (strs (namesOf (M.now.take k))) rfl ((ho.out.later ((Below.refl _ _).alloc (Nat.le_refl _) _)).later ((Below.refl _ _).alloc (Nat.le_refl _) _)) (.slice (some ⟨wr.heap.size + 1, 0, none⟩) 1 1) 1 [.string p.name] rfl (by have := src_val (wr.alloc (.cells #[.string p.name, .pointer (some ⟨rb j, 0, none⟩)] 88)) (.string p.name) rfl 9; simpa using this) (by unfold maxLen; omega) (by omega) (by simp; omega) ?_; intro v3 w3 ho3 hg3 _; obtain ⟨a3, cp3, rfl⟩ := ho3.sl; have HO3 := Lib.hid ho3; have HG3 := Lib.hid hg3; clear ho3 hg3)
        go_roundw
        case rel => exact ⟨k + 1, n + 1, cp3, a3, by omega, by omega, by go_num, rfl, Lib.hid (by rw [HT.out, List.length_append, ← hn.out]; rfl), Lib.hid (by rw [HT.out, strs_append]; exact HO3.out), ((HB.out.alloc HB.out.size _).alloc (by simp; omega) _).grown HG3.out (by simp; omega) (fun g hg => (OwnV.lt ho.out g hg).1)⟩
        case measure => simp [intOf]; omega
    · obtain rfl : k = 64 := by omega
      have ho9 := ho.out
      have hn9 := hn.out
      rw [List.take_of_length_le (by have := HNL.out; omega)] at ho9 hn9
      obtain ⟨_, hcap, hcm, hnone⟩ := own_cap ho9
      have HN9 := Lib.hid hn9
      have hfin : ∀ W v, OwnS W w.heap.size v (sortB (namesOf M.now)) → OwnS W w.heap.size v M.list := fun _ _ h => h
      obtain ⟨N, hN⟩ : ∃ N, N = namesOf M.now := ⟨_, rfl⟩
      rw [← hN] at HN9 ho9 hn9 hfin
      have HFIN := Lib.hid hfin
      have HO := Lib.hid (show OwnS wr w.heap.size (.slice a n c) N by unfold OwnS; rw [← hn9]; exact ho9)
      have hnI : (n : Int) ≤ 64 := by omega
      clear hlt hn ho ho9 hn9 hfin hb HL HI
      by_cases h0 : n = 0
      · have HC := Lib.hid (fun W (h : OwnS W w.heap.size (.slice a 0 c) (sortB N)) => ClipS_any (by rw [sortB_length, ← HN9.out, h0]) W h hcm (Nat.zero_le _))
        have hs0 : sortB N = N := by
          have : N = [] := List.length_eq_zero_iff.1 (by have := HN9.out; omega)
          subst this
          simp [sortB]
        have HS0 := Lib.hid hs0
        subst h0
        clear hs0 hcm hnone hN
        go_wp2_with fail
        refine (Sort_own0 a c wr).mono ?_
        rintro _ _ ⟨rfl, rfl⟩
        go_wp2_with fail
        refine (HC.out _ (by rw [HS0.out]; exact HO.out)).mono ?_
        rintro _ _ ⟨rfl, ho, rfl⟩
        have HO2 := Lib.hid ho
        clear ho
        go_wp2_with fail
        go_ret
        exact ⟨_, rfl, HFIN.out _ _ HO2.out, HB.out⟩
      · obtain ⟨g, o, rfl⟩ : ∃ g o, a = some ⟨g, o, none⟩ := by
          have hh := HO.out.2
          rcases hh with ⟨h1, _⟩ | ⟨g, o, cap, cur, h1, _⟩
          · cases h1; exact absurd rfl h0
          · cases h1; exact ⟨g, o, rfl⟩
        have HSO := Lib.hid (Sort_own (w := wr) (base := w.heap.size) (g := g) (o := o) (cap := c) (L := N) (by rw [← HN9.out]; exact HO.out) (by rw [← HN9.out]; omega))
        rw [← HN9.out] at HSO
        have HGB := Lib.hid ((OwnV.lt HO.out g rfl).1)
        clear h0 hN hnone
        go_wp2_with fail
        refine HSO.out.mono ?_
        rintro _ w2 ⟨rfl, ho, hg⟩
        have HC := Lib.hid (ClipS_any (by rw [sortB_length, ← HN9.out]) w2 ho hcm hcap)
        have HB2 := Lib.hid (HB.out.grown hg HB.out.size (fun k hk => by cases hk; exact HGB.out))
        clear ho hg
        go_wp2_with fail
        refine HC.out.mono ?_
        rintro _ _ ⟨rfl, ho, rfl⟩
        have HO2 := Lib.hid ho
        clear ho
        go_wp2_with fail
        go_ret
        exact ⟨_, rfl, HFIN.out _ _ HO2.out, HB2.out⟩
end Go.Proofs.YtidhlbhfhfonoaaGreatDoor
namespace Go.Proofs.YtidhlbhfhfonoaaGreatDoor
open Go.ChangeShapes Go.WideShapes Go.ChangeAt Go.RowKit

/-- Rows of bytes in memory, apart from each other and from block X. -/
structure RowsAt (w : World) (base X : Nat) (rows : List Rw) (rb : Nat → Nat) (rv : Nat → Value) : Prop where
  row : ∀ k r, rows[k]? = some r → RowAt w base (rb k) (rv k) r
  low : ∀ k, k < rows.length → base ≤ rb k ∧ rb k ≠ X ∧ (rv k).ownBlock ≠ some X
  two : ∀ j k, j < rows.length → k < rows.length → (rv j).ownBlock ≠ some (rb k) ∧ (j ≠ k → rb j ≠ rb k ∧ ∀ g, (rv j).ownBlock = some g → (rv k).ownBlock ≠ some g)
theorem RowsAt.nil (w : World) (base X : Nat) (rb : Nat → Nat) (rv : Nat → Value) : RowsAt w base X [] rb rv := ⟨fun k r h => by simp at h, fun k h => absurd h (Nat.not_lt_zero _), fun j k h => absurd h (Nat.not_lt_zero _)⟩
theorem RowsAt.lt {w : World} {base X : Nat} {rows : List Rw} {rb : Nat → Nat} {rv : Nat → Value} (h : RowsAt w base X rows rb rv) {k : Nat} (hk : k < rows.length) : rb k < w.heap.size ∧ ∀ g, (rv k).ownBlock = some g → base ≤ g ∧ g < w.heap.size := by
  have h0 := h.row k _ (List.getElem?_eq_getElem hk)
  exact ⟨lt_of_heap h0.blk, fun g hg => h0.own.lt g hg⟩
theorem RowsAt.kept {w w' : World} {base X : Nat} {rows : List Rw} {rb : Nat → Nat} {rv : Nat → Value} (h : RowsAt w base X rows rb rv) (hb : ∀ g, g < w.heap.size → g ≠ X → w'.heap[g]? = w.heap[g]?) : RowsAt w' base X rows rb rv := by
  refine ⟨fun k r hr => ?_, h.low, h.two⟩
  have hk : k < rows.length := (List.getElem?_eq_some_iff.1 hr).1
  obtain ⟨l1, l2⟩ := h.lt hk
  obtain ⟨m1, m2, m3⟩ := h.low k hk
  have h0 := h.row k r hr
  exact ⟨(hb _ l1 m2).trans h0.blk, h0.own.block fun g hg => hb g (l2 g hg).2 (fun e => m3 (by rw [hg, e]))⟩
theorem RowsAt.snoc {w w' : World} {base X b : Nat} {rows : List Rw} {rb : Nat → Nat} {rv : Nat → Value} {r : Rw} {v : Value} (h : RowsAt w base X rows rb rv) (hb : ∀ g, g < w.heap.size → g ≠ X → w'.heap[g]? = w.heap[g]?) (hX : X < w.heap.size) (hbase : base ≤ w.heap.size)
    (hr : RowAt w' base b v r) (h1 : w.heap.size ≤ b) (h2 : ∀ g, v.ownBlock = some g → w.heap.size ≤ g ∧ g ≠ b) :
    RowsAt w' base X (rows ++ [r]) (fun k => if k = rows.length then b else rb k) (fun k => if k = rows.length then v else rv k) := by
  have hk' := h.kept hb
  have hl : (rows ++ [r]).length = rows.length + 1 := by simp
  have hne : ∀ k, k < rows.length → k ≠ rows.length := fun k hk => by omega
  refine ⟨fun k q hq => ?_, fun k hk => ?_, fun j k hj hk => ?_⟩
  · rcases Nat.lt_or_ge k rows.length with hkl | hkl
    · rw [List.getElem?_append_left hkl] at hq
      simp only [if_neg (hne k hkl)]
      exact hk'.row k q hq
    · rw [List.getElem?_append_right hkl] at hq
      obtain ⟨h3, hq⟩ := List.getElem?_eq_some_iff.1 hq
      have h4 : k = rows.length := by simp at h3; omega
      rw [List.getElem_singleton] at hq
      simp only [if_pos h4]
      rw [← hq]
      exact hr
  · by_cases hkl : k = rows.length
    · simp only [if_pos hkl]
      exact ⟨by omega, by omega, fun e => by have := (h2 X e).1; omega⟩
    · simp only [if_neg hkl]
      exact h.low k (by omega)
  · by_cases hjl : j = rows.length
    · subst hjl
      simp only [if_pos]
      by_cases hkl : k = rows.length
      · subst hkl
        simp only [if_pos]
        exact ⟨fun e => (h2 b e).2 rfl, fun hne => absurd rfl hne⟩
      · simp only [if_neg hkl]
        obtain ⟨l1, l2⟩ := h.lt (k := k) (by omega)
        exact ⟨fun e => by have := (h2 _ e).1; omega, fun _ => ⟨by omega, fun g hg e => by have := (h2 g hg).1; have := (l2 g e).2; omega⟩⟩
    · simp only [if_neg hjl]
      obtain ⟨l1, l2⟩ := h.lt (k := j) (by omega)
      by_cases hkl : k = rows.length
      · subst hkl
        simp only [if_pos]
        exact ⟨fun e => by have := (l2 _ e).2; omega, fun _ => ⟨by omega, fun g hg e => by have := (h2 g e).1; have := (l2 g hg).2; omega⟩⟩
      · simp only [if_neg hkl]
        exact h.two j k (by omega) (by omega)
theorem tab_append (rb : Nat → Nat) : ∀ (t u : List Pl), tab rb (t ++ u) = tab rb t ++ tab rb u
  | [], _ => rfl
  | p :: t, u => by rw [List.cons_append, tab, tab_append rb t u, tab]; rfl
/-- The disk that is made, i places done. -/
structure Half (w : World) (base X : Nat) (M : Dm) (keep : Nat) (T : List Pl) (i : Nat) (rb rb' : Nat → Nat) (rv' : Nat → Value) : Prop where
  blk : w.heap[X]? = some (.cells (.int .i64 M.size :: (tab rb' (failT M keep (T.take i)).1 ++ (tab rb (T.drop i) ++ tab (fun _ => 0) (List.replicate 64 free)))).toArray 92 (0, 0))
  rows : RowsAt w base X (failT M keep (T.take i)).2 rb' rv'
theorem Half.done {w : World} {base X : Nat} {M : Dm} {keep : Nat} {names : Bool} {rb rb' : Nat → Nat} {rv' : Nat → Value} (h : Half w base X M keep (if names then M.now else M.safe) 64 rb rb' rv') (hok : M.ok) (hX : base ≤ X) :
    DiskAt w base X (M.left0 keep names) rb' rv' := by
  have ht := (hok.tab names).len
  obtain ⟨h1, h2⟩ := h
  rw [List.take_of_length_le (by omega)] at h1 h2
  rw [List.drop_of_length_le (by omega)] at h1
  refine ⟨hok.left0 keep names, ?_, h2.row, hX, h2.low, h2.two⟩
  rw [h1]
  unfold Dm.left0 dc
  rw [tab_free]
  rfl
/-- A place without a file. -/
theorem Half.skip {w w' : World} {base X : Nat} {M : Dm} {keep : Nat} {T : List Pl} {i : Nat} {rb rb' : Nat → Nat} {rv' : Nat → Value} {p : Pl} (h : Half w base X M keep T i rb rb' rv') (hp : T[i]? = some p) (hf : p.file = none) (hb : Below w.heap.size w w') :
    Half w' base X M keep T (i + 1) rb rb' rv' := by
  have hX := lt_of_heap h.blk
  have hd : T.drop i = p :: T.drop (i + 1) := by
    obtain ⟨hi, rfl⟩ := List.getElem?_eq_some_iff.1 hp
    exact List.drop_eq_getElem_cons hi
  obtain ⟨h1, h2⟩ := h
  have he : failT M keep (T.take (i + 1)) = ((failT M keep (T.take i)).1 ++ [p], (failT M keep (T.take i)).2) := by
    rw [failT_take hp]
    unfold failStep
    rw [hf]
  refine ⟨?_, ?_⟩
  · rw [hb.block X hX, h1, he, hd]
    simp [tab, tab_append, ptrOf, hf]
  · rw [he]
    exact h2.kept fun g hg _ => hb.block g hg
/-- A place with one: its row is a copy. -/
theorem Half.put {w w2 : World} {base X b k : Nat} {M : Dm} {keep : Nat} {T : List Pl} {i : Nat} {rb rb' : Nat → Nat} {rv' : Nat → Value} {p : Pl} {v : Value} (h : Half w base X M keep T i rb rb' rv') (hp : T[i]? = some p) (hf : p.file = some k) (hok : M.ok) (hbase : base ≤ w.heap.size)
    (hT : ∀ q ∈ T, (q.name = noName ↔ q.file = none) ∧ ∀ k, q.file = some k → k < M.rows.length)
    (hb : Below w.heap.size w w2) (hr : RowAt w2 base b v (failRow keep (M.rows.getD k noRow))) (h1 : w.heap.size ≤ b) (h2 : ∀ g, v.ownBlock = some g → w.heap.size ≤ g ∧ g ≠ b) (hl : (T.take i).length = i) :
    Half (w2.setCell ⟨X, 1 + i * 2 + 1, none⟩ (.pointer (some ⟨b, 0, none⟩))) base X M keep T (i + 1) rb (fun j => if j = (failT M keep (T.take i)).2.length then b else rb' j) (fun j => if j = (failT M keep (T.take i)).2.length then v else rv' j) := by
  have hX := lt_of_heap h.blk
  have hd : T.drop i = p :: T.drop (i + 1) := by
    obtain ⟨hi, rfl⟩ := List.getElem?_eq_some_iff.1 hp
    exact List.drop_eq_getElem_cons hi
  obtain ⟨g1, g2⟩ := h
  have he : failT M keep (T.take (i + 1)) = ((failT M keep (T.take i)).1 ++ [⟨p.name, some (failT M keep (T.take i)).2.length⟩], (failT M keep (T.take i)).2 ++ [failRow keep (M.rows.getD k noRow)]) := by
    rw [failT_take hp]
    unfold failStep
    rw [hf]
  have hF := failT_ok hok keep (T.take i) fun q hq => hT q (List.take_subset _ _ hq)
  have hfl : (failT M keep (T.take i)).1.length = i := by
    have := congrArg List.length hF.names
    rw [List.length_map, List.length_map, hl] at this
    exact this
  have hset : ∀ g, g < w.heap.size → g ≠ X → (w2.setCell ⟨X, 1 + i * 2 + 1, none⟩ (.pointer (some ⟨b, 0, none⟩))).heap[g]? = w.heap[g]? := fun g hg hne => by
    rw [Below.heap_setCell _ _ _ _ hne, hb.block g hg]
  have hbX : b ≠ X := by omega
  refine ⟨?_, ?_⟩
  · have hB2 := (hb.block X hX).trans g1
    have h3 := heap_setCell_same w2 X (1 + i * 2 + 1) _ _ (.pointer (some ⟨b, 0, none⟩)) hB2
    rw [List.setIfInBounds_toArray] at h3
    rw [h3, he, hd]
    congr 2
    have e1 : tab (fun j => if j = (failT M keep (T.take i)).2.length then b else rb' j) (failT M keep (T.take i)).1 = tab rb' (failT M keep (T.take i)).1 := tab_congr fun q hq j hj => if_neg (by have := (hF.file q hq).2 j hj; omega)
    have e2 : (tab rb' (failT M keep (T.take i)).1).length = i * 2 := by rw [tab_length, hfl]
    simp only [tab_append, e1]
    generalize tab rb' (failT M keep (T.take i)).1 = A at e2 ⊢
    rw [show 1 + i * 2 + 1 = (i * 2 + 1) + 1 by omega, List.set_cons_succ, List.set_append_right _ _ (by omega), e2, show i * 2 + 1 - i * 2 = 1 by omega]
    simp [tab, ptrOf]
  · rw [he]
    refine g2.snoc hset hX hbase ⟨?_, ?_⟩ h1 h2
    · rw [Below.heap_setCell _ _ _ _ hbX]
      exact hr.blk
    · exact hr.own.block fun g hg => Below.heap_setCell _ _ _ _ (fun e => by have := (h2 g hg).1; simp only at e; omega)
theorem Half.cell {w : World} {base X : Nat} {M : Dm} {keep : Nat} {T : List Pl} {i : Nat} {rb rb' : Nat → Nat} {rv' : Nat → Value} {p : Pl} (h : Half w base X M keep T i rb rb' rv') (hp : T[i]? = some p) (hok : M.ok)
    (hT : ∀ q ∈ T, (q.name = noName ↔ q.file = none) ∧ ∀ k, q.file = some k → k < M.rows.length) : w.cell? ⟨X, 1 + i * 2 + 1, none⟩ = some (ptrOf rb p.file) := by
  have hi := (List.getElem?_eq_some_iff.1 hp).1
  have hd : T.drop i = p :: T.drop (i + 1) := by
    obtain ⟨hi, rfl⟩ := List.getElem?_eq_some_iff.1 hp
    exact List.drop_eq_getElem_cons hi
  have hF := failT_ok hok keep (T.take i) fun q hq => hT q (List.take_subset _ _ hq)
  have hfl : (failT M keep (T.take i)).1.length = i := by
    have := congrArg List.length hF.names
    rw [List.length_map, List.length_map, List.length_take] at this
    omega
  have e2 : (tab rb' (failT M keep (T.take i)).1).length = i * 2 := by rw [tab_length, hfl]
  rw [cell_of_row w X _ _ _ (0, 0) h.blk, hd]
  generalize tab rb' (failT M keep (T.take i)).1 = A at e2 ⊢
  rw [List.getElem?_toArray, show 1 + i * 2 + 1 = (i * 2 + 1) + 1 by omega, List.getElem?_cons_succ, List.getElem?_append_right (by omega), e2, show i * 2 + 1 - i * 2 = 1 by omega]
  rfl
end Go.Proofs.YtidhlbhfhfonoaaGreatDoor
