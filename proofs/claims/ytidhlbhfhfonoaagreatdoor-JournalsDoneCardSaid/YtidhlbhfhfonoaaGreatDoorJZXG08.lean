/- Layer 17 (files): Fail, the walk -/
import Derived.Test.YtidhlbhfhfonoaaGreatDoorJZXG07
namespace Go.Proofs.YtidhlbhfhfonoaaGreatDoor
open Go.ChangeShapes Go.WideShapes Go.ChangeAt Go.RowKit

theorem table_size : (Tryz.prog.info? 90).map (·.size) = some 128 := by kernel_rfl
theorem built_fold (n : Nat) (cs : List Value) (hl : cs.length = 128) : List.foldl (fun (cs : Array Value) (x : Value × Nat) => cs.setIfInBounds (1 + x.snd) x.fst) (Tryz.zeroCells92.setIfInBounds 0 (.int .i64 n)) cs.zipIdx = (.int .i64 n :: (cs ++ tab (fun _ => 0) (List.replicate 64 free))).toArray := by
  apply Array.ext'
  have h1 := zip_setL 1 cs 0 (Tryz.zeroCells92.setIfInBounds 0 (.int .i64 n))
  rw [h1, zero_set]
  have hzl : (tab (fun _ => 0) (List.replicate 64 free)).length = 128 := by rw [tab_length]; rfl
  have hm := setL_mid cs [.int .i64 n] (tab (fun _ => 0) (List.replicate 64 free)) (tab (fun _ => 0) (List.replicate 64 free)) (by omega)
  simp only [List.singleton_append, List.length_singleton] at hm
  exact hm
theorem a_ok : nameOk ⟨#[97]⟩ = true := by decide
set_option maxRecDepth 20000 in
set_option maxHeartbeats 1500000 in
theorem Fail_no {w : World} {base D : Nat} {M : Dm} {S : Nat → Prop} (hd : Dk w base D M S) (keep : Int) (names : Bool) (hk : keep < 0) :
    Calls Tryz.prog 21 #[.pointer (some ⟨D, 0, none⟩), .int .i64 keep, .bool names] w fun e w' => e = .returned (.tuple #[.pointer none, .int .i64 1]) ∧ Below w.heap.size w w' := by
  obtain ⟨⟨rb, rv, h, _⟩, _⟩ := hd
  have HG := Lib.hid (goes_any w D M.size h.size h.ok.size.1 false ⟨#[97]⟩ (by decide))
  have hk2 : ¬ (0 ≤ keep) := by omega
  clear h
  go_enter Tryz.func21, Tryz.ntmps21
  go_wp2_with fail
  refine HG.out.mono ?_
  rintro _ w1 ⟨rfl, hb⟩
  have HB := Lib.hid hb
  clear hb
  go_wp2_with fail
  go_ret2
  exact ⟨rfl, HB.out⟩
set_option maxRecDepth 20000 in
set_option maxHeartbeats 1500000 in
theorem Fail_yes {w : World} {base D : Nat} {M : Dm} {S : Nat → Prop} (hd : Dk w base D M S) (keep : Nat) (names : Bool) (hk : keep ≤ 9223372036854775807) :
    Calls Tryz.prog 21 #[.pointer (some ⟨D, 0, none⟩), .int .i64 keep, .bool names] w fun e w' => ∃ X, e = .returned (.tuple #[.pointer (some ⟨X, 0, none⟩), .int .i64 0]) ∧ Dk w' w.heap.size X (M.fail keep names) (fun g => w.heap.size ≤ g ∧ g < w'.heap.size) ∧ Below w.heap.size w w' := by
  obtain ⟨⟨rb, rv, h, hS⟩, _⟩ := hd
  have HG := Lib.hid (goes_any w D M.size h.size h.ok.size.1 true ⟨#[97]⟩ (by decide))
  rw [if_pos (by simpa using a_ok)] at HG
  have H := Lib.hid h
  clear h hS
  go_enter Tryz.func21, Tryz.ntmps21
  go_wp2_with fail
  refine HG.out.mono ?_
  rintro _ w1 ⟨rfl, hb⟩
  have HB := Lib.hid hb
  have H1 := H.out.later hb
  have c0 := H1.size
  have r1 := H1.now
  have r2 := H1.safe
  have hD := lt_of_heap H1.blk
  have hln : (tab rb M.now).length = 128 := by rw [tab_length, H1.ok.nl]
  have hls : (tab rb M.safe).length = 128 := by rw [tab_length, H1.ok.sl]
  have HON := Lib.hid (tab_one rb M.now)
  have hoo := tab_one rb M.safe
  have HH := Lib.hid H1
  obtain ⟨cs, hcs⟩ : ∃ cs, cs = tab rb M.safe := ⟨_, rfl⟩
  obtain ⟨cn, hcn⟩ : ∃ cn, cn = tab rb M.now := ⟨_, rfl⟩
  rw [← hcs] at r2 hls hoo
  rw [← hcn] at r1 hln HON
  have HCS := Lib.hid hcs
  have HCN := Lib.hid hcn
  have HR1 := Lib.hid r1
  have HLN := Lib.hid hln
  have K0 := Lib.hid (fun ob => (show (w1.alloc ob).drew.cell? ⟨D, 0, none⟩ = some (.int .i64 M.size) from (World.cell?_alloc_lt w1 ob ⟨D, 0, none⟩ hD).trans c0))
  have K1 := Lib.hid (fun ob => (show (w1.alloc ob).drew.rangeAt D 129 cs from (World.rangeAt_drew _ _ _ _).2 (World.rangeAt_alloc r2 ob)))
  clear hb H1 hcs hcn r1 hln
  go_wp2_with fail
  have hu := Tryz.underlying90
  have hi : (Tryz.prog.info? 90).map (·.size) = some cs.length := by rw [table_size, hls]
  go_region_held3 (fun w' => w'.cell? ⟨D, 0, none⟩ = some (.int .i64 M.size) ∧ w'.rangeAt D 129 cs) (first | exact ⟨c0, r2⟩ | exact ⟨K0.out _, K1.out _⟩) (fail)
  rw [built_fold M.size cs hls]
  have HLS := Lib.hid hls
  obtain ⟨w2, e2⟩ : ∃ w2 : World, w2 = (w1.alloc (.cells (.int .i64 M.size :: (cs ++ tab (fun _ => 0) (List.replicate 64 free))).toArray 92)).drew := ⟨_, rfl⟩
  have hx2 : w2.heap[w1.heap.size]? = some (.cells (.int .i64 M.size :: (cs ++ tab (fun _ => 0) (List.replicate 64 free))).toArray 92 (0, 0)) := by rw [e2]; exact heap_alloc_new w1 _
  have hb2 : Below w1.heap.size w1 w2 := by rw [e2]; exact ((Below.refl _ _).alloc (Nat.le_refl _) _).drew
  rw [← e2]
  obtain ⟨X, hX⟩ : ∃ X, X = w1.heap.size := ⟨_, rfl⟩
  rw [← hX] at hx2 ⊢
  have hb2 : Below X w1 w2 := by rw [hX]; exact hb2
  have hDX : D < X := by omega
  have HX2 := Lib.hid hx2
  have HB2 := Lib.hid hb2
  have HXE := Lib.hid hX
  have hXW : w.heap.size ≤ X := by have := HB.out.size; omega
  clear e2 c0 r2 hls hoo hu hi K0 K1 hD hx2 hb2 hX
  cases names with
  | false =>
    have hr2 : w2.rangeAt X 1 cs := by
      intro j v hj
      have hjl := (List.getElem?_eq_some_iff.1 hj).1
      rw [cell_of_row w2 X (1 + j) _ _ (0, 0) HX2.out, List.getElem?_toArray, Nat.add_comm 1 j, List.getElem?_cons_succ, List.getElem?_append_left hjl, hj]
    have HR2 := Lib.hid hr2
    clear hr2
    go_wp2_with (refine wpList_load_mid rfl 90 _ rfl X 1 rfl cs _ HR2.out Tryz.underlying90 rfl (by rw [HLS.out]; exact table_size) ?_)
    obtain ⟨w3, e3⟩ : ∃ w3, w3 = w2 := ⟨_, rfl⟩
    have HX3 := Lib.hid HX2.out
    have HB3 := Lib.hid HB2.out
    rw [← e3] at HX3 HB3 ⊢
    clear HX2 HB2 e3
    obtain ⟨T, hT⟩ : ∃ T, T = M.safe := ⟨_, rfl⟩
    have hhalf : Half w3 w.heap.size X M keep T 0 rb rb (fun _ => .slice none 0 0) := ⟨by rw [HX3.out, hT]; simp [failT, HCS.out, tab], RowsAt.nil _ _ _ _ _⟩
    have HHALF := Lib.hid hhalf
    have HT := Lib.hid (show T = if false then M.now else M.safe by rw [hT]; rfl)
    have hTT : okT M.rows.length T := by rw [hT]; exact HH.out.ok.tab false
    have HTT := Lib.hid hTT
    have HI := Lib.hid (fun (i : Nat) (p : Pl) (hp : T[i]? = some p) (w : World) => index_tab rb hp hTT.len w)
    rw [hT, ← HCS.out, ← hT] at HI
    clear hhalf hT hTT HX3
    go_loopw [44] (fun i wr => ∃ (k : Nat) (rb' : Nat → Nat) (rv' : Nat → Value), k ≤ 64 ∧ i = .int .i64 k ∧ Hid (Half wr w.heap.size X M keep T k rb rb' rv') ∧ Below X w1 wr ∧ X < wr.heap.size) (fun i _ => 64 - (intOf i).toNat)
    case atStart => exact ⟨0, _, _, Nat.zero_le _, rfl, HHALF.out, HB3.out, lt_of_heap HHALF.out.blk⟩
    case round =>
      obtain ⟨k, rb', rv', hk64, rfl, hh, hb, hlt1⟩ := hrel
      have HBR := Lib.hid hb
      have hb := (show Below w1.heap.size w1 wr by rw [← HXE.out]; exact hb)
      have hw1s := hXW
      by_cases hlt : k < 64
      · obtain ⟨p, hp⟩ : ∃ p, T[k]? = some p := ⟨_, List.getElem?_eq_getElem (by have := HTT.out.len; omega)⟩
        have hi := HI.out k p hp
        have HP := Lib.hid hp
        cases hf : p.file with
        | none =>
          rw [hf] at hi
          have hi2 : ∀ w, (Instr.index 90 (.agg cs.toArray) (.int .i64 k)).run Tryz.prog w = .ok (.agg #[.string p.name, .pointer none]) w := hi
          have HF := Lib.hid hf
          clear hb hp hi hf
          go_wp2_with fail
          go_roundw
          case rel => exact ⟨k + 1, rb', rv', by omega, by go_num, Lib.hid (hh.out.skip HP.out HF.out ((Below.refl _ _).alloc (Nat.le_refl _) _)), HBR.out.alloc (by omega) _, by simp; omega⟩
          case measure => simp [intOf]; omega
        | some j =>
          rw [hf] at hi
          have hi2 : ∀ w, (Instr.index 90 (.agg cs.toArray) (.int .i64 k)).run Tryz.prog w = .ok (.agg #[.string p.name, .pointer (some ⟨rb j, 0, none⟩)]) w := hi
          have HF := Lib.hid hf
          have hjr := (HTT.out.file k p hp).2 j hf
          obtain ⟨r, hr⟩ : ∃ r, M.rows[j]? = some r := ⟨_, List.getElem?_eq_getElem hjr⟩
          have hro := HH.out.ok.rl j r hr
          have hrow := (HH.out.later hb).row j r hr
          obtain ⟨c3, c4⟩ := hrow.cells
          have hkat : KAt .u8 wr (rv j) r.l := Own.at_ (base := base) hrow.own
          obtain ⟨a, c, hsl⟩ := hrow.own.sl
          rw [hsl] at c3 hkat
          have hjs := World.block_lt_of_cell? (a := ⟨rb j, 0, none⟩) _ c3
          have d3 : ∀ ob, (wr.alloc ob).cell? ⟨rb j, 0, none⟩ = some (.slice a r.l.length c) := fun ob => (World.cell?_alloc_lt wr ob ⟨rb j, 0, none⟩ hjs).trans c3
          have d4 : ∀ ob, (wr.alloc ob).cell? ⟨rb j, 1, none⟩ = some (.int .i64 r.m) := fun ob => (World.cell?_alloc_lt wr ob ⟨rb j, 1, none⟩ hjs).trans c4
          obtain ⟨d, hd⟩ : ∃ d, d = r.l.length - r.m := ⟨_, rfl⟩
          obtain ⟨q, hq⟩ : ∃ q, q = min keep d := ⟨_, rfl⟩
          obtain ⟨n, hn⟩ : ∃ n, n = r.m + q := ⟨_, rfl⟩
          have hnl : n ≤ r.l.length := by omega
          have hfr : failRow keep (M.rows.getD j noRow) = ⟨r.l.take n, n⟩ := by
            rw [List.getD_eq_getElem?_getD, hr, hn, hq, hd]
            rfl
          obtain ⟨a1, c1, hs1, hk1⟩ := slice_to hkat n hnl
          obtain ⟨L2, hL2⟩ : ∃ L2, L2 = r.l.take n := ⟨_, rfl⟩
          rw [← hL2] at hk1 hfr
          have HFR := Lib.hid hfr
          have HS1 := Lib.hid hs1
          have HL2 := Lib.hid (show L2.length = n by rw [hL2, List.length_take]; omega)
          have HKA := Lib.hid (fun (W : World) (h : Below wr.heap.size wr W) => hk1.later h)
          have HX := Lib.hid (hh.out.cell hp HH.out.ok HTT.out.mem)
          rw [hf] at HX
          have HX := Lib.hid (show wr.cell? ⟨X, 1 + k * 2 + 1, none⟩ = some (.pointer (some ⟨rb j, 0, none⟩)) from HX.out)
          have HFX := Lib.hid (frozen_row hh.out.blk (1 + k * 2 + 1))
          have hml : r.m ≤ r.l.length := hro.2.1
          have hll : r.l.length ≤ 1048576 := hro.1
          have e1 : IntKind.i64.wrap ((r.l.length : Int) - (r.m : Int)) = (d : Int) := by rw [IntKind.wrap_i64]; omega
          have e2 : min (keep : Int) (d : Int) = (q : Int) := by omega
          have e3 : IntKind.i64.wrap ((r.m : Int) + (q : Int)) = (n : Int) := by rw [IntKind.wrap_i64]; omega
          have hd2 : (r.l.length : Int) - (r.m : Int) = (d : Int) := by omega
          have hn2 : (r.m : Int) + (q : Int) = (n : Int) := by omega
          clear hb hp hi hf hrow hkat hsl c3 c4 hr hro hfr hs1 hk1 hL2 hd hq hn
          go_wp2_with fail
          go_quiet (fail)
          go_wp2_with fail
          have q3 := d3 (.cells #[.string p.name, .pointer (some ⟨rb j, 0, none⟩)] 88)
          obtain ⟨wq, eq⟩ : ∃ wq : World, wq = (wr.alloc (.cells #[.string p.name, .pointer (some ⟨rb j, 0, none⟩)] 88)).drewN nq := ⟨_, rfl⟩
          have hbq : Below wr.heap.size wr wq := by rw [eq]; exact ((Below.refl _ _).alloc (Nat.le_refl _) _).trans (below_drewN9 _ _ |>.mono (by simp))
          have c3q : wq.cell? ⟨rb j, 0, none⟩ = some (.slice a r.l.length c) := by rw [eq]; exact q3
          rw [← eq]
          have HBQ := Lib.hid hbq
          have hqs := hbq.size
          have HKQ := Lib.hid (fun (W : World) (h : Below wq.heap.size wq W) => HKA.out W (hbq.trans (h.mono hbq.size)))
          have HXQ := Lib.hid (cell_on HX.out hbq)
          have HFQ := Lib.hid ((hbq.frozen (p := ⟨X, 1 + k * 2 + 1, none⟩) hlt1).trans HFX.out)
          clear eq hbq q3 d3 d4 e1 e2 e3 hd2 hn2
          have hs1 := HS1.out
          go_region_with (go_at_call 53; refine (BClone_any (HKQ.out _ (by first | exact Below.refl _ _ | exact (Below.refl _ _).drew)) (by rw [HL2.out]; omega)).mono ?_; rintro _ w3' ⟨v3, rfl, ho, hbl⟩; obtain ⟨a3, c3', rfl⟩ := ho.sl; have HO := Lib.hid ho; have HBL := Lib.hid hbl; have cx := cell_on (w := wq.drew) HXQ.out hbl; have fx := (hbl.frozen (p := ⟨X, 1 + k * 2 + 1, none⟩) (show X < wq.heap.size by omega)).trans HFQ.out; have hs3 := (show wq.heap.size ≤ w3'.heap.size from hbl.size); have hlt3 : X < w3'.heap.size := (by omega); clear ho hbl)
          go_wp2_with fail
          have e5 : (w3'.setCell ⟨X, 1 + k * 2 + 1, none⟩ (.pointer (some ⟨w3'.heap.size, 0, none⟩))).alloc (.cells #[.slice a3 L2.length c3', .int .i64 n] 118) = (w3'.alloc (.cells #[.slice a3 L2.length c3', .int .i64 n] 118)).setCell ⟨X, 1 + k * 2 + 1, none⟩ (.pointer (some ⟨w3'.heap.size, 0, none⟩)) := (World.setCell_alloc_past _ _ _ _ hlt3).symm
          rw [e5]
          have hbr3 : Below wr.heap.size wr w3' := HBQ.out.trans ((((Below.refl wq.heap.size wq).drew).trans HBL.out).mono hqs)
          have hbr4 : Below wr.heap.size wr (w3'.alloc (.cells #[.slice a3 L2.length c3', .int .i64 n] 118)) := hbr3.alloc hbr3.size _
          have hoo := HO.out
          have hrow : RowAt (w3'.alloc (.cells #[.slice a3 L2.length c3', .int .i64 n] 118)) w.heap.size w3'.heap.size (.slice a3 L2.length c3') (failRow keep (M.rows.getD j noRow)) := by
            rw [HFR.out]
            exact ⟨heap_alloc_new w3' _, (OwnV.base hoo (show w.heap.size ≤ wq.heap.size by omega)).later ((Below.refl _ _).alloc (Nat.le_refl _) _)⟩
          have hput := hh.out.put (w2 := w3'.alloc (.cells #[.slice a3 L2.length c3', .int .i64 n] 118)) HP.out HF.out HH.out.ok (by omega) HTT.out.mem hbr4 hrow hbr3.size (fun g hg => by
            have h9 := OwnV.lt hoo g hg
            have h8 : wq.heap.size ≤ g := h9.1
            omega) (by rw [List.length_take, HTT.out.len]; omega)
          exact ⟨⟨k + 1, _, _, by omega, by go_num, Lib.hid hput, (HBR.out.trans (hbr4.mono (by omega))).setCell (Nat.le_refl _) _, by simp; omega⟩, by simp [intOf]; omega⟩
      · obtain rfl : k = 64 := by omega
        have hd := hh.out
        rw [HT.out] at hd
        have hd2 := hd.done HH.out.ok hw1s
        have hw2s : w.heap.size ≤ wr.heap.size := by omega
        have HDK : Hid (Dk wr w.heap.size X (M.left0 keep false) (fun g => w.heap.size ≤ g ∧ g < wr.heap.size)) := Lib.hid ⟨⟨rb', rv', hd2, fun g hg => hd2.foot g hg⟩, fun g hg => hg⟩
        clear hd hd2 hb hlt
        go_wp2_with fail
        refine (Names_any HDK.out).mono ?_
        rintro _ w9 ⟨rfl, hdn⟩
        have HDN := Lib.hid hdn
        clear hdn
        go_wp2_with fail
        go_ret2
        have hs9 := HDN.out.chg.size
        exact ⟨_, rfl, HDN.out.dk.wide (fun g hg => by rcases hg with hg | hg <;> omega) (fun g hg => hg), (below_on HB.out (by rw [← HXE.out]; exact HBR.out)).trans (HDN.out.chg.below (fun g hg => hg.1) hw2s)⟩
  | true =>
    have hr1 : w2.rangeAt D 1 cn := fun j v hj => cell_on (HR1.out j v hj) (by rw [← HXE.out]; exact HB2.out)
    have HR2 := Lib.hid hr1
    have ht2 : w2.there X 1 128 := fun j hj => ⟨by
      rw [cell_of_row w2 X (1 + j) _ _ (0, 0) HX2.out, List.getElem?_toArray, List.getElem?_eq_getElem]
      · rfl
      · simp [HLS.out, tab_length]; omega, frozen_row HX2.out _⟩
    have HT2 := Lib.hid ht2
    have hx3 := heap_setCells cn 1 w2 _ HX2.out
    have hm := setL_mid cn [.int .i64 M.size] cs (tab (fun _ => 0) (List.replicate 64 free)) (by rw [HLS.out, HLN.out])
    simp only [List.singleton_append, List.length_singleton] at hm
    rw [hm] at hx3
    have HX3 := Lib.hid hx3
    have HB3 := Lib.hid (show Below X w1 (w2.setCells X 1 cn) from by
      obtain ⟨q1, q2, q3⟩ := setCells_rest X cn 1 w2
      exact ⟨q1.trans HB2.out.os, q2.trans HB2.out.tape, q3.trans HB2.out.output, by rw [setCells_size]; exact HB2.out.size, fun g hg => by rw [setCells_other _ _ _ _ _ (by omega)]; exact HB2.out.block g hg⟩)
    have HR3 := Lib.hid (show (w2.setCells X 1 cn).rangeAt X 1 cn from World.rangeAt_setCells_same _ _ _ _ (by rw [HLN.out]; exact ht2))
    obtain ⟨w3, e3⟩ : ∃ w3, w3 = w2.setCells X 1 cn := ⟨_, rfl⟩
    rw [← e3] at HX3 HB3 HR3
    have E3 := Lib.hid e3
    clear hr1 ht2 hx3 hm e3
    go_wp2_with (first
      | (refine wpList_load_mid rfl 90 _ rfl D 1 rfl cn _ HR2.out Tryz.underlying90 rfl (by rw [HLN.out]; exact table_size) ?_)
      | (refine wpList_store_mid rfl 90 _ _ rfl X 1 cn.toArray rfl rfl (by rw [List.size_toArray, HLN.out]; exact HT2.out) (by rw [List.size_toArray, HLN.out]; exact table_size) (all_oneCell_toArray HON.out) ?_; change wpList _ _ _ _ _ (w2.setCells X 1 cn); rw [← E3.out])
      | (refine wpList_load_mid rfl 90 _ rfl X 1 rfl cn _ HR3.out Tryz.underlying90 rfl (by rw [HLN.out]; exact table_size) ?_))
    clear HX2 HB2 E3
    obtain ⟨T, hT⟩ : ∃ T, T = M.now := ⟨_, rfl⟩
    have hhalf : Half w3 w.heap.size X M keep T 0 rb rb (fun _ => .slice none 0 0) := ⟨by rw [HX3.out, hT]; simp [failT, HCN.out, tab], RowsAt.nil _ _ _ _ _⟩
    have HHALF := Lib.hid hhalf
    have HT := Lib.hid (show T = if true then M.now else M.safe by rw [hT]; rfl)
    have hTT : okT M.rows.length T := by rw [hT]; exact HH.out.ok.tab true
    have HTT := Lib.hid hTT
    have HI := Lib.hid (fun (i : Nat) (p : Pl) (hp : T[i]? = some p) (w : World) => index_tab rb hp hTT.len w)
    rw [hT, ← HCN.out, ← hT] at HI
    clear hhalf hT hTT HX3
    go_loopw [44] (fun i wr => ∃ (k : Nat) (rb' : Nat → Nat) (rv' : Nat → Value), k ≤ 64 ∧ i = .int .i64 k ∧ Hid (Half wr w.heap.size X M keep T k rb rb' rv') ∧ Below X w1 wr ∧ X < wr.heap.size) (fun i _ => 64 - (intOf i).toNat)
    case atStart => exact ⟨0, _, _, Nat.zero_le _, rfl, HHALF.out, HB3.out, lt_of_heap HHALF.out.blk⟩
    case round =>
      obtain ⟨k, rb', rv', hk64, rfl, hh, hb, hlt1⟩ := hrel
      have HBR := Lib.hid hb
      have hb := (show Below w1.heap.size w1 wr by rw [← HXE.out]; exact hb)
      have hw1s := hXW
      by_cases hlt : k < 64
      · obtain ⟨p, hp⟩ : ∃ p, T[k]? = some p := ⟨_, List.getElem?_eq_getElem (by have := HTT.out.len; omega)⟩
        have hi := HI.out k p hp
        have HP := Lib.hid hp
        cases hf : p.file with
        | none =>
          rw [hf] at hi
          have hi2 : ∀ w, (Instr.index 90 (.agg cn.toArray) (.int .i64 k)).run Tryz.prog w = .ok (.agg #[.string p.name, .pointer none]) w := hi
          have HF := Lib.hid hf
          clear hb hp hi hf
          go_wp2_with fail
          go_roundw
          case rel => exact ⟨k + 1, rb', rv', by omega, by go_num, Lib.hid (hh.out.skip HP.out HF.out ((Below.refl _ _).alloc (Nat.le_refl _) _)), HBR.out.alloc (by omega) _, by simp; omega⟩
          case measure => simp [intOf]; omega
        | some j =>
          rw [hf] at hi
          have hi2 : ∀ w, (Instr.index 90 (.agg cn.toArray) (.int .i64 k)).run Tryz.prog w = .ok (.agg #[.string p.name, .pointer (some ⟨rb j, 0, none⟩)]) w := hi
          have HF := Lib.hid hf
          have hjr := (HTT.out.file k p hp).2 j hf
          obtain ⟨r, hr⟩ : ∃ r, M.rows[j]? = some r := ⟨_, List.getElem?_eq_getElem hjr⟩
          have hro := HH.out.ok.rl j r hr
          have hrow := (HH.out.later hb).row j r hr
          obtain ⟨c3, c4⟩ := hrow.cells
          have hkat : KAt .u8 wr (rv j) r.l := Own.at_ (base := base) hrow.own
          obtain ⟨a, c, hsl⟩ := hrow.own.sl
          rw [hsl] at c3 hkat
          have hjs := World.block_lt_of_cell? (a := ⟨rb j, 0, none⟩) _ c3
          have d3 : ∀ ob, (wr.alloc ob).cell? ⟨rb j, 0, none⟩ = some (.slice a r.l.length c) := fun ob => (World.cell?_alloc_lt wr ob ⟨rb j, 0, none⟩ hjs).trans c3
          have d4 : ∀ ob, (wr.alloc ob).cell? ⟨rb j, 1, none⟩ = some (.int .i64 r.m) := fun ob => (World.cell?_alloc_lt wr ob ⟨rb j, 1, none⟩ hjs).trans c4
          obtain ⟨d, hd⟩ : ∃ d, d = r.l.length - r.m := ⟨_, rfl⟩
          obtain ⟨q, hq⟩ : ∃ q, q = min keep d := ⟨_, rfl⟩
          obtain ⟨n, hn⟩ : ∃ n, n = r.m + q := ⟨_, rfl⟩
          have hnl : n ≤ r.l.length := by omega
          have hfr : failRow keep (M.rows.getD j noRow) = ⟨r.l.take n, n⟩ := by
            rw [List.getD_eq_getElem?_getD, hr, hn, hq, hd]
            rfl
          obtain ⟨a1, c1, hs1, hk1⟩ := slice_to hkat n hnl
          obtain ⟨L2, hL2⟩ : ∃ L2, L2 = r.l.take n := ⟨_, rfl⟩
          rw [← hL2] at hk1 hfr
          have HFR := Lib.hid hfr
          have HS1 := Lib.hid hs1
          have HL2 := Lib.hid (show L2.length = n by rw [hL2, List.length_take]; omega)
          have HKA := Lib.hid (fun (W : World) (h : Below wr.heap.size wr W) => hk1.later h)
          have HX := Lib.hid (hh.out.cell hp HH.out.ok HTT.out.mem)
          rw [hf] at HX
          have HX := Lib.hid (show wr.cell? ⟨X, 1 + k * 2 + 1, none⟩ = some (.pointer (some ⟨rb j, 0, none⟩)) from HX.out)
          have HFX := Lib.hid (frozen_row hh.out.blk (1 + k * 2 + 1))
          have hml : r.m ≤ r.l.length := hro.2.1
          have hll : r.l.length ≤ 1048576 := hro.1
          have e1 : IntKind.i64.wrap ((r.l.length : Int) - (r.m : Int)) = (d : Int) := by rw [IntKind.wrap_i64]; omega
          have e2 : min (keep : Int) (d : Int) = (q : Int) := by omega
          have e3 : IntKind.i64.wrap ((r.m : Int) + (q : Int)) = (n : Int) := by rw [IntKind.wrap_i64]; omega
          have hd2 : (r.l.length : Int) - (r.m : Int) = (d : Int) := by omega
          have hn2 : (r.m : Int) + (q : Int) = (n : Int) := by omega
          clear hb hp hi hf hrow hkat hsl c3 c4 hr hro hfr hs1 hk1 hL2 hd hq hn
          go_wp2_with fail
          go_quiet (fail)
          go_wp2_with fail
          have q3 := d3 (.cells #[.string p.name, .pointer (some ⟨rb j, 0, none⟩)] 88)
          obtain ⟨wq, eq⟩ : ∃ wq : World, wq = (wr.alloc (.cells #[.string p.name, .pointer (some ⟨rb j, 0, none⟩)] 88)).drewN nq := ⟨_, rfl⟩
          have hbq : Below wr.heap.size wr wq := by rw [eq]; exact ((Below.refl _ _).alloc (Nat.le_refl _) _).trans (below_drewN9 _ _ |>.mono (by simp))
          have c3q : wq.cell? ⟨rb j, 0, none⟩ = some (.slice a r.l.length c) := by rw [eq]; exact q3
          rw [← eq]
          have HBQ := Lib.hid hbq
          have hqs := hbq.size
          have HKQ := Lib.hid (fun (W : World) (h : Below wq.heap.size wq W) => HKA.out W (hbq.trans (h.mono hbq.size)))
          have HXQ := Lib.hid (cell_on HX.out hbq)
          have HFQ := Lib.hid ((hbq.frozen (p := ⟨X, 1 + k * 2 + 1, none⟩) hlt1).trans HFX.out)
          clear eq hbq q3 d3 d4 e1 e2 e3 hd2 hn2
          have hs1 := HS1.out
          go_region_with (go_at_call 53; refine (BClone_any (HKQ.out _ (by first | exact Below.refl _ _ | exact (Below.refl _ _).drew)) (by rw [HL2.out]; omega)).mono ?_; rintro _ w3' ⟨v3, rfl, ho, hbl⟩; obtain ⟨a3, c3', rfl⟩ := ho.sl; have HO := Lib.hid ho; have HBL := Lib.hid hbl; have cx := cell_on (w := wq.drew) HXQ.out hbl; have fx := (hbl.frozen (p := ⟨X, 1 + k * 2 + 1, none⟩) (show X < wq.heap.size by omega)).trans HFQ.out; have hs3 := (show wq.heap.size ≤ w3'.heap.size from hbl.size); have hlt3 : X < w3'.heap.size := (by omega); clear ho hbl)
          go_wp2_with fail
          have e5 : (w3'.setCell ⟨X, 1 + k * 2 + 1, none⟩ (.pointer (some ⟨w3'.heap.size, 0, none⟩))).alloc (.cells #[.slice a3 L2.length c3', .int .i64 n] 118) = (w3'.alloc (.cells #[.slice a3 L2.length c3', .int .i64 n] 118)).setCell ⟨X, 1 + k * 2 + 1, none⟩ (.pointer (some ⟨w3'.heap.size, 0, none⟩)) := (World.setCell_alloc_past _ _ _ _ hlt3).symm
          rw [e5]
          have hbr3 : Below wr.heap.size wr w3' := HBQ.out.trans ((((Below.refl wq.heap.size wq).drew).trans HBL.out).mono hqs)
          have hbr4 : Below wr.heap.size wr (w3'.alloc (.cells #[.slice a3 L2.length c3', .int .i64 n] 118)) := hbr3.alloc hbr3.size _
          have hoo := HO.out
          have hrow : RowAt (w3'.alloc (.cells #[.slice a3 L2.length c3', .int .i64 n] 118)) w.heap.size w3'.heap.size (.slice a3 L2.length c3') (failRow keep (M.rows.getD j noRow)) := by
            rw [HFR.out]
            exact ⟨heap_alloc_new w3' _, (OwnV.base hoo (show w.heap.size ≤ wq.heap.size by omega)).later ((Below.refl _ _).alloc (Nat.le_refl _) _)⟩
          have hput := hh.out.put (w2 := w3'.alloc (.cells #[.slice a3 L2.length c3', .int .i64 n] 118)) HP.out HF.out HH.out.ok (by omega) HTT.out.mem hbr4 hrow hbr3.size (fun g hg => by
            have h9 := OwnV.lt hoo g hg
            have h8 : wq.heap.size ≤ g := h9.1
            omega) (by rw [List.length_take, HTT.out.len]; omega)
          exact ⟨⟨k + 1, _, _, by omega, by go_num, Lib.hid hput, (HBR.out.trans (hbr4.mono (by omega))).setCell (Nat.le_refl _) _, by simp; omega⟩, by simp [intOf]; omega⟩
      · obtain rfl : k = 64 := by omega
        have hd := hh.out
        rw [HT.out] at hd
        have hd2 := hd.done HH.out.ok hw1s
        have hw2s : w.heap.size ≤ wr.heap.size := by omega
        have HDK : Hid (Dk wr w.heap.size X (M.left0 keep true) (fun g => w.heap.size ≤ g ∧ g < wr.heap.size)) := Lib.hid ⟨⟨rb', rv', hd2, fun g hg => hd2.foot g hg⟩, fun g hg => hg⟩
        clear hd hd2 hb hlt
        go_wp2_with fail
        refine (Names_any HDK.out).mono ?_
        rintro _ w9 ⟨rfl, hdn⟩
        have HDN := Lib.hid hdn
        clear hdn
        go_wp2_with fail
        go_ret2
        have hs9 := HDN.out.chg.size
        exact ⟨_, rfl, HDN.out.dk.wide (fun g hg => by rcases hg with hg | hg <;> omega) (fun g hg => hg), (below_on HB.out (by rw [← HXE.out]; exact HBR.out)).trans (HDN.out.chg.below (fun g hg => hg.1) hw2s)⟩
end Go.Proofs.YtidhlbhfhfonoaaGreatDoor
