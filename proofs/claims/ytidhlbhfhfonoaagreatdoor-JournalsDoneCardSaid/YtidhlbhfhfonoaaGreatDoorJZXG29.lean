/- Layer 18 (journals): Open, of a file that is made -/
import Derived.Test.YtidhlbhfhfonoaaGreatDoorJZXG28
namespace Go.Proofs.YtidhlbhfhfonoaaGreatDoor
open Go.ChangeShapes Go.WideShapes Go.ChangeAt Go.RowKit
attribute [local go_sem] Oper.semAt_some

theorem Stay.on {K : Nat → Prop} {w w1 w2 : World} (h : Stay K w w1) (hb : Below w1.heap.size w1 w2) (hK : ∀ g, K g → g < w.heap.size) : Stay K w w2 := ⟨hb.os.trans h.os, hb.tape.trans h.tape, hb.output.trans h.output, Nat.le_trans h.size hb.size, fun g hg => (hb.block g (Nat.lt_of_lt_of_le (hK g hg) h.size)).trans (h.block g hg)⟩
theorem Stay.putC {K : Nat → Prop} {w w1 : World} (h : Stay K w w1) (G o : Nat) (v : Value) (hG : ¬ K G) : Stay K w (w1.setCell ⟨G, o, none⟩ v) := ⟨h.os, h.tape, h.output, by simpa using h.size, fun g hg => (Below.heap_setCell _ _ _ _ (fun e => hG (by have e' : g = G := e; rw [← e']; exact hg))).trans (h.block g hg)⟩
set_option linter.unusedSimpArgs false in
set_option linter.unusedVariables false in
set_option maxRecDepth 100000 in
set_option maxHeartbeats 4000000 in
theorem Open_madeH {K : Nat → Prop} {w : World} {base D : Nat} {M0 M : Dm} (h : OneK K w base D M0) (s : ByteArray) (hs : s.size ≤ 140737488355328) {b : List Nat} (h0 : M0.sizeE s = (0, 7)) (hcr : M0.create s = (M, 0)) (hb : (M.readE s 0 0).1 = b) :
    Calls Tryz.prog 8 #[.pointer (some ⟨D, 0, none⟩), .string s] w fun e w' => ∃ (Jb : Nat) (a : Option Addr) (c : Nat) (xs : List Value) (B : Nat), e = .returned (.tuple #[.pointer (some ⟨Jb, 0, none⟩), .slice a (recs firstC b).length c, .int .i64 0]) ∧
      Journ w' Jb D s (longR (recs firstC b)) (lastR (recs firstC b)) ∧ PartsAt w' (.slice a (recs firstC b).length c) ((recs firstC b).map Prod.fst) ∧ OneK (fun g => (K g ∨ g = Jb) ∨ (B ≤ g ∧ g < w'.heap.size)) w' base D M ∧ Stay K w w' ∧ w.heap.size ≤ Jb ∧ Jb < B ∧ Handed w' B (.slice a (recs firstC b).length c) xs ((recs firstC b).map Prod.fst) := by
  have T := Lib.hid h
  have HKW := Lib.hid (show ∀ g, K g → g < w.heap.size from fun g hg => by obtain ⟨S, h1, h4⟩ := h; exact (h4 g hg).1)
  have HS0 := Lib.hid h0
  have HB0 := Lib.hid hb
  have HCR := Lib.hid hcr
  clear h h0 hb hcr
  refine (callsIn_wide (n := 9)).1 ?_
  refine callsIn_of_wp_marks Tryz.func8 rfl trivial ?_ rfl
  simp only [Tryz.ntmps8, List.size_toArray, List.length_cons, List.length_nil, Nat.reduceAdd, Nat.reduceSub, Array.replicate_succ, Array.replicate_zero, List.push_toArray, List.append_toArray, List.nil_append, List.cons_append]
  gi_wp2_with fail
  obtain ⟨wA, eA⟩ : ∃ wA, wA = w.alloc (.cells #[.pointer none] 32) := ⟨_, rfl⟩
  obtain ⟨J4, h4⟩ : ∃ J4, J4 = w.heap.size := ⟨_, rfl⟩
  have hbA : Below w.heap.size w wA := by rw [eA]; exact (Below.refl _ w).alloc (Nat.le_refl _) _
  have hsA : wA.heap.size = J4 + 1 := by rw [eA, h4]; simp
  have T := Lib.hid (T.out.more (G := J4) hbA (by omega) (by omega))
  have F4 : wA.heap[J4]? = some (.cells #[.pointer none] 32 (0, 0)) := by rw [eA, h4]; exact heap_alloc_new w _
  rw [← eA, ← h4]
  obtain ⟨w1, e1⟩ : ∃ w1, w1 = wA.alloc (.cells #[.slice none 0 0] 33) := ⟨_, rfl⟩
  obtain ⟨J5, h5⟩ : ∃ J5, J5 = J4 + 1 := ⟨_, rfl⟩
  have hb1 : Below wA.heap.size wA w1 := by rw [e1]; exact (Below.refl _ wA).alloc (Nat.le_refl _) _
  have hs1 : w1.heap.size = J5 + 1 := by rw [e1]; simp; omega
  have T := Lib.hid (T.out.more (G := J5) hb1 (by omega) (by omega))
  have F5 : w1.heap[J5]? = some (.cells #[.slice none 0 0] 33 (0, 0)) := by rw [e1, h5, ← hsA]; exact heap_alloc_new wA _
  have F4 := heap_on hb1 F4
  have B := Lib.hid (Stay.of_below (below_on hbA hb1) HKW.out)
  rw [← e1, ← h5]
  have HJ := Lib.hid (And.intro h4 h5)
  have hwJ : w.heap.size ≤ J4 := by omega
  have hJJ : J4 < J5 := by omega
  clear eA hbA hsA e1 hb1 hs1 h4 h5
  have hsz := T.out.look fun S hS => Size_any hS s hs
  rw [HS0.out] at hsz
  refine ⟨trivial, (callsIn_wide.2 hsz).mono ?_⟩
  rintro _ w2 ⟨rfl, hb⟩
  have T := Lib.hid (T.out.later hb)
  have F4 := Lib.hid (heap_on hb F4)
  have F5 := Lib.hid (heap_on hb F5)
  have B := Lib.hid (B.out.on hb HKW.out)
  clear hb hsz
  gi_wp2_with fail
  refine ⟨trivial, (callsIn_wide.2 (T.out.act 0 HCR.out rfl fun S hS => Create_any hS s hs)).mono ?_⟩
  rintro _ w2 ⟨rfl, ht, hst⟩
  have T := Lib.hid ht
  have F4 := Lib.hid ((hst.block J4 (.inl (.inr rfl))).trans F4.out)
  have F5 := Lib.hid ((hst.block J5 (.inr rfl)).trans F5.out)
  have B := Lib.hid (B.out.trans hst fun g hg => .inl (.inl hg))
  clear ht hst
  gi_wp2_with fail
  have hrd := T.out.look fun S hS => Read_any hS s hs 0 0 (by omega) (by omega)
  have HOK := Lib.hid (readE_ok T.out.ok s 0 0)
  rw [HB0.out] at hrd HOK
  refine ⟨trivial, (callsIn_wide.2 hrd).mono ?_⟩
  have hJ2 : J5 < w2.heap.size := lt_of_heap F5.out
  rintro _ w3 ⟨v3, rfl, ho, hb⟩
  have hv3 := ho.at_
  obtain ⟨n3, hn3⟩ : ∃ n3, n3 = b.length := ⟨_, rfl⟩
  obtain ⟨a3, c3, rfl⟩ := ho.sl
  rw [← hn3] at hv3 ho ⊢
  have HN3 := Lib.hid hn3
  have HO3 := Lib.hid ho
  have T := Lib.hid (T.out.later hb)
  have F4 := Lib.hid (heap_on hb F4.out)
  have F5 := Lib.hid (heap_on hb F5.out)
  have B := Lib.hid (B.out.on hb HKW.out)
  clear hb ho hv3 hrd hn3
  have g4 := cell_of_row w3 J4 0 _ _ (0, 0) F4.out
  have f4 := frozen_row F4.out 0
  have hJ4 : J4 < w3.heap.size := lt_of_heap F4.out
  have hJ4n : J4 ≠ w3.heap.size := Nat.ne_of_lt hJ4
  have q4 := fun o => cell_on (w' := w3.alloc o) g4 ((Below.refl _ w3).alloc (Nat.le_refl _) o)
  have r4 := fun o => (((Below.refl w3.heap.size w3).alloc (Nat.le_refl _) o).frozen (p := ⟨J4, 0, none⟩) hJ4).trans f4
  gi_wp2_with fail
  clear q4 r4 g4 f4
  obtain ⟨Jb, hJb⟩ : ∃ Jb, Jb = w3.heap.size := ⟨_, rfl⟩
  obtain ⟨wp, hwp⟩ : ∃ wp, wp = w3.setCell ⟨J4, 0, none⟩ (.pointer (some ⟨Jb, 0, none⟩)) := ⟨_, rfl⟩
  have hps : wp.heap.size = Jb := by rw [hwp, hJb]; simp
  have hpo : ∀ g, g ≠ J4 → wp.heap[g]? = w3.heap[g]? := fun g hg => by rw [hwp]; exact Below.heap_setCell _ _ _ _ hg
  have P4 : wp.heap[J4]? = some (.cells #[.pointer (some ⟨Jb, 0, none⟩)] 32 (0, 0)) := by rw [hwp]; exact heap_setCell_same _ J4 0 _ _ _ F4.out
  have T := Lib.hid (show OneK _ wp base D M by rw [hwp]; exact T.out.putC J4 0 _ (.inl (.inr rfl)))
  have B := Lib.hid (show Stay K w wp by rw [hwp]; exact B.out.putC J4 0 _ fun e => by have := HKW.out _ e; omega)
  have P5 := (hpo J5 (by omega)).trans F5.out
  have hJ5b : J5 < Jb := by rw [hJb]; exact lt_of_heap F5.out
  have hO := HO3.out
  have hlt := hO.lt
  have K3 : KAt .u8 wp (.slice a3 n3 c3) b := hO.at_.block fun g hg => hpo g (by have := (hlt g hg).1; omega)
  have hown3 : ∀ g, (Value.slice a3 n3 c3).ownBlock = some g → J5 < g ∧ g < Jb := fun g hg => by have := hlt g hg; omega
  rw [← hJb, ← hwp]
  obtain ⟨w4, e4⟩ : ∃ w4, w4 = wp.alloc (.cells #[.pointer (some ⟨D, 0, none⟩), .string s, .int .i64 0, .int .u32 4294967295] 101) := ⟨_, rfl⟩
  have hb4 : Below wp.heap.size wp w4 := by rw [e4]; exact (Below.refl _ wp).alloc (Nat.le_refl _) _
  have hs4 : w4.heap.size = Jb + 1 := by rw [e4]; simp; omega
  have PJ : w4.heap[Jb]? = some (.cells #[.pointer (some ⟨D, 0, none⟩), .string s, .int .i64 0, .int .u32 4294967295] 101 (0, 0)) := by rw [e4, ← hps]; exact heap_alloc_new wp _
  rw [← e4]
  refine ⟨trivial, (callsIn_wide.2 (records_any a3 n3 c3 w4)).mono ?_⟩
  rintro _ w5 ⟨rfl, e5⟩
  obtain ⟨Bn, hBn⟩ : ∃ Bn, Bn = w4.heap.size := ⟨_, rfl⟩
  have hb5 : Below w4.heap.size w4 w5 := by rw [e5]; exact (Below.refl _ w4).alloc (Nat.le_refl _) _
  have PB : w5.heap[Bn]? = some (.cells #[.slice a3 n3 c3] 58 (0, 0)) := by rw [e5, hBn]; exact heap_alloc_new w4 _
  have hs5 : w5.heap.size = Bn + 1 := by rw [e5, hBn]; simp
  have T := Lib.hid ((T.out.more (G := Jb) hb4 (by omega) (by omega)).more (G := Bn) hb5 (by omega) (by omega))
  have B := Lib.hid ((B.out.on hb4 HKW.out).on hb5 HKW.out)
  have F4 := Lib.hid (heap_on hb5 (heap_on hb4 P4))
  have F5 := Lib.hid (heap_on hb5 (heap_on hb4 P5))
  have FJ := Lib.hid (heap_on hb5 PJ)
  have K5 := (K3.later hb4).later hb5
  have HBn : Bn = Jb + 1 := by omega
  rw [← hBn]
  clear e4 e5 hwp hpo hlt hO HO3 hb4 hb5 P4 P5 PJ K3 hps hBn hs4 hJb hJ4 hJ4n hJ2
  have HBN := Lib.hid HBn
  have hJbn : Jb < Bn := by omega
  have hs5' : Bn < w5.heap.size := by omega
  clear HBn hs5
  gi_wp2_with fail
  refine range_recs (by omega) (Bn := Bn) (by go_simp) (fun g => g < w5.heap.size ∧ g ≠ J5 ∧ g ≠ Jb) ⟨by omega, by omega, by omega⟩ (fun k hk => hk.1) b HOK.out.1 (.slice a3 n3 c3) PB K5 (fun g hg => ⟨⟨by have := (hown3 g hg).2; omega, by have := (hown3 g hg).1; omega, by have := (hown3 g hg).2; omega⟩, by have := (hown3 g hg).2; omega⟩) rfl
    (fun pre W => ∃ vl, LoopI w5 J5 Jb Bn D s pre vl W)
    (fun pre x W => ∃ vl, LoopI w5 J5 Jb Bn D s pre vl W ∧ Own W w5.heap.size x.v x.r ∧ (∀ k, x.v.ownBlock = some k → vl.ownBlock ≠ some k) ∧ (∀ y ∈ pre, ∀ k, y.v.ownBlock = some k → x.v.ownBlock ≠ some k) ∧ (∃ a c, x.v = .slice a x.r.length c) ∧ x.c < 4294967296 ∧ ∃ rest, recs firstC b = (pre ++ [x]).map Rec.rc ++ rest)
    ?hI ?hR ?h0 ?hIc ?hready (fun x => { tmps := #[.pointer (some ⟨D, 0, none⟩), .string s, undef, undef, .pointer (some ⟨J4, 0, none⟩), .pointer (some ⟨J5, 0, none⟩), .int .i64 7, .int .i64 0, .int .i64 0, .slice a3 n3 c3, .int .i64 (M.readE s 0 0).2, x.v, .int .u32 x.c, .tuple #[.int .i64 0, .int .i64 7], .pointer (some ⟨D, 0, none⟩), .string s, .tuple #[.int .i64 0, .int .i64 7], .int .i64 0, .int .i64 7, .int .i64 7, undef, .bool true, .bool true, .pointer (some ⟨D, 0, none⟩), .string s, .int .i64 0, .int .i64 0, .bool false, undef, undef, undef, .tuple #[.slice a3 n3 c3, .int .i64 (M.readE s 0 0).2], .pointer (some ⟨D, 0, none⟩), .string s, .int .i64 0, .tuple #[.slice a3 n3 c3, .int .i64 (M.readE s 0 0).2], .slice a3 n3 c3, .int .i64 (M.readE s 0 0).2, .pointer (some ⟨D, 0, none⟩), .string s, .agg #[.pointer (some ⟨D, 0, none⟩), .string s, .int .i64 0, .int .u32 4294967295], .pointer (some ⟨Jb, 0, none⟩), .slice a3 n3 c3, .func (.func 114) #[] #[.pointer (some ⟨Bn, 0, none⟩)], x.v, .int .u32 x.c, undef, undef, undef, undef, undef, undef, undef, undef, undef, undef, undef, undef, undef, undef, undef, undef, undef, undef, undef, undef, undef], defers := [] }) ?hassign ?hbody ?hdone
  case hassign =>
    intro l x W K hK
    gi_wp2_with fail
    exact hK
  case hI =>
    rintro pre A l o o' hl ho hn ⟨vl, h⟩
    exact ⟨vl, h.putObj hl ho hn⟩
  case hR =>
    rintro pre x A l o o' hl ho hn ⟨vl, h, hown, hrest⟩
    exact ⟨vl, h.putObj hl ho hn, own_putObj hown ho hn, hrest⟩
  case h0 =>
    intro o1 o2
    exact ⟨_, LoopI.start (((Below.refl _ w5).alloc (Nat.le_refl _) _).alloc (by simp) _) F5.out FJ.out⟩
  case hIc =>
    rintro pre A B9 ⟨vl, h⟩ hc
    exact ⟨vl, h.steps hc (by omega) (by omega) (by omega)⟩
  case hready =>
    rintro pre x W0 W1 ⟨vl, h⟩ hc hn hp
    exact ⟨vl, h.steps hc (by omega) (by omega) (by omega), hn.own.base h.chg.size, fun k hk e => by have := (hn.own.lt k hk).1; have := (row_lt h.row k e).2; omega, (fun y hy k hk e => by have := (hn.own.lt k e).1; have := ((h.held y hy).1.lt k hk).2; omega), hn.sh, hn.lt, hp⟩
  case hbody =>
    rintro l pre ⟨xv, xr, xc⟩ W ⟨vl, h, hown, hne, hxp, ⟨ax, cx, hsh⟩, hlt, rest, hpre⟩
    dsimp only at hown hne hxp hsh hlt hpre ⊢
    subst hsh
    have HH := Lib.hid h
    have HOWN := Lib.hid hown
    have HNE := Lib.hid hne
    have HXP := Lib.hid hxp
    have hlong := longR_le hpre
    rw [List.map_append, List.map_cons, List.map_nil, longR_snoc] at hlong
    have hlen := len_longR (pre.map Rec.rc)
    rw [List.length_map] at hlen
    obtain ⟨y, hy⟩ : ∃ y, y = longR (pre.map Rec.rc) := ⟨_, rfl⟩
    obtain ⟨q, hq⟩ : ∃ q, q = xr.length := ⟨_, rfl⟩
    have hyq : y + (q + 8) ≤ 1048576 := by have := HOK.out.2; rw [hy, hq]; exact Nat.le_trans hlong this
    have hyI : (y : Int) ≤ 1048576 := by omega
    have hqI : (q : Int) ≤ 1048576 := by omega
    have hlen9 : pre.length ≤ 1048576 := by omega
    have c5 := cell_of_row W J5 0 _ _ (0, 0) h.c5
    have h4 : W.heap[J4]? = _ := (h.chg.block J4 (lt_of_heap F4.out) (by omega)).trans F4.out
    have hj := h.jb
    unfold Journ at hj
    rw [← hy] at hj
    rw [← hq]
    have HY := Lib.hid hy
    have HQ := Lib.hid hq
    have HJB := Lib.hid hj
    have H4 := Lib.hid h4
    have HR := Lib.hid (fun (g : Nat) (hg : vl.ownBlock = some g) => row_lt h.row g hg)
    have HRW := Lib.hid (h.row.later ((Below.refl _ W).alloc (Nat.le_refl _) (.cells #[.slice ax q cx] 58)))
    obtain ⟨lp, hlp⟩ : ∃ lp, lp = lastR (pre.map Rec.rc) := ⟨_, rfl⟩
    rw [← hlp] at HJB
    have HB5 := Lib.hid h.chg.size
    have n45 : J4 ≠ J5 := by omega
    have n54 : J5 ≠ J4 := by omega
    have n4b : J4 ≠ Jb := by omega
    have nb4 : Jb ≠ J4 := by omega
    have n5b : J5 ≠ Jb := by omega
    have nb5 : Jb ≠ J5 := by omega
    obtain ⟨i0, hi, hz0, hz1, hz2⟩ := info_parts infoR
    have HI := Lib.hid hi
    clear hown hne hxp hpre hlong hlen hy hq h4 hj hlp hi h
    rw [← HQ.out] at HOWN HNE HXP
    gi_wp2_with (gi_at_builtin; refine wpListIn_append_W rfl _ _ 33 rfl w5.heap.size 58 i0 (.slice none 0 0) 1 24 Tryz.underlying33 HI.out hz0 hz1 hz2 rfl vl pre.length (pre.map Rec.v) rfl HRW.out (.slice (some ⟨W.heap.size, 0, none⟩) 1 1) 1 [.slice ax q cx] rfl (src_one' W _ _ rfl) (by unfold maxLen; omega) (by omega) (by have := HB5.out; simp; omega) ?_; intro v' wb hown' hgrow hlies; obtain ⟨a9, c9, rfl⟩ := hown'.sl; have hk := round_keep hgrow; have d5 := (hk J5 (lt_of_heap HH.out.c5) fun e => by have := (HR.out _ e).1; omega).trans HH.out.c5; have d4 := (hk J4 (lt_of_heap H4.out) fun e => by have := (HR.out _ e).1; omega).trans H4.out; have dj := (hk Jb (lt_of_heap HJB.out) fun e => by have := (HR.out _ e).1; omega).trans HJB.out; have k5 := cell_of_row wb J5 0 _ _ (0, 0) d5; have l5 := frozen_row d5 0; have k4 := cell_of_row wb J4 0 _ _ (0, 0) d4; have kj2 := cell_of_row wb Jb 2 _ _ (0, 0) dj; have kj3 := cell_of_row wb Jb 3 _ _ (0, 0) dj; have lj2 := frozen_row dj 2; have lj3 := frozen_row dj 3; have HG := Lib.hid hgrow; have HO9 := Lib.hid hown'; have HL9 := Lib.hid hlies; clear hk d5 d4 dj hgrow hown' hlies)
    have hnx := HH.out.body (by omega) (by omega) (by omega) HOWN.out HNE.out HXP.out HG.out HO9.out HL9.out (z := (y : Int) + ((q : Int) + 8)) (x := ⟨.slice ax q cx, xr, xc⟩) (by rw [← HY.out]; simp only [← HQ.out]; omega) _ rfl
    exact ⟨hnx.1, hnx.2.1, _, hnx.2.2⟩
  case hdone =>
    rintro D9 xs W hD hxs ⟨vl, h⟩ hK9
    have HH := Lib.hid h
    have HX := Lib.hid hxs
    obtain ⟨q, hq⟩ : ∃ q, q = xs.length := ⟨_, rfl⟩
    have hrow := h.row
    rw [← hq] at hrow
    obtain ⟨a9, c9, rfl⟩ := hrow.sl
    have HROW := Lib.hid hrow
    have g5 := cell_of_row W J5 0 _ _ (0, 0) h.c5
    have f5 := frozen_row h.c5 0
    have h4 : W.heap[J4]? = _ := (h.chg.block J4 (lt_of_heap F4.out) (by omega)).trans F4.out
    have g4 := cell_of_row W J4 0 _ _ (0, 0) h4
    have f4 := frozen_row h4 0
    have H4 := Lib.hid h4
    have n45 : J4 ≠ J5 := by omega
    have n54 : J5 ≠ J4 := by omega
    have HQ := Lib.hid hq
    have HCL := Lib.hid (fun p => Calls.quiet_of_same ((ClipR_any (W.drewN p) (HROW.out.later (below_drewN9 W p))).mono fun e w' h => ⟨h.1, h.2.2.symm⟩))
    have HC0 := Lib.hid (ClipR_any W.drew (HROW.out.later (Below.refl _ W).drew))
    clear hxs h hrow h4 hq
    gi_wp2_with fail
    refine wpIn_wide.2 ?_
    go_still_tail 3, (by kernel_rfl)
    still_call (HC0.out.mono fun e w' h => ⟨h.1, h.2.2.symm⟩)
    refine wpStill_nil ?_
    change wpList _ _ _ _ _ W.drew
    go_wp2_with fail
    refine wpIn_ret ?_
    obtain ⟨we, ewe⟩ : ∃ we, we = ((W.setCell ⟨J4, 0, none⟩ (.pointer (some ⟨Jb, 0, none⟩))).setCell ⟨J5, 0, none⟩ (.slice a9 q q)).drew := ⟨_, rfl⟩
    have hsm : ∀ g, g ≠ J4 → g ≠ J5 → we.heap[g]? = W.heap[g]? := fun g h1 h2 => by rw [ewe]; exact (Below.heap_setCell _ _ _ _ h2).trans (Below.heap_setCell _ _ _ _ h1)
    have x4 : we.heap[J4]? = some (.cells #[.pointer (some ⟨Jb, 0, none⟩)] 32 (0, 0)) := by
      rw [ewe]
      exact (Below.heap_setCell _ _ _ _ n45).trans (heap_setCell_same _ J4 0 _ _ _ H4.out)
    have x5 : we.heap[J5]? = some (.cells #[.slice a9 q q] 33 (0, 0)) := by
      rw [ewe]
      exact heap_setCell_same _ J5 0 _ _ _ ((Below.heap_setCell _ _ _ _ n54).trans HH.out.c5)
    have hlt4 : J4 < w5.heap.size := lt_of_heap F4.out
    have hlt5 : J5 < w5.heap.size := lt_of_heap F5.out
    have hltb : Jb < w5.heap.size := lt_of_heap FJ.out
    have x9 : we.heap[D9]? = some (.deferred (some [])) := (hsm D9 (by omega) (by omega)).trans hK9
    obtain ⟨wf, ewf⟩ : ∃ wf, wf = we.putObj D9 (.deferred none) := ⟨_, rfl⟩
    have hsf : ∀ g, g ≠ D9 → wf.heap[g]? = we.heap[g]? := fun g h1 => by rw [ewf]; exact World.putObj_heap_other (by omega)
    have y4 := cell_of_row wf J4 0 _ _ (0, 0) ((hsf J4 (by omega)).trans x4)
    have y5 := cell_of_row wf J5 0 _ _ (0, 0) ((hsf J5 (by omega)).trans x5)
    have hWs : we.heap.size = W.heap.size := by rw [ewe]; simp
    have hfs : wf.heap.size = W.heap.size := by rw [ewf]; simp [hWs]
    rw [← ewe]
    refine ⟨by simp, .inl ⟨D9, wf, rfl, by rw [ewf]; exact run_takeDeferred x9, ?_⟩⟩
    refine ⟨.tuple #[.pointer (some ⟨Jb, 0, none⟩), .slice a9 q q, .int .i64 0], by simp [results, Tryz.results8, go_sem, y4, y5], ?_⟩
    have hqn : q = (recs firstC b).length := by rw [HQ.out, ← HX.out, List.length_map]
    have hcw : Chg W wf (fun g => g = J4 ∨ g = J5 ∨ g = D9) := ⟨by rw [ewf, ewe]; rfl, by rw [ewf, ewe]; rfl, by rw [ewf, ewe]; rfl, by rw [hfs]; exact Nat.le_refl _, fun g _ hg => by
      rw [hsf g (fun e => hg (.inr (.inr e))), hsm g (fun e => hg (.inl e)) (fun e => hg (.inr (.inl e)))]⟩
    have hcj := HH.out.chg
    refine ⟨Jb, a9, q, xs.map Rec.v, w5.heap.size, by rw [← hqn], ?_, ?_, ?_, ?_, ?_, hltb, ?_⟩
    · have h1 := HH.out.jb
      rw [HX.out] at h1
      unfold Journ at h1 ⊢
      exact (hcw.block Jb (by have := hcj.size; omega) (by omega)).trans h1
    · rw [← hqn]
      have hown9 : ∀ (v : Value) (n : Nat) (e : TypeId) (l : List Value), OwnV W w5.heap.size e 1 v n l → ∀ g, v.ownBlock = some g → wf.heap[g]? = W.heap[g]? := fun v n e l hv g hg => by
        have hl := (hv.lt g hg)
        refine (hsf g fun e9 => ?_).trans (hsm g (by omega) (by omega))
        rcases hv.2 with ⟨e0, _⟩ | ⟨g', o, cap, cur, e0, _, h4, _⟩
        · rw [e0] at hg; cases hg
        · rw [e0] at hg
          cases hg
          rw [show g' = D9 from e9, hK9] at h4
          cases h4
      have hL : ((recs firstC b).map Prod.fst).length = q := by rw [List.length_map, hqn]
      have e1 : (recs firstC b).map Prod.fst = xs.map Rec.r := by rw [← HX.out, List.map_map]; rfl
      have hcl : OwnV wf w5.heap.size 58 1 (.slice a9 q q) q (xs.map Rec.v) := OwnV.block HROW.out.clip fun g hg => hown9 _ _ _ _ HROW.out.clip g hg
      rw [e1]
      refine parts_own (B := w5.heap.size) (xs := xs.map Rec.v) (by rw [← e1, hL]; exact hcl) fun i l hl => ?_
      rw [List.getElem?_map] at hl
      obtain ⟨x, hx, rfl⟩ := Option.map_eq_some_iff.1 hl
      have hh := (HH.out.held x (List.mem_of_getElem? hx)).1
      exact ⟨x.v, by rw [List.getElem?_map, hx]; rfl, hh.at_.block fun g hg => hown9 _ _ _ _ hh g hg⟩
    · have hc9 : Chg w5 wf (fun g => ((g = J4 ∨ g = J5) ∨ g = Jb) ∨ g = Bn) := ⟨hcw.os.trans hcj.os, hcw.tape.trans hcj.tape, hcw.output.trans hcj.output, Nat.le_trans hcj.size hcw.size, fun g hg hn => (hcw.block g (Nat.lt_of_lt_of_le hg hcj.size) (by omega)).trans (hcj.block g hg (by omega))⟩
      refine (T.out.chgNew hc9 (fun g hg => by rcases hg with ((hg | hg) | hg) | hg <;> simp [hg])).lessC fun g hg => ?_
      rcases hg with (hg | hg) | hg
      · exact .inl (by simp [hg])
      · exact .inl (by simp [hg])
      · exact .inr hg
    · refine ⟨hcw.os.trans (hcj.os.trans B.out.os), hcw.tape.trans (hcj.tape.trans B.out.tape), hcw.output.trans (hcj.output.trans B.out.output), Nat.le_trans B.out.size (Nat.le_trans hcj.size hcw.size), fun g hg => ?_⟩
      have hgw := HKW.out g hg
      have h9 := B.out.size
      exact (hcw.block g (by have := hcj.size; omega) (by omega)).trans ((hcj.block g (by omega) (by omega)).trans (B.out.block g hg))
    · omega
    · have hown9 : ∀ (v : Value) (n : Nat) (e : TypeId) (l : List Value), OwnV W w5.heap.size e 1 v n l → ∀ g, v.ownBlock = some g → wf.heap[g]? = W.heap[g]? := fun v n e l hv g hg => by
        have hl := (hv.lt g hg)
        refine (hsf g fun e9 => ?_).trans (hsm g (by omega) (by omega))
        rcases hv.2 with ⟨e0, _⟩ | ⟨g', o, cap, cur, e0, _, h4, _⟩
        · rw [e0] at hg; cases hg
        · rw [e0] at hg
          cases hg
          rw [show g' = D9 from e9, hK9] at h4
          cases h4
      have hL : ((recs firstC b).map Prod.fst).length = q := by rw [List.length_map, hqn]
      have e1 : (recs firstC b).map Prod.fst = xs.map Rec.r := by rw [← HX.out, List.map_map]; rfl
      have hcl : OwnV wf w5.heap.size 58 1 (.slice a9 q q) q (xs.map Rec.v) := OwnV.block HROW.out.clip fun g hg => hown9 _ _ _ _ HROW.out.clip g hg
      rw [e1, ← hqn]
      refine ⟨by rw [← e1, hL]; exact hcl, fun i l hl => ?_, List.pairwise_map.2 HH.out.pair⟩
      rw [List.getElem?_map] at hl
      obtain ⟨x, hx, rfl⟩ := Option.map_eq_some_iff.1 hl
      have hh := HH.out.held x (List.mem_of_getElem? hx)
      exact ⟨x.v, by rw [List.getElem?_map, hx]; rfl, OwnV.block hh.1 fun g hg => hown9 _ _ _ _ hh.1 g hg, fun g hg => by cases a9 <;> exact hh.2 g hg⟩
end Go.Proofs.YtidhlbhfhfonoaaGreatDoor
