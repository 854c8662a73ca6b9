/- Layer 17's reference: New, Fail -/
import Derived.Test.YtidhlbhfhfonoaaGreatDoorJZXG18
namespace Go.Proofs.YtidhlbhfhfonoaaGreatDoor
open Go.ChangeShapes Go.WideShapes Go.ChangeAt Go.RowKit
theorem rd_new (w : World) (n : Nat) : RdAt (w.alloc (.cells #[.int .i64 n, .slice none 0 0, .slice none 0 0, .slice none 0 0, .slice none 0 0] 97)) w.heap.size w.heap.size (newR n) (.slice none 0 0) (.slice none 0 0) (.slice none 0 0) (.slice none 0 0) :=
  ⟨heap_alloc_new w _, ⟨rfl, .inl ⟨rfl, rfl⟩⟩, ⟨rfl, .inl ⟨rfl, rfl⟩⟩, ⟨rfl, .inl ⟨rfl, rfl⟩⟩, ⟨rfl, .inl ⟨rfl, rfl⟩⟩, Nat.le_refl _, by simp [Value.ownBlock], fun g h => by simp [Value.ownBlock] at h, fun g h => by simp [Value.ownBlock] at h, fun g h => by simp [Value.ownBlock] at h, fun g h => by simp [Value.ownBlock] at h, fun g h => by simp [Value.ownBlock] at h, fun g h => by simp [Value.ownBlock] at h⟩
theorem rk_new (w : World) (n : Nat) : Rk (w.alloc (.cells #[.int .i64 n, .slice none 0 0, .slice none 0 0, .slice none 0 0, .slice none 0 0] 97)) w.heap.size w.heap.size (newR n) (fun g => g = w.heap.size) :=
  ⟨⟨_, _, _, _, rd_new w n, fun g hg => by
    rcases hg with hg | hg | hg | hg | hg
    · exact hg
    all_goals simp [Value.ownBlock] at hg⟩, fun g hg => by subst hg; simp⟩
set_option linter.unusedSimpArgs false in
set_option linter.unusedVariables false in
set_option maxRecDepth 20000 in
set_option maxHeartbeats 3000000 in
theorem RNew_yes (n : Nat) (w : World) (h1 : 1 ≤ n) (h2 : n ≤ 8388608) :
    Calls Tryz.prog 7 #[.int .i64 n] w fun e w' => e = .returned (.tuple #[.pointer (some ⟨w.heap.size, 0, none⟩), .int .i64 0]) ∧ Rk w' w.heap.size w.heap.size (newR n) (fun g => g = w.heap.size) ∧ Below w.heap.size w w' := by
  have a1 : ¬ (n : Int) < 1 := by omega
  have a2 : ¬ (8388608 : Int) < (n : Int) := by omega
  have HR := Lib.hid (rk_new w n)
  clear h1 h2
  go_enter Tryz.func7, Tryz.ntmps7
  go_wp2_with fail
  go_ret2
  exact ⟨rfl, HR.out, (Below.refl _ _).alloc (Nat.le_refl _) _⟩
def failX (R : Rf) (keep : Nat) (l : List (ByteArray × Nat)) (k : Nat) : Rf := ⟨R.size, (R.cuts keep l).take k, ((R.cuts keep l).map ByteArray.size).take k, (numbered l).take k, []⟩
theorem failX_all (R : Rf) (keep : Nat) (names : Bool) : (failX R keep (if names then R.now else R.safe) (if names then R.now else R.safe).length).names = R.fail keep names := by
  unfold failX Rf.names Rf.fail numbered
  generalize (if names then R.now else R.safe) = l
  simp only [Rf.mk.injEq, true_and]
  refine ⟨List.take_of_length_le (by simp [Rf.cuts]), List.take_of_length_le (by simp [Rf.cuts]), List.take_of_length_le (by simp), List.take_of_length_le (by simp)⟩
theorem failX_succ {R : Rf} {keep k r q : Nat} {l : List (ByteArray × Nat)} {s b : ByteArray} (hp : l[k]? = some (s, r)) (hb : R.rows[r]? = some b) (hq : R.marks[r]? = some q) : failX R keep l (k + 1) = ⟨R.size, (failX R keep l k).rows ++ [cut8 keep b q], (failX R keep l k).marks ++ [(cut8 keep b q).size], (failX R keep l k).now ++ [(s, k)], []⟩ := by
  unfold failX
  have h1 : (R.cuts keep l)[k]? = some (cut8 keep b q) := by unfold Rf.cuts; rw [List.getElem?_map, hp]; simp [List.getD, hb, hq]
  have h2 : (numbered l)[k]? = some (s, k) := by unfold numbered; rw [List.getElem?_zipIdx, List.getElem?_map, hp]; simp
  simp only [List.take_add_one, h1, h2, List.getElem?_map, Option.map_some, Option.toList_some]
theorem failX_len (R : Rf) (keep : Nat) (l : List (ByteArray × Nat)) {k : Nat} (hk : k ≤ l.length) : (failX R keep l k).rows.length = k ∧ (failX R keep l k).marks.length = k ∧ (failX R keep l k).now.length = k := by
  unfold failX Rf.cuts numbered
  simp only [List.length_take, List.length_map, List.length_zipIdx]
  omega
theorem RdAt.under {w w1 w2 : World} {base D : Nat} {R : Rf} {rv mv nv sv v v2 : Value} (h : RdAt w base D R rv mv nv sv) (ha : Appd w w1 w2 D v v2) (hv : ∀ g, v.ownBlock = some g → base ≤ g) (j : Nat) : Below base w (w2.setCell ⟨D, j, none⟩ v2) := by
  have h1 := h.lt
  have h2 := h.low
  refine ⟨ha.os, ha.tape, ha.output, by simpa [World.setCell] using ha.size, fun g hg => ha.fit j g (by omega) (by omega) (fun e => by have := hv g e; omega)⟩
set_option linter.unusedSimpArgs false in
set_option linter.unusedVariables false in
set_option maxRecDepth 20000 in
set_option maxHeartbeats 3000000 in
theorem RFail_yes {w : World} {base D : Nat} {R : Rf} {S : Nat → Prop} (hd : Rk w base D R S) (ok : RfOk R) (keep : Nat) (hk : keep ≤ 9223372036854775807) (names : Bool) (hc : R.rows.length ≤ 1000000) :
    Calls Tryz.prog 22 #[.pointer (some ⟨D, 0, none⟩), .int .i64 keep, .bool names] w fun e w' => e = .returned (.tuple #[.pointer (some ⟨w.heap.size, 0, none⟩), .int .i64 0]) ∧ (∃ S', Rk w' w.heap.size w.heap.size (R.fail keep names) S') ∧ Below w.heap.size w w' := by
  obtain ⟨⟨rv, mv, nv, sv, h, hS⟩, _⟩ := hd
  rw [← failX_all]
  obtain ⟨l, hl⟩ : ∃ l, l = (if names then R.now else R.safe) := ⟨_, rfl⟩
  rw [← hl]
  obtain ⟨f0, f1, f2, f3, f4⟩ := h.field
  obtain ⟨lv, hlv⟩ : ∃ lv, lv = (if names then nv else sv) := ⟨_, rfl⟩
  have ho : OwnV w base 120 2 lv l.length (pairs8 l) := by rw [hl, hlv]; cases names; exact h.safe; exact h.now
  have hfin : ∀ p ∈ l, nameOk p.1 = true ∧ ∃ b m, R.rows[p.2]? = some b ∧ b.size ≤ 1048576 ∧ R.marks[p.2]? = some m ∧ m ≤ b.size := by rw [hl]; cases names; exact ok.safe; exact ok.now
  have h64 : l.length ≤ 64 := by rw [hl]; cases names; exact ok.sl; exact ok.nl
  obtain ⟨aL, cL, vL, kL⟩ := now_cells ho
  obtain ⟨a1, c1, v1, k1⟩ := rows_cells h.rows
  obtain ⟨a2, c2, v2, k2⟩ := marks_cells h.marks
  obtain ⟨m, hm⟩ : ∃ m, m = l.length := ⟨_, rfl⟩
  obtain ⟨n, hn⟩ : ∃ n, n = R.rows.length := ⟨_, rfl⟩
  rw [ok.ml, ← hn] at v2
  rw [← hn] at v1
  rw [← hm] at vL
  rw [v1] at f1
  rw [v2] at f2
  have mI : (m : Int) ≤ 64 := by omega
  have nI : (n : Int) ≤ 1000000 := by omega
  have kpI : (keep : Int) ≤ 9223372036854775807 := by omega
  have HF := Lib.hid (show ∀ W, Below w.heap.size w W → W.cell? ⟨D, 1, none⟩ = some (.slice a1 n c1) ∧ W.cell? ⟨D, 2, none⟩ = some (.slice a2 n c2) from fun W hb => ⟨cell_on f1 hb, cell_on f2 hb⟩)
  have HKL := Lib.hid (show ∀ k p, l[k]? = some p → ∃ (g o : Nat) (b : ByteArray) (q g1 o1 g2 o2 : Nat), aL = some ⟨g, o, none⟩ ∧ a1 = some ⟨g1, o1, none⟩ ∧ a2 = some ⟨g2, o2, none⟩ ∧ R.rows[p.2]? = some b ∧ R.marks[p.2]? = some q ∧ b.size ≤ 1048576 ∧ q ≤ b.size ∧ p.2 < n ∧ ∀ W, Below w.heap.size w W → W.cell? ⟨g, o + k * 2, none⟩ = some (.string p.1) ∧ W.cell? ⟨g, o + k * 2 + 1, none⟩ = some (.int .i64 p.2) ∧ W.cell? ⟨g1, o1 + p.2, none⟩ = some (.string b) ∧ W.cell? ⟨g2, o2 + p.2, none⟩ = some (.int .i64 q) from fun k p hp => by
    obtain ⟨_, b, q, e1, e2, e3, e4⟩ := hfin p (List.mem_of_getElem? hp)
    obtain ⟨g, o, e5, e6, e7⟩ := kL k p hp
    obtain ⟨g1, o1, e8, e9⟩ := k1 _ b e1
    obtain ⟨g2, o2, e10, e11⟩ := k2 _ q e3
    exact ⟨g, o, b, q, g1, o1, g2, o2, e5, e8, e10, e1, e3, e2, e4, by rw [hn]; exact (List.getElem?_eq_some_iff.1 e1).1, fun W hb => ⟨cell_on e6 hb, cell_on e7 hb, cell_on e9 hb, cell_on e11 hb⟩⟩)
  have HM := Lib.hid hm
  obtain ⟨i1, hi1, hz10, hz11, hz12⟩ := info_parts infoP
  obtain ⟨i2, hi2, hz20, hz21, hz22⟩ := info_parts infoS
  obtain ⟨i3, hi3, hz30, hz31, hz32⟩ := info_parts infoN
  have HI1 := Lib.hid hi1
  have HI2 := Lib.hid hi2
  have HI3 := Lib.hid hi3
  have HLV := Lib.hid hlv
  obtain ⟨C, hC⟩ : ∃ C, C = w.heap.size := ⟨_, rfl⟩
  have HC := Lib.hid hC
  rw [← hC] at HF HKL ⊢
  have HNEW := Lib.hid (show RdAt (w.alloc (.cells #[.int .i64 R.size, .slice none 0 0, .slice none 0 0, .slice none 0 0, .slice none 0 0] 97)) C C (failX R keep l 0) (.slice none 0 0) (.slice none 0 0) (.slice none 0 0) (.slice none 0 0) by rw [hC]; exact rd_new w R.size)
  obtain ⟨z9, hz9⟩ : ∃ z9, z9 = R.size := ⟨_, rfl⟩
  rw [← hz9] at f0 HNEW
  rw [← hm]
  have hkp : ¬ (keep : Int) < 0 := by omega
  have HL := Lib.hid hl
  clear h hS ok hl ho hfin h64 kL k1 k2 hm hn v1 v2 hi1 hi2 hi3 hC hc hz9 hk f1 f2
  have hfn : w.cell? ⟨D, 3, none⟩ = some nv := f3
  go_enter Tryz.func22, Tryz.ntmps22
  have hgo : ∀ ls : Value, ls = lv → True := fun _ _ => trivial
  clear hgo
  cases names
  · skip
    simp only [Bool.false_eq_true, if_false, if_true] at hlv
    rw [← hlv, vL] at f4
    go_wp2_with fail
    obtain ⟨w0, e0⟩ : ∃ w0, w0 = w.alloc (.cells #[.int .i64 z9, .slice none 0 0, .slice none 0 0, .slice none 0 0, .slice none 0 0] 97) := ⟨_, rfl⟩
    have hb0 : Below C w w0 := by rw [e0, HC.out]; exact (Below.refl _ _).alloc (Nat.le_refl _) _
    rw [← e0] at HNEW ⊢
    rw [← HC.out]
    have HB0 := Lib.hid hb0
    have HX0 := HNEW
    clear e0 hb0 HNEW hlv vL f0 f3 f4 hfn HLV
    go_loopw [10] (fun i wr => ∃ k : Nat, k ≤ m ∧ i = .int .i64 k ∧ Hid (∃ rv mv nv sv, RdAt wr C C (failX R keep l k) rv mv nv sv) ∧ Hid (Below C w wr)) (fun i _ => m - (intOf i).toNat)
    case atStart => exact ⟨0, Nat.zero_le _, rfl, Lib.hid ⟨_, _, _, _, HX0.out⟩, HB0⟩
    case round =>
      obtain ⟨k, hk, rfl, HX, HB⟩ := hrel
      by_cases hlt : k < m
      · have hltI : (k : Int) < (m : Int) := by omega
        obtain ⟨⟨s, r⟩, hp⟩ : ∃ p, l[k]? = some p := ⟨_, List.getElem?_eq_getElem (by rw [← HM.out]; exact hlt)⟩
        obtain ⟨g, o, b, q, g1, o1, g2, o2, rfl, rfl, rfl, e1, e2, e3, e4, e5, e6⟩ := HKL.out k _ hp
        dsimp only at e1 e2 e5 e6
        have HCE := Lib.hid e6
        have HE1 := Lib.hid e1
        have HE2 := Lib.hid e2
        have HPP := Lib.hid hp
        have rI : (r : Int) < (n : Int) := by omega
        obtain ⟨z, hz⟩ : ∃ z, z = b.size := ⟨_, rfl⟩
        have eZ : (b.size : Int) = (z : Int) := by rw [hz]
        have HZ := Lib.hid hz
        have zI : (z : Int) ≤ 1048576 := by omega
        obtain ⟨bh, hbh⟩ : ∃ bh, bh = z - q := ⟨_, rfl⟩
        have hbI : (z : Int) - (q : Int) = (bh : Int) := by omega
        have hbI2 : (z : Int) - (bh : Int) = (q : Int) := by omega
        have bI : (bh : Int) ≤ 1048576 := by omega
        have qI : (q : Int) ≤ 1048576 := by omega
        have HBH := Lib.hid (show bh = b.size - q by rw [hbh, hz])
        obtain ⟨x1, x2, x3, x4⟩ := e6 wr HB.out
        obtain ⟨y1, y2⟩ := HF.out wr HB.out
        clear e1 e2 e3 e4 e5 e6 hp hz hbh
        obtain ⟨T, hT⟩ : ∃ T, T = cut8 keep b q := ⟨_, rfl⟩
        have HT := Lib.hid hT
        have HTN := Lib.hid (show T.size ≤ 1048576 by rw [hT]; unfold cut8; have := HZ.out; split; rw [ByteArray.size_extract]; omega; omega)
        clear hT
        by_cases hcut : keep < bh
        · have hcI : (keep : Int) < (bh : Int) := by omega
          have HT2 := Lib.hid (show T = b.extract 0 (q + keep) by rw [HT.out]; unfold cut8; rw [← HBH.out, if_pos hcut, ← HZ.out, show z - bh + keep = q + keep by omega])
          have qk : (q : Int) + (keep : Int) ≤ (z : Int) := by omega
          have hrun : ∀ W, (Instr.slice 9 (.string b) none (some (.int .i64 ((q : Int) + (keep : Int)))) none).run Tryz.prog W = .ok (.string T) W := fun W => by
            rw [run_slice_string_h W 9 b (by kernel_rfl) .i64 ((q : Int) + (keep : Int)) (by omega) (by omega), HT2.out, show ((q : Int) + (keep : Int)).toNat = q + keep by omega]
          go_wp2_with fail
          go_quiet (fail)
          go_wp2_with fail
          go_quiet (fail)
          go_upto_region 14 with fail
          generalize hW : World.drewN _ _ = wq
          have HBQ := Lib.hid (show Below C w wq by rw [← hW]; exact HB.out.trans (by first | exact (((below_drewN9 wr _).trans (below_drewN9 _ _)).mono (by rw [HC.out]; exact HB.out.size)) | exact ((below_drewN9 wr _).mono (by rw [HC.out]; exact HB.out.size))))
          have HXQ := Lib.hid (show ∃ rv mv nv sv, RdAt wq C C (failX R keep l k) rv mv nv sv by rw [← hW]; obtain ⟨_, _, _, _, h9⟩ := HX.out; exact ⟨_, _, _, _, h9.later (by first | exact ((below_drewN9 wr _).trans (below_drewN9 _ _)) | exact below_drewN9 wr _)⟩)
          clear hW
          obtain ⟨x1, x2, x3, x4⟩ := HCE.out wq HBQ.out
          obtain ⟨ln1, ln2, ln3⟩ := failX_len R keep l (k := k) (by rw [← HM.out]; omega)
          obtain ⟨A, hA⟩ : ∃ A, A = failX R keep l k := ⟨_, rfl⟩
          have HFX := Lib.hid (show failX R keep l (k + 1) = ⟨A.size, A.rows ++ [T], A.marks ++ [T.size], A.now ++ [(s, k)], A.safe⟩ by rw [failX_succ HPP.out HE1.out HE2.out, hA, HT.out]; rfl)
          rw [← hA] at HXQ ln1 ln2 ln3
          have HL1 := Lib.hid ln1
          have HL2 := Lib.hid ln2
          have HL3 := Lib.hid ln3
          obtain ⟨rv, mv, nv, sv, hx⟩ := HXQ.out
          have H1 := Lib.hid hx
          obtain ⟨_, f1, f2, f3, _⟩ := hx.field
          obtain ⟨a3, c3, v3⟩ := hx.now.sl
          rw [ln3] at v3
          have V3 := Lib.hid v3
          rw [v3] at f3
          have h9 := hx.now
          rw [v3, ln3] at h9
          have HO3 := Lib.hid (show ∀ W, Below wq.heap.size wq W → OwnV W C 120 2 (.slice a3 k c3) k (pairs8 A.now) from fun W hb => OwnV.later h9 hb)
          have hD1 := hx.lt
          have z3 := hx.free 3
          have hb1 : C ≤ wq.heap.size := by omega
          have HSRC := Lib.hid (fun W : World => src_pair W s k 120)
          have HND := Lib.hid (show (Value.slice a3 k c3).ownBlock ≠ some C from v3 ▸ hx.notD.2.2.1)
          have HAP := Lib.hid (fun (w1x w2 : World) (v2 : Value) (hbx : Below wq.heap.size wq w1x) (hg : w1x.grownBy w2 (Value.slice a3 k c3).ownBlock) (hl : Lies w1x w2 (.slice a3 k c3) v2 k 1) => appd_of (D := C) hbx hg hl)
          clear hx v3 ln1 ln2 ln3 f1 f2 h9 hA
          go_region_law (first
            | (refine step_append_W rfl (.tmp 76) (.tmp 84) 95 rfl C 120 i1 (.agg #[.string ⟨#[]⟩, .int .i64 0]) 2 24 Tryz.underlying95 HI1.out hz10 hz11 hz12 rfl (.slice a3 k c3) k (pairs8 A.now) rfl (HO3.out _ ((Below.refl _ _).drew.alloc (Nat.le_refl _) _)) (.slice (some ⟨wq.heap.size, 0, none⟩) 1 1) 1 (pairs8 [(s, k)]) rfl (HSRC.out wq.drew) (by unfold maxLen; omega) (by omega) (by simp; omega) ?_
               intro v2 w2 ho2 hg2 hl2
               have hap := HAP.out _ w2 v2 ((Below.refl _ _).drew.alloc (Nat.le_refl _) _) hg2 hl2
               have HA := Lib.hid hap
               have d3 := hap.cell HND.out f3
               have g3 := hap.free HND.out hD1 z3
               obtain ⟨a4, c4, rfl⟩ := ho2.sl
               have HO2 := Lib.hid (show OwnV w2 C 120 2 (.slice a4 (k + 1) c4) (A.now ++ [(s, k)]).length (pairs8 (A.now ++ [(s, k)])) by rw [List.length_append, List.length_singleton, HL3.out, pairs8_append]; exact ho2)
               clear ho2 hg2 hl2 hap))
          all_goals
            have h3 := H1.out.appNow (v2 := .slice a4 (k + 1) c4) (by rw [V3.out]; exact HA.out) HO2.out
            have hun := H1.out.under HA.out (fun g hg => (OwnV.lt H1.out.now g (by rw [V3.out]; exact hg)).1) 3
            obtain ⟨w3, e3⟩ : ∃ w3, w3 = w2.setCell ⟨C, 3, none⟩ (.slice a4 (k + 1) c4) := ⟨_, rfl⟩
            rw [← e3] at h3 hun ⊢
            have HB3 := Lib.hid (HBQ.out.trans hun)
            have H3 := Lib.hid h3
            obtain ⟨_, f1, _, _, _⟩ := h3.field
            obtain ⟨a1, c1x, v1⟩ := h3.rows.sl
            have v1 : rv = .slice a1 k c1x := by rw [← HL1.out]; exact v1
            have V1 := Lib.hid v1
            rw [v1] at f1
            have h9 : OwnV w3 C 9 1 (.slice a1 k c1x) k (strs A.rows) := by have h8 := h3.rows; rw [v1] at h8; have h7 : OwnV w3 C 9 1 (.slice a1 k c1x) A.rows.length (strs A.rows) := h8; rw [HL1.out] at h7; exact h7
            have HO1 := Lib.hid (show ∀ W, Below w3.heap.size w3 W → OwnV W C 9 1 (.slice a1 k c1x) k (strs A.rows) from fun W hb => OwnV.later h9 hb)
            have hD3 := h3.lt
            have z1 := h3.free 1
            have hb3 : C ≤ w3.heap.size := by omega
            have HSRC := Lib.hid (fun W : World => src_val W (.string T) rfl 9)
            have HND := Lib.hid (show (Value.slice a1 k c1x).ownBlock ≠ some C from v1 ▸ h3.notD.1)
            have HAP := Lib.hid (fun (w1x w2 : World) (v2 : Value) (hbx : Below w3.heap.size w3 w1x) (hg : w1x.grownBy w2 (Value.slice a1 k c1x).ownBlock) (hl : Lies w1x w2 (.slice a1 k c1x) v2 k 1) => appd_of (D := C) hbx hg hl)
            clear e3 h3 hun v1 d3 g3 HA HO2 HO3 h9
            go_upto_region 16 with (
              at_builtin
              refine wpList_append_W rfl _ _ 93 rfl C 9 i2 (.string ⟨#[]⟩) 1 16 Tryz.underlying93 HI2.out hz20 hz21 hz22 rfl (.slice a1 k c1x) k (strs A.rows) rfl (HO1.out _ ((Below.refl _ _).alloc (Nat.le_refl _) _)) (.slice (some ⟨w3.heap.size, 0, none⟩) 1 1) 1 [.string T] rfl (HSRC.out w3) (by unfold maxLen; omega) (by omega) (by simp; omega) ?_
              intro v4 w4 ho4 hg4 hl4
              have hap := HAP.out _ w4 v4 ((Below.refl _ _).alloc (Nat.le_refl _) _) hg4 hl4
              have HA4 := Lib.hid hap
              have d4 := hap.cell HND.out f1
              have g4 := hap.free HND.out hD3 z1
              obtain ⟨a5, c5, rfl⟩ := ho4.sl
              have HO4 := Lib.hid (show OwnV w4 C 9 1 (.slice a5 (k + 1) c5) (A.rows ++ [T]).length (strs (A.rows ++ [T])) by rw [List.length_append, List.length_singleton, HL1.out, strs_append]; exact ho4)
              clear ho4 hg4 hl4 hap)
            have h5 := H3.out.appRows (v2 := .slice a5 (k + 1) c5) (by rw [V1.out]; exact HA4.out) HO4.out
            have hun := H3.out.under HA4.out (fun g hg => (OwnV.lt H3.out.rows g (by rw [V1.out]; exact hg)).1) 1
            obtain ⟨w5, e5⟩ : ∃ w5, w5 = w4.setCell ⟨C, 1, none⟩ (.slice a5 (k + 1) c5) := ⟨_, rfl⟩
            rw [← e5] at h5 hun ⊢
            have HB5 := Lib.hid (HB3.out.trans hun)
            have H5 := Lib.hid h5
            obtain ⟨_, _, f2, _, _⟩ := h5.field
            obtain ⟨a2, c2x, v2⟩ := h5.marks.sl
            have v2 : mv = .slice a2 k c2x := by rw [← HL2.out]; exact v2
            have V2 := Lib.hid v2
            rw [v2] at f2
            have h9 : OwnV w5 C 3 1 (.slice a2 k c2x) k (cellsK .i64 A.marks) := by have h8 := h5.marks; rw [v2] at h8; have h7 : OwnV w5 C 3 1 (.slice a2 k c2x) A.marks.length (cellsK .i64 A.marks) := h8; rw [HL2.out] at h7; exact h7
            have HO1 := Lib.hid (show ∀ W, Below w5.heap.size w5 W → OwnV W C 3 1 (.slice a2 k c2x) k (cellsK .i64 A.marks) from fun W hb => OwnV.later h9 hb)
            have hD5 := h5.lt
            have z2 := h5.free 2
            have hb5 : C ≤ w5.heap.size := by omega
            have HSRC := Lib.hid (fun W : World => src_val W (.int .i64 (T.size : Int)) rfl 3)
            have HND := Lib.hid (show (Value.slice a2 k c2x).ownBlock ≠ some C from v2 ▸ h5.notD.2.1)
            have HAP := Lib.hid (fun (w1x w2 : World) (v2 : Value) (hbx : Below w5.heap.size w5 w1x) (hg : w1x.grownBy w2 (Value.slice a2 k c2x).ownBlock) (hl : Lies w1x w2 (.slice a2 k c2x) v2 k 1) => appd_of (D := C) hbx hg hl)
            clear e5 h5 hun v2 d4 g4 HA4 HO4 H3 f1 f3 z1 h9 eZ
            go_wp2_with (
              at_builtin
              refine wpList_append_W rfl _ _ 94 rfl C 3 i3 (.int .i64 0) 1 8 Tryz.underlying94 HI3.out hz30 hz31 hz32 rfl (.slice a2 k c2x) k (cellsK .i64 A.marks) rfl (HO1.out _ ((Below.refl _ _).alloc (Nat.le_refl _) _)) (.slice (some ⟨w5.heap.size, 0, none⟩) 1 1) 1 [.int .i64 (T.size : Int)] rfl (HSRC.out w5) (by unfold maxLen; omega) (by omega) (by simp; omega) ?_
              intro v6 w6 ho6 hg6 hl6
              have hap := HAP.out _ w6 v6 ((Below.refl _ _).alloc (Nat.le_refl _) _) hg6 hl6
              have HA6 := Lib.hid hap
              have d6 := hap.cell HND.out f2
              have g6 := hap.free HND.out hD5 z2
              obtain ⟨a7, c7, rfl⟩ := ho6.sl
              have HO6 := Lib.hid (show OwnV w6 C 3 1 (.slice a7 (k + 1) c7) (A.marks ++ [T.size]).length (cellsK .i64 (A.marks ++ [T.size])) by rw [List.length_append, List.length_singleton, HL2.out, cellsK_append]; exact ho6)
              clear ho6 hg6 hl6 hap)
            have h7 := H5.out.appMarks (v2 := .slice a7 (k + 1) c7) (by rw [V2.out]; exact HA6.out) HO6.out
            have hun := H5.out.under HA6.out (fun g hg => (OwnV.lt H5.out.marks g (by rw [V2.out]; exact hg)).1) 2
            go_roundw
            case rel => exact ⟨k + 1, by omega, by go_num, Lib.hid ⟨_, _, _, _, by rw [HFX.out]; exact h7⟩, Lib.hid (HB5.out.trans hun)⟩
            case measure => simp [intOf]; omega
        · have hcI : ¬ (keep : Int) < (bh : Int) := by omega
          have HT2 := Lib.hid (show T = b by rw [HT.out]; unfold cut8; rw [← HBH.out, if_neg hcut])
          go_wp2_with fail
          go_quiet (fail)
          go_wp2_with fail
          go_quiet (fail)
          go_upto_region 14 with fail
          rw [← HT2.out]
          generalize hW : World.drewN _ _ = wq
          have HBQ := Lib.hid (show Below C w wq by rw [← hW]; exact HB.out.trans (by first | exact (((below_drewN9 wr _).trans (below_drewN9 _ _)).mono (by rw [HC.out]; exact HB.out.size)) | exact ((below_drewN9 wr _).mono (by rw [HC.out]; exact HB.out.size))))
          have HXQ := Lib.hid (show ∃ rv mv nv sv, RdAt wq C C (failX R keep l k) rv mv nv sv by rw [← hW]; obtain ⟨_, _, _, _, h9⟩ := HX.out; exact ⟨_, _, _, _, h9.later (by first | exact ((below_drewN9 wr _).trans (below_drewN9 _ _)) | exact below_drewN9 wr _)⟩)
          clear hW
          obtain ⟨x1, x2, x3, x4⟩ := HCE.out wq HBQ.out
          obtain ⟨ln1, ln2, ln3⟩ := failX_len R keep l (k := k) (by rw [← HM.out]; omega)
          obtain ⟨A, hA⟩ : ∃ A, A = failX R keep l k := ⟨_, rfl⟩
          have HFX := Lib.hid (show failX R keep l (k + 1) = ⟨A.size, A.rows ++ [T], A.marks ++ [T.size], A.now ++ [(s, k)], A.safe⟩ by rw [failX_succ HPP.out HE1.out HE2.out, hA, HT.out]; rfl)
          rw [← hA] at HXQ ln1 ln2 ln3
          have HL1 := Lib.hid ln1
          have HL2 := Lib.hid ln2
          have HL3 := Lib.hid ln3
          obtain ⟨rv, mv, nv, sv, hx⟩ := HXQ.out
          have H1 := Lib.hid hx
          obtain ⟨_, f1, f2, f3, _⟩ := hx.field
          obtain ⟨a3, c3, v3⟩ := hx.now.sl
          rw [ln3] at v3
          have V3 := Lib.hid v3
          rw [v3] at f3
          have h9 := hx.now
          rw [v3, ln3] at h9
          have HO3 := Lib.hid (show ∀ W, Below wq.heap.size wq W → OwnV W C 120 2 (.slice a3 k c3) k (pairs8 A.now) from fun W hb => OwnV.later h9 hb)
          have hD1 := hx.lt
          have z3 := hx.free 3
          have hb1 : C ≤ wq.heap.size := by omega
          have HSRC := Lib.hid (fun W : World => src_pair W s k 120)
          have HND := Lib.hid (show (Value.slice a3 k c3).ownBlock ≠ some C from v3 ▸ hx.notD.2.2.1)
          have HAP := Lib.hid (fun (w1x w2 : World) (v2 : Value) (hbx : Below wq.heap.size wq w1x) (hg : w1x.grownBy w2 (Value.slice a3 k c3).ownBlock) (hl : Lies w1x w2 (.slice a3 k c3) v2 k 1) => appd_of (D := C) hbx hg hl)
          clear hx v3 ln1 ln2 ln3 f1 f2 h9 hA
          go_region_law (first
            | (refine step_append_W rfl (.tmp 76) (.tmp 84) 95 rfl C 120 i1 (.agg #[.string ⟨#[]⟩, .int .i64 0]) 2 24 Tryz.underlying95 HI1.out hz10 hz11 hz12 rfl (.slice a3 k c3) k (pairs8 A.now) rfl (HO3.out _ ((Below.refl _ _).drew.alloc (Nat.le_refl _) _)) (.slice (some ⟨wq.heap.size, 0, none⟩) 1 1) 1 (pairs8 [(s, k)]) rfl (HSRC.out wq.drew) (by unfold maxLen; omega) (by omega) (by simp; omega) ?_
               intro v2 w2 ho2 hg2 hl2
               have hap := HAP.out _ w2 v2 ((Below.refl _ _).drew.alloc (Nat.le_refl _) _) hg2 hl2
               have HA := Lib.hid hap
               have d3 := hap.cell HND.out f3
               have g3 := hap.free HND.out hD1 z3
               obtain ⟨a4, c4, rfl⟩ := ho2.sl
               have HO2 := Lib.hid (show OwnV w2 C 120 2 (.slice a4 (k + 1) c4) (A.now ++ [(s, k)]).length (pairs8 (A.now ++ [(s, k)])) by rw [List.length_append, List.length_singleton, HL3.out, pairs8_append]; exact ho2)
               clear ho2 hg2 hl2 hap))
          all_goals
            have h3 := H1.out.appNow (v2 := .slice a4 (k + 1) c4) (by rw [V3.out]; exact HA.out) HO2.out
            have hun := H1.out.under HA.out (fun g hg => (OwnV.lt H1.out.now g (by rw [V3.out]; exact hg)).1) 3
            obtain ⟨w3, e3⟩ : ∃ w3, w3 = w2.setCell ⟨C, 3, none⟩ (.slice a4 (k + 1) c4) := ⟨_, rfl⟩
            rw [← e3] at h3 hun ⊢
            have HB3 := Lib.hid (HBQ.out.trans hun)
            have H3 := Lib.hid h3
            obtain ⟨_, f1, _, _, _⟩ := h3.field
            obtain ⟨a1, c1x, v1⟩ := h3.rows.sl
            have v1 : rv = .slice a1 k c1x := by rw [← HL1.out]; exact v1
            have V1 := Lib.hid v1
            rw [v1] at f1
            have h9 : OwnV w3 C 9 1 (.slice a1 k c1x) k (strs A.rows) := by have h8 := h3.rows; rw [v1] at h8; have h7 : OwnV w3 C 9 1 (.slice a1 k c1x) A.rows.length (strs A.rows) := h8; rw [HL1.out] at h7; exact h7
            have HO1 := Lib.hid (show ∀ W, Below w3.heap.size w3 W → OwnV W C 9 1 (.slice a1 k c1x) k (strs A.rows) from fun W hb => OwnV.later h9 hb)
            have hD3 := h3.lt
            have z1 := h3.free 1
            have hb3 : C ≤ w3.heap.size := by omega
            have HSRC := Lib.hid (fun W : World => src_val W (.string T) rfl 9)
            have HND := Lib.hid (show (Value.slice a1 k c1x).ownBlock ≠ some C from v1 ▸ h3.notD.1)
            have HAP := Lib.hid (fun (w1x w2 : World) (v2 : Value) (hbx : Below w3.heap.size w3 w1x) (hg : w1x.grownBy w2 (Value.slice a1 k c1x).ownBlock) (hl : Lies w1x w2 (.slice a1 k c1x) v2 k 1) => appd_of (D := C) hbx hg hl)
            clear e3 h3 hun v1 d3 g3 HA HO2 HO3 h9
            go_upto_region 16 with (
              at_builtin
              refine wpList_append_W rfl _ _ 93 rfl C 9 i2 (.string ⟨#[]⟩) 1 16 Tryz.underlying93 HI2.out hz20 hz21 hz22 rfl (.slice a1 k c1x) k (strs A.rows) rfl (HO1.out _ ((Below.refl _ _).alloc (Nat.le_refl _) _)) (.slice (some ⟨w3.heap.size, 0, none⟩) 1 1) 1 [.string T] rfl (HSRC.out w3) (by unfold maxLen; omega) (by omega) (by simp; omega) ?_
              intro v4 w4 ho4 hg4 hl4
              have hap := HAP.out _ w4 v4 ((Below.refl _ _).alloc (Nat.le_refl _) _) hg4 hl4
              have HA4 := Lib.hid hap
              have d4 := hap.cell HND.out f1
              have g4 := hap.free HND.out hD3 z1
              obtain ⟨a5, c5, rfl⟩ := ho4.sl
              have HO4 := Lib.hid (show OwnV w4 C 9 1 (.slice a5 (k + 1) c5) (A.rows ++ [T]).length (strs (A.rows ++ [T])) by rw [List.length_append, List.length_singleton, HL1.out, strs_append]; exact ho4)
              clear ho4 hg4 hl4 hap)
            have h5 := H3.out.appRows (v2 := .slice a5 (k + 1) c5) (by rw [V1.out]; exact HA4.out) HO4.out
            have hun := H3.out.under HA4.out (fun g hg => (OwnV.lt H3.out.rows g (by rw [V1.out]; exact hg)).1) 1
            obtain ⟨w5, e5⟩ : ∃ w5, w5 = w4.setCell ⟨C, 1, none⟩ (.slice a5 (k + 1) c5) := ⟨_, rfl⟩
            rw [← e5] at h5 hun ⊢
            have HB5 := Lib.hid (HB3.out.trans hun)
            have H5 := Lib.hid h5
            obtain ⟨_, _, f2, _, _⟩ := h5.field
            obtain ⟨a2, c2x, v2⟩ := h5.marks.sl
            have v2 : mv = .slice a2 k c2x := by rw [← HL2.out]; exact v2
            have V2 := Lib.hid v2
            rw [v2] at f2
            have h9 : OwnV w5 C 3 1 (.slice a2 k c2x) k (cellsK .i64 A.marks) := by have h8 := h5.marks; rw [v2] at h8; have h7 : OwnV w5 C 3 1 (.slice a2 k c2x) A.marks.length (cellsK .i64 A.marks) := h8; rw [HL2.out] at h7; exact h7
            have HO1 := Lib.hid (show ∀ W, Below w5.heap.size w5 W → OwnV W C 3 1 (.slice a2 k c2x) k (cellsK .i64 A.marks) from fun W hb => OwnV.later h9 hb)
            have hD5 := h5.lt
            have z2 := h5.free 2
            have hb5 : C ≤ w5.heap.size := by omega
            have HSRC := Lib.hid (fun W : World => src_val W (.int .i64 (T.size : Int)) rfl 3)
            have HND := Lib.hid (show (Value.slice a2 k c2x).ownBlock ≠ some C from v2 ▸ h5.notD.2.1)
            have HAP := Lib.hid (fun (w1x w2 : World) (v2 : Value) (hbx : Below w5.heap.size w5 w1x) (hg : w1x.grownBy w2 (Value.slice a2 k c2x).ownBlock) (hl : Lies w1x w2 (.slice a2 k c2x) v2 k 1) => appd_of (D := C) hbx hg hl)
            clear e5 h5 hun v2 d4 g4 HA4 HO4 H3 f1 f3 z1 h9 eZ
            go_wp2_with (
              at_builtin
              refine wpList_append_W rfl _ _ 94 rfl C 3 i3 (.int .i64 0) 1 8 Tryz.underlying94 HI3.out hz30 hz31 hz32 rfl (.slice a2 k c2x) k (cellsK .i64 A.marks) rfl (HO1.out _ ((Below.refl _ _).alloc (Nat.le_refl _) _)) (.slice (some ⟨w5.heap.size, 0, none⟩) 1 1) 1 [.int .i64 (T.size : Int)] rfl (HSRC.out w5) (by unfold maxLen; omega) (by omega) (by simp; omega) ?_
              intro v6 w6 ho6 hg6 hl6
              have hap := HAP.out _ w6 v6 ((Below.refl _ _).alloc (Nat.le_refl _) _) hg6 hl6
              have HA6 := Lib.hid hap
              have d6 := hap.cell HND.out f2
              have g6 := hap.free HND.out hD5 z2
              obtain ⟨a7, c7, rfl⟩ := ho6.sl
              have HO6 := Lib.hid (show OwnV w6 C 3 1 (.slice a7 (k + 1) c7) (A.marks ++ [T.size]).length (cellsK .i64 (A.marks ++ [T.size])) by rw [List.length_append, List.length_singleton, HL2.out, cellsK_append]; exact ho6)
              clear ho6 hg6 hl6 hap)
            have h7 := H5.out.appMarks (v2 := .slice a7 (k + 1) c7) (by rw [V2.out]; exact HA6.out) HO6.out
            have hun := H5.out.under HA6.out (fun g hg => (OwnV.lt H5.out.marks g (by rw [V2.out]; exact hg)).1) 2
            go_roundw
            case rel => exact ⟨k + 1, by omega, by go_num, Lib.hid ⟨_, _, _, _, by rw [HFX.out]; exact h7⟩, Lib.hid (HB5.out.trans hun)⟩
            case measure => simp [intOf]; omega
      · obtain rfl : k = m := by omega
        obtain ⟨rv, mv, nv, sv, hx⟩ := HX.out
        have HRK := Lib.hid (show Rk wr C C (failX R keep l k) (fun g => RFoot C rv mv nv sv g) from ⟨⟨rv, mv, nv, sv, hx, fun g hg => hg⟩, fun g hg => hx.foot g hg⟩)
        have HNM := Lib.hid (RNames_any HRK.out (by rw [(failX_len R keep l (k := k) (by rw [← HM.out]; omega)).2.2]; omega))
        clear hx
        go_wp2_with fail
        refine HNM.out.mono ?_
        rintro _ w7 ⟨rfl, hn⟩
        have HN := Lib.hid hn
        clear hn
        go_wp2_with fail
        go_ret2
        exact ⟨rfl, ⟨_, HN.out.rk⟩, HB.out.trans (HN.out.chg.below (base := C) (fun g hg => (HRK.out.2 g hg).1) HRK.out.from_)⟩
  · skip
    simp only [Bool.false_eq_true, if_false, if_true] at hlv
    rw [← hlv, vL] at f3
    go_wp2_with fail
    obtain ⟨w0, e0⟩ : ∃ w0, w0 = w.alloc (.cells #[.int .i64 z9, .slice none 0 0, .slice none 0 0, .slice none 0 0, .slice none 0 0] 97) := ⟨_, rfl⟩
    have hb0 : Below C w w0 := by rw [e0, HC.out]; exact (Below.refl _ _).alloc (Nat.le_refl _) _
    rw [← e0] at HNEW ⊢
    rw [← HC.out]
    have HB0 := Lib.hid hb0
    have HX0 := HNEW
    clear e0 hb0 HNEW hlv vL f0 f3 f4 hfn HLV
    go_loopw [10] (fun i wr => ∃ k : Nat, k ≤ m ∧ i = .int .i64 k ∧ Hid (∃ rv mv nv sv, RdAt wr C C (failX R keep l k) rv mv nv sv) ∧ Hid (Below C w wr)) (fun i _ => m - (intOf i).toNat)
    case atStart => exact ⟨0, Nat.zero_le _, rfl, Lib.hid ⟨_, _, _, _, HX0.out⟩, HB0⟩
    case round =>
      obtain ⟨k, hk, rfl, HX, HB⟩ := hrel
      by_cases hlt : k < m
      · have hltI : (k : Int) < (m : Int) := by omega
        obtain ⟨⟨s, r⟩, hp⟩ : ∃ p, l[k]? = some p := ⟨_, List.getElem?_eq_getElem (by rw [← HM.out]; exact hlt)⟩
        obtain ⟨g, o, b, q, g1, o1, g2, o2, rfl, rfl, rfl, e1, e2, e3, e4, e5, e6⟩ := HKL.out k _ hp
        dsimp only at e1 e2 e5 e6
        have HCE := Lib.hid e6
        have HE1 := Lib.hid e1
        have HE2 := Lib.hid e2
        have HPP := Lib.hid hp
        have rI : (r : Int) < (n : Int) := by omega
        obtain ⟨z, hz⟩ : ∃ z, z = b.size := ⟨_, rfl⟩
        have eZ : (b.size : Int) = (z : Int) := by rw [hz]
        have HZ := Lib.hid hz
        have zI : (z : Int) ≤ 1048576 := by omega
        obtain ⟨bh, hbh⟩ : ∃ bh, bh = z - q := ⟨_, rfl⟩
        have hbI : (z : Int) - (q : Int) = (bh : Int) := by omega
        have hbI2 : (z : Int) - (bh : Int) = (q : Int) := by omega
        have bI : (bh : Int) ≤ 1048576 := by omega
        have qI : (q : Int) ≤ 1048576 := by omega
        have HBH := Lib.hid (show bh = b.size - q by rw [hbh, hz])
        obtain ⟨x1, x2, x3, x4⟩ := e6 wr HB.out
        obtain ⟨y1, y2⟩ := HF.out wr HB.out
        clear e1 e2 e3 e4 e5 e6 hp hz hbh
        obtain ⟨T, hT⟩ : ∃ T, T = cut8 keep b q := ⟨_, rfl⟩
        have HT := Lib.hid hT
        have HTN := Lib.hid (show T.size ≤ 1048576 by rw [hT]; unfold cut8; have := HZ.out; split; rw [ByteArray.size_extract]; omega; omega)
        clear hT
        by_cases hcut : keep < bh
        · have hcI : (keep : Int) < (bh : Int) := by omega
          have HT2 := Lib.hid (show T = b.extract 0 (q + keep) by rw [HT.out]; unfold cut8; rw [← HBH.out, if_pos hcut, ← HZ.out, show z - bh + keep = q + keep by omega])
          have qk : (q : Int) + (keep : Int) ≤ (z : Int) := by omega
          have hrun : ∀ W, (Instr.slice 9 (.string b) none (some (.int .i64 ((q : Int) + (keep : Int)))) none).run Tryz.prog W = .ok (.string T) W := fun W => by
            rw [run_slice_string_h W 9 b (by kernel_rfl) .i64 ((q : Int) + (keep : Int)) (by omega) (by omega), HT2.out, show ((q : Int) + (keep : Int)).toNat = q + keep by omega]
          go_wp2_with fail
          go_quiet (fail)
          go_wp2_with fail
          go_quiet (fail)
          go_upto_region 14 with fail
          generalize hW : World.drewN _ _ = wq
          have HBQ := Lib.hid (show Below C w wq by rw [← hW]; exact HB.out.trans (by first | exact (((below_drewN9 wr _).trans (below_drewN9 _ _)).mono (by rw [HC.out]; exact HB.out.size)) | exact ((below_drewN9 wr _).mono (by rw [HC.out]; exact HB.out.size))))
          have HXQ := Lib.hid (show ∃ rv mv nv sv, RdAt wq C C (failX R keep l k) rv mv nv sv by rw [← hW]; obtain ⟨_, _, _, _, h9⟩ := HX.out; exact ⟨_, _, _, _, h9.later (by first | exact ((below_drewN9 wr _).trans (below_drewN9 _ _)) | exact below_drewN9 wr _)⟩)
          clear hW
          obtain ⟨x1, x2, x3, x4⟩ := HCE.out wq HBQ.out
          obtain ⟨ln1, ln2, ln3⟩ := failX_len R keep l (k := k) (by rw [← HM.out]; omega)
          obtain ⟨A, hA⟩ : ∃ A, A = failX R keep l k := ⟨_, rfl⟩
          have HFX := Lib.hid (show failX R keep l (k + 1) = ⟨A.size, A.rows ++ [T], A.marks ++ [T.size], A.now ++ [(s, k)], A.safe⟩ by rw [failX_succ HPP.out HE1.out HE2.out, hA, HT.out]; rfl)
          rw [← hA] at HXQ ln1 ln2 ln3
          have HL1 := Lib.hid ln1
          have HL2 := Lib.hid ln2
          have HL3 := Lib.hid ln3
          obtain ⟨rv, mv, nv, sv, hx⟩ := HXQ.out
          have H1 := Lib.hid hx
          obtain ⟨_, f1, f2, f3, _⟩ := hx.field
          obtain ⟨a3, c3, v3⟩ := hx.now.sl
          rw [ln3] at v3
          have V3 := Lib.hid v3
          rw [v3] at f3
          have h9 := hx.now
          rw [v3, ln3] at h9
          have HO3 := Lib.hid (show ∀ W, Below wq.heap.size wq W → OwnV W C 120 2 (.slice a3 k c3) k (pairs8 A.now) from fun W hb => OwnV.later h9 hb)
          have hD1 := hx.lt
          have z3 := hx.free 3
          have hb1 : C ≤ wq.heap.size := by omega
          have HSRC := Lib.hid (fun W : World => src_pair W s k 120)
          have HND := Lib.hid (show (Value.slice a3 k c3).ownBlock ≠ some C from v3 ▸ hx.notD.2.2.1)
          have HAP := Lib.hid (fun (w1x w2 : World) (v2 : Value) (hbx : Below wq.heap.size wq w1x) (hg : w1x.grownBy w2 (Value.slice a3 k c3).ownBlock) (hl : Lies w1x w2 (.slice a3 k c3) v2 k 1) => appd_of (D := C) hbx hg hl)
          clear hx v3 ln1 ln2 ln3 f1 f2 h9 hA
          go_region_law (first
            | (refine step_append_W rfl (.tmp 76) (.tmp 84) 95 rfl C 120 i1 (.agg #[.string ⟨#[]⟩, .int .i64 0]) 2 24 Tryz.underlying95 HI1.out hz10 hz11 hz12 rfl (.slice a3 k c3) k (pairs8 A.now) rfl (HO3.out _ ((Below.refl _ _).drew.alloc (Nat.le_refl _) _)) (.slice (some ⟨wq.heap.size, 0, none⟩) 1 1) 1 (pairs8 [(s, k)]) rfl (HSRC.out wq.drew) (by unfold maxLen; omega) (by omega) (by simp; omega) ?_
               intro v2 w2 ho2 hg2 hl2
               have hap := HAP.out _ w2 v2 ((Below.refl _ _).drew.alloc (Nat.le_refl _) _) hg2 hl2
               have HA := Lib.hid hap
               have d3 := hap.cell HND.out f3
               have g3 := hap.free HND.out hD1 z3
               obtain ⟨a4, c4, rfl⟩ := ho2.sl
               have HO2 := Lib.hid (show OwnV w2 C 120 2 (.slice a4 (k + 1) c4) (A.now ++ [(s, k)]).length (pairs8 (A.now ++ [(s, k)])) by rw [List.length_append, List.length_singleton, HL3.out, pairs8_append]; exact ho2)
               clear ho2 hg2 hl2 hap))
          all_goals
            have h3 := H1.out.appNow (v2 := .slice a4 (k + 1) c4) (by rw [V3.out]; exact HA.out) HO2.out
            have hun := H1.out.under HA.out (fun g hg => (OwnV.lt H1.out.now g (by rw [V3.out]; exact hg)).1) 3
            obtain ⟨w3, e3⟩ : ∃ w3, w3 = w2.setCell ⟨C, 3, none⟩ (.slice a4 (k + 1) c4) := ⟨_, rfl⟩
            rw [← e3] at h3 hun ⊢
            have HB3 := Lib.hid (HBQ.out.trans hun)
            have H3 := Lib.hid h3
            obtain ⟨_, f1, _, _, _⟩ := h3.field
            obtain ⟨a1, c1x, v1⟩ := h3.rows.sl
            have v1 : rv = .slice a1 k c1x := by rw [← HL1.out]; exact v1
            have V1 := Lib.hid v1
            rw [v1] at f1
            have h9 : OwnV w3 C 9 1 (.slice a1 k c1x) k (strs A.rows) := by have h8 := h3.rows; rw [v1] at h8; have h7 : OwnV w3 C 9 1 (.slice a1 k c1x) A.rows.length (strs A.rows) := h8; rw [HL1.out] at h7; exact h7
            have HO1 := Lib.hid (show ∀ W, Below w3.heap.size w3 W → OwnV W C 9 1 (.slice a1 k c1x) k (strs A.rows) from fun W hb => OwnV.later h9 hb)
            have hD3 := h3.lt
            have z1 := h3.free 1
            have hb3 : C ≤ w3.heap.size := by omega
            have HSRC := Lib.hid (fun W : World => src_val W (.string T) rfl 9)
            have HND := Lib.hid (show (Value.slice a1 k c1x).ownBlock ≠ some C from v1 ▸ h3.notD.1)
            have HAP := Lib.hid (fun (w1x w2 : World) (v2 : Value) (hbx : Below w3.heap.size w3 w1x) (hg : w1x.grownBy w2 (Value.slice a1 k c1x).ownBlock) (hl : Lies w1x w2 (.slice a1 k c1x) v2 k 1) => appd_of (D := C) hbx hg hl)
            clear e3 h3 hun v1 d3 g3 HA HO2 HO3 h9
            go_upto_region 16 with (
              at_builtin
              refine wpList_append_W rfl _ _ 93 rfl C 9 i2 (.string ⟨#[]⟩) 1 16 Tryz.underlying93 HI2.out hz20 hz21 hz22 rfl (.slice a1 k c1x) k (strs A.rows) rfl (HO1.out _ ((Below.refl _ _).alloc (Nat.le_refl _) _)) (.slice (some ⟨w3.heap.size, 0, none⟩) 1 1) 1 [.string T] rfl (HSRC.out w3) (by unfold maxLen; omega) (by omega) (by simp; omega) ?_
              intro v4 w4 ho4 hg4 hl4
              have hap := HAP.out _ w4 v4 ((Below.refl _ _).alloc (Nat.le_refl _) _) hg4 hl4
              have HA4 := Lib.hid hap
              have d4 := hap.cell HND.out f1
              have g4 := hap.free HND.out hD3 z1
              obtain ⟨a5, c5, rfl⟩ := ho4.sl
              have HO4 := Lib.hid (show OwnV w4 C 9 1 (.slice a5 (k + 1) c5) (A.rows ++ [T]).length (strs (A.rows ++ [T])) by rw [List.length_append, List.length_singleton, HL1.out, strs_append]; exact ho4)
              clear ho4 hg4 hl4 hap)
            have h5 := H3.out.appRows (v2 := .slice a5 (k + 1) c5) (by rw [V1.out]; exact HA4.out) HO4.out
            have hun := H3.out.under HA4.out (fun g hg => (OwnV.lt H3.out.rows g (by rw [V1.out]; exact hg)).1) 1
            obtain ⟨w5, e5⟩ : ∃ w5, w5 = w4.setCell ⟨C, 1, none⟩ (.slice a5 (k + 1) c5) := ⟨_, rfl⟩
            rw [← e5] at h5 hun ⊢
            have HB5 := Lib.hid (HB3.out.trans hun)
            have H5 := Lib.hid h5
            obtain ⟨_, _, f2, _, _⟩ := h5.field
            obtain ⟨a2, c2x, v2⟩ := h5.marks.sl
            have v2 : mv = .slice a2 k c2x := by rw [← HL2.out]; exact v2
            have V2 := Lib.hid v2
            rw [v2] at f2
            have h9 : OwnV w5 C 3 1 (.slice a2 k c2x) k (cellsK .i64 A.marks) := by have h8 := h5.marks; rw [v2] at h8; have h7 : OwnV w5 C 3 1 (.slice a2 k c2x) A.marks.length (cellsK .i64 A.marks) := h8; rw [HL2.out] at h7; exact h7
            have HO1 := Lib.hid (show ∀ W, Below w5.heap.size w5 W → OwnV W C 3 1 (.slice a2 k c2x) k (cellsK .i64 A.marks) from fun W hb => OwnV.later h9 hb)
            have hD5 := h5.lt
            have z2 := h5.free 2
            have hb5 : C ≤ w5.heap.size := by omega
            have HSRC := Lib.hid (fun W : World => src_val W (.int .i64 (T.size : Int)) rfl 3)
            have HND := Lib.hid (show (Value.slice a2 k c2x).ownBlock ≠ some C from v2 ▸ h5.notD.2.1)
            have HAP := Lib.hid (fun (w1x w2 : World) (v2 : Value) (hbx : Below w5.heap.size w5 w1x) (hg : w1x.grownBy w2 (Value.slice a2 k c2x).ownBlock) (hl : Lies w1x w2 (.slice a2 k c2x) v2 k 1) => appd_of (D := C) hbx hg hl)
            clear e5 h5 hun v2 d4 g4 HA4 HO4 H3 f1 f3 z1 h9 eZ
            go_wp2_with (
              at_builtin
              refine wpList_append_W rfl _ _ 94 rfl C 3 i3 (.int .i64 0) 1 8 Tryz.underlying94 HI3.out hz30 hz31 hz32 rfl (.slice a2 k c2x) k (cellsK .i64 A.marks) rfl (HO1.out _ ((Below.refl _ _).alloc (Nat.le_refl _) _)) (.slice (some ⟨w5.heap.size, 0, none⟩) 1 1) 1 [.int .i64 (T.size : Int)] rfl (HSRC.out w5) (by unfold maxLen; omega) (by omega) (by simp; omega) ?_
              intro v6 w6 ho6 hg6 hl6
              have hap := HAP.out _ w6 v6 ((Below.refl _ _).alloc (Nat.le_refl _) _) hg6 hl6
              have HA6 := Lib.hid hap
              have d6 := hap.cell HND.out f2
              have g6 := hap.free HND.out hD5 z2
              obtain ⟨a7, c7, rfl⟩ := ho6.sl
              have HO6 := Lib.hid (show OwnV w6 C 3 1 (.slice a7 (k + 1) c7) (A.marks ++ [T.size]).length (cellsK .i64 (A.marks ++ [T.size])) by rw [List.length_append, List.length_singleton, HL2.out, cellsK_append]; exact ho6)
              clear ho6 hg6 hl6 hap)
            have h7 := H5.out.appMarks (v2 := .slice a7 (k + 1) c7) (by rw [V2.out]; exact HA6.out) HO6.out
            have hun := H5.out.under HA6.out (fun g hg => (OwnV.lt H5.out.marks g (by rw [V2.out]; exact hg)).1) 2
            go_roundw
            case rel => exact ⟨k + 1, by omega, by go_num, Lib.hid ⟨_, _, _, _, by rw [HFX.out]; exact h7⟩, Lib.hid (HB5.out.trans hun)⟩
            case measure => simp [intOf]; omega
        · have hcI : ¬ (keep : Int) < (bh : Int) := by omega
          have HT2 := Lib.hid (show T = b by rw [HT.out]; unfold cut8; rw [← HBH.out, if_neg hcut])
          go_wp2_with fail
          go_quiet (fail)
          go_wp2_with fail
          go_quiet (fail)
          go_upto_region 14 with fail
          rw [← HT2.out]
          generalize hW : World.drewN _ _ = wq
          have HBQ := Lib.hid (show Below C w wq by rw [← hW]; exact HB.out.trans (by first | exact (((below_drewN9 wr _).trans (below_drewN9 _ _)).mono (by rw [HC.out]; exact HB.out.size)) | exact ((below_drewN9 wr _).mono (by rw [HC.out]; exact HB.out.size))))
          have HXQ := Lib.hid (show ∃ rv mv nv sv, RdAt wq C C (failX R keep l k) rv mv nv sv by rw [← hW]; obtain ⟨_, _, _, _, h9⟩ := HX.out; exact ⟨_, _, _, _, h9.later (by first | exact ((below_drewN9 wr _).trans (below_drewN9 _ _)) | exact below_drewN9 wr _)⟩)
          clear hW
          obtain ⟨x1, x2, x3, x4⟩ := HCE.out wq HBQ.out
          obtain ⟨ln1, ln2, ln3⟩ := failX_len R keep l (k := k) (by rw [← HM.out]; omega)
          obtain ⟨A, hA⟩ : ∃ A, A = failX R keep l k := ⟨_, rfl⟩
          have HFX := Lib.hid (show failX R keep l (k + 1) = ⟨A.size, A.rows ++ [T], A.marks ++ [T.size], A.now ++ [(s, k)], A.safe⟩ by rw [failX_succ HPP.out HE1.out HE2.out, hA, HT.out]; rfl)
          rw [← hA] at HXQ ln1 ln2 ln3
          have HL1 := Lib.hid ln1
          have HL2 := Lib.hid ln2
          have HL3 := Lib.hid ln3
          obtain ⟨rv, mv, nv, sv, hx⟩ := HXQ.out
          have H1 := Lib.hid hx
          obtain ⟨_, f1, f2, f3, _⟩ := hx.field
          obtain ⟨a3, c3, v3⟩ := hx.now.sl
          rw [ln3] at v3
          have V3 := Lib.hid v3
          rw [v3] at f3
          have h9 := hx.now
          rw [v3, ln3] at h9
          have HO3 := Lib.hid (show ∀ W, Below wq.heap.size wq W → OwnV W C 120 2 (.slice a3 k c3) k (pairs8 A.now) from fun W hb => OwnV.later h9 hb)
          have hD1 := hx.lt
          have z3 := hx.free 3
          have hb1 : C ≤ wq.heap.size := by omega
          have HSRC := Lib.hid (fun W : World => src_pair W s k 120)
          have HND := Lib.hid (show (Value.slice a3 k c3).ownBlock ≠ some C from v3 ▸ hx.notD.2.2.1)
          have HAP := Lib.hid (fun (w1x w2 : World) (v2 : Value) (hbx : Below wq.heap.size wq w1x) (hg : w1x.grownBy w2 (Value.slice a3 k c3).ownBlock) (hl : Lies w1x w2 (.slice a3 k c3) v2 k 1) => appd_of (D := C) hbx hg hl)
          clear hx v3 ln1 ln2 ln3 f1 f2 h9 hA
          go_region_law (first
            | (refine step_append_W rfl (.tmp 76) (.tmp 84) 95 rfl C 120 i1 (.agg #[.string ⟨#[]⟩, .int .i64 0]) 2 24 Tryz.underlying95 HI1.out hz10 hz11 hz12 rfl (.slice a3 k c3) k (pairs8 A.now) rfl (HO3.out _ ((Below.refl _ _).drew.alloc (Nat.le_refl _) _)) (.slice (some ⟨wq.heap.size, 0, none⟩) 1 1) 1 (pairs8 [(s, k)]) rfl (HSRC.out wq.drew) (by unfold maxLen; omega) (by omega) (by simp; omega) ?_
               intro v2 w2 ho2 hg2 hl2
               have hap := HAP.out _ w2 v2 ((Below.refl _ _).drew.alloc (Nat.le_refl _) _) hg2 hl2
               have HA := Lib.hid hap
               have d3 := hap.cell HND.out f3
               have g3 := hap.free HND.out hD1 z3
               obtain ⟨a4, c4, rfl⟩ := ho2.sl
               have HO2 := Lib.hid (show OwnV w2 C 120 2 (.slice a4 (k + 1) c4) (A.now ++ [(s, k)]).length (pairs8 (A.now ++ [(s, k)])) by rw [List.length_append, List.length_singleton, HL3.out, pairs8_append]; exact ho2)
               clear ho2 hg2 hl2 hap))
          all_goals
            have h3 := H1.out.appNow (v2 := .slice a4 (k + 1) c4) (by rw [V3.out]; exact HA.out) HO2.out
            have hun := H1.out.under HA.out (fun g hg => (OwnV.lt H1.out.now g (by rw [V3.out]; exact hg)).1) 3
            obtain ⟨w3, e3⟩ : ∃ w3, w3 = w2.setCell ⟨C, 3, none⟩ (.slice a4 (k + 1) c4) := ⟨_, rfl⟩
            rw [← e3] at h3 hun ⊢
            have HB3 := Lib.hid (HBQ.out.trans hun)
            have H3 := Lib.hid h3
            obtain ⟨_, f1, _, _, _⟩ := h3.field
            obtain ⟨a1, c1x, v1⟩ := h3.rows.sl
            have v1 : rv = .slice a1 k c1x := by rw [← HL1.out]; exact v1
            have V1 := Lib.hid v1
            rw [v1] at f1
            have h9 : OwnV w3 C 9 1 (.slice a1 k c1x) k (strs A.rows) := by have h8 := h3.rows; rw [v1] at h8; have h7 : OwnV w3 C 9 1 (.slice a1 k c1x) A.rows.length (strs A.rows) := h8; rw [HL1.out] at h7; exact h7
            have HO1 := Lib.hid (show ∀ W, Below w3.heap.size w3 W → OwnV W C 9 1 (.slice a1 k c1x) k (strs A.rows) from fun W hb => OwnV.later h9 hb)
            have hD3 := h3.lt
            have z1 := h3.free 1
            have hb3 : C ≤ w3.heap.size := by omega
            have HSRC := Lib.hid (fun W : World => src_val W (.string T) rfl 9)
            have HND := Lib.hid (show (Value.slice a1 k c1x).ownBlock ≠ some C from v1 ▸ h3.notD.1)
            have HAP := Lib.hid (fun (w1x w2 : World) (v2 : Value) (hbx : Below w3.heap.size w3 w1x) (hg : w1x.grownBy w2 (Value.slice a1 k c1x).ownBlock) (hl : Lies w1x w2 (.slice a1 k c1x) v2 k 1) => appd_of (D := C) hbx hg hl)
            clear e3 h3 hun v1 d3 g3 HA HO2 HO3 h9
            go_upto_region 16 with (
              at_builtin
              refine wpList_append_W rfl _ _ 93 rfl C 9 i2 (.string ⟨#[]⟩) 1 16 Tryz.underlying93 HI2.out hz20 hz21 hz22 rfl (.slice a1 k c1x) k (strs A.rows) rfl (HO1.out _ ((Below.refl _ _).alloc (Nat.le_refl _) _)) (.slice (some ⟨w3.heap.size, 0, none⟩) 1 1) 1 [.string T] rfl (HSRC.out w3) (by unfold maxLen; omega) (by omega) (by simp; omega) ?_
              intro v4 w4 ho4 hg4 hl4
              have hap := HAP.out _ w4 v4 ((Below.refl _ _).alloc (Nat.le_refl _) _) hg4 hl4
              have HA4 := Lib.hid hap
              have d4 := hap.cell HND.out f1
              have g4 := hap.free HND.out hD3 z1
              obtain ⟨a5, c5, rfl⟩ := ho4.sl
              have HO4 := Lib.hid (show OwnV w4 C 9 1 (.slice a5 (k + 1) c5) (A.rows ++ [T]).length (strs (A.rows ++ [T])) by rw [List.length_append, List.length_singleton, HL1.out, strs_append]; exact ho4)
              clear ho4 hg4 hl4 hap)
            have h5 := H3.out.appRows (v2 := .slice a5 (k + 1) c5) (by rw [V1.out]; exact HA4.out) HO4.out
            have hun := H3.out.under HA4.out (fun g hg => (OwnV.lt H3.out.rows g (by rw [V1.out]; exact hg)).1) 1
            obtain ⟨w5, e5⟩ : ∃ w5, w5 = w4.setCell ⟨C, 1, none⟩ (.slice a5 (k + 1) c5) := ⟨_, rfl⟩
            rw [← e5] at h5 hun ⊢
            have HB5 := Lib.hid (HB3.out.trans hun)
            have H5 := Lib.hid h5
            obtain ⟨_, _, f2, _, _⟩ := h5.field
            obtain ⟨a2, c2x, v2⟩ := h5.marks.sl
            have v2 : mv = .slice a2 k c2x := by rw [← HL2.out]; exact v2
            have V2 := Lib.hid v2
            rw [v2] at f2
            have h9 : OwnV w5 C 3 1 (.slice a2 k c2x) k (cellsK .i64 A.marks) := by have h8 := h5.marks; rw [v2] at h8; have h7 : OwnV w5 C 3 1 (.slice a2 k c2x) A.marks.length (cellsK .i64 A.marks) := h8; rw [HL2.out] at h7; exact h7
            have HO1 := Lib.hid (show ∀ W, Below w5.heap.size w5 W → OwnV W C 3 1 (.slice a2 k c2x) k (cellsK .i64 A.marks) from fun W hb => OwnV.later h9 hb)
            have hD5 := h5.lt
            have z2 := h5.free 2
            have hb5 : C ≤ w5.heap.size := by omega
            have HSRC := Lib.hid (fun W : World => src_val W (.int .i64 (T.size : Int)) rfl 3)
            have HND := Lib.hid (show (Value.slice a2 k c2x).ownBlock ≠ some C from v2 ▸ h5.notD.2.1)
            have HAP := Lib.hid (fun (w1x w2 : World) (v2 : Value) (hbx : Below w5.heap.size w5 w1x) (hg : w1x.grownBy w2 (Value.slice a2 k c2x).ownBlock) (hl : Lies w1x w2 (.slice a2 k c2x) v2 k 1) => appd_of (D := C) hbx hg hl)
            clear e5 h5 hun v2 d4 g4 HA4 HO4 H3 f1 f3 z1 h9 eZ
            go_wp2_with (
              at_builtin
              refine wpList_append_W rfl _ _ 94 rfl C 3 i3 (.int .i64 0) 1 8 Tryz.underlying94 HI3.out hz30 hz31 hz32 rfl (.slice a2 k c2x) k (cellsK .i64 A.marks) rfl (HO1.out _ ((Below.refl _ _).alloc (Nat.le_refl _) _)) (.slice (some ⟨w5.heap.size, 0, none⟩) 1 1) 1 [.int .i64 (T.size : Int)] rfl (HSRC.out w5) (by unfold maxLen; omega) (by omega) (by simp; omega) ?_
              intro v6 w6 ho6 hg6 hl6
              have hap := HAP.out _ w6 v6 ((Below.refl _ _).alloc (Nat.le_refl _) _) hg6 hl6
              have HA6 := Lib.hid hap
              have d6 := hap.cell HND.out f2
              have g6 := hap.free HND.out hD5 z2
              obtain ⟨a7, c7, rfl⟩ := ho6.sl
              have HO6 := Lib.hid (show OwnV w6 C 3 1 (.slice a7 (k + 1) c7) (A.marks ++ [T.size]).length (cellsK .i64 (A.marks ++ [T.size])) by rw [List.length_append, List.length_singleton, HL2.out, cellsK_append]; exact ho6)
              clear ho6 hg6 hl6 hap)
            have h7 := H5.out.appMarks (v2 := .slice a7 (k + 1) c7) (by rw [V2.out]; exact HA6.out) HO6.out
            have hun := H5.out.under HA6.out (fun g hg => (OwnV.lt H5.out.marks g (by rw [V2.out]; exact hg)).1) 2
            go_roundw
            case rel => exact ⟨k + 1, by omega, by go_num, Lib.hid ⟨_, _, _, _, by rw [HFX.out]; exact h7⟩, Lib.hid (HB5.out.trans hun)⟩
            case measure => simp [intOf]; omega
      · obtain rfl : k = m := by omega
        obtain ⟨rv, mv, nv, sv, hx⟩ := HX.out
        have HRK := Lib.hid (show Rk wr C C (failX R keep l k) (fun g => RFoot C rv mv nv sv g) from ⟨⟨rv, mv, nv, sv, hx, fun g hg => hg⟩, fun g hg => hx.foot g hg⟩)
        have HNM := Lib.hid (RNames_any HRK.out (by rw [(failX_len R keep l (k := k) (by rw [← HM.out]; omega)).2.2]; omega))
        clear hx
        go_wp2_with fail
        refine HNM.out.mono ?_
        rintro _ w7 ⟨rfl, hn⟩
        have HN := Lib.hid hn
        clear hn
        go_wp2_with fail
        go_ret2
        exact ⟨rfl, ⟨_, HN.out.rk⟩, HB.out.trans (HN.out.chg.below (base := C) (fun g hg => (HRK.out.2 g hg).1) HRK.out.from_)⟩
end Go.Proofs.YtidhlbhfhfonoaaGreatDoor
