/- Layer 17 (files): FilesIdle. -/
import Derived.Test.YtjaganoidfohaaaDoorAliveF
import Derived.Test.YtjaganoidfohaaaDoorDone
namespace Go.Proofs.YtjaganoidfohaaaDoor
open Go.ChangeShapes Go.WideShapes Go.ChangeAt Go.RowKit

theorem sync_twice {M : Dm} (s : ByteArray) : (M.sync s).1.sync s = ((M.sync s).1, (M.sync s).2) := by
  unfold Dm.sync Dm.at
  by_cases h : nameOk s = true
  · rw [if_pos h, if_pos h]
    cases hf : find M.now s with
    | none => simp [hf]
    | some i =>
      simp only [hf]
      congr 1
      congr 1
      show (M.rows.set (M.file i) ⟨(M.row i).l, (M.row i).l.length⟩).set (M.file i) ⟨((M.rows.set (M.file i) ⟨(M.row i).l, (M.row i).l.length⟩).getD (M.file i) ⟨[], 0⟩).l, ((M.rows.set (M.file i) ⟨(M.row i).l, (M.row i).l.length⟩).getD (M.file i) ⟨[], 0⟩).l.length⟩ = _
      rw [List.set_set]
      by_cases hl : M.file i < M.rows.length
      · rw [List.getD_eq_getElem?_getD, List.getElem?_set_self hl]
        rfl
      · rw [List.set_eq_of_length_le (by omega), List.set_eq_of_length_le (by omega)]
  · rw [if_neg h, if_neg h]
theorem why_two {M : Dm} {s : ByteArray} (h : M.why true s ≠ 0) : M.why true s = 1 ∨ M.why true s = 7 := by
  unfold Dm.why at h ⊢
  by_cases hn : (true && nameOk s) = true
  · rw [if_pos hn] at h ⊢
    cases hf : find M.now s with
    | none => exact .inr rfl
    | some i => rw [hf] at h; exact absurd rfl h
  · rw [if_neg hn]
    exact .inl rfl
theorem sync_names {M : Dm} (s : ByteArray) : (M.names.sync s).1.names = (M.names.sync s).1 := by
  unfold Dm.sync Dm.at
  by_cases h : nameOk s = true
  · rw [if_pos h]
    cases hf : find M.names.now s with
    | none => rfl
    | some i => rfl
  · rw [if_neg h]
    rfl

set_option linter.unusedSimpArgs false in
set_option linter.unusedVariables false in
set_option maxRecDepth 20000 in
set_option maxHeartbeats 4000000 in
theorem filesIdle_big (l : List Ac) {v : Value} (s : ByteArray) (keep : Nat) (w : World) (hA : ActsAt w v l) (hg : great l = true) :
    Calls Tryd.prog 5 #[v, .string s, .int .u8 keep] w fun e w' => e = .returned (.bool true) ∧ Below w.heap.size w w' := by
  have HA := Lib.hid hA
  clear hA
  go_enter Tryd.func5, Tryd.ntmps5
  have B := Lib.hid (Below.refl w.heap.size w)
  go_wp2_with fail
  refine (done_great l w HA.out hg).mono ?_
  rintro _ w1 ⟨rfl, hb⟩
  have B := Lib.hid (below_on B.out hb)
  have HA := Lib.hid (HA.out.later hb)
  clear hb
  go_wp2_with fail
  refine (done_great l w1 HA.out hg).mono ?_
  rintro _ w2 ⟨rfl, hb⟩
  have B := Lib.hid (below_on B.out hb)
  have HA := Lib.hid (HA.out.later hb)
  clear hb
  go_wp2_with fail
  refine (alive17 w2).mono ?_
  rintro _ w3 ⟨rfl, hb⟩
  have B := Lib.hid (below_on B.out hb)
  clear hb
  go_wp2_with fail
  go_ret
  exact ⟨rfl, B.out⟩
set_option linter.unusedSimpArgs false in
set_option linter.unusedVariables false in
set_option maxRecDepth 20000 in
set_option maxHeartbeats 4000000 in
theorem filesIdle_small (l : List Ac) {v : Value} (s : ByteArray) (hs9 : s.size ≤ 140737488355328) (keep : Nat) (hk : keep < 256) (w : World) (hA : ActsAt w v l) (hg : great l = false) :
    Calls Tryd.prog 5 #[v, .string s, .int .u8 keep] w fun e w' => e = .returned (.bool true) ∧ Below w.heap.size w w' := by
  obtain ⟨M, hM⟩ : ∃ M, M = doneM l := ⟨_, rfl⟩
  obtain ⟨q, hq⟩ : ∃ q, q = M.names.sync s := ⟨_, rfl⟩
  obtain ⟨N, e⟩ := q
  have HQ := Lib.hid hq.symm
  have HQ2 := Lib.hid (show N.sync s = (N, e) by have h := sync_twice (M := M.names) s; rw [← hq] at h; exact h)
  have HN := Lib.hid (show N.names = N by have h := sync_names (M := M) s; rw [← hq] at h; exact h)
  have HM := Lib.hid hM.symm
  have HA := Lib.hid hA
  clear hA hM hq
  go_enter Tryd.func5, Tryd.ntmps5
  go_wp2_with fail
  refine (done_any l w HA.out hg).mono ?_
  rintro _ w1 ⟨rfl, ⟨S0, hd⟩, hb⟩
  have HA := Lib.hid (HA.out.later hb)
  have B := Lib.hid hb
  obtain ⟨C, hC⟩ : ∃ C, C = w.heap.size := ⟨_, rfl⟩
  have HC := Lib.hid hC
  rw [← hC] at hd ⊢
  rw [HM.out] at hd
  have T := Lib.hid (OneK.new hd)
  clear hb hd hC S0
  go_wp2_with fail
  refine (done_any l w1 HA.out hg).mono ?_
  rintro _ w2 ⟨rfl, ⟨S0, hd⟩, hb⟩
  have B := Lib.hid (below_on B.out hb)
  obtain ⟨D, hD⟩ : ∃ D, D = w1.heap.size := ⟨_, rfl⟩
  rw [HM.out] at hd
  have T := Lib.hid (T.out.beside hb hd (Nat.le_refl _))
  rw [← hD] at T ⊢
  clear hb hd hD S0 HA HM
  go_wp2_with fail
  refine (alive17 w2).mono ?_
  rintro _ w3 ⟨rfl, hb⟩
  have B := Lib.hid (below_on B.out hb)
  have T := Lib.hid (T.out.later hb)
  clear hb
  go_wp2_with fail
  refine (T.out.act 0 rfl rfl fun S hS => Names_any hS).mono ?_
  rintro _ w4 ⟨rfl, ht, hs⟩
  have B := Lib.hid (B.out.trans (hs.below (base := w.heap.size) (fun g hg => (show g < C by rw [HC.out]; exact hg))))
  have T := Lib.hid ht
  clear ht hs
  go_wp2_with fail
  refine (T.out.act2 0 rfl rfl fun S hS => Names_any hS).mono ?_
  rintro _ w5 ⟨rfl, ht, hs⟩
  have B := Lib.hid (B.out.trans (hs.below (base := w.heap.size) (fun g hg => (show g < C by rw [HC.out]; exact hg))))
  have T := Lib.hid ht
  clear ht hs
  go_wp2_with fail
  refine (T.out.act e HQ.out rfl fun S hS => Sync_any hS s hs9).mono ?_
  rintro _ w6 ⟨rfl, ht, hs⟩
  have B := Lib.hid (B.out.trans (hs.below (base := w.heap.size) (fun g hg => (show g < C by rw [HC.out]; exact hg))))
  have T := Lib.hid ht
  clear ht hs
  go_wp2_with fail
  refine (T.out.act2 e HQ.out rfl fun S hS => Sync_any hS s hs9).mono ?_
  rintro _ w7 ⟨rfl, ht, hs⟩
  have B := Lib.hid (B.out.trans (hs.below (base := w.heap.size) (fun g hg => (show g < C by rw [HC.out]; exact hg))))
  have T := Lib.hid ht
  clear ht hs
  go_wp2_with fail
  refine (T.out.act2 0 (show (N.names, 0) = (N, 0) by rw [HN.out]) rfl fun S hS => Names_any hS).mono ?_
  rintro _ w8 ⟨rfl, ht, hs⟩
  have B := Lib.hid (B.out.trans (hs.below (base := w.heap.size) (fun g hg => (show g < C by rw [HC.out]; exact hg))))
  have T := Lib.hid ht
  clear ht hs
  go_wp2_with fail
  refine (T.out.act2 e HQ2.out rfl fun S hS => Sync_any hS s hs9).mono ?_
  rintro _ w9 ⟨rfl, ht, hs⟩
  have B := Lib.hid (B.out.trans (hs.below (base := w.heap.size) (fun g hg => (show g < C by rw [HC.out]; exact hg))))
  have T := Lib.hid ht
  clear ht hs
  go_wp2_with fail
  refine (T.out.snd.look fun S hS => List_any hS).mono ?_
  rintro _ w10 ⟨lv, rfl, _, hb⟩
  have B := Lib.hid (below_on B.out hb)
  have T := Lib.hid (T.out.later hb)
  clear hb
  go_wp2_with fail
  refine (T.out.snd.look fun S hS => Left_any hS).mono ?_
  rintro _ w11 ⟨rfl, hb⟩
  have B := Lib.hid (below_on B.out hb)
  have T := Lib.hid (T.out.later hb)
  clear hb
  go_wp2_with fail
  refine (T.out.snd.look fun S hS => Size_any hS s hs9).mono ?_
  rintro _ w12 ⟨rfl, hb⟩
  have B := Lib.hid (below_on B.out hb)
  have T := Lib.hid (T.out.later hb)
  clear hb
  go_wp2_with fail
  refine (T.out.snd.look fun S hS => Read_any hS s hs9 0 1 (by decide) (by decide)).mono ?_
  rintro _ w13 ⟨rv, rfl, _, hb⟩
  have B := Lib.hid (below_on B.out hb)
  have T := Lib.hid (T.out.later hb)
  clear hb
  go_wp2_with fail
  refine (T.out.snd.look fun S hS => Fail_yes hS keep true (by omega)).mono ?_
  rintro _ w14 ⟨X, rfl, _, hb⟩
  have B := Lib.hid (below_on B.out hb)
  have T := Lib.hid (T.out.later hb)
  clear hb
  rcases N.ways s with ⟨hok, i, hf⟩ | hno
  · obtain ⟨zn, hz⟩ : ∃ zn, N.sizeE s = (zn, 0) := ⟨_, by unfold Dm.sizeE; rw [if_pos (Dm.why_yes hok hf)]⟩
    have HZ := Lib.hid hz
    have HCR := Lib.hid (show N.create s = (N, 8) by unfold Dm.create; rw [if_pos hok, hf])
    clear hz hok hf
    go_wp2_with fail
    refine (T.out.snd.look fun S hS => Size_any hS s hs9).mono ?_
    rw [HZ.out]
    rintro _ w15 ⟨rfl, hb⟩
    have B := Lib.hid (below_on B.out hb)
    have T := Lib.hid (T.out.later hb)
    clear hb
    go_wp2_with fail
    refine (T.out.act2 8 HCR.out rfl fun S hS => Create_any hS s hs9).mono ?_
    rintro _ w16 ⟨rfl, ht, hs⟩
    have B := Lib.hid (B.out.trans (hs.below (base := w.heap.size) (fun g hg => (show g < C by rw [HC.out]; exact hg))))
    have T := Lib.hid ht
    clear ht hs
    go_wp2_with fail
    obtain ⟨S, S9, hS, hS9, _⟩ := T.out
    refine (alike_any hS hS9 rfl rfl).mono ?_
    clear hS hS9
    rintro _ w17 ⟨rfl, hb⟩
    have B := Lib.hid (below_on B.out hb)
    have T := Lib.hid (T.out.later hb)
    clear hb
    go_wp2_with fail
    obtain ⟨S, S9, hS, hS9, _⟩ := T.out
    refine (fail_any hS hS9 rfl rfl rfl keep (by omega)).mono ?_
    clear hS hS9
    rintro _ w18 ⟨rfl, hb⟩
    have B := Lib.hid (below_on B.out hb)
    have T := Lib.hid (T.out.later hb)
    clear hb
    go_wp2_with fail
    go_ret
    exact ⟨rfl, B.out⟩
  · rcases why_two hno with hfe | hfe
    · have HZ := Lib.hid (show N.sizeE s = (0, 1) by unfold Dm.sizeE; rw [if_neg hno, hfe])
      have HRM := Lib.hid (show N.remove s = (N, 1) by rw [← hfe]; exact Dm.at_no hno)
      have HAP := Lib.hid (fun (b : List Nat) => show N.append s b = (N, 1) by rw [← hfe]; exact Dm.at_no hno)
      clear hfe
      have kc := fun (w : World) (C : Array Value) (n c : Nat) => Lib.run_convert_bytes_const (P := Tryd.prog) w 35 5 C n c Tryd.underlying35 Tryd.underlying5
      go_wp2_with fail
      refine (T.out.snd.look fun S hS => Size_any hS s hs9).mono ?_
      rw [HZ.out]
      rintro _ w19 ⟨rfl, hb⟩
      have B := Lib.hid (below_on B.out hb)
      have T := Lib.hid (T.out.later hb)
      clear hb
      go_wp2_with fail
      refine (T.out.act2 1 HRM.out rfl fun S hS => Remove_any hS s hs9).mono ?_
      rintro _ w20 ⟨rfl, ht, hs⟩
      have B := Lib.hid (B.out.trans (hs.below (base := w.heap.size) (fun g hg => (show g < C by rw [HC.out]; exact hg))))
      have T := Lib.hid ht
      clear ht hs
      go_wp2_with fail
      obtain ⟨w21, e9⟩ : ∃ w21 : World, w21 = w20.alloc (.cells (cellsK .u8 [120]).toArray 5 (1, 2)) := ⟨_, rfl⟩
      have hb : Below w20.heap.size w20 w21 := by rw [e9]; exact (Below.refl _ _).alloc (Nat.le_refl _) _
      have K9 := Lib.hid (show KAt .u8 w21 (.slice (some ⟨w20.heap.size, 0, none⟩) 1 1) [120] by rw [e9]; exact kat_lit _ _ _ _ (by decide))
      change Calls _ _ _ (w20.alloc (.cells (cellsK .u8 [120]).toArray 5 (1, 2))) _
      rw [← e9]
      have B := Lib.hid (below_on B.out hb)
      have T := Lib.hid (T.out.later hb)
      clear e9 hb kc
      refine (T.out.act2 1 (HAP.out _) rfl fun S hS => Append_any hS s hs9 K9.out (by unfold Bytes; decide)).mono ?_
      rintro _ w22 ⟨rfl, ht, hs⟩
      have B := Lib.hid (B.out.trans (hs.below (base := w.heap.size) (fun g hg => (show g < C by rw [HC.out]; exact hg))))
      have T := Lib.hid ht
      clear ht hs K9
      go_wp2_with fail
      obtain ⟨S, S9, hS, hS9, _⟩ := T.out
      refine (alike_any hS hS9 rfl rfl).mono ?_
      clear hS hS9
      rintro _ w23 ⟨rfl, hb⟩
      have B := Lib.hid (below_on B.out hb)
      have T := Lib.hid (T.out.later hb)
      clear hb
      go_wp2_with fail
      obtain ⟨S, S9, hS, hS9, _⟩ := T.out
      refine (fail_any hS hS9 rfl rfl rfl keep (by omega)).mono ?_
      clear hS hS9
      rintro _ w24 ⟨rfl, hb⟩
      have B := Lib.hid (below_on B.out hb)
      have T := Lib.hid (T.out.later hb)
      clear hb
      go_wp2_with fail
      go_ret
      exact ⟨rfl, B.out⟩
    · have HZ := Lib.hid (show N.sizeE s = (0, 7) by unfold Dm.sizeE; rw [if_neg hno, hfe])
      have HRM := Lib.hid (show N.remove s = (N, 7) by rw [← hfe]; exact Dm.at_no hno)
      have HAP := Lib.hid (fun (b : List Nat) => show N.append s b = (N, 7) by rw [← hfe]; exact Dm.at_no hno)
      clear hfe
      have kc := fun (w : World) (C : Array Value) (n c : Nat) => Lib.run_convert_bytes_const (P := Tryd.prog) w 35 5 C n c Tryd.underlying35 Tryd.underlying5
      go_wp2_with fail
      refine (T.out.snd.look fun S hS => Size_any hS s hs9).mono ?_
      rw [HZ.out]
      rintro _ w25 ⟨rfl, hb⟩
      have B := Lib.hid (below_on B.out hb)
      have T := Lib.hid (T.out.later hb)
      clear hb
      go_wp2_with fail
      refine (T.out.act2 7 HRM.out rfl fun S hS => Remove_any hS s hs9).mono ?_
      rintro _ w26 ⟨rfl, ht, hs⟩
      have B := Lib.hid (B.out.trans (hs.below (base := w.heap.size) (fun g hg => (show g < C by rw [HC.out]; exact hg))))
      have T := Lib.hid ht
      clear ht hs
      go_wp2_with fail
      obtain ⟨w27, e9⟩ : ∃ w27 : World, w27 = w26.alloc (.cells (cellsK .u8 [120]).toArray 5 (1, 2)) := ⟨_, rfl⟩
      have hb : Below w26.heap.size w26 w27 := by rw [e9]; exact (Below.refl _ _).alloc (Nat.le_refl _) _
      have K9 := Lib.hid (show KAt .u8 w27 (.slice (some ⟨w26.heap.size, 0, none⟩) 1 1) [120] by rw [e9]; exact kat_lit _ _ _ _ (by decide))
      change Calls _ _ _ (w26.alloc (.cells (cellsK .u8 [120]).toArray 5 (1, 2))) _
      rw [← e9]
      have B := Lib.hid (below_on B.out hb)
      have T := Lib.hid (T.out.later hb)
      clear e9 hb kc
      refine (T.out.act2 7 (HAP.out _) rfl fun S hS => Append_any hS s hs9 K9.out (by unfold Bytes; decide)).mono ?_
      rintro _ w28 ⟨rfl, ht, hs⟩
      have B := Lib.hid (B.out.trans (hs.below (base := w.heap.size) (fun g hg => (show g < C by rw [HC.out]; exact hg))))
      have T := Lib.hid ht
      clear ht hs K9
      go_wp2_with fail
      obtain ⟨S, S9, hS, hS9, _⟩ := T.out
      refine (alike_any hS hS9 rfl rfl).mono ?_
      clear hS hS9
      rintro _ w29 ⟨rfl, hb⟩
      have B := Lib.hid (below_on B.out hb)
      have T := Lib.hid (T.out.later hb)
      clear hb
      go_wp2_with fail
      obtain ⟨S, S9, hS, hS9, _⟩ := T.out
      refine (fail_any hS hS9 rfl rfl rfl keep (by omega)).mono ?_
      clear hS hS9
      rintro _ w30 ⟨rfl, hb⟩
      have B := Lib.hid (below_on B.out hb)
      have T := Lib.hid (T.out.later hb)
      clear hb
      go_wp2_with fail
      go_ret
      exact ⟨rfl, B.out⟩
end Go.Proofs.YtjaganoidfohaaaDoor
