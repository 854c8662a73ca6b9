/- Layer 18's law: SameRecords -/
import Derived.Test.YtidhlbhfhfonoaaGreatDoorJZXG14
import Derived.Test.YtidhlbhfhfonoaaGreatDoorJZXG22
namespace Go.Proofs.YtidhlbhfhfonoaaGreatDoor
open Go.ChangeShapes Go.WideShapes Go.ChangeAt Go.RowKit
set_option linter.unusedSimpArgs false in
set_option maxRecDepth 20000 in
set_option maxHeartbeats 4000000 in
theorem SameRecs_any {L M : List (List Nat)} {u v : Value} (w : World) (hu : PartsAt w u L) (hv : PartsAt w v M) :
    Calls Tryz.prog 23 #[u, v] w fun e w' => e = .returned (.bool (decide (L = M))) ∧ ∃ n, w' = w.drewN n := by
  obtain ⟨ao, cap, rfl, hc1, hc2, hc3, hc4⟩ := hu
  obtain ⟨bo, cbp, rfl, hd1, hd2, hd3, hd4⟩ := hv
  unfold maxLen at hc2 hd2
  obtain ⟨m, hm⟩ : ∃ m, m = L.length := ⟨_, rfl⟩
  obtain ⟨q, hq⟩ : ∃ q, q = M.length := ⟨_, rfl⟩
  have HM := Lib.hid hm
  have HQ := Lib.hid hq
  rw [← hm] at hc1 hc4 ⊢
  rw [← hq] at hd1 hd4 ⊢
  have H4 := Lib.hid hc4
  have H5 := Lib.hid hd4
  have hm9 : (m : Int) ≤ 9223372036854775807 := by omega
  clear hc3 hc4 hd3 hd4 hm hq
  go_enter Tryz.func23, Tryz.ntmps23
  by_cases hmq : m = q
  · have hmqI : (m : Int) = (q : Int) := by omega
    have HMQ := Lib.hid hmq
    clear hmq
    go_wp2_with fail
    go_loopw [5] (fun i wr => ∃ k n : Nat, k ≤ m ∧ i = .int .i64 k ∧ Hid (L.take k = M.take k) ∧ wr = w.drewN n) (fun i _ => m - (intOf i).toNat)
    case atStart => exact ⟨0, 0, Nat.zero_le _, rfl, Lib.hid (by simp), rfl⟩
    case round =>
      obtain ⟨k, n, hk, rfl, HT, rfl⟩ := hrel
      by_cases hlt : k < m
      · have hltI : (k : Int) < (m : Int) := by omega
        obtain ⟨s, hs⟩ : ∃ s, L[k]? = some s := ⟨_, List.getElem?_eq_getElem (by rw [← HM.out]; exact hlt)⟩
        obtain ⟨t, ht⟩ : ∃ t, M[k]? = some t := ⟨_, List.getElem?_eq_getElem (by rw [← HQ.out, ← HMQ.out]; exact hlt)⟩
        obtain ⟨b, o, rfl, hcell⟩ := H4.out (by omega)
        obtain ⟨b2, o2, rfl, hcell2⟩ := H5.out (by have := HMQ.out; omega)
        obtain ⟨x, hx, hkx⟩ := hcell k s hs
        obtain ⟨y, hy, hky⟩ := hcell2 k t ht
        have HX := Lib.hid hkx
        have HY := Lib.hid hky
        have HS := Lib.hid (And.intro hs ht)
        have hltq : (k : Int) < (q : Int) := by omega
        clear hcell hcell2 hs ht hkx hky
        obtain ⟨wn, hwn⟩ : ∃ wn : World, wn = w.drewN n := ⟨_, rfl⟩
        have HB9 := Lib.hid (show Below w.heap.size w wn by rw [hwn]; exact below_drewN9 _ _)
        have hx := cell_on hx HB9.out
        have hy := cell_on hy HB9.out
        rw [← hwn]
        have HW := Lib.hid hwn
        clear hwn
        by_cases hst : s = t
        · have S := Lib.hid (fun p => Calls.quiet_of (v := .bool true) ((same_any (wn.drewN p) ((HX.out.later HB9.out).later (below_drewN9 wn p)) ((HY.out.later HB9.out).later (below_drewN9 wn p))).mono fun e w' h => by rw [decide_eq_true hst] at h; exact h))
          have HST := Lib.hid hst
          clear hst HX HY
          go_wp2_with fail
          go_quiet ((go_at_call 36; with_reducible exact S.out _))
          go_wp2_with fail
          go_roundw
          case rel => exact ⟨k + 1, _, by omega, by go_num, Lib.hid (by rw [List.take_add_one, List.take_add_one, HT.out, HS.out.1, HS.out.2, HST.out]), by rw [HW.out, World.drewN_drewN]⟩
          case measure => simp [intOf]; omega
        · have S := Lib.hid (fun p => Calls.quiet_of (v := .bool false) ((same_any (wn.drewN p) ((HX.out.later HB9.out).later (below_drewN9 wn p)) ((HY.out.later HB9.out).later (below_drewN9 wn p))).mono fun e w' h => by rw [decide_eq_false hst] at h; exact h))
          have HST := Lib.hid hst
          clear hst HX HY
          go_wp2_with fail
          go_quiet ((go_at_call 36; with_reducible exact S.out _))
          go_wp2_with fail
          go_ret
          refine ⟨ret_bool (decide_eq_false fun h => HST.out ?_).symm, _, by rw [HW.out, World.drewN_drewN]⟩
          have h1 := HS.out.1
          rw [h, HS.out.2] at h1
          exact (Option.some.inj h1).symm
      · obtain rfl : k = m := by omega
        have hltI : ¬ ((k : Int) < (k : Int)) := by omega
        go_wp2_with fail
        go_ret
        refine ⟨ret_bool (decide_eq_true ?_).symm, _, rfl⟩
        have h1 := HT.out
        rw [List.take_of_length_le (by rw [HM.out]; exact Nat.le_refl _), List.take_of_length_le (by rw [HMQ.out, HQ.out]; exact Nat.le_refl _)] at h1
        exact h1
  · have hmqI : ¬ ((m : Int) = (q : Int)) := by omega
    have HMQ := Lib.hid hmq
    clear hmq
    go_wp2_with fail
    go_ret
    exact ⟨ret_bool (decide_eq_false fun h => HMQ.out (by rw [HM.out, HQ.out, h])).symm, 0, rfl⟩
end Go.Proofs.YtidhlbhfhfonoaaGreatDoor
