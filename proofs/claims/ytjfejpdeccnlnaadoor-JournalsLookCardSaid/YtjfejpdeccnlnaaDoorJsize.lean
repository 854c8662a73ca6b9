/- Layer 18 (journals): how much records are; whether two lists of records read the same. -/
import Derived.Test.YtjfejpdeccnlnaaDoorJlaid
import Derived.Test.YtjfejpdeccnlnaaDoorSameB
namespace Go.Proofs.YtjfejpdeccnlnaaDoor
open Go.ChangeShapes Go.WideShapes Go.ChangeAt Go.RowKit

/-- How much these records are, up to where it is counted. -/
def rn : List (List Nat) → Nat → Nat
  | [], n => n
  | s :: L, n => if n ≤ 1048576 then rn L (n + s.length) else n
def recsN (L : List (List Nat)) : Nat := rn L L.length
theorem rn_ge : ∀ (L : List (List Nat)) (n : Nat), n ≤ rn L n
  | [], n => Nat.le_refl n
  | s :: L, n => by
    unfold rn
    split
    · exact Nat.le_trans (Nat.le_add_right _ _) (rn_ge L _)
    · exact Nat.le_refl n
theorem rn_small : ∀ (L : List (List Nat)) (n : Nat), rn L n ≤ 1048576 → rn L n = n + L.flatten.length
  | [], n, _ => rfl
  | s :: L, n, h => by
    have hn : n ≤ 1048576 := Nat.le_trans (rn_ge (s :: L) n) h
    unfold rn at h ⊢
    rw [if_pos hn] at h ⊢
    rw [rn_small L _ h, List.flatten_cons, List.length_append]
    omega
theorem rn_le : ∀ (L : List (List Nat)) (n : Nat), (∀ s ∈ L, s.length ≤ 140737488355328) → n ≤ 281474976710656 → rn L n ≤ 281474976710656
  | [], n, _, hn => hn
  | s :: L, n, h, hn => by
    unfold rn
    split
    · exact rn_le L _ (fun x hx => h x (List.mem_cons_of_mem _ hx)) (by have := h s (List.mem_cons_self ..); omega)
    · exact hn
set_option maxRecDepth 20000 in
set_option maxHeartbeats 1500000 in
theorem BytesSize_any {l : List Nat} {v : Value} {n : Nat} (w : World) (h : KAt .u8 w v l) (hn : l.length = n) :
    Calls Tryd.prog 54 #[v] w fun e w' => e = .returned (.int .i64 n) ∧ w' = w := by
  subst hn
  obtain ⟨ao, cap, rfl, hc1, hc2, hc3, hc4⟩ := h
  unfold maxLen at hc2
  clear hc3 hc4
  go_enter Tryd.func54, Tryd.ntmps54
  go_wp2
  go_ret
  exact ⟨rfl, rfl⟩
set_option linter.unusedSimpArgs false in
set_option maxRecDepth 20000 in
set_option maxHeartbeats 4000000 in
theorem RecordsSize_any (L : List (List Nat)) {v : Value} (w : World) (h : PartsAt w v L) (hz : ∀ s ∈ L, s.length ≤ 140737488355328) (hL : L.length ≤ 281474976710656) :
    Calls Tryd.prog 36 #[v] w fun e w' => e = .returned (.int .i64 (recsN L)) ∧ ∃ n, w' = w.drewN n := by
  obtain ⟨ao, cap, rfl, hc1, hc2, hc3, hc4⟩ := h
  unfold maxLen at hc2
  obtain ⟨m, hm⟩ : ∃ m, m = L.length := ⟨_, rfl⟩
  have HM := Lib.hid hm
  have HZ := Lib.hid hz
  rw [← hm] at hc1 hc4 hL ⊢
  have H4 := Lib.hid hc4
  clear hc3 hc4 hm hz
  have hm9 : (m : Int) ≤ 281474976710656 := by omega
  go_enter Tryd.func36, Tryd.ntmps36
  go_wp2_with fail
  go_loopw [3, 4] (fun s i wr => ∃ k n y : Nat, k ≤ m ∧ i = .int .i64 k ∧ s = .int .i64 y ∧ y ≤ 281474976710656 ∧ Hid (rn (L.drop k) y = recsN L) ∧ wr = w.drewN n) (fun _ i _ => m - (intOf i).toNat)
  case atStart => exact ⟨0, 0, m, Nat.zero_le _, rfl, rfl, hL, Lib.hid (by rw [HM.out]; rfl), rfl⟩
  case round =>
    obtain ⟨k, n, y, hk, rfl, rfl, hy, HT, rfl⟩ := hrel
    have hyI : (y : Int) ≤ 281474976710656 := by omega
    by_cases hlt : k < m
    · have hltI : (k : Int) < (m : Int) := by omega
      obtain ⟨s, hs⟩ : ∃ s, L[k]? = some s := ⟨_, List.getElem?_eq_getElem (by rw [← HM.out]; exact hlt)⟩
      obtain ⟨b, o, rfl, hcell⟩ := H4.out (by omega)
      obtain ⟨u, hu, hku⟩ := hcell k s hs
      have hd : L.drop k = s :: L.drop (k + 1) := by rw [List.drop_eq_getElem_cons (by rw [← HM.out]; exact hlt), (List.getElem?_eq_some_iff.1 hs).2]
      have hsz := HZ.out s (List.mem_of_getElem? hs)
      obtain ⟨q, hq⟩ : ∃ q, s.length = q := ⟨_, rfl⟩
      have HQ := Lib.hid hq
      rw [hq] at hsz
      have HD := Lib.hid hd
      have HU := Lib.hid hku
      clear hcell hs hd hq hku
      have hqI : (q : Int) ≤ 140737488355328 := by omega
      by_cases hgt : y ≤ 1048576
      · have hgI : (y : Int) ≤ 1048576 := by omega
        go_wp2_with fail
        refine (BytesSize_any _ (HU.out.later (below_drewN9 w n)) HQ.out).mono ?_
        rintro _ w2 ⟨rfl, rfl⟩
        go_wp2_with fail
        go_roundw
        case rel => exact ⟨k + 1, _, y + q, by omega, by go_num, by go_num, by omega, Lib.hid (by
          have h1 := HT.out
          rw [HD.out, rn, if_pos hgt, HQ.out] at h1
          exact h1), rfl⟩
        case measure => simp [intOf]; omega
      · have hgI : ¬ ((y : Int) ≤ 1048576) := by omega
        go_wp2_with fail
        go_ret
        refine ⟨?_, _, rfl⟩
        have h1 := HT.out
        rw [HD.out, rn, if_neg hgt] at h1
        rw [← h1]
        rfl
    · obtain rfl : k = m := by omega
      have hltI : ¬ ((k : Int) < (k : Int)) := by omega
      go_wp2_with fail
      go_ret
      refine ⟨?_, _, rfl⟩
      have h1 := HT.out
      rw [HM.out, List.drop_length] at h1
      rw [← h1]
      rfl
/-- More than is gone through. -/
def manyB (L : List (List Nat)) : Bool := decide (40 < L.length) || decide (40000 < recsN L)
set_option maxRecDepth 20000 in
set_option maxHeartbeats 1500000 in
theorem many_any (L : List (List Nat)) {v : Value} (w : World) (h : PartsAt w v L) (hz : ∀ s ∈ L, s.length ≤ 140737488355328) (hL : L.length ≤ 281474976710656) :
    Calls Tryd.prog 11 #[v] w fun e w' => e = .returned (.bool (manyB L)) ∧ ∃ n, w' = w.drewN n := by
  have HR := Lib.hid (RecordsSize_any L w h hz hL)
  obtain ⟨ao, cap, rfl, hc1, hc2, hc3, hc4⟩ := h
  unfold maxLen at hc2
  obtain ⟨m, hm⟩ : ∃ m, m = L.length := ⟨_, rfl⟩
  have HM := Lib.hid hm
  obtain ⟨t, ht⟩ : ∃ t, t = recsN L := ⟨_, rfl⟩
  have HT := Lib.hid ht
  rw [← hm, ← ht] at HR
  rw [← hm] at hc1 hL ⊢
  have ht9 : t ≤ 281474976710656 := by rw [ht]; exact rn_le L _ hz (by omega)
  have htI : (t : Int) ≤ 281474976710656 := by omega
  clear hc3 hc4 hm hz ht
  by_cases h1 : 40 < m
  · have h1I : (40 : Int) < (m : Int) := by omega
    go_enter Tryd.func11, Tryd.ntmps11
    go_wp2_with fail
    go_ret
    refine ⟨?_, 0, rfl⟩
    have e : manyB L = true := by rw [manyB, ← HM.out, decide_eq_true h1]; rfl
    rw [e]
    rfl
  · have h1I : ¬ ((40 : Int) < (m : Int)) := by omega
    go_enter Tryd.func11, Tryd.ntmps11
    go_wp2_with fail
    refine HR.out.mono ?_
    rintro _ w2 ⟨rfl, n, rfl⟩
    go_wp2_with fail
    go_ret
    refine ⟨?_, n, rfl⟩
    have e : manyB L = decide ((40000 : Int) < (t : Int)) := by
      rw [manyB, ← HM.out, ← HT.out, decide_eq_false h1, Bool.false_or]
      exact decide_eq_decide.2 (by omega)
    rw [e]
    rfl
set_option linter.unusedSimpArgs false in
set_option maxRecDepth 20000 in
set_option maxHeartbeats 4000000 in
theorem SameRecs_any {L M : List (List Nat)} {u v : Value} (w : World) (hu : PartsAt w u L) (hv : PartsAt w v M) :
    Calls Tryd.prog 13 #[u, v] w fun e w' => e = .returned (.bool (decide (L = M))) ∧ ∃ n, w' = w.drewN n := by
  obtain ⟨ao, cap, rfl, hc1, hc2, hc3, hc4⟩ := hu
  obtain ⟨bo, cbp, rfl, hd1, hd2, hd3, hd4⟩ := hv
  unfold maxLen at hc2 hd2
  obtain ⟨m, hm⟩ : ∃ m, m = L.length := ⟨_, rfl⟩
  obtain ⟨q, hq⟩ : ∃ q, q = M.length := ⟨_, rfl⟩
  have HM := Lib.hid hm
  have HQ := Lib.hid hq
  rw [← hm] at hc1 hc4 ⊢
  rw [← hq] at hd1 hd4 ⊢
  have H4 := Lib.hid hc4
  have H5 := Lib.hid hd4
  have hm9 : (m : Int) ≤ 9223372036854775807 := by omega
  clear hc3 hc4 hd3 hd4 hm hq
  go_enter Tryd.func13, Tryd.ntmps13
  by_cases hmq : m = q
  · have hmqI : (m : Int) = (q : Int) := by omega
    have HMQ := Lib.hid hmq
    clear hmq
    go_wp2_with fail
    go_loopw [5] (fun i wr => ∃ k n : Nat, k ≤ m ∧ i = .int .i64 k ∧ Hid (L.take k = M.take k) ∧ wr = w.drewN n) (fun i _ => m - (intOf i).toNat)
    case atStart => exact ⟨0, 0, Nat.zero_le _, rfl, Lib.hid (by simp), rfl⟩
    case round =>
      obtain ⟨k, n, hk, rfl, HT, rfl⟩ := hrel
      by_cases hlt : k < m
      · have hltI : (k : Int) < (m : Int) := by omega
        obtain ⟨s, hs⟩ : ∃ s, L[k]? = some s := ⟨_, List.getElem?_eq_getElem (by rw [← HM.out]; exact hlt)⟩
        obtain ⟨t, ht⟩ : ∃ t, M[k]? = some t := ⟨_, List.getElem?_eq_getElem (by rw [← HQ.out, ← HMQ.out]; exact hlt)⟩
        obtain ⟨b, o, rfl, hcell⟩ := H4.out (by omega)
        obtain ⟨b2, o2, rfl, hcell2⟩ := H5.out (by have := HMQ.out; omega)
        obtain ⟨x, hx, hkx⟩ := hcell k s hs
        obtain ⟨y, hy, hky⟩ := hcell2 k t ht
        have HX := Lib.hid hkx
        have HY := Lib.hid hky
        have HS := Lib.hid (And.intro hs ht)
        have hltq : (k : Int) < (q : Int) := by omega
        clear hcell hcell2 hs ht hkx hky
        obtain ⟨wn, hwn⟩ : ∃ wn : World, wn = w.drewN n := ⟨_, rfl⟩
        have HB9 := Lib.hid (show Below w.heap.size w wn by rw [hwn]; exact below_drewN9 _ _)
        have hx := cell_on hx HB9.out
        have hy := cell_on hy HB9.out
        rw [← hwn]
        have HW := Lib.hid hwn
        clear hwn
        by_cases hst : s = t
        · have S := Lib.hid (fun p => Calls.quiet_of (v := .bool true) ((same_any (wn.drewN p) ((HX.out.later HB9.out).later (below_drewN9 wn p)) ((HY.out.later HB9.out).later (below_drewN9 wn p))).mono fun e w' h => by rw [decide_eq_true hst] at h; exact h))
          have HST := Lib.hid hst
          clear hst HX HY
          go_wp2_with fail
          go_quiet ((go_at_call 32; with_reducible exact S.out _))
          go_wp2_with fail
          go_roundw
          case rel => exact ⟨k + 1, _, by omega, by go_num, Lib.hid (by rw [List.take_add_one, List.take_add_one, HT.out, HS.out.1, HS.out.2, HST.out]), by rw [HW.out, World.drewN_drewN]⟩
          case measure => simp [intOf]; omega
        · have S := Lib.hid (fun p => Calls.quiet_of (v := .bool false) ((same_any (wn.drewN p) ((HX.out.later HB9.out).later (below_drewN9 wn p)) ((HY.out.later HB9.out).later (below_drewN9 wn p))).mono fun e w' h => by rw [decide_eq_false hst] at h; exact h))
          have HST := Lib.hid hst
          clear hst HX HY
          go_wp2_with fail
          go_quiet ((go_at_call 32; with_reducible exact S.out _))
          go_wp2_with fail
          go_ret
          refine ⟨ret_bool (decide_eq_false fun h => HST.out ?_).symm, _, by rw [HW.out, World.drewN_drewN]⟩
          have h1 := HS.out.1
          rw [h, HS.out.2] at h1
          exact (Option.some.inj h1).symm
      · obtain rfl : k = m := by omega
        have hltI : ¬ ((k : Int) < (k : Int)) := by omega
        go_wp2_with fail
        go_ret
        refine ⟨ret_bool (decide_eq_true ?_).symm, _, rfl⟩
        have h1 := HT.out
        rw [List.take_of_length_le (by rw [HM.out]; exact Nat.le_refl _), List.take_of_length_le (by rw [HMQ.out, HQ.out]; exact Nat.le_refl _)] at h1
        exact h1
  · have hmqI : ¬ ((m : Int) = (q : Int)) := by omega
    have HMQ := Lib.hid hmq
    clear hmq
    go_wp2_with fail
    go_ret
    exact ⟨ret_bool (decide_eq_false fun h => HMQ.out (by rw [HM.out, HQ.out, h])).symm, 0, rfl⟩
end Go.Proofs.YtjfejpdeccnlnaaDoor
