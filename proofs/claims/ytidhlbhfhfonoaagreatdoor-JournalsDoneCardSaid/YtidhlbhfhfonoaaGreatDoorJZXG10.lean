/- Layer 17's reference: which names may be; where a name stands -/
import Derived.Test.YtidhlbhfhfonoaaGreatDoorJZXG01
import Derived.Test.YtidhlbhfhfonoaaGreatDoorJZXG06
namespace Go.Proofs.YtidhlbhfhfonoaaGreatDoor
open Go.ChangeShapes Go.WideShapes Go.ChangeAt Go.RowKit
theorem may_at (q : Nat) (h : q < mayB.toByteArray.size) : mayB.toByteArray[q] = mayB.getD q 0 := by
  have e : ∀ q : Fin 38, mayB.toByteArray[q.val]'(by have := q.isLt; show q.val < 38; exact this) = mayB.getD q.val 0 := by decide
  exact e ⟨q, h⟩
theorem byte_at (s : ByteArray) (k : Nat) (h : k < s.size) : s[k] = s.data.toList.getD k 0 := by
  have h' : k < s.data.toList.length := h
  rw [List.getD_eq_getElem?_getD, List.getElem?_eq_getElem h', Option.getD_some]
  simp [ByteArray.getElem_eq_getElem_data]
theorem byte_ne (a b : UInt8) : ((a.toNat : Int) != (b.toNat : Int)) = decide (a ≠ b) := by
  by_cases h : a = b
  · subst h; simp
  · have : (a.toNat : Int) ≠ (b.toNat : Int) := fun e => h (UInt8.toNat_inj.1 (by omega))
    simp [h, this]
theorem nameOk_of {s : ByteArray} (h : ∀ j, j < s.size → mayB.contains (s.data.toList.getD j 0) = true) : nameOk s = (decide (s.size ≠ 0) && decide (s.size ≤ 16)) := by
  unfold nameOk
  have : s.data.toList.all (fun b => mayB.contains b) = true := by
    rw [List.all_eq_true]
    intro b hb
    obtain ⟨j, hj, rfl⟩ := List.mem_iff_getElem.1 hb
    have := h j hj
    rwa [List.getD_eq_getElem?_getD, List.getElem?_eq_getElem hj, Option.getD_some] at this
  rw [this, Bool.and_true]
theorem nameOk_bad {s : ByteArray} {k : Nat} (hk : k < s.size) (h : ∀ j, j < 38 → mayB.getD j 0 ≠ s.data.toList.getD k 0) : nameOk s = false := by
  unfold nameOk
  have hk' : k < s.data.toList.length := hk
  have : s.data.toList.all (fun b => mayB.contains b) = false := by
    rw [List.all_eq_false]
    refine ⟨s.data.toList[k], List.getElem_mem _, fun hc => ?_⟩
    obtain ⟨j, hj, e⟩ := List.mem_iff_getElem.1 (List.contains_iff_mem.1 hc)
    refine h j hj ?_
    rw [List.getD_eq_getElem?_getD, List.getElem?_eq_getElem hj, Option.getD_some, List.getD_eq_getElem?_getD, List.getElem?_eq_getElem hk', Option.getD_some, e]
  rw [this, Bool.and_false]
theorem mayB_of {q : Nat} {b : UInt8} (hq : q < 38) (h : mayB.getD q 0 = b) : mayB.contains b = true := by
  have h' : q < mayB.length := hq
  rw [List.getD_eq_getElem?_getD, List.getElem?_eq_getElem h', Option.getD_some] at h
  exact List.contains_iff_mem.2 (h ▸ List.getElem_mem _)
set_option maxRecDepth 20000 in
set_option maxHeartbeats 1500000 in
theorem RName_any (s : ByteArray) (hs : s.size ≤ 140737488355328) (w : World) :
    Calls Tryz.prog 111 #[.string s] w fun e w' => e = .returned (.bool (nameOk s)) ∧ Below w.heap.size w w' := by
  obtain ⟨m, hm⟩ : ∃ m, m = s.size := ⟨_, rfl⟩
  have HM := Lib.hid hm
  have hmI : (m : Int) ≤ 140737488355328 := by omega
  have eS : (s.size : Int) = (m : Int) := by rw [hm]
  obtain ⟨R, hR⟩ : ∃ R, R = nameOk s := ⟨_, rfl⟩
  have HR := Lib.hid hR
  rw [← hR]
  clear hm hR
  go_enter Tryz.func111, Tryz.ntmps111
  go_wp2_with fail
  go_loopw [3] (fun i wr => ∃ k : Nat, k ≤ m ∧ i = .int .i64 k ∧ Hid (∀ j, j < k → mayB.contains (s.data.toList.getD j 0) = true) ∧ ∃ n, wr = w.drewN n) (fun i _ => m - (intOf i).toNat)
  case atStart => exact ⟨0, Nat.zero_le _, rfl, Lib.hid fun j hj => absurd hj (Nat.not_lt_zero _), 0, rfl⟩
  case round =>
    obtain ⟨k, hk, rfl, HA, n, rfl⟩ := hrel
    by_cases hlt : k < m
    · have hltI : (k : Int) < (m : Int) := by omega
      have HK := Lib.hid (show k < s.size by rw [← HM.out]; exact hlt)
      have hks := HK.out
      go_wp2_with fail
      go_loopw [4] (fun i wr => ∃ q : Nat, q ≤ 38 ∧ i = .int .i64 q ∧ Hid (∀ j, j < q → mayB.getD j 0 ≠ s.data.toList.getD k 0) ∧ ∃ n, wr = w.drewN n) (fun i _ => 38 - (intOf i).toNat)
      case atStart => exact ⟨0, Nat.zero_le _, rfl, Lib.hid fun j hj => absurd hj (Nat.not_lt_zero _), n, rfl⟩
      case round =>
        obtain ⟨q, hq, rfl, HN, n, rfl⟩ := hrel
        by_cases hq2 : q < 38
        · have hqI : (q : Int) < 38 := by omega
          have hd : decide ((q : Int) < 38) = true := decide_eq_true hqI
          go_wp2_with fail
          go_quiet (fail)
          generalize hb : ((_ : Int) != (_ : Int)) = b
          have HB := Lib.hid (show b = decide (mayB.getD q 0 ≠ s.data.toList.getD k 0) by rw [← hb, byte_ne, byte_at s k hks]; exact congrArg (fun x => decide (x ≠ _)) (may_at q hq2))
          clear hb
          cases b with
          | true =>
            go_wp2_with fail
            go_roundw
            case rel => exact ⟨q + 1, by omega, by go_num, Lib.hid fun j hj => by
              by_cases e : j = q
              · subst e; exact of_decide_eq_true HB.out.symm
              · exact HN.out j (by omega), _, rfl⟩
            case measure => simp [intOf]; omega
          | false =>
            have he : mayB.getD q 0 = s.data.toList.getD k 0 := by
              have := of_decide_eq_false HB.out.symm
              exact Decidable.not_not.1 this
            have HE := Lib.hid (mayB_of hq2 he)
            have hq38 : ((q : Int) == 38) = false := by simp; omega
            clear he
            go_wp2_with fail
            go_roundw
            case rel => exact ⟨k + 1, by omega, by go_num, Lib.hid fun j hj => by
              by_cases e : j = k
              · subst e; exact HE.out
              · exact HA.out j (by omega), _, rfl⟩
            case measure => simp [intOf]; omega
        · obtain rfl : q = 38 := by omega
          have hd : decide (((38 : Nat) : Int) < 38) = false := by decide
          have HR2 := Lib.hid (show R = false by rw [HR.out]; exact nameOk_bad HK.out HN.out)
          go_wp2_with fail
          go_quiet (fail)
          go_wp2_with fail
          go_ret
          exact ⟨by rw [HR2.out]; rfl, below_drewN9 _ _⟩
    · obtain rfl : k = m := by omega
      have HR2 := Lib.hid (show R = (decide (s.size ≠ 0) && decide (s.size ≤ 16)) by rw [HR.out]; exact nameOk_of fun j hj => HA.out j (by rw [HM.out]; exact hj))
      by_cases h0 : s.size = 0
      · obtain rfl := size_zero.1 h0
        have HR3 := Lib.hid (show R = false by rw [HR2.out]; rfl)
        have hk0 : k = 0 := by rw [HM.out]; exact h0
        go_wp2_with fail
        go_ret
        exact ⟨by rw [HR3.out]; rfl, below_drewN9 _ _⟩
      · obtain ⟨h1, h2⟩ := ne_nil (s := s) (fun e => h0 (by rw [e]; rfl))
        by_cases h16 : s.size ≤ 16
        · have HR3 := Lib.hid (show R = true by rw [HR2.out, decide_eq_true h0, decide_eq_true h16]; rfl)
          have hkI : (k : Int) ≤ 16 := by rw [HM.out]; omega
          go_wp2_with fail
          go_ret
          exact ⟨by rw [HR3.out]; rfl, below_drewN9 _ _⟩
        · have HR3 := Lib.hid (show R = false by rw [HR2.out, decide_eq_false h16, Bool.and_false])
          have hkI : ¬ (k : Int) ≤ 16 := by rw [HM.out]; omega
          go_wp2_with fail
          go_ret
          exact ⟨by rw [HR3.out]; rfl, below_drewN9 _ _⟩
end Go.Proofs.YtidhlbhfhfonoaaGreatDoor
