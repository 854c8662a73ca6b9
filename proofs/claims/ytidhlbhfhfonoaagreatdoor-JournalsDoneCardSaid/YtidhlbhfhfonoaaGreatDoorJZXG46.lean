/- Layer 18 (journals): are there too many acts? -/
import Derived.Test.YtidhlbhfhfonoaaGreatDoorJZXG42
namespace Go.Proofs.YtidhlbhfhfonoaaGreatDoor
open Go.ChangeShapes Go.WideShapes Go.ChangeAt Go.RowKit

def Jc.bulk (a : Jc) : Nat := 1 + a.b.length
def bulkJ (l : List Jc) : Nat := (l.map Jc.bulk).sum
def greatJ (l : List Jc) : Bool := decide (40000 < bulkJ l ∨ 100 < l.length)
theorem bulkJ_take {l : List Jc} {k : Nat} {a : Jc} (h : l[k]? = some a) : bulkJ (l.take (k + 1)) = bulkJ (l.take k) + a.bulk := by
  unfold bulkJ
  rw [List.take_add_one, h]
  simp
theorem bulkJ_le (l : List Jc) (k : Nat) : bulkJ (l.take k) ≤ bulkJ l := by
  have h : bulkJ l = bulkJ (l.take k) + bulkJ (l.drop k) := by
    unfold bulkJ
    rw [← List.sum_append, ← List.map_append, List.take_append_drop]
  omega
set_option linter.unusedSimpArgs false in
set_option maxRecDepth 10000 in
set_option maxHeartbeats 4000000 in
/-- Are there too many acts? -/
theorem GreatJ_any (l : List Jc) {v : Value} (w : World) (h : JactsAt w v l) :
    Calls Tryz.prog 5 #[v] w fun e w' => e = .returned (.bool (greatJ l)) ∧ ∃ n, w' = w.drewN n := by
  obtain ⟨ao, cap, rfl, hc1, hc2, hc3, hc4⟩ := h
  unfold maxLen at hc2
  obtain ⟨m, hm⟩ : ∃ m, m = l.length := ⟨_, rfl⟩
  have HM := Lib.hid hm
  rw [← hm] at hc1 hc4 ⊢
  have H3 := Lib.hid hc3
  have H4 := Lib.hid hc4
  clear hc3 hc4 hm
  have hm9 : (m : Int) ≤ 9223372036854775807 := by omega
  go_enter Tryz.func5, Tryz.ntmps5
  go_wp2_with fail
  go_loopw [3, 4] (fun s i wr => ∃ k n : Nat, k ≤ m ∧ i = .int .i64 k ∧ s = .int .i64 (bulkJ (l.take k) : Nat) ∧ bulkJ (l.take k) ≤ 40000 ∧ wr = w.drewN n) (fun _ i _ => m - (intOf i).toNat)
  case atStart => exact ⟨0, 0, Nat.zero_le _, rfl, rfl, Nat.zero_le _, rfl⟩
  case round =>
    obtain ⟨k, n, hk, rfl, rfl, hbk, rfl⟩ := hrel
    by_cases hlt : k < m
    · obtain ⟨a, ha⟩ : ∃ a, l[k]? = some a := ⟨_, List.getElem?_eq_getElem (by rw [← HM.out]; exact hlt)⟩
      obtain ⟨b, o, rfl, hcell⟩ := H4.out (by omega)
      obtain ⟨hok, hkv⟩ := H3.out a (List.mem_of_getElem? ha)
      obtain ⟨ab, ac, hav, _, _, _, _⟩ := hkv
      have c1 := (hcell k a ha 1 _ rfl)
      rw [hav] at c1
      have hB := bulkJ_take ha
      have s3 := hok.b.2
      obtain ⟨p, hp⟩ : ∃ p, p = a.b.length := ⟨_, rfl⟩
      obtain ⟨y, hy⟩ : ∃ y, y = bulkJ (l.take k) := ⟨_, rfl⟩
      obtain ⟨z, hz⟩ : ∃ z, z = bulkJ (l.take (k + 1)) := ⟨_, rfl⟩
      rw [← hp] at s3 c1
      rw [← hy] at hbk hB ⊢
      rw [← hz] at hB
      unfold Jc.bulk at hB
      rw [← hp] at hB
      have HY := Lib.hid hy
      have HZ := Lib.hid hz
      clear hcell hav hok hp hy hz ha
      have hyI : (y : Int) ≤ 40000 := by omega
      have e1 : (y : Int) + (1 + p) = z := by omega
      have hpI : (p : Int) ≤ 140737488351232 := by omega
      by_cases hgt : 40000 < z
      · go_wp2_with fail
        go_ret
        refine ⟨?_, _, rfl⟩
        have h1 := bulkJ_le l (k + 1)
        rw [← HZ.out] at h1
        have h2 : greatJ l = true := decide_eq_true (.inl (by omega))
        rw [h2]
        rfl
      · go_wp2_with fail
        go_roundw
        case rel => exact ⟨k + 1, _, by omega, by go_num, by rw [← HZ.out]; go_num, by rw [← HZ.out]; omega, rfl⟩
        case measure => simp [intOf]; omega
    · obtain rfl : k = m := by omega
      go_wp2_with fail
      go_ret
      refine ⟨?_, _, rfl⟩
      rw [HM.out, List.take_length] at hbk
      have h2 : greatJ l = decide (100 < k) := by
        unfold greatJ
        rw [← HM.out]
        exact decide_eq_decide.2 ⟨fun h => by omega, .inr⟩
      rw [h2]
      first | rfl | (by_cases h9 : 100 < k <;> simp [h9] <;> omega)
theorem greatJ_small {l : List Jc} (h : greatJ l = false) : l.length ≤ 100 ∧ ∀ a ∈ l, a.bulk ≤ 40000 := by
  unfold greatJ at h
  have h9 : ¬ (40000 < bulkJ l ∨ 100 < l.length) := of_decide_eq_false h
  refine ⟨by omega, fun a ha => ?_⟩
  obtain ⟨i, hi⟩ := List.mem_iff_getElem?.1 ha
  have h1 := bulkJ_take hi
  have h2 := bulkJ_le l (i + 1)
  omega
end Go.Proofs.YtidhlbhfhfonoaaGreatDoor
