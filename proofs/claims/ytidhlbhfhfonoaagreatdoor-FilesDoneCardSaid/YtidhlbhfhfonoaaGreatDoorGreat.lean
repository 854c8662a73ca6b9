/- Layer 17 (files): are there too many acts? -/
import Derived.Test.YtidhlbhfhfonoaaGreatDoorActs
namespace Go.Proofs.YtidhlbhfhfonoaaGreatDoor
open Go.ChangeShapes Go.WideShapes Go.ChangeAt Go.RowKit

def Ac.bulk (a : Ac) : Nat := 1 + a.b.length + a.name.size + a.to_.size
def bulk (l : List Ac) : Nat := (l.map Ac.bulk).sum
def great (l : List Ac) : Bool := decide (40000 < bulk l ∨ 200 < l.length)
theorem bulk_take {l : List Ac} {k : Nat} {a : Ac} (h : l[k]? = some a) : bulk (l.take (k + 1)) = bulk (l.take k) + a.bulk := by
  unfold bulk
  rw [List.take_add_one, h]
  simp
theorem bulk_le (l : List Ac) (k : Nat) : bulk (l.take k) ≤ bulk l := by
  have h : bulk l = bulk (l.take k) + bulk (l.drop k) := by
    unfold bulk
    rw [← List.sum_append, ← List.map_append, List.take_append_drop]
  omega
set_option linter.unusedSimpArgs false in
set_option maxRecDepth 20000 in
set_option maxHeartbeats 4000000 in
/-- Are there too many acts? -/
theorem Great_any (l : List Ac) {v : Value} (w : World) (h : ActsAt w v l) :
    Calls Tryz.prog 29 #[v] w fun e w' => e = .returned (.bool (great l)) ∧ ∃ n, w' = w.drewN n := by
  obtain ⟨ao, cap, rfl, hc1, hc2, hc3, hc4⟩ := h
  unfold maxLen at hc2
  obtain ⟨m, hm⟩ : ∃ m, m = l.length := ⟨_, rfl⟩
  have HM := Lib.hid hm
  rw [← hm] at hc1 hc4 ⊢
  have H3 := Lib.hid hc3
  have H4 := Lib.hid hc4
  clear hc3 hc4 hm
  have hm9 : (m : Int) ≤ 9223372036854775807 := by omega
  go_enter Tryz.func29, Tryz.ntmps29
  go_wp2_with fail
  go_loopw [3, 4] (fun s i wr => ∃ k n : Nat, k ≤ m ∧ i = .int .i64 k ∧ s = .int .i64 (bulk (l.take k) : Nat) ∧ bulk (l.take k) ≤ 40000 ∧ wr = w.drewN n) (fun _ i _ => m - (intOf i).toNat)
  case atStart => exact ⟨0, 0, Nat.zero_le _, rfl, rfl, Nat.zero_le _, rfl⟩
  case round =>
    obtain ⟨k, n, hk, rfl, rfl, hbk, rfl⟩ := hrel
    by_cases hlt : k < m
    · obtain ⟨a, ha⟩ : ∃ a, l[k]? = some a := ⟨_, List.getElem?_eq_getElem (by rw [← HM.out]; exact hlt)⟩
      obtain ⟨b, o, rfl, hcell⟩ := H4.out (by omega)
      obtain ⟨hok, hkv⟩ := H3.out a (List.mem_of_getElem? ha)
      obtain ⟨ab, ac, hav, _, _, _, _⟩ := hkv
      have c1 := (hcell k a ha 1 _ rfl)
      have c2 := (hcell k a ha 2 _ rfl)
      have c3 := (hcell k a ha 3 _ rfl)
      rw [hav] at c3
      have hB := bulk_take ha
      have s1 := hok.name
      have s2 := hok.to_
      have s3 := hok.b.2
      obtain ⟨p, hp⟩ : ∃ p, p = a.b.length := ⟨_, rfl⟩
      obtain ⟨q, hq⟩ : ∃ q, q = a.name.size := ⟨_, rfl⟩
      obtain ⟨r, hr⟩ : ∃ r, r = a.to_.size := ⟨_, rfl⟩
      obtain ⟨y, hy⟩ : ∃ y, y = bulk (l.take k) := ⟨_, rfl⟩
      obtain ⟨z, hz⟩ : ∃ z, z = bulk (l.take (k + 1)) := ⟨_, rfl⟩
      have eq : (a.name.size : Int) = (q : Int) := by rw [hq]
      have er : (a.to_.size : Int) = (r : Int) := by rw [hr]
      rw [← hp] at s3 c3
      rw [← hq] at s1
      rw [← hr] at s2
      rw [← hy] at hbk hB ⊢
      rw [← hz] at hB
      unfold Ac.bulk at hB
      rw [← hp, ← hq, ← hr] at hB
      have HY := Lib.hid hy
      have HZ := Lib.hid hz
      clear hcell hav hok hp hq hr hy hz ha
      have hyI : (y : Int) ≤ 40000 := by omega
      have e1 : (y : Int) + 1 + p + q + r = z := by omega
      have hpI : (p : Int) ≤ 140737488351232 := by omega
      have hqI : (q : Int) ≤ 140737488351232 := by omega
      have hrI : (r : Int) ≤ 140737488351232 := by omega
      by_cases hgt : 40000 < z
      · go_wp2_with fail
        go_quiet (fail)
        go_wp2_with fail
        go_ret
        refine ⟨?_, _, rfl⟩
        have h1 := bulk_le l (k + 1)
        rw [← HZ.out] at h1
        have h2 : great l = true := decide_eq_true (.inl (by omega))
        rw [h2]
        rfl
      · go_wp2_with fail
        go_quiet (fail)
        go_wp2_with fail
        go_roundw
        case rel => exact ⟨k + 1, _, by omega, by go_num, by rw [← HZ.out]; go_num, by rw [← HZ.out]; omega, rfl⟩
        case measure => simp [intOf]; omega
    · obtain rfl : k = m := by omega
      go_wp2_with fail
      go_ret
      refine ⟨?_, _, rfl⟩
      rw [HM.out, List.take_length] at hbk
      have h2 : great l = decide (200 < k) := by
        unfold great
        rw [← HM.out]
        exact decide_eq_decide.2 ⟨fun h => by omega, .inr⟩
      rw [h2]
      first | rfl | (by_cases h9 : 200 < k <;> simp [h9] <;> omega)
end Go.Proofs.YtidhlbhfhfonoaaGreatDoor
