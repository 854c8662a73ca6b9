/- Two slices of bytes: do they read the same? -/
import Derived.Test.YtidhlbhfhfonoaaGreatDoorJZXG04
namespace Go.Proofs.YtidhlbhfhfonoaaGreatDoor
open Go.ChangeShapes Go.WideShapes Go.ChangeAt Go.RowKit

theorem take_next {a b : List Nat} {i x : Nat} (h : a.take i = b.take i) (ha : a[i]? = some x) (hb : b[i]? = some x) : a.take (i + 1) = b.take (i + 1) := by
  rw [List.take_add_one, List.take_add_one, h, ha, hb]
theorem ret_bool {a b : Bool} (h : a = b) : Ending.returned (.bool a) = .returned (.bool b) := by rw [h]
set_option maxRecDepth 20000 in
set_option maxHeartbeats 1500000 in
theorem same_any {a b : List Nat} {u v : Value} (w : World) (hu : KAt .u8 w u a) (hv : KAt .u8 w v b) :
    Calls Tryz.prog 36 #[u, v] w fun e w' => e = .returned (.bool (decide (a = b))) ∧ ∃ n, w' = w.drewN n := by
  obtain ⟨ao, cap, rfl, hc1, hc2, hc3, hc4⟩ := hu
  obtain ⟨bo, bap, rfl, hd1, hd2, hd3, hd4⟩ := hv
  unfold maxLen at hc2 hd2
  by_cases hl : a.length = b.length
  · have HL := Lib.hid hl
    rw [hl] at hc1 hc4 ⊢
    by_cases h0 : 0 < b.length
    · obtain ⟨g, o, rfl, h5⟩ := hc4 h0
      obtain ⟨h, p, rfl, h6⟩ := hd4 h0
      have H5 := Lib.hid h5
      have H6 := Lib.hid h6
      clear hc4 hd4 h5 h6 hc3 hd3 hl
      go_enter Tryz.func36, Tryz.ntmps36
      go_wp2
      go_loopw [5] (fun i wr => ∃ i' n : Nat, i' ≤ b.length ∧ i = .int .i64 i' ∧ Hid (a.take i' = b.take i') ∧ wr = w.drewN n) (fun i _ => b.length - (intOf i).toNat)
      case atStart => exact ⟨0, 0, Nat.zero_le _, rfl, Lib.hid (by simp), rfl⟩
      case round =>
        obtain ⟨i, n, hi, rfl, hab, rfl⟩ := hrel
        by_cases hlt : i < b.length
        · obtain ⟨x, hx⟩ : ∃ x, a[i]? = some x := ⟨_, List.getElem?_eq_getElem (by have := HL.out; omega)⟩
          obtain ⟨y, hy⟩ : ∃ y, b[i]? = some y := ⟨_, List.getElem?_eq_getElem hlt⟩
          have cx := H5.out i x hx
          have cy := H6.out i y hy
          have HX := Lib.hid hx
          have HY := Lib.hid hy
          clear hx hy
          by_cases hxy : x = y
          · subst hxy
            go_wp2
            go_quiet (fail)
            go_wp2
            go_roundw
            case rel => exact ⟨i + 1, _, by omega, by go_num, Lib.hid (take_next hab.out HX.out HY.out), rfl⟩
            case measure => simp [intOf]; omega
          · have e1 : ((x : Int) == (y : Int)) = false := by simp; omega
            have e2 : ((x : Int) != (y : Int)) = true := by simp; omega
            have HN := Lib.hid hxy
            clear hxy
            go_wp2
            go_quiet (fail)
            go_wp2
            go_ret
            exact ⟨ret_bool (decide_eq_false (fun hab => HN.out (by have h1 := HX.out; have h2 := HY.out; rw [hab, h2] at h1; exact (Option.some.inj h1).symm))).symm, _, World.drewN_drewN _ _ _⟩
        · obtain rfl : i = b.length := by omega
          go_wp2
          go_ret
          exact ⟨ret_bool (decide_eq_true (by have h1 := hab.out; have h2 := HL.out; rw [List.take_length, ← h2, List.take_length] at h1; exact h1)).symm, n, rfl⟩
    · have ha : a = [] := List.length_eq_zero_iff.1 (by omega)
      have hb : b = [] := List.length_eq_zero_iff.1 (by omega)
      subst ha hb
      clear HL hl h0 hc4 hd4
      go_enter Tryz.func36, Tryz.ntmps36
      go_wp2
      refine wp_loop_rounds 1 ?_
      rw [rounds_succ]
      go_wp2
      go_ret
      exact ⟨rfl, 0, rfl⟩
  · have e1 : ((a.length : Int) == (b.length : Int)) = false := by simp; omega
    have e2 : ((a.length : Int) != (b.length : Int)) = true := by simp; omega
    have HL := Lib.hid hl
    clear hl hc4 hd4
    go_enter Tryz.func36, Tryz.ntmps36
    go_wp2
    go_ret
    exact ⟨ret_bool (decide_eq_false (fun h => HL.out (by rw [h]))).symm, 0, rfl⟩

end Go.Proofs.YtidhlbhfhfonoaaGreatDoor
