/- Book: lookByte. -/
import Derived.Test.YtplhfbflgjnjmaaGreatDoorBook4
namespace Go.Proofs.YtplhfbflgjnjmaaGreatDoor
open Go.ChangeShapes Go.WideShapes Go.ChangeAt Go.RowKit

theorem isByte_any (w : World) (i : Nat) (hi : i ≤ 100) : Calls Tryz.prog 97 #[.int .u8 ((i : Int) + 1), .int .i64 ((i : Int) + 1)] w fun e w' => e = .returned (.bool true) ∧ ∃ n, w' = w.drewN n := by
  have h : (i : Int) ≤ 100 := by omega
  go_enter Tryz.func97, Tryz.ntmps97
  go_wp2
  go_ret
  exact ⟨rfl, 0, rfl⟩
theorem kat_cell {w : World} {a : Option Addr} {n c i p : Nat} (h : KAt .u8 w (.slice a n c) (List.replicate n (i + 1))) (hp : p < n) : ∃ g o, a = some ⟨g, o, none⟩ ∧ w.cell? ⟨g, o + p, none⟩ = some (.int .u8 ((i : Int) + 1)) := by
  obtain ⟨ao, cap, e, _, _, _, h4⟩ := h
  simp only [List.length_replicate] at e
  cases e
  obtain ⟨g, o, rfl, hc⟩ := h4 (by simp; omega)
  refine ⟨g, o, rfl, ?_⟩
  have := hc p (i + 1) (by rw [List.getElem?_replicate, if_pos hp])
  rw [this]
  congr 2
theorem kat_sl {w : World} {v : Value} {n i : Nat} (h : KAt .u8 w v (List.replicate n (i + 1))) : ∃ a c, v = .slice a n c ∧ n ≤ c ∧ c ≤ maxLen := by
  obtain ⟨ao, cap, e, h1, h2, _, _⟩ := h
  rw [List.length_replicate] at e h1
  exact ⟨ao, cap, e, h1, h2⟩
theorem below_drewN9 (w : World) (n : Nat) : Below w.heap.size w (w.drewN n) := ⟨rfl, rfl, rfl, Nat.le_refl _, fun _ _ => rfl⟩
theorem below_on {w0 w w' : World} (h : Below w0.heap.size w0 w) (hb : Below w.heap.size w w') : Below w0.heap.size w0 w' := h.trans (hb.mono h.size)
set_option maxRecDepth 20000 in
set_option maxHeartbeats 3000000 in
theorem look_any (w : World) (B base k : Nat) (vb : Value) (L G : Nat → Value) (N : Nat → Nat) (hF : Grow w base B k vb L G N k) (hk : k ≤ 100) (hN : ∀ i, i < k → N i ≤ 4000000) :
    Calls Tryz.prog 60 #[.pointer (some ⟨B, 0, none⟩)] w fun e w' => e = .returned (.bool true) ∧ Below w.heap.size w w' := by
  have HF := Lib.hid hF
  have HN := Lib.hid hN
  obtain ⟨va, vc, hvb⟩ := hF.row.sl
  subst hvb
  clear hF hN
  go_enter Tryz.func60, Tryz.ntmps60
  go_wp2
  go_loopw [3] (fun i wr => ∃ i' : Nat, i' ≤ k ∧ i = .int .i64 i' ∧ Below w.heap.size w wr) (fun i _ => k - (intOf i).toNat)
  case atStart => exact ⟨0, Nat.zero_le _, rfl, Below.refl _ _⟩
  case round =>
    obtain ⟨i, hi, rfl, hbl⟩ := hrel
    obtain ⟨wo, rfl⟩ : ∃ wo : World, wo = wr := ⟨_, rfl⟩
    have hf := HF.out.later hbl
    have d1 := hf.book.2.1
    by_cases hlt : i < k
    · obtain ⟨gv, ov, cv, hvb, hcv1, hcv2, hcv3, hcv4⟩ := vb_some hf.row hlt
      cases hvb
      obtain ⟨l0, l1, l2⟩ := held_cells hf.row hlt
      obtain ⟨k1, k2⟩ := hf.done i hlt hlt
      obtain ⟨la, lc, hL, _, _⟩ := kat_sl k1
      obtain ⟨ga, gc, hG, _, _⟩ := kat_sl k2
      rw [hL] at l0 k1
      rw [hG] at l1 k2
      have hnn := HN.out i hlt
      have HBL := Lib.hid hbl
      have K1 := Lib.hid k1
      have K2 := Lib.hid k2
      unfold maxLen at hcv2
      clear hf hbl hL hG k1 k2
      go_wp2
      obtain ⟨w2, e2⟩ : ∃ w2, w2 = wo.alloc (.cells #[.slice la (N i) lc, .slice ga (N i + 40) gc, .int .i64 ((i : Int) + 1)] 72) := ⟨_, rfl⟩
      have h0 : w2.cell? ⟨wo.heap.size, 0, none⟩ = some (.slice la (N i) lc) := by rw [e2]; simp
      have h1 : w2.cell? ⟨wo.heap.size, 1, none⟩ = some (.slice ga (N i + 40) gc) := by rw [e2]; simp
      have h2 : w2.cell? ⟨wo.heap.size, 2, none⟩ = some (.int .i64 ((i : Int) + 1)) := by rw [e2]; simp
      have hb2 : Below wo.heap.size wo w2 := by rw [e2]; exact (Below.refl _ _).alloc (Nat.le_refl _) _
      rw [← e2]
      clear e2 l0 l1 l2 d1
      have HB2 := Lib.hid (below_on HBL.out hb2)
      have K12 := Lib.hid (K1.out.later hb2)
      have K22 := Lib.hid (K2.out.later hb2)
      have HH0 := Lib.hid h0
      have HH1 := Lib.hid h1
      have HH2 := Lib.hid h2
      clear hb2
      go_wp2
      go_loopw [5] (fun j wq => ∃ j' n : Nat, j' ≤ N i + 40 ∧ j = .int .i64 j' ∧ wq = w2.drewN n) (fun j _ => N i + 40 - (intOf j).toNat)
      case atStart => exact ⟨0, 0, by omega, rfl, rfl⟩
      case round =>
        obtain ⟨j, n, hj, rfl, hw⟩ := hrel
        have q0 : wr.cell? ⟨wo.heap.size, 0, none⟩ = some (.slice la (N i) lc) := by rw [hw]; exact HH0.out
        have q1 : wr.cell? ⟨wo.heap.size, 1, none⟩ = some (.slice ga (N i + 40) gc) := by rw [hw]; exact HH1.out
        have q2 : wr.cell? ⟨wo.heap.size, 2, none⟩ = some (.int .i64 ((i : Int) + 1)) := by rw [hw]; exact HH2.out
        have S := Lib.hid (fun m => Calls.quiet_of (isByte_any (wr.drewN m) i (by omega)))
        have HW := Lib.hid hw
        clear hw h0 h1 h2
        by_cases hjl : j < N i + 40
        · obtain ⟨g1, o1, rfl, hc1⟩ := kat_cell K22.out hjl
          have hc1' : wr.cell? ⟨g1, o1 + j, none⟩ = some (.int .u8 ((i : Int) + 1)) := by rw [HW.out]; exact hc1
          by_cases hjn : j < N i
          · obtain ⟨g2, o2, rfl, hc2⟩ := kat_cell K12.out hjn
            have hc2' : wr.cell? ⟨g2, o2 + j, none⟩ = some (.int .u8 ((i : Int) + 1)) := by rw [HW.out]; exact hc2
            clear hc1 hc2
            go_wp2
            go_quiet ((go_at_call 97; with_reducible exact S.out _))
            go_wp2
            go_roundw
            case rel => exact ⟨j + 1, _, by omega, by go_num, by rw [HW.out]; exact World.drewN_drewN _ _ _⟩
            case measure => simp [intOf]; omega
          · have hjn' : N i ≤ j := by omega
            have hjd : decide (j < N i) = false := by simpa using hjn'
            clear hc1 hjn
            go_wp2
            go_quiet ((go_at_call 97; with_reducible exact S.out _))
            go_wp2
            go_roundw
            case rel => exact ⟨j + 1, _, by omega, by go_num, by rw [HW.out]; exact World.drewN_drewN _ _ _⟩
            case measure => simp [intOf]; omega
        · obtain rfl : j = N i + 40 := by omega
          clear hjl
          go_wp2
          go_roundw
          case rel => exact ⟨i + 1, by omega, by go_num, by rw [HW.out]; exact below_on HB2.out (below_drewN9 _ _)⟩
          case measure => simp [intOf]; omega
    · obtain rfl : i = k := by omega
      have HBL := Lib.hid hbl
      clear hf hbl
      go_wp2
      go_ret
      exact ⟨rfl, HBL.out⟩
end Go.Proofs.YtplhfbflgjnjmaaGreatDoor
