/- The walks of the statements of layer 21: each returns true, whatever the arguments. -/
import Derived.Test.YtjbhijganjagaaaDoorFns
namespace Go.Proofs.YtjbhijganjagaaaDoor
open Go.ChangeShapes Go.WideShapes Go.ChangeAt Go.RowKit

theorem Tab.later {B : Nat} {w w' : World} (hT : Tab w) (hb : Below B w w') (hs : 0 < B) : Tab w' := by
  unfold Tab at hT ⊢
  rw [hb.cell (p := ⟨0, 0, none⟩) hs, hb.cell (p := ⟨0, 1, none⟩) hs, hb.cell (p := ⟨0, 2, none⟩) hs, hb.cell (p := ⟨0, 3, none⟩) hs]
  exact hT
theorem Tab.alloc {w : World} (hT : Tab w) (hs : 0 < w.heap.size) (o : Obj) : Tab (w.alloc o) := hT.later ((Below.refl _ _).alloc (Nat.le_refl _) o) hs
theorem Tab.drewN {w : World} (hT : Tab w) (n : Nat) : Tab (w.drewN n) := hT

theorem lives_any (w : World) (hT : Tab w) : Calls Tryd.prog 16 #[] w fun e w' => e = .returned (.bool true) ∧ Drew w w' := by
  go_enter Tryd.func16, Tryd.ntmps16
  go_wp2_with (first | (go_at_call 8; refine (leader_any _ _ _ (by omega) (by omega) (by omega) (by omega) _).mono ?_; rintro e w' ⟨rfl, n, rfl⟩) | (go_at_call 10; refine (patience_any _ (by omega) (by omega) _ (by exact hT)).mono ?_; rintro e w' ⟨rfl, rfl⟩) | (go_at_call 12; refine (quorum_any _ _ _).mono ?_; rintro e w' ⟨rfl, rfl⟩)  | (go_at_call 14; refine (some_any _ _).mono ?_; rintro e w' ⟨rfl, rfl⟩))
  go_ret
  exact ⟨rfl, Drew.of _ _⟩

theorem viewsOf_walk (ep vw n f : Int) (h1 : 0 ≤ ep) (h2 : ep < 18446744073709551616) (h3 : 0 ≤ vw) (h4 : vw < 4294967296) (w : World) (hT : Tab w) (hs : 0 < w.heap.size) :
    Calls Tryd.prog 3 #[.int .u64 ep, .int .u32 vw, .agg #[.int .i64 n, .int .i64 f]] w fun e w' => e = .returned (.bool true) ∧ Below w.heap.size w w' := by
  go_enter Tryd.func3, Tryd.ntmps3
  go_wp2
  go_quiet ((first
    | (go_at_call 8; exact Calls.quiet_of (leader_any _ _ _ h1 h2 h3 h4 _)) | (go_at_call 9; exact Calls.quiet_of (refleader_any _ _ _ h1 h2 h3 h4 _))
    | (go_at_call 10; exact Calls.quiet_of_same ((patience_any _ h3 h4 _ ((hT.alloc hs _).drewN _)).mono fun _ _ h => ⟨h.1, h.2.symm⟩)) | (go_at_call 11; exact Calls.quiet_of_same ((refpatience_any _ h3 h4 _).mono fun _ _ h => ⟨h.1, h.2.symm⟩))
    | (go_at_call 12; exact Calls.quiet_of_same ((quorum_any _ _ _).mono fun _ _ h => ⟨h.1, h.2.symm⟩)) | (go_at_call 13; exact Calls.quiet_of_same ((refquorum_any _ _ _).mono fun _ _ h => ⟨h.1, h.2.symm⟩))
    | (go_at_call 14; exact Calls.quiet_of_same ((some_any _ _).mono fun _ _ h => ⟨h.1, h.2.symm⟩)) | (go_at_call 15; exact Calls.quiet_of_same ((refsome_any _ _).mono fun _ _ h => ⟨h.1, h.2.symm⟩))
    | (go_at_call 16; exact Calls.quiet_of (lives_any _ ((hT.alloc hs _).drewN _)))))
  go_wp2
  go_ret
  exact ⟨rfl, below_drewN ((Below.refl _ _).alloc (Nat.le_refl _) _) _⟩

theorem viewsPatience_walk (vw : Int) (h3 : 0 ≤ vw) (h4 : vw < 4294967296) (w : World) (hT : Tab w) :
    Calls Tryd.prog 6 #[.int .u32 vw] w fun e w' => e = .returned (.bool true) ∧ Drew w w' := by
  by_cases hm : vw = 4294967295
  · subst hm
    go_enter Tryd.func6, Tryd.ntmps6
    go_wp2_with (go_at_call 16; refine (lives_any _ hT).mono ?_; rintro e w' ⟨rfl, n, rfl⟩)
    go_ret
    exact ⟨rfl, Drew.of _ _⟩
  · have hm' : (vw == 4294967295) = false := by simpa using hm
    have h5 : vw + 1 < 4294967296 := by omega
    have e : patS vw = 8 ∧ patS (vw + 1) = 16 ∨ patS vw = 16 ∧ patS (vw + 1) = 32 ∨ patS vw = 32 ∧ patS (vw + 1) = 64 ∨ patS vw = 64 ∧ patS (vw + 1) = 64 := by
      unfold patS; split <;> (try split) <;> (try split) <;> (try split) <;> (try split) <;> (try split) <;> (try split) <;> omega
    rcases e with ⟨e1, e2⟩ | ⟨e1, e2⟩ | ⟨e1, e2⟩ | ⟨e1, e2⟩
    all_goals
      clear hm
      have p1 := patience_any vw h3 h4
      have p2 := patience_any (vw + 1) (by omega) h5
      rw [e1] at p1
      rw [e2] at p2
      have P1 := Lib.hid p1
      have P2 := Lib.hid p2
      clear p1 p2 e1 e2
      go_enter Tryd.func6, Tryd.ntmps6
      go_wp2_with fail
      refine (P1.out _ hT).mono ?_
      rintro e w' ⟨rfl, rfl⟩
      go_wp2_with fail
      refine (P2.out _ hT).mono ?_
      rintro e w' ⟨rfl, rfl⟩
      go_wp2_with (go_at_call 16; refine (lives_any _ hT).mono ?_; rintro e w' ⟨rfl, n, rfl⟩)
      go_ret
      exact ⟨rfl, Drew.of _ _⟩

theorem viewsMeet_walk (a b : Int) (h1 : 0 ≤ a) (h2 : a < 256) (h3 : 0 ≤ b) (h4 : b < 256) (w : World) (hT : Tab w) :
    Calls Tryd.prog 5 #[.int .u8 a, .int .u8 b] w fun e w' => e = .returned (.bool true) ∧ Drew w w' := by
  have hb : 0 ≤ b % 3 ∧ b % 3 ≤ 2 := by omega
  have ha : 0 ≤ a % 7 ∧ a % 7 ≤ 6 := by omega
  by_cases hn : 7 < 3 * (b % 3) + 1 + a % 7
  · go_enter Tryd.func5, Tryd.ntmps5
    go_wp2_with (go_at_call 16; refine (lives_any _ hT).mono ?_; rintro e w' ⟨rfl, n, rfl⟩)
    go_ret
    exact ⟨rfl, Drew.of _ _⟩
  · have q : quorS (3 * (b % 3) + 1 + a % 7) (b % 3) = (3 * (b % 3) + 1 + a % 7 + b % 3) / 2 + 1 := by unfold quorS; rw [if_neg (by omega)]
    have s : someS (b % 3) = b % 3 + 1 := by unfold someS; rw [if_neg (by omega)]
    have q1 := quorum_any (3 * (b % 3) + 1 + a % 7) (b % 3)
    have s1 := some_any (b % 3)
    rw [q] at q1
    rw [s] at s1
    have Q1 := Lib.hid q1
    have S1 := Lib.hid s1
    clear q s q1 s1
    go_enter Tryd.func5, Tryd.ntmps5
    go_wp2_with fail
    refine (Q1.out _).mono ?_
    rintro e w' ⟨rfl, rfl⟩
    go_wp2_with fail
    refine (S1.out _).mono ?_
    rintro e w' ⟨rfl, rfl⟩
    go_wp2_with fail
    refine (S1.out _).mono ?_
    rintro e w' ⟨rfl, rfl⟩
    go_wp2_with (go_at_call 16; refine (lives_any _ hT).mono ?_; rintro e w' ⟨rfl, n, rfl⟩)
    go_ret
    exact ⟨rfl, Drew.of _ _⟩

theorem viewsWhole_walk (ep vw a : Int) (h1 : 0 ≤ ep) (h2 : ep < 18446744073709551616) (h3 : 0 ≤ vw) (h4 : vw < 4294967296) (h5 : 0 ≤ a) (h6 : a < 256) (w : World) (hT : Tab w) :
    Calls Tryd.prog 7 #[.int .u64 ep, .int .u32 vw, .int .u8 a] w fun e w' => e = .returned (.bool true) ∧ Drew w w' := by
  by_cases he : ep = 18446744073709551615
  · subst he
    go_enter Tryd.func7, Tryd.ntmps7
    go_wp2_with (go_at_call 16; refine (lives_any _ hT).mono ?_; rintro e w' ⟨rfl, n, rfl⟩)
    go_ret
    exact ⟨rfl, Drew.of _ _⟩
  by_cases hv : vw = 0
  · subst hv
    have he' : (ep == 18446744073709551615) = false := by simpa using he
    clear he
    go_enter Tryd.func7, Tryd.ntmps7
    go_wp2_with (go_at_call 16; refine (lives_any _ hT).mono ?_; rintro e w' ⟨rfl, n, rfl⟩)
    go_ret
    exact ⟨rfl, Drew.of _ _⟩
  have he' : (ep == 18446744073709551615) = false := by simpa using he
  have hv' : (vw == 0) = false := by simpa using hv
  have hn : 0 ≤ a % 7 ∧ a % 7 ≤ 6 := by omega
  have e2 : ep + 1 < 18446744073709551616 := by omega
  have v1 : 1 ≤ vw := by omega
  have l1 := leader_any ep vw (1 + a % 7) h1 h2 h3 h4
  have l2 := leader_any (ep + 1) (vw - 1) (1 + a % 7) (by omega) e2 (by omega) (by omega)
  rw [lead_next] at l2
  have L1 := Lib.hid l1
  have L2 := Lib.hid l2
  have p1 := patience_any (vw % 60) (by omega) (by omega)
  have hk : 0 ≤ vw % 60 := by omega
  have hk' : vw % 60 < 60 := by omega
  clear he hv l1 l2
  by_cases hk3 : vw % 60 < 3
  · have e : vw % 60 = 0 ∨ vw % 60 = 1 ∨ vw % 60 = 2 := by omega
    rcases e with e | e | e
    all_goals
      rw [show patS (vw % 60) = 8 * 2 ^ (vw % 60).toNat by rw [e]; rfl] at p1
      rw [e] at p1
      have P1 := Lib.hid p1
      clear p1
      go_enter Tryd.func7, Tryd.ntmps7
      go_wp2_with fail
      refine (P1.out _ hT).mono ?_
      rintro _ _ ⟨rfl, rfl⟩
      go_wp2_with fail
      refine (L1.out _).mono ?_
      rintro _ _ ⟨rfl, n1, rfl⟩
      go_wp2_with fail
      refine (L2.out _).mono ?_
      rintro _ _ ⟨rfl, n2, rfl⟩
      go_wp2_with (go_at_call 16; refine (lives_any _ (hT.drewN _)).mono ?_; rintro e w' ⟨rfl, n, rfl⟩)
      go_ret
      exact ⟨rfl, Drew.of _ _⟩
  · have e : patS (vw % 60) = 64 := by unfold patS; rw [if_neg (by omega), if_neg (by omega), if_neg (by omega)]
    rw [e] at p1
    have P1 := Lib.hid p1
    clear p1 e
    go_enter Tryd.func7, Tryd.ntmps7
    go_wp2_with fail
    refine (P1.out _ hT).mono ?_
    rintro _ _ ⟨rfl, rfl⟩
    go_wp2_with fail
    refine (L1.out _).mono ?_
    rintro _ _ ⟨rfl, n1, rfl⟩
    go_wp2_with fail
    refine (L2.out _).mono ?_
    rintro _ _ ⟨rfl, n2, rfl⟩
    go_wp2_with (go_at_call 16; refine (lives_any _ (hT.drewN _)).mono ?_; rintro e w' ⟨rfl, n, rfl⟩)
    go_ret
    exact ⟨rfl, Drew.of _ _⟩

/-- The cells of the eight counts. -/
def Led (e v n : Int) (B k : Nat) (w : World) : Prop := ∀ j, j < 8 → w.cell? ⟨B, j, none⟩ = some (.int .i64 (led e v n k j)) ∧ w.frozen? ⟨B, j, none⟩ = false


theorem viewsTurn_walk (ep vw a : Int) (h1 : 0 ≤ ep) (h2 : ep < 18446744073709551616) (h3 : 0 ≤ vw) (h4 : vw < 4294967296) (n : Nat) (h5 : 0 ≤ a) (h6 : a < 256) (hn : 1 + a % 7 = n) (w : World) (hT : Tab w) (hs : 0 < w.heap.size) :
    Calls Tryd.prog 4 #[.int .u64 ep, .int .u32 vw, .int .u8 a] w fun e w' => e = .returned (.bool true) ∧ Below w.heap.size w w' := by
  have hn1 : 1 ≤ n := by omega
  have hn2 : n ≤ 7 := by omega
  have HN := Lib.hid hn
  have ha : 0 ≤ a % 7 ∧ a % 7 ≤ 6 := by omega
  clear hn
  have hv : ∃ u : Int, 0 ≤ u ∧ u ≤ 2147483648 ∧ Hid (2147483648 < vw ∧ vw - 2147483648 = u ∨ vw ≤ 2147483648 ∧ vw = u) := by
    by_cases hv : 2147483648 < vw
    · exact ⟨vw - 2147483648, by omega, by omega, Lib.hid (.inl ⟨hv, rfl⟩)⟩
    · exact ⟨vw, by omega, by omega, Lib.hid (.inr ⟨by omega, rfl⟩)⟩
  obtain ⟨u, hu0, hu1, HU⟩ := hv
  rcases HU.out with ⟨hv, hu⟩ | ⟨hv, hu⟩
  all_goals
    clear HU
    have HV := Lib.hid hu
    clear hu
    go_enter Tryd.func4, Tryd.ntmps4
    go_wp2
    rw [HN.out]
    try rw [HV.out]
    have hz : w.heap.size < (w.alloc (Obj.cells (Array.replicate 8 (Value.int IntKind.i64 0)) 3)).heap.size := by simp
    go_loopw [9, 10] (fun i x wr => ∃ k : Nat, k ≤ n ∧ i = .int .i64 k ∧ Led ep u n w.heap.size k wr ∧ Below w.heap.size w wr ∧ w.heap.size < wr.heap.size) (fun i _ _ => n - (intOf i).toNat)
    case atStart =>
      refine ⟨0, Nat.zero_le _, rfl, ?_, (Below.refl _ _).alloc (Nat.le_refl _) _, by simp⟩
      intro j hj
      refine ⟨?_, by simp⟩
      have : j = 0 ∨ j = 1 ∨ j = 2 ∨ j = 3 ∨ j = 4 ∨ j = 5 ∨ j = 6 ∨ j = 7 := by omega
      rcases this with rfl | rfl | rfl | rfl | rfl | rfl | rfl | rfl <;> simp [led]
    case round =>
      obtain ⟨k, hk, rfl, hl, hb, hz⟩ := hrel
      by_cases hlt : k < n
      · have hk7 : k < 7 := by omega
        have hx := lead_in ep (u + k) n (by omega) (by omega)
        obtain ⟨x, hX, hx1, hx2⟩ : ∃ x : Nat, Hid (leadS ep (u + k) n = x) ∧ 1 ≤ x ∧ x ≤ n := ⟨(leadS ep (u + k) n).toNat, Lib.hid (by omega), by omega, by omega⟩
        have l1 := leader_any ep (u + k) n h1 h2 (by omega) (by omega)
        rw [hX.out] at l1
        have L1 := Lib.hid l1
        have C := hl x (by omega)
        have cx := C.1
        have fx := C.2
        have LL := Lib.hid hl
        have hled := led_le ep u n x k
        clear hx l1 hl C
        go_wp2_with fail
        refine (L1.out _).mono ?_
        rintro _ _ ⟨rfl, m, rfl⟩
        go_wp2
        have hnew : Led ep u n w.heap.size (k + 1) (((wr.drewN m).setCell ⟨w.heap.size, x, none⟩ (.int .i64 (led ep u n k x + 1)))) := by
          intro j hj
          have e1 := LL.out j hj
          have e2 : led ep u n (k + 1) j = led ep u n k j + if leadS ep (u + k) n = (j : Int) then 1 else 0 := rfl
          refine ⟨?_, by simpa using e1.2⟩
          by_cases hjx : j = x
          · subst hjx
            rw [World.cell?_setCell_same (u := .int .i64 (led ep u n k j)) (h := by simpa using e1.1), e2, if_pos hX.out]
            simp
          · rw [World.cell?_setCell_other _ _ _ _ (by intro h; injection h; omega), e2, if_neg (by rw [hX.out]; omega)]
            simpa using e1.1
        go_roundw
        case rel => exact ⟨k + 1, by omega, by go_num, hnew, (below_drewN hb m).setCell (Nat.le_refl _) _, by simpa using hz⟩
        case measure => simp [intOf]; omega
      · obtain rfl : k = n := by omega
        clear hlt
        have HL := Lib.hid hl
        have hb' := hb
        have hT' : Tab wr := hT.later hb hs
        clear hl
        go_wp2
        go_loop [11] (fun i => ∃ j : Nat, 1 ≤ j ∧ j ≤ k + 1 ∧ i = .int .i64 j) (fun i => k + 1 - (intOf i).toNat)
        case atStart => exact ⟨1, by omega, by omega, rfl⟩
        case round =>
          obtain ⟨j, hj1, hj2, rfl⟩ := hrel
          by_cases hlt : j ≤ k
          · have cj := (HL.out j (by omega)).1
            rw [led_all ep u k hn1 hn2 j hj1 hlt] at cj
            go_wp2
            go_round
            case rel => exact ⟨j + 1, by omega, by omega, by go_num⟩
            case measure => simp [intOf]; omega
          · go_wp2_with (go_at_call 16; refine (lives_any _ hT').mono ?_; rintro e w' ⟨rfl, n, rfl⟩)
            go_ret
            exact ⟨rfl, below_drewN hb _⟩
end Go.Proofs.YtjbhijganjagaaaDoor
