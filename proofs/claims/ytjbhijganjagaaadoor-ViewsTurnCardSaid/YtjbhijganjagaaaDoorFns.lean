/- Contracts of the functions of layer 21 (views), of their references, and of the statements' own 'lives'. -/
import Derived.Test.YtjbhijganjagaaaDoorRows
import Derived.Test.YtjbhijganjagaaaDoorPlain
import Derived.WalkKit
import Derived.ProofKit
import Derived.OpenShut
import Derived.WalkLawsBesides
import Derived.Deep.QuietTactic
import Derived.BigQuiet
import Derived.Outline
import Derived.Lib.Hide
namespace Go.Proofs.YtjbhijganjagaaaDoor
open Go.ChangeShapes Go.WideShapes Go.ChangeAt Go.RowKit

/-- The world has drawn, and nothing else. -/
def Drew (w w' : World) : Prop := ∃ n, w' = w.drewN n
theorem Drew.refl (w : World) : Drew w w := ⟨0, rfl⟩
theorem Drew.of (w : World) (n : Nat) : Drew w (w.drewN n) := ⟨n, rfl⟩

theorem some_any (f : Int) (w : World) : Calls Tryd.prog 14 #[.int .i64 f] w fun e w' => e = .returned (.int .i64 (someS f)) ∧ w = w' := by
  unfold someS
  by_cases h : f < 0 ∨ 2 < f
  · rw [if_pos h]
    rcases h with h | h
    all_goals
      go_enter Tryd.func14, Tryd.ntmps14
      go_wp2
      go_ret
      exact ⟨rfl, rfl⟩
  · rw [if_neg h]
    have h1 : 0 ≤ f := by omega
    have h2 : f ≤ 2 := by omega
    clear h
    go_enter Tryd.func14, Tryd.ntmps14
    go_wp2
    go_ret
    exact ⟨rfl, rfl⟩

theorem refsome_any (f : Int) (w : World) : Calls Tryd.prog 15 #[.int .i64 f] w fun e w' => e = .returned (.int .i64 (someS f)) ∧ w = w' := by
  unfold someS
  by_cases h : f < 0 ∨ 2 < f
  · rw [if_pos h]
    rcases h with h | h
    all_goals
      go_enter Tryd.func15, Tryd.ntmps15
      go_wp2
      go_ret
      exact ⟨rfl, rfl⟩
  · rw [if_neg h]
    have h1 : 0 ≤ f := by omega
    have h2 : f ≤ 2 := by omega
    clear h
    go_enter Tryd.func15, Tryd.ntmps15
    go_wp2
    go_ret
    exact ⟨rfl, rfl⟩

theorem ret_int {k : IntKind} {a b : Int} (h : a = b) : Ending.returned (.int k a) = .returned (.int k b) := by rw [h]

theorem lead_val (e v n : Int) (h5 : 1 ≤ n) (h6 : n ≤ 7) :
    (1 + (IntKind.u64.wrap (e % n + v % n)).tmod n % 256) % 256 = 1 + (e % n + v % n) % n ∧ ((IntKind.u64.wrap (e % n + v % n)).tmod n % 256 + 1) % 256 = 1 + (e % n + v % n) % n := by
  have a1 := Int.emod_nonneg e (show n ≠ 0 by omega)
  have a2 := Int.emod_lt_of_pos e (show 0 < n by omega)
  have b1 := Int.emod_nonneg v (show n ≠ 0 by omega)
  have b2 := Int.emod_lt_of_pos v (show 0 < n by omega)
  have c1 := Int.emod_nonneg (e % n + v % n) (show n ≠ 0 by omega)
  have c2 := Int.emod_lt_of_pos (e % n + v % n) (show 0 < n by omega)
  rw [IntWalk.u64_in _ (by omega), IntWalk.rem_in _ _ (by omega)]
  omega

theorem leader_any (ep vw n : Int) (h1 : 0 ≤ ep) (h2 : ep < 18446744073709551616) (h3 : 0 ≤ vw) (h4 : vw < 4294967296) (w : World) :
    Calls Tryd.prog 8 #[.int .u64 ep, .int .u32 vw, .int .i64 n] w fun e w' => e = .returned (.int .u8 (leadS ep vw n)) ∧ Drew w w' := by
  unfold leadS
  by_cases h : n < 1 ∨ 7 < n
  · rw [if_pos h]
    rcases h with h | h
    all_goals
      go_enter Tryd.func8, Tryd.ntmps8
      go_wp2
      go_ret
      exact ⟨rfl, Drew.refl w⟩
  · rw [if_neg h]
    have h5 : 1 ≤ n := by omega
    have h6 : n ≤ 7 := by omega
    clear h
    go_enter Tryd.func8, Tryd.ntmps8
    go_wp2
    go_quiet (fail)
    go_wp2
    go_ret
    exact ⟨ret_int (lead_val ep vw n h5 h6).1, Drew.of w nq⟩

theorem refleader_any (ep vw n : Int) (h1 : 0 ≤ ep) (h2 : ep < 18446744073709551616) (h3 : 0 ≤ vw) (h4 : vw < 4294967296) (w : World) :
    Calls Tryd.prog 9 #[.int .u64 ep, .int .u32 vw, .int .i64 n] w fun e w' => e = .returned (.int .u8 (leadS ep vw n)) ∧ Drew w w' := by
  unfold leadS
  by_cases h : n < 1 ∨ 7 < n
  · rw [if_pos h]
    rcases h with h | h
    all_goals
      go_enter Tryd.func9, Tryd.ntmps9
      go_wp2
      go_ret
      exact ⟨rfl, Drew.refl w⟩
  · rw [if_neg h]
    have h5 : 1 ≤ n := by omega
    have h6 : n ≤ 7 := by omega
    clear h
    go_enter Tryd.func9, Tryd.ntmps9
    go_wp2
    go_quiet (fail)
    go_wp2
    go_ret
    exact ⟨ret_int (lead_val ep vw n h5 h6).2, Drew.of w nq⟩

/-- What the statement's list gives: the four cells. -/
def Tab (w : World) : Prop := w.cell? ⟨0, 0, none⟩ = some (.int .i64 8) ∧ w.cell? ⟨0, 1, none⟩ = some (.int .i64 16) ∧ w.cell? ⟨0, 2, none⟩ = some (.int .i64 32) ∧ w.cell? ⟨0, 3, none⟩ = some (.int .i64 64)

theorem patience_any (v : Int) (h0 : 0 ≤ v) (h1 : v < 4294967296) (w : World) (hT : Tab w) :
    Calls Tryd.prog 10 #[.int .u32 v] w fun e w' => e = .returned (.int .i64 (patS v)) ∧ w = w' := by
  obtain ⟨c0, c1, c2, c3⟩ := hT
  by_cases a0 : v = 0
  · subst a0
    go_enter Tryd.func10, Tryd.ntmps10
    go_wp2
    go_ret
    exact ⟨rfl, rfl⟩
  by_cases a1 : v = 1
  · subst a1
    go_enter Tryd.func10, Tryd.ntmps10
    go_wp2
    go_ret
    exact ⟨rfl, rfl⟩
  by_cases a2 : v = 2
  · subst a2
    go_enter Tryd.func10, Tryd.ntmps10
    go_wp2
    go_ret
    exact ⟨rfl, rfl⟩
  have hv : patS v = 64 := by unfold patS; simp [a0, a1, a2]
  rw [hv]
  by_cases a3 : v = 3
  · subst a3
    go_enter Tryd.func10, Tryd.ntmps10
    go_wp2
    go_ret
    exact ⟨rfl, rfl⟩
  have h3 : 3 < v := by omega
  clear hv a0 a1 a2 a3
  go_enter Tryd.func10, Tryd.ntmps10
  go_wp2
  go_ret
  exact ⟨rfl, rfl⟩

theorem refpatience_any (v : Int) (h0 : 0 ≤ v) (h1 : v < 4294967296) (w : World) :
    Calls Tryd.prog 11 #[.int .u32 v] w fun e w' => e = .returned (.int .i64 (patS v)) ∧ w = w' := by
  go_enter Tryd.func11, Tryd.ntmps11
  go_wp2
  go_loop [3, 4] (fun n i => ∃ k : Int, 0 ≤ k ∧ k ≤ v ∧ k ≤ 3 ∧ i = .int .u32 k ∧ n = .int .i64 (patS k)) (fun _ i => (3 - intOf i).toNat)
  case atStart => exact ⟨0, by omega, by omega, by omega, rfl, rfl⟩
  case round =>
    obtain ⟨k, hk0, hkv, hk3, rfl, rfl⟩ := hrel
    have e : k = 0 ∨ k = 1 ∨ k = 2 ∨ k = 3 := by omega
    by_cases hlt : k < v
    · rcases e with rfl | rfl | rfl | rfl
      · simp only [show patS 0 = 8 from rfl]
        go_wp2
        go_round
        case rel => exact ⟨1, by omega, by omega, by omega, rfl, rfl⟩
        case measure => simp [intOf]
      · simp only [show patS 1 = 16 from rfl]
        go_wp2
        go_round
        case rel => exact ⟨2, by omega, by omega, by omega, rfl, rfl⟩
        case measure => simp [intOf]
      · simp only [show patS 2 = 32 from rfl]
        go_wp2
        go_round
        case rel => exact ⟨3, by omega, by omega, by omega, rfl, rfl⟩
        case measure => simp [intOf]
      · simp only [show patS 3 = 64 from rfl]
        have hv : patS v = 64 := by unfold patS; simp [show v ≠ 0 by omega, show v ≠ 1 by omega, show v ≠ 2 by omega]
        have H := Lib.hid hv
        clear hv
        go_wp2
        go_ret
        exact ⟨ret_int H.out.symm, rfl⟩
    · have hkv' : v ≤ k := by omega
      have H := Lib.hid (show k = v by omega)
      clear hlt e
      go_wp2
      go_ret
      exact ⟨ret_int (by rw [H.out]), rfl⟩

theorem quorum_any (n f : Int) (w : World) : Calls Tryd.prog 12 #[.int .i64 n, .int .i64 f] w fun e w' => e = .returned (.int .i64 (quorS n f)) ∧ w = w' := by
  unfold quorS
  by_cases h : n < 1 ∨ 7 < n
  · rw [if_pos (by omega)]
    rcases h with h | h
    all_goals
      go_enter Tryd.func12, Tryd.ntmps12
      go_wp2
      go_ret
      exact ⟨rfl, rfl⟩
  · have a1 : 1 ≤ n := by omega
    have a2 : n ≤ 7 := by omega
    clear h
    by_cases h : f < 0 ∨ 2 < f
    · rw [if_pos (by omega)]
      rcases h with h | h
      all_goals
        go_enter Tryd.func12, Tryd.ntmps12
        go_wp2
        go_ret
        exact ⟨rfl, rfl⟩
    · rw [if_neg (by omega)]
      have h1 : 0 ≤ f := by omega
      have h2 : f ≤ 2 := by omega
      clear h
      have hb : (f + 1 == 0) = false := by simp; omega
      go_enter Tryd.func12, Tryd.ntmps12
      go_wp2
      go_ret
      exact ⟨rfl, rfl⟩

theorem refquorum_any (n f : Int) (w : World) : Calls Tryd.prog 13 #[.int .i64 n, .int .i64 f] w fun e w' => e = .returned (.int .i64 (quorS n f)) ∧ w = w' := by
  unfold quorS
  by_cases h : n < 1 ∨ 7 < n
  · rw [if_pos (by omega)]
    rcases h with h | h
    all_goals
      go_enter Tryd.func13, Tryd.ntmps13
      go_wp2
      go_ret
      exact ⟨rfl, rfl⟩
  · have a1 : 1 ≤ n := by omega
    have a2 : n ≤ 7 := by omega
    clear h
    by_cases h : f < 0 ∨ 2 < f
    · rw [if_pos (by omega)]
      rcases h with h | h
      all_goals
        go_enter Tryd.func13, Tryd.ntmps13
        go_wp2
        go_ret
        exact ⟨rfl, rfl⟩
    · rw [if_neg (by omega)]
      have h1 : 0 ≤ f := by omega
      have h2 : f ≤ 2 := by omega
      clear h
      go_enter Tryd.func13, Tryd.ntmps13
      go_wp2
      go_ret
      exact ⟨rfl, rfl⟩
end Go.Proofs.YtjbhijganjagaaaDoor
