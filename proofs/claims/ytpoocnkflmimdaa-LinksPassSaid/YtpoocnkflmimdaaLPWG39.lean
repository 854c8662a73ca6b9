/- Layer 15 (dealings): above -/
import Derived.Test.YtpoocnkflmimdaaLPWG34
import Derived.Laws.BitsAllLaws
namespace Go.Proofs.Ytpoocnkflmimdaa
open Go.ChangeShapes Go.WideShapes Go.ChangeAt Go.RowKit
/-- Is a number above a small one? -/
def aboveB (a n : Nat) : Bool := if (dgt W64 a 1 ||| dgt W64 a 2) ||| dgt W64 a 3 = 0 then decide (n < dgt W64 a 0) else true
set_option linter.unusedSimpArgs false in
set_option linter.unusedVariables false in
set_option maxRecDepth 20000 in
set_option maxHeartbeats 2000000 in
theorem above_any {a n : Nat} (hn : n ≤ 1000) (w : World) : Calls Try.prog 30 #[numV a, .int .i64 n] w fun e w' => e = .returned (.bool (aboveB a n)) ∧ Below w.heap.size w w' := by
  have l1 := dgtW_lt a 1
  have l2 := dgtW_lt a 2
  have l3 := dgtW_lt a 3
  unfold W64 at l1 l2 l3
  obtain ⟨o1, h1⟩ : ∃ x, x = dgt W64 a 1 ||| dgt W64 a 2 := ⟨_, rfl⟩
  obtain ⟨o2, h2⟩ : ∃ x, x = o1 ||| dgt W64 a 3 := ⟨_, rfl⟩
  have lo1 : o1 < 18446744073709551616 := by rw [h1]; exact Nat.or_lt_two_pow (n := 64) l1 l2
  have b1 : bits BinOp.or IntKind.u64 (dgt W64 a 1 : Int) (dgt W64 a 2 : Int) = (o1 : Int) := by rw [h1]; exact u64_or_nat _ _ l1 l2
  have b2 : bits BinOp.or IntKind.u64 (o1 : Int) (dgt W64 a 3 : Int) = (o2 : Int) := by rw [h2]; exact u64_or_nat _ _ lo1 l3
  unfold aboveB
  rw [← h1, ← h2]
  clear h1 h2 lo1 l1 l2 l3
  obtain ⟨d0, hd0⟩ : ∃ x, x = dgt W64 a 0 := ⟨_, rfl⟩
  unfold numV words
  rw [← hd0]
  clear hd0
  by_cases hz : o2 = 0
  · rw [if_pos hz]
    subst hz
    by_cases hlt : n < d0
    · rw [decide_eq_true hlt]
      have hI : (n : Int) < (d0 : Int) := by omega
      clear hlt
      go_enter Try.func30, Try.ntmps30
      go_wp2_with fail
      go_ret
      exact ⟨rfl, (Below.refl _ _).alloc (Nat.le_refl _) _⟩
    · rw [decide_eq_false hlt]
      have hI : ¬ (n : Int) < (d0 : Int) := by omega
      clear hlt
      go_enter Try.func30, Try.ntmps30
      go_wp2_with fail
      go_ret
      exact ⟨rfl, (Below.refl _ _).alloc (Nat.le_refl _) _⟩
  · rw [if_neg hz]
    have hI : ¬ (o2 : Int) = 0 := by omega
    clear hz
    go_enter Try.func30, Try.ntmps30
    go_wp2_with fail
    go_ret
    exact ⟨rfl, (Below.refl _ _).alloc (Nat.le_refl _) _⟩
end Go.Proofs.Ytpoocnkflmimdaa
