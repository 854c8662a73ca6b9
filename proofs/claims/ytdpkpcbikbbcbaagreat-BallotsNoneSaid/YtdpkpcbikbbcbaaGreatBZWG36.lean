/- Layer 22 (ballots) -/
import Derived.Test.YtdpkpcbikbbcbaaGreatBZWG35
import Derived.DeepKeys5
namespace Go.Proofs.YtdpkpcbikbbcbaaGreat
open Go.ChangeShapes Go.WideShapes Go.ChangeAt Go.RowKit
theorem Qx : Maps.Keyed Tryz.prog 86 := Maps.Keyed.of_law (deep_law_gate (by kernel_rfl) (Nat.le_of_ble_eq_true (by kernel_rfl)) (Nat.le_of_ble_eq_true (by kernel_rfl)) (by kernel_rfl) (by kernel_rfl))
theorem place_lits (a b c : Int) : Tryz.prog.keyLits (Tryz.prog.types.size + 1) 86 [.int .u8 a, .int .u32 b, .int .u8 c] =
  ((if IntKind.u8 = IntKind.u8 ∧ (Lit.int .u8 a).wf = true then some [Lit.int .u8 a] else none).bind fun x => (if IntKind.u32 = IntKind.u32 ∧ (Lit.int .u32 b).wf = true then some [Lit.int .u32 b] else none).bind fun y =>
    (if IntKind.u8 = IntKind.u8 ∧ (Lit.int .u8 c).wf = true then some [Lit.int .u8 c] else none).bind fun z => some [x, y, z]).map List.flatten := by kernel_rfl
theorem place_type : (Tryz.prog.keyType 86) = true := by kernel_rfl
theorem place_formed (a b c : Int) : (Value.agg #[.int .u8 a, .int .u32 b, .int .u8 c]).formed Tryz.prog 86 = true := by kernel_rfl
theorem placeKey {k v n : Nat} (hk : k < 256) (hv : v < 4294967296) (hn : n < 256) : ∃ l, keyOf Tryz.prog 86 (qm k v n) = some l := by
 have w1 : (Lit.int .u8 (k : Int)).wf = true := by
  have a1 : IntKind.u8.min = 0 := by decide
  have a2 : IntKind.u8.max = 255 := by decide
  simp only [Lit.wf, a1, a2, Bool.and_eq_true, decide_eq_true_eq]; omega
 have w2 : (Lit.int .u32 (v : Int)).wf = true := by
  have a1 : IntKind.u32.min = 0 := by decide
  have a2 : IntKind.u32.max = 4294967295 := by decide
  simp only [Lit.wf, a1, a2, Bool.and_eq_true, decide_eq_true_eq]; omega
 have w3 : (Lit.int .u8 (n : Int)).wf = true := by
  have a1 : IntKind.u8.min = 0 := by decide
  have a2 : IntKind.u8.max = 255 := by decide
  simp only [Lit.wf, a1, a2, Bool.and_eq_true, decide_eq_true_eq]; omega
 unfold keyOf qm; rw [Tryz.underlying86]; simp only [place_type, place_formed, Value.cells, place_lits, w1, w2, w3]; exact ⟨_, rfl⟩
end Go.Proofs.YtdpkpcbikbbcbaaGreat
