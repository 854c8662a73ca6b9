/- THE STATEMENT LimbsShiftSaid, PROVED: whatever its arguments, the law returns true, and its arguments read as they did. Conditions: none beside the statement's own. -/
import Derived.Test.YtdhkkigijcggmaaRows
import Derived.Test.YtdhkkigijcggmaaCommon
import Derived.Test.YtdhkkigijcggmaaLimbsShiftLaw
namespace Go.Proofs.Ytdhkkigijcggmaa.limbsShift
open Go.ChangeShapes Go.WideShapes Go.ChangeAt Go.RowKit Go.Deep
set_option linter.unusedVariables false
theorem own : ownKnob Try.prog.godebug = Option.none := by kernel_rfl
theorem reads_ok : ∀ t ∈ Try.f6.params.toList, Try.prog.readableRec t = true ∧ t < Try.prog.types.size := by
  rw [Try.params6]
  intro t ht
  simp only [List.mem_cons, List.not_mem_nil, or_false] at ht
  rcases ht with rfl | rfl
  all_goals exact ⟨by kernel_rfl, of_decide_eq_true (by kernel_rfl)⟩
/-- What the walk gives, for every argument that can be read. -/
theorem contract (H : Type) (enc : TypeId × Value → H) (W : World) (base : Nat) (args : Array Value) (ds gs : List (DataW H)) (before : List MemPlace)
    (hval : ∀ (j : Nat) t v, Try.f6.params[j]? = some t → args[j]? = some v → Value.okWide Try.prog W .any base t v)
    (hW : DataW.Whole enc Try.prog Try.f6.params.toList Rows.limbsShiftSpec.vars false W args.toList ds gs before) :
    Calls Try.prog 6 args W fun e W' => ∃ v, e = .returned v ∧ Rows.limbsShiftSpec.post enc Try.prog Try.f6 false true false false W args v W' := by
  refine law_post (by kernel_rfl) reads_ok rfl rfl Try.underlying4 (fun ds h => by rw [Try.params6] at h; match ds, h with | [d0, d1], _ => rfl) hW ?_
  obtain ⟨p, q, hA0, hV, rfl, hfz, hnd⟩ := hW
  have hA : DataW.TrodAll enc Try.prog W 0 (fun _ => true) true Try.f6.params.toList args.toList ds p := hA0
  rw [Try.params6] at hA hval
  obtain ⟨v0, vs0, d0, ds0, p0, q0, hargs, rfl, rfl, h0, r0⟩ := trodAll_cons hA
  obtain ⟨v1, vs1, d1, ds1, p1, q1, rfl, rfl, rfl, h1, r1⟩ := trodAll_cons r0
  obtain ⟨rfl, rfl, rfl⟩ := trodAll_nil r1
  obtain rfl : args = #[v0, v1] := by cases args; simp_all
  obtain ⟨cs0, rfl, i0⟩ := open_ints_agg (ks := [.u64, .u64, .u64, .u64]) (.inl ⟨_, _, Try.underlying24⟩) (by kernel_rfl) (hval 0 24 v0 rfl rfl) h0
  obtain ⟨a0_0, cs0, rfl, w0_0, i0⟩ := ints_cons i0
  have b0_0 := bounds_u64 w0_0
  obtain ⟨a0_1, cs0, rfl, w0_1, i0⟩ := ints_cons i0
  have b0_1 := bounds_u64 w0_1
  obtain ⟨a0_2, cs0, rfl, w0_2, i0⟩ := ints_cons i0
  have b0_2 := bounds_u64 w0_2
  obtain ⟨a0_3, cs0, rfl, w0_3, i0⟩ := ints_cons i0
  have b0_3 := bounds_u64 w0_3
  obtain rfl := ints_nil i0
  obtain ⟨a1, rfl, rfl, rfl, w1⟩ := open_int Try.underlying5 (hval 1 5 v1 rfl rfl) h1
  have b1 := bounds_u8 w1
  obtain ⟨a, ha, rfl, rfl, rfl, rfl⟩ := num_of_ints a0_0 a0_1 a0_2 a0_3 b0_0 b0_1 b0_2 b0_3
  obtain ⟨n, rfl⟩ : ∃ n : Nat, a1 = n := ⟨a1.toNat, by omega⟩
  exact limbsShift_walk ha (by omega) W
noncomputable def witnessWorld (os : Os) : World := World.holding Try.prog os ⟨#[], #[], []⟩
theorem witness_reads (os : Os) {H : Type} (enc : TypeId × Value → H) : ∃ places, DataW.whole enc Try.prog ((witnessWorld os).forCall (fun _ _ => 0) ⟨#[], #[.agg #[.int .u64 0, .int .u64 0, .int .u64 0, .int .u64 0], .int .u8 0], []⟩).memory Try.f6.params.toList Rows.limbsShiftSpec.vars false (#[.agg #[.int .u64 0, .int .u64 0, .int .u64 0, .int .u64 0], .int .u8 0] : Array Value).toList 12 = some ([.agg [.lit (.int .u64 0), .lit (.int .u64 0), .lit (.int .u64 0), .lit (.int .u64 0)], .lit (.int .u8 0)], [], places) := ⟨[], by kernel_rfl⟩
set_option maxRecDepth 100000 in
theorem lifted (os : Os) (started : os.Started) (H : Type) (enc : TypeId × Value → H) (F : Stop.Interp) :
    ReturnsInHanded {} Try.checked os 6 .any ((OpenSpec.ofChange Rows.limbsShiftSpec).preRow enc Try.prog Try.f6 Rows.limbsShiftRow.domain false Rows.limbsShiftRow.laid) (((OpenSpec.ofChange Rows.limbsShiftSpec).at F).post enc Try.prog Try.f6 false true false false) := by
  obtain ⟨places, hx⟩ := witness_reads os enc
  refine returnsInHanded_of_row (C := Try.checked) (s := (OpenSpec.ofChange Rows.limbsShiftSpec)) own started (by kernel_rfl) Try.func6
    (witness_row_at (enc := enc) (C := Try.checked) false (witnessWorld os) #[.agg #[.int .u64 0, .int .u64 0, .int .u64 0, .int .u64 0], .int .u8 0] rfl (by kernel_rfl) (by kernel_rfl) (by kernel_rfl)
      (OpenSpec.preRow_of_cond 12 hx (by kernel_rfl) (fun k hk => by cases hk) (by kernel_rfl) (laidMet_nil _ _))) ?_
  intro W base args ds gs before hval hW _ hcond _ hL _ _
  exact contract H enc W base args ds gs before hval hW
/-- THE ROW'S STATEMENT. -/
theorem said : Rows.LimbsShiftSaid :=
  OpenClaim.holds_of_cond 6 Try.f6 rfl rfl rfl rfl rfl rfl rfl ⟨rfl, rfl, rfl, rfl, rfl⟩ rfl rfl rfl rfl rfl (by kernel_rfl) Try.func6 (by kernel_rfl)
    (of_decide_eq_true (by kernel_rfl)) (by unfold Func.isWrapper; first | (rw [if_pos (by decide +kernel)]; kernel_rfl) | (rw [if_neg (by decide +kernel)]; exact ⟨rfl, rfl⟩))
    (fun os started H enc _ F => by rw [OpenClaim.pre_eq_preRow]; exact lifted os started H enc F)
/-- THE STATEMENT. -/
theorem proved : Rows.LimbsShiftSaid := said
#print axioms proved
end Go.Proofs.Ytdhkkigijcggmaa.limbsShift
