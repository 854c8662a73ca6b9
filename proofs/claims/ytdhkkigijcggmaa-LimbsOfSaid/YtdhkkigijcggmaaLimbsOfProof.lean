/- THE STATEMENT LimbsOfSaid, PROVED: whatever its arguments, the law returns true, and its arguments read as they did. Conditions: none beside the statement's own. -/
import Derived.Test.YtdhkkigijcggmaaRows
import Derived.Test.YtdhkkigijcggmaaCommon
import Derived.Test.YtdhkkigijcggmaaLimbsOf
namespace Go.Proofs.Ytdhkkigijcggmaa.limbsOf
open Go.ChangeShapes Go.WideShapes Go.ChangeAt Go.RowKit Go.Deep
set_option linter.unusedVariables false
theorem own : ownKnob Try.prog.godebug = Option.none := by kernel_rfl
theorem reads_ok : ∀ t ∈ Try.f3.params.toList, Try.prog.readableRec t = true ∧ t < Try.prog.types.size := by
  rw [Try.params3]
  intro t ht
  simp only [List.mem_cons, List.not_mem_nil, or_false] at ht
  rcases ht with rfl | rfl | rfl
  all_goals exact ⟨by kernel_rfl, of_decide_eq_true (by kernel_rfl)⟩
set_option maxRecDepth 100000 in
/-- What the walk gives, for every argument that can be read. -/
theorem contract (H : Type) (enc : TypeId × Value → H) (W : World) (base : Nat) (args : Array Value) (ds gs : List (DataW H)) (before : List MemPlace)
    (hval : ∀ (j : Nat) t v, Try.f3.params[j]? = some t → args[j]? = some v → Value.okWide Try.prog W .any base t v)
    (hW : DataW.Whole enc Try.prog Try.f3.params.toList Rows.limbsOfSpec.vars false W args.toList ds gs before) :
    Calls Try.prog 3 args W fun e W' => ∃ v, e = .returned v ∧ Rows.limbsOfSpec.post enc Try.prog Try.f3 false true false false W args v W' := by
  refine law_post (by kernel_rfl) reads_ok rfl rfl Try.underlying4 (fun ds h => by rw [Try.params3] at h; match ds, h with | [d0, d1, d2], _ => rfl) hW ?_
  obtain ⟨p, q, hA0, hV, rfl, hfz, hnd⟩ := hW
  have hA : DataW.TrodAll enc Try.prog W 0 (fun _ => true) true Try.f3.params.toList args.toList ds p := hA0
  rw [Try.params3] at hA hval
  obtain ⟨v0, vs0, d0, ds0, p0, q0, hargs, rfl, rfl, h0, r0⟩ := trodAll_cons hA
  obtain ⟨v1, vs1, d1, ds1, p1, q1, rfl, rfl, rfl, h1, r1⟩ := trodAll_cons r0
  obtain ⟨v2, vs2, d2, ds2, p2, q2, rfl, rfl, rfl, h2, r2⟩ := trodAll_cons r1
  obtain ⟨rfl, rfl, rfl⟩ := trodAll_nil r2
  obtain rfl : args = #[v0, v1, v2] := by cases args; simp_all
  obtain ⟨cs0, rfl, i0⟩ := open_ints_agg (ks := [.u64, .u64, .u64, .u64]) (.inl ⟨_, _, Try.underlying24⟩) (by kernel_rfl) (hval 0 24 v0 rfl rfl) h0
  obtain ⟨a0_0, cs0, rfl, w0_0, i0⟩ := ints_cons i0
  have b0_0 := bounds_u64 w0_0
  obtain ⟨a0_1, cs0, rfl, w0_1, i0⟩ := ints_cons i0
  have b0_1 := bounds_u64 w0_1
  obtain ⟨a0_2, cs0, rfl, w0_2, i0⟩ := ints_cons i0
  have b0_2 := bounds_u64 w0_2
  obtain ⟨a0_3, cs0, rfl, w0_3, i0⟩ := ints_cons i0
  have b0_3 := bounds_u64 w0_3
  obtain rfl := ints_nil i0
  obtain ⟨cs1, rfl, i1⟩ := open_ints_agg (ks := [.u64, .u64, .u64, .u64]) (.inl ⟨_, _, Try.underlying24⟩) (by kernel_rfl) (hval 1 24 v1 rfl rfl) h1
  obtain ⟨a1_0, cs1, rfl, w1_0, i1⟩ := ints_cons i1
  have b1_0 := bounds_u64 w1_0
  obtain ⟨a1_1, cs1, rfl, w1_1, i1⟩ := ints_cons i1
  have b1_1 := bounds_u64 w1_1
  obtain ⟨a1_2, cs1, rfl, w1_2, i1⟩ := ints_cons i1
  have b1_2 := bounds_u64 w1_2
  obtain ⟨a1_3, cs1, rfl, w1_3, i1⟩ := ints_cons i1
  have b1_3 := bounds_u64 w1_3
  obtain rfl := ints_nil i1
  obtain ⟨a2, rfl, rfl, rfl, w2⟩ := open_int Try.underlying3 (hval 2 3 v2 rfl rfl) h2
  have b2 := bounds_i64 w2
  obtain ⟨a, ha, rfl, rfl, rfl, rfl⟩ := num_of_ints a0_0 a0_1 a0_2 a0_3 b0_0 b0_1 b0_2 b0_3
  obtain ⟨b, hb, rfl, rfl, rfl, rfl⟩ := num_of_ints a1_0 a1_1 a1_2 a1_3 b1_0 b1_1 b1_2 b1_3
  exact limbsOf_walk ha hb a2 b2 W
noncomputable def witnessWorld (os : Os) : World := World.holding Try.prog os ⟨#[], #[], []⟩
theorem witness_reads (os : Os) {H : Type} (enc : TypeId × Value → H) : ∃ places, DataW.whole enc Try.prog ((witnessWorld os).forCall (fun _ _ => 0) ⟨#[], #[.agg #[.int .u64 0, .int .u64 0, .int .u64 0, .int .u64 0], .agg #[.int .u64 0, .int .u64 0, .int .u64 0, .int .u64 0], .int .i64 0], []⟩).memory Try.f3.params.toList Rows.limbsOfSpec.vars false (#[.agg #[.int .u64 0, .int .u64 0, .int .u64 0, .int .u64 0], .agg #[.int .u64 0, .int .u64 0, .int .u64 0, .int .u64 0], .int .i64 0] : Array Value).toList 12 = some ([.agg [.lit (.int .u64 0), .lit (.int .u64 0), .lit (.int .u64 0), .lit (.int .u64 0)], .agg [.lit (.int .u64 0), .lit (.int .u64 0), .lit (.int .u64 0), .lit (.int .u64 0)], .lit (.int .i64 0)], [], places) := ⟨[], by kernel_rfl⟩
set_option maxRecDepth 100000 in
theorem lifted (os : Os) (started : os.Started) (H : Type) (enc : TypeId × Value → H) (F : Stop.Interp) :
    ReturnsInHanded {} Try.checked os 3 .any ((OpenSpec.ofChange Rows.limbsOfSpec).preRow enc Try.prog Try.f3 Rows.limbsOfRow.domain false Rows.limbsOfRow.laid) (((OpenSpec.ofChange Rows.limbsOfSpec).at F).post enc Try.prog Try.f3 false true false false) := by
  obtain ⟨places, hx⟩ := witness_reads os enc
  refine returnsInHanded_of_row (C := Try.checked) (s := (OpenSpec.ofChange Rows.limbsOfSpec)) own started (by kernel_rfl) Try.func3
    (witness_row_at (enc := enc) (C := Try.checked) false (witnessWorld os) #[.agg #[.int .u64 0, .int .u64 0, .int .u64 0, .int .u64 0], .agg #[.int .u64 0, .int .u64 0, .int .u64 0, .int .u64 0], .int .i64 0] rfl (by kernel_rfl) (by kernel_rfl) (by kernel_rfl)
      (OpenSpec.preRow_of_cond 12 hx (by kernel_rfl) (fun k hk => by cases hk) (by kernel_rfl) (laidMet_nil _ _))) ?_
  intro W base args ds gs before hval hW _ hcond hsz hL _ _
  exact contract H enc W base args ds gs before hval hW
/-- THE ROW'S STATEMENT. -/
theorem said : Rows.LimbsOfSaid :=
  OpenClaim.holds_of_cond 3 Try.f3 rfl rfl rfl rfl rfl rfl rfl ⟨rfl, rfl, rfl, rfl, rfl⟩ rfl rfl rfl rfl rfl (by kernel_rfl) Try.func3 (by kernel_rfl)
    (of_decide_eq_true (by kernel_rfl)) (by unfold Func.isWrapper; first | (rw [if_pos (by decide +kernel)]; kernel_rfl) | (rw [if_neg (by decide +kernel)]; exact ⟨rfl, rfl⟩))
    (fun os started H enc _ F => by rw [OpenClaim.pre_eq_preRow]; exact lifted os started H enc F)
/-- THE STATEMENT. -/
theorem proved : Rows.LimbsOfSaid := said
#print axioms proved
end Go.Proofs.Ytdhkkigijcggmaa.limbsOf
