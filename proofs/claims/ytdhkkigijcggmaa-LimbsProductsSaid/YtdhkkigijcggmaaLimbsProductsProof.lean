/- THE STATEMENT LimbsProductsSaid, PROVED: whatever its arguments, the law returns true, and its arguments read as they did. Conditions: none beside the statement's own. -/
import Derived.Test.YtdhkkigijcggmaaRows
import Derived.Test.YtdhkkigijcggmaaCommon
import Derived.Test.YtdhkkigijcggmaaLimbsProducts
namespace Go.Proofs.Ytdhkkigijcggmaa.limbsProducts
open Go.ChangeShapes Go.WideShapes Go.ChangeAt Go.RowKit Go.Deep
set_option linter.unusedVariables false
theorem own : ownKnob Try.prog.godebug = Option.none := by kernel_rfl
theorem reads_ok : ∀ t ∈ Try.f5.params.toList, Try.prog.readableRec t = true ∧ t < Try.prog.types.size := by
  rw [Try.params5]
  intro t ht
  simp only [List.mem_cons, List.not_mem_nil, or_false] at ht
  subst ht
  all_goals exact ⟨by kernel_rfl, of_decide_eq_true (by kernel_rfl)⟩
/-- What the walk gives, for every argument that can be read. -/
theorem contract (H : Type) (enc : TypeId × Value → H) (W : World) (base : Nat) (args : Array Value) (ds gs : List (DataW H)) (before : List MemPlace)
    (hval : ∀ (j : Nat) t v, Try.f5.params[j]? = some t → args[j]? = some v → Value.okWide Try.prog W .any base t v)
    (hW : DataW.Whole enc Try.prog Try.f5.params.toList Rows.limbsProductsSpec.vars false W args.toList ds gs before) :
    Calls Try.prog 5 args W fun e W' => ∃ v, e = .returned v ∧ Rows.limbsProductsSpec.post enc Try.prog Try.f5 false true false false W args v W' := by
  refine law_post (by kernel_rfl) reads_ok rfl rfl Try.underlying4 (fun ds h => by rw [Try.params5] at h; match ds, h with | [d0], _ => rfl) hW ?_
  obtain ⟨p, q, hA0, hV, rfl, hfz, hnd⟩ := hW
  have hA : DataW.TrodAll enc Try.prog W 0 (fun _ => true) true Try.f5.params.toList args.toList ds p := hA0
  rw [Try.params5] at hA hval
  obtain ⟨v0, vs0, d0, ds0, p0, q0, hargs, rfl, rfl, h0, r0⟩ := trodAll_cons hA
  obtain ⟨rfl, rfl, rfl⟩ := trodAll_nil r0
  obtain rfl : args = #[v0] := by cases args; simp_all
  obtain ⟨cs0, rfl, i0⟩ := open_ints_agg (ks := [.u64, .u64, .u64, .u64, .u64, .u64, .u64, .u64, .u64, .u64, .u64, .u64]) (.inl ⟨_, _, Try.underlying36⟩) (by kernel_rfl) (hval 0 36 v0 rfl rfl) h0
  obtain ⟨a0_0, cs0, rfl, w0_0, i0⟩ := ints_cons i0
  have b0_0 := bounds_u64 w0_0
  obtain ⟨a0_1, cs0, rfl, w0_1, i0⟩ := ints_cons i0
  have b0_1 := bounds_u64 w0_1
  obtain ⟨a0_2, cs0, rfl, w0_2, i0⟩ := ints_cons i0
  have b0_2 := bounds_u64 w0_2
  obtain ⟨a0_3, cs0, rfl, w0_3, i0⟩ := ints_cons i0
  have b0_3 := bounds_u64 w0_3
  obtain ⟨a0_4, cs0, rfl, w0_4, i0⟩ := ints_cons i0
  have b0_4 := bounds_u64 w0_4
  obtain ⟨a0_5, cs0, rfl, w0_5, i0⟩ := ints_cons i0
  have b0_5 := bounds_u64 w0_5
  obtain ⟨a0_6, cs0, rfl, w0_6, i0⟩ := ints_cons i0
  have b0_6 := bounds_u64 w0_6
  obtain ⟨a0_7, cs0, rfl, w0_7, i0⟩ := ints_cons i0
  have b0_7 := bounds_u64 w0_7
  obtain ⟨a0_8, cs0, rfl, w0_8, i0⟩ := ints_cons i0
  have b0_8 := bounds_u64 w0_8
  obtain ⟨a0_9, cs0, rfl, w0_9, i0⟩ := ints_cons i0
  have b0_9 := bounds_u64 w0_9
  obtain ⟨a0_10, cs0, rfl, w0_10, i0⟩ := ints_cons i0
  have b0_10 := bounds_u64 w0_10
  obtain ⟨a0_11, cs0, rfl, w0_11, i0⟩ := ints_cons i0
  have b0_11 := bounds_u64 w0_11
  obtain rfl := ints_nil i0
  obtain ⟨a, ha, rfl, rfl, rfl, rfl⟩ := num_of_ints a0_0 a0_1 a0_2 a0_3 b0_0 b0_1 b0_2 b0_3
  obtain ⟨b, hb, rfl, rfl, rfl, rfl⟩ := num_of_ints a0_4 a0_5 a0_6 a0_7 b0_4 b0_5 b0_6 b0_7
  obtain ⟨c, hc, rfl, rfl, rfl, rfl⟩ := num_of_ints a0_8 a0_9 a0_10 a0_11 b0_8 b0_9 b0_10 b0_11
  exact limbsProducts_walk ha hb hc W
noncomputable def witnessWorld (os : Os) : World := World.holding Try.prog os ⟨#[], #[], []⟩
theorem witness_reads (os : Os) {H : Type} (enc : TypeId × Value → H) : ∃ places, DataW.whole enc Try.prog ((witnessWorld os).forCall (fun _ _ => 0) ⟨#[], #[.agg #[.int .u64 0, .int .u64 0, .int .u64 0, .int .u64 0, .int .u64 0, .int .u64 0, .int .u64 0, .int .u64 0, .int .u64 0, .int .u64 0, .int .u64 0, .int .u64 0]], []⟩).memory Try.f5.params.toList Rows.limbsProductsSpec.vars false (#[.agg #[.int .u64 0, .int .u64 0, .int .u64 0, .int .u64 0, .int .u64 0, .int .u64 0, .int .u64 0, .int .u64 0, .int .u64 0, .int .u64 0, .int .u64 0, .int .u64 0]] : Array Value).toList 12 = some ([.agg [.agg [.lit (.int .u64 0), .lit (.int .u64 0), .lit (.int .u64 0), .lit (.int .u64 0)], .agg [.lit (.int .u64 0), .lit (.int .u64 0), .lit (.int .u64 0), .lit (.int .u64 0)], .agg [.lit (.int .u64 0), .lit (.int .u64 0), .lit (.int .u64 0), .lit (.int .u64 0)]]], [], places) := ⟨[], by kernel_rfl⟩
set_option maxRecDepth 100000 in
theorem lifted (os : Os) (started : os.Started) (H : Type) (enc : TypeId × Value → H) (F : Stop.Interp) :
    ReturnsInHanded {} Try.checked os 5 .any ((OpenSpec.ofChange Rows.limbsProductsSpec).preRow enc Try.prog Try.f5 Rows.limbsProductsRow.domain false Rows.limbsProductsRow.laid) (((OpenSpec.ofChange Rows.limbsProductsSpec).at F).post enc Try.prog Try.f5 false true false false) := by
  obtain ⟨places, hx⟩ := witness_reads os enc
  refine returnsInHanded_of_row (C := Try.checked) (s := (OpenSpec.ofChange Rows.limbsProductsSpec)) own started (by kernel_rfl) Try.func5
    (witness_row_at (enc := enc) (C := Try.checked) false (witnessWorld os) #[.agg #[.int .u64 0, .int .u64 0, .int .u64 0, .int .u64 0, .int .u64 0, .int .u64 0, .int .u64 0, .int .u64 0, .int .u64 0, .int .u64 0, .int .u64 0, .int .u64 0]] rfl (by kernel_rfl) (by kernel_rfl) (by kernel_rfl)
      (OpenSpec.preRow_of_cond 12 hx (by kernel_rfl) (fun k hk => by cases hk) (by kernel_rfl) (laidMet_nil _ _))) ?_
  intro W base args ds gs before hval hW _ hcond _ hL _ _
  exact contract H enc W base args ds gs before hval hW
/-- THE ROW'S STATEMENT. -/
theorem said : Rows.LimbsProductsSaid :=
  OpenClaim.holds_of_cond 5 Try.f5 rfl rfl rfl rfl rfl rfl rfl ⟨rfl, rfl, rfl, rfl, rfl⟩ rfl rfl rfl rfl rfl (by kernel_rfl) Try.func5 (by kernel_rfl)
    (of_decide_eq_true (by kernel_rfl)) (by unfold Func.isWrapper; first | (rw [if_pos (by decide +kernel)]; kernel_rfl) | (rw [if_neg (by decide +kernel)]; exact ⟨rfl, rfl⟩))
    (fun os started H enc _ F => by rw [OpenClaim.pre_eq_preRow]; exact lifted os started H enc F)
/-- THE STATEMENT. -/
theorem proved : Rows.LimbsProductsSaid := said
#print axioms proved
end Go.Proofs.Ytdhkkigijcggmaa.limbsProducts
