/- THE STATEMENT NumsOrderSaid, PROVED: whatever its arguments, the law returns true, and its arguments read as they did. Conditions: none beside the statement's own. -/
import Derived.Test.YtplhfbflgjnjmaaRows
import Derived.Test.YtplhfbflgjnjmaaCommon
import Derived.Test.YtplhfbflgjnjmaaNumsOrder
namespace Go.Proofs.Ytplhfbflgjnjmaa.numsOrder
open Go.ChangeShapes Go.WideShapes Go.ChangeAt Go.RowKit Go.Deep
set_option linter.unusedVariables false
theorem own : ownKnob Try.prog.godebug = Option.none := by kernel_rfl
theorem reads_ok : ∀ t ∈ Try.f5.params.toList, Try.prog.readableRec t = true ∧ t < Try.prog.types.size := by
  rw [Try.params5]
  intro t ht
  simp only [List.mem_cons, List.not_mem_nil, or_false] at ht
  rcases ht with rfl | rfl | rfl
  all_goals exact ⟨by kernel_rfl, of_decide_eq_true (by kernel_rfl)⟩
/-- What the walk gives, for every argument that can be read. -/
theorem contract (H : Type) (enc : TypeId × Value → H) (W : World) (base : Nat) (args : Array Value) (ds gs : List (DataW H)) (before : List MemPlace)
    (hval : ∀ (j : Nat) t v, Try.f5.params[j]? = some t → args[j]? = some v → Value.okWide Try.prog W .any base t v)
    (hW : DataW.Whole enc Try.prog Try.f5.params.toList Rows.numsOrderSpec.vars false W args.toList ds gs before) :
    Calls Try.prog 5 args W fun e W' => ∃ v, e = .returned v ∧ Rows.numsOrderSpec.post enc Try.prog Try.f5 false true false false W args v W' := by
  refine law_post (by kernel_rfl) reads_ok rfl rfl Try.underlying4 (fun ds h => by rw [Try.params5] at h; match ds, h with | [d0, d1, d2], _ => rfl) hW ?_
  obtain ⟨p, q, hA0, hV, rfl, hfz, hnd⟩ := hW
  have hA : DataW.TrodAll enc Try.prog W 0 (fun _ => true) true Try.f5.params.toList args.toList ds p := hA0
  rw [Try.params5] at hA hval
  obtain ⟨v0, vs0, d0, ds0, p0, q0, hargs, rfl, rfl, h0, r0⟩ := trodAll_cons hA
  obtain ⟨v1, vs1, d1, ds1, p1, q1, rfl, rfl, rfl, h1, r1⟩ := trodAll_cons r0
  obtain ⟨v2, vs2, d2, ds2, p2, q2, rfl, rfl, rfl, h2, r2⟩ := trodAll_cons r1
  obtain ⟨rfl, rfl, rfl⟩ := trodAll_nil r2
  obtain rfl : args = #[v0, v1, v2] := by cases args; simp_all
  obtain ⟨a0, rfl, rfl, rfl, w0⟩ := open_int Try.underlying22 (hval 0 22 v0 rfl rfl) h0
  have b0 := bounds_u64 w0
  obtain ⟨a1, rfl, rfl, rfl, w1⟩ := open_int Try.underlying22 (hval 1 22 v1 rfl rfl) h1
  have b1 := bounds_u64 w1
  obtain ⟨cs2, rfl, i2⟩ := open_ints_agg (ks := [.u64, .u64, .u64, .u64, .u64, .u64, .u64, .u64]) (.inl ⟨_, _, Try.underlying45⟩) (by kernel_rfl) (hval 2 45 v2 rfl rfl) h2
  obtain ⟨a2_0, cs2, rfl, w2_0, i2⟩ := ints_cons i2
  have b2_0 := bounds_u64 w2_0
  obtain ⟨a2_1, cs2, rfl, w2_1, i2⟩ := ints_cons i2
  have b2_1 := bounds_u64 w2_1
  obtain ⟨a2_2, cs2, rfl, w2_2, i2⟩ := ints_cons i2
  have b2_2 := bounds_u64 w2_2
  obtain ⟨a2_3, cs2, rfl, w2_3, i2⟩ := ints_cons i2
  have b2_3 := bounds_u64 w2_3
  obtain ⟨a2_4, cs2, rfl, w2_4, i2⟩ := ints_cons i2
  have b2_4 := bounds_u64 w2_4
  obtain ⟨a2_5, cs2, rfl, w2_5, i2⟩ := ints_cons i2
  have b2_5 := bounds_u64 w2_5
  obtain ⟨a2_6, cs2, rfl, w2_6, i2⟩ := ints_cons i2
  have b2_6 := bounds_u64 w2_6
  obtain ⟨a2_7, cs2, rfl, w2_7, i2⟩ := ints_cons i2
  have b2_7 := bounds_u64 w2_7
  obtain rfl := ints_nil i2
  obtain ⟨m, rfl⟩ : ∃ m : Nat, a0 = m := ⟨a0.toNat, by omega⟩
  obtain ⟨n, rfl⟩ : ∃ n : Nat, a1 = n := ⟨a1.toNat, by omega⟩
  obtain ⟨x, hx, rfl, rfl, rfl, rfl⟩ := four_of_ints a2_0 a2_1 a2_2 a2_3 b2_0 b2_1 b2_2 b2_3
  obtain ⟨y, hy, rfl, rfl, rfl, rfl⟩ := four_of_ints a2_4 a2_5 a2_6 a2_7 b2_4 b2_5 b2_6 b2_7
  exact numsOrder_walk m n x y (by omega) (by omega) hx hy W
noncomputable def witnessWorld (os : Os) : World := World.holding Try.prog os ⟨#[], #[], []⟩
theorem witness_reads (os : Os) {H : Type} (enc : TypeId × Value → H) : ∃ places, DataW.whole enc Try.prog ((witnessWorld os).forCall (fun _ _ => 0) ⟨#[], #[.int .u64 0, .int .u64 0, .agg #[.int .u64 0, .int .u64 0, .int .u64 0, .int .u64 0, .int .u64 0, .int .u64 0, .int .u64 0, .int .u64 0]], []⟩).memory Try.f5.params.toList Rows.numsOrderSpec.vars false (#[.int .u64 0, .int .u64 0, .agg #[.int .u64 0, .int .u64 0, .int .u64 0, .int .u64 0, .int .u64 0, .int .u64 0, .int .u64 0, .int .u64 0]] : Array Value).toList 12 = some ([.lit (.int .u64 0), .lit (.int .u64 0), .agg [.agg [.lit (.int .u64 0), .lit (.int .u64 0), .lit (.int .u64 0), .lit (.int .u64 0)], .agg [.lit (.int .u64 0), .lit (.int .u64 0), .lit (.int .u64 0), .lit (.int .u64 0)]]], [], places) := ⟨[], by kernel_rfl⟩
set_option maxRecDepth 100000 in
theorem lifted (os : Os) (started : os.Started) (H : Type) (enc : TypeId × Value → H) (F : Stop.Interp) :
    ReturnsInHanded {} Try.checked os 5 .any ((OpenSpec.ofChange Rows.numsOrderSpec).preRow enc Try.prog Try.f5 Rows.numsOrderRow.domain false Rows.numsOrderRow.laid) (((OpenSpec.ofChange Rows.numsOrderSpec).at F).post enc Try.prog Try.f5 false true false false) := by
  obtain ⟨places, hx⟩ := witness_reads os enc
  refine returnsInHanded_of_row (C := Try.checked) (s := (OpenSpec.ofChange Rows.numsOrderSpec)) own started (by kernel_rfl) Try.func5
    (witness_row_at (enc := enc) (C := Try.checked) false (witnessWorld os) #[.int .u64 0, .int .u64 0, .agg #[.int .u64 0, .int .u64 0, .int .u64 0, .int .u64 0, .int .u64 0, .int .u64 0, .int .u64 0, .int .u64 0]] rfl (by kernel_rfl) (by kernel_rfl) (by kernel_rfl)
      (OpenSpec.preRow_of_cond 12 hx (by kernel_rfl) (fun k hk => by cases hk) (by kernel_rfl) (laidMet_nil _ _))) ?_
  intro W base args ds gs before hval hW _ hcond _ hL _ _
  exact contract H enc W base args ds gs before hval hW
/-- THE ROW'S STATEMENT. -/
theorem said : Rows.NumsOrderSaid :=
  OpenClaim.holds_of_cond 5 Try.f5 rfl rfl rfl rfl rfl rfl rfl ⟨rfl, rfl, rfl, rfl, rfl⟩ rfl rfl rfl rfl rfl (by kernel_rfl) Try.func5 (by kernel_rfl)
    (of_decide_eq_true (by kernel_rfl)) (by unfold Func.isWrapper; first | (rw [if_pos (by decide +kernel)]; kernel_rfl) | (rw [if_neg (by decide +kernel)]; exact ⟨rfl, rfl⟩))
    (fun os started H enc _ F => by rw [OpenClaim.pre_eq_preRow]; exact lifted os started H enc F)
/-- THE STATEMENT. -/
theorem proved : Rows.NumsOrderSaid := said
#print axioms proved
end Go.Proofs.Ytplhfbflgjnjmaa.numsOrder
