/- THE STATEMENT BallotsNoneSaid, PROVED: whatever its arguments, the law returns true, and its arguments read as they did. Conditions: none beside the statement's own. -/
import Derived.Test.YtdpkpcbikbbcbaaGreatRows
import Derived.Test.YtdpkpcbikbbcbaaGreatBZWG01
import Derived.Test.YtdpkpcbikbbcbaaGreatBZWG48
import Derived.Test.YtdpkpcbikbbcbaaGreatBZWG52
namespace Go.Proofs.YtdpkpcbikbbcbaaGreat.ballotsNone
open Go.ChangeShapes Go.WideShapes Go.ChangeAt Go.RowKit Go.Deep
set_option linter.unusedVariables false
theorem own : ownKnob Tryz.prog.godebug = Option.none := by kernel_rfl
theorem reads_ok : ∀ t ∈ Tryz.f4.params.toList, Tryz.prog.readableRec t = true ∧ t < Tryz.prog.types.size := by
  rw [Tryz.params4]
  intro t ht
  simp only [List.mem_cons, List.not_mem_nil, or_false] at ht
  subst ht
  all_goals exact ⟨by kernel_rfl, of_decide_eq_true (by kernel_rfl)⟩
set_option maxRecDepth 100000 in
/-- What the walk gives, for every argument that can be read. -/
theorem contract (H : Type) (enc : TypeId × Value → H) (W : World) (base : Nat) (args : Array Value) (ds gs : List (DataW H)) (before : List MemPlace)
    (hval : ∀ (j : Nat) t v, Tryz.f4.params[j]? = some t → args[j]? = some v → Value.okWide Tryz.prog W .any base t v)
    (hW : DataW.Whole enc Tryz.prog Tryz.f4.params.toList Rows.ballotsNoneSpec.vars false W args.toList ds gs before) :
    Calls Tryz.prog 4 args W fun e W' => ∃ v, e = .returned v ∧ Rows.ballotsNoneSpec.post enc Tryz.prog Tryz.f4 false true false false W args v W' := by
  refine law_post (by kernel_rfl) reads_ok rfl rfl Tryz.underlying4 (fun ds h => by rw [Tryz.params4] at h; match ds, h with | [d0], _ => rfl) hW ?_
  obtain ⟨p, q, hA0, hV, rfl, hfz, hnd⟩ := hW
  have hA : DataW.TrodAll enc Tryz.prog W 0 (fun _ => true) true Tryz.f4.params.toList args.toList ds p := hA0
  rw [Tryz.params4] at hA hval
  obtain ⟨v0, vs0, d0, ds0, p0, q0, hargs, rfl, rfl, h0, r0⟩ := trodAll_cons hA
  obtain ⟨rfl, rfl, rfl⟩ := trodAll_nil r0
  obtain rfl : args = #[v0] := by cases args; simp_all
  obtain ⟨gp0, gq0, gg0, gh0, lg0, fa0, se0, ao0, n0, cap0, sk0, al0, m0, lc0, l0, xx0, kk0, rfl, m0_0, m0_1, m0_2, m0_3, m0_4, m0_5, m0_6, m0_7, m0_8, m0_9, m0_10, m0_11, c0_0, c0_1, c0_2, c0_3, c0_4, x0_0, x0_1⟩ := open_none (hval 0 59 v0 rfl rfl) h0
  exact ballotsNone_walk m0_0 m0_1 m0_2 m0_4 m0_5 m0_6 m0_10 m0_7 m0_8 m0_9 c0_0 c0_1 c0_2 c0_3 x0_0 x0_1 W m0_11 c0_4
noncomputable def witnessWorld (os : Os) : World := World.holding Tryz.prog os ⟨#[], #[], []⟩
theorem witness_reads (os : Os) {H : Type} (enc : TypeId × Value → H) : ∃ places, DataW.whole enc Tryz.prog ((witnessWorld os).forCall (fun _ _ => 0) ⟨#[], #[.agg #[.int .u64 0, .int .u64 0, .int .u64 0, .int .u64 0, .int .u64 0, .int .u64 0, .int .u64 0, .int .u64 0, .int .u64 0, .int .u64 0, .int .u64 0, .int .u64 0, .int .u64 0, .int .u64 0, .int .u64 0, .int .u64 0, .int .u64 0, .int .u64 0, .int .u64 0, .int .u64 0, .int .i64 0, .int .i64 0, .slice Option.none 0 0, .slice Option.none 0 0, .int .u8 0, .int .u8 0, .bool false, .int .u8 0, .int .u8 0]], []⟩).memory Tryz.f4.params.toList Rows.ballotsNoneSpec.vars false (#[.agg #[.int .u64 0, .int .u64 0, .int .u64 0, .int .u64 0, .int .u64 0, .int .u64 0, .int .u64 0, .int .u64 0, .int .u64 0, .int .u64 0, .int .u64 0, .int .u64 0, .int .u64 0, .int .u64 0, .int .u64 0, .int .u64 0, .int .u64 0, .int .u64 0, .int .u64 0, .int .u64 0, .int .i64 0, .int .i64 0, .slice Option.none 0 0, .slice Option.none 0 0, .int .u8 0, .int .u8 0, .bool false, .int .u8 0, .int .u8 0]] : Array Value).toList 12 = some ([.agg [.agg [.agg [.agg [.lit (.int .u64 0), .lit (.int .u64 0), .lit (.int .u64 0), .lit (.int .u64 0)], .agg [.lit (.int .u64 0), .lit (.int .u64 0), .lit (.int .u64 0), .lit (.int .u64 0)], .agg [.lit (.int .u64 0), .lit (.int .u64 0), .lit (.int .u64 0), .lit (.int .u64 0)], .agg [.lit (.int .u64 0), .lit (.int .u64 0), .lit (.int .u64 0), .lit (.int .u64 0)]], .agg [.lit (.int .u64 0), .lit (.int .u64 0), .lit (.int .u64 0), .lit (.int .u64 0)], .lit (.int .i64 0), .lit (.int .i64 0), .nil], .nil, .agg [.lit (.int .u8 0), .lit (.int .u8 0), .lit (.bool false), .lit (.int .u8 0)], .lit (.int .u8 0)]], [], places) := ⟨[], by kernel_rfl⟩
set_option maxRecDepth 100000 in
theorem lifted (os : Os) (started : os.Started) (H : Type) (enc : TypeId × Value → H) (F : Stop.Interp) :
    ReturnsInHanded {} Tryz.checked os 4 .any ((OpenSpec.ofChange Rows.ballotsNoneSpec).preRow enc Tryz.prog Tryz.f4 Rows.ballotsNoneRow.domain false Rows.ballotsNoneRow.laid) (((OpenSpec.ofChange Rows.ballotsNoneSpec).at F).post enc Tryz.prog Tryz.f4 false true false false) := by
  obtain ⟨places, hx⟩ := witness_reads os enc
  refine returnsInHanded_of_row (C := Tryz.checked) (s := (OpenSpec.ofChange Rows.ballotsNoneSpec)) own started (by kernel_rfl) Tryz.func4
    (witness_row_at (enc := enc) (C := Tryz.checked) false (witnessWorld os) #[.agg #[.int .u64 0, .int .u64 0, .int .u64 0, .int .u64 0, .int .u64 0, .int .u64 0, .int .u64 0, .int .u64 0, .int .u64 0, .int .u64 0, .int .u64 0, .int .u64 0, .int .u64 0, .int .u64 0, .int .u64 0, .int .u64 0, .int .u64 0, .int .u64 0, .int .u64 0, .int .u64 0, .int .i64 0, .int .i64 0, .slice Option.none 0 0, .slice Option.none 0 0, .int .u8 0, .int .u8 0, .bool false, .int .u8 0, .int .u8 0]] rfl (by kernel_rfl) (by kernel_rfl) (by kernel_rfl)
      (OpenSpec.preRow_of_cond 12 hx (by kernel_rfl) (fun k hk => by cases hk) (by kernel_rfl) (laidMet_nil _ _))) ?_
  intro W base args ds gs before hval hW _ hcond hsz hL _ _
  exact contract H enc W base args ds gs before hval hW
/-- THE ROW'S STATEMENT. -/
theorem said : Rows.BallotsNoneSaid :=
  OpenClaim.holds_of_cond 4 Tryz.f4 rfl rfl rfl rfl rfl rfl rfl ⟨rfl, rfl, rfl, rfl, rfl⟩ rfl rfl rfl rfl rfl (by kernel_rfl) Tryz.func4 (by kernel_rfl)
    (of_decide_eq_true (by kernel_rfl)) (by unfold Func.isWrapper; first | (rw [if_pos (by decide +kernel)]; kernel_rfl) | (rw [if_neg (by decide +kernel)]; exact ⟨rfl, rfl⟩))
    (fun os started H enc _ F => by rw [OpenClaim.pre_eq_preRow]; exact lifted os started H enc F)
/-- THE STATEMENT. -/
theorem proved : Rows.BallotsNoneSaid := said
#print axioms proved
end Go.Proofs.YtdpkpcbikbbcbaaGreat.ballotsNone
