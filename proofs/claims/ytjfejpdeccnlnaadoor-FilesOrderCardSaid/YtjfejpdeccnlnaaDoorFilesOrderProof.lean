/- THE STATEMENT FilesOrderCardSaid, PROVED: whatever its arguments, the law returns true, and its arguments read as they did. Conditions: none beside the statement's own. -/
import Derived.Test.YtjfejpdeccnlnaaDoorCards
import Derived.Test.YtjfejpdeccnlnaaDoorTie
import Derived.Test.YtjfejpdeccnlnaaDoorCommon
import Derived.Test.YtjfejpdeccnlnaaDoorOrder2
import Derived.Test.YtjfejpdeccnlnaaDoorOpenF
namespace Go.Proofs.YtjfejpdeccnlnaaDoor.filesOrder
open Go.ChangeShapes Go.WideShapes Go.ChangeAt Go.RowKit Go.Deep
set_option linter.unusedVariables false
theorem own : ownKnob Tryd.prog.godebug = Option.none := by kernel_rfl
theorem reads_ok : ∀ t ∈ Tryd.f7.params.toList, Tryd.prog.readableRec t = true ∧ t < Tryd.prog.types.size := by
  rw [Tryd.params7]
  intro t ht
  simp only [List.mem_cons, List.not_mem_nil, or_false] at ht
  rcases ht with rfl | rfl | rfl
  all_goals exact ⟨by kernel_rfl, of_decide_eq_true (by kernel_rfl)⟩
set_option maxRecDepth 100000 in
/-- What the walk gives, for every argument that can be read. -/
theorem contract (H : Type) (enc : TypeId × Value → H) (W : World) (base : Nat) (args : Array Value) (ds gs : List (DataW H)) (before : List MemPlace)
    (hval : ∀ (j : Nat) t v, Tryd.f7.params[j]? = some t → args[j]? = some v → Value.okWide Tryd.prog W .any base t v)
    (hW : DataW.Whole enc Tryd.prog Tryd.f7.params.toList Rows.filesOrderSpec.vars false W args.toList ds gs before) (hL : laidMetH Tryd.prog Rows.filesOrderRow.laid W)
    (hsz : (DataW.weightsEach Tryd.prog (Tryd.f7.params.toList ++ (OpenSpec.ofChange Rows.filesOrderSpec).bare.plain.varTypes Tryd.prog) (ds ++ gs)).all (· ≤ reachBytes) = true) :
    Calls Tryd.prog 7 args W fun e W' => ∃ v, e = .returned v ∧ Rows.filesOrderSpec.post enc Tryd.prog Tryd.f7 false true false false W args v W' := by
  refine law_post (by kernel_rfl) reads_ok rfl rfl Tryd.underlying4 (fun ds h => by rw [Tryd.params7] at h; match ds, h with | [d0, d1, d2], _ => rfl) hW ?_
  obtain ⟨p, q, hA0, hV, rfl, hfz, hnd⟩ := hW
  have hA : DataW.TrodAll enc Tryd.prog W 0 (fun _ => true) true Tryd.f7.params.toList args.toList ds p := hA0
  rw [Tryd.params7] at hA hval
  obtain ⟨v0, vs0, d0, ds0, p0, q0, hargs, rfl, rfl, h0, r0⟩ := trodAll_cons hA
  obtain ⟨v1, vs1, d1, ds1, p1, q1, rfl, rfl, rfl, h1, r1⟩ := trodAll_cons r0
  obtain ⟨v2, vs2, d2, ds2, p2, q2, rfl, rfl, rfl, h2, r2⟩ := trodAll_cons r1
  obtain ⟨rfl, rfl, rfl⟩ := trodAll_nil r2
  obtain rfl : args = #[v0, v1, v2] := by cases args; simp_all
  obtain ⟨v0_0, v0_1, l0_0, l0_1, rfl, k0_0, k0_1, y0_0, y0_1, z0_0, z0_1⟩ := open_two_strs Tryd.underlying53 (by kernel_rfl) (by kernel_rfl) Tryd.underlying52 Tryd.underlying9 (by kernel_rfl) (by kernel_rfl) (hval 0 53 v0 rfl rfl) h0 (arg_reach hsz (j := 0) (t := 53) (by rw [Tryd.params7]; rfl) rfl)
  obtain ⟨l1, k1⟩ := open_bools Tryd.underlying24 Tryd.underlying4 (by kernel_rfl) (hval 1 24 v1 rfl rfl) h1
  obtain ⟨a2, rfl, rfl, rfl, w2⟩ := open_int Tryd.underlying5 (hval 2 5 v2 rfl rfl) h2
  have b2 := bounds_u8 w2
  obtain ⟨n2, rfl⟩ : ∃ n2 : Nat, a2 = (n2 : Int) := ⟨a2.toNat, by omega⟩
  have hk2 : n2 < 256 := by omega
  have hsz' := hsz
  clear hsz
  by_cases h1 : 20 < l0_0.length
  · exact filesOrder_big0 v0_0 v0_1 v1 l0_0 l0_1 l1 n2 hk2 W k0_0 k0_1 k1 y0_0 y0_1 z0_0 z0_1 h1
  · by_cases h2 : 20 < l0_1.length
    · exact filesOrder_big1 v0_0 v0_1 v1 l0_0 l0_1 l1 n2 hk2 W k0_0 k0_1 k1 y0_0 y0_1 z0_0 z0_1 ⟨h1, h2⟩
    · by_cases h3 : 20000 < textsN l0_0 + textsN l0_1
      · exact filesOrder_big2 v0_0 v0_1 v1 l0_0 l0_1 l1 n2 hk2 W k0_0 k0_1 k1 y0_0 y0_1 z0_0 z0_1 ⟨h1, h2, h3⟩
      · exact filesOrder_small v0_0 v0_1 v1 l0_0 l0_1 l1 n2 hk2 W k0_0 k0_1 k1 y0_0 y0_1 z0_0 z0_1 ⟨by omega, by omega, by omega⟩
noncomputable def witnessWorld (os : Os) : World :=
  { World.holding Tryd.prog os ⟨#[], #[], []⟩ with heap := (((World.holding Tryd.prog os ⟨#[], #[], []⟩).heap.modify 1 fun | .cells _ t frozen => .cells #[.int .u8 128, .int .u8 191, .int .u8 160, .int .u8 191, .int .u8 128, .int .u8 159, .int .u8 144, .int .u8 191, .int .u8 128, .int .u8 143, .int .u8 0, .int .u8 0, .int .u8 0, .int .u8 0, .int .u8 0, .int .u8 0, .int .u8 0, .int .u8 0, .int .u8 0, .int .u8 0, .int .u8 0, .int .u8 0, .int .u8 0, .int .u8 0, .int .u8 0, .int .u8 0, .int .u8 0, .int .u8 0, .int .u8 0, .int .u8 0, .int .u8 0, .int .u8 0] t frozen | o => o).modify 0 fun | .cells _ t frozen => .cells ((Go.Pinned.utf8FirstZ.map fun n : Nat => Value.int .u8 (n : Int)).toArray) t frozen | o => o) }
theorem witness_reads (os : Os) {H : Type} (enc : TypeId × Value → H) : ∃ places, DataW.whole enc Tryd.prog ((witnessWorld os).forCall (fun _ _ => 0) ⟨#[], #[.agg #[.slice Option.none 0 0, .slice Option.none 0 0], .slice Option.none 0 0, .int .u8 0], []⟩).memory Tryd.f7.params.toList Rows.filesOrderSpec.vars false (#[.agg #[.slice Option.none 0 0, .slice Option.none 0 0], .slice Option.none 0 0, .int .u8 0] : Array Value).toList 12 = some ([.agg [.nil, .nil], .nil, .lit (.int .u8 0)], [], places) := ⟨[], by kernel_rfl⟩
theorem laid_met (os : Os) : laidMet Tryd.prog Rows.filesOrderRow.laid ((witnessWorld os).forCall (fun _ _ => 0) ⟨#[], #[.agg #[.slice Option.none 0 0, .slice Option.none 0 0], .slice Option.none 0 0, .int .u8 0], []⟩).memory := laidMet_of_run' 8 (by kernel_rfl) (by kernel_rfl)
set_option maxRecDepth 100000 in
theorem lifted (os : Os) (started : os.Started) (H : Type) (enc : TypeId × Value → H) (F : Stop.Interp) :
    ReturnsInHanded {} Tryd.checked os 7 .any ((OpenSpec.ofChange Rows.filesOrderSpec).preRow enc Tryd.prog Tryd.f7 Rows.filesOrderRow.domain false Rows.filesOrderRow.laid) (((OpenSpec.ofChange Rows.filesOrderSpec).at F).post enc Tryd.prog Tryd.f7 false true false false) := by
  obtain ⟨places, hx⟩ := witness_reads os enc
  refine returnsInHanded_of_row (C := Tryd.checked) (s := (OpenSpec.ofChange Rows.filesOrderSpec)) own started (by kernel_rfl) Tryd.func7
    (witness_row_at (enc := enc) (C := Tryd.checked) false (witnessWorld os) #[.agg #[.slice Option.none 0 0, .slice Option.none 0 0], .slice Option.none 0 0, .int .u8 0] rfl (by kernel_rfl) (by kernel_rfl) (by kernel_rfl)
      (OpenSpec.preRow_of_cond 12 hx (by kernel_rfl) (fun k hk => by cases hk) (by kernel_rfl) (laid_met os))) ?_
  intro W base args ds gs before hval hW _ hcond hsz hL _ _
  exact contract H enc W base args ds gs before hval hW hL hsz
/-- THE ROW'S STATEMENT. -/
theorem said : Rows.FilesOrderSaid :=
  OpenClaim.holds_of_cond 7 Tryd.f7 rfl rfl rfl rfl rfl rfl rfl ⟨rfl, rfl, rfl, rfl, rfl⟩ rfl rfl rfl rfl rfl (by kernel_rfl) Tryd.func7 (by kernel_rfl)
    (of_decide_eq_true (by kernel_rfl)) (by unfold Func.isWrapper; first | (rw [if_pos (by decide +kernel)]; kernel_rfl) | (rw [if_neg (by decide +kernel)]; exact ⟨rfl, rfl⟩))
    (fun os started H enc _ F => by rw [OpenClaim.pre_eq_preRow]; exact lifted os started H enc F)
/-- No parameter wants a stand-in; the program's own looks are off: what the card asks. -/
theorem plain (f : FuncId) (fn : Func) (hf : Tryd.pinned.checked.prog.funcNamed "balefire/balefirelaw17.FilesOrder" = some f) (hfn : Tryd.pinned.checked.prog.funcs[f]? = some fn) :
    false = Tryd.pinned.checked.prog.looks [] ∧ ∀ (j : Nat) t, fn.params[j]? = some t → Tryd.pinned.checked.prog.wantsStandIn t = false := by
  obtain rfl : f = 7 := Option.some.inj ((show Tryd.prog.funcNamed "balefire/balefirelaw17.FilesOrder" = some 7 by kernel_rfl).symm.trans hf) |>.symm
  obtain rfl : fn = Tryd.f7 := (Option.some.inj (Tryd.func7.symm.trans hfn)).symm
  refine ⟨by kernel_rfl, fun j t ht => ?_⟩
  rw [Tryd.params7] at ht
  have hm := Array.mem_of_getElem? ht
  simp only [List.mem_toArray, List.mem_cons, List.not_mem_nil, or_false] at hm
  rcases hm with rfl | rfl | rfl
  · exact (show Tryd.prog.wantsStandIn 53 = false by kernel_rfl)
  · exact (show Tryd.prog.wantsStandIn 24 = false by kernel_rfl)
  · exact (show Tryd.prog.wantsStandIn 5 = false by kernel_rfl)
/-- THE CARD. -/
theorem proved : Rows.FilesOrderCardSaid :=
  Claim7.holds_tied_plain_at .later [] _ _ _ _ said (fun _ h => by cases h) (by kernel_rfl) (fun _ h => by cases h) filesOrder_row_tie rfl ⟨rfl, rfl⟩ (by kernel_rfl) rfl plain (by kernel_rfl)
#print axioms proved
end Go.Proofs.YtjfejpdeccnlnaaDoor.filesOrder
