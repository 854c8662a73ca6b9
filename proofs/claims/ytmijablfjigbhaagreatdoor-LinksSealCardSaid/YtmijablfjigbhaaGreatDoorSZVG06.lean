/- Layer 5 (shas) -/
import Derived.Test.YtmijablfjigbhaaGreatDoorSZVG05
import Derived.Deep.WholeRow
import Derived.Deep.MidRow
import Derived.Deep.DeepCutAuto
set_option maxHeartbeats 1500000
set_option maxRecDepth 20000
namespace Go.Proofs.YtmijablfjigbhaaGreatDoor
open Go.ChangeShapes Go.WideShapes Go.ChangeAt Go.RowKit
theorem ji {P : Program} {ops : Array Oper} {rest : List Oper} {o : Oper} {a : Act} {w : World} {Q : Exit → Act → World → Prop} {v : Value} (hgd : o.guard = none) (h : (execOp a.eval o).run P w = .ok (.value v) w)
  (k : wpList P ops Q rest (a.put o.dst v) w) : wpList P ops Q (o :: rest) a w :=
 wpList_plain hgd fun _ hK => by
  unfold Oper.wp; rw [h]; exact hK _ _ k
theorem qg {P : Program} {ops : Array Oper} {rest : List Oper} {o : Oper} {a : Act} {w : World} {Q : Exit → Act → World → Prop} (hgd : o.guard = none) (ty : TypeId) (x y : Operand) (ho : o.op = .store ty x y) (c T : Array Value)
  (hx : a.eval x = .pointer (some ⟨w.heap.size, 0, none⟩)) (hy : a.eval y = .agg T) (hi : (P.info? ty).map (·.size) = some T.size) (hc : c.size = T.size) (h1 : T.all (·.oneCell') = true)
  (k : wpList P ops Q rest (a.put o.dst undef) (w.alloc (.cells T ty))) : wpList P ops Q (o :: rest) a (w.alloc (.cells c ty)) :=
 wpList_plain hgd fun _ hK => by
  unfold Oper.wp execOp; simp only [ho, hx, hy, Sem.run_bind, run_storeAt_new w ty c T hi hc h1, Result.andThen_ok, Sem.run_pure]; exact hK _ _ k
def S8.val (s : S8) : Value := .agg #[.int .u32 s.a, .int .u32 s.b, .int .u32 s.c, .int .u32 s.d, .int .u32 s.e, .int .u32 s.f, .int .u32 s.g, .int .u32 s.h]
theorem info8 : (Tryz.prog.info? 247).map (fun i => (i.zero, i.size)) = some (some (.agg (Array.replicate 8 (.int .u32 0))), 8) := by kernel_rfl
theorem info64 : (Tryz.prog.info? 279).map (fun i => (i.zero, i.size)) = some (some (.agg (Array.replicate 64 (.int .u32 0))), 64) := by kernel_rfl
theorem zY (k : IntKind) (l : List Nat) : (jp k l).toArray.all (·.oneCell') = true := all_oneCell_toArray (zI k l)
theorem aY (w : World) : Calls Tryz.prog 186 #[] w fun e w' => e = .returned iC.val ∧ Below w.heap.size w w' := by
 obtain ⟨hz, hs⟩ := zero_of_info info8
 go_enter Tryz.func186, Tryz.ntmps186
 go_upto_region 1 with fail
 refine wp_region_lit ?_; refine ji (v := iC.val) rfl (by kernel_rfl) ?_; obtain ⟨T, hT⟩ : ∃ T : Array Value, iC.val = .agg T := ⟨_, rfl⟩; have hn : T.size = 8 := by unfold S8.val at hT; injection hT with hT; rw [← hT]; rfl
 have ho : T.all (·.oneCell') = true := by unfold S8.val at hT; injection hT with hT; rw [← hT]; simp [go_sem, Value.oneCell']
 rw [hT]; refine qg rfl _ _ _ rfl _ T rfl rfl (by rw [hs, hn]) (by rw [hn]; rfl) ho ?_
 go_wp2
 have h9 := results_cell_row (P := Tryz.prog) (fn := Tryz.f186) rfl #[Value.pointer (some ⟨w.heap.size, 0, none⟩), .agg T] (w.alloc (.cells T 247)) w.heap.size _ _ _ _ rfl (heap_alloc_new _ _) Tryz.underlying247 rfl (by rw [hs, hn]); exact bodyPost_ret h9 rfl ⟨by rw [hT], ja⟩
theorem oW (w : World) : Calls Tryz.prog 230 #[] w fun e w' => e = .returned (.agg (jp .u32 Qv).toArray) ∧ Below w.heap.size w w' := by
 obtain ⟨hz, hs⟩ := zero_of_info info64
 go_enter Tryz.func230, Tryz.ntmps230
 go_upto_region 1 with fail
 refine wp_region_lit ?_; refine ji (v := .agg (jp .u32 Qv).toArray) rfl (by kernel_rfl) ?_; obtain ⟨T, hT⟩ := je ((jp .u32 Qv).toArray); have hn : T.size = 64 := by rw [hT]; rfl
 have ho : T.all (·.oneCell') = true := by rw [hT]; exact zY _ _
 rw [← hT]; refine qg rfl _ _ _ rfl _ T rfl rfl (by rw [hs, hn]) (by rw [hn]; rfl) ho ?_
 go_wp2
 have h9 := results_cell_row (P := Tryz.prog) (fn := Tryz.f230) rfl #[Value.pointer (some ⟨w.heap.size, 0, none⟩), .agg T] (w.alloc (.cells T 279)) w.heap.size _ _ _ _ rfl (heap_alloc_new _ _) Tryz.underlying279 rfl (by rw [hs, hn]); exact bodyPost_ret h9 rfl ⟨by rw [hT], ja⟩
end Go.Proofs.YtmijablfjigbhaaGreatDoor
