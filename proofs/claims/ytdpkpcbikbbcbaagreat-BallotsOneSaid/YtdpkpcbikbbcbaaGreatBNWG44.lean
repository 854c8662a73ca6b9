/- The law's own set -/
import Derived.Test.YtdpkpcbikbbcbaaGreatBNWG40
set_option linter.unusedSimpArgs false
set_option linter.unusedVariables false
set_option maxHeartbeats 1000000
set_option maxRecDepth 20000
namespace Go.Proofs.YtdpkpcbikbbcbaaGreat
open Go.ChangeShapes Go.WideShapes Go.ChangeAt Go.RowKit
def zero32 : Array Value := #[.int .u8 0, .int .u8 0, .int .u8 0, .int .u8 0, .int .u8 0, .int .u8 0, .int .u8 0, .int .u8 0, .int .u8 0, .int .u8 0, .int .u8 0, .int .u8 0, .int .u8 0, .int .u8 0, .int .u8 0, .int .u8 0, .int .u8 0, .int .u8 0, .int .u8 0, .int .u8 0, .int .u8 0, .int .u8 0, .int .u8 0, .int .u8 0, .int .u8 0, .int .u8 0, .int .u8 0, .int .u8 0, .int .u8 0, .int .u8 0, .int .u8 0, .int .u8 0]
theorem set_any {x : Nat} (hx : x < 256) (w : World) : Calls Tryz.prog 20 #[.int .u8 x] w fun r w' => r = .returned (.agg (jt .u8 (qM (x % 4))).toArray) ∧ Below w.heap.size w w' := by
 obtain ⟨y, hy⟩ := je (x % 4); have hy4 : y < 4 := by omega
 obtain ⟨T, hT⟩ := je ((jt .u8 (qM y)).toArray); have hTs : T.size = 32 := by rw [hT]; simp [jv, qg]
 have h1T : T.all (·.oneCell') = true := by rw [hT]; exact qC _ _
 have hszT : (Tryz.prog.info? 48).map (·.size) = some T.size := by rw [qw, hTs]
 have hset : zero32.setIfInBounds 0 (.int .u8 (y : Int)) = T := by rw [hT]; rfl
 have E1 : ((x : Int)).tmod 4 = (y : Int) := by rw [hy]; rfl
 have E2 : IntKind.u8.wrap (y : Int) = (y : Int) := by simp [IntKind.wrap, IntKind.bits, IntKind.signed]; omega
 have HST := jh hset; have HTS := jh hTs; have H1T := jh h1T; rw [← hy, ← hT]; clear hy hT hTs h1T hset hx hy4
 go_enter Tryz.func20, Tryz.ntmps20
 go_upto_region 2 with fail
 obtain ⟨w1, e1⟩ := je (w.alloc (.cells zero32 48)); obtain ⟨w2, e2⟩ := je (w1.alloc (.cells zero32 48)); unfold zero32 at e1 e2; rw [← e1, ← e2]; have s1 : w1.heap.size = w.heap.size + 1 := by rw [e1]; simp
 have b1 := jc e1; have b2 := jc e2; have f1 : w1.heap[w.heap.size]? = some (.cells zero32 48 (0, 0)) := by rw [e1]; exact heap_alloc_new _ _
 have f2 : w2.heap[w.heap.size + 1]? = some (.cells zero32 48 (0, 0)) := by rw [← s1, e2]; exact heap_alloc_new _ _
 obtain ⟨RB, hRB⟩ := je (w.heap.size); rw [← hRB] at f1 f2 ⊢; obtain ⟨HB9, hHB⟩ := je (RB + 1); rw [← hHB] at f2 ⊢; have HR := jh ((b2.block _ (by omega)).trans f1); have HH := jh f2; have HB := jh (jm b1 b2); have NB := jh (show RB < HB9 ∧ w.heap.size ≤ RB by omega); clear e1 e2 s1 b1 b2 f1 f2 hRB hHB; have c0 : w2.cell? ⟨HB9, 0, none⟩ = some (.int .u8 0) := cell_of_row w2 HB9 0 _ _ (0, 0) HH.out; have g0 : w2.frozen? ⟨HB9, 0, none⟩ = false := by simp [World.frozen?, HH.out]
 go_upto_region 3 with fail
 clear c0 g0; obtain ⟨w3, e3⟩ := je (w2.setCell ⟨HB9, 0, none⟩ (.int .u8 (y : Int))); have er : w3 = w2.setRow HB9 T := by rw [e3, setCell_eq_setRow w2 HB9 0 _ _ _ _ HH.out, HST.out]
 have hh3 : w3.heap[HB9]? = some (.cells T 48 (0, 0)) := by rw [er]; exact setRow_heap _ _ _ _ _ _ HH.out
 have hr3 : w3.heap[RB]? = some (.cells zero32 48 (0, 0)) := by rw [er]; exact (setRow_other _ _ _ _ (by have := NB.out; omega)).trans HR.out
 have hb3 : Below w.heap.size w w3 := by rw [er]; exact below_setRow HB.out (by have := NB.out; omega) _
 rw [← e3]; clear e3 er; refine wp_region_lit ?_; refine ji rfl (jg (jY hh3 Tryz.underlying48 rfl hszT)) ?_; simp only [Act.put, pa, pb, pc]; refine jF rfl _ _ _ rfl RB _ _ _ hr3 rfl rfl hszT (by rw [HTS.out]; rfl) H1T.out ?_; simp only [Act.put, pa, pb, pc]
 go_wp2_with fail
 obtain ⟨w9, e9⟩ := je (w3.setRow RB T); have hr9 : w9.heap[RB]? = some (.cells T 48 (0, 0)) := by rw [e9]; exact setRow_heap _ _ _ _ _ _ hr3
 have hb9 : Below w.heap.size w w9 := by rw [e9]; exact below_setRow hb3 NB.out.2 _
 rw [← e9]; exact bodyPost_ret (results_cell_row rfl _ w9 RB _ _ _ _ rfl hr9 Tryz.underlying48 rfl hszT) rfl ⟨rfl, hb9⟩
end Go.Proofs.YtdpkpcbikbbcbaaGreat
