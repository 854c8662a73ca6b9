/- Steps of walks -/
import Derived.Test.YtcaeaejefdhloaaGreatZWG33
namespace Go.Proofs.YtcaeaejefdhloaaGreat
open Go.ChangeShapes Go.WideShapes Go.ChangeAt Go.RowKit
section
variable {P : Program} {ops : Array Oper} {rest : List Oper} {o : Oper} {a : Act} {w w' : World} {Q : Exit → Act → World → Prop} {v : Value}
theorem ju (hw : Region.wanted o (yielded ops a.tmps) = true) (h : (execOp a.eval o).run P w = .ok (.value v) w) (k : wpList P ops Q rest (a.put o.dst v) w) : wpList P ops Q (o :: rest) a w :=
 wpList_step fun _ hK => by
  rw [if_pos hw]; unfold Oper.wp; rw [h]; exact hK _ _ k
theorem wpList_gmade (hw : Region.wanted o (yielded ops a.tmps) = true) (h : (execOp a.eval o).run P w = .ok (.value v) w') (k : wpList P ops Q rest (a.put o.dst v) w') : wpList P ops Q (o :: rest) a w :=
 wpList_step fun _ hK => by
  rw [if_pos hw]; unfold Oper.wp; rw [h]; exact hK _ _ k
end
theorem zj {P : Program} {o : Oper} {ev : Operand → Value} {w : World} {op : BinOp} {t t' : TypeId} {x y : Operand} {vx vy : Array Value} {v : Value} (hm : P.eqGuardType P.depth t = false) (ho : o.op = .binOp op t x y t') (hx : ev x = .agg vx) (hy : ev y = .agg vy) (h : (binOp op t (.agg vx) (.agg vy)).run P w = .ok v w) : (execOp ev o).run P w = .ok (.value v) w := by
 unfold execOp; simp only [ho, hx, hy]; rw [Sem.run_bind, Sem.run_bind, run_eqGuard_agg w op t x y vx vy hm, Result.andThen_ok, h]
 rfl
theorem eqg_num : Tryz.prog.eqGuardType Tryz.prog.depth 24 = false := by kernel_rfl
theorem eqg_sig : Tryz.prog.eqGuardType Tryz.prog.depth 32 = false := by kernel_rfl
theorem info_sig : (Tryz.prog.info? 32).map (·.size) = some 8 := by kernel_rfl
theorem Qu {w : World} {b o x y : Nat} (h1 : NumO w b o x) (h2 : NumO w b (o + 4) y) : (Instr.loadAt 32 (.pointer (some ⟨b, o, none⟩))).run Tryz.prog w = .ok (.agg #[.int .u64 (jf jd x 0), .int .u64 (jf jd x 1), .int .u64 (jf jd x 2), .int .u64 (jf jd x 3), .int .u64 (jf jd y 0), .int .u64 (jf jd y 1), .int .u64 (jf jd y 2), .int .u64 (jf jd y 3)]) w := by
 have l0 := h1 0 (by decide); have l1 := h1 1 (by decide); have l2 := h1 2 (by decide); have l3 := h1 3 (by decide); have l4 := h2 0 (by decide); have l5 := h2 1 (by decide); have l6 := h2 2 (by decide); have l7 := h2 3 (by decide); simp only [Nat.add_assoc, Nat.reduceAdd] at l4 l5 l6 l7
 exact run_loadAt_mid (P := Tryz.prog) w b o 32 [.int .u64 (jf jd x 0), .int .u64 (jf jd x 1), .int .u64 (jf jd x 2), .int .u64 (jf jd x 3), .int .u64 (jf jd y 0), .int .u64 (jf jd y 1), .int .u64 (jf jd y 2), .int .u64 (jf jd y 3)] _ (by
  intro j v hj; have hl := (List.getElem?_eq_some_iff.1 hj).1; simp only [List.length_cons, List.length_nil] at hl
  rcases (show j = 0 ∨ j = 1 ∨ j = 2 ∨ j = 3 ∨ j = 4 ∨ j = 5 ∨ j = 6 ∨ j = 7 by omega) with rfl | rfl | rfl | rfl | rfl | rfl | rfl | rfl <;> (simp at hj; subst hj; assumption)) Tryz.underlying32 rfl info_sig
theorem numo_row8 {w : World} {b x y : Nat} {t : TypeId} (h : w.heap[b]? = some (.cells #[.int .u64 (jf jd x 0), .int .u64 (jf jd x 1), .int .u64 (jf jd x 2), .int .u64 (jf jd x 3), .int .u64 (jf jd y 0), .int .u64 (jf jd y 1), .int .u64 (jf jd y 2), .int .u64 (jf jd y 3)] t (0, 0))) : NumO w b 0 x ∧ NumO w b 4 y :=
 ⟨fun j hj => by rw [cell_of_row _ _ _ _ _ _ h]; rcases (show j = 0 ∨ j = 1 ∨ j = 2 ∨ j = 3 by omega) with rfl | rfl | rfl | rfl <;> rfl,
  fun j hj => by rw [cell_of_row _ _ _ _ _ _ h]; rcases (show j = 0 ∨ j = 1 ∨ j = 2 ∨ j = 3 by omega) with rfl | rfl | rfl | rfl <;> rfl⟩
theorem part0 (a0 a1 a2 a3 a4 a5 a6 a7 : Value) (w : World) : (part 24 #[a0, a1, a2, a3, a4, a5, a6, a7] 0).run Tryz.prog w = .ok (.agg #[a0, a1, a2, a3]) w := by kernel_rfl
theorem part4 (a0 a1 a2 a3 a4 a5 a6 a7 : Value) (w : World) : (part 24 #[a0, a1, a2, a3, a4, a5, a6, a7] 4).run Tryz.prog w = .ok (.agg #[a4, a5, a6, a7]) w := by kernel_rfl
theorem qN {a b : Nat} (ha : a < jj) (hb : b < jj) (w : World) : (Op.equalIn 9999 24 (.agg #[.int .u64 (jf jd a 0), .int .u64 (jf jd a 1), .int .u64 (jf jd a 2), .int .u64 (jf jd a 3)]) (.agg #[.int .u64 (jf jd b 0), .int .u64 (jf jd b 1), .int .u64 (jf jd b 2), .int .u64 (jf jd b 3)])).run Tryz.prog w = .ok (decide (a = b)) w := by
 rw [zT w 9997 24 22 .u64 4 Tryz.underlying24 Tryz.underlying22 (fun _ => by kernel_rfl) (fun _ => by kernel_rfl) _ _ (fun i => jf jd a i) (fun i => jf jd b i) (Je _) (Je _), ZE ha hb]
theorem eq_sig {c s d r : Nat} (hc : c < jj) (hs : s < jj) (hd : d < jj) (hr : r < jj) (w : World) : (binOp .eql 32 (.agg #[.int .u64 (jf jd c 0), .int .u64 (jf jd c 1), .int .u64 (jf jd c 2), .int .u64 (jf jd c 3), .int .u64 (jf jd s 0), .int .u64 (jf jd s 1), .int .u64 (jf jd s 2), .int .u64 (jf jd s 3)]) (.agg #[.int .u64 (jf jd d 0), .int .u64 (jf jd d 1), .int .u64 (jf jd d 2), .int .u64 (jf jd d 3), .int .u64 (jf jd r 0), .int .u64 (jf jd r 1), .int .u64 (jf jd r 2), .int .u64 (jf jd r 3)])).run Tryz.prog w = .ok (.bool (decide (c = d) && decide (s = r))) w := by
 simp only [binOp]; unfold Op.equal Op.maxDepth; rw [Op.equalIn]; simp only [Sem.run_bind, run_underlying Tryz.underlying32, Result.andThen_ok]
 simp [part0, part4, qN hc hd, qN hs hr]
 by_cases h1 : c = d <;> by_cases h2 : s = r <;> simp [h1, h2]
end Go.Proofs.YtcaeaejefdhloaaGreat
