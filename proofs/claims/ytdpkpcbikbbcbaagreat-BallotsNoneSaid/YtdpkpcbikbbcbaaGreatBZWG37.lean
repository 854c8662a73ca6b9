/- The law's Setting, behind its early ends -/
import Derived.Test.YtdpkpcbikbbcbaaGreatBZWG31
set_option linter.unusedSimpArgs false
set_option linter.unusedVariables false
set_option maxHeartbeats 4000000
set_option maxRecDepth 20000
namespace Go.Proofs.YtdpkpcbikbbcbaaGreat
open Go.ChangeShapes Go.WideShapes Go.ChangeAt Go.RowKit
section
variable {P : Program} {ops : Array Oper} {rest : List Oper} {o : Oper} {a : Act} {w w' : World} {Q : Exit → Act → World → Prop} {v : Value}
theorem jt (hw : Region.wanted o (yielded ops a.tmps) = true) (h : (execOp a.eval o).run P w = .ok (.value v) w) (k : wpList P ops Q rest (a.put o.dst v) w) : wpList P ops Q (o :: rest) a w :=
 wpList_step fun _ hK => by
  rw [if_pos hw]; unfold Oper.wp; rw [h]; exact hK _ _ k
theorem wpList_gmade (hw : Region.wanted o (yielded ops a.tmps) = true) (h : (execOp a.eval o).run P w = .ok (.value v) w') (k : wpList P ops Q rest (a.put o.dst v) w') : wpList P ops Q (o :: rest) a w :=
 wpList_step fun _ hK => by
  rw [if_pos hw]; unfold Oper.wp; rw [h]; exact hK _ _ k
end
theorem qw {P : Program} {o : Oper} {ev : Operand → Value} {w : World} {op : BinOp} {t t' : TypeId} {x y : Operand} {vx vy : Array Value} {v : Value} (hm : P.eqGuardType P.depth t = false) (ho : o.op = .binOp op t x y t') (hx : ev x = .agg vx) (hy : ev y = .agg vy) (h : (binOp op t (.agg vx) (.agg vy)).run P w = .ok v w) : (execOp ev o).run P w = .ok (.value v) w := by
 unfold execOp; simp only [ho, hx, hy]; rw [Sem.run_bind, Sem.run_bind, run_eqGuard_agg w op t x y vx vy hm, Result.andThen_ok, h]
 rfl
theorem QC : Tryz.prog.eqGuardType Tryz.prog.depth 24 = false := by kernel_rfl
theorem eqg_sig : Tryz.prog.eqGuardType Tryz.prog.depth 50 = false := by kernel_rfl
theorem info_sig : (Tryz.prog.info? 50).map (·.size) = some 8 := by kernel_rfl
theorem loadSig {w : World} {b o x y : Nat} (h1 : NumO w b o x) (h2 : NumO w b (o + 4) y) : (Instr.loadAt 50 (.pointer (some ⟨b, o, none⟩))).run Tryz.prog w = .ok (.agg #[.int .u64 (jf jd x 0), .int .u64 (jf jd x 1), .int .u64 (jf jd x 2), .int .u64 (jf jd x 3), .int .u64 (jf jd y 0), .int .u64 (jf jd y 1), .int .u64 (jf jd y 2), .int .u64 (jf jd y 3)]) w := by
 have l0 := h1 0 (by decide); have l1 := h1 1 (by decide); have l2 := h1 2 (by decide); have l3 := h1 3 (by decide); have l4 := h2 0 (by decide); have l5 := h2 1 (by decide); have l6 := h2 2 (by decide); have l7 := h2 3 (by decide); simp only [Nat.add_assoc, Nat.reduceAdd] at l4 l5 l6 l7
 exact run_loadAt_mid (P := Tryz.prog) w b o 50 [.int .u64 (jf jd x 0), .int .u64 (jf jd x 1), .int .u64 (jf jd x 2), .int .u64 (jf jd x 3), .int .u64 (jf jd y 0), .int .u64 (jf jd y 1), .int .u64 (jf jd y 2), .int .u64 (jf jd y 3)] _ (by
  intro j v hj; have hl := (List.getElem?_eq_some_iff.1 hj).1; simp only [List.length_cons, List.length_nil] at hl
  rcases (show j = 0 ∨ j = 1 ∨ j = 2 ∨ j = 3 ∨ j = 4 ∨ j = 5 ∨ j = 6 ∨ j = 7 by omega) with rfl | rfl | rfl | rfl | rfl | rfl | rfl | rfl <;> (simp at hj; subst hj; assumption)) Tryz.underlying50 rfl info_sig
theorem numo_row8 {w : World} {b x y : Nat} {t : TypeId} (h : w.heap[b]? = some (.cells #[.int .u64 (jf jd x 0), .int .u64 (jf jd x 1), .int .u64 (jf jd x 2), .int .u64 (jf jd x 3), .int .u64 (jf jd y 0), .int .u64 (jf jd y 1), .int .u64 (jf jd y 2), .int .u64 (jf jd y 3)] t (0, 0))) : NumO w b 0 x ∧ NumO w b 4 y :=
 ⟨fun j hj => by rw [cell_of_row _ _ _ _ _ _ h]; rcases (show j = 0 ∨ j = 1 ∨ j = 2 ∨ j = 3 by omega) with rfl | rfl | rfl | rfl <;> rfl,
  fun j hj => by rw [cell_of_row _ _ _ _ _ _ h]; rcases (show j = 0 ∨ j = 1 ∨ j = 2 ∨ j = 3 by omega) with rfl | rfl | rfl | rfl <;> rfl⟩
theorem part0 (a0 a1 a2 a3 a4 a5 a6 a7 : Value) (w : World) : (part 24 #[a0, a1, a2, a3, a4, a5, a6, a7] 0).run Tryz.prog w = .ok (.agg #[a0, a1, a2, a3]) w := by kernel_rfl
theorem part4 (a0 a1 a2 a3 a4 a5 a6 a7 : Value) (w : World) : (part 24 #[a0, a1, a2, a3, a4, a5, a6, a7] 4).run Tryz.prog w = .ok (.agg #[a4, a5, a6, a7]) w := by kernel_rfl
theorem equalIn_num {a b : Nat} (ha : a < jk) (hb : b < jk) (w : World) : (Op.equalIn 9999 24 (.agg #[.int .u64 (jf jd a 0), .int .u64 (jf jd a 1), .int .u64 (jf jd a 2), .int .u64 (jf jd a 3)]) (.agg #[.int .u64 (jf jd b 0), .int .u64 (jf jd b 1), .int .u64 (jf jd b 2), .int .u64 (jf jd b 3)])).run Tryz.prog w = .ok (decide (a = b)) w := by
 rw [zj w 9997 24 22 .u64 4 Tryz.underlying24 Tryz.underlying22 (fun _ => by kernel_rfl) (fun _ => by kernel_rfl) _ _ (fun i => jf jd a i) (fun i => jf jd b i) (zR _) (zR _), all_words ha hb]
theorem eq_sig {c s d r : Nat} (hc : c < jk) (hs : s < jk) (hd : d < jk) (hr : r < jk) (w : World) : (binOp .eql 50 (.agg #[.int .u64 (jf jd c 0), .int .u64 (jf jd c 1), .int .u64 (jf jd c 2), .int .u64 (jf jd c 3), .int .u64 (jf jd s 0), .int .u64 (jf jd s 1), .int .u64 (jf jd s 2), .int .u64 (jf jd s 3)]) (.agg #[.int .u64 (jf jd d 0), .int .u64 (jf jd d 1), .int .u64 (jf jd d 2), .int .u64 (jf jd d 3), .int .u64 (jf jd r 0), .int .u64 (jf jd r 1), .int .u64 (jf jd r 2), .int .u64 (jf jd r 3)])).run Tryz.prog w = .ok (.bool (decide (c = d) && decide (s = r))) w := by
 simp only [binOp]; unfold Op.equal Op.maxDepth; rw [Op.equalIn]; simp only [Sem.run_bind, run_underlying Tryz.underlying50, Result.andThen_ok]
 simp [part0, part4, equalIn_num hc hd, equalIn_num hs hr]
 by_cases h1 : c = d <;> by_cases h2 : s = r <;> simp [h1, h2]
theorem qR : (Tryz.prog.info? 33).map (·.size) = some 19 := by kernel_rfl
theorem info_c9 : (Tryz.prog.info? 29).map (·.size) = some 23 := by kernel_rfl
theorem loadC9 {w : World} {b gp gq gg gh lg : Nat} {x y z : Value} (h : GrpAt w b gp gq gg gh) (h1 : NumO w b 16 lg) (h2 : w.cell? ⟨b, 20, none⟩ = some x) (h3 : w.cell? ⟨b, 21, none⟩ = some y) (h4 : w.cell? ⟨b, 22, none⟩ = some z) :
  (Instr.loadAt 29 (.pointer (some ⟨b, 0, none⟩))).run Tryz.prog w = .ok (.agg #[.int .u64 (jf jd gp 0), .int .u64 (jf jd gp 1), .int .u64 (jf jd gp 2), .int .u64 (jf jd gp 3), .int .u64 (jf jd gq 0), .int .u64 (jf jd gq 1), .int .u64 (jf jd gq 2), .int .u64 (jf jd gq 3), .int .u64 (jf jd gg 0), .int .u64 (jf jd gg 1), .int .u64 (jf jd gg 2), .int .u64 (jf jd gg 3), .int .u64 (jf jd gh 0), .int .u64 (jf jd gh 1), .int .u64 (jf jd gh 2), .int .u64 (jf jd gh 3), .int .u64 (jf jd lg 0), .int .u64 (jf jd lg 1), .int .u64 (jf jd lg 2), .int .u64 (jf jd lg 3), x, y, z]) w := by
 obtain ⟨y0, y1, y2, y3, y4, y5, y6, y7, y8, y9, y10, y11, y12, y13, y14, y15⟩ := Zx h; have l0 := h1 0 (by decide); have l1 := h1 1 (by decide); have l2 := h1 2 (by decide); have l3 := h1 3 (by decide); simp only [Nat.reduceAdd] at l0 l1 l2 l3
 exact run_loadAt_mid (P := Tryz.prog) w b 0 29 [.int .u64 (jf jd gp 0), .int .u64 (jf jd gp 1), .int .u64 (jf jd gp 2), .int .u64 (jf jd gp 3), .int .u64 (jf jd gq 0), .int .u64 (jf jd gq 1), .int .u64 (jf jd gq 2), .int .u64 (jf jd gq 3), .int .u64 (jf jd gg 0), .int .u64 (jf jd gg 1), .int .u64 (jf jd gg 2), .int .u64 (jf jd gg 3), .int .u64 (jf jd gh 0), .int .u64 (jf jd gh 1), .int .u64 (jf jd gh 2), .int .u64 (jf jd gh 3), .int .u64 (jf jd lg 0), .int .u64 (jf jd lg 1), .int .u64 (jf jd lg 2), .int .u64 (jf jd lg 3), x, y, z] _ (by
  intro j v hj; have hl := (List.getElem?_eq_some_iff.1 hj).1; simp only [List.length_cons, List.length_nil] at hl; rw [Nat.zero_add]
  rcases (show j = 0 ∨ j = 1 ∨ j = 2 ∨ j = 3 ∨ j = 4 ∨ j = 5 ∨ j = 6 ∨ j = 7 ∨ j = 8 ∨ j = 9 ∨ j = 10 ∨ j = 11 ∨ j = 12 ∨ j = 13 ∨ j = 14 ∨ j = 15 ∨ j = 16 ∨ j = 17 ∨ j = 18 ∨ j = 19 ∨ j = 20 ∨ j = 21 ∨ j = 22 by omega) with rfl | rfl | rfl | rfl | rfl | rfl | rfl | rfl | rfl | rfl | rfl | rfl | rfl | rfl | rfl | rfl | rfl | rfl | rfl | rfl | rfl | rfl | rfl <;> (simp at hj; subst hj; assumption)) Tryz.underlying29 rfl info_c9
structure SAt (w : World) (b gp gq gg gh : Nat) (fa se : Int) (v : Value) : Prop where
 grp : GrpAt w b gp gq gg gh
 fa : w.cell? ⟨b, 16, none⟩ = some (.int .i64 fa)
 se : w.cell? ⟨b, 17, none⟩ = some (.int .i64 se)
 nd : w.cell? ⟨b, 18, none⟩ = some v
 free : FreeN w b 19
theorem SAt.lt {w : World} {b gp gq gg gh : Nat} {fa se : Int} {v : Value} (h : SAt w b gp gq gg gh fa se v) : b < w.heap.size := h.grp.lt
theorem SAt.later {w w' : World} {b gp gq gg gh : Nat} {fa se : Int} {v : Value} (h : SAt w b gp gq gg gh fa se v) (hb : Below w.heap.size w w') : SAt w' b gp gq gg gh fa se v :=
 ⟨h.grp.later hb, jj h.fa hb, jj h.se hb, jj h.nd hb, h.free.later hb h.lt⟩
theorem grp_keepR {w w' : World} {b gp gq gg gh : Nat} {row : Option Nat} (h : GrpAt w b gp gq gg gh) (hg : w.grownBy w' row) (hn : some b ≠ row) : GrpAt w' b gp gq gg gh :=
 ⟨fun j hj => hg.cell (h.1 j hj) hn, fun j hj => hg.cell (h.2.1 j hj) hn, fun j hj => hg.cell (h.2.2.1 j hj) hn, fun j hj => hg.cell (h.2.2.2 j hj) hn⟩
theorem jA {w w' : World} {b o : Nat} {v : Value} {row : Option Nat} (h : w.cell? ⟨b, o, none⟩ = some v) (hg : w.grownBy w' row) (hn : some b ≠ row) : w'.cell? ⟨b, o, none⟩ = some v := hg.cell h hn
theorem qN {w w' : World} {b : Nat} {x : Obj} {row : Option Nat} (h : w.heap[b]? = some x) (hg : w.grownBy w' row) (hn : some b ≠ row) : w'.heap[b]? = some x := (hg.block b (Array.getElem?_eq_some_iff.1 h).1 hn).trans h
theorem SAt.keep {w w' : World} {b gp gq gg gh : Nat} {fa se : Int} {v : Value} {row : Option Nat} (h : SAt w b gp gq gg gh fa se v) (hg : w.grownBy w' row) (hn : some b ≠ row) : SAt w' b gp gq gg gh fa se v :=
 ⟨grp_keepR h.grp hg hn, hg.cell h.fa hn, hg.cell h.se hn, hg.cell h.nd hn, fun j hj => (jE (hg.block b h.lt hn)).trans (h.free j hj)⟩
theorem zW {w : World} {b o p : Nat} {x y : Value} (h : w.cell? ⟨b, o, none⟩ = some x) (hn : p ≠ o) : (w.setCell ⟨b, p, none⟩ y).cell? ⟨b, o, none⟩ = some x := by
 rw [World.cell?_setCell_other _ _ _ _ (by intro h; injection h; omega)]; exact h
theorem SAt.set18 {w : World} {b gp gq gg gh : Nat} {fa se : Int} {v : Value} (h : SAt w b gp gq gg gh fa se v) (v' : Value) : SAt (w.setCell ⟨b, 18, none⟩ v') b gp gq gg gh fa se v' :=
 ⟨⟨fun j hj => zW (h.grp.1 j hj) (by omega), fun j hj => zW (h.grp.2.1 j hj) (by omega), fun j hj => zW (h.grp.2.2.1 j hj) (by omega), fun j hj => zW (h.grp.2.2.2 j hj) (by omega)⟩,
  zW h.fa (by decide), zW h.se (by decide), World.cell?_setCell_same _ _ _ h.nd, h.free.set _ _⟩
theorem SAt.new (w : World) (gp gq gg gh : Nat) (fa se : Int) (v : Value) (t : TypeId) : SAt (w.alloc (.cells #[.int .u64 (jf jd gp 0), .int .u64 (jf jd gp 1), .int .u64 (jf jd gp 2), .int .u64 (jf jd gp 3), .int .u64 (jf jd gq 0), .int .u64 (jf jd gq 1), .int .u64 (jf jd gq 2), .int .u64 (jf jd gq 3), .int .u64 (jf jd gg 0), .int .u64 (jf jd gg 1), .int .u64 (jf jd gg 2), .int .u64 (jf jd gg 3), .int .u64 (jf jd gh 0), .int .u64 (jf jd gh 1), .int .u64 (jf jd gh 2), .int .u64 (jf jd gh 3), .int .i64 fa, .int .i64 se, v] t)) w.heap.size gp gq gg gh fa se v :=
 ⟨Jl, by rw [cell_of_row _ _ _ _ _ _ (heap_alloc_new _ _)]; rfl, by rw [cell_of_row _ _ _ _ _ _ (heap_alloc_new _ _)]; rfl, by rw [cell_of_row _ _ _ _ _ _ (heap_alloc_new _ _)]; rfl, FreeN.new _ _ _ _⟩
theorem Qa {w : World} {b gp gq gg gh : Nat} {fa se : Int} {v9 : Value} (h : SAt w b gp gq gg gh fa se v9) :
  (Instr.loadAt 33 (.pointer (some ⟨b, 0, none⟩))).run Tryz.prog w = .ok (.agg #[.int .u64 (jf jd gp 0), .int .u64 (jf jd gp 1), .int .u64 (jf jd gp 2), .int .u64 (jf jd gp 3), .int .u64 (jf jd gq 0), .int .u64 (jf jd gq 1), .int .u64 (jf jd gq 2), .int .u64 (jf jd gq 3), .int .u64 (jf jd gg 0), .int .u64 (jf jd gg 1), .int .u64 (jf jd gg 2), .int .u64 (jf jd gg 3), .int .u64 (jf jd gh 0), .int .u64 (jf jd gh 1), .int .u64 (jf jd gh 2), .int .u64 (jf jd gh 3), .int .i64 fa, .int .i64 se, v9]) w := by
 obtain ⟨y0, y1, y2, y3, y4, y5, y6, y7, y8, y9, y10, y11, y12, y13, y14, y15⟩ := Zx h.grp; have l0 := h.fa; have l1 := h.se; have l2 := h.nd
 exact run_loadAt_mid (P := Tryz.prog) w b 0 33 [.int .u64 (jf jd gp 0), .int .u64 (jf jd gp 1), .int .u64 (jf jd gp 2), .int .u64 (jf jd gp 3), .int .u64 (jf jd gq 0), .int .u64 (jf jd gq 1), .int .u64 (jf jd gq 2), .int .u64 (jf jd gq 3), .int .u64 (jf jd gg 0), .int .u64 (jf jd gg 1), .int .u64 (jf jd gg 2), .int .u64 (jf jd gg 3), .int .u64 (jf jd gh 0), .int .u64 (jf jd gh 1), .int .u64 (jf jd gh 2), .int .u64 (jf jd gh 3), .int .i64 fa, .int .i64 se, v9] _ (by
  intro j v hj; have hl := (List.getElem?_eq_some_iff.1 hj).1; simp only [List.length_cons, List.length_nil] at hl; rw [Nat.zero_add]
  rcases (show j = 0 ∨ j = 1 ∨ j = 2 ∨ j = 3 ∨ j = 4 ∨ j = 5 ∨ j = 6 ∨ j = 7 ∨ j = 8 ∨ j = 9 ∨ j = 10 ∨ j = 11 ∨ j = 12 ∨ j = 13 ∨ j = 14 ∨ j = 15 ∨ j = 16 ∨ j = 17 ∨ j = 18 by omega) with rfl | rfl | rfl | rfl | rfl | rfl | rfl | rfl | rfl | rfl | rfl | rfl | rfl | rfl | rfl | rfl | rfl | rfl | rfl <;> (simp at hj; subst hj; assumption)) Tryz.underlying33 rfl qR
def jU (ks : List (Nat × Nat)) : List Value := ks.flatMap fun k => [.int .u64 (jf jd k.1 0), .int .u64 (jf jd k.1 1), .int .u64 (jf jd k.1 2), .int .u64 (jf jd k.1 3), .int .u64 (jf jd k.2 0), .int .u64 (jf jd k.2 1), .int .u64 (jf jd k.2 2), .int .u64 (jf jd k.2 3)]
theorem Qb : ∀ (ks : List (Nat × Nat)) (i : Nat) (k : Nat × Nat), ks[i]? = some k → (∀ j, j < 4 → (jU ks)[i * 8 + j]? = some (.int .u64 (jf jd k.1 j))) ∧ ∀ j, j < 4 → (jU ks)[i * 8 + (4 + j)]? = some (.int .u64 (jf jd k.2 j))
 | [], i, k, h => by simp at h
 | x :: ks, 0, k, h => by
  simp at h
  subst h; refine ⟨fun j hj => ?_, fun j hj => ?_⟩ <;> (rcases (show j = 0 ∨ j = 1 ∨ j = 2 ∨ j = 3 by omega) with rfl | rfl | rfl | rfl <;> rfl)
 | x :: ks, i + 1, k, h => by
  obtain ⟨h1, h2⟩ := Qb ks i k (by simpa using h)
  have e : ∀ j, (jU (x :: ks))[(i + 1) * 8 + j]? = (jU ks)[i * 8 + j]? := fun j => by
   unfold jU; rw [List.flatMap_cons, List.getElem?_append_right (by simp; omega)]
   congr 1
   simp
   omega
  exact ⟨fun j hj => (e j).trans (h1 j hj), fun j hj => (e (4 + j)).trans (h2 j hj)⟩
theorem QU {w : World} {B n : Nat} {v : Value} {ks : List (Nat × Nat)} (h : OwnV w B 77 8 v n (jU ks)) (hn : n = ks.length) (h0 : 0 < n) : ∃ b o cap, v = .slice (some ⟨b, o, none⟩) n cap ∧ KeysAt w b o ks := by
 rcases id h.2 with ⟨_, h9⟩ | ⟨g, o, cap, cur, rfl, _⟩
 ·omega
 ·refine ⟨g, o, cap, rfl, fun i k hk => ?_⟩; obtain ⟨h1, h2⟩ := Qb ks i k hk; exact ⟨fun j hj => by have := h.cells _ _ (h1 j hj); rw [Addr.add_lit] at this; rw [Nat.add_assoc]; exact this, fun j hj => by have := h.cells _ _ (h2 j hj); rw [Addr.add_lit] at this; rw [Nat.add_assoc]; exact this⟩
theorem OwnV.shape9 {w : World} {B : Nat} {e : TypeId} {size n : Nat} {v : Value} {xs : List Value} (h : OwnV w B e size v n xs) : ∃ a c, v = .slice a n c := by
 rcases h.2 with ⟨h1, h2⟩ | ⟨g, o, cap, cur, h1, _⟩
 ·exact ⟨none, 0, by rw [h1, h2]⟩
 ·exact ⟨_, _, h1⟩
theorem qL (w : World) (g : Nat) (T : Array Value) : w.grownBy (w.setRow g T) (some g) := ⟨rfl, rfl, rfl, by simp, fun k _ hne => setRow_other w g k _ (fun e => hne (by rw [e]))⟩
theorem zt {P : Program} {l : List Oper} {o : Oper} {a : Act} {w : World} {K : Act → World → Prop} {Q : Exit → Act → World → Prop} (hw : Region.wanted o (yielded l.toArray a.tmps) = true) (ty : TypeId) (x y : Operand) (ho : o.op = .store ty x y) (g : Nat) (c T : Array Value) (t : TypeId)
  (hg : w.heap[g]? = some (.cells c t (0, 0))) (hx : a.eval x = .pointer (some ⟨g, 0, none⟩)) (hy : a.eval y = .agg T) (hi : (P.info? ty).map (·.size) = some T.size) (hc : c.size = T.size) (h1 : T.all (·.oneCell') = true) (k : K (a.put o.dst undef) (w.setRow g T)) :
  if Region.wanted o (yielded l.toArray a.tmps) = true then Oper.wp P o a w K Q else K (a.put o.dst undef) w := by
 rw [if_pos hw]; unfold Oper.wp execOp; simp only [ho, hx, hy, Sem.run_bind, Instr.storeAt, Instr.sureAddr, Sem.run_pure, Result.andThen_ok, run_storeVar_row w g t ty c T hg hi hc h1]; exact k
theorem loadI9 {w : World} {b o : Nat} {v : Value} (h : w.cell? ⟨b, o, none⟩ = some v) : (Instr.loadAt 3 (.pointer (some ⟨b, o, none⟩))).run Tryz.prog w = .ok v w := by
 simp [go_sem, h]
theorem info_s9 : (Tryz.prog.info? 62).map (·.size) = some 8 := by kernel_rfl
theorem loadK9 {w : World} {b o x y : Nat} (h1 : NumO w b o x) (h2 : NumO w b (o + 4) y) : (Instr.loadAt 62 (.pointer (some ⟨b, o, none⟩))).run Tryz.prog w = .ok (.agg #[.int .u64 (jf jd x 0), .int .u64 (jf jd x 1), .int .u64 (jf jd x 2), .int .u64 (jf jd x 3), .int .u64 (jf jd y 0), .int .u64 (jf jd y 1), .int .u64 (jf jd y 2), .int .u64 (jf jd y 3)]) w := by
 have l0 := h1 0 (by decide); have l1 := h1 1 (by decide); have l2 := h1 2 (by decide); have l3 := h1 3 (by decide); have l4 := h2 0 (by decide); have l5 := h2 1 (by decide); have l6 := h2 2 (by decide); have l7 := h2 3 (by decide); simp only [Nat.add_assoc, Nat.reduceAdd] at l4 l5 l6 l7
 exact run_loadAt_mid (P := Tryz.prog) w b o 62 [.int .u64 (jf jd x 0), .int .u64 (jf jd x 1), .int .u64 (jf jd x 2), .int .u64 (jf jd x 3), .int .u64 (jf jd y 0), .int .u64 (jf jd y 1), .int .u64 (jf jd y 2), .int .u64 (jf jd y 3)] _ (by
  intro j v hj; have hl := (List.getElem?_eq_some_iff.1 hj).1; simp only [List.length_cons, List.length_nil] at hl
  rcases (show j = 0 ∨ j = 1 ∨ j = 2 ∨ j = 3 ∨ j = 4 ∨ j = 5 ∨ j = 6 ∨ j = 7 by omega) with rfl | rfl | rfl | rfl | rfl | rfl | rfl | rfl <;> (simp at hj; subst hj; assumption)) Tryz.underlying62 rfl info_s9
theorem info_k9 : (Tryz.prog.info? 77).map (fun i => (i.zero, i.size, i.bytes)) = some (some (.agg (Array.replicate 8 (.int .u64 0))), 8, 64) := by kernel_rfl
theorem src8 {w : World} {b : Nat} {x y : Nat} {t : TypeId} (h : w.heap[b]? = some (.cells #[.int .u64 (jf jd x 0), .int .u64 (jf jd x 1), .int .u64 (jf jd x 2), .int .u64 (jf jd x 3), .int .u64 (jf jd y 0), .int .u64 (jf jd y 1), .int .u64 (jf jd y 2), .int .u64 (jf jd y 3)] t (0, 0))) : SrcV w 8 (.slice (some ⟨b, 0, none⟩) 1 1) 1 [.int .u64 (jf jd x 0), .int .u64 (jf jd x 1), .int .u64 (jf jd x 2), .int .u64 (jf jd x 3), .int .u64 (jf jd y 0), .int .u64 (jf jd y 1), .int .u64 (jf jd y 2), .int .u64 (jf jd y 3)] := by
 refine ⟨_, _, rfl, rfl, fun u hu => ?_, (fun e => by cases e), fun ad had j u hu => ?_⟩
 ·simp only [List.mem_cons, List.not_mem_nil, or_false] at hu
  rcases hu with rfl | rfl | rfl | rfl | rfl | rfl | rfl | rfl <;> rfl
 ·cases had
  rw [Addr.add_lit, Nat.zero_add, cell_of_row _ _ _ _ _ _ h]; have hl := (List.getElem?_eq_some_iff.1 hu).1; simp only [List.length_cons, List.length_nil] at hl
  rcases (show j = 0 ∨ j = 1 ∨ j = 2 ∨ j = 3 ∨ j = 4 ∨ j = 5 ∨ j = 6 ∨ j = 7 by omega) with rfl | rfl | rfl | rfl | rfl | rfl | rfl | rfl <;> exact hu
theorem keysCells_snoc (ks : List (Nat × Nat)) (k : Nat × Nat) : jU (ks ++ [k]) = jU ks ++ [.int .u64 (jf jd k.1 0), .int .u64 (jf jd k.1 1), .int .u64 (jf jd k.1 2), .int .u64 (jf jd k.1 3), .int .u64 (jf jd k.2 0), .int .u64 (jf jd k.2 1), .int .u64 (jf jd k.2 2), .int .u64 (jf jd k.2 3)] := by
 unfold jU; rw [List.flatMap_append]
 simp
theorem JZ {w : World} {b o : Nat} {v : Value} (h : w.cell? ⟨b, o, none⟩ = some v) : (Instr.loadAt 31 (.pointer (some ⟨b, o, none⟩))).run Tryz.prog w = .ok v w := by
 simp [go_sem, h]
theorem loadSl {w : World} {b o : Nat} {v : Value} (h : w.cell? ⟨b, o, none⟩ = some v) : (Instr.loadAt 27 (.pointer (some ⟨b, o, none⟩))).run Tryz.prog w = .ok v w := by
 simp [go_sem, h]
theorem lawset_main {gp gq gg gh lg n cap : Nat} {fa se : Int} {ao : Option Addr} {sk : List (Nat × Nat)} (hm : Jh gp gg) (h0 : lg ≠ 0) (h1 : n ≤ 7) (hgp : gp < jk) (hgq : gq < jk) (hgg : gg < jk) (hlg : lg < jk) (hfa : -9223372036854775808 ≤ fa ∧ fa ≤ 9223372036854775807) (hse : -9223372036854775808 ≤ se ∧ se ≤ 9223372036854775807) (hsk : ∀ k ∈ sk, k.1 < jk ∧ k.2 < jk) (hn : n = sk.length) (hcap : n ≤ cap) (hcm : cap ≤ maxLen) (w : World) (hk : 0 < n → ∃ b o, ao = some ⟨b, o, none⟩ ∧ KeysAt w b o sk) :
  Calls Tryz.prog 7 #[zG gp gq gg gh lg fa se (.slice ao n cap)] w fun e w' => ∃ (p q g h : Nat) (f s : Int) (a : Option Addr) (n9 c9 : Nat) (ok : Bool), e = .returned (.tuple #[qg p q g h f s (.slice a n9 c9), .bool ok]) ∧ (ok = true → p = gp ∧ q = gq ∧ g = gg ∧ h = gg ^ lg % gp ∧ f = fa ∧ s = se ∧ n9 = n ∧ SetOk w' gp gq gg lg n fa se sk a) ∧ Below w.heap.size w w' := by
 have hgpp : 0 < gp := by have := hm.1; omega
 obtain ⟨h, hh⟩ := je (gg ^ lg % gp); have hhM : h < jk := by rw [hh]; exact Nat.lt_trans (Nat.mod_lt _ hgpp) hgp
 have CE := jh (fun W => by have h9 := Jc (gq := gq) (gg := gg) (gh := gh) hm hgg hlg hgp W; rw [← hh] at h9; unfold jo words at h9; exact h9); have hmm := hcm; unfold maxLen at hmm; have heq := fun W => qx lg 0 hlg (by decide) W
 simp only [decide_eq_false h0] at heq; have z0 : ((jf jd 0 0 : Nat) : Int) = 0 := by rw [jP]; rfl
 have z1 : ((jf jd 0 1 : Nat) : Int) = 0 := by rw [jP]; rfl
 have z2 : ((jf jd 0 2 : Nat) : Int) = 0 := by rw [jP]; rfl
 have z3 : ((jf jd 0 3 : Nat) : Int) = 0 := by rw [jP]; rfl
 simp only [z0, z1, z2, z3] at heq; clear z0 z1 z2 z3; have h1I : ¬ (7 : Int) < (n : Int) := by omega
 have CP := jh (fun W => by have h9 := Prime_any (gp := gp) (gq := gq) (gg := gg) (gh := gh) (lg := lg) (fa := fa) (se := se) (ks := .slice ao n cap) hgp hgq W; unfold zG at h9; exact h9); have HEQ9 := jh heq; have HHE := jh hh; have HMAY := jh hm; have HLOG := jh h0; have HLE := jh h1; have HGP := jh hgp; have HGQ := jh hgq; have HGGm := jh hgg; have HHM := jh hhM; have HSK := jh hsk; have HN := jh hn; have HK := jh hk; have HFA := jh hfa; have HSE := jh hse; have HCM := jh hcm; have HCAP := jh hcap; clear heq hh hm hgp hgq hgg hlg hfa hse hsk hn hk hgpp hhM h0 h1 hcm hcap; unfold zG
 go_enter Tryz.func7, Tryz.ntmps7
 go_upto_region 1 with fail
 obtain ⟨v_0, e0⟩ := je (w.alloc (.cells #[.int .u64 (jf jd gp 0), .int .u64 (jf jd gp 1), .int .u64 (jf jd gp 2), .int .u64 (jf jd gp 3), .int .u64 (jf jd gq 0), .int .u64 (jf jd gq 1), .int .u64 (jf jd gq 2), .int .u64 (jf jd gq 3), .int .u64 (jf jd gg 0), .int .u64 (jf jd gg 1), .int .u64 (jf jd gg 2), .int .u64 (jf jd gg 3), .int .u64 (jf jd gh 0), .int .u64 (jf jd gh 1), .int .u64 (jf jd gh 2), .int .u64 (jf jd gh 3), .int .u64 (jf jd lg 0), .int .u64 (jf jd lg 1), .int .u64 (jf jd lg 2), .int .u64 (jf jd lg 3), .int .i64 fa, .int .i64 se, .slice ao n cap] 29)); obtain ⟨v_1, e1⟩ := je (v_0.alloc (.cells #[.int .u64 0, .int .u64 0, .int .u64 0, .int .u64 0, .int .u64 0, .int .u64 0, .int .u64 0, .int .u64 0, .int .u64 0, .int .u64 0, .int .u64 0, .int .u64 0, .int .u64 0, .int .u64 0, .int .u64 0, .int .u64 0, .int .i64 0, .int .i64 0, .slice none 0 0] 33)); have s0 : v_0.heap.size = w.heap.size + 1 := by rw [e0]; simp
 have s1 : v_1.heap.size = w.heap.size + 1 + 1 := by rw [e1]; simp [s0]
 have b0 := jc e0; have b1 := jc e1; have f0 : GrpAt v_0 w.heap.size gp gq gg gh := by rw [e0]; exact Zb
 have f1 : NumO v_0 w.heap.size 16 lg := fun j hj => by rw [e0, cell_of_row _ _ _ _ _ _ (heap_alloc_new _ _)]; rcases (show j = 0 ∨ j = 1 ∨ j = 2 ∨ j = 3 by omega) with rfl | rfl | rfl | rfl <;> rfl
 have f20 : v_0.cell? ⟨w.heap.size, 20, none⟩ = some (.int .i64 fa) := by rw [e0, cell_of_row _ _ _ _ _ _ (heap_alloc_new _ _)]; rfl
 have f21 : v_0.cell? ⟨w.heap.size, 21, none⟩ = some (.int .i64 se) := by rw [e0, cell_of_row _ _ _ _ _ _ (heap_alloc_new _ _)]; rfl
 have f22 : v_0.cell? ⟨w.heap.size, 22, none⟩ = some (.slice ao n cap) := by rw [e0, cell_of_row _ _ _ _ _ _ (heap_alloc_new _ _)]; rfl
 have f9 : v_1.heap[w.heap.size + 1]? = some (.cells zero19 33 (0, 0)) := by rw [← s0, e1]; exact heap_alloc_new _ _
 rw [← e0, ← e1]; obtain ⟨CB, hCB⟩ := je (w.heap.size); rw [← hCB] at f0 f1 f20 f21 f22 f9 s1 ⊢; obtain ⟨UB, hUB⟩ := je (CB + 1); rw [← hUB] at f9 s1 ⊢; have HC := jh (f0.later b1); have HL := jh (NumO.later b1 f1); have C20 := jh (jj f20 b1); have C21 := jh (jj f21 b1); have C22 := jh (jj f22 b1); have HU := jh f9; have HB := jh (jm b0 b1); have HUW := jh (show w.heap.size ≤ UB by omega); clear e0 e1 s0 s1 b0 b1 f0 f1 f20 f21 f22 f9 hCB hUB; refine wp_region_lit ?_; refine ji (v := .pointer (some ⟨CB, 0, none⟩)) rfl (by kernel_rfl) ?_; refine ji rfl (jg (qG HC.out)) ?_; simp only [Act.put, pa, pb, pc]
 go_upto_region 2 with fail
 obtain ⟨v_2, e9⟩ := je (v_1.alloc (.cells #[.int .u64 (jf jd gp 0), .int .u64 (jf jd gp 1), .int .u64 (jf jd gp 2), .int .u64 (jf jd gp 3), .int .u64 (jf jd gq 0), .int .u64 (jf jd gq 1), .int .u64 (jf jd gq 2), .int .u64 (jf jd gq 3), .int .u64 (jf jd gg 0), .int .u64 (jf jd gg 1), .int .u64 (jf jd gg 2), .int .u64 (jf jd gg 3), .int .u64 (jf jd gh 0), .int .u64 (jf jd gh 1), .int .u64 (jf jd gh 2), .int .u64 (jf jd gh 3)] 26)); obtain ⟨GB, h9⟩ := je (v_1.heap.size); have hb := jc e9; have HG := jh (show GrpAt v_2 GB gp gq gg gh by rw [e9, h9]; exact GrpAt.new _ _ _ _ _ _); have HGF := jh (show FreeN v_2 GB 16 by rw [e9, h9]; exact FreeN.new _ _ _ _); have LGB := jh (show GB < v_2.heap.size by rw [e9, h9]; simp); have WGB := jh (show v_1.heap.size = GB from h9.symm); have nGB := jh (show CB ≠ GB ∧ UB ≠ GB by have a1 := HC.out.lt; have a2 := (Array.getElem?_eq_some_iff.1 HU.out).1; omega); have bGB := jh (show w.heap.size ≤ GB by rw [h9]; exact HB.out.size); rw [← e9, ← h9]; clear e9 h9; have HL := jh (NumO.later hb HL.out); have HC := jh (HC.out.later hb); have C20 := jh (jj C20.out hb); have C21 := jh (jj C21.out hb); have C22 := jh (jj C22.out hb); have HU := jb hb HU; have HB := jw HB hb; clear hb; refine wp_region_lit ?_; refine ji rfl (jg (qG HG.out)) ?_; refine ji (v := .pointer (some ⟨GB, 8, none⟩)) rfl (by kernel_rfl) ?_; refine ji rfl (jg (jX HG.out.2.2.1)) ?_; refine ji (v := .pointer (some ⟨CB, 16, none⟩)) rfl (by kernel_rfl) ?_; refine ji rfl (jg (jX HL.out)) ?_; simp only [Act.put, pa, pb, pc]
 go_wp2_with fail
 refine (CE.out _).mono ?_; rintro _ v_3 ⟨rfl, hb⟩; have HL := jh (NumO.later hb HL.out); have HC := jh (HC.out.later hb); have C20 := jh (jj C20.out hb); have C21 := jh (jj C21.out hb); have C22 := jh (jj C22.out hb); have HU := jb hb HU; have HB := jw HB hb; have HG := jh (HG.out.later hb); have HGF := jh (HGF.out.later hb LGB.out); have LGB := jl LGB hb.size; clear hb
 go_upto_region 3 with fail
 obtain ⟨v_4, e9⟩ := je (v_3.alloc (.cells #[.int .u64 (jf jd h 0), .int .u64 (jf jd h 1), .int .u64 (jf jd h 2), .int .u64 (jf jd h 3)] 24)); obtain ⟨HB9, h9⟩ := je (v_3.heap.size); have hb := jc e9; have HH := jh (show NumAt v_4 HB9 h by rw [e9, h9]; exact NumAt.new _ _ _ _ rfl); have LHB9 := jh (show HB9 < v_4.heap.size by rw [e9, h9]; simp); have WHB9 := jh (show v_3.heap.size = HB9 from h9.symm); have nHB := jh (show HB9 ≠ GB by have a1 := LGB.out; omega); rw [← e9, ← h9]; clear e9 h9; have HL := jh (NumO.later hb HL.out); have HC := jh (HC.out.later hb); have C20 := jh (jj C20.out hb); have C21 := jh (jj C21.out hb); have C22 := jh (jj C22.out hb); have HU := jb hb HU; have HB := jw HB hb; have HG := jh (HG.out.later hb); have HGF := jh (HGF.out.later hb LGB.out); have LGB := jl LGB hb.size; clear hb; refine wp_region_lit ?_; refine ji (v := .int .i64 0) rfl (by kernel_rfl) ?_
 iterate 2
  simp only [Act.put, pa, pb, pc]; refine ji (v := .bool false) rfl (by kernel_rfl) ?_
 simp only [Act.put, pa, pb, pc]; refine jt (v := .pointer (some ⟨CB, 16, none⟩)) (by kernel_rfl) (by kernel_rfl) ?_; simp only [Act.put, pa, pb, pc]; refine jt (by kernel_rfl) (jg (jX HL.out)) ?_; simp only [Act.put, pa, pb, pc]; refine jt (v := .agg #[.int .u64 0, .int .u64 0, .int .u64 0, .int .u64 0]) (by kernel_rfl) (by kernel_rfl) ?_; simp only [Act.put, pa, pb, pc]; refine jt (v := .bool false) (by kernel_rfl) (qw QC rfl (by kernel_rfl) (by kernel_rfl) (HEQ9.out _)) ?_
 iterate 2
  simp only [Act.put, pa, pb, pc]; refine ji (v := .bool false) rfl (by kernel_rfl) ?_
 simp only [Act.put, pa, pb, pc]; refine jt (v := .pointer (some ⟨CB, 22, none⟩)) (by kernel_rfl) (by kernel_rfl) ?_; simp only [Act.put, pa, pb, pc]; refine jt (v := .slice ao n cap) (by kernel_rfl) (jg (loadSl C22.out)) ?_; simp only [Act.put, pa, pb, pc]; refine jt (v := .int .i64 n) (by kernel_rfl) (by kernel_rfl) ?_; simp only [Act.put, pa, pb, pc]; refine jt (v := .bool false) (by kernel_rfl) (by simp [go_sem, h1I]) ?_
 iterate 2
  simp only [Act.put, pa, pb, pc]; refine ji (v := .bool false) rfl (by kernel_rfl) ?_
 simp only [Act.put, pa, pb, pc]; refine jt (by kernel_rfl) (jg (loadC9 HC.out HL.out C20.out C21.out C22.out)) ?_; simp only [Act.put, pa, pb, pc]
 go_wp2_with fail
 refine (CP.out _).mono ?_; rintro _ v_5 ⟨ok, rfl, hpr, hb⟩; have HL := jh (NumO.later hb HL.out); have HC := jh (HC.out.later hb); have C20 := jh (jj C20.out hb); have C21 := jh (jj C21.out hb); have C22 := jh (jj C22.out hb); have HU := jb hb HU; have HB := jw HB hb; have HG := jh (HG.out.later hb); have HGF := jh (HGF.out.later hb LGB.out); have HH := jn hb HH; have LGB := jl LGB hb.size; have LHB9 := jl LHB9 hb.size; clear hb
 cases ok
 rotate_left
 ·have HPR := jh (hpr rfl); clear hpr
  go_upto_region 5 with fail
  have NGB := jh (show CB ≠ GB ∧ UB ≠ GB ∧ HB9 ≠ GB from ⟨nGB.out.1, nGB.out.2, nHB.out⟩); obtain ⟨h12, h13, h14, h15⟩ := (show _ ∧ _ ∧ _ ∧ _ from ⟨HG.out.2.2.2 0 (by decide), HG.out.2.2.2 1 (by decide), HG.out.2.2.2 2 (by decide), HG.out.2.2.2 3 (by decide)⟩); simp only [Nat.reduceAdd] at h12 h13 h14 h15; have f12 := HGF.out 12 (by decide); have f13 := HGF.out 13 (by decide); have f14 := HGF.out 14 (by decide); have f15 := HGF.out 15 (by decide); obtain ⟨r0, r1, r2, r3⟩ := jR HH.out
  go_upto_region 6 with fail
  clear h12 h13 h14 h15 f12 f13 f14 f15 r0 r1 r2 r3; obtain ⟨v_6, e9⟩ := je ((((v_5.setCell ⟨GB, 12, none⟩ (.int .u64 (jf jd h 0))).setCell ⟨GB, 13, none⟩ (.int .u64 (jf jd h 1))).setCell ⟨GB, 14, none⟩ (.int .u64 (jf jd h 2))).setCell ⟨GB, 15, none⟩ (.int .u64 (jf jd h 3))); have hgs : v_5.grownBy v_6 (some GB) := by rw [e9]; exact jp (jp (jp (jp (World.grownBy.refl v_5 (some GB)) 12 _) 13 _) 14 _) 15 _
  have HGN := jh (show GrpAt v_6 GB gp gq gg h by rw [e9]; exact grp_setH HG.out h); rw [← e9]; clear e9 HGF; clear HC HL HH CP HEQ9; have C20 := jh (jA C20.out hgs (fun e => NGB.out.1 (by injection e))); have C21 := jh (jA C21.out hgs (fun e => NGB.out.1 (by injection e))); have C22 := jh (jA C22.out hgs (fun e => NGB.out.1 (by injection e))); have HU := jh (qN HU.out hgs (fun e => NGB.out.2.1 (by injection e))); have HB := jh (HB.out.grown hgs HB.out.size (fun k hk => by have e7 : GB = k := (by injection hk); rw [← e7]; exact bGB.out)); have LGB := jl LGB hgs.size; have LHB9 := jl LHB9 hgs.size; clear hgs; have HG := HGN; clear HGN; refine wp_region_lit ?_; refine ji rfl (jg (qG HG.out)) ?_; simp only [Act.put, pa, pb, pc]; refine ji (v := .pointer (some ⟨CB, 20, none⟩)) rfl (by kernel_rfl) ?_; simp only [Act.put, pa, pb, pc]; refine ji (v := .int .i64 fa) rfl (jg (loadI9 C20.out)) ?_; simp only [Act.put, pa, pb, pc]; refine ji (v := .pointer (some ⟨CB, 21, none⟩)) rfl (by kernel_rfl) ?_; simp only [Act.put, pa, pb, pc]; refine ji (v := .int .i64 se) rfl (jg (loadI9 C21.out)) ?_; simp only [Act.put, pa, pb, pc]; refine ji (v := .agg #[.int .u64 (jf jd gp 0), .int .u64 (jf jd gp 1), .int .u64 (jf jd gp 2), .int .u64 (jf jd gp 3), .int .u64 (jf jd gq 0), .int .u64 (jf jd gq 1), .int .u64 (jf jd gq 2), .int .u64 (jf jd gq 3), .int .u64 (jf jd gg 0), .int .u64 (jf jd gg 1), .int .u64 (jf jd gg 2), .int .u64 (jf jd gg 3), .int .u64 (jf jd h 0), .int .u64 (jf jd h 1), .int .u64 (jf jd h 2), .int .u64 (jf jd h 3), .int .i64 fa, .int .i64 se, .slice none 0 0]) rfl (by kernel_rfl) ?_; simp only [Act.put, pa, pb, pc]; refine jS (v := .pointer (some ⟨v_6.heap.size, 0, none⟩)) (w' := v_6.alloc (.cells zero19 33)) rfl (by kernel_rfl) ?_; simp only [Act.put, pa, pb, pc]; refine jM rfl _ _ _ rfl zero19 #[.int .u64 (jf jd gp 0), .int .u64 (jf jd gp 1), .int .u64 (jf jd gp 2), .int .u64 (jf jd gp 3), .int .u64 (jf jd gq 0), .int .u64 (jf jd gq 1), .int .u64 (jf jd gq 2), .int .u64 (jf jd gq 3), .int .u64 (jf jd gg 0), .int .u64 (jf jd gg 1), .int .u64 (jf jd gg 2), .int .u64 (jf jd gg 3), .int .u64 (jf jd h 0), .int .u64 (jf jd h 1), .int .u64 (jf jd h 2), .int .u64 (jf jd h 3), .int .i64 fa, .int .i64 se, .slice none 0 0] rfl rfl (by rw [qu]; rfl) rfl (by kernel_rfl) ?_; simp only [Act.put, pa, pb, pc]
  go_upto_region 7 with fail
  have NE6 := jh (show CB < v_6.heap.size ∧ UB < v_6.heap.size ∧ GB < v_6.heap.size ∧ w.heap.size ≤ v_6.heap.size from ⟨World.block_lt_of_cell? (a := ⟨CB, 22, none⟩) _ C22.out, (Array.getElem?_eq_some_iff.1 HU.out).1, HG.out.lt, HB.out.size⟩); obtain ⟨v_7, e9⟩ := je (v_6.alloc (.cells #[.int .u64 (jf jd gp 0), .int .u64 (jf jd gp 1), .int .u64 (jf jd gp 2), .int .u64 (jf jd gp 3), .int .u64 (jf jd gq 0), .int .u64 (jf jd gq 1), .int .u64 (jf jd gq 2), .int .u64 (jf jd gq 3), .int .u64 (jf jd gg 0), .int .u64 (jf jd gg 1), .int .u64 (jf jd gg 2), .int .u64 (jf jd gg 3), .int .u64 (jf jd h 0), .int .u64 (jf jd h 1), .int .u64 (jf jd h 2), .int .u64 (jf jd h 3), .int .i64 fa, .int .i64 se, .slice none 0 0] 33)); obtain ⟨SB, h9⟩ := je (v_6.heap.size); have hb := jc e9; have HS := jh (show SAt v_7 SB gp gq gg h fa se (.slice none 0 0) by rw [e9, h9]; exact SAt.new _ _ _ _ _ _ _ _ _); have LSB := jh (show SB < v_7.heap.size by rw [e9, h9]; simp); have WSB := jh (show v_6.heap.size = SB from h9.symm); rw [← e9, ← h9]; clear e9 h9; have C20 := jh (jj C20.out hb); have C21 := jh (jj C21.out hb); have C22 := jh (jj C22.out hb); have HU := jb hb HU; have HB := jw HB hb; have HG := jh (HG.out.later hb); have LGB := jl LGB hb.size; have LHB9 := jl LHB9 hb.size; clear hb; clear C20 C21 LGB LHB9; obtain ⟨SB1, hSB1⟩ := je (SB + 1); have HO := jh (show OwnV v_7 SB1 77 8 (.slice none 0 0) 0 (jU []) from ⟨rfl, .inl ⟨rfl, rfl⟩⟩); have HS1 := jh (show SB1 ≤ v_7.heap.size by have := LSB.out; omega); have NE := jh (show CB < SB1 ∧ UB < SB1 ∧ GB < SB1 ∧ SB < SB1 ∧ w.heap.size ≤ SB1 by have a1 := NE6.out; have a2 := WSB.out; omega); have NS := jh (show CB < SB ∧ UB < SB ∧ GB < SB ∧ w.heap.size ≤ SB by have a1 := NE6.out; have a2 := WSB.out; omega); clear NE6 WSB hSB1 LSB
  go_wp2_with fail
  go_loopw [8] (fun i wr => ∃ (k : Nat) (v : Value), k ≤ n ∧ i = .int .i64 k ∧ Hid (∀ j x, j < k → sk[j]? = some x → x.1 ≠ 0 ∧ x.2 ≠ 0 ∧ x.1 < gq ∧ x.2 < gq) ∧ Hid (OwnV wr SB1 77 8 v k (jU ((sk.take k).map (fun k : Nat × Nat => (gg ^ k.1 % gp, h ^ k.2 % gp))))) ∧ Hid (SAt wr SB gp gq gg h fa se v) ∧ Hid (GrpAt wr GB gp gq gg h) ∧ Hid (wr.cell? ⟨CB, 22, none⟩ = some (.slice ao n cap)) ∧ Hid (wr.heap[UB]? = some (.cells zero19 33 (0, 0))) ∧ Hid (Below w.heap.size w wr) ∧ Hid (SB1 ≤ wr.heap.size)) (fun i _ => n - (intOf i).toNat)
  case atStart => exact ⟨0, _, Nat.zero_le _, rfl, jh (fun j x hj => absurd hj (Nat.not_lt_zero j)), HO, HS, HG, C22, HU, HB, HS1⟩
  case round =>
   clear HO HS HG C22 HU HB HS1; obtain ⟨k, v, hk, rfl, HQK, HO, HS, HG, C22, HU, HB, HS1⟩ := hrel
   by_cases hlt : k < n
   ·obtain ⟨x, hx⟩ : ∃ x, sk[k]? = some x := ⟨_, List.getElem?_eq_getElem (by rw [← HN.out]; exact hlt)⟩; obtain ⟨b, o, hao, hks⟩ := HK.out (by omega); have hltI : (k : Int) < (n : Int) := by omega
    have HLT := jh hlt; have HXX := jh (HSK.out x (List.mem_of_getElem? hx)); have HXI := jh hx; have HK1 := jh (show NumO wr b (o + k * 8) x.1 from fun j hj => jj ((hks k x hx).1 j hj) HB.out); have HK2 := jh (show NumO wr b (o + k * 8 + 4) x.2 from fun j hj => by have := jj ((hks k x hx).2 j hj) HB.out; rw [← Nat.add_assoc] at this; exact this); rw [hao] at C22; have HAO := jh hao; clear hlt hx hks hao; obtain ⟨x1, x2⟩ := x; have q22 := C22.out
    go_upto_region 10 with fail
    clear q22; refine wp_region_lit ?_; refine ji (v := .pointer (some ⟨CB, 22, none⟩)) rfl (by kernel_rfl) ?_; simp only [Act.put, pa, pb, pc]; refine ji (v := .slice (some ⟨b, o, none⟩) n cap) rfl (jg (loadSl C22.out)) ?_; simp only [Act.put, pa, pb, pc]; refine ji (v := .int .i64 k) rfl (by kernel_rfl) ?_; simp only [Act.put, pa, pb, pc]; refine ji (v := .pointer (some ⟨b, o + k * 8, none⟩)) rfl (by simp [go_sem, hltI]) ?_; simp only [Act.put, pa, pb, pc]; refine ji rfl (jg (loadK9 HK1.out HK2.out)) ?_; simp only [Act.put, pa, pb, pc]; refine jS (v := .pointer (some ⟨wr.heap.size, 0, none⟩)) (w' := wr.alloc (.cells #[.int .u64 0, .int .u64 0, .int .u64 0, .int .u64 0, .int .u64 0, .int .u64 0, .int .u64 0, .int .u64 0] 62)) rfl (by kernel_rfl) ?_; simp only [Act.put, pa, pb, pc]; refine jM rfl _ _ _ rfl #[.int .u64 0, .int .u64 0, .int .u64 0, .int .u64 0, .int .u64 0, .int .u64 0, .int .u64 0, .int .u64 0] #[.int .u64 (jf jd x1 0), .int .u64 (jf jd x1 1), .int .u64 (jf jd x1 2), .int .u64 (jf jd x1 3), .int .u64 (jf jd x2 0), .int .u64 (jf jd x2 1), .int .u64 (jf jd x2 2), .int .u64 (jf jd x2 3)] rfl rfl (by rw [info_s9]; rfl) rfl (by kernel_rfl) ?_; simp only [Act.put, pa, pb, pc]
    go_upto_region 11 with fail
    obtain ⟨u_1, e9⟩ := je (wr.alloc (.cells #[.int .u64 (jf jd x1 0), .int .u64 (jf jd x1 1), .int .u64 (jf jd x1 2), .int .u64 (jf jd x1 3), .int .u64 (jf jd x2 0), .int .u64 (jf jd x2 1), .int .u64 (jf jd x2 2), .int .u64 (jf jd x2 3)] 62)); obtain ⟨KB, h9⟩ := je (wr.heap.size); have hb := jc e9; have HKR := jh (show u_1.heap[KB]? = some (.cells #[.int .u64 (jf jd x1 0), .int .u64 (jf jd x1 1), .int .u64 (jf jd x1 2), .int .u64 (jf jd x1 3), .int .u64 (jf jd x2 0), .int .u64 (jf jd x2 1), .int .u64 (jf jd x2 2), .int .u64 (jf jd x2 3)] 62 (0, 0)) by rw [e9, h9]; exact heap_alloc_new _ _); have LKB := jh (show KB < u_1.heap.size by rw [e9, h9]; simp); have WKB := jh (show wr.heap.size = KB from h9.symm); rw [← e9, ← h9]; clear e9 h9; have HS1 := jh (Nat.le_trans HS1.out hb.size); have HS := jh (HS.out.later hb); have HG := jh (HG.out.later hb); have C22 := jh (jj C22.out hb); have HU := jb hb HU; have HB := jw HB hb; have HO := jh (HO.out.later hb); clear hb; clear LKB HK1 HK2; have HX1 := jh (show x1 < jk from HXX.out.1); have HX2 := jh (show x2 < jk from HXX.out.2); have HN1 := jh (numo_row8 HKR.out).1; have HN2 := jh (numo_row8 HKR.out).2; clear HKR HXX; have HE1 := jh (fun (W : World) => by have h9 := qx x1 0 HX1.out (by decide) W; simp only [show ((jf jd 0 0 : Nat) : Int) = 0 by rw [jP]; rfl, show ((jf jd 0 1 : Nat) : Int) = 0 by rw [jP]; rfl, show ((jf jd 0 2 : Nat) : Int) = 0 by rw [jP]; rfl, show ((jf jd 0 3 : Nat) : Int) = 0 by rw [jP]; rfl] at h9; exact h9); have CC1 := jh (fun (W : World) => by have h9 := qF (a := x1) (b := gq) HX1.out HGQ.out W; unfold jo words at h9; exact h9); have HE2 := jh (fun (W : World) => by have h9 := qx x2 0 HX2.out (by decide) W; simp only [show ((jf jd 0 0 : Nat) : Int) = 0 by rw [jP]; rfl, show ((jf jd 0 1 : Nat) : Int) = 0 by rw [jP]; rfl, show ((jf jd 0 2 : Nat) : Int) = 0 by rw [jP]; rfl, show ((jf jd 0 3 : Nat) : Int) = 0 by rw [jP]; rfl] at h9; exact h9); have CC2 := jh (fun (W : World) => by have h9 := qF (a := x2) (b := gq) HX2.out HGQ.out W; unfold jo words at h9; exact h9)
    by_cases hz1 : x1 = 0
    ·have HZ1 := jh hz1; refine wp_region_lit ?_; refine ji (v := .pointer (some ⟨KB, 0, none⟩)) rfl (by kernel_rfl) ?_; simp only [Act.put, pa, pb, pc]; refine ji rfl (jg (jX HN1.out)) ?_; simp only [Act.put, pa, pb, pc]; refine ji (v := .agg #[.int .u64 0, .int .u64 0, .int .u64 0, .int .u64 0]) rfl (by kernel_rfl) ?_; simp only [Act.put, pa, pb, pc]; refine ji (v := .bool true) rfl (qw QC rfl (by kernel_rfl) (by kernel_rfl) (by have h9 := HE1.out; rw [decide_eq_true HZ1.out] at h9; exact h9 _)) ?_; simp only [Act.put, pa, pb, pc]; refine ji (v := .bool true) rfl (by kernel_rfl) ?_; simp only [Act.put, pa, pb, pc]
     go_upto_region 12 with fail
     refine wp_region_lit ?_; refine ji (v := .agg zero19) rfl (by kernel_rfl) ?_; refine jI rfl _ _ _ rfl UB _ _ _ HU.out rfl rfl (by rw [qu]; rfl) rfl qV ?_; simp only [Act.put, pa, pb, pc]; obtain ⟨w9, e9⟩ := je (u_1.setRow UB zero19); have hr9 : w9.heap[UB]? = some (.cells zero19 33 (0, 0)) := by rw [e9]; exact setRow_heap _ _ _ _ _ _ HU.out
     have hb9 : Below w.heap.size w w9 := by rw [e9]; exact below_setRow HB.out HUW.out _
     have HR9 := jh hr9; have HB9b := jh hb9; rw [← e9]; clear e9 hr9 hb9
     go_wp2_with fail
     refine bodyPost_ret (jT rfl _ w9 UB _ _ _ _ rfl HR9.out Tryz.underlying33 rfl (by rw [qu]; rfl) (.bool false) rfl) rfl ⟨0, 0, 0, 0, 0, 0, none, 0, 0, false, by rw [zY], (fun h => by cases h), HB9b.out⟩
    have HZ1 := jh hz1
    by_cases hz2 : x2 = 0
    ·have HZ2 := jh hz2; refine wp_region_lit ?_; refine ji (v := .pointer (some ⟨KB, 0, none⟩)) rfl (by kernel_rfl) ?_; simp only [Act.put, pa, pb, pc]; refine ji rfl (jg (jX HN1.out)) ?_; simp only [Act.put, pa, pb, pc]; refine ji (v := .agg #[.int .u64 0, .int .u64 0, .int .u64 0, .int .u64 0]) rfl (by kernel_rfl) ?_; simp only [Act.put, pa, pb, pc]; refine ji (v := .bool false) rfl (qw QC rfl (by kernel_rfl) (by kernel_rfl) (by have h9 := HE1.out; rw [decide_eq_false HZ1.out] at h9; exact h9 _)) ?_; simp only [Act.put, pa, pb, pc]; refine ji (v := .bool false) rfl (by kernel_rfl) ?_; simp only [Act.put, pa, pb, pc]; refine jt (v := .pointer (some ⟨KB, 4, none⟩)) (by kernel_rfl) (by kernel_rfl) ?_; simp only [Act.put, pa, pb, pc]; refine jt (by kernel_rfl) (jg (jX HN2.out)) ?_; simp only [Act.put, pa, pb, pc]; refine jt (v := .agg #[.int .u64 0, .int .u64 0, .int .u64 0, .int .u64 0]) (by kernel_rfl) (by kernel_rfl) ?_; simp only [Act.put, pa, pb, pc]; refine jt (v := .bool true) (by kernel_rfl) (qw QC rfl (by kernel_rfl) (by kernel_rfl) (by have h9 := HE2.out; rw [decide_eq_true HZ2.out] at h9; exact h9 _)) ?_
     iterate 2
      simp only [Act.put, pa, pb, pc]; refine ji (v := .bool true) rfl (by kernel_rfl) ?_
     simp only [Act.put, pa, pb, pc]
     go_upto_region 12 with fail
     refine wp_region_lit ?_; refine ji (v := .agg zero19) rfl (by kernel_rfl) ?_; refine jI rfl _ _ _ rfl UB _ _ _ HU.out rfl rfl (by rw [qu]; rfl) rfl qV ?_; simp only [Act.put, pa, pb, pc]; obtain ⟨w9, e9⟩ := je (u_1.setRow UB zero19); have hr9 : w9.heap[UB]? = some (.cells zero19 33 (0, 0)) := by rw [e9]; exact setRow_heap _ _ _ _ _ _ HU.out
     have hb9 : Below w.heap.size w w9 := by rw [e9]; exact below_setRow HB.out HUW.out _
     have HR9 := jh hr9; have HB9b := jh hb9; rw [← e9]; clear e9 hr9 hb9
     go_wp2_with fail
     refine bodyPost_ret (jT rfl _ w9 UB _ _ _ _ rfl HR9.out Tryz.underlying33 rfl (by rw [qu]; rfl) (.bool false) rfl) rfl ⟨0, 0, 0, 0, 0, 0, none, 0, 0, false, by rw [zY], (fun h => by cases h), HB9b.out⟩
    have HZ2 := jh hz2; clear hz1 hz2; refine wp_region_lit ?_; refine ji (v := .pointer (some ⟨KB, 0, none⟩)) rfl (by kernel_rfl) ?_; simp only [Act.put, pa, pb, pc]; refine ji rfl (jg (jX HN1.out)) ?_; simp only [Act.put, pa, pb, pc]; refine ji (v := .agg #[.int .u64 0, .int .u64 0, .int .u64 0, .int .u64 0]) rfl (by kernel_rfl) ?_; simp only [Act.put, pa, pb, pc]; refine ji (v := .bool false) rfl (qw QC rfl (by kernel_rfl) (by kernel_rfl) (by have h9 := HE1.out; rw [decide_eq_false HZ1.out] at h9; exact h9 _)) ?_; simp only [Act.put, pa, pb, pc]; refine ji (v := .bool false) rfl (by kernel_rfl) ?_; simp only [Act.put, pa, pb, pc]; refine jt (v := .pointer (some ⟨KB, 4, none⟩)) (by kernel_rfl) (by kernel_rfl) ?_; simp only [Act.put, pa, pb, pc]; refine jt (by kernel_rfl) (jg (jX HN2.out)) ?_; simp only [Act.put, pa, pb, pc]; refine jt (v := .agg #[.int .u64 0, .int .u64 0, .int .u64 0, .int .u64 0]) (by kernel_rfl) (by kernel_rfl) ?_; simp only [Act.put, pa, pb, pc]; refine jt (v := .bool false) (by kernel_rfl) (qw QC rfl (by kernel_rfl) (by kernel_rfl) (by have h9 := HE2.out; rw [decide_eq_false HZ2.out] at h9; exact h9 _)) ?_
    iterate 2
     simp only [Act.put, pa, pb, pc]; refine ji (v := .bool false) rfl (by kernel_rfl) ?_
    simp only [Act.put, pa, pb, pc]; refine jt (v := .pointer (some ⟨KB, 0, none⟩)) (by kernel_rfl) (by kernel_rfl) ?_; simp only [Act.put, pa, pb, pc]; refine jt (by kernel_rfl) (jg (jX HN1.out)) ?_; simp only [Act.put, pa, pb, pc]; refine jt (v := .pointer (some ⟨GB, 4, none⟩)) (by kernel_rfl) (by kernel_rfl) ?_; simp only [Act.put, pa, pb, pc]; refine jt (by kernel_rfl) (jg (jX HG.out.2.1)) ?_; simp only [Act.put, pa, pb, pc]
    go_wp2_with fail
    obtain ⟨c1, hc1⟩ := je (Je x1 gq); rw [← hc1] at CC1; refine (CC1.out _).mono ?_; rintro _ u_2 ⟨rfl, hb⟩; have HS1 := jh (Nat.le_trans HS1.out hb.size); have HN1 := jh (NumO.later hb HN1.out); have HN2 := jh (NumO.later hb HN2.out); have HS := jh (HS.out.later hb); have HG := jh (HG.out.later hb); have C22 := jh (jj C22.out hb); have HU := jb hb HU; have HB := jw HB hb; have HO := jh (HO.out.later hb); clear hb
    by_cases hz3 : gq ≤ x1
    ·have hc1I : (0 : Int) ≤ c1 := by rw [hc1]; unfold Je; split; omega; split <;> omega
     clear hc1
     go_upto_region 12 with fail
     refine wp_region_lit ?_; refine ji (v := .agg zero19) rfl (by kernel_rfl) ?_; refine jI rfl _ _ _ rfl UB _ _ _ HU.out rfl rfl (by rw [qu]; rfl) rfl qV ?_; simp only [Act.put, pa, pb, pc]; obtain ⟨w9, e9⟩ := je (u_2.setRow UB zero19); have hr9 : w9.heap[UB]? = some (.cells zero19 33 (0, 0)) := by rw [e9]; exact setRow_heap _ _ _ _ _ _ HU.out
     have hb9 : Below w.heap.size w w9 := by rw [e9]; exact below_setRow HB.out HUW.out _
     have HR9 := jh hr9; have HB9b := jh hb9; rw [← e9]; clear e9 hr9 hb9
     go_wp2_with fail
     refine bodyPost_ret (jT rfl _ w9 UB _ _ _ _ rfl HR9.out Tryz.underlying33 rfl (by rw [qu]; rfl) (.bool false) rfl) rfl ⟨0, 0, 0, 0, 0, 0, none, 0, 0, false, by rw [zY], (fun h => by cases h), HB9b.out⟩
    have HZ3 := jh (show x1 < gq by omega); have hc1I : ¬ (0 : Int) ≤ c1 := by rw [hc1]; unfold Je; rw [if_pos HZ3.out]; decide
    clear hc1 hz3; have k0 := HN2.out 0 (by decide); have k1 := HN2.out 1 (by decide); have k2 := HN2.out 2 (by decide); have k3 := HN2.out 3 (by decide); have g0 := HG.out.2.1 0 (by decide); have g1 := HG.out.2.1 1 (by decide); have g2 := HG.out.2.1 2 (by decide); have g3 := HG.out.2.1 3 (by decide); simp only [Nat.reduceAdd] at k0 k1 k2 k3 g0 g1 g2 g3
    go_wp2_with fail
    clear k0 k1 k2 k3 g0 g1 g2 g3; obtain ⟨c2, hc2⟩ := je (Je x2 gq); rw [← hc2] at CC2; refine (CC2.out _).mono ?_; rintro _ u_3 ⟨rfl, hb⟩; have HS1 := jh (Nat.le_trans HS1.out hb.size); have HN1 := jh (NumO.later hb HN1.out); have HN2 := jh (NumO.later hb HN2.out); have HS := jh (HS.out.later hb); have HG := jh (HG.out.later hb); have C22 := jh (jj C22.out hb); have HU := jb hb HU; have HB := jw HB hb; have HO := jh (HO.out.later hb); clear hb
    by_cases hz4 : gq ≤ x2
    ·have hc2I : (0 : Int) ≤ c2 := by rw [hc2]; unfold Je; split; omega; split <;> omega
     clear hc2
     go_upto_region 12 with fail
     refine wp_region_lit ?_; refine ji (v := .agg zero19) rfl (by kernel_rfl) ?_; refine jI rfl _ _ _ rfl UB _ _ _ HU.out rfl rfl (by rw [qu]; rfl) rfl qV ?_; simp only [Act.put, pa, pb, pc]; obtain ⟨w9, e9⟩ := je (u_3.setRow UB zero19); have hr9 : w9.heap[UB]? = some (.cells zero19 33 (0, 0)) := by rw [e9]; exact setRow_heap _ _ _ _ _ _ HU.out
     have hb9 : Below w.heap.size w w9 := by rw [e9]; exact below_setRow HB.out HUW.out _
     have HR9 := jh hr9; have HB9b := jh hb9; rw [← e9]; clear e9 hr9 hb9
     go_wp2_with fail
     refine bodyPost_ret (jT rfl _ w9 UB _ _ _ _ rfl HR9.out Tryz.underlying33 rfl (by rw [qu]; rfl) (.bool false) rfl) rfl ⟨0, 0, 0, 0, 0, 0, none, 0, 0, false, by rw [zY], (fun h => by cases h), HB9b.out⟩
    have HZ4 := jh (show x2 < gq by omega); have hc2I : ¬ (0 : Int) ≤ c2 := by rw [hc2]; unfold Je; rw [if_pos HZ4.out]; decide
    clear hc2 hz4
    go_upto_region 13 with fail
    clear hc1I hc2I CC1 CC2 HE1 HE2; obtain ⟨A9, hA9⟩ := je (gg ^ x1 % gp); have HA9 := jh hA9; have CA := jh (fun W => by have h9 := Jc (gq := gq) (gg := gg) (gh := h) (n := x1) HMAY.out HGGm.out HX1.out HGP.out W; rewrite [← hA9] at h9; unfold jo words at h9; exact h9); clear hA9; refine wp_region_lit ?_; refine ji rfl (jg (qG HG.out)) ?_; simp only [Act.put, pa, pb, pc]; refine ji (v := .pointer (some ⟨GB, 8, none⟩)) rfl (by kernel_rfl) ?_; simp only [Act.put, pa, pb, pc]; refine ji rfl (jg (jX HG.out.2.2.1)) ?_; simp only [Act.put, pa, pb, pc]; refine ji (v := .pointer (some ⟨KB, 0, none⟩)) rfl (by kernel_rfl) ?_; simp only [Act.put, pa, pb, pc]; refine ji rfl (jg (jX HN1.out)) ?_; simp only [Act.put, pa, pb, pc]
    go_wp2_with fail
    refine (CA.out _).mono ?_; rintro _ u_4 ⟨rfl, hb⟩; have HS1 := jh (Nat.le_trans HS1.out hb.size); have HN1 := jh (NumO.later hb HN1.out); have HN2 := jh (NumO.later hb HN2.out); have HS := jh (HS.out.later hb); have HG := jh (HG.out.later hb); have C22 := jh (jj C22.out hb); have HU := jb hb HU; have HB := jw HB hb; have HO := jh (HO.out.later hb); clear hb
    go_upto_region 14 with fail
    obtain ⟨u_5, e9⟩ := je (u_4.alloc (.cells #[.int .u64 (jf jd A9 0), .int .u64 (jf jd A9 1), .int .u64 (jf jd A9 2), .int .u64 (jf jd A9 3)] 24)); obtain ⟨AB, h9⟩ := je (u_4.heap.size); have hb := jc e9; have HAB := jh (show NumAt u_5 AB A9 by rw [e9, h9]; exact NumAt.new _ _ _ _ rfl); have LAB := jh (show AB < u_5.heap.size by rw [e9, h9]; simp); have WAB := jh (show u_4.heap.size = AB from h9.symm); rw [← e9, ← h9]; clear e9 h9; have HS1 := jh (Nat.le_trans HS1.out hb.size); have HN1 := jh (NumO.later hb HN1.out); have HN2 := jh (NumO.later hb HN2.out); have HS := jh (HS.out.later hb); have HG := jh (HG.out.later hb); have C22 := jh (jj C22.out hb); have HU := jb hb HU; have HB := jw HB hb; have HO := jh (HO.out.later hb); clear hb; clear CA
    by_cases hmh : Jh gp h
    ·obtain ⟨B9, hB9⟩ := je (h ^ x2 % gp); have HB9b := jh hB9; have CB9 := jh (fun W => by have h9 := Jc (gq := gq) (gg := gg) (gh := h) (n := x2) hmh HHM.out HX2.out HGP.out W; rewrite [← hB9] at h9; unfold jo words at h9; exact h9); clear hB9 hmh; refine wp_region_lit ?_; refine ji rfl (jg (qG HG.out)) ?_; simp only [Act.put, pa, pb, pc]; refine ji (v := .pointer (some ⟨GB, 12, none⟩)) rfl (by kernel_rfl) ?_; simp only [Act.put, pa, pb, pc]; refine ji rfl (jg (jX HG.out.2.2.2)) ?_; simp only [Act.put, pa, pb, pc]; refine ji (v := .pointer (some ⟨KB, 4, none⟩)) rfl (by kernel_rfl) ?_; simp only [Act.put, pa, pb, pc]; refine ji rfl (jg (jX HN2.out)) ?_; simp only [Act.put, pa, pb, pc]
     go_wp2_with fail
     refine (CB9.out _).mono ?_; rintro _ u_6 ⟨rfl, hb⟩; have HS1 := jh (Nat.le_trans HS1.out hb.size); have HN1 := jh (NumO.later hb HN1.out); have HN2 := jh (NumO.later hb HN2.out); have HS := jh (HS.out.later hb); have HG := jh (HG.out.later hb); have C22 := jh (jj C22.out hb); have HU := jb hb HU; have HB := jw HB hb; have HO := jh (HO.out.later hb); have HAB := jn hb HAB; have LAB := jl LAB hb.size; clear hb
     go_upto_region 15 with fail
     obtain ⟨u_7, e9⟩ := je (u_6.alloc (.cells #[.int .u64 (jf jd B9 0), .int .u64 (jf jd B9 1), .int .u64 (jf jd B9 2), .int .u64 (jf jd B9 3)] 24)); obtain ⟨BB, h9⟩ := je (u_6.heap.size); have hb := jc e9; have HBB := jh (show NumAt u_7 BB B9 by rw [e9, h9]; exact NumAt.new _ _ _ _ rfl); have LBB := jh (show BB < u_7.heap.size by rw [e9, h9]; simp); have WBB := jh (show u_6.heap.size = BB from h9.symm); rw [← e9, ← h9]; clear e9 h9; have HS1 := jh (Nat.le_trans HS1.out hb.size); have HN1 := jh (NumO.later hb HN1.out); have HN2 := jh (NumO.later hb HN2.out); have HS := jh (HS.out.later hb); have HG := jh (HG.out.later hb); have C22 := jh (jj C22.out hb); have HU := jb hb HU; have HB := jw HB hb; have HO := jh (HO.out.later hb); have HAB := jn hb HAB; have LAB := jl LAB hb.size; clear hb
     go_upto_region 17 with fail
     clear CB9; clear HN1 HN2; refine wp_region_lit ?_; refine ji (v := .pointer (some ⟨SB, 18, none⟩)) rfl (by kernel_rfl) ?_; simp only [Act.put, pa, pb, pc]; refine ji (v := v) rfl (jg (JZ HS.out.nd)) ?_; simp only [Act.put, pa, pb, pc]; refine ji rfl (jg (qP HAB.out)) ?_; simp only [Act.put, pa, pb, pc]; refine ji rfl (jg (qP HBB.out)) ?_; simp only [Act.put, pa, pb, pc]; refine ji (v := .agg #[.int .u64 (jf jd A9 0), .int .u64 (jf jd A9 1), .int .u64 (jf jd A9 2), .int .u64 (jf jd A9 3), .int .u64 (jf jd B9 0), .int .u64 (jf jd B9 1), .int .u64 (jf jd B9 2), .int .u64 (jf jd B9 3)]) rfl (by kernel_rfl) ?_; simp only [Act.put, pa, pb, pc]; refine jS (v := .slice (some ⟨u_7.heap.size, 0, none⟩) 1 1) (w' := u_7.alloc (.cells #[.int .u64 (jf jd A9 0), .int .u64 (jf jd A9 1), .int .u64 (jf jd A9 2), .int .u64 (jf jd A9 3), .int .u64 (jf jd B9 0), .int .u64 (jf jd B9 1), .int .u64 (jf jd B9 2), .int .u64 (jf jd B9 3)] 77)) rfl (by kernel_rfl) ?_; simp only [Act.put, pa, pb, pc]; clear HAB HBB; obtain ⟨u_8, e9⟩ := je (u_7.alloc (.cells #[.int .u64 (jf jd A9 0), .int .u64 (jf jd A9 1), .int .u64 (jf jd A9 2), .int .u64 (jf jd A9 3), .int .u64 (jf jd B9 0), .int .u64 (jf jd B9 1), .int .u64 (jf jd B9 2), .int .u64 (jf jd B9 3)] 77)); obtain ⟨PB, h9⟩ := je (u_7.heap.size); have hb := jc e9; have HPB := jh (show u_8.heap[PB]? = some (.cells #[.int .u64 (jf jd A9 0), .int .u64 (jf jd A9 1), .int .u64 (jf jd A9 2), .int .u64 (jf jd A9 3), .int .u64 (jf jd B9 0), .int .u64 (jf jd B9 1), .int .u64 (jf jd B9 2), .int .u64 (jf jd B9 3)] 77 (0, 0)) by rw [e9, h9]; exact heap_alloc_new _ _); have LPB := jh (show PB < u_8.heap.size by rw [e9, h9]; simp); have WPB := jh (show u_7.heap.size = PB from h9.symm); rw [← e9, ← h9]; clear e9 h9; have HS1 := jh (Nat.le_trans HS1.out hb.size); have HS := jh (HS.out.later hb); have HG := jh (HG.out.later hb); have C22 := jh (jj C22.out hb); have HU := jb hb HU; have HB := jw HB hb; have HO := jh (HO.out.later hb); have LAB := jl LAB hb.size; have LBB := jl LBB hb.size; clear hb
     obtain ⟨i0, hi0⟩ : ∃ i, Tryz.prog.info? 77 = some i := by have h9 := info_k9; cases hz : Tryz.prog.info? 77 with
       | none => rw [hz] at h9; cases h9
       | some i => exact ⟨i, rfl⟩
     have hz9 : (i0.zero, i0.size, i0.bytes) = (some (.agg (Array.replicate 8 (.int .u64 0))), 8, 64) := by have h9 := info_k9; rw [hi0] at h9; exact Option.some.inj h9
     have HNE := jh (show ∀ q, v.ownBlock = some q → SB1 ≤ q from fun q hq => (HO.out.lt q hq).1); refine Jv rfl _ _ 31 rfl SB1 77 i0 _ 8 64 Tryz.underlying31 hi0 (congrArg (·.1) hz9) (congrArg (·.2.1) hz9) (congrArg (·.2.2) hz9) rfl v k _ (by kernel_rfl) HO.out _ 1 _ (by kernel_rfl) (src8 HPB.out) (by have h8 := HLE.out; unfold maxLen; omega) (by have h8 := HLE.out; omega) HS1.out ?_; intro v9 u_9 ho hgs; obtain ⟨a9, c9, rfl⟩ := ho.shape9; clear hi0 hz9 HPB LPB; have HO9 := jh ho; clear ho; simp only [Act.put, pa, pb, pc]; clear HO; have HS := jh (HS.out.keep hgs (fun e => by have h7 := HNE.out _ e.symm; have h8 := NE.out; omega)); have HG := jh (grp_keepR HG.out hgs (fun e => by have h7 := HNE.out _ e.symm; have h8 := NE.out; omega)); have C22 := jh (jA C22.out hgs (fun e => by have h7 := HNE.out _ e.symm; have h8 := NE.out; omega)); have HU := jh (qN HU.out hgs (fun e => by have h7 := HNE.out _ e.symm; have h8 := NE.out; omega)); have HB := jh (HB.out.grown hgs HB.out.size (fun q hq => Nat.le_trans NE.out.2.2.2.2 (HNE.out q hq))); have HS1 := jh (Nat.le_trans HS1.out hgs.size); have LAB := jl LAB hgs.size; have LBB := jl LBB hgs.size; clear hgs; have HO := HO9; clear HO9 HNE; have p18 := HS.out.nd; have q18 := HS.out.free 18 (by decide)
     go_wp2_with fail
     clear p18 q18; obtain ⟨u_10, e9⟩ := je (u_9.setCell ⟨SB, 18, none⟩ (.slice a9 (k + 1) c9)); have hgs : u_9.grownBy u_10 (some SB) := by rw [e9]; exact jp (World.grownBy.refl _ _) 18 _
     have HS9 := jh (show SAt u_10 SB gp gq gg h fa se (.slice a9 (k + 1) c9) by rw [e9]; exact HS.out.set18 _); have HO9 := jh (HO.out.kept hgs (.inr (fun e => by have h7 := (HO.out.lt _ e).1; have h8 := NE.out; omega))); rw [← e9]; clear e9 HS HO; clear LAB LBB; have HG := jh (grp_keepR HG.out hgs (fun e => by injection e with e; have h8 := NS.out; omega)); have C22 := jh (jA C22.out hgs (fun e => by injection e with e; have h8 := NS.out; omega)); have HU := jh (qN HU.out hgs (fun e => by injection e with e; have h8 := NS.out; omega)); have HB := jh (HB.out.grown hgs HB.out.size (fun q hq => by injection hq with hq; have h8 := NS.out; omega)); have HS1 := jh (Nat.le_trans HS1.out hgs.size); clear hgs; have HS := HS9; clear HS9
     have HQ2 := jh (show ∀ j x, j < k + 1 → sk[j]? = some x → x.1 ≠ 0 ∧ x.2 ≠ 0 ∧ x.1 < gq ∧ x.2 < gq from fun j x hj hjx => by
      rcases Nat.lt_or_ge j k with h9 | h9
      ·exact HQK.out j x h9 hjx
      ·have e9 : j = k := by omega
       rw [e9, HXI.out] at hjx
       cases hjx
       exact ⟨HZ1.out, HZ2.out, HZ3.out, HZ4.out⟩)
     have HO := jh (show OwnV u_10 SB1 77 8 (.slice a9 (k + 1) c9) (k + 1) (jU ((sk.take (k + 1)).map (fun k : Nat × Nat => (gg ^ k.1 % gp, h ^ k.2 % gp)))) by
      have e9 : jU ((sk.take (k + 1)).map (fun k : Nat × Nat => (gg ^ k.1 % gp, h ^ k.2 % gp))) = jU ((sk.take k).map (fun k : Nat × Nat => (gg ^ k.1 % gp, h ^ k.2 % gp))) ++ [.int .u64 (jf jd A9 0), .int .u64 (jf jd A9 1), .int .u64 (jf jd A9 2), .int .u64 (jf jd A9 3), .int .u64 (jf jd B9 0), .int .u64 (jf jd B9 1), .int .u64 (jf jd B9 2), .int .u64 (jf jd B9 3)] := by
       rw [List.take_add_one, HXI.out, List.map_append]; simp only [Option.toList_some, List.map_cons, List.map_nil]; rw [keysCells_snoc, ← HA9.out, ← HB9b.out]
      rw [e9]
      exact HO9.out)
     clear HO9
     go_wp2_with fail
     go_roundw
     case rel => exact ⟨k + 1, .slice a9 (k + 1) c9, HLT.out, by go_num, HQ2, HO, HS, HG, jh (by rw [HAO.out]; exact C22.out), HU, HB, HS1⟩
     case measure => simp [intOf]; have := HLT.out; omega
    ·have CB9 := jh (fun W => by have h9 := gexp_no (gq := gq) (gg := gg) (gh := h) (n := x2) hmh HHM.out HX2.out HGP.out W; unfold jo words at h9; exact h9); clear hmh; refine wp_region_lit ?_; refine ji rfl (jg (qG HG.out)) ?_; simp only [Act.put, pa, pb, pc]; refine ji (v := .pointer (some ⟨GB, 12, none⟩)) rfl (by kernel_rfl) ?_; simp only [Act.put, pa, pb, pc]; refine ji rfl (jg (jX HG.out.2.2.2)) ?_; simp only [Act.put, pa, pb, pc]; refine ji (v := .pointer (some ⟨KB, 4, none⟩)) rfl (by kernel_rfl) ?_; simp only [Act.put, pa, pb, pc]; refine ji rfl (jg (jX HN2.out)) ?_; simp only [Act.put, pa, pb, pc]
     go_wp2_with fail
     refine (CB9.out _).mono ?_; rintro _ u_6 ⟨rfl, hb⟩; have HS1 := jh (Nat.le_trans HS1.out hb.size); have HN1 := jh (NumO.later hb HN1.out); have HN2 := jh (NumO.later hb HN2.out); have HS := jh (HS.out.later hb); have HG := jh (HG.out.later hb); have C22 := jh (jj C22.out hb); have HU := jb hb HU; have HB := jw HB hb; have HO := jh (HO.out.later hb); have HAB := jn hb HAB; have LAB := jl LAB hb.size; clear hb
     go_upto_region 15 with fail
     obtain ⟨u_7, e9⟩ := je (u_6.alloc (.cells #[.int .u64 (jf jd 0 0), .int .u64 (jf jd 0 1), .int .u64 (jf jd 0 2), .int .u64 (jf jd 0 3)] 24)); obtain ⟨BB, h9⟩ := je (u_6.heap.size); have hb := jc e9; have HBB := jh (show NumAt u_7 BB 0 by rw [e9, h9]; exact NumAt.new _ _ _ _ rfl); have LBB := jh (show BB < u_7.heap.size by rw [e9, h9]; simp); have WBB := jh (show u_6.heap.size = BB from h9.symm); rw [← e9, ← h9]; clear e9 h9; have HS1 := jh (Nat.le_trans HS1.out hb.size); have HN1 := jh (NumO.later hb HN1.out); have HN2 := jh (NumO.later hb HN2.out); have HS := jh (HS.out.later hb); have HG := jh (HG.out.later hb); have C22 := jh (jj C22.out hb); have HU := jb hb HU; have HB := jw HB hb; have HO := jh (HO.out.later hb); have HAB := jn hb HAB; have LAB := jl LAB hb.size; clear hb
     go_upto_region 16 with fail
     refine wp_region_lit ?_; refine ji (v := .agg zero19) rfl (by kernel_rfl) ?_; refine jI rfl _ _ _ rfl UB _ _ _ HU.out rfl rfl (by rw [qu]; rfl) rfl qV ?_; simp only [Act.put, pa, pb, pc]; obtain ⟨w9, e9⟩ := je (u_7.setRow UB zero19); have hr9 : w9.heap[UB]? = some (.cells zero19 33 (0, 0)) := by rw [e9]; exact setRow_heap _ _ _ _ _ _ HU.out
     have hb9 : Below w.heap.size w w9 := by rw [e9]; exact below_setRow HB.out HUW.out _
     have HR9 := jh hr9; have HB9b := jh hb9; rw [← e9]; clear e9 hr9 hb9
     go_wp2_with fail
     refine bodyPost_ret (jT rfl _ w9 UB _ _ _ _ rfl HR9.out Tryz.underlying33 rfl (by rw [qu]; rfl) (.bool false) rfl) rfl ⟨0, 0, 0, 0, 0, 0, none, 0, 0, false, by rw [zY], (fun h => by cases h), HB9b.out⟩
   ·have hkn : k = n := by omega
    rw [hkn] at HQK HO ⊢; clear hkn hlt hk; have hltI : ¬ (n : Int) < (n : Int) := by omega
    have q22 := C22.out; obtain ⟨a9, c9, rfl⟩ := HO.out.shape9; obtain ⟨ks, hks⟩ := je (sk.map (fun k : Nat × Nat => (gg ^ k.1 % gp, h ^ k.2 % gp))); have HKS := jh hks; have HO := jh (show OwnV wr SB1 77 8 (.slice a9 n c9) n (jU ks) by have h9 := HO.out; rw [HN.out, List.take_length, ← hks, ← HN.out] at h9; exact h9); have hnk : n = ks.length := by rw [hks, List.length_map]; exact HN.out
    have HNK := jh hnk; obtain ⟨ok, hok⟩ := je (jL gp gq gg h fa se n ks); have HOK := jh hok
    have CD := jh (fun (W : World) (ho9 : OwnV W SB1 77 8 (.slice a9 n c9) n (jU ks)) => by
     have h9 := DSet_any (gp := gp) (gq := gq) (gg := gg) (gh := h) (cap := c9) (ao := a9) (ks := ks) (fun q hq => by
      rw [hks] at hq; obtain ⟨q0, _, rfl⟩ := List.mem_map.1 hq
      exact ⟨Nat.lt_trans (Nat.mod_lt _ (by have := HMAY.out.1; omega)) HGP.out, Nat.lt_trans (Nat.mod_lt _ (by have := HMAY.out.1; omega)) HGP.out⟩) HGQ.out HGP.out HGGm.out HHM.out hnk HFA.out HSE.out (by have := HLE.out; omega) W (fun h0 => by
       obtain ⟨b, o, cap9, h1, h2⟩ := QU ho9 hnk h0; injection h1 with h1
       exact ⟨b, o, h1, h2⟩)
     rewrite [← hok] at h9; unfold qg at h9
     exact h9)
    clear hks hnk hok
    go_upto_region 18 with fail
    clear q22; refine jB (.take 0 (.take 1 (.step 2 (.step 3 (.take 4 .done))))) (fun w8 => SAt w8 SB gp gq gg h fa se (.slice a9 n c9)) (by kernel_rfl) (by kernel_rfl) (fun _ _ _ _ _ h => h) (HS.out.later ((Below.refl _ _).drew)) (fun hHeld => ?_); obtain ⟨x1, e1⟩ := je (wr.drew); rw [← e1]; have hb : Below wr.heap.size wr x1 := by rw [e1]; exact (Below.refl _ _).drew
    have HO := jh (HO.out.later hb); have HS := jh (HS.out.later hb); have HU := jb hb HU; have HB := jw HB hb; clear hb e1
    iterate 2
     refine WT.take rfl (Or.inl ⟨by rfl, fun w8 hSw => jg (Qa hSw)⟩) ?_
     try simp only [Act.put, pa, pb, pc]
    refine WT.step rfl (fun K hK => ?_)
    go_simp
    refine (CD.out _ HO.out).mono ?_; rintro _ x2 ⟨rfl, hb⟩; have HO := jh (HO.out.later hb); have HS := jh (HS.out.later hb); have HU := jb hb HU; have HB := jw HB hb; clear hb; refine hK.out _ _ (HS.out) (fun hHeld => ?_); clear hK K
    try simp only [Act.put, pa, pb, pc]
    refine WT.step rfl (fun K hK => ?_); refine zt (by kernel_rfl) _ _ _ rfl UB _ #[.int .u64 (jf jd gp 0), .int .u64 (jf jd gp 1), .int .u64 (jf jd gp 2), .int .u64 (jf jd gp 3), .int .u64 (jf jd gq 0), .int .u64 (jf jd gq 1), .int .u64 (jf jd gq 2), .int .u64 (jf jd gq 3), .int .u64 (jf jd gg 0), .int .u64 (jf jd gg 1), .int .u64 (jf jd gg 2), .int .u64 (jf jd gg 3), .int .u64 (jf jd h 0), .int .u64 (jf jd h 1), .int .u64 (jf jd h 2), .int .u64 (jf jd h 3), .int .i64 fa, .int .i64 se, .slice a9 n c9] _ HU.out (by kernel_rfl) (by kernel_rfl) (by rw [qu]; rfl) rfl (by simp [Value.oneCell']) ?_; obtain ⟨x3, e9⟩ := je (x2.setRow UB #[.int .u64 (jf jd gp 0), .int .u64 (jf jd gp 1), .int .u64 (jf jd gp 2), .int .u64 (jf jd gp 3), .int .u64 (jf jd gq 0), .int .u64 (jf jd gq 1), .int .u64 (jf jd gq 2), .int .u64 (jf jd gq 3), .int .u64 (jf jd gg 0), .int .u64 (jf jd gg 1), .int .u64 (jf jd gg 2), .int .u64 (jf jd gg 3), .int .u64 (jf jd h 0), .int .u64 (jf jd h 1), .int .u64 (jf jd h 2), .int .u64 (jf jd h 3), .int .i64 fa, .int .i64 se, .slice a9 n c9]); have hgs : x2.grownBy x3 (some UB) := by rw [e9]; exact qL _ _ _
    have hr9 : x3.heap[UB]? = some (.cells #[.int .u64 (jf jd gp 0), .int .u64 (jf jd gp 1), .int .u64 (jf jd gp 2), .int .u64 (jf jd gp 3), .int .u64 (jf jd gq 0), .int .u64 (jf jd gq 1), .int .u64 (jf jd gq 2), .int .u64 (jf jd gq 3), .int .u64 (jf jd gg 0), .int .u64 (jf jd gg 1), .int .u64 (jf jd gg 2), .int .u64 (jf jd gg 3), .int .u64 (jf jd h 0), .int .u64 (jf jd h 1), .int .u64 (jf jd h 2), .int .u64 (jf jd h 3), .int .i64 fa, .int .i64 se, .slice a9 n c9] 33 (0, 0)) := by rw [e9]; exact setRow_heap _ _ _ _ _ _ HU.out
    have HU := jh hr9; have HB := jh (show Below w.heap.size w x3 by rw [e9]; exact below_setRow HB.out HUW.out _); rw [← e9]; clear e9 hr9; have HS := jh (HS.out.keep hgs (fun e => by injection e with e; have h8 := NS.out; omega)); have HO := jh (HO.out.kept hgs (.inr (fun e => by have h7 := (HO.out.lt _ e).1; have h8 := NE.out; omega))); clear hgs; refine hK.out _ _ (HS.out) (fun hHeld => ?_); clear hK K
    try simp only [Act.put, pa, pb, pc]
    refine WT.tk rfl (k := ?_); refine WT.done ?_; clear hHeld; obtain ⟨T9, hT9⟩ : ∃ T9 : Array Value, T9 = #[.int .u64 (jf jd gp 0), .int .u64 (jf jd gp 1), .int .u64 (jf jd gp 2), .int .u64 (jf jd gp 3), .int .u64 (jf jd gq 0), .int .u64 (jf jd gq 1), .int .u64 (jf jd gq 2), .int .u64 (jf jd gq 3), .int .u64 (jf jd gg 0), .int .u64 (jf jd gg 1), .int .u64 (jf jd gg 2), .int .u64 (jf jd gg 3), .int .u64 (jf jd h 0), .int .u64 (jf jd h 1), .int .u64 (jf jd h 2), .int .u64 (jf jd h 3), .int .i64 fa, .int .i64 se, .slice a9 n c9] := ⟨_, rfl⟩; have hs9 : (Tryz.prog.info? 33).map (·.size) = some T9.size := by rw [qu, hT9]; rfl
    have hr9 := HU.out; rw [← hT9] at hr9; have HR9 := jh hr9; have HT9 := jh hT9; clear hr9 hT9
    go_wp2_with fail
    refine bodyPost_ret (jT rfl _ x3 UB _ _ _ _ rfl HR9.out Tryz.underlying33 rfl hs9 (.bool ok) rfl) rfl ⟨gp, gq, gg, h, fa, se, a9, n, c9, ?_⟩
    cases ok with
    | false => exact .inl ⟨by rw [HT9.out]; rfl, HB.out⟩
    | true =>
     refine .inr ⟨by rw [HT9.out]; rfl, ⟨rfl, rfl, rfl, HHE.out, rfl, rfl, rfl, ?_⟩, HB.out⟩
     exact ⟨HMAY.out, HPR.out, HLOG.out, HLE.out, fun q hq => by
       obtain ⟨j, hj⟩ := List.mem_iff_getElem?.1 hq; exact HQK.out j q (by rw [HN.out]; exact (List.getElem?_eq_some_iff.1 hj).1) hj, fun h0 => by
       obtain ⟨b, o, cap9, h1, h2⟩ := QU HO.out HNK.out h0; injection h1 with h1
       rw [HKS.out, HHE.out] at h2; exact ⟨b, o, h1, h2⟩, by
       rw [← HHE.out, ← HKS.out, ← HOK.out]⟩
 ·go_upto_region 4 with fail
  refine wp_region_lit ?_; refine ji (v := .agg zero19) rfl (by kernel_rfl) ?_; refine jI rfl _ _ _ rfl UB _ _ _ HU.out rfl rfl (by rw [qu]; rfl) rfl qV ?_; simp only [Act.put, pa, pb, pc]; obtain ⟨w9, e9⟩ := je (v_5.setRow UB zero19); have hr9 : w9.heap[UB]? = some (.cells zero19 33 (0, 0)) := by rw [e9]; exact setRow_heap _ _ _ _ _ _ HU.out
  have hb9 : Below w.heap.size w w9 := by rw [e9]; exact below_setRow HB.out HUW.out _
  have HR9 := jh hr9; have HB9b := jh hb9; rw [← e9]; clear e9 hr9 hb9
  go_wp2_with fail
  refine bodyPost_ret (jT rfl _ w9 UB _ _ _ _ rfl HR9.out Tryz.underlying33 rfl (by rw [qu]; rfl) (.bool false) rfl) rfl ⟨0, 0, 0, 0, 0, 0, none, 0, 0, false, by rw [zY], (fun h => by cases h), HB9b.out⟩
end Go.Proofs.YtdpkpcbikbbcbaaGreat
