/- Twins of settings and frames -/
import Derived.Test.YtcaeaejefdhloaaGreatZWG35
set_option linter.unusedSimpArgs false
set_option linter.unusedVariables false
set_option maxHeartbeats 4000000
set_option maxRecDepth 20000
namespace Go.Proofs.YtcaeaejefdhloaaGreat
open Go.ChangeShapes Go.WideShapes Go.ChangeAt Go.RowKit
theorem Zi : (Tryz.prog.info? 29).map (·.size) = some 19 := by kernel_rfl
structure SAt (w : World) (b gp gq gg gh : Nat) (fa se : Int) (v : Value) : Prop where
 grp : GrpAt w b gp gq gg gh
 fa : w.cell? ⟨b, 16, none⟩ = some (.int .i64 fa)
 se : w.cell? ⟨b, 17, none⟩ = some (.int .i64 se)
 nd : w.cell? ⟨b, 18, none⟩ = some v
 free : FreeN w b 19
theorem SAt.lt {w : World} {b gp gq gg gh : Nat} {fa se : Int} {v : Value} (h : SAt w b gp gq gg gh fa se v) : b < w.heap.size := h.grp.lt
theorem SAt.later {w w' : World} {b gp gq gg gh : Nat} {fa se : Int} {v : Value} (h : SAt w b gp gq gg gh fa se v) (hb : Below w.heap.size w w') : SAt w' b gp gq gg gh fa se v :=
 ⟨h.grp.later hb, jm h.fa hb, jm h.se hb, jm h.nd hb, h.free.later hb h.lt⟩
theorem grp_keepR {w w' : World} {b gp gq gg gh : Nat} {row : Option Nat} (h : GrpAt w b gp gq gg gh) (hg : w.grownBy w' row) (hn : some b ≠ row) : GrpAt w' b gp gq gg gh :=
 ⟨fun j hj => hg.cell (h.1 j hj) hn, fun j hj => hg.cell (h.2.1 j hj) hn, fun j hj => hg.cell (h.2.2.1 j hj) hn, fun j hj => hg.cell (h.2.2.2 j hj) hn⟩
theorem SAt.keep {w w' : World} {b gp gq gg gh : Nat} {fa se : Int} {v : Value} {row : Option Nat} (h : SAt w b gp gq gg gh fa se v) (hg : w.grownBy w' row) (hn : some b ≠ row) : SAt w' b gp gq gg gh fa se v :=
 ⟨grp_keepR h.grp hg hn, hg.cell h.fa hn, hg.cell h.se hn, hg.cell h.nd hn, fun j hj => (jV (hg.block b h.lt hn)).trans (h.free j hj)⟩
theorem SAt.new (w : World) (gp gq gg gh : Nat) (fa se : Int) (v : Value) (t : TypeId) : SAt (w.alloc (.cells #[.int .u64 (jf jd gp 0), .int .u64 (jf jd gp 1), .int .u64 (jf jd gp 2), .int .u64 (jf jd gp 3), .int .u64 (jf jd gq 0), .int .u64 (jf jd gq 1), .int .u64 (jf jd gq 2), .int .u64 (jf jd gq 3), .int .u64 (jf jd gg 0), .int .u64 (jf jd gg 1), .int .u64 (jf jd gg 2), .int .u64 (jf jd gg 3), .int .u64 (jf jd gh 0), .int .u64 (jf jd gh 1), .int .u64 (jf jd gh 2), .int .u64 (jf jd gh 3), .int .i64 fa, .int .i64 se, v] t)) w.heap.size gp gq gg gh fa se v :=
 ⟨zN, by rw [cell_of_row _ _ _ _ _ _ (heap_alloc_new _ _)]; rfl, by rw [cell_of_row _ _ _ _ _ _ (heap_alloc_new _ _)]; rfl, by rw [cell_of_row _ _ _ _ _ _ (heap_alloc_new _ _)]; rfl, FreeN.new _ _ _ _⟩
theorem JG {w : World} {b gp gq gg gh : Nat} {fa se : Int} {v9 : Value} (h : SAt w b gp gq gg gh fa se v9) :
  (Instr.loadAt 29 (.pointer (some ⟨b, 0, none⟩))).run Tryz.prog w = .ok (qd gp gq gg gh fa se v9) w := by
 obtain ⟨y0, y1, y2, y3, y4, y5, y6, y7, y8, y9, y10, y11, y12, y13, y14, y15⟩ := ZK h.grp; have l0 := h.fa; have l1 := h.se; have l2 := h.nd
 exact run_loadAt_mid (P := Tryz.prog) w b 0 29 [.int .u64 (jf jd gp 0), .int .u64 (jf jd gp 1), .int .u64 (jf jd gp 2), .int .u64 (jf jd gp 3), .int .u64 (jf jd gq 0), .int .u64 (jf jd gq 1), .int .u64 (jf jd gq 2), .int .u64 (jf jd gq 3), .int .u64 (jf jd gg 0), .int .u64 (jf jd gg 1), .int .u64 (jf jd gg 2), .int .u64 (jf jd gg 3), .int .u64 (jf jd gh 0), .int .u64 (jf jd gh 1), .int .u64 (jf jd gh 2), .int .u64 (jf jd gh 3), .int .i64 fa, .int .i64 se, v9] _ (by
  intro j v hj; have hl := (List.getElem?_eq_some_iff.1 hj).1; simp only [List.length_cons, List.length_nil] at hl; rw [Nat.zero_add]
  rcases (show j = 0 ∨ j = 1 ∨ j = 2 ∨ j = 3 ∨ j = 4 ∨ j = 5 ∨ j = 6 ∨ j = 7 ∨ j = 8 ∨ j = 9 ∨ j = 10 ∨ j = 11 ∨ j = 12 ∨ j = 13 ∨ j = 14 ∨ j = 15 ∨ j = 16 ∨ j = 17 ∨ j = 18 by omega) with rfl | rfl | rfl | rfl | rfl | rfl | rfl | rfl | rfl | rfl | rfl | rfl | rfl | rfl | rfl | rfl | rfl | rfl | rfl <;> (simp at hj; subst hj; assumption)) Tryz.underlying29 rfl Zi
def qv (ks : List (Nat × Nat)) : List Value := ks.flatMap fun k => [.int .u64 (jf jd k.1 0), .int .u64 (jf jd k.1 1), .int .u64 (jf jd k.1 2), .int .u64 (jf jd k.1 3), .int .u64 (jf jd k.2 0), .int .u64 (jf jd k.2 1), .int .u64 (jf jd k.2 2), .int .u64 (jf jd k.2 3)]
theorem QG : ∀ (ks : List (Nat × Nat)) (i : Nat) (k : Nat × Nat), ks[i]? = some k → (∀ j, j < 4 → (qv ks)[i * 8 + j]? = some (.int .u64 (jf jd k.1 j))) ∧ ∀ j, j < 4 → (qv ks)[i * 8 + (4 + j)]? = some (.int .u64 (jf jd k.2 j))
 | [], i, k, h => by simp at h
 | x :: ks, 0, k, h => by
  simp at h
  subst h; refine ⟨fun j hj => ?_, fun j hj => ?_⟩ <;> (rcases (show j = 0 ∨ j = 1 ∨ j = 2 ∨ j = 3 by omega) with rfl | rfl | rfl | rfl <;> rfl)
 | x :: ks, i + 1, k, h => by
  obtain ⟨h1, h2⟩ := QG ks i k (by simpa using h)
  have e : ∀ j, (qv (x :: ks))[(i + 1) * 8 + j]? = (qv ks)[i * 8 + j]? := fun j => by
   unfold qv; rw [List.flatMap_cons, List.getElem?_append_right (by simp; omega)]
   congr 1
   simp
   omega
  exact ⟨fun j hj => (e j).trans (h1 j hj), fun j hj => (e (4 + j)).trans (h2 j hj)⟩
theorem JY (w : World) (g : Nat) (T : Array Value) : w.grownBy (w.setRow g T) (some g) := ⟨rfl, rfl, rfl, by simp, fun k _ hne => setRow_other w g k _ (fun e => hne (by rw [e]))⟩
theorem Qi {P : Program} {l : List Oper} {o : Oper} {a : Act} {w : World} {K : Act → World → Prop} {Q : Exit → Act → World → Prop} (hw : Region.wanted o (yielded l.toArray a.tmps) = true) (ty : TypeId) (x y : Operand) (ho : o.op = .store ty x y) (g : Nat) (c T : Array Value) (t : TypeId)
  (hg : w.heap[g]? = some (.cells c t (0, 0))) (hx : a.eval x = .pointer (some ⟨g, 0, none⟩)) (hy : a.eval y = .agg T) (hi : (P.info? ty).map (·.size) = some T.size) (hc : c.size = T.size) (h1 : T.all (·.oneCell') = true) (k : K (a.put o.dst undef) (w.setRow g T)) :
  if Region.wanted o (yielded l.toArray a.tmps) = true then Oper.wp P o a w K Q else K (a.put o.dst undef) w := by
 rw [if_pos hw]; unfold Oper.wp execOp; simp only [ho, hx, hy, Sem.run_bind, Instr.storeAt, Instr.sureAddr, Sem.run_pure, Result.andThen_ok, run_storeVar_row w g t ty c T hg hi hc h1]; exact k
theorem Zw {w : World} {b o : Nat} {v : Value} (h : w.cell? ⟨b, o, none⟩ = some v) : (Instr.loadAt 3 (.pointer (some ⟨b, o, none⟩))).run Tryz.prog w = .ok v w := by
 simp [go_sem, h]
theorem info_k9 : (Tryz.prog.info? 53).map (fun i => (i.zero, i.size, i.bytes)) = some (some (.agg (Array.replicate 8 (.int .u64 0))), 8, 64) := by kernel_rfl
theorem Qo (ks : List (Nat × Nat)) (k : Nat × Nat) : qv (ks ++ [k]) = qv ks ++ [.int .u64 (jf jd k.1 0), .int .u64 (jf jd k.1 1), .int .u64 (jf jd k.1 2), .int .u64 (jf jd k.1 3), .int .u64 (jf jd k.2 0), .int .u64 (jf jd k.2 1), .int .u64 (jf jd k.2 2), .int .u64 (jf jd k.2 3)] := by
 unfold qv; rw [List.flatMap_append]
 simp
theorem Qm {w : World} {b o : Nat} {v : Value} (h : w.cell? ⟨b, o, none⟩ = some v) : (Instr.loadAt 27 (.pointer (some ⟨b, o, none⟩))).run Tryz.prog w = .ok v w := by
 simp [go_sem, h]
theorem sizeK (w : World) : (sizeOf (Tryz.prog.elem 27)).run Tryz.prog w = .ok 8 w := by
 go_simp
theorem elemK : Tryz.prog.underlying 27 = some (.slice (Tryz.prog.elem 27)) := by kernel_rfl
theorem slice_keys {g o n c m : Nat} (hc : n < c) (W : World) : (Instr.sliceAt 27 (.slice (some ⟨g, o, none⟩) m c) none (some (.int .i64 (n : Nat))) none).run Tryz.prog W = .ok (.slice (some ⟨g, o, none⟩) n c) W := by
 rw [run_sliceAt_slice _ _ _ _ _ _ elemK, run_slice_h _ _ _ _ _ elemK .i64 n (by omega) (by omega), sizeK]
 simp [sliced, Addr.add_lit]
theorem ne_key {a b : Nat} (ha : a < jj) (hb : b < jj) (w : World) : (binOp .neq 53 (.agg #[.int .u64 (jf jd a 0), .int .u64 (jf jd a 1), .int .u64 (jf jd a 2), .int .u64 (jf jd a 3), .int .u64 (jf jd b 0), .int .u64 (jf jd b 1), .int .u64 (jf jd b 2), .int .u64 (jf jd b 3)]) (.agg #[.int .u64 (jf jd a 0), .int .u64 (jf jd a 1), .int .u64 (jf jd a 2), .int .u64 (jf jd a 3), .int .u64 (jf jd b 0), .int .u64 (jf jd b 1), .int .u64 (jf jd b 2), .int .u64 (jf jd b 3)])).run Tryz.prog w = .ok (.bool false) w := by
 simp only [binOp]; unfold Op.equal Op.maxDepth; rw [Op.equalIn]; simp only [Sem.run_bind, run_underlying Tryz.underlying53, Result.andThen_ok]
 simp [part0, part4, qN ha ha, qN hb hb]
theorem part16_0 (a0 a1 a2 a3 a4 a5 a6 a7 a8 a9 a10 a11 a12 a13 a14 a15 : Value) (w : World) : (part 24 #[a0, a1, a2, a3, a4, a5, a6, a7, a8, a9, a10, a11, a12, a13, a14, a15] 0).run Tryz.prog w = .ok (.agg #[a0, a1, a2, a3]) w := by kernel_rfl
theorem part16_4 (a0 a1 a2 a3 a4 a5 a6 a7 a8 a9 a10 a11 a12 a13 a14 a15 : Value) (w : World) : (part 24 #[a0, a1, a2, a3, a4, a5, a6, a7, a8, a9, a10, a11, a12, a13, a14, a15] 4).run Tryz.prog w = .ok (.agg #[a4, a5, a6, a7]) w := by kernel_rfl
theorem part16_8 (a0 a1 a2 a3 a4 a5 a6 a7 a8 a9 a10 a11 a12 a13 a14 a15 : Value) (w : World) : (part 24 #[a0, a1, a2, a3, a4, a5, a6, a7, a8, a9, a10, a11, a12, a13, a14, a15] 8).run Tryz.prog w = .ok (.agg #[a8, a9, a10, a11]) w := by kernel_rfl
theorem part16_12 (a0 a1 a2 a3 a4 a5 a6 a7 a8 a9 a10 a11 a12 a13 a14 a15 : Value) (w : World) : (part 24 #[a0, a1, a2, a3, a4, a5, a6, a7, a8, a9, a10, a11, a12, a13, a14, a15] 12).run Tryz.prog w = .ok (.agg #[a12, a13, a14, a15]) w := by kernel_rfl
theorem eq_grp {gp gq gg gh : Nat} (h1 : gp < jj) (h2 : gq < jj) (h3 : gg < jj) (h4 : gh < jj) (w : World) : (binOp .eql 26 (.agg #[.int .u64 (jf jd gp 0), .int .u64 (jf jd gp 1), .int .u64 (jf jd gp 2), .int .u64 (jf jd gp 3), .int .u64 (jf jd gq 0), .int .u64 (jf jd gq 1), .int .u64 (jf jd gq 2), .int .u64 (jf jd gq 3), .int .u64 (jf jd gg 0), .int .u64 (jf jd gg 1), .int .u64 (jf jd gg 2), .int .u64 (jf jd gg 3), .int .u64 (jf jd gh 0), .int .u64 (jf jd gh 1), .int .u64 (jf jd gh 2), .int .u64 (jf jd gh 3)]) (.agg #[.int .u64 (jf jd gp 0), .int .u64 (jf jd gp 1), .int .u64 (jf jd gp 2), .int .u64 (jf jd gp 3), .int .u64 (jf jd gq 0), .int .u64 (jf jd gq 1), .int .u64 (jf jd gq 2), .int .u64 (jf jd gq 3), .int .u64 (jf jd gg 0), .int .u64 (jf jd gg 1), .int .u64 (jf jd gg 2), .int .u64 (jf jd gg 3), .int .u64 (jf jd gh 0), .int .u64 (jf jd gh 1), .int .u64 (jf jd gh 2), .int .u64 (jf jd gh 3)])).run Tryz.prog w = .ok (.bool true) w := by
 simp only [binOp]; unfold Op.equal Op.maxDepth; rw [Op.equalIn]; simp only [Sem.run_bind, run_underlying Tryz.underlying26, Result.andThen_ok]
 simp [part16_0, part16_4, part16_8, part16_12, qN h1 h1, qN h2 h2, qN h3 h3, qN h4 h4]
theorem ownV_start (w : World) (e : TypeId) (size c : Nat) (Z : Array Value) (hZ : Z.size = c * size) (hc : c ≤ maxLen) : OwnV (w.alloc (.cells Z e)) w.heap.size e size (.slice (some ⟨w.heap.size, 0, none⟩) 0 c) 0 [] :=
 ⟨by simp, .inr ⟨w.heap.size, 0, c, Z, rfl, Nat.le_refl _, heap_alloc_new w _, Nat.zero_le _, hc, by omega, by simp⟩⟩
def TwinK (w : World) (base g o c : Nat) (ks : List (Nat × Nat)) : Prop := ks.length < c ∧ OwnV w base 53 8 (.slice (some ⟨g, o, none⟩) (ks.length + 1) c) (ks.length + 1) (qv (ks ++ [(77, 0)]))
theorem TwinK.later {w w' : World} {base g o c : Nat} {ks : List (Nat × Nat)} (h : TwinK w base g o c ks) (hb : Below w.heap.size w w') : TwinK w' base g o c ks := ⟨h.1, h.2.later hb⟩
theorem TwinK.all {w : World} {base g o c : Nat} {ks : List (Nat × Nat)} (h : TwinK w base g o c ks) : KeysAt w g o (ks ++ [(77, 0)]) := fun i k hk => by
 obtain ⟨h1, h2⟩ := QG _ i k hk; exact ⟨fun j hj => by have := h.2.cells _ _ (h1 j hj); rw [Addr.add_lit] at this; rw [Nat.add_assoc]; exact this, fun j hj => by have := h.2.cells _ _ (h2 j hj); rw [Addr.add_lit] at this; rw [Nat.add_assoc]; exact this⟩
theorem TwinK.keys {w : World} {base g o c : Nat} {ks : List (Nat × Nat)} (h : TwinK w base g o c ks) : KeysAt w g o ks := fun i k hk => h.all i k (by rw [List.getElem?_append_left (List.getElem?_eq_some_iff.1 hk).1]; exact hk)
theorem src_cells {w : World} {t : TypeId} {c0 c1 c2 c3 c4 c5 c6 c7 : Value} (h1 : ∀ u ∈ [c0, c1, c2, c3, c4, c5, c6, c7], u.oneCell' = true) : Zp (w.alloc (.cells #[c0, c1, c2, c3, c4, c5, c6, c7] t)) 8 (.slice (some ⟨w.heap.size, 0, none⟩) 1 1) 1 [c0, c1, c2, c3, c4, c5, c6, c7] := by
 refine ⟨_, _, rfl, rfl, h1, (fun e => by cases e), fun ad had j u hu => ?_⟩
 cases had
 rw [Addr.add_lit, Nat.zero_add, cell_of_row _ _ _ _ _ _ (heap_alloc_new _ _)]; have hl := (List.getElem?_eq_some_iff.1 hu).1; simp only [List.length_cons, List.length_nil] at hl
 rcases (show j = 0 ∨ j = 1 ∨ j = 2 ∨ j = 3 ∨ j = 4 ∨ j = 5 ∨ j = 6 ∨ j = 7 by omega) with rfl | rfl | rfl | rfl | rfl | rfl | rfl | rfl <;> exact hu
theorem own_addr {w : World} {B : Nat} {e : TypeId} {size n : Nat} {a : Option Addr} {c : Nat} {xs : List Value} (h : OwnV w B e size (.slice a (n + 1) c) (n + 1) xs) (_h0 : 0 < n + 1) : ∃ g o, a = some ⟨g, o, none⟩ ∧ n < c := by
 rcases h.2 with ⟨_, h9⟩ | ⟨g, o, cap, cur, h1, _, _, h4, _⟩
 ·omega
 ·injection h1 with h1 _ h3
  exact ⟨g, o, h1, by omega⟩
theorem TwinKeys_any {n cap : Nat} {ao : Option Addr} {ks : List (Nat × Nat)} (hn : n = ks.length) (hn9 : n ≤ 1000) (w : World) (hk : 0 < n → ∃ b o, ao = some ⟨b, o, none⟩ ∧ KeysAt w b o ks) :
  Calls Tryz.prog 14 #[.slice ao n cap] w fun e w' => ∃ g o c, e = .returned (.slice (some ⟨g, o, none⟩) n c) ∧ TwinK w' w.heap.size g o c ks ∧ Below w.heap.size w w' := by
 obtain ⟨i0, hi, hz0, hz1, hz2⟩ := info_parts info_k9; have HI := jh hi; obtain ⟨Z, hZ⟩ := je (madeCells (Value.cells (.agg (Array.replicate 8 (.int .u64 0)))) ((n + 1) * 8))
 have hmk : ∀ W, (Instr.makeSlice 27 (.int .i64 0) (.int .i64 ((n : Int) + 1))).run Tryz.prog W = .ok (.slice (some ⟨W.heap.size, 0, none⟩) 0 (n + 1)) (W.alloc (.cells Z 53)) := by
  intro W; have e := run_make (P := Tryz.prog) W 27 53 i0 (.agg (Array.replicate 8 (.int .u64 0))) Tryz.underlying27 hi hz0 .i64 .i64 0 ((n : Int) + 1) (by omega) (by omega) (by rw [hz2]; omega) (by omega); rw [e, hz1, show ((n : Int) + 1).toNat = n + 1 by omega, hZ]
  rfl
 have HST := jh (ownV_start w 53 8 (n + 1) Z (by rw [hZ, size_madeCells]) (by unfold maxLen; omega)); have HBE := jh ((Below.refl w.heap.size w).alloc (Nat.le_refl _) (.cells Z 53)); have HK := jh hk; have HN := jh hn; clear hi hk hn hZ
 go_enter Tryz.func14, Tryz.ntmps14
 go_wp2_with fail
 clear hmk
 go_loopw [3, 4] (fun v i wr => ∃ k : Nat, k ≤ n ∧ i = .int .i64 k ∧ OwnV wr w.heap.size 53 8 v k (qv (ks.take k)) ∧ Hid (Below w.heap.size w wr)) (fun _ i _ => n - (intOf i).toNat)
 case atStart => exact ⟨0, Nat.zero_le _, rfl, HST.out, HBE⟩
 case round =>
  clear HST HBE; obtain ⟨k, hk, rfl, hown, HB⟩ := hrel; obtain ⟨a8, c8, rfl⟩ := hown.sl; have HO := jh hown; have hbs := HB.out.size; clear hown; obtain ⟨wo, rfl⟩ : ∃ wo : World, wo = wr := ⟨_, rfl⟩
  by_cases hlt : k < n
  ·obtain ⟨⟨x, y⟩, hx⟩ : ∃ p, ks[k]? = some p := ⟨_, List.getElem?_eq_getElem (by rw [← HN.out]; exact hlt)⟩; obtain ⟨KB, o, rfl, hks⟩ := HK.out (by omega); have r0 := jm ((hks k _ hx).1 0 (by decide)) HB.out; have r1 := jm ((hks k _ hx).1 1 (by decide)) HB.out; have r2 := jm ((hks k _ hx).1 2 (by decide)) HB.out; have r3 := jm ((hks k _ hx).1 3 (by decide)) HB.out; have r4 := jm ((hks k _ hx).2 0 (by decide)) HB.out; have r5 := jm ((hks k _ hx).2 1 (by decide)) HB.out; have r6 := jm ((hks k _ hx).2 2 (by decide)) HB.out; have r7 := jm ((hks k _ hx).2 3 (by decide)) HB.out; rw [Nat.add_zero] at r0; simp only [Nat.reduceAdd] at r4 r5 r6 r7; have HX := jh hx; have hltI : (k : Int) < (n : Int) := by omega
   have HLT := jh hlt; clear hx hks hlt
   go_wp2_with (at_builtin; refine jJ rfl (.tmp 15) (.tmp 20) 27 rfl w.heap.size 53 i0 (.agg (Array.replicate 8 (.int .u64 0))) 8 64 Tryz.underlying27 HI.out hz0 hz1 hz2 rfl (.slice a8 k c8) k (qv (ks.take k)) rfl (OwnV.later HO.out (ja)) (.slice (some ⟨wo.heap.size, 0, none⟩) 1 1) 1 [.int .u64 (jf jd x 0), .int .u64 (jf jd x 1), .int .u64 (jf jd x 2), .int .u64 (jf jd x 3), .int .u64 (jf jd y 0), .int .u64 (jf jd y 1), .int .u64 (jf jd y 2), .int .u64 (jf jd y 3)] rfl (src_cells (by intro u hu; simp only [List.mem_cons, List.not_mem_nil, or_false] at hu; rcases hu with rfl | rfl | rfl | rfl | rfl | rfl | rfl | rfl <;> rfl)) (by unfold maxLen; omega) (by omega) (by simp; omega) ?_; intro v9 w3 ho hg hl; obtain ⟨a9, c9, rfl⟩ := ho.sl; have HO3 := jh ho; have G3 := jh hg; clear ho hg hl)
   go_roundw
   case rel =>
    exact ⟨k + 1, by have := HLT.out; omega, by go_num, by
     rw [List.take_add_one, HX.out, show (some (x, y)).toList = [(x, y)] from rfl, Qo]
     exact HO3.out, jh ((HB.out.alloc HB.out.size _).grown G3.out (by simp; omega) (fun g hg => (OwnV.lt HO.out g hg).1))⟩
   case measure => (simp [intOf]; have := HLT.out; omega)
  ·have hkn : k = n := by omega
   have HO := jh (show OwnV wo w.heap.size 53 8 (.slice a8 n c8) n (qv ks) by have h9 := HO.out; rw [hkn, List.take_of_length_le (by rw [← HN.out]; exact Nat.le_refl _)] at h9; exact h9); have hnI : ¬ (k : Int) < (n : Int) := by omega
   have hk9 : (Value.slice a8 k c8) = .slice a8 n c8 := by rw [hkn]
   rw [hk9]; have HKN := jh hkn; clear hkn hlt hk9
   go_wp2_with (first
    | (at_builtin; refine jJ rfl (.tmp 22) (.tmp 25) 27 rfl w.heap.size 53 i0 (.agg (Array.replicate 8 (.int .u64 0))) 8 64 Tryz.underlying27 HI.out hz0 hz1 hz2 rfl (.slice a8 n c8) n (qv ks) rfl (OwnV.later HO.out (ja)) (.slice (some ⟨wo.heap.size, 0, none⟩) 1 1) 1 [.int .u64 77, .int .u64 0, .int .u64 0, .int .u64 0, .int .u64 0, .int .u64 0, .int .u64 0, .int .u64 0] rfl (src_cells (by intro u hu; simp only [List.mem_cons, List.not_mem_nil, or_false] at hu; rcases hu with rfl | rfl | rfl | rfl | rfl | rfl | rfl | rfl <;> rfl)) (by unfold maxLen; omega) (by omega) (by simp; omega) ?_; intro v9 w3 ho hg hl; obtain ⟨a9, c9, rfl⟩ := ho.sl; have HO3 := jh ho; have G3 := jh hg; clear ho hg hl; obtain ⟨g9, o9, rfl, hlc⟩ := own_addr HO3.out (by omega); have hsl9 := slice_keys (g := g9) (o := o9) (n := n) (c := c9) (m := n + 1) hlc))
   go_ret
   exact ⟨g9, o9, c9, rfl, ⟨by rw [← HN.out]; exact hlc, by rw [← HN.out, Qo]; exact HO3.out⟩, (HB.out.alloc HB.out.size _).grown G3.out (by simp; omega) (fun g hg => (OwnV.lt HO.out g hg).1)⟩
theorem eqg_key : Tryz.prog.eqGuardType Tryz.prog.depth 53 = false := by kernel_rfl
theorem info_key : (Tryz.prog.info? 53).map (·.size) = some 8 := by kernel_rfl
theorem slice_keys9 {g o n c m : Nat} (hc : n ≤ c) (W : World) : (Instr.sliceAt 27 (.slice (some ⟨g, o, none⟩) m c) none (some (.int .i64 (n : Nat))) none).run Tryz.prog W = .ok (.slice (some ⟨g, o, none⟩) n c) W := by
 rw [run_sliceAt_slice _ _ _ _ _ _ elemK, run_slice_h _ _ _ _ _ elemK .i64 n (by omega) (by omega), sizeK]
 simp [sliced, Addr.add_lit]
theorem loadKey {w : World} {b o x y : Nat} (h1 : NumO w b o x) (h2 : NumO w b (o + 4) y) : (Instr.loadAt 53 (.pointer (some ⟨b, o, none⟩))).run Tryz.prog w = .ok (.agg #[.int .u64 (jf jd x 0), .int .u64 (jf jd x 1), .int .u64 (jf jd x 2), .int .u64 (jf jd x 3), .int .u64 (jf jd y 0), .int .u64 (jf jd y 1), .int .u64 (jf jd y 2), .int .u64 (jf jd y 3)]) w := by
 have l0 := h1 0 (by decide); have l1 := h1 1 (by decide); have l2 := h1 2 (by decide); have l3 := h1 3 (by decide); have l4 := h2 0 (by decide); have l5 := h2 1 (by decide); have l6 := h2 2 (by decide); have l7 := h2 3 (by decide); simp only [Nat.add_assoc, Nat.reduceAdd] at l4 l5 l6 l7
 exact run_loadAt_mid (P := Tryz.prog) w b o 53 [.int .u64 (jf jd x 0), .int .u64 (jf jd x 1), .int .u64 (jf jd x 2), .int .u64 (jf jd x 3), .int .u64 (jf jd y 0), .int .u64 (jf jd y 1), .int .u64 (jf jd y 2), .int .u64 (jf jd y 3)] _ (by
  intro j v hj; have hl := (List.getElem?_eq_some_iff.1 hj).1; simp only [List.length_cons, List.length_nil] at hl
  rcases (show j = 0 ∨ j = 1 ∨ j = 2 ∨ j = 3 ∨ j = 4 ∨ j = 5 ∨ j = 6 ∨ j = 7 by omega) with rfl | rfl | rfl | rfl | rfl | rfl | rfl | rfl <;> (simp at hj; subst hj; assumption)) Tryz.underlying53 rfl info_key
theorem LeftKeys_any {n cap g o c base : Nat} {ao : Option Addr} {ks : List (Nat × Nat)} (hx : ∀ k ∈ ks, k.1 < jj ∧ k.2 < jj) (hn : n = ks.length) (hn9 : n ≤ 1000) (w : World) (ht : TwinK w base g o c ks) (hk : 0 < n → ∃ b o, ao = some ⟨b, o, none⟩ ∧ KeysAt w b o ks) :
  Calls Tryz.prog 24 #[.slice (some ⟨g, o, none⟩) n c, .slice ao n cap] w fun e w' => e = .returned (.bool true) ∧ Below w.heap.size w w' := by
 have hlc : n < c := by rw [hn]; exact ht.1
 have hcI : ((c : Int) ≤ (n : Int)) = False := by simp; omega
 have HT := jh ht.all; have HK := jh hk; have HN := jh hn; have HX := jh hx; have HLC := jh hlc; have hcl : c ≤ 9223372036854775807 := by rcases ht.2.2 with ⟨h9, _⟩ | ⟨g9, o9, cap9, cur, h1, _, _, _, h5, _⟩; cases h9; injection h1 with _ _ h3; rw [h3]; exact h5
 clear ht hk hn hx hlc
 go_enter Tryz.func24, Tryz.ntmps24
 go_wp2_with fail
 go_loopw [5] (fun i wr => ∃ k : Nat, k ≤ n ∧ i = .int .i64 k ∧ Hid (Below w.heap.size w wr)) (fun i _ => n - (intOf i).toNat)
 case atStart => exact ⟨0, Nat.zero_le _, rfl, jh (Below.refl _ _)⟩
 case round =>
  obtain ⟨k, hk, rfl, HB⟩ := hrel
  by_cases hlt : k < n
  ·obtain ⟨⟨x, y⟩, hx⟩ : ∃ p, ks[k]? = some p := ⟨_, List.getElem?_eq_getElem (by rw [← HN.out]; exact hlt)⟩; obtain ⟨KB, p, rfl, hks⟩ := HK.out (by omega); have hxy := HX.out (x, y) (List.mem_of_getElem? hx); have hx9 : (ks ++ [(77, 0)])[k]? = some (x, y) := by rw [List.getElem?_append_left (List.getElem?_eq_some_iff.1 hx).1]; exact hx
   have H1 := jh (show NumO wr KB (p + k * 8) x ∧ NumO wr KB (p + k * 8 + 4) y from ⟨fun j hj => jm ((hks k _ hx).1 j hj) HB.out, fun j hj => by rw [Nat.add_assoc]; exact jm ((hks k _ hx).2 j hj) HB.out⟩); have H2 := jh (show NumO wr g (o + k * 8) x ∧ NumO wr g (o + k * 8 + 4) y from ⟨fun j hj => jm ((HT.out k _ hx9).1 j hj) HB.out, fun j hj => by rw [Nat.add_assoc]; exact jm ((HT.out k _ hx9).2 j hj) HB.out⟩); have HE := jh (fun W => ne_key hxy.1 hxy.2 W); have hltI : (k : Int) < (n : Int) := by omega
   have HLT := jh hlt; clear hx hx9 hks hlt hxy
   go_upto_region 6 with fail
   refine jK (.take 0 (.take 1 (.take 2 (.take 3 (.take 4 (.take 5 (.take 6 (.take 7 (.take 8 .done))))))))) (fun w8 => (NumO w8 KB (p + k * 8) x ∧ NumO w8 KB (p + k * 8 + 4) y) ∧ (NumO w8 g (o + k * 8) x ∧ NumO w8 g (o + k * 8 + 4) y)) (by kernel_rfl) (by kernel_rfl) (fun _ _ _ _ _ h => h) (⟨⟨NumO.later ((Below.refl _ _).drew) H1.out.1, NumO.later ((Below.refl _ _).drew) H1.out.2⟩, ⟨NumO.later ((Below.refl _ _).drew) H2.out.1, NumO.later ((Below.refl _ _).drew) H2.out.2⟩⟩) (fun hHeld => ?_); obtain ⟨x1, e1⟩ := je (wr.drew); rw [← e1]; have hb : Below wr.heap.size wr x1 := by rw [e1]; exact (Below.refl _ _).drew
   have HB := jw HB hb; clear hb e1
   iterate 2
    refine WT.tk rfl (k := ?_)
   refine WT.tk (v := .pointer (some ⟨g, o + k * 8, none⟩)) rfl (fun w8 hSw => by simp [go_sem, hltI]) (k := ?_); refine WT.tk (v := .agg #[.int .u64 (jf jd x 0), .int .u64 (jf jd x 1), .int .u64 (jf jd x 2), .int .u64 (jf jd x 3), .int .u64 (jf jd y 0), .int .u64 (jf jd y 1), .int .u64 (jf jd y 2), .int .u64 (jf jd y 3)]) rfl (fun w8 hSw => jg (loadKey hSw.2.1 hSw.2.2)) (k := ?_)
   iterate 2
    refine WT.tk rfl (k := ?_)
   refine WT.tk (v := .pointer (some ⟨KB, p + k * 8, none⟩)) rfl (fun w8 hSw => by simp [go_sem, hltI]) (k := ?_); refine WT.tk (v := .agg #[.int .u64 (jf jd x 0), .int .u64 (jf jd x 1), .int .u64 (jf jd x 2), .int .u64 (jf jd x 3), .int .u64 (jf jd y 0), .int .u64 (jf jd y 1), .int .u64 (jf jd y 2), .int .u64 (jf jd y 3)]) rfl (fun w8 hSw => jg (loadKey hSw.1.1 hSw.1.2)) (k := ?_); refine WT.tk (v := .bool false) rfl (fun w8 hSw => zj eqg_key rfl (by kernel_rfl) (by kernel_rfl) (HE.out _)) (k := ?_); refine WT.done ?_; clear hHeld
   go_wp2_with fail
   go_roundw
   case rel => exact ⟨k + 1, by have := HLT.out; omega, by go_num, HB⟩
   case measure => (simp [intOf]; have := HLT.out; omega)
  ·have hkn : k = n := by omega
   have hnI : ¬ (k : Int) < (n : Int) := by omega
   have hx9 : (ks ++ [(77, 0)])[n]? = some (77, 0) := by rw [List.getElem?_append_right (by rw [HN.out]; exact Nat.le_refl _), HN.out, Nat.sub_self]; rfl
   have r0 := jm ((HT.out n _ hx9).1 0 (by decide)) HB.out; have r1 := jm ((HT.out n _ hx9).1 1 (by decide)) HB.out; have r2 := jm ((HT.out n _ hx9).1 2 (by decide)) HB.out; have r3 := jm ((HT.out n _ hx9).1 3 (by decide)) HB.out; have r4 := jm ((HT.out n _ hx9).2 0 (by decide)) HB.out; have r5 := jm ((HT.out n _ hx9).2 1 (by decide)) HB.out; have r6 := jm ((HT.out n _ hx9).2 2 (by decide)) HB.out; have r7 := jm ((HT.out n _ hx9).2 3 (by decide)) HB.out; rw [Nat.add_zero] at r0; simp only [Nat.reduceAdd] at r4 r5 r6 r7; have hsl := slice_keys (g := g) (o := o) (n := n + 1) (c := c) (m := n); have HSL := jh hsl; obtain ⟨n1, hn1⟩ := je (n + 1); have hn1I : (n : Int) + 1 = (n1 : Int) := by omega
   have hltn : (n : Int) < (n1 : Int) := by omega
   have HS9 : ∀ W : World, (Instr.sliceAt 27 (.slice (some ⟨g, o, none⟩) n c) none (some (.int .i64 (n1 : Nat))) none).run Tryz.prog W = .ok (.slice (some ⟨g, o, none⟩) n1 c) W := fun W => slice_keys9 (by have := HLC.out; omega) W
   have heq : ∀ W : World, (binOp .eql 24 (.agg #[.int .u64 (jf jd 77 0), .int .u64 (jf jd 77 1), .int .u64 (jf jd 77 2), .int .u64 (jf jd 77 3)]) (.agg #[.int .u64 77, .int .u64 0, .int .u64 0, .int .u64 0])).run Tryz.prog W = .ok (.bool true) W := fun W => by have h9 := zV 77 77 (by unfold jj; omega) (by unfold jj; omega) W; rewrite [decide_eq_true rfl] at h9; exact h9
   clear hkn hlt hsl HSL hn1 hx9
   go_wp2_with fail
   go_ret
   exact ⟨rfl, HB.out.alloc HB.out.size _⟩
theorem eqg_grp : Tryz.prog.eqGuardType Tryz.prog.depth 26 = false := by kernel_rfl
theorem QI {w0 w : World} {g : Nat} (h : Below w0.heap.size w0 w) (hg : w0.heap.size ≤ g) (T : Array Value) : Below w0.heap.size w0 (w.setRow g T) :=
 h.grown (JY w g T) h.size (fun k hk => by injection hk with hk; omega)
theorem OwnV.kept9 {w w' : World} {B : Nat} {e : TypeId} {size n : Nat} {v : Value} {xs : List Value} {r : Nat} (h : OwnV w B e size v n xs) (hg : w.grownBy w' (some r)) (hn : v.ownBlock ≠ some r) : OwnV w' B e size v n xs :=
 h.block fun g hg9 => hg.block g (h.lt g hg9).2 (fun e => hn (by rw [hg9, e]))
theorem Twin.kept9 {w w' : World} {base r : Nat} {v : Value} {l : List Nat} (h : Twin w base v l) (hg : w.grownBy w' (some r)) (hn : v.ownBlock ≠ some r) : Twin w' base v l := by
 obtain ⟨g, o, cap, rfl, h2⟩ := h; exact ⟨g, o, cap, rfl, OwnV.kept9 h2 hg hn⟩
theorem Twin.base9 {w : World} {B B' : Nat} {v : Value} {l : List Nat} (h : Twin w B v l) (hB : B' ≤ B) : Twin w B' v l := by
 obtain ⟨g, o, cap, rfl, h2⟩ := h; exact ⟨g, o, cap, rfl, Own.base h2 hB⟩
theorem FrAt.keep9 {w w' : World} {b fr tt : Nat} {bv : Value} {c s r : Nat} (h : FrAt w b fr tt bv c s) (hg : w.grownBy w' (some r)) (hn : b ≠ r) : FrAt w' b fr tt bv c s :=
 ⟨hg.cell h.fr (fun e => hn (by injection e)), hg.cell h.tt (fun e => hn (by injection e)), hg.cell h.bv (fun e => hn (by injection e)), fun j hj => hg.cell (h.c j hj) (fun e => hn (by injection e)), fun j hj => hg.cell (h.s j hj) (fun e => hn (by injection e)), fun j hj => (jV (hg.block b h.lt (fun e => hn (by injection e)))).trans (h.free j hj)⟩
theorem ZV {gp gq gg gh n cap : Nat} {fa se : Int} {ao : Option Addr} {ks : List (Nat × Nat)} (hn : n = ks.length) (hn9 : n ≤ 1000) (w : World) (hk : 0 < n → ∃ b o, ao = some ⟨b, o, none⟩ ∧ KeysAt w b o ks) :
  Calls Tryz.prog 5 #[qd gp gq gg gh fa se (.slice ao n cap)] w fun e w' => ∃ g o c, e = .returned (qd gp gq gg gh fa se (.slice (some ⟨g, o, none⟩) n c)) ∧ TwinK w' w.heap.size g o c ks ∧ Below w.heap.size w w' := by
 have CK := jh (fun (W : World) (hb : Below w.heap.size w W) => TwinKeys_any (cap := cap) (ao := ao) hn hn9 W (fun h0 => by obtain ⟨b, o, h1, h2⟩ := hk h0; exact ⟨b, o, h1, h2.later hb⟩)); clear hn hn9 hk; unfold qd
 go_enter Tryz.func5, Tryz.ntmps5
 go_upto_region 1 with fail
 obtain ⟨v_0, e0⟩ := je (w.alloc (.cells #[.int .u64 (jf jd gp 0), .int .u64 (jf jd gp 1), .int .u64 (jf jd gp 2), .int .u64 (jf jd gp 3), .int .u64 (jf jd gq 0), .int .u64 (jf jd gq 1), .int .u64 (jf jd gq 2), .int .u64 (jf jd gq 3), .int .u64 (jf jd gg 0), .int .u64 (jf jd gg 1), .int .u64 (jf jd gg 2), .int .u64 (jf jd gg 3), .int .u64 (jf jd gh 0), .int .u64 (jf jd gh 1), .int .u64 (jf jd gh 2), .int .u64 (jf jd gh 3), .int .i64 fa, .int .i64 se, .slice ao n cap] 29)); obtain ⟨v_1, e1⟩ := je (v_0.alloc (.cells #[.int .u64 0, .int .u64 0, .int .u64 0, .int .u64 0, .int .u64 0, .int .u64 0, .int .u64 0, .int .u64 0, .int .u64 0, .int .u64 0, .int .u64 0, .int .u64 0, .int .u64 0, .int .u64 0, .int .u64 0, .int .u64 0, .int .i64 0, .int .i64 0, .slice none 0 0] 29)); have s0 : v_0.heap.size = w.heap.size + 1 := by rw [e0]; simp
 have b0 := jc e0; have b1 := jc e1; have f0 : SAt v_0 w.heap.size gp gq gg gh fa se (.slice ao n cap) := by rw [e0]; exact SAt.new _ _ _ _ _ _ _ _ _
 have f1 : v_1.heap[w.heap.size + 1]? = some (.cells #[.int .u64 0, .int .u64 0, .int .u64 0, .int .u64 0, .int .u64 0, .int .u64 0, .int .u64 0, .int .u64 0, .int .u64 0, .int .u64 0, .int .u64 0, .int .u64 0, .int .u64 0, .int .u64 0, .int .u64 0, .int .u64 0, .int .i64 0, .int .i64 0, .slice none 0 0] 29 (0, 0)) := by rw [← s0, e1]; exact heap_alloc_new _ _
 rw [← e0, ← e1]; obtain ⟨SB, hSB⟩ := je (w.heap.size); rw [← hSB] at f0 f1 ⊢; obtain ⟨RB, hRB⟩ := je (SB + 1); rw [← hRB] at f1 ⊢; have HB := jh (jk b0 b1); have HS := jh (f0.later b1); have HR := jh f1; have HWR := jh (show w.heap.size ≤ RB by omega); have HSR := jh (show RB < v_1.heap.size from (Array.getElem?_eq_some_iff.1 f1).1); have HNE := jh (show SB ≠ RB by omega); clear e0 e1 s0 b0 b1 f0 f1 hSB hRB
 skip
 refine jK (.take 0 (.take 1 (.take 2 (.take 3 (.take 4 (.take 5 (.take 6 (.take 7 (.step 8 (.take 9 (.step 10 .done))))))))))) (fun w8 => SAt w8 SB gp gq gg gh fa se (.slice ao n cap)) (by kernel_rfl) (by kernel_rfl) (fun _ _ _ _ _ h => h) (HS.out.later ((Below.refl _ _).drew)) (fun hHeld => ?_); obtain ⟨x1, e1⟩ := je (v_1.drew); rw [← e1]; have hb : Below v_1.heap.size v_1 x1 := by rw [e1]; exact (Below.refl _ _).drew
 have HS := jh (HS.out.later hb); have HB := jw HB hb; have HR := jb hb HR; clear hb e1; refine WT.tk rfl (k := ?_); refine WT.take rfl (Or.inl ⟨by rfl, fun w8 hSw => jg (qu hSw.grp)⟩) ?_
 try simp only [Act.put, pa, pb, pc]
 refine WT.tk rfl (k := ?_); refine WT.tk (v := .int .i64 fa) rfl (fun w8 hSw => jg (Zw hSw.fa)) (k := ?_); refine WT.tk rfl (k := ?_); refine WT.tk (v := .int .i64 se) rfl (fun w8 hSw => jg (Zw hSw.se)) (k := ?_); refine WT.tk rfl (k := ?_); refine WT.tk (v := .slice ao n cap) rfl (fun w8 hSw => jg (Qm hSw.nd)) (k := ?_); refine WT.step rfl (fun K hK => ?_)
 go_simp
 refine (CK.out _ HB.out).mono ?_; rintro _ x2 ⟨g9, o9, c9, rfl, ht, hb⟩; have HT := jh (show TwinK x2 w.heap.size g9 o9 c9 ks from ⟨ht.1, OwnV.base ht.2 HB.out.size⟩); have HTR := jh (show RB ≠ g9 by have h8 := (OwnV.lt ht.2 g9 rfl).1; have h9 := (Array.getElem?_eq_some_iff.1 HR.out).1; omega); clear ht; have HS := jh (HS.out.later hb); have HB := jw HB hb; have HR := jb hb HR; clear hb; refine hK.out _ _ (HS.out) (fun hHeld => ?_); clear hK K
 try simp only [Act.put, pa, pb, pc]
 refine WT.tk (v := .agg #[.int .u64 (jf jd gp 0), .int .u64 (jf jd gp 1), .int .u64 (jf jd gp 2), .int .u64 (jf jd gp 3), .int .u64 (jf jd gq 0), .int .u64 (jf jd gq 1), .int .u64 (jf jd gq 2), .int .u64 (jf jd gq 3), .int .u64 (jf jd gg 0), .int .u64 (jf jd gg 1), .int .u64 (jf jd gg 2), .int .u64 (jf jd gg 3), .int .u64 (jf jd gh 0), .int .u64 (jf jd gh 1), .int .u64 (jf jd gh 2), .int .u64 (jf jd gh 3), .int .i64 fa, .int .i64 se, .slice (some ⟨g9, o9, none⟩) n c9]) rfl (fun w8 hSw => by kernel_rfl) (k := ?_); refine WT.step rfl (fun K hK => ?_); refine Qi (by kernel_rfl) _ _ _ rfl RB _ #[.int .u64 (jf jd gp 0), .int .u64 (jf jd gp 1), .int .u64 (jf jd gp 2), .int .u64 (jf jd gp 3), .int .u64 (jf jd gq 0), .int .u64 (jf jd gq 1), .int .u64 (jf jd gq 2), .int .u64 (jf jd gq 3), .int .u64 (jf jd gg 0), .int .u64 (jf jd gg 1), .int .u64 (jf jd gg 2), .int .u64 (jf jd gg 3), .int .u64 (jf jd gh 0), .int .u64 (jf jd gh 1), .int .u64 (jf jd gh 2), .int .u64 (jf jd gh 3), .int .i64 fa, .int .i64 se, .slice (some ⟨g9, o9, none⟩) n c9] _ HR.out (by kernel_rfl) (by kernel_rfl) (by rw [Zi]; rfl) rfl (by simp [Value.oneCell']) ?_; obtain ⟨x3, e9⟩ := je (x2.setRow RB #[.int .u64 (jf jd gp 0), .int .u64 (jf jd gp 1), .int .u64 (jf jd gp 2), .int .u64 (jf jd gp 3), .int .u64 (jf jd gq 0), .int .u64 (jf jd gq 1), .int .u64 (jf jd gq 2), .int .u64 (jf jd gq 3), .int .u64 (jf jd gg 0), .int .u64 (jf jd gg 1), .int .u64 (jf jd gg 2), .int .u64 (jf jd gg 3), .int .u64 (jf jd gh 0), .int .u64 (jf jd gh 1), .int .u64 (jf jd gh 2), .int .u64 (jf jd gh 3), .int .i64 fa, .int .i64 se, .slice (some ⟨g9, o9, none⟩) n c9]); have hgs : x2.grownBy x3 (some RB) := by rw [e9]; exact JY _ _ _
 have hr9 : x3.heap[RB]? = some (.cells #[.int .u64 (jf jd gp 0), .int .u64 (jf jd gp 1), .int .u64 (jf jd gp 2), .int .u64 (jf jd gp 3), .int .u64 (jf jd gq 0), .int .u64 (jf jd gq 1), .int .u64 (jf jd gq 2), .int .u64 (jf jd gq 3), .int .u64 (jf jd gg 0), .int .u64 (jf jd gg 1), .int .u64 (jf jd gg 2), .int .u64 (jf jd gg 3), .int .u64 (jf jd gh 0), .int .u64 (jf jd gh 1), .int .u64 (jf jd gh 2), .int .u64 (jf jd gh 3), .int .i64 fa, .int .i64 se, .slice (some ⟨g9, o9, none⟩) n c9] 29 (0, 0)) := by rw [e9]; exact setRow_heap _ _ _ _ _ _ HR.out
 have HB := jh (show Below w.heap.size w x3 by rw [e9]; exact QI HB.out HWR.out _); rw [← e9]; clear e9; have HR := jh hr9; have HT := jh (show TwinK x3 w.heap.size g9 o9 c9 ks from ⟨HT.out.1, OwnV.kept9 HT.out.2 hgs (fun e => HTR.out (by injection e with e; exact e.symm))⟩); have HS := jh (HS.out.keep hgs (fun e => by injection e with e; exact absurd e HNE.out)); clear hgs hr9; refine hK.out _ _ (HS.out) (fun hHeld => ?_); clear hK K
 try simp only [Act.put, pa, pb, pc]
 refine WT.done ?_; clear hHeld; obtain ⟨T9, hT9⟩ : ∃ T9 : Array Value, T9 = #[.int .u64 (jf jd gp 0), .int .u64 (jf jd gp 1), .int .u64 (jf jd gp 2), .int .u64 (jf jd gp 3), .int .u64 (jf jd gq 0), .int .u64 (jf jd gq 1), .int .u64 (jf jd gq 2), .int .u64 (jf jd gq 3), .int .u64 (jf jd gg 0), .int .u64 (jf jd gg 1), .int .u64 (jf jd gg 2), .int .u64 (jf jd gg 3), .int .u64 (jf jd gh 0), .int .u64 (jf jd gh 1), .int .u64 (jf jd gh 2), .int .u64 (jf jd gh 3), .int .i64 fa, .int .i64 se, .slice (some ⟨g9, o9, none⟩) n c9] := ⟨_, rfl⟩; have hs9 : (Tryz.prog.info? 29).map (·.size) = some T9.size := by rw [Zi, hT9]; rfl
 have hr9 := HR.out; rw [← hT9] at hr9; have HR9 := jh hr9; have HT9 := jh hT9; clear hr9 hT9
 go_wp2_with fail
 exact bodyPost_ret (results_cell_row rfl _ x3 RB _ _ _ _ rfl HR9.out Tryz.underlying29 rfl hs9) rfl ⟨g9, o9, c9, by rw [HT9.out], HT.out, HB.out⟩
theorem TwinFrame_any {fr tt c s m cb : Nat} {ab : Option Addr} {b : List Nat} (hm : m = b.length) (hbl : b.length ≤ 100000) (w : World) (hb : KAt .u8 w (.slice ab m cb) b) :
  Calls Tryz.prog 6 #[qy fr tt (.slice ab m cb) c s] w fun e w' => ∃ a c9, e = .returned (qy fr tt (.slice a m c9) c s) ∧ Twin w' w.heap.size (.slice a m c9) b ∧ Below w.heap.size w w' := by
 have CK := jh (fun (W : World) (h9 : Below w.heap.size w W) => Twin_any W (hb.later h9) (by omega)); have HM := jh hm; clear hb hbl hm; unfold qy
 go_enter Tryz.func6, Tryz.ntmps6
 go_upto_region 1 with fail
 obtain ⟨v_0, e0⟩ := je (w.alloc (.cells #[.int .u8 fr, .int .u8 tt, .slice ab m cb, .int .u64 (jf jd c 0), .int .u64 (jf jd c 1), .int .u64 (jf jd c 2), .int .u64 (jf jd c 3), .int .u64 (jf jd s 0), .int .u64 (jf jd s 1), .int .u64 (jf jd s 2), .int .u64 (jf jd s 3)] 34)); obtain ⟨v_1, e1⟩ := je (v_0.alloc (.cells #[.int .u8 0, .int .u8 0, .slice none 0 0, .int .u64 0, .int .u64 0, .int .u64 0, .int .u64 0, .int .u64 0, .int .u64 0, .int .u64 0, .int .u64 0] 34)); have s0 : v_0.heap.size = w.heap.size + 1 := by rw [e0]; simp
 have b0 := jc e0; have b1 := jc e1; have f0 : FrAt v_0 w.heap.size fr tt (.slice ab m cb) c s := by rw [e0]; exact FrAt.new _ _ _ _ _ _ _
 have f1 : v_1.heap[w.heap.size + 1]? = some (.cells #[.int .u8 0, .int .u8 0, .slice none 0 0, .int .u64 0, .int .u64 0, .int .u64 0, .int .u64 0, .int .u64 0, .int .u64 0, .int .u64 0, .int .u64 0] 34 (0, 0)) := by rw [← s0, e1]; exact heap_alloc_new _ _
 rw [← e0, ← e1]; obtain ⟨SB, hSB⟩ := je (w.heap.size); rw [← hSB] at f0 f1 ⊢; obtain ⟨RB, hRB⟩ := je (SB + 1); rw [← hRB] at f1 ⊢; have HB := jh (jk b0 b1); have HS := jh (f0.later b1); have HR := jh f1; have HWR := jh (show w.heap.size ≤ RB by omega); have HNE := jh (show SB ≠ RB by omega); clear e0 e1 s0 b0 b1 f0 f1 hSB hRB; refine jK (.take 0 (.take 1 (.take 2 (.take 3 (.take 4 (.take 5 (.take 7 (.take 8 (.step 6 (.take 9 (.step 10 .done))))))))))) (fun w8 => FrAt w8 SB fr tt (.slice ab m cb) c s) (by kernel_rfl) (by kernel_rfl) (fun _ _ _ _ _ h => h) (HS.out.later ((Below.refl _ _).drew)) (fun hHeld => ?_); obtain ⟨x1, e1⟩ := je (v_1.drew); rw [← e1]; have hb : Below v_1.heap.size v_1 x1 := by rw [e1]; exact (Below.refl _ _).drew
 have HS := jh (HS.out.later hb); have HB := jw HB hb; have HR := jb hb HR; clear hb e1; refine WT.tk rfl (k := ?_); refine WT.tk (v := .int .u8 fr) rfl (fun w8 hSw => jg (zF hSw.fr)) (k := ?_); refine WT.tk rfl (k := ?_); refine WT.tk (v := .int .u8 tt) rfl (fun w8 hSw => jg (zF hSw.tt)) (k := ?_); refine WT.tk rfl (k := ?_); refine WT.tk (v := .slice ab m cb) rfl (fun w8 hSw => jg (loadBs hSw.bv)) (k := ?_); refine WT.tk rfl (k := ?_); refine WT.take rfl (Or.inl ⟨by rfl, fun w8 hSw => jg (Qu hSw.c hSw.s)⟩) ?_
 try simp only [Act.put, pa, pb, pc]
 refine WT.step rfl (fun K hK => ?_)
 go_simp
 refine (CK.out _ HB.out).mono ?_; rintro _ x2 ⟨v9, rfl, ht, hb⟩; obtain ⟨a9, c9, rfl⟩ := twin_parts ht HM.out.symm; have HT := jh (ht.base9 HB.out.size); have HTR := jh (show (Value.slice a9 m c9).ownBlock ≠ some RB from fun e => by have h8 := (OwnV.lt ht.own RB e).1; have h9 := (Array.getElem?_eq_some_iff.1 HR.out).1; omega); clear ht; have HS := jh (HS.out.later hb); have HB := jw HB hb; have HR := jb hb HR; clear hb; refine hK.out _ _ (HS.out) (fun hHeld => ?_); clear hK K
 try simp only [Act.put, pa, pb, pc]
 refine WT.tk (v := .agg #[.int .u8 fr, .int .u8 tt, .slice a9 m c9, .int .u64 (jf jd c 0), .int .u64 (jf jd c 1), .int .u64 (jf jd c 2), .int .u64 (jf jd c 3), .int .u64 (jf jd s 0), .int .u64 (jf jd s 1), .int .u64 (jf jd s 2), .int .u64 (jf jd s 3)]) rfl (fun w8 hSw => by kernel_rfl) (k := ?_); refine WT.step rfl (fun K hK => ?_); refine Qi (by kernel_rfl) _ _ _ rfl RB _ #[.int .u8 fr, .int .u8 tt, .slice a9 m c9, .int .u64 (jf jd c 0), .int .u64 (jf jd c 1), .int .u64 (jf jd c 2), .int .u64 (jf jd c 3), .int .u64 (jf jd s 0), .int .u64 (jf jd s 1), .int .u64 (jf jd s 2), .int .u64 (jf jd s 3)] _ HR.out (by kernel_rfl) (by kernel_rfl) (by rw [info_fr]; rfl) rfl (by simp [Value.oneCell']) ?_; obtain ⟨x3, e9⟩ := je (x2.setRow RB #[.int .u8 fr, .int .u8 tt, .slice a9 m c9, .int .u64 (jf jd c 0), .int .u64 (jf jd c 1), .int .u64 (jf jd c 2), .int .u64 (jf jd c 3), .int .u64 (jf jd s 0), .int .u64 (jf jd s 1), .int .u64 (jf jd s 2), .int .u64 (jf jd s 3)]); have hgs : x2.grownBy x3 (some RB) := by rw [e9]; exact JY _ _ _
 have hr9 : x3.heap[RB]? = some (.cells #[.int .u8 fr, .int .u8 tt, .slice a9 m c9, .int .u64 (jf jd c 0), .int .u64 (jf jd c 1), .int .u64 (jf jd c 2), .int .u64 (jf jd c 3), .int .u64 (jf jd s 0), .int .u64 (jf jd s 1), .int .u64 (jf jd s 2), .int .u64 (jf jd s 3)] 34 (0, 0)) := by rw [e9]; exact setRow_heap _ _ _ _ _ _ HR.out
 have HB := jh (show Below w.heap.size w x3 by rw [e9]; exact QI HB.out HWR.out _); rw [← e9]; clear e9; have HR := jh hr9; have HT := jh (HT.out.kept9 hgs HTR.out); have HS := jh (HS.out.keep9 hgs HNE.out); clear hgs hr9; refine hK.out _ _ (HS.out) (fun hHeld => ?_); clear hK K
 try simp only [Act.put, pa, pb, pc]
 refine WT.done ?_; clear hHeld; obtain ⟨T9, hT9⟩ : ∃ T9 : Array Value, T9 = #[.int .u8 fr, .int .u8 tt, .slice a9 m c9, .int .u64 (jf jd c 0), .int .u64 (jf jd c 1), .int .u64 (jf jd c 2), .int .u64 (jf jd c 3), .int .u64 (jf jd s 0), .int .u64 (jf jd s 1), .int .u64 (jf jd s 2), .int .u64 (jf jd s 3)] := ⟨_, rfl⟩; have hs9 : (Tryz.prog.info? 34).map (·.size) = some T9.size := by rw [info_fr, hT9]; rfl
 have hr9 := HR.out; rw [← hT9] at hr9; have HR9 := jh hr9; have HT9 := jh hT9; clear hr9 hT9
 go_wp2_with fail
 exact bodyPost_ret (results_cell_row rfl _ x3 RB _ _ _ _ rfl HR9.out Tryz.underlying34 rfl hs9) rfl ⟨a9, c9, by rw [HT9.out], HT.out, HB.out⟩
theorem ZW {gp gq gg gh n cap g o c9 base : Nat} {fa se : Int} {ao : Option Addr} {ks : List (Nat × Nat)} (hx : ∀ k ∈ ks, k.1 < jj ∧ k.2 < jj) (hgp : gp < jj) (hgq : gq < jj) (hgg : gg < jj) (hgh : gh < jj) (hn : n = ks.length) (hn9 : n ≤ 1000) (w : World) (ht : TwinK w base g o c9 ks) (hk : 0 < n → ∃ b o, ao = some ⟨b, o, none⟩ ∧ KeysAt w b o ks) :
  Calls Tryz.prog 9 #[qd gp gq gg gh fa se (.slice (some ⟨g, o, none⟩) n c9), qd gp gq gg gh fa se (.slice ao n cap)] w fun e w' => e = .returned (.bool true) ∧ Below w.heap.size w w' := by
 have CK := jh (fun (W : World) (hb : Below w.heap.size w W) => LeftKeys_any (cap := cap) (ao := ao) hx hn hn9 W (ht.later hb) (fun h0 => by obtain ⟨b, o, h1, h2⟩ := hk h0; exact ⟨b, o, h1, h2.later hb⟩)); have HEG := jh (fun W => eq_grp hgp hgq hgg hgh W); clear hx hgp hgq hgg hgh hn hn9 hk ht; unfold qd
 go_enter Tryz.func9, Tryz.ntmps9
 go_upto_region 1 with fail
 obtain ⟨v_0, e0⟩ := je (w.alloc (.cells #[.int .u64 (jf jd gp 0), .int .u64 (jf jd gp 1), .int .u64 (jf jd gp 2), .int .u64 (jf jd gp 3), .int .u64 (jf jd gq 0), .int .u64 (jf jd gq 1), .int .u64 (jf jd gq 2), .int .u64 (jf jd gq 3), .int .u64 (jf jd gg 0), .int .u64 (jf jd gg 1), .int .u64 (jf jd gg 2), .int .u64 (jf jd gg 3), .int .u64 (jf jd gh 0), .int .u64 (jf jd gh 1), .int .u64 (jf jd gh 2), .int .u64 (jf jd gh 3), .int .i64 fa, .int .i64 se, .slice (some ⟨g, o, none⟩) n c9] 29)); obtain ⟨v_1, e1⟩ := je (v_0.alloc (.cells #[.int .u64 (jf jd gp 0), .int .u64 (jf jd gp 1), .int .u64 (jf jd gp 2), .int .u64 (jf jd gp 3), .int .u64 (jf jd gq 0), .int .u64 (jf jd gq 1), .int .u64 (jf jd gq 2), .int .u64 (jf jd gq 3), .int .u64 (jf jd gg 0), .int .u64 (jf jd gg 1), .int .u64 (jf jd gg 2), .int .u64 (jf jd gg 3), .int .u64 (jf jd gh 0), .int .u64 (jf jd gh 1), .int .u64 (jf jd gh 2), .int .u64 (jf jd gh 3), .int .i64 fa, .int .i64 se, .slice ao n cap] 29)); have s0 : v_0.heap.size = w.heap.size + 1 := by rw [e0]; simp
 have b0 := jc e0; have b1 := jc e1; have f0 : SAt v_0 w.heap.size gp gq gg gh fa se (.slice (some ⟨g, o, none⟩) n c9) := by rw [e0]; exact SAt.new _ _ _ _ _ _ _ _ _
 have f1 : SAt v_1 (w.heap.size + 1) gp gq gg gh fa se (.slice ao n cap) := by rw [← s0, e1]; exact SAt.new _ _ _ _ _ _ _ _ _
 rw [← e0, ← e1]; obtain ⟨SB, hSB⟩ := je (w.heap.size); rw [← hSB] at f0 f1 ⊢; obtain ⟨RB, hRB⟩ := je (SB + 1); rw [← hRB] at f1 ⊢; have HB := jh (jk b0 b1); have HS := jh (f0.later b1); have HR := jh f1; clear e0 e1 s0 b0 b1 f0 f1 hSB hRB; refine wp_region_lit ?_; refine jo (v := .pointer (some ⟨SB, 0, none⟩)) rfl (by kernel_rfl) ?_; simp only [Act.put, pa, pb, pc]; refine jo rfl (jg (qu HS.out.grp)) ?_; simp only [Act.put, pa, pb, pc]; refine jo (v := .pointer (some ⟨RB, 0, none⟩)) rfl (by kernel_rfl) ?_; simp only [Act.put, pa, pb, pc]; refine jo rfl (jg (qu HR.out.grp)) ?_; simp only [Act.put, pa, pb, pc]; refine jo (v := .bool true) rfl (zj eqg_grp rfl (by kernel_rfl) (by kernel_rfl) (HEG.out _)) ?_; simp only [Act.put, pa, pb, pc]; refine jo (v := .bool true) rfl (by kernel_rfl) ?_; simp only [Act.put, pa, pb, pc]; refine ju (v := .pointer (some ⟨SB, 16, none⟩)) (by kernel_rfl) (by kernel_rfl) ?_; simp only [Act.put, pa, pb, pc]; refine ju (v := .int .i64 fa) (by kernel_rfl) (jg (Zw HS.out.fa)) ?_; simp only [Act.put, pa, pb, pc]; refine ju (v := .pointer (some ⟨RB, 16, none⟩)) (by kernel_rfl) (by kernel_rfl) ?_; simp only [Act.put, pa, pb, pc]; refine ju (v := .int .i64 fa) (by kernel_rfl) (jg (Zw HR.out.fa)) ?_; simp only [Act.put, pa, pb, pc]; refine ju (v := .bool true) (by kernel_rfl) (by simp [go_sem]) ?_
 iterate 2
  simp only [Act.put, pa, pb, pc]; refine jo (v := .bool true) rfl (by kernel_rfl) ?_
 simp only [Act.put, pa, pb, pc]; refine ju (v := .pointer (some ⟨SB, 17, none⟩)) (by kernel_rfl) (by kernel_rfl) ?_; simp only [Act.put, pa, pb, pc]; refine ju (v := .int .i64 se) (by kernel_rfl) (jg (Zw HS.out.se)) ?_; simp only [Act.put, pa, pb, pc]; refine ju (v := .pointer (some ⟨RB, 17, none⟩)) (by kernel_rfl) (by kernel_rfl) ?_; simp only [Act.put, pa, pb, pc]; refine ju (v := .int .i64 se) (by kernel_rfl) (jg (Zw HR.out.se)) ?_; simp only [Act.put, pa, pb, pc]; refine ju (v := .bool true) (by kernel_rfl) (by simp [go_sem]) ?_
 iterate 2
  simp only [Act.put, pa, pb, pc]; refine jo (v := .bool true) rfl (by kernel_rfl) ?_
 simp only [Act.put, pa, pb, pc]; refine ju (v := .pointer (some ⟨SB, 18, none⟩)) (by kernel_rfl) (by kernel_rfl) ?_; simp only [Act.put, pa, pb, pc]; refine ju (v := .slice (some ⟨g, o, none⟩) n c9) (by kernel_rfl) (jg (Qm HS.out.nd)) ?_; simp only [Act.put, pa, pb, pc]; refine ju (v := .pointer (some ⟨RB, 18, none⟩)) (by kernel_rfl) (by kernel_rfl) ?_; simp only [Act.put, pa, pb, pc]; refine ju (v := .slice ao n cap) (by kernel_rfl) (jg (Qm HR.out.nd)) ?_; simp only [Act.put, pa, pb, pc]
 go_wp2_with fail
 refine (CK.out _ HB.out).mono ?_; rintro _ w2 ⟨rfl, hb⟩; have HS := jh (HS.out.later hb); have HR := jh (HR.out.later hb); have HB := jw HB hb; clear hb
 go_wp2_with fail
 go_ret
 exact ⟨rfl, HB.out⟩
theorem LeftFrame_any {fr tt c s m cb c9 base : Nat} {ab a9 : Option Addr} {b : List Nat} (hc : c < jj) (hs : s < jj) (w : World) (ht : Twin w base (.slice a9 m c9) b) (hb : KAt .u8 w (.slice ab m cb) b) :
  Calls Tryz.prog 10 #[qy fr tt (.slice a9 m c9) c s, qy fr tt (.slice ab m cb) c s] w fun e w' => e = .returned (.bool true) ∧ Below w.heap.size w w' := by
 have CK := jh (fun (W : World) (h9 : Below w.heap.size w W) => Left_any W (ht.later h9) (hb.later h9)); have HES := jh (fun (W : World) => by have h9 := eq_sig hc hs hc hs W; rewrite [decide_eq_true (rfl : c = c), decide_eq_true (rfl : s = s)] at h9; exact h9); clear hb ht hc hs; unfold qy
 go_enter Tryz.func10, Tryz.ntmps10
 go_upto_region 1 with fail
 obtain ⟨v_0, e0⟩ := je (w.alloc (.cells #[.int .u8 fr, .int .u8 tt, .slice a9 m c9, .int .u64 (jf jd c 0), .int .u64 (jf jd c 1), .int .u64 (jf jd c 2), .int .u64 (jf jd c 3), .int .u64 (jf jd s 0), .int .u64 (jf jd s 1), .int .u64 (jf jd s 2), .int .u64 (jf jd s 3)] 34)); obtain ⟨v_1, e1⟩ := je (v_0.alloc (.cells #[.int .u8 fr, .int .u8 tt, .slice ab m cb, .int .u64 (jf jd c 0), .int .u64 (jf jd c 1), .int .u64 (jf jd c 2), .int .u64 (jf jd c 3), .int .u64 (jf jd s 0), .int .u64 (jf jd s 1), .int .u64 (jf jd s 2), .int .u64 (jf jd s 3)] 34)); have s0 : v_0.heap.size = w.heap.size + 1 := by rw [e0]; simp
 have b0 := jc e0; have b1 := jc e1; have f0 : FrAt v_0 w.heap.size fr tt (.slice a9 m c9) c s := by rw [e0]; exact FrAt.new _ _ _ _ _ _ _
 have f1 : FrAt v_1 (w.heap.size + 1) fr tt (.slice ab m cb) c s := by rw [← s0, e1]; exact FrAt.new _ _ _ _ _ _ _
 rw [← e0, ← e1]; obtain ⟨SB, hSB⟩ := je (w.heap.size); rw [← hSB] at f0 f1 ⊢; obtain ⟨RB, hRB⟩ := je (SB + 1); rw [← hRB] at f1 ⊢; have HB := jh (jk b0 b1); have HS := jh (f0.later b1); have HR := jh f1; clear e0 e1 s0 b0 b1 f0 f1 hSB hRB; refine wp_region_lit ?_; refine jo (v := .pointer (some ⟨SB, 0, none⟩)) rfl (by kernel_rfl) ?_; simp only [Act.put, pa, pb, pc]; refine jo (v := .int .u8 fr) rfl (jg (zF HS.out.fr)) ?_; simp only [Act.put, pa, pb, pc]; refine jo (v := .pointer (some ⟨RB, 0, none⟩)) rfl (by kernel_rfl) ?_; simp only [Act.put, pa, pb, pc]; refine jo (v := .int .u8 fr) rfl (jg (zF HR.out.fr)) ?_; simp only [Act.put, pa, pb, pc]; refine jo (v := .bool true) rfl (by simp [go_sem]) ?_; simp only [Act.put, pa, pb, pc]; refine jo (v := .bool true) rfl (by kernel_rfl) ?_; simp only [Act.put, pa, pb, pc]; refine ju (v := .pointer (some ⟨SB, 1, none⟩)) (by kernel_rfl) (by kernel_rfl) ?_; simp only [Act.put, pa, pb, pc]; refine ju (v := .int .u8 tt) (by kernel_rfl) (jg (zF HS.out.tt)) ?_; simp only [Act.put, pa, pb, pc]; refine ju (v := .pointer (some ⟨RB, 1, none⟩)) (by kernel_rfl) (by kernel_rfl) ?_; simp only [Act.put, pa, pb, pc]; refine ju (v := .int .u8 tt) (by kernel_rfl) (jg (zF HR.out.tt)) ?_; simp only [Act.put, pa, pb, pc]; refine ju (v := .bool true) (by kernel_rfl) (by simp [go_sem]) ?_
 iterate 2
  simp only [Act.put, pa, pb, pc]; refine jo (v := .bool true) rfl (by kernel_rfl) ?_
 simp only [Act.put, pa, pb, pc]; refine ju (v := .pointer (some ⟨SB, 2, none⟩)) (by kernel_rfl) (by kernel_rfl) ?_; simp only [Act.put, pa, pb, pc]; refine ju (v := .slice a9 m c9) (by kernel_rfl) (jg (loadBs HS.out.bv)) ?_; simp only [Act.put, pa, pb, pc]; refine ju (v := .pointer (some ⟨RB, 2, none⟩)) (by kernel_rfl) (by kernel_rfl) ?_; simp only [Act.put, pa, pb, pc]; refine ju (v := .slice ab m cb) (by kernel_rfl) (jg (loadBs HR.out.bv)) ?_; simp only [Act.put, pa, pb, pc]
 go_wp2_with fail
 refine (CK.out _ HB.out).mono ?_; rintro _ w2 ⟨rfl, nd, hw⟩; have hb : Below v_1.heap.size v_1 w2 := by rw [hw]; exact below_drewN9 _ _
 clear hw; have HS := jh (HS.out.later hb); have HR := jh (HR.out.later hb); have HB := jw HB hb; clear hb; dsimp only
 go_step
 iterate 2
  refine jo (v := .bool true) rfl (by kernel_rfl) ?_; simp only [Act.put, pa, pb, pc]
 refine ju (v := .pointer (some ⟨SB, 3, none⟩)) (by kernel_rfl) (by kernel_rfl) ?_; simp only [Act.put, pa, pb, pc]; refine ju (by kernel_rfl) (jg (Qu HS.out.c HS.out.s)) ?_; simp only [Act.put, pa, pb, pc]; refine ju (v := .pointer (some ⟨RB, 3, none⟩)) (by kernel_rfl) (by kernel_rfl) ?_; simp only [Act.put, pa, pb, pc]; refine ju (by kernel_rfl) (jg (Qu HR.out.c HR.out.s)) ?_; simp only [Act.put, pa, pb, pc]; refine ju (v := .bool true) (by kernel_rfl) (zj eqg_sig rfl (by kernel_rfl) (by kernel_rfl) (HES.out _)) ?_; simp only [Act.put, pa, pb, pc]; refine jo (v := .bool true) rfl (by kernel_rfl) ?_; simp only [Act.put, pa, pb, pc]
 go_wp2_with fail
 go_ret
 exact ⟨rfl, HB.out⟩
end Go.Proofs.YtcaeaejefdhloaaGreat
