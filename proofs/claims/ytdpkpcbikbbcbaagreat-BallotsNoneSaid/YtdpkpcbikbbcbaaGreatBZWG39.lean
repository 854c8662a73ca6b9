/- The law's own set -/
import Derived.Test.YtdpkpcbikbbcbaaGreatBZWG36
import Derived.Test.YtdpkpcbikbbcbaaGreatBZWG33
import Derived.Test.YtdpkpcbikbbcbaaGreatBZWG38
set_option linter.unusedSimpArgs false
set_option linter.unusedVariables false
set_option maxHeartbeats 2000000
set_option maxRecDepth 20000
namespace Go.Proofs.YtdpkpcbikbbcbaaGreat
open Go.ChangeShapes Go.WideShapes Go.ChangeAt Go.RowKit
section
variable {P : Program} {w : World}
theorem jW {b : Nat} {T : Array Value} {t ty : TypeId} {d : TypeDesc} (hr : w.heap[b]? = some (.cells T t (0, 0))) (hu : P.underlying ty = some d) (hd : d.isRow = true) (hi : (P.info? ty).map (·.size) = some T.size) :
  (Instr.loadAt ty (.pointer (some ⟨b, 0, none⟩))).run P w = .ok (.agg T) w := by
 have h9 := run_loadAt_mid (P := P) w b 0 ty T.toList d (fun j u hj => by
  rw [Nat.zero_add, cell_of_row _ _ _ _ _ _ hr]
  simpa using hj) hu hd (by rw [hi]; simp)
 simpa using h9
theorem qc {b : Nat} {L : List Value} {t : TypeId} (h : w.heap[b]? = some (.cells L.toArray t (0, 0))) : w.rangeAt b 0 L := fun j u hj => by
 rw [Nat.zero_add, cell_of_row _ _ _ _ _ _ h]
 simpa using hj
theorem zT {l : List Oper} {o : Oper} {a : Act} {K : Act → World → Prop} {Q : Exit → Act → World → Prop} {X : Prop} {v : Value} (hw : Region.wanted o (yielded l.toArray a.tmps) = true) (h : (execOp a.eval o).run P w = .ok (.value v) w) (k : K (a.put o.dst v) w) :
  if Region.wanted o (yielded l.toArray a.tmps) = true then Oper.wp P o a w K Q else X := by
 rw [if_pos hw]; unfold Oper.wp; rw [h]; exact k
theorem qX {w' : World} {l : List Oper} {o : Oper} {a : Act} {K : Act → World → Prop} {Q : Exit → Act → World → Prop} {X : Prop} {v : Value} (hw : Region.wanted o (yielded l.toArray a.tmps) = true) (h : (execOp a.eval o).run P w = .ok (.value v) w') (k : K (a.put o.dst v) w') :
  if Region.wanted o (yielded l.toArray a.tmps) = true then Oper.wp P o a w K Q else X := by
 rw [if_pos hw]; unfold Oper.wp; rw [h]; exact k
end
def zz (s : Nat) : List Nat := s :: List.replicate 31 0
theorem jC (s : Nat) : (zz s).length = 32 := by simp [zz]
theorem hsL_bytes {s : Nat} (h : s < 256) : qo (zz s) := fun x hx => by
 unfold zz at hx; simp only [List.mem_cons, List.mem_replicate] at hx; omega
def qW (ep : Nat) (C S : Bal.Bv → Nat) (x : Bal.Bv) : List Value := jG x.k ep x.v x.n (zz x.s) (C x) (S x)
theorem jV (ep : Nat) (C S : Bal.Bv → Nat) (x : Bal.Bv) : (qW ep C S x).length = 44 := jD (jC _)
theorem QL (ep : Nat) (C S : Bal.Bv → Nat) (x : Bal.Bv) : ∀ u ∈ qW ep C S x, u.oneCell' = true := Ze _ _ _ _ _ _ _
def farL (E : List Bal.Bv) (n : Nat) : List Value := (List.range n).map fun i => .int .i64 (Bal.farOf E (i + 1))
theorem JX (E : List Bal.Bv) (n : Nat) : (farL E n).length = n := by simp [farL]
theorem farL_get {E : List Bal.Bv} {n i : Nat} (h : i < n) : (farL E n)[i]? = some (.int .i64 (Bal.farOf E (i + 1))) := by simp [farL, h]
def rowB (f : Value → Option Value) (g : Nat) : Prop := ∃ k v n, ((f (qm k v n)).getD (.slice none 0 0)).ownBlock = some g
structure BoxAt (w : World) (bx gp gq gg gh n cap nb no mb fb fo fc ep base : Nat) (fa se : Int) (ks : List (Nat × Nat)) (vv : Bal.Bv → List Value) (f : Value → Option Value) (E : List Bal.Bv) : Prop where
 set : SAt w bx gp gq gg gh fa se (.slice (some ⟨nb, no, none⟩) n cap)
 epo : w.cell? ⟨bx, 19, none⟩ = some (.int .u64 ep)
 mp : w.cell? ⟨bx, 20, none⟩ = some (.map (some mb))
 fr : w.cell? ⟨bx, 21, none⟩ = some (.slice (some ⟨fb, fo, none⟩) n fc)
 keys : KeysAt w nb no ks
 map : MapF w Tryz.prog 86 mb f
 rows : RowsAt w base 52 44 vv f E
 far : OwnV w 0 2 1 (.slice (some ⟨fb, fo, none⟩) n fc) n (farL E n)
 lt : bx < base ∧ nb < base ∧ mb < base ∧ fb < base
 ne : mb ≠ bx ∧ mb ≠ nb ∧ fb ≠ bx ∧ fb ≠ nb ∧ fb ≠ mb
 bs : base ≤ w.heap.size
structure Turn (w w' : World) (mb fb : Nat) (f : Value → Option Value) : Prop where
 os : w'.os = w.os
 tape : w'.tape = w.tape
 output : w'.output = w.output
 size : w.heap.size ≤ w'.heap.size
 block : ∀ i, i < w.heap.size → i ≠ mb → i ≠ fb → ¬ rowB f i → w'.heap[i]? = w.heap[i]?
theorem SAt.block {w w' : World} {b gp gq gg gh : Nat} {fa se : Int} {v : Value} (h : SAt w b gp gq gg gh fa se v) (hb : w'.heap[b]? = w.heap[b]?) : SAt w' b gp gq gg gh fa se v :=
 have c : ∀ {o : Nat} {u : Value}, w.cell? ⟨b, o, none⟩ = some u → w'.cell? ⟨b, o, none⟩ = some u := fun hu => (World.cell?_of_block (w := w) (a := ⟨b, _, none⟩) hb).trans hu
 ⟨⟨fun j hj => c (h.grp.1 j hj), fun j hj => c (h.grp.2.1 j hj), fun j hj => c (h.grp.2.2.1 j hj), fun j hj => c (h.grp.2.2.2 j hj)⟩, c h.fa, c h.se, c h.nd, fun j hj => (World.frozen?_of_block (w := w) (a := ⟨b, j, none⟩) hb).trans (h.free j hj)⟩
theorem KeysAt.block {w w' : World} {b o : Nat} {ks : List (Nat × Nat)} (h : KeysAt w b o ks) (hb : w'.heap[b]? = w.heap[b]?) : KeysAt w' b o ks := fun i k hk =>
 ⟨fun j hj => (World.cell?_of_block (w := w) (a := ⟨b, _, none⟩) hb).trans ((h i k hk).1 j hj), fun j hj => (World.cell?_of_block (w := w) (a := ⟨b, _, none⟩) hb).trans ((h i k hk).2 j hj)⟩
theorem Jk {w w' : World} {b o : Nat} {v : Value} (h : w.cell? ⟨b, o, none⟩ = some v) (hb : w'.heap[b]? = w.heap[b]?) : w'.cell? ⟨b, o, none⟩ = some v := (World.cell?_of_block (w := w) (a := ⟨b, o, none⟩) hb).trans h
theorem RowsAt.block {w w' : World} {base W : Nat} {t : TypeId} {vv : Bal.Bv → List Value} {f : Value → Option Value} {E : List Bal.Bv} (h : RowsAt w base t W vv f E) (hb : ∀ g, rowB f g → w'.heap[g]? = w.heap[g]?) : RowsAt w' base t W vv f E :=
 ⟨fun k v n => OwnV.block (h.row k v n) fun g hg => hb g ⟨k, v, n, hg⟩, h.apart⟩
theorem RowsAt.lt {w : World} {base W : Nat} {t : TypeId} {vv : Bal.Bv → List Value} {f : Value → Option Value} {E : List Bal.Bv} (h : RowsAt w base t W vv f E) {g : Nat} (hg : rowB f g) : base ≤ g ∧ g < w.heap.size := by
 obtain ⟨k, v, n, hg⟩ := hg; exact Jp (h.row k v n) hg
section
variable {w w' : World} {bx gp gq gg gh n cap nb no mb fb fo fc ep base : Nat} {fa se : Int} {ks : List (Nat × Nat)} {vv : Bal.Bv → List Value} {f : Value → Option Value} {E : List Bal.Bv}
theorem BoxAt.blocks (h : BoxAt w bx gp gq gg gh n cap nb no mb fb fo fc ep base fa se ks vv f E) (hbx : w'.heap[bx]? = w.heap[bx]?) (hnb : w'.heap[nb]? = w.heap[nb]?) (hmb : w'.heap[mb]? = w.heap[mb]?) (hfb : w'.heap[fb]? = w.heap[fb]?) (hr : ∀ g, rowB f g → w'.heap[g]? = w.heap[g]?) (hs : base ≤ w'.heap.size) :
  BoxAt w' bx gp gq gg gh n cap nb no mb fb fo fc ep base fa se ks vv f E :=
 ⟨h.set.block hbx, Jk h.epo hbx, Jk h.mp hbx, Jk h.fr hbx, h.keys.block hnb, h.map.block hmb, h.rows.block hr, OwnV.block h.far fun g hg => by cases hg; exact hfb, h.lt, h.ne, hs⟩
theorem BoxAt.later (h : BoxAt w bx gp gq gg gh n cap nb no mb fb fo fc ep base fa se ks vv f E) (hb : Below w.heap.size w w') : BoxAt w' bx gp gq gg gh n cap nb no mb fb fo fc ep base fa se ks vv f E :=
 h.blocks (hb.block _ (Nat.lt_of_lt_of_le h.lt.1 h.bs)) (hb.block _ (Nat.lt_of_lt_of_le h.lt.2.1 h.bs)) (hb.block _ (Nat.lt_of_lt_of_le h.lt.2.2.1 h.bs)) (hb.block _ (Nat.lt_of_lt_of_le h.lt.2.2.2 h.bs)) (fun _ hg => hb.block _ (h.rows.lt hg).2) (Nat.le_trans h.bs hb.size)
theorem Turn.below (h : Turn w w' mb fb f) {B : Nat} (hm : B ≤ mb) (hf : B ≤ fb) (hr : ∀ g, rowB f g → B ≤ g) (hB : B ≤ w.heap.size) : Below B w w' :=
 ⟨h.os, h.tape, h.output, h.size, fun i hi => h.block i (Nat.lt_of_lt_of_le hi hB) (by omega) (by omega) fun h3 => absurd (hr i h3) (by omega)⟩
theorem turn_of_below (h : Below w.heap.size w w') (mb fb : Nat) (f : Value → Option Value) : Turn w w' mb fb f := ⟨h.os, h.tape, h.output, h.size, fun i hi _ _ _ => h.block i hi⟩
theorem BoxAt.rebase (h : BoxAt w bx gp gq gg gh n cap nb no mb fb fo fc ep base fa se ks vv (fun _ => none) []) : BoxAt w bx gp gq gg gh n cap nb no mb fb fo fc ep w.heap.size fa se ks vv (fun _ => none) [] :=
 ⟨h.set, h.epo, h.mp, h.fr, h.keys, h.map, rowsAt_made _ _ _ _ _, h.far, ⟨Nat.lt_of_lt_of_le h.lt.1 h.bs, Nat.lt_of_lt_of_le h.lt.2.1 h.bs, Nat.lt_of_lt_of_le h.lt.2.2.1 h.bs, Nat.lt_of_lt_of_le h.lt.2.2.2 h.bs⟩, h.ne, Nat.le_refl _⟩
end
theorem loadMp {w : World} {b o : Nat} {v : Value} (h : w.cell? ⟨b, o, none⟩ = some v) : (Instr.loadAt 80 (.pointer (some ⟨b, o, none⟩))).run Tryz.prog w = .ok v w := by
 simp [go_sem, h]
theorem loadFs {w : World} {b o : Nat} {v : Value} (h : w.cell? ⟨b, o, none⟩ = some v) : (Instr.loadAt 81 (.pointer (some ⟨b, o, none⟩))).run Tryz.prog w = .ok v w := by
 simp [go_sem, h]
theorem JT {w : World} {b o : Nat} {v : Value} (h : w.cell? ⟨b, o, none⟩ = some v) : (Instr.loadAt 22 (.pointer (some ⟨b, o, none⟩))).run Tryz.prog w = .ok v w := by
 simp [go_sem, h]
theorem loadI64 {w : World} {b o : Nat} {v : Value} (h : w.cell? ⟨b, o, none⟩ = some v) : (Instr.loadAt 2 (.pointer (some ⟨b, o, none⟩))).run Tryz.prog w = .ok v w := by
 simp [go_sem, h]
theorem loadVk {w : World} {b o : Nat} {v : Value} (h : w.cell? ⟨b, o, none⟩ = some v) : (Instr.loadAt 45 (.pointer (some ⟨b, o, none⟩))).run Tryz.prog w = .ok v w := by
 simp [go_sem, h]
theorem ZY {w : World} {b o : Nat} {v : Value} (h : w.cell? ⟨b, o, none⟩ = some v) : (Instr.loadAt 46 (.pointer (some ⟨b, o, none⟩))).run Tryz.prog w = .ok v w := by
 simp [go_sem, h]
theorem load8 {w : World} {b o : Nat} {v : Value} (h : w.cell? ⟨b, o, none⟩ = some v) : (Instr.loadAt 5 (.pointer (some ⟨b, o, none⟩))).run Tryz.prog w = .ok v w := by
 simp [go_sem, h]
theorem eqg_hash : Tryz.prog.eqGuardType Tryz.prog.depth 48 = false := by kernel_rfl
theorem hsL_get (s : Nat) : ∀ i, i < 32 → ((jq .u8 (zz s)).toArray)[i]? = some (.int .u8 (((zz s).getD i 0 : Nat) : Int)) := fun i hi => by
 rw [List.getElem?_toArray, qr, List.getElem?_eq_getElem (by rw [jC]; exact hi)]
 simp [List.getD_eq_getElem?_getD, List.getElem?_eq_getElem (show i < (zz s).length by rw [jC]; exact hi)]
theorem all_sets (s t : Nat) : ((List.range 32).all fun i => (((zz s).getD i 0 : Nat) : Int) == (((zz t).getD i 0 : Nat) : Int)) = decide (s = t) := by
 by_cases h : s = t
 ·subst h
  simp
 ·rw [decide_eq_false h, List.all_eq_false]; refine ⟨0, by simp, ?_⟩
  simp [zz]
  omega
theorem equalIn_set (s t : Nat) (w : World) : (Op.equalIn 10000 48 (.agg (jq .u8 (zz s)).toArray) (.agg (jq .u8 (zz t)).toArray)).run Tryz.prog w = .ok (decide (s = t)) w := by
 rw [zj w 9998 48 5 .u8 32 Tryz.underlying48 Tryz.underlying5 (fun _ => by kernel_rfl) (fun _ => by kernel_rfl) _ _ (fun i => (((zz s).getD i 0 : Nat) : Int)) (fun i => (((zz t).getD i 0 : Nat) : Int)) (hsL_get s) (hsL_get t), all_sets]
theorem eql_set (s t : Nat) (w : World) : (binOp .eql 48 (.agg (jq .u8 (zz s)).toArray) (.agg (jq .u8 (zz t)).toArray)).run Tryz.prog w = .ok (.bool (decide (s = t))) w := by
 rw [run_eql_struct, equalIn_set]
 rfl
section
variable {P : Program} {w : World}
theorem step_store_at {l : List Oper} {o : Oper} {a : Act} {K : Act → World → Prop} {Q : Exit → Act → World → Prop} {E : Prop} (hw : Region.wanted o (yielded l.toArray a.tmps) = true) (ty : TypeId) (x y : Operand) (ho : o.op = .store ty x y) (g q : Nat) (cur vs : List Value) (t : TypeId)
  (hg : w.heap[g]? = some (.cells cur.toArray t (0, 0))) (hx : a.eval x = .pointer (some ⟨g, q, none⟩)) (hy : a.eval y = .agg vs.toArray) (hi : (P.info? ty).map (·.size) = some vs.length) (hc : q + vs.length ≤ cur.length) (h1 : ∀ v ∈ vs, v.oneCell' = true)
  (k : K (a.put o.dst undef) (w.setRow g (cur.take q ++ vs ++ cur.drop (q + vs.length)).toArray)) :
  if Region.wanted o (yielded l.toArray a.tmps) = true then Oper.wp P o a w K Q else E := by
 rw [if_pos hw]; have hst := run_storeCells_at (P := P) g q t vs 0 cur.toArray w hg (by simpa using hc) h1; simp only [Nat.add_zero] at hst
 have hsv : (storeVar ty ⟨g, q, none⟩ (.agg vs.toArray)).run P w = .ok () (w.setRow g (cur.take q ++ vs ++ cur.drop (q + vs.length)).toArray) := by
  cases hq : P.info? ty with
  | none => simp [hq] at hi
  | some i =>
   have hs : vs.length = i.size := by simp [hq] at hi; omega
   simp [storeVar, sizeOf, typeInfo, hq, Value.cells, ← hs, hst]
 unfold Oper.wp execOp; simp only [ho, hx, hy, Sem.run_bind, Instr.storeAt, Instr.sureAddr, Sem.run_pure, Result.andThen_ok, hsv]; exact k
end
theorem setV_one {gp gq gg gh : Nat} {fa se : Int} {nodes : Value} (hn : nodes.oneCell' = true) {T : Array Value} (h : qg gp gq gg gh fa se nodes = .agg T) : T.all (·.oneCell') = true := by
 unfold qg at h; injection h with h
 rw [← h]
 cases nodes <;> simp_all [Value.oneCell']
theorem qI {gp gq gg gh : Nat} {fa se : Int} {nodes : Value} {T : Array Value} (h : qg gp gq gg gh fa se nodes = .agg T) : T.size = 19 := by
 unfold qg at h; injection h with h
 rw [← h]
 rfl
theorem voteL_sig (k e v n : Nat) (h : List Nat) (hl : h.length = 32) (c s c' s' : Nat) : (jG k e v n h c s).take 36 ++ Zp c' s' ++ (jG k e v n h c s).drop (36 + (Zp c' s').length) = jG k e v n h c' s' := by
 have e1 : ∀ c s, jG k e v n h c s = (.int .u8 k :: .int .u64 e :: .int .u32 v :: .int .u8 n :: jq .u8 h) ++ Zp c s := fun c s => by simp [jG]
 have hp : (.int .u8 k :: .int .u64 e :: .int .u32 v :: .int .u8 n :: jq .u8 h : List Value).length = 36 := by simp [js, hl]
 rw [e1 c s, e1 c' s', List.take_append_of_le_length (by omega), List.take_of_length_le (by omega), List.drop_of_length_le (by simp [Zp, js, hl])]
 simp
theorem BSign_any {gp gq gg gh secret k e v n c s : Nat} {fa se : Int} {nodes : Value} {h : List Nat} (hnd : nodes.oneCell' = true) (hm : Jh gp gg) (hgp : gp < jk) (hgg : gg < jk) (hq1 : 1 < gq) (hq : gq < jk) (hs0 : secret ≠ 0) (hs : secret < gq) (hl : h.length = 32) (hby : qo h) (hk : k < 256) (hv : v < 4294967296) (hn : n < 256) (w : World) :
  Calls Tryz.prog 15 #[qg gp gq gg gh fa se nodes, qv k e v n h c s, jo secret] w fun r w' => r = .returned (.tuple #[qv k e v n h (Jx gp gq gg secret (JJ gq secret (qy k e v n h)) (qy k e v n h)) (Qj gp gq gg secret (JJ gq secret (qy k e v n h)) (qy k e v n h)), .int .i64 0]) ∧ Below w.heap.size w w' := by
 obtain ⟨H, hH⟩ := je (qy k e v n h); have hHl : H.length = 32 := by rw [hH]; unfold qy; exact qp _
 have hHb : qo H := by rw [hH]; unfold qy; exact JS _
 have CS := jh (fun (W : World) => LSign_any (gh := gh) (fa := fa) (se := se) (nodes := nodes) (secret := secret) hm hgp hgg hq1 hq hs0 hs hHl hHb W); obtain ⟨c9, hc9⟩ := je (Jx gp gq gg secret (JJ gq secret H) H); obtain ⟨s9, hs9⟩ := je (Qj gp gq gg secret (JJ gq secret H) H); have CV := jh (fun (W : World) => WVote_any (c := c) (s := s) (e := e) W hl hby hk hv hn); rw [← hH, ← hc9, ← hs9]; rw [← hc9, ← hs9] at CS; rw [← hH] at CV; obtain ⟨T, hT⟩ := je ((jq .u8 H).toArray); rw [← hT] at CS CV; obtain ⟨SV, hSV⟩ : ∃ SV, qg gp gq gg gh fa se nodes = .agg SV := ⟨_, rfl⟩; have h1S := setV_one hnd hSV; have hszS : (Tryz.prog.info? 33).map (·.size) = some SV.size := by rw [qR, qI hSV]
 obtain ⟨VV, hVV⟩ := je ((jG k e v n h c s).toArray); have hszV : (Tryz.prog.info? 52).map (·.size) = some VV.size := by rw [jJ, hVV]; simp [jD hl]
 obtain ⟨UU, hUU⟩ := je ((jG k e v n h c9 s9).toArray); have hszU : (Tryz.prog.info? 52).map (·.size) = some UU.size := by rw [jJ, hUU]; simp [jD hl]
 have h1U : UU.all (·.oneCell') = true := by rw [hUU]; exact all_oneCell_toArray (Ze _ _ _ _ _ _ _)
 have hzU : UU.size = 44 := by rw [hUU]; simp [jD hl]
 have hst := voteL_sig k e v n h hl c s c9 s9; have hvl := jD (k := k) (e := e) (v := v) (n := n) (c := c) (s := s) hl; have HST := jh hst; have HVL := jh hvl; rw [hSV] at CS ⊢; unfold qv at CV ⊢; rw [← hVV] at CV ⊢; rw [← hUU]; have HVV := jh hVV; have HUU := jh hUU; unfold jo words at CS ⊢; unfold sigV at CS; have H1S := jh h1S; have HSS := jh hszS; have H1U := jh h1U; have HZU := jh hzU; clear hm hgp hgg hq1 hq hs0 hs hl hby hk hv hn hH hHl hHb hc9 hs9 hT hVV hUU hst hvl hSV hnd h1S h1U hzU
 go_enter Tryz.func15, Tryz.ntmps15
 go_upto_region 2 with fail
 obtain ⟨v_0, e0⟩ := je (w.alloc (.cells SV 33)); have s0 : v_0.heap.size = w.heap.size + 1 := by rw [e0]; simp
 have b0 := jc e0; have f0 : v_0.heap[w.heap.size]? = some (.cells SV 33 (0, 0)) := by rw [e0]; exact heap_alloc_new _ _
 obtain ⟨v_1, e1⟩ := je (v_0.alloc (.cells VV 52)); have s1 : v_1.heap.size = w.heap.size + 1 + 1 := by rw [e1]; simp [s0]
 have b1 := jc e1; have f1 : v_1.heap[w.heap.size + 1]? = some (.cells VV 52 (0, 0)) := by rw [← s0, e1]; exact heap_alloc_new _ _
 obtain ⟨v_2, e2⟩ := je (v_1.alloc (.cells #[.int .u64 (jf jd secret 0), .int .u64 (jf jd secret 1), .int .u64 (jf jd secret 2), .int .u64 (jf jd secret 3)] 24)); have s2 : v_2.heap.size = w.heap.size + 1 + 1 + 1 := by rw [e2]; simp [s1]
 have b2 := jc e2; have f2 : v_2.heap[w.heap.size + 1 + 1]? = some (.cells #[.int .u64 (jf jd secret 0), .int .u64 (jf jd secret 1), .int .u64 (jf jd secret 2), .int .u64 (jf jd secret 3)] 24 (0, 0)) := by rw [← s1, e2]; exact heap_alloc_new _ _
 obtain ⟨v_3, e3⟩ := je (v_2.alloc (.cells #[.int .u8 0, .int .u64 0, .int .u32 0, .int .u8 0, .int .u8 0, .int .u8 0, .int .u8 0, .int .u8 0, .int .u8 0, .int .u8 0, .int .u8 0, .int .u8 0, .int .u8 0, .int .u8 0, .int .u8 0, .int .u8 0, .int .u8 0, .int .u8 0, .int .u8 0, .int .u8 0, .int .u8 0, .int .u8 0, .int .u8 0, .int .u8 0, .int .u8 0, .int .u8 0, .int .u8 0, .int .u8 0, .int .u8 0, .int .u8 0, .int .u8 0, .int .u8 0, .int .u8 0, .int .u8 0, .int .u8 0, .int .u8 0, .int .u64 0, .int .u64 0, .int .u64 0, .int .u64 0, .int .u64 0, .int .u64 0, .int .u64 0, .int .u64 0] 52)); have s3 : v_3.heap.size = w.heap.size + 1 + 1 + 1 + 1 := by rw [e3]; simp [s2]
 have b3 := jc e3; have f3 : v_3.heap[w.heap.size + 1 + 1 + 1]? = some (.cells #[.int .u8 0, .int .u64 0, .int .u32 0, .int .u8 0, .int .u8 0, .int .u8 0, .int .u8 0, .int .u8 0, .int .u8 0, .int .u8 0, .int .u8 0, .int .u8 0, .int .u8 0, .int .u8 0, .int .u8 0, .int .u8 0, .int .u8 0, .int .u8 0, .int .u8 0, .int .u8 0, .int .u8 0, .int .u8 0, .int .u8 0, .int .u8 0, .int .u8 0, .int .u8 0, .int .u8 0, .int .u8 0, .int .u8 0, .int .u8 0, .int .u8 0, .int .u8 0, .int .u8 0, .int .u8 0, .int .u8 0, .int .u8 0, .int .u64 0, .int .u64 0, .int .u64 0, .int .u64 0, .int .u64 0, .int .u64 0, .int .u64 0, .int .u64 0] 52 (0, 0)) := by rw [← s2, e3]; exact heap_alloc_new _ _
 rw [← e0, ← e1, ← e2, ← e3]; obtain ⟨SB, hSB⟩ := je (w.heap.size); have WS := jh hSB; rw [← hSB] at f0 f1 f2 f3 ⊢; obtain ⟨VB, hVB⟩ := je (SB + 1); rw [← hVB] at f1 f2 f3 ⊢; obtain ⟨XB, hXB⟩ := je (VB + 1); rw [← hXB] at f2 f3 ⊢; obtain ⟨RB, hRB⟩ := je (XB + 1); rw [← hRB] at f3 ⊢; have HS := jh (((b3.block _ (by omega)).trans ((b2.block _ (by omega)).trans ((b1.block _ (by omega)).trans f0)))); have HV := jh ((b3.block _ (by omega)).trans ((b2.block _ (by omega)).trans f1)); have HX := jh ((b3.block _ (by omega)).trans f2); have HR := jh f3; have HB := jh (jm (jm (jm b0 b1) b2) b3); have NB := jh (show SB < VB ∧ VB < XB ∧ XB < RB ∧ w.heap.size ≤ SB by omega); clear e0 e1 e2 e3 s0 s1 s2 s3 b0 b1 b2 b3 f0 f1 f2 f3 hSB hVB hXB hRB; refine jB (.take 0 (.take 3 (.step 1 (.step 2 (.step 4 (.take 5 (.take 6 (.take 7 (.take 8 (.step 9 (.take 10 .done))))))))))) (fun w8 => w8.heap[SB]? = some (.cells SV 33 (0, 0)) ∧ w8.heap[XB]? = some (.cells #[.int .u64 (jf jd secret 0), .int .u64 (jf jd secret 1), .int .u64 (jf jd secret 2), .int .u64 (jf jd secret 3)] 24 (0, 0))) (by kernel_rfl) (by kernel_rfl) (fun _ _ _ _ _ h => h) (⟨(((Below.refl _ _).drew : Below v_3.heap.size v_3 v_3.drew).block _ (Array.getElem?_eq_some_iff.1 HS.out).1).trans HS.out, (((Below.refl _ _).drew : Below v_3.heap.size v_3 v_3.drew).block _ (Array.getElem?_eq_some_iff.1 HX.out).1).trans HX.out⟩) (fun hHeld => ?_); obtain ⟨x1, e1⟩ := je (v_3.drew); rw [← e1]; have hb : Below v_3.heap.size v_3 x1 := by rw [e1]; exact (Below.refl _ _).drew
 have HS := jb hb HS; have HV := jb hb HV; have HX := jb hb HX; have HR := jb hb HR; have HB := jw HB hb; clear hb e1; refine WT.tk (v := .agg SV) rfl (fun w8 hSw => jg (jW hSw.1 Tryz.underlying33 rfl HSS.out)) (k := ?_); refine WT.tk (v := .agg #[.int .u64 (jf jd secret 0), .int .u64 (jf jd secret 1), .int .u64 (jf jd secret 2), .int .u64 (jf jd secret 3)]) rfl (fun w8 hSw => jg (jW hSw.2 Tryz.underlying24 rfl (by rw [info_n]; rfl))) (k := ?_); refine WT.step rfl (fun K hK => ?_); refine zT (v := .agg VV) (by rfl) (jg (jW HV.out Tryz.underlying52 rfl hszV)) ?_; refine hK.out _ _ (⟨HS.out, HX.out⟩) (fun hHeld => ?_); clear hK K
 try simp only [Act.put, pa, pb, pc]
 refine WT.step rfl (fun K hK => ?_)
 go_simp
 refine (CV.out _).mono ?_; rintro _ x3 ⟨rfl, hb⟩; have HS := jb hb HS; have HV := jb hb HV; have HX := jb hb HX; have HR := jb hb HR; have HB := jw HB hb; clear hb; refine hK.out _ _ (⟨HS.out, HX.out⟩) (fun hHeld => ?_); clear hK K
 try simp only [Act.put, pa, pb, pc]
 refine WT.step rfl (fun K hK => ?_)
 go_simp
 refine (CS.out _).mono ?_; rintro _ x4 ⟨rfl, hb⟩; have HS := jb hb HS; have HV := jb hb HV; have HX := jb hb HX; have HR := jb hb HR; have HB := jw HB hb; clear hb; refine hK.out _ _ (⟨HS.out, HX.out⟩) (fun hHeld => ?_); clear hK K
 try simp only [Act.put, pa, pb, pc]
 iterate 4
  refine WT.tk rfl (k := ?_)
 refine WT.step rfl (fun K hK => ?_); refine step_store_at (by rfl) 50 _ _ rfl VB 36 (jG k e v n h c s) (Zp c9 s9) 52 (by rw [← HVV.out]; exact HV.out) rfl rfl (by rw [info_sig]; rfl) (by rw [HVL.out]; simp [Zp]) (by intro u hu; unfold Zp at hu; simp only [List.mem_cons, List.not_mem_nil, or_false] at hu; rcases hu with rfl | rfl | rfl | rfl | rfl | rfl | rfl | rfl <;> rfl) ?_; rw [HST.out, ← HUU.out]; obtain ⟨x5, e9⟩ := je (x4.setRow VB UU); have hgs : x4.grownBy x5 (some VB) := by rw [e9]; exact qL _ _ _
 have HV2 := jh (show x5.heap[VB]? = some (.cells UU 52 (0, 0)) by rw [e9]; exact setRow_heap _ _ _ _ _ _ HV.out); rw [← e9]; clear e9 HV; have HS := jh (qN HS.out hgs (fun e => by have := NB.out; injection e with e; omega)); have HX := jh (qN HX.out hgs (fun e => by have := NB.out; injection e with e; omega)); have HR := jh (qN HR.out hgs (fun e => by have := NB.out; injection e with e; omega)); have HB := jh (HB.out.grown hgs HB.out.size (fun q hq => by injection hq with hq; have := NB.out; omega)); clear hgs; refine hK.out _ _ (⟨HS.out, HX.out⟩) (fun hHeld => ?_); clear hK K
 try simp only [Act.put, pa, pb, pc]
 refine WT.tk rfl (k := ?_); refine WT.done ?_; clear hHeld
 go_upto_region 5 with fail
 refine wp_region_lit ?_; refine ji rfl (jg (jW HV2.out Tryz.underlying52 rfl hszU)) ?_; simp only [Act.put, pa, pb, pc]; refine jI rfl _ _ _ rfl RB _ _ _ HR.out rfl rfl hszU (by rw [HZU.out]; rfl) H1U.out ?_; simp only [Act.put, pa, pb, pc]
 go_wp2_with fail
 obtain ⟨y9, e9⟩ := je (x5.setRow RB UU); have hr9 : y9.heap[RB]? = some (.cells UU 52 (0, 0)) := by rw [e9]; exact setRow_heap _ _ _ _ _ _ HR.out
 have hb9 : Below w.heap.size w y9 := by rw [e9]; exact below_setRow HB.out (by have := NB.out; omega) _
 rw [← e9]; exact bodyPost_ret (jT rfl _ y9 RB _ _ _ _ rfl hr9 Tryz.underlying52 rfl hszU _ rfl) rfl ⟨rfl, hb9⟩
structure Ch where
 node : Nat
 set : Nat
 sec : Bool
 view : Nat
def bvOf (n : Nat) (c : Ch) : Bal.Bv := ⟨if c.sec then 2 else 1, c.view, c.node % n + 1, c.set % 4⟩
def sgK (sk : List (Nat × Nat)) (x : Bal.Bv) : Nat := (sk.getD (x.n - 1) (0, 0)).1
def sgC (gp gq gg ep : Nat) (sk : List (Nat × Nat)) (x : Bal.Bv) : Nat := Jx gp gq gg (sgK sk x) (JJ gq (sgK sk x) (qy x.k ep x.v x.n (zz x.s))) (qy x.k ep x.v x.n (zz x.s))
def sgS (gp gq gg ep : Nat) (sk : List (Nat × Nat)) (x : Bal.Bv) : Nat := Qj gp gq gg (sgK sk x) (JJ gq (sgK sk x) (qy x.k ep x.v x.n (zz x.s))) (qy x.k ep x.v x.n (zz x.s))
def vvS (gp gq gg ep : Nat) (sk : List (Nat × Nat)) : Bal.Bv → List Value := qW ep (sgC gp gq gg ep sk) (sgS gp gq gg ep sk)
def ChAt (w : World) (b o : Nat) (l : List Ch) : Prop := ∀ i c, l[i]? = some c → w.cell? ⟨b, o + i * 4, none⟩ = some (.int .u8 c.node) ∧ w.cell? ⟨b, o + i * 4 + 1, none⟩ = some (.int .u8 c.set) ∧ w.cell? ⟨b, o + i * 4 + 2, none⟩ = some (.bool c.sec) ∧ w.cell? ⟨b, o + i * 4 + 3, none⟩ = some (.int .u8 c.view)
theorem ChAt.later {w w' : World} {b o : Nat} {l : List Ch} (h : ChAt w b o l) (hb : Below w.heap.size w w') : ChAt w' b o l := fun i c hc => ⟨jj (h i c hc).1 hb, jj (h i c hc).2.1 hb, jj (h i c hc).2.2.1 hb, jj (h i c hc).2.2.2 hb⟩
structure StOk (gp gq gg gh n : Nat) (fa se : Int) (ks : List (Nat × Nat)) : Prop where
 hx : ∀ k ∈ ks, k.1 < jk ∧ k.2 < jk
 hq : gq < jk
 hm : gp < jk
 hgg : gg < jk
 hgh : gh < jk
 hn : n = ks.length
 hfa : -9223372036854775808 ≤ fa ∧ fa ≤ 9223372036854775807
 hse : -9223372036854775808 ≤ se ∧ se ≤ 9223372036854775807
 hn7 : n ≤ 7
 ok : jL gp gq gg gh fa se n ks = true
 may : Jh gp gg
 q1 : 1 < gq
 keys : ∀ k ∈ ks, inG gp gq k.1 ∧ k.1 ≠ 1
theorem loadGr {w : World} {b gp gq gg gh : Nat} {fa se : Int} {v : Value} (h : SAt w b gp gq gg gh fa se v) : (Instr.loadAt 26 (.pointer (some ⟨b, 0, none⟩))).run Tryz.prog w = .ok (.agg #[.int .u64 (jf jd gp 0), .int .u64 (jf jd gp 1), .int .u64 (jf jd gp 2), .int .u64 (jf jd gp 3), .int .u64 (jf jd gq 0), .int .u64 (jf jd gq 1), .int .u64 (jf jd gq 2), .int .u64 (jf jd gq 3), .int .u64 (jf jd gg 0), .int .u64 (jf jd gg 1), .int .u64 (jf jd gg 2), .int .u64 (jf jd gg 3), .int .u64 (jf jd gh 0), .int .u64 (jf jd gh 1), .int .u64 (jf jd gh 2), .int .u64 (jf jd gh 3)]) w := qG h.grp
theorem Ji {w : World} {b o : Nat} {v : Value} (h : w.cell? ⟨b, o, none⟩ = some v) : (Instr.loadAt 5 (.pointer (some ⟨b, o, none⟩))).run Tryz.prog w = .ok v w := by
 simp [go_sem, h]
theorem loadVw {w : World} {b o : Nat} {v : Value} (h : w.cell? ⟨b, o, none⟩ = some v) : (Instr.loadAt 46 (.pointer (some ⟨b, o, none⟩))).run Tryz.prog w = .ok v w := by
 simp [go_sem, h]
theorem loadSg {w : World} {b o c s : Nat} (h : w.rangeAt b o (Zp c s)) : (Instr.loadAt 50 (.pointer (some ⟨b, o, none⟩))).run Tryz.prog w = .ok (sigV c s) w :=
 run_loadAt_mid (P := Tryz.prog) w b o 50 (Zp c s) _ h Tryz.underlying50 rfl info_sig
theorem JY {gp gq gg gh n cap k e v nd c s : Nat} {fa se : Int} {KB ko : Nat} {ks : List (Nat × Nat)} {h : List Nat} (st : StOk gp gq gg gh n fa se ks) (hl : h.length = 32) (hv : v < 4294967296) (hnd : nd < 256) (hkd : k = 0 ∨ k = 3) (w : World) (hk : KeysAt w KB ko ks) :
  Calls Tryz.prog 17 #[qg gp gq gg gh fa se (.slice (some ⟨KB, ko, none⟩) n cap), qv k e v nd h c s] w fun r w' => r = .returned (.bool false) ∧ Below w.heap.size w w' := by
 rcases hkd with rfl | rfl
 ·obtain ⟨SV, hSV⟩ : ∃ SV, qg gp gq gg gh fa se (.slice (some ⟨KB, ko, none⟩) n cap) = .agg SV := ⟨_, rfl⟩; have hszS : (Tryz.prog.info? 33).map (·.size) = some SV.size := by rw [qR, qI hSV]
  obtain ⟨VV, hVV⟩ := je ((jG 0 e v nd h c s).toArray); have hszV : (Tryz.prog.info? 52).map (·.size) = some VV.size := by rw [jJ, hVV]; simp [jD hl]
  have FS := jh (show ∀ W : World, SAt (W.alloc (.cells SV 33)) W.heap.size gp gq gg gh fa se (.slice (some ⟨KB, ko, none⟩) n cap) by intro W; have e9 := hSV; unfold qg at e9; injection e9 with e9; rw [← e9]; exact SAt.new _ _ _ _ _ _ _ _ _); have HSS := jh hszS; have HSZ := jh hszV; have HL := jh hl; have HKA := jh hk; rw [hSV]; unfold qv; rw [← hVV]; have HVV := jh hVV; have HSV := jh hSV; clear hVV hSV hk hl st hv hnd
  go_enter Tryz.func17, Tryz.ntmps17
  go_upto_region 1 with fail
  obtain ⟨v_0, e0⟩ := je (w.alloc (.cells SV 33)); obtain ⟨v_1, e1⟩ := je (v_0.alloc (.cells VV 52)); have s0 : v_0.heap.size = w.heap.size + 1 := by rw [e0]; simp
  have b0 := jc e0; have b1 := jc e1; have f0 : SAt v_0 w.heap.size gp gq gg gh fa se (.slice (some ⟨KB, ko, none⟩) n cap) := by rw [e0]; exact FS.out w
  have f1 : v_1.rangeAt (w.heap.size + 1) 0 (jG 0 e v nd h c s) := by rw [← s0, e1, HVV.out]; exact qO _ _ _
  rw [← e0, ← e1]; obtain ⟨SB, hSB⟩ := je (w.heap.size); rw [← hSB] at f0 f1 ⊢; obtain ⟨VB, hVB⟩ := je (SB + 1); rw [← hVB] at f1 ⊢; have HS := jh (f0.later b1); have HV := jh f1; have HB := jh (jm b0 b1); have HKA := jh (HKA.out.later HB.out); clear e0 e1 s0 b0 b1 f0 f1 hSB hVB FS HSS HSZ; have y0 := QJ HV.out
  go_upto_region 2 with fail
  clear y0; refine jK [(0, true), (1, true), (2, true), (3, true), (4, true), (5, true), (6, true), (7, true), (8, true), (9, true), (10, true), (11, true), (12, true), (13, true), (14, true), (15, true), (16, true), (17, true), (18, true), (19, true), (20, true), (21, true), (22, false), (23, true), (24, true), (25, true), (26, true), (27, true), (28, true), (29, true), (30, true), (31, true), (32, true), (33, true), (34, true), (35, true), (37, true), (38, true), (36, false), (39, false), (40, true), (41, true)] (fun w8 => SAt w8 SB gp gq gg gh fa se (.slice (some ⟨KB, ko, none⟩) n cap) ∧ w8.rangeAt VB 0 (jG 0 e v nd h c s) ∧ KeysAt w8 KB ko ks) (by kernel_rfl) (by kernel_rfl) (fun _ _ _ _ _ h => h) (⟨HS.out.later ((Below.refl _ _).drew), jy HV.out ((Below.refl _ _).drew), HKA.out.later ((Below.refl _ _).drew)⟩) (fun hHeld => ?_)
  iterate 3
   refine WP.tk rfl (k := ?_); refine WP.tk rfl (k := ?_); refine WP.tu rfl (k := ?_); refine WP.tu rfl (k := ?_); refine WP.tu rfl (k := ?_)
  iterate 4
   refine WP.tu rfl (k := ?_)
  iterate 2
   refine WP.tk rfl (k := ?_)
  refine WP.tu rfl (k := ?_); refine WP.step rfl (fun K hK => ?_); refine qD (by rfl) ?_; refine hK.out _ _ (hHeld) (fun hHeld => ?_); clear hK K
  try simp only [Act.put, pa, pb, pc]
  iterate 2
   refine WP.tk rfl (k := ?_)
  iterate 13
   refine WP.tu rfl (k := ?_)
  iterate 2
   refine WP.step rfl (fun K hK => ?_); refine qD (by rfl) ?_; refine hK.out _ _ (hHeld) (fun hHeld => ?_); clear hK K
   try simp only [Act.put, pa, pb, pc]
  iterate 2
   refine WP.tk rfl (k := ?_)
  refine WP.done ?_; clear hHeld
  go_wp2_with fail
  go_ret
  exact ⟨rfl, HB.out.drew⟩
 ·obtain ⟨SV, hSV⟩ : ∃ SV, qg gp gq gg gh fa se (.slice (some ⟨KB, ko, none⟩) n cap) = .agg SV := ⟨_, rfl⟩; have hszS : (Tryz.prog.info? 33).map (·.size) = some SV.size := by rw [qR, qI hSV]
  obtain ⟨VV, hVV⟩ := je ((jG 3 e v nd h c s).toArray); have hszV : (Tryz.prog.info? 52).map (·.size) = some VV.size := by rw [jJ, hVV]; simp [jD hl]
  have FS := jh (show ∀ W : World, SAt (W.alloc (.cells SV 33)) W.heap.size gp gq gg gh fa se (.slice (some ⟨KB, ko, none⟩) n cap) by intro W; have e9 := hSV; unfold qg at e9; injection e9 with e9; rw [← e9]; exact SAt.new _ _ _ _ _ _ _ _ _); have HSS := jh hszS; have HSZ := jh hszV; have HL := jh hl; have HKA := jh hk; rw [hSV]; unfold qv; rw [← hVV]; have HVV := jh hVV; have HSV := jh hSV; clear hVV hSV hk hl st hv hnd
  go_enter Tryz.func17, Tryz.ntmps17
  go_upto_region 1 with fail
  obtain ⟨v_0, e0⟩ := je (w.alloc (.cells SV 33)); obtain ⟨v_1, e1⟩ := je (v_0.alloc (.cells VV 52)); have s0 : v_0.heap.size = w.heap.size + 1 := by rw [e0]; simp
  have b0 := jc e0; have b1 := jc e1; have f0 : SAt v_0 w.heap.size gp gq gg gh fa se (.slice (some ⟨KB, ko, none⟩) n cap) := by rw [e0]; exact FS.out w
  have f1 : v_1.rangeAt (w.heap.size + 1) 0 (jG 3 e v nd h c s) := by rw [← s0, e1, HVV.out]; exact qO _ _ _
  rw [← e0, ← e1]; obtain ⟨SB, hSB⟩ := je (w.heap.size); rw [← hSB] at f0 f1 ⊢; obtain ⟨VB, hVB⟩ := je (SB + 1); rw [← hVB] at f1 ⊢; have HS := jh (f0.later b1); have HV := jh f1; have HB := jh (jm b0 b1); have HKA := jh (HKA.out.later HB.out); clear e0 e1 s0 b0 b1 f0 f1 hSB hVB FS HSS HSZ; have y0 := QJ HV.out
  go_upto_region 2 with fail
  clear y0; refine jK [(0, true), (1, true), (2, true), (3, true), (4, true), (5, true), (6, true), (7, true), (8, true), (9, true), (10, true), (11, true), (12, true), (13, true), (14, true), (15, true), (16, true), (17, true), (18, true), (19, true), (20, true), (21, true), (22, false), (23, true), (24, true), (25, true), (26, true), (27, true), (28, true), (29, true), (30, true), (31, true), (32, true), (33, true), (34, true), (35, true), (37, true), (38, true), (36, false), (39, false), (40, true), (41, true)] (fun w8 => SAt w8 SB gp gq gg gh fa se (.slice (some ⟨KB, ko, none⟩) n cap) ∧ w8.rangeAt VB 0 (jG 3 e v nd h c s) ∧ KeysAt w8 KB ko ks) (by kernel_rfl) (by kernel_rfl) (fun _ _ _ _ _ h => h) (⟨HS.out.later ((Below.refl _ _).drew), jy HV.out ((Below.refl _ _).drew), HKA.out.later ((Below.refl _ _).drew)⟩) (fun hHeld => ?_)
  iterate 3
   refine WP.tk rfl (k := ?_); refine WP.tk rfl (k := ?_); refine WP.tu rfl (k := ?_); refine WP.tu rfl (k := ?_); refine WP.tu rfl (k := ?_)
  iterate 4
   refine WP.tu rfl (k := ?_)
  iterate 2
   refine WP.tk rfl (k := ?_)
  refine WP.tu rfl (k := ?_); refine WP.step rfl (fun K hK => ?_); refine qD (by rfl) ?_; refine hK.out _ _ (hHeld) (fun hHeld => ?_); clear hK K
  try simp only [Act.put, pa, pb, pc]
  iterate 2
   refine WP.tk rfl (k := ?_)
  iterate 13
   refine WP.tu rfl (k := ?_)
  iterate 2
   refine WP.step rfl (fun K hK => ?_); refine qD (by rfl) ?_; refine hK.out _ _ (hHeld) (fun hHeld => ?_); clear hK K
   try simp only [Act.put, pa, pb, pc]
  iterate 2
   refine WP.tk rfl (k := ?_)
  refine WP.done ?_; clear hHeld
  go_wp2_with fail
  go_ret
  exact ⟨rfl, HB.out.drew⟩
theorem BCheck_view {gp gq gg gh n cap k e v nd c s : Nat} {fa se : Int} {KB ko : Nat} {ks : List (Nat × Nat)} {h : List Nat} (st : StOk gp gq gg gh n fa se ks) (hl : h.length = 32) (hv : v < 4294967296) (hnd : nd < 256) (hkd : k = 1 ∨ k = 2) (hvv : 1073741824 < v) (w : World) (hk : KeysAt w KB ko ks) :
  Calls Tryz.prog 17 #[qg gp gq gg gh fa se (.slice (some ⟨KB, ko, none⟩) n cap), qv k e v nd h c s] w fun r w' => r = .returned (.bool false) ∧ Below w.heap.size w w' := by
 rcases hkd with rfl | rfl
 ·have QV := jh (show decide ((v : Int) ≤ 1073741824) = false by simp; omega); obtain ⟨SV, hSV⟩ : ∃ SV, qg gp gq gg gh fa se (.slice (some ⟨KB, ko, none⟩) n cap) = .agg SV := ⟨_, rfl⟩; have hszS : (Tryz.prog.info? 33).map (·.size) = some SV.size := by rw [qR, qI hSV]
  obtain ⟨VV, hVV⟩ := je ((jG 1 e v nd h c s).toArray); have hszV : (Tryz.prog.info? 52).map (·.size) = some VV.size := by rw [jJ, hVV]; simp [jD hl]
  have FS := jh (show ∀ W : World, SAt (W.alloc (.cells SV 33)) W.heap.size gp gq gg gh fa se (.slice (some ⟨KB, ko, none⟩) n cap) by intro W; have e9 := hSV; unfold qg at e9; injection e9 with e9; rw [← e9]; exact SAt.new _ _ _ _ _ _ _ _ _); have HSS := jh hszS; have HSZ := jh hszV; have HL := jh hl; have HKA := jh hk; rw [hSV]; unfold qv; rw [← hVV]; have HVV := jh hVV; have HSV := jh hSV; clear hVV hSV hk hl st hv hnd hvv
  go_enter Tryz.func17, Tryz.ntmps17
  go_upto_region 1 with fail
  obtain ⟨v_0, e0⟩ := je (w.alloc (.cells SV 33)); obtain ⟨v_1, e1⟩ := je (v_0.alloc (.cells VV 52)); have s0 : v_0.heap.size = w.heap.size + 1 := by rw [e0]; simp
  have b0 := jc e0; have b1 := jc e1; have f0 : SAt v_0 w.heap.size gp gq gg gh fa se (.slice (some ⟨KB, ko, none⟩) n cap) := by rw [e0]; exact FS.out w
  have f1 : v_1.rangeAt (w.heap.size + 1) 0 (jG 1 e v nd h c s) := by rw [← s0, e1, HVV.out]; exact qO _ _ _
  rw [← e0, ← e1]; obtain ⟨SB, hSB⟩ := je (w.heap.size); rw [← hSB] at f0 f1 ⊢; obtain ⟨VB, hVB⟩ := je (SB + 1); rw [← hVB] at f1 ⊢; have HS := jh (f0.later b1); have HV := jh f1; have HB := jh (jm b0 b1); have HKA := jh (HKA.out.later HB.out); clear e0 e1 s0 b0 b1 f0 f1 hSB hVB FS HSS HSZ; have y0 := QJ HV.out
  go_upto_region 2 with fail
  clear y0; refine jK [(0, true), (1, true), (2, true), (3, true), (4, true), (5, true), (6, true), (7, true), (8, true), (9, true), (10, true), (11, true), (12, true), (13, true), (14, true), (15, true), (16, true), (17, true), (18, true), (19, true), (20, true), (21, true), (22, false), (23, true), (24, true), (25, true), (26, true), (27, true), (28, true), (29, true), (30, true), (31, true), (32, true), (33, true), (34, true), (35, true), (37, true), (38, true), (36, false), (39, false), (40, true), (41, true)] (fun w8 => SAt w8 SB gp gq gg gh fa se (.slice (some ⟨KB, ko, none⟩) n cap) ∧ w8.rangeAt VB 0 (jG 1 e v nd h c s) ∧ KeysAt w8 KB ko ks) (by kernel_rfl) (by kernel_rfl) (fun _ _ _ _ _ h => h) (⟨HS.out.later ((Below.refl _ _).drew), jy HV.out ((Below.refl _ _).drew), HKA.out.later ((Below.refl _ _).drew)⟩) (fun hHeld => ?_)
  iterate 3
   refine WP.tk rfl (k := ?_)
  refine WP.tk (v := .int .u32 v) rfl (fun w8 hSw => jg (loadVw (ZM hSw.2.1))) (k := ?_); refine WP.tk (v := .bool false) rfl (fun w8 hSw => by have e9 := QV.out; simp [go_sem, e9]) (k := ?_)
  iterate 2
   refine WP.tk rfl (k := ?_); refine WP.tk rfl (k := ?_); refine WP.tu rfl (k := ?_); refine WP.tu rfl (k := ?_); refine WP.tu rfl (k := ?_)
  iterate 4
   refine WP.tu rfl (k := ?_)
  iterate 2
   refine WP.tk rfl (k := ?_)
  refine WP.tu rfl (k := ?_); refine WP.step rfl (fun K hK => ?_); refine qD (by rfl) ?_; refine hK.out _ _ (hHeld) (fun hHeld => ?_); clear hK K
  try simp only [Act.put, pa, pb, pc]
  iterate 2
   refine WP.tk rfl (k := ?_)
  iterate 13
   refine WP.tu rfl (k := ?_)
  iterate 2
   refine WP.step rfl (fun K hK => ?_); refine qD (by rfl) ?_; refine hK.out _ _ (hHeld) (fun hHeld => ?_); clear hK K
   try simp only [Act.put, pa, pb, pc]
  iterate 2
   refine WP.tk rfl (k := ?_)
  refine WP.done ?_; clear hHeld
  go_wp2_with fail
  go_ret
  exact ⟨rfl, HB.out.drew⟩
 ·have QV := jh (show decide ((v : Int) ≤ 1073741824) = false by simp; omega); obtain ⟨SV, hSV⟩ : ∃ SV, qg gp gq gg gh fa se (.slice (some ⟨KB, ko, none⟩) n cap) = .agg SV := ⟨_, rfl⟩; have hszS : (Tryz.prog.info? 33).map (·.size) = some SV.size := by rw [qR, qI hSV]
  obtain ⟨VV, hVV⟩ := je ((jG 2 e v nd h c s).toArray); have hszV : (Tryz.prog.info? 52).map (·.size) = some VV.size := by rw [jJ, hVV]; simp [jD hl]
  have FS := jh (show ∀ W : World, SAt (W.alloc (.cells SV 33)) W.heap.size gp gq gg gh fa se (.slice (some ⟨KB, ko, none⟩) n cap) by intro W; have e9 := hSV; unfold qg at e9; injection e9 with e9; rw [← e9]; exact SAt.new _ _ _ _ _ _ _ _ _); have HSS := jh hszS; have HSZ := jh hszV; have HL := jh hl; have HKA := jh hk; rw [hSV]; unfold qv; rw [← hVV]; have HVV := jh hVV; have HSV := jh hSV; clear hVV hSV hk hl st hv hnd hvv
  go_enter Tryz.func17, Tryz.ntmps17
  go_upto_region 1 with fail
  obtain ⟨v_0, e0⟩ := je (w.alloc (.cells SV 33)); obtain ⟨v_1, e1⟩ := je (v_0.alloc (.cells VV 52)); have s0 : v_0.heap.size = w.heap.size + 1 := by rw [e0]; simp
  have b0 := jc e0; have b1 := jc e1; have f0 : SAt v_0 w.heap.size gp gq gg gh fa se (.slice (some ⟨KB, ko, none⟩) n cap) := by rw [e0]; exact FS.out w
  have f1 : v_1.rangeAt (w.heap.size + 1) 0 (jG 2 e v nd h c s) := by rw [← s0, e1, HVV.out]; exact qO _ _ _
  rw [← e0, ← e1]; obtain ⟨SB, hSB⟩ := je (w.heap.size); rw [← hSB] at f0 f1 ⊢; obtain ⟨VB, hVB⟩ := je (SB + 1); rw [← hVB] at f1 ⊢; have HS := jh (f0.later b1); have HV := jh f1; have HB := jh (jm b0 b1); have HKA := jh (HKA.out.later HB.out); clear e0 e1 s0 b0 b1 f0 f1 hSB hVB FS HSS HSZ; have y0 := QJ HV.out
  go_upto_region 2 with fail
  clear y0; refine jK [(0, true), (1, true), (2, true), (3, true), (4, true), (5, true), (6, true), (7, true), (8, true), (9, true), (10, true), (11, true), (12, true), (13, true), (14, true), (15, true), (16, true), (17, true), (18, true), (19, true), (20, true), (21, true), (22, false), (23, true), (24, true), (25, true), (26, true), (27, true), (28, true), (29, true), (30, true), (31, true), (32, true), (33, true), (34, true), (35, true), (37, true), (38, true), (36, false), (39, false), (40, true), (41, true)] (fun w8 => SAt w8 SB gp gq gg gh fa se (.slice (some ⟨KB, ko, none⟩) n cap) ∧ w8.rangeAt VB 0 (jG 2 e v nd h c s) ∧ KeysAt w8 KB ko ks) (by kernel_rfl) (by kernel_rfl) (fun _ _ _ _ _ h => h) (⟨HS.out.later ((Below.refl _ _).drew), jy HV.out ((Below.refl _ _).drew), HKA.out.later ((Below.refl _ _).drew)⟩) (fun hHeld => ?_)
  iterate 3
   refine WP.tk rfl (k := ?_)
  refine WP.tk (v := .int .u32 v) rfl (fun w8 hSw => jg (loadVw (ZM hSw.2.1))) (k := ?_); refine WP.tk (v := .bool false) rfl (fun w8 hSw => by have e9 := QV.out; simp [go_sem, e9]) (k := ?_)
  iterate 2
   refine WP.tk rfl (k := ?_); refine WP.tk rfl (k := ?_); refine WP.tu rfl (k := ?_); refine WP.tu rfl (k := ?_); refine WP.tu rfl (k := ?_)
  iterate 4
   refine WP.tu rfl (k := ?_)
  iterate 2
   refine WP.tk rfl (k := ?_)
  refine WP.tu rfl (k := ?_); refine WP.step rfl (fun K hK => ?_); refine qD (by rfl) ?_; refine hK.out _ _ (hHeld) (fun hHeld => ?_); clear hK K
  try simp only [Act.put, pa, pb, pc]
  iterate 2
   refine WP.tk rfl (k := ?_)
  iterate 13
   refine WP.tu rfl (k := ?_)
  iterate 2
   refine WP.step rfl (fun K hK => ?_); refine qD (by rfl) ?_; refine hK.out _ _ (hHeld) (fun hHeld => ?_); clear hK K
   try simp only [Act.put, pa, pb, pc]
  iterate 2
   refine WP.tk rfl (k := ?_)
  refine WP.done ?_; clear hHeld
  go_wp2_with fail
  go_ret
  exact ⟨rfl, HB.out.drew⟩
theorem BCheck_node {gp gq gg gh n cap k e v nd c s : Nat} {fa se : Int} {KB ko : Nat} {ks : List (Nat × Nat)} {h : List Nat} (st : StOk gp gq gg gh n fa se ks) (hl : h.length = 32) (hv : v < 4294967296) (hnd : nd < 256) (hkd : k = 1 ∨ k = 2) (hvv : v ≤ 1073741824) (hno : n < nd) (w : World) (hk : KeysAt w KB ko ks) :
  Calls Tryz.prog 17 #[qg gp gq gg gh fa se (.slice (some ⟨KB, ko, none⟩) n cap), qv k e v nd h c s] w fun r w' => r = .returned (.bool false) ∧ Below w.heap.size w w' := by
 rcases hkd with rfl | rfl
 ·have QV := jh (show decide ((v : Int) ≤ 1073741824) = true by simp; omega); have QN1 := jh (show decide ((1 : Int) ≤ (nd : Int)) = true by simp; omega); have QW := jh (show IntKind.i64.wrap (nd : Int) = (nd : Int) by simp [IntKind.wrap, IntKind.bits, IntKind.signed]; omega); have QN := jh (show n < nd by omega); obtain ⟨SV, hSV⟩ : ∃ SV, qg gp gq gg gh fa se (.slice (some ⟨KB, ko, none⟩) n cap) = .agg SV := ⟨_, rfl⟩; have hszS : (Tryz.prog.info? 33).map (·.size) = some SV.size := by rw [qR, qI hSV]
  obtain ⟨VV, hVV⟩ := je ((jG 1 e v nd h c s).toArray); have hszV : (Tryz.prog.info? 52).map (·.size) = some VV.size := by rw [jJ, hVV]; simp [jD hl]
  have FS := jh (show ∀ W : World, SAt (W.alloc (.cells SV 33)) W.heap.size gp gq gg gh fa se (.slice (some ⟨KB, ko, none⟩) n cap) by intro W; have e9 := hSV; unfold qg at e9; injection e9 with e9; rw [← e9]; exact SAt.new _ _ _ _ _ _ _ _ _); have HSS := jh hszS; have HSZ := jh hszV; have HL := jh hl; have HKA := jh hk; rw [hSV]; unfold qv; rw [← hVV]; have HVV := jh hVV; have HSV := jh hSV; clear hVV hSV hk hl st hv hnd hvv hno
  go_enter Tryz.func17, Tryz.ntmps17
  go_upto_region 1 with fail
  obtain ⟨v_0, e0⟩ := je (w.alloc (.cells SV 33)); obtain ⟨v_1, e1⟩ := je (v_0.alloc (.cells VV 52)); have s0 : v_0.heap.size = w.heap.size + 1 := by rw [e0]; simp
  have b0 := jc e0; have b1 := jc e1; have f0 : SAt v_0 w.heap.size gp gq gg gh fa se (.slice (some ⟨KB, ko, none⟩) n cap) := by rw [e0]; exact FS.out w
  have f1 : v_1.rangeAt (w.heap.size + 1) 0 (jG 1 e v nd h c s) := by rw [← s0, e1, HVV.out]; exact qO _ _ _
  rw [← e0, ← e1]; obtain ⟨SB, hSB⟩ := je (w.heap.size); rw [← hSB] at f0 f1 ⊢; obtain ⟨VB, hVB⟩ := je (SB + 1); rw [← hVB] at f1 ⊢; have HS := jh (f0.later b1); have HV := jh f1; have HB := jh (jm b0 b1); have HKA := jh (HKA.out.later HB.out); clear e0 e1 s0 b0 b1 f0 f1 hSB hVB FS HSS HSZ; have y0 := QJ HV.out
  go_upto_region 2 with fail
  clear y0; refine jK [(0, true), (1, true), (2, true), (3, true), (4, true), (5, true), (6, true), (7, true), (8, true), (9, true), (10, true), (11, true), (12, true), (13, true), (14, true), (15, true), (16, true), (17, true), (18, true), (19, true), (20, true), (21, true), (22, false), (23, true), (24, true), (25, true), (26, true), (27, true), (28, true), (29, true), (30, true), (31, true), (32, true), (33, true), (34, true), (35, true), (37, true), (38, true), (36, false), (39, false), (40, true), (41, true)] (fun w8 => SAt w8 SB gp gq gg gh fa se (.slice (some ⟨KB, ko, none⟩) n cap) ∧ w8.rangeAt VB 0 (jG 1 e v nd h c s) ∧ KeysAt w8 KB ko ks) (by kernel_rfl) (by kernel_rfl) (fun _ _ _ _ _ h => h) (⟨HS.out.later ((Below.refl _ _).drew), jy HV.out ((Below.refl _ _).drew), HKA.out.later ((Below.refl _ _).drew)⟩) (fun hHeld => ?_)
  iterate 3
   refine WP.tk rfl (k := ?_)
  refine WP.tk (v := .int .u32 v) rfl (fun w8 hSw => jg (loadVw (ZM hSw.2.1))) (k := ?_); refine WP.tk (v := .bool true) rfl (fun w8 hSw => by have e9 := QV.out; simp [go_sem, e9]) (k := ?_)
  iterate 3
   refine WP.tk rfl (k := ?_)
  refine WP.tk (v := .int .u8 nd) rfl (fun w8 hSw => jg (Ji (Qg hSw.2.1))) (k := ?_); refine WP.tk (v := .bool true) rfl (fun w8 hSw => by have e9 := QN1.out; simp [go_sem, e9]) (k := ?_)
  iterate 3
   refine WP.tk rfl (k := ?_)
  refine WP.tk (v := .int .u8 nd) rfl (fun w8 hSw => jg (Ji (Qg hSw.2.1))) (k := ?_); refine WP.tk (v := .int .i64 nd) rfl (fun w8 hSw => by have e9 := QW.out; simp [go_sem, e9]) (k := ?_); refine WP.tk rfl (k := ?_); refine WP.tk (v := .slice (some ⟨KB, ko, none⟩) n cap) rfl (fun w8 hSw => jg (JZ hSw.1.nd)) (k := ?_); refine WP.tk (v := .int .i64 n) rfl (fun w8 hSw => by simp [go_sem]) (k := ?_); refine WP.tk (v := .bool false) rfl (fun w8 hSw => by have e9 := QN.out; simp [go_sem, e9]) (k := ?_)
  iterate 2
   refine WP.tk rfl (k := ?_)
  refine WP.tu rfl (k := ?_); refine WP.step rfl (fun K hK => ?_); refine qD (by rfl) ?_; refine hK.out _ _ (hHeld) (fun hHeld => ?_); clear hK K
  try simp only [Act.put, pa, pb, pc]
  iterate 2
   refine WP.tk rfl (k := ?_)
  iterate 13
   refine WP.tu rfl (k := ?_)
  iterate 2
   refine WP.step rfl (fun K hK => ?_); refine qD (by rfl) ?_; refine hK.out _ _ (hHeld) (fun hHeld => ?_); clear hK K
   try simp only [Act.put, pa, pb, pc]
  iterate 2
   refine WP.tk rfl (k := ?_)
  refine WP.done ?_; clear hHeld
  go_wp2_with fail
  go_ret
  exact ⟨rfl, HB.out.drew⟩
 ·have QV := jh (show decide ((v : Int) ≤ 1073741824) = true by simp; omega); have QN1 := jh (show decide ((1 : Int) ≤ (nd : Int)) = true by simp; omega); have QW := jh (show IntKind.i64.wrap (nd : Int) = (nd : Int) by simp [IntKind.wrap, IntKind.bits, IntKind.signed]; omega); have QN := jh (show n < nd by omega); obtain ⟨SV, hSV⟩ : ∃ SV, qg gp gq gg gh fa se (.slice (some ⟨KB, ko, none⟩) n cap) = .agg SV := ⟨_, rfl⟩; have hszS : (Tryz.prog.info? 33).map (·.size) = some SV.size := by rw [qR, qI hSV]
  obtain ⟨VV, hVV⟩ := je ((jG 2 e v nd h c s).toArray); have hszV : (Tryz.prog.info? 52).map (·.size) = some VV.size := by rw [jJ, hVV]; simp [jD hl]
  have FS := jh (show ∀ W : World, SAt (W.alloc (.cells SV 33)) W.heap.size gp gq gg gh fa se (.slice (some ⟨KB, ko, none⟩) n cap) by intro W; have e9 := hSV; unfold qg at e9; injection e9 with e9; rw [← e9]; exact SAt.new _ _ _ _ _ _ _ _ _); have HSS := jh hszS; have HSZ := jh hszV; have HL := jh hl; have HKA := jh hk; rw [hSV]; unfold qv; rw [← hVV]; have HVV := jh hVV; have HSV := jh hSV; clear hVV hSV hk hl st hv hnd hvv hno
  go_enter Tryz.func17, Tryz.ntmps17
  go_upto_region 1 with fail
  obtain ⟨v_0, e0⟩ := je (w.alloc (.cells SV 33)); obtain ⟨v_1, e1⟩ := je (v_0.alloc (.cells VV 52)); have s0 : v_0.heap.size = w.heap.size + 1 := by rw [e0]; simp
  have b0 := jc e0; have b1 := jc e1; have f0 : SAt v_0 w.heap.size gp gq gg gh fa se (.slice (some ⟨KB, ko, none⟩) n cap) := by rw [e0]; exact FS.out w
  have f1 : v_1.rangeAt (w.heap.size + 1) 0 (jG 2 e v nd h c s) := by rw [← s0, e1, HVV.out]; exact qO _ _ _
  rw [← e0, ← e1]; obtain ⟨SB, hSB⟩ := je (w.heap.size); rw [← hSB] at f0 f1 ⊢; obtain ⟨VB, hVB⟩ := je (SB + 1); rw [← hVB] at f1 ⊢; have HS := jh (f0.later b1); have HV := jh f1; have HB := jh (jm b0 b1); have HKA := jh (HKA.out.later HB.out); clear e0 e1 s0 b0 b1 f0 f1 hSB hVB FS HSS HSZ; have y0 := QJ HV.out
  go_upto_region 2 with fail
  clear y0; refine jK [(0, true), (1, true), (2, true), (3, true), (4, true), (5, true), (6, true), (7, true), (8, true), (9, true), (10, true), (11, true), (12, true), (13, true), (14, true), (15, true), (16, true), (17, true), (18, true), (19, true), (20, true), (21, true), (22, false), (23, true), (24, true), (25, true), (26, true), (27, true), (28, true), (29, true), (30, true), (31, true), (32, true), (33, true), (34, true), (35, true), (37, true), (38, true), (36, false), (39, false), (40, true), (41, true)] (fun w8 => SAt w8 SB gp gq gg gh fa se (.slice (some ⟨KB, ko, none⟩) n cap) ∧ w8.rangeAt VB 0 (jG 2 e v nd h c s) ∧ KeysAt w8 KB ko ks) (by kernel_rfl) (by kernel_rfl) (fun _ _ _ _ _ h => h) (⟨HS.out.later ((Below.refl _ _).drew), jy HV.out ((Below.refl _ _).drew), HKA.out.later ((Below.refl _ _).drew)⟩) (fun hHeld => ?_)
  iterate 3
   refine WP.tk rfl (k := ?_)
  refine WP.tk (v := .int .u32 v) rfl (fun w8 hSw => jg (loadVw (ZM hSw.2.1))) (k := ?_); refine WP.tk (v := .bool true) rfl (fun w8 hSw => by have e9 := QV.out; simp [go_sem, e9]) (k := ?_)
  iterate 3
   refine WP.tk rfl (k := ?_)
  refine WP.tk (v := .int .u8 nd) rfl (fun w8 hSw => jg (Ji (Qg hSw.2.1))) (k := ?_); refine WP.tk (v := .bool true) rfl (fun w8 hSw => by have e9 := QN1.out; simp [go_sem, e9]) (k := ?_)
  iterate 3
   refine WP.tk rfl (k := ?_)
  refine WP.tk (v := .int .u8 nd) rfl (fun w8 hSw => jg (Ji (Qg hSw.2.1))) (k := ?_); refine WP.tk (v := .int .i64 nd) rfl (fun w8 hSw => by have e9 := QW.out; simp [go_sem, e9]) (k := ?_); refine WP.tk rfl (k := ?_); refine WP.tk (v := .slice (some ⟨KB, ko, none⟩) n cap) rfl (fun w8 hSw => jg (JZ hSw.1.nd)) (k := ?_); refine WP.tk (v := .int .i64 n) rfl (fun w8 hSw => by simp [go_sem]) (k := ?_); refine WP.tk (v := .bool false) rfl (fun w8 hSw => by have e9 := QN.out; simp [go_sem, e9]) (k := ?_)
  iterate 2
   refine WP.tk rfl (k := ?_)
  refine WP.tu rfl (k := ?_); refine WP.step rfl (fun K hK => ?_); refine qD (by rfl) ?_; refine hK.out _ _ (hHeld) (fun hHeld => ?_); clear hK K
  try simp only [Act.put, pa, pb, pc]
  iterate 2
   refine WP.tk rfl (k := ?_)
  iterate 13
   refine WP.tu rfl (k := ?_)
  iterate 2
   refine WP.step rfl (fun K hK => ?_); refine qD (by rfl) ?_; refine hK.out _ _ (hHeld) (fun hHeld => ?_); clear hK K
   try simp only [Act.put, pa, pb, pc]
  iterate 2
   refine WP.tk rfl (k := ?_)
  refine WP.done ?_; clear hHeld
  go_wp2_with fail
  go_ret
  exact ⟨rfl, HB.out.drew⟩
theorem BCheck_yes {gp gq gg gh n cap k e v nd c s : Nat} {fa se : Int} {KB ko : Nat} {ks : List (Nat × Nat)} {h : List Nat} (st : StOk gp gq gg gh n fa se ks) (hl : h.length = 32) (hv : v < 4294967296) (hnd : nd < 256) (hkd : k = 1 ∨ k = 2) (hvv : v ≤ 1073741824) (hby : qo h) {i key k9 : Nat} (hni : nd = i + 1) (hki : ks[i]? = some (key, k9)) (hc : c < gq) (hs : s < gq) (hsig : c = qT gq key (backR gp gq gg key c s) (qy k e v nd h)) (w : World) (hk : KeysAt w KB ko ks) :
  Calls Tryz.prog 17 #[qg gp gq gg gh fa se (.slice (some ⟨KB, ko, none⟩) n cap), qv k e v nd h c s] w fun r w' => r = .returned (.bool true) ∧ Below w.heap.size w w' := by
 have hkey := st.keys _ (List.mem_of_getElem? hki); have hin9 : i < n := by rw [st.hn]; exact (List.getElem?_eq_some_iff.1 hki).1
 have hn7 := st.hn7; have CV := jh (fun (W : World) => WVote_any (c := c) (s := s) (e := e) W hl hby (show k < 256 by omega) hv hnd); have CK := jh (fun (W : World) => by have h9 := CheckS_any (gh := gh) (h := qy k e v nd h) st.may st.hm st.hgg st.q1 st.hq hkey.1 hkey.2 hc hs (by unfold qy; exact qp _) (by unfold qy; exact JS _) hsig W; unfold qS jo words at h9; exact h9); have CD := jh (fun (W : World) (hk9 : KeysAt W KB ko ks) => by have h9 := DSet_any (cap := cap) (ao := some ⟨KB, ko, none⟩) st.hx st.hq st.hm st.hgg st.hgh st.hn st.hfa st.hse (by omega) W (fun _ => ⟨KB, ko, rfl, hk9⟩); rw [st.ok] at h9; exact h9); obtain ⟨T, hT⟩ := je ((jq .u8 (qy k e v nd h)).toArray); rw [← hT] at CV CK; clear hT hsig hkey; have QV := jh (show decide ((v : Int) ≤ 1073741824) = true by simp; omega); have QN1 := jh (show decide ((1 : Int) ≤ (nd : Int)) = true by simp; omega); have QW := jh (show IntKind.i64.wrap (nd : Int) = (nd : Int) by simp [IntKind.wrap, IntKind.bits, IntKind.signed]; omega); have QN := jh (show nd ≤ n by omega); have E9 := jh (show IntKind.u8.wrap ((nd : Int) - 1) = (i : Int) by rw [hni, show (((i + 1 : Nat) : Int) - 1) = (i : Int) by omega]; simp [IntKind.wrap, IntKind.bits, IntKind.signed]; omega); have QI := jh (show (i : Int) < (n : Int) by omega); have HKI := jh hki; clear st hv hnd hvv hby hni hki hc hs hin9 hn7
 rcases hkd with rfl | rfl
 ·obtain ⟨SV, hSV⟩ : ∃ SV, qg gp gq gg gh fa se (.slice (some ⟨KB, ko, none⟩) n cap) = .agg SV := ⟨_, rfl⟩; have hszS : (Tryz.prog.info? 33).map (·.size) = some SV.size := by rw [qR, qI hSV]
  obtain ⟨VV, hVV⟩ := je ((jG 1 e v nd h c s).toArray); have hszV : (Tryz.prog.info? 52).map (·.size) = some VV.size := by rw [jJ, hVV]; simp [jD hl]
  have FS := jh (show ∀ W : World, SAt (W.alloc (.cells SV 33)) W.heap.size gp gq gg gh fa se (.slice (some ⟨KB, ko, none⟩) n cap) by intro W; have e9 := hSV; unfold qg at e9; injection e9 with e9; rw [← e9]; exact SAt.new _ _ _ _ _ _ _ _ _); have HSS := jh hszS; have HSZ := jh hszV; have HL := jh hl; have HKA := jh hk; rw [hSV] at CD ⊢; unfold qv at CV ⊢; rw [← hVV] at CV ⊢; have HVV := jh hVV; have HSV := jh hSV; clear hVV hSV hk hl 
  go_enter Tryz.func17, Tryz.ntmps17
  go_upto_region 1 with fail
  obtain ⟨v_0, e0⟩ := je (w.alloc (.cells SV 33)); obtain ⟨v_1, e1⟩ := je (v_0.alloc (.cells VV 52)); have s0 : v_0.heap.size = w.heap.size + 1 := by rw [e0]; simp
  have b0 := jc e0; have b1 := jc e1; have f0 : SAt v_0 w.heap.size gp gq gg gh fa se (.slice (some ⟨KB, ko, none⟩) n cap) := by rw [e0]; exact FS.out w
  have f1 : v_1.rangeAt (w.heap.size + 1) 0 (jG 1 e v nd h c s) := by rw [← s0, e1, HVV.out]; exact qO _ _ _
  rw [← e0, ← e1]; obtain ⟨SB, hSB⟩ := je (w.heap.size); rw [← hSB] at f0 f1 ⊢; obtain ⟨VB, hVB⟩ := je (SB + 1); rw [← hVB] at f1 ⊢; have HS := jh (f0.later b1); have HV := jh f1; have HB := jh (jm b0 b1); have HKA := jh (HKA.out.later HB.out); clear e0 e1 s0 b0 b1 f0 f1 hSB hVB FS HSS HSZ; have y0 := QJ HV.out
  go_upto_region 2 with fail
  clear y0; refine jB (.take 0 (.take 1 (.take 2 (.take 3 (.take 4 (.take 5 (.take 6 (.take 7 (.take 8 (.take 9 (.take 10 (.take 11 (.take 12 (.take 13 (.take 14 (.take 15 (.take 16 (.take 17 (.take 18 (.take 19 (.take 20 (.take 21 (.step 22 (.take 23 (.take 24 (.take 25 (.take 26 (.take 27 (.take 28 (.take 29 (.take 30 (.take 31 (.take 32 (.take 33 (.take 34 (.take 35 (.take 37 (.take 38 (.step 36 (.step 39 (.take 40 (.take 41 .done)))))))))))))))))))))))))))))))))))))))))) (fun w8 => SAt w8 SB gp gq gg gh fa se (.slice (some ⟨KB, ko, none⟩) n cap) ∧ w8.rangeAt VB 0 (jG 1 e v nd h c s) ∧ KeysAt w8 KB ko ks) (by kernel_rfl) (by kernel_rfl) (fun _ _ _ _ _ h => h) (⟨HS.out.later ((Below.refl _ _).drew), jy HV.out ((Below.refl _ _).drew), HKA.out.later ((Below.refl _ _).drew)⟩) (fun hHeld => ?_); obtain ⟨x1, e1⟩ := je (v_1.drew); rw [← e1]; have hb : Below v_1.heap.size v_1 x1 := by rw [e1]; exact (Below.refl _ _).drew
  have HV := jh (jy HV.out hb); have HS := jh (HS.out.later hb); have HB := jw HB hb; have HKA := jh (HKA.out.later hb); clear hb e1
  iterate 3
   refine WT.tk rfl (k := ?_)
  refine WT.tk (v := .int .u32 v) rfl (fun w8 hSw => jg (loadVw (ZM hSw.2.1))) (k := ?_); refine WT.tk (v := .bool true) rfl (fun w8 hSw => by have e9 := QV.out; simp [go_sem, e9]) (k := ?_)
  iterate 3
   refine WT.tk rfl (k := ?_)
  refine WT.tk (v := .int .u8 nd) rfl (fun w8 hSw => jg (Ji (Qg hSw.2.1))) (k := ?_); refine WT.tk (v := .bool true) rfl (fun w8 hSw => by have e9 := QN1.out; simp [go_sem, e9]) (k := ?_)
  iterate 3
   refine WT.tk rfl (k := ?_)
  refine WT.tk (v := .int .u8 nd) rfl (fun w8 hSw => jg (Ji (Qg hSw.2.1))) (k := ?_); refine WT.tk (v := .int .i64 nd) rfl (fun w8 hSw => by have e9 := QW.out; simp [go_sem, e9]) (k := ?_); refine WT.tk rfl (k := ?_); refine WT.tk (v := .slice (some ⟨KB, ko, none⟩) n cap) rfl (fun w8 hSw => jg (JZ hSw.1.nd)) (k := ?_); refine WT.tk (v := .int .i64 n) rfl (fun w8 hSw => by simp [go_sem]) (k := ?_); refine WT.tk (v := .bool true) rfl (fun w8 hSw => by have e9 := QN.out; simp [go_sem, e9]) (k := ?_)
  iterate 2
   refine WT.tk rfl (k := ?_)
  refine WT.tk (v := .agg SV) rfl (fun w8 hSw => by rw [← HSV.out]; exact jg (Qa hSw.1)) (k := ?_); refine WT.step rfl (fun K hK => ?_)
  go_simp
  refine (CD.out _ HKA.out).mono ?_; rintro _ x2 ⟨rfl, hb⟩; have HV := jh (jy HV.out hb); have HS := jh (HS.out.later hb); have HB := jw HB hb; have HKA := jh (HKA.out.later hb); clear hb; refine hK.out _ _ (⟨HS.out, HV.out, HKA.out⟩) (fun hHeld => ?_); clear hK K
  try simp only [Act.put, pa, pb, pc]
  iterate 3
   refine WT.tk rfl (k := ?_)
  refine WT.tk (v := .agg #[.int .u64 (jf jd gp 0), .int .u64 (jf jd gp 1), .int .u64 (jf jd gp 2), .int .u64 (jf jd gp 3), .int .u64 (jf jd gq 0), .int .u64 (jf jd gq 1), .int .u64 (jf jd gq 2), .int .u64 (jf jd gq 3), .int .u64 (jf jd gg 0), .int .u64 (jf jd gg 1), .int .u64 (jf jd gg 2), .int .u64 (jf jd gg 3), .int .u64 (jf jd gh 0), .int .u64 (jf jd gh 1), .int .u64 (jf jd gh 2), .int .u64 (jf jd gh 3)]) rfl (fun w8 hSw => jg (loadGr hSw.1)) (k := ?_); refine WT.tk rfl (k := ?_); refine WT.tk (v := .slice (some ⟨KB, ko, none⟩) n cap) rfl (fun w8 hSw => jg (JZ hSw.1.nd)) (k := ?_); refine WT.tk rfl (k := ?_); refine WT.tk (v := .int .u8 nd) rfl (fun w8 hSw => jg (Ji (Qg hSw.2.1))) (k := ?_); refine WT.tk (v := .int .u8 i) rfl (fun w8 hSw => by have e9 := E9.out; simp [go_sem, e9]) (k := ?_); refine WT.tk (v := .pointer (some ⟨KB, ko + i * 8, none⟩)) rfl (fun w8 hSw => by have e9 := QI.out; simp [go_sem, e9]) (k := ?_); refine WT.tk (v := .pointer (some ⟨KB, ko + i * 8, none⟩)) rfl (fun w8 hSw => by simp [go_sem]) (k := ?_); refine WT.take rfl (Or.inl ⟨by rfl, fun w8 hSw => jg (jX (fun j hj => (hSw.2.2 i _ HKI.out).1 j hj))⟩) ?_
  try simp only [Act.put, pa, pb, pc]
  refine WT.tk (v := .agg VV) rfl (fun w8 hSw => by rw [HVV.out]; exact jg (loadVo hSw.2.1 HL.out)) (k := ?_); refine WT.tk rfl (k := ?_); refine WT.tk (v := sigV c s) rfl (fun w8 hSw => jg (loadSg (vo_sig hSw.2.1 HL.out))) (k := ?_); refine WT.step rfl (fun K hK => ?_)
  go_simp
  refine (CV.out _).mono ?_; rintro _ x3 ⟨rfl, hb⟩; have HV := jh (jy HV.out hb); have HS := jh (HS.out.later hb); have HB := jw HB hb; have HKA := jh (HKA.out.later hb); clear hb; refine hK.out _ _ (⟨HS.out, HV.out, HKA.out⟩) (fun hHeld => ?_); clear hK K
  try simp only [Act.put, pa, pb, pc]
  refine WT.step rfl (fun K hK => ?_)
  go_simp
  refine (CK.out _).mono ?_; rintro _ x4 ⟨rfl, hb⟩; have HV := jh (jy HV.out hb); have HS := jh (HS.out.later hb); have HB := jw HB hb; have HKA := jh (HKA.out.later hb); clear hb; refine hK.out _ _ (⟨HS.out, HV.out, HKA.out⟩) (fun hHeld => ?_); clear hK K
  try simp only [Act.put, pa, pb, pc]
  iterate 2
   refine WT.tk rfl (k := ?_)
  refine WT.done ?_; clear hHeld
  go_wp2_with fail
  go_ret
  exact ⟨rfl, HB.out⟩
 ·obtain ⟨SV, hSV⟩ : ∃ SV, qg gp gq gg gh fa se (.slice (some ⟨KB, ko, none⟩) n cap) = .agg SV := ⟨_, rfl⟩; have hszS : (Tryz.prog.info? 33).map (·.size) = some SV.size := by rw [qR, qI hSV]
  obtain ⟨VV, hVV⟩ := je ((jG 2 e v nd h c s).toArray); have hszV : (Tryz.prog.info? 52).map (·.size) = some VV.size := by rw [jJ, hVV]; simp [jD hl]
  have FS := jh (show ∀ W : World, SAt (W.alloc (.cells SV 33)) W.heap.size gp gq gg gh fa se (.slice (some ⟨KB, ko, none⟩) n cap) by intro W; have e9 := hSV; unfold qg at e9; injection e9 with e9; rw [← e9]; exact SAt.new _ _ _ _ _ _ _ _ _); have HSS := jh hszS; have HSZ := jh hszV; have HL := jh hl; have HKA := jh hk; rw [hSV] at CD ⊢; unfold qv at CV ⊢; rw [← hVV] at CV ⊢; have HVV := jh hVV; have HSV := jh hSV; clear hVV hSV hk hl 
  go_enter Tryz.func17, Tryz.ntmps17
  go_upto_region 1 with fail
  obtain ⟨v_0, e0⟩ := je (w.alloc (.cells SV 33)); obtain ⟨v_1, e1⟩ := je (v_0.alloc (.cells VV 52)); have s0 : v_0.heap.size = w.heap.size + 1 := by rw [e0]; simp
  have b0 := jc e0; have b1 := jc e1; have f0 : SAt v_0 w.heap.size gp gq gg gh fa se (.slice (some ⟨KB, ko, none⟩) n cap) := by rw [e0]; exact FS.out w
  have f1 : v_1.rangeAt (w.heap.size + 1) 0 (jG 2 e v nd h c s) := by rw [← s0, e1, HVV.out]; exact qO _ _ _
  rw [← e0, ← e1]; obtain ⟨SB, hSB⟩ := je (w.heap.size); rw [← hSB] at f0 f1 ⊢; obtain ⟨VB, hVB⟩ := je (SB + 1); rw [← hVB] at f1 ⊢; have HS := jh (f0.later b1); have HV := jh f1; have HB := jh (jm b0 b1); have HKA := jh (HKA.out.later HB.out); clear e0 e1 s0 b0 b1 f0 f1 hSB hVB FS HSS HSZ; have y0 := QJ HV.out
  go_upto_region 2 with fail
  clear y0; refine jB (.take 0 (.take 1 (.take 2 (.take 3 (.take 4 (.take 5 (.take 6 (.take 7 (.take 8 (.take 9 (.take 10 (.take 11 (.take 12 (.take 13 (.take 14 (.take 15 (.take 16 (.take 17 (.take 18 (.take 19 (.take 20 (.take 21 (.step 22 (.take 23 (.take 24 (.take 25 (.take 26 (.take 27 (.take 28 (.take 29 (.take 30 (.take 31 (.take 32 (.take 33 (.take 34 (.take 35 (.take 37 (.take 38 (.step 36 (.step 39 (.take 40 (.take 41 .done)))))))))))))))))))))))))))))))))))))))))) (fun w8 => SAt w8 SB gp gq gg gh fa se (.slice (some ⟨KB, ko, none⟩) n cap) ∧ w8.rangeAt VB 0 (jG 2 e v nd h c s) ∧ KeysAt w8 KB ko ks) (by kernel_rfl) (by kernel_rfl) (fun _ _ _ _ _ h => h) (⟨HS.out.later ((Below.refl _ _).drew), jy HV.out ((Below.refl _ _).drew), HKA.out.later ((Below.refl _ _).drew)⟩) (fun hHeld => ?_); obtain ⟨x1, e1⟩ := je (v_1.drew); rw [← e1]; have hb : Below v_1.heap.size v_1 x1 := by rw [e1]; exact (Below.refl _ _).drew
  have HV := jh (jy HV.out hb); have HS := jh (HS.out.later hb); have HB := jw HB hb; have HKA := jh (HKA.out.later hb); clear hb e1
  iterate 3
   refine WT.tk rfl (k := ?_)
  refine WT.tk (v := .int .u32 v) rfl (fun w8 hSw => jg (loadVw (ZM hSw.2.1))) (k := ?_); refine WT.tk (v := .bool true) rfl (fun w8 hSw => by have e9 := QV.out; simp [go_sem, e9]) (k := ?_)
  iterate 3
   refine WT.tk rfl (k := ?_)
  refine WT.tk (v := .int .u8 nd) rfl (fun w8 hSw => jg (Ji (Qg hSw.2.1))) (k := ?_); refine WT.tk (v := .bool true) rfl (fun w8 hSw => by have e9 := QN1.out; simp [go_sem, e9]) (k := ?_)
  iterate 3
   refine WT.tk rfl (k := ?_)
  refine WT.tk (v := .int .u8 nd) rfl (fun w8 hSw => jg (Ji (Qg hSw.2.1))) (k := ?_); refine WT.tk (v := .int .i64 nd) rfl (fun w8 hSw => by have e9 := QW.out; simp [go_sem, e9]) (k := ?_); refine WT.tk rfl (k := ?_); refine WT.tk (v := .slice (some ⟨KB, ko, none⟩) n cap) rfl (fun w8 hSw => jg (JZ hSw.1.nd)) (k := ?_); refine WT.tk (v := .int .i64 n) rfl (fun w8 hSw => by simp [go_sem]) (k := ?_); refine WT.tk (v := .bool true) rfl (fun w8 hSw => by have e9 := QN.out; simp [go_sem, e9]) (k := ?_)
  iterate 2
   refine WT.tk rfl (k := ?_)
  refine WT.tk (v := .agg SV) rfl (fun w8 hSw => by rw [← HSV.out]; exact jg (Qa hSw.1)) (k := ?_); refine WT.step rfl (fun K hK => ?_)
  go_simp
  refine (CD.out _ HKA.out).mono ?_; rintro _ x2 ⟨rfl, hb⟩; have HV := jh (jy HV.out hb); have HS := jh (HS.out.later hb); have HB := jw HB hb; have HKA := jh (HKA.out.later hb); clear hb; refine hK.out _ _ (⟨HS.out, HV.out, HKA.out⟩) (fun hHeld => ?_); clear hK K
  try simp only [Act.put, pa, pb, pc]
  iterate 3
   refine WT.tk rfl (k := ?_)
  refine WT.tk (v := .agg #[.int .u64 (jf jd gp 0), .int .u64 (jf jd gp 1), .int .u64 (jf jd gp 2), .int .u64 (jf jd gp 3), .int .u64 (jf jd gq 0), .int .u64 (jf jd gq 1), .int .u64 (jf jd gq 2), .int .u64 (jf jd gq 3), .int .u64 (jf jd gg 0), .int .u64 (jf jd gg 1), .int .u64 (jf jd gg 2), .int .u64 (jf jd gg 3), .int .u64 (jf jd gh 0), .int .u64 (jf jd gh 1), .int .u64 (jf jd gh 2), .int .u64 (jf jd gh 3)]) rfl (fun w8 hSw => jg (loadGr hSw.1)) (k := ?_); refine WT.tk rfl (k := ?_); refine WT.tk (v := .slice (some ⟨KB, ko, none⟩) n cap) rfl (fun w8 hSw => jg (JZ hSw.1.nd)) (k := ?_); refine WT.tk rfl (k := ?_); refine WT.tk (v := .int .u8 nd) rfl (fun w8 hSw => jg (Ji (Qg hSw.2.1))) (k := ?_); refine WT.tk (v := .int .u8 i) rfl (fun w8 hSw => by have e9 := E9.out; simp [go_sem, e9]) (k := ?_); refine WT.tk (v := .pointer (some ⟨KB, ko + i * 8, none⟩)) rfl (fun w8 hSw => by have e9 := QI.out; simp [go_sem, e9]) (k := ?_); refine WT.tk (v := .pointer (some ⟨KB, ko + i * 8, none⟩)) rfl (fun w8 hSw => by simp [go_sem]) (k := ?_); refine WT.take rfl (Or.inl ⟨by rfl, fun w8 hSw => jg (jX (fun j hj => (hSw.2.2 i _ HKI.out).1 j hj))⟩) ?_
  try simp only [Act.put, pa, pb, pc]
  refine WT.tk (v := .agg VV) rfl (fun w8 hSw => by rw [HVV.out]; exact jg (loadVo hSw.2.1 HL.out)) (k := ?_); refine WT.tk rfl (k := ?_); refine WT.tk (v := sigV c s) rfl (fun w8 hSw => jg (loadSg (vo_sig hSw.2.1 HL.out))) (k := ?_); refine WT.step rfl (fun K hK => ?_)
  go_simp
  refine (CV.out _).mono ?_; rintro _ x3 ⟨rfl, hb⟩; have HV := jh (jy HV.out hb); have HS := jh (HS.out.later hb); have HB := jw HB hb; have HKA := jh (HKA.out.later hb); clear hb; refine hK.out _ _ (⟨HS.out, HV.out, HKA.out⟩) (fun hHeld => ?_); clear hK K
  try simp only [Act.put, pa, pb, pc]
  refine WT.step rfl (fun K hK => ?_)
  go_simp
  refine (CK.out _).mono ?_; rintro _ x4 ⟨rfl, hb⟩; have HV := jh (jy HV.out hb); have HS := jh (HS.out.later hb); have HB := jw HB hb; have HKA := jh (HKA.out.later hb); clear hb; refine hK.out _ _ (⟨HS.out, HV.out, HKA.out⟩) (fun hHeld => ?_); clear hK K
  try simp only [Act.put, pa, pb, pc]
  iterate 2
   refine WT.tk rfl (k := ?_)
  refine WT.done ?_; clear hHeld
  go_wp2_with fail
  go_ret
  exact ⟨rfl, HB.out⟩
def VotesAt (w : World) (b o : Nat) (vv : Bal.Bv → List Value) (l : List Bal.Bv) : Prop := w.rangeAt b o (l.flatMap vv)
theorem votes_get {vv : Bal.Bv → List Value} (hvv : ∀ x, (vv x).length = 44) : ∀ (l : List Bal.Bv) (i : Nat) (x : Bal.Bv), l[i]? = some x → ∀ j u, (vv x)[j]? = some u → (l.flatMap vv)[i * 44 + j]? = some u
 | [], i, x, h, _, _, _ => by simp at h
 | a :: l, 0, x, h, j, u, hj => by
  simp at h
  subst h; rw [List.flatMap_cons, List.getElem?_append_left (by have := (List.getElem?_eq_some_iff.1 hj).1; omega)]
  simpa using hj
 | a :: l, i + 1, x, h, j, u, hj => by
  have h9 := votes_get hvv l i x (by simpa using h) j u hj; rw [List.flatMap_cons, List.getElem?_append_right (by rw [hvv]; omega), hvv, show (i + 1) * 44 + j - 44 = i * 44 + j by omega]; exact h9
theorem VotesAt.at {w : World} {b o i : Nat} {vv : Bal.Bv → List Value} {l : List Bal.Bv} {x : Bal.Bv} (h : VotesAt w b o vv l) (hvv : ∀ x, (vv x).length = 44) (hx : l[i]? = some x) : w.rangeAt b (o + i * 44) (vv x) := fun j u hj => by
 have h9 := h (i * 44 + j) u (votes_get hvv l i x hx j u hj); rw [show o + i * 44 + j = o + (i * 44 + j) by omega]; exact h9
theorem zE {w : World} {B n : Nat} {v : Value} {t : TypeId} {vv : Bal.Bv → List Value} {l : List Bal.Bv} (h : OwnV w B t 44 v n (l.flatMap vv)) (h0 : 0 < n) : ∃ b o cap, v = .slice (some ⟨b, o, none⟩) n cap ∧ VotesAt w b o vv l := by
 rcases id h.2 with ⟨_, h9⟩ | ⟨g, o, cap, cur, rfl, _⟩
 ·omega
 ·exact ⟨g, o, cap, rfl, fun j u hj => by have h9 := h.cells j u hj; rw [Addr.add_lit] at h9; exact h9⟩
theorem loadV {w : World} {b o : Nat} {L : List Value} (h : w.rangeAt b o L) (hl : L.length = 44) : (Instr.loadAt 52 (.pointer (some ⟨b, o, none⟩))).run Tryz.prog w = .ok (.agg L.toArray) w :=
 run_loadAt_mid (P := Tryz.prog) w b o 52 L _ h Tryz.underlying52 rfl (by rw [hl]; exact jJ)
theorem put1_any {ep : Nat} {C S : Bal.Bv → Nat} {VB k e v n c s t : Nat} (y : Bal.Bv) (w : World) (hr : w.rangeAt VB 0 (jG k e v n (zz t) c s)) :
  Calls Tryz.prog 30 #[.agg (qW ep C S y).toArray, .pointer (some ⟨VB, 0, none⟩)] w fun r w' => r = .returned (.bool (decide (y.s = t))) ∧ Below w.heap.size w w' := by
 obtain ⟨L, hL⟩ := je ((qW ep C S y).toArray); have hszL : (Tryz.prog.info? 52).map (·.size) = some L.size := by rw [jJ, hL]; simp [jV]
 obtain ⟨T, hT⟩ := je ((jq .u8 (zz t)).toArray); obtain ⟨U, hU⟩ := je ((jq .u8 (zz y.s)).toArray); have HE := jh (fun (W : World) => eql_set y.s t W); have HR := jh hr; obtain ⟨w1, e1⟩ := je (w.alloc (.cells L 52)); have hb1 := jc e1; have hr1 : w1.rangeAt w.heap.size 0 (jG y.k ep y.v y.n (zz y.s) (C y) (S y)) := by rw [e1, hL]; exact qO _ _ _
 have l1 := Zi hr1 (jC _); have l2 := Zi (jy hr hb1) (jC _); rw [← hT] at HE l2; rw [← hU] at HE l1; have HB := jh hb1; have L1 := jh l1; have L2 := jh l2; obtain ⟨B, hB⟩ := je (w.heap.size); rw [← hB] at L1; obtain ⟨d, hd⟩ := je (decide (y.s = t)); rw [← hd] at HE; rw [← hL, ← hd]; clear hr1 hb1 l1 l2 hT hU hr hd hL
 go_enter Tryz.func30, Tryz.ntmps30
 go_upto_region 1 with fail
 rw [← e1, ← hB]; refine wp_region_lit ?_; refine ji (v := .pointer (some ⟨B, 4, none⟩)) rfl (by kernel_rfl) ?_; refine ji rfl (jg L1.out) ?_; refine ji (v := .pointer (some ⟨VB, 4, none⟩)) rfl (by kernel_rfl) ?_; refine ji rfl (jg L2.out) ?_; refine ji (v := .bool d) rfl (qw eqg_hash rfl (by kernel_rfl) (by kernel_rfl) (HE.out _)) ?_; simp only [Act.put, pa, pb, pc]
 go_wp2_with fail
 go_ret
 exact ⟨rfl, HB.out⟩
theorem idxV_any {ep : Nat} {C S : Bal.Bv → Nat} {VB k e v n0 c s t b o cap : Nat} {l : List Bal.Bv} (hn0 : l.length ≤ 1000) (w : World) (hr : w.rangeAt VB 0 (jG k e v n0 (zz t) c s)) (h : VotesAt w b o (qW ep C S) l) :
  Calls Tryz.prog 48 #[.slice (some ⟨b, o, none⟩) l.length cap, .func (.func 30) #[] #[.pointer (some ⟨VB, 0, none⟩)]] w fun r w' => ∃ q : Int, r = .returned (.int .i64 q) ∧ (-1 ≤ q ∧ q ≤ 1000) ∧ decide (0 ≤ q) = l.any (fun y => decide (y.s = t)) ∧ Below w.heap.size w w' := by
 have HX := jh h; have HR := jh hr; obtain ⟨n, hn⟩ := je (l.length); have HN := jh hn; rw [← hn]; have hnb : n ≤ 1000 := by omega
 have CK := jh (fun (y : Bal.Bv) (W : World) hr9 => put1_any (ep := ep) (C := C) (S := S) (VB := VB) (k := k) (e := e) (v := v) (n := n0) (c := c) (s := s) (t := t) y W hr9); clear h hn hn0 hr
 go_enter Tryz.func48, Tryz.ntmps48
 go_wp2_with fail
 go_loopw [8] (fun i wr => ∃ k : Nat, k ≤ n ∧ i = .int .i64 k ∧ Hid ((l.take k).any (fun y => decide (y.s = t)) = false) ∧ Hid (Below w.heap.size w wr)) (fun i _ => n - (intOf i).toNat)
 case atStart => exact ⟨0, Nat.zero_le _, rfl, jh rfl, jh (Below.refl _ _)⟩
 case round =>
  obtain ⟨j, hj, rfl, HK, HB⟩ := hrel
  by_cases hlt : j < n
  ·obtain ⟨x, hx⟩ : ∃ x, l[j]? = some x := ⟨_, List.getElem?_eq_getElem (by rw [← HN.out]; exact hlt)⟩; have hltI : (j : Int) < (n : Int) := by omega
   have HLT := jh hlt; have HXI := jh hx; have LV := jh (loadV (jy (HX.out.at (jV _ _ _) hx) HB.out) (jV _ _ _ _)); obtain ⟨L, hL⟩ := je ((qW ep C S x).toArray); rw [← hL] at LV; have CKx := jh (CK.out x wr (jy HR.out HB.out)); rw [← hL] at CKx; clear hx hlt hL
   go_upto_region 4 with fail
   refine wp_region_lit ?_; refine ji (v := .func (.func 30) #[] #[.pointer (some ⟨VB, 0, none⟩)]) rfl (by kernel_rfl) ?_; refine ji (v := .slice (some ⟨b, o, none⟩) n cap) rfl (by kernel_rfl) ?_; refine ji (v := .int .i64 j) rfl (by kernel_rfl) ?_; refine ji (v := .pointer (some ⟨b, o + j * 44, none⟩)) rfl (by simp [go_sem, hltI]) ?_; refine ji rfl (jg LV.out) ?_; simp only [Act.put, pa, pb, pc]
   go_wp2_with fail
   by_cases hbad : x.s = t
   ·rw [decide_eq_true hbad] at CKx; refine CKx.out.mono ?_; rintro _ w4 ⟨rfl, hb⟩; have HB := jw HB hb; have HBD := jh hbad; clear hb hbad
    go_wp2_with fail
    go_ret
    exact ⟨_, rfl, ⟨by omega, by have := HLT.out; omega⟩, by
     rw [decide_eq_true (show (0 : Int) ≤ (j : Int) by omega)]
     exact (List.any_eq_true.2 ⟨x, List.mem_of_getElem? HXI.out, decide_eq_true HBD.out⟩).symm, HB.out⟩
   ·rw [decide_eq_false hbad] at CKx; refine CKx.out.mono ?_; rintro _ w4 ⟨rfl, hb⟩; have HB := jw HB hb; have HBD := jh hbad; clear hb hbad
    go_wp2_with fail
    go_roundw
    case rel => exact ⟨j + 1, HLT.out, by go_num, jh (by rw [List.take_add_one, HXI.out, List.any_append, HK.out]; simpa using HBD.out), HB⟩
    case measure => simp [intOf]; have := HLT.out; omega
  ·obtain rfl : j = n := by omega
   clear hlt
   go_wp2_with fail
   go_ret
   exact ⟨_, rfl, ⟨by omega, by omega⟩, by
    have h9 := HK.out; rw [HN.out, List.take_length] at h9; rw [h9]
    rfl, HB.out⟩
theorem idxV_none {VB : Nat} (w : World) :
  Calls Tryz.prog 48 #[.slice none 0 0, .func (.func 30) #[] #[.pointer (some ⟨VB, 0, none⟩)]] w fun r w' => r = .returned (.int .i64 (-1)) ∧ Below w.heap.size w w' := by
 go_enter Tryz.func48, Tryz.ntmps48
 go_wp2_with fail
 go_loopw [8] (fun i wr => i = .int .i64 0 ∧ Hid (Below w.heap.size w wr)) (fun i _ => 0)
 case atStart => exact ⟨rfl, jh (Below.refl _ _)⟩
 case round =>
  obtain ⟨rfl, HB⟩ := hrel
  go_wp2_with fail
  go_ret
  exact ⟨rfl, HB.out⟩
theorem conV_any {ep B : Nat} {C S : Bal.Bv → Nat} {VB k e v n0 c s t n : Nat} {u : Value} {l : List Bal.Bv} (hl : l.length = n) (hn0 : l.length ≤ 1000) (w : World) (hr : w.rangeAt VB 0 (jG k e v n0 (zz t) c s)) (h : OwnV w B 52 44 u n (l.flatMap (qW ep C S))) :
  Calls Tryz.prog 29 #[u, .func (.func 30) #[] #[.pointer (some ⟨VB, 0, none⟩)]] w fun r w' => r = .returned (.bool (l.any (fun y => decide (y.s = t)))) ∧ Below w.heap.size w w' := by
 have CI : ∃ q : Int, (-1 ≤ q ∧ q ≤ 1000) ∧ decide (0 ≤ q) = l.any (fun y => decide (y.s = t)) ∧ True := by
  cases hq : l.any (fun y => decide (y.s = t))
  ·exact ⟨-1, by omega, by decide, trivial⟩
  ·exact ⟨0, by omega, by decide, trivial⟩
 have CX : Hid (Calls Tryz.prog 48 #[u, .func (.func 30) #[] #[.pointer (some ⟨VB, 0, none⟩)]] w fun r w' => ∃ q : Int, r = .returned (.int .i64 q) ∧ (-1 ≤ q ∧ q ≤ 1000) ∧ decide (0 ≤ q) = l.any (fun y => decide (y.s = t)) ∧ Below w.heap.size w w') := jh (by
  rcases Nat.eq_zero_or_pos n with h0 | h0
  ·obtain rfl : l = [] := List.eq_nil_of_length_eq_zero (by omega)
   rcases h.2 with ⟨rfl, _⟩ | ⟨g, o, cap, cur, rfl, _⟩
   ·exact (idxV_none (VB := VB) w).mono fun r w' ⟨h1, h2⟩ => ⟨-1, h1, by omega, by simp, h2⟩
   ·have h9 := idxV_any (ep := ep) (C := C) (S := S) (cap := cap) (b := g) (o := o) (l := []) (by simp) w hr (fun j u hj => by simp at hj); rw [h0]; exact h9
  ·obtain ⟨b, o, cap, rfl, hv⟩ := zE h h0; rw [← hl]
   exact idxV_any hn0 w hr hv)
 obtain ⟨a0, c0, rfl⟩ := h.shape9; obtain ⟨d, hd⟩ := je (l.any (fun y => decide (y.s = t))); rw [← hd] at CX ⊢; clear hd h hr hl hn0 CI
 go_enter Tryz.func29, Tryz.ntmps29
 go_wp2_with fail
 refine CX.out.mono ?_; rintro _ w1 ⟨q, rfl, ⟨h1, h2⟩, h3, hb⟩; have HB := jh hb; have H3 := jh h3; clear h3 hb
 go_wp2_with fail
 go_ret
 exact ⟨by rw [← H3.out]; rfl, HB.out⟩
def zero32 : Array Value := #[.int .u8 0, .int .u8 0, .int .u8 0, .int .u8 0, .int .u8 0, .int .u8 0, .int .u8 0, .int .u8 0, .int .u8 0, .int .u8 0, .int .u8 0, .int .u8 0, .int .u8 0, .int .u8 0, .int .u8 0, .int .u8 0, .int .u8 0, .int .u8 0, .int .u8 0, .int .u8 0, .int .u8 0, .int .u8 0, .int .u8 0, .int .u8 0, .int .u8 0, .int .u8 0, .int .u8 0, .int .u8 0, .int .u8 0, .int .u8 0, .int .u8 0, .int .u8 0]
theorem set_any {x : Nat} (hx : x < 256) (w : World) : Calls Tryz.prog 20 #[.int .u8 x] w fun r w' => r = .returned (.agg (jq .u8 (zz (x % 4))).toArray) ∧ Below w.heap.size w w' := by
 obtain ⟨y, hy⟩ := je (x % 4); have hy4 : y < 4 := by omega
 obtain ⟨T, hT⟩ := je ((jq .u8 (zz y)).toArray); have hTs : T.size = 32 := by rw [hT]; simp [js, jC]
 have h1T : T.all (·.oneCell') = true := by rw [hT]; exact qE _ _
 have hszT : (Tryz.prog.info? 48).map (·.size) = some T.size := by rw [qC, hTs]
 have hset : zero32.setIfInBounds 0 (.int .u8 (y : Int)) = T := by rw [hT]; rfl
 have E1 : ((x : Int)).tmod 4 = (y : Int) := by rw [hy]; rfl
 have E2 : IntKind.u8.wrap (y : Int) = (y : Int) := by simp [IntKind.wrap, IntKind.bits, IntKind.signed]; omega
 have HST := jh hset; have HTS := jh hTs; have H1T := jh h1T; rw [← hy, ← hT]; clear hy hT hTs h1T hset hx hy4
 go_enter Tryz.func20, Tryz.ntmps20
 go_upto_region 2 with fail
 obtain ⟨w1, e1⟩ := je (w.alloc (.cells zero32 48)); obtain ⟨w2, e2⟩ := je (w1.alloc (.cells zero32 48)); unfold zero32 at e1 e2; rw [← e1, ← e2]; have s1 : w1.heap.size = w.heap.size + 1 := by rw [e1]; simp
 have b1 := jc e1; have b2 := jc e2; have f1 : w1.heap[w.heap.size]? = some (.cells zero32 48 (0, 0)) := by rw [e1]; exact heap_alloc_new _ _
 have f2 : w2.heap[w.heap.size + 1]? = some (.cells zero32 48 (0, 0)) := by rw [← s1, e2]; exact heap_alloc_new _ _
 obtain ⟨RB, hRB⟩ := je (w.heap.size); rw [← hRB] at f1 f2 ⊢; obtain ⟨HB9, hHB⟩ := je (RB + 1); rw [← hHB] at f2 ⊢; have HR := jh ((b2.block _ (by omega)).trans f1); have HH := jh f2; have HB := jh (jm b1 b2); have NB := jh (show RB < HB9 ∧ w.heap.size ≤ RB by omega); clear e1 e2 s1 b1 b2 f1 f2 hRB hHB; have c0 : w2.cell? ⟨HB9, 0, none⟩ = some (.int .u8 0) := cell_of_row w2 HB9 0 _ _ (0, 0) HH.out; have g0 : w2.frozen? ⟨HB9, 0, none⟩ = false := by simp [World.frozen?, HH.out]
 go_upto_region 3 with fail
 clear c0 g0; obtain ⟨w3, e3⟩ := je (w2.setCell ⟨HB9, 0, none⟩ (.int .u8 (y : Int))); have er : w3 = w2.setRow HB9 T := by rw [e3, setCell_eq_setRow w2 HB9 0 _ _ _ _ HH.out, HST.out]
 have hh3 : w3.heap[HB9]? = some (.cells T 48 (0, 0)) := by rw [er]; exact setRow_heap _ _ _ _ _ _ HH.out
 have hr3 : w3.heap[RB]? = some (.cells zero32 48 (0, 0)) := by rw [er]; exact (setRow_other _ _ _ _ (by have := NB.out; omega)).trans HR.out
 have hb3 : Below w.heap.size w w3 := by rw [er]; exact below_setRow HB.out (by have := NB.out; omega) _
 rw [← e3]; clear e3 er; refine wp_region_lit ?_; refine ji rfl (jg (jW hh3 Tryz.underlying48 rfl hszT)) ?_; simp only [Act.put, pa, pb, pc]; refine jI rfl _ _ _ rfl RB _ _ _ hr3 rfl rfl hszT (by rw [HTS.out]; rfl) H1T.out ?_; simp only [Act.put, pa, pb, pc]
 go_wp2_with fail
 obtain ⟨w9, e9⟩ := je (w3.setRow RB T); have hr9 : w9.heap[RB]? = some (.cells T 48 (0, 0)) := by rw [e9]; exact setRow_heap _ _ _ _ _ _ hr3
 have hb9 : Below w.heap.size w w9 := by rw [e9]; exact below_setRow hb3 NB.out.2 _
 rw [← e9]; exact bodyPost_ret (results_cell_row rfl _ w9 RB _ _ _ _ rfl hr9 Tryz.underlying48 rfl hszT) rfl ⟨rfl, hb9⟩
end Go.Proofs.YtdpkpcbikbbcbaaGreat
