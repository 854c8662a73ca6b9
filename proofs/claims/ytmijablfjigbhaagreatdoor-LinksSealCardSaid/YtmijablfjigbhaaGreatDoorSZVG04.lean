/- Book -/
import Derived.Test.YtmijablfjigbhaaGreatDoorSZVG03
import Derived.Test.YtmijablfjigbhaaGreatDoorRows
import Derived.WalkLawsBesides
import Derived.Deep.QuietTactic
import Derived.BigQuiet
import Derived.BigRegion
import Derived.Outline
import Derived.LoopTactic
set_option linter.unusedSimpArgs false
set_option linter.unusedVariables false
set_option maxHeartbeats 3000000
set_option maxRecDepth 20000
namespace Go.Proofs.YtmijablfjigbhaaGreatDoor
open Go.ChangeShapes Go.WideShapes Go.ChangeAt Go.RowKit
theorem QI : (Tryz.prog.info? 5).map (fun i => (i.zero, i.size, i.bytes)) = some (some (.int .u8 0), 1, 1) := by kernel_rfl
theorem Qx (w : World) (x : Value) (t : TypeId) : ∀ (j : Nat) (u : Value), [x][j]? = some u → (w.alloc (.cells #[x] t)).cell? ((⟨w.heap.size, 0, none⟩ : Addr).add j) = some u := by
 intro j u h
 cases j with
 | zero => simp at h; subst h; simp [Addr.add]
 | succ j => simp at h
theorem Zg {k : IntKind} (n : Int) : ∀ u ∈ [Value.int k n], u.oneCell' = true := fun u hu => by simp at hu; subst hu; rfl
def Own (w : World) (base : Nat) (v : Value) (l : List Nat) : Prop := O1 w base 5 1 v l.length (jp .u8 l)
theorem Own.at_ {w : World} {base : Nat} {v : Value} {l : List Nat} (h : Own w base v l) : J6 .u8 w v l := by
 have h' := h; obtain ⟨h1, h2⟩ := h'
 rcases h2 with ⟨rfl, h3⟩ | ⟨g, o, cap, cur, rfl, hb, hg, hc, hm, hs, ht⟩
 ·have : l = [] := List.length_eq_zero_iff.1 h3; subst this; exact J6.nil _ w
 ·refine ⟨_, _, rfl, hc, hm, (fun h => by cases h), fun _ => ⟨g, o, rfl, fun i x hx => ?_⟩⟩; have := O1.cells h i (.int .u8 x) (by rw [qv, hx]; rfl); rw [Addr.add_lit] at this; exact this
theorem Own.base {w : World} {B B' : Nat} {v : Value} {l : List Nat} (h : Own w B v l) (hB : B' ≤ B) : Own w B' v l := O1.base h hB
theorem Own.later {w w' : World} {B : Nat} {v : Value} {l : List Nat} (h : Own w B v l) (hb : Below w.heap.size w w') : Own w' B v l := O1.later h hb
theorem Own.shape {w : World} {B : Nat} {v : Value} {l : List Nat} (h : Own w B v l) : ∃ ao n cap, v = .slice ao n cap := by
 obtain ⟨ao, cap, h, _⟩ := h.at_; exact ⟨ao, _, cap, h⟩
theorem J6.src {k : IntKind} {w : World} {v : Value} {l : List Nat} (h : J6 k w v l) : Zq w 1 v l.length (jp k l) := by
 obtain ⟨ao, cap, rfl, h1, h2, h3, h4⟩ := h; refine ⟨ao, cap, rfl, by simp [jt], zI _ _, fun h0 => by have := h3 h0; omega, fun ad had j u hu => ?_⟩; rw [qv] at hu; obtain ⟨x, hx, rfl⟩ := Option.map_eq_some_iff.1 hu; obtain ⟨b, o, hbo, hc⟩ := h4 (by have := (List.getElem?_eq_some_iff.1 hx).1; omega); rw [had] at hbo
 cases hbo
 rw [Addr.add_lit]; exact hc j x hx
theorem J6.cut {w : World} {g o cap : Nat} {b : List Nat} {k : IntKind} (hc : ∀ i x : Nat, b[i]? = some x → w.cell? ⟨g, o + i, none⟩ = some (.int k x)) (h1 : b.length ≤ cap) (h2 : cap ≤ maxLen) (j n : Nat) (hn : j + n ≤ b.length) :
  J6 k w (.slice (some ⟨g, o + j, none⟩) n (cap - j)) ((b.drop j).take n) := by
 have hl : ((b.drop j).take n).length = n := by simp; omega
 refine ⟨some ⟨g, o + j, none⟩, cap - j, by rw [hl], by rw [hl]; omega, by omega, (fun h => by cases h), fun _ => ⟨g, o + j, rfl, fun i x hx => ?_⟩⟩; rw [List.getElem?_take] at hx
 split at hx
 ·rw [List.getElem?_drop] at hx; rw [Nat.add_assoc]; exact hc _ _ hx
 ·cases hx
theorem J6.drop {w : World} {g o cap : Nat} {b : List Nat} {k : IntKind} (hc : ∀ i x : Nat, b[i]? = some x → w.cell? ⟨g, o + i, none⟩ = some (.int k x)) (h1 : b.length ≤ cap) (h2 : cap ≤ maxLen) (n : Nat) (hn : n ≤ b.length) :
  J6 k w (.slice (some ⟨g, o + n, none⟩) (b.length - n) (cap - n)) (b.drop n) := by
 refine ⟨some ⟨g, o + n, none⟩, cap - n, by simp, by simp; omega, by omega, (fun h => by cases h), fun _ => ⟨g, o + n, rfl, fun i x hx => ?_⟩⟩; rw [List.getElem?_drop] at hx; have := hc _ _ hx; rw [Nat.add_assoc]; exact this
theorem PW (w : World) (e : TypeId) (size : Nat) : O1 (w.alloc (.cells #[] e)) w.heap.size e size (.slice (some ⟨w.heap.size, 0, none⟩) 0 0) 0 [] :=
 ⟨by simp, .inr ⟨w.heap.size, 0, 0, #[], rfl, Nat.le_refl _, heap_alloc_new w _, Nat.le_refl _, Nat.zero_le _, by simp, by simp⟩⟩
theorem O1.clip {w : World} {B : Nat} {e : TypeId} {size : Nat} {ao : Option Addr} {n cap : Nat} {xs : List Value} (h : O1 w B e size (.slice ao n cap) n xs) : O1 w B e size (.slice ao n n) n xs := by
 obtain ⟨h1, h2⟩ := h; refine ⟨h1, ?_⟩
 rcases h2 with ⟨h2, h3⟩ | ⟨g, o, c, cur, h3, h4, h5, h6, h7, h8, h9⟩
 ·cases h2
  exact .inl ⟨rfl, rfl⟩
 ·cases h3
  exact .inr ⟨g, o, n, cur, rfl, h4, h5, Nat.le_refl _, Nat.le_trans h6 h7, Nat.le_trans (Nat.add_le_add_left (Nat.mul_le_mul_right _ h6) _) h8, h9⟩
theorem JW {P : Program} {w : World} {ops : Array Oper} {rest : List Oper} {o : Oper} {a : Act} {Q : Exit → Act → World → Prop} (hgd : o.guard = none) (s x : Operand) (t k : TypeId)
  (ho : o.op = .call { callee := .builtin .append, args := #[s, x], argTypes := #[t, k] }) (v y r : Value) (w' : World) (hs : a.eval s = v) (hy : a.eval x = y) (hr : ∀ ty, (Builtin.append_ #[t, k] ty #[v, y]).run P w = .ok r w')
  (h : wpList P ops Q rest (a.put o.dst r) w') : wpList P ops Q (o :: rest) a w := by
 refine wpList_plain hgd fun K hK => ?_
 unfold Oper.wp execOp; simp only [ho, resolve, invoke, builtin, Sem.run_bind, Sem.run_pure, Result.andThen_ok, List.map_toArray, List.map_cons, List.map_nil, hs, hy, hr]; exact hK _ _ h
def Parts (w : World) (g o : Nat) (vs : List Value) (ls : List (List Nat)) : Prop := vs.length = ls.length ∧ ∀ i, i < ls.length → ∃ v l, vs[i]? = some v ∧ ls[i]? = some l ∧ w.cell? ⟨g, o + i, none⟩ = some v ∧ J6 .u8 w v l
theorem Jx {ls : List (List Nat)} {i : Nat} {l : List Nat} (h : ls[i]? = some l) : (ls.take (i + 1)).flatten = (ls.take i).flatten ++ l := by
 rw [List.take_add_one, h]
 simp
theorem Qb (ls : List (List Nat)) (i : Nat) : (ls.take i).flatten.length ≤ ls.flatten.length := by
 have h := congrArg (fun x => x.flatten.length) (List.take_append_drop i ls); simp only [List.flatten_append, List.length_append] at h; omega
theorem AZ (w : World) : (sizeOf (Tryz.prog.elem 30)).run Tryz.prog w = .ok 1 w := by
 have : Tryz.prog.elem 30 = 5 := by kernel_rfl
 rw [this]
 go_simp
theorem XL : Tryz.prog.underlying 30 = some (.slice (Tryz.prog.elem 30)) := by kernel_rfl
theorem NR {w : World} {v : Value} {l : List Nat} (hk : J6 .u8 w v l) (n : Nat) (hn : n ≤ l.length) :
  ∃ a c, (∀ W, (Instr.sliceAt 30 v (some (.int .i64 n)) none none).run Tryz.prog W = .ok (.slice a (l.length - n) c) W) ∧ J6 .u8 w (.slice a (l.length - n) c) (l.drop n) := by
 obtain ⟨ao, cap, rfl, h1, h2, h3, h4⟩ := hk
 have hrun : ∀ W, (Instr.sliceAt 30 (.slice ao l.length cap) (some (.int .i64 n)) none none).run Tryz.prog W = .ok (sliced ao n l.length cap 1) W := fun W => by
  rw [run_sliceAt_slice _ _ _ _ _ _ XL, run_slice_l _ _ _ _ _ XL .i64 n (by omega) (by omega), AZ]
  simp
 unfold sliced at hrun; refine ⟨_, _, hrun, ?_⟩; have hl : (l.drop n).length = l.length - n := by simp
 refine ⟨_, _, by rw [hl], by rw [hl]; omega, by omega, fun hno => ?_, fun h0 => ?_⟩
 ·split at hno
  ·omega
  ·have : ao = none := by cases ao with | none => rfl | some _ => cases hno
   have := h3 this; omega
 ·rw [hl] at h0; obtain ⟨b, o, rfl, hc⟩ := h4 (by omega); rw [if_neg (by omega)]; refine ⟨b, o + n, by simp [Addr.add_lit], fun i x hx => ?_⟩; rw [List.getElem?_drop] at hx; rw [Nat.add_assoc]; exact hc _ _ hx
def YX (k : Nat) (ws : List Nat) : List Nat := ws.flatMap (be k)
theorem bes_take (k : Nat) (ws : List Nat) (i x : Nat) (h : ws[i]? = some x) : YX k (ws.take (i + 1)) = YX k (ws.take i) ++ be k x := by
 unfold YX; rw [List.take_add_one, h]
 simp
theorem YT (k : Nat) (ws : List Nat) : (YX k ws).length = k * ws.length := by
 unfold YX
 induction ws with
 | nil => rfl
 | cons w ws ih => rw [List.flatMap_cons, List.length_append, ih, jH, List.length_cons, Nat.mul_succ]; omega
theorem JB {k x j : Nat} (hj : j < k) : (be k x).take (j + 1) = (be k x).take j ++ [x / 256 ^ (k - 1 - j) % 256] := by
 rw [List.take_add_one, List.getElem?_eq_getElem (by rw [jH]; exact hj), aU k x j hj]
 rfl
theorem EE (x e : Nat) : (x : Int) / 2 ^ (8 * e) % 256 = ((x / 256 ^ e % 256 : Nat) : Int) := by
 rw [show (256 : Nat) ^ e = 2 ^ (8 * e) by rw [Nat.pow_mul]]
 simp
theorem put_any {b ws : List Nat} {v vs : Value} {k : Nat} (w : World) (hv : J6 .u8 w v b) (hk : k ≤ 8) (hvs : J6 .u64 w vs ws) (hne : 0 < ws.length) (hsz : b.length + k * ws.length ≤ 140737488355328) :
  Calls Tryz.prog 102 #[v, .int .i64 k, vs] w fun e w' => ∃ v', e = .returned v' ∧ w'.ownsRow w.heap.size 5 1 v' (b.length + k * ws.length) (jp .u8 (b ++ YX k ws)) ∧ Below w.heap.size w w' := by
 obtain ⟨i0, hi, hz0, hz1, hz2⟩ := info_parts QI; obtain ⟨ao, cap, rfl, hc1, hc2, hc3, hc4⟩ := hv; obtain ⟨aw, capw, rfl, hw1, hw2, hw3, hw4⟩ := hvs; obtain ⟨g, o, rfl, hw5⟩ := hw4 hne; have hm1 := hc2; have hm2 := hw2; unfold maxLen at hm1 hm2; have HC := jh hc4; have HW := jh hw5; have HI := jh hi
 have hmk : ∀ w, (Instr.makeSlice 30 (.int .i64 b.length) (.int .i64 ((b.length : Int) + (k : Int) * (ws.length : Int)))).run Tryz.prog w = .ok (.slice (some ⟨w.heap.size, 0, none⟩) b.length (b.length + k * ws.length)) (w.alloc (.cells (List.replicate (b.length + k * ws.length) (Value.int .u8 0)).toArray 5)) := by
  intro w; have hkw : (k : Int) * (ws.length : Int) = ((k * ws.length : Nat) : Int) := by simp
  have e := run_make (P := Tryz.prog) w 30 5 i0 (.int .u8 0) Tryz.underlying30 hi hz0 .i64 .i64 b.length ((b.length : Int) + (k : Int) * (ws.length : Int)) (by omega) (by rw [hkw]; omega) (by rw [hz2, hkw]; omega) (by rw [hkw]; omega); rw [e, hz1, hkw, Int.toNat_natCast, show ((b.length : Int) + ((k * ws.length : Nat) : Int)).toNat = b.length + k * ws.length by omega, BI]
 have HPOS := jh (show ∀ t, 0 < (jp .u8 b).length → (some ⟨w.heap.size, 0, none⟩ : Option Addr) = some ⟨w.heap.size, 0, none⟩ ∧ ∃ ad, ao = some ad ∧ ∀ (j : Nat) (v : Value), (jp .u8 b)[j]? = some v → (w.alloc t).cell? (ad.add j) = some v from by
  intro t h0; rw [jt] at h0; obtain ⟨bb, oo, hao, hcell⟩ := HC.out h0; refine ⟨rfl, _, hao, fun j v hj => ?_⟩; rw [qv] at hj; obtain ⟨x, hx, rfl⟩ := Option.map_eq_some_iff.1 hj; have := hcell j x hx; rw [Addr.add_lit, World.cell?_alloc_lt w _ ⟨bb, oo + j, none⟩ (World.block_lt_of_cell? (a := ⟨bb, oo + j, none⟩) _ this)]
  exact this)
 clear hc4 hw4 hw5 hi hw3
 go_enter Tryz.func102, Tryz.ntmps102
 go_wp2_with (refine wpList_copy_splice rfl (.tmp 21) (.tmp 22) 30 30 rfl 5 Tryz.underlying30 (by kernel_rfl) (some ⟨w.heap.size, 0, none⟩) ao b.length (b.length + k * ws.length) b.length cap rfl rfl w.heap.size 0 (List.replicate (b.length + k * ws.length) (Value.int .u8 0)) 5 (heap_alloc_new w _) (jp .u8 b) (by simp [jt]) (HPOS.out _) (by simp [jt]) (zI _ _) w.heap.size w (ja) (Nat.le_refl _) ?_; intro w1 hrow hbel)
 have HOWN := jh (iP (base := w.heap.size) (Nat.le_refl _) (show b.length ≤ b.length + k * ws.length by omega) (by unfold maxLen; omega) hrow.out); clear hrow; have HBEL := jh hbel; clear hbel
 go_loopw [7, 26] (fun v i wr => ∃ i' : Nat, i' ≤ ws.length ∧ i = .int .i64 i' ∧ wr.ownsRow w.heap.size 5 1 v (b.length + k * i') (jp .u8 (b ++ YX k (ws.take i'))) ∧ Below w.heap.size w wr) (fun _ i _ => ws.length - (intOf i).toNat)
 case atStart => exact ⟨0, Nat.zero_le _, rfl, by simpa [YX] using HOWN.out, HBEL.out⟩
 case round =>
  obtain ⟨i, hi, rfl, hown, hbel⟩ := hrel; have HO := jh hown; have HB := jh hbel; clear hown hbel HOWN HBEL
  by_cases hlt : i < ws.length
  ·obtain ⟨x, hx⟩ : ∃ x, ws[i]? = some x := ⟨_, List.getElem?_eq_getElem hlt⟩; have hcell := HW.out i x hx; have hcell2 := HB.out.cell (p := ⟨g, o + i, none⟩) (World.block_lt_of_cell? (a := ⟨g, o + i, none⟩) _ hcell); rw [hcell] at hcell2; have HX := jh hx; clear hcell hx; obtain ⟨wo, rfl⟩ : ∃ wo : World, wo = wr := ⟨_, rfl⟩
   go_wp2
   go_loopw [7, 31] (fun v j wr => ∃ j' : Nat, j' ≤ k ∧ j = .int .i64 j' ∧ wr.ownsRow w.heap.size 5 1 v (b.length + k * i + j') (jp .u8 (b ++ YX k (ws.take i) ++ (be k x).take j')) ∧ Below w.heap.size w wr) (fun _ j _ => k - (intOf j).toNat)
   case atStart => exact ⟨0, Nat.zero_le _, rfl, by simpa using HO.out, HB.out⟩
   case round =>
    obtain ⟨j, hj, rfl, hown, hbel⟩ := hrel; have HP := jh hown; have HC2 := jh hbel; clear hown hbel hcell2
    by_cases hjk : j < k
    ·have hmul : b.length + k * i + j + 1 ≤ b.length + k * ws.length := by
      have := Nat.mul_le_mul_left k (show i + 1 ≤ ws.length from hlt); rw [Nat.mul_succ] at this; omega
     have HM := jh (show b.length + k * i + j + 1 ≤ 140737488355328 by omega); clear hmul
     go_wp2_with (at_builtin; refine wpList_append_own _ rfl _ _ 30 rfl w.heap.size 5 i0 (.int .u8 0) 1 1 Tryz.underlying30 HI.out hz0 hz1 hz2 rfl (by decide) _ _ _ rfl (HP.out.alloc _) ⟨wr.heap.size, 0, none⟩ 1 1 [.int .u8 ((x : Int) / 2 ^ (8 * (k - 1 - j)) % 256)] rfl rfl (Qx _ _ _) (Zg _) (by have := HM.out; unfold maxLen; omega) (by have := HM.out; omega) (by have := HC2.out.size; simp only [World.size_alloc]; omega) ?_; intro v' w2 hown2 hgrow _; have U9 := jh hown2; have HG2 := jh hgrow; clear hown2 hgrow)
     go_roundw
     case rel => exact ⟨j + 1, by omega, by go_num, by
      rw [JB hjk, ← List.append_assoc, jV, show jp .u8 [x / 256 ^ (k - 1 - j) % 256] = [.int .u8 ((x : Int) / 2 ^ (8 * (k - 1 - j)) % 256)] by rw [EE]; rfl]
      exact U9.out, (HC2.out.alloc HC2.out.size _).grown HG2.out (by have := HC2.out.size; simp only [World.size_alloc]; omega) (fun q hq => (HP.out.lt q hq).1)⟩
     case measure => simp [intOf]; omega
    ·obtain rfl : j = k := by omega
     go_wp2
     go_roundw
     case rel => exact ⟨i + 1, by omega, by go_num, by
      have h1 := HP.out; rw [show (be j x).take j = be j x from List.take_of_length_le (by rw [jH]; exact Nat.le_refl _), List.append_assoc, ← bes_take j ws i x HX.out] at h1; rw [show b.length + j * (i + 1) = b.length + j * i + j by rw [Nat.mul_succ]; omega]
      exact h1, HC2.out⟩
     case measure => simp [intOf]; omega
  ·obtain rfl : i = ws.length := by omega
   go_wp2
   go_ret
   exact ⟨_, rfl, by have h1 := HO.out; rw [List.take_length] at h1; exact h1, HB.out⟩
theorem TU {b ws : List Nat} {v vs : Value} {k : Nat} (ki : Int) (hki : ki = k) (w : World) (hv : J6 .u8 w v b) (hk : k ≤ 8) (hvs : J6 .u64 w vs ws) (hne : 0 < ws.length) (hsz : b.length + k * ws.length ≤ 140737488355328) :
  Calls Tryz.prog 102 #[v, .int .i64 ki, vs] w fun e w' => ∃ v', e = .returned v' ∧ Own w' w.heap.size v' (b ++ YX k ws) ∧ Below w.heap.size w w' := by
 subst hki; exact (put_any w hv hk hvs hne hsz).mono fun _ _ ⟨v', he, ho, hb⟩ => ⟨v', he, by unfold Own; rw [List.length_append, YT]; exact O1.of_row ho, hb⟩
def many (bytes : Int) : Nat := (min 8 (max 0 bytes)).toNat
theorem dV (bytes : Int) : many bytes ≤ 8 := by unfold many; omega
theorem mO {b : List Nat} {v : Value} (w : World) (hv : J6 .u8 w v b) (n : Nat) (bytes : Int) (h0 : -9223372036854775808 ≤ bytes) (h1 : bytes ≤ 9223372036854775807) (hsz : b.length + 8 ≤ 140737488355328) :
  Calls Tryz.prog 121 #[v, .int .u64 n, .int .i64 bytes] w fun e w' => ∃ v', e = .returned v' ∧ Own w' w.heap.size v' (b ++ be (many bytes) n) ∧ Below w.heap.size w w' := by
 have HV := jh hv; have hm := dV bytes
 have HW := jh (show ∀ t, J6 .u64 (w.alloc (.cells #[.int .u64 n] t)) (.slice (some ⟨w.heap.size, 0, none⟩) 1 1) [n] from fun t => ⟨_, _, rfl, Nat.le_refl _, by unfold maxLen; omega, (fun h => by cases h), fun _ => ⟨_, _, rfl, fun i x hx => by
  cases i with
  | zero => simp at hx; subst hx; simp
  | succ i => simp at hx⟩⟩)
 have HP := jh (fun t ki hki => TU (k := many bytes) ki hki _ (HV.out.later ((Below.refl _ w).alloc (Nat.le_refl _) (.cells #[.int .u64 n] t))) hm (HW.out t) (by simp) (by simp; omega)); clear hv; have hc : bytes ≤ 0 ∨ (0 < bytes ∧ bytes < 8) ∨ 8 ≤ bytes := by omega
 have HF := jh (fun (m : Nat) (v' : Value) (w1 : World) (t : TypeId) (ho : Own w1 (w.alloc (.cells #[.int .u64 n] t)).heap.size v' (b ++ YX m [n])) (hb : Below (w.alloc (.cells #[.int .u64 n] t)).heap.size (w.alloc (.cells #[.int .u64 n] t)) w1) =>
  (show Own w1 w.heap.size v' (b ++ be m n) ∧ Below w.heap.size w w1 from
   ⟨by have h2 := ho.base (B' := w.heap.size) (by simp); simpa [YX] using h2, ((Below.refl _ w).alloc (Nat.le_refl _) _).trans (hb.mono (by simp))⟩))
 rcases hc with hc | ⟨hc1, hc2⟩ | hc
 ·have e0 : many bytes = 0 := by unfold many; omega
  rw [e0] at HP ⊢; clear HV HW hm e0
  go_enter Tryz.func121, Tryz.ntmps121
  go_wp2_with (go_at_call 102; refine (HP.out _ 0 rfl).mono ?_; rintro e w1 ⟨v', rfl, ho, hb⟩; have HQ := jh (HF.out _ _ _ _ ho hb); clear ho hb)
  go_ret
  exact ⟨_, rfl, HQ.out⟩
 ·obtain ⟨m, rfl⟩ : ∃ m : Nat, bytes = m := ⟨bytes.toNat, by omega⟩; have e0 : many m = m := by unfold many; omega
  rw [e0] at HP ⊢; clear HV HW hm e0
  go_enter Tryz.func121, Tryz.ntmps121
  go_wp2_with (go_at_call 102; refine (HP.out _ m rfl).mono ?_; rintro e w1 ⟨v', rfl, ho, hb⟩; have HQ := jh (HF.out _ _ _ _ ho hb); clear ho hb)
  go_ret
  exact ⟨_, rfl, HQ.out⟩
 ·have e0 : many bytes = 8 := by unfold many; omega
  rw [e0] at HP ⊢; clear HV HW hm e0
  go_enter Tryz.func121, Tryz.ntmps121
  go_wp2_with (go_at_call 102; refine (HP.out _ 8 rfl).mono ?_; rintro e w1 ⟨v', rfl, ho, hb⟩; have HQ := jh (HF.out _ _ _ _ ho hb); clear ho hb)
  go_ret
  exact ⟨_, rfl, HQ.out⟩
theorem own_start (w : World) (c : Nat) (hc : c ≤ maxLen) : (w.alloc (.cells (List.replicate c (Value.int .u8 0)).toArray 5)).ownsRow w.heap.size 5 1 (.slice (some ⟨w.heap.size, 0, none⟩) 0 c) 0 (jp .u8 []) :=
 ⟨by simp [jp], .inr ⟨w.heap.size, c, _, rfl, Nat.le_refl _, heap_alloc_new w _, Nat.zero_le _, hc, by simp, by simp [jp]⟩⟩
theorem ZN (l : List Nat) (x : Nat) : jp .u8 (l ++ [x]) = jp .u8 l ++ [.int .u8 x] := by rw [jV]; rfl
def Twin (w : World) (base : Nat) (v : Value) (l : List Nat) : Prop := ∃ g o cap, v = .slice (some ⟨g, o, none⟩) l.length cap ∧ Own w base (.slice (some ⟨g, o, none⟩) (l.length + 1) cap) (l ++ [77])
theorem Twin.later {w w' : World} {base : Nat} {v : Value} {l : List Nat} (h : Twin w base v l) (hb : Below w.heap.size w w') : Twin w' base v l := by
 obtain ⟨g, o, cap, h1, h2⟩ := h; exact ⟨g, o, cap, h1, h2.later hb⟩
theorem Twin.own {w : World} {base : Nat} {v : Value} {l : List Nat} (h : Twin w base v l) : Own w base v l := by
 obtain ⟨g, o, cap, rfl, h0⟩ := h; unfold Own at h0; rw [List.length_append, List.length_singleton] at h0; obtain ⟨h1, h2⟩ := h0
 rcases h2 with ⟨h2, _⟩ | ⟨g', o', cap', cur, h3, h4, h5, h6, h7, h8, h9⟩
 ·cases h2
 ·cases h3
  refine ⟨by simp [jt], .inr ⟨g, o, cap, cur, rfl, h4, h5, by omega, h7, h8, ?_⟩⟩; rw [ZN] at h9; have := congrArg (List.take l.length) h9; rw [List.take_take, show min l.length ((l.length + 1) * 1) = l.length by omega] at this; rw [Nat.mul_one, this, List.take_left' (by rw [jt])]
theorem Twin_any {l : List Nat} {v : Value} (w : World) (hv : J6 .u8 w v l) (hsz : l.length + 1 ≤ 140737488355328) :
  Calls Tryz.prog 6 #[v] w fun e w' => ∃ v', e = .returned v' ∧ Twin w' w.heap.size v' l ∧ Below w.heap.size w w' := by
 obtain ⟨i0, hi, hz0, hz1, hz2⟩ := info_parts QI; obtain ⟨ao, cap, rfl, hc1, hc2, hc3, hc4⟩ := hv; have hm1 := hc2; unfold maxLen at hm1; have HC := jh hc4; have HI := jh hi
 have hmk : ∀ w, (Instr.makeSlice 30 (.int .i64 0) (.int .i64 ((l.length : Int) + 1))).run Tryz.prog w = .ok (.slice (some ⟨w.heap.size, 0, none⟩) 0 (l.length + 1)) (w.alloc (.cells (List.replicate (l.length + 1) (Value.int .u8 0)).toArray 5)) := by
  intro w; have e := run_make (P := Tryz.prog) w 30 5 i0 (.int .u8 0) Tryz.underlying30 hi hz0 .i64 .i64 0 ((l.length : Int) + 1) (by omega) (by omega) (by rw [hz2]; omega) (by omega); rw [e, hz1, show ((l.length : Int) + 1).toNat = l.length + 1 by omega, BI]
  rfl
 have HST := jh (own_start w (l.length + 1) (by unfold maxLen; omega)); have HBE := jh ((Below.refl w.heap.size w).alloc (Nat.le_refl _) (.cells (List.replicate (l.length + 1) (Value.int .u8 0)).toArray 5)); clear hi hc4 hc2 hc3
 go_enter Tryz.func6, Tryz.ntmps6
 go_wp2
 go_loopw [3, 4] (fun v i wr => ∃ i' : Nat, i' ≤ l.length ∧ i = .int .i64 i' ∧ wr.ownsRow w.heap.size 5 1 v i' (jp .u8 (l.take i')) ∧ Below w.heap.size w wr) (fun _ i _ => l.length - (intOf i).toNat)
 case atStart => exact ⟨0, Nat.zero_le _, rfl, by simpa using HST.out, HBE.out⟩
 case round =>
  obtain ⟨i, hi, rfl, hown, hbel⟩ := hrel; have HP := jh hown; have HB := jh hbel; clear hown hbel HST HBE
  by_cases hlt : i < l.length
  ·obtain ⟨x, hx⟩ : ∃ x, l[i]? = some x := ⟨_, List.getElem?_eq_getElem hlt⟩; obtain ⟨g, o, rfl, hcells⟩ := HC.out (by omega); have hcell := hcells i x hx; have hcell2 := HB.out.cell (p := ⟨g, o + i, none⟩) (World.block_lt_of_cell? (a := ⟨g, o + i, none⟩) _ hcell); rw [hcell] at hcell2; have HX := jh hx; clear hcell hx hcells hmk
   go_wp2_with (at_builtin; refine wpList_append_own _ rfl _ _ 30 rfl w.heap.size 5 i0 (.int .u8 0) 1 1 Tryz.underlying30 HI.out hz0 hz1 hz2 rfl (by decide) _ _ _ rfl (HP.out.alloc _) ⟨wr.heap.size, 0, none⟩ 1 1 [.int .u8 x] rfl rfl (Qx _ _ _) (Zg _) (by unfold maxLen; omega) (by omega) (by have := HB.out.size; simp only [World.size_alloc]; omega) ?_; intro v' w2 hown2 hgrow _; have U9 := jh hown2; have HG2 := jh hgrow; clear hown2 hgrow)
   go_roundw
   case rel => exact ⟨i + 1, by omega, by go_num, by
    rw [List.take_add_one, HX.out, show (some x).toList = [x] from rfl, ZN]
    exact U9.out, (HB.out.alloc HB.out.size _).grown HG2.out (by have := HB.out.size; simp only [World.size_alloc]; omega) (fun q hq => (HP.out.lt q hq).1)⟩
   case measure => simp [intOf]; omega
  ·obtain rfl : i = l.length := by omega
   clear hmk hlt
   have HCS := jh (fun (v' : Value) (w2 : World) (h : w2.ownsRow w.heap.size 5 1 v' (l.length + 1) (jp .u8 (l.take l.length) ++ [.int .u8 77])) => show ∃ g cap, v' = .slice (some ⟨g, 0, none⟩) (l.length + 1) cap ∧ l.length + 1 ≤ cap ∧ cap ≤ 9223372036854775807 ∧ Own w2 w.heap.size (.slice (some ⟨g, 0, none⟩) (l.length + 1) cap) (l ++ [77]) from by
    rw [List.take_length, show [Value.int .u8 77] = [Value.int .u8 ((77 : Nat) : Int)] from rfl, ← ZN] at h; have h2 := O1.of_row h; obtain ⟨h3, h4⟩ := h
    rcases h4 with ⟨_, h4⟩ | ⟨g, cap, cur, rfl, h5, h6, h7, h8, h9, h10⟩
    ·omega
    ·exact ⟨g, cap, rfl, h7, h8, by unfold Own; rw [List.length_append, List.length_singleton]; exact h2⟩)
   go_wp2_with (at_builtin; refine wpList_append_own _ rfl _ _ 30 rfl w.heap.size 5 i0 (.int .u8 0) 1 1 Tryz.underlying30 HI.out hz0 hz1 hz2 rfl (by decide) _ _ _ rfl (HP.out.alloc _) ⟨wr.heap.size, 0, none⟩ 1 1 [.int .u8 77] rfl rfl (Qx _ _ _) (Zg _) (by unfold maxLen; omega) (by omega) (by have := HB.out.size; simp only [World.size_alloc]; omega) ?_; intro v' w2 hown2 hgrow _; obtain ⟨g9, c9, rfl, wX, hd9, ho9⟩ := HCS.out v' w2 hown2; have U9 := jh ho9; have HG2 := jh hgrow; clear hown2 hgrow ho9)
   go_ret
   exact ⟨_, rfl, ⟨g9, 0, c9, rfl, U9.out⟩, (HB.out.alloc HB.out.size _).grown HG2.out (by have := HB.out.size; simp only [World.size_alloc]; omega) (fun q hq => (HP.out.lt q hq).1)⟩
theorem Left_any {l : List Nat} {v u : Value} {base : Nat} (w : World) (hv : Twin w base v l) (hu : J6 .u8 w u l) :
  Calls Tryz.prog 18 #[v, u] w fun e w' => e = .returned (.bool true) ∧ ∃ n, w' = w.drewN n := by
 obtain ⟨g, o, cap, rfl, ho⟩ := hv; have hk := ho.at_; obtain ⟨_, _, he, hk1, hk2, _, hk4⟩ := hk; rw [List.length_append, List.length_singleton] at he hk1
 cases he
 obtain ⟨_, _, he, hcell⟩ := hk4 (by simp)
 cases he
 have c77 := hcell l.length 77 (by simp); have HT := jh (fun (i x : Nat) (hx : l[i]? = some x) => hcell i x (by rw [List.getElem?_append_left (List.getElem?_eq_some_iff.1 hx).1]; exact hx)); obtain ⟨ao, cu, rfl, hu1, hu2, hu3, hu4⟩ := hu; have HU := jh hu4; have HC7 := jh c77; unfold maxLen at hk2 hu2; have hle : ((cap : Int) ≤ (l.length : Int)) = False := by simp; omega
 have hdl : decide ((cap : Int) ≤ (l.length : Int)) = false := by simp; omega
 clear hcell hk4 hu4 ho hu3 c77
 go_enter Tryz.func18, Tryz.ntmps18
 go_wp2
 go_loopw [5] (fun i wr => ∃ i' n : Nat, i' ≤ l.length ∧ i = .int .i64 i' ∧ wr = w.drewN n) (fun i _ => l.length - (intOf i).toNat)
 case atStart => exact ⟨0, 0, Nat.zero_le _, rfl, rfl⟩
 case round =>
  obtain ⟨i, n, hi, rfl, rfl⟩ := hrel
  by_cases hlt : i < l.length
  ·obtain ⟨x, hx⟩ : ∃ x, l[i]? = some x := ⟨_, List.getElem?_eq_getElem hlt⟩; have cx := HT.out i x hx; obtain ⟨h, p, rfl, hcells⟩ := HU.out (by omega); have cy := hcells i x hx; clear hx hcells
   go_wp2
   go_quiet (fail)
   go_wp2
   go_roundw
   case rel => exact ⟨i + 1, _, by omega, by go_num, rfl⟩
   case measure => simp [intOf]; omega
  ·obtain rfl : i = l.length := by omega
   have c77 := HC7.out; clear hlt
   go_wp2
   go_ret
   exact ⟨rfl, _, rfl⟩
theorem zA (w : World) (base : Nat) : O1 w base 5 1 (.slice none 0 0) 0 [] := ⟨rfl, .inl ⟨rfl, rfl⟩⟩
theorem Zc (w : World) (z : Int) (t : TypeId) : Zq (w.alloc (.cells #[.int .u8 z] t)) 1 (.slice (some ⟨w.heap.size, 0, none⟩) 1 1) 1 [.int .u8 z] := by
 refine ⟨_, 1, rfl, rfl, Zg _, (fun h => by cases h), fun ad had j u hu => ?_⟩
 cases had
 exact Qx w _ t j u hu
theorem ER {w : World} {base n : Nat} {v : Value} {l : List Nat} (h : Twin w base v l) (hn : l.length = n) : ∃ a c, v = .slice a n c := by
 obtain ⟨g, o, cap, rfl, _⟩ := h; exact ⟨_, _, by rw [hn]⟩
def Four (w : World) (b z0 z1 z2 z3 : Nat) : Prop := w.cell? ⟨b, 0, none⟩ = some (.int .u64 z0) ∧ w.cell? ⟨b, 1, none⟩ = some (.int .u64 z1) ∧ w.cell? ⟨b, 2, none⟩ = some (.int .u64 z2) ∧ w.cell? ⟨b, 3, none⟩ = some (.int .u64 z3)
theorem Four.later {w w' : World} {b z0 z1 z2 z3 : Nat} (h : Four w b z0 z1 z2 z3) (hb : Below w.heap.size w w') : Four w' b z0 z1 z2 z3 := ⟨jm h.1 hb, jm h.2.1 hb, jm h.2.2.1 hb, jm h.2.2.2 hb⟩
theorem Four.new (w : World) (z0 z1 z2 z3 : Nat) (t : TypeId) : Four (w.alloc (.cells #[.int .u64 z0, .int .u64 z1, .int .u64 z2, .int .u64 z3] t)) w.heap.size z0 z1 z2 z3 := by
 refine ⟨?_, ?_, ?_, ?_⟩ <;> simp
theorem EN (w : World) (B : Nat) (h : w.cell? ⟨B, 2, none⟩ = some (.slice none 0 0)) : Calls Tryz.prog 43 #[.pointer (some ⟨B, 0, none⟩)] w fun e w' => e = .returned (.tuple #[]) ∧ w = w' := by
 go_enter Tryz.func43, Tryz.ntmps43
 go_wp2
 refine wp_loop_rounds 1 ?_; rw [rounds_succ]
 go_wp2
 go_end0
 exact ⟨rfl, rfl⟩
theorem uN (w : World) (B : Nat) (h : w.cell? ⟨B, 2, none⟩ = some (.slice none 0 0)) : Calls Tryz.prog 60 #[.pointer (some ⟨B, 0, none⟩)] w fun e w' => e = .returned (.tuple #[]) ∧ w = w' := by
 go_enter Tryz.func60, Tryz.ntmps60
 go_wp2
 refine wp_loop_rounds 1 ?_; rw [rounds_succ]
 go_wp2
 go_end0
 exact ⟨rfl, rfl⟩
theorem XM (w : World) (B : Nat) (h : w.cell? ⟨B, 2, none⟩ = some (.slice none 0 0)) : Calls Tryz.prog 77 #[.pointer (some ⟨B, 0, none⟩)] w fun e w' => e = .returned (.bool true) ∧ w = w' := by
 go_enter Tryz.func77, Tryz.ntmps77
 go_wp2
 refine wp_loop_rounds 1 ?_; rw [rounds_succ]
 go_wp2
 go_ret
 exact ⟨rfl, rfl⟩
theorem uK (w : World) (B : Nat) (h : w.cell? ⟨B, 3, none⟩ = some (.slice none 0 0)) : Calls Tryz.prog 44 #[.pointer (some ⟨B, 0, none⟩)] w fun e w' => e = .returned (.tuple #[]) ∧ w = w' := by
 go_enter Tryz.func44, Tryz.ntmps44
 go_wp2
 refine wp_loop_rounds 1 ?_; rw [rounds_succ]
 go_wp2
 go_end0
 exact ⟨rfl, rfl⟩
theorem lK (w : World) (B : Nat) (h : w.cell? ⟨B, 3, none⟩ = some (.slice none 0 0)) : Calls Tryz.prog 61 #[.pointer (some ⟨B, 0, none⟩)] w fun e w' => e = .returned (.tuple #[]) ∧ w = w' := by
 go_enter Tryz.func61, Tryz.ntmps61
 go_wp2
 refine wp_loop_rounds 1 ?_; rw [rounds_succ]
 go_wp2
 go_end0
 exact ⟨rfl, rfl⟩
theorem VJ (w : World) (B : Nat) (h : w.cell? ⟨B, 3, none⟩ = some (.slice none 0 0)) : Calls Tryz.prog 78 #[.pointer (some ⟨B, 0, none⟩)] w fun e w' => e = .returned (.bool true) ∧ w = w' := by
 go_enter Tryz.func78, Tryz.ntmps78
 go_wp2
 refine wp_loop_rounds 1 ?_; rw [rounds_succ]
 go_wp2
 go_ret
 exact ⟨rfl, rfl⟩
theorem BN (w : World) (B : Nat) (h : w.cell? ⟨B, 4, none⟩ = some (.slice none 0 0)) : Calls Tryz.prog 45 #[.pointer (some ⟨B, 0, none⟩)] w fun e w' => e = .returned (.tuple #[]) ∧ w = w' := by
 go_enter Tryz.func45, Tryz.ntmps45
 go_wp2
 refine wp_loop_rounds 1 ?_; rw [rounds_succ]
 go_wp2
 go_end0
 exact ⟨rfl, rfl⟩
theorem sN (w : World) (B : Nat) (h : w.cell? ⟨B, 4, none⟩ = some (.slice none 0 0)) : Calls Tryz.prog 62 #[.pointer (some ⟨B, 0, none⟩)] w fun e w' => e = .returned (.tuple #[]) ∧ w = w' := by
 go_enter Tryz.func62, Tryz.ntmps62
 go_wp2
 refine wp_loop_rounds 1 ?_; rw [rounds_succ]
 go_wp2
 go_end0
 exact ⟨rfl, rfl⟩
theorem VM (w : World) (B : Nat) (h : w.cell? ⟨B, 4, none⟩ = some (.slice none 0 0)) : Calls Tryz.prog 79 #[.pointer (some ⟨B, 0, none⟩)] w fun e w' => e = .returned (.bool true) ∧ w = w' := by
 go_enter Tryz.func79, Tryz.ntmps79
 go_wp2
 refine wp_loop_rounds 1 ?_; rw [rounds_succ]
 go_wp2
 go_ret
 exact ⟨rfl, rfl⟩
theorem vK (w : World) (B : Nat) (h : w.cell? ⟨B, 5, none⟩ = some (.slice none 0 0)) : Calls Tryz.prog 46 #[.pointer (some ⟨B, 0, none⟩)] w fun e w' => e = .returned (.tuple #[]) ∧ w = w' := by
 go_enter Tryz.func46, Tryz.ntmps46
 go_wp2
 refine wp_loop_rounds 1 ?_; rw [rounds_succ]
 go_wp2
 go_end0
 exact ⟨rfl, rfl⟩
theorem pK (w : World) (B : Nat) (h : w.cell? ⟨B, 5, none⟩ = some (.slice none 0 0)) : Calls Tryz.prog 63 #[.pointer (some ⟨B, 0, none⟩)] w fun e w' => e = .returned (.tuple #[]) ∧ w = w' := by
 go_enter Tryz.func63, Tryz.ntmps63
 go_wp2
 refine wp_loop_rounds 1 ?_; rw [rounds_succ]
 go_wp2
 go_end0
 exact ⟨rfl, rfl⟩
theorem WJ (w : World) (B : Nat) (h : w.cell? ⟨B, 5, none⟩ = some (.slice none 0 0)) : Calls Tryz.prog 80 #[.pointer (some ⟨B, 0, none⟩)] w fun e w' => e = .returned (.bool true) ∧ w = w' := by
 go_enter Tryz.func80, Tryz.ntmps80
 go_wp2
 refine wp_loop_rounds 1 ?_; rw [rounds_succ]
 go_wp2
 go_ret
 exact ⟨rfl, rfl⟩
theorem XG (w : World) (B : Nat) (h : w.cell? ⟨B, 6, none⟩ = some (.slice none 0 0)) : Calls Tryz.prog 47 #[.pointer (some ⟨B, 0, none⟩)] w fun e w' => e = .returned (.tuple #[]) ∧ w = w' := by
 go_enter Tryz.func47, Tryz.ntmps47
 go_wp2
 refine wp_loop_rounds 1 ?_; rw [rounds_succ]
 go_wp2
 go_end0
 exact ⟨rfl, rfl⟩
theorem UG (w : World) (B : Nat) (h : w.cell? ⟨B, 6, none⟩ = some (.slice none 0 0)) : Calls Tryz.prog 64 #[.pointer (some ⟨B, 0, none⟩)] w fun e w' => e = .returned (.tuple #[]) ∧ w = w' := by
 go_enter Tryz.func64, Tryz.ntmps64
 go_wp2
 refine wp_loop_rounds 1 ?_; rw [rounds_succ]
 go_wp2
 go_end0
 exact ⟨rfl, rfl⟩
theorem OG (w : World) (B : Nat) (h : w.cell? ⟨B, 6, none⟩ = some (.slice none 0 0)) : Calls Tryz.prog 81 #[.pointer (some ⟨B, 0, none⟩)] w fun e w' => e = .returned (.bool true) ∧ w = w' := by
 go_enter Tryz.func81, Tryz.ntmps81
 go_wp2
 refine wp_loop_rounds 1 ?_; rw [rounds_succ]
 go_wp2
 go_ret
 exact ⟨rfl, rfl⟩
theorem fJ (w : World) (B : Nat) (h : w.cell? ⟨B, 8, none⟩ = some (.slice none 0 0)) : Calls Tryz.prog 49 #[.pointer (some ⟨B, 0, none⟩)] w fun e w' => e = .returned (.tuple #[]) ∧ w = w' := by
 go_enter Tryz.func49, Tryz.ntmps49
 go_wp2
 refine wp_loop_rounds 1 ?_; rw [rounds_succ]
 go_wp2
 go_end0
 exact ⟨rfl, rfl⟩
theorem XI (w : World) (B : Nat) (h : w.cell? ⟨B, 8, none⟩ = some (.slice none 0 0)) : Calls Tryz.prog 66 #[.pointer (some ⟨B, 0, none⟩)] w fun e w' => e = .returned (.tuple #[]) ∧ w = w' := by
 go_enter Tryz.func66, Tryz.ntmps66
 go_wp2
 refine wp_loop_rounds 1 ?_; rw [rounds_succ]
 go_wp2
 go_end0
 exact ⟨rfl, rfl⟩
theorem FI (w : World) (B : Nat) (h : w.cell? ⟨B, 8, none⟩ = some (.slice none 0 0)) : Calls Tryz.prog 83 #[.pointer (some ⟨B, 0, none⟩)] w fun e w' => e = .returned (.bool true) ∧ w = w' := by
 go_enter Tryz.func83, Tryz.ntmps83
 go_wp2
 refine wp_loop_rounds 1 ?_; rw [rounds_succ]
 go_wp2
 go_ret
 exact ⟨rfl, rfl⟩
theorem wF (w : World) (B : Nat) (h : w.cell? ⟨B, 9, none⟩ = some (.slice none 0 0)) : Calls Tryz.prog 50 #[.pointer (some ⟨B, 0, none⟩)] w fun e w' => e = .returned (.tuple #[]) ∧ w = w' := by
 go_enter Tryz.func50, Tryz.ntmps50
 go_wp2
 refine wp_loop_rounds 1 ?_; rw [rounds_succ]
 go_wp2
 go_end0
 exact ⟨rfl, rfl⟩
theorem uF (w : World) (B : Nat) (h : w.cell? ⟨B, 9, none⟩ = some (.slice none 0 0)) : Calls Tryz.prog 67 #[.pointer (some ⟨B, 0, none⟩)] w fun e w' => e = .returned (.tuple #[]) ∧ w = w' := by
 go_enter Tryz.func67, Tryz.ntmps67
 go_wp2
 refine wp_loop_rounds 1 ?_; rw [rounds_succ]
 go_wp2
 go_end0
 exact ⟨rfl, rfl⟩
theorem mF (w : World) (B : Nat) (h : w.cell? ⟨B, 9, none⟩ = some (.slice none 0 0)) : Calls Tryz.prog 84 #[.pointer (some ⟨B, 0, none⟩)] w fun e w' => e = .returned (.bool true) ∧ w = w' := by
 go_enter Tryz.func84, Tryz.ntmps84
 go_wp2
 refine wp_loop_rounds 1 ?_; rw [rounds_succ]
 go_wp2
 go_ret
 exact ⟨rfl, rfl⟩
theorem YG (w : World) (B : Nat) (h : w.cell? ⟨B, 10, none⟩ = some (.slice none 0 0)) : Calls Tryz.prog 51 #[.pointer (some ⟨B, 0, none⟩)] w fun e w' => e = .returned (.tuple #[]) ∧ w = w' := by
 go_enter Tryz.func51, Tryz.ntmps51
 go_wp2
 refine wp_loop_rounds 1 ?_; rw [rounds_succ]
 go_wp2
 go_end0
 exact ⟨rfl, rfl⟩
theorem VG (w : World) (B : Nat) (h : w.cell? ⟨B, 10, none⟩ = some (.slice none 0 0)) : Calls Tryz.prog 68 #[.pointer (some ⟨B, 0, none⟩)] w fun e w' => e = .returned (.tuple #[]) ∧ w = w' := by
 go_enter Tryz.func68, Tryz.ntmps68
 go_wp2
 refine wp_loop_rounds 1 ?_; rw [rounds_succ]
 go_wp2
 go_end0
 exact ⟨rfl, rfl⟩
theorem PG (w : World) (B : Nat) (h : w.cell? ⟨B, 10, none⟩ = some (.slice none 0 0)) : Calls Tryz.prog 85 #[.pointer (some ⟨B, 0, none⟩)] w fun e w' => e = .returned (.bool true) ∧ w = w' := by
 go_enter Tryz.func85, Tryz.ntmps85
 go_wp2
 refine wp_loop_rounds 1 ?_; rw [rounds_succ]
 go_wp2
 go_ret
 exact ⟨rfl, rfl⟩
theorem dJ (w : World) (B : Nat) (h : w.cell? ⟨B, 11, none⟩ = some (.slice none 0 0)) : Calls Tryz.prog 52 #[.pointer (some ⟨B, 0, none⟩)] w fun e w' => e = .returned (.tuple #[]) ∧ w = w' := by
 go_enter Tryz.func52, Tryz.ntmps52
 go_wp2
 refine wp_loop_rounds 1 ?_; rw [rounds_succ]
 go_wp2
 go_end0
 exact ⟨rfl, rfl⟩
theorem WI (w : World) (B : Nat) (h : w.cell? ⟨B, 11, none⟩ = some (.slice none 0 0)) : Calls Tryz.prog 69 #[.pointer (some ⟨B, 0, none⟩)] w fun e w' => e = .returned (.tuple #[]) ∧ w = w' := by
 go_enter Tryz.func69, Tryz.ntmps69
 go_wp2
 refine wp_loop_rounds 1 ?_; rw [rounds_succ]
 go_wp2
 go_end0
 exact ⟨rfl, rfl⟩
theorem EI (w : World) (B : Nat) (h : w.cell? ⟨B, 11, none⟩ = some (.slice none 0 0)) : Calls Tryz.prog 86 #[.pointer (some ⟨B, 0, none⟩)] w fun e w' => e = .returned (.bool true) ∧ w = w' := by
 go_enter Tryz.func86, Tryz.ntmps86
 go_wp2
 refine wp_loop_rounds 1 ?_; rw [rounds_succ]
 go_wp2
 go_ret
 exact ⟨rfl, rfl⟩
theorem sK (w : World) (B : Nat) (h : w.cell? ⟨B, 12, none⟩ = some (.slice none 0 0)) : Calls Tryz.prog 53 #[.pointer (some ⟨B, 0, none⟩)] w fun e w' => e = .returned (.tuple #[]) ∧ w = w' := by
 go_enter Tryz.func53, Tryz.ntmps53
 go_wp2
 refine wp_loop_rounds 1 ?_; rw [rounds_succ]
 go_wp2
 go_end0
 exact ⟨rfl, rfl⟩
theorem iK (w : World) (B : Nat) (h : w.cell? ⟨B, 12, none⟩ = some (.slice none 0 0)) : Calls Tryz.prog 70 #[.pointer (some ⟨B, 0, none⟩)] w fun e w' => e = .returned (.tuple #[]) ∧ w = w' := by
 go_enter Tryz.func70, Tryz.ntmps70
 go_wp2
 refine wp_loop_rounds 1 ?_; rw [rounds_succ]
 go_wp2
 go_end0
 exact ⟨rfl, rfl⟩
theorem UJ (w : World) (B : Nat) (h : w.cell? ⟨B, 12, none⟩ = some (.slice none 0 0)) : Calls Tryz.prog 87 #[.pointer (some ⟨B, 0, none⟩)] w fun e w' => e = .returned (.bool true) ∧ w = w' := by
 go_enter Tryz.func87, Tryz.ntmps87
 go_wp2
 refine wp_loop_rounds 1 ?_; rw [rounds_succ]
 go_wp2
 go_ret
 exact ⟨rfl, rfl⟩
theorem iJ (w : World) (B : Nat) (h : w.cell? ⟨B, 13, none⟩ = some (.slice none 0 0)) : Calls Tryz.prog 54 #[.pointer (some ⟨B, 0, none⟩)] w fun e w' => e = .returned (.tuple #[]) ∧ w = w' := by
 go_enter Tryz.func54, Tryz.ntmps54
 go_wp2
 refine wp_loop_rounds 1 ?_; rw [rounds_succ]
 go_wp2
 go_end0
 exact ⟨rfl, rfl⟩
theorem aJ (w : World) (B : Nat) (h : w.cell? ⟨B, 13, none⟩ = some (.slice none 0 0)) : Calls Tryz.prog 71 #[.pointer (some ⟨B, 0, none⟩)] w fun e w' => e = .returned (.tuple #[]) ∧ w = w' := by
 go_enter Tryz.func71, Tryz.ntmps71
 go_wp2
 refine wp_loop_rounds 1 ?_; rw [rounds_succ]
 go_wp2
 go_end0
 exact ⟨rfl, rfl⟩
theorem II (w : World) (B : Nat) (h : w.cell? ⟨B, 13, none⟩ = some (.slice none 0 0)) : Calls Tryz.prog 88 #[.pointer (some ⟨B, 0, none⟩)] w fun e w' => e = .returned (.bool true) ∧ w = w' := by
 go_enter Tryz.func88, Tryz.ntmps88
 go_wp2
 refine wp_loop_rounds 1 ?_; rw [rounds_succ]
 go_wp2
 go_ret
 exact ⟨rfl, rfl⟩
theorem wE (w : World) (B : Nat) (h : w.cell? ⟨B, 14, none⟩ = some (.slice none 0 0)) : Calls Tryz.prog 55 #[.pointer (some ⟨B, 0, none⟩)] w fun e w' => e = .returned (.tuple #[]) ∧ w = w' := by
 go_enter Tryz.func55, Tryz.ntmps55
 go_wp2
 refine wp_loop_rounds 1 ?_; rw [rounds_succ]
 go_wp2
 go_end0
 exact ⟨rfl, rfl⟩
theorem iE (w : World) (B : Nat) (h : w.cell? ⟨B, 14, none⟩ = some (.slice none 0 0)) : Calls Tryz.prog 72 #[.pointer (some ⟨B, 0, none⟩)] w fun e w' => e = .returned (.tuple #[]) ∧ w = w' := by
 go_enter Tryz.func72, Tryz.ntmps72
 go_wp2
 refine wp_loop_rounds 1 ?_; rw [rounds_succ]
 go_wp2
 go_end0
 exact ⟨rfl, rfl⟩
theorem OD (w : World) (B : Nat) (h : w.cell? ⟨B, 14, none⟩ = some (.slice none 0 0)) : Calls Tryz.prog 89 #[.pointer (some ⟨B, 0, none⟩)] w fun e w' => e = .returned (.bool true) ∧ w = w' := by
 go_enter Tryz.func89, Tryz.ntmps89
 go_wp2
 refine wp_loop_rounds 1 ?_; rw [rounds_succ]
 go_wp2
 go_ret
 exact ⟨rfl, rfl⟩
theorem DN (w : World) (B : Nat) (h : w.cell? ⟨B, 15, none⟩ = some (.slice none 0 0)) : Calls Tryz.prog 56 #[.pointer (some ⟨B, 0, none⟩)] w fun e w' => e = .returned (.tuple #[]) ∧ w = w' := by
 go_enter Tryz.func56, Tryz.ntmps56
 go_wp2
 refine wp_loop_rounds 1 ?_; rw [rounds_succ]
 go_wp2
 go_end0
 exact ⟨rfl, rfl⟩
theorem tN (w : World) (B : Nat) (h : w.cell? ⟨B, 15, none⟩ = some (.slice none 0 0)) : Calls Tryz.prog 73 #[.pointer (some ⟨B, 0, none⟩)] w fun e w' => e = .returned (.tuple #[]) ∧ w = w' := by
 go_enter Tryz.func73, Tryz.ntmps73
 go_wp2
 refine wp_loop_rounds 1 ?_; rw [rounds_succ]
 go_wp2
 go_end0
 exact ⟨rfl, rfl⟩
theorem WM (w : World) (B : Nat) (h : w.cell? ⟨B, 15, none⟩ = some (.slice none 0 0)) : Calls Tryz.prog 90 #[.pointer (some ⟨B, 0, none⟩)] w fun e w' => e = .returned (.bool true) ∧ w = w' := by
 go_enter Tryz.func90, Tryz.ntmps90
 go_wp2
 refine wp_loop_rounds 1 ?_; rw [rounds_succ]
 go_wp2
 go_ret
 exact ⟨rfl, rfl⟩
theorem gJ (w : World) (B : Nat) (h : w.cell? ⟨B, 16, none⟩ = some (.slice none 0 0)) : Calls Tryz.prog 57 #[.pointer (some ⟨B, 0, none⟩)] w fun e w' => e = .returned (.tuple #[]) ∧ w = w' := by
 go_enter Tryz.func57, Tryz.ntmps57
 go_wp2
 refine wp_loop_rounds 1 ?_; rw [rounds_succ]
 go_wp2
 go_end0
 exact ⟨rfl, rfl⟩
theorem YI (w : World) (B : Nat) (h : w.cell? ⟨B, 16, none⟩ = some (.slice none 0 0)) : Calls Tryz.prog 74 #[.pointer (some ⟨B, 0, none⟩)] w fun e w' => e = .returned (.tuple #[]) ∧ w = w' := by
 go_enter Tryz.func74, Tryz.ntmps74
 go_wp2
 refine wp_loop_rounds 1 ?_; rw [rounds_succ]
 go_wp2
 go_end0
 exact ⟨rfl, rfl⟩
theorem GI (w : World) (B : Nat) (h : w.cell? ⟨B, 16, none⟩ = some (.slice none 0 0)) : Calls Tryz.prog 91 #[.pointer (some ⟨B, 0, none⟩)] w fun e w' => e = .returned (.bool true) ∧ w = w' := by
 go_enter Tryz.func91, Tryz.ntmps91
 go_wp2
 refine wp_loop_rounds 1 ?_; rw [rounds_succ]
 go_wp2
 go_ret
 exact ⟨rfl, rfl⟩
theorem WG (w : World) (B : Nat) (h : w.cell? ⟨B, 17, none⟩ = some (.slice none 0 0)) : Calls Tryz.prog 58 #[.pointer (some ⟨B, 0, none⟩)] w fun e w' => e = .returned (.tuple #[]) ∧ w = w' := by
 go_enter Tryz.func58, Tryz.ntmps58
 go_wp2
 refine wp_loop_rounds 1 ?_; rw [rounds_succ]
 go_wp2
 go_end0
 exact ⟨rfl, rfl⟩
theorem TG (w : World) (B : Nat) (h : w.cell? ⟨B, 17, none⟩ = some (.slice none 0 0)) : Calls Tryz.prog 75 #[.pointer (some ⟨B, 0, none⟩)] w fun e w' => e = .returned (.tuple #[]) ∧ w = w' := by
 go_enter Tryz.func75, Tryz.ntmps75
 go_wp2
 refine wp_loop_rounds 1 ?_; rw [rounds_succ]
 go_wp2
 go_end0
 exact ⟨rfl, rfl⟩
theorem NG (w : World) (B : Nat) (h : w.cell? ⟨B, 17, none⟩ = some (.slice none 0 0)) : Calls Tryz.prog 92 #[.pointer (some ⟨B, 0, none⟩)] w fun e w' => e = .returned (.bool true) ∧ w = w' := by
 go_enter Tryz.func92, Tryz.ntmps92
 go_wp2
 refine wp_loop_rounds 1 ?_; rw [rounds_succ]
 go_wp2
 go_ret
 exact ⟨rfl, rfl⟩
def rep (n : Nat) (l : List Value) : List Value := (List.replicate n l).flatten
theorem Qw (n : Nat) (l : List Value) : (rep n l).length = n * l.length := by
 induction n with
 | zero => simp [rep]
 | succ n ih => unfold rep at ih ⊢; rw [List.replicate_succ, List.flatten_cons, List.length_append, ih, Nat.succ_mul]; omega
theorem ZV (n : Nat) (l : List Value) : rep (n + 1) l = rep n l ++ l := by
 unfold rep; rw [List.replicate_succ', List.flatten_append]
 simp
theorem RU {l : List Value} {s : Nat} (hs : l.length = s) {p q : Nat} {u : Value} (hq : l[q]? = some u) : ∀ {n : Nat}, p < n → (rep n l)[p * s + q]? = some u
 | n + 1, h => by
  have hql := (List.getElem?_eq_some_iff.1 hq).1; have hl := Qw n l; rw [hs] at hl
  by_cases hp : p < n
  ·have h1 : p * s + q < n * s := by have h2 : (p + 1) * s ≤ n * s := Nat.mul_le_mul_right s hp; rw [Nat.succ_mul] at h2; omega
   rw [ZV, List.getElem?_append_left (by omega)]; exact RU hs hq hp
  ·obtain rfl : p = n := by omega
   rw [ZV, List.getElem?_append_right (by omega), hl, show p * s + q - p * s = q by omega]; exact hq
def Zj (M : Nat → Nat) (L G : Nat → Value) : Nat → List Value
 | 0 => []
 | k + 1 => Zj M L G k ++ [L k, G k, .int .i64 (M k)]
theorem ZL (M : Nat → Nat) (L G : Nat → Value) : ∀ k, (Zj M L G k).length = k * 3
 | 0 => rfl
 | k + 1 => by rw [Zj, List.length_append, ZL M L G k]; simp; omega
theorem kV (M : Nat → Nat) (L G : Nat → Value) : ∀ {k i : Nat}, i < k → (Zj M L G k)[i * 3]? = some (L i) ∧ (Zj M L G k)[i * 3 + 1]? = some (G i) ∧ (Zj M L G k)[i * 3 + 2]? = some (.int .i64 (M i))
 | k + 1, i, h => by
  have hl := ZL M L G k
  by_cases hik : i < k
  ·obtain ⟨h1, h2, h3⟩ := kV M L G hik; rw [Zj, List.getElem?_append_left (by omega), List.getElem?_append_left (by omega), List.getElem?_append_left (by omega)]; exact ⟨h1, h2, h3⟩
  ·obtain rfl : i = k := by omega
   rw [Zj, List.getElem?_append_right (by omega), List.getElem?_append_right (by omega), List.getElem?_append_right (by omega), hl]
   simp [show i * 3 + 1 - i * 3 = 1 by omega, show i * 3 + 2 - i * 3 = 2 by omega]
theorem TL {M : Nat → Nat} {L L' G G' : Nat → Value} : ∀ {k : Nat}, (∀ i, i < k → L i = L' i ∧ G i = G' i) → Zj M L G k = Zj M L' G' k
 | 0, _ => rfl
 | k + 1, h => by rw [Zj, Zj, TL (k := k) fun i hi => h i (by omega), (h k (by omega)).1, (h k (by omega)).2]
theorem iV (M : Nat → Nat) (L G : Nat → Value) (v : Value) : ∀ {k i : Nat}, i < k → (Zj M L G k).set (i * 3 + 1) v = Zj M L (fun j => if j = i then v else G j) k
 | k + 1, i, h => by
  have hl := ZL M L G k
  by_cases hik : i < k
  ·rw [Zj, Zj, List.set_append_left _ _ (by omega), iV M L G v hik]
   simp [show ¬ k = i by omega]
  ·obtain rfl : i = k := by omega
   rw [Zj, Zj, List.set_append_right _ _ (by omega), hl, show i * 3 + 1 - i * 3 = 1 by omega]; rw [TL (k := i) (L' := L) (G' := fun j => if j = i then v else G j) fun j hj => ⟨rfl, by simp [show ¬ j = i by omega]⟩]
   simp
def I9 (w : World) (B n : Nat) (F : Nat → Value) : Prop :=
 w.cell? ⟨B, 0, none⟩ = some (.int .i64 n) ∧ (∀ j, 1 ≤ j → j < 18 → w.cell? ⟨B, j, none⟩ = some (F j)) ∧ ∀ j, j < 18 → w.frozen? ⟨B, j, none⟩ = false
theorem I9.lt {w : World} {B n : Nat} {F : Nat → Value} (h : I9 w B n F) : B < w.heap.size := World.block_lt_of_cell? (a := ⟨B, 0, none⟩) _ h.1
theorem I9.kept {w w' : World} {B n : Nat} {F : Nat → Value} (h : I9 w B n F) (hb : w'.heap[B]? = w.heap[B]?) : I9 w' B n F :=
 ⟨(World.cell?_of_block (w := w) hb).trans h.1, fun j h1 h2 => (World.cell?_of_block (w := w) hb).trans (h.2.1 j h1 h2), fun j hj => (World.frozen?_of_block (w := w) hb).trans (h.2.2 j hj)⟩
theorem I9.grown {w w' : World} {B n : Nat} {F : Nat → Value} {row : Option Nat} (h : I9 w B n F) (hg : w.grownBy w' row) (hr : row ≠ some B) : I9 w' B n F := h.kept (hg.block B h.lt (fun e => hr e.symm))
theorem I9.set0 {w : World} {B n : Nat} {F : Nat → Value} (h : I9 w B n F) (m : Nat) : I9 (w.setCell ⟨B, 0, none⟩ (.int .i64 m)) B m F :=
 ⟨by rw [World.cell?_setCell_same (h := h.1)], fun j h1 h2 => by rw [World.cell?_setCell_other _ _ _ _ (by intro h; injection h; omega), h.2.1 j h1 h2], fun j hj => by simpa using h.2.2 j hj⟩
theorem I9.setF {w : World} {B n : Nat} {F : Nat → Value} (h : I9 w B n F) (f : Nat) (hf : 1 ≤ f ∧ f < 18) (v : Value) : I9 (w.setCell ⟨B, f, none⟩ v) B n (fun j => if j = f then v else F j) :=
 ⟨by rw [World.cell?_setCell_other _ _ _ _ (by intro h; injection h; omega), h.1], fun j h1 h2 => by
  show _ = some (if j = f then v else F j)
  by_cases hj : j = f
  ·subst hj; rw [if_pos rfl, World.cell?_setCell_same (h := h.2.1 j h1 h2)]
  ·rw [if_neg hj, World.cell?_setCell_other _ _ _ _ (by intro h; injection h; omega), h.2.1 j h1 h2], fun j hj => by simpa using h.2.2 j hj⟩
theorem zW (w : World) (a : Addr) (v : Value) (k : Nat) (h : k ≠ a.block) : (w.setCell a v).heap[k]? = w.heap[k]? := Below.heap_setCell w a v k h
theorem gW (w : World) (x y z : Value) (t : TypeId) : ∀ (j : Nat) (u : Value), [x, y, z][j]? = some u → (w.alloc (.cells #[x, y, z] t)).cell? ((⟨w.heap.size, 0, none⟩ : Addr).add j) = some u := by
 intro j u h
 match j, h with
 | 0, h => simp at h; subst h; simp [Addr.add]
 | 1, h => simp at h; subst h; simp [Addr.add]
 | 2, h => simp at h; subst h; simp [Addr.add]
 | j + 3, h => simp at h
theorem kL (w : World) (a : Option Addr) (n c : Nat) (z : Int) (t : TypeId) : Zq (w.alloc (.cells #[.slice a n c, .slice none 0 0, .int .i64 z] t)) 3 (.slice (some ⟨w.heap.size, 0, none⟩) 1 1) 1 [.slice a n c, .slice none 0 0, .int .i64 z] := by
 refine ⟨_, 1, rfl, rfl, fun u hu => ?_, (fun h => by cases h), fun ad had j u hu => ?_⟩
 ·simp only [List.mem_cons, List.not_mem_nil, or_false] at hu
  rcases hu with rfl | rfl | rfl <;> rfl
 ·cases had
  exact gW w _ _ _ t j u hu
theorem bk_sl {w : World} {base : Nat} {e : TypeId} {size k : Nat} {v : Value} {xs : List Value} (h : O1 w base e size v k xs) : ∃ a n c, v = .slice a n c := by
 rcases h.2 with ⟨h, _⟩ | ⟨g, o, cap, cur, h, _⟩
 ·exact ⟨_, _, _, h⟩
 ·exact ⟨_, _, _, h⟩
theorem bk_fin {w w1 X w2 : World} {H : TypeId} {B base k n2 f : Nat} {F : Nat → Value} {vb v2 : Value} {ys : List Value} (hf : 1 ≤ f ∧ f < 18) (hB : base ≤ B) (hlt : B < w.heap.size) (hne : vb.ownBlock ≠ some B) (hg1 : w.grownBy w1 (some B)) (hs1 : w1.heap.size = w.heap.size) (hX : Below w1.heap.size w1 X) (hvb : ∀ g, vb.ownBlock = some g → base ≤ g)
  (hg2 : X.grownBy w2 vb.ownBlock) (hl2 : Lies X w2 vb v2 k 1) (hbk : I9 w2 B n2 F) (ho2 : O1 w2 base H 3 v2 (k + 1) ys) :
  I9 (w2.setCell ⟨B, f, none⟩ v2) B n2 (fun j => if j = f then v2 else F j) ∧ O1 (w2.setCell ⟨B, f, none⟩ v2) base H 3 v2 (k + 1) ys ∧ v2.ownBlock ≠ some B ∧ Below base w (w2.setCell ⟨B, f, none⟩ v2) ∧
   (∀ g, g < w.heap.size → g ≠ B → vb.ownBlock ≠ some g → (w2.setCell ⟨B, f, none⟩ v2).heap[g]? = w.heap[g]? ∧ v2.ownBlock ≠ some g) := by
 have hXs := hX.size; have hn2 := ZI hl2 hne (by omega); have hset : w2.grownBy (w2.setCell ⟨B, f, none⟩ v2) (some B) := ⟨rfl, rfl, rfl, by simp, fun g _ hg => zW w2 _ _ g (fun e => hg (by rw [e]))⟩; refine ⟨hbk.setF f hf v2, O1.kept ho2 hset (.inr hn2), hn2, ?_, fun g hg hgB hgv => ⟨?_, ZI hl2 hgv (by omega)⟩⟩
 ·have h1 : Below base w w1 := (Below.refl base w).grown hg1 (by omega) (fun k hk => by cases hk; exact hB); have h2 : Below base w X := h1.trans (hX.mono (by omega)); exact (h2.grown hg2 (by omega) hvb).setCell (p := ⟨B, f, none⟩) hB v2
 ·rw [zW w2 _ _ g hgB, hg2.block g (by omega) (fun e => hgv e.symm), hX.block g (by omega), hg1.block g hg (fun e => hgB (by cases e; rfl))]
theorem uX (w : World) (b off : Nat) (u : Value) (c : Array Value) (t : TypeId) (fr : Nat × Nat) (h : w.heap[b]? = some (.cells c t fr)) : (w.setCell ⟨b, off, none⟩ u).heap[b]? = some (.cells (c.setIfInBounds off u) t fr) := by
 simp only [World.setCell]; rw [Array.getElem?_modify]
 simp [h]
theorem O1.put {w : World} {base : Nat} {e : TypeId} {size n : Nat} {xs : List Value} {g o cap : Nat} (h : O1 w base e size (.slice (some ⟨g, o, none⟩) n cap) n xs) {j : Nat} (u : Value) : O1 (w.setCell ⟨g, o + j, none⟩ u) base e size (.slice (some ⟨g, o, none⟩) n cap) n (xs.set j u) := by
 obtain ⟨h1, h2⟩ := h
 rcases h2 with ⟨h2, _⟩ | ⟨g', o', cap', cur, h3, h4, h5, h6, h7, h8, h9⟩
 ·cases h2
 ·cases h3
  refine ⟨by rw [List.length_set]; exact h1, .inr ⟨g, o, cap, _, rfl, h4, uX w g (o + j) u cur e (0, 0) h5, h6, h7, by rw [Array.size_setIfInBounds]; exact h8, ?_⟩⟩; rw [Array.toList_setIfInBounds, List.drop_set, if_neg (by omega), show o + j - o = j by omega, List.take_set, h9]
def putL (w : World) (g p : Nat) : List Value → World
 | [] => w
 | u :: l => putL (w.setCell ⟨g, p, none⟩ u) g (p + 1) l
def YR (xs : List Value) (j : Nat) : List Value → List Value
 | [] => xs
 | u :: l => YR (xs.set j u) (j + 1) l
theorem O1.putL {base : Nat} {e : TypeId} {size n : Nat} {g o cap : Nat} : ∀ (l : List Value) {w : World} {xs : List Value} {j : Nat}, O1 w base e size (.slice (some ⟨g, o, none⟩) n cap) n xs → O1 (Go.Proofs.YtmijablfjigbhaaGreatDoor.putL w g (o + j) l) base e size (.slice (some ⟨g, o, none⟩) n cap) n (YR xs j l)
 | [], _, _, _, h => h
 | u :: l, _, _, j, h => by
  have h1 := O1.putL l (j := j + 1) (O1.put h (j := j) u); rw [← Nat.add_assoc] at h1; exact h1
theorem EL : ∀ (l A R : List Value), l.length ≤ R.length → YR (A ++ R) A.length l = A ++ l ++ R.drop l.length
 | [], A, R, _ => by simp [YR]
 | u :: l, A, [], h => by simp at h
 | u :: l, A, r :: R, h => by
  have h1 := EL l (A ++ [u]) R (by simpa using h); rw [YR, List.set_append_right _ _ (Nat.le_refl _), Nat.sub_self, List.set_cons_zero]; rw [List.length_append, List.length_singleton] at h1; rw [show A ++ u :: R = (A ++ [u]) ++ R by simp, h1]
  simp
theorem Zf : ∀ (l : List Value) (w : World) (g p k : Nat), k ≠ g → (putL w g p l).heap[k]? = w.heap[k]?
 | [], _, _, _, _, _ => rfl
 | u :: l, w, g, p, k, h => (Zf l _ g (p + 1) k h).trans (zW w ⟨g, p, none⟩ u k h)
theorem Ze : ∀ (l : List Value) (w : World) (g p : Nat), (putL w g p l).heap.size = w.heap.size
 | [], _, _, _ => rfl
 | u :: l, w, g, p => (Ze l _ g (p + 1)).trans (by simp)
theorem ZF {base : Nat} {w0 : World} : ∀ (l : List Value) {w : World} {g p : Nat}, base ≤ g → Below base w0 w → Below base w0 (putL w g p l)
 | [], _, _, _, _, h => h
 | u :: l, _, g, p, hg, h => ZF l hg (h.setCell (p := ⟨g, p, none⟩) hg u)
theorem cell_far {w : World} {a : Addr} {v : Value} {g p : Nat} {l : List Value} (h : w.cell? a = some v) (hn : a.block ≠ g) : (putL w g p l).cell? a = some v := (World.cell?_of_block (w := w) (Zf l w g p a.block hn)).trans h
def prt (mk : List Value) (p : Nat) (xs : List Value) : List Value := rep p mk ++ xs.drop (p * mk.length)
theorem aP (mk xs : List Value) : prt mk 0 xs = xs := by simp [prt, rep]
theorem UU (mk xs : List Value) {n : Nat} (h : xs.length = n * mk.length) : prt mk n xs = rep n mk := by rw [prt, List.drop_eq_nil_of_le (by omega), List.append_nil]
theorem prt_set {mk xs : List Value} {p s : Nat} (hs : mk.length = s) (h : (p + 1) * s ≤ xs.length) : YR (prt mk p xs) (p * s) mk = prt mk (p + 1) xs := by
 subst hs; unfold prt; rw [Nat.succ_mul] at h; have h1 := EL mk (rep p mk) (xs.drop (p * mk.length)) (by rw [List.length_drop]; omega); rw [Qw] at h1; rw [h1, ZV, List.drop_drop, Nat.succ_mul]
theorem prt_get {mk xs : List Value} {p s : Nat} (hs : mk.length = s) (q : Nat) : (prt mk p xs)[p * s + q]? = xs[p * s + q]? := by
 subst hs; unfold prt; rw [List.getElem?_append_right (by rw [Qw]; omega), Qw, List.getElem?_drop]
 congr 1
 omega
structure FD (E H : TypeId) (s f : Nat) (M : Nat → Nat) (w : World) (base B n k : Nat) (F L G : Nat → Value) (N : Nat → Nat) (X : Nat → List Value) : Prop where
 book : I9 w B n F
 row : O1 w base H 3 (F f) k (Zj M L G k)
 own : ∀ i, i < k → O1 w base E s (L i) (N i) (X i)
theorem FD.later {E H : TypeId} {s f : Nat} {M : Nat → Nat} {w w' : World} {base B n k : Nat} {F L G : Nat → Value} {N : Nat → Nat} {X : Nat → List Value} (h : FD E H s f M w base B n k F L G N X) (hb : Below w.heap.size w w') : FD E H s f M w' base B n k F L G N X :=
 ⟨h.book.kept (hb.block B h.book.lt), O1.later h.row hb, fun i hi => O1.later (h.own i hi) hb⟩
structure EC (B k : Nat) (vb : Value) (L : Nat → Value) : Prop where
 notB : vb.ownBlock ≠ some B
 one : ∀ i, i < k → ∀ g, (L i).ownBlock = some g → g ≠ B ∧ vb.ownBlock ≠ some g
 two : ∀ i j, i < k → j < k → i ≠ j → ∀ g, (L i).ownBlock = some g → (L j).ownBlock ≠ some g
theorem FD.put {E H : TypeId} {s f : Nat} {M : Nat → Nat} {w : World} {base B n k : Nat} {F L G : Nat → Value} {N : Nat → Nat} {X : Nat → List Value} (h : FD E H s f M w base B n k F L G N X) (ha : EC B k (F f) L) {i : Nat} (hi : i < k) {g o cap : Nat} (hL : L i = .slice (some ⟨g, o, none⟩) (N i) cap) {j : Nat} (l : List Value) :
  FD E H s f M (putL w g (o + j) l) base B n k F L G N (fun p => if p = i then YR (X i) j l else X p) := by
 have hg : (L i).ownBlock = some g := by rw [hL]; rfl
 have hab := ha.one i hi g hg; have hs := fun q (hq : q ≠ g) => Zf l w g (o + j) q hq
 refine ⟨h.book.kept (hs B (fun e => hab.1 e.symm)), O1.block h.row (fun q hq => hs q (fun e => hab.2 (by rw [← e]; exact hq))), fun p hp => ?_⟩
 by_cases hpi : p = i
 ·subst hpi; rw [if_pos rfl]; have h1 := h.own p hp; rw [hL] at h1 ⊢; exact O1.putL l h1
 ·rw [if_neg hpi]; exact O1.block (h.own p hp) (fun q hq => hs q (fun e => ha.two i p hi hp (fun e => hpi e.symm) g hg (by rw [← e]; exact hq)))
theorem FD.congr {E H : TypeId} {s f : Nat} {M : Nat → Nat} {w : World} {base B n k : Nat} {F L G : Nat → Value} {N : Nat → Nat} {X Y : Nat → List Value} (h : FD E H s f M w base B n k F L G N X) (hxy : ∀ i, i < k → X i = Y i) : FD E H s f M w base B n k F L G N Y :=
 ⟨h.book, h.row, fun i hi => by rw [← hxy i hi]; exact h.own i hi⟩
theorem Jd {H : TypeId} {M : Nat → Nat} {w : World} {base k : Nat} {L G : Nat → Value} {g o cap : Nat} (h : O1 w base H 3 (.slice (some ⟨g, o, none⟩) k cap) k (Zj M L G k)) {i : Nat} (hi : i < k) :
  w.cell? ⟨g, o + i * 3, none⟩ = some (L i) ∧ w.cell? ⟨g, o + i * 3 + 1, none⟩ = some (G i) ∧ w.cell? ⟨g, o + i * 3 + 2, none⟩ = some (.int .i64 (M i)) := by
 obtain ⟨h1, h2, h3⟩ := kV M L G hi; have hc := O1.cells h; refine ⟨?_, ?_, ?_⟩
 ·have := hc _ _ h1; rwa [Addr.add_lit] at this
 ·have := hc _ _ h2; rwa [Addr.add_lit, ← Nat.add_assoc] at this
 ·have := hc _ _ h3; rwa [Addr.add_lit, ← Nat.add_assoc] at this
theorem Jo {H : TypeId} {s : Nat} {w : World} {base k n : Nat} {vb : Value} {xs : List Value} (h : O1 w base H s vb n xs) (hk : k < n) : ∃ g o cap, vb = .slice (some ⟨g, o, none⟩) n cap ∧ n ≤ cap ∧ cap ≤ maxLen ∧ base ≤ g ∧ g < w.heap.size := by
 rcases h.2 with ⟨_, h⟩ | ⟨g, o, cap, cur, h1, h2, h3, h4, h5, _⟩
 ·omega
 ·exact ⟨g, o, cap, h1, h4, h5, h2, (Array.getElem?_eq_some_iff.1 h3).1⟩
def Y7 (k : Nat) (L : Nat → Value) (v : Value) (w w' : World) : Prop := w.heap.size ≤ w'.heap.size ∧ ∀ g, g < w.heap.size → v.ownBlock ≠ some g → (∀ i, i < k → (L i).ownBlock ≠ some g) → w'.heap[g]? = w.heap[g]?
theorem Y7.refl (k : Nat) (L : Nat → Value) (v : Value) (w : World) : Y7 k L v w w := ⟨Nat.le_refl _, fun _ _ _ _ => rfl⟩
theorem Y7.later {k : Nat} {L : Nat → Value} {v : Value} {w w1 w2 : World} (h : Y7 k L v w w1) (hb : Below w1.heap.size w1 w2) : Y7 k L v w w2 :=
 ⟨Nat.le_trans h.1 hb.size, fun g h1 h2 h3 => (hb.block g (Nat.lt_of_lt_of_le h1 h.1)).trans (h.2 g h1 h2 h3)⟩
theorem Y7.put {k : Nat} {L : Nat → Value} {v : Value} {w w1 : World} {i g p : Nat} {l : List Value} (h : Y7 k L v w w1) (hi : i < k) (hg : (L i).ownBlock = some g) : Y7 k L v w (putL w1 g p l) :=
 ⟨by rw [Ze]; exact h.1, fun q h1 h2 h3 => (Zf l w1 g p q (fun e => h3 i hi (by rw [hg, e]))).trans (h.2 q h1 h2 h3)⟩
theorem Y7.grow {k : Nat} {L : Nat → Value} {v : Value} {w wo w' : World} {i gv p : Nat} {u : Value} (h : Y7 k L v w wo) (hsz : wo.heap.size ≤ w'.heap.size) (hfr : ∀ g, g < wo.heap.size → (L i).ownBlock ≠ some g → w'.heap[g]? = wo.heap[g]?) (hi : i < k) (hv : v.ownBlock = some gv) : Y7 k L v w (w'.setCell ⟨gv, p, none⟩ u) :=
 ⟨by simp only [World.size_setCell]; exact Nat.le_trans h.1 hsz, fun q h1 h2 h3 => (zW w' ⟨gv, p, none⟩ u q (fun e => h2 (by rw [hv, e]))).trans ((hfr q (Nat.lt_of_lt_of_le h1 h.1) (h3 i hi)).trans (h.2 q h1 h2 h3))⟩
theorem FD.over {E H : TypeId} {s f : Nat} {M : Nat → Nat} {w : World} {base B n k : Nat} {F L G : Nat → Value} {N : Nat → Nat} {X : Nat → List Value} (h : FD E H s f M w base B n k F L G N X) (ha : EC B k (F f) L) {i : Nat} (hi : i < k) {g o cap : Nat} (hL : L i = .slice (some ⟨g, o, none⟩) (N i) cap) {j : Nat} {mk Y : List Value} (hX : X i = prt mk j Y) (hY : Y.length = N i * s) (hj : j < N i) (hs : mk.length = s) :
  FD E H s f M (putL w g (o + j * s) mk) base B n k F L G N (fun p => if p = i then prt mk (j + 1) Y else X p) :=
 (h.put ha hi hL (j := j * s) mk).congr fun p _ => by
  by_cases hp : p = i
  ·subst hp; rw [if_pos rfl, if_pos rfl, hX]; exact prt_set hs (by rw [hY]; exact Nat.mul_le_mul_right s hj)
  ·rw [if_neg hp, if_neg hp]
theorem Jy {w : World} {base N s o cap g j q : Nat} {E : TypeId} {mk Y : List Value} (h : O1 w base E s (.slice (some ⟨g, o, none⟩) N cap) N (prt mk j Y)) (hs : mk.length = s) (hY : Y.length = N * s) (hj : j < N) (hq : q < s) : ∃ u, w.cell? ⟨g, o + j * s + q, none⟩ = some u := by
 have h1 : j * s + q < Y.length := by have h2 : (j + 1) * s ≤ N * s := Nat.mul_le_mul_right s hj; rw [Nat.succ_mul] at h2; omega
 refine ⟨Y[j * s + q], ?_⟩; have := O1.cells h (j * s + q) Y[j * s + q] (by rw [prt_get hs, List.getElem?_eq_getElem h1])
 rwa [Addr.add_lit, ← Nat.add_assoc] at this
def AY (w : World) (mk : List Value) (v : Value) (n : Nat) : Prop :=
 ∃ a c, v = .slice a n c ∧ n ≤ c ∧ c ≤ maxLen ∧ (0 < n → ∃ g o, a = some ⟨g, o, none⟩ ∧ ∀ p q u, p < n → mk[q]? = some u → w.cell? ⟨g, o + p * mk.length + q, none⟩ = some u)
theorem AY.block {w w' : World} {mk : List Value} {v : Value} {n : Nat} (h : AY w mk v n) (hb : ∀ g, v.ownBlock = some g → w'.heap[g]? = w.heap[g]?) : AY w' mk v n := by
 obtain ⟨a, c, rfl, h1, h2, h3⟩ := h; refine ⟨a, c, rfl, h1, h2, fun h0 => ?_⟩; obtain ⟨g, o, rfl, h4⟩ := h3 h0; exact ⟨g, o, rfl, fun p q u hp hu => (World.cell?_of_block (w := w) (a := ⟨g, _, none⟩) (hb g rfl)).trans (h4 p q u hp hu)⟩
theorem PM {w : World} {base n : Nat} {E : TypeId} {s : Nat} {mk : List Value} {v : Value} (hs : mk.length = s) (h : O1 w base E s v n (rep n mk)) : AY w mk v n := by
 rcases h.2 with ⟨rfl, rfl⟩ | ⟨g, o, cap, cur, rfl, h4, h5, h6, h7, _⟩
 ·exact ⟨none, 0, rfl, Nat.le_refl _, Nat.zero_le _, fun h0 => absurd h0 (Nat.lt_irrefl _)⟩
 ·refine ⟨_, cap, rfl, h6, h7, fun _ => ⟨g, o, rfl, fun p q u hp hu => ?_⟩⟩; have := O1.cells h (p * s + q) u (RU hs hu hp)
  rwa [Addr.add_lit, ← Nat.add_assoc, ← hs] at this
theorem AY.sl {w : World} {mk : List Value} {v : Value} {n : Nat} (h : AY w mk v n) : ∃ a c, v = .slice a n c ∧ n ≤ c ∧ c ≤ maxLen := by
 obtain ⟨a, c, h1, h2, h3, _⟩ := h; exact ⟨a, c, h1, h2, h3⟩
theorem AY.cell {w : World} {mk : List Value} {a : Option Addr} {n c p : Nat} (h : AY w mk (.slice a n c) n) (hp : p < n) : ∃ g o, a = some ⟨g, o, none⟩ ∧ ∀ q u, mk[q]? = some u → w.cell? ⟨g, o + p * mk.length + q, none⟩ = some u := by
 obtain ⟨ao, cap, e, _, _, h4⟩ := h
 cases e
 obtain ⟨g, o, rfl, hc⟩ := h4 (by omega); exact ⟨g, o, rfl, fun q u hu => hc p q u hp hu⟩
structure Grow (E H : TypeId) (s f : Nat) (mk : Nat → List Value) (M : Nat → Nat) (z : Nat) (w : World) (base B n k : Nat) (F L G : Nat → Value) (N : Nat → Nat) (i : Nat) : Prop where
 book : I9 w B n F
 row : O1 w base H 3 (F f) k (Zj M L G k)
 own : ∀ j, i ≤ j → j < k → O1 w base E s (L j) (N j) (rep (N j) (mk (M j)))
 done : ∀ j, j < i → j < k → AY w (mk (M j)) (L j) (N j) ∧ AY w (mk (M j)) (G j) (N j + 40)
 low : ∀ j, j < k → ∀ g, (L j).ownBlock = some g → g < w.heap.size
 far : ∀ j, j < i → j < k → ∀ g, (G j).ownBlock = some g → g < w.heap.size ∧ g ≠ B ∧ (F f).ownBlock ≠ some g ∧ ∀ p, i ≤ p → p < k → (L p).ownBlock ≠ some g
 new : ∀ j, j < i → j < k → ∀ g, (G j).ownBlock = some g → (L j).ownBlock = some g ∨ z ≤ g
 zz : z ≤ w.heap.size
theorem Grow.kept {E H : TypeId} {s f : Nat} {mk : Nat → List Value} {M : Nat → Nat} {z : Nat} {w w' : World} {base B n k : Nat} {F L G : Nat → Value} {N : Nat → Nat} {i : Nat} (h : Grow E H s f mk M z w base B n k F L G N i) (hs : w.heap.size ≤ w'.heap.size) (hB : w'.heap[B]? = w.heap[B]?) (hr : ∀ g, (F f).ownBlock = some g → w'.heap[g]? = w.heap[g]?)
  (hl : ∀ j, j < k → ∀ g, (L j).ownBlock = some g → w'.heap[g]? = w.heap[g]?) (hgr : ∀ j, j < i → j < k → ∀ g, (G j).ownBlock = some g → w'.heap[g]? = w.heap[g]?) : Grow E H s f mk M z w' base B n k F L G N i :=
 ⟨h.book.kept hB, O1.block h.row hr, fun j h1 h2 => O1.block (h.own j h1 h2) (hl j h2), fun j h1 h2 => ⟨(h.done j h1 h2).1.block (hl j h2), (h.done j h1 h2).2.block (hgr j h1 h2)⟩,
  fun j hj g hg => Nat.lt_of_lt_of_le (h.low j hj g hg) hs, fun j h1 h2 g hg => ⟨Nat.lt_of_lt_of_le (h.far j h1 h2 g hg).1 hs, (h.far j h1 h2 g hg).2⟩, h.new, Nat.le_trans h.zz hs⟩
theorem Grow.later {E H : TypeId} {s f : Nat} {mk : Nat → List Value} {M : Nat → Nat} {z : Nat} {w w' : World} {base B n k : Nat} {F L G : Nat → Value} {N : Nat → Nat} {i : Nat} (h : Grow E H s f mk M z w base B n k F L G N i) (hb : Below w.heap.size w w') : Grow E H s f mk M z w' base B n k F L G N i :=
 h.kept hb.size (hb.block B h.book.lt) (fun g hg => hb.block g (O1.lt h.row g hg).2) (fun j hj g hg => hb.block g (h.low j hj g hg)) (fun j h1 h2 g hg => hb.block g (h.far j h1 h2 g hg).1)
theorem Grow.step {E H : TypeId} {s f : Nat} {mk : Nat → List Value} {M : Nat → Nat} {z : Nat} {w w' : World} {base B n k : Nat} {F : Nat → Value} {gv ov cv : Nat} {L G : Nat → Value} {N : Nat → Nat} {i : Nat} {v : Value} (h : Grow E H s f mk M z w base B n k F L G N i) (hF : F f = .slice (some ⟨gv, ov, none⟩) k cv) (ha : EC B k (F f) L) (hi : i < k) (hmk : (mk (M i)).length = s)
  (hsz : w.heap.size ≤ w'.heap.size) (hfr : ∀ g, g < w.heap.size → (L i).ownBlock ≠ some g → w'.heap[g]? = w.heap[g]?)
  (hv : O1 w' base E s v (N i + 40) (rep (N i + 40) (mk (M i)))) (hl : AY w' (mk (M i)) (L i) (N i)) (hw : v.ownBlock = (L i).ownBlock ∨ ∀ g, v.ownBlock = some g → w.heap.size ≤ g) :
  Grow E H s f mk M z (w'.setCell ⟨gv, ov + i * 3 + 1, none⟩ v) base B n k F L (fun j => if j = i then v else G j) N (i + 1) := by
 have hFg : (F f).ownBlock = some gv := by rw [hF]; rfl
 have hBg : gv ≠ B := fun e => ha.notB (by rw [← e]; exact hFg)
 have hLg : ∀ j, j < k → ∀ g, (L j).ownBlock = some g → g ≠ gv := fun j hj g hg e => (ha.one j hj g hg).2 (by rw [e]; exact hFg)
 have hgv : gv < w.heap.size := (O1.lt h.row gv hFg).2
 have hrow : O1 w' base H 3 (.slice (some ⟨gv, ov, none⟩) k cv) k (Zj M L G k) := by
  rw [← hF]; exact O1.block h.row (fun g hg => by rw [hFg] at hg; cases hg; exact hfr gv hgv (fun e => (ha.one i hi gv e).2 hFg))
 have hB : w'.heap[B]? = w.heap[B]? := hfr B h.book.lt (fun e => (ha.one i hi B e).1 rfl)
 have hvg : ∀ g, v.ownBlock = some g → g < w'.heap.size ∧ g ≠ B ∧ g ≠ gv ∧ ∀ p, i + 1 ≤ p → p < k → (L p).ownBlock ≠ some g := by
  intro g hg; refine ⟨(O1.lt hv g hg).2, ?_⟩
  rcases hw with hw | hw
  ·rw [hw] at hg; exact ⟨(ha.one i hi g hg).1, hLg i hi g hg, fun p h1 h2 => ha.two i p hi h2 (by omega) g hg⟩
  ·have hge := hw g hg; have := h.book.lt; exact ⟨by omega, by omega, fun p h1 h2 e => by have := h.low p h2 g e; omega⟩
 have hother : ∀ g, g ≠ gv → (w'.setCell ⟨gv, ov + i * 3 + 1, none⟩ v).heap[g]? = w'.heap[g]? := fun g hg => zW w' _ _ g hg
 refine ⟨(h.book.kept hB).kept (hother B (fun e => hBg e.symm)), ?_, fun j h1 h2 => ?_, fun j h1 h2 => ?_, fun j hj g hg => ?_, fun j h1 h2 g hg => ?_, fun j h1 h2 g hg => ?_, by simp only [World.size_setCell]; exact Nat.le_trans h.zz hsz⟩
 ·have := O1.put hrow (j := i * 3 + 1) v; rw [iV M L G v hi, ← Nat.add_assoc] at this; rw [hF]; exact this
 ·refine O1.block (h.own j (by omega) h2) (fun g hg => ?_); rw [hother g (hLg j h2 g hg)]; exact hfr g (h.low j h2 g hg) (fun e => ha.two i j hi h2 (by omega) g e hg)
 ·by_cases hji : j = i
  ·subst hji; rw [if_pos rfl]; exact ⟨hl.block (fun g hg => hother g (hLg j h2 g hg)), (PM hmk hv).block (fun g hg => hother g (hvg g hg).2.2.1)⟩
  ·rw [if_neg hji]; obtain ⟨d1, d2⟩ := h.done j (by omega) h2; refine ⟨d1.block (fun g hg => ?_), d2.block (fun g hg => ?_)⟩
   ·rw [hother g (hLg j h2 g hg)]; exact hfr g (h.low j h2 g hg) (fun e => ha.two i j hi h2 (by omega) g e hg)
   ·obtain ⟨f1, f2, f3, f4⟩ := h.far j (by omega) h2 g hg; rw [hother g (fun e => f3 (by rw [e]; exact hFg))]; exact hfr g f1 (f4 i (Nat.le_refl _) hi)
 ·have := h.low j hj g hg; simp only [World.size_setCell]; omega
 ·simp only [World.size_setCell]
  by_cases hji : j = i
  ·rw [if_pos hji] at hg; obtain ⟨f1, f2, f3, f4⟩ := hvg g hg; exact ⟨f1, f2, fun e => f3 (by rw [hFg] at e; cases e; rfl), f4⟩
  ·rw [if_neg hji] at hg; obtain ⟨f1, f2, f3, f4⟩ := h.far j (by omega) h2 g hg; exact ⟨by omega, f2, f3, fun p h3 h4 => f4 p (by omega) h4⟩
 ·by_cases hji : j = i
  ·rw [if_pos hji] at hg; subst hji
   rcases hw with hw | hw
   ·exact .inl (by rw [← hw]; exact hg)
   ·exact .inr (Nat.le_trans h.zz (hw g hg))
  ·rw [if_neg hji] at hg; exact h.new j (by omega) h2 g hg
structure xJ (E : TypeId) (s : Nat) (mk : List Value) (wo wq : World) (base n : Nat) (Li v : Value) (p : Nat) : Prop where
 own : O1 wq base E s v (n + p) (rep (n + p) mk)
 at_ : AY wq mk Li n
 start : (∃ g o c c', Li = .slice (some ⟨g, o, none⟩) n c ∧ v = .slice (some ⟨g, o, none⟩) (n + p) c') ∨ ∀ g, v.ownBlock = some g → wo.heap.size ≤ g
 frame : ∀ g, g < wo.heap.size → Li.ownBlock ≠ some g → wq.heap[g]? = wo.heap[g]?
 below : Below base wo wq
 low : ∀ g, Li.ownBlock = some g → g < wo.heap.size
 size : wo.heap.size ≤ wq.heap.size
theorem xJ.first {E : TypeId} {s : Nat} {mk : List Value} {wo : World} {base n : Nat} {Li : Value} (hs : mk.length = s) (h : O1 wo base E s Li n (rep n mk)) : xJ E s mk wo wo base n Li Li 0 := by
 refine ⟨h, PM hs h, ?_, fun _ _ _ => rfl, Below.refl _ _, fun g hg => (O1.lt h g hg).2, Nat.le_refl _⟩
 rcases h.2 with ⟨rfl, _⟩ | ⟨g, o, cap, cur, rfl, _⟩
 ·exact .inr (fun g hg => by simp [Value.ownBlock] at hg)
 ·exact .inl ⟨g, o, cap, cap, rfl, rfl⟩
theorem xJ.next {E : TypeId} {s : Nat} {mk : List Value} {wo wq X w2 : World} {base n p : Nat} {Li v v' : Value} (h : xJ E s mk wo wq base n Li v p) (hs : mk.length = s) (hb : base ≤ wo.heap.size) (hX : Below wq.heap.size wq X) (hg : X.grownBy w2 v.ownBlock) (hl : Lies X w2 v v' (n + p) 1)
  (ho : O1 w2 base E s v' (n + p + 1) (rep (n + p) mk ++ mk)) : xJ E s mk wo w2 base n Li v' (p + 1) := by
 have hXs := hX.size; have hwq := h.size
 have ho' : O1 w2 base E s v' (n + (p + 1)) (rep (n + (p + 1)) mk) := by
  rw [← Nat.add_assoc, ZV]; exact ho
 have hvb : ∀ g, g < wo.heap.size → Li.ownBlock ≠ some g → v.ownBlock ≠ some g := by
  intro g h1 h2 e
  rcases h.start with ⟨g1, o, c, c', rfl, rfl⟩ | h3
  ·exact h2 e
  ·have := h3 g e; omega
 refine ⟨ho', ?_, ?_, fun g h1 h2 => ?_, ?_, h.low, by have := hg.size; omega⟩
 ·have hother : (∀ g, Li.ownBlock = some g → w2.heap[g]? = X.heap[g]?) → AY w2 mk Li n := fun hh => (h.at_.block (fun g hg => hX.block g (Nat.lt_of_lt_of_le (h.low g hg) hwq))).block hh
  rcases hl with ⟨g, o, cap, hv, hv'⟩ | ⟨_, hn⟩ | ⟨h0, _⟩
  ·rcases h.start with ⟨g1, o1, c, c', hL, hv1⟩ | h3
   ·rw [hv] at hv1
    cases hv1
    obtain ⟨ao, cap0, e, h1, h2, h3⟩ := h.at_; obtain ⟨ao2, cap2, e2, _, _, h5⟩ := PM hs ho'; rw [hL] at e
    cases e
    refine ⟨_, _, hL, h1, h2, fun h0 => ⟨g, o, rfl, fun q r x hq hr => ?_⟩⟩; obtain ⟨g3, o3, e3, h6⟩ := h5 (by omega); rw [hv', e3] at e2
    cases e2
    exact h6 q r x (by omega) hr
   ·refine hother (fun g2 hg2 => hg.block g2 (by have := h.low g2 hg2; omega) (fun e => ?_)); have := h3 g2 e.symm; have := h.low g2 hg2; omega
  ·exact hother (fun g2 hg2 => hn.block g2 (by have := h.low g2 hg2; omega) (fun e => by cases e))
  ·cases h0
 ·rcases hl with ⟨g, o, cap, hv, hv'⟩ | ⟨hf, _⟩ | ⟨h0, _⟩
  ·rcases h.start with ⟨g1, o1, c, c', hL, hv1⟩ | h3
   ·rw [hv] at hv1
    cases hv1
    exact .inl ⟨g, o, c, cap, hL, by rw [hv', Nat.add_assoc]⟩
   ·right
    intro g2 hg2; rw [hv'] at hg2; exact h3 g2 (by rw [hv]; exact hg2)
  ·right
   intro g2 hg2; rw [hf] at hg2
   cases hg2
   omega
  ·cases h0
 ·rw [hg.block g (by omega) (fun e => hvb g h1 h2 e.symm), hX.block g (by omega)]; exact h.frame g h1 h2
 ·exact (h.below.trans (hX.mono (by omega))).grown hg (by omega) (fun q hq => (O1.lt h.own q hq).1)
theorem xJ.start_block {E : TypeId} {s : Nat} {mk : List Value} {wo wq : World} {base n p : Nat} {Li v : Value} (h : xJ E s mk wo wq base n Li v p) : v.ownBlock = Li.ownBlock ∨ ∀ g, v.ownBlock = some g → wo.heap.size ≤ g := by
 rcases h.start with ⟨g, o, c, c', rfl, rfl⟩ | h
 ·exact .inl rfl
 ·exact .inr h
theorem Grow.of {E H : TypeId} {s f : Nat} {mk : Nat → List Value} {M : Nat → Nat} {w : World} {base B n k : Nat} {F L G : Nat → Value} {N : Nat → Nat} (h : FD E H s f M w base B n k F L G N (fun i => rep (N i) (mk (M i)))) : Grow E H s f mk M w.heap.size w base B n k F L G N 0 :=
 ⟨h.book, h.row, fun j _ hj => h.own j hj, fun _ hj => absurd hj (Nat.not_lt_zero _), fun j hj g hg => (O1.lt (h.own j hj) g hg).2, fun _ hj => absurd hj (Nat.not_lt_zero _), fun _ hj => absurd hj (Nat.not_lt_zero _), Nat.le_refl _⟩
def zO (m : Nat) : List Value := [.int .u8 ((m % 256 : Nat) : Int)]
theorem qW (m : Nat) : (zO m).length = 1 := rfl
theorem nX : (Tryz.prog.info? 115).map (fun i => (i.size, i.bytes)) = some (3, 56) ∧ ((Tryz.prog.info? 115).bind (·.zero)).map (fun z => z.cells.size) = some 3 := ⟨by kernel_rfl, by kernel_rfl⟩
theorem RG : ∃ i z, Tryz.prog.info? 115 = some i ∧ i.zero = some z ∧ i.size = 3 ∧ i.bytes = 56 ∧ z.cells.size = 3 := by
 obtain ⟨h1, h2⟩ := nX
 cases hq : Tryz.prog.info? 115 with
 | none => rw [hq] at h1; cases h1
 | some i =>
  rw [hq] at h1 h2; simp only [Option.map_some, Option.some.injEq, Prod.mk.injEq] at h1
  cases hz : i.zero with
  | none => simp [hz] at h2
  | some z => exact ⟨i, z, rfl, hz, h1.1, h1.2, by simpa [hz] using h2⟩
theorem dN (w : World) (B base n k : Nat) (F L G : Nat → Value) (M : Nat → Nat) (a : Option Addr) (l c : Nat) (hb : I9 w B n F) (ho : O1 w base 115 3 (F 1) k (Zj M L G k)) (hne : (F 1).ownBlock ≠ some B) (hk : k ≤ 1000) (hn : n ≤ 1000) (hB : base ≤ B) (hM : M k = n + 1) (hL : L k = .slice a l c) (hG : G k = .slice none 0 0) :
  Calls Tryz.prog 37 #[.pointer (some ⟨B, 0, none⟩), .slice a l c] w fun e w' => e = .returned (.tuple #[]) ∧ ∃ TV, I9 w' B (n + 1) (fun j => if j = 1 then TV else F j) ∧ O1 w' base 115 3 TV (k + 1) (Zj M L G (k + 1)) ∧ TV.ownBlock ≠ some B ∧
   Below base w w' ∧ (∀ g, g < w.heap.size → g ≠ B → (F 1).ownBlock ≠ some g → w'.heap[g]? = w.heap[g]? ∧ TV.ownBlock ≠ some g) := by
 obtain ⟨i0, z0, hi, hz0, hz1, hz2, hz3⟩ := RG; have HI := jh hi; have hlt := hb.lt; have hn0 : (n : Int) ≤ 1000 := by omega
 have HB0 := jh hb; have HO := jh ho; obtain ⟨va, vn, vc, hvb⟩ := bk_sl ho; have hs : base ≤ w.heap.size := by omega
 obtain ⟨c0, c9, cf⟩ := hb; have c1 := c9 1 (by omega) (by omega); rw [hvb] at c1 HO hne ⊢; have f0 := cf 0 (by omega); have f1 := cf 1 (by omega); clear cf hi ho c9
 go_enter Tryz.func37, Tryz.ntmps37
 go_wp2_with fail
 obtain ⟨w1, e1⟩ := je (w.setCell ⟨B, 0, none⟩ (.int .i64 ((n : Int) + 1))); have hB1 : I9 w1 B (n + 1) F := by rw [e1]; exact HB0.out.set0 (n + 1)
 have hs1 : w1.heap.size = w.heap.size := by rw [e1]; simp
 have hg1 : w.grownBy w1 (some B) := by
  rw [e1]; exact ⟨rfl, rfl, rfl, by simp, fun g _ hg => zW w _ _ g (fun e => hg (by rw [e]))⟩
 have hO1 : O1 w1 base 115 3 (.slice va vn vc) k (Zj M L G k) := O1.kept HO.out hg1 (.inr hne); have SA := jh (fun (W : World) (h : Below w1.heap.size w1 W) => O1.later hO1 h); have HBK := jh (fun (W : World) (h : Below w1.heap.size w1 W) => I9.kept hB1 (h.block B hB1.lt)); have eH := jh hne; have HG1 := jh hg1; have wH := jh hs1; have HL := jh hL; have VF := jh hG; have HM := jh hM; have HVB := jh hvb; rw [← e1]; obtain ⟨d0, d9, df⟩ := hB1; have d1 := d9 1 (by omega) (by omega); rw [hvb] at d1; have g0 := df 0 (by omega); have g1 := df 1 (by omega); have hlt1 : B < w1.heap.size := by omega
 have hbs1 : base ≤ w1.heap.size := by omega
 have H9 := jh (fun (w : World) => kL w a l c ((n : Int) + 1) 115); have e9 : ((n + 1 : Nat) : Int) = (n : Int) + 1 := by omega
 rw [e9] at d0; clear c0 c1 f0 f1 e1 df d9 hO1 hg1 hs1 hL hG HB0 HO e9 hM hvb
 go_region_law (first
  | (refine Zu rfl (.tmp 15) (.tmp 22) 47 rfl base 115 i0 z0 3 56 Tryz.underlying47 HI.out hz0 hz1 hz2 hz3 (.slice va vn vc) k (Zj M L G k) rfl (SA.out _ ((Below.refl _ _).drew.alloc (Nat.le_refl _) _)) (.slice (some ⟨w1.heap.size, 0, none⟩) 1 1) 1 [.slice a l c, .slice none 0 0, .int .i64 ((n : Int) + 1)] rfl (H9.out w1.drew) (by unfold maxLen; omega) (by omega) (by simp; omega) ?_
     intro v2 w2 ho2 hg2 hl2; obtain ⟨a2, c2, rfl⟩ := ho2.sl; have hbk2 := (HBK.out _ ((Below.refl _ _).drew.alloc (Nat.le_refl _) _)).grown hg2 eH.out; have HBK2 := jh hbk2; have d2 := hbk2.2.1 1 (by omega) (by omega); have g2 := hbk2.2.2 1 (by omega); rw [HVB.out] at d2; clear hbk2; have U9 := jh ho2; have HG2 := jh hg2; have HL2 := jh hl2
     clear ho2 hg2 hl2))
 all_goals
  have hf := bk_fin (f := 1) (by omega) hB hlt eH.out HG1.out wH.out (by first | exact (Below.refl _ _).drew.alloc (Nat.le_refl _) _ | exact (ja).drew) (fun g hg => (O1.lt (SA.out _ (Below.refl _ _)) g hg).1) HG2.out HL2.out HBK2.out U9.out
  go_end0
  refine ⟨rfl, _, hf.1, ?_, hf.2.2⟩; rw [Zj, HL.out, VF.out, HM.out]; exact hf.2.1
theorem ND (w : World) (m : Nat) (hm : m ≤ 1000) : Calls Tryz.prog 125 #[.int .i64 m] w fun e w' => e = .returned (.int .u8 ((m % 256 : Nat) : Int)) ∧ Below w.heap.size w w' := by
 have h : (m : Int) ≤ 1000 := by omega
 go_enter Tryz.func125, Tryz.ntmps125
 go_wp2
 go_ret
 exact ⟨by first | rfl | (simp [IntKind.wrap, IntKind.bits, IntKind.signed]), Below.refl _ _⟩
theorem PS (w : World) (m : Nat) (hm : m ≤ 1000) : Calls Tryz.prog 142 #[.int .u8 ((m % 256 : Nat) : Int), .int .i64 m] w fun e w' => e = .returned (.bool true) ∧ ∃ n, w' = w.drewN n := by
 have h : (m : Int) ≤ 1000 := by omega
 have e9 : IntKind.u8.wrap (m : Int) = ((m % 256 : Nat) : Int) := by simp [IntKind.wrap, IntKind.bits, IntKind.signed]
 go_enter Tryz.func142, Tryz.ntmps142
 go_wp2
 go_ret
 exact ⟨rfl, 0, rfl⟩
theorem FN (w : World) (B base n k : Nat) (F L G : Nat → Value) (M N : Nat → Nat) (X : Nat → List Value) (hF : FD 5 115 1 1 M w base B n k F L G N X) (hA : EC B k (F 1) L) (hk : k ≤ 1000) (hM : ∀ i, i < k → M i ≤ 1000) (hB : base ≤ B) (hG : ∀ i, i < k → G i = .slice none 0 0) (hN : ∀ i, i < k → N i ≤ 4000000) :
  Calls Tryz.prog 42 #[.pointer (some ⟨B, 0, none⟩)] w fun e w' => e = .returned (.tuple #[]) ∧ FD 5 115 1 1 M w' base B n k F L G N (fun i => rep (N i) (zO (M i))) ∧ Below base w w' ∧ Y7 k L (F 1) w w' := by
 have HF := jh hF; have HA := jh hA; have HG := jh hG; have HN := jh hN; have HM := jh hM; obtain ⟨va, vc, hvb⟩ := hF.row.sl; have hs : base ≤ w.heap.size := by have := hF.book.lt; omega
 have HV := jh hvb; clear hF hA hG hN hM hvb
 go_enter Tryz.func42, Tryz.ntmps42
 go_wp2_with fail
 go_loopw [2] (fun i wr => ∃ i' : Nat, i' ≤ k ∧ i = .int .i64 i' ∧ FD 5 115 1 1 M wr base B n k F L G N (fun j => if j < i' then rep (N j) (zO (M j)) else X j) ∧ Below base w wr ∧ base ≤ wr.heap.size ∧ Y7 k L (F 1) w wr) (fun i _ => k - (intOf i).toNat)
 case atStart => exact ⟨0, Nat.zero_le _, rfl, HF.out.congr fun i _ => by simp, Below.refl _ _, hs, Y7.refl _ _ _ _⟩
 case round =>
  obtain ⟨i, hi, rfl, hf, hbl, hsz, hsp⟩ := hrel; obtain ⟨wo, rfl⟩ : ∃ wo : World, wo = wr := ⟨_, rfl⟩; have d1 := hf.book.2.1 1 (by omega) (by omega); rw [HV.out] at d1; have HSP := jh hsp; clear hsp
  by_cases hlt : i < k
  ·have hrow := hf.row; rw [HV.out] at hrow; obtain ⟨gv, ov, cv, hvb, hcv1, hcv2, yT, hcv4⟩ := Jo hrow hlt
   cases hvb
   obtain ⟨l0, l1, l2⟩ := Jd hrow hlt; rw [HG.out i hlt] at l1; obtain ⟨la, lc, hL⟩ := (hf.own i hlt).sl; rw [hL] at l0; have hnn := HN.out i hlt; have hmm := HM.out i hlt; have SK := jh hf; have KG := jh hbl; have HL := jh hL; unfold maxLen at hcv2; clear hf hbl hL hrow
   go_wp2_with fail
   obtain ⟨w2, e2⟩ := je (wo.alloc (.cells #[.slice la (N i) lc, .slice none 0 0, .int .i64 (M i)] 115)); have h0 : w2.cell? ⟨wo.heap.size, 0, none⟩ = some (.slice la (N i) lc) := by rw [e2]; simp
   have h2 : w2.cell? ⟨wo.heap.size, 2, none⟩ = some (.int .i64 (M i)) := by rw [e2]; simp
   have hb2 := jc e2; have hs2 : w2.heap.size = wo.heap.size + 1 := by rw [e2]; simp
   rw [← e2]; clear e2 l0 l1 l2 d1; have HF2 := jh (SK.out.later hb2); have HB2 := jh (KG.out.trans (hb2.mono hsz)); have HS2 := jh (HSP.out.later hb2); have H0 := jh h0; have H2 := jh h2; clear h0 h2 hb2
   go_loopw [4] (fun j wq => ∃ j' : Nat, j' ≤ N i ∧ j = .int .i64 j' ∧ FD 5 115 1 1 M wq base B n k F L G N (fun p => if p = i then prt (zO (M i)) j' (X i) else if p < i then rep (N p) (zO (M p)) else X p) ∧ wq.cell? ⟨wo.heap.size, 0, none⟩ = some (.slice la (N i) lc) ∧ wq.cell? ⟨wo.heap.size, 2, none⟩ = some (.int .i64 (M i)) ∧ Below base w wq ∧ wo.heap.size + 1 ≤ wq.heap.size ∧ Y7 k L (F 1) w wq) (fun j _ => N i - (intOf j).toNat)
   case atStart => exact ⟨0, Nat.zero_le _, rfl, HF2.out.congr (fun p hp => by
     by_cases hpi : p = i
     ·subst hpi; simp [aP]
     ·simp [hpi]), H0.out, H2.out, HB2.out, by omega, HS2.out⟩
   case round =>
    obtain ⟨j, hj, rfl, hfq, h0, h2, hbq, hsq, WS⟩ := hrel; have HFQ := jh hfq; have HBQ := jh hbq; have HSQ := jh WS; have hown := hfq.own i hlt; rw [HL.out, if_pos rfl] at hown; have hX := (SK.out.own i hlt).1; rw [if_neg (Nat.lt_irrefl i)] at hX; have HX := jh hX
    by_cases hjl : j < N i
    ·obtain ⟨g, o, cap, hh, -, hg4, hg1, hg5⟩ := Jo hown hjl
     cases hh
     have hL9 : L i = .slice (some ⟨g, o, none⟩) (N i) lc := HL.out; have hgl : g < wo.heap.size := (O1.lt (SK.out.own i hlt) g (by rw [hL9]; rfl)).2; have HOW := jh hown; obtain ⟨u0, hc0⟩ := Jy (q := 0) hown (qW _) HX.out hjl (by omega); rw [Nat.mul_one, Nat.add_zero] at hc0; have hf0 := qw hown (o + j); unfold maxLen at hg4; have HL9 := jh hL9; clear hfq hbq hown hX hg5 WS hL9
     go_wp2_with fail
     go_region_law (first
      | (go_simp
         go_at_call 125
         refine (ND _ (M i) hmm).mono ?_; rintro _ w9 ⟨rfl, Z4⟩; have hD := (Below.refl wr.heap.size wr).drew.trans Z4; have IC := O1.later HOW.out hD; have h0 := jm h0 hD; have h2 := jm h2 hD; have hc0 := jm hc0 hD; have hf0 := qw IC (o + j)
         clear IC))
     all_goals
      go_wp2_with fail
      go_roundw
      case rel =>
       have hp := (HFQ.out.later hD).over HA.out hlt HL9.out (if_pos rfl) HX.out hjl (qW _)
       exact ⟨j + 1, by omega, by go_num, FD.congr (show FD 5 115 1 1 M _ base B n k F L G N _ from by have h9 := hp; rw [Nat.mul_one] at h9; exact h9) (fun p hpk => by
        by_cases hpi : p = i
        ·simp only [hpi, if_true]
        ·simp only [hpi, if_false]), cell_far (l := zO (M i)) (p := o + j) h0 (show wo.heap.size ≠ g by omega), cell_far (l := zO (M i)) (p := o + j) h2 (show wo.heap.size ≠ g by omega), ZF (zO (M i)) hg1 (HBQ.out.trans (hD.mono (by omega))), (by have := hD.size; have h8 := Ze (zO (M i)) w9 g (o + j); exact Nat.le_trans (Nat.le_trans hsq this) (Nat.le_of_eq h8.symm)), (HSQ.out.later hD).put (l := zO (M i)) (p := o + j) hlt (show (L i).ownBlock = some g by rw [HL9.out]; rfl)⟩
      case measure => simp [intOf]; omega
    ·obtain rfl : j = N i := by omega
     clear hjl hown hX hfq hbq WS
     go_wp2_with fail
     go_roundw
     case rel => exact ⟨i + 1, by omega, by go_num, HFQ.out.congr (fun p hp => by
      by_cases hpi : p = i
      ·subst hpi; simp only [if_true, Nat.lt_succ_self]; exact UU _ _ HX.out
      ·by_cases hpl : p < i
       ·simp [hpi, hpl, show p < i + 1 by omega]
       ·simp [hpi, hpl, show ¬ p < i + 1 by omega]), HBQ.out, by omega, HSQ.out⟩
     case measure => simp [intOf]; omega
  ·obtain rfl : i = k := by omega
   have SK := jh hf; have KG := jh hbl; clear hf hbl
   go_wp2_with fail
   go_end0
   exact ⟨rfl, SK.out.congr (fun p hp => if_pos hp), KG.out, HSP.out⟩
theorem vN (w : World) (B base n k z : Nat) (F L G : Nat → Value) (M N : Nat → Nat) (hF : Grow 5 115 1 1 zO M z w base B n k F L G N 0) (hA : EC B k (F 1) L) (hk : k ≤ 1000) (hM : ∀ i, i < k → M i ≤ 1000) (hB : base ≤ B) (hG : ∀ i, i < k → G i = .slice none 0 0) (hN : ∀ i, i < k → N i ≤ 4000000) :
  Calls Tryz.prog 59 #[.pointer (some ⟨B, 0, none⟩)] w fun e w' => e = .returned (.tuple #[]) ∧ (∃ G', Grow 5 115 1 1 zO M z w' base B n k F L G' N k) ∧ Below base w w' ∧ Y7 k L (F 1) w w' := by
 obtain ⟨i0, hi0, hz0, hz1, hz2⟩ := info_parts QI; have HI := jh hi0; have HF := jh hF; have HA := jh hA; have HN := jh hN; have HM := jh hM; have HG0 := jh hG; obtain ⟨va, vc, hvb⟩ := hF.row.sl; have hs : base ≤ w.heap.size := by have := hF.book.lt; omega
 have HV := jh hvb; clear hF hA hG hN hi0 hM hvb
 go_enter Tryz.func59, Tryz.ntmps59
 go_wp2_with fail
 go_loopw [2] (fun i wr => ∃ (i' : Nat) (G' : Nat → Value), i' ≤ k ∧ i = .int .i64 i' ∧ Grow 5 115 1 1 zO M z wr base B n k F L G' N i' ∧ (∀ j, i' ≤ j → j < k → G' j = .slice none 0 0) ∧ Below base w wr ∧ base ≤ wr.heap.size ∧ Y7 k L (F 1) w wr) (fun i _ => k - (intOf i).toNat)
 case atStart => exact ⟨0, G, Nat.zero_le _, rfl, HF.out, fun j _ hj => HG0.out j hj, Below.refl _ _, hs, Y7.refl _ _ _ _⟩
 case round =>
  obtain ⟨i, G', hi, rfl, hf, hgn, hbl, hsz, hsp⟩ := hrel; obtain ⟨wo, rfl⟩ : ∃ wo : World, wo = wr := ⟨_, rfl⟩; have d1 := hf.book.2.1 1 (by omega) (by omega); rw [HV.out] at d1; have HSP := jh hsp; clear HG0 hsp
  by_cases hlt : i < k
  ·have hrow := hf.row; rw [HV.out] at hrow; obtain ⟨gv, ov, cv, hvb, hcv1, hcv2, yT, hcv4⟩ := Jo hrow hlt
   cases hvb
   obtain ⟨l0, l1, l2⟩ := Jd hrow hlt; rw [hgn i (Nat.le_refl _) hlt] at l1; obtain ⟨la, lc, hL⟩ := (hf.own i (Nat.le_refl _) hlt).sl; rw [hL] at l0; have hnn := HN.out i hlt; have hmm := HM.out i hlt; have SK := jh hf; have KG := jh hbl; have HL := jh hL; have HGN := jh hgn; unfold maxLen at hcv2; clear hf hbl hL hgn hrow
   go_wp2_with fail
   obtain ⟨w2, e2⟩ := je (wo.alloc (.cells #[.slice la (N i) lc, .slice none 0 0, .int .i64 (M i)] 115)); have h0 : w2.cell? ⟨wo.heap.size, 0, none⟩ = some (.slice la (N i) lc) := by rw [e2]; simp
   have h2 : w2.cell? ⟨wo.heap.size, 2, none⟩ = some (.int .i64 (M i)) := by rw [e2]; simp
   have hb2 := jc e2; have hs2 : w2.heap.size = wo.heap.size + 1 := by rw [e2]; simp
   rw [← e2]; clear e2 l0 l1 l2 d1; have HF2 := jh (SK.out.later hb2); have HB2 := jh (KG.out.trans (hb2.mono hsz)); have HS2 := jh (HSP.out.later hb2); have HLO := jh (xJ.first (qW _) (HF2.out.own i (Nat.le_refl _) hlt)); have WQ := jh h2; have hne : (L i).ownBlock ≠ some wo.heap.size := fun e => by have := SK.out.low i hlt _ e; omega
   have eH := jh hne; clear h2 hb2 hne
   go_wp2_with fail
   go_loopw [4, 5] (fun v j wq => ∃ j' : Nat, j' ≤ 40 ∧ j = .int .i64 j' ∧ xJ 5 1 (zO (M i)) w2 wq base (N i) (L i) v j') (fun _ j _ => 40 - (intOf j).toNat)
   case atStart => exact ⟨0, by omega, rfl, by have h9 := HLO.out; rw [show Value.slice la (N i) lc = L i from HL.out.symm]; exact h9⟩
   case round =>
    obtain ⟨j, hj, rfl, hlo⟩ := hrel; obtain ⟨a9, c9, rfl⟩ := hlo.own.sl; have hblk := hlo.frame wo.heap.size (by omega) eH.out; have h2 : wr.cell? ⟨wo.heap.size, 2, none⟩ = some (.int .i64 (M i)) := (World.cell?_of_block (w := w2) (a := ⟨wo.heap.size, 2, none⟩) hblk).trans WQ.out; have fH := jh hlo; have hls := hlo.size; clear hlo hblk
    by_cases hjl : j < 40
    ·go_wp2_with (first
      | (go_at_call 125; refine (ND _ (M i) hmm).mono ?_; rintro _ w9 ⟨rfl, Z4⟩; have h9s := Z4.size)
      | (at_builtin; refine jJ rfl (.tmp 28) (.tmp 32) 30 rfl base 5 i0 (.int .u8 0) 1 1 Tryz.underlying30 HI.out hz0 hz1 hz2 rfl (.slice a9 (N i + j) c9) (N i + j) (rep (N i + j) (zO (M i))) rfl (O1.later (O1.later fH.out.own Z4) (ja)) (.slice (some ⟨w9.heap.size, 0, none⟩) 1 1) 1 [.int .u8 ((M i % 256 : Nat) : Int)] rfl (Zc _ _ _) (by unfold maxLen; omega) (by omega) (by simp; omega) ?_
         intro v3 w3 ho3 hg3 hl3; have HN3 := jh (fH.out.next (qW _) (by omega) (qH Z4 (ja)) hg3 hl3 ho3)
         clear ho3 hg3 hl3))
     go_roundw
     case rel => exact ⟨j + 1, by omega, by go_num, HN3.out⟩
     case measure => simp [intOf]; omega
    ·obtain rfl : j = 40 := by omega
     clear hjl h2; have hbk : wr.heap[B]? = w2.heap[B]? := fH.out.frame B (by have := HF2.out.book.lt; omega) (fun e => (HA.out.one i hlt B e).1 rfl); have hgk : wr.heap[gv]? = w2.heap[gv]? := fH.out.frame gv (by omega) (fun e => (HA.out.one i hlt gv e).2 (by rw [HV.out]; rfl)); have d1 := (HF2.out.book.kept hbk).2.1 1 (by omega) (by omega); rw [HV.out] at d1; have hrw := O1.block HF2.out.row (w' := wr) (fun g hg => by rw [HV.out] at hg; cases hg; exact hgk); rw [HV.out] at hrw; obtain ⟨-, l1, -⟩ := Jd hrw hlt; have fr1 := qw hrw (ov + i * 3 + 1); have HST := jh (HF2.out.step HV.out HA.out hlt (qW _) fH.out.size fH.out.frame fH.out.own fH.out.at_ fH.out.start_block); have HSG := jh (fun u => HS2.out.grow (gv := gv) (p := ov + i * 3 + 1) (u := u) fH.out.size fH.out.frame hlt (by rw [HV.out]; rfl)); clear hbk hgk hrw
     go_wp2_with fail
     go_roundw
     case rel => exact ⟨i + 1, _, by omega, by go_num, HST.out, fun p h1 h2 => by rw [if_neg (by omega)]; exact HGN.out p (by omega) h2, ((HB2.out.trans fH.out.below).setCell (p := ⟨gv, ov + i * 3 + 1, none⟩) yT _), by simp; omega, HSG.out _⟩
     case measure => simp [intOf]; omega
  ·obtain rfl : i = k := by omega
   have SK := jh hf; have KG := jh hbl; clear hf hbl
   go_wp2_with fail
   go_end0
   exact ⟨rfl, ⟨G', SK.out⟩, KG.out, HSP.out⟩
theorem YM (w : World) (B base n k z : Nat) (F L G : Nat → Value) (M N : Nat → Nat) (hF : Grow 5 115 1 1 zO M z w base B n k F L G N k) (hk : k ≤ 1000) (hM : ∀ i, i < k → M i ≤ 1000) (hN : ∀ i, i < k → N i ≤ 4000000) :
  Calls Tryz.prog 76 #[.pointer (some ⟨B, 0, none⟩)] w fun e w' => e = .returned (.bool true) ∧ Below w.heap.size w w' := by
 have HF := jh hF; have HN := jh hN; have HM := jh hM; obtain ⟨va, vc, hvb⟩ := hF.row.sl; have HV := jh hvb; clear hF hN hM hvb
 go_enter Tryz.func76, Tryz.ntmps76
 go_wp2_with fail
 go_loopw [3] (fun i wr => ∃ i' : Nat, i' ≤ k ∧ i = .int .i64 i' ∧ Below w.heap.size w wr) (fun i _ => k - (intOf i).toNat)
 case atStart => exact ⟨0, Nat.zero_le _, rfl, Below.refl _ _⟩
 case round =>
  obtain ⟨i, hi, rfl, hbl⟩ := hrel; obtain ⟨wo, rfl⟩ : ∃ wo : World, wo = wr := ⟨_, rfl⟩; have hf := HF.out.later hbl; have d1 := hf.book.2.1 1 (by omega) (by omega); rw [HV.out] at d1
  by_cases hlt : i < k
  ·have hrow := hf.row; rw [HV.out] at hrow; obtain ⟨gv, ov, cv, hvb, hcv1, hcv2, yT, hcv4⟩ := Jo hrow hlt
   cases hvb
   obtain ⟨l0, l1, l2⟩ := Jd hrow hlt; obtain ⟨k1, k2⟩ := hf.done i hlt hlt; obtain ⟨la, lc, hL, _, _⟩ := k1.sl; obtain ⟨ga, gc, hG, _, _⟩ := k2.sl; have lo1 := hf.low i hlt; have lo2 := fun g h => (hf.far i hlt hlt g h).1
   rw [hL] at l0 k1 lo1; rw [hG] at l1 k2 lo2; have hnn := HN.out i hlt; have hmm := HM.out i hlt; have KG := jh hbl; have K1 := jh k1; have K2 := jh k2; have LO1 := jh lo1; have LO2 := jh lo2; unfold maxLen at hcv2; clear hf hbl hL hG k1 k2 hrow lo1 lo2
   go_wp2_with fail
   obtain ⟨w2, e2⟩ := je (wo.alloc (.cells #[.slice la (N i) lc, .slice ga (N i + 40) gc, .int .i64 (M i)] 115)); have h0 : w2.cell? ⟨wo.heap.size, 0, none⟩ = some (.slice la (N i) lc) := by rw [e2]; simp
   have h1 : w2.cell? ⟨wo.heap.size, 1, none⟩ = some (.slice ga (N i + 40) gc) := by rw [e2]; simp
   have h2 : w2.cell? ⟨wo.heap.size, 2, none⟩ = some (.int .i64 (M i)) := by rw [e2]; simp
   have hb2 := jc e2; rw [← e2]; clear e2 l0 l1 l2 d1; have HB2 := jh (qH KG.out hb2); have K12 := jh (K1.out.block (w' := w2) (fun g hg => hb2.block g (LO1.out g hg))); have K22 := jh (K2.out.block (w' := w2) (fun g hg => hb2.block g (LO2.out g hg))); have L12 := jh (fun g hg => Nat.lt_of_lt_of_le (LO1.out g hg) hb2.size); have L22 := jh (fun g hg => Nat.lt_of_lt_of_le (LO2.out g hg) hb2.size); have HH0 := jh h0; have HH1 := jh h1; have WQ := jh h2; clear hb2 K1 K2 LO1 LO2
   go_wp2_with fail
   go_loopw [5] (fun j wq => ∃ j' n : Nat, j' ≤ N i + 40 ∧ j = .int .i64 j' ∧ wq = w2.drewN n) (fun j _ => N i + 40 - (intOf j).toNat)
   case atStart => exact ⟨0, 0, by omega, rfl, rfl⟩
   case round =>
    obtain ⟨j, n, hj, rfl, hw⟩ := hrel; have q0 : wr.cell? ⟨wo.heap.size, 0, none⟩ = some (.slice la (N i) lc) := by rw [hw]; exact HH0.out
    have q1 : wr.cell? ⟨wo.heap.size, 1, none⟩ = some (.slice ga (N i + 40) gc) := by rw [hw]; exact HH1.out
    have q2 : wr.cell? ⟨wo.heap.size, 2, none⟩ = some (.int .i64 (M i)) := by rw [hw]; exact WQ.out
    obtain ⟨z, hz⟩ : ∃ z : Int, z = ((M i % 256 : Nat) : Int) := ⟨_, rfl⟩; have HZ := jh hz; have S := jh (fun m => Calls.quiet_of (by have h9 := PS (wr.drewN m) (M i) hmm; rewrite [← hz] at h9; exact h9)); have HW := jh hw; clear hz; clear hw h0 h1 h2
    by_cases hjl : j < N i + 40
    ·obtain ⟨g1, o1, rfl, hc1⟩ := K22.out.cell hjl; have hc1' : wr.cell? ⟨g1, o1 + j, none⟩ = some (.int .u8 z) := by rw [HW.out, HZ.out]; have h9 := hc1 0 _ rfl; rw [Nat.add_zero, qW, Nat.mul_one] at h9; exact h9
     by_cases hjn : j < N i
     ·obtain ⟨g2, o2, rfl, hc2⟩ := K12.out.cell hjn; have hc2' : wr.cell? ⟨g2, o2 + j, none⟩ = some (.int .u8 z) := by rw [HW.out, HZ.out]; have h9 := hc2 0 _ rfl; rw [Nat.add_zero, qW, Nat.mul_one] at h9; exact h9
      clear hc1 hc2
      go_wp2
      go_quiet ((go_at_call 142; with_reducible exact S.out _))
      go_wp2
      go_roundw
      case rel => exact ⟨j + 1, _, by omega, by go_num, by rw [HW.out]; exact World.drewN_drewN _ _ _⟩
      case measure => simp [intOf]; omega
     ·have hjn' : N i ≤ j := by omega
      have hjd : decide (j < N i) = false := by simpa using hjn'
      clear hc1 hjn
      go_wp2
      go_quiet ((go_at_call 142; with_reducible exact S.out _))
      go_wp2
      go_roundw
      case rel => exact ⟨j + 1, _, by omega, by go_num, by rw [HW.out]; exact World.drewN_drewN _ _ _⟩
      case measure => simp [intOf]; omega
    ·obtain rfl : j = N i + 40 := by omega
     clear hjl
     go_wp2_with fail
     go_roundw
     case rel => exact ⟨i + 1, by omega, by go_num, by rw [HW.out]; exact qH HB2.out (QC _ _)⟩
     case measure => simp [intOf]; omega
  ·obtain rfl : i = k := by omega
   have KG := jh hbl; clear hf hbl
   go_wp2_with fail
   go_ret
   exact ⟨rfl, KG.out⟩
end Go.Proofs.YtmijablfjigbhaaGreatDoor
