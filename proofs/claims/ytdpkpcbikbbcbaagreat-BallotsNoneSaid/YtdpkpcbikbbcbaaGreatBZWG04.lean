/- One element of a slice of the call's own is written over -/
import Derived.Test.YtdpkpcbikbbcbaaGreatBZWG03
import Derived.Test.YtdpkpcbikbbcbaaGreatRows
import Derived.WalkLawsBesides
import Derived.Deep.QuietTactic
import Derived.BigQuiet
import Derived.BigRegion
import Derived.Outline
import Derived.LoopTactic
set_option maxHeartbeats 3000000
set_option maxRecDepth 20000
namespace Go.Proofs.YtdpkpcbikbbcbaaGreat
open Go.ChangeShapes Go.WideShapes Go.ChangeAt Go.RowKit
theorem infoB : (Tryz.prog.info? 5).map (fun i => (i.zero, i.size, i.bytes)) = some (some (.int .u8 0), 1, 1) := by kernel_rfl
theorem one_new (w : World) (x : Value) (t : TypeId) : ∀ (j : Nat) (u : Value), [x][j]? = some u → (w.alloc (.cells #[x] t)).cell? ((⟨w.heap.size, 0, none⟩ : Addr).add j) = some u := by
 intro j u h
 cases j with
 | zero => simp at h; subst h; simp [Addr.add]
 | succ j => simp at h
theorem one_one {k : IntKind} (n : Int) : ∀ u ∈ [Value.int k n], u.oneCell' = true := fun u hu => by simp at hu; subst hu; rfl
def Own (w : World) (base : Nat) (v : Value) (l : List Nat) : Prop := OwnV w base 5 1 v l.length (jq .u8 l)
theorem Own.at_ {w : World} {base : Nat} {v : Value} {l : List Nat} (h : Own w base v l) : KAt .u8 w v l := by
 have h' := h; obtain ⟨h1, h2⟩ := h'
 rcases h2 with ⟨rfl, h3⟩ | ⟨g, o, cap, cur, rfl, hb, hg, hc, hm, hs, ht⟩
 ·have : l = [] := List.length_eq_zero_iff.1 h3; subst this; exact KAt.nil _ w
 ·refine ⟨_, _, rfl, hc, hm, (fun h => by cases h), fun _ => ⟨g, o, rfl, fun i x hx => ?_⟩⟩; have := OwnV.cells h i (.int .u8 x) (by rw [qr, hx]; rfl); rw [Addr.add_lit] at this; exact this
theorem Own.base {w : World} {B B' : Nat} {v : Value} {l : List Nat} (h : Own w B v l) (hB : B' ≤ B) : Own w B' v l := OwnV.base h hB
theorem Own.later {w w' : World} {B : Nat} {v : Value} {l : List Nat} (h : Own w B v l) (hb : Below w.heap.size w w') : Own w' B v l := OwnV.later h hb
theorem Own.shape {w : World} {B : Nat} {v : Value} {l : List Nat} (h : Own w B v l) : ∃ ao n cap, v = .slice ao n cap := by
 obtain ⟨ao, cap, h, _⟩ := h.at_; exact ⟨ao, _, cap, h⟩
theorem KAt.src {k : IntKind} {w : World} {v : Value} {l : List Nat} (h : KAt k w v l) : SrcV w 1 v l.length (jq k l) := by
 obtain ⟨ao, cap, rfl, h1, h2, h3, h4⟩ := h; refine ⟨ao, cap, rfl, by simp [js], Jj _ _, fun h0 => by have := h3 h0; omega, fun ad had j u hu => ?_⟩; rw [qr] at hu; obtain ⟨x, hx, rfl⟩ := Option.map_eq_some_iff.1 hu; obtain ⟨b, o, hbo, hc⟩ := h4 (by have := (List.getElem?_eq_some_iff.1 hx).1; omega); rw [had] at hbo
 cases hbo
 rw [Addr.add_lit]; exact hc j x hx
theorem KAt.drop {w : World} {g o cap : Nat} {b : List Nat} {k : IntKind} (hc : ∀ i x : Nat, b[i]? = some x → w.cell? ⟨g, o + i, none⟩ = some (.int k x)) (h1 : b.length ≤ cap) (h2 : cap ≤ maxLen) (n : Nat) (hn : n ≤ b.length) :
  KAt k w (.slice (some ⟨g, o + n, none⟩) (b.length - n) (cap - n)) (b.drop n) := by
 refine ⟨some ⟨g, o + n, none⟩, cap - n, by simp, by simp; omega, by omega, (fun h => by cases h), fun _ => ⟨g, o + n, rfl, fun i x hx => ?_⟩⟩; rw [List.getElem?_drop] at hx; have := hc _ _ hx; rw [Nat.add_assoc]; exact this
theorem own_empty (w : World) (e : TypeId) (size : Nat) : OwnV (w.alloc (.cells #[] e)) w.heap.size e size (.slice (some ⟨w.heap.size, 0, none⟩) 0 0) 0 [] :=
 ⟨by simp, .inr ⟨w.heap.size, 0, 0, #[], rfl, Nat.le_refl _, heap_alloc_new w _, Nat.le_refl _, Nat.zero_le _, by simp, by simp⟩⟩
theorem OwnV.clip {w : World} {B : Nat} {e : TypeId} {size : Nat} {ao : Option Addr} {n cap : Nat} {xs : List Value} (h : OwnV w B e size (.slice ao n cap) n xs) : OwnV w B e size (.slice ao n n) n xs := by
 obtain ⟨h1, h2⟩ := h; refine ⟨h1, ?_⟩
 rcases h2 with ⟨h2, h3⟩ | ⟨g, o, c, cur, h3, h4, h5, h6, h7, h8, h9⟩
 ·cases h2
  exact .inl ⟨rfl, rfl⟩
 ·cases h3
  exact .inr ⟨g, o, n, cur, rfl, h4, h5, Nat.le_refl _, Nat.le_trans h6 h7, Nat.le_trans (Nat.add_le_add_left (Nat.mul_le_mul_right _ h6) _) h8, h9⟩
theorem JO {P : Program} {w : World} {ops : Array Oper} {rest : List Oper} {o : Oper} {a : Act} {Q : Exit → Act → World → Prop} (hgd : o.guard = none) (s x : Operand) (t k : TypeId)
  (ho : o.op = .call { callee := .builtin .append, args := #[s, x], argTypes := #[t, k] }) (v y r : Value) (w' : World) (hs : a.eval s = v) (hy : a.eval x = y) (hr : ∀ ty, (Builtin.append_ #[t, k] ty #[v, y]).run P w = .ok r w')
  (h : wpList P ops Q rest (a.put o.dst r) w') : wpList P ops Q (o :: rest) a w := by
 refine wpList_plain hgd fun K hK => ?_
 unfold Oper.wp execOp; simp only [ho, resolve, invoke, builtin, Sem.run_bind, Sem.run_pure, Result.andThen_ok, List.map_toArray, List.map_cons, List.map_nil, hs, hy, hr]; exact hK _ _ h
def Parts (w : World) (g o : Nat) (vs : List Value) (ls : List (List Nat)) : Prop := vs.length = ls.length ∧ ∀ i, i < ls.length → ∃ v l, vs[i]? = some v ∧ ls[i]? = some l ∧ w.cell? ⟨g, o + i, none⟩ = some v ∧ KAt .u8 w v l
theorem Jy {ls : List (List Nat)} {i : Nat} {l : List Nat} (h : ls[i]? = some l) : (ls.take (i + 1)).flatten = (ls.take i).flatten ++ l := by
 rw [List.take_add_one, h]
 simp
theorem JV (ls : List (List Nat)) (i : Nat) : (ls.take i).flatten.length ≤ ls.flatten.length := by
 have h := congrArg (fun x => x.flatten.length) (List.take_append_drop i ls); simp only [List.flatten_append, List.length_append] at h; omega
theorem sizeB (w : World) : (sizeOf (Tryz.prog.elem 116)).run Tryz.prog w = .ok 1 w := by
 have : Tryz.prog.elem 116 = 5 := by kernel_rfl
 rw [this]
 go_simp
theorem elemB : Tryz.prog.underlying 116 = some (.slice (Tryz.prog.elem 116)) := by kernel_rfl
theorem slice_from {w : World} {v : Value} {l : List Nat} (hk : KAt .u8 w v l) (n : Nat) (hn : n ≤ l.length) :
  ∃ a c, (∀ W, (Instr.sliceAt 116 v (some (.int .i64 n)) none none).run Tryz.prog W = .ok (.slice a (l.length - n) c) W) ∧ KAt .u8 w (.slice a (l.length - n) c) (l.drop n) := by
 obtain ⟨ao, cap, rfl, h1, h2, h3, h4⟩ := hk
 have hrun : ∀ W, (Instr.sliceAt 116 (.slice ao l.length cap) (some (.int .i64 n)) none none).run Tryz.prog W = .ok (sliced ao n l.length cap 1) W := fun W => by
  rw [run_sliceAt_slice _ _ _ _ _ _ elemB, run_slice_l _ _ _ _ _ elemB .i64 n (by omega) (by omega), sizeB]
  simp
 unfold sliced at hrun; refine ⟨_, _, hrun, ?_⟩; have hl : (l.drop n).length = l.length - n := by simp
 refine ⟨_, _, by rw [hl], by rw [hl]; omega, by omega, fun hno => ?_, fun h0 => ?_⟩
 ·split at hno
  ·omega
  ·have : ao = none := by cases ao with | none => rfl | some _ => cases hno
   have := h3 this; omega
 ·rw [hl] at h0; obtain ⟨b, o, rfl, hc⟩ := h4 (by omega); rw [if_neg (by omega)]; refine ⟨b, o + n, by simp [Addr.add_lit], fun i x hx => ?_⟩; rw [List.getElem?_drop] at hx; rw [Nat.add_assoc]; exact hc _ _ hx
def bes (k : Nat) (ws : List Nat) : List Nat := ws.flatMap (be k)
theorem bes_take (k : Nat) (ws : List Nat) (i x : Nat) (h : ws[i]? = some x) : bes k (ws.take (i + 1)) = bes k (ws.take i) ++ be k x := by
 unfold bes; rw [List.take_add_one, h]
 simp
theorem bes_length (k : Nat) (ws : List Nat) : (bes k ws).length = k * ws.length := by
 unfold bes
 induction ws with
 | nil => rfl
 | cons w ws ih => rw [List.flatMap_cons, List.length_append, ih, jO, List.length_cons, Nat.mul_succ]; omega
theorem be_take_step {k x j : Nat} (hj : j < k) : (be k x).take (j + 1) = (be k x).take j ++ [x / 256 ^ (k - 1 - j) % 256] := by
 rw [List.take_add_one, List.getElem?_eq_getElem (by rw [jO]; exact hj), be_get k x j hj]
 rfl
theorem byte_int (x e : Nat) : (x : Int) / 2 ^ (8 * e) % 256 = ((x / 256 ^ e % 256 : Nat) : Int) := by
 rw [show (256 : Nat) ^ e = 2 ^ (8 * e) by rw [Nat.pow_mul]]
 simp
theorem put_any {b ws : List Nat} {v vs : Value} {k : Nat} (w : World) (hv : KAt .u8 w v b) (hk : k ≤ 8) (hvs : KAt .u64 w vs ws) (hne : 0 < ws.length) (hsz : b.length + k * ws.length ≤ 140737488355328) :
  Calls Tryz.prog 86 #[v, .int .i64 k, vs] w fun e w' => ∃ v', e = .returned v' ∧ w'.ownsRow w.heap.size 5 1 v' (b.length + k * ws.length) (jq .u8 (b ++ bes k ws)) ∧ Below w.heap.size w w' := by
 obtain ⟨i0, hi, hz0, hz1, hz2⟩ := info_parts infoB; obtain ⟨ao, cap, rfl, hc1, hc2, hc3, hc4⟩ := hv; obtain ⟨aw, capw, rfl, hw1, hw2, hw3, hw4⟩ := hvs; obtain ⟨g, o, rfl, hw5⟩ := hw4 hne; have hm1 := hc2; have hm2 := hw2; unfold maxLen at hm1 hm2; have HC := jh hc4; have HW := jh hw5; have HI := jh hi
 have hmk : ∀ w, (Instr.makeSlice 116 (.int .i64 b.length) (.int .i64 ((b.length : Int) + (k : Int) * (ws.length : Int)))).run Tryz.prog w = .ok (.slice (some ⟨w.heap.size, 0, none⟩) b.length (b.length + k * ws.length)) (w.alloc (.cells (List.replicate (b.length + k * ws.length) (Value.int .u8 0)).toArray 5)) := by
  intro w; have hkw : (k : Int) * (ws.length : Int) = ((k * ws.length : Nat) : Int) := by simp
  have e := run_make (P := Tryz.prog) w 116 5 i0 (.int .u8 0) Tryz.underlying116 hi hz0 .i64 .i64 b.length ((b.length : Int) + (k : Int) * (ws.length : Int)) (by omega) (by rw [hkw]; omega) (by rw [hz2, hkw]; omega) (by rw [hkw]; omega); rw [e, hz1, hkw, Int.toNat_natCast, show ((b.length : Int) + ((k * ws.length : Nat) : Int)).toNat = b.length + k * ws.length by omega, made_row]
 have HPOS := jh (show ∀ t, 0 < (jq .u8 b).length → (some ⟨w.heap.size, 0, none⟩ : Option Addr) = some ⟨w.heap.size, 0, none⟩ ∧ ∃ ad, ao = some ad ∧ ∀ (j : Nat) (v : Value), (jq .u8 b)[j]? = some v → (w.alloc t).cell? (ad.add j) = some v from by
  intro t h0; rw [js] at h0; obtain ⟨bb, oo, hao, hcell⟩ := HC.out h0; refine ⟨rfl, _, hao, fun j v hj => ?_⟩; rw [qr] at hj; obtain ⟨x, hx, rfl⟩ := Option.map_eq_some_iff.1 hj; have := hcell j x hx; rw [Addr.add_lit, World.cell?_alloc_lt w _ ⟨bb, oo + j, none⟩ (World.block_lt_of_cell? (a := ⟨bb, oo + j, none⟩) _ this)]
  exact this)
 clear hc4 hw4 hw5 hi hw3
 go_enter Tryz.func86, Tryz.ntmps86
 go_wp2_with (refine wpList_copy_splice rfl (.tmp 21) (.tmp 22) 116 116 rfl 5 Tryz.underlying116 (by kernel_rfl) (some ⟨w.heap.size, 0, none⟩) ao b.length (b.length + k * ws.length) b.length cap rfl rfl w.heap.size 0 (List.replicate (b.length + k * ws.length) (Value.int .u8 0)) 5 (heap_alloc_new w _) (jq .u8 b) (by simp [js]) (HPOS.out _) (by simp [js]) (Jj _ _) w.heap.size w (ja) (Nat.le_refl _) ?_; intro w1 hrow hbel)
 have HOWN := jh (own_of_copy (base := w.heap.size) (Nat.le_refl _) (show b.length ≤ b.length + k * ws.length by omega) (by unfold maxLen; omega) hrow.out); clear hrow; have HBEL := jh hbel; clear hbel
 go_loopw [7, 26] (fun v i wr => ∃ i' : Nat, i' ≤ ws.length ∧ i = .int .i64 i' ∧ wr.ownsRow w.heap.size 5 1 v (b.length + k * i') (jq .u8 (b ++ bes k (ws.take i'))) ∧ Below w.heap.size w wr) (fun _ i _ => ws.length - (intOf i).toNat)
 case atStart => exact ⟨0, Nat.zero_le _, rfl, by simpa [bes] using HOWN.out, HBEL.out⟩
 case round =>
  obtain ⟨i, hi, rfl, hown, hbel⟩ := hrel; have HO := jh hown; have HB := jh hbel; clear hown hbel HOWN HBEL
  by_cases hlt : i < ws.length
  ·obtain ⟨x, hx⟩ : ∃ x, ws[i]? = some x := ⟨_, List.getElem?_eq_getElem hlt⟩; have hcell := HW.out i x hx; have hcell2 := HB.out.cell (p := ⟨g, o + i, none⟩) (World.block_lt_of_cell? (a := ⟨g, o + i, none⟩) _ hcell); rw [hcell] at hcell2; have HX := jh hx; clear hcell hx; obtain ⟨wo, rfl⟩ : ∃ wo : World, wo = wr := ⟨_, rfl⟩
   go_wp2
   go_loopw [7, 31] (fun v j wr => ∃ j' : Nat, j' ≤ k ∧ j = .int .i64 j' ∧ wr.ownsRow w.heap.size 5 1 v (b.length + k * i + j') (jq .u8 (b ++ bes k (ws.take i) ++ (be k x).take j')) ∧ Below w.heap.size w wr) (fun _ j _ => k - (intOf j).toNat)
   case atStart => exact ⟨0, Nat.zero_le _, rfl, by simpa using HO.out, HB.out⟩
   case round =>
    obtain ⟨j, hj, rfl, hown, hbel⟩ := hrel; have HP := jh hown; have HC2 := jh hbel; clear hown hbel hcell2
    by_cases hjk : j < k
    ·have hmul : b.length + k * i + j + 1 ≤ b.length + k * ws.length := by
      have := Nat.mul_le_mul_left k (show i + 1 ≤ ws.length from hlt); rw [Nat.mul_succ] at this; omega
     have HM := jh (show b.length + k * i + j + 1 ≤ 140737488355328 by omega); clear hmul
     go_wp2_with (at_builtin; refine wpList_append_own _ rfl _ _ 116 rfl w.heap.size 5 i0 (.int .u8 0) 1 1 Tryz.underlying116 HI.out hz0 hz1 hz2 rfl (by decide) _ _ _ rfl (HP.out.alloc _) ⟨wr.heap.size, 0, none⟩ 1 1 [.int .u8 ((x : Int) / 2 ^ (8 * (k - 1 - j)) % 256)] rfl rfl (one_new _ _ _) (one_one _) (by have := HM.out; unfold maxLen; omega) (by have := HM.out; omega) (by have := HC2.out.size; simp only [World.size_alloc]; omega) ?_; intro v' w2 hown2 hgrow _; have HO2 := jh hown2; have HG2 := jh hgrow; clear hown2 hgrow)
     go_roundw
     case rel => exact ⟨j + 1, by omega, by go_num, by
      rw [be_take_step hjk, ← List.append_assoc, qB, show jq .u8 [x / 256 ^ (k - 1 - j) % 256] = [.int .u8 ((x : Int) / 2 ^ (8 * (k - 1 - j)) % 256)] by rw [byte_int]; rfl]
      exact HO2.out, (HC2.out.alloc HC2.out.size _).grown HG2.out (by have := HC2.out.size; simp only [World.size_alloc]; omega) (fun q hq => (HP.out.lt q hq).1)⟩
     case measure => simp [intOf]; omega
    ·obtain rfl : j = k := by omega
     go_wp2
     go_roundw
     case rel => exact ⟨i + 1, by omega, by go_num, by
      have h1 := HP.out; rw [show (be j x).take j = be j x from List.take_of_length_le (by rw [jO]; exact Nat.le_refl _), List.append_assoc, ← bes_take j ws i x HX.out] at h1; rw [show b.length + j * (i + 1) = b.length + j * i + j by rw [Nat.mul_succ]; omega]
      exact h1, HC2.out⟩
     case measure => simp [intOf]; omega
  ·obtain rfl : i = ws.length := by omega
   go_wp2
   go_ret
   exact ⟨_, rfl, by have h1 := HO.out; rw [List.take_length] at h1; exact h1, HB.out⟩
theorem put_own {b ws : List Nat} {v vs : Value} {k : Nat} (ki : Int) (hki : ki = k) (w : World) (hv : KAt .u8 w v b) (hk : k ≤ 8) (hvs : KAt .u64 w vs ws) (hne : 0 < ws.length) (hsz : b.length + k * ws.length ≤ 140737488355328) :
  Calls Tryz.prog 86 #[v, .int .i64 ki, vs] w fun e w' => ∃ v', e = .returned v' ∧ Own w' w.heap.size v' (b ++ bes k ws) ∧ Below w.heap.size w w' := by
 subst hki; exact (put_any w hv hk hvs hne hsz).mono fun _ _ ⟨v', he, ho, hb⟩ => ⟨v', he, by unfold Own; rw [List.length_append, bes_length]; exact OwnV.of_row ho, hb⟩
def many (bytes : Int) : Nat := (min 8 (max 0 bytes)).toNat
theorem many_le (bytes : Int) : many bytes ≤ 8 := by unfold many; omega
theorem Put_any {b : List Nat} {v : Value} (w : World) (hv : KAt .u8 w v b) (n : Nat) (bytes : Int) (h0 : -9223372036854775808 ≤ bytes) (h1 : bytes ≤ 9223372036854775807) (hsz : b.length + 8 ≤ 140737488355328) :
  Calls Tryz.prog 113 #[v, .int .u64 n, .int .i64 bytes] w fun e w' => ∃ v', e = .returned v' ∧ Own w' w.heap.size v' (b ++ be (many bytes) n) ∧ Below w.heap.size w w' := by
 have HV := jh hv; have hm := many_le bytes
 have HW := jh (show ∀ t, KAt .u64 (w.alloc (.cells #[.int .u64 n] t)) (.slice (some ⟨w.heap.size, 0, none⟩) 1 1) [n] from fun t => ⟨_, _, rfl, Nat.le_refl _, by unfold maxLen; omega, (fun h => by cases h), fun _ => ⟨_, _, rfl, fun i x hx => by
  cases i with
  | zero => simp at hx; subst hx; simp
  | succ i => simp at hx⟩⟩)
 have HP := jh (fun t ki hki => put_own (k := many bytes) ki hki _ (HV.out.later ((Below.refl _ w).alloc (Nat.le_refl _) (.cells #[.int .u64 n] t))) hm (HW.out t) (by simp) (by simp; omega)); clear hv; have hc : bytes ≤ 0 ∨ (0 < bytes ∧ bytes < 8) ∨ 8 ≤ bytes := by omega
 have HF := jh (fun (m : Nat) (v' : Value) (w1 : World) (t : TypeId) (ho : Own w1 (w.alloc (.cells #[.int .u64 n] t)).heap.size v' (b ++ bes m [n])) (hb : Below (w.alloc (.cells #[.int .u64 n] t)).heap.size (w.alloc (.cells #[.int .u64 n] t)) w1) =>
  (show Own w1 w.heap.size v' (b ++ be m n) ∧ Below w.heap.size w w1 from
   ⟨by have h2 := ho.base (B' := w.heap.size) (by simp); simpa [bes] using h2, ((Below.refl _ w).alloc (Nat.le_refl _) _).trans (hb.mono (by simp))⟩))
 rcases hc with hc | ⟨hc1, hc2⟩ | hc
 ·have e0 : many bytes = 0 := by unfold many; omega
  rw [e0] at HP ⊢; clear HV HW hm e0
  go_enter Tryz.func113, Tryz.ntmps113
  go_wp2_with (go_at_call 86; refine (HP.out _ 0 rfl).mono ?_; rintro e w1 ⟨v', rfl, ho, hb⟩; have HQ := jh (HF.out _ _ _ _ ho hb); clear ho hb)
  go_ret
  exact ⟨_, rfl, HQ.out⟩
 ·obtain ⟨m, rfl⟩ : ∃ m : Nat, bytes = m := ⟨bytes.toNat, by omega⟩; have e0 : many m = m := by unfold many; omega
  rw [e0] at HP ⊢; clear HV HW hm e0
  go_enter Tryz.func113, Tryz.ntmps113
  go_wp2_with (go_at_call 86; refine (HP.out _ m rfl).mono ?_; rintro e w1 ⟨v', rfl, ho, hb⟩; have HQ := jh (HF.out _ _ _ _ ho hb); clear ho hb)
  go_ret
  exact ⟨_, rfl, HQ.out⟩
 ·have e0 : many bytes = 8 := by unfold many; omega
  rw [e0] at HP ⊢; clear HV HW hm e0
  go_enter Tryz.func113, Tryz.ntmps113
  go_wp2_with (go_at_call 86; refine (HP.out _ 8 rfl).mono ?_; rintro e w1 ⟨v', rfl, ho, hb⟩; have HQ := jh (HF.out _ _ _ _ ho hb); clear ho hb)
  go_ret
  exact ⟨_, rfl, HQ.out⟩
theorem heap_same9 (w : World) (b off : Nat) (u : Value) (c : Array Value) (t : TypeId) (fr : Nat × Nat) (h : w.heap[b]? = some (.cells c t fr)) : (w.setCell ⟨b, off, none⟩ u).heap[b]? = some (.cells (c.setIfInBounds off u) t fr) := by
 simp only [World.setCell]; rw [Array.getElem?_modify]
 simp [h]
theorem OwnV.put9 {w : World} {base : Nat} {e : TypeId} {size n : Nat} {xs : List Value} {g o cap : Nat} (h : OwnV w base e size (.slice (some ⟨g, o, none⟩) n cap) n xs) {j : Nat} (u : Value) : OwnV (w.setCell ⟨g, o + j, none⟩ u) base e size (.slice (some ⟨g, o, none⟩) n cap) n (xs.set j u) := by
 obtain ⟨h1, h2⟩ := h
 rcases h2 with ⟨h2, _⟩ | ⟨g', o', cap', cur, h3, h4, h5, h6, h7, h8, h9⟩
 ·cases h2
 ·cases h3
  refine ⟨by rw [List.length_set]; exact h1, .inr ⟨g, o, cap, _, rfl, h4, heap_same9 w g (o + j) u cur e (0, 0) h5, h6, h7, by rw [Array.size_setIfInBounds]; exact h8, ?_⟩⟩; rw [Array.toList_setIfInBounds, List.drop_set, if_neg (by omega), show o + j - o = j by omega, List.take_set, h9]
theorem Jf (w : World) (g off : Nat) (u : Value) : w.grownBy (w.setCell ⟨g, off, none⟩ u) (some g) := ⟨rfl, rfl, rfl, by simp [World.setCell], fun k _ hk => Below.heap_setCell _ _ _ k (fun e => hk (by rw [e]))⟩
theorem OwnV.cell9 {w : World} {base : Nat} {e : TypeId} {size n : Nat} {xs : List Value} {g o cap j : Nat} {v : Value} (h : OwnV w base e size (.slice (some ⟨g, o, none⟩) n cap) n xs) (hv : xs[j]? = some v) : w.cell? ⟨g, o + j, none⟩ = some v := by
 have h9 := h.cells j v hv; rw [Addr.add_lit] at h9; exact h9
theorem OwnV.thaw9 {w : World} {base : Nat} {e : TypeId} {size n : Nat} {xs : List Value} {g o cap : Nat} (h : OwnV w base e size (.slice (some ⟨g, o, none⟩) n cap) n xs) (j : Nat) : w.frozen? ⟨g, j, none⟩ = false := own_free h j
end Go.Proofs.YtdpkpcbikbbcbaaGreat
