/- The reference's Put, PutLong, PutBytes -/
import Derived.Test.YtcaeaejefdhloaaGreatZWG03
import Derived.Test.YtcaeaejefdhloaaGreatRows
import Derived.WalkLawsBesides
import Derived.Deep.QuietTactic
import Derived.BigQuiet
import Derived.BigRegion
import Derived.Outline
import Derived.LoopTactic
set_option maxHeartbeats 3000000
set_option maxRecDepth 20000
namespace Go.Proofs.YtcaeaejefdhloaaGreat
open Go.ChangeShapes Go.WideShapes Go.ChangeAt Go.RowKit
theorem Zj : (Tryz.prog.info? 5).map (fun i => (i.zero, i.size, i.bytes)) = some (some (.int .u8 0), 1, 1) := by kernel_rfl
theorem JX (w : World) (x : Value) (t : TypeId) : ∀ (j : Nat) (u : Value), [x][j]? = some u → (w.alloc (.cells #[x] t)).cell? ((⟨w.heap.size, 0, none⟩ : Addr).add j) = some u := by
 intro j u h
 cases j with
 | zero => simp at h; subst h; simp [Addr.add]
 | succ j => simp at h
theorem Qt {k : IntKind} (n : Int) : ∀ u ∈ [Value.int k n], u.oneCell' = true := fun u hu => by simp at hu; subst hu; rfl
def Own (w : World) (base : Nat) (v : Value) (l : List Nat) : Prop := OwnV w base 5 1 v l.length (jq .u8 l)
theorem Own.at_ {w : World} {base : Nat} {v : Value} {l : List Nat} (h : Own w base v l) : KAt .u8 w v l := by
 have h' := h; obtain ⟨h1, h2⟩ := h'
 rcases h2 with ⟨rfl, h3⟩ | ⟨g, o, cap, cur, rfl, hb, hg, hc, hm, hs, ht⟩
 ·have : l = [] := List.length_eq_zero_iff.1 h3; subst this; exact KAt.nil _ w
 ·refine ⟨_, _, rfl, hc, hm, (fun h => by cases h), fun _ => ⟨g, o, rfl, fun i x hx => ?_⟩⟩; have := OwnV.cells h i (.int .u8 x) (by rw [qe, hx]; rfl); rw [Addr.add_lit] at this; exact this
theorem Own.base {w : World} {B B' : Nat} {v : Value} {l : List Nat} (h : Own w B v l) (hB : B' ≤ B) : Own w B' v l := OwnV.base h hB
theorem Own.later {w w' : World} {B : Nat} {v : Value} {l : List Nat} (h : Own w B v l) (hb : Below w.heap.size w w') : Own w' B v l := OwnV.later h hb
theorem Own.shape {w : World} {B : Nat} {v : Value} {l : List Nat} (h : Own w B v l) : ∃ ao n cap, v = .slice ao n cap := by
 obtain ⟨ao, cap, h, _⟩ := h.at_; exact ⟨ao, _, cap, h⟩
theorem KAt.src {k : IntKind} {w : World} {v : Value} {l : List Nat} (h : KAt k w v l) : Zp w 1 v l.length (jq k l) := by
 obtain ⟨ao, cap, rfl, h1, h2, h3, h4⟩ := h; refine ⟨ao, cap, rfl, by simp [jx], zn _ _, fun h0 => by have := h3 h0; omega, fun ad had j u hu => ?_⟩; rw [qe] at hu; obtain ⟨x, hx, rfl⟩ := Option.map_eq_some_iff.1 hu; obtain ⟨b, o, hbo, hc⟩ := h4 (by have := (List.getElem?_eq_some_iff.1 hx).1; omega); rw [had] at hbo
 cases hbo
 rw [Addr.add_lit]; exact hc j x hx
theorem KAt.cut {w : World} {g o cap : Nat} {b : List Nat} {k : IntKind} (hc : ∀ i x : Nat, b[i]? = some x → w.cell? ⟨g, o + i, none⟩ = some (.int k x)) (h1 : b.length ≤ cap) (h2 : cap ≤ maxLen) (j n : Nat) (hn : j + n ≤ b.length) :
  KAt k w (.slice (some ⟨g, o + j, none⟩) n (cap - j)) ((b.drop j).take n) := by
 have hl : ((b.drop j).take n).length = n := by simp; omega
 refine ⟨some ⟨g, o + j, none⟩, cap - j, by rw [hl], by rw [hl]; omega, by omega, (fun h => by cases h), fun _ => ⟨g, o + j, rfl, fun i x hx => ?_⟩⟩; rw [List.getElem?_take] at hx
 split at hx
 ·rw [List.getElem?_drop] at hx; rw [Nat.add_assoc]; exact hc _ _ hx
 ·cases hx
theorem KAt.drop {w : World} {g o cap : Nat} {b : List Nat} {k : IntKind} (hc : ∀ i x : Nat, b[i]? = some x → w.cell? ⟨g, o + i, none⟩ = some (.int k x)) (h1 : b.length ≤ cap) (h2 : cap ≤ maxLen) (n : Nat) (hn : n ≤ b.length) :
  KAt k w (.slice (some ⟨g, o + n, none⟩) (b.length - n) (cap - n)) (b.drop n) := by
 refine ⟨some ⟨g, o + n, none⟩, cap - n, by simp, by simp; omega, by omega, (fun h => by cases h), fun _ => ⟨g, o + n, rfl, fun i x hx => ?_⟩⟩; rw [List.getElem?_drop] at hx; have := hc _ _ hx; rw [Nat.add_assoc]; exact this
theorem Jv {P : Program} {w : World} {ops : Array Oper} {rest : List Oper} {o : Oper} {a : Act} {Q : Exit → Act → World → Prop} (hgd : o.guard = none) (s x : Operand) (t k : TypeId)
  (ho : o.op = .call { callee := .builtin .append, args := #[s, x], argTypes := #[t, k] }) (v y r : Value) (w' : World) (hs : a.eval s = v) (hy : a.eval x = y) (hr : ∀ ty, (Builtin.append_ #[t, k] ty #[v, y]).run P w = .ok r w')
  (h : wpList P ops Q rest (a.put o.dst r) w') : wpList P ops Q (o :: rest) a w := by
 refine wpList_plain hgd fun K hK => ?_
 unfold Oper.wp execOp; simp only [ho, resolve, invoke, builtin, Sem.run_bind, Sem.run_pure, Result.andThen_ok, List.map_toArray, List.map_cons, List.map_nil, hs, hy, hr]; exact hK _ _ h
def Parts (w : World) (g o : Nat) (vs : List Value) (ls : List (List Nat)) : Prop := vs.length = ls.length ∧ ∀ i, i < ls.length → ∃ v l, vs[i]? = some v ∧ ls[i]? = some l ∧ w.cell? ⟨g, o + i, none⟩ = some v ∧ KAt .u8 w v l
theorem zZ {ls : List (List Nat)} {i : Nat} {l : List Nat} (h : ls[i]? = some l) : (ls.take (i + 1)).flatten = (ls.take i).flatten ++ l := by
 rw [List.take_add_one, h]
 simp
theorem JB (ls : List (List Nat)) (i : Nat) : (ls.take i).flatten.length ≤ ls.flatten.length := by
 have h := congrArg (fun x => x.flatten.length) (List.take_append_drop i ls); simp only [List.flatten_append, List.length_append] at h; omega
theorem sizeB (w : World) : (sizeOf (Tryz.prog.elem 30)).run Tryz.prog w = .ok 1 w := by
 have : Tryz.prog.elem 30 = 5 := by kernel_rfl
 rw [this]
 go_simp
theorem elemB : Tryz.prog.underlying 30 = some (.slice (Tryz.prog.elem 30)) := by kernel_rfl
theorem slice_from {w : World} {v : Value} {l : List Nat} (hk : KAt .u8 w v l) (n : Nat) (hn : n ≤ l.length) :
  ∃ a c, (∀ W, (Instr.sliceAt 30 v (some (.int .i64 n)) none none).run Tryz.prog W = .ok (.slice a (l.length - n) c) W) ∧ KAt .u8 w (.slice a (l.length - n) c) (l.drop n) := by
 obtain ⟨ao, cap, rfl, h1, h2, h3, h4⟩ := hk
 have hrun : ∀ W, (Instr.sliceAt 30 (.slice ao l.length cap) (some (.int .i64 n)) none none).run Tryz.prog W = .ok (sliced ao n l.length cap 1) W := fun W => by
  rw [run_sliceAt_slice _ _ _ _ _ _ elemB, run_slice_l _ _ _ _ _ elemB .i64 n (by omega) (by omega), sizeB]
  simp
 unfold sliced at hrun; refine ⟨_, _, hrun, ?_⟩; have hl : (l.drop n).length = l.length - n := by simp
 refine ⟨_, _, by rw [hl], by rw [hl]; omega, by omega, fun hno => ?_, fun h0 => ?_⟩
 ·split at hno
  ·omega
  ·have : ao = none := by cases ao with | none => rfl | some _ => cases hno
   have := h3 this; omega
 ·rw [hl] at h0; obtain ⟨b, o, rfl, hc⟩ := h4 (by omega); rw [if_neg (by omega)]; refine ⟨b, o + n, by simp [Addr.add_lit], fun i x hx => ?_⟩; rw [List.getElem?_drop] at hx; rw [Nat.add_assoc]; exact hc _ _ hx
def bes (k : Nat) (ws : List Nat) : List Nat := ws.flatMap (be k)
theorem bes_take (k : Nat) (ws : List Nat) (i x : Nat) (h : ws[i]? = some x) : bes k (ws.take (i + 1)) = bes k (ws.take i) ++ be k x := by
 unfold bes; rw [List.take_add_one, h]
 simp
theorem bes_length (k : Nat) (ws : List Nat) : (bes k ws).length = k * ws.length := by
 unfold bes
 induction ws with
 | nil => rfl
 | cons w ws ih => rw [List.flatMap_cons, List.length_append, ih, jF, List.length_cons, Nat.mul_succ]; omega
theorem Jd {k x j : Nat} (hj : j < k) : (be k x).take (j + 1) = (be k x).take j ++ [x / 256 ^ (k - 1 - j) % 256] := by
 rw [List.take_add_one, List.getElem?_eq_getElem (by rw [jF]; exact hj), be_get k x j hj]
 rfl
theorem Zm (x e : Nat) : (x : Int) / 2 ^ (8 * e) % 256 = ((x / 256 ^ e % 256 : Nat) : Int) := by
 rw [show (256 : Nat) ^ e = 2 ^ (8 * e) by rw [Nat.pow_mul]]
 simp
theorem put_any {b ws : List Nat} {v vs : Value} {k : Nat} (w : World) (hv : KAt .u8 w v b) (hk : k ≤ 8) (hvs : KAt .u64 w vs ws) (hne : 0 < ws.length) (hsz : b.length + k * ws.length ≤ 140737488355328) :
  Calls Tryz.prog 88 #[v, .int .i64 k, vs] w fun e w' => ∃ v', e = .returned v' ∧ w'.ownsRow w.heap.size 5 1 v' (b.length + k * ws.length) (jq .u8 (b ++ bes k ws)) ∧ Below w.heap.size w w' := by
 obtain ⟨i0, hi, hz0, hz1, hz2⟩ := info_parts Zj; obtain ⟨ao, cap, rfl, hc1, hc2, hc3, hc4⟩ := hv; obtain ⟨aw, capw, rfl, hw1, hw2, hw3, hw4⟩ := hvs; obtain ⟨g, o, rfl, hw5⟩ := hw4 hne; have hm1 := hc2; have hm2 := hw2; unfold maxLen at hm1 hm2; have HC := jh hc4; have HW := jh hw5; have HI := jh hi
 have hmk : ∀ w, (Instr.makeSlice 30 (.int .i64 b.length) (.int .i64 ((b.length : Int) + (k : Int) * (ws.length : Int)))).run Tryz.prog w = .ok (.slice (some ⟨w.heap.size, 0, none⟩) b.length (b.length + k * ws.length)) (w.alloc (.cells (List.replicate (b.length + k * ws.length) (Value.int .u8 0)).toArray 5)) := by
  intro w; have hkw : (k : Int) * (ws.length : Int) = ((k * ws.length : Nat) : Int) := by simp
  have e := run_make (P := Tryz.prog) w 30 5 i0 (.int .u8 0) Tryz.underlying30 hi hz0 .i64 .i64 b.length ((b.length : Int) + (k : Int) * (ws.length : Int)) (by omega) (by rw [hkw]; omega) (by rw [hz2, hkw]; omega) (by rw [hkw]; omega); rw [e, hz1, hkw, Int.toNat_natCast, show ((b.length : Int) + ((k * ws.length : Nat) : Int)).toNat = b.length + k * ws.length by omega, made_row]
 have HPOS := jh (show ∀ t, 0 < (jq .u8 b).length → (some ⟨w.heap.size, 0, none⟩ : Option Addr) = some ⟨w.heap.size, 0, none⟩ ∧ ∃ ad, ao = some ad ∧ ∀ (j : Nat) (v : Value), (jq .u8 b)[j]? = some v → (w.alloc t).cell? (ad.add j) = some v from by
  intro t h0; rw [jx] at h0; obtain ⟨bb, oo, hao, hcell⟩ := HC.out h0; refine ⟨rfl, _, hao, fun j v hj => ?_⟩; rw [qe] at hj; obtain ⟨x, hx, rfl⟩ := Option.map_eq_some_iff.1 hj; have := hcell j x hx; rw [Addr.add_lit, World.cell?_alloc_lt w _ ⟨bb, oo + j, none⟩ (World.block_lt_of_cell? (a := ⟨bb, oo + j, none⟩) _ this)]
  exact this)
 clear hc4 hw4 hw5 hi hw3
 go_enter Tryz.func88, Tryz.ntmps88
 go_wp2_with (refine wpList_copy_splice rfl (.tmp 21) (.tmp 22) 30 30 rfl 5 Tryz.underlying30 (by kernel_rfl) (some ⟨w.heap.size, 0, none⟩) ao b.length (b.length + k * ws.length) b.length cap rfl rfl w.heap.size 0 (List.replicate (b.length + k * ws.length) (Value.int .u8 0)) 5 (heap_alloc_new w _) (jq .u8 b) (by simp [jx]) (HPOS.out _) (by simp [jx]) (zn _ _) w.heap.size w (ja) (Nat.le_refl _) ?_; intro w1 hrow hbel)
 have HOWN := jh (own_of_copy (base := w.heap.size) (Nat.le_refl _) (show b.length ≤ b.length + k * ws.length by omega) (by unfold maxLen; omega) hrow.out); clear hrow; have HBEL := jh hbel; clear hbel
 go_loopw [7, 26] (fun v i wr => ∃ i' : Nat, i' ≤ ws.length ∧ i = .int .i64 i' ∧ wr.ownsRow w.heap.size 5 1 v (b.length + k * i') (jq .u8 (b ++ bes k (ws.take i'))) ∧ Below w.heap.size w wr) (fun _ i _ => ws.length - (intOf i).toNat)
 case atStart => exact ⟨0, Nat.zero_le _, rfl, by simpa [bes] using HOWN.out, HBEL.out⟩
 case round =>
  obtain ⟨i, hi, rfl, hown, hbel⟩ := hrel; have HO := jh hown; have HB := jh hbel; clear hown hbel HOWN HBEL
  by_cases hlt : i < ws.length
  ·obtain ⟨x, hx⟩ : ∃ x, ws[i]? = some x := ⟨_, List.getElem?_eq_getElem hlt⟩; have hcell := HW.out i x hx; have hcell2 := HB.out.cell (p := ⟨g, o + i, none⟩) (World.block_lt_of_cell? (a := ⟨g, o + i, none⟩) _ hcell); rw [hcell] at hcell2; have HX := jh hx; clear hcell hx; obtain ⟨wo, rfl⟩ : ∃ wo : World, wo = wr := ⟨_, rfl⟩
   go_wp2
   go_loopw [7, 31] (fun v j wr => ∃ j' : Nat, j' ≤ k ∧ j = .int .i64 j' ∧ wr.ownsRow w.heap.size 5 1 v (b.length + k * i + j') (jq .u8 (b ++ bes k (ws.take i) ++ (be k x).take j')) ∧ Below w.heap.size w wr) (fun _ j _ => k - (intOf j).toNat)
   case atStart => exact ⟨0, Nat.zero_le _, rfl, by simpa using HO.out, HB.out⟩
   case round =>
    obtain ⟨j, hj, rfl, hown, hbel⟩ := hrel; have HP := jh hown; have HC2 := jh hbel; clear hown hbel hcell2
    by_cases hjk : j < k
    ·have hmul : b.length + k * i + j + 1 ≤ b.length + k * ws.length := by
      have := Nat.mul_le_mul_left k (show i + 1 ≤ ws.length from hlt); rw [Nat.mul_succ] at this; omega
     have HM := jh (show b.length + k * i + j + 1 ≤ 140737488355328 by omega); clear hmul
     go_wp2_with (at_builtin; refine wpList_append_own _ rfl _ _ 30 rfl w.heap.size 5 i0 (.int .u8 0) 1 1 Tryz.underlying30 HI.out hz0 hz1 hz2 rfl (by decide) _ _ _ rfl (HP.out.alloc _) ⟨wr.heap.size, 0, none⟩ 1 1 [.int .u8 ((x : Int) / 2 ^ (8 * (k - 1 - j)) % 256)] rfl rfl (JX _ _ _) (Qt _) (by have := HM.out; unfold maxLen; omega) (by have := HM.out; omega) (by have := HC2.out.size; simp only [World.size_alloc]; omega) ?_; intro v' w2 hown2 hgrow _; have HO2 := jh hown2; have HG2 := jh hgrow; clear hown2 hgrow)
     go_roundw
     case rel => exact ⟨j + 1, by omega, by go_num, by
      rw [Jd hjk, ← List.append_assoc, jN, show jq .u8 [x / 256 ^ (k - 1 - j) % 256] = [.int .u8 ((x : Int) / 2 ^ (8 * (k - 1 - j)) % 256)] by rw [Zm]; rfl]
      exact HO2.out, (HC2.out.alloc HC2.out.size _).grown HG2.out (by have := HC2.out.size; simp only [World.size_alloc]; omega) (fun q hq => (HP.out.lt q hq).1)⟩
     case measure => simp [intOf]; omega
    ·obtain rfl : j = k := by omega
     go_wp2
     go_roundw
     case rel => exact ⟨i + 1, by omega, by go_num, by
      have h1 := HP.out; rw [show (be j x).take j = be j x from List.take_of_length_le (by rw [jF]; exact Nat.le_refl _), List.append_assoc, ← bes_take j ws i x HX.out] at h1; rw [show b.length + j * (i + 1) = b.length + j * i + j by rw [Nat.mul_succ]; omega]
      exact h1, HC2.out⟩
     case measure => simp [intOf]; omega
  ·obtain rfl : i = ws.length := by omega
   go_wp2
   go_ret
   exact ⟨_, rfl, by have h1 := HO.out; rw [List.take_length] at h1; exact h1, HB.out⟩
theorem put_own {b ws : List Nat} {v vs : Value} {k : Nat} (ki : Int) (hki : ki = k) (w : World) (hv : KAt .u8 w v b) (hk : k ≤ 8) (hvs : KAt .u64 w vs ws) (hne : 0 < ws.length) (hsz : b.length + k * ws.length ≤ 140737488355328) :
  Calls Tryz.prog 88 #[v, .int .i64 ki, vs] w fun e w' => ∃ v', e = .returned v' ∧ Own w' w.heap.size v' (b ++ bes k ws) ∧ Below w.heap.size w w' := by
 subst hki; exact (put_any w hv hk hvs hne hsz).mono fun _ _ ⟨v', he, ho, hb⟩ => ⟨v', he, by unfold Own; rw [List.length_append, bes_length]; exact OwnV.of_row ho, hb⟩
def many (bytes : Int) : Nat := (min 8 (max 0 bytes)).toNat
theorem many_le (bytes : Int) : many bytes ≤ 8 := by unfold many; omega
theorem Put_any {b : List Nat} {v : Value} (w : World) (hv : KAt .u8 w v b) (n : Nat) (bytes : Int) (h0 : -9223372036854775808 ≤ bytes) (h1 : bytes ≤ 9223372036854775807) (hsz : b.length + 8 ≤ 140737488355328) :
  Calls Tryz.prog 61 #[v, .int .u64 n, .int .i64 bytes] w fun e w' => ∃ v', e = .returned v' ∧ Own w' w.heap.size v' (b ++ be (many bytes) n) ∧ Below w.heap.size w w' := by
 have HV := jh hv; have hm := many_le bytes
 have HW := jh (show ∀ t, KAt .u64 (w.alloc (.cells #[.int .u64 n] t)) (.slice (some ⟨w.heap.size, 0, none⟩) 1 1) [n] from fun t => ⟨_, _, rfl, Nat.le_refl _, by unfold maxLen; omega, (fun h => by cases h), fun _ => ⟨_, _, rfl, fun i x hx => by
  cases i with
  | zero => simp at hx; subst hx; simp
  | succ i => simp at hx⟩⟩)
 have HP := jh (fun t ki hki => put_own (k := many bytes) ki hki _ (HV.out.later ((Below.refl _ w).alloc (Nat.le_refl _) (.cells #[.int .u64 n] t))) hm (HW.out t) (by simp) (by simp; omega)); clear hv; have hc : bytes ≤ 0 ∨ (0 < bytes ∧ bytes < 8) ∨ 8 ≤ bytes := by omega
 have HF := jh (fun (m : Nat) (v' : Value) (w1 : World) (t : TypeId) (ho : Own w1 (w.alloc (.cells #[.int .u64 n] t)).heap.size v' (b ++ bes m [n])) (hb : Below (w.alloc (.cells #[.int .u64 n] t)).heap.size (w.alloc (.cells #[.int .u64 n] t)) w1) =>
  (show Own w1 w.heap.size v' (b ++ be m n) ∧ Below w.heap.size w w1 from
   ⟨by have h2 := ho.base (B' := w.heap.size) (by simp); simpa [bes] using h2, ((Below.refl _ w).alloc (Nat.le_refl _) _).trans (hb.mono (by simp))⟩))
 rcases hc with hc | ⟨hc1, hc2⟩ | hc
 ·have e0 : many bytes = 0 := by unfold many; omega
  rw [e0] at HP ⊢; clear HV HW hm e0
  go_enter Tryz.func61, Tryz.ntmps61
  go_wp2_with (go_at_call 88; refine (HP.out _ 0 rfl).mono ?_; rintro e w1 ⟨v', rfl, ho, hb⟩; have HQ := jh (HF.out _ _ _ _ ho hb); clear ho hb)
  go_ret
  exact ⟨_, rfl, HQ.out⟩
 ·obtain ⟨m, rfl⟩ : ∃ m : Nat, bytes = m := ⟨bytes.toNat, by omega⟩; have e0 : many m = m := by unfold many; omega
  rw [e0] at HP ⊢; clear HV HW hm e0
  go_enter Tryz.func61, Tryz.ntmps61
  go_wp2_with (go_at_call 88; refine (HP.out _ m rfl).mono ?_; rintro e w1 ⟨v', rfl, ho, hb⟩; have HQ := jh (HF.out _ _ _ _ ho hb); clear ho hb)
  go_ret
  exact ⟨_, rfl, HQ.out⟩
 ·have e0 : many bytes = 8 := by unfold many; omega
  rw [e0] at HP ⊢; clear HV HW hm e0
  go_enter Tryz.func61, Tryz.ntmps61
  go_wp2_with (go_at_call 88; refine (HP.out _ 8 rfl).mono ?_; rintro e w1 ⟨v', rfl, ho, hb⟩; have HQ := jh (HF.out _ _ _ _ ho hb); clear ho hb)
  go_ret
  exact ⟨_, rfl, HQ.out⟩
theorem own_start (w : World) (c : Nat) (hc : c ≤ maxLen) : (w.alloc (.cells (List.replicate c (Value.int .u8 0)).toArray 5)).ownsRow w.heap.size 5 1 (.slice (some ⟨w.heap.size, 0, none⟩) 0 c) 0 (jq .u8 []) :=
 ⟨by simp [jq], .inr ⟨w.heap.size, c, _, rfl, Nat.le_refl _, heap_alloc_new w _, Nat.zero_le _, hc, by simp, by simp [jq]⟩⟩
theorem QT (l : List Nat) (x : Nat) : jq .u8 (l ++ [x]) = jq .u8 l ++ [.int .u8 x] := by rw [jN]; rfl
def Twin (w : World) (base : Nat) (v : Value) (l : List Nat) : Prop := ∃ g o cap, v = .slice (some ⟨g, o, none⟩) l.length cap ∧ Own w base (.slice (some ⟨g, o, none⟩) (l.length + 1) cap) (l ++ [77])
theorem Twin.later {w w' : World} {base : Nat} {v : Value} {l : List Nat} (h : Twin w base v l) (hb : Below w.heap.size w w') : Twin w' base v l := by
 obtain ⟨g, o, cap, h1, h2⟩ := h; exact ⟨g, o, cap, h1, h2.later hb⟩
theorem Twin.own {w : World} {base : Nat} {v : Value} {l : List Nat} (h : Twin w base v l) : Own w base v l := by
 obtain ⟨g, o, cap, rfl, h0⟩ := h; unfold Own at h0; rw [List.length_append, List.length_singleton] at h0; obtain ⟨h1, h2⟩ := h0
 rcases h2 with ⟨h2, _⟩ | ⟨g', o', cap', cur, h3, h4, h5, h6, h7, h8, h9⟩
 ·cases h2
 ·cases h3
  refine ⟨by simp [jx], .inr ⟨g, o, cap, cur, rfl, h4, h5, by omega, h7, h8, ?_⟩⟩; rw [QT] at h9; have := congrArg (List.take l.length) h9; rw [List.take_take, show min l.length ((l.length + 1) * 1) = l.length by omega] at this; rw [Nat.mul_one, this, List.take_left' (by rw [jx])]
theorem Twin_any {l : List Nat} {v : Value} (w : World) (hv : KAt .u8 w v l) (hsz : l.length + 1 ≤ 140737488355328) :
  Calls Tryz.prog 15 #[v] w fun e w' => ∃ v', e = .returned v' ∧ Twin w' w.heap.size v' l ∧ Below w.heap.size w w' := by
 obtain ⟨i0, hi, hz0, hz1, hz2⟩ := info_parts Zj; obtain ⟨ao, cap, rfl, hc1, hc2, hc3, hc4⟩ := hv; have hm1 := hc2; unfold maxLen at hm1; have HC := jh hc4; have HI := jh hi
 have hmk : ∀ w, (Instr.makeSlice 30 (.int .i64 0) (.int .i64 ((l.length : Int) + 1))).run Tryz.prog w = .ok (.slice (some ⟨w.heap.size, 0, none⟩) 0 (l.length + 1)) (w.alloc (.cells (List.replicate (l.length + 1) (Value.int .u8 0)).toArray 5)) := by
  intro w; have e := run_make (P := Tryz.prog) w 30 5 i0 (.int .u8 0) Tryz.underlying30 hi hz0 .i64 .i64 0 ((l.length : Int) + 1) (by omega) (by omega) (by rw [hz2]; omega) (by omega); rw [e, hz1, show ((l.length : Int) + 1).toNat = l.length + 1 by omega, made_row]
  rfl
 have HST := jh (own_start w (l.length + 1) (by unfold maxLen; omega)); have HBE := jh ((Below.refl w.heap.size w).alloc (Nat.le_refl _) (.cells (List.replicate (l.length + 1) (Value.int .u8 0)).toArray 5)); clear hi hc4 hc2 hc3
 go_enter Tryz.func15, Tryz.ntmps15
 go_wp2
 go_loopw [3, 4] (fun v i wr => ∃ i' : Nat, i' ≤ l.length ∧ i = .int .i64 i' ∧ wr.ownsRow w.heap.size 5 1 v i' (jq .u8 (l.take i')) ∧ Below w.heap.size w wr) (fun _ i _ => l.length - (intOf i).toNat)
 case atStart => exact ⟨0, Nat.zero_le _, rfl, by simpa using HST.out, HBE.out⟩
 case round =>
  obtain ⟨i, hi, rfl, hown, hbel⟩ := hrel; have HP := jh hown; have HB := jh hbel; clear hown hbel HST HBE
  by_cases hlt : i < l.length
  ·obtain ⟨x, hx⟩ : ∃ x, l[i]? = some x := ⟨_, List.getElem?_eq_getElem hlt⟩; obtain ⟨g, o, rfl, hcells⟩ := HC.out (by omega); have hcell := hcells i x hx; have hcell2 := HB.out.cell (p := ⟨g, o + i, none⟩) (World.block_lt_of_cell? (a := ⟨g, o + i, none⟩) _ hcell); rw [hcell] at hcell2; have HX := jh hx; clear hcell hx hcells hmk
   go_wp2_with (at_builtin; refine wpList_append_own _ rfl _ _ 30 rfl w.heap.size 5 i0 (.int .u8 0) 1 1 Tryz.underlying30 HI.out hz0 hz1 hz2 rfl (by decide) _ _ _ rfl (HP.out.alloc _) ⟨wr.heap.size, 0, none⟩ 1 1 [.int .u8 x] rfl rfl (JX _ _ _) (Qt _) (by unfold maxLen; omega) (by omega) (by have := HB.out.size; simp only [World.size_alloc]; omega) ?_; intro v' w2 hown2 hgrow _; have HO2 := jh hown2; have HG2 := jh hgrow; clear hown2 hgrow)
   go_roundw
   case rel => exact ⟨i + 1, by omega, by go_num, by
    rw [List.take_add_one, HX.out, show (some x).toList = [x] from rfl, QT]
    exact HO2.out, (HB.out.alloc HB.out.size _).grown HG2.out (by have := HB.out.size; simp only [World.size_alloc]; omega) (fun q hq => (HP.out.lt q hq).1)⟩
   case measure => simp [intOf]; omega
  ·obtain rfl : i = l.length := by omega
   clear hmk hlt
   have HCS := jh (fun (v' : Value) (w2 : World) (h : w2.ownsRow w.heap.size 5 1 v' (l.length + 1) (jq .u8 (l.take l.length) ++ [.int .u8 77])) => show ∃ g cap, v' = .slice (some ⟨g, 0, none⟩) (l.length + 1) cap ∧ l.length + 1 ≤ cap ∧ cap ≤ 9223372036854775807 ∧ Own w2 w.heap.size (.slice (some ⟨g, 0, none⟩) (l.length + 1) cap) (l ++ [77]) from by
    rw [List.take_length, show [Value.int .u8 77] = [Value.int .u8 ((77 : Nat) : Int)] from rfl, ← QT] at h; have h2 := OwnV.of_row h; obtain ⟨h3, h4⟩ := h
    rcases h4 with ⟨_, h4⟩ | ⟨g, cap, cur, rfl, h5, h6, h7, h8, h9, h10⟩
    ·omega
    ·exact ⟨g, cap, rfl, h7, h8, by unfold Own; rw [List.length_append, List.length_singleton]; exact h2⟩)
   go_wp2_with (at_builtin; refine wpList_append_own _ rfl _ _ 30 rfl w.heap.size 5 i0 (.int .u8 0) 1 1 Tryz.underlying30 HI.out hz0 hz1 hz2 rfl (by decide) _ _ _ rfl (HP.out.alloc _) ⟨wr.heap.size, 0, none⟩ 1 1 [.int .u8 77] rfl rfl (JX _ _ _) (Qt _) (by unfold maxLen; omega) (by omega) (by have := HB.out.size; simp only [World.size_alloc]; omega) ?_; intro v' w2 hown2 hgrow _; obtain ⟨g9, c9, rfl, hc9, hd9, ho9⟩ := HCS.out v' w2 hown2; have HO2 := jh ho9; have HG2 := jh hgrow; clear hown2 hgrow ho9)
   go_ret
   exact ⟨_, rfl, ⟨g9, 0, c9, rfl, HO2.out⟩, (HB.out.alloc HB.out.size _).grown HG2.out (by have := HB.out.size; simp only [World.size_alloc]; omega) (fun q hq => (HP.out.lt q hq).1)⟩
theorem Left_any {l : List Nat} {v u : Value} {base : Nat} (w : World) (hv : Twin w base v l) (hu : KAt .u8 w u l) :
  Calls Tryz.prog 25 #[v, u] w fun e w' => e = .returned (.bool true) ∧ ∃ n, w' = w.drewN n := by
 obtain ⟨g, o, cap, rfl, ho⟩ := hv; have hk := ho.at_; obtain ⟨_, _, he, hk1, hk2, _, hk4⟩ := hk; rw [List.length_append, List.length_singleton] at he hk1
 cases he
 obtain ⟨_, _, he, hcell⟩ := hk4 (by simp)
 cases he
 have c77 := hcell l.length 77 (by simp); have HT := jh (fun (i x : Nat) (hx : l[i]? = some x) => hcell i x (by rw [List.getElem?_append_left (List.getElem?_eq_some_iff.1 hx).1]; exact hx)); obtain ⟨ao, cu, rfl, hu1, hu2, hu3, hu4⟩ := hu; have HU := jh hu4; have HC7 := jh c77; unfold maxLen at hk2 hu2; have hle : ((cap : Int) ≤ (l.length : Int)) = False := by simp; omega
 have hdl : decide ((cap : Int) ≤ (l.length : Int)) = false := by simp; omega
 clear hcell hk4 hu4 ho hu3 c77
 go_enter Tryz.func25, Tryz.ntmps25
 go_wp2
 go_loopw [5] (fun i wr => ∃ i' n : Nat, i' ≤ l.length ∧ i = .int .i64 i' ∧ wr = w.drewN n) (fun i _ => l.length - (intOf i).toNat)
 case atStart => exact ⟨0, 0, Nat.zero_le _, rfl, rfl⟩
 case round =>
  obtain ⟨i, n, hi, rfl, rfl⟩ := hrel
  by_cases hlt : i < l.length
  ·obtain ⟨x, hx⟩ : ∃ x, l[i]? = some x := ⟨_, List.getElem?_eq_getElem hlt⟩; have cx := HT.out i x hx; obtain ⟨h, p, rfl, hcells⟩ := HU.out (by omega); have cy := hcells i x hx; clear hx hcells
   go_wp2
   go_quiet (fail)
   go_wp2
   go_roundw
   case rel => exact ⟨i + 1, _, by omega, by go_num, rfl⟩
   case measure => simp [intOf]; omega
  ·obtain rfl : i = l.length := by omega
   have c77 := HC7.out; clear hlt
   go_wp2
   go_ret
   exact ⟨rfl, _, rfl⟩
theorem own_nil (w : World) (base : Nat) : OwnV w base 5 1 (.slice none 0 0) 0 [] := ⟨rfl, .inl ⟨rfl, rfl⟩⟩
theorem QX (w : World) (z : Int) (t : TypeId) : Zp (w.alloc (.cells #[.int .u8 z] t)) 1 (.slice (some ⟨w.heap.size, 0, none⟩) 1 1) 1 [.int .u8 z] := by
 refine ⟨_, 1, rfl, rfl, Qt _, (fun h => by cases h), fun ad had j u hu => ?_⟩
 cases had
 exact JX w _ t j u hu
theorem twin_parts {w : World} {base n : Nat} {v : Value} {l : List Nat} (h : Twin w base v l) (hn : l.length = n) : ∃ a c, v = .slice a n c := by
 obtain ⟨g, o, cap, rfl, _⟩ := h; exact ⟨_, _, by rw [hn]⟩
def Four (w : World) (b z0 z1 z2 z3 : Nat) : Prop := w.cell? ⟨b, 0, none⟩ = some (.int .u64 z0) ∧ w.cell? ⟨b, 1, none⟩ = some (.int .u64 z1) ∧ w.cell? ⟨b, 2, none⟩ = some (.int .u64 z2) ∧ w.cell? ⟨b, 3, none⟩ = some (.int .u64 z3)
theorem Four.later {w w' : World} {b z0 z1 z2 z3 : Nat} (h : Four w b z0 z1 z2 z3) (hb : Below w.heap.size w w') : Four w' b z0 z1 z2 z3 := ⟨jm h.1 hb, jm h.2.1 hb, jm h.2.2.1 hb, jm h.2.2.2 hb⟩
theorem Four.new (w : World) (z0 z1 z2 z3 : Nat) (t : TypeId) : Four (w.alloc (.cells #[.int .u64 z0, .int .u64 z1, .int .u64 z2, .int .u64 z3] t)) w.heap.size z0 z1 z2 z3 := by
 refine ⟨?_, ?_, ?_, ?_⟩ <;> simp
def lows (n : Nat) : Nat → List Nat
 | 0 => []
 | i + 1 => lows n i ++ [n / 256 ^ i % 256]
theorem ZI (n : Nat) : ∀ i, (lows n i).length = i
 | 0 => rfl
 | i + 1 => by rw [lows, List.length_append, ZI n i]; rfl
theorem lows_get (n : Nat) : ∀ {i p : Nat}, p < i → (lows n i)[p]? = some (n / 256 ^ p % 256)
 | i + 1, p, h => by
  have hl := ZI n i
  by_cases hp : p < i
  ·rw [lows, List.getElem?_append_left (by omega), lows_get n hp]
  ·obtain rfl : p = i := by omega
   rw [lows, List.getElem?_append_right (by omega), hl]
   simp
theorem div_next (n i : Nat) : n / 256 ^ i / 256 = n / 256 ^ (i + 1) := by rw [Nat.div_div_eq_div_mul, Nat.pow_succ]
theorem RPut_M {b : List Nat} {a : Option Addr} {n0 c : Nat} (w : World) (E0 : Hid (b.length = n0)) (hv : KAt .u8 w (.slice a n0 c) b) (n : Nat) (hn : n < 18446744073709551616) (bytes : Int) (mx M : Nat) (hM8 : M ≤ 8) (hsz : n0 + 8 ≤ 140737488355328)
  (hmx : ∀ w, (Builtin.max_ #[3, 3] 3 #[.int .i64 0, .int .i64 bytes]).run Tryz.prog w = .ok (.int .i64 mx) w) (hmn : ∀ w, (Builtin.min_ #[3, 3] 3 #[.int .i64 8, .int .i64 mx]).run Tryz.prog w = .ok (.int .i64 M) w) :
  Calls Tryz.prog 105 #[.slice a n0 c, .int .u64 n, .int .i64 bytes] w fun e w' => ∃ a' c', e = .returned (.slice a' (n0 + M) c') ∧ OwnV w' w.heap.size 5 1 (.slice a' (n0 + M) c') (n0 + M) (jq .u8 (b ++ be M n)) ∧ Below w.heap.size w w' := by
 obtain ⟨i0, hi, hz0, hz1, hz2⟩ := info_parts Zj; have HI := jh hi; have HE := jh (own_nil w w.heap.size); have hsrc := hv.src; rw [E0.out] at hsrc; have HS := jh hsrc; have hn64 : n ≤ 18446744073709551615 := by omega
 clear hi hv hsrc
 go_enter Tryz.func105, Tryz.ntmps105
 go_wp2_with (at_builtin; refine jJ rfl (.const (.slice none 0 0)) (.tmp 12) 30 rfl w.heap.size 5 i0 (.int .u8 0) 1 1 Tryz.underlying30 HI.out hz0 hz1 hz2 rfl (.slice none 0 0) 0 [] rfl HE.out (.slice a n0 c) n0 (jq .u8 b) rfl HS.out (by unfold maxLen; omega) (by omega) (Nat.le_refl _) ?_
              intro v7 w1 ho hg hl; obtain ⟨a7, c7, rfl⟩ := ho.sl; have HO := jh (show OwnV w1 w.heap.size 5 1 (.slice a7 (0 + n0) c7) (0 + n0) (jq .u8 b) from ho); have HB1 := jh ((Below.refl w.heap.size w).grown hg (Nat.le_refl _) (fun k hk => by simp [Value.ownBlock] at hk))
              clear ho hg hl)
 have ho7 := HO.out; rw [Nat.zero_add] at ho7; have HO7 := jh ho7; have H7B := jh (fun g hg => (OwnV.lt ho7 g hg).2); have hs01 := HB1.out.size; clear ho7 HO HE HS
 go_loopw [1, 9, 10] (fun u v i wr => ∃ i' : Nat, i' ≤ M ∧ i = .int .i64 i' ∧ u = .int .u64 (n / 256 ^ i' : Nat) ∧ OwnV wr w1.heap.size 5 1 v i' (jq .u8 (lows n i')) ∧ Below w1.heap.size w1 wr) (fun _ _ i _ => M - (intOf i).toNat)
 case atStart => exact ⟨0, Nat.zero_le _, rfl, by simp, own_nil _ _, Below.refl _ _⟩
 case round =>
  obtain ⟨i, hi, rfl, rfl, hown, hbel⟩ := hrel; obtain ⟨wo, rfl⟩ : ∃ wo : World, wo = wr := ⟨_, rfl⟩; obtain ⟨a9, c9, rfl⟩ := hown.sl; have HP := jh hown; have HB := jh hbel; have hs1o := hbel.size; clear hown hbel
  by_cases hlt : i < M
  ·have hdl : n / 256 ^ i ≤ n := Nat.div_le_self _ _; have HDN := jh (div_next n i); have HBY := jh (show lows n (i + 1) = lows n i ++ [n / 256 ^ i % 256] from rfl); obtain ⟨q, hq⟩ := je (n / 256 ^ i); rw [← hq] at HDN HBY hdl ⊢; clear hq hmx hmn
   go_wp2_with (at_builtin; refine jJ rfl (.tmp 22) (.tmp 26) 30 rfl w1.heap.size 5 i0 (.int .u8 0) 1 1 Tryz.underlying30 HI.out hz0 hz1 hz2 rfl (.slice a9 i c9) i (jq .u8 (lows n i)) rfl (OwnV.later HP.out (ja)) (.slice (some ⟨wo.heap.size, 0, none⟩) 1 1) 1 [.int .u8 ((q : Int) % 256)] rfl (QX _ _ _) (by unfold maxLen; omega) (by omega) (by simp; omega) ?_
                intro v3 w3 ho3 hg3 hl3; have HO3 := jh ho3; have HG3 := jh hg3
                clear ho3 hg3 hl3)
   go_roundw
   case rel => exact ⟨i + 1, by omega, by go_num, by rw [← HDN.out]; exact congrArg (Value.int .u64) (by simp), by
    rw [HBY.out, jN, show jq .u8 [q % 256] = [.int .u8 ((q : Int) % 256)] by simp [jq]]
    exact HO3.out, (HB.out.alloc hs1o _).grown HG3.out (by simp; omega) (fun g hg => (OwnV.lt HP.out g hg).1)⟩
   case measure => simp [intOf]; omega
  ·obtain rfl : i = M := by omega
   clear hlt hmx hmn; obtain ⟨q0, hq0⟩ : ∃ q : Nat, q = n / 256 ^ i := ⟨_, rfl⟩; rw [← hq0]; clear hq0; have HOO := jh (OwnV.later (HO7.out) HB.out); have HLB := jh (fun g hg => OwnV.lt HP.out g hg); have HBO := jh (Qr HB1.out HB.out); have hapart : ∀ g, (Value.slice a9 i c9).ownBlock = some g → (Value.slice a7 n0 c7).ownBlock ≠ some g := fun g hg e => by have := HLB.out g hg; have := H7B.out g e; omega
   have HAP := jh hapart; clear hapart
   go_wp2
   go_loopw [7, 11] (fun v j wr => ∃ j' : Nat, j' ≤ i ∧ j = .int .i64 ((i : Int) - 1 - j') ∧ OwnV wr w.heap.size 5 1 v (n0 + j') (jq .u8 (b ++ (be i n).take j')) ∧ OwnV wr w1.heap.size 5 1 (.slice a9 i c9) i (jq .u8 (lows n i)) ∧ (∀ g, (Value.slice a9 i c9).ownBlock = some g → v.ownBlock ≠ some g) ∧ Below w.heap.size w wr) (fun _ j _ => (intOf j + 1).toNat)
   case atStart => exact ⟨0, Nat.zero_le _, by go_num, by simpa using HOO.out, HP.out, HAP.out, HBO.out⟩
   case round =>
    obtain ⟨j, hj, rfl, hout, hlow, hap, hbl⟩ := hrel; obtain ⟨wq, rfl⟩ : ∃ wq : World, wq = wr := ⟨_, rfl⟩; obtain ⟨a8, c8, rfl⟩ := hout.sl; have HOUT := jh hout; have HLOW := jh hlow; have HAPP := jh hap; have HBL := jh hbl; have hsl := hbl.size; clear hap hbl hout
    by_cases hlt : j < i
    ·have hin : i - 1 - j < i := by omega
     have hidx : (i : Int) - 1 - j = ((i - 1 - j : Nat) : Int) := by omega
     have hbyte := lows_get n hin; have hh := hlow.2
     rcases hh with ⟨_, hh⟩ | ⟨g, o, cap, cur, hh, hg1, hg2, hg3, hg4, _⟩
     ·omega
     cases hh
     have hc := OwnV.cells hlow (i - 1 - j) (.int .u8 ((n / 256 ^ (i - 1 - j) % 256 : Nat) : Int)) (by rw [qe, hbyte]; rfl); rw [Addr.add_lit] at hc; have hltg : g < wq.heap.size := (Array.getElem?_eq_some_iff.1 hg2).1; have HTS := jh (Jd (k := i) (x := n) hlt); obtain ⟨q, hq⟩ := je (n / 256 ^ (i - 1 - j) % 256); rw [← hq] at hc HTS; rw [hidx]; unfold maxLen at hg4; obtain ⟨p, hp⟩ := je (i - 1 - j); rw [← hp] at hc hin ⊢; have hpi : p + j + 1 = i := by omega
     clear hq hbyte hlow hg2 hidx hp
     go_wp2_with (at_builtin; refine jJ rfl (.tmp 36) (.tmp 41) 30 rfl w.heap.size 5 i0 (.int .u8 0) 1 1 Tryz.underlying30 HI.out hz0 hz1 hz2 rfl (.slice a8 (n0 + j) c8) (n0 + j) (jq .u8 (b ++ (be i n).take j)) rfl (OwnV.later HOUT.out (ja)) (.slice (some ⟨wq.heap.size, 0, none⟩) 1 1) 1 [.int .u8 (q : Int)] rfl (QX _ _ _) (by unfold maxLen; omega) (by omega) (by simp; omega) ?_
                  intro v3 w3 ho3 hg3 hl3; have HO3 := jh ho3; have HG3 := jh hg3; have HL3 := jh hl3
                  clear ho3 hg3 hl3)
     go_roundw
     case rel => exact ⟨j + 1, by omega, by go_num, by
      rw [HTS.out, ← List.append_assoc, jN, show jq .u8 [q] = [.int .u8 (q : Int)] from rfl]
      exact HO3.out, OwnV.kept (OwnV.later HLOW.out (ja)) HG3.out (.inr (fun e => HAPP.out g rfl (by rw [← e]; rfl))), fun g9 hg9 => by
       cases hg9
       exact lies_apart HL3.out (HAPP.out g rfl) (by simp; omega), (HBL.out.alloc hsl _).grown HG3.out (by simp; omega) (fun k hk => (OwnV.lt HOUT.out k hk).1)⟩
     case measure => simp [intOf]
    ·obtain rfl : j = i := by omega
     clear hlt hlow
     go_wp2
     go_ret
     exact ⟨_, _, rfl, by have h := HOUT.out; rwa [List.take_of_length_le (by rw [jF]; exact Nat.le_refl _)] at h, HBL.out⟩
theorem RPut_any {b : List Nat} {v : Value} (w : World) (hv : KAt .u8 w v b) (n : Nat) (hn : n < 18446744073709551616) (bytes : Int) (hsz : b.length + 8 ≤ 140737488355328) :
  Calls Tryz.prog 105 #[v, .int .u64 n, .int .i64 bytes] w fun e w' => ∃ v', e = .returned v' ∧ Own w' w.heap.size v' (b ++ be (many bytes) n) ∧ Below w.heap.size w w' := by
 have hv' := hv; obtain ⟨a, c, rfl, _⟩ := hv'
 have hmx : ∃ mx : Nat, (∀ w, (Builtin.max_ #[3, 3] 3 #[.int .i64 0, .int .i64 bytes]).run Tryz.prog w = .ok (.int .i64 mx) w) ∧ mx = (max 0 bytes).toNat := by
  refine ⟨_, fun w => ?_, rfl⟩; rw [run_max_int2, show (if bytes > 0 then bytes else 0) = (((max 0 bytes).toNat : Nat) : Int) from by split <;> omega]
 obtain ⟨mx, hmx, emx⟩ := hmx
 have hmn : ∀ w, (Builtin.min_ #[3, 3] 3 #[.int .i64 8, .int .i64 mx]).run Tryz.prog w = .ok (.int .i64 (many bytes : Nat)) w := by
  intro w; have e : many bytes = min 8 mx := by unfold many; omega
  rw [e, run_min_int2, show (if (mx : Int) < 8 then (mx : Int) else 8) = ((min 8 mx : Nat) : Int) from by split <;> omega]
 refine (RPut_M w (jh rfl) hv n hn bytes mx (many bytes) (many_le bytes) hsz hmx hmn).mono ?_; rintro e w' ⟨a', c', he, ho, hb⟩; refine ⟨_, he, ?_, hb⟩; unfold Own; rw [show (b ++ be (many bytes) n).length = b.length + many bytes by rw [List.length_append, jF]]; exact ho
theorem own_parts {w : World} {base n : Nat} {v : Value} {l : List Nat} (h : Own w base v l) (hn : l.length = n) : ∃ a c, v = .slice a n c := by
 unfold Own at h; rw [hn] at h; exact h.sl
theorem RPutLong_any {b : List Nat} {v : Value} (w : World) (hv : KAt .u8 w v b) (x0 x1 x2 x3 : Nat) (h0 : x0 < 18446744073709551616) (h1 : x1 < 18446744073709551616) (h2 : x2 < 18446744073709551616) (h3 : x3 < 18446744073709551616) (hsz : b.length + 32 ≤ 140737488355328) :
  Calls Tryz.prog 71 #[v, .agg #[.int .u64 x0, .int .u64 x1, .int .u64 x2, .int .u64 x3]] w fun e w' => ∃ v', e = .returned v' ∧ Own w' w.heap.size v' (b ++ (be 8 x3 ++ (be 8 x2 ++ (be 8 x1 ++ be 8 x0)))) ∧ Below w.heap.size w w' := by
 have HG := jh (fun (l : List Nat) (n : Nat) (en : l.length = n) (v' : Value) (w1 : World) (hv' : KAt .u8 w1 v' l) (x : Nat) (hx : x < 18446744073709551616) (hl : n + 8 ≤ 140737488355328) =>
  (show Calls Tryz.prog 105 #[v', .int .u64 x, .int .i64 8] w1 fun e w' => ∃ a' c' r, e = .returned (.slice a' (n + 8) c') ∧ l ++ be 8 x = r ∧ Own w' w1.heap.size (.slice a' (n + 8) c') r ∧ Below w1.heap.size w1 w' from (RPut_any w1 hv' x hx 8 (by omega)).mono (by
   rintro _ w' ⟨v2, rfl, ho, hb⟩; obtain ⟨a2, c2, rfl⟩ := own_parts (n := n + 8) ho (by rw [List.length_append, jF, en]; rfl)
   exact ⟨a2, c2, _, rfl, rfl, ho, hb⟩)))
 have HV := jh hv; obtain ⟨a, c, rfl, _⟩ := hv; obtain ⟨n, en⟩ : ∃ n, Hid (b.length = n) := ⟨_, jh rfl⟩; rw [en.out] at HV hsz ⊢
 go_enter Tryz.func71, Tryz.ntmps71
 go_wp2
 obtain ⟨w1, e1⟩ : ∃ w1 : World, w1 = w.alloc (.cells #[.int .u64 x0, .int .u64 x1, .int .u64 x2, .int .u64 x3] 24) := ⟨_, rfl⟩; have hb1 := jc e1; have P1 := jh (show Four w1 w.heap.size x0 x1 x2 x3 by rw [e1]; exact Four.new _ _ _ _ _ _); rw [← e1]; clear e1; have HB1 := jh hb1; have hs1 := hb1.size; have V1 := jh (HV.out.later hb1); clear hb1 HV; refine wp_loop_rounds 5 ?_; rw [rounds_succ]; obtain ⟨p0, p1, p2, p3⟩ := P1.out
 go_wp2_with fail
 clear p0 p1 p2 p3; refine (HG.out b (n) en.out _ w1 V1.out x3 h3 (by omega)).mono ?_; rintro _ w2 ⟨a2, c2, l2, rfl, el, ho, hb⟩; have O2 := jh ho; have HB2 := jh (Qr HB1.out hb); have P2 := jh (P1.out.later hb); have E2 := jh el; have N2 := jh (show l2.length = n + 8 by rw [← el, List.length_append, jF, en.out]); have hs2 := hb.size; clear ho hb el HB1 P1 V1
 go_wp2_with fail
 rw [rounds_succ]; obtain ⟨p0, p1, p2, p3⟩ := P2.out
 go_wp2_with fail
 clear p0 p1 p2 p3; refine (HG.out l2 (n + 8) N2.out _ w2 O2.out.at_ x2 h2 (by omega)).mono ?_; rintro _ w3 ⟨a3, c3, l3, rfl, el, ho, hb⟩; have O3 := jh ho; have HB3 := jh (Qr HB2.out hb); have P3 := jh (P2.out.later hb); have E3 := jh el; have N3 := jh (show l3.length = n + 8 + 8 by rw [← el, List.length_append, jF, N2.out]); have hs3 := hb.size; clear ho hb el HB2 P2 O2
 go_wp2_with fail
 rw [rounds_succ]; obtain ⟨p0, p1, p2, p3⟩ := P3.out
 go_wp2_with fail
 clear p0 p1 p2 p3; refine (HG.out l3 (n + 8 + 8) N3.out _ w3 O3.out.at_ x1 h1 (by omega)).mono ?_; rintro _ w4 ⟨a4, c4, l4, rfl, el, ho, hb⟩; have O4 := jh ho; have HB4 := jh (Qr HB3.out hb); have P4 := jh (P3.out.later hb); have E4 := jh el; have N4 := jh (show l4.length = n + 8 + 8 + 8 by rw [← el, List.length_append, jF, N3.out]); have hs4 := hb.size; clear ho hb el HB3 P3 O3
 go_wp2_with fail
 rw [rounds_succ]; obtain ⟨p0, p1, p2, p3⟩ := P4.out
 go_wp2_with fail
 clear p0 p1 p2 p3; refine (HG.out l4 (n + 8 + 8 + 8) N4.out _ w4 O4.out.at_ x0 h0 (by omega)).mono ?_; rintro _ w5 ⟨a5, c5, l5, rfl, el, ho, hb⟩; have O5 := jh ho; have HB5 := jh (Qr HB4.out hb); have P5 := jh (P4.out.later hb); have E5 := jh el; have N5 := jh (show l5.length = n + 8 + 8 + 8 + 8 by rw [← el, List.length_append, jF, N4.out]); have hs5 := hb.size; clear ho hb el HB4 P4 O4
 go_wp2_with fail
 rw [rounds_succ]
 go_wp2_with fail
 go_ret
 refine ⟨_, rfl, ?_, HB5.out⟩; have h := O5.out.base (B' := w.heap.size) (by omega); rw [← E5.out, ← E4.out, ← E3.out, ← E2.out] at h
 simpa using h
theorem QJ {b l : List Nat} {v u : Value} (w : World) (hv : KAt .u8 w v b) (hu : KAt .u8 w u l) (hsz : b.length + 8 + l.length ≤ 140737488355328) :
  Calls Tryz.prog 108 #[v, u] w fun e w' => ∃ v', e = .returned v' ∧ Own w' w.heap.size v' (b ++ (be 4 l.length ++ l)) ∧ Below w.heap.size w w' := by
 have HP := jh (RPut_any w hv l.length (by omega) 4 (by omega)); have HU := jh hu; obtain ⟨i0, hi, hz0, hz1, hz2⟩ := info_parts Zj; have HI := jh hi; have hu' := hu; obtain ⟨au, cu, rfl, hcu⟩ := hu'; obtain ⟨n, en⟩ : ∃ n, Hid (l.length = n) := ⟨_, jh rfl⟩; have hn : n = l.length := en.out.symm; rw [en.out] at HP HU hcu ⊢; have hln : n ≤ 9223372036854775807 := by omega
 have hln2 : b.length + 8 + n ≤ 140737488355328 := by omega
 clear hi hu hv hsz hn hcu
 go_enter Tryz.func108, Tryz.ntmps108
 go_wp2_with fail
 refine (HP.out).mono ?_; rintro _ w1 ⟨v1, rfl, ho, hb⟩; have hl1 : (b ++ be (many 4) n).length = b.length + 4 := by rw [List.length_append, jF]; rfl
 obtain ⟨a1, c1, rfl⟩ := own_parts ho hl1; have ho' : OwnV w1 w.heap.size 5 1 (.slice a1 (b.length + 4) c1) (b.length + 4) (jq .u8 (b ++ be 4 n)) := by unfold Own at ho; rw [hl1] at ho; exact ho
 have HO := jh ho'; have hs := (HU.out.later hb).src; rw [en.out] at hs; have HS := jh hs; have HB := jh hb; have HLT := jh (fun g hg => (OwnV.lt ho' g hg)); have hs1 := hb.size; clear ho ho' hb hs hl1 HP HU
 go_wp2_with (at_builtin; refine zS rfl _ _ 30 rfl w.heap.size 5 i0 (.int .u8 0) 1 1 Tryz.underlying30 HI.out hz0 hz1 hz2 rfl (.slice a1 (b.length + 4) c1) (b.length + 4) (jq .u8 (b ++ be 4 n)) rfl HO.out (.slice au n cu) n (jq .u8 l) rfl HS.out (by unfold maxLen; omega) (by omega) hs1 ?_; intro v' w2 ho hg; have HO2 := jh ho; have HGr := jh hg; clear ho hg)
 obtain ⟨a7, c7, rfl⟩ := HO2.out.sl
 go_ret
 exact ⟨_, rfl, by have h1 := HO2.out; unfold Own; rw [show (b ++ (be 4 n ++ l)).length = b.length + 4 + n by simp [jF, en.out]; omega, ← List.append_assoc, jN]; exact h1, HB.out.grown HGr.out hs1 (fun k hk => (HLT.out k hk).1)⟩
end Go.Proofs.YtcaeaejefdhloaaGreat
