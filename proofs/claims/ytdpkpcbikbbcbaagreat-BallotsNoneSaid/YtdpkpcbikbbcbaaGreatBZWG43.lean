/- SameVotes, of votes that are the same -/
import Derived.Test.YtdpkpcbikbbcbaaGreatBZWG39
import Derived.Test.YtdpkpcbikbbcbaaGreatBZWG42
import Derived.Great.BuildSlice
set_option linter.unusedSimpArgs false
set_option linter.unusedVariables false
set_option maxHeartbeats 4000000
set_option maxRecDepth 20000
namespace Go.Proofs.YtdpkpcbikbbcbaaGreat
open Go.ChangeShapes Go.WideShapes Go.ChangeAt Go.RowKit
theorem Qs : ∃ i z, Tryz.prog.info? 52 = some i ∧ i.zero = some z ∧ i.size = 44 ∧ i.bytes ≤ 1000 ∧ z.cells.size = 44 := by
 have h : (Tryz.prog.info? 52).any (fun i => (i.zero.any (fun z => z.cells.size == 44)) && i.size == 44 && Nat.ble i.bytes 1000) = true := by kernel_rfl
 cases hi : Tryz.prog.info? 52 with
 | none => rw [hi] at h; cases h
 | some i =>
  rw [hi] at h; simp only [Option.any_some, Bool.and_eq_true, beq_iff_eq] at h; obtain ⟨⟨h1, h2⟩, h3⟩ := h
  cases hz : i.zero with
  | none => rw [hz] at h1; cases h1
  | some z =>
   rw [hz] at h1; simp only [Option.any_some, beq_iff_eq] at h1; exact ⟨i, z, rfl, hz, h2, Nat.le_of_ble_eq_true h3, h1⟩
theorem ClipV_any {ao : Option Addr} {n cap : Nat} (w : World) (h : n ≤ cap) (hc : cap ≤ maxLen) :
  Calls Tryz.prog 33 #[.slice ao n cap] w fun e w' => e = .returned (.slice ao n n) ∧ w = w' := by
 have hc5 : cap ≤ 9223372036854775807 := by unfold maxLen at hc; omega
 clear hc
 go_enter Tryz.func33, Tryz.ntmps33
 go_wp2
 go_ret
 exact ⟨rfl, rfl⟩
theorem OwnV.caps {w : World} {B : Nat} {e : TypeId} {size n : Nat} {xs : List Value} {a : Option Addr} {c : Nat} (h : OwnV w B e size (.slice a n c) n xs) : n ≤ c ∧ c ≤ maxLen := by
 rcases h.2 with ⟨h1, h2⟩ | ⟨g, o, cap, cur, h1, _, _, h2, h3, _⟩
 ·cases h1
  exact ⟨Nat.le_refl _, Nat.zero_le _⟩
 ·cases h1
  exact ⟨h2, h3⟩
theorem src_v {w : World} {b : Nat} {L : List Value} {t : TypeId} (h : w.heap[b]? = some (.cells L.toArray t (0, 0))) (hl : L.length = 44) (h1 : ∀ u ∈ L, u.oneCell' = true) : SrcV w 44 (.slice (some ⟨b, 0, none⟩) 1 1) 1 L := by
 refine ⟨_, _, rfl, by omega, h1, (fun e => by cases e), fun ad had j u hu => ?_⟩
 cases had
 rw [Addr.add_lit, Nat.zero_add, cell_of_row _ _ _ _ _ _ h]
 simpa using hu
theorem Jz {L : List Value} {o : Oper} {ev : Operand → Value} {x : Operand} {W : World} (hl : L.length = 44) (ho : o.op = .buildSlice 41 1 #[(0, x)]) (hx : ev x = .agg L.toArray) :
  (execOp ev o).run Tryz.prog W = .ok (.value (.slice (some ⟨W.heap.size, 0, none⟩) 1 1)) (W.alloc (.cells L.toArray 52)) := by
 obtain ⟨iv, zv, hiv, hzv, hv1, -, hv3⟩ := Qs; have hf := Great.fill_whole (s := 44) (by decide) [.agg L.toArray] ((Array.range (1 * iv.size)).map (zv.cells[· % zv.cells.size]!)) (fun v hv => by simp only [List.mem_singleton] at hv; subst hv; simp [Value.cells, hl]) (by simp [hv1]); have hr := run_buildSlice (P := Tryz.prog) W 41 52 1 #[(0, .agg L.toArray)] L.toArray iv zv Tryz.underlying41 hiv hzv (by rw [hv1]; decide) (by rw [hv1]; decide) (by rw [hv1]; simpa [Value.cells, hv1] using hf); unfold execOp; simp only [ho]
 simp [hx, hr, Result.andThen]
theorem votes_upto {E : List Bal.Bv} {k v s i : Nat} : (List.range (i + 1)).flatMap (fun j => (Bal.at_ E k v (j + 1)).filter fun x => x.s = s) = (List.range i).flatMap (fun j => (Bal.at_ E k v (j + 1)).filter fun x => x.s = s) ++ (Bal.at_ E k v (i + 1)).filter fun x => x.s = s := by
 rw [List.range_succ, List.flatMap_append]
 simp
theorem BVotes_nil (k v : Nat) (T : Array Value) (hT : T.size = 32) (w : World) :
  Calls Tryz.prog 14 #[.pointer none, .int .u8 k, .int .u32 v, .agg T] w fun r w' => r = .returned (.slice none 0 0) ∧ Below w.heap.size w w' := by
 have hszT : (Tryz.prog.info? 48).map (·.size) = some T.size := by rw [qC, hT]
 go_enter Tryz.func14, Tryz.ntmps14
 go_wp2_with (first | (go_at_call 28; refine (Zg _).mono ?_; rintro _ _ ⟨rfl, rfl⟩))
 go_ret
 exact ⟨rfl, ja⟩
theorem zeroVs (w : World) : (zeroValue 41).run Tryz.prog w = .ok (.slice none 0 0) w := by kernel_rfl
def QP (E : List Bal.Bv) (k v s i : Nat) : List Bal.Bv := (List.range i).flatMap fun j => (Bal.at_ E k v (j + 1)).filter fun x => x.s = s
theorem at_le (E : List Bal.Bv) (k v n : Nat) : (Bal.at_ E k v n).length ≤ E.length := List.length_filter_le _ _
theorem preV_succ (E : List Bal.Bv) (k v s i : Nat) : QP E k v s (i + 1) = QP E k v s i ++ (Bal.at_ E k v (i + 1)).filter fun x => x.s = s := votes_upto
theorem preV_len (E : List Bal.Bv) (k v s : Nat) : ∀ i, (QP E k v s i).length ≤ i * E.length
 | 0 => by simp [QP]
 | i + 1 => by
  have h1 := preV_len E k v s i; have h2 := at_le E k v (i + 1); have h3 := List.length_filter_le (fun x : Bal.Bv => decide (x.s = s)) (Bal.at_ E k v (i + 1)); rw [preV_succ, List.length_append, Nat.succ_mul]; omega
theorem preV_le (E : List Bal.Bv) (k v s j : Nat) (R : List Bal.Bv) (hR : R = Bal.at_ E k v (j + 1)) (q : Nat) : (QP E k v s j ++ (R.take q).filter fun x => decide (x.s = s)).length ≤ j * E.length + E.length := by
 have h1 := preV_len E k v s j; have h2 := at_le E k v (j + 1); have h3 := List.length_filter_le (fun x : Bal.Bv => decide (x.s = s)) (R.take q); have h4 : (R.take q).length ≤ R.length := by simp; omega
 rw [← hR] at h2; rw [List.length_append]; omega
def zm : Array Value := #[.int .u8 0, .int .u64 0, .int .u32 0, .int .u8 0, .int .u8 0, .int .u8 0, .int .u8 0, .int .u8 0, .int .u8 0, .int .u8 0, .int .u8 0, .int .u8 0, .int .u8 0, .int .u8 0, .int .u8 0, .int .u8 0, .int .u8 0, .int .u8 0, .int .u8 0, .int .u8 0, .int .u8 0, .int .u8 0, .int .u8 0, .int .u8 0, .int .u8 0, .int .u8 0, .int .u8 0, .int .u8 0, .int .u8 0, .int .u8 0, .int .u8 0, .int .u8 0, .int .u8 0, .int .u8 0, .int .u8 0, .int .u8 0, .int .u64 0, .int .u64 0, .int .u64 0, .int .u64 0, .int .u64 0, .int .u64 0, .int .u64 0, .int .u64 0]
theorem BVotes_any {bx gp gq gg gh n cap nb no mb fb fo fc ep base k v s : Nat} {fa se : Int} {ks : List (Nat × Nat)} {C S : Bal.Bv → Nat} {f : Value → Option Value} {E : List Bal.Bv} (hE : E.length ≤ 1000) (hn7 : n ≤ 7) (hk : k < 256) (hv : v < 4294967296) (w : World) (h : BoxAt w bx gp gq gg gh n cap nb no mb fb fo fc ep base fa se ks (qW ep C S) f E) :
  Calls Tryz.prog 14 #[.pointer (some ⟨bx, 0, none⟩), .int .u8 k, .int .u32 v, .agg (jq .u8 (zz s)).toArray] w fun r w' => ∃ u, r = .returned u ∧ OwnV w' w.heap.size 52 44 u (Bal.votesOf E n k v s).length ((Bal.votesOf E n k v s).flatMap (qW ep C S)) ∧ Below w.heap.size w w' := by
 obtain ⟨T, hT⟩ := je ((jq .u8 (zz s)).toArray); have hTs : T.size = 32 := by rw [hT]; simp [js, jC]
 have hszT : (Tryz.prog.info? 48).map (·.size) = some T.size := by rw [qC, hTs]
 obtain ⟨iv, zv, hiv, hzv, hv1, hv2, hv3⟩ := Qs; have HI := jh hiv; have HZ := jh hzv; have HZ1 := jh hv1; have HZ2 := jh hv2; have HZ3 := jh hv3; have HH := jh h; have HT := jh hT; have HTS := jh hszT; have HEL := jh hE; have HKL := jh hk; have HVL := jh hv; have HN7 := jh hn7; have HEQ := jh (fun (y : Nat) (W : World) => eql_set y s W); obtain ⟨w1, e1⟩ := je (w.alloc (.cells T 48)); have hb1 := jc e1; have hr1 : w1.heap[w.heap.size]? = some (.cells T 48 (0, 0)) := by rw [e1]; exact heap_alloc_new _ _
 obtain ⟨SB, hSB⟩ := je (w.heap.size); rw [← hSB] at hr1; have HB1 := jh hb1; have HR1 := jh hr1; have hcm := jj h.mp hb1; have HX1 := jh (h.later hb1); rw [← hT] at HEQ ⊢; clear hiv hzv hv1 hv2 hv3 h hT hE hTs hb1 hr1 hk hv hn7
 go_enter Tryz.func14, Tryz.ntmps14
 go_upto_region 1 with fail
 rw [← e1, ← hSB]; have HSB := jh hSB; clear e1 hSB
 go_upto_region 3 with (first | (go_at_call 28; refine (JC _ hcm).mono ?_; rintro _ w2 ⟨rfl, hb⟩; have HB2 := jh hb; clear hb))
 have HX2 := jh (HX1.out.later HB2.out); have HR2 := jh ((HB2.out.block _ (Array.getElem?_eq_some_iff.1 HR1.out).1).trans HR1.out); have HB := jh (jm HB1.out HB2.out); have hnd := HX2.out.set.nd; have hnc : n ≤ 9223372036854775807 := by have := HN7.out; omega
 clear hcm
 go_wp2_with fail
 clear hnd
 go_loopw [8, 21] (fun o i wr => ∃ j : Nat, j ≤ n ∧ i = .int .i64 j ∧ Hid (OwnV wr w2.heap.size 52 44 o (QP E k v s j).length ((QP E k v s j).flatMap (qW ep C S))) ∧ Hid (Below w2.heap.size w2 wr)) (fun _ i _ => n - (intOf i).toNat)
 case atStart => exact ⟨0, Nat.zero_le _, rfl, jh ⟨rfl, .inl ⟨rfl, rfl⟩⟩, jh (Below.refl _ _)⟩
 case round =>
  obtain ⟨j, hj, rfl, HO, HW⟩ := hrel; obtain ⟨a0, c0, rfl⟩ := HO.out.shape9; obtain ⟨m, hm⟩ := je ((QP E k v s j).length); rw [← hm] at HO ⊢; have hm9 := jh hm; obtain ⟨wo, rfl⟩ : ∃ wo : World, wo = wr := ⟨_, rfl⟩
  by_cases hlt : j < n
  ·have HXr := jh (HX2.out.later HW.out); obtain ⟨kl, hkl⟩ := placeKey (k := k) (v := v) (n := j + 1) HKL.out HVL.out (by have := HN7.out; omega); have hrow := HX2.out.rows.row k v (j + 1); obtain ⟨R, hR⟩ := je (Bal.at_ E k v (j + 1)); rw [← hR] at hrow; obtain ⟨rn, hrn⟩ := je (R.length); rw [← hrn] at hrow; obtain ⟨ra, rc, hrv⟩ := hrow.shape9; rw [hrv] at hrow; have HROW := jh hrow; have HR9 := jh hR; have HRN := jh hrn; have HRV := jh hrv; have HKL9 := jh hkl; have hltI : (j : Int) < (n : Int) := by omega
   have hj7 : (j : Int) ≤ 7 := by have := HN7.out; omega
   have hrI : (rn : Int) ≤ 1000 := by
    have h9 := List.length_filter_le (fun x : Bal.Bv => decide (x.k = k ∧ x.v = v ∧ x.n = j + 1)) E; have h8 := HEL.out; rw [hrn, hR]; unfold Bal.at_; omega
   have HLT := jh hlt; have HJ := jh hj; have E8 : IntKind.u8.wrap ((j : Int) + 1) = ((j + 1 : Nat) : Int) := by simp [IntKind.wrap, IntKind.bits, IntKind.signed]; omega
   have E64 : IntKind.i64.wrap ((j : Int) + 1) = (j : Int) + 1 := by simp [IntKind.wrap, IntKind.bits, IntKind.signed]; omega
   clear hrow hR hrn hrv hkl hlt hm hj
   go_upto_region 6 with fail
   refine wp_region_lit ?_
   iterate 2
    refine ji (v := .pointer (some ⟨bx, 0, none⟩)) rfl (by kernel_rfl) ?_
   refine ji (v := .pointer (some ⟨bx, 20, none⟩)) rfl (by kernel_rfl) ?_; refine ji (v := .map (some mb)) rfl (jg (loadMp HXr.out.mp)) ?_; refine ji (v := .int .u8 k) rfl (by kernel_rfl) ?_; refine ji (v := .int .u32 v) rfl (by kernel_rfl) ?_; refine ji (v := .int .i64 j) rfl (by kernel_rfl) ?_; refine ji (v := .int .i64 ((j : Int) + 1)) rfl (by simp [go_sem, E64]) ?_; refine ji (v := .int .u8 ((j + 1 : Nat) : Int)) rfl (by simp [go_sem, E8]) ?_; refine ji (v := qm k v (j + 1)) rfl (by kernel_rfl) ?_; simp only [Act.put, pa, pb, pc]; refine wpList_lookup_f _ rfl _ _ 80 rfl 86 41 Qx Tryz.underlying80 (.slice none 0 0) (zeroVs _) mb f (by kernel_rfl) HXr.out.map _ kl (by kernel_rfl) HKL9.out ?_; rw [HRV.out]; simp only [Act.put, pa, pb, pc]; clear E8 E64
   go_wp2_with fail
   go_loopw [8, 36] (fun o i wr => ∃ q : Nat, q ≤ rn ∧ i = .int .i64 q ∧ Hid (OwnV wr w2.heap.size 52 44 o (QP E k v s j ++ (R.take q).filter fun x => x.s = s).length ((QP E k v s j ++ (R.take q).filter fun x => x.s = s).flatMap (qW ep C S))) ∧ Hid (Below w2.heap.size w2 wr)) (fun _ i _ => rn - (intOf i).toNat)
   case atStart => exact ⟨0, Nat.zero_le _, rfl, jh (by rw [List.take_zero, List.filter_nil, List.append_nil, ← hm9.out]; exact HO.out), jh HW.out⟩
   case round =>
    obtain ⟨q, hq, rfl, HO2, HW2⟩ := hrel; obtain ⟨a2, c2, rfl⟩ := HO2.out.shape9; obtain ⟨m2, hm2⟩ := je ((QP E k v s j ++ (R.take q).filter fun x => x.s = s).length); rw [← hm2] at HO2 ⊢; have hm29 := jh hm2
    by_cases hlt2 : q < rn
    ·have hltJ : (q : Int) < (rn : Int) := by omega
     obtain ⟨x, hx⟩ : ∃ x, R[q]? = some x := ⟨_, List.getElem?_eq_getElem (by rw [← HRN.out]; exact hlt2)⟩; obtain ⟨rb, ro, rc9, hre, hva⟩ := zE HROW.out (by omega); injection hre with hre _ _
     subst hre; have HLV := jh (hva.at (jV _ _ _) hx)
     have hm1 : m2 + 1 ≤ 100000 := by
      have h9 := preV_le E k v s j R HR9.out q; have h8 := HEL.out; have h7 := HN7.out; have h6 := HLT.out; have h5 : j * E.length ≤ 7 * 1000 := Nat.mul_le_mul (by omega) h8; omega
     obtain ⟨L, hL⟩ := je (qW ep C S x); have hLs : L.length = 44 := by rw [hL]; exact jV _ _ _ _
     have h1L : ∀ u ∈ L, u.oneCell' = true := by rw [hL]; exact QL _ _ _ _
     have LV := loadV (jy (jy HLV.out (Below.refl _ _)) HW2.out) (jV _ _ _ _); rw [← hL] at LV; have hszL : (Tryz.prog.info? 52).map (·.size) = some L.toArray.size := by rw [jJ]; simp [hLs]
     have LV := jh LV; have HLS := jh hLs; have H1L := jh h1L; have HSZL := jh hszL; have HXQ := jh hx; have HLL := jh hL; have HR2r := jh ((HW2.out.block _ (Array.getElem?_eq_some_iff.1 HR2.out).1).trans HR2.out); have HQ := jh hlt2; have HM1 := jh hm1; clear hx hlt2 hm1 hL hLs h1L hszL hva hm2 hq
     go_upto_region 8 with fail
     refine wp_region_lit ?_; refine ji (v := .pointer (some ⟨rb, ro + q * 44, none⟩)) rfl (by simp [go_sem, hltJ]) ?_; refine ji rfl (jg LV.out) ?_; simp only [Act.put, pa, pb, pc]; refine jS (v := .pointer (some ⟨wr.heap.size, 0, none⟩)) (w' := wr.alloc (.cells zm 52)) rfl (by kernel_rfl) ?_; simp only [Act.put, pa, pb, pc]; refine jM rfl _ _ _ rfl zm L.toArray rfl rfl HSZL.out (by simp [HLS.out, zm]) (all_oneCell_toArray H1L.out) ?_; simp only [Act.put, pa, pb, pc]
     go_upto_region 9 with fail
     obtain ⟨x1, e9⟩ := je (wr.alloc (.cells L.toArray 52)); obtain ⟨VB, h9⟩ := je (wr.heap.size); have hb := jc e9; have HV := jh (show x1.heap[VB]? = some (.cells L.toArray 52 (0, 0)) by rw [e9, h9]; exact heap_alloc_new _ _); rw [← e9, ← h9]; have HR3 := jb hb HR2r; have HW3 := jw HW2 hb; have HO3 := jh (OwnV.later HO2.out hb); clear e9 h9 hb; have ls := Zi (w := x1) (b := VB) (o := 0) (k := x.k) (e := ep) (v := x.v) (n := x.n) (h := zz x.s) (c := C x) (s := S x) (by have h9 := qc HV.out; rw [HLL.out] at h9; exact h9) (jC _); obtain ⟨U, hU⟩ := je ((jq .u8 (zz x.s)).toArray); have HEx := jh (fun (W : World) => HEQ.out x.s W); rw [← hU] at ls HEx; have LS := jh ls; clear ls hU; refine wp_region_lit ?_; refine ji (v := .pointer (some ⟨VB, 4, none⟩)) rfl (by kernel_rfl) ?_; refine ji rfl (jg LS.out) ?_; refine ji rfl (jg (jW HR3.out Tryz.underlying48 rfl HTS.out)) ?_; simp only [Act.put, pa, pb, pc]
     by_cases hxs : x.s = s
     ·rw [decide_eq_true hxs] at HEx; have HXS := jh hxs; clear hxs; refine ji (v := .bool true) rfl (qw eqg_hash rfl (by kernel_rfl) (by kernel_rfl) (HEx.out _)) ?_; simp only [Act.put, pa, pb, pc]
      go_upto_region 10 with fail
      refine wp_region_lit ?_; refine ji (v := .slice a2 m2 c2) rfl (by kernel_rfl) ?_; refine ji rfl (jg (jW HV.out Tryz.underlying52 rfl HSZL.out)) ?_; simp only [Act.put, pa, pb, pc]; refine jS (v := .slice (some ⟨x1.heap.size, 0, none⟩) 1 1) (w' := x1.alloc (.cells L.toArray 52)) rfl (Jz HLS.out rfl rfl) ?_; simp only [Act.put, pa, pb, pc]; obtain ⟨y1, e9⟩ := je (x1.alloc (.cells L.toArray 52)); obtain ⟨AB, h9⟩ := je (x1.heap.size); have hb := jc e9; have HA := jh (show y1.heap[AB]? = some (.cells L.toArray 52 (0, 0)) by rw [e9, h9]; exact heap_alloc_new _ _); rw [← e9, ← h9]; have HW4 := jw HW3 hb; have HO4 := jh (OwnV.later HO3.out hb); clear e9 h9 hb; refine zO rfl _ _ 41 rfl w2.heap.size 52 iv zv 44 iv.bytes Tryz.underlying41 HI.out HZ.out HZ1.out rfl HZ3.out (.slice a2 m2 c2) m2 _ rfl HO4.out _ 1 L rfl (src_v HA.out HLS.out H1L.out) (by have := HM1.out; unfold maxLen; omega) (by have h1 := HM1.out; have h2 := HZ2.out; have h3 : (m2 + 1) * iv.bytes ≤ 100000 * 1000 := Nat.mul_le_mul h1 h2; omega) HW4.out.size ?_; intro v3 w3 ho3 hg3 hl3; obtain ⟨a3, c3, rfl⟩ := ho3.sl; have HO5 := jh ho3; have HW5 := jh (HW4.out.grown hg3 HW4.out.size (fun g hg => (HO4.out.lt g hg).1)); simp only [Act.put, pa, pb, pc]; clear ho3 hg3 hl3
      go_wp2_with fail
      go_roundw
      case rel => exact ⟨q + 1, HQ.out, by go_num, jh (by
       have h9 := HO5.out
       have e1 : (QP E k v s j ++ (R.take (q + 1)).filter fun x => decide (x.s = s)) = (QP E k v s j ++ (R.take q).filter fun x => decide (x.s = s)) ++ [x] := by
        rw [List.take_add_one, HXQ.out, List.filter_append]
        simp [HXS.out]
       have e2 := hm29.out; rw [e1, List.length_append, List.flatMap_append, ← e2]
       simpa [← HLL.out] using h9), HW5⟩
      case measure => simp [intOf]; have := HQ.out; omega
     ·rw [decide_eq_false hxs] at HEx; have HXS := jh hxs; clear hxs; refine ji (v := .bool false) rfl (qw eqg_hash rfl (by kernel_rfl) (by kernel_rfl) (HEx.out _)) ?_; simp only [Act.put, pa, pb, pc]
      go_wp2_with fail
      go_roundw
      case rel => exact ⟨q + 1, HQ.out, by go_num, jh (by
       have h9 := HO3.out; rw [List.take_add_one, HXQ.out]
       simpa [HXS.out, ← hm29.out] using h9), HW3⟩
      case measure => simp [intOf]; have := HQ.out; omega
    ·obtain rfl : q = rn := by omega
     clear hlt2
     go_wp2_with fail
     go_roundw
     case rel => exact ⟨j + 1, HLT.out, by go_num, jh (by
      have h9 := HO2.out; have e := hm29.out; have e1 : (QP E k v s j ++ (R.take q).filter fun x => decide (x.s = s)) = QP E k v s (j + 1) := by rw [HRN.out, List.take_length, HR9.out, ← preV_succ]
      rw [e1] at h9 e; rw [← e]
      exact h9), HW2⟩
     case measure => simp [intOf]; have := HLT.out; omega
  ·obtain rfl : j = n := by omega
   have hcp := HO.out.caps; have HM9 := hm9; clear hlt hm
   go_wp2_with (first | (go_at_call 33; refine (ClipV_any _ hcp.1 hcp.2).mono ?_; rintro _ _ ⟨rfl, rfl⟩))
   go_ret
   have e1 : QP E k v s j = Bal.votesOf E j k v s := rfl; refine ⟨_, rfl, ?_, jm HB.out HW.out⟩; rw [← e1, ← HM9.out]; exact (OwnV.clip HO.out).base HB.out.size
open Classical in
theorem step_mapset {P : Program} {w : World} {l : List Oper} {o : Oper} {a : Act} {K : Act → World → Prop} {Q : Exit → Act → World → Prop} {X : Prop} (hw : Region.wanted o (yielded l.toArray a.tmps) = true) (m x v : Operand) (t : TypeId) (hop : o.op = Op.mapUpdate t m x v)
  (k e : TypeId) (K9 : Maps.Keyed P k) (ht : P.underlying t = some (.map k e)) (b : Nat) (f : Value → Option Value)
  (hm : a.eval m = .map (some b)) (h : MapF w P k b f) (key val : Value) (kl : Lit) (hx : a.eval x = key) (hv : a.eval v = val) (hkey : keyOf P k key = some kl)
  (hK : ∀ w', MapF w' P k b (fun q => if q = key then some val else f q) → w.grownBy w' (some b) → K (a.put o.dst undef) w') :
  if Region.wanted o (yielded l.toArray a.tmps) = true then Oper.wp P o a w K Q else X := by
 rw [if_pos hw]; obtain ⟨w', hrun, r1, r2⟩ := h.store (val := val) K9 ht hkey; unfold Oper.wp
 simp [execOp, hop, hm, hx, hv, hrun, Result.andThen]
 exact hK w' r1 r2
theorem ZQ {P : Program} {w : World} {o : Oper} {ev : Operand → Value} {t k e : TypeId} {m x : Operand} {z : Value} {b : Nat} {f : Value → Option Value} {key : Value} {kl : Lit} (hop : o.op = Op.lookup t m x false) (K : Maps.Keyed P k) (ht : P.underlying t = some (.map k e)) (hz : (zeroValue e).run P w = .ok z w)
  (hm : ev m = .map (some b)) (h : MapF w P k b f) (hx : ev x = key) (hkey : keyOf P k key = some kl) : (execOp ev o).run P w = .ok (.value ((f key).getD z)) w := by
 have hrun := h.look K ht hz hkey
 simp [execOp, hop, hm, hx, hrun, Result.andThen]
theorem farL_put {E : List Bal.Bv} {n i : Nat} {x : Bal.Bv} (hi : x.n = i + 1) : (farL E n).set i (.int .i64 (if (x.v : Int) > Bal.farOf E x.n then (x.v : Int) else Bal.farOf E x.n)) = farL (Bal.bput E x) n := by
 apply List.ext_getElem?
 intro j
 by_cases hj : j < n
 ·rw [farL_get hj, Bal.far_bput]
  by_cases hij : i = j
  ·subst hij; rw [List.getElem?_set_self (by rw [JX]; exact hj), if_pos hi, hi]
   congr 2
   split <;> omega
  ·rw [List.getElem?_set_ne hij, farL_get hj, if_neg (by omega)]
 ·rw [List.getElem?_eq_none (by simp [JX]; omega), List.getElem?_eq_none (by simp [JX]; omega)]
theorem far_put {w : World} {g o cap n i : Nat} {E : List Bal.Bv} {x : Bal.Bv} (hi : x.n = i + 1) (h : OwnV w 0 2 1 (.slice (some ⟨g, o, none⟩) n cap) n (farL E n)) :
  OwnV (w.setCell ⟨g, o + i, none⟩ (.int .i64 (if (x.v : Int) > Bal.farOf E x.n then (x.v : Int) else Bal.farOf E x.n))) 0 2 1 (.slice (some ⟨g, o, none⟩) n cap) n (farL (Bal.bput E x) n) := by
 rw [← farL_put hi]; exact h.put9 _
section
variable {wa wb wc wd : World} {bx gp gq gg gh n cap nb no mb fb fo fc ep base : Nat} {fa se : Int} {ks : List (Nat × Nat)} {vv : Bal.Bv → List Value} {f : Value → Option Value} {E : List Bal.Bv}
open Classical in
theorem BoxAt.put (h : BoxAt wa bx gp gq gg gh n cap nb no mb fb fo fc ep base fa se ks vv f E) (x : Bal.Bv) (hx : x ∉ E) {v' : Value}
  (hown : OwnV wb base 52 44 v' ((Bal.at_ E x.k x.v x.n).length + 1) ((Bal.at_ E x.k x.v x.n).flatMap vv ++ vv x))
  (hgr : wa.grownBy wb ((f (qm x.k x.v x.n)).getD (.slice none 0 0)).ownBlock) (hl : Lies wa wb ((f (qm x.k x.v x.n)).getD (.slice none 0 0)) v' (Bal.at_ E x.k x.v x.n).length 1)
  (hmap : MapF wc Tryz.prog 86 mb (fun q => if q = qm x.k x.v x.n then some v' else f q)) (hg2 : wb.grownBy wc (some mb))
  (hfar : OwnV wd 0 2 1 (.slice (some ⟨fb, fo, none⟩) n fc) n (farL (Bal.bput E x) n)) (hg3 : wc.grownBy wd (some fb)) :
  ∃ f2, BoxAt wd bx gp gq gg gh n cap nb no mb fb fo fc ep base fa se ks vv f2 (Bal.bput E x) ∧ Turn wa wd mb fb f ∧ ∀ g, rowB f2 g → rowB f g ∨ wa.heap.size ≤ g := by
 have hx9 : x ∉ Bal.at_ E x.k x.v x.n := fun e => hx (Bal.mem_at.1 e).1
 have r1 := h.rows.put x hx9 hown hgr hl; have r2 := r1.other h.lt.2.2.1 hg2; have r3 := r2.other h.lt.2.2.2 hg3; have hrow : ∀ g, ((f (qm x.k x.v x.n)).getD (.slice none 0 0)).ownBlock = some g → base ≤ g := fun g hg => (h.rows.lt ⟨_, _, _, hg⟩).1
 have lo : ∀ b, b < base → b ≠ mb → b ≠ fb → wd.heap[b]? = wa.heap[b]? := fun b hb h1 h2 => by
  have s1 := Nat.lt_of_lt_of_le hb h.bs; have s2 := Nat.lt_of_lt_of_le s1 hgr.size; have s3 := Nat.lt_of_lt_of_le s2 hg2.size; rw [hg3.block b s3 (fun e => h2 (by injection e)), hg2.block b s2 (fun e => h1 (by injection e)), hgr.block b s1 (fun e => by have := hrow b e.symm; omega)]
 have hmw : wd.heap[mb]? = wc.heap[mb]? := hg3.block mb (Nat.lt_of_lt_of_le h.lt.2.2.1 (Nat.le_trans h.bs (Nat.le_trans hgr.size hg2.size))) (fun e => h.ne.2.2.2.2 (by injection e with e; exact e.symm))
 refine ⟨fun q => if q = qm x.k x.v x.n then some v' else f q, ⟨h.set.block (lo _ h.lt.1 (Ne.symm h.ne.1) (Ne.symm h.ne.2.2.1)), Jk h.epo (lo _ h.lt.1 (Ne.symm h.ne.1) (Ne.symm h.ne.2.2.1)), Jk h.mp (lo _ h.lt.1 (Ne.symm h.ne.1) (Ne.symm h.ne.2.2.1)), Jk h.fr (lo _ h.lt.1 (Ne.symm h.ne.1) (Ne.symm h.ne.2.2.1)),
  h.keys.block (lo _ h.lt.2.1 (Ne.symm h.ne.2.1) (Ne.symm h.ne.2.2.2.1)), hmap.block hmw, r3, hfar, h.lt, h.ne, Nat.le_trans h.bs (Nat.le_trans hgr.size (Nat.le_trans hg2.size hg3.size))⟩, ⟨hg3.os.trans (hg2.os.trans hgr.os), hg3.tape.trans (hg2.tape.trans hgr.tape), hg3.output.trans (hg2.output.trans hgr.output), Nat.le_trans hgr.size (Nat.le_trans hg2.size hg3.size), fun b hb h1 h2 h3 => ?_⟩, ?_⟩
 ·have s2 := Nat.lt_of_lt_of_le hb hgr.size; have s3 := Nat.lt_of_lt_of_le s2 hg2.size; rw [hg3.block b s3 (fun e => h2 (by injection e)), hg2.block b s2 (fun e => h1 (by injection e)), hgr.block b hb (fun e => h3 ⟨_, _, _, e.symm⟩)]
 ·rintro g ⟨k, v, m, hg⟩
  by_cases hk : qm k v m = qm x.k x.v x.n
  ·simp only [hk, if_true, Option.getD_some] at hg
   rcases hl with ⟨g9, o9, c9, e1, e2⟩ | ⟨e1, _⟩ | ⟨e1, _⟩
   ·rw [e2] at hg; exact .inl ⟨x.k, x.v, x.n, by rw [e1]; exact hg⟩
   ·rw [e1] at hg; injection hg with hg
    exact .inr (Nat.le_of_eq hg)
   ·exact absurd e1 (by decide)
  ·simp only [hk, if_false] at hg; exact .inl ⟨k, v, m, hg⟩
theorem Turn.after {w w' : World} (h : Below w.heap.size w wa) (ht : Turn wa w' mb fb f) : Turn w w' mb fb f :=
 ⟨ht.os.trans h.os, ht.tape.trans h.tape, ht.output.trans h.output, Nat.le_trans h.size ht.size, fun i hi h1 h2 h3 => (ht.block i (Nat.lt_of_lt_of_le hi h.size) h1 h2 h3).trans (h.block i hi)⟩
end
theorem not_mem_any {E : List Bal.Bv} {x : Bal.Bv} : (Bal.at_ E x.k x.v x.n).any (fun y => decide (y.s = x.s)) = decide (x ∈ E) := by
 by_cases h : x ∈ E
 ·rw [decide_eq_true h, List.any_eq_true]; exact ⟨x, Bal.mem_at.2 ⟨h, rfl, rfl, rfl⟩, by simp⟩
 ·rw [decide_eq_false h, List.any_eq_false]; intro y hy; obtain ⟨h1, h2, h3, h4⟩ := Bal.mem_at.1 hy; simp only [decide_eq_true_eq]; intro e
  apply h
  have : y = x := by
   cases y
   cases x
   simp_all
  rw [← this]; exact h1
def putR (E : List Bal.Bv) (x : Bal.Bv) : Bool × Int := if x ∈ E then (false, 0) else if (Bal.at_ E x.k x.v x.n).length = 0 then (true, 0) else (false, 8)
theorem Zy {w w1 w2 : World} {r : Option Nat} (h : Below w.heap.size w w1) (h2 : w1.grownBy w2 r) : w.grownBy w2 r := ⟨h2.os.trans h.os, h2.tape.trans h.tape, h2.output.trans h.output, Nat.le_trans h.size h2.size, fun k hk hne => (h2.block k (Nat.lt_of_lt_of_le hk h.size) hne).trans (h.block k hk)⟩
theorem BPut_nil (V : Array Value) (hV : V.size = 44) (w : World) :
  Calls Tryz.prog 11 #[.pointer none, .agg V] w fun r w' => r = .returned (.tuple #[.bool false, .int .i64 2]) ∧ Below w.heap.size w w' := by
 have hszV : (Tryz.prog.info? 52).map (·.size) = some V.size := by rw [jJ, hV]
 go_enter Tryz.func11, Tryz.ntmps11
 go_wp2_with (first | (go_at_call 28; refine (Zg _).mono ?_; rintro _ _ ⟨rfl, rfl⟩))
 go_ret2
 exact ⟨rfl, ja⟩
theorem BPut_epoch {bx gp gq gg gh n cap nb no mb fb fo fc ep base : Nat} {fa se : Int} {ks : List (Nat × Nat)} {f : Value → Option Value} {E : List Bal.Bv} {vv : Bal.Bv → List Value} {k e v nd c s : Nat} {h9 : List Nat} (hl : h9.length = 32) (hne : e ≠ ep) (w : World) (h : BoxAt w bx gp gq gg gh n cap nb no mb fb fo fc ep base fa se ks vv f E) :
  Calls Tryz.prog 11 #[.pointer (some ⟨bx, 0, none⟩), qv k e v nd h9 c s] w fun r w' => r = .returned (.tuple #[.bool false, .int .i64 1]) ∧ Below w.heap.size w w' := by
 have HNE := jh (show ¬ (e : Int) = (ep : Int) by omega); obtain ⟨L, hL⟩ := je (jG k e v nd h9 c s); have hLs : L.length = 44 := by rw [hL]; exact jD hl
 have hszV : (Tryz.prog.info? 52).map (·.size) = some L.toArray.size := by rw [jJ]; simp [hLs]
 have HLL := jh hL; have HLS := jh hLs; have HX := jh h; obtain ⟨LA, hLA⟩ := je (L.toArray); have HLA := jh hLA; unfold qv; rw [← hL, ← hLA]; rw [← hLA] at hszV; have HSZ := jh hszV; clear h hL hLs hLA hl hne
 go_enter Tryz.func11, Tryz.ntmps11
 go_upto_region 1 with fail
 obtain ⟨v_1, e1⟩ := je (w.alloc (.cells LA 52)); obtain ⟨VB, hVB⟩ := je (w.heap.size); have HB := jh (show Below w.heap.size w v_1 by rw [e1]; exact ja); have HV := jh (show v_1.heap[VB]? = some (.cells LA 52 (0, 0)) by rw [e1, hVB]; exact heap_alloc_new _ _); rw [← e1, ← hVB]; have HX := jh (HX.out.later HB.out); have WV := jh (show w.heap.size ≤ VB by omega); clear e1 hVB; have hcm := HX.out.mp
 go_upto_region 3 with (first | (go_at_call 28; refine (JC _ hcm).mono ?_; rintro _ v_2 ⟨rfl, hb⟩))
 have HV := jb hb HV; have HX := jh (HX.out.later hb); have HB := jw HB hb; clear hb; clear hcm; refine jK [(0, true), (1, true), (2, true), (3, true), (4, true), (5, true), (6, true), (7, true), (8, true), (9, true), (10, true), (11, true), (12, true), (13, false), (14, true), (15, true), (16, true)] (fun w8 => w8.heap[VB]? = some (.cells LA 52 (0, 0)) ∧ BoxAt w8 bx gp gq gg gh n cap nb no mb fb fo fc ep base fa se ks vv f E) (by kernel_rfl) (by kernel_rfl) (fun _ _ _ _ _ h => h) (⟨(((Below.refl _ _).drew : Below v_2.heap.size v_2 v_2.drew).block _ (Array.getElem?_eq_some_iff.1 HV.out).1).trans HV.out, HX.out.later ((Below.refl _ _).drew)⟩) (fun hHeld => ?_); refine WP.tk rfl (k := ?_); refine WP.tk (v := .int .u64 e) rfl (fun w8 hSw => jg (JT (vo_e (show w8.rangeAt VB 0 (jG k e v nd h9 c s) by have h9 := qc (show w8.heap[VB]? = some (.cells L.toArray 52 (0, 0)) by rw [← HLA.out]; exact hSw.1); rw [HLL.out] at h9; exact h9)))) (k := ?_)
 iterate 3
  refine WP.tk rfl (k := ?_)
 refine WP.tk (v := .int .u64 ep) rfl (fun w8 hSw => jg (JT hSw.2.epo)) (k := ?_); refine WP.tk (v := .bool true) rfl (fun w8 hSw => by have e9 := HNE.out; simp [go_sem, e9]) (k := ?_); refine WP.tk rfl (k := ?_)
 iterate 5
  refine WP.tu rfl (k := ?_)
 refine WP.step rfl (fun K hK => ?_); refine qD (by rfl) ?_; refine hK.out _ _ (hHeld) (fun hHeld => ?_); clear hK K
 try simp only [Act.put, pa, pb, pc]
 refine WP.tu rfl (k := ?_)
 iterate 2
  refine WP.tk rfl (k := ?_)
 refine WP.done ?_; clear hHeld
 go_wp2_with fail
 go_ret2
 exact ⟨rfl, HB.out.drew⟩
theorem BPut_no {bx gp gq gg gh n cap nb no mb fb fo fc ep base : Nat} {fa se : Int} {ks : List (Nat × Nat)} {f : Value → Option Value} {E : List Bal.Bv} {vv : Bal.Bv → List Value} {k v nd c s : Nat} {h9 : List Nat} (hl : h9.length = 32) (hc : ∀ W, KeysAt W nb no ks → Calls Tryz.prog 17 #[qg gp gq gg gh fa se (.slice (some ⟨nb, no, none⟩) n cap), qv k ep v nd h9 c s] W fun r W' => r = .returned (.bool false) ∧ Below W.heap.size W W') (w : World) (h : BoxAt w bx gp gq gg gh n cap nb no mb fb fo fc ep base fa se ks vv f E) :
  Calls Tryz.prog 11 #[.pointer (some ⟨bx, 0, none⟩), qv k ep v nd h9 c s] w fun r w' => r = .returned (.tuple #[.bool false, .int .i64 1]) ∧ Below w.heap.size w w' := by
 have CK := jh hc; obtain ⟨L, hL⟩ := je (jG k ep v nd h9 c s); have hLs : L.length = 44 := by rw [hL]; exact jD hl
 have hszV : (Tryz.prog.info? 52).map (·.size) = some L.toArray.size := by rw [jJ]; simp [hLs]
 have HLL := jh hL; have HLS := jh hLs; have HX := jh h; obtain ⟨LA, hLA⟩ := je (L.toArray); have HLA := jh hLA; obtain ⟨SV, hSV⟩ : ∃ SV, qg gp gq gg gh fa se (.slice (some ⟨nb, no, none⟩) n cap) = .agg SV := ⟨_, rfl⟩; have HSV := jh hSV; unfold qv at CK; rw [hSV, ← hL, ← hLA] at CK; unfold qv; rw [← hL, ← hLA]; rw [← hLA] at hszV; have HSZ := jh hszV; clear h hL hLs hLA hl hc hSV
 go_enter Tryz.func11, Tryz.ntmps11
 go_upto_region 1 with fail
 obtain ⟨v_1, e1⟩ := je (w.alloc (.cells LA 52)); obtain ⟨VB, hVB⟩ := je (w.heap.size); have HB := jh (show Below w.heap.size w v_1 by rw [e1]; exact ja); have HV := jh (show v_1.heap[VB]? = some (.cells LA 52 (0, 0)) by rw [e1, hVB]; exact heap_alloc_new _ _); rw [← e1, ← hVB]; have HX := jh (HX.out.later HB.out); have WV := jh (show w.heap.size ≤ VB by omega); clear e1 hVB; have hcm := HX.out.mp
 go_upto_region 3 with (first | (go_at_call 28; refine (JC _ hcm).mono ?_; rintro _ v_2 ⟨rfl, hb⟩))
 have HV := jb hb HV; have HX := jh (HX.out.later hb); have HB := jw HB hb; clear hb; clear hcm; refine jB (.take 0 (.take 1 (.take 2 (.take 3 (.take 4 (.take 5 (.take 6 (.take 7 (.take 8 (.take 9 (.take 10 (.take 11 (.take 12 (.step 13 (.take 14 (.take 15 (.take 16 .done))))))))))))))))) (fun w8 => w8.heap[VB]? = some (.cells LA 52 (0, 0)) ∧ BoxAt w8 bx gp gq gg gh n cap nb no mb fb fo fc ep base fa se ks vv f E) (by kernel_rfl) (by kernel_rfl) (fun _ _ _ _ _ h => h) (⟨(((Below.refl _ _).drew : Below v_2.heap.size v_2 v_2.drew).block _ (Array.getElem?_eq_some_iff.1 HV.out).1).trans HV.out, HX.out.later ((Below.refl _ _).drew)⟩) (fun hHeld => ?_); obtain ⟨x1, e1⟩ := je (v_2.drew); rw [← e1]; have hb : Below v_2.heap.size v_2 x1 := by rw [e1]; exact (Below.refl _ _).drew
 clear e1; have HV := jb hb HV; have HX := jh (HX.out.later hb); have HB := jw HB hb; clear hb; refine WT.tk rfl (k := ?_); refine WT.tk (v := .int .u64 ep) rfl (fun w8 hSw => jg (JT (vo_e (show w8.rangeAt VB 0 (jG k ep v nd h9 c s) by have h9 := qc (show w8.heap[VB]? = some (.cells L.toArray 52 (0, 0)) by rw [← HLA.out]; exact hSw.1); rw [HLL.out] at h9; exact h9)))) (k := ?_)
 iterate 3
  refine WT.tk rfl (k := ?_)
 refine WT.tk (v := .int .u64 ep) rfl (fun w8 hSw => jg (JT hSw.2.epo)) (k := ?_); refine WT.tk (v := .bool false) rfl (fun w8 hSw => by simp [go_sem]) (k := ?_)
 iterate 4
  refine WT.tk rfl (k := ?_)
 refine WT.tk (v := .agg SV) rfl (fun w8 hSw => by rw [← HSV.out]; exact jg (Qa hSw.2.set)) (k := ?_); refine WT.tk (v := .agg LA) rfl (fun w8 hSw => jg (jW hSw.1 Tryz.underlying52 rfl HSZ.out)) (k := ?_); refine WT.step rfl (fun K hK => ?_)
 go_simp
 refine (CK.out _ HX.out.keys).mono ?_; rintro _ x2 ⟨rfl, hb⟩; have HV := jb hb HV; have HX := jh (HX.out.later hb); have HB := jw HB hb; clear hb; refine hK.out _ _ (⟨HV.out, HX.out⟩) (fun hHeld => ?_); clear hK K
 try simp only [Act.put, pa, pb, pc]
 iterate 3
  refine WT.tk rfl (k := ?_)
 refine WT.done ?_; clear hHeld
 go_wp2_with fail
 go_ret2
 exact ⟨rfl, HB.out⟩
theorem BPut_in {bx gp gq gg gh n cap nb no mb fb fo fc ep base : Nat} {fa se : Int} {ks : List (Nat × Nat)} {f : Value → Option Value} {E : List Bal.Bv} {C S : Bal.Bv → Nat} {x : Bal.Bv} {i : Nat} (hi : x.n = i + 1) (hin : i < n) (hn7 : n ≤ 7) (hxk : x.k < 256) (hxv : x.v < 4294967296) (hE : E.length ≤ 1000) (hc : ∀ W, KeysAt W nb no ks → Calls Tryz.prog 17 #[qg gp gq gg gh fa se (.slice (some ⟨nb, no, none⟩) n cap), .agg (qW ep C S x).toArray] W fun r W' => r = .returned (.bool true) ∧ Below W.heap.size W W') (hx : x ∈ E) (w : World) (h : BoxAt w bx gp gq gg gh n cap nb no mb fb fo fc ep base fa se ks (qW ep C S) f E) :
  Calls Tryz.prog 11 #[.pointer (some ⟨bx, 0, none⟩), .agg (qW ep C S x).toArray] w fun r w' => r = .returned (.tuple #[.bool false, .int .i64 0]) ∧ Below w.heap.size w w' := by
 have CK := jh hc; obtain ⟨L, hL⟩ := je (qW ep C S x); have hLs : L.length = 44 := by rw [hL]; exact jV _ _ _ _
 have h1L : ∀ u ∈ L, u.oneCell' = true := by rw [hL]; exact QL _ _ _ _
 have hszV : (Tryz.prog.info? 52).map (·.size) = some L.toArray.size := by rw [jJ]; simp [hLs]
 have HLL := jh hL; have HLS := jh hLs; have H1L := jh h1L; have HX := jh h; obtain ⟨LA, hLA⟩ := je (L.toArray); have HLA := jh hLA; obtain ⟨SV, hSV⟩ : ∃ SV, qg gp gq gg gh fa se (.slice (some ⟨nb, no, none⟩) n cap) = .agg SV := ⟨_, rfl⟩; have HSV := jh hSV; rw [hSV, ← hL, ← hLA] at CK; rw [← hL, ← hLA]; obtain ⟨kl, hkl⟩ := placeKey (k := x.k) (v := x.v) (n := x.n) hxk hxv (by omega); have HKL := jh hkl; have HI := jh hi; have HIN := jh hin; have HN7 := jh hn7; have HXV := jh hxv; have HEL := jh hE; have HBB := jh h.bs; have HMB := jh h.lt; have hrow := h.rows.row x.k x.v x.n; obtain ⟨rn, hrn⟩ := je ((Bal.at_ E x.k x.v x.n).length); have hrI : (rn : Int) ≤ 1000 := by have h9 := at_le E x.k x.v x.n; omega
 rw [← hrn] at hrow; obtain ⟨ra, rc, hrv⟩ := hrow.shape9; have hrlt := fun g (hg : ((f (qm x.k x.v x.n)).getD (.slice none 0 0)).ownBlock = some g) => h.rows.lt ⟨x.k, x.v, x.n, hg⟩
 rw [hrv] at hrow hrlt; have HRW := jh hrow; have HRV := jh hrv; have HRN := jh hrn; have HRL := jh hrlt; have CC := jh (fun (VB : Nat) (W : World) (hr9 : W.rangeAt VB 0 (qW ep C S x)) (ho9 : OwnV W base 52 44 (.slice ra rn rc) rn ((Bal.at_ E x.k x.v x.n).flatMap (qW ep C S))) => by have h9 := conV_any (ep := ep) (C := C) (S := S) (VB := VB) (t := x.s) hrn.symm (by have := at_le E x.k x.v x.n; omega) W hr9 ho9; rw [not_mem_any] at h9; exact h9); clear hrow hrlt hrv hrn hkl hi hin hn7 hxk hxv hE h1L; rw [← hLA] at hszV; have HSZ := jh hszV; clear h hL hLs hLA hc hSV
 go_enter Tryz.func11, Tryz.ntmps11
 go_upto_region 1 with fail
 obtain ⟨v_1, e1⟩ := je (w.alloc (.cells LA 52)); obtain ⟨VB, hVB⟩ := je (w.heap.size); have HB := jh (show Below w.heap.size w v_1 by rw [e1]; exact ja); have HV := jh (show v_1.heap[VB]? = some (.cells LA 52 (0, 0)) by rw [e1, hVB]; exact heap_alloc_new _ _); rw [← e1, ← hVB]; have HX := jh (HX.out.later HB.out); have WV := jh (show w.heap.size ≤ VB by omega); clear e1 hVB; have hcm := HX.out.mp
 go_upto_region 3 with (first | (go_at_call 28; refine (JC _ hcm).mono ?_; rintro _ v_2 ⟨rfl, hb⟩))
 have HV := jb hb HV; have HX := jh (HX.out.later hb); have HB := jw HB hb; clear hb; clear hcm; refine jB (.take 0 (.take 1 (.take 2 (.take 3 (.take 4 (.take 5 (.take 6 (.take 7 (.take 8 (.take 9 (.take 10 (.take 11 (.take 12 (.step 13 (.take 14 (.take 15 (.take 16 .done))))))))))))))))) (fun w8 => w8.heap[VB]? = some (.cells LA 52 (0, 0)) ∧ BoxAt w8 bx gp gq gg gh n cap nb no mb fb fo fc ep base fa se ks (qW ep C S) f E) (by kernel_rfl) (by kernel_rfl) (fun _ _ _ _ _ h => h) (⟨(((Below.refl _ _).drew : Below v_2.heap.size v_2 v_2.drew).block _ (Array.getElem?_eq_some_iff.1 HV.out).1).trans HV.out, HX.out.later ((Below.refl _ _).drew)⟩) (fun hHeld => ?_); obtain ⟨x1, e1⟩ := je (v_2.drew); rw [← e1]; have hb : Below v_2.heap.size v_2 x1 := by rw [e1]; exact (Below.refl _ _).drew
 clear e1; have HV := jb hb HV; have HX := jh (HX.out.later hb); have HB := jw HB hb; clear hb; refine WT.tk rfl (k := ?_); refine WT.tk (v := .int .u64 ep) rfl (fun w8 hSw => jg (JT (vo_e (show w8.rangeAt VB 0 (jG x.k ep x.v x.n (zz x.s) (C x) (S x)) by have h9 := qc (show w8.heap[VB]? = some (.cells L.toArray 52 (0, 0)) by rw [← HLA.out]; exact hSw.1); rw [HLL.out] at h9; exact h9)))) (k := ?_)
 iterate 3
  refine WT.tk rfl (k := ?_)
 refine WT.tk (v := .int .u64 ep) rfl (fun w8 hSw => jg (JT hSw.2.epo)) (k := ?_); refine WT.tk (v := .bool false) rfl (fun w8 hSw => by simp [go_sem]) (k := ?_)
 iterate 4
  refine WT.tk rfl (k := ?_)
 refine WT.tk (v := .agg SV) rfl (fun w8 hSw => by rw [← HSV.out]; exact jg (Qa hSw.2.set)) (k := ?_); refine WT.tk (v := .agg LA) rfl (fun w8 hSw => jg (jW hSw.1 Tryz.underlying52 rfl HSZ.out)) (k := ?_); refine WT.step rfl (fun K hK => ?_)
 go_simp
 refine (CK.out _ HX.out.keys).mono ?_; rintro _ x2 ⟨rfl, hb⟩; have HV := jb hb HV; have HX := jh (HX.out.later hb); have HB := jw HB hb; clear hb; refine hK.out _ _ (⟨HV.out, HX.out⟩) (fun hHeld => ?_); clear hK K
 try simp only [Act.put, pa, pb, pc]
 iterate 3
  refine WT.tk rfl (k := ?_)
 refine WT.done ?_; clear hHeld; have hrg := qc (show x2.heap[VB]? = some (.cells L.toArray 52 (0, 0)) by rw [← HLA.out]; exact HV.out); rw [HLL.out] at hrg; have HRG := jh hrg; clear hrg
 go_upto_region 5 with fail
 refine wp_region_lit ?_; refine ji (v := .pointer (some ⟨VB, 0, none⟩)) rfl (by kernel_rfl) ?_; refine ji (v := .int .u8 x.k) rfl (jg (loadVk (QJ HRG.out))) ?_; refine ji (v := .pointer (some ⟨VB, 2, none⟩)) rfl (by kernel_rfl) ?_; refine ji (v := .int .u32 x.v) rfl (jg (ZY (ZM HRG.out))) ?_; refine ji (v := .pointer (some ⟨VB, 3, none⟩)) rfl (by kernel_rfl) ?_; refine ji (v := .int .u8 x.n) rfl (jg (load8 (Qg HRG.out))) ?_; refine ji (v := qm x.k x.v x.n) rfl (by kernel_rfl) ?_; simp only [Act.put, pa, pb, pc]; refine jS (v := .pointer (some ⟨x2.heap.size, 0, none⟩)) (w' := x2.alloc (.cells #[.int .u8 0, .int .u32 0, .int .u8 0] 86)) rfl (by kernel_rfl) ?_; simp only [Act.put, pa, pb, pc]; refine jM rfl _ _ _ rfl #[.int .u8 0, .int .u32 0, .int .u8 0] #[.int .u8 (x.k : Int), .int .u32 (x.v : Int), .int .u8 (x.n : Int)] rfl rfl (by kernel_rfl) rfl (by kernel_rfl) ?_; simp only [Act.put, pa, pb, pc]
 go_upto_region 6 with fail
 obtain ⟨y1, e9⟩ := je (x2.alloc (.cells #[.int .u8 (x.k : Int), .int .u32 (x.v : Int), .int .u8 (x.n : Int)] 86)); obtain ⟨PB, h9⟩ := je (x2.heap.size); have hb := jc e9; have HP := jh (show y1.heap[PB]? = some (.cells #[.int .u8 (x.k : Int), .int .u32 (x.v : Int), .int .u8 (x.n : Int)] 86 (0, 0)) by rw [e9, h9]; exact heap_alloc_new _ _); have WP9 := jh (show w.heap.size ≤ PB by rw [h9]; exact HB.out.size); rw [← e9, ← h9]; clear e9 h9; have HV := jb hb HV; have HX := jh (HX.out.later hb); have HB := jw HB hb; clear hb; refine jK [(0, true), (1, true), (2, true), (3, true), (4, true), (5, true), (6, true)] (fun w8 => BoxAt w8 bx gp gq gg gh n cap nb no mb fb fo fc ep base fa se ks (qW ep C S) f E ∧ w8.heap[PB]? = some (.cells #[.int .u8 (x.k : Int), .int .u32 (x.v : Int), .int .u8 (x.n : Int)] 86 (0, 0))) (by kernel_rfl) (by kernel_rfl) (fun _ _ _ _ _ h => h) (⟨HX.out.later ((Below.refl _ _).drew), (((Below.refl _ _).drew : Below y1.heap.size y1 y1.drew).block _ (Array.getElem?_eq_some_iff.1 HP.out).1).trans HP.out⟩) (fun hHeld => ?_)
 iterate 3
  refine WP.tk rfl (k := ?_)
 refine WP.tk (v := .map (some mb)) rfl (fun w8 hSw => jg (loadMp hSw.1.mp)) (k := ?_); refine WP.tk (v := .agg #[.int .u8 (x.k : Int), .int .u32 (x.v : Int), .int .u8 (x.n : Int)]) rfl (fun w8 hSw => jg (jW hSw.2 Tryz.underlying86 rfl (by kernel_rfl))) (k := ?_); refine WP.tk (v := .slice ra rn rc) rfl (fun w8 hSw => by rw [← HRV.out]; exact ZQ rfl Qx Tryz.underlying80 (zeroVs _) rfl hSw.1.map (by kernel_rfl) HKL.out) (k := ?_); refine WP.tk rfl (k := ?_); refine WP.done ?_; clear hHeld; obtain ⟨y2, e1⟩ := je (y1.drew); rw [← e1]; have hb : Below y1.heap.size y1 y2 := by rw [e1]; exact (Below.refl _ _).drew
 clear e1; have HP := jb hb HP; have HV := jb hb HV; have HX := jh (HX.out.later hb); have HB := jw HB hb; clear hb; have hrg := qc (show y2.heap[VB]? = some (.cells L.toArray 52 (0, 0)) by rw [← HLA.out]; exact HV.out); rw [HLL.out] at hrg; have CCx := jh (CC.out VB y2 hrg (OwnV.later HRW.out HB.out)); clear hrg HRG; rw [decide_eq_true hx] at CCx; clear hx
 go_wp2_with (first | (go_at_call 29; refine CCx.out.mono ?_; rintro _ y3 ⟨rfl, hb⟩; have HB := jw HB hb; clear hb))
 go_ret2
 exact ⟨rfl, HB.out⟩
theorem BPut_new {bx gp gq gg gh n cap nb no mb fb fo fc ep base : Nat} {fa se : Int} {ks : List (Nat × Nat)} {f : Value → Option Value} {E : List Bal.Bv} {C S : Bal.Bv → Nat} {x : Bal.Bv} {i : Nat} (hi : x.n = i + 1) (hin : i < n) (hn7 : n ≤ 7) (hxk : x.k < 256) (hxv : x.v < 4294967296) (hE : E.length ≤ 1000) (hc : ∀ W, KeysAt W nb no ks → Calls Tryz.prog 17 #[qg gp gq gg gh fa se (.slice (some ⟨nb, no, none⟩) n cap), .agg (qW ep C S x).toArray] W fun r W' => r = .returned (.bool true) ∧ Below W.heap.size W W') (hx : x ∉ E) (w : World) (h : BoxAt w bx gp gq gg gh n cap nb no mb fb fo fc ep base fa se ks (qW ep C S) f E) :
  Calls Tryz.prog 11 #[.pointer (some ⟨bx, 0, none⟩), .agg (qW ep C S x).toArray] w fun r w' => r = .returned (.tuple #[.bool (decide ((Bal.at_ E x.k x.v x.n).length = 0)), .int .i64 (if (Bal.at_ E x.k x.v x.n).length = 0 then 0 else 8)]) ∧ ∃ f', BoxAt w' bx gp gq gg gh n cap nb no mb fb fo fc ep base fa se ks (qW ep C S) f' (Bal.bput E x) ∧ Turn w w' mb fb f ∧ ∀ g, rowB f' g → rowB f g ∨ w.heap.size ≤ g := by
 obtain ⟨B9, hB9⟩ := je (decide ((Bal.at_ E x.k x.v x.n).length = 0)); obtain ⟨I9, hI9⟩ : ∃ b : Int, b = (if (Bal.at_ E x.k x.v x.n).length = 0 then 0 else 8) := ⟨_, rfl⟩; rw [← hB9, ← hI9]; have HB9 := jh hB9; have HI9 := jh hI9; clear hB9 hI9; have CK := jh hc; obtain ⟨L, hL⟩ := je (qW ep C S x); have hLs : L.length = 44 := by rw [hL]; exact jV _ _ _ _
 have h1L : ∀ u ∈ L, u.oneCell' = true := by rw [hL]; exact QL _ _ _ _
 have hszV : (Tryz.prog.info? 52).map (·.size) = some L.toArray.size := by rw [jJ]; simp [hLs]
 have HLL := jh hL; have HLS := jh hLs; have H1L := jh h1L; have HX := jh h; obtain ⟨LA, hLA⟩ := je (L.toArray); have HLA := jh hLA; obtain ⟨SV, hSV⟩ : ∃ SV, qg gp gq gg gh fa se (.slice (some ⟨nb, no, none⟩) n cap) = .agg SV := ⟨_, rfl⟩; have HSV := jh hSV; rw [hSV, ← hL, ← hLA] at CK; rw [← hL, ← hLA]; obtain ⟨kl, hkl⟩ := placeKey (k := x.k) (v := x.v) (n := x.n) hxk hxv (by omega); have HKL := jh hkl; have HI := jh hi; have HIN := jh hin; have HN7 := jh hn7; have HXV := jh hxv; have HEL := jh hE; have HBB := jh h.bs; have HMB := jh h.lt; have hrow := h.rows.row x.k x.v x.n; obtain ⟨rn, hrn⟩ := je ((Bal.at_ E x.k x.v x.n).length); have hrI : (rn : Int) ≤ 1000 := by have h9 := at_le E x.k x.v x.n; omega
 rw [← hrn] at hrow; obtain ⟨ra, rc, hrv⟩ := hrow.shape9; have hrlt := fun g (hg : ((f (qm x.k x.v x.n)).getD (.slice none 0 0)).ownBlock = some g) => h.rows.lt ⟨x.k, x.v, x.n, hg⟩
 rw [hrv] at hrow hrlt; have HRW := jh hrow; have HRV := jh hrv; have HRN := jh hrn; have HRL := jh hrlt; have CC := jh (fun (VB : Nat) (W : World) (hr9 : W.rangeAt VB 0 (qW ep C S x)) (ho9 : OwnV W base 52 44 (.slice ra rn rc) rn ((Bal.at_ E x.k x.v x.n).flatMap (qW ep C S))) => by have h9 := conV_any (ep := ep) (C := C) (S := S) (VB := VB) (t := x.s) hrn.symm (by have := at_le E x.k x.v x.n; omega) W hr9 ho9; rw [not_mem_any] at h9; exact h9); clear hrow hrlt hrv hrn hkl hi hin hn7 hxk hxv hE h1L; rw [← hLA] at hszV; have HSZ := jh hszV; clear h hL hLs hLA hc hSV
 go_enter Tryz.func11, Tryz.ntmps11
 go_upto_region 1 with fail
 obtain ⟨v_1, e1⟩ := je (w.alloc (.cells LA 52)); obtain ⟨VB, hVB⟩ := je (w.heap.size); have HB := jh (show Below w.heap.size w v_1 by rw [e1]; exact ja); have HV := jh (show v_1.heap[VB]? = some (.cells LA 52 (0, 0)) by rw [e1, hVB]; exact heap_alloc_new _ _); rw [← e1, ← hVB]; have HX := jh (HX.out.later HB.out); have WV := jh (show w.heap.size ≤ VB by omega); clear e1 hVB; have hcm := HX.out.mp
 go_upto_region 3 with (first | (go_at_call 28; refine (JC _ hcm).mono ?_; rintro _ v_2 ⟨rfl, hb⟩))
 have HV := jb hb HV; have HX := jh (HX.out.later hb); have HB := jw HB hb; clear hb; clear hcm; refine jB (.take 0 (.take 1 (.take 2 (.take 3 (.take 4 (.take 5 (.take 6 (.take 7 (.take 8 (.take 9 (.take 10 (.take 11 (.take 12 (.step 13 (.take 14 (.take 15 (.take 16 .done))))))))))))))))) (fun w8 => w8.heap[VB]? = some (.cells LA 52 (0, 0)) ∧ BoxAt w8 bx gp gq gg gh n cap nb no mb fb fo fc ep base fa se ks (qW ep C S) f E) (by kernel_rfl) (by kernel_rfl) (fun _ _ _ _ _ h => h) (⟨(((Below.refl _ _).drew : Below v_2.heap.size v_2 v_2.drew).block _ (Array.getElem?_eq_some_iff.1 HV.out).1).trans HV.out, HX.out.later ((Below.refl _ _).drew)⟩) (fun hHeld => ?_); obtain ⟨x1, e1⟩ := je (v_2.drew); rw [← e1]; have hb : Below v_2.heap.size v_2 x1 := by rw [e1]; exact (Below.refl _ _).drew
 clear e1; have HV := jb hb HV; have HX := jh (HX.out.later hb); have HB := jw HB hb; clear hb; refine WT.tk rfl (k := ?_); refine WT.tk (v := .int .u64 ep) rfl (fun w8 hSw => jg (JT (vo_e (show w8.rangeAt VB 0 (jG x.k ep x.v x.n (zz x.s) (C x) (S x)) by have h9 := qc (show w8.heap[VB]? = some (.cells L.toArray 52 (0, 0)) by rw [← HLA.out]; exact hSw.1); rw [HLL.out] at h9; exact h9)))) (k := ?_)
 iterate 3
  refine WT.tk rfl (k := ?_)
 refine WT.tk (v := .int .u64 ep) rfl (fun w8 hSw => jg (JT hSw.2.epo)) (k := ?_); refine WT.tk (v := .bool false) rfl (fun w8 hSw => by simp [go_sem]) (k := ?_)
 iterate 4
  refine WT.tk rfl (k := ?_)
 refine WT.tk (v := .agg SV) rfl (fun w8 hSw => by rw [← HSV.out]; exact jg (Qa hSw.2.set)) (k := ?_); refine WT.tk (v := .agg LA) rfl (fun w8 hSw => jg (jW hSw.1 Tryz.underlying52 rfl HSZ.out)) (k := ?_); refine WT.step rfl (fun K hK => ?_)
 go_simp
 refine (CK.out _ HX.out.keys).mono ?_; rintro _ x2 ⟨rfl, hb⟩; have HV := jb hb HV; have HX := jh (HX.out.later hb); have HB := jw HB hb; clear hb; refine hK.out _ _ (⟨HV.out, HX.out⟩) (fun hHeld => ?_); clear hK K
 try simp only [Act.put, pa, pb, pc]
 iterate 3
  refine WT.tk rfl (k := ?_)
 refine WT.done ?_; clear hHeld; have hrg := qc (show x2.heap[VB]? = some (.cells L.toArray 52 (0, 0)) by rw [← HLA.out]; exact HV.out); rw [HLL.out] at hrg; have HRG := jh hrg; clear hrg
 go_upto_region 5 with fail
 refine wp_region_lit ?_; refine ji (v := .pointer (some ⟨VB, 0, none⟩)) rfl (by kernel_rfl) ?_; refine ji (v := .int .u8 x.k) rfl (jg (loadVk (QJ HRG.out))) ?_; refine ji (v := .pointer (some ⟨VB, 2, none⟩)) rfl (by kernel_rfl) ?_; refine ji (v := .int .u32 x.v) rfl (jg (ZY (ZM HRG.out))) ?_; refine ji (v := .pointer (some ⟨VB, 3, none⟩)) rfl (by kernel_rfl) ?_; refine ji (v := .int .u8 x.n) rfl (jg (load8 (Qg HRG.out))) ?_; refine ji (v := qm x.k x.v x.n) rfl (by kernel_rfl) ?_; simp only [Act.put, pa, pb, pc]; refine jS (v := .pointer (some ⟨x2.heap.size, 0, none⟩)) (w' := x2.alloc (.cells #[.int .u8 0, .int .u32 0, .int .u8 0] 86)) rfl (by kernel_rfl) ?_; simp only [Act.put, pa, pb, pc]; refine jM rfl _ _ _ rfl #[.int .u8 0, .int .u32 0, .int .u8 0] #[.int .u8 (x.k : Int), .int .u32 (x.v : Int), .int .u8 (x.n : Int)] rfl rfl (by kernel_rfl) rfl (by kernel_rfl) ?_; simp only [Act.put, pa, pb, pc]
 go_upto_region 6 with fail
 obtain ⟨y1, e9⟩ := je (x2.alloc (.cells #[.int .u8 (x.k : Int), .int .u32 (x.v : Int), .int .u8 (x.n : Int)] 86)); obtain ⟨PB, h9⟩ := je (x2.heap.size); have hb := jc e9; have HP := jh (show y1.heap[PB]? = some (.cells #[.int .u8 (x.k : Int), .int .u32 (x.v : Int), .int .u8 (x.n : Int)] 86 (0, 0)) by rw [e9, h9]; exact heap_alloc_new _ _); have WP9 := jh (show w.heap.size ≤ PB by rw [h9]; exact HB.out.size); rw [← e9, ← h9]; clear e9 h9; have HV := jb hb HV; have HX := jh (HX.out.later hb); have HB := jw HB hb; clear hb; refine jK [(0, true), (1, true), (2, true), (3, true), (4, true), (5, true), (6, true)] (fun w8 => BoxAt w8 bx gp gq gg gh n cap nb no mb fb fo fc ep base fa se ks (qW ep C S) f E ∧ w8.heap[PB]? = some (.cells #[.int .u8 (x.k : Int), .int .u32 (x.v : Int), .int .u8 (x.n : Int)] 86 (0, 0))) (by kernel_rfl) (by kernel_rfl) (fun _ _ _ _ _ h => h) (⟨HX.out.later ((Below.refl _ _).drew), (((Below.refl _ _).drew : Below y1.heap.size y1 y1.drew).block _ (Array.getElem?_eq_some_iff.1 HP.out).1).trans HP.out⟩) (fun hHeld => ?_)
 iterate 3
  refine WP.tk rfl (k := ?_)
 refine WP.tk (v := .map (some mb)) rfl (fun w8 hSw => jg (loadMp hSw.1.mp)) (k := ?_); refine WP.tk (v := .agg #[.int .u8 (x.k : Int), .int .u32 (x.v : Int), .int .u8 (x.n : Int)]) rfl (fun w8 hSw => jg (jW hSw.2 Tryz.underlying86 rfl (by kernel_rfl))) (k := ?_); refine WP.tk (v := .slice ra rn rc) rfl (fun w8 hSw => by rw [← HRV.out]; exact ZQ rfl Qx Tryz.underlying80 (zeroVs _) rfl hSw.1.map (by kernel_rfl) HKL.out) (k := ?_); refine WP.tk rfl (k := ?_); refine WP.done ?_; clear hHeld; obtain ⟨y2, e1⟩ := je (y1.drew); rw [← e1]; have hb : Below y1.heap.size y1 y2 := by rw [e1]; exact (Below.refl _ _).drew
 clear e1; have HP := jb hb HP; have HV := jb hb HV; have HX := jh (HX.out.later hb); have HB := jw HB hb; clear hb; have hrg := qc (show y2.heap[VB]? = some (.cells L.toArray 52 (0, 0)) by rw [← HLA.out]; exact HV.out); rw [HLL.out] at hrg; have CCx := jh (CC.out VB y2 hrg (OwnV.later HRW.out HB.out)); clear hrg HRG; rw [decide_eq_false hx] at CCx; have HXE := jh hx; clear hx
 go_upto_region 9 with (first | (go_at_call 29; refine CCx.out.mono ?_; rintro _ y3 ⟨rfl, hb⟩))
 have HP := jb hb HP; have HV := jb hb HV; have HX := jh (HX.out.later hb); have HB := jw HB hb; clear hb; obtain ⟨iv, zv, hiv, hzv, hv1, hv2, hv3⟩ := Qs; have HI2 := jh hiv; have HZ := jh hzv; have HZ1 := jh hv1; have HZ2 := jh hv2; have HZ3 := jh hv3; clear hiv hzv hv1 hv2 hv3; refine jB (.take 0 (.take 1 (.take 2 (.take 3 (.take 4 (.take 5 (.take 6 (.step 7 (.step 8 (.step 9 .done)))))))))) (fun w8 => w8.cell? ⟨bx, 20, none⟩ = some (.map (some mb)) ∧ w8.heap[PB]? = some (.cells #[.int .u8 (x.k : Int), .int .u32 (x.v : Int), .int .u8 (x.n : Int)] 86 (0, 0)) ∧ w8.heap[VB]? = some (.cells LA 52 (0, 0)) ∧ w8.cell? ⟨bx, 21, none⟩ = some (.slice (some ⟨fb, fo, none⟩) n fc)) (by kernel_rfl) (by kernel_rfl) (fun _ _ _ _ _ h => h) (⟨HX.out.mp, (((Below.refl _ _).drew : Below y3.heap.size y3 y3.drew).block _ (Array.getElem?_eq_some_iff.1 HP.out).1).trans HP.out, (((Below.refl _ _).drew : Below y3.heap.size y3 y3.drew).block _ (Array.getElem?_eq_some_iff.1 HV.out).1).trans HV.out, HX.out.fr⟩) (fun hHeld => ?_); obtain ⟨y4, e1⟩ := je (y3.drew); rw [← e1]; have hb : Below y3.heap.size y3 y4 := by rw [e1]; exact (Below.refl _ _).drew
 clear e1; have HP := jb hb HP; have HV := jb hb HV; have HX := jh (HX.out.later hb); have HB := jw HB hb; clear hb
 iterate 3
  refine WT.tk rfl (k := ?_)
 refine WT.tk (v := .map (some mb)) rfl (fun w8 hSw => jg (loadMp hSw.1)) (k := ?_); refine WT.tk (v := .agg #[.int .u8 (x.k : Int), .int .u32 (x.v : Int), .int .u8 (x.n : Int)]) rfl (fun w8 hSw => jg (jW hSw.2.1 Tryz.underlying86 rfl (by kernel_rfl))) (k := ?_); refine WT.tk rfl (k := ?_); refine WT.tk (v := .agg LA) rfl (fun w8 hSw => jg (jW hSw.2.2.1 Tryz.underlying52 rfl HSZ.out)) (k := ?_); refine WT.step rfl (fun K hK => ?_); refine qX (v := .slice (some ⟨y4.heap.size, 0, none⟩) 1 1) (w' := y4.alloc (.cells L.toArray 52)) (by rfl) (Jz HLS.out rfl (by rw [← HLA.out]; rfl)) ?_; obtain ⟨wa, e9⟩ := je (y4.alloc (.cells L.toArray 52)); obtain ⟨AB, h9⟩ := je (y4.heap.size); have hb := jc e9; have HA := jh (show wa.heap[AB]? = some (.cells L.toArray 52 (0, 0)) by rw [e9, h9]; exact heap_alloc_new _ _); rw [← e9, ← h9]; clear e9 h9; have HP := jb hb HP; have HV := jb hb HV; have HX := jh (HX.out.later hb); have HB := jw HB hb; clear hb; refine hK.out _ _ (⟨HX.out.mp, HP.out, HV.out, HX.out.fr⟩) (fun hHeld => ?_); clear hK K
 try simp only [Act.put, pa, pb, pc]
 refine WT.step rfl (fun K hK => ?_); refine Zv rfl _ _ 41 rfl base 52 iv zv 44 iv.bytes Tryz.underlying41 HI2.out HZ.out HZ1.out rfl HZ3.out (.slice ra rn rc) rn _ rfl (OwnV.later HRW.out HB.out) _ 1 L rfl (src_v HA.out HLS.out H1L.out) (by unfold maxLen; omega) (by have h2 := HZ2.out; have h3 : (rn + 1) * iv.bytes ≤ 1001 * 1000 := Nat.mul_le_mul (by omega) h2; omega) (Nat.le_trans HBB.out HB.out.size) ?_; intro v3 wb ho3 hg3 hl3; have hne3 : ∀ q, (q < base ∨ w.heap.size ≤ q) → some q ≠ (Value.slice ra rn rc).ownBlock := fun q hq e => by have := HRL.out q e.symm; omega
 have HP := jh (qN HP.out hg3 (hne3 _ (.inr WP9.out))); have HV := jh (qN HV.out hg3 (hne3 _ (.inr WV.out))); have HMP := jh (jA HX.out.mp hg3 (hne3 _ (.inl HMB.out.1))); have HFR := jh (jA HX.out.fr hg3 (hne3 _ (.inl HMB.out.1))); have HMF := jh (HX.out.map.block (hg3.block mb (Nat.lt_of_lt_of_le HX.out.lt.2.2.1 HX.out.bs) (hne3 _ (.inl HMB.out.2.2.1)))); have HFA := jh (OwnV.block HX.out.far (fun g hg => by cases hg; exact hg3.block fb (Nat.lt_of_lt_of_le HX.out.lt.2.2.2 HX.out.bs) (hne3 _ (.inl HMB.out.2.2.2)))); have HO3 := jh ho3; have HG3 := jh hg3; have HL3 := jh hl3; clear ho3 hg3 hl3 hne3; refine hK.out _ _ (⟨HMP.out, HP.out, HV.out, HFR.out⟩) (fun hHeld => ?_); clear hK K
 try simp only [Act.put, pa, pb, pc]
 refine WT.step rfl (fun K hK => ?_); refine step_mapset (by rfl) _ _ _ 80 rfl 86 41 Qx Tryz.underlying80 mb f rfl HMF.out (qm x.k x.v x.n) v3 kl (by kernel_rfl) (by kernel_rfl) HKL.out ?_; intro wc hmap hg4; have hneP : mb ≠ PB ∧ mb ≠ VB ∧ mb ≠ bx ∧ fb ≠ mb := by have h1 := HMB.out; have h2 := HBB.out; have h3 := WP9.out; have h4 := WV.out; have h5 := HX.out.ne; omega
 have HP := jh (qN HP.out hg4 (fun e => hneP.1 (by injection e with e; exact e.symm))); have HV := jh (qN HV.out hg4 (fun e => hneP.2.1 (by injection e with e; exact e.symm))); have HMP := jh (jA HMP.out hg4 (fun e => hneP.2.2.1 (by injection e with e; exact e.symm))); have HFR := jh (jA HFR.out hg4 (fun e => hneP.2.2.1 (by injection e with e; exact e.symm))); have HFA := jh (OwnV.block HFA.out (fun g hg => by cases hg; exact hg4.block fb (HFA.out.lt _ rfl).2 (fun e => hneP.2.2.2 (by injection e)))); have HM4 := jh hmap; have HG4 := jh hg4; clear hmap hg4 hneP; refine hK.out _ _ (⟨HMP.out, HP.out, HV.out, HFR.out⟩) (fun hHeld => ?_); clear hK K
 try simp only [Act.put, pa, pb, pc]
 refine WT.done ?_; clear hHeld; have E9 := jh (show IntKind.u8.wrap ((x.n : Int) - 1) = (i : Int) by rw [HI.out, show (((i + 1 : Nat) : Int) - 1) = (i : Int) by omega]; have := HIN.out; have := HN7.out; simp [IntKind.wrap, IntKind.bits, IntKind.signed]; omega); have E64 := jh (show IntKind.i64.wrap (x.v : Int) = (x.v : Int) by have := HXV.out; simp [IntKind.wrap, IntKind.bits, IntKind.signed]; omega); have hiI : (i : Int) < (n : Int) := by have := HIN.out; omega
 obtain ⟨F9, hF9⟩ := je (Bal.farOf E x.n); have HC := jh (show wc.cell? ⟨fb, fo + i, none⟩ = some (.int .i64 F9) by rw [hF9, HI.out]; exact OwnV.cell9 HFA.out (farL_get HIN.out)); have HF9 := jh hF9; clear hF9; obtain ⟨M, hM⟩ := je ((if (x.v : Int) > F9 then (x.v : Int) else F9)); have HM := jh hM; clear hM
 go_upto_region 10 with fail
 refine jB (.take 0 (.take 1 (.take 2 (.take 3 (.take 4 (.take 5 (.take 6 (.take 7 (.take 8 (.take 9 (.take 10 (.take 11 (.take 12 (.take 13 (.take 14 (.take 16 (.take 17 (.take 18 (.step 15 (.take 19 (.take 20 (.step 21 .done)))))))))))))))))))))) (fun w8 => w8.cell? ⟨bx, 21, none⟩ = some (.slice (some ⟨fb, fo, none⟩) n fc) ∧ w8.heap[VB]? = some (.cells LA 52 (0, 0))) (by kernel_rfl) (by kernel_rfl) (fun _ _ _ _ _ h => h) (⟨HFR.out, (((Below.refl _ _).drew : Below wc.heap.size wc wc.drew).block _ (Array.getElem?_eq_some_iff.1 HV.out).1).trans HV.out⟩) (fun hHeld => ?_); obtain ⟨y5, e1⟩ := je (wc.drew); have hb : Below wc.heap.size wc y5 := by rw [e1]; exact (Below.refl _ _).drew
 have HB5 := jh hb; have HC5 := jh (jj HC.out hb); have HFR5 := jh (jj HFR.out hb); have HV5 := jb hb HV; have HFA5 := jh (OwnV.later HFA.out hb); rw [← e1]; clear e1 hb
 iterate 2
  refine WT.tk rfl (k := ?_); refine WT.tk rfl (k := ?_); refine WT.tk rfl (k := ?_); refine WT.tk (v := .slice (some ⟨fb, fo, none⟩) n fc) rfl (fun w8 hSw => jg (loadFs hSw.1)) (k := ?_); refine WT.tk rfl (k := ?_); refine WT.tk (v := .int .u8 x.n) rfl (fun w8 hSw => jg (load8 (Qg (show w8.rangeAt VB 0 (jG x.k ep x.v x.n (zz x.s) (C x) (S x)) by have h9 := qc (show w8.heap[VB]? = some (.cells L.toArray 52 (0, 0)) by rw [← HLA.out]; exact hSw.2); rw [HLL.out] at h9; exact h9)))) (k := ?_); refine WT.tk (v := .int .u8 i) rfl (fun w8 hSw => by have e9 := E9.out; simp [go_sem, e9]) (k := ?_)
 refine WT.tk (v := .pointer (some ⟨fb, fo + i, none⟩)) rfl (fun w8 hSw => by simp [go_sem, hiI]) (k := ?_); refine WT.tk rfl (k := ?_); refine WT.tk (v := .int .u32 x.v) rfl (fun w8 hSw => jg (ZY (ZM (show w8.rangeAt VB 0 (jG x.k ep x.v x.n (zz x.s) (C x) (S x)) by have h9 := qc (show w8.heap[VB]? = some (.cells L.toArray 52 (0, 0)) by rw [← HLA.out]; exact hSw.2); rw [HLL.out] at h9; exact h9)))) (k := ?_); refine WT.tk (v := .int .i64 x.v) rfl (fun w8 hSw => by have e9 := E64.out; simp [go_sem, e9]) (k := ?_); refine WT.step rfl (fun K hK => ?_); refine zT (v := .int .i64 F9) (by rfl) (jg (loadI64 HC5.out)) ?_; refine hK.out _ _ (⟨HFR5.out, HV5.out⟩) (fun hHeld => ?_); clear hK K
 try simp only [Act.put, pa, pb, pc]
 refine WT.tk (v := .int .i64 M) rfl (fun w8 hSw => by rw [HM.out]; simp [go_sem]; split <;> omega) (k := ?_); refine WT.tk (v := .pointer (some ⟨fb, fo + i, none⟩)) rfl (fun w8 hSw => by simp [go_sem, hiI]) (k := ?_); refine WT.step rfl (fun K hK => ?_); have c0 := HC5.out; have g0 := OwnV.thaw9 HFA5.out (fo + i)
 go_simp
 clear c0 g0; have HFA6 := jh (far_put HI.out HFA5.out); rw [← HF9.out, ← HM.out] at HFA6; have HG6 := jh (Jf y5 fb (fo + i) (.int .i64 M)); obtain ⟨wd, e9⟩ := je (y5.setCell ⟨fb, fo + i, none⟩ (.int .i64 M)); rw [← e9] at HFA6 HG6 ⊢; clear e9; have hn6 : fb ≠ bx ∧ fb ≠ VB := by have h1 := HMB.out; have h2 := HBB.out; have h4 := WV.out; have h5 := HX.out.ne; omega
 refine hK.out _ _ (⟨jA HFR5.out HG6.out (fun e => hn6.1 (by injection e with e; exact e.symm)), qN HV5.out HG6.out (fun e => hn6.2 (by injection e with e; exact e.symm))⟩) (fun hHeld => ?_); clear hK K
 try simp only [Act.put, pa, pb, pc]
 refine WT.done ?_; clear hHeld hn6
 by_cases hr0 : rn = 0
 ·have hrI0 : ¬ (0 : Int) < (rn : Int) := by omega
  have hw9 := HX.out.put x HXE.out (by rw [← HRN.out]; simpa only [HLL.out] using HO3.out) (by rw [HRV.out]; exact HG3.out) (by rw [HRV.out, ← HRN.out]; exact HL3.out) HM4.out HG4.out HFA6.out (Zy HB5.out HG6.out); obtain ⟨f2, q1, q2, q3⟩ := hw9; have Q1 := jh q1; have Q2 := jh q2; have Q3 := jh q3; have HR0 := jh hr0; clear q1 q2 q3
  go_wp2_with fail
  go_ret2
  have hr0 := HR0.out; rw [HRN.out] at hr0; refine ⟨?_, f2, Q1.out, Turn.after HB.out Q2.out, fun g hg => ?_⟩
  ·rw [HB9.out, HI9.out]
   simp [hr0]
  ·rcases Q3.out g hg with h9 | h9
   ·exact .inl h9
   ·exact .inr (Nat.le_trans HB.out.size h9)
 ·have hrI0 : (0 : Int) < (rn : Int) := by omega
  have hw9 := HX.out.put x HXE.out (by rw [← HRN.out]; simpa only [HLL.out] using HO3.out) (by rw [HRV.out]; exact HG3.out) (by rw [HRV.out, ← HRN.out]; exact HL3.out) HM4.out HG4.out HFA6.out (Zy HB5.out HG6.out); obtain ⟨f2, q1, q2, q3⟩ := hw9; have Q1 := jh q1; have Q2 := jh q2; have Q3 := jh q3; have HR0 := jh hr0; clear q1 q2 q3
  go_wp2_with fail
  go_ret2
  have hr0 := HR0.out; rw [HRN.out] at hr0; refine ⟨?_, f2, Q1.out, Turn.after HB.out Q2.out, fun g hg => ?_⟩
  ·rw [HB9.out, HI9.out]
   simp [hr0]
  ·rcases Q3.out g hg with h9 | h9
   ·exact .inl h9
   ·exact .inr (Nat.le_trans HB.out.size h9)
theorem BFull_nil (k v : Nat) (T : Array Value) (hT : T.size = 32) (w : World) :
  Calls Tryz.prog 19 #[.pointer none, .int .u8 k, .int .u32 v, .agg T] w fun r w' => r = .returned (.bool false) ∧ Below w.heap.size w w' := by
 have hszT : (Tryz.prog.info? 48).map (·.size) = some T.size := by rw [qC, hT]
 have CT := jh (fun (W : World) => Zg W)
 go_enter Tryz.func19, Tryz.ntmps19
 go_upto_region 1 with fail
 obtain ⟨v_1, e1⟩ := je (w.alloc (.cells T 48)); have HB := jh (show Below w.heap.size w v_1 by rw [e1]; exact ja); rw [← e1]; clear e1; refine jK [(0, true), (1, false), (2, true), (3, true), (4, true), (5, true), (6, true), (9, true), (10, true), (11, true), (12, true), (13, true), (14, true), (15, true), (16, true), (17, true), (18, true), (19, true), (7, false), (8, true), (20, false), (21, true), (22, true), (23, true)] (fun w8 => True) (by kernel_rfl) (by kernel_rfl) (fun _ _ _ _ _ h => h) (trivial) (fun hHeld => ?_); refine WP.tk rfl (k := ?_); refine WP.step rfl (fun K hK => ?_)
 go_simp
 refine (CT.out _).mono ?_; rintro _ x2 ⟨rfl, rfl⟩; refine hK.out _ _ (trivial) (fun hHeld => ?_); clear hK K
 try simp only [Act.put, pa, pb, pc]
 refine WP.tk rfl (k := ?_)
 iterate 15
  refine WP.tu rfl (k := ?_)
 iterate 2
  refine WP.step rfl (fun K hK => ?_); refine qD (by rfl) ?_; refine hK.out _ _ (hHeld) (fun hHeld => ?_); clear hK K
  try simp only [Act.put, pa, pb, pc]
  refine WP.tu rfl (k := ?_)
 iterate 2
  refine WP.tk rfl (k := ?_)
 refine WP.done ?_; clear hHeld
 go_wp2_with fail
 go_ret
 exact ⟨rfl, HB.out.drew⟩
theorem idx8 {kb ko n kc i : Nat} {o : Oper} {ev : Operand → Value} {w : World} (h : i < n) (ho : o.op = .indexAddr 27 (.tmp 53) (.tmp 56) := by rfl) (hx : ev (.tmp 53) = .slice (some ⟨kb, ko, none⟩) n kc := by rfl) (hy : ev (.tmp 56) = .int .u8 i := by rfl) : (execOp ev o).run Tryz.prog w = .ok (.value (.pointer (some ⟨kb, ko + i * 8, none⟩))) w := by
 have h8 : (i : Int) < (n : Int) := by omega
 unfold execOp; simp only [ho, hx, hy]
 simp [go_sem, h8]
theorem loadB9 {w : World} {b o : Nat} {v : Value} (h : w.cell? ⟨b, o, none⟩ = some v) : (Instr.loadAt 4 (.pointer (some ⟨b, o, none⟩))).run Tryz.prog w = .ok v w := by
 simp [go_sem, h]
theorem lvotes_any {gp gq gg gh g0 lg n cap kb ko kc nb no ep lc m : Nat} {al : Option Addr} {fa se : Int} {sk ks : List (Nat × Nat)} {l : List Ch} (hm : Jh gp gg) (hgp : gp < jk) (hgg : gg < jk) (hq1 : 1 < gq) (hq : gq < jk) (hsk : ∀ k ∈ sk, k.1 ≠ 0 ∧ k.1 < gq) (hn : n = sk.length) (hn0 : 0 < n) (hn7 : n ≤ 7) (hml : m = l.length) (hm40 : m ≤ 40)
  (hch : ∀ c ∈ l, c.node < 256 ∧ c.set < 256 ∧ c.view < 256) (w : World) (hk : KeysAt w kb ko sk) (hc : 0 < m → ∃ lb lo, al = some ⟨lb, lo, none⟩ ∧ ChAt w lb lo l) :
  Calls Tryz.prog 10 #[zG gp gq gg g0 lg fa se (.slice (some ⟨kb, ko, none⟩) n kc), qg gp gq gg gh fa se (.slice (some ⟨nb, no, none⟩) n cap), .int .u64 ep, .slice al m lc] w fun r w' => ∃ u, r = .returned u ∧ OwnV w' w.heap.size 52 44 u m ((l.map (bvOf n)).flatMap (vvS gp gq gg ep sk)) ∧ Below w.heap.size w w' := by
 have CS := jh (fun (x : Bal.Bv) (k : Nat × Nat) (hk9 : k ∈ sk) (h1 : x.k < 256) (h2 : x.v < 4294967296) (h3 : x.n < 256) (h4 : x.s < 256) (W : World) => by
  have h9 := BSign_any (gh := gh) (fa := fa) (se := se) (nodes := .slice (some ⟨nb, no, none⟩) n cap) (secret := k.1) (k := x.k) (e := ep) (v := x.v) (n := x.n) (c := 0) (s := 0) (h := zz x.s) rfl hm hgp hgg hq1 hq (hsk k hk9).1 (hsk k hk9).2 (jC _) (hsL_bytes h4) h1 h2 h3 W
  exact h9)
 have CF := jh (fun (y : Nat) (h9 : y < 256) (W : World) => set_any h9 W); have HCH := jh hch; have HK := jh hk; have HC := jh hc; have HML := jh hml; have HN := jh hn; have H0 := jh hn0; have H7 := jh hn7; have H40 := jh hm40; obtain ⟨iv, zv, hiv, hzv, hv1, hv2, hv3⟩ := Qs; have HI2 := jh hiv; have HZ := jh hzv; have HZ1 := jh hv1; have HZ2 := jh hv2; have HZ3 := jh hv3; have hmI : (m : Int) ≤ 40 := by omega
 clear hiv hzv hv1 hv2 hv3 hm hgp hgg hq1 hq hsk hn hn0 hn7 hml hm40 hch hk hc; obtain ⟨SV, hSV⟩ : ∃ SV, qg gp gq gg gh fa se (.slice (some ⟨nb, no, none⟩) n cap) = .agg SV := ⟨_, rfl⟩; have hszS : (Tryz.prog.info? 33).map (·.size) = some SV.size := by rw [qR, qI hSV]
 obtain ⟨ZV, hZV⟩ : ∃ ZV, zG gp gq gg g0 lg fa se (.slice (some ⟨kb, ko, none⟩) n kc) = .agg ZV := ⟨_, rfl⟩; have hszZ : (Tryz.prog.info? 29).map (·.size) = some ZV.size := by rw [info_c9]; have e9 := hZV; unfold zG at e9; injection e9 with e9; rw [← e9]; rfl
 have hZ22 : ZV[22]? = some (.slice (some ⟨kb, ko, none⟩) n kc) := by have e9 := hZV; unfold zG at e9; injection e9 with e9; rw [← e9]; rfl
 have FS := jh (show ∀ W : World, SAt (W.alloc (.cells SV 33)) W.heap.size gp gq gg gh fa se (.slice (some ⟨nb, no, none⟩) n cap) by intro W; have e9 := hSV; unfold qg at e9; injection e9 with e9; rw [← e9]; exact SAt.new _ _ _ _ _ _ _ _ _); have HSV := jh hSV; have H22 := jh hZ22; rw [hSV] at CS; rw [hSV, hZV]; clear hSV hZV hZ22
 go_enter Tryz.func10, Tryz.ntmps10
 go_upto_region 1 with fail
 obtain ⟨v_0, e0⟩ := je (w.alloc (.cells ZV 29)); obtain ⟨v_1, e1⟩ := je (v_0.alloc (.cells SV 33)); have s0 : v_0.heap.size = w.heap.size + 1 := by rw [e0]; simp
 have b0 := jc e0; have b1 := jc e1; have f0 : v_0.cell? ⟨w.heap.size, 22, none⟩ = some (.slice (some ⟨kb, ko, none⟩) n kc) := by rw [e0, cell_of_row _ _ _ _ _ _ (heap_alloc_new _ _)]; exact H22.out
 have f1 : SAt v_1 (w.heap.size + 1) gp gq gg gh fa se (.slice (some ⟨nb, no, none⟩) n cap) := by rw [← s0, e1]; exact FS.out _
 rw [← e0, ← e1]; obtain ⟨CB, hCB⟩ := je (w.heap.size); rw [← hCB] at f0 f1 ⊢; obtain ⟨SB, hSB⟩ := je (CB + 1); rw [← hSB] at f1 ⊢; have HCB := jh (jj f0 b1); have HS := jh f1; have HB := jh (jm b0 b1); have HK := jh (HK.out.later HB.out); have HC := jh (fun (h9 : 0 < m) => show ∃ lb lo, al = some ⟨lb, lo, none⟩ ∧ ChAt v_1 lb lo l by obtain ⟨lb, lo, h1, h2⟩ := HC.out h9; exact ⟨lb, lo, h1, h2.later HB.out⟩); clear e0 e1 s0 b0 b1 f0 f1 hCB hSB FS hszS hszZ
 go_wp2_with fail
 go_loopw [9, 10] (fun o i wr => ∃ j : Nat, j ≤ m ∧ i = .int .i64 j ∧ Hid (OwnV wr v_1.heap.size 52 44 o j (((l.take j).map (bvOf n)).flatMap (vvS gp gq gg ep sk))) ∧ Hid (Below v_1.heap.size v_1 wr)) (fun _ i _ => m - (intOf i).toNat)
 case atStart => exact ⟨0, Nat.zero_le _, rfl, jh ⟨rfl, .inl ⟨rfl, rfl⟩⟩, jh (Below.refl _ _)⟩
 case round =>
  obtain ⟨j, hj, rfl, HO, HW⟩ := hrel; obtain ⟨a0, c0, rfl⟩ := HO.out.shape9
  by_cases hlt : j < m
  ·obtain ⟨lb, lo, rfl, hca⟩ := HC.out (by omega); have HCA := jh hca; clear hca; have hltI : (j : Int) < (m : Int) := by omega
   have hjI : (0 : Int) ≤ (j : Int) := by omega
   obtain ⟨ch, hch⟩ : ∃ c, l[j]? = some c := ⟨_, List.getElem?_eq_getElem (by have := HML.out; omega)⟩; obtain ⟨hc1, hc2, hc3⟩ := HCH.out _ (List.mem_of_getElem? hch); obtain ⟨nd0, st0, sc, vw⟩ := ch; dsimp only at hc1 hc2 hc3; obtain ⟨i, hi⟩ := je (nd0 % n); obtain ⟨y, hy⟩ := je (st0 % 4); have hin : i < n := by rw [hi]; exact Nat.mod_lt _ H0.out
   have hn7 := H7.out; have E1 := jh (show IntKind.u32.wrap (vw : Int) = (vw : Int) by simp [IntKind.wrap, IntKind.bits, IntKind.signed]; omega); have E2 := jh (show IntKind.u8.wrap (n : Int) = (n : Int) by simp [IntKind.wrap, IntKind.bits, IntKind.signed]; omega); have E3 := jh (show (nd0 : Int).tmod (n : Int) = (i : Int) by rw [hi]; rfl); have E4 := jh (show IntKind.u8.wrap (1 + (i : Int)) = ((i + 1 : Nat) : Int) by simp [IntKind.wrap, IntKind.bits, IntKind.signed]; omega); have E5 := jh (show IntKind.u8.wrap (((i + 1 : Nat) : Int) - 1) = (i : Int) by simp [IntKind.wrap, IntKind.bits, IntKind.signed]; omega); have E6 := jh (show ¬ n = 0 by have := H0.out; omega); have E7 := jh (show IntKind.u8.wrap (i : Int) = (i : Int) by simp [IntKind.wrap, IntKind.bits, IntKind.signed]; omega); have HIN := jh hin; have CFx := jh (fun (W : World) => by have h9 := CF.out st0 hc2 W; rewrite [← hy] at h9; exact h9); obtain ⟨⟨sk1, sk2⟩, hx⟩ : ∃ x, sk[i]? = some x := ⟨_, List.getElem?_eq_getElem (by have := HN.out; omega)⟩; obtain ⟨bv, hbv⟩ : ∃ bv : Bal.Bv, bv = ⟨if sc then 2 else 1, vw, i + 1, y⟩ := ⟨_, rfl⟩; have hbv2 : bv = bvOf n ⟨nd0, st0, sc, vw⟩ := by rw [hbv, hi, hy]; rfl
   have CSx := jh (fun (W : World) => by have h9 := CS.out bv (sk1, sk2) (List.mem_of_getElem? hx) (by rw [hbv]; dsimp only; split <;> omega) (by rw [hbv]; dsimp only; omega) (by rw [hbv]; dsimp only; omega) (by rw [hbv]; dsimp only; omega) W; dsimp only at h9; unfold jo words at h9; exact h9); have hK9 : sgK sk bv = sk1 := by rw [hbv]; simp [sgK, List.getD_eq_getElem?_getD, hx]
   obtain ⟨L, hL⟩ := je (vvS gp gq gg ep sk bv); have hLs : L.length = 44 := by rw [hL]; exact jV _ _ _ _
   have h1L : ∀ u ∈ L, u.oneCell' = true := by rw [hL]; exact QL _ _ _ _
   have hszL : (Tryz.prog.info? 52).map (·.size) = some L.toArray.size := by rw [jJ]; simp [hLs]
   have hres : qv bv.k ep bv.v bv.n (zz bv.s) (sgC gp gq gg ep sk bv) (sgS gp gq gg ep sk bv) = .agg L.toArray := by rw [hL]; rfl
   unfold sgC sgS at hres; rw [hK9] at hres; rw [hres] at CSx; clear hK9; have HLL := jh hL; have HLS := jh hLs; have H1L := jh h1L; have HSZL := jh hszL; have HBV := jh hbv; have HBV2 := jh hbv2; have HCH9 := jh hch; have HKx := jh (show NumO wr kb (ko + i * 8) sk1 from fun q hq => jj ((HK.out i _ hx).1 q hq) HW.out); have hCC := HCA.out j _ hch; dsimp only at hCC; have HQ0 := jh (jj hCC.1 HW.out); have HQ1 := jh (jj hCC.2.1 HW.out); have HQ2 := jh (jj hCC.2.2.1 HW.out); have HQ3 := jh (jj hCC.2.2.2 HW.out); have HSr := jh (HS.out.later HW.out); have HCBr := jh (jj HCB.out HW.out); have HLT := jh hlt; obtain ⟨V1, hV1⟩ := je ((jG 1 ep vw (i + 1) (zz y) 0 0).toArray); obtain ⟨V2, hV2⟩ := je ((jG 2 ep vw (i + 1) (zz y) 0 0).toArray); have hV12 : V1.setIfInBounds 0 (.int .u8 2) = V2 := by rw [hV1, hV2]; rfl
   have HV12 := jh hV12; have HV1 := jh hV1; have HV2 := jh hV2; have hs1 : V1.size = 44 := by rw [hV1]; simp [jD (jC y)]
   have hs2 : V2.size = 44 := by rw [hV2]; simp [jD (jC y)]
   have HS1 := jh hs1; have HS2 := jh hs2; have HA1 := jh (show V1.all (·.oneCell') = true by rw [hV1]; exact all_oneCell_toArray (Ze _ _ _ _ _ _ _)); clear hV1 hV2 hV12 hs1 hs2; clear hch hc1 hc2 hc3 hi hy hin hn7 hx hbv hbv2 hL hLs h1L hszL hres hCC hlt
   go_upto_region 5 with fail
   refine jB (.take 0 (.take 1 (.take 2 (.take 3 (.take 4 (.take 5 (.take 6 (.take 7 (.take 8 (.take 9 (.take 10 (.take 11 (.take 12 (.take 13 (.take 14 (.take 15 (.take 16 (.take 17 (.take 18 (.take 19 (.take 20 (.take 21 (.take 22 (.fork 23 (.take 24 (.step 25 (.step 26 .done))) 25 (.step 23 (.take 24 (.step 26 .done))))))))))))))))))))))))))) (fun w8 => SAt w8 SB gp gq gg gh fa se (.slice (some ⟨nb, no, none⟩) n cap) ∧ w8.cell? ⟨lb, lo + j * 4, none⟩ = some (.int .u8 nd0) ∧ w8.cell? ⟨lb, lo + j * 4 + 1, none⟩ = some (.int .u8 st0) ∧ w8.cell? ⟨lb, lo + j * 4 + 3, none⟩ = some (.int .u8 vw)) (by kernel_rfl) (by kernel_rfl) (fun _ _ _ _ _ h => h) (⟨HSr.out.later ((Below.refl _ _).drew), jj HQ0.out ((Below.refl _ _).drew), jj HQ1.out ((Below.refl _ _).drew), jj HQ3.out ((Below.refl _ _).drew)⟩) (fun hHeld => ?_); obtain ⟨x1, e1⟩ := je (wr.drew); rw [← e1]; have hb : Below wr.heap.size wr x1 := by rw [e1]; exact (Below.refl _ _).drew
   have HKx := jh (NumO.later hb HKx.out); have HO := jh (OwnV.later HO.out hb); have HQ0 := jh (jj HQ0.out hb); have HQ1 := jh (jj HQ1.out hb); have HQ2 := jh (jj HQ2.out hb); have HQ3 := jh (jj HQ3.out hb); have HSr := jh (HSr.out.later hb); have HCBr := jh (jj HCBr.out hb); have HW := jw HW hb; clear hb e1
   iterate 3
    refine WT.tk rfl (k := ?_)
   refine WT.tk (v := .pointer (some ⟨lb, lo + j * 4, none⟩)) rfl (fun w8 hSw => by simp [go_sem, hltI, hjI]) (k := ?_); refine WT.tk (v := .pointer (some ⟨lb, lo + j * 4 + 3, none⟩)) rfl (fun w8 hSw => by simp [go_sem]) (k := ?_); refine WT.tk (v := .int .u8 vw) rfl (fun w8 hSw => jg (Ji hSw.2.2.2)) (k := ?_); refine WT.tk (v := .int .u32 vw) rfl (fun w8 hSw => by have e9 := E1.out; simp [go_sem, e9]) (k := ?_)
   iterate 2
    refine WT.tk rfl (k := ?_)
   refine WT.tk (v := .pointer (some ⟨lb, lo + j * 4, none⟩)) rfl (fun w8 hSw => by simp [go_sem, hltI, hjI]) (k := ?_); refine WT.tk (v := .pointer (some ⟨lb, lo + j * 4, none⟩)) rfl (fun w8 hSw => by simp [go_sem]) (k := ?_); refine WT.tk (v := .int .u8 nd0) rfl (fun w8 hSw => jg (Ji hSw.2.1)) (k := ?_); refine WT.tk rfl (k := ?_); refine WT.tk (v := .slice (some ⟨nb, no, none⟩) n cap) rfl (fun w8 hSw => jg (JZ hSw.1.nd)) (k := ?_); refine WT.tk (v := .int .i64 n) rfl (fun w8 hSw => by simp [go_sem]) (k := ?_); refine WT.tk (v := .int .u8 n) rfl (fun w8 hSw => by have e9 := E2.out; simp [go_sem, e9]) (k := ?_); refine WT.tk (v := .int .u8 i) rfl (fun w8 hSw => by have e9 := E3.out; have e8 := E6.out; have e7 := E7.out; simp [go_sem, e9, e8, e7]) (k := ?_); refine WT.tk (v := .int .u8 ((i + 1 : Nat) : Int)) rfl (fun w8 hSw => by have e9 := E4.out; simp [go_sem, e9]) (k := ?_)
   iterate 2
    refine WT.tk rfl (k := ?_)
   refine WT.tk (v := .pointer (some ⟨lb, lo + j * 4, none⟩)) rfl (fun w8 hSw => by simp [go_sem, hltI, hjI]) (k := ?_); refine WT.tk (v := .pointer (some ⟨lb, lo + j * 4 + 1, none⟩)) rfl (fun w8 hSw => by simp [go_sem]) (k := ?_); refine WT.tk (v := .int .u8 st0) rfl (fun w8 hSw => jg (Ji hSw.2.2.1)) (k := ?_); refine WT.fork rfl rfl (fun K hK => ?_) (fun K hK => ?_); rotate_left
   focus
    refine qX (v := .pointer (some ⟨x1.heap.size, 0, none⟩)) (w' := x1.alloc (.cells zm 52)) (by rfl) (by kernel_rfl) ?_; obtain ⟨x2, e9⟩ := je (x1.alloc (.cells zm 52)); obtain ⟨VB, h9⟩ := je (x1.heap.size); have hb := jc e9; have HV := jh (show x2.heap[VB]? = some (.cells zm 52 (0, 0)) by rw [e9, h9]; exact heap_alloc_new _ _); have LVB := jh (show VB < x2.heap.size by rw [e9, h9]; simp); have WVB := jh (show x1.heap.size = VB from h9.symm); have NV := jh (show SB < VB ∧ lb < VB ∧ kb < VB ∧ CB < VB ∧ v_1.heap.size ≤ VB by have a1 := HSr.out.lt; have a2 : lb < x1.heap.size := World.block_lt_of_cell? (a := ⟨lb, _, none⟩) _ HQ0.out; have a3 := HKx.out.lt; have a4 : CB < x1.heap.size := World.block_lt_of_cell? (a := ⟨CB, 22, none⟩) _ HCBr.out; have a5 := HW.out.size; omega); have NO := jh (fun (g : Nat) (hg : (Value.slice a0 j c0).ownBlock = some g) => show g < VB by have h9 := (HO.out.lt g hg).2; omega); rw [← e9, ← h9]; clear e9 h9; have HKx := jh (NumO.later hb HKx.out); have HO := jh (OwnV.later HO.out hb); have HQ0 := jh (jj HQ0.out hb); have HQ1 := jh (jj HQ1.out hb); have HQ2 := jh (jj HQ2.out hb); have HQ3 := jh (jj HQ3.out hb); have HSr := jh (HSr.out.later hb); have HCBr := jh (jj HCBr.out hb); have HW := jw HW hb; clear hb; refine hK.out _ _ (⟨HSr.out, HQ0.out, HQ1.out, HQ3.out⟩) (fun hHeld => ?_); clear hK K
    try simp only [Act.put, pa, pb, pc]
    refine WT.step rfl (fun K hK => ?_)
    go_simp
    refine (CFx.out _).mono ?_; rintro _ x3 ⟨rfl, hb⟩; have HKx := jh (NumO.later hb HKx.out); have HO := jh (OwnV.later HO.out hb); have HQ0 := jh (jj HQ0.out hb); have HQ1 := jh (jj HQ1.out hb); have HQ2 := jh (jj HQ2.out hb); have HQ3 := jh (jj HQ3.out hb); have HSr := jh (HSr.out.later hb); have HCBr := jh (jj HCBr.out hb); have HW := jw HW hb; have HV := jb hb HV; clear hb; refine hK.out _ _ (⟨HSr.out, HQ0.out, HQ1.out, HQ3.out⟩) (fun hHeld => ?_); clear hK K
    try simp only [Act.put, pa, pb, pc]
    refine WT.tk (v := .agg V1) rfl (fun w8 hSw => by rw [HV1.out]; kernel_rfl) (k := ?_); refine WT.step rfl (fun K hK => ?_); refine zt (by rfl) _ _ _ rfl VB zm V1 _ HV.out rfl rfl (by rw [jJ, HS1.out]) (by rw [HS1.out]; rfl) HA1.out ?_; obtain ⟨x4, e9⟩ := je (x3.setRow VB V1); have hgs : x3.grownBy x4 (some VB) := by rw [e9]; exact qL _ _ _
    have HV := jh (show x4.heap[VB]? = some (.cells V1 52 (0, 0)) by rw [e9]; exact setRow_heap _ _ _ _ _ _ HV.out); rw [← e9]; clear e9; have HSr := jh (HSr.out.keep hgs (fun e => by have := NV.out; injection e with e; omega)); have HQ0 := jh (jA HQ0.out hgs (fun e => by have := NV.out; injection e with e; omega)); have HQ1 := jh (jA HQ1.out hgs (fun e => by have := NV.out; injection e with e; omega)); have HQ2 := jh (jA HQ2.out hgs (fun e => by have := NV.out; injection e with e; omega)); have HQ3 := jh (jA HQ3.out hgs (fun e => by have := NV.out; injection e with e; omega)); have HCBr := jh (jA HCBr.out hgs (fun e => by have := NV.out; injection e with e; omega)); have HKx := jh (Qn HKx.out hgs (by have := NV.out; omega)); have HO := jh (OwnV.block HO.out fun g hg => hgs.block g (HO.out.lt g hg).2 (fun e => by have h9 := NO.out g hg; injection e with e; omega)); have HW := jh (HW.out.grown hgs HW.out.size (fun q hq => by injection hq with hq; have := NV.out; omega)); clear hgs; refine hK.out _ _ (⟨HSr.out, HQ0.out, HQ1.out, HQ3.out⟩) (fun hHeld => ?_); clear hK K
    try simp only [Act.put, pa, pb, pc]
    refine WT.done ?_
   rotate_right
   focus
    go_simp
    refine (CFx.out _).mono ?_; rintro _ x2 ⟨rfl, hb⟩; have HKx := jh (NumO.later hb HKx.out); have HO := jh (OwnV.later HO.out hb); have HQ0 := jh (jj HQ0.out hb); have HQ1 := jh (jj HQ1.out hb); have HQ2 := jh (jj HQ2.out hb); have HQ3 := jh (jj HQ3.out hb); have HSr := jh (HSr.out.later hb); have HCBr := jh (jj HCBr.out hb); have HW := jw HW hb; clear hb; refine hK.out _ _ (⟨HSr.out, HQ0.out, HQ1.out, HQ3.out⟩) (fun hHeld => ?_); clear hK K
    try simp only [Act.put, pa, pb, pc]
    refine WT.tk (v := .agg V1) rfl (fun w8 hSw => by rw [HV1.out]; kernel_rfl) (k := ?_); refine WT.step rfl (fun K hK => ?_); refine qX (v := .pointer (some ⟨x2.heap.size, 0, none⟩)) (w' := x2.alloc (.cells zm 52)) (by rfl) (by kernel_rfl) ?_; obtain ⟨x3, e9⟩ := je (x2.alloc (.cells zm 52)); obtain ⟨VB, h9⟩ := je (x2.heap.size); have hb := jc e9; have HV := jh (show x3.heap[VB]? = some (.cells zm 52 (0, 0)) by rw [e9, h9]; exact heap_alloc_new _ _); have LVB := jh (show VB < x3.heap.size by rw [e9, h9]; simp); have WVB := jh (show x2.heap.size = VB from h9.symm); have NV := jh (show SB < VB ∧ lb < VB ∧ kb < VB ∧ CB < VB ∧ v_1.heap.size ≤ VB by have a1 := HSr.out.lt; have a2 : lb < x2.heap.size := World.block_lt_of_cell? (a := ⟨lb, _, none⟩) _ HQ0.out; have a3 := HKx.out.lt; have a4 : CB < x2.heap.size := World.block_lt_of_cell? (a := ⟨CB, 22, none⟩) _ HCBr.out; have a5 := HW.out.size; omega); have NO := jh (fun (g : Nat) (hg : (Value.slice a0 j c0).ownBlock = some g) => show g < VB by have h9 := (HO.out.lt g hg).2; omega); rw [← e9, ← h9]; clear e9 h9; have HKx := jh (NumO.later hb HKx.out); have HO := jh (OwnV.later HO.out hb); have HQ0 := jh (jj HQ0.out hb); have HQ1 := jh (jj HQ1.out hb); have HQ2 := jh (jj HQ2.out hb); have HQ3 := jh (jj HQ3.out hb); have HSr := jh (HSr.out.later hb); have HCBr := jh (jj HCBr.out hb); have HW := jw HW hb; clear hb; refine hK.out _ _ (⟨HSr.out, HQ0.out, HQ1.out, HQ3.out⟩) (fun hHeld => ?_); clear hK K
    try simp only [Act.put, pa, pb, pc]
    refine WT.step rfl (fun K hK => ?_); refine zt (by rfl) _ _ _ rfl VB zm V1 _ HV.out rfl rfl (by rw [jJ, HS1.out]) (by rw [HS1.out]; rfl) HA1.out ?_; obtain ⟨x4, e9⟩ := je (x3.setRow VB V1); have hgs : x3.grownBy x4 (some VB) := by rw [e9]; exact qL _ _ _
    have HV := jh (show x4.heap[VB]? = some (.cells V1 52 (0, 0)) by rw [e9]; exact setRow_heap _ _ _ _ _ _ HV.out); rw [← e9]; clear e9; have HSr := jh (HSr.out.keep hgs (fun e => by have := NV.out; injection e with e; omega)); have HQ0 := jh (jA HQ0.out hgs (fun e => by have := NV.out; injection e with e; omega)); have HQ1 := jh (jA HQ1.out hgs (fun e => by have := NV.out; injection e with e; omega)); have HQ2 := jh (jA HQ2.out hgs (fun e => by have := NV.out; injection e with e; omega)); have HQ3 := jh (jA HQ3.out hgs (fun e => by have := NV.out; injection e with e; omega)); have HCBr := jh (jA HCBr.out hgs (fun e => by have := NV.out; injection e with e; omega)); have HKx := jh (Qn HKx.out hgs (by have := NV.out; omega)); have HO := jh (OwnV.block HO.out fun g hg => hgs.block g (HO.out.lt g hg).2 (fun e => by have h9 := NO.out g hg; injection e with e; omega)); have HW := jh (HW.out.grown hgs HW.out.size (fun q hq => by injection hq with hq; have := NV.out; omega)); clear hgs; refine hK.out _ _ (⟨HSr.out, HQ0.out, HQ1.out, HQ3.out⟩) (fun hHeld => ?_); clear hK K
    try simp only [Act.put, pa, pb, pc]
    refine WT.done ?_
   all_goals (
    clear hHeld; have q2 := HQ2.out
    go_upto_region 6 with fail
    have hsc : sc = true ∨ sc = false := by cases sc <;> simp
    refine wp_region_lit ?_; refine ji (v := .slice (some ⟨lb, lo, none⟩) m lc) rfl (by kernel_rfl) ?_; refine ji (v := .int .i64 j) rfl (by kernel_rfl) ?_; refine ji (v := .pointer (some ⟨lb, lo + j * 4, none⟩)) rfl (by simp [go_sem, hltI, hjI]) ?_; refine ji (v := .pointer (some ⟨lb, lo + j * 4 + 2, none⟩)) rfl (by simp [go_sem]) ?_; refine ji (v := .bool sc) rfl (jg (loadB9 q2)) ?_; simp only [Act.put, pa, pb, pc]; clear q2
    rcases hsc with hsc | hsc
    ·have hkb : bv = ⟨2, vw, i + 1, y⟩ := by rw [HBV.out, hsc]; rfl
     have CSy := jh (fun (W : World) => by have h9 := CSx.out W; rewrite [hkb, show qv 2 ep vw (i + 1) (zz y) 0 0 = .agg V2 by rw [HV2.out]; rfl] at h9; exact h9); clear hkb; subst hsc; have g9 : x4.frozen? ⟨VB, 0, none⟩ = false := by simp [World.frozen?, HV.out]
     have c9 : x4.cell? ⟨VB, 0, none⟩ = some (.int .u8 1) := QJ (k := 1) (e := ep) (v := vw) (n := i + 1) (h := zz y) (c := 0) (s := 0) (qc (by rw [← HV1.out]; exact HV.out))
     go_upto_region 8 with fail
     clear c9 g9; obtain ⟨z1, e9⟩ := je (x4.setCell ⟨VB, 0, none⟩ (.int .u8 2)); have er : z1 = x4.setRow VB V2 := by rw [e9, setCell_eq_setRow x4 VB 0 _ _ _ _ HV.out, HV12.out]
     have hgs : x4.grownBy z1 (some VB) := by rw [er]; exact qL _ _ _
     have HV := jh (show z1.heap[VB]? = some (.cells V2 52 (0, 0)) by rw [er]; exact setRow_heap _ _ _ _ _ _ HV.out); rw [← e9]; clear e9 er; have HSr := jh (HSr.out.keep hgs (fun e => by have := NV.out; injection e with e; omega)); have HQ0 := jh (jA HQ0.out hgs (fun e => by have := NV.out; injection e with e; omega)); have HQ1 := jh (jA HQ1.out hgs (fun e => by have := NV.out; injection e with e; omega)); have HQ2 := jh (jA HQ2.out hgs (fun e => by have := NV.out; injection e with e; omega)); have HQ3 := jh (jA HQ3.out hgs (fun e => by have := NV.out; injection e with e; omega)); have HCBr := jh (jA HCBr.out hgs (fun e => by have := NV.out; injection e with e; omega)); have HKx := jh (Qn HKx.out hgs (by have := NV.out; omega)); have HO := jh (OwnV.block HO.out fun g hg => hgs.block g (HO.out.lt g hg).2 (fun e => by have h9 := NO.out g hg; injection e with e; omega)); have HW := jh (HW.out.grown hgs HW.out.size (fun q hq => by injection hq with hq; have := NV.out; omega)); clear hgs; have HND := jh (show z1.cell? ⟨VB, 3, none⟩ = some (.int .u8 ((i + 1 : Nat) : Int)) from Qg (k := 2) (e := ep) (v := vw) (n := i + 1) (h := zz y) (c := 0) (s := 0) (qc (by rw [← HV2.out]; exact HV.out))); refine jB (.take 0 (.take 2 (.take 3 (.take 4 (.take 5 (.take 6 (.take 7 (.take 8 (.take 9 (.step 1 (.step 10 (.take 11 (.take 12 (.take 13 (.step 14 .done))))))))))))))) (fun w8 => SAt w8 SB gp gq gg gh fa se (.slice (some ⟨nb, no, none⟩) n cap) ∧ w8.cell? ⟨CB, 22, none⟩ = some (.slice (some ⟨kb, ko, none⟩) n kc) ∧ NumO w8 kb (ko + i * 8) sk1 ∧ w8.cell? ⟨VB, 3, none⟩ = some (.int .u8 ((i + 1 : Nat) : Int))) (by kernel_rfl) (by kernel_rfl) (fun _ _ _ _ _ h => h) (⟨HSr.out.later ((Below.refl _ _).drew), jj HCBr.out ((Below.refl _ _).drew), NumO.later ((Below.refl _ _).drew) HKx.out, jj HND.out ((Below.refl _ _).drew)⟩) (fun hHeld => ?_); obtain ⟨y1, e1⟩ := je (z1.drew); rw [← e1]; have hb : Below z1.heap.size z1 y1 := by rw [e1]; exact (Below.refl _ _).drew
     have HKx := jh (NumO.later hb HKx.out); have HO := jh (OwnV.later HO.out hb); have HQ0 := jh (jj HQ0.out hb); have HQ1 := jh (jj HQ1.out hb); have HQ2 := jh (jj HQ2.out hb); have HQ3 := jh (jj HQ3.out hb); have HSr := jh (HSr.out.later hb); have HCBr := jh (jj HCBr.out hb); have HW := jw HW hb; have HV := jb hb HV; have HND := jh (jj HND.out hb); clear hb e1; refine WT.tk (v := .agg SV) rfl (fun w8 hSw => by rw [← HSV.out]; exact jg (Qa hSw.1)) (k := ?_); refine WT.tk rfl (k := ?_); refine WT.tk (v := .slice (some ⟨kb, ko, none⟩) n kc) rfl (fun w8 hSw => jg (loadSl hSw.2.1)) (k := ?_); refine WT.tk rfl (k := ?_); refine WT.tk (v := .int .u8 ((i + 1 : Nat) : Int)) rfl (fun w8 hSw => jg (load8 hSw.2.2.2)) (k := ?_); refine WT.tk (v := .int .u8 i) rfl (fun w8 hSw => by have e9 := E5.out; have e7 := E7.out; simp [go_sem, e9, e7]) (k := ?_); refine WT.tk (v := .pointer (some ⟨kb, ko + i * 8, none⟩)) rfl (fun w8 hSw => idx8 HIN.out) (k := ?_); refine WT.tk (v := .pointer (some ⟨kb, ko + i * 8, none⟩)) rfl (fun w8 hSw => by simp [go_sem]) (k := ?_); refine WT.take rfl (Or.inl ⟨by rfl, fun w8 hSw => jg (jX hSw.2.2.1)⟩) ?_
     try simp only [Act.put, pa, pb, pc]
     refine WT.step rfl (fun K hK => ?_); refine zT (v := .agg V2) (by rfl) (jg (jW HV.out Tryz.underlying52 rfl (by rw [jJ, HS2.out]))) ?_; refine hK.out _ _ (⟨HSr.out, HCBr.out, HKx.out, HND.out⟩) (fun hHeld => ?_); clear hK K
     try simp only [Act.put, pa, pb, pc]
     refine WT.step rfl (fun K hK => ?_)
     go_simp
     refine (CSy.out _).mono ?_; rintro _ y2 ⟨rfl, hb⟩; have HKx := jh (NumO.later hb HKx.out); have HO := jh (OwnV.later HO.out hb); have HQ0 := jh (jj HQ0.out hb); have HQ1 := jh (jj HQ1.out hb); have HQ2 := jh (jj HQ2.out hb); have HQ3 := jh (jj HQ3.out hb); have HSr := jh (HSr.out.later hb); have HCBr := jh (jj HCBr.out hb); have HW := jw HW hb; have HV := jb hb HV; have HND := jh (jj HND.out hb); clear hb; refine hK.out _ _ (⟨HSr.out, HCBr.out, HKx.out, HND.out⟩) (fun hHeld => ?_); clear hK K
     try simp only [Act.put, pa, pb, pc]
     iterate 3
      refine WT.tk rfl (k := ?_)
     refine WT.step rfl (fun K hK => ?_); refine zt (by rfl) _ _ _ rfl VB _ L.toArray _ HV.out rfl rfl HSZL.out (by rw [HS2.out]; simp [HLS.out]) (all_oneCell_toArray H1L.out) ?_; obtain ⟨y3, e9⟩ := je (y2.setRow VB L.toArray); have hgs : y2.grownBy y3 (some VB) := by rw [e9]; exact qL _ _ _
     have HV := jh (show y3.heap[VB]? = some (.cells L.toArray 52 (0, 0)) by rw [e9]; exact setRow_heap _ _ _ _ _ _ HV.out); rw [← e9]; clear e9; have HSr := jh (HSr.out.keep hgs (fun e => by have := NV.out; injection e with e; omega)); have HQ0 := jh (jA HQ0.out hgs (fun e => by have := NV.out; injection e with e; omega)); have HQ1 := jh (jA HQ1.out hgs (fun e => by have := NV.out; injection e with e; omega)); have HQ2 := jh (jA HQ2.out hgs (fun e => by have := NV.out; injection e with e; omega)); have HQ3 := jh (jA HQ3.out hgs (fun e => by have := NV.out; injection e with e; omega)); have HCBr := jh (jA HCBr.out hgs (fun e => by have := NV.out; injection e with e; omega)); have HKx := jh (Qn HKx.out hgs (by have := NV.out; omega)); have HO := jh (OwnV.block HO.out fun g hg => hgs.block g (HO.out.lt g hg).2 (fun e => by have h9 := NO.out g hg; injection e with e; omega)); have HW := jh (HW.out.grown hgs HW.out.size (fun q hq => by injection hq with hq; have := NV.out; omega)); clear hgs; have HND := jh (show y3.cell? ⟨VB, 3, none⟩ = some (.int .u8 ((i + 1 : Nat) : Int)) by have h9 := qc HV.out; rw [HLL.out, HBV.out] at h9; exact Qg h9); refine hK.out _ _ (⟨HSr.out, HCBr.out, HKx.out, HND.out⟩) (fun hHeld => ?_); clear hK K
     try simp only [Act.put, pa, pb, pc]
     refine WT.done ?_
     all_goals (
      clear hHeld
      go_upto_region 9 with fail
      refine wp_region_lit ?_; refine ji (v := .slice a0 j c0) rfl (by kernel_rfl) ?_; refine ji rfl (jg (jW HV.out Tryz.underlying52 rfl HSZL.out)) ?_; simp only [Act.put, pa, pb, pc]; refine jS (v := .slice (some ⟨y3.heap.size, 0, none⟩) 1 1) (w' := y3.alloc (.cells L.toArray 52)) rfl (Jz HLS.out rfl rfl) ?_; simp only [Act.put, pa, pb, pc]; clear HKx HQ0 HQ1 HQ2 HQ3 HSr HCBr HV HND; obtain ⟨z9, e9⟩ := je (y3.alloc (.cells L.toArray 52)); obtain ⟨AB, h9⟩ := je (y3.heap.size); have hb := jc e9; have HA := jh (show z9.heap[AB]? = some (.cells L.toArray 52 (0, 0)) by rw [e9, h9]; exact heap_alloc_new _ _); have LAB := jh (show AB < z9.heap.size by rw [e9, h9]; simp); have WAB := jh (show y3.heap.size = AB from h9.symm); rw [← e9, ← h9]; clear e9 h9; have HO := jh (OwnV.later HO.out hb); have HW := jw HW hb; clear hb; refine zO rfl _ _ 41 rfl v_1.heap.size 52 iv zv 44 iv.bytes Tryz.underlying41 HI2.out HZ.out HZ1.out rfl HZ3.out (.slice a0 j c0) j _ rfl HO.out _ 1 L rfl (src_v HA.out HLS.out H1L.out) (by have := HLT.out; unfold maxLen; omega) (by have h1 := HLT.out; have h2 := HZ2.out; have h3 : (j + 1) * iv.bytes ≤ 41 * 1000 := Nat.mul_le_mul (by omega) h2; omega) HW.out.size ?_; intro v3 w3 ho3 hg3 hl3; obtain ⟨a3, c3, rfl⟩ := ho3.sl; have HO5 := jh ho3; have HW5 := jh (HW.out.grown hg3 HW.out.size (fun g hg => (HO.out.lt g hg).1)); simp only [Act.put, pa, pb, pc]; clear ho3 hg3 hl3
      go_wp2_with fail
      go_roundw
      case rel => exact ⟨j + 1, HLT.out, by go_num, jh (by have h9 := HO5.out; rw [List.take_add_one, HCH9.out, List.map_append, List.flatMap_append]; simpa [← HBV2.out, ← HLL.out] using h9), HW5⟩
      case measure => simp [intOf]; have := HLT.out; omega)
    ·have hkb : bv = ⟨1, vw, i + 1, y⟩ := by rw [HBV.out, hsc]; rfl
     have CSy := jh (fun (W : World) => by have h9 := CSx.out W; rewrite [hkb, show qv 1 ep vw (i + 1) (zz y) 0 0 = .agg V1 by rw [HV1.out]; rfl] at h9; exact h9); clear hkb; subst hsc
     go_upto_region 8 with fail
     have HND := jh (show x4.cell? ⟨VB, 3, none⟩ = some (.int .u8 ((i + 1 : Nat) : Int)) from Qg (k := 1) (e := ep) (v := vw) (n := i + 1) (h := zz y) (c := 0) (s := 0) (qc (by rw [← HV1.out]; exact HV.out))); refine jB (.take 0 (.take 2 (.take 3 (.take 4 (.take 5 (.take 6 (.take 7 (.take 8 (.take 9 (.step 1 (.step 10 (.take 11 (.take 12 (.take 13 (.step 14 .done))))))))))))))) (fun w8 => SAt w8 SB gp gq gg gh fa se (.slice (some ⟨nb, no, none⟩) n cap) ∧ w8.cell? ⟨CB, 22, none⟩ = some (.slice (some ⟨kb, ko, none⟩) n kc) ∧ NumO w8 kb (ko + i * 8) sk1 ∧ w8.cell? ⟨VB, 3, none⟩ = some (.int .u8 ((i + 1 : Nat) : Int))) (by kernel_rfl) (by kernel_rfl) (fun _ _ _ _ _ h => h) (⟨HSr.out.later ((Below.refl _ _).drew), jj HCBr.out ((Below.refl _ _).drew), NumO.later ((Below.refl _ _).drew) HKx.out, jj HND.out ((Below.refl _ _).drew)⟩) (fun hHeld => ?_); obtain ⟨y1, e1⟩ := je (x4.drew); rw [← e1]; have hb : Below x4.heap.size x4 y1 := by rw [e1]; exact (Below.refl _ _).drew
     have HKx := jh (NumO.later hb HKx.out); have HO := jh (OwnV.later HO.out hb); have HQ0 := jh (jj HQ0.out hb); have HQ1 := jh (jj HQ1.out hb); have HQ2 := jh (jj HQ2.out hb); have HQ3 := jh (jj HQ3.out hb); have HSr := jh (HSr.out.later hb); have HCBr := jh (jj HCBr.out hb); have HW := jw HW hb; have HV := jb hb HV; have HND := jh (jj HND.out hb); clear hb e1; refine WT.tk (v := .agg SV) rfl (fun w8 hSw => by rw [← HSV.out]; exact jg (Qa hSw.1)) (k := ?_); refine WT.tk rfl (k := ?_); refine WT.tk (v := .slice (some ⟨kb, ko, none⟩) n kc) rfl (fun w8 hSw => jg (loadSl hSw.2.1)) (k := ?_); refine WT.tk rfl (k := ?_); refine WT.tk (v := .int .u8 ((i + 1 : Nat) : Int)) rfl (fun w8 hSw => jg (load8 hSw.2.2.2)) (k := ?_); refine WT.tk (v := .int .u8 i) rfl (fun w8 hSw => by have e9 := E5.out; have e7 := E7.out; simp [go_sem, e9, e7]) (k := ?_); refine WT.tk (v := .pointer (some ⟨kb, ko + i * 8, none⟩)) rfl (fun w8 hSw => idx8 HIN.out) (k := ?_); refine WT.tk (v := .pointer (some ⟨kb, ko + i * 8, none⟩)) rfl (fun w8 hSw => by simp [go_sem]) (k := ?_); refine WT.take rfl (Or.inl ⟨by rfl, fun w8 hSw => jg (jX hSw.2.2.1)⟩) ?_
     try simp only [Act.put, pa, pb, pc]
     refine WT.step rfl (fun K hK => ?_); refine zT (v := .agg V1) (by rfl) (jg (jW HV.out Tryz.underlying52 rfl (by rw [jJ, HS1.out]))) ?_; refine hK.out _ _ (⟨HSr.out, HCBr.out, HKx.out, HND.out⟩) (fun hHeld => ?_); clear hK K
     try simp only [Act.put, pa, pb, pc]
     refine WT.step rfl (fun K hK => ?_)
     go_simp
     refine (CSy.out _).mono ?_; rintro _ y2 ⟨rfl, hb⟩; have HKx := jh (NumO.later hb HKx.out); have HO := jh (OwnV.later HO.out hb); have HQ0 := jh (jj HQ0.out hb); have HQ1 := jh (jj HQ1.out hb); have HQ2 := jh (jj HQ2.out hb); have HQ3 := jh (jj HQ3.out hb); have HSr := jh (HSr.out.later hb); have HCBr := jh (jj HCBr.out hb); have HW := jw HW hb; have HV := jb hb HV; have HND := jh (jj HND.out hb); clear hb; refine hK.out _ _ (⟨HSr.out, HCBr.out, HKx.out, HND.out⟩) (fun hHeld => ?_); clear hK K
     try simp only [Act.put, pa, pb, pc]
     iterate 3
      refine WT.tk rfl (k := ?_)
     refine WT.step rfl (fun K hK => ?_); refine zt (by rfl) _ _ _ rfl VB _ L.toArray _ HV.out rfl rfl HSZL.out (by rw [HS1.out]; simp [HLS.out]) (all_oneCell_toArray H1L.out) ?_; obtain ⟨y3, e9⟩ := je (y2.setRow VB L.toArray); have hgs : y2.grownBy y3 (some VB) := by rw [e9]; exact qL _ _ _
     have HV := jh (show y3.heap[VB]? = some (.cells L.toArray 52 (0, 0)) by rw [e9]; exact setRow_heap _ _ _ _ _ _ HV.out); rw [← e9]; clear e9; have HSr := jh (HSr.out.keep hgs (fun e => by have := NV.out; injection e with e; omega)); have HQ0 := jh (jA HQ0.out hgs (fun e => by have := NV.out; injection e with e; omega)); have HQ1 := jh (jA HQ1.out hgs (fun e => by have := NV.out; injection e with e; omega)); have HQ2 := jh (jA HQ2.out hgs (fun e => by have := NV.out; injection e with e; omega)); have HQ3 := jh (jA HQ3.out hgs (fun e => by have := NV.out; injection e with e; omega)); have HCBr := jh (jA HCBr.out hgs (fun e => by have := NV.out; injection e with e; omega)); have HKx := jh (Qn HKx.out hgs (by have := NV.out; omega)); have HO := jh (OwnV.block HO.out fun g hg => hgs.block g (HO.out.lt g hg).2 (fun e => by have h9 := NO.out g hg; injection e with e; omega)); have HW := jh (HW.out.grown hgs HW.out.size (fun q hq => by injection hq with hq; have := NV.out; omega)); clear hgs; have HND := jh (show y3.cell? ⟨VB, 3, none⟩ = some (.int .u8 ((i + 1 : Nat) : Int)) by have h9 := qc HV.out; rw [HLL.out, HBV.out] at h9; exact Qg h9); refine hK.out _ _ (⟨HSr.out, HCBr.out, HKx.out, HND.out⟩) (fun hHeld => ?_); clear hK K
     try simp only [Act.put, pa, pb, pc]
     refine WT.done ?_
     all_goals (
      clear hHeld
      go_upto_region 9 with fail
      refine wp_region_lit ?_; refine ji (v := .slice a0 j c0) rfl (by kernel_rfl) ?_; refine ji rfl (jg (jW HV.out Tryz.underlying52 rfl HSZL.out)) ?_; simp only [Act.put, pa, pb, pc]; refine jS (v := .slice (some ⟨y3.heap.size, 0, none⟩) 1 1) (w' := y3.alloc (.cells L.toArray 52)) rfl (Jz HLS.out rfl rfl) ?_; simp only [Act.put, pa, pb, pc]; clear HKx HQ0 HQ1 HQ2 HQ3 HSr HCBr HV HND; obtain ⟨z9, e9⟩ := je (y3.alloc (.cells L.toArray 52)); obtain ⟨AB, h9⟩ := je (y3.heap.size); have hb := jc e9; have HA := jh (show z9.heap[AB]? = some (.cells L.toArray 52 (0, 0)) by rw [e9, h9]; exact heap_alloc_new _ _); have LAB := jh (show AB < z9.heap.size by rw [e9, h9]; simp); have WAB := jh (show y3.heap.size = AB from h9.symm); rw [← e9, ← h9]; clear e9 h9; have HO := jh (OwnV.later HO.out hb); have HW := jw HW hb; clear hb; refine zO rfl _ _ 41 rfl v_1.heap.size 52 iv zv 44 iv.bytes Tryz.underlying41 HI2.out HZ.out HZ1.out rfl HZ3.out (.slice a0 j c0) j _ rfl HO.out _ 1 L rfl (src_v HA.out HLS.out H1L.out) (by have := HLT.out; unfold maxLen; omega) (by have h1 := HLT.out; have h2 := HZ2.out; have h3 : (j + 1) * iv.bytes ≤ 41 * 1000 := Nat.mul_le_mul (by omega) h2; omega) HW.out.size ?_; intro v3 w3 ho3 hg3 hl3; obtain ⟨a3, c3, rfl⟩ := ho3.sl; have HO5 := jh ho3; have HW5 := jh (HW.out.grown hg3 HW.out.size (fun g hg => (HO.out.lt g hg).1)); simp only [Act.put, pa, pb, pc]; clear ho3 hg3 hl3
      go_wp2_with fail
      go_roundw
      case rel => exact ⟨j + 1, HLT.out, by go_num, jh (by have h9 := HO5.out; rw [List.take_add_one, HCH9.out, List.map_append, List.flatMap_append]; simpa [← HBV2.out, ← HLL.out] using h9), HW5⟩
      case measure => simp [intOf]; have := HLT.out; omega))
  ·obtain rfl : j = m := by omega
   clear hlt
   go_wp2_with fail
   go_ret
   refine ⟨_, rfl, ?_, jm HB.out HW.out⟩; have h9 := HO.out; rw [HML.out, List.take_length, ← HML.out] at h9; exact h9.base HB.out.size
theorem Qc {P : Program} {d : Nat} {L : Array Value} {w : World} : ∀ (fs : List Field), (∀ f ∈ fs, f.name ≠ "_" ∧ ∃ a, (part f.type L f.offset).run P w = .ok a w ∧ (Op.equalIn d f.type a a).run P w = .ok true w) → (Op.eqFields d L L fs).run P w = .ok true w
 | [], _ => by simp [Op.eqFields]
 | f :: fs, h => by
  obtain ⟨hn, a, h1, h2⟩ := h f (by simp); have ih := Qc fs (fun g hg => h g (List.mem_cons_of_mem _ hg)); simp only [Op.eqFields, if_pos hn, Sem.run_bind, h1, h2, Result.andThen_ok, Bool.not_true, Bool.false_eq_true, if_false, ih]
theorem arr_self {P : Program} {d len : Nat} {t e : TypeId} {k : IntKind} {xs : Array Value} (w : World) (ht : P.underlying t = some (.array len e)) (he : P.underlying e = some (.int k)) (hagg : ∀ w, (isAgg e).run P w = .ok false w) (hsz : ∀ w, (sizeOf e).run P w = .ok 1 w) (f : Nat → Int) (hx : ∀ i, i < len → xs[i]? = some (.int k (f i))) :
  (Op.equalIn (d + 2) t (.agg xs) (.agg xs)).run P w = .ok true w := by
 rw [zj w d t e k len ht he hagg hsz xs xs f f hx hx]
 simp
theorem sig_fields : (Tryz.prog.fieldsOf 50).toList.map (fun f => (f.name != "_", f.type, f.offset)) = [(true, 24, 0), (true, 24, 4)] := by kernel_rfl
theorem sig_self (c s : Nat) (w : World) : (Op.equalIn 9999 50 (.agg (Zp c s).toArray) (.agg (Zp c s).toArray)).run Tryz.prog w = .ok true w := by
 rw [show (9999 : Nat) = 9998 + 1 from rfl, run_equalIn_struct w 9998 _ _ _ (by kernel_rfl) (by kernel_rfl)]; refine Qc _ fun f hf => ?_
 have hm := List.mem_map_of_mem (f := fun f : Field => (f.name != "_", f.type, f.offset)) hf; rw [sig_fields] at hm; simp only [List.mem_cons, List.not_mem_nil, or_false, Prod.mk.injEq, bne_iff_ne, ne_eq] at hm
 rcases hm with ⟨h1, h2, h3⟩ | ⟨h1, h2, h3⟩
 ·refine ⟨h1, .agg #[.int .u64 (jf jd c 0), .int .u64 (jf jd c 1), .int .u64 (jf jd c 2), .int .u64 (jf jd c 3)], ?_, ?_⟩
  ·rw [h2, h3]
   kernel_rfl
  ·rw [h2]; exact arr_self w Tryz.underlying24 Tryz.underlying22 (fun _ => by kernel_rfl) (fun _ => by kernel_rfl) (fun i => jf jd c i) (zR _)
 ·refine ⟨h1, .agg #[.int .u64 (jf jd s 0), .int .u64 (jf jd s 1), .int .u64 (jf jd s 2), .int .u64 (jf jd s 3)], ?_, ?_⟩
  ·rw [h2, h3]
   kernel_rfl
  ·rw [h2]; exact arr_self w Tryz.underlying24 Tryz.underlying22 (fun _ => by kernel_rfl) (fun _ => by kernel_rfl) (fun i => jf jd s i) (zR _)
theorem vote_fields : (Tryz.prog.fieldsOf 52).toList.map (fun f => (f.name != "_", f.type, f.offset)) = [(true, 45, 0), (true, 22, 1), (true, 46, 2), (true, 5, 3), (true, 48, 4), (true, 50, 36)] := by kernel_rfl
theorem Zh {t off : Nat} {L : List Value} {v : Value} (w : World) (ha : (isAgg t).run Tryz.prog w = .ok false w) (hv : L[off]? = some v) : (part t L.toArray off).run Tryz.prog w = .ok v w := by
 unfold part
 simp [ha, Result.andThen, hv]
theorem part_agg {t off n : Nat} {L : List Value} (w : World) (ha : (isAgg t).run Tryz.prog w = .ok true w) (hs : (sizeOf t).run Tryz.prog w = .ok n w) : (part t L.toArray off).run Tryz.prog w = .ok (.agg (L.toArray.extract off (off + n))) w := by
 unfold part
 simp [ha, hs, Result.andThen]
theorem vote_self (k e v n c s t : Nat) (w : World) : (Op.equalIn 10000 52 (.agg (jG k e v n (zz t) c s).toArray) (.agg (jG k e v n (zz t) c s).toArray)).run Tryz.prog w = .ok true w := by
 rw [show (10000 : Nat) = 9999 + 1 from rfl, run_equalIn_struct w 9999 _ _ _ (by kernel_rfl) (by kernel_rfl)]; refine Qc _ fun f hf => ?_
 have hm := List.mem_map_of_mem (f := fun f : Field => (f.name != "_", f.type, f.offset)) hf; rw [vote_fields] at hm; simp only [List.mem_cons, List.not_mem_nil, or_false, Prod.mk.injEq, bne_iff_ne, ne_eq] at hm
 rcases hm with ⟨h1, h2, h3⟩ | ⟨h1, h2, h3⟩ | ⟨h1, h2, h3⟩ | ⟨h1, h2, h3⟩ | ⟨h1, h2, h3⟩ | ⟨h1, h2, h3⟩
 ·refine ⟨h1, .int .u8 k, by rw [h2, h3]; exact Zh w (by kernel_rfl) rfl, ?_⟩; rw [h2, show (9999 : Nat) = 9998 + 1 from rfl, run_equalIn_int w 9998 _ .u8 .u8 _ _ Tryz.underlying45]
  simp
 ·refine ⟨h1, .int .u64 e, by rw [h2, h3]; exact Zh w (by kernel_rfl) rfl, ?_⟩; rw [h2, show (9999 : Nat) = 9998 + 1 from rfl, run_equalIn_int w 9998 _ .u64 .u64 _ _ Tryz.underlying22]
  simp
 ·refine ⟨h1, .int .u32 v, by rw [h2, h3]; exact Zh w (by kernel_rfl) rfl, ?_⟩; rw [h2, show (9999 : Nat) = 9998 + 1 from rfl, run_equalIn_int w 9998 _ .u32 .u32 _ _ Tryz.underlying46]
  simp
 ·refine ⟨h1, .int .u8 n, by rw [h2, h3]; exact Zh w (by kernel_rfl) rfl, ?_⟩; rw [h2, show (9999 : Nat) = 9998 + 1 from rfl, run_equalIn_int w 9998 _ .u8 .u8 _ _ Tryz.underlying5]
  simp
 ·refine ⟨h1, .agg (jq .u8 (zz t)).toArray, by rw [h2, h3, part_agg (n := 32) w (by kernel_rfl) (by kernel_rfl)]; kernel_rfl, ?_⟩; rw [h2]; exact arr_self w Tryz.underlying48 Tryz.underlying5 (fun _ => by kernel_rfl) (fun _ => by kernel_rfl) _ (hsL_get t)
 ·refine ⟨h1, .agg (Zp c s).toArray, by rw [h2, h3, part_agg (n := 8) w (by kernel_rfl) (by kernel_rfl)]; kernel_rfl, ?_⟩; rw [h2]; exact sig_self c s w
theorem neq_vote (ep : Nat) (C S : Bal.Bv → Nat) (x : Bal.Bv) (w : World) : (binOp .neq 52 (.agg (qW ep C S x).toArray) (.agg (qW ep C S x).toArray)).run Tryz.prog w = .ok (.bool false) w := by
 rw [run_neq_struct]; have h9 := vote_self x.k ep x.v x.n (C x) (S x) x.s w; rw [show qW ep C S x = jG x.k ep x.v x.n (zz x.s) (C x) (S x) from rfl, h9]
 rfl
theorem eqg_vote : Tryz.prog.eqGuardType Tryz.prog.depth 52 = false := by kernel_rfl
theorem same_any {ep B1 B2 n : Nat} {C S : Bal.Bv → Nat} {u v : Value} {l : List Bal.Bv} (hn : n = l.length) (h1000 : n ≤ 10000) (w : World) (hu : OwnV w B1 52 44 u n (l.flatMap (qW ep C S))) (hv : OwnV w B2 52 44 v n (l.flatMap (qW ep C S))) :
  Calls Tryz.prog 16 #[u, v] w fun r w' => r = .returned (.bool true) ∧ Below w.heap.size w w' := by
 obtain ⟨ua, uc, rfl⟩ := hu.shape9; obtain ⟨va, vc, rfl⟩ := hv.shape9; have HU := jh hu; have HV := jh hv; have HN := jh hn; have hnI : (n : Int) ≤ 10000 := by omega
 clear hu hv hn h1000
 go_enter Tryz.func16, Tryz.ntmps16
 go_wp2_with fail
 go_loopw [5] (fun i wr => ∃ j : Nat, j ≤ n ∧ i = .int .i64 j ∧ Hid (Below w.heap.size w wr)) (fun i _ => n - (intOf i).toNat)
 case atStart => exact ⟨0, Nat.zero_le _, rfl, jh (Below.refl _ _)⟩
 case round =>
  obtain ⟨j, hj, rfl, HW⟩ := hrel
  by_cases hlt : j < n
  ·have hltI : (j : Int) < (n : Int) := by omega
   have hjI : (0 : Int) ≤ (j : Int) := by omega
   obtain ⟨x, hx⟩ : ∃ x, l[j]? = some x := ⟨_, List.getElem?_eq_getElem (by have := HN.out; omega)⟩; obtain ⟨ub, uo, uc9, hue, hva⟩ := zE HU.out (by omega); obtain ⟨vb, vo, vc9, hve, hvb⟩ := zE HV.out (by omega); injection hue with hue _ _
   subst hue; injection hve with hve _ _
   subst hve; have hb := HW.out.trans (Below.drew (Below.refl w.heap.size wr)); have LU := jh (jy (hva.at (jV _ _ _) hx) hb); have LV := jh (jy (hvb.at (jV _ _ _) hx) hb); have HNE := jh (fun (W : World) => neq_vote ep C S x W); obtain ⟨L, hL⟩ := je (qW ep C S x); rw [← hL] at LU LV HNE; have HLS := jh (show L.length = 44 by rw [hL]; exact jV _ _ _ _); have HLT := jh hlt; clear hx hva hvb hb hL hlt hj
   go_upto_region 6 with fail
   refine jK [(0, true), (1, true), (2, true), (3, true), (4, true), (5, true), (6, true), (7, true), (8, true)] (fun w8 => w8.rangeAt ub (uo + j * 44) L ∧ w8.rangeAt vb (vo + j * 44) L) (by kernel_rfl) (by kernel_rfl) (fun _ _ _ _ _ h => h) (⟨LU.out, LV.out⟩) (fun hHeld => ?_)
   iterate 2
    refine WP.tk rfl (k := ?_)
   refine WP.tk (v := .pointer (some ⟨ub, uo + j * 44, none⟩)) rfl (fun w8 hSw => by simp [go_sem, hltI, hjI]) (k := ?_); refine WP.tk (v := .agg L.toArray) rfl (fun w8 hSw => jg (loadV hSw.1 HLS.out)) (k := ?_)
   iterate 2
    refine WP.tk rfl (k := ?_)
   refine WP.tk (v := .pointer (some ⟨vb, vo + j * 44, none⟩)) rfl (fun w8 hSw => by simp [go_sem, hltI, hjI]) (k := ?_); refine WP.tk (v := .agg L.toArray) rfl (fun w8 hSw => jg (loadV hSw.2 HLS.out)) (k := ?_); refine WP.tk (v := .bool false) rfl (fun w8 hSw => qw eqg_vote rfl (by kernel_rfl) (by kernel_rfl) (HNE.out _)) (k := ?_); refine WP.done ?_; clear hHeld
   go_wp2_with fail
   go_roundw
   case rel => exact ⟨j + 1, HLT.out, by go_num, jh (HW.out.drew)⟩
   case measure => simp [intOf]; have := HLT.out; omega
  ·obtain rfl : j = n := by omega
   clear hlt
   go_wp2_with fail
   go_ret
   exact ⟨rfl, HW.out⟩
end Go.Proofs.YtdpkpcbikbbcbaaGreat
