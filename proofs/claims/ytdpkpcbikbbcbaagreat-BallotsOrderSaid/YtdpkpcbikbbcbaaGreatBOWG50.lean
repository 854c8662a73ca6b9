/- SameVotes, of votes that are the same -/
import Derived.Test.YtdpkpcbikbbcbaaGreatBOWG45
set_option linter.unusedSimpArgs false
set_option linter.unusedVariables false
set_option maxHeartbeats 2000000
set_option maxRecDepth 20000
namespace Go.Proofs.YtdpkpcbikbbcbaaGreat
open Go.ChangeShapes Go.WideShapes Go.ChangeAt Go.RowKit
theorem JY {P : Program} {d : Nat} {L : Array Value} {w : World} : ∀ (fs : List Field), (∀ f ∈ fs, f.name ≠ "_" ∧ ∃ a, (part f.type L f.offset).run P w = .ok a w ∧ (Op.equalIn d f.type a a).run P w = .ok true w) → (Op.eqFields d L L fs).run P w = .ok true w
 | [], _ => by simp [Op.eqFields]
 | f :: fs, h => by
  obtain ⟨hn, a, h1, h2⟩ := h f (by simp); have ih := JY fs (fun g hg => h g (List.mem_cons_of_mem _ hg)); simp only [Op.eqFields, if_pos hn, Sem.run_bind, h1, h2, Result.andThen_ok, Bool.not_true, Bool.false_eq_true, if_false, ih]
theorem arr_self {P : Program} {d len : Nat} {t e : TypeId} {k : IntKind} {xs : Array Value} (w : World) (ht : P.underlying t = some (.array len e)) (he : P.underlying e = some (.int k)) (hagg : ∀ w, (isAgg e).run P w = .ok false w) (hsz : ∀ w, (sizeOf e).run P w = .ok 1 w) (f : Nat → Int) (hx : ∀ i, i < len → xs[i]? = some (.int k (f i))) :
  (Op.equalIn (d + 2) t (.agg xs) (.agg xs)).run P w = .ok true w := by
 rw [qX w d t e k len ht he hagg hsz xs xs f f hx hx]
 simp
theorem sig_fields : (Tryz.prog.fieldsOf 50).toList.map (fun f => (f.name != "_", f.type, f.offset)) = [(true, 24, 0), (true, 24, 4)] := by kernel_rfl
theorem sig_self (c s : Nat) (w : World) : (Op.equalIn 9999 50 (.agg (Zl c s).toArray) (.agg (Zl c s).toArray)).run Tryz.prog w = .ok true w := by
 rw [show (9999 : Nat) = 9998 + 1 from rfl, run_equalIn_struct w 9998 _ _ _ (by kernel_rfl) (by kernel_rfl)]; refine JY _ fun f hf => ?_
 have hm := List.mem_map_of_mem (f := fun f : Field => (f.name != "_", f.type, f.offset)) hf; rw [sig_fields] at hm; simp only [List.mem_cons, List.not_mem_nil, or_false, Prod.mk.injEq, bne_iff_ne, ne_eq] at hm
 rcases hm with ⟨h1, h2, h3⟩ | ⟨h1, h2, h3⟩
 ·refine ⟨h1, .agg #[.int .u64 (jf jd c 0), .int .u64 (jf jd c 1), .int .u64 (jf jd c 2), .int .u64 (jf jd c 3)], ?_, ?_⟩
  ·rw [h2, h3]
   kernel_rfl
  ·rw [h2]; exact arr_self w Tryz.underlying24 Tryz.underlying22 (fun _ => by kernel_rfl) (fun _ => by kernel_rfl) (fun i => jf jd c i) (zM _)
 ·refine ⟨h1, .agg #[.int .u64 (jf jd s 0), .int .u64 (jf jd s 1), .int .u64 (jf jd s 2), .int .u64 (jf jd s 3)], ?_, ?_⟩
  ·rw [h2, h3]
   kernel_rfl
  ·rw [h2]; exact arr_self w Tryz.underlying24 Tryz.underlying22 (fun _ => by kernel_rfl) (fun _ => by kernel_rfl) (fun i => jf jd s i) (zM _)
theorem vote_fields : (Tryz.prog.fieldsOf 52).toList.map (fun f => (f.name != "_", f.type, f.offset)) = [(true, 45, 0), (true, 22, 1), (true, 46, 2), (true, 5, 3), (true, 48, 4), (true, 50, 36)] := by kernel_rfl
theorem Ze {t off : Nat} {L : List Value} {v : Value} (w : World) (ha : (isAgg t).run Tryz.prog w = .ok false w) (hv : L[off]? = some v) : (part t L.toArray off).run Tryz.prog w = .ok v w := by
 unfold part
 simp [ha, Result.andThen, hv]
theorem part_agg {t off n : Nat} {L : List Value} (w : World) (ha : (isAgg t).run Tryz.prog w = .ok true w) (hs : (sizeOf t).run Tryz.prog w = .ok n w) : (part t L.toArray off).run Tryz.prog w = .ok (.agg (L.toArray.extract off (off + n))) w := by
 unfold part
 simp [ha, hs, Result.andThen]
theorem vote_self (k e v n c s t : Nat) (w : World) : (Op.equalIn 10000 52 (.agg (jP k e v n (Ja t) c s).toArray) (.agg (jP k e v n (Ja t) c s).toArray)).run Tryz.prog w = .ok true w := by
 rw [show (10000 : Nat) = 9999 + 1 from rfl, run_equalIn_struct w 9999 _ _ _ (by kernel_rfl) (by kernel_rfl)]; refine JY _ fun f hf => ?_
 have hm := List.mem_map_of_mem (f := fun f : Field => (f.name != "_", f.type, f.offset)) hf; rw [vote_fields] at hm; simp only [List.mem_cons, List.not_mem_nil, or_false, Prod.mk.injEq, bne_iff_ne, ne_eq] at hm
 rcases hm with ⟨h1, h2, h3⟩ | ⟨h1, h2, h3⟩ | ⟨h1, h2, h3⟩ | ⟨h1, h2, h3⟩ | ⟨h1, h2, h3⟩ | ⟨h1, h2, h3⟩
 ·refine ⟨h1, .int .u8 k, by rw [h2, h3]; exact Ze w (by kernel_rfl) rfl, ?_⟩; rw [h2, show (9999 : Nat) = 9998 + 1 from rfl, run_equalIn_int w 9998 _ .u8 .u8 _ _ Tryz.underlying45]
  simp
 ·refine ⟨h1, .int .u64 e, by rw [h2, h3]; exact Ze w (by kernel_rfl) rfl, ?_⟩; rw [h2, show (9999 : Nat) = 9998 + 1 from rfl, run_equalIn_int w 9998 _ .u64 .u64 _ _ Tryz.underlying22]
  simp
 ·refine ⟨h1, .int .u32 v, by rw [h2, h3]; exact Ze w (by kernel_rfl) rfl, ?_⟩; rw [h2, show (9999 : Nat) = 9998 + 1 from rfl, run_equalIn_int w 9998 _ .u32 .u32 _ _ Tryz.underlying46]
  simp
 ·refine ⟨h1, .int .u8 n, by rw [h2, h3]; exact Ze w (by kernel_rfl) rfl, ?_⟩; rw [h2, show (9999 : Nat) = 9998 + 1 from rfl, run_equalIn_int w 9998 _ .u8 .u8 _ _ Tryz.underlying5]
  simp
 ·refine ⟨h1, .agg (jq .u8 (Ja t)).toArray, by rw [h2, h3, part_agg (n := 32) w (by kernel_rfl) (by kernel_rfl)]; kernel_rfl, ?_⟩; rw [h2]; exact arr_self w Tryz.underlying48 Tryz.underlying5 (fun _ => by kernel_rfl) (fun _ => by kernel_rfl) _ (hsL_get t)
 ·refine ⟨h1, .agg (Zl c s).toArray, by rw [h2, h3, part_agg (n := 8) w (by kernel_rfl) (by kernel_rfl)]; kernel_rfl, ?_⟩; rw [h2]; exact sig_self c s w
theorem neq_vote (ep : Nat) (C S : Bal.Bv → Nat) (x : Bal.Bv) (w : World) : (binOp .neq 52 (.agg (qV ep C S x).toArray) (.agg (qV ep C S x).toArray)).run Tryz.prog w = .ok (.bool false) w := by
 rw [run_neq_struct]; have h9 := vote_self x.k ep x.v x.n (C x) (S x) x.s w; rw [show qV ep C S x = jP x.k ep x.v x.n (Ja x.s) (C x) (S x) from rfl, h9]
 rfl
theorem eqg_vote : Tryz.prog.eqGuardType Tryz.prog.depth 52 = false := by kernel_rfl
theorem same_any {ep B1 B2 n : Nat} {C S : Bal.Bv → Nat} {u v : Value} {l : List Bal.Bv} (hn : n = l.length) (h1000 : n ≤ 10000) (w : World) (hu : OwnV w B1 52 44 u n (l.flatMap (qV ep C S))) (hv : OwnV w B2 52 44 v n (l.flatMap (qV ep C S))) :
  Calls Tryz.prog 16 #[u, v] w fun r w' => r = .returned (.bool true) ∧ Below w.heap.size w w' := by
 obtain ⟨ua, uc, rfl⟩ := hu.shape9; obtain ⟨va, vc, rfl⟩ := hv.shape9; have HU := jh hu; have HV := jh hv; have HN := jh hn; have hnI : (n : Int) ≤ 10000 := by omega
 clear hu hv hn h1000
 go_enter Tryz.func16, Tryz.ntmps16
 go_wp2_with fail
 go_loopw [5] (fun i wr => ∃ j : Nat, j ≤ n ∧ i = .int .i64 j ∧ Hid (Below w.heap.size w wr)) (fun i _ => n - (intOf i).toNat)
 case atStart => exact ⟨0, Nat.zero_le _, rfl, jh (Below.refl _ _)⟩
 case round =>
  obtain ⟨j, hj, rfl, HW⟩ := hrel
  by_cases hlt : j < n
  ·have hltI : (j : Int) < (n : Int) := by omega
   have hjI : (0 : Int) ≤ (j : Int) := by omega
   obtain ⟨x, hx⟩ : ∃ x, l[j]? = some x := ⟨_, List.getElem?_eq_getElem (by have := HN.out; omega)⟩; obtain ⟨ub, uo, uc9, hue, hva⟩ := qQ HU.out (by omega); obtain ⟨vb, vo, vc9, hve, hvb⟩ := qQ HV.out (by omega); injection hue with hue _ _
   subst hue; injection hve with hve _ _
   subst hve; have hb := HW.out.trans (Below.drew (Below.refl w.heap.size wr)); have LU := jh (jA (hva.at (jM _ _ _) hx) hb); have LV := jh (jA (hvb.at (jM _ _ _) hx) hb); have HNE := jh (fun (W : World) => neq_vote ep C S x W); obtain ⟨L, hL⟩ := je (qV ep C S x); rw [← hL] at LU LV HNE; have HLS := jh (show L.length = 44 by rw [hL]; exact jM _ _ _ _); have HLT := jh hlt; clear hx hva hvb hb hL hlt hj
   go_upto_region 6 with fail
   refine qj [(0, true), (1, true), (2, true), (3, true), (4, true), (5, true), (6, true), (7, true), (8, true)] (fun w8 => w8.rangeAt ub (uo + j * 44) L ∧ w8.rangeAt vb (vo + j * 44) L) (by kernel_rfl) (by kernel_rfl) (fun _ _ _ _ _ h => h) (⟨LU.out, LV.out⟩) (fun hHeld => ?_)
   iterate 2
    refine WP.take (v := ?_) rfl (Or.inl ⟨by rfl, ?_⟩) ?_; rotate_left
    ·intro w8 hSw; (try dsimp only at hSw)
     go_simp
     any_goals with_reducible rfl
    try simp only [Act.put, pa, pb, pc]
   refine WP.take (v := .pointer (some ⟨ub, uo + j * 44, none⟩)) rfl (Or.inl ⟨by rfl, fun w8 hSw => by simp [go_sem, hltI, hjI]⟩) ?_
   try simp only [Act.put, pa, pb, pc]
   refine WP.take (v := .agg L.toArray) rfl (Or.inl ⟨by rfl, fun w8 hSw => jg (loadV hSw.1 HLS.out)⟩) ?_
   iterate 2
    try simp only [Act.put, pa, pb, pc]
    refine WP.take (v := ?_) rfl (Or.inl ⟨by rfl, ?_⟩) ?_; rotate_left
    ·intro w8 hSw; (try dsimp only at hSw)
     go_simp
     any_goals with_reducible rfl
   try simp only [Act.put, pa, pb, pc]
   refine WP.take (v := .pointer (some ⟨vb, vo + j * 44, none⟩)) rfl (Or.inl ⟨by rfl, fun w8 hSw => by simp [go_sem, hltI, hjI]⟩) ?_
   try simp only [Act.put, pa, pb, pc]
   refine WP.take (v := .agg L.toArray) rfl (Or.inl ⟨by rfl, fun w8 hSw => jg (loadV hSw.2 HLS.out)⟩) ?_
   try simp only [Act.put, pa, pb, pc]
   refine WP.take (v := .bool false) rfl (Or.inl ⟨by rfl, fun w8 hSw => qx eqg_vote rfl (by kernel_rfl) (by kernel_rfl) (HNE.out _)⟩) ?_
   try simp only [Act.put, pa, pb, pc]
   refine WP.done ?_; clear hHeld
   go_wp2_with fail
   go_roundw
   case rel => exact ⟨j + 1, HLT.out, by go_num, jh (HW.out.drew)⟩
   case measure => simp [intOf]; have := HLT.out; omega
  ·obtain rfl : j = n := by omega
   clear hlt
   go_wp2_with fail
   go_ret
   exact ⟨rfl, HW.out⟩
end Go.Proofs.YtdpkpcbikbbcbaaGreat
