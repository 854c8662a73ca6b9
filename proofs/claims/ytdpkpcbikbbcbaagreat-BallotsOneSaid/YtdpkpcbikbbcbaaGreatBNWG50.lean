/- BallotsOne -/
import Derived.Test.YtdpkpcbikbbcbaaGreatBNWG46
import Derived.Test.YtdpkpcbikbbcbaaGreatBNWG48
import Derived.Test.YtdpkpcbikbbcbaaGreatBNWG49
set_option linter.unusedSimpArgs false
set_option linter.unusedVariables false
set_option maxHeartbeats 40000000
set_option maxRecDepth 20000
namespace Go.Proofs.YtdpkpcbikbbcbaaGreat
open Go.ChangeShapes Go.WideShapes Go.ChangeAt Go.RowKit
theorem lawset_any {gp gq gg gh lg n cap : Nat} {fa se : Int} {ao : Option Addr} {sk : List (Nat × Nat)} (hgp : gp < jk) (hgq : gq < jk) (hgg : gg < jk) (hlg : lg < jk) (hfa : -9223372036854775808 ≤ fa ∧ fa ≤ 9223372036854775807) (hse : -9223372036854775808 ≤ se ∧ se ≤ 9223372036854775807) (hsk : ∀ k ∈ sk, k.1 < jk ∧ k.2 < jk) (hn : n = sk.length) (hcap : n ≤ cap) (hcm : cap ≤ maxLen) (w : World) (hk : 0 < n → ∃ b o, ao = some ⟨b, o, none⟩ ∧ KeysAt w b o sk) :
  Calls Tryz.prog 7 #[zJ gp gq gg gh lg fa se (.slice ao n cap)] w fun e w' => ∃ (p q g h : Nat) (f s : Int) (a : Option Addr) (n9 c9 : Nat) (ok : Bool), e = .returned (.tuple #[qr p q g h f s (.slice a n9 c9), .bool ok]) ∧ (ok = true → p = gp ∧ q = gq ∧ g = gg ∧ h = gg ^ lg % gp ∧ f = fa ∧ s = se ∧ n9 = n ∧ SetOk w' gp gq gg lg n fa se sk a) ∧ Below w.heap.size w w' := by
 by_cases hm : Jg gp gg
 ·by_cases h0 : lg = 0
  ·exact lawset_log hm h0 hgp hgq hgg hlg hfa hse hsk hn hcap hcm w hk
  ·by_cases h1 : 7 < n
   ·exact lawset_many hm h0 h1 hgp hgq hgg hlg hfa hse hsk hn hcap hcm w hk
   ·exact lawset_main hm h0 (by omega) hgp hgq hgg hlg hfa hse hsk hn hcap hcm w hk
 ·exact lawset_nomay hm hgp hgq hgg hlg hfa hse hsk hn hcap hcm w hk
theorem set_parts {gp gq gg gh n : Nat} {fa se : Int} {ks : List (Nat × Nat)} (h : jG gp gq gg gh fa se n ks = true) : (0 ≤ fa ∧ fa ≤ 2 ∧ 3 * fa + 1 ≤ n) ∧ (inG gp gq gg ∧ gg ≠ 1) ∧ ∀ k ∈ ks, inG gp gq k.1 ∧ k.1 ≠ 1 := by
 unfold jG at h
 iterate 8
  split at h; · cases h
 rename_i h1 h2 h3 h4 h5 h6 h7 h8
 refine ⟨by omega, ?_, fun k hk => ?_⟩
 ·simp only [Bool.or_eq_true, not_or, zD, Bool.not_eq_true', decide_eq_false_iff_not, Decidable.not_not, decide_eq_true_eq] at h8; exact h8.1
 ·have h9 := h; simp only [Bool.not_eq_true', List.any_eq_false] at h9; have h10 := h9 k hk; simp only [Jb, zD, Bool.or_eq_true, not_or, Bool.not_eq_true', decide_eq_false_iff_not, Decidable.not_not, decide_eq_true_eq] at h10; exact h10.1
theorem sig_of {gp gq gg x d : Nat} {h : List Nat} (hg : inG gp gq gg) (hq : 1 < gq) : JV gp gq gg x d h = qO gq (gg ^ x % gp) (backR gp gq gg (gg ^ x % gp) (JV gp gq gg x d h) (QP gp gq gg x d h)) h := by
 have hc : JV gp gq gg x d h ≤ gq := by unfold JV qO Jk; exact Nat.le_of_lt (Nat.mod_lt _ (by omega))
 have h9 := backR_sign (x := x) (d := d) hg.1.1 hg.2 hc; have e : backR gp gq gg (gg ^ x % gp) (JV gp gq gg x d h) (QP gp gq gg x d h) = gg ^ d % gp := h9; rw [e]
 rfl
def zQ (gp gg h : Nat) (sk : List (Nat × Nat)) : List (Nat × Nat) := sk.map fun k => (gg ^ k.1 % gp, h ^ k.2 % gp)
theorem stOk_of {w : World} {gp gq gg lg n : Nat} {fa se : Int} {sk : List (Nat × Nat)} {a : Option Addr} (h : SetOk w gp gq gg lg n fa se sk a) (hgp : gp < jk) (hgq : gq < jk) (hgg : gg < jk) (hfa : -9223372036854775808 ≤ fa ∧ fa ≤ 9223372036854775807) (hse : -9223372036854775808 ≤ se ∧ se ≤ 9223372036854775807) (hn : n = sk.length) :
  StOk gp gq gg (gg ^ lg % gp) n fa se (zQ gp gg (gg ^ lg % gp) sk) := by
 have hp : 1 < gp := h.may.1; refine ⟨fun k hk => ?_, hgq, hgp, hgg, Nat.lt_trans (Nat.mod_lt _ (by omega)) hgp, by rw [hn]; simp [zQ], hfa, hse, h.le, h.ok, h.may, h.prime.2.1, (set_parts h.ok).2.2⟩; obtain ⟨k9, _, rfl⟩ := List.mem_map.1 hk; exact ⟨Nat.lt_trans (Nat.mod_lt _ (by omega)) hgp, Nat.lt_trans (Nat.mod_lt _ (by omega)) hgp⟩
def GoodV (n : Nat) (x : Bal.Bv) : Prop := (x.k = 1 ∨ x.k = 2) ∧ x.v < 256 ∧ (1 ≤ x.n ∧ x.n ≤ n) ∧ x.s < 4
theorem good_of {n : Nat} (h0 : 0 < n) {c : Ch} (hv : c.view < 256) : GoodV n (bvOf n c) := by
 refine ⟨?_, hv, ⟨Nat.succ_le_succ (Nat.zero_le _), ?_⟩, Nat.mod_lt _ (by decide)⟩
 ·unfold bvOf
  cases c.sec <;> simp
 ·have := Nat.mod_lt c.node h0
  show c.node % n + 1 ≤ n
  omega
theorem check_good {gp gq gg gh n ep : Nat} {fa se : Int} {sk : List (Nat × Nat)} (st : StOk gp gq gg gh n fa se (zQ gp gg gh sk)) (hg : inG gp gq gg) (x : Bal.Bv) (hx : GoodV n x) {nb no cap : Nat} (W : World) (hk : KeysAt W nb no (zQ gp gg gh sk)) :
  Calls Tryz.prog 17 #[qr gp gq gg gh fa se (.slice (some ⟨nb, no, none⟩) n cap), .agg (vvS gp gq gg ep sk x).toArray] W fun r W' => r = .returned (.bool true) ∧ Below W.heap.size W W' := by
 obtain ⟨i, hi⟩ : ∃ i, x.n = i + 1 := ⟨x.n - 1, by have := hx.2.2.1.1; omega⟩; have hin : i < sk.length := by have h1 := st.hn; have h2 := hx.2.2.1.2; simp only [zQ, List.length_map] at h1; omega
 obtain ⟨⟨s1, s2⟩, hs⟩ : ∃ s, sk[i]? = some s := ⟨_, List.getElem?_eq_getElem hin⟩; have hki : (zQ gp gg gh sk)[i]? = some (gg ^ s1 % gp, gh ^ s2 % gp) := by simp [zQ, hs]
 have hK : sgK sk x = s1 := by simp [sgK, hi, List.getD_eq_getElem?_getD, hs]
 have hq := st.q1; have hC : ZN gp gq gg ep sk x < gq := by unfold ZN JV qO Jk; exact Nat.mod_lt _ (by omega)
 have hS : ZQ gp gq gg ep sk x < gq := by unfold ZQ QP; exact Nat.mod_lt _ (by omega)
 have hsig : ZN gp gq gg ep sk x = qO gq (gg ^ s1 % gp) (backR gp gq gg (gg ^ s1 % gp) (ZN gp gq gg ep sk x) (ZQ gp gq gg ep sk x)) (zk x.k ep x.v x.n (qM x.s)) := by
  unfold ZN ZQ; rw [hK]; exact sig_of hg hq
 have h7 := st.hn7; exact BCheck_yes (cap := cap) st (qg x.s) (by have := hx.2.1; omega) (by have := hx.2.2.1.2; omega) hx.1 (by have := hx.2.1; omega) (hsL_bytes (by have := hx.2.2.2; omega)) hi hki hC hS hsig W hk
theorem Turn.low {w w' : World} {bx gp gq gg gh n cap nb no mb fb fo fc ep base : Nat} {fa se : Int} {ks : List (Nat × Nat)} {vv : Bal.Bv → List Value} {f : Value → Option Value} {E : List Bal.Bv} (ht : Turn w w' mb fb f) (h : BoxAt w bx gp gq gg gh n cap nb no mb fb fo fc ep base fa se ks vv f E) {b : Nat} (hb : b < base) (h1 : b ≠ mb) (h2 : b ≠ fb) : w'.heap[b]? = w.heap[b]? :=
 ht.block b (Nat.lt_of_lt_of_le hb h.bs) h1 h2 fun h3 => by have := (h.rows.lt h3).1; omega
theorem BPut_any {bx gp gq gg gh n cap nb no mb fb fo fc ep base : Nat} {fa se : Int} {sk : List (Nat × Nat)} {f : Value → Option Value} {E : List Bal.Bv} {x : Bal.Bv} (st : StOk gp gq gg gh n fa se (zQ gp gg gh sk)) (hg : inG gp gq gg) (hx : GoodV n x) (hE : E.length ≤ 1000) (w : World) (h : BoxAt w bx gp gq gg gh n cap nb no mb fb fo fc ep base fa se (zQ gp gg gh sk) (vvS gp gq gg ep sk) f E) :
  Calls Tryz.prog 11 #[.pointer (some ⟨bx, 0, none⟩), .agg (vvS gp gq gg ep sk x).toArray] w fun r w' => r = .returned (.tuple #[.bool (putR E x).1, .int .i64 (putR E x).2]) ∧ ∃ f', BoxAt w' bx gp gq gg gh n cap nb no mb fb fo fc ep base fa se (zQ gp gg gh sk) (vvS gp gq gg ep sk) f' (Bal.bput E x) ∧ Turn w w' mb fb f ∧ ∀ g, rowB f' g → rowB f g ∨ w.heap.size ≤ g := by
 obtain ⟨i, hi⟩ : ∃ i, x.n = i + 1 := ⟨x.n - 1, by have := hx.2.2.1.1; omega⟩; have hin : i < n := by have := hx.2.2.1.2; omega
 have hk9 : x.k < 256 := by have := hx.1; omega
 have hv9 : x.v < 4294967296 := by have := hx.2.1; omega
 have hc := fun W hk => check_good (cap := cap) (ep := ep) st hg x hx W (nb := nb) (no := no) hk
 by_cases hxE : x ∈ E
 ·refine (BPut_in hi hin st.hn7 hk9 hv9 hE hc hxE w h).mono ?_; rintro r w' ⟨rfl, hb⟩; refine ⟨by unfold putR; rw [if_pos hxE], f, ?_, turn_of_below hb _ _ _, fun g hg => .inl hg⟩; have e : Bal.bput E x = E := by unfold Bal.bput; rw [if_pos hxE]
  rw [e]; exact h.later hb
 ·refine (BPut_new hi hin st.hn7 hk9 hv9 hE hc hxE w h).mono ?_; rintro r w' ⟨rfl, f', h1, h2, h3⟩; refine ⟨?_, f', h1, h2, h3⟩; unfold putR; rw [if_neg hxE]
  by_cases h0 : (Bal.at_ E x.k x.v x.n).length = 0
  ·rw [if_pos h0, if_pos h0, decide_eq_true h0]
  ·rw [if_neg h0, if_neg h0, decide_eq_false h0]
theorem kept_len (l : List Bal.Bv) : (Bal.kept l).length ≤ l.length := by
 have key : ∀ R : List Bal.Bv, (Bal.kept R.reverse).length ≤ R.length := by
  intro R
  induction R with
  | nil => exact Nat.le_refl _
  | cons x R ih =>
   rw [List.reverse_cons, Bal.kept_snoc, List.length_cons]; unfold Bal.bput
   split
   ·omega
   ·rw [List.length_append]
    simp
    omega
 have h9 := key l.reverse
 rwa [List.reverse_reverse, List.length_reverse] at h9
theorem BCert_good {gp gq gg gh n cap nb no ep k v s m c B : Nat} {fa se : Int} {sk : List (Nat × Nat)} {VO : List Bal.Bv} {a : Option Addr} (st : StOk gp gq gg gh n fa se (zQ gp gg gh sk)) (hg : inG gp gq gg) (hVO : ∀ x ∈ VO, GoodV n x ∧ x.k = k ∧ x.v = v ∧ x.s = s) (hord : VO.Pairwise (fun x y => x.n < y.n)) (hm : m = VO.length) (hm9 : m ≤ 10000) (w : World) (hk : KeysAt w nb no (zQ gp gg gh sk)) (ho : OwnV w B 52 44 (.slice a m c) m (VO.flatMap (vvS gp gq gg ep sk))) :
  Calls Tryz.prog 21 #[qr gp gq gg gh fa se (.slice (some ⟨nb, no, none⟩) n cap), .int .u8 k, .int .u64 ep, .int .u32 v, .agg (jt .u8 (qM s)).toArray, .slice a m c] w fun r w' => r = .returned (.bool (decide (Zw n fa ≤ (m : Int)))) ∧ Below w.heap.size w w' := by
 have CD := jh (fun (W : World) (hk9 : KeysAt W nb no (zQ gp gg gh sk)) => by have h9 := Zg (cap := cap) (ao := some ⟨nb, no, none⟩) st.hx st.hq st.hm st.hgg st.hgh st.hn st.hfa st.hse (by have := st.hn7; omega) W (fun _ => ⟨nb, no, rfl, hk9⟩); rewrite [st.ok] at h9; exact h9); have CC := jh (fun (x : Bal.Bv) (hx : GoodV n x) (W : World) (hk9 : KeysAt W nb no (zQ gp gg gh sk)) => check_good (cap := cap) (ep := ep) st hg x hx W (nb := nb) (no := no) hk9); have CQ := jh (fun (W : World) => quorum_any (n : Int) fa W); obtain ⟨qs, hqs⟩ := je (Zw n fa); rw [← hqs] at CQ ⊢; clear hqs; obtain ⟨SV, hSV⟩ : ∃ SV, qr gp gq gg gh fa se (.slice (some ⟨nb, no, none⟩) n cap) = .agg SV := ⟨_, rfl⟩; have hszS : (Tryz.prog.info? 33).map (·.size) = some SV.size := by rw [Jq, Je hSV]
 have FS := jh (show ∀ W : World, SAt (W.alloc (.cells SV 33)) W.heap.size gp gq gg gh fa se (.slice (some ⟨nb, no, none⟩) n cap) by intro W; have e9 := hSV; unfold qr at e9; injection e9 with e9; rw [← e9]; exact SAt.new _ _ _ _ _ _ _ _ _); rw [hSV] at CD CC ⊢; have HSZS := jh hszS; have hne : ∀ W : World, (binOp .neq 48 (.agg (jt .u8 (qM s)).toArray) (.agg (jt .u8 (qM s)).toArray)).run Tryz.prog W = .ok (.bool false) W := fun W => by have h9 := neq_set s s W; rw [decide_eq_true rfl] at h9; exact h9
 obtain ⟨T, hT⟩ := je ((jt .u8 (qM s)).toArray); have hszT : (Tryz.prog.info? 48).map (·.size) = some T.size := by rw [qw, hT]; simp [jv, qg]
 rw [← hT] at hne ⊢; have HNE := jh hne; have HT := jh hT; have HSZT := jh hszT; have HVO := jh hVO; have HORD := jh hord; have HM := jh hm; have hm9I : (m : Int) ≤ 10000 := by omega
 have HN7 := jh st.hn7; have hn7I : (n : Int) ≤ 7 := by have := st.hn7; omega
 obtain ⟨v_0, e1⟩ := je (w.alloc (.cells SV 33)); obtain ⟨v_1, e2⟩ := je (v_0.alloc (.cells T 48)); obtain ⟨SB, hSB⟩ := je (w.heap.size); obtain ⟨TB, hTB⟩ := je (v_0.heap.size); have b0 := jc e1; have b1 := jc e2; have hsr : v_0.heap[SB]? = some (.cells SV 33 (0, 0)) := by rw [e1, hSB]; exact heap_alloc_new _ _
 have hs0 : SAt v_0 SB gp gq gg gh fa se (.slice (some ⟨nb, no, none⟩) n cap) := by rw [e1, hSB]; exact FS.out w
 have HSR := jh ((b1.block _ (Array.getElem?_eq_some_iff.1 hsr).1).trans hsr); have HS := jh (hs0.later b1); have HTR := jh (show v_1.heap[TB]? = some (.cells T 48 (0, 0)) by rw [e2, hTB]; exact heap_alloc_new _ _); have HB := jh (jm b0 b1); have HNK := jh (hk.later HB.out); have HO := jh (OwnV.later ho HB.out); have HTB := jh (show w.heap.size + 1 = TB by rw [hTB, e1]; simp); clear st hg hVO hord hm hm9 hk ho hSV hszS FS hne hT hszT b0 b1 hsr hs0
 go_enter Tryz.func21, Tryz.ntmps21
 go_upto_region 1 with fail
 (try rw [HTB.out]); rw [← e1, ← e2, ← hSB]; (try rw [← hTB]); clear e1 e2 hSB hTB HTB
 go_wp2_with fail
 go_loopw [13, 18] (fun l i wr => ∃ j L : Nat, j ≤ m ∧ i = .int .i64 j ∧ l = .int .u8 L ∧ Hid (∀ x ∈ VO.drop j, L < x.n) ∧ L ≤ 7 ∧ Hid (Below v_1.heap.size v_1 wr)) (fun _ i _ => m - (intOf i).toNat)
 case atStart => exact ⟨0, 0, Nat.zero_le _, rfl, rfl, jh (fun x hx => by have h9 := (HVO.out x (List.mem_of_mem_drop hx)).1.2.2.1.1; omega), by decide, jh (Below.refl _ _)⟩
 case round =>
  obtain ⟨j, L, hj, rfl, rfl, HL, hL7, HW⟩ := hrel
  by_cases hlt : j < m
  ·have hltI : (j : Int) < (m : Int) := by omega
   obtain ⟨x, hx⟩ : ∃ x, VO[j]? = some x := ⟨_, List.getElem?_eq_getElem (by have := HM.out; omega)⟩; obtain ⟨ub, uo, uc, hue, hva⟩ := zX HO.out (by omega); injection hue with hue _ huc
   subst hue; subst huc; have hxm := HVO.out x (List.mem_of_getElem? hx); have hLx : L < x.n := HL.out x (List.mem_drop_iff_getElem.2 (by obtain ⟨h1, h2⟩ := List.getElem?_eq_some_iff.1 hx; exact ⟨0, by simpa using h1, by simpa using h2⟩)); have hnext : ∀ y ∈ VO.drop (j + 1), x.n < y.n := by intro y hy; obtain ⟨h1, h2⟩ := List.getElem?_eq_some_iff.1 hx; have h3 := HORD.out; rw [← List.take_append_drop (j + 1) VO] at h3; have h4 := (List.pairwise_append.1 h3).2.2; exact h4 x (by rw [List.mem_take_iff_getElem]; exact ⟨j, by omega, h2⟩) y hy
   have hx7 : x.n ≤ 7 := by have h1 := hxm.1.2.2.1.2; have h2 := HN7.out; omega
   obtain ⟨hgx, hxk, hxv, hxs⟩ := hxm; subst hxk; subst hxv; subst hxs; have hjI : (0 : Int) ≤ (j : Int) := by omega
   have hx7I : (x.n : Int) ≤ 7 := by omega
   have hLI : ¬ (x.n : Int) ≤ (L : Int) := by omega
   obtain ⟨VL, hVL⟩ := je (vvS gp gq gg ep sk x); have hVs : VL.length = 44 := by rw [hVL]; exact jQ _ _ _ _
   have hV1 : ∀ u ∈ VL, u.oneCell' = true := by rw [hVL]; exact Qf _ _ _ _
   have LV := jh (show (Instr.loadAt 52 (.pointer (some ⟨ub, uo + j * 44, none⟩))).run Tryz.prog wr = .ok (.agg VL.toArray) wr by rw [hVL]; exact loadV (jp (hva.at (jQ _ _ _) hx) HW.out) (jQ _ _ _ _)); have hszV : (Tryz.prog.info? 52).map (·.size) = some VL.toArray.size := by rw [qd]; simp [hVs]
   have CC9 := jh (fun (W : World) (hk9 : KeysAt W nb no (zQ gp gg gh sk)) => by have h9 := CC.out x hgx W hk9; rewrite [← hVL] at h9; exact h9); have HVS := jh hVs; have HV1 := jh hV1; have HSZV := jh hszV; have HVL := jh hVL; have HLT := jh hlt; have HNX := jh hnext; have HX7 := jh hx7; clear hva hx hlt hj hgx hVL hVs hV1 hszV hnext hx7 hLx hL7 CC
   go_upto_region 4 with fail
   refine wp_region_lit ?_; refine ji (v := .pointer (some ⟨ub, uo + j * 44, none⟩)) rfl (by simp [go_sem, hltI, hjI]) ?_; refine ji rfl (jg LV.out) ?_; simp only [Act.put, pa, pb, pc]; refine jV (v := .pointer (some ⟨wr.heap.size, 0, none⟩)) (w' := wr.alloc (.cells qZ 52)) rfl (by kernel_rfl) ?_; simp only [Act.put, pa, pb, pc]; refine jN rfl _ _ _ rfl qZ VL.toArray rfl rfl HSZV.out (by simp [HVS.out, qZ]) (all_oneCell_toArray HV1.out) ?_; simp only [Act.put, pa, pb, pc]
   go_upto_region 5 with fail
   obtain ⟨x0, e9⟩ := je (wr.alloc (.cells VL.toArray 52)); obtain ⟨VB, h9⟩ := je (wr.heap.size); have hb := jc e9; have HVR := jh (show x0.heap[VB]? = some (.cells VL.toArray 52 (0, 0)) by rw [e9, h9]; exact heap_alloc_new _ _); have HV := jh (show x0.rangeAt VB 0 (jH x.k ep x.v x.n (qM x.s) (ZN gp gq gg ep sk x) (ZQ gp gq gg ep sk x)) by have h8 := qo HVR.out; rw [HVL.out] at h8; exact h8); rw [← e9, ← h9]; have HW := jw HW hb; clear e9 h9 hb LV; have HSR2 := jh ((HW.out.block _ (Array.getElem?_eq_some_iff.1 HSR.out).1).trans HSR.out); have HTR2 := jh ((HW.out.block _ (Array.getElem?_eq_some_iff.1 HTR.out).1).trans HTR.out); have HNK2 := jh (HNK.out.later HW.out); refine wp_region_lit ?_; refine ji (v := .pointer (some ⟨VB, 0, none⟩)) rfl (by kernel_rfl) ?_; refine ji (v := .int .u8 x.k) rfl (jg (zi (JP HV.out))) ?_; refine ji (v := .int .u8 x.k) rfl (by kernel_rfl) ?_; refine ji (v := .bool false) rfl (by simp [go_sem]) ?_; refine ji (v := .bool false) rfl (by kernel_rfl) ?_; simp only [Act.put, pa, pb, pc]; refine js (v := .pointer (some ⟨VB, 1, none⟩)) (by kernel_rfl) (by kernel_rfl) ?_; refine js (v := .int .u64 ep) (by kernel_rfl) (jg (loadU64 (vo_e HV.out))) ?_; refine js (v := .int .u64 ep) (by kernel_rfl) (by kernel_rfl) ?_; refine js (v := .bool false) (by kernel_rfl) (by simp [go_sem]) ?_
   iterate 2
    refine ji (v := .bool false) rfl (by kernel_rfl) ?_
   simp only [Act.put, pa, pb, pc]; refine js (v := .pointer (some ⟨VB, 2, none⟩)) (by kernel_rfl) (by kernel_rfl) ?_; refine js (v := .int .u32 x.v) (by kernel_rfl) (jg (qH (Qh HV.out))) ?_; refine js (v := .int .u32 x.v) (by kernel_rfl) (by kernel_rfl) ?_; refine js (v := .bool false) (by kernel_rfl) (by simp [go_sem]) ?_
   iterate 2
    refine ji (v := .bool false) rfl (by kernel_rfl) ?_
   simp only [Act.put, pa, pb, pc]; refine js (v := .pointer (some ⟨VB, 4, none⟩)) (by kernel_rfl) (by kernel_rfl) ?_; refine js (v := .agg T) (by kernel_rfl) (by rw [HT.out]; exact jg (QD HV.out (qg _))) ?_; refine js (v := .agg T) (by kernel_rfl) (jg (jY HTR2.out Tryz.underlying48 rfl HSZT.out)) ?_; refine js (v := .bool false) (by kernel_rfl) (qv Za rfl (by kernel_rfl) (by kernel_rfl) (HNE.out _)) ?_
   iterate 2
    refine ji (v := .bool false) rfl (by kernel_rfl) ?_
   simp only [Act.put, pa, pb, pc]; refine js (v := .pointer (some ⟨VB, 3, none⟩)) (by kernel_rfl) (by kernel_rfl) ?_; refine js (v := .int .u8 x.n) (by kernel_rfl) (jg (Zy (Qb HV.out))) ?_; refine js (v := .int .u8 L) (by kernel_rfl) (by kernel_rfl) ?_; refine js (v := .bool false) (by kernel_rfl) (by simp [go_sem, hLI]) ?_
   iterate 2
    refine ji (v := .bool false) rfl (by kernel_rfl) ?_
   simp only [Act.put, pa, pb, pc]; refine js (v := .agg SV) (by kernel_rfl) (jg (jY HSR2.out Tryz.underlying33 rfl HSZS.out)) ?_; refine js (v := .agg VL.toArray) (by kernel_rfl) (jg (jY HVR.out Tryz.underlying52 rfl HSZV.out)) ?_; simp only [Act.put, pa, pb, pc]
   go_wp2_with fail
   refine (CC9.out _ HNK2.out).mono ?_; rintro _ x1 ⟨rfl, hb⟩; have HV := jh (jp HV.out hb); have HW := jw HW hb; clear hb HVR HSR2 HTR2 HNK2; dsimp only
   go_step
   refine js (v := .bool false) (by kernel_rfl) (by kernel_rfl) ?_; refine ji (v := .bool false) rfl (by kernel_rfl) ?_; simp only [Act.put, pa, pb, pc]; have y3 := Qb HV.out
   go_wp2_with fail
   go_roundw
   case rel => exact ⟨j + 1, x.n, HLT.out, by go_num, rfl, HNX, HX7.out, HW⟩
   case measure => simp [intOf]; have := HLT.out; omega
  ·obtain rfl : j = m := by omega
   clear hlt hj HL; have HSR2 := jh ((HW.out.block _ (Array.getElem?_eq_some_iff.1 HSR.out).1).trans HSR.out); have HS2 := jh (HS.out.later HW.out); have HNK2 := jh (HNK.out.later HW.out)
   go_upto_region 9 with fail
   refine wp_region_lit ?_; refine ji (v := .agg SV) rfl (jg (jY HSR2.out Tryz.underlying33 rfl HSZS.out)) ?_; simp only [Act.put, pa, pb, pc]
   go_wp2_with fail
   refine (CD.out _ HNK2.out).mono ?_; rintro _ x1 ⟨rfl, hb⟩; have HS2 := jh (HS2.out.later hb); have HW := jw HW hb; clear hb HSR2 HNK2; dsimp only
   go_step
   refine ji (v := .bool true) rfl (by kernel_rfl) ?_; simp only [Act.put, pa, pb, pc]; refine js (v := .slice a j c) (by kernel_rfl) (by kernel_rfl) ?_; refine js (v := .int .i64 j) (by kernel_rfl) (by simp [go_sem]) ?_; refine js (v := .pointer (some ⟨SB, 18, none⟩)) (by kernel_rfl) (by kernel_rfl) ?_; refine js (v := .slice (some ⟨nb, no, none⟩) n cap) (by kernel_rfl) (jg (Jv HS2.out.nd)) ?_; refine js (v := .int .i64 n) (by kernel_rfl) (by simp [go_sem]) ?_; refine js (v := .pointer (some ⟨SB, 16, none⟩)) (by kernel_rfl) (by kernel_rfl) ?_; refine js (v := .int .i64 fa) (by kernel_rfl) (jg (loadI9 HS2.out.fa)) ?_; simp only [Act.put, pa, pb, pc]
   go_wp2_with fail
   refine (CQ.out _).mono ?_; rintro _ _ ⟨rfl, rfl⟩; dsimp only
   go_step
   refine js (v := .bool (decide (qs ≤ (j : Int)))) (by kernel_rfl) (by simp [go_sem]) ?_; refine ji (v := .bool (decide (qs ≤ (j : Int)))) rfl (by kernel_rfl) ?_; simp only [Act.put, pa, pb, pc]
   go_wp2_with fail
   go_ret
   exact ⟨rfl, Qt HB.out HW.out⟩
namespace Bal
def firstOf (L : List Bv) (x : Bv) : Bool := !(L.any fun y => decide (y.k = x.k ∧ y.v = x.v ∧ y.n = x.n))
def sameOf (L : List Bv) (x : Bv) : Bool := L.any fun y => decide (y.k = x.k ∧ y.v = x.v ∧ y.n = x.n ∧ y.s = x.s)
theorem firstOf_snoc (L : List Bv) (y x : Bv) : firstOf (L ++ [y]) x = (firstOf L x && !decide (y.k = x.k ∧ y.v = x.v ∧ y.n = x.n)) := by simp [firstOf]
theorem sameOf_snoc (L : List Bv) (y x : Bv) : sameOf (L ++ [y]) x = (sameOf L x || decide (y.k = x.k ∧ y.v = x.v ∧ y.n = x.n ∧ y.s = x.s)) := by simp [sameOf]
theorem sameOf_mem (L : List Bv) (x : Bv) : sameOf L x = decide (x ∈ L) := by
 unfold sameOf
 by_cases h : x ∈ L
 ·rw [decide_eq_true h, List.any_eq_true]; exact ⟨x, h, by simp⟩
 ·rw [decide_eq_false h, List.any_eq_false]; intro y hy; simp only [decide_eq_true_eq]; rintro ⟨h1, h2, h3, h4⟩; exact h (by cases x; cases y; simp_all)
theorem firstOf_at (L : List Bv) (x : Bv) : firstOf L x = decide ((at_ (kept L) x.k x.v x.n).length = 0) := by
 have h9 : (L.any fun y => decide (y.k = x.k ∧ y.v = x.v ∧ y.n = x.n)) = decide (0 < (at_ (kept L) x.k x.v x.n).length) := by
  by_cases h : 0 < (at_ (kept L) x.k x.v x.n).length
  ·rw [decide_eq_true h, List.any_eq_true]; obtain ⟨y, hy, h1⟩ := at_pos.1 h; exact ⟨y, mem_kept.1 hy, by simpa using h1⟩
  ·rw [decide_eq_false h, List.any_eq_false]; intro y hy; simp only [decide_eq_true_eq]; intro h1; exact h (at_pos.2 ⟨y, mem_kept.2 hy, h1⟩)
 unfold firstOf; rw [h9]
 by_cases h : (at_ (kept L) x.k x.v x.n).length = 0
 ·rw [decide_eq_true h, decide_eq_false (by omega)]
  rfl
 ·rw [decide_eq_false h, decide_eq_true (by omega)]
  rfl
def fullOf (E : List Bv) (N : Nat) (qs : Int) (k v q : Nat) : Nat := (List.range q).countP fun s => decide (qs ≤ ((votesOf E N k v s).length : Int))
theorem fullOf_succ (E : List Bv) (N : Nat) (qs : Int) (k v q : Nat) : fullOf E N qs k v (q + 1) = fullOf E N qs k v q + if qs ≤ ((votesOf E N k v q).length : Int) then 1 else 0 := by
 unfold fullOf; rw [List.range_succ, List.countP_append]
 simp [List.countP_cons]
theorem fullOf_le (E : List Bv) (N : Nat) (qs : Int) (k v q : Nat) : fullOf E N qs k v q ≤ q := by
 have := List.countP_le_length (l := List.range q) (p := fun s => decide (qs ≤ ((votesOf E N k v s).length : Int)))
 simpa [fullOf] using this
def setsUp (E : List Bv) (N k v n q : Nat) : Nat := ((List.range q).map fun s => (votesOf E N k v s).countP fun x => decide (x.n = n)).sum
theorem setsUp_succ (E : List Bv) (N k v n q : Nat) : setsUp E N k v n (q + 1) = setsUp E N k v n q + (votesOf E N k v q).countP fun x => decide (x.n = n) := by
 unfold setsUp; rw [List.range_succ]
 simp
theorem setsUp_four (E : List Bv) (N k v n : Nat) : setsUp E N k v n 4 = ZG E N k v n := rfl
def twoOf (E : List Bv) (N k v i : Nat) : Nat := (List.range i).countP fun j => decide (1 < ZG E N k v (j + 1))
theorem twoOf_succ (E : List Bv) (N k v i : Nat) : twoOf E N k v (i + 1) = twoOf E N k v i + if 1 < ZG E N k v (i + 1) then 1 else 0 := by
 unfold twoOf; rw [List.range_succ, List.countP_append]
 simp [List.countP_cons]
theorem twoOf_le (E : List Bv) (N k v i : Nat) : twoOf E N k v i ≤ i := by
 have := List.countP_le_length (l := List.range i) (p := fun j => decide (1 < ZG E N k v (j + 1)))
 simpa [twoOf] using this
theorem countN_succ (V : List Bv) (n p : Nat) {x : Bv} (h : V[p]? = some x) : (V.take (p + 1)).countP (fun x => decide (x.n = n)) = (V.take p).countP (fun x => decide (x.n = n)) + if x.n = n then 1 else 0 := by
 rw [List.take_add_one, h, List.countP_append]
 simp [List.countP_cons]
theorem votes_le {E : List Bv} (hE : E.Nodup) (N k v s : Nat) : (votesOf E N k v s).length ≤ N := by
 rw [votes_len hE]; have := List.countP_le_length (l := List.range N) (p := fun i => decide ((⟨k, v, i + 1, s⟩ : Bv) ∈ E))
 simpa using this
theorem flat_sorted (c : Nat → Prop) [DecidablePred c] (f : Nat → Bv) (hf : ∀ i, (f i).n = i + 1) : ∀ l : List Nat, l.Pairwise (· < ·) → (l.flatMap fun i => if c i then [f i] else []).Pairwise fun x y => x.n < y.n := by
 intro l
 induction l with
 | nil => intro _; simp
 | cons a r ih =>
  intro h; have h' := List.pairwise_cons.1 h; rw [List.flatMap_cons, List.pairwise_append]; refine ⟨by by_cases hc : c a <;> simp [hc], ih h'.2, ?_⟩; intro x hx y hy; obtain ⟨b, hb, hy⟩ := List.mem_flatMap.1 hy
  have h1 : x.n = a + 1 := by
   by_cases hc : c a
   ·rw [if_pos hc, List.mem_singleton] at hx; rw [hx, hf]
   ·rw [if_neg hc] at hx
    simp at hx
  have h2 : y.n = b + 1 := by
   by_cases hc : c b
   ·rw [if_pos hc, List.mem_singleton] at hy; rw [hy, hf]
   ·rw [if_neg hc] at hy
    simp at hy
  have := h'.1 b hb; omega
theorem votes_sorted {E : List Bv} (hE : E.Nodup) (N k v s : Nat) : (votesOf E N k v s).Pairwise fun x y => x.n < y.n := by
 rw [Qu hE]; exact flat_sorted (fun i => (⟨k, v, i + 1, s⟩ : Bv) ∈ E) (fun i => ⟨k, v, i + 1, s⟩) (fun _ => rfl) _ List.pairwise_lt_range
theorem one_says {E : List Bv} (hE : E.Nodup) {N k v : Nat} {fa : Int} (h0 : 0 ≤ fa) (h2 : fa ≤ 2) (h1 : 1 ≤ N) (h7 : N ≤ 7) (h : 1 < fullOf E N (Zw N fa) k v 4) : fa < (twoOf E N k v N : Int) := by
 obtain ⟨f, rfl⟩ : ∃ f : Nat, fa = (f : Int) := ⟨fa.toNat, by omega⟩
 have hq : Zw (N : Int) (f : Int) = (((N + f) / 2 + 1 : Nat) : Int) := by
  unfold Zw; rw [if_neg (by omega)]; omega
 rw [hq] at h
 have key : ∀ s t, s < 4 → t < 4 → s ≠ t → ((N + f) / 2 + 1 : Nat) ≤ (votesOf E N k v s).length → ((N + f) / 2 + 1 : Nat) ≤ (votesOf E N k v t).length → (f : Int) < (twoOf E N k v N : Int) := fun s t hs ht hst a b => by
  have := two_full hE hst hs ht a b; unfold twoOf; omega
 have r4 : List.range 4 = [0, 1, 2, 3] := by decide
 unfold fullOf at h; rw [r4] at h; simp only [List.countP_cons, List.countP_nil, decide_eq_true_eq, Int.ofNat_le] at h
 by_cases c0 : (N + f) / 2 + 1 ≤ (votesOf E N k v 0).length <;> by_cases c1 : (N + f) / 2 + 1 ≤ (votesOf E N k v 1).length <;> by_cases c2 : (N + f) / 2 + 1 ≤ (votesOf E N k v 2).length <;> by_cases c3 : (N + f) / 2 + 1 ≤ (votesOf E N k v 3).length <;>
  first
  | exact key 0 1 (by decide) (by decide) (by decide) c0 c1
  | exact key 0 2 (by decide) (by decide) (by decide) c0 c2
  | exact key 0 3 (by decide) (by decide) (by decide) c0 c3
  | exact key 1 2 (by decide) (by decide) (by decide) c1 c2
  | exact key 1 3 (by decide) (by decide) (by decide) c1 c3
  | exact key 2 3 (by decide) (by decide) (by decide) c2 c3
  | (exfalso; simp only [if_pos, *, if_false] at h; omega)
theorem setsUp_le {E : List Bv} (hE : E.Nodup) (N k v n q : Nat) (hn : n - 1 < N) : setsUp E N k v n q ≤ q := by
 induction q with
 | zero => exact Nat.le_refl _
 | succ q ih =>
  rw [setsUp_succ]
  have h1 : (votesOf E N k v q).countP (fun x => decide (x.n = n)) ≤ 1 := by
   cases n with
   | zero =>
    have h2 : (votesOf E N k v q).countP (fun x => decide (x.n = 0)) = 0 := by
     rw [List.countP_eq_zero]; intro x hx; have := (mem_votes hE).1 hx; simp only [decide_eq_true_eq]; omega
    omega
   | succ n =>
    rw [votes_node hE (by omega)]
    split <;> omega
  omega
end Bal
theorem putR_first (L : List Bal.Bv) (x : Bal.Bv) : putR (Bal.kept L) x = (Bal.firstOf L x, if (Bal.firstOf L x || Bal.sameOf L x) = true then 0 else 8) := by
 rw [Bal.firstOf_at, Bal.sameOf_mem]; unfold putR
 by_cases h : x ∈ L
 ·rw [if_pos (Bal.mem_kept.2 h), decide_eq_true h, Bool.or_true, if_pos rfl]; have h9 : 0 < (Bal.at_ (Bal.kept L) x.k x.v x.n).length := Bal.at_pos.2 ⟨x, Bal.mem_kept.2 h, rfl, rfl, rfl⟩; rw [decide_eq_false (by omega)]
 ·rw [if_neg (fun e => h (Bal.mem_kept.1 e)), decide_eq_false h, Bool.or_false]
  by_cases h9 : (Bal.at_ (Bal.kept L) x.k x.v x.n).length = 0
  ·rw [if_pos h9, decide_eq_true h9, if_pos rfl]
  ·rw [if_neg h9, decide_eq_false h9, if_neg (by decide)]
theorem far_mono {E : List Bal.Bv} {x : Bal.Bv} {n : Nat} {fa y z : Int} (h1 : FarIs E n fa y) (h2 : FarIs (Bal.bput E x) n fa z) : y ≤ z := by
 obtain ⟨D1, p1, s1, e1⟩ := h1; obtain ⟨D2, p2, s2, e2⟩ := h2; have l1 : D1.length = n := by rw [p1.length_eq, Jl]
 have l2 : D2.length = n := by rw [p2.length_eq, Jl]
 obtain ⟨i1, rfl⟩ := List.getElem?_eq_some_iff.1 e1; obtain ⟨i2, rfl⟩ := List.getElem?_eq_some_iff.1 e2; refine Int.not_lt.1 fun hlt => ?_
 have c1 := Bal.count_ge s1 _ i1; have c2 := Bal.count_gt s2 _ i2; rw [p1.countP_eq] at c1; rw [p2.countP_eq] at c2
 have k : ∀ (F : List Bal.Bv) (p : Int → Bool), (JL F n).countP p = (List.range n).countP fun i => p (Bal.farOf F (i + 1)) := fun F p => by
  unfold JL; rw [List.countP_map]
  rfl
 rw [k] at c1 c2
 have hle : (List.range n).countP (fun i => decide (D1[n - (fa + 1).toNat] ≤ Bal.farOf E (i + 1))) ≤ (List.range n).countP (fun i => decide (D2[n - (fa + 1).toNat] < Bal.farOf (Bal.bput E x) (i + 1))) := by
  refine List.countP_mono_left fun i _ h => ?_
  simp only [decide_eq_true_eq] at h ⊢; rw [Bal.far_bput]
  split <;> omega
 rw [l1] at c1; rw [l2] at c2; omega
theorem keys_lt9 {w : World} {b o : Nat} {ks : List (Nat × Nat)} (h : KeysAt w b o ks) (h0 : 0 < ks.length) : b < w.heap.size :=
 World.block_lt_of_cell? (a := ⟨b, _, none⟩) _ ((h 0 ks[0] (List.getElem?_eq_getElem h0)).1 0 (by decide))
theorem wpList_gopt {P : Program} {ops : Array Oper} {rest : List Oper} {o : Oper} {a : Act} {w : World} {Q : Exit → Act → World → Prop} {v : Value} (h : (execOp a.eval o).run P w = .ok (.value v) w) (k : ∀ u, (Region.wanted o (yielded ops a.tmps) = true → u = v) → wpList P ops Q rest (a.put o.dst u) w) : wpList P ops Q (o :: rest) a w :=
 wpList_step fun _ hK => by
  split
  ·unfold Oper.wp; rw [h]; exact hK _ _ (k v fun _ => rfl)
  ·rename_i hw
   exact hK _ _ (k undef fun h9 => absurd h9 hw)
theorem ballotsOne_walk {gp gq gg gh lg n cap m lc ep : Nat} {fa se : Int} {ao al : Option Addr} {sk : List (Nat × Nat)} {l : List Ch} (hgp : gp < jk) (hgq : gq < jk) (hgg : gg < jk) (hlg : lg < jk) (hfa : -9223372036854775808 ≤ fa ∧ fa ≤ 9223372036854775807) (hse : -9223372036854775808 ≤ se ∧ se ≤ 9223372036854775807) (hsk : ∀ k ∈ sk, k.1 < jk ∧ k.2 < jk) (hn : n = sk.length) (hcap : n ≤ cap) (hcm : cap ≤ maxLen) (hml : m = l.length) (hmc : m ≤ lc) (hlm : lc ≤ maxLen) (hch : ∀ c ∈ l, c.node < 256 ∧ c.set < 256 ∧ c.view < 256) (w : World) (hk : 0 < n → ∃ b o, ao = some ⟨b, o, none⟩ ∧ KeysAt w b o sk) (hc : 0 < m → ∃ lb lo, al = some ⟨lb, lo, none⟩ ∧ ChAt w lb lo l) :
  Calls Tryz.prog 6 #[zJ gp gq gg gh lg fa se (.slice ao n cap), .int .u64 ep, .slice al m lc] w fun e w' => e = .returned (.bool true) ∧ Below w.heap.size w w' := by
 have CW := jh (fun (W : World) (hb : Below w.heap.size w W) => by have h9 := lawset_any (gh := gh) hgp hgq hgg hlg hfa hse hsk hn hcap hcm W (fun h0 => by obtain ⟨b, o, h1, h2⟩ := hk h0; exact ⟨b, o, h1, h2.later hb⟩); exact h9); have HGP := jh hgp; have HGG := jh hgg; have HGQ := jh hgq; have HFA := jh hfa; have HSE := jh hse; have HN := jh hn; have HK := jh hk; have HC := jh hc; have HML := jh hml; have HCH := jh hch; have HLM := jh (And.intro hmc hlm); have hcx : cap ≤ 9223372036854775807 := by unfold maxLen at hcm; omega
 have hnx : n ≤ 9223372036854775807 := by omega
 have hmx : m ≤ 9223372036854775807 := by unfold maxLen at hlm; omega
 clear hgp hgq hgg hlg hfa hse hsk hn hcap hcm hml hmc hlm hch hk hc; obtain ⟨ZV, hZV⟩ : ∃ ZV, zJ gp gq gg gh lg fa se (.slice ao n cap) = .agg ZV := ⟨_, rfl⟩; have hszZ : (Tryz.prog.info? 29).map (·.size) = some ZV.size := by rw [info_c9]; have e9 := hZV; unfold zJ at e9; injection e9 with e9; rw [← e9]; rfl
 have HSZ := jh hszZ; have HZV := jh hZV; rw [hZV] at CW ⊢; clear hZV
 go_enter Tryz.func6, Tryz.ntmps6
 go_upto_region 1 with fail
 obtain ⟨v_1, e1⟩ := je (w.alloc (.cells ZV 29)); obtain ⟨CB, hCB⟩ := je (w.heap.size); have HB := jh (show Below w.heap.size w v_1 by rw [e1]; exact ja); have HZ := jh (show v_1.heap[CB]? = some (.cells ZV 29 (0, 0)) by rw [e1, hCB]; exact heap_alloc_new _ _); rw [← e1, ← hCB]; clear e1 hCB hszZ; refine wp_region_lit ?_; refine ji rfl (jg (jY HZ.out Tryz.underlying29 rfl HSZ.out)) ?_; simp only [Act.put, pa, pb, pc]
 go_wp2_with fail
 refine (CW.out _ HB.out).mono ?_; rintro _ v_2 ⟨p, q, g, h2, f9, s9, a9, n9, c9, ok, rfl, hok, hb⟩; have HZ := jb hb HZ; have HB := jw HB hb; clear hb; have HOK := jh hok; clear hok; obtain ⟨SV, hSV⟩ : ∃ SV, qr p q g h2 f9 s9 (.slice a9 n9 c9) = .agg SV := ⟨_, rfl⟩; rw [hSV]; dsimp only
 go_step
 refine ji (v := .tuple #[.agg SV, .bool ok]) rfl (by kernel_rfl) ?_; simp only [Act.put, pa, pb, pc]; refine ji (v := .agg SV) rfl (by kernel_rfl) ?_; simp only [Act.put, pa, pb, pc]; refine ji (v := .bool ok) rfl (by kernel_rfl) ?_; simp only [Act.put, pa, pb, pc]; have hszS : (Tryz.prog.info? 33).map (·.size) = some SV.size := by rw [Jq, Je hSV]
 have h1S := setV_one (by rfl) hSV; refine jV (v := .pointer (some ⟨v_2.heap.size, 0, none⟩)) (w' := v_2.alloc (.cells zero19 33)) rfl (by kernel_rfl) ?_; simp only [Act.put, pa, pb, pc]; refine jN rfl _ _ _ rfl zero19 SV rfl rfl hszS (by rw [Je hSV]; rfl) h1S ?_; simp only [Act.put, pa, pb, pc]
 go_upto_region 2 with fail
 obtain ⟨v_3, e9⟩ := je (v_2.alloc (.cells SV 33)); obtain ⟨SB, h9⟩ := je (v_2.heap.size); have hb := jc e9; have hrS : v_3.heap[SB]? = some (.cells SV 33 (0, 0)) := by rw [e9, h9]; exact heap_alloc_new _ _
 have hS : SAt v_3 SB p q g h2 f9 s9 (.slice a9 n9 c9) := by have e8 := hSV; unfold qr at e8; injection e8 with e8; rw [e9, h9, ← e8]; exact SAt.new _ _ _ _ _ _ _ _ _
 rw [← e9, ← h9]; have WSB := jh (show w.heap.size ≤ SB ∧ SB < v_3.heap.size by rw [h9, e9]; exact ⟨HB.out.size, by simp⟩); clear e9 h9; have HZ := jb hb HZ; have HB := jw HB hb; have HB23 := jh hb; have HS := jh hS; have HSR := jh hrS; have HSV := jh hSV; have HSZS := jh hszS; clear hb hS hrS hSV hszS h1S
 cases ok
 ·go_wp2_with (first | (go_at_call 8; refine (JX _).mono ?_; rintro _ wl ⟨rfl, hbl⟩; have HB := jw HB hbl; clear hbl))
  go_ret
  exact ⟨rfl, HB.out⟩
 obtain ⟨e1, e2, e3, e4, e5, e6, e7, hset⟩ := HOK.out rfl; clear HOK; subst e1 e2 e3 e5 e6 e7; subst e4; have HSET := jh hset; clear hset
 by_cases hn0 : n9 = 0
 ·have k0 : ((n9 : Int) == 0) = true := by simp; omega
  have y18 := HS.out.nd
  go_wp2_with (first | (go_at_call 8; refine (JX _).mono ?_; rintro _ wl ⟨rfl, hbl⟩; have HB := jw HB hbl; clear hbl))
  go_ret
  exact ⟨rfl, HB.out⟩
 have k0 : ((n9 : Int) == 0) = false := by simp; omega
 by_cases hml40 : 40 < m
 ·have k1 : (40 : Int) < (m : Int) := by omega
  have y18 := HS.out.nd
  go_wp2_with (first | (go_at_call 8; refine (JX _).mono ?_; rintro _ wl ⟨rfl, hbl⟩; have HB := jw HB hbl; clear hbl))
  go_ret
  exact ⟨rfl, HB.out⟩
 have k1 : ¬ (40 : Int) < (m : Int) := by omega
 have hn0 : 0 < n9 := by omega
 obtain ⟨kb, ko, rfl, hks⟩ := HK.out hn0; obtain ⟨nb0, no0, rfl, hnk⟩ := HSET.out.nodes hn0; have hstk := stOk_of HSET.out HGP.out HGQ.out HGG.out HFA.out HSE.out HN.out; obtain ⟨hpa, hgin, -⟩ := set_parts HSET.out.ok; have STK := jh hstk; have HG := jh hgin.1; have HPA := jh hpa; have HN0 := jh hn0; have HKS := jh hks; have H40 := jh (show m ≤ 40 by omega); have hm40 : (m : Int) ≤ 40 := by omega
 have HKY := jh (fun (k : Nat × Nat) (h9 : k ∈ sk) => HSET.out.keys k h9); clear hks hstk hpa hgin hn0 hml40; have HNK := jh (show KeysAt v_3 nb0 no0 (zQ p g (g ^ lg % p) sk) from hnk.later HB23.out); clear hnk HB23; have CN := jh (fun (W : World) (hk9 : KeysAt W nb0 no0 (zQ p g (g ^ lg % p) sk)) => by have h9 := BNew_any (cap := c9) (ep := ep) (vvS p q g ep sk) STK.out HN0.out W hk9; rewrite [HSV.out] at h9; exact h9); have CL := jh (fun (W : World) (hb9 : Below w.heap.size w W) => by have h9 := lvotes_any (ks := []) (g0 := gh) (lg := lg) (kc := cap) (nb := nb0) (no := no0) (cap := c9) (gh := g ^ lg % p) (ep := ep) (fa := f9) (se := s9) (lc := lc) HSET.out.may HGP.out HGG.out HSET.out.prime.2.1 HGQ.out (fun k hk => ⟨(HKY.out k hk).1, (HKY.out k hk).2.2.1⟩) HN.out HN0.out STK.out.hn7 HML.out H40.out HCH.out W (HKS.out.later hb9) (fun h0 => by obtain ⟨lb, lo, h1, h2⟩ := HC.out h0; exact ⟨lb, lo, h1, h2.later hb9⟩); rewrite [HSV.out, HZV.out] at h9; exact h9); have y18 := HS.out.nd
 go_upto_region 4 with fail
 clear y18 k0 k1; refine wp_region_lit ?_; refine ji rfl (jg (jY HSR.out Tryz.underlying33 rfl HSZS.out)) ?_; simp only [Act.put, pa, pb, pc]; have LT3 := jh HB.out.size; have ZLT := jh (show CB < v_3.heap.size ∧ SB < v_3.heap.size ∧ nb0 < v_3.heap.size from ⟨(Array.getElem?_eq_some_iff.1 HZ.out).1, (Array.getElem?_eq_some_iff.1 HSR.out).1, keys_lt9 HNK.out (by unfold zQ; rw [List.length_map]; have h1 := HN.out; have h2 := HN0.out; omega)⟩)
 go_upto_region 7 with (first | (go_at_call 9; refine (CN.out _ HNK.out).mono ?_; rintro _ v_4 ⟨bx, nb, no, c2, mb, fb, rfl, hbx, hge, hb⟩))
 have hlow : ∀ b, b < v_3.heap.size → v_4.heap[b]? = v_3.heap[b]? := fun b h9 => hb.block b h9
 have HLOW := jh hlow; have HB := jw HB hb; have HBX := jh hbx; have HGE := jh hge; have LT4 := jh hb.size; clear hb hbx hge hlow; have LZ4 := jh (jY (P := Tryz.prog) ((HLOW.out _ ZLT.out.1).trans HZ.out) Tryz.underlying29 rfl HSZ.out); have LS4 := jh (jY (P := Tryz.prog) ((HLOW.out _ ZLT.out.2.1).trans HSR.out) Tryz.underlying33 rfl HSZS.out); refine wp_region_lit ?_; refine ji rfl (jg LZ4.out) ?_; refine ji rfl (jg LS4.out) ?_; simp only [Act.put, pa, pb, pc]; have HBX4 := jh (show mb < v_4.heap.size ∧ fb < v_4.heap.size from ⟨HBX.out.lt.2.2.1, HBX.out.lt.2.2.2⟩)
 go_upto_region 8 with (first | (go_at_call 10; refine (CL.out _ HB.out).mono ?_; rintro _ v_5 ⟨u, rfl, hu, hb⟩))
 have HBX := jh (HBX.out.later hb).rebase; have HB := jw HB hb; have LT5 := jh hb.size; have HLOW := jh (fun (b : Nat) (h9 : b < v_3.heap.size) => (hb.block b (Nat.lt_of_lt_of_le h9 LT4.out)).trans (HLOW.out b h9)); obtain ⟨base, hbase⟩ := je (v_5.heap.size); rw [← hbase] at HBX; obtain ⟨LL, hLL⟩ := je (l.map (bvOf n9)); rw [← hLL] at hu; have hLm : LL.length = m := by rw [hLL, List.length_map]; exact HML.out.symm
 have hgood : ∀ y ∈ LL, GoodV n9 y := by rw [hLL]; intro y hy; obtain ⟨c, hc, rfl⟩ := List.mem_map.1 hy; exact good_of HN0.out (HCH.out c hc).2.2
 have HLm := jh hLm; have HGD := jh hgood; obtain ⟨ua, uc, rfl⟩ := hu.shape9; have HU := jh hu; have NU := jh (fun (k : Nat) (hk : (Value.slice ua m uc).ownBlock = some k) => show k < base ∧ k ≠ mb ∧ k ≠ fb by have h1 := hu.lt k hk; have h2 := HBX4.out; omega); have NL3 := jh (show v_3.heap.size ≤ mb ∧ v_3.heap.size ≤ fb ∧ v_3.heap.size ≤ base by have h1 := HGE.out; have h2 := LT4.out; have h3 := LT5.out; omega); have NW := jh (show w.heap.size ≤ mb ∧ w.heap.size ≤ fb ∧ w.heap.size ≤ base by have h1 := NL3.out; have h2 := LT3.out; omega); clear hb hu hbase hLL hLm hgood LZ4 LS4; obtain ⟨qs, hqs⟩ := je (Zw n9 f9); have HQS := jh hqs; clear hqs
 go_wp2_with fail
 go_loopw [12, 13] (fun a i wr => ∃ (j : Nat) (f : Value → Option Value) (G : Int), j ≤ m ∧ i = .int .i64 j ∧ a = .int .u32 G ∧ Hid (G = 0 ∨ ∃ z, FarIs (Bal.kept (LL.take j)) n9 f9 z ∧ G = max 0 z) ∧ Hid (BoxAt wr bx p q g (g ^ lg % p) n9 c2 nb no mb fb 0 n9 ep base f9 s9 (zQ p g (g ^ lg % p) sk) (vvS p q g ep sk) f (Bal.kept (LL.take j))) ∧ Hid (OwnV wr v_4.heap.size 52 44 (.slice ua m uc) m (LL.flatMap (vvS p q g ep sk))) ∧ Hid (∀ b, b < v_3.heap.size → wr.heap[b]? = v_3.heap[b]?) ∧ Hid (Below w.heap.size w wr)) (fun _ i _ => m - (intOf i).toNat)
 case atStart => exact ⟨0, _, 0, Nat.zero_le _, rfl, rfl, jh (Or.inl rfl), HBX, HU, HLOW, HB⟩
 case round => as_aux_lemma =>
  clear HBX HU HLOW HB; obtain ⟨j, f, G, hj, rfl, rfl, HG0, HBX, HU, HLOW, HB⟩ := hrel; obtain ⟨wo, rfl⟩ : ∃ wo : World, wo = wr := ⟨_, rfl⟩
  by_cases hlt : j < m
  ·have hltI : (j : Int) < (m : Int) := by omega
   have hm40I : (m : Int) ≤ 40 := by have := H40.out; omega
   have hjI : (0 : Int) ≤ (j : Int) := by omega
   have hj40 : (j : Int) ≤ 40 := by omega
   obtain ⟨x, hx⟩ : ∃ x, LL[j]? = some x := ⟨_, List.getElem?_eq_getElem (by have := HLm.out; omega)⟩; obtain ⟨ub, uo, uc9, hue, hva⟩ := zX HU.out (by omega); injection hue with hue _ huc
   subst hue; subst huc; have hgx := HGD.out x (List.mem_of_getElem? hx); obtain ⟨VL, hVL⟩ := je (vvS p q g ep sk x); have hVs : VL.length = 44 := by rw [hVL]; exact jQ _ _ _ _
   have hV1 : ∀ u ∈ VL, u.oneCell' = true := by rw [hVL]; exact Qf _ _ _ _
   have LV := jh (show (Instr.loadAt 52 (.pointer (some ⟨ub, uo + j * 44, none⟩))).run Tryz.prog wo = .ok (.agg VL.toArray) wo by rw [hVL]; exact loadV (hva.at (jQ _ _ _) hx) (jQ _ _ _ _)); have hszV : (Tryz.prog.info? 52).map (·.size) = some VL.toArray.size := by rw [qd]; simp [hVs]
   have hklen : (Bal.kept (LL.take j)).length ≤ 1000 := by have h1 := kept_len (LL.take j); have h2 : (LL.take j).length ≤ j := List.length_take_le _ _; omega
   have hsn : Bal.kept (LL.take (j + 1)) = Bal.bput (Bal.kept (LL.take j)) x := by rw [List.take_add_one, hx]; exact Bal.kept_snoc _ _
   have CP := jh (fun (W : World) (hb9 : Below wo.heap.size wo W) => by have h9 := BPut_any STK.out HG.out hgx hklen W (HBX.out.later hb9); rewrite [← hVL, putR_first, ← hsn] at h9; exact h9); obtain ⟨I1, hI1⟩ := je (Bal.firstOf (LL.take j) x); obtain ⟨I2, hI2⟩ := je (Bal.sameOf (LL.take j) x); rw [← hI1, ← hI2] at CP; dsimp only at CP; obtain ⟨R2, hR2⟩ : ∃ R : Int, R = if (I1 || I2) = true then 0 else 8 := ⟨_, rfl⟩
   rw [← hR2] at CP; have HI1 := jh hI1; have HI2 := jh hI2; have E5 := jh (show (R2 == 0) = (I1 || I2) by rw [hR2]; cases I1 <;> cases I2 <;> rfl); have HSN := jh hsn; have HVA := jh hva; have HX := jh hx; have HGX := jh hgx; have HVS := jh hVs; have HV1 := jh hV1; have HSZV := jh hszV; have HVL := jh hVL; have HLT := jh hlt; clear hva hx hlt hVL hVs hV1 hszV hgx hklen hsn hI1 hI2 hR2 hj
   go_upto_region 12 with fail
   refine wp_region_lit ?_; refine ji (v := .slice (some ⟨ub, uo, none⟩) m uc) rfl (by kernel_rfl) ?_; refine ji (v := .int .i64 j) rfl (by kernel_rfl) ?_; refine ji (v := .pointer (some ⟨ub, uo + j * 44, none⟩)) rfl (by simp [go_sem, hltI, hjI]) ?_; refine ji rfl (jg LV.out) ?_; simp only [Act.put, pa, pb, pc]; refine jV (v := .pointer (some ⟨wo.heap.size, 0, none⟩)) (w' := wo.alloc (.cells qZ 52)) rfl (by kernel_rfl) ?_; simp only [Act.put, pa, pb, pc]; refine jN rfl _ _ _ rfl qZ VL.toArray rfl rfl HSZV.out (by simp [HVS.out, qZ]) (all_oneCell_toArray HV1.out) ?_; simp only [Act.put, pa, pb, pc]
   go_upto_region 13 with fail
   obtain ⟨x0, e9⟩ := je (wo.alloc (.cells VL.toArray 52)); obtain ⟨VB, h9⟩ := je (wo.heap.size); have hb := jc e9; have HVR := jh (show x0.heap[VB]? = some (.cells VL.toArray 52 (0, 0)) by rw [e9, h9]; exact heap_alloc_new _ _); have LVB := jh (show wo.heap.size ≤ VB ∧ VB < x0.heap.size by rw [h9, e9]; exact ⟨Nat.le_refl _, by simp⟩); rw [← e9, ← h9]; have HV := jh (show x0.rangeAt VB 0 (jH x.k ep x.v x.n (qM x.s) (ZN p q g ep sk x) (ZQ p q g ep sk x)) by have h8 := qo HVR.out; rw [HVL.out] at h8; exact h8); have HW := jh hb; clear e9 h9 hb LV
   go_wp2_with fail
   go_loopw [15, 16, 17] (fun a b i wr => ∃ q9 : Nat, q9 ≤ j ∧ a = .bool (Bal.firstOf (LL.take q9) x) ∧ b = .bool (Bal.sameOf (LL.take q9) x) ∧ i = .int .i64 q9 ∧ Hid (Below x0.heap.size x0 wr)) (fun _ _ i _ => j - (intOf i).toNat)
   case atStart => exact ⟨0, Nat.zero_le _, rfl, rfl, rfl, jh (Below.refl _ _)⟩
   case round => as_aux_lemma =>
    obtain ⟨q9, hq, rfl, rfl, rfl, HW2⟩ := hrel; obtain ⟨wk, rfl⟩ : ∃ wk : World, wk = wr := ⟨_, rfl⟩; obtain ⟨J1, hJ1⟩ := je (Bal.firstOf (LL.take q9) x); obtain ⟨J2, hJ2⟩ := je (Bal.sameOf (LL.take q9) x); rw [← hJ1, ← hJ2]; have HJ1 := jh hJ1; have HJ2 := jh hJ2; clear hJ1 hJ2
    by_cases hlt : q9 < j
    ·have hltJ : (q9 : Int) < (j : Int) := by omega
     have hltM : (q9 : Int) < (m : Int) := by omega
     have hq0 : (0 : Int) ≤ (q9 : Int) := by omega
     obtain ⟨y, hy⟩ : ∃ y, LL[q9]? = some y := ⟨_, List.getElem?_eq_getElem (by have := HLm.out; omega)⟩; have HY := jh (show wk.rangeAt ub (uo + q9 * 44) (jH y.k ep y.v y.n (qM y.s) (ZN p q g ep sk y) (ZQ p q g ep sk y)) from jp (jp (HVA.out.at (jQ _ _ _) hy) HW.out) HW2.out); have HV2 := jh (jp HV.out HW2.out); have HYL := jh hy; have HQ := jh hlt; clear hy hlt hq
     go_upto_region 18 with fail
     by_cases hk9 : y.k = x.k
     rotate_left
     ·have EK := jh (show ((y.k : Int) == (x.k : Int)) = false by simp; omega); have HNE := jh (show ¬ (y.k = x.k ∧ y.v = x.v ∧ y.n = x.n) from fun e => hk9 e.1); have HNS := jh (show ¬ (y.k = x.k ∧ y.v = x.v ∧ y.n = x.n ∧ y.s = x.s) from fun e => HNE.out ⟨e.1, e.2.1, e.2.2.1⟩); clear hk9; refine jx (.take 0 (.take 1 (.take 2 (.take 3 (.take 4 (.take 5 (.take 6 (.take 7 (.take 8 (.take 9 (.take 10 (.take 11 (.take 12 (.take 13 (.take 14 (.take 15 (.take 16 (.take 17 (.take 18 (.take 19 (.take 20 (.take 21 (.take 22 (.take 23 (.take 24 (.take 25 (.take 26 (.take 27 .done)))))))))))))))))))))))))))) (fun w8 => w8.rangeAt ub (uo + q9 * 44) (jH y.k ep y.v y.n (qM y.s) (ZN p q g ep sk y) (ZQ p q g ep sk y)) ∧ w8.rangeAt VB 0 (jH x.k ep x.v x.n (qM x.s) (ZN p q g ep sk x) (ZQ p q g ep sk x))) (by kernel_rfl) (by kernel_rfl) (fun _ _ _ _ _ h => h) (⟨jp HY.out ((Below.refl _ _).drew), jp HV2.out ((Below.refl _ _).drew)⟩) (fun hHeld => ?_); obtain ⟨wd, e1⟩ := je (wk.drew); rw [← e1]; have hb : Below wk.heap.size wk wd := by rw [e1]; exact (Below.refl _ _).drew
      clear e1; have HY := jh (jp HY.out hb); have HV2 := jh (jp HV2.out hb); have HW2 := jw HW2 hb; clear hb; refine WT.tk (v := .slice (some ⟨ub, uo, none⟩) m uc) rfl (fun w8 hSw => by kernel_rfl) (k := ?_); refine WT.tk (v := .int .i64 q9) rfl (fun w8 hSw => by kernel_rfl) (k := ?_); refine WT.tk (v := .pointer (some ⟨ub, uo + q9 * 44, none⟩)) rfl (fun w8 hSw => by simp [go_sem, hltM, hq0]) (k := ?_); refine WT.tk (v := .pointer (some ⟨ub, uo + q9 * 44, none⟩)) rfl (fun w8 hSw => by kernel_rfl) (k := ?_); refine WT.tk (v := .int .u8 y.k) rfl (fun w8 hSw => jg (zi (JP hSw.1))) (k := ?_); refine WT.tk (v := .pointer (some ⟨VB, 0, none⟩)) rfl (fun w8 hSw => by kernel_rfl) (k := ?_); refine WT.tk (v := .int .u8 x.k) rfl (fun w8 hSw => jg (zi (JP hSw.2))) (k := ?_); refine WT.tk (v := .bool false) rfl (fun w8 hSw => by have e9 := EK.out; simp [go_sem, e9]) (k := ?_); refine WT.tk (v := .bool false) rfl (fun w8 hSw => by kernel_rfl) (k := ?_)
      iterate 8
       refine WT.tu rfl (k := ?_)
      iterate 2
       refine WT.tk (v := .bool false) rfl (fun w8 hSw => by kernel_rfl) (k := ?_)
      iterate 8
       refine WT.tu rfl (k := ?_)
      refine WT.tk (v := .bool false) rfl (fun w8 hSw => by kernel_rfl) (k := ?_); refine WT.done ?_; clear hHeld
      go_wp2_with fail
      go_roundw
      case rel => exact ⟨q9 + 1, HQ.out, by rw [List.take_add_one, HYL.out]; show _ = Value.bool (Bal.firstOf (LL.take q9 ++ [y]) x); rw [Bal.firstOf_snoc, ← HJ1.out]; rw [decide_eq_false HNE.out]; simp, by rw [List.take_add_one, HYL.out]; show _ = Value.bool (Bal.sameOf (LL.take q9 ++ [y]) x); rw [Bal.sameOf_snoc, ← HJ2.out]; rw [decide_eq_false HNS.out]; simp, by go_num, HW2⟩
      case measure => simp [intOf]; have := HQ.out; omega
     have EK := jh (show ((y.k : Int) == (x.k : Int)) = true by simp; omega)
     by_cases hv9 : y.v = x.v
     rotate_left
     ·have EV := jh (show ((y.v : Int) == (x.v : Int)) = false by simp; omega); have HNE := jh (show ¬ (y.k = x.k ∧ y.v = x.v ∧ y.n = x.n) from fun e => hv9 e.2.1); have HNS := jh (show ¬ (y.k = x.k ∧ y.v = x.v ∧ y.n = x.n ∧ y.s = x.s) from fun e => HNE.out ⟨e.1, e.2.1, e.2.2.1⟩); clear hk9 hv9; refine jx (.take 0 (.take 1 (.take 2 (.take 3 (.take 4 (.take 5 (.take 6 (.take 7 (.take 8 (.take 9 (.take 10 (.take 11 (.take 12 (.take 13 (.take 14 (.take 15 (.take 16 (.take 17 (.take 18 (.take 19 (.take 20 (.take 21 (.take 22 (.take 23 (.take 24 (.take 25 (.take 26 (.take 27 .done)))))))))))))))))))))))))))) (fun w8 => w8.rangeAt ub (uo + q9 * 44) (jH y.k ep y.v y.n (qM y.s) (ZN p q g ep sk y) (ZQ p q g ep sk y)) ∧ w8.rangeAt VB 0 (jH x.k ep x.v x.n (qM x.s) (ZN p q g ep sk x) (ZQ p q g ep sk x))) (by kernel_rfl) (by kernel_rfl) (fun _ _ _ _ _ h => h) (⟨jp HY.out ((Below.refl _ _).drew), jp HV2.out ((Below.refl _ _).drew)⟩) (fun hHeld => ?_); obtain ⟨wd, e1⟩ := je (wk.drew); rw [← e1]; have hb : Below wk.heap.size wk wd := by rw [e1]; exact (Below.refl _ _).drew
      clear e1; have HY := jh (jp HY.out hb); have HV2 := jh (jp HV2.out hb); have HW2 := jw HW2 hb; clear hb; refine WT.tk (v := .slice (some ⟨ub, uo, none⟩) m uc) rfl (fun w8 hSw => by kernel_rfl) (k := ?_); refine WT.tk (v := .int .i64 q9) rfl (fun w8 hSw => by kernel_rfl) (k := ?_); refine WT.tk (v := .pointer (some ⟨ub, uo + q9 * 44, none⟩)) rfl (fun w8 hSw => by simp [go_sem, hltM, hq0]) (k := ?_); refine WT.tk (v := .pointer (some ⟨ub, uo + q9 * 44, none⟩)) rfl (fun w8 hSw => by kernel_rfl) (k := ?_); refine WT.tk (v := .int .u8 y.k) rfl (fun w8 hSw => jg (zi (JP hSw.1))) (k := ?_); refine WT.tk (v := .pointer (some ⟨VB, 0, none⟩)) rfl (fun w8 hSw => by kernel_rfl) (k := ?_); refine WT.tk (v := .int .u8 x.k) rfl (fun w8 hSw => jg (zi (JP hSw.2))) (k := ?_); refine WT.tk (v := .bool true) rfl (fun w8 hSw => by have e9 := EK.out; simp [go_sem, e9]) (k := ?_); refine WT.tk (v := .bool true) rfl (fun w8 hSw => by kernel_rfl) (k := ?_); refine WT.tk (v := .slice (some ⟨ub, uo, none⟩) m uc) rfl (fun w8 hSw => by kernel_rfl) (k := ?_); refine WT.tk (v := .int .i64 q9) rfl (fun w8 hSw => by kernel_rfl) (k := ?_); refine WT.tk (v := .pointer (some ⟨ub, uo + q9 * 44, none⟩)) rfl (fun w8 hSw => by simp [go_sem, hltM, hq0]) (k := ?_); refine WT.tk (v := .pointer (some ⟨ub, uo + q9 * 44 + 2, none⟩)) rfl (fun w8 hSw => by kernel_rfl) (k := ?_); refine WT.tk (v := .int .u32 y.v) rfl (fun w8 hSw => jg (qH (Qh hSw.1))) (k := ?_); refine WT.tk (v := .pointer (some ⟨VB, 2, none⟩)) rfl (fun w8 hSw => by kernel_rfl) (k := ?_); refine WT.tk (v := .int .u32 x.v) rfl (fun w8 hSw => jg (qH (Qh hSw.2))) (k := ?_); refine WT.tk (v := .bool false) rfl (fun w8 hSw => by have e9 := EV.out; simp [go_sem, e9]) (k := ?_)
      iterate 2
       refine WT.tk (v := .bool false) rfl (fun w8 hSw => by kernel_rfl) (k := ?_)
      iterate 8
       refine WT.tu rfl (k := ?_)
      refine WT.tk (v := .bool false) rfl (fun w8 hSw => by kernel_rfl) (k := ?_); refine WT.done ?_; clear hHeld
      go_wp2_with fail
      go_roundw
      case rel => exact ⟨q9 + 1, HQ.out, by rw [List.take_add_one, HYL.out]; show _ = Value.bool (Bal.firstOf (LL.take q9 ++ [y]) x); rw [Bal.firstOf_snoc, ← HJ1.out]; rw [decide_eq_false HNE.out]; simp, by rw [List.take_add_one, HYL.out]; show _ = Value.bool (Bal.sameOf (LL.take q9 ++ [y]) x); rw [Bal.sameOf_snoc, ← HJ2.out]; rw [decide_eq_false HNS.out]; simp, by go_num, HW2⟩
      case measure => simp [intOf]; have := HQ.out; omega
     have EV := jh (show ((y.v : Int) == (x.v : Int)) = true by simp; omega)
     by_cases hn9 : y.n = x.n
     rotate_left
     ·have EN := jh (show ((y.n : Int) == (x.n : Int)) = false by simp; omega); have HNE := jh (show ¬ (y.k = x.k ∧ y.v = x.v ∧ y.n = x.n) from fun e => hn9 e.2.2); have HNS := jh (show ¬ (y.k = x.k ∧ y.v = x.v ∧ y.n = x.n ∧ y.s = x.s) from fun e => HNE.out ⟨e.1, e.2.1, e.2.2.1⟩); clear hk9 hv9 hn9; refine jx (.take 0 (.take 1 (.take 2 (.take 3 (.take 4 (.take 5 (.take 6 (.take 7 (.take 8 (.take 9 (.take 10 (.take 11 (.take 12 (.take 13 (.take 14 (.take 15 (.take 16 (.take 17 (.take 18 (.take 19 (.take 20 (.take 21 (.take 22 (.take 23 (.take 24 (.take 25 (.take 26 (.take 27 .done)))))))))))))))))))))))))))) (fun w8 => w8.rangeAt ub (uo + q9 * 44) (jH y.k ep y.v y.n (qM y.s) (ZN p q g ep sk y) (ZQ p q g ep sk y)) ∧ w8.rangeAt VB 0 (jH x.k ep x.v x.n (qM x.s) (ZN p q g ep sk x) (ZQ p q g ep sk x))) (by kernel_rfl) (by kernel_rfl) (fun _ _ _ _ _ h => h) (⟨jp HY.out ((Below.refl _ _).drew), jp HV2.out ((Below.refl _ _).drew)⟩) (fun hHeld => ?_); obtain ⟨wd, e1⟩ := je (wk.drew); rw [← e1]; have hb : Below wk.heap.size wk wd := by rw [e1]; exact (Below.refl _ _).drew
      clear e1; have HY := jh (jp HY.out hb); have HV2 := jh (jp HV2.out hb); have HW2 := jw HW2 hb; clear hb; refine WT.tk (v := .slice (some ⟨ub, uo, none⟩) m uc) rfl (fun w8 hSw => by kernel_rfl) (k := ?_); refine WT.tk (v := .int .i64 q9) rfl (fun w8 hSw => by kernel_rfl) (k := ?_); refine WT.tk (v := .pointer (some ⟨ub, uo + q9 * 44, none⟩)) rfl (fun w8 hSw => by simp [go_sem, hltM, hq0]) (k := ?_); refine WT.tk (v := .pointer (some ⟨ub, uo + q9 * 44, none⟩)) rfl (fun w8 hSw => by kernel_rfl) (k := ?_); refine WT.tk (v := .int .u8 y.k) rfl (fun w8 hSw => jg (zi (JP hSw.1))) (k := ?_); refine WT.tk (v := .pointer (some ⟨VB, 0, none⟩)) rfl (fun w8 hSw => by kernel_rfl) (k := ?_); refine WT.tk (v := .int .u8 x.k) rfl (fun w8 hSw => jg (zi (JP hSw.2))) (k := ?_); refine WT.tk (v := .bool true) rfl (fun w8 hSw => by have e9 := EK.out; simp [go_sem, e9]) (k := ?_); refine WT.tk (v := .bool true) rfl (fun w8 hSw => by kernel_rfl) (k := ?_); refine WT.tk (v := .slice (some ⟨ub, uo, none⟩) m uc) rfl (fun w8 hSw => by kernel_rfl) (k := ?_); refine WT.tk (v := .int .i64 q9) rfl (fun w8 hSw => by kernel_rfl) (k := ?_); refine WT.tk (v := .pointer (some ⟨ub, uo + q9 * 44, none⟩)) rfl (fun w8 hSw => by simp [go_sem, hltM, hq0]) (k := ?_); refine WT.tk (v := .pointer (some ⟨ub, uo + q9 * 44 + 2, none⟩)) rfl (fun w8 hSw => by kernel_rfl) (k := ?_); refine WT.tk (v := .int .u32 y.v) rfl (fun w8 hSw => jg (qH (Qh hSw.1))) (k := ?_); refine WT.tk (v := .pointer (some ⟨VB, 2, none⟩)) rfl (fun w8 hSw => by kernel_rfl) (k := ?_); refine WT.tk (v := .int .u32 x.v) rfl (fun w8 hSw => jg (qH (Qh hSw.2))) (k := ?_); refine WT.tk (v := .bool true) rfl (fun w8 hSw => by have e9 := EV.out; simp [go_sem, e9]) (k := ?_)
      iterate 2
       refine WT.tk (v := .bool true) rfl (fun w8 hSw => by kernel_rfl) (k := ?_)
      refine WT.tk (v := .slice (some ⟨ub, uo, none⟩) m uc) rfl (fun w8 hSw => by kernel_rfl) (k := ?_); refine WT.tk (v := .int .i64 q9) rfl (fun w8 hSw => by kernel_rfl) (k := ?_); refine WT.tk (v := .pointer (some ⟨ub, uo + q9 * 44, none⟩)) rfl (fun w8 hSw => by simp [go_sem, hltM, hq0]) (k := ?_); refine WT.tk (v := .pointer (some ⟨ub, uo + q9 * 44 + 3, none⟩)) rfl (fun w8 hSw => by kernel_rfl) (k := ?_); refine WT.tk (v := .int .u8 y.n) rfl (fun w8 hSw => jg (Zy (Qb hSw.1))) (k := ?_); refine WT.tk (v := .pointer (some ⟨VB, 3, none⟩)) rfl (fun w8 hSw => by kernel_rfl) (k := ?_); refine WT.tk (v := .int .u8 x.n) rfl (fun w8 hSw => jg (Zy (Qb hSw.2))) (k := ?_); refine WT.tk (v := .bool false) rfl (fun w8 hSw => by have e9 := EN.out; simp [go_sem, e9]) (k := ?_); refine WT.tk (v := .bool false) rfl (fun w8 hSw => by kernel_rfl) (k := ?_); refine WT.done ?_; clear hHeld
      go_wp2_with fail
      go_roundw
      case rel => exact ⟨q9 + 1, HQ.out, by rw [List.take_add_one, HYL.out]; show _ = Value.bool (Bal.firstOf (LL.take q9 ++ [y]) x); rw [Bal.firstOf_snoc, ← HJ1.out]; rw [decide_eq_false HNE.out]; simp, by rw [List.take_add_one, HYL.out]; show _ = Value.bool (Bal.sameOf (LL.take q9 ++ [y]) x); rw [Bal.sameOf_snoc, ← HJ2.out]; rw [decide_eq_false HNS.out]; simp, by go_num, HW2⟩
      case measure => simp [intOf]; have := HQ.out; omega
     have EN := jh (show ((y.n : Int) == (x.n : Int)) = true by simp; omega); have HEQ := jh (show y.k = x.k ∧ y.v = x.v ∧ y.n = x.n from ⟨hk9, hv9, hn9⟩); clear hk9 hv9 hn9; refine jx (.take 0 (.take 1 (.take 2 (.take 3 (.take 4 (.take 5 (.take 6 (.take 7 (.take 8 (.take 9 (.take 10 (.take 11 (.take 12 (.take 13 (.take 14 (.take 15 (.take 16 (.take 17 (.take 18 (.take 19 (.take 20 (.take 21 (.take 22 (.take 23 (.take 24 (.take 25 (.take 26 (.take 27 .done)))))))))))))))))))))))))))) (fun w8 => w8.rangeAt ub (uo + q9 * 44) (jH y.k ep y.v y.n (qM y.s) (ZN p q g ep sk y) (ZQ p q g ep sk y)) ∧ w8.rangeAt VB 0 (jH x.k ep x.v x.n (qM x.s) (ZN p q g ep sk x) (ZQ p q g ep sk x))) (by kernel_rfl) (by kernel_rfl) (fun _ _ _ _ _ h => h) (⟨jp HY.out ((Below.refl _ _).drew), jp HV2.out ((Below.refl _ _).drew)⟩) (fun hHeld => ?_); obtain ⟨wd, e1⟩ := je (wk.drew); rw [← e1]; have hb : Below wk.heap.size wk wd := by rw [e1]; exact (Below.refl _ _).drew
     clear e1; have HY := jh (jp HY.out hb); have HV2 := jh (jp HV2.out hb); have HW2 := jw HW2 hb; clear hb; refine WT.tk (v := .slice (some ⟨ub, uo, none⟩) m uc) rfl (fun w8 hSw => by kernel_rfl) (k := ?_); refine WT.tk (v := .int .i64 q9) rfl (fun w8 hSw => by kernel_rfl) (k := ?_); refine WT.tk (v := .pointer (some ⟨ub, uo + q9 * 44, none⟩)) rfl (fun w8 hSw => by simp [go_sem, hltM, hq0]) (k := ?_); refine WT.tk (v := .pointer (some ⟨ub, uo + q9 * 44, none⟩)) rfl (fun w8 hSw => by kernel_rfl) (k := ?_); refine WT.tk (v := .int .u8 y.k) rfl (fun w8 hSw => jg (zi (JP hSw.1))) (k := ?_); refine WT.tk (v := .pointer (some ⟨VB, 0, none⟩)) rfl (fun w8 hSw => by kernel_rfl) (k := ?_); refine WT.tk (v := .int .u8 x.k) rfl (fun w8 hSw => jg (zi (JP hSw.2))) (k := ?_); refine WT.tk (v := .bool true) rfl (fun w8 hSw => by have e9 := EK.out; simp [go_sem, e9]) (k := ?_); refine WT.tk (v := .bool true) rfl (fun w8 hSw => by kernel_rfl) (k := ?_); refine WT.tk (v := .slice (some ⟨ub, uo, none⟩) m uc) rfl (fun w8 hSw => by kernel_rfl) (k := ?_); refine WT.tk (v := .int .i64 q9) rfl (fun w8 hSw => by kernel_rfl) (k := ?_); refine WT.tk (v := .pointer (some ⟨ub, uo + q9 * 44, none⟩)) rfl (fun w8 hSw => by simp [go_sem, hltM, hq0]) (k := ?_); refine WT.tk (v := .pointer (some ⟨ub, uo + q9 * 44 + 2, none⟩)) rfl (fun w8 hSw => by kernel_rfl) (k := ?_); refine WT.tk (v := .int .u32 y.v) rfl (fun w8 hSw => jg (qH (Qh hSw.1))) (k := ?_); refine WT.tk (v := .pointer (some ⟨VB, 2, none⟩)) rfl (fun w8 hSw => by kernel_rfl) (k := ?_); refine WT.tk (v := .int .u32 x.v) rfl (fun w8 hSw => jg (qH (Qh hSw.2))) (k := ?_); refine WT.tk (v := .bool true) rfl (fun w8 hSw => by have e9 := EV.out; simp [go_sem, e9]) (k := ?_)
     iterate 2
      refine WT.tk (v := .bool true) rfl (fun w8 hSw => by kernel_rfl) (k := ?_)
     refine WT.tk (v := .slice (some ⟨ub, uo, none⟩) m uc) rfl (fun w8 hSw => by kernel_rfl) (k := ?_); refine WT.tk (v := .int .i64 q9) rfl (fun w8 hSw => by kernel_rfl) (k := ?_); refine WT.tk (v := .pointer (some ⟨ub, uo + q9 * 44, none⟩)) rfl (fun w8 hSw => by simp [go_sem, hltM, hq0]) (k := ?_); refine WT.tk (v := .pointer (some ⟨ub, uo + q9 * 44 + 3, none⟩)) rfl (fun w8 hSw => by kernel_rfl) (k := ?_); refine WT.tk (v := .int .u8 y.n) rfl (fun w8 hSw => jg (Zy (Qb hSw.1))) (k := ?_); refine WT.tk (v := .pointer (some ⟨VB, 3, none⟩)) rfl (fun w8 hSw => by kernel_rfl) (k := ?_); refine WT.tk (v := .int .u8 x.n) rfl (fun w8 hSw => jg (Zy (Qb hSw.2))) (k := ?_); refine WT.tk (v := .bool true) rfl (fun w8 hSw => by have e9 := EN.out; simp [go_sem, e9]) (k := ?_); refine WT.tk (v := .bool true) rfl (fun w8 hSw => by kernel_rfl) (k := ?_); refine WT.done ?_; clear hHeld
     go_upto_region 20 with fail
     cases J2
     rotate_left
     ·refine jx (.take 0 (.take 1 (.take 2 (.take 3 (.take 4 (.take 5 (.take 6 (.take 7 (.take 8 (.take 9 (.take 10 (.take 11 .done)))))))))))) (fun w8 => w8.rangeAt ub (uo + q9 * 44) (jH y.k ep y.v y.n (qM y.s) (ZN p q g ep sk y) (ZQ p q g ep sk y)) ∧ w8.rangeAt VB 0 (jH x.k ep x.v x.n (qM x.s) (ZN p q g ep sk x) (ZQ p q g ep sk x))) (by kernel_rfl) (by kernel_rfl) (fun _ _ _ _ _ h => h) (⟨jp HY.out ((Below.refl _ _).drew), jp HV2.out ((Below.refl _ _).drew)⟩) (fun hHeld => ?_); obtain ⟨we, e1⟩ := je (wd.drew); rw [← e1]; have hb : Below wd.heap.size wd we := by rw [e1]; exact (Below.refl _ _).drew
      clear e1; have HY := jh (jp HY.out hb); have HV2 := jh (jp HV2.out hb); have HW2 := jw HW2 hb; clear hb
      iterate 2
       refine WT.tk (v := .bool true) rfl (fun w8 hSw => by kernel_rfl) (k := ?_)
      iterate 8
       refine WT.tu rfl (k := ?_)
      iterate 2
       refine WT.tk (v := .bool true) rfl (fun w8 hSw => by kernel_rfl) (k := ?_)
      refine WT.done ?_; clear hHeld
      go_wp2_with fail
      go_roundw
      case rel => exact ⟨q9 + 1, HQ.out, by rw [List.take_add_one, HYL.out]; show _ = Value.bool (Bal.firstOf (LL.take q9 ++ [y]) x); rw [Bal.firstOf_snoc, ← HJ1.out]; rw [decide_eq_true HEQ.out]; simp, by rw [List.take_add_one, HYL.out]; show _ = Value.bool (Bal.sameOf (LL.take q9 ++ [y]) x); rw [Bal.sameOf_snoc, ← HJ2.out]; simp, by go_num, HW2⟩
      case measure => simp [intOf]; have := HQ.out; omega
     obtain ⟨D, hD⟩ := je (decide (y.s = x.s)); have hes : ∀ W : World, (binOp .eql 48 (.agg (jt .u8 (qM y.s)).toArray) (.agg (jt .u8 (qM x.s)).toArray)).run Tryz.prog W = .ok (.bool D) W := fun W => by rw [hD]; exact eql_set y.s x.s W
     obtain ⟨TY, hTY⟩ := je ((jt .u8 (qM y.s)).toArray); obtain ⟨TX, hTX⟩ := je ((jt .u8 (qM x.s)).toArray); rw [← hTY, ← hTX] at hes; have HES := jh hes; have HTY := jh hTY; have HTX := jh hTX; have HD := jh hD; clear hes hTY hTX hD; refine jx (.take 0 (.take 1 (.take 2 (.take 3 (.take 4 (.take 5 (.take 6 (.take 7 (.take 8 (.take 9 (.take 10 (.take 11 .done)))))))))))) (fun w8 => w8.rangeAt ub (uo + q9 * 44) (jH y.k ep y.v y.n (qM y.s) (ZN p q g ep sk y) (ZQ p q g ep sk y)) ∧ w8.rangeAt VB 0 (jH x.k ep x.v x.n (qM x.s) (ZN p q g ep sk x) (ZQ p q g ep sk x))) (by kernel_rfl) (by kernel_rfl) (fun _ _ _ _ _ h => h) (⟨jp HY.out ((Below.refl _ _).drew), jp HV2.out ((Below.refl _ _).drew)⟩) (fun hHeld => ?_); obtain ⟨we, e1⟩ := je (wd.drew); rw [← e1]; have hb : Below wd.heap.size wd we := by rw [e1]; exact (Below.refl _ _).drew
     clear e1; have HY := jh (jp HY.out hb); have HV2 := jh (jp HV2.out hb); have HW2 := jw HW2 hb; clear hb
     iterate 2
      refine WT.tk (v := .bool false) rfl (fun w8 hSw => by kernel_rfl) (k := ?_)
     refine WT.tk (v := .slice (some ⟨ub, uo, none⟩) m uc) rfl (fun w8 hSw => by kernel_rfl) (k := ?_); refine WT.tk (v := .int .i64 q9) rfl (fun w8 hSw => by kernel_rfl) (k := ?_); refine WT.tk (v := .pointer (some ⟨ub, uo + q9 * 44, none⟩)) rfl (fun w8 hSw => by simp [go_sem, hltM, hq0]) (k := ?_); refine WT.tk (v := .pointer (some ⟨ub, uo + q9 * 44 + 4, none⟩)) rfl (fun w8 hSw => by kernel_rfl) (k := ?_); refine WT.tk (v := .agg TY) rfl (fun w8 hSw => by rw [HTY.out]; exact jg (QD hSw.1 (qg _))) (k := ?_); refine WT.tk (v := .pointer (some ⟨VB, 4, none⟩)) rfl (fun w8 hSw => by kernel_rfl) (k := ?_); refine WT.tk (v := .agg TX) rfl (fun w8 hSw => by rw [HTX.out]; exact jg (QD hSw.2 (qg _))) (k := ?_); refine WT.tk (v := .bool D) rfl (fun w8 hSw => qv Za rfl (by kernel_rfl) (by kernel_rfl) (HES.out _)) (k := ?_)
     iterate 2
      refine WT.tk (v := .bool D) rfl (fun w8 hSw => by kernel_rfl) (k := ?_)
     refine WT.done ?_; clear hHeld
     go_wp2_with fail
     go_roundw
     case rel => exact ⟨q9 + 1, HQ.out, by rw [List.take_add_one, HYL.out]; show _ = Value.bool (Bal.firstOf (LL.take q9 ++ [y]) x); rw [Bal.firstOf_snoc, ← HJ1.out]; rw [decide_eq_true HEQ.out]; simp, by rw [List.take_add_one, HYL.out]; show _ = Value.bool (Bal.sameOf (LL.take q9 ++ [y]) x); rw [Bal.sameOf_snoc, ← HJ2.out]; rw [HD.out]; have h9 := HEQ.out; simp [h9.1, h9.2.1, h9.2.2], by go_num, HW2⟩
     case measure => simp [intOf]; have := HQ.out; omega
    ·obtain rfl : j = q9 := by omega
     clear hlt hq; obtain rfl : J1 = I1 := by rw [HJ1.out, HI1.out]
     obtain rfl : J2 = I2 := by rw [HJ2.out, HI2.out]
     clear HJ1 HJ2; have HVR := jh ((HW2.out.block _ (Array.getElem?_eq_some_iff.1 HVR.out).1).trans HVR.out); have HV := jh (jp HV.out HW2.out); have HW := jh (Qt HW.out HW2.out); have LVB := jh (show wo.heap.size ≤ VB ∧ VB < wk.heap.size from ⟨LVB.out.1, Nat.lt_of_lt_of_le LVB.out.2 HW2.out.size⟩); clear HW2; have LVR := jh (jY (P := Tryz.prog) HVR.out Tryz.underlying52 rfl HSZV.out)
     go_upto_region 21 with fail
     refine wp_region_lit ?_; refine ji (v := .pointer (some ⟨bx, 0, none⟩)) rfl (by kernel_rfl) ?_; refine ji rfl (jg LVR.out) ?_; simp only [Act.put, pa, pb, pc]
     go_upto_region 22 with (first | (go_at_call 11; refine (CP.out _ HW.out).mono ?_; rintro _ wx ⟨rfl, f2, hb2, ht2, -⟩))
     have hlow := fun (b : Nat) (h9 : b < base) (h8 : b ≠ mb) (h7 : b ≠ fb) => (ht2.low (HBX.out.later HW.out) h9 h8 h7).trans (HW.out.block b (Nat.lt_of_lt_of_le h9 HBX.out.bs))
     have hvb : wx.heap[VB]? = wk.heap[VB]? := ht2.block VB LVB.out.2 (by have h1 := LVB.out; have h2 := HBX.out.lt; have h3 := HBX.out.bs; omega) (by have h1 := LVB.out; have h2 := HBX.out.lt; have h3 := HBX.out.bs; omega) (fun h9 => by have h1 := (HBX.out.rows.lt h9).2; have h2 := LVB.out; omega); have HVR := jh (hvb.trans HVR.out); have HV := jh (show wx.rangeAt VB 0 (jH x.k ep x.v x.n (qM x.s) (ZN p q g ep sk x) (ZQ p q g ep sk x)) by have h8 := qo HVR.out; rw [HVL.out] at h8; exact h8); have HU := jh (OwnV.block HU.out fun k hk => hlow k (NU.out k hk).1 (NU.out k hk).2.1 (NU.out k hk).2.2); have HLOW := jh (fun (b : Nat) (h9 : b < v_3.heap.size) => (hlow b (by have := NL3.out; omega) (by have := NL3.out; omega) (by have := NL3.out; omega)).trans (HLOW.out b h9)); have HB := jh ((Qt HB.out HW.out).trans (ht2.below NW.out.1 NW.out.2.1 (fun k hk => Nat.le_trans NW.out.2.2 (HBX.out.rows.lt hk).1) (Qt HB.out HW.out).size)); have HBX := jh hb2; clear hb2 ht2 hlow hvb HW CP LVR HVR LVB HI1 HI2; obtain ⟨E2, hE2⟩ := je (Bal.kept (LL.take (j + 1))); have hnd : E2.Nodup := by rw [hE2]; exact Bal.kept_nodup _
     have hegd : ∀ y ∈ E2, GoodV n9 y := fun y hy => by rw [hE2] at hy; exact HGD.out y (List.mem_of_mem_take (Bal.mem_kept.1 hy))
     have hel : E2.length ≤ 1000 := by rw [hE2]; have h1 := kept_len (LL.take (j + 1)); have h2 : (LL.take (j + 1)).length ≤ j + 1 := List.length_take_le _ _; omega
     have hfm : ∀ y, FarIs E2 n9 f9 y → G ≤ max 0 y := fun y hy => by rw [hE2, HSN.out] at hy; rcases HG0.out with h9 | ⟨z, hz, h9⟩; omega; have h8 := far_mono hz hy; omega
     rw [← hE2] at HBX; have HND := jh hnd; have HEG := jh hegd; have HEL := jh hel; have HFM := jh hfm; have HE2 := jh hE2; clear hnd hegd hel hfm hE2 HG0 HSN; have HW := jh (Below.refl wx.heap.size wx); have LS3 := jh (show v_3.heap.size ≤ wx.heap.size by have h1 := HBX.out.bs; have h2 := NL3.out; omega); have CFA := jh (fun (W : World) (hb9 : Below wx.heap.size wx W) => BFar_any STK.out.hn7 HPA.out.1 HPA.out.2.1 (by have := HPA.out; omega) (fun y hy => by have := (HEG.out y hy).2.1; omega) W (HBX.out.later hb9)); refine wp_region_lit ?_
     iterate 2
      refine ji (v := .bool J1) rfl (by kernel_rfl) ?_
     refine ji (v := .bool false) rfl (by simp [go_sem]) ?_; refine ji (v := .bool false) rfl (by kernel_rfl) ?_; simp only [Act.put, pa, pb, pc]; refine js (v := .int .i64 R2) (by kernel_rfl) (by kernel_rfl) ?_; refine js (v := .bool (J1 || J2)) (by kernel_rfl) (by have e9 := E5.out; simp [go_sem, e9]) ?_
     iterate 2
      refine js (v := .bool J1) (by kernel_rfl) (by kernel_rfl) ?_
     simp only [Act.put, pa, pb, pc]; refine wpList_gopt (v := .bool J2) (by kernel_rfl) (fun u0 hu0 => ?_); have hu1 : J1 = false → u0 = .bool J2 := fun e => by subst e; exact hu0 (by kernel_rfl)
     clear hu0; simp only [Act.put, pa, pb, pc]; refine js (v := .bool (J1 || J2)) (by kernel_rfl) (by cases J1; rw [hu1 rfl]; simp [go_sem]; simp [go_sem]) ?_; clear hu1; refine js (v := .bool false) (by kernel_rfl) (by simp [go_sem]) ?_
     iterate 2
      refine ji (v := .bool false) rfl (by kernel_rfl) ?_
     simp only [Act.put, pa, pb, pc]; refine js (v := .pointer (some ⟨bx, 0, none⟩)) (by kernel_rfl) (by kernel_rfl) ?_; simp only [Act.put, pa, pb, pc]
     go_wp2_with fail
     refine (CFA.out _ HW.out).mono ?_; rintro _ wf ⟨y9, rfl, hf, -, hb⟩; obtain ⟨Y, hY⟩ := je (max 0 y9); have hYG : ¬ Y < G := by rw [hY]; have := HFM.out y9 hf; omega
     rw [← hY]; have HY := jh hY; have HF := jh hf; have HW := jw HW hb; clear hb hf hY; dsimp only
     go_step
     refine js (v := .int .u32 G) (by kernel_rfl) (by kernel_rfl) ?_; refine js (v := .bool false) (by kernel_rfl) (by simp [go_sem, hYG]) ?_; refine ji (v := .bool false) rfl (by kernel_rfl) ?_; simp only [Act.put, pa, pb, pc]
     go_upto_region 25 with (first | (go_at_call 12; refine (CFA.out _ HW.out).mono ?_; rintro _ wg ⟨y8, rfl, hf8, -, hb⟩))
     obtain rfl := far_uniq (fun _ => Iff.rfl) HF.out hf8; rw [← HY.out]; have HW := jw HW hb; clear hb hf8 hYG E5; have CST := jh (fun (q : Nat) (hq : q < 4) (W : World) => by have h9 := set_any (show q < 256 by omega) W; rewrite [Nat.mod_eq_of_lt hq] at h9; exact h9); have CVO := jh (fun (s : Nat) (W : World) (hb9 : Below wx.heap.size wx W) => BVotes_any (k := x.k) (v := x.v) (s := s) HEL.out STK.out.hn7 (by have := HGX.out.1; omega) (by have := HGX.out.2.1; omega) W (HBX.out.later hb9)); have CFU := jh (fun (s : Nat) (W : World) (hb9 : Below wx.heap.size wx W) => by have h9 := BFull_any (k := x.k) (v := x.v) (s := s) HEL.out STK.out.hn7 (by have := HGX.out.1; omega) (by have := HGX.out.2.1; omega) W (HBX.out.later hb9); rewrite [← HQS.out] at h9; exact h9); have CAN := jh (fun (W : World) (hb9 : Below wx.heap.size wx W) => BAny_any (k := x.k) (v := x.v) HEL.out STK.out.hn7 (by have := HGX.out.1; omega) (by have := HGX.out.2.1; omega) W (HBX.out.later hb9)); have CCE := jh (fun (s m9 B9 : Nat) (a8 : Option Addr) (c8 : Nat) (W : World) (hm9 : m9 = (Bal.votesOf E2 n9 x.k x.v s).length) (hk9 : KeysAt W nb0 no0 (zQ p g (g ^ lg % p) sk)) (ho9 : OwnV W B9 52 44 (.slice a8 m9 c8) m9 ((Bal.votesOf E2 n9 x.k x.v s).flatMap (vvS p q g ep sk))) => by have h9 := BCert_good (cap := c9) (k := x.k) (v := x.v) (s := s) STK.out HG.out (fun y hy => by have h8 := (Bal.mem_votes HND.out).1 hy; exact ⟨HEG.out y h8.1, h8.2.1, h8.2.2.1, h8.2.2.2.1⟩) (Bal.votes_sorted HND.out _ _ _ _) hm9 (by have h8 := Bal.votes_le HND.out n9 x.k x.v s; have h7 := STK.out.hn7; omega) W hk9 ho9; rewrite [HSV.out, ← HQS.out] at h9; exact h9); have HSS := jh (HS.out.block (HLOW.out _ ZLT.out.2.1)); have HSB := jh ((HLOW.out _ ZLT.out.2.1).trans HSR.out); have HKW := jh (KeysAt.block HNK.out (HLOW.out _ ZLT.out.2.2)); have HLSB := jh (Nat.lt_of_lt_of_le ZLT.out.2.1 LS3.out)
     go_wp2_with fail
     go_loopw [20, 21] (fun a i wr => ∃ q9 : Nat, q9 ≤ 4 ∧ a = .int .i64 (Bal.fullOf E2 n9 qs x.k x.v q9) ∧ i = .int .u8 q9 ∧ Hid (Below wx.heap.size wx wr)) (fun _ i _ => 4 - (intOf i).toNat)
     case atStart => exact ⟨0, Nat.zero_le _, rfl, rfl, HW⟩
     case round => as_aux_lemma =>
      obtain ⟨q9, hq, rfl, rfl, HW2⟩ := hrel; obtain ⟨wk2, rfl⟩ : ∃ wk : World, wk = wr := ⟨_, rfl⟩; have hfl := Bal.fullOf_le E2 n9 qs x.k x.v q9; have hfs := Bal.fullOf_succ E2 n9 qs x.k x.v q9; obtain ⟨FU, hFU⟩ := je (Bal.fullOf E2 n9 qs x.k x.v q9); rw [← hFU] at hfl hfs ⊢; have hFUI : (FU : Int) ≤ 4 := by omega
      have hq4I : (q9 : Int) ≤ 4 := by omega
      by_cases hlt : q9 < 4
      ·have hltQ : (q9 : Int) < 4 := by omega
       have hq3I : (q9 : Int) ≤ 3 := by omega
       have HQ := jh hlt; obtain ⟨VO, hVO⟩ := je (Bal.votesOf E2 n9 x.k x.v q9); obtain ⟨VN, hVN⟩ := je (VO.length); have hv7 : VN ≤ 7 := by rw [hVN, hVO]; have h8 := Bal.votes_le HND.out n9 x.k x.v q9; have h7 := STK.out.hn7; omega
       obtain ⟨T, hT⟩ := je ((jt .u8 (qM q9)).toArray); have CS9 := jh (fun (W : World) => by have h9 := CST.out q9 HQ.out W; rewrite [← hT] at h9; exact h9); have CV9 := jh (fun (W : World) (hb9 : Below wx.heap.size wx W) => by have h9 := CVO.out q9 W hb9; rewrite [← hT, ← hVO, ← hVN] at h9; exact h9); rw [← hVO, ← hVN] at hfs; obtain ⟨FD, hFD⟩ := je (decide (qs ≤ (VN : Int))); have CF9 := jh (fun (W : World) (hb9 : Below wx.heap.size wx W) => by have h9 := CFU.out q9 W hb9; rewrite [← hT, ← hVO, ← hVN, ← hFD] at h9; exact h9); have CC9 := jh (fun (B9 : Nat) (a8 : Option Addr) (c8 : Nat) (W : World) hk9 (ho9 : OwnV W B9 52 44 (.slice a8 VN c8) VN (VO.flatMap (vvS p q g ep sk))) => by have h9 := CCE.out q9 VN B9 a8 c8 W (by rw [hVN, hVO]) hk9 (by rw [← hVO]; exact ho9); rewrite [← hT, ← hFD] at h9; exact h9); have HFS := jh (show Bal.fullOf E2 n9 qs x.k x.v (q9 + 1) = FU + if FD = true then 1 else 0 by rw [hfs, hFD]; simp); clear hVO hVN hT hFD hfs hFU hfl hlt hq hv7; have HV2 := jh (jp HV.out HW2.out)
       go_upto_region 29 with fail
       refine jx (.take 0 (.take 1 (.take 2 (.take 3 (.take 4 (.take 5 (.step 6 (.step 7 (.take 8 .done))))))))) (fun w8 => w8.rangeAt VB 0 (jH x.k ep x.v x.n (qM x.s) (ZN p q g ep sk x) (ZQ p q g ep sk x))) (by kernel_rfl) (by kernel_rfl) (fun _ _ _ _ _ h => h) (jp HV2.out ((Below.refl _ _).drew)) (fun hHeld => ?_); obtain ⟨y0, e1⟩ := je (wk2.drew); rw [← e1]; have hb : Below wk2.heap.size wk2 y0 := by rw [e1]; exact (Below.refl _ _).drew
       clear e1; have HV2 := jh (jp HV2.out hb); have HW2 := jw HW2 hb; clear hb
       iterate 2
        refine WT.tk rfl (k := ?_)
       refine WT.tk (v := .int .u8 x.k) rfl (fun w8 hSw => jg (zi (JP hSw))) (k := ?_); refine WT.tk rfl (k := ?_); refine WT.tk (v := .int .u32 x.v) rfl (fun w8 hSw => jg (qH (Qh hSw))) (k := ?_); refine WT.tk rfl (k := ?_); refine WT.step rfl (fun K hK => ?_)
       go_simp
       refine (CS9.out _).mono ?_; rintro _ y1 ⟨rfl, hb⟩; have HV2 := jh (jp HV2.out hb); have HW2 := jw HW2 hb; clear hb; refine hK.out _ _ (HV2.out) (fun hHeld => ?_); clear hK K
       try simp only [Act.put, pa, pb, pc]
       refine WT.step rfl (fun K hK => ?_)
       go_simp
       refine (CV9.out _ HW2.out).mono ?_; rintro _ y2 ⟨u1, rfl, ho1, hb⟩; have HO1 := jh ho1; obtain ⟨a1, c1, rfl⟩ := ho1.shape9; clear ho1; have HV2 := jh (jp HV2.out hb); have HW2 := jw HW2 hb; clear hb; refine hK.out _ _ (HV2.out) (fun hHeld => ?_); clear hK K
       try simp only [Act.put, pa, pb, pc]
       refine WT.tk rfl (k := ?_); refine WT.done ?_; clear hHeld
       go_upto_region 30 with fail
       have HSB2 := jh ((HW2.out.block _ HLSB.out).trans HSB.out); have HKW2 := jh (HKW.out.later HW2.out); obtain ⟨z0, hz⟩ : ∃ z : World, z = y2 := ⟨_, rfl⟩; rw [← hz] at HV2 HSB2 HKW2 HO1 HW2 ⊢; clear hz; refine jx (.take 0 (.take 1 (.take 2 (.take 3 (.take 4 (.take 5 (.take 8 (.take 9 (.take 10 (.take 11 (.take 12 (.take 13 (.take 14 (.take 16 (.step 6 (.step 7 (.step 15 (.step 17 (.take 18 .done))))))))))))))))))) (fun w8 => w8.rangeAt VB 0 (jH x.k ep x.v x.n (qM x.s) (ZN p q g ep sk x) (ZQ p q g ep sk x)) ∧ w8.heap[SB]? = some (.cells SV 33 (0, 0))) (by kernel_rfl) (by kernel_rfl) (fun _ _ _ _ _ h => h) (⟨jp HV2.out ((Below.refl _ _).drew), (((Below.refl z0.heap.size z0).drew).block _ (Array.getElem?_eq_some_iff.1 HSB2.out).1).trans HSB2.out⟩) (fun hHeld => ?_); obtain ⟨z1, e1⟩ := je (z0.drew); rw [← e1]; have hb : Below z0.heap.size z0 z1 := by rw [e1]; exact (Below.refl _ _).drew
       clear e1; have HV2 := jh (jp HV2.out hb); have HSB2 := jb hb HSB2; have HKW2 := jh (HKW2.out.later hb); have HO1 := jh (OwnV.later HO1.out hb); have HW2 := jw HW2 hb; clear hb
       iterate 2
        refine WT.tk rfl (k := ?_)
       refine WT.tk (v := .int .u8 x.k) rfl (fun w8 hSw => jg (zi (JP hSw.1))) (k := ?_); refine WT.tk rfl (k := ?_); refine WT.tk (v := .int .u32 x.v) rfl (fun w8 hSw => jg (qH (Qh hSw.1))) (k := ?_); refine WT.tk rfl (k := ?_); refine WT.tk (v := .agg SV) rfl (fun w8 hSw => jg (jY hSw.2 Tryz.underlying33 rfl HSZS.out)) (k := ?_); refine WT.tk rfl (k := ?_); refine WT.tk (v := .int .u8 x.k) rfl (fun w8 hSw => jg (zi (JP hSw.1))) (k := ?_)
       iterate 2
        refine WT.tk rfl (k := ?_)
       refine WT.tk (v := .int .u32 x.v) rfl (fun w8 hSw => jg (qH (Qh hSw.1))) (k := ?_)
       iterate 2
        refine WT.tk rfl (k := ?_)
       refine WT.step rfl (fun K hK => ?_)
       go_simp
       refine (CS9.out _).mono ?_; rintro _ z2 ⟨rfl, hb⟩; have HV2 := jh (jp HV2.out hb); have HSB2 := jb hb HSB2; have HKW2 := jh (HKW2.out.later hb); have HO1 := jh (OwnV.later HO1.out hb); have HW2 := jw HW2 hb; clear hb; refine hK.out _ _ (⟨HV2.out, HSB2.out⟩) (fun hHeld => ?_); clear hK K
       try simp only [Act.put, pa, pb, pc]
       refine WT.step rfl (fun K hK => ?_)
       go_simp
       refine (CF9.out _ HW2.out).mono ?_; rintro _ z3 ⟨rfl, hb⟩; have HV2 := jh (jp HV2.out hb); have HSB2 := jb hb HSB2; have HKW2 := jh (HKW2.out.later hb); have HO1 := jh (OwnV.later HO1.out hb); have HW2 := jw HW2 hb; clear hb; refine hK.out _ _ (⟨HV2.out, HSB2.out⟩) (fun hHeld => ?_); clear hK K
       try simp only [Act.put, pa, pb, pc]
       refine WT.step rfl (fun K hK => ?_)
       go_simp
       refine (CS9.out _).mono ?_; rintro _ z4 ⟨rfl, hb⟩; have HV2 := jh (jp HV2.out hb); have HSB2 := jb hb HSB2; have HKW2 := jh (HKW2.out.later hb); have HO1 := jh (OwnV.later HO1.out hb); have HW2 := jw HW2 hb; clear hb; refine hK.out _ _ (⟨HV2.out, HSB2.out⟩) (fun hHeld => ?_); clear hK K
       try simp only [Act.put, pa, pb, pc]
       refine WT.step rfl (fun K hK => ?_)
       go_simp
       refine (CC9.out _ _ _ _ HKW2.out HO1.out).mono ?_; rintro _ z5 ⟨rfl, hb⟩; have HV2 := jh (jp HV2.out hb); have HSB2 := jb hb HSB2; have HKW2 := jh (HKW2.out.later hb); have HO1 := jh (OwnV.later HO1.out hb); have HW2 := jw HW2 hb; clear hb; refine hK.out _ _ (⟨HV2.out, HSB2.out⟩) (fun hHeld => ?_); clear hK K
       try simp only [Act.put, pa, pb, pc]
       refine WT.tk (v := .bool false) rfl (fun w8 hSw => by simp [go_sem]) (k := ?_); refine WT.done ?_; clear hHeld
       go_upto_region 32 with fail
       clear HO1 HSB2 HKW2 CC9; obtain ⟨t0, hz⟩ : ∃ z : World, z = z5 := ⟨_, rfl⟩; rw [← hz] at HV2 HW2 ⊢; clear hz; refine jx (.take 0 (.take 1 (.take 2 (.take 3 (.take 4 (.take 5 (.step 6 (.step 7 .done)))))))) (fun w8 => w8.rangeAt VB 0 (jH x.k ep x.v x.n (qM x.s) (ZN p q g ep sk x) (ZQ p q g ep sk x))) (by kernel_rfl) (by kernel_rfl) (fun _ _ _ _ _ h => h) (jp HV2.out ((Below.refl _ _).drew)) (fun hHeld => ?_); obtain ⟨t1, e1⟩ := je (t0.drew); rw [← e1]; have hb : Below t0.heap.size t0 t1 := by rw [e1]; exact (Below.refl _ _).drew
       clear e1; have HV2 := jh (jp HV2.out hb); have HW2 := jw HW2 hb; clear hb
       iterate 2
        refine WT.tk rfl (k := ?_)
       refine WT.tk (v := .int .u8 x.k) rfl (fun w8 hSw => jg (zi (JP hSw))) (k := ?_); refine WT.tk rfl (k := ?_); refine WT.tk (v := .int .u32 x.v) rfl (fun w8 hSw => jg (qH (Qh hSw))) (k := ?_); refine WT.tk rfl (k := ?_); refine WT.step rfl (fun K hK => ?_)
       go_simp
       refine (CS9.out _).mono ?_; rintro _ t2 ⟨rfl, hb⟩; have HV2 := jh (jp HV2.out hb); have HW2 := jw HW2 hb; clear hb; refine hK.out _ _ (HV2.out) (fun hHeld => ?_); clear hK K
       try simp only [Act.put, pa, pb, pc]
       refine WT.step rfl (fun K hK => ?_)
       go_simp
       refine (CF9.out _ HW2.out).mono ?_; rintro _ t3 ⟨rfl, hb⟩; have HV2 := jh (jp HV2.out hb); have HW2 := jw HW2 hb; clear hb; refine hK.out _ _ (HV2.out) (fun hHeld => ?_); clear hK K
       try simp only [Act.put, pa, pb, pc]
       refine WT.done ?_; clear hHeld
       cases FD
       ·have HS2 := jh (show Bal.fullOf E2 n9 qs x.k x.v (q9 + 1) = FU by rw [HFS.out]; simp)
        go_wp2_with fail
        go_roundw
        case rel => exact ⟨q9 + 1, HQ.out, by rw [HS2.out], by go_num, HW2⟩
        case measure => simp [intOf]; have := HQ.out; omega
       ·have HS2 := jh (show Bal.fullOf E2 n9 qs x.k x.v (q9 + 1) = FU + 1 by rw [HFS.out]; simp)
        go_wp2_with fail
        go_roundw
        case rel => exact ⟨q9 + 1, HQ.out, by rw [HS2.out]; go_num, by go_num, HW2⟩
        case measure => simp [intOf]; have := HQ.out; omega
      ·have HQ4 := jh (show q9 = 4 by omega); have hltQ : ¬ (q9 : Int) < 4 := by omega
       clear hlt hq HW hfs; have HFU := jh hFU; have HFB := jh hfl; clear hFU hfl
       go_wp2_with fail
       go_loopw [23, 24] (fun a i wr => ∃ k : Nat, k ≤ n9 ∧ a = .int .i64 (Bal.twoOf E2 n9 x.k x.v k) ∧ i = .int .i64 ((k : Int) + 1) ∧ Hid (Below wx.heap.size wx wr)) (fun _ i _ => n9 + 1 - (intOf i).toNat)
       case atStart => exact ⟨0, Nat.zero_le _, rfl, rfl, HW2⟩
       case round => as_aux_lemma =>
        clear HW2; obtain ⟨k, hk, rfl, rfl, HW⟩ := hrel; obtain ⟨wk3, rfl⟩ : ∃ wk : World, wk = wr := ⟨_, rfl⟩; have htl := Bal.twoOf_le E2 n9 x.k x.v k; have hts := Bal.twoOf_succ E2 n9 x.k x.v k; obtain ⟨TW, hTW⟩ := je (Bal.twoOf E2 n9 x.k x.v k); rw [← hTW] at htl hts ⊢; have hn7I : (n9 : Int) ≤ 7 := by have := STK.out.hn7; omega
        have hTWI : (TW : Int) ≤ 7 := by omega
        have hk7I : (k : Int) ≤ 7 := by omega
        have y18 := (HSS.out.later HW.out).nd
        by_cases hlt : k < n9
        ·have hltK : (k : Int) + 1 ≤ (n9 : Int) := by omega
         have HK9 := jh hlt; have HTS := jh hts; clear hlt hk hts htl hTW
         go_wp2_with fail
         clear y18
         go_loopw [25, 26] (fun a i wr => ∃ r9 : Nat, r9 ≤ 4 ∧ a = .int .i64 (Bal.setsUp E2 n9 x.k x.v (k + 1) r9) ∧ i = .int .u8 r9 ∧ Hid (Below wx.heap.size wx wr)) (fun _ i _ => 4 - (intOf i).toNat)
         case atStart => exact ⟨0, Nat.zero_le _, rfl, rfl, HW⟩
         case round => as_aux_lemma =>
          obtain ⟨r9, hq, rfl, rfl, HW2⟩ := hrel; obtain ⟨wk4, rfl⟩ : ∃ wk : World, wk = wr := ⟨_, rfl⟩; have hss := Bal.setsUp_succ E2 n9 x.k x.v (k + 1) r9; have hsl := Bal.setsUp_le HND.out n9 x.k x.v (k + 1) r9 (by have := HK9.out; omega); obtain ⟨SU, hSU⟩ := je (Bal.setsUp E2 n9 x.k x.v (k + 1) r9); rw [← hSU] at hss hsl ⊢; have hSUI : (SU : Int) ≤ 4 := by omega
          have hr4I : (r9 : Int) ≤ 4 := by omega
          by_cases hlt : r9 < 4
          ·have hltR : (r9 : Int) < 4 := by omega
           have hr3I : (r9 : Int) ≤ 3 := by omega
           have HQ := jh hlt; obtain ⟨VO, hVO⟩ := je (Bal.votesOf E2 n9 x.k x.v r9); obtain ⟨VN, hVN⟩ := je (VO.length); have hv7 : VN ≤ 7 := by rw [hVN, hVO]; have h8 := Bal.votes_le HND.out n9 x.k x.v r9; have h7 := STK.out.hn7; omega
           obtain ⟨T, hT⟩ := je ((jt .u8 (qM r9)).toArray); have CS9 := jh (fun (W : World) => by have h9 := CST.out r9 HQ.out W; rewrite [← hT] at h9; exact h9); have CV9 := jh (fun (W : World) (hb9 : Below wx.heap.size wx W) => by have h9 := CVO.out r9 W hb9; rewrite [← hT, ← hVO, ← hVN] at h9; exact h9); rw [← hVO] at hss; have HSU := jh hss; have HVG := jh (show ∀ z ∈ VO, z.n ≤ 7 from fun z hz => by rw [hVO] at hz; have h8 := (HEG.out z ((Bal.mem_votes HND.out).1 hz).1).2.2.1.2; have h7 := STK.out.hn7; omega); have HVN := jh hVN; have hv7I : (VN : Int) ≤ 7 := by omega
           clear hVO hVN hT hss hSU hsl hlt hq hv7; have HV2 := jh (jp HV.out HW2.out)
           go_upto_region 42 with fail
           refine jx (.take 0 (.take 1 (.take 2 (.take 3 (.take 4 (.take 5 (.step 6 (.step 7 (.take 8 .done))))))))) (fun w8 => w8.rangeAt VB 0 (jH x.k ep x.v x.n (qM x.s) (ZN p q g ep sk x) (ZQ p q g ep sk x))) (by kernel_rfl) (by kernel_rfl) (fun _ _ _ _ _ h => h) (jp HV2.out ((Below.refl _ _).drew)) (fun hHeld => ?_); obtain ⟨y0, e1⟩ := je (wk4.drew); rw [← e1]; have hb : Below wk4.heap.size wk4 y0 := by rw [e1]; exact (Below.refl _ _).drew
           clear e1; have HV2 := jh (jp HV2.out hb); have HW2 := jw HW2 hb; clear hb
           iterate 2
            refine WT.tk rfl (k := ?_)
           refine WT.tk (v := .int .u8 x.k) rfl (fun w8 hSw => jg (zi (JP hSw))) (k := ?_); refine WT.tk rfl (k := ?_); refine WT.tk (v := .int .u32 x.v) rfl (fun w8 hSw => jg (qH (Qh hSw))) (k := ?_); refine WT.tk rfl (k := ?_); refine WT.step rfl (fun K hK => ?_)
           go_simp
           refine (CS9.out _).mono ?_; rintro _ y1 ⟨rfl, hb⟩; have HV2 := jh (jp HV2.out hb); have HW2 := jw HW2 hb; clear hb; refine hK.out _ _ (HV2.out) (fun hHeld => ?_); clear hK K
           try simp only [Act.put, pa, pb, pc]
           refine WT.step rfl (fun K hK => ?_)
           go_simp
           refine (CV9.out _ HW2.out).mono ?_; rintro _ y2 ⟨u1, rfl, ho1, hb⟩; have HO1 := jh ho1; obtain ⟨a1, c1, rfl⟩ := ho1.shape9; clear ho1; have HV2 := jh (jp HV2.out hb); have HW2 := jw HW2 hb; clear hb; refine hK.out _ _ (HV2.out) (fun hHeld => ?_); clear hK K
           try simp only [Act.put, pa, pb, pc]
           refine WT.tk rfl (k := ?_); refine WT.done ?_; clear hHeld
           go_wp2_with fail
           go_loopw [25, 28] (fun a i wr => ∃ p9 : Nat, p9 ≤ VN ∧ a = .int .i64 ((SU : Int) + ((VO.take p9).countP (fun z => decide (z.n = k + 1)) : Nat)) ∧ i = .int .i64 p9 ∧ y2 = wr) (fun _ i _ => VN - (intOf i).toNat)
           case atStart => exact ⟨0, Nat.zero_le _, by simp, rfl, rfl⟩
           case round => as_aux_lemma =>
            obtain ⟨p9, hp, rfl, rfl, hw⟩ := hrel; rw [← hw]; clear hw; obtain ⟨CN9, hCN⟩ : ∃ c : Nat, c = (VO.take p9).countP (fun z => decide (z.n = k + 1)) := ⟨_, rfl⟩; have hcl : CN9 ≤ 7 := by rw [hCN]; refine Nat.le_trans List.countP_le_length ?_; rw [List.length_take]; omega
            rw [← hCN]; have hclI : (CN9 : Int) ≤ 7 := by omega
            have hp7I : (p9 : Int) ≤ 7 := by omega
            by_cases hlt : p9 < VN
            ·have hltP : (p9 : Int) < (VN : Int) := by omega
             obtain ⟨z, hz⟩ : ∃ z, VO[p9]? = some z := ⟨_, List.getElem?_eq_getElem (by rw [← HVN.out]; exact hlt)⟩; obtain ⟨ob, oo, oc9, hue, hva⟩ := zX HO1.out (by omega); injection hue with hue _ huc
             subst hue; subst huc; have y3 := Qb (hva.at (jQ _ _ _) hz); have hp0 : (0 : Int) ≤ (p9 : Int) := by omega
             have hzn : z.n < 256 := by have h6 := HVG.out z (List.mem_of_getElem? hz); omega
             have hzw : IntKind.i64.wrap (z.n : Int) = (z.n : Int) := by simp [IntKind.wrap, IntKind.bits, IntKind.signed]; omega
             have hcs := Bal.countN_succ VO (k + 1) p9 hz; rw [← hCN] at hcs; have HCS := jh hcs; have HP := jh hlt; clear hva hz hlt hp hcs hCN hzn
             by_cases hzk : z.n = k + 1
             ·have hb9 : ((z.n : Int) == (k : Int) + 1) = true := by simp; omega
              have HS2 := jh (show (VO.take (p9 + 1)).countP (fun z => decide (z.n = k + 1)) = CN9 + 1 by rw [HCS.out, if_pos hzk]); clear hzk
              go_wp2_with fail
              go_roundw
              case rel => exact ⟨p9 + 1, HP.out, by rw [HS2.out]; go_num, by go_num, trivial⟩
              case measure => simp [intOf]; have := HP.out; omega
             ·have hb9 : ((z.n : Int) == (k : Int) + 1) = false := by simp; omega
              have HS2 := jh (show (VO.take (p9 + 1)).countP (fun z => decide (z.n = k + 1)) = CN9 by rw [HCS.out, if_neg hzk, Nat.add_zero]); clear hzk
              go_wp2_with fail
              go_roundw
              case rel => exact ⟨p9 + 1, HP.out, by rw [HS2.out], by go_num, trivial⟩
              case measure => simp [intOf]; have := HP.out; omega
            ·obtain rfl : p9 = VN := by omega
             have hkl : VO.take p9 = VO := List.take_of_length_le (by rw [← HVN.out]; exact Nat.le_refl _); rw [hkl] at hCN; have HS2 := jh (show Bal.setsUp E2 n9 x.k x.v (k + 1) (r9 + 1) = SU + CN9 by rw [HSU.out, hCN]); clear hlt hp hkl hCN hcl
             go_wp2_with fail
             go_roundw
             case rel => exact ⟨r9 + 1, HQ.out, by rw [HS2.out]; go_num, by go_num, HW2⟩
             case measure => simp [intOf]; have := HQ.out; omega
          ·have hltR : ¬ (r9 : Int) < 4 := by omega
           have hq4 : r9 = 4 := by omega
           rw [hq4, Bal.setsUp_four] at hSU; clear hlt hq hss hsl hq4
           by_cases hs1 : 1 < SU
           ·have hs1I : (1 : Int) < (SU : Int) := by omega
            have HS2 := jh (show Bal.twoOf E2 n9 x.k x.v (k + 1) = TW + 1 by rw [HTS.out, ← hSU, if_pos hs1]); clear hs1 hSU
            go_wp2_with fail
            go_roundw
            case rel => exact ⟨k + 1, HK9.out, by rw [HS2.out]; go_num, by go_num, HW2⟩
            case measure => simp [intOf]; have := HK9.out; omega
           ·have hs1I : ¬ (1 : Int) < (SU : Int) := by omega
            have HS2 := jh (show Bal.twoOf E2 n9 x.k x.v (k + 1) = TW by rw [HTS.out, ← hSU, if_neg hs1, Nat.add_zero]); clear hs1 hSU
            go_wp2_with fail
            go_roundw
            case rel => exact ⟨k + 1, HK9.out, by rw [HS2.out], by go_num, HW2⟩
            case measure => simp [intOf]; have := HK9.out; omega
        ·obtain rfl : k = n9 := by omega
         clear hlt hk hts htl; have hltK : ¬ (k : Int) + 1 ≤ (k : Int) := by omega
         have hone : 1 < FU → f9 < (TW : Int) := fun h9 => by rw [HFU.out, HQ4.out, HQS.out] at h9; rw [hTW]; exact Bal.one_says HND.out HPA.out.1 HPA.out.2.1 HN0.out STK.out.hn7 h9
         have hal := Bal.anyOf_le E2 k x.k x.v; have CA9 := CAN; obtain ⟨AN, hAN⟩ := je (Bal.anyOf E2 k x.k x.v); rw [← hAN] at CA9 hal; have hALI : ¬ (k : Int) < (AN : Int) := by omega
         clear hAN hal hTW
         go_upto_region 50 with fail
         clear y18; have HV2 := jh (jp HV.out HW.out); have HSS2 := jh (HSS.out.later HW.out)
         by_cases hf1 : 1 < FU
         ·have hf1I : (1 : Int) < (FU : Int) := by omega
          have hto : ¬ (TW : Int) ≤ f9 := by have := hone hf1; omega
          clear hone hf1; refine jx (.take 0 (.take 1 (.take 2 (.take 3 (.take 4 (.take 5 (.take 6 (.take 7 (.take 8 (.take 9 (.take 10 (.take 11 (.take 12 (.take 13 (.take 15 (.take 16 (.take 17 (.step 14 (.take 18 (.take 19 .done)))))))))))))))))))) (fun w8 => w8.rangeAt VB 0 (jH x.k ep x.v x.n (qM x.s) (ZN p q g ep sk x) (ZQ p q g ep sk x)) ∧ SAt w8 SB p q g (g ^ lg % p) f9 s9 (.slice (some ⟨nb0, no0, none⟩) k c9)) (by kernel_rfl) (by kernel_rfl) (fun _ _ _ _ _ h => h) (⟨jp HV2.out ((Below.refl _ _).drew), HSS2.out.later ((Below.refl _ _).drew)⟩) (fun hHeld => ?_); obtain ⟨y0, e1⟩ := je (wk3.drew); rw [← e1]; have hb : Below wk3.heap.size wk3 y0 := by rw [e1]; exact (Below.refl _ _).drew
          clear e1; have HV2 := jh (jp HV2.out hb); have HSS2 := jh (HSS2.out.later hb); have HW := jw HW hb; clear hb; refine WT.tk rfl (k := ?_); refine WT.tk (v := .bool true) rfl (fun w8 hSw => by simp [go_sem, hf1I]) (k := ?_); refine WT.tk (v := .bool true) rfl (fun w8 hSw => by kernel_rfl) (k := ?_)
          iterate 2
           refine WT.tk rfl (k := ?_)
          refine WT.tk (v := .int .i64 f9) rfl (fun w8 hSw => jg (loadI9 hSw.2.fa)) (k := ?_); refine WT.tk (v := .bool false) rfl (fun w8 hSw => by simp [go_sem, hto]) (k := ?_)
          iterate 2
           refine WT.tk (v := .bool false) rfl (fun w8 hSw => by kernel_rfl) (k := ?_)
          iterate 2
           refine WT.tk rfl (k := ?_)
          refine WT.tk (v := .int .u8 x.k) rfl (fun w8 hSw => jg (zi (JP hSw.1))) (k := ?_); refine WT.tk rfl (k := ?_); refine WT.tk (v := .int .u32 x.v) rfl (fun w8 hSw => jg (qH (Qh hSw.1))) (k := ?_); refine WT.tk rfl (k := ?_); refine WT.tk (v := .slice (some ⟨nb0, no0, none⟩) k c9) rfl (fun w8 hSw => jg (Jv hSw.2.nd)) (k := ?_); refine WT.tk (v := .int .i64 k) rfl (fun w8 hSw => by simp [go_sem]) (k := ?_); refine WT.step rfl (fun K hK => ?_)
          go_simp
          refine (CA9.out _ HW.out).mono ?_; rintro _ y1 ⟨rfl, hb⟩; have HV2 := jh (jp HV2.out hb); have HSS2 := jh (HSS2.out.later hb); have HW := jw HW hb; clear hb; refine hK.out _ _ (⟨HV2.out, HSS2.out⟩) (fun hHeld => ?_); clear hK K
          try simp only [Act.put, pa, pb, pc]
          refine WT.tk (v := .bool false) rfl (fun w8 hSw => by simp [go_sem, hALI]) (k := ?_); refine WT.tk (v := .bool false) rfl (fun w8 hSw => by kernel_rfl) (k := ?_); refine WT.done ?_; clear hHeld
          go_wp2_with fail
          go_roundw
          case rel => exact ⟨j + 1, f2, Y, HLT.out, by go_num, rfl, jh (Or.inr ⟨y9, by rw [← HE2.out]; exact HF.out, HY.out⟩), by rw [← HE2.out]; exact jh (HBX.out.later HW.out), jh (OwnV.later HU.out HW.out), jh (fun b h9 => (HW.out.block b (Nat.lt_of_lt_of_le h9 LS3.out)).trans (HLOW.out b h9)), jh (Qt HB.out HW.out)⟩
          case measure => simp [intOf]; have := HLT.out; omega
         ·have hf1I : ¬ (1 : Int) < (FU : Int) := by omega
          clear hone hf1; refine jx (.take 0 (.take 1 (.take 2 (.take 3 (.take 4 (.take 5 (.take 6 (.take 7 (.take 8 (.take 9 (.take 10 (.take 11 (.take 12 (.take 13 (.take 15 (.take 16 (.take 17 (.step 14 (.take 18 (.take 19 .done)))))))))))))))))))) (fun w8 => w8.rangeAt VB 0 (jH x.k ep x.v x.n (qM x.s) (ZN p q g ep sk x) (ZQ p q g ep sk x)) ∧ SAt w8 SB p q g (g ^ lg % p) f9 s9 (.slice (some ⟨nb0, no0, none⟩) k c9)) (by kernel_rfl) (by kernel_rfl) (fun _ _ _ _ _ h => h) (⟨jp HV2.out ((Below.refl _ _).drew), HSS2.out.later ((Below.refl _ _).drew)⟩) (fun hHeld => ?_); obtain ⟨y0, e1⟩ := je (wk3.drew); rw [← e1]; have hb : Below wk3.heap.size wk3 y0 := by rw [e1]; exact (Below.refl _ _).drew
          clear e1; have HV2 := jh (jp HV2.out hb); have HSS2 := jh (HSS2.out.later hb); have HW := jw HW hb; clear hb; refine WT.tk rfl (k := ?_); refine WT.tk (v := .bool false) rfl (fun w8 hSw => by simp [go_sem, hf1I]) (k := ?_); refine WT.tk (v := .bool false) rfl (fun w8 hSw => by kernel_rfl) (k := ?_)
          iterate 4
           refine WT.tu rfl (k := ?_)
          iterate 2
           refine WT.tk (v := .bool false) rfl (fun w8 hSw => by kernel_rfl) (k := ?_)
          iterate 2
           refine WT.tk rfl (k := ?_)
          refine WT.tk (v := .int .u8 x.k) rfl (fun w8 hSw => jg (zi (JP hSw.1))) (k := ?_); refine WT.tk rfl (k := ?_); refine WT.tk (v := .int .u32 x.v) rfl (fun w8 hSw => jg (qH (Qh hSw.1))) (k := ?_); refine WT.tk rfl (k := ?_); refine WT.tk (v := .slice (some ⟨nb0, no0, none⟩) k c9) rfl (fun w8 hSw => jg (Jv hSw.2.nd)) (k := ?_); refine WT.tk (v := .int .i64 k) rfl (fun w8 hSw => by simp [go_sem]) (k := ?_); refine WT.step rfl (fun K hK => ?_)
          go_simp
          refine (CA9.out _ HW.out).mono ?_; rintro _ y1 ⟨rfl, hb⟩; have HV2 := jh (jp HV2.out hb); have HSS2 := jh (HSS2.out.later hb); have HW := jw HW hb; clear hb; refine hK.out _ _ (⟨HV2.out, HSS2.out⟩) (fun hHeld => ?_); clear hK K
          try simp only [Act.put, pa, pb, pc]
          refine WT.tk (v := .bool false) rfl (fun w8 hSw => by simp [go_sem, hALI]) (k := ?_); refine WT.tk (v := .bool false) rfl (fun w8 hSw => by kernel_rfl) (k := ?_); refine WT.done ?_; clear hHeld
          go_wp2_with fail
          go_roundw
          case rel => exact ⟨j + 1, f2, Y, HLT.out, by go_num, rfl, jh (Or.inr ⟨y9, by rw [← HE2.out]; exact HF.out, HY.out⟩), by rw [← HE2.out]; exact jh (HBX.out.later HW.out), jh (OwnV.later HU.out HW.out), jh (fun b h9 => (HW.out.block b (Nat.lt_of_lt_of_le h9 LS3.out)).trans (HLOW.out b h9)), jh (Qt HB.out HW.out)⟩
          case measure => simp [intOf]; have := HLT.out; omega
  ·obtain rfl : j = m := by omega
   clear hlt hj
   go_wp2_with (first | (go_at_call 8; refine (JX _).mono ?_; rintro _ wl ⟨rfl, hbl⟩; have HB := jw HB hbl; clear hbl))
   go_ret
   exact ⟨rfl, HB.out⟩
end Go.Proofs.YtdpkpcbikbbcbaaGreat
