/- BallotsOrder -/
import Derived.Test.YtdpkpcbikbbcbaaGreatBOWG46
import Derived.Test.YtdpkpcbikbbcbaaGreatBOWG48
import Derived.Test.YtdpkpcbikbbcbaaGreatBOWG49
import Derived.Test.YtdpkpcbikbbcbaaGreatBOWG50
set_option linter.unusedSimpArgs false
set_option linter.unusedVariables false
set_option maxHeartbeats 4000000
set_option maxRecDepth 20000
namespace Go.Proofs.YtdpkpcbikbbcbaaGreat
open Go.ChangeShapes Go.WideShapes Go.ChangeAt Go.RowKit
theorem lawset_any {gp gq gg gh lg n cap : Nat} {fa se : Int} {ao : Option Addr} {sk : List (Nat × Nat)} (hgp : gp < jk) (hgq : gq < jk) (hgg : gg < jk) (hlg : lg < jk) (hfa : -9223372036854775808 ≤ fa ∧ fa ≤ 9223372036854775807) (hse : -9223372036854775808 ≤ se ∧ se ≤ 9223372036854775807) (hsk : ∀ k ∈ sk, k.1 < jk ∧ k.2 < jk) (hn : n = sk.length) (hcap : n ≤ cap) (hcm : cap ≤ maxLen) (w : World) (hk : 0 < n → ∃ b o, ao = some ⟨b, o, none⟩ ∧ KeysAt w b o sk) :
  Calls Tryz.prog 7 #[zG gp gq gg gh lg fa se (.slice ao n cap)] w fun e w' => ∃ (p q g h : Nat) (f s : Int) (a : Option Addr) (n9 c9 : Nat) (ok : Bool), e = .returned (.tuple #[qu p q g h f s (.slice a n9 c9), .bool ok]) ∧ (ok = true → p = gp ∧ q = gq ∧ g = gg ∧ h = gg ^ lg % gp ∧ f = fa ∧ s = se ∧ n9 = n ∧ SetOk w' gp gq gg lg n fa se sk a) ∧ Below w.heap.size w w' := by
 by_cases hm : Jd gp gg
 ·by_cases h0 : lg = 0
  ·exact lawset_log hm h0 hgp hgq hgg hlg hfa hse hsk hn hcap hcm w hk
  ·by_cases h1 : 7 < n
   ·exact lawset_many hm h0 h1 hgp hgq hgg hlg hfa hse hsk hn hcap hcm w hk
   ·exact lawset_main hm h0 (by omega) hgp hgq hgg hlg hfa hse hsk hn hcap hcm w hk
 ·exact lawset_nomay hm hgp hgq hgg hlg hfa hse hsk hn hcap hcm w hk
theorem set_parts {gp gq gg gh n : Nat} {fa se : Int} {ks : List (Nat × Nat)} (h : jG gp gq gg gh fa se n ks = true) : (0 ≤ fa ∧ fa ≤ 2 ∧ 3 * fa + 1 ≤ n) ∧ (inG gp gq gg ∧ gg ≠ 1) ∧ ∀ k ∈ ks, inG gp gq k.1 ∧ k.1 ≠ 1 := by
 unfold jG at h
 iterate 8
  split at h; · cases h
 rename_i h1 h2 h3 h4 h5 h6 h7 h8
 refine ⟨by omega, ?_, fun k hk => ?_⟩
 ·simp only [Bool.or_eq_true, not_or, zC, Bool.not_eq_true', decide_eq_false_iff_not, Decidable.not_not, decide_eq_true_eq] at h8; exact h8.1
 ·have h9 := h; simp only [Bool.not_eq_true', List.any_eq_false] at h9; have h10 := h9 k hk; simp only [zY, zC, Bool.or_eq_true, not_or, Bool.not_eq_true', decide_eq_false_iff_not, Decidable.not_not, decide_eq_true_eq] at h10; exact h10.1
theorem sig_of {gp gq gg x d : Nat} {h : List Nat} (hg : inG gp gq gg) (hq : 1 < gq) : JP gp gq gg x d h = qM gq (gg ^ x % gp) (backR gp gq gg (gg ^ x % gp) (JP gp gq gg x d h) (QJ gp gq gg x d h)) h := by
 have hc : JP gp gq gg x d h ≤ gq := by unfold JP qM Jh; exact Nat.le_of_lt (Nat.mod_lt _ (by omega))
 have h9 := backR_sign (x := x) (d := d) hg.1.1 hg.2 hc; have e : backR gp gq gg (gg ^ x % gp) (JP gp gq gg x d h) (QJ gp gq gg x d h) = gg ^ d % gp := h9; rw [e]
 rfl
def JV (gp gg h : Nat) (sk : List (Nat × Nat)) : List (Nat × Nat) := sk.map fun k => (gg ^ k.1 % gp, h ^ k.2 % gp)
theorem stOk_of {w : World} {gp gq gg lg n : Nat} {fa se : Int} {sk : List (Nat × Nat)} {a : Option Addr} (h : SetOk w gp gq gg lg n fa se sk a) (hgp : gp < jk) (hgq : gq < jk) (hgg : gg < jk) (hfa : -9223372036854775808 ≤ fa ∧ fa ≤ 9223372036854775807) (hse : -9223372036854775808 ≤ se ∧ se ≤ 9223372036854775807) (hn : n = sk.length) :
  StOk gp gq gg (gg ^ lg % gp) n fa se (JV gp gg (gg ^ lg % gp) sk) := by
 have hp : 1 < gp := h.may.1; refine ⟨fun k hk => ?_, hgq, hgp, hgg, Nat.lt_trans (Nat.mod_lt _ (by omega)) hgp, by rw [hn]; simp [JV], hfa, hse, h.le, h.ok, h.may, h.prime.2.1, (set_parts h.ok).2.2⟩; obtain ⟨k9, _, rfl⟩ := List.mem_map.1 hk; exact ⟨Nat.lt_trans (Nat.mod_lt _ (by omega)) hgp, Nat.lt_trans (Nat.mod_lt _ (by omega)) hgp⟩
def GoodV (n : Nat) (x : Bal.Bv) : Prop := (x.k = 1 ∨ x.k = 2) ∧ x.v < 256 ∧ (1 ≤ x.n ∧ x.n ≤ n) ∧ x.s < 4
theorem good_of {n : Nat} (h0 : 0 < n) {c : Ch} (hv : c.view < 256) : GoodV n (bvOf n c) := by
 refine ⟨?_, hv, ⟨Nat.succ_le_succ (Nat.zero_le _), ?_⟩, Nat.mod_lt _ (by decide)⟩
 ·unfold bvOf
  cases c.sec <;> simp
 ·have := Nat.mod_lt c.node h0
  show c.node % n + 1 ≤ n
  omega
theorem check_good {gp gq gg gh n ep : Nat} {fa se : Int} {sk : List (Nat × Nat)} (st : StOk gp gq gg gh n fa se (JV gp gg gh sk)) (hg : inG gp gq gg) (x : Bal.Bv) (hx : GoodV n x) {nb no cap : Nat} (W : World) (hk : KeysAt W nb no (JV gp gg gh sk)) :
  Calls Tryz.prog 17 #[qu gp gq gg gh fa se (.slice (some ⟨nb, no, none⟩) n cap), .agg (vvS gp gq gg ep sk x).toArray] W fun r W' => r = .returned (.bool true) ∧ Below W.heap.size W W' := by
 obtain ⟨i, hi⟩ : ∃ i, x.n = i + 1 := ⟨x.n - 1, by have := hx.2.2.1.1; omega⟩; have hin : i < sk.length := by have h1 := st.hn; have h2 := hx.2.2.1.2; simp only [JV, List.length_map] at h1; omega
 obtain ⟨⟨s1, s2⟩, hs⟩ : ∃ s, sk[i]? = some s := ⟨_, List.getElem?_eq_getElem hin⟩; have hki : (JV gp gg gh sk)[i]? = some (gg ^ s1 % gp, gh ^ s2 % gp) := by simp [JV, hs]
 have hK : sgK sk x = s1 := by simp [sgK, hi, List.getD_eq_getElem?_getD, hs]
 have hq := st.q1; have hC : sgC gp gq gg ep sk x < gq := by unfold sgC JP qM Jh; exact Nat.mod_lt _ (by omega)
 have hS : sgS gp gq gg ep sk x < gq := by unfold sgS QJ; exact Nat.mod_lt _ (by omega)
 have hsig : sgC gp gq gg ep sk x = qM gq (gg ^ s1 % gp) (backR gp gq gg (gg ^ s1 % gp) (sgC gp gq gg ep sk x) (sgS gp gq gg ep sk x)) (zj x.k ep x.v x.n (Ja x.s)) := by
  unfold sgC sgS; rw [hK]; exact sig_of hg hq
 have h7 := st.hn7; exact BCheck_yes (cap := cap) st (jX x.s) (by have := hx.2.1; omega) (by have := hx.2.2.1.2; omega) hx.1 (by have := hx.2.1; omega) (hsL_bytes (by have := hx.2.2.2; omega)) hi hki hC hS hsig W hk
theorem Turn.low {w w' : World} {bx gp gq gg gh n cap nb no mb fb fo fc ep base : Nat} {fa se : Int} {ks : List (Nat × Nat)} {vv : Bal.Bv → List Value} {f : Value → Option Value} {E : List Bal.Bv} (ht : Turn w w' mb fb f) (h : BoxAt w bx gp gq gg gh n cap nb no mb fb fo fc ep base fa se ks vv f E) {b : Nat} (hb : b < base) (h1 : b ≠ mb) (h2 : b ≠ fb) : w'.heap[b]? = w.heap[b]? :=
 ht.block b (Nat.lt_of_lt_of_le hb h.bs) h1 h2 fun h3 => by have := (h.rows.lt h3).1; omega
theorem BPut_any {bx gp gq gg gh n cap nb no mb fb fo fc ep base : Nat} {fa se : Int} {sk : List (Nat × Nat)} {f : Value → Option Value} {E : List Bal.Bv} {x : Bal.Bv} (st : StOk gp gq gg gh n fa se (JV gp gg gh sk)) (hg : inG gp gq gg) (hx : GoodV n x) (hE : E.length ≤ 1000) (w : World) (h : BoxAt w bx gp gq gg gh n cap nb no mb fb fo fc ep base fa se (JV gp gg gh sk) (vvS gp gq gg ep sk) f E) :
  Calls Tryz.prog 11 #[.pointer (some ⟨bx, 0, none⟩), .agg (vvS gp gq gg ep sk x).toArray] w fun r w' => r = .returned (.tuple #[.bool (putR E x).1, .int .i64 (putR E x).2]) ∧ ∃ f', BoxAt w' bx gp gq gg gh n cap nb no mb fb fo fc ep base fa se (JV gp gg gh sk) (vvS gp gq gg ep sk) f' (Bal.bput E x) ∧ Turn w w' mb fb f ∧ ∀ g, Qr f' g → Qr f g ∨ w.heap.size ≤ g := by
 obtain ⟨i, hi⟩ : ∃ i, x.n = i + 1 := ⟨x.n - 1, by have := hx.2.2.1.1; omega⟩; have hin : i < n := by have := hx.2.2.1.2; omega
 have hk9 : x.k < 256 := by have := hx.1; omega
 have hv9 : x.v < 4294967296 := by have := hx.2.1; omega
 have hc := fun W hk => check_good (cap := cap) (ep := ep) st hg x hx W (nb := nb) (no := no) hk
 by_cases hxE : x ∈ E
 ·refine (BPut_in hi hin st.hn7 hk9 hv9 hE hc hxE w h).mono ?_; rintro r w' ⟨rfl, hb⟩; refine ⟨by unfold putR; rw [if_pos hxE], f, ?_, turn_of_below hb _ _ _, fun g hg => .inl hg⟩; have e : Bal.bput E x = E := by unfold Bal.bput; rw [if_pos hxE]
  rw [e]; exact h.later hb
 ·refine (BPut_new hi hin st.hn7 hk9 hv9 hE hc hxE w h).mono ?_; rintro r w' ⟨rfl, f', h1, h2, h3⟩; refine ⟨?_, f', h1, h2, h3⟩; unfold putR; rw [if_neg hxE]
  by_cases h0 : (Bal.at_ E x.k x.v x.n).length = 0
  ·rw [if_pos h0, if_pos h0, decide_eq_true h0]
  ·rw [if_neg h0, if_neg h0, decide_eq_false h0]
theorem kept_len (l : List Bal.Bv) : (Bal.kept l).length ≤ l.length := by
 have key : ∀ R : List Bal.Bv, (Bal.kept R.reverse).length ≤ R.length := by
  intro R
  induction R with
  | nil => exact Nat.le_refl _
  | cons x R ih =>
   rw [List.reverse_cons, Bal.kept_snoc, List.length_cons]; unfold Bal.bput
   split
   ·omega
   ·rw [List.length_append]
    simp
    omega
 have h9 := key l.reverse
 rwa [List.reverse_reverse, List.length_reverse] at h9
theorem far_uniq {E F : List Bal.Bv} {n : Nat} {fa y z : Int} (h : ∀ x, x ∈ E ↔ x ∈ F) (h1 : FarIs E n fa y) (h2 : FarIs F n fa z) : y = z := by
 obtain ⟨D1, p1, s1, e1⟩ := h1; obtain ⟨D2, p2, s2, e2⟩ := h2
 have hf : Qy E n = Qy F n := by
  unfold Qy
  congr 1
  funext i
  exact Bal.far_same h (i + 1)
 have hD : D1 = D2 := List.Perm.eq_of_pairwise (le := fun a b : Int => a ≤ b) (fun a b _ _ h1 h2 => Int.le_antisymm h1 h2) s1 s2 (p1.trans (hf ▸ p2.symm)); rw [hD, e2] at e1; exact (Option.some.inj e1).symm
theorem ballotsOrder_walk {gp gq gg gh lg n cap m lc : Nat} {fa se : Int} {ao al : Option Addr} {sk : List (Nat × Nat)} {l : List Ch} (hgp : gp < jk) (hgq : gq < jk) (hgg : gg < jk) (hlg : lg < jk) (hfa : -9223372036854775808 ≤ fa ∧ fa ≤ 9223372036854775807) (hse : -9223372036854775808 ≤ se ∧ se ≤ 9223372036854775807) (hsk : ∀ k ∈ sk, k.1 < jk ∧ k.2 < jk) (hn : n = sk.length) (hcap : n ≤ cap) (hcm : cap ≤ maxLen) (hml : m = l.length) (hmc : m ≤ lc) (hlm : lc ≤ maxLen) (hch : ∀ c ∈ l, c.node < 256 ∧ c.set < 256 ∧ c.view < 256) (w : World) (hk : 0 < n → ∃ b o, ao = some ⟨b, o, none⟩ ∧ KeysAt w b o sk) (hc : 0 < m → ∃ lb lo, al = some ⟨lb, lo, none⟩ ∧ ChAt w lb lo l) :
  Calls Tryz.prog 5 #[zG gp gq gg gh lg fa se (.slice ao n cap), .slice al m lc] w fun e w' => e = .returned (.bool true) ∧ Below w.heap.size w w' := by
 have CW := jh (fun (W : World) (hb : Below w.heap.size w W) => by have h9 := lawset_any (gh := gh) hgp hgq hgg hlg hfa hse hsk hn hcap hcm W (fun h0 => by obtain ⟨b, o, h1, h2⟩ := hk h0; exact ⟨b, o, h1, h2.later hb⟩); exact h9); have HGP := jh hgp; have HGG := jh hgg; have HGQ := jh hgq; have HFA := jh hfa; have HSE := jh hse; have HN := jh hn; have HK := jh hk; have HC := jh hc; have HML := jh hml; have HCH := jh hch; have HLM := jh (And.intro hmc hlm); have hcx : cap ≤ 9223372036854775807 := by unfold maxLen at hcm; omega
 have hnx : n ≤ 9223372036854775807 := by omega
 have hmx : m ≤ 9223372036854775807 := by unfold maxLen at hlm; omega
 clear hgp hgq hgg hlg hfa hse hsk hn hcap hcm hml hmc hlm hch hk hc; obtain ⟨ZV, hZV⟩ : ∃ ZV, zG gp gq gg gh lg fa se (.slice ao n cap) = .agg ZV := ⟨_, rfl⟩; have hszZ : (Tryz.prog.info? 29).map (·.size) = some ZV.size := by rw [info_c9]; have e9 := hZV; unfold zG at e9; injection e9 with e9; rw [← e9]; rfl
 have HSZ := jh hszZ; have HZV := jh hZV; rw [hZV] at CW ⊢; clear hZV
 go_enter Tryz.func5, Tryz.ntmps5
 go_upto_region 1 with fail
 obtain ⟨v_1, e1⟩ := je (w.alloc (.cells ZV 29)); obtain ⟨CB, hCB⟩ := je (w.heap.size); have HB := jh (show Below w.heap.size w v_1 by rw [e1]; exact ja); have HZ := jh (show v_1.heap[CB]? = some (.cells ZV 29 (0, 0)) by rw [e1, hCB]; exact heap_alloc_new _ _); rw [← e1, ← hCB]; clear e1 hCB hszZ; refine wp_region_lit ?_; refine ji rfl (jg (qo HZ.out Tryz.underlying29 rfl HSZ.out)) ?_; simp only [Act.put, pa, pb, pc]
 go_wp2_with fail
 refine (CW.out _ HB.out).mono ?_; rintro _ v_2 ⟨p, q, g, h2, f9, s9, a9, n9, c9, ok, rfl, hok, hb⟩; have HZ := jb hb HZ; have HB := jw HB hb; clear hb; have HOK := jh hok; clear hok; obtain ⟨SV, hSV⟩ : ∃ SV, qu p q g h2 f9 s9 (.slice a9 n9 c9) = .agg SV := ⟨_, rfl⟩; rw [hSV]; dsimp only
 go_step
 refine ji (v := .tuple #[.agg SV, .bool ok]) rfl (by kernel_rfl) ?_; simp only [Act.put, pa, pb, pc]; refine ji (v := .agg SV) rfl (by kernel_rfl) ?_; simp only [Act.put, pa, pb, pc]; refine ji (v := .bool ok) rfl (by kernel_rfl) ?_; simp only [Act.put, pa, pb, pc]; have hszS : (Tryz.prog.info? 33).map (·.size) = some SV.size := by rw [JF, Jx hSV]
 have h1S := setV_one (by rfl) hSV; refine qe (v := .pointer (some ⟨v_2.heap.size, 0, none⟩)) (w' := v_2.alloc (.cells zero19 33)) rfl (by kernel_rfl) ?_; simp only [Act.put, pa, pb, pc]; refine jT rfl _ _ _ rfl zero19 SV rfl rfl hszS (by rw [Jx hSV]; rfl) h1S ?_; simp only [Act.put, pa, pb, pc]
 go_upto_region 2 with fail
 obtain ⟨v_3, e9⟩ := je (v_2.alloc (.cells SV 33)); obtain ⟨SB, h9⟩ := je (v_2.heap.size); have hb := jc e9; have hrS : v_3.heap[SB]? = some (.cells SV 33 (0, 0)) := by rw [e9, h9]; exact heap_alloc_new _ _
 have hS : SAt v_3 SB p q g h2 f9 s9 (.slice a9 n9 c9) := by have e8 := hSV; unfold qu at e8; injection e8 with e8; rw [e9, h9, ← e8]; exact SAt.new _ _ _ _ _ _ _ _ _
 rw [← e9, ← h9]; have WSB := jh (show w.heap.size ≤ SB ∧ SB < v_3.heap.size by rw [h9, e9]; exact ⟨HB.out.size, by simp⟩); clear e9 h9; have HZ := jb hb HZ; have HB := jw HB hb; have HB23 := jh hb; have HS := jh hS; have HSR := jh hrS; have HSV := jh hSV; have HSZS := jh hszS; clear hb hS hrS hSV hszS h1S
 cases ok
 ·go_wp2_with (first | (go_at_call 8; refine (JS _).mono ?_; rintro _ wl ⟨rfl, hbl⟩; have HB := jw HB hbl; clear hbl))
  go_ret
  exact ⟨rfl, HB.out⟩
 obtain ⟨e1, e2, e3, e4, e5, e6, e7, hset⟩ := HOK.out rfl; clear HOK; subst e1 e2 e3 e5 e6 e7; subst e4; have HSET := jh hset; clear hset
 by_cases hn0 : n9 = 0
 ·have k0 : ((n9 : Int) == 0) = true := by simp; omega
  have y18 := HS.out.nd
  go_wp2_with (first | (go_at_call 8; refine (JS _).mono ?_; rintro _ wl ⟨rfl, hbl⟩; have HB := jw HB hbl; clear hbl))
  go_ret
  exact ⟨rfl, HB.out⟩
 have k0 : ((n9 : Int) == 0) = false := by simp; omega
 by_cases hml40 : 40 < m
 ·have k1 : (40 : Int) < (m : Int) := by omega
  have y18 := HS.out.nd
  go_wp2_with (first | (go_at_call 8; refine (JS _).mono ?_; rintro _ wl ⟨rfl, hbl⟩; have HB := jw HB hbl; clear hbl))
  go_ret
  exact ⟨rfl, HB.out⟩
 have k1 : ¬ (40 : Int) < (m : Int) := by omega
 have hn0 : 0 < n9 := by omega
 obtain ⟨kb, ko, rfl, hks⟩ := HK.out hn0; obtain ⟨nb0, no0, rfl, hnk⟩ := HSET.out.nodes hn0; have hstk := stOk_of HSET.out HGP.out HGQ.out HGG.out HFA.out HSE.out HN.out; obtain ⟨hpa, hgin, -⟩ := set_parts HSET.out.ok; have STK := jh hstk; have HG := jh hgin.1; have HPA := jh hpa; have HN0 := jh hn0; have HKS := jh hks; have H40 := jh (show m ≤ 40 by omega); have hm40 : (m : Int) ≤ 40 := by omega
 have HKY := jh (fun (k : Nat × Nat) (h9 : k ∈ sk) => HSET.out.keys k h9); clear hks hstk hpa hgin hn0 hml40; have HNK := jh (show KeysAt v_3 nb0 no0 (JV p g (g ^ lg % p) sk) from hnk.later HB23.out); clear hnk HB23; have CN := jh (fun (W : World) (hk9 : KeysAt W nb0 no0 (JV p g (g ^ lg % p) sk)) => by have h9 := BNew_any (cap := c9) (ep := 7) (vvS p q g 7 sk) STK.out HN0.out W hk9; rewrite [HSV.out] at h9; exact h9); have CL := jh (fun (W : World) (hb9 : Below w.heap.size w W) => by have h9 := lvotes_any (ks := []) (g0 := gh) (lg := lg) (kc := cap) (nb := nb0) (no := no0) (cap := c9) (gh := g ^ lg % p) (ep := 7) (fa := f9) (se := s9) (lc := lc) HSET.out.may HGP.out HGG.out HSET.out.prime.2.1 HGQ.out (fun k hk => ⟨(HKY.out k hk).1, (HKY.out k hk).2.2.1⟩) HN.out HN0.out STK.out.hn7 HML.out H40.out HCH.out W (HKS.out.later hb9) (fun h0 => by obtain ⟨lb, lo, h1, h2⟩ := HC.out h0; exact ⟨lb, lo, h1, h2.later hb9⟩); rewrite [HSV.out, HZV.out] at h9; exact h9); have y18 := HS.out.nd
 go_upto_region 4 with fail
 clear y18 k0 k1 HS WSB; refine wp_region_lit ?_; refine ji rfl (jg (qo HSR.out Tryz.underlying33 rfl HSZS.out)) ?_; simp only [Act.put, pa, pb, pc]; have LT3 := jh HB.out.size
 go_upto_region 5 with (first | (go_at_call 9; refine (CN.out _ HNK.out).mono ?_; rintro _ v_4 ⟨bxA, nbA, noA, c2A, mbA, fbA, rfl, hbx, hge, hb⟩))
 have HZ := jb hb HZ; have HSR := jb hb HSR; have HNK := jh (HNK.out.later hb); have HB := jw HB hb; have HBA := jh hbx; have NA := jh (And.intro hge hbx.lt); clear hb hbx hge; refine wp_region_lit ?_; refine ji rfl (jg (qo HSR.out Tryz.underlying33 rfl HSZS.out)) ?_; simp only [Act.put, pa, pb, pc]
 go_upto_region 8 with (first | (go_at_call 9; refine (CN.out _ HNK.out).mono ?_; rintro _ v_5 ⟨bxB, nbB, noB, c2B, mbB, fbB, rfl, hbx, hge, hb⟩))
 have HZ := jb hb HZ; have HSR := jb hb HSR; have HNK := jh (HNK.out.later hb); have HB := jw HB hb; have HBA := jh (HBA.out.later hb); have HBB := jh hbx; have NB := jh (And.intro hge hbx.lt); have LT5 := jh hb.size; clear hb hbx hge; refine wp_region_lit ?_; refine ji rfl (jg (qo HZ.out Tryz.underlying29 rfl HSZ.out)) ?_; refine ji rfl (jg (qo HSR.out Tryz.underlying33 rfl HSZS.out)) ?_; simp only [Act.put, pa, pb, pc]
 go_upto_region 9 with (first | (go_at_call 10; refine (CL.out _ HB.out).mono ?_; rintro _ v_6 ⟨u, rfl, hu, hb⟩))
 have HBA := jh (HBA.out.later hb).rebase; have HBB := jh (HBB.out.later hb).rebase; have LT6 := jh hb.size; have HB := jw HB hb; obtain ⟨base, hbase⟩ := je (v_6.heap.size); rw [← hbase] at HBA HBB; obtain ⟨LL, hLL⟩ := je (l.map (bvOf n9)); rw [← hLL] at hu; have hLm : LL.length = m := by rw [hLL, List.length_map]; exact HML.out.symm
 have hgood : ∀ x ∈ LL, GoodV n9 x := by rw [hLL]; intro x hx; obtain ⟨c, hc, rfl⟩ := List.mem_map.1 hx; exact good_of HN0.out (HCH.out c hc).2.2
 have HLm := jh hLm; have HGD := jh hgood; obtain ⟨ua, uc, rfl⟩ := hu.shape9; have HU := jh hu; have NU := jh (fun (k : Nat) (hk : (Value.slice ua m uc).ownBlock = some k) => show k < base ∧ k ≠ mbA ∧ k ≠ fbA ∧ k ≠ mbB ∧ k ≠ fbB by have h1 := hu.lt k hk; have h2 := NA.out; have h3 := NB.out; have h4 := LT5.out; omega); have NW := jh (show (w.heap.size ≤ mbA ∧ w.heap.size ≤ fbA) ∧ (w.heap.size ≤ mbB ∧ w.heap.size ≤ fbB) ∧ w.heap.size ≤ base by have h1 := NA.out; have h2 := NB.out; have h3 := LT3.out; have h4 := LT5.out; have h5 := LT6.out; omega); have NAB := jh (show (bxA < v_4.heap.size ∧ nbA < v_4.heap.size ∧ mbA < v_4.heap.size ∧ fbA < v_4.heap.size) ∧ (v_4.heap.size ≤ bxB ∧ v_4.heap.size ≤ nbB ∧ v_4.heap.size ≤ mbB ∧ v_4.heap.size ≤ fbB) ∧ v_4.heap.size ≤ base from ⟨NA.out.2, NB.out.1, by have h4 := LT5.out; have h5 := LT6.out; omega⟩); clear hb hu hbase hLL hLm hgood HZ HSR HNK NA NB
 go_wp2_with fail
 go_loopw [12] (fun i wr => ∃ (j : Nat) (fA fB : Value → Option Value), j ≤ m ∧ i = .int .i64 j ∧ Hid (BoxAt wr bxA p q g (g ^ lg % p) n9 c2A nbA noA mbA fbA 0 n9 7 base f9 s9 (JV p g (g ^ lg % p) sk) (vvS p q g 7 sk) fA (Bal.kept (LL.take j))) ∧ Hid (BoxAt wr bxB p q g (g ^ lg % p) n9 c2B nbB noB mbB fbB 0 n9 7 base f9 s9 (JV p g (g ^ lg % p) sk) (vvS p q g 7 sk) fB (Bal.kept (LL.reverse.take j))) ∧ Hid (∀ k, Qr fA k → ¬ Qr fB k) ∧ Hid (OwnV wr v_5.heap.size 52 44 (.slice ua m uc) m (LL.flatMap (vvS p q g 7 sk))) ∧ Hid (Below w.heap.size w wr)) (fun i _ => m - (intOf i).toNat)
 case atStart => exact ⟨0, _, _, Nat.zero_le _, rfl, HBA, HBB, jh (fun k h => absurd h (rowB_none k)), HU, HB⟩
 case round =>
  clear HBA HBB HU HB; obtain ⟨j, fA, fB, hj, rfl, HBA, HBB, HX9, HU, HB⟩ := hrel
  by_cases hlt : j < m
  ·have hltI : (j : Int) < (m : Int) := by omega
   obtain ⟨x, hx⟩ : ∃ x, LL[j]? = some x := ⟨_, List.getElem?_eq_getElem (by have := HLm.out; omega)⟩; obtain ⟨i, hi⟩ := je (m - 1 - j); obtain ⟨z, hz⟩ : ∃ z, LL[i]? = some z := ⟨_, List.getElem?_eq_getElem (by have := HLm.out; omega)⟩; have hzr : LL.reverse[j]? = some z := by rw [List.getElem?_reverse (by have := HLm.out; omega), HLm.out, ← hi]; exact hz
   obtain ⟨ub, uo, uc9, hue, hva⟩ := qQ HU.out (by omega); injection hue with hue _ huc
   subst hue; subst huc; have hjI : (0 : Int) ≤ (j : Int) := by omega
   have hiI : (i : Int) < (m : Int) := by omega
   have hi0 : (0 : Int) ≤ (i : Int) := by omega
   have hmi : (m : Int) - 1 - (j : Int) = (i : Int) := by omega
   have HMI := jh hmi; have HX := jh hx; have HZ9 := jh hz; have HZR := jh hzr; have HLT := jh hlt; have E1 := jh (show IntKind.i64.wrap ((m : Int) - 1) = (m : Int) - 1 by simp [IntKind.wrap, IntKind.bits, IntKind.signed]; omega); have E2 := jh (show IntKind.i64.wrap ((m : Int) - 1 - (j : Int)) = (i : Int) by rw [hmi]; simp [IntKind.wrap, IntKind.bits, IntKind.signed]; omega); have hklen : ∀ R : List Bal.Bv, (Bal.kept (R.take j)).length ≤ 1000 := fun R => by have h1 := kept_len (R.take j); have h2 : (R.take j).length ≤ j := List.length_take_le _ _; have h3 := H40.out; omega
   have HKL := jh hklen; have CPA := jh (BPut_any STK.out HG.out (HGD.out x (List.mem_of_getElem? hx)) (hklen LL) wr HBA.out); have LVA := jh (loadV (hva.at (jM _ _ _) hx) (jM _ _ _ _)); obtain ⟨VL, hVL⟩ := je ((vvS p q g 7 sk x).toArray); have LVA := jh (show (Instr.loadAt 52 (.pointer (some ⟨ub, uo + j * 44, none⟩))).run Tryz.prog wr = .ok (.agg VL) wr by rw [hVL]; exact LVA.out); rw [← hVL] at CPA; obtain ⟨ZL, hZL⟩ := je ((vvS p q g 7 sk z).toArray); have HZL := jh hZL; clear hva hx hz hzr hlt hVL hZL hklen hmi hi
   go_upto_region 12 with fail
   refine wp_region_lit ?_; refine ji (v := .pointer (some ⟨bxA, 0, none⟩)) rfl (by kernel_rfl) ?_; refine ji (v := .slice (some ⟨ub, uo, none⟩) m uc) rfl (by kernel_rfl) ?_; refine ji (v := .int .i64 j) rfl (by kernel_rfl) ?_; refine ji (v := .pointer (some ⟨ub, uo + j * 44, none⟩)) rfl (by simp [go_sem, hltI, hjI]) ?_; refine ji rfl (jg LVA.out) ?_; simp only [Act.put, pa, pb, pc]
   go_upto_region 13 with (first | (go_at_call 11; refine CPA.out.mono ?_; rintro _ w2 ⟨rfl, fA2, hb2, ht2, hr2⟩))
   have HBB2 := jh (HBB.out.other ht2 (by have := NAB.out; omega) (by have := NAB.out; omega) (fun k hk => (HBA.out.rows.lt hk).1) (fun k hk h9 => HX9.out k h9 hk)); have HX92 := jh (fun (k : Nat) (h1 : Qr fA2 k) (h2 : Qr fB k) => show False by rcases hr2 k h1 with h3 | h3; exact HX9.out k h3 h2; have := (HBB.out.rows.lt h2).2; omega); have HU2 := jh (OwnV.block HU.out fun k hk => ht2.low HBA.out (NU.out k hk).1 (NU.out k hk).2.1 (NU.out k hk).2.2.1); have HB2 := jh (HB.out.trans (ht2.below NW.out.1.1 NW.out.1.2 (fun k hk => Nat.le_trans NW.out.2.2 (HBA.out.rows.lt hk).1) HB.out.size)); have HBA2 := jh hb2; clear hb2 ht2 hr2 HBA HBB HX9 HU HB CPA LVA; obtain ⟨ub2, uo2, uc92, hue, hva⟩ := qQ HU2.out (by have := HLT.out; omega); injection hue with hue _ huc
   subst huc; injection hue with hue
   injection hue with hu1 hu2 hu3
   subst hu1; subst hu2; (try clear hu3); have LVB := jh (show (Instr.loadAt 52 (.pointer (some ⟨ub, uo + i * 44, none⟩))).run Tryz.prog w2 = .ok (.agg ZL) w2 by rw [HZL.out]; exact loadV (hva.at (jM _ _ _) HZ9.out) (jM _ _ _ _)); have CPB := jh (by have h9 := BPut_any STK.out HG.out (HGD.out z (List.mem_of_getElem? HZ9.out)) (HKL.out LL.reverse) w2 HBB2.out; rewrite [← HZL.out] at h9; exact h9); clear hva; refine wp_region_lit ?_; refine ji (v := .pointer (some ⟨bxB, 0, none⟩)) rfl (by kernel_rfl) ?_
   iterate 2
    refine ji (v := .slice (some ⟨ub, uo, none⟩) m uc) rfl (by kernel_rfl) ?_
   refine ji (v := .int .i64 m) rfl (by simp [go_sem]) ?_; refine ji (v := .int .i64 ((m : Int) - 1)) rfl (by have e9 := E1.out; simp [go_sem, e9]) ?_; refine ji (v := .int .i64 j) rfl (by kernel_rfl) ?_; refine ji (v := .int .i64 i) rfl (by have e9 := E2.out; simp [go_sem, e9]) ?_; simp only [Act.put, pa, pb, pc]; refine ji (v := .pointer (some ⟨ub, uo + i * 44, none⟩)) rfl (by simp [go_sem, hiI, hi0]) ?_; simp only [Act.put, pa, pb, pc]; refine ji rfl (jg LVB.out) ?_; simp only [Act.put, pa, pb, pc]
   go_wp2_with (first | (go_at_call 11; refine CPB.out.mono ?_; rintro _ w3 ⟨rfl, fB2, hb3, ht3, hr3⟩; have HB3 := jh hb3; have HT3 := jh ht3; have HR3 := jh hr3; clear hb3 ht3 hr3))
   go_roundw
   case rel => exact ⟨j + 1, fA2, fB2, HLT.out, by go_num, jh (by rw [List.take_add_one, HX.out]; exact (Bal.kept_snoc _ _).symm ▸ (HBA2.out.other HT3.out (by have := NAB.out; have := HBA2.out.lt; have := HBB2.out.lt; omega) (by have := NAB.out; have := HBB2.out.lt; omega) (fun k hk => (HBB2.out.rows.lt hk).1) (fun k hk h9 => HX92.out k hk h9))), jh (by rw [List.take_add_one, HZR.out]; exact (Bal.kept_snoc _ _).symm ▸ HB3.out), jh (fun k h1 h2 => by rcases HR3.out k h2 with h3 | h3; exact HX92.out k h1 h3; have := (HBA2.out.rows.lt h1).2; omega), jh (OwnV.block HU2.out fun k hk => HT3.out.low HBB2.out (NU.out k hk).1 (NU.out k hk).2.2.2.1 (NU.out k hk).2.2.2.2), jh (HB2.out.trans (HT3.out.below NW.out.2.1.1 NW.out.2.1.2 (fun k hk => Nat.le_trans NW.out.2.2 (HBB2.out.rows.lt hk).1) HB2.out.size))⟩
   case measure => simp [intOf]; have := HLT.out; omega
  ·obtain rfl : j = m := by omega
   clear hlt; have hkA : LL.take j = LL := List.take_of_length_le (by have := HLm.out; omega); have hkB : LL.reverse.take j = LL.reverse := List.take_of_length_le (by rw [List.length_reverse]; have := HLm.out; omega); rw [hkA] at HBA; rw [hkB] at HBB; clear hkA hkB hj; obtain ⟨E1, hE1⟩ := je (Bal.kept LL); obtain ⟨E2, hE2⟩ := je (Bal.kept LL.reverse); have hmem : ∀ x, x ∈ E1 ↔ x ∈ E2 := fun x => by rw [hE1, hE2, Bal.mem_kept, Bal.mem_kept, List.mem_reverse]
   have hmemL : ∀ x, x ∈ E1 ↔ x ∈ LL := fun x => by rw [hE1, Bal.mem_kept]
   have hnd1 : E1.Nodup := by rw [hE1]; exact Bal.kept_nodup _
   have hnd2 : E2.Nodup := by rw [hE2]; exact Bal.kept_nodup _
   have hl1 : E1.length ≤ 1000 := by rw [hE1]; have h1 := kept_len LL; have h2 := HLm.out; have h3 := H40.out; omega
   have hl2 : E2.length ≤ 1000 := by rw [hE2]; have h1 := kept_len LL.reverse; rw [List.length_reverse] at h1; have h2 := HLm.out; have h3 := H40.out; omega
   rw [← hE1] at HBA; rw [← hE2] at HBB; have HM9 := jh hmem; have HML9 := jh hmemL; have HND := jh (And.intro hnd1 hnd2); have HLE := jh (And.intro hl1 hl2); clear hE1 hE2 hmem hmemL hnd1 hnd2 hl1 hl2; obtain ⟨wx, hwx⟩ : ∃ wx : World, wx = wr := ⟨_, rfl⟩; rw [← hwx] at HBA HBB HU HB ⊢; clear hwx HX9
   go_wp2_with fail
   go_loopw [13] (fun i wr => ∃ q9 : Nat, q9 ≤ j ∧ i = .int .i64 q9 ∧ Hid (Below wx.heap.size wx wr)) (fun i _ => j - (intOf i).toNat)
   case atStart => exact ⟨0, Nat.zero_le _, rfl, jh (Below.refl _ _)⟩
   case round =>
    obtain ⟨q9, hq, rfl, HW⟩ := hrel
    by_cases hlt : q9 < j
    ·have hltJ : (q9 : Int) < (j : Int) := by omega
     obtain ⟨x, hx⟩ : ∃ x, LL[q9]? = some x := ⟨_, List.getElem?_eq_getElem (by have := HLm.out; omega)⟩; obtain ⟨ub, uo, uc9, hue, hva⟩ := qQ HU.out (by omega); injection hue with hue _ huc
     subst hue; subst huc; have hgx := HGD.out x (List.mem_of_getElem? hx); have hq0 : (0 : Int) ≤ (q9 : Int) := by omega
     obtain ⟨VL, hVL⟩ := je (vvS p q g 7 sk x); have hVs : VL.length = 44 := by rw [hVL]; exact jM _ _ _ _
     have hV1 : ∀ u ∈ VL, u.oneCell' = true := by rw [hVL]; exact QH _ _ _ _
     have LV := jh (show (Instr.loadAt 52 (.pointer (some ⟨ub, uo + q9 * 44, none⟩))).run Tryz.prog wr = .ok (.agg VL.toArray) wr by rw [hVL]; exact loadV (jA (hva.at (jM _ _ _) hx) HW.out) (jM _ _ _ _)); have hszV : (Tryz.prog.info? 52).map (·.size) = some VL.toArray.size := by rw [qg]; simp [hVs]
     obtain ⟨T, hT⟩ := je ((jq .u8 (Ja x.s)).toArray); have CVA := jh (fun (W : World) (hb9 : Below wx.heap.size wx W) => by have h9 := ZI (k := x.k) (v := x.v) (s := x.s) HLE.out.1 STK.out.hn7 (by have := hgx.1; omega) (by have := hgx.2.1; omega) W (HBA.out.later hb9); rewrite [← hT] at h9; exact h9); have CVB := jh (fun (W : World) (hb9 : Below wx.heap.size wx W) => by have h9 := ZI (k := x.k) (v := x.v) (s := x.s) HLE.out.2 STK.out.hn7 (by have := hgx.1; omega) (by have := hgx.2.1; omega) W (HBB.out.later hb9); rewrite [← hT, ← Bal.votesOf_same HND.out.1 HND.out.2 HM9.out] at h9; exact h9); have CAA := jh (fun (W : World) (hb9 : Below wx.heap.size wx W) => BAny_any (k := x.k) (v := x.v) HLE.out.1 STK.out.hn7 (by have := hgx.1; omega) (by have := hgx.2.1; omega) W (HBA.out.later hb9)); have CAB := jh (fun (W : World) (hb9 : Below wx.heap.size wx W) => by have h9 := BAny_any (k := x.k) (v := x.v) HLE.out.2 STK.out.hn7 (by have := hgx.1; omega) (by have := hgx.2.1; omega) W (HBB.out.later hb9); rewrite [← Bal.anyOf_same HM9.out] at h9; exact h9); have CFA := jh (fun (W : World) (hb9 : Below wx.heap.size wx W) => by have h9 := BFull_any (k := x.k) (v := x.v) (s := x.s) HLE.out.1 STK.out.hn7 (by have := hgx.1; omega) (by have := hgx.2.1; omega) W (HBA.out.later hb9); rewrite [← hT] at h9; exact h9); have CFB := jh (fun (W : World) (hb9 : Below wx.heap.size wx W) => by have h9 := BFull_any (k := x.k) (v := x.v) (s := x.s) HLE.out.2 STK.out.hn7 (by have := hgx.1; omega) (by have := hgx.2.1; omega) W (HBB.out.later hb9); rewrite [← hT, ← Bal.votesOf_same HND.out.1 HND.out.2 HM9.out] at h9; exact h9); obtain ⟨VO, hVO⟩ := je (Bal.votesOf E1 n9 x.k x.v x.s); rw [← hVO] at CVA CVB CFA CFB; obtain ⟨AN, hAN⟩ := je (Bal.anyOf E1 n9 x.k x.v); rw [← hAN] at CAA CAB; obtain ⟨VN, hVN⟩ := je (VO.length); rw [← hVN] at CVA CVB CFA CFB; have hv100 : VN ≤ 10000 := by rw [hVN, hVO]; have h1 := preV_len E1 x.k x.v x.s n9; have h2 : n9 * E1.length ≤ 7 * 1000 := Nat.mul_le_mul STK.out.hn7 HLE.out.1; have h3 : Bal.votesOf E1 n9 x.k x.v x.s = QL E1 x.k x.v x.s n9 := rfl; rw [h3]; omega
     have HVN := jh hVN; have HV100 := jh hv100; obtain ⟨FD, hFD⟩ := je (decide (quorS n9 f9 ≤ (VN : Int))); rw [← hFD] at CFA CFB; have HVS := jh hVs; have HV1 := jh hV1; have HSZV := jh hszV; have HVL := jh hVL; have HT := jh hT; have HQ := jh hlt; have hszT : (Tryz.prog.info? 48).map (·.size) = some T.size := by rw [qv, hT]; simp [js, jX]
     have HSZT := jh hszT; clear hva hx hlt hq hgx hVL hVs hV1 hszV hT hszT hVO hAN hVN hv100 hFD
     go_upto_region 17 with fail
     refine wp_region_lit ?_; refine ji (v := .slice (some ⟨ub, uo, none⟩) j uc) rfl (by kernel_rfl) ?_; refine ji (v := .int .i64 q9) rfl (by kernel_rfl) ?_; refine ji (v := .pointer (some ⟨ub, uo + q9 * 44, none⟩)) rfl (by simp [go_sem, hltJ, hq0]) ?_; refine ji rfl (jg LV.out) ?_; simp only [Act.put, pa, pb, pc]; refine qe (v := .pointer (some ⟨wr.heap.size, 0, none⟩)) (w' := wr.alloc (.cells zJ 52)) rfl (by kernel_rfl) ?_; simp only [Act.put, pa, pb, pc]; refine jT rfl _ _ _ rfl zJ VL.toArray rfl rfl HSZV.out (by simp [HVS.out, zJ]) (all_oneCell_toArray HV1.out) ?_; simp only [Act.put, pa, pb, pc]
     go_upto_region 18 with fail
     obtain ⟨x0, e9⟩ := je (wr.alloc (.cells VL.toArray 52)); obtain ⟨VB, h9⟩ := je (wr.heap.size); have hb := jc e9; have HV := jh (show x0.rangeAt VB 0 (vvS p q g 7 sk x) by rw [← HVL.out]; exact qq (by rw [e9, h9]; exact heap_alloc_new _ _)); rw [← e9, ← h9]; have HW := jw HW hb; clear e9 h9 hb; refine jB (.take 0 (.take 1 (.take 2 (.take 3 (.take 4 (.take 5 (.take 6 (.take 8 (.take 9 (.take 10 (.take 11 (.take 12 (.take 13 (.take 14 (.step 7 (.step 15 (.step 16 (.take 17 (.take 18 (.take 19 (.take 20 (.take 21 (.take 22 (.take 23 (.take 25 (.take 26 (.take 27 (.take 28 (.take 29 (.step 24 (.step 30 (.take 31 (.take 32 (.take 33 (.take 34 (.take 35 (.take 36 (.take 37 (.take 38 (.take 39 (.take 40 (.take 42 (.take 43 (.take 44 (.take 45 (.take 46 (.take 47 (.take 48 (.step 41 (.step 49 (.take 50 (.take 51 .done)))))))))))))))))))))))))))))))))))))))))))))))))))) (fun w8 => w8.rangeAt VB 0 (jP x.k 7 x.v x.n (Ja x.s) (sgC p q g 7 sk x) (sgS p q g 7 sk x))) (by kernel_rfl) (by kernel_rfl) (fun _ _ _ _ _ h => h) (jA HV.out ((Below.refl _ _).drew)) (fun hHeld => ?_); obtain ⟨x1, e1⟩ := je (x0.drew); rw [← e1]; have hb : Below x0.heap.size x0 x1 := by rw [e1]; exact (Below.refl _ _).drew
     clear e1; have HV := jh (jA HV.out hb); have HW := jw HW hb; clear hb
     iterate 2
      refine WT.take (v := ?_) rfl (Or.inl ⟨by rfl, ?_⟩) ?_; rotate_left
      ·intro w8 hSw; (try dsimp only at hSw)
       go_simp
       any_goals with_reducible rfl
      try simp only [Act.put, pa, pb, pc]
     refine WT.take (v := .int .u8 x.k) rfl (Or.inl ⟨by rfl, fun w8 hSw => jg (QP (vo_k hSw))⟩) ?_
     try simp only [Act.put, pa, pb, pc]
     refine WT.take (v := ?_) rfl (Or.inl ⟨by rfl, ?_⟩) ?_; rotate_left
     ·intro w8 hSw; (try dsimp only at hSw)
      go_simp
      any_goals with_reducible rfl
     try simp only [Act.put, pa, pb, pc]
     refine WT.take (v := .int .u32 x.v) rfl (Or.inl ⟨by rfl, fun w8 hSw => jg (Jv (vo_v hSw))⟩) ?_
     try simp only [Act.put, pa, pb, pc]
     refine WT.take (v := ?_) rfl (Or.inl ⟨by rfl, ?_⟩) ?_; rotate_left
     ·intro w8 hSw; (try dsimp only at hSw)
      go_simp
      any_goals with_reducible rfl
     try simp only [Act.put, pa, pb, pc]
     refine WT.take (v := .agg T) rfl (Or.inl ⟨by rfl, fun w8 hSw => by rw [HT.out]; exact jg (JR hSw (jX _))⟩) ?_
     iterate 2
      try simp only [Act.put, pa, pb, pc]
      refine WT.take (v := ?_) rfl (Or.inl ⟨by rfl, ?_⟩) ?_; rotate_left
      ·intro w8 hSw; (try dsimp only at hSw)
       go_simp
       any_goals with_reducible rfl
     try simp only [Act.put, pa, pb, pc]
     refine WT.take (v := .int .u8 x.k) rfl (Or.inl ⟨by rfl, fun w8 hSw => jg (QP (vo_k hSw))⟩) ?_
     try simp only [Act.put, pa, pb, pc]
     refine WT.take (v := ?_) rfl (Or.inl ⟨by rfl, ?_⟩) ?_; rotate_left
     ·intro w8 hSw; (try dsimp only at hSw)
      go_simp
      any_goals with_reducible rfl
     try simp only [Act.put, pa, pb, pc]
     refine WT.take (v := .int .u32 x.v) rfl (Or.inl ⟨by rfl, fun w8 hSw => jg (Jv (vo_v hSw))⟩) ?_
     try simp only [Act.put, pa, pb, pc]
     refine WT.take (v := ?_) rfl (Or.inl ⟨by rfl, ?_⟩) ?_; rotate_left
     ·intro w8 hSw; (try dsimp only at hSw)
      go_simp
      any_goals with_reducible rfl
     try simp only [Act.put, pa, pb, pc]
     refine WT.take (v := .agg T) rfl (Or.inl ⟨by rfl, fun w8 hSw => by rw [HT.out]; exact jg (JR hSw (jX _))⟩) ?_
     try simp only [Act.put, pa, pb, pc]
     refine WT.step rfl (fun K hK => ?_)
     go_simp
     refine (CVA.out _ HW.out).mono ?_; rintro _ x2 ⟨u1, rfl, ho1, hb⟩; have HO1 := jh ho1; obtain ⟨a1, c1, rfl⟩ := ho1.shape9; clear ho1; have HV := jh (jA HV.out hb); have HW := jw HW hb; clear hb; refine hK.out _ _ (HV.out) (fun hHeld => ?_); clear hK K
     try simp only [Act.put, pa, pb, pc]
     refine WT.step rfl (fun K hK => ?_)
     go_simp
     refine (CVB.out _ HW.out).mono ?_; rintro _ x3 ⟨u2, rfl, ho2, hb⟩; have HO2 := jh ho2; obtain ⟨a2, c2, rfl⟩ := ho2.shape9; clear ho2; have HV := jh (jA HV.out hb); have HO1 := jh (OwnV.later HO1.out hb); have HW := jw HW hb; clear hb; refine hK.out _ _ (HV.out) (fun hHeld => ?_); clear hK K
     try simp only [Act.put, pa, pb, pc]
     refine WT.step rfl (fun K hK => ?_)
     go_simp
     refine (same_any HVN.out HV100.out _ HO1.out HO2.out).mono ?_; rintro _ x4 ⟨rfl, hb⟩; have HV := jh (jA HV.out hb); have HW := jw HW hb; clear hb; refine hK.out _ _ (HV.out) (fun hHeld => ?_); clear hK K
     iterate 4
      try simp only [Act.put, pa, pb, pc]
      refine WT.take (v := ?_) rfl (Or.inl ⟨by rfl, ?_⟩) ?_; rotate_left
      ·intro w8 hSw; (try dsimp only at hSw)
       go_simp
       any_goals with_reducible rfl
     try simp only [Act.put, pa, pb, pc]
     refine WT.take (v := .int .u8 x.k) rfl (Or.inl ⟨by rfl, fun w8 hSw => jg (QP (vo_k hSw))⟩) ?_
     try simp only [Act.put, pa, pb, pc]
     refine WT.take (v := ?_) rfl (Or.inl ⟨by rfl, ?_⟩) ?_; rotate_left
     ·intro w8 hSw; (try dsimp only at hSw)
      go_simp
      any_goals with_reducible rfl
     try simp only [Act.put, pa, pb, pc]
     refine WT.take (v := .int .u32 x.v) rfl (Or.inl ⟨by rfl, fun w8 hSw => jg (Jv (vo_v hSw))⟩) ?_
     iterate 2
      try simp only [Act.put, pa, pb, pc]
      refine WT.take (v := ?_) rfl (Or.inl ⟨by rfl, ?_⟩) ?_; rotate_left
      ·intro w8 hSw; (try dsimp only at hSw)
       go_simp
       any_goals with_reducible rfl
     try simp only [Act.put, pa, pb, pc]
     refine WT.take (v := .int .u8 x.k) rfl (Or.inl ⟨by rfl, fun w8 hSw => jg (QP (vo_k hSw))⟩) ?_
     try simp only [Act.put, pa, pb, pc]
     refine WT.take (v := ?_) rfl (Or.inl ⟨by rfl, ?_⟩) ?_; rotate_left
     ·intro w8 hSw; (try dsimp only at hSw)
      go_simp
      any_goals with_reducible rfl
     try simp only [Act.put, pa, pb, pc]
     refine WT.take (v := .int .u32 x.v) rfl (Or.inl ⟨by rfl, fun w8 hSw => jg (Jv (vo_v hSw))⟩) ?_
     try simp only [Act.put, pa, pb, pc]
     refine WT.step rfl (fun K hK => ?_)
     go_simp
     refine (CAA.out _ HW.out).mono ?_; rintro _ x5 ⟨rfl, hb⟩; have HV := jh (jA HV.out hb); have HW := jw HW hb; clear hb; refine hK.out _ _ (HV.out) (fun hHeld => ?_); clear hK K
     try simp only [Act.put, pa, pb, pc]
     refine WT.step rfl (fun K hK => ?_)
     go_simp
     refine (CAB.out _ HW.out).mono ?_; rintro _ x6 ⟨rfl, hb⟩; have HV := jh (jA HV.out hb); have HW := jw HW hb; clear hb; refine hK.out _ _ (HV.out) (fun hHeld => ?_); clear hK K
     try simp only [Act.put, pa, pb, pc]
     refine WT.take (v := .bool false) rfl (Or.inl ⟨by rfl, fun w8 hSw => by simp [go_sem]⟩) ?_
     iterate 4
      try simp only [Act.put, pa, pb, pc]
      refine WT.take (v := ?_) rfl (Or.inl ⟨by rfl, ?_⟩) ?_; rotate_left
      ·intro w8 hSw; (try dsimp only at hSw)
       go_simp
       any_goals with_reducible rfl
     try simp only [Act.put, pa, pb, pc]
     refine WT.take (v := .int .u8 x.k) rfl (Or.inl ⟨by rfl, fun w8 hSw => jg (QP (vo_k hSw))⟩) ?_
     try simp only [Act.put, pa, pb, pc]
     refine WT.take (v := ?_) rfl (Or.inl ⟨by rfl, ?_⟩) ?_; rotate_left
     ·intro w8 hSw; (try dsimp only at hSw)
      go_simp
      any_goals with_reducible rfl
     try simp only [Act.put, pa, pb, pc]
     refine WT.take (v := .int .u32 x.v) rfl (Or.inl ⟨by rfl, fun w8 hSw => jg (Jv (vo_v hSw))⟩) ?_
     try simp only [Act.put, pa, pb, pc]
     refine WT.take (v := ?_) rfl (Or.inl ⟨by rfl, ?_⟩) ?_; rotate_left
     ·intro w8 hSw; (try dsimp only at hSw)
      go_simp
      any_goals with_reducible rfl
     try simp only [Act.put, pa, pb, pc]
     refine WT.take (v := .agg T) rfl (Or.inl ⟨by rfl, fun w8 hSw => by rw [HT.out]; exact jg (JR hSw (jX _))⟩) ?_
     iterate 2
      try simp only [Act.put, pa, pb, pc]
      refine WT.take (v := ?_) rfl (Or.inl ⟨by rfl, ?_⟩) ?_; rotate_left
      ·intro w8 hSw; (try dsimp only at hSw)
       go_simp
       any_goals with_reducible rfl
     try simp only [Act.put, pa, pb, pc]
     refine WT.take (v := .int .u8 x.k) rfl (Or.inl ⟨by rfl, fun w8 hSw => jg (QP (vo_k hSw))⟩) ?_
     try simp only [Act.put, pa, pb, pc]
     refine WT.take (v := ?_) rfl (Or.inl ⟨by rfl, ?_⟩) ?_; rotate_left
     ·intro w8 hSw; (try dsimp only at hSw)
      go_simp
      any_goals with_reducible rfl
     try simp only [Act.put, pa, pb, pc]
     refine WT.take (v := .int .u32 x.v) rfl (Or.inl ⟨by rfl, fun w8 hSw => jg (Jv (vo_v hSw))⟩) ?_
     try simp only [Act.put, pa, pb, pc]
     refine WT.take (v := ?_) rfl (Or.inl ⟨by rfl, ?_⟩) ?_; rotate_left
     ·intro w8 hSw; (try dsimp only at hSw)
      go_simp
      any_goals with_reducible rfl
     try simp only [Act.put, pa, pb, pc]
     refine WT.take (v := .agg T) rfl (Or.inl ⟨by rfl, fun w8 hSw => by rw [HT.out]; exact jg (JR hSw (jX _))⟩) ?_
     try simp only [Act.put, pa, pb, pc]
     refine WT.step rfl (fun K hK => ?_)
     go_simp
     refine (CFA.out _ HW.out).mono ?_; rintro _ x7 ⟨rfl, hb⟩; have HV := jh (jA HV.out hb); have HW := jw HW hb; clear hb; refine hK.out _ _ (HV.out) (fun hHeld => ?_); clear hK K
     try simp only [Act.put, pa, pb, pc]
     refine WT.step rfl (fun K hK => ?_)
     go_simp
     refine (CFB.out _ HW.out).mono ?_; rintro _ x8 ⟨rfl, hb⟩; have HV := jh (jA HV.out hb); have HW := jw HW hb; clear hb; refine hK.out _ _ (HV.out) (fun hHeld => ?_); clear hK K
     try simp only [Act.put, pa, pb, pc]
     refine WT.take (v := .bool false) rfl (Or.inl ⟨by rfl, fun w8 hSw => by simp [go_sem]⟩) ?_
     try simp only [Act.put, pa, pb, pc]
     refine WT.take (v := ?_) rfl (Or.inl ⟨by rfl, ?_⟩) ?_; rotate_left
     ·intro w8 hSw; (try dsimp only at hSw)
      go_simp
      any_goals with_reducible rfl
     try simp only [Act.put, pa, pb, pc]
     refine WT.done ?_; clear hHeld
     go_wp2_with fail
     go_roundw
     case rel => exact ⟨q9 + 1, HQ.out, by go_num, HW⟩
     case measure => simp [intOf]; have := HQ.out; omega
    ·obtain rfl : q9 = j := by omega
     clear hlt hq; have CF1 := jh (fun (W : World) (hb9 : Below wx.heap.size wx W) => BFar_any STK.out.hn7 HPA.out.1 HPA.out.2.1 (by have := HPA.out; omega) (fun x hx => by have := (HGD.out x ((HML9.out x).1 hx)).2.1; omega) W (HBA.out.later hb9)); have CF2 := jh (fun (W : World) (hb9 : Below wx.heap.size wx W) => BFar_any STK.out.hn7 HPA.out.1 HPA.out.2.1 (by have := HPA.out; omega) (fun x hx => by have := (HGD.out x ((HML9.out x).1 ((HM9.out x).2 hx))).2.1; omega) W (HBB.out.later hb9))
     go_wp2_with (first | (go_at_call 12; refine (CF2.out _ HW1.out).mono ?_; rintro _ w9 ⟨y2, rfl, hf2, -, hb⟩; obtain rfl := far_uniq HM9.out HF1.out hf2; have HW2 := jw HW1 hb; clear hf2 hb) | (go_at_call 12; refine (CF1.out _ HW.out).mono ?_; rintro _ w8 ⟨y1, rfl, hf1, -, hb⟩; have HF1 := jh hf1; have HW1 := jw HW hb; clear hf1 hb) | (go_at_call 8; refine (JS _).mono ?_; rintro _ wl ⟨rfl, hbl⟩; have HW3 := jw HW2 hbl; clear hbl))
     go_ret
     exact ⟨rfl, below_on HB.out HW3.out⟩
end Go.Proofs.YtdpkpcbikbbcbaaGreat
