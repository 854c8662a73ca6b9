/- BallotsFar -/
import Derived.Test.YtdpkpcbikbbcbaaGreatBFWG40
import Derived.Test.YtdpkpcbikbbcbaaGreatBFWG46
import Derived.Test.YtdpkpcbikbbcbaaGreatBFWG45
import Derived.Test.YtdpkpcbikbbcbaaGreatBFWG48
import Derived.Test.YtdpkpcbikbbcbaaGreatBFWG38
import Derived.Test.YtdpkpcbikbbcbaaGreatBFWG02
import Derived.Test.YtdpkpcbikbbcbaaGreatBFWG47
set_option linter.unusedSimpArgs false
set_option linter.unusedVariables false
set_option maxHeartbeats 4000000
set_option maxRecDepth 20000
namespace Go.Proofs.YtdpkpcbikbbcbaaGreat
open Go.ChangeShapes Go.WideShapes Go.ChangeAt Go.RowKit
theorem lawset_any {gp gq gg gh lg n cap : Nat} {fa se : Int} {ao : Option Addr} {sk : List (Nat × Nat)} (hgp : gp < M256) (hgq : gq < M256) (hgg : gg < M256) (hlg : lg < M256) (hfa : -9223372036854775808 ≤ fa ∧ fa ≤ 9223372036854775807) (hse : -9223372036854775808 ≤ se ∧ se ≤ 9223372036854775807) (hsk : ∀ k ∈ sk, k.1 < M256 ∧ k.2 < M256) (hn : n = sk.length) (hcap : n ≤ cap) (hcm : cap ≤ maxLen) (w : World) (hk : 0 < n → ∃ b o, ao = some ⟨b, o, none⟩ ∧ KeysAt w b o sk) :
  Calls Tryz.prog 7 #[castV gp gq gg gh lg fa se (.slice ao n cap)] w fun e w' => ∃ (p q g h : Nat) (f s : Int) (a : Option Addr) (n9 c9 : Nat) (ok : Bool), e = .returned (.tuple #[setV p q g h f s (.slice a n9 c9), .bool ok]) ∧ (ok = true → p = gp ∧ q = gq ∧ g = gg ∧ h = gg ^ lg % gp ∧ f = fa ∧ s = se ∧ n9 = n ∧ SetOk w' gp gq gg lg n fa se sk a) ∧ Below w.heap.size w w' := by
 by_cases hm : mayG gp gg
 ·by_cases h0 : lg = 0
  ·exact lawset_log hm h0 hgp hgq hgg hlg hfa hse hsk hn hcap hcm w hk
  ·by_cases h1 : 7 < n
   ·exact lawset_many hm h0 h1 hgp hgq hgg hlg hfa hse hsk hn hcap hcm w hk
   ·exact lawset_main hm h0 (by omega) hgp hgq hgg hlg hfa hse hsk hn hcap hcm w hk
 ·exact lawset_nomay hm hgp hgq hgg hlg hfa hse hsk hn hcap hcm w hk
theorem set_parts {gp gq gg gh n : Nat} {fa se : Int} {ks : List (Nat × Nat)} (h : settingB gp gq gg gh fa se n ks = true) : (0 ≤ fa ∧ fa ≤ 2 ∧ 3 * fa + 1 ≤ n) ∧ (inG gp gq gg ∧ gg ≠ 1) ∧ ∀ k ∈ ks, inG gp gq k.1 ∧ k.1 ≠ 1 := by
 unfold settingB at h
 split at h; · cases h
 split at h; · cases h
 split at h; · cases h
 split at h; · cases h
 split at h; · cases h
 split at h; · cases h
 split at h; · cases h
 split at h; · cases h
 rename_i h1 h2 h3 h4 h5 h6 h7 h8
 refine ⟨by omega, ?_, fun k hk => ?_⟩
 ·simp only [Bool.or_eq_true, not_or, badK, Bool.not_eq_true', decide_eq_false_iff_not, Decidable.not_not, decide_eq_true_eq] at h8; exact h8.1
 ·have h9 := h; simp only [Bool.not_eq_true', List.any_eq_false] at h9; have h10 := h9 k hk; simp only [badKey, badK, Bool.or_eq_true, not_or, Bool.not_eq_true', decide_eq_false_iff_not, Decidable.not_not, decide_eq_true_eq] at h10; exact h10.1
theorem sig_of {gp gq gg x d : Nat} {h : List Nat} (hg : inG gp gq gg) (hq : 1 < gq) : signC gp gq gg x d h = challenge gq (gg ^ x % gp) (backR gp gq gg (gg ^ x % gp) (signC gp gq gg x d h) (signS gp gq gg x d h)) h := by
 have hc : signC gp gq gg x d h ≤ gq := by unfold signC challenge numberN; exact Nat.le_of_lt (Nat.mod_lt _ (by omega))
 have h9 := backR_sign (x := x) (d := d) hg.1.1 hg.2 hc; have e : backR gp gq gg (gg ^ x % gp) (signC gp gq gg x d h) (signS gp gq gg x d h) = gg ^ d % gp := h9; rw [e]
 rfl
def lawKs (gp gg h : Nat) (sk : List (Nat × Nat)) : List (Nat × Nat) := sk.map fun k => (gg ^ k.1 % gp, h ^ k.2 % gp)
theorem stOk_of {w : World} {gp gq gg lg n : Nat} {fa se : Int} {sk : List (Nat × Nat)} {a : Option Addr} (h : SetOk w gp gq gg lg n fa se sk a) (hgp : gp < M256) (hgq : gq < M256) (hgg : gg < M256) (hfa : -9223372036854775808 ≤ fa ∧ fa ≤ 9223372036854775807) (hse : -9223372036854775808 ≤ se ∧ se ≤ 9223372036854775807) (hn : n = sk.length) :
  StOk gp gq gg (gg ^ lg % gp) n fa se (lawKs gp gg (gg ^ lg % gp) sk) := by
 have hp : 1 < gp := h.may.1; refine ⟨fun k hk => ?_, hgq, hgp, hgg, Nat.lt_trans (Nat.mod_lt _ (by omega)) hgp, by rw [hn]; simp [lawKs], hfa, hse, h.le, h.ok, h.may, h.prime.2.1, (set_parts h.ok).2.2⟩; obtain ⟨k9, _, rfl⟩ := List.mem_map.1 hk; exact ⟨Nat.lt_trans (Nat.mod_lt _ (by omega)) hgp, Nat.lt_trans (Nat.mod_lt _ (by omega)) hgp⟩
def GoodV (n : Nat) (x : Bal.Bv) : Prop := (x.k = 1 ∨ x.k = 2) ∧ x.v < 256 ∧ (1 ≤ x.n ∧ x.n ≤ n) ∧ x.s < 4
theorem good_of {n : Nat} (h0 : 0 < n) {c : Ch} (hv : c.view < 256) : GoodV n (bvOf n c) := by
 refine ⟨?_, hv, ⟨Nat.succ_le_succ (Nat.zero_le _), ?_⟩, Nat.mod_lt _ (by decide)⟩
 ·unfold bvOf
  cases c.sec <;> simp
 ·have := Nat.mod_lt c.node h0
  show c.node % n + 1 ≤ n
  omega
theorem check_good {gp gq gg gh n ep : Nat} {fa se : Int} {sk : List (Nat × Nat)} (st : StOk gp gq gg gh n fa se (lawKs gp gg gh sk)) (hg : inG gp gq gg) (x : Bal.Bv) (hx : GoodV n x) {nb no cap : Nat} (W : World) (hk : KeysAt W nb no (lawKs gp gg gh sk)) :
  Calls Tryz.prog 17 #[setV gp gq gg gh fa se (.slice (some ⟨nb, no, none⟩) n cap), .agg (vvS gp gq gg ep sk x).toArray] W fun r W' => r = .returned (.bool true) ∧ Below W.heap.size W W' := by
 obtain ⟨i, hi⟩ : ∃ i, x.n = i + 1 := ⟨x.n - 1, by have := hx.2.2.1.1; omega⟩; have hin : i < sk.length := by have h1 := st.hn; have h2 := hx.2.2.1.2; simp only [lawKs, List.length_map] at h1; omega
 obtain ⟨⟨s1, s2⟩, hs⟩ : ∃ s, sk[i]? = some s := ⟨_, List.getElem?_eq_getElem hin⟩; have hki : (lawKs gp gg gh sk)[i]? = some (gg ^ s1 % gp, gh ^ s2 % gp) := by simp [lawKs, hs]
 have hK : sgK sk x = s1 := by simp [sgK, hi, List.getD_eq_getElem?_getD, hs]
 have hq := st.q1; have hC : sgC gp gq gg ep sk x < gq := by unfold sgC signC challenge numberN; exact Nat.mod_lt _ (by omega)
 have hS : sgS gp gq gg ep sk x < gq := by unfold sgS signS; exact Nat.mod_lt _ (by omega)
 have hsig : sgC gp gq gg ep sk x = challenge gq (gg ^ s1 % gp) (backR gp gq gg (gg ^ s1 % gp) (sgC gp gq gg ep sk x) (sgS gp gq gg ep sk x)) (voteH x.k ep x.v x.n (hsL x.s)) := by
  unfold sgC sgS; rw [hK]; exact sig_of hg hq
 have h7 := st.hn7; exact BCheck_yes (cap := cap) st (hsL_length x.s) (by have := hx.2.1; omega) (by have := hx.2.2.1.2; omega) hx.1 (by have := hx.2.1; omega) (hsL_bytes (by have := hx.2.2.2; omega)) hi hki hC hS hsig W hk
theorem Turn.low {w w' : World} {bx gp gq gg gh n cap nb no mb fb fo fc ep base : Nat} {fa se : Int} {ks : List (Nat × Nat)} {vv : Bal.Bv → List Value} {f : Value → Option Value} {E : List Bal.Bv} (ht : Turn w w' mb fb f) (h : BoxAt w bx gp gq gg gh n cap nb no mb fb fo fc ep base fa se ks vv f E) {b : Nat} (hb : b < base) (h1 : b ≠ mb) (h2 : b ≠ fb) : w'.heap[b]? = w.heap[b]? :=
 ht.block b (Nat.lt_of_lt_of_le hb h.bs) h1 h2 fun h3 => by have := (h.rows.lt h3).1; omega
theorem BPut_any {bx gp gq gg gh n cap nb no mb fb fo fc ep base : Nat} {fa se : Int} {sk : List (Nat × Nat)} {f : Value → Option Value} {E : List Bal.Bv} {x : Bal.Bv} (st : StOk gp gq gg gh n fa se (lawKs gp gg gh sk)) (hg : inG gp gq gg) (hx : GoodV n x) (hE : E.length ≤ 1000) (w : World) (h : BoxAt w bx gp gq gg gh n cap nb no mb fb fo fc ep base fa se (lawKs gp gg gh sk) (vvS gp gq gg ep sk) f E) :
  Calls Tryz.prog 11 #[.pointer (some ⟨bx, 0, none⟩), .agg (vvS gp gq gg ep sk x).toArray] w fun r w' => r = .returned (.tuple #[.bool (putR E x).1, .int .i64 (putR E x).2]) ∧ ∃ f', BoxAt w' bx gp gq gg gh n cap nb no mb fb fo fc ep base fa se (lawKs gp gg gh sk) (vvS gp gq gg ep sk) f' (Bal.bput E x) ∧ Turn w w' mb fb f ∧ ∀ g, rowB f' g → rowB f g ∨ w.heap.size ≤ g := by
 obtain ⟨i, hi⟩ : ∃ i, x.n = i + 1 := ⟨x.n - 1, by have := hx.2.2.1.1; omega⟩; have hin : i < n := by have := hx.2.2.1.2; omega
 have hk9 : x.k < 256 := by have := hx.1; omega
 have hv9 : x.v < 4294967296 := by have := hx.2.1; omega
 have hc := fun W hk => check_good (cap := cap) (ep := ep) st hg x hx W (nb := nb) (no := no) hk
 by_cases hxE : x ∈ E
 ·refine (BPut_in hi hin st.hn7 hk9 hv9 hE hc hxE w h).mono ?_; rintro r w' ⟨rfl, hb⟩; refine ⟨by unfold putR; rw [if_pos hxE], f, ?_, turn_of_below hb _ _ _, fun g hg => .inl hg⟩; have e : Bal.bput E x = E := by unfold Bal.bput; rw [if_pos hxE]
  rw [e]; exact h.later hb
 ·refine (BPut_new hi hin st.hn7 hk9 hv9 hE hc hxE w h).mono ?_; rintro r w' ⟨rfl, f', h1, h2, h3⟩; refine ⟨?_, f', h1, h2, h3⟩; unfold putR; rw [if_neg hxE]
  by_cases h0 : (Bal.at_ E x.k x.v x.n).length = 0
  ·rw [if_pos h0, if_pos h0, decide_eq_true h0]
  ·rw [if_neg h0, if_neg h0, decide_eq_false h0]
theorem kept_len (l : List Bal.Bv) : (Bal.kept l).length ≤ l.length := by
 have key : ∀ R : List Bal.Bv, (Bal.kept R.reverse).length ≤ R.length := by
  intro R
  induction R with
  | nil => exact Nat.le_refl _
  | cons x R ih =>
   rw [List.reverse_cons, Bal.kept_snoc, List.length_cons]; unfold Bal.bput
   split
   ·omega
   ·rw [List.length_append]
    simp
    omega
 have h9 := key l.reverse
 rwa [List.reverse_reverse, List.length_reverse] at h9
theorem ballotsFar_walk {gp gq gg gh lg n cap m lc : Nat} {fa se : Int} {ao al : Option Addr} {sk : List (Nat × Nat)} {l : List Ch} (hgp : gp < M256) (hgq : gq < M256) (hgg : gg < M256) (hlg : lg < M256) (hfa : -9223372036854775808 ≤ fa ∧ fa ≤ 9223372036854775807) (hse : -9223372036854775808 ≤ se ∧ se ≤ 9223372036854775807) (hsk : ∀ k ∈ sk, k.1 < M256 ∧ k.2 < M256) (hn : n = sk.length) (hcap : n ≤ cap) (hcm : cap ≤ maxLen) (hml : m = l.length) (hmc : m ≤ lc) (hlm : lc ≤ maxLen) (hch : ∀ c ∈ l, c.node < 256 ∧ c.set < 256 ∧ c.view < 256) (w : World) (hk : 0 < n → ∃ b o, ao = some ⟨b, o, none⟩ ∧ KeysAt w b o sk) (hc : 0 < m → ∃ lb lo, al = some ⟨lb, lo, none⟩ ∧ ChAt w lb lo l) :
  Calls Tryz.prog 3 #[castV gp gq gg gh lg fa se (.slice ao n cap), .slice al m lc] w fun e w' => e = .returned (.bool true) ∧ Below w.heap.size w w' := by
 have CW := jh (fun (W : World) (hb : Below w.heap.size w W) => by have h9 := lawset_any (gh := gh) hgp hgq hgg hlg hfa hse hsk hn hcap hcm W (fun h0 => by obtain ⟨b, o, h1, h2⟩ := hk h0; exact ⟨b, o, h1, h2.later hb⟩); exact h9); have HGP := jh hgp; have HGG := jh hgg; have HGQ := jh hgq; have HFA := jh hfa; have HSE := jh hse; have HN := jh hn; have HK := jh hk; have HC := jh hc; have HML := jh hml; have HCH := jh hch; have HLM := jh (And.intro hmc hlm); have hcx : cap ≤ 9223372036854775807 := by unfold maxLen at hcm; omega
 have hnx : n ≤ 9223372036854775807 := by omega
 have hmx : m ≤ 9223372036854775807 := by unfold maxLen at hlm; omega
 clear hgp hgq hgg hlg hfa hse hsk hn hcap hcm hml hmc hlm hch hk hc; obtain ⟨ZV, hZV⟩ : ∃ ZV, castV gp gq gg gh lg fa se (.slice ao n cap) = .agg ZV := ⟨_, rfl⟩; have hszZ : (Tryz.prog.info? 29).map (·.size) = some ZV.size := by rw [info_c9]; have e9 := hZV; unfold castV at e9; injection e9 with e9; rw [← e9]; rfl
 have HSZ := jh hszZ; have HZV := jh hZV; rw [hZV] at CW ⊢; clear hZV
 go_enter Tryz.func3, Tryz.ntmps3
 go_upto_region 1 with fail
 obtain ⟨v_1, e1⟩ := je (w.alloc (.cells ZV 29)); obtain ⟨CB, hCB⟩ := je (w.heap.size); have HB := jh (show Below w.heap.size w v_1 by rw [e1]; exact ja); have HZ := jh (show v_1.heap[CB]? = some (.cells ZV 29 (0, 0)) by rw [e1, hCB]; exact heap_alloc_new _ _); rw [← e1, ← hCB]; clear e1 hCB hszZ; refine wp_region_lit ?_; refine wpList_val rfl (run_value_of (loadRow HZ.out Tryz.underlying29 rfl HSZ.out)) ?_; simp only [Act.put, pa, pb, pc]
 go_wp2_with fail
 refine (CW.out _ HB.out).mono ?_; rintro _ v_2 ⟨p, q, g, h2, f9, s9, a9, n9, c9, ok, rfl, hok, hb⟩; have HZ := jb hb HZ; have HB := jw HB hb; clear hb; have HOK := jh hok; clear hok; obtain ⟨SV, hSV⟩ : ∃ SV, setV p q g h2 f9 s9 (.slice a9 n9 c9) = .agg SV := ⟨_, rfl⟩; rw [hSV]; dsimp only
 go_step
 refine wpList_val (v := .tuple #[.agg SV, .bool ok]) rfl (by kernel_rfl) ?_; simp only [Act.put, pa, pb, pc]; refine wpList_val (v := .agg SV) rfl (by kernel_rfl) ?_; simp only [Act.put, pa, pb, pc]; refine wpList_val (v := .bool ok) rfl (by kernel_rfl) ?_; simp only [Act.put, pa, pb, pc]; have hszS : (Tryz.prog.info? 33).map (·.size) = some SV.size := by rw [info_st9, setV_size hSV]
 have h1S := setV_one (by rfl) hSV; refine wpList_made (v := .pointer (some ⟨v_2.heap.size, 0, none⟩)) (w' := v_2.alloc (.cells zero19 33)) rfl (by kernel_rfl) ?_; simp only [Act.put, pa, pb, pc]; refine wpList_store_new rfl _ _ _ rfl zero19 SV rfl rfl hszS (by rw [setV_size hSV]; rfl) h1S ?_; simp only [Act.put, pa, pb, pc]
 go_upto_region 2 with fail
 obtain ⟨v_3, e9⟩ := je (v_2.alloc (.cells SV 33)); obtain ⟨SB, h9⟩ := je (v_2.heap.size); have hb : Below v_2.heap.size v_2 v_3 := by rw [e9]; exact ja
 have hrS : v_3.heap[SB]? = some (.cells SV 33 (0, 0)) := by rw [e9, h9]; exact heap_alloc_new _ _
 have hS : SAt v_3 SB p q g h2 f9 s9 (.slice a9 n9 c9) := by have e8 := hSV; unfold setV at e8; injection e8 with e8; rw [e9, h9, ← e8]; exact SAt.new _ _ _ _ _ _ _ _ _
 rw [← e9, ← h9]; have WSB := jh (show w.heap.size ≤ SB ∧ SB < v_3.heap.size by rw [h9, e9]; exact ⟨HB.out.size, by simp⟩); clear e9 h9; have HZ := jb hb HZ; have HB := jw HB hb; have HB23 := jh hb; have HS := jh hS; have HSR := jh hrS; have HSV := jh hSV; have HSZS := jh hszS; clear hb hS hrS hSV hszS h1S
 cases ok
 ·go_wp2_with (first | (go_at_call 8; refine (lives22_any _).mono ?_; rintro _ wl ⟨rfl, hbl⟩; have HB := jw HB hbl; clear hbl))
  go_ret
  exact ⟨rfl, HB.out⟩
 obtain ⟨e1, e2, e3, e4, e5, e6, e7, hset⟩ := HOK.out rfl; clear HOK; subst e1 e2 e3 e5 e6 e7; subst e4; have HSET := jh hset; clear hset
 by_cases hn0 : n9 = 0
 ·have k0 : ((n9 : Int) == 0) = true := by simp; omega
  have y18 := HS.out.nd
  go_wp2_with (first | (go_at_call 8; refine (lives22_any _).mono ?_; rintro _ wl ⟨rfl, hbl⟩; have HB := jw HB hbl; clear hbl))
  go_ret
  exact ⟨rfl, HB.out⟩
 have k0 : ((n9 : Int) == 0) = false := by simp; omega
 by_cases hml40 : 40 < m
 ·have k1 : (40 : Int) < (m : Int) := by omega
  have y18 := HS.out.nd
  go_wp2_with (first | (go_at_call 8; refine (lives22_any _).mono ?_; rintro _ wl ⟨rfl, hbl⟩; have HB := jw HB hbl; clear hbl))
  go_ret
  exact ⟨rfl, HB.out⟩
 have k1 : ¬ (40 : Int) < (m : Int) := by omega
 have hn0 : 0 < n9 := by omega
 obtain ⟨kb, ko, rfl, hks⟩ := HK.out hn0; obtain ⟨nb0, no0, rfl, hnk⟩ := HSET.out.nodes hn0; have hstk := stOk_of HSET.out HGP.out HGQ.out HGG.out HFA.out HSE.out HN.out; obtain ⟨hpa, hgin, -⟩ := set_parts HSET.out.ok; have STK := jh hstk; have HG := jh hgin.1; have HPA := jh hpa; have HN0 := jh hn0; have HKS := jh hks; have H40 := jh (show m ≤ 40 by omega); have hm40 : (m : Int) ≤ 40 := by omega
 have HKY := jh (fun (k : Nat × Nat) (h9 : k ∈ sk) => HSET.out.keys k h9); clear hks hstk hpa hgin hn0 hml40; have HNK := jh (show KeysAt v_3 nb0 no0 (lawKs p g (g ^ lg % p) sk) from hnk.later HB23.out); clear hnk HB23; have CN := jh (fun (W : World) (hk9 : KeysAt W nb0 no0 (lawKs p g (g ^ lg % p) sk)) => by have h9 := BNew_any (cap := c9) (ep := 7) (vvS p q g 7 sk) STK.out HN0.out W hk9; rewrite [HSV.out] at h9; exact h9); have CL := jh (fun (W : World) (hb9 : Below w.heap.size w W) => by have h9 := lvotes_any (ks := []) (g0 := gh) (lg := lg) (kc := cap) (nb := nb0) (no := no0) (cap := c9) (gh := g ^ lg % p) (ep := 7) (fa := f9) (se := s9) (lc := lc) HSET.out.may HGP.out HGG.out HSET.out.prime.2.1 HGQ.out (fun k hk => ⟨(HKY.out k hk).1, (HKY.out k hk).2.2.1⟩) HN.out HN0.out STK.out.hn7 HML.out H40.out HCH.out W (HKS.out.later hb9) (fun h0 => by obtain ⟨lb, lo, h1, h2⟩ := HC.out h0; exact ⟨lb, lo, h1, h2.later hb9⟩); rewrite [HSV.out, HZV.out] at h9; exact h9); have y18 := HS.out.nd
 go_upto_region 4 with fail
 clear y18 k0 k1; refine wp_region_lit ?_; refine wpList_val rfl (run_value_of (loadRow HSR.out Tryz.underlying33 rfl HSZS.out)) ?_; simp only [Act.put, pa, pb, pc]; have LT3 := jh HB.out.size
 go_upto_region 7 with (first | (go_at_call 9; refine (CN.out _ HNK.out).mono ?_; rintro _ v_4 ⟨bx, nb, no, c2, mb, fb, rfl, hbx, hge, hb⟩))
 have HZ := jb hb HZ; have HSR := jb hb HSR; have HS := jh (HS.out.later hb); have HB := jw HB hb; have HBX := jh hbx; have HGE := jh hge; clear hb hbx hge; refine wp_region_lit ?_; refine wpList_val rfl (run_value_of (loadRow HZ.out Tryz.underlying29 rfl HSZ.out)) ?_; refine wpList_val rfl (run_value_of (loadRow HSR.out Tryz.underlying33 rfl HSZS.out)) ?_; simp only [Act.put, pa, pb, pc]; have HBX4 := jh (show mb < v_4.heap.size ∧ fb < v_4.heap.size from ⟨HBX.out.lt.2.2.1, HBX.out.lt.2.2.2⟩)
 go_upto_region 8 with (first | (go_at_call 10; refine (CL.out _ HB.out).mono ?_; rintro _ v_5 ⟨u, rfl, hu, hb⟩))
 have HS := jh (HS.out.later hb); have HBX := jh (HBX.out.later hb).rebase; have HB := jw HB hb; obtain ⟨base, hbase⟩ := je (v_5.heap.size); rw [← hbase] at HBX; obtain ⟨LL, hLL⟩ := je (l.map (bvOf n9)); rw [← hLL] at hu; have hLm : LL.length = m := by rw [hLL, List.length_map]; exact HML.out.symm
 have hgood : ∀ x ∈ LL, GoodV n9 x := by rw [hLL]; intro x hx; obtain ⟨c, hc, rfl⟩ := List.mem_map.1 hx; exact good_of HN0.out (HCH.out c hc).2.2
 have HLm := jh hLm; have HGD := jh hgood; obtain ⟨ua, uc, rfl⟩ := hu.shape9; have HU := jh hu; have NU := jh (fun (k : Nat) (hk : (Value.slice ua m uc).ownBlock = some k) => show k < base ∧ k ≠ mb ∧ k ≠ fb by have h1 := hu.lt k hk; have h2 := HBX4.out; omega); have NS := jh (show SB < base ∧ SB ≠ mb ∧ SB ≠ fb by have h1 := WSB.out; have h2 := HBX4.out; have h3 := HGE.out; have h4 := hb.size; omega); have NW := jh (show w.heap.size ≤ mb ∧ w.heap.size ≤ fb ∧ w.heap.size ≤ base by have h1 := HGE.out; have h2 := LT3.out; have h3 := HB.out.size; omega); have h1n9 : HGE = HGE := rfl; clear hb hu hbase hLL hLm hgood h1n9
 go_wp2_with fail
 go_loopw [10] (fun i wr => ∃ (j : Nat) (f : Value → Option Value), j ≤ m ∧ i = .int .i64 j ∧ Hid (BoxAt wr bx p q g (g ^ lg % p) n9 c2 nb no mb fb 0 n9 7 base f9 s9 (lawKs p g (g ^ lg % p) sk) (vvS p q g 7 sk) f (Bal.kept (LL.take j))) ∧ Hid (OwnV wr v_4.heap.size 52 44 (.slice ua m uc) m (LL.flatMap (vvS p q g 7 sk))) ∧ Hid (SAt wr SB p q g (g ^ lg % p) f9 s9 (.slice (some ⟨nb0, no0, none⟩) n9 c9)) ∧ Hid (Below w.heap.size w wr)) (fun i _ => m - (intOf i).toNat)
 case atStart => exact ⟨0, _, Nat.zero_le _, rfl, HBX, HU, HS, HB⟩
 case round =>
  clear HBX HU HS HB HZ HSR; obtain ⟨j, f, hj, rfl, HBX, HU, HS, HB⟩ := hrel
  by_cases hlt : j < m
  ·have hltI : (j : Int) < (m : Int) := by omega
   obtain ⟨x, hx⟩ : ∃ x, LL[j]? = some x := ⟨_, List.getElem?_eq_getElem (by have := HLm.out; omega)⟩; obtain ⟨ub, uo, uc9, hue, hva⟩ := votes_of_own HU.out (by omega); injection hue with hue _ huc
   subst hue; subst huc; have LV := jh (loadV (hva.at (vvOf_length _ _ _) hx) (vvOf_length _ _ _ _)); have hjI : (0 : Int) ≤ (j : Int) := by omega
   have HX := jh hx; have HLT := jh hlt; have CP := jh (BPut_any STK.out HG.out (HGD.out x (List.mem_of_getElem? hx)) (by have h1 := kept_len (LL.take j); have h2 : (LL.take j).length ≤ j := List.length_take_le _ _; have h3 := H40.out; omega) wr HBX.out); obtain ⟨VL, hVL⟩ := je ((vvS p q g 7 sk x).toArray); have LV := jh (show (Instr.loadAt 52 (.pointer (some ⟨ub, uo + j * 44, none⟩))).run Tryz.prog wr = .ok (.agg VL) wr by rw [hVL]; exact LV.out); rw [← hVL] at CP; clear hva hx hlt hVL
   go_upto_region 11 with fail
   refine wp_region_lit ?_; refine wpList_val (v := .pointer (some ⟨bx, 0, none⟩)) rfl (by kernel_rfl) ?_; refine wpList_val (v := .slice (some ⟨ub, uo, none⟩) m uc) rfl (by kernel_rfl) ?_; refine wpList_val (v := .int .i64 j) rfl (by kernel_rfl) ?_; refine wpList_val (v := .pointer (some ⟨ub, uo + j * 44, none⟩)) rfl (by simp [go_sem, hltI, hjI]) ?_; refine wpList_val rfl (run_value_of LV.out) ?_; simp only [Act.put, pa, pb, pc]
   go_wp2_with (first | (go_at_call 11; refine CP.out.mono ?_; rintro _ w2 ⟨rfl, f2, hb2, ht2, -⟩; have HB2 := jh hb2; have HT2 := jh ht2; clear hb2 ht2))
   go_roundw
   case rel => exact ⟨j + 1, f2, HLT.out, by go_num, jh (by rw [List.take_add_one, HX.out]; exact (Bal.kept_snoc _ _).symm ▸ HB2.out), jh (OwnV.block HU.out fun k hk => HT2.out.low HBX.out (NU.out k hk).1 (NU.out k hk).2.1 (NU.out k hk).2.2), jh (HS.out.block (HT2.out.low HBX.out NS.out.1 NS.out.2.1 NS.out.2.2)), jh (HB.out.trans (HT2.out.below NW.out.1 NW.out.2.1 (fun k hk => Nat.le_trans NW.out.2.2 (HBX.out.rows.lt hk).1) HB.out.size))⟩
   case measure => simp [intOf]; have := HLT.out; omega
  ·obtain rfl : j = m := by omega
   clear hlt; have hkl : LL.take j = LL := List.take_of_length_le (by have := HLm.out; omega); rw [hkl] at HBX; clear hkl hj; have CFa := jh (fun (W : World) (hb9 : Below wr.heap.size wr W) => BFar_any STK.out.hn7 HPA.out.1 HPA.out.2.1 (by have := HPA.out; omega) (fun x hx => by have := (HGD.out x (Bal.mem_kept.1 hx)).2.1; omega) W (HBX.out.later hb9))
   go_upto_region 13 with (first | (go_at_call 12; refine (CFa.out _ (Below.refl _ _)).mono ?_; rintro _ w9 ⟨y, rfl, hfi, hy9, hb⟩))
   have hsay := far_says HPA.out.1 (by have := HPA.out; omega) hfi; obtain ⟨F, hF⟩ : ∃ F : Nat, F = (max 0 y).toNat := ⟨_, rfl⟩; have hF2 : max 0 y = (F : Int) := by omega
   rw [← hF] at hsay; rw [hF2]; have HSAY := jh hsay; have HU := jh (OwnV.later HU.out hb); have HS := jh (HS.out.later hb); have HB := jw HB hb; clear hsay hF hF2 hfi hy9 hb; have HASL := jh (fun k => Bal.asOf_le LL F k); have HBEL := jh (fun k => Bal.beyOf_le LL F k); have hn7 : (n9 : Int) ≤ 7 := by have := STK.out.hn7; omega
   go_wp2_with fail
   go_loopw [12, 13, 14] (fun a b i wr => ∃ k : Nat, k ≤ n9 ∧ a = .int .i64 (Bal.asOf LL F k) ∧ b = .int .i64 (Bal.beyOf LL F k) ∧ i = .int .i64 ((k : Int) + 1) ∧ w9 = wr) (fun _ _ i _ => n9 + 1 - (intOf i).toNat)
   case atStart => exact ⟨0, Nat.zero_le _, rfl, rfl, rfl, rfl⟩
   case round =>
    obtain ⟨k, hk, rfl, rfl, rfl, hw⟩ := hrel; rw [← hw]; clear hw; have y18 := HS.out.nd; have hak := HASL.out k; have hbk := HBEL.out k; have has := Bal.asOf_succ LL F k; have hbs := Bal.beyOf_succ LL F k; obtain ⟨A, hA⟩ := je (Bal.asOf LL F k); obtain ⟨B, hB⟩ := je (Bal.beyOf LL F k); rw [← hA] at hak has ⊢; rw [← hB] at hbk hbs ⊢
    by_cases hlt : k < n9
    ·have hltI : (k : Int) + 1 ≤ (n9 : Int) := by omega
     have HAS := jh has; have HBS := jh hbs; have HLT := jh hlt; have hak : (A : Int) ≤ 7 := by omega
     have hbk : (B : Int) ≤ 7 := by omega
     have hk7 : (k : Int) ≤ 7 := by omega
     clear has hbs hlt hk hA hB
     go_wp2_with fail
     go_loopw [15, 16, 17] (fun a b i wr => ∃ q : Nat, q ≤ j ∧ a = .int .u32 (Bal.mostOf (LL.take q) (k + 1)) ∧ b = .bool (Bal.isOf (LL.take q) (k + 1)) ∧ i = .int .i64 q ∧ w9 = wr) (fun _ _ i _ => j - (intOf i).toNat)
     case atStart => exact ⟨0, Nat.zero_le _, rfl, rfl, rfl, rfl⟩
     case round =>
      obtain ⟨q9, hq, rfl, rfl, rfl, hw⟩ := hrel; rw [← hw]; clear hw; obtain ⟨M, hM⟩ := je (Bal.mostOf (LL.take q9) (k + 1)); obtain ⟨I, hI⟩ := je (Bal.isOf (LL.take q9) (k + 1)); rw [← hM, ← hI]; have HM := jh hM; have HI := jh hI; clear hM hI
      by_cases hlt : q9 < j
      ·have hltJ : (q9 : Int) < (j : Int) := by omega
       obtain ⟨x, hx⟩ : ∃ x, LL[q9]? = some x := ⟨_, List.getElem?_eq_getElem (by have := HLm.out; omega)⟩; obtain ⟨ub, uo, uc9, hue, hva⟩ := votes_of_own HU.out (by omega); injection hue with hue _ huc
       subst hue; subst huc; have hrg := hva.at (vvOf_length _ _ _) hx; have y3 : w9.cell? ⟨ub, uo + q9 * 44 + 3, none⟩ = some (.int .u8 x.n) := vo_n hrg; have y2 : w9.cell? ⟨ub, uo + q9 * 44 + 2, none⟩ = some (.int .u32 x.v) := vo_v hrg; have hq0 : (0 : Int) ≤ (q9 : Int) := by omega
       have hgx := HGD.out x (List.mem_of_getElem? hx); have hx256 : (x.n : Int) ≤ 7 := by have := hgx.2.2.1; omega
       have hxw : IntKind.i64.wrap (x.n : Int) = (x.n : Int) := by simp [IntKind.wrap, IntKind.bits, IntKind.signed]; omega
       have HX := jh hx; have HQ := jh hlt; clear hva hrg hx hlt hq hgx
       by_cases hxn : x.n = k + 1
       ·have hb9 : ((x.n : Int) == (k : Int) + 1) = true := by simp; omega
        have HXN := jh hxn; clear hxn
        go_wp2_with fail
        go_roundw
        case rel => exact ⟨q9 + 1, HQ.out, by rw [List.take_add_one, HX.out]; show _ = Value.int .u32 ((Bal.mostOf (LL.take q9 ++ [x]) (k + 1) : Nat) : Int); rw [Bal.mostOf_snoc, if_pos HXN.out, ← HM.out]; go_num, by rw [List.take_add_one, HX.out]; show _ = Value.bool (Bal.isOf (LL.take q9 ++ [x]) (k + 1)); rw [Bal.isOf_snoc, decide_eq_true HXN.out, Bool.or_true], by go_num, trivial⟩
        case measure => simp [intOf]; have := HQ.out; omega
       ·have hb9 : ((x.n : Int) == (k : Int) + 1) = false := by simp; omega
        have HXN := jh hxn; clear hxn
        go_wp2_with fail
        go_roundw
        case rel => exact ⟨q9 + 1, HQ.out, by rw [List.take_add_one, HX.out]; show _ = Value.int .u32 ((Bal.mostOf (LL.take q9 ++ [x]) (k + 1) : Nat) : Int); rw [Bal.mostOf_snoc, if_neg HXN.out, ← HM.out], by rw [List.take_add_one, HX.out]; show _ = Value.bool (Bal.isOf (LL.take q9 ++ [x]) (k + 1)); rw [Bal.isOf_snoc, decide_eq_false HXN.out, Bool.or_false, ← HI.out], by go_num, trivial⟩
        case measure => simp [intOf]; have := HQ.out; omega
      ·obtain rfl : q9 = j := by omega
       clear hlt hq; have hkl : LL.take q9 = LL := List.take_of_length_le (by have := HLm.out; omega); rw [hkl] at HM HI; clear hkl; have HREL := jh (fun (a b : Int) (ha : a = ((Bal.asOf LL F (k + 1) : Nat) : Int)) (hb : b = ((Bal.beyOf LL F (k + 1) : Nat) : Int)) => (And.intro ha hb)); rw [← HM.out, ← HI.out] at HAS HBS
       cases I
       ·go_wp2_with fail
        go_roundw
        case rel => exact ⟨k + 1, HLT.out, by rw [HAS.out]; simp, by rw [HBS.out]; simp, by go_num, trivial⟩
        case measure => simp [intOf]; have := HLT.out; omega
       rcases Nat.lt_trichotomy F M with hfm | hfm | hfm
       ·have h1 : (F : Int) ≤ (M : Int) := by omega
        have h2 : (F : Int) < (M : Int) := by omega
        have HFM := jh hfm; clear hfm
        go_wp2_with fail
        go_roundw
        case rel => exact ⟨k + 1, HLT.out, by rw [show Bal.asOf LL F (k + 1) = A + 1 from (by have h9 := HFM.out; rw [HAS.out]; simp <;> omega)]; go_num, by rw [show Bal.beyOf LL F (k + 1) = B + 1 from (by have h9 := HFM.out; rw [HBS.out]; simp <;> omega)]; go_num, by go_num, trivial⟩
        case measure => simp [intOf]; have := HLT.out; omega
       ·have h1 : (F : Int) ≤ (M : Int) := by omega
        have h2 : ¬ (F : Int) < (M : Int) := by omega
        have HFM := jh hfm; clear hfm
        go_wp2_with fail
        go_roundw
        case rel => exact ⟨k + 1, HLT.out, by rw [show Bal.asOf LL F (k + 1) = A + 1 from (by have h9 := HFM.out; rw [HAS.out]; simp <;> omega)]; go_num, by rw [show Bal.beyOf LL F (k + 1) = B from (by have h9 := HFM.out; rw [HBS.out]; simp <;> omega)], by go_num, trivial⟩
        case measure => simp [intOf]; have := HLT.out; omega
       ·have h1 : ¬ (F : Int) ≤ (M : Int) := by omega
        have h2 : ¬ (F : Int) < (M : Int) := by omega
        have HFM := jh hfm; clear hfm
        go_wp2_with fail
        go_roundw
        case rel => exact ⟨k + 1, HLT.out, by rw [show Bal.asOf LL F (k + 1) = A from (by have h9 := HFM.out; rw [HAS.out]; simp <;> omega)], by rw [show Bal.beyOf LL F (k + 1) = B from (by have h9 := HFM.out; rw [HBS.out]; simp <;> omega)], by go_num, trivial⟩
        case measure => simp [intOf]; have := HLT.out; omega
    ·obtain rfl : k = n9 := by omega
     have hltI : ¬ (k : Int) + 1 ≤ (k : Int) := by omega
     have CO := jh (fun (W : World) => by have h9 := some_any f9 W; rw [show someS f9 = f9 + 1 by unfold someS; rw [if_neg (by have := HPA.out; omega)]] at h9; exact h9); have hs1 := HSAY.out.1; have hs2 := HSAY.out.2; rw [← hA] at hs1; rw [← hB] at hs2; have HS1 := jh hs1; clear hs1 hA hB has hbs hlt hk; have y16 := HS.out.fa
     by_cases hF0 : F = 0
     ·subst hF0
      go_wp2_with (first | (go_at_call 13; refine (CO.out _).mono ?_; rintro _ _ ⟨rfl, rfl⟩) | (go_at_call 8; refine (lives22_any _).mono ?_; rintro _ wl ⟨rfl, hbl⟩; have HB := jw HB hbl; clear hbl))
      go_ret
      exact ⟨rfl, HB.out⟩
     ·have hs1 : f9 + 1 ≤ (A : Int) := by rcases HS1.out with h9 | h9; exact absurd h9 hF0; exact h9
      have hb9 : ((F : Int) == 0) = false := by simp; omega
      go_wp2_with (first | (go_at_call 13; refine (CO.out _).mono ?_; rintro _ _ ⟨rfl, rfl⟩) | (go_at_call 8; refine (lives22_any _).mono ?_; rintro _ wl ⟨rfl, hbl⟩; have HB := jw HB hbl; clear hbl))
      go_ret
      exact ⟨rfl, HB.out⟩
end Go.Proofs.YtdpkpcbikbbcbaaGreat
