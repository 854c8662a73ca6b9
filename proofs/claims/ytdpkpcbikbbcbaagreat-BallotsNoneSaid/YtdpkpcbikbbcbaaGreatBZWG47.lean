/- A cast, votes, one more, and what is wrong with it -/
import Derived.Test.YtdpkpcbikbbcbaaGreatBZWG44
import Derived.Test.YtdpkpcbikbbcbaaGreatBZWG46
namespace Go.Proofs.YtdpkpcbikbbcbaaGreat
open Go.ChangeShapes Go.WideShapes Go.ChangeAt Go.RowKit
theorem lawset_any {gp gq gg gh lg n cap : Nat} {fa se : Int} {ao : Option Addr} {sk : List (Nat × Nat)} (hgp : gp < jk) (hgq : gq < jk) (hgg : gg < jk) (hlg : lg < jk) (hfa : -9223372036854775808 ≤ fa ∧ fa ≤ 9223372036854775807) (hse : -9223372036854775808 ≤ se ∧ se ≤ 9223372036854775807) (hsk : ∀ k ∈ sk, k.1 < jk ∧ k.2 < jk) (hn : n = sk.length) (hcap : n ≤ cap) (hcm : cap ≤ maxLen) (w : World) (hk : 0 < n → ∃ b o, ao = some ⟨b, o, none⟩ ∧ KeysAt w b o sk) :
  Calls Tryz.prog 7 #[zG gp gq gg gh lg fa se (.slice ao n cap)] w fun e w' => ∃ (p q g h : Nat) (f s : Int) (a : Option Addr) (n9 c9 : Nat) (ok : Bool), e = .returned (.tuple #[qg p q g h f s (.slice a n9 c9), .bool ok]) ∧ (ok = true → p = gp ∧ q = gq ∧ g = gg ∧ h = gg ^ lg % gp ∧ f = fa ∧ s = se ∧ n9 = n ∧ SetOk w' gp gq gg lg n fa se sk a) ∧ Below w.heap.size w w' := by
 by_cases hm : Jh gp gg
 ·by_cases h0 : lg = 0
  ·exact lawset_log hm h0 hgp hgq hgg hlg hfa hse hsk hn hcap hcm w hk
  ·by_cases h1 : 7 < n
   ·exact lawset_many hm h0 h1 hgp hgq hgg hlg hfa hse hsk hn hcap hcm w hk
   ·exact lawset_main hm h0 (by omega) hgp hgq hgg hlg hfa hse hsk hn hcap hcm w hk
 ·exact lawset_nomay hm hgp hgq hgg hlg hfa hse hsk hn hcap hcm w hk
theorem set_parts {gp gq gg gh n : Nat} {fa se : Int} {ks : List (Nat × Nat)} (h : jL gp gq gg gh fa se n ks = true) : (0 ≤ fa ∧ fa ≤ 2 ∧ 3 * fa + 1 ≤ n) ∧ (inG gp gq gg ∧ gg ≠ 1) ∧ ∀ k ∈ ks, inG gp gq k.1 ∧ k.1 ≠ 1 := by
 unfold jL at h
 iterate 8
  split at h; · cases h
 rename_i h1 h2 h3 h4 h5 h6 h7 h8
 refine ⟨by omega, ?_, fun k hk => ?_⟩
 ·simp only [Bool.or_eq_true, not_or, zK, Bool.not_eq_true', decide_eq_false_iff_not, Decidable.not_not, decide_eq_true_eq] at h8; exact h8.1
 ·have h9 := h; simp only [Bool.not_eq_true', List.any_eq_false] at h9; have h10 := h9 k hk; simp only [Jd, zK, Bool.or_eq_true, not_or, Bool.not_eq_true', decide_eq_false_iff_not, Decidable.not_not, decide_eq_true_eq] at h10; exact h10.1
theorem sig_of {gp gq gg x d : Nat} {h : List Nat} (hg : inG gp gq gg) (hq : 1 < gq) : Jx gp gq gg x d h = qT gq (gg ^ x % gp) (backR gp gq gg (gg ^ x % gp) (Jx gp gq gg x d h) (Qj gp gq gg x d h)) h := by
 have hc : Jx gp gq gg x d h ≤ gq := by unfold Jx qT Jm; exact Nat.le_of_lt (Nat.mod_lt _ (by omega))
 have h9 := backR_sign (x := x) (d := d) hg.1.1 hg.2 hc; have e : backR gp gq gg (gg ^ x % gp) (Jx gp gq gg x d h) (Qj gp gq gg x d h) = gg ^ d % gp := h9; rw [e]
 rfl
def Jr (gp gg h : Nat) (sk : List (Nat × Nat)) : List (Nat × Nat) := sk.map fun k => (gg ^ k.1 % gp, h ^ k.2 % gp)
theorem stOk_of {w : World} {gp gq gg lg n : Nat} {fa se : Int} {sk : List (Nat × Nat)} {a : Option Addr} (h : SetOk w gp gq gg lg n fa se sk a) (hgp : gp < jk) (hgq : gq < jk) (hgg : gg < jk) (hfa : -9223372036854775808 ≤ fa ∧ fa ≤ 9223372036854775807) (hse : -9223372036854775808 ≤ se ∧ se ≤ 9223372036854775807) (hn : n = sk.length) :
  StOk gp gq gg (gg ^ lg % gp) n fa se (Jr gp gg (gg ^ lg % gp) sk) := by
 have hp : 1 < gp := h.may.1; refine ⟨fun k hk => ?_, hgq, hgp, hgg, Nat.lt_trans (Nat.mod_lt _ (by omega)) hgp, by rw [hn]; simp [Jr], hfa, hse, h.le, h.ok, h.may, h.prime.2.1, (set_parts h.ok).2.2⟩; obtain ⟨k9, _, rfl⟩ := List.mem_map.1 hk; exact ⟨Nat.lt_trans (Nat.mod_lt _ (by omega)) hgp, Nat.lt_trans (Nat.mod_lt _ (by omega)) hgp⟩
def GoodV (n : Nat) (x : Bal.Bv) : Prop := (x.k = 1 ∨ x.k = 2) ∧ x.v < 256 ∧ (1 ≤ x.n ∧ x.n ≤ n) ∧ x.s < 4
theorem good_of {n : Nat} (h0 : 0 < n) {c : Ch} (hv : c.view < 256) : GoodV n (bvOf n c) := by
 refine ⟨?_, hv, ⟨Nat.succ_le_succ (Nat.zero_le _), ?_⟩, Nat.mod_lt _ (by decide)⟩
 ·unfold bvOf
  cases c.sec <;> simp
 ·have := Nat.mod_lt c.node h0
  show c.node % n + 1 ≤ n
  omega
theorem check_good {gp gq gg gh n ep : Nat} {fa se : Int} {sk : List (Nat × Nat)} (st : StOk gp gq gg gh n fa se (Jr gp gg gh sk)) (hg : inG gp gq gg) (x : Bal.Bv) (hx : GoodV n x) {nb no cap : Nat} (W : World) (hk : KeysAt W nb no (Jr gp gg gh sk)) :
  Calls Tryz.prog 17 #[qg gp gq gg gh fa se (.slice (some ⟨nb, no, none⟩) n cap), .agg (vvS gp gq gg ep sk x).toArray] W fun r W' => r = .returned (.bool true) ∧ Below W.heap.size W W' := by
 obtain ⟨i, hi⟩ : ∃ i, x.n = i + 1 := ⟨x.n - 1, by have := hx.2.2.1.1; omega⟩; have hin : i < sk.length := by have h1 := st.hn; have h2 := hx.2.2.1.2; simp only [Jr, List.length_map] at h1; omega
 obtain ⟨⟨s1, s2⟩, hs⟩ : ∃ s, sk[i]? = some s := ⟨_, List.getElem?_eq_getElem hin⟩; have hki : (Jr gp gg gh sk)[i]? = some (gg ^ s1 % gp, gh ^ s2 % gp) := by simp [Jr, hs]
 have hK : sgK sk x = s1 := by simp [sgK, hi, List.getD_eq_getElem?_getD, hs]
 have hq := st.q1; have hC : sgC gp gq gg ep sk x < gq := by unfold sgC Jx qT Jm; exact Nat.mod_lt _ (by omega)
 have hS : sgS gp gq gg ep sk x < gq := by unfold sgS Qj; exact Nat.mod_lt _ (by omega)
 have hsig : sgC gp gq gg ep sk x = qT gq (gg ^ s1 % gp) (backR gp gq gg (gg ^ s1 % gp) (sgC gp gq gg ep sk x) (sgS gp gq gg ep sk x)) (qy x.k ep x.v x.n (zz x.s)) := by
  unfold sgC sgS; rw [hK]; exact sig_of hg hq
 have h7 := st.hn7; exact BCheck_yes (cap := cap) st (jC x.s) (by have := hx.2.1; omega) (by have := hx.2.2.1.2; omega) hx.1 (by have := hx.2.1; omega) (hsL_bytes (by have := hx.2.2.2; omega)) hi hki hC hS hsig W hk
theorem Turn.low {w w' : World} {bx gp gq gg gh n cap nb no mb fb fo fc ep base : Nat} {fa se : Int} {ks : List (Nat × Nat)} {vv : Bal.Bv → List Value} {f : Value → Option Value} {E : List Bal.Bv} (ht : Turn w w' mb fb f) (h : BoxAt w bx gp gq gg gh n cap nb no mb fb fo fc ep base fa se ks vv f E) {b : Nat} (hb : b < base) (h1 : b ≠ mb) (h2 : b ≠ fb) : w'.heap[b]? = w.heap[b]? :=
 ht.block b (Nat.lt_of_lt_of_le hb h.bs) h1 h2 fun h3 => by have := (h.rows.lt h3).1; omega
theorem BPut_any {bx gp gq gg gh n cap nb no mb fb fo fc ep base : Nat} {fa se : Int} {sk : List (Nat × Nat)} {f : Value → Option Value} {E : List Bal.Bv} {x : Bal.Bv} (st : StOk gp gq gg gh n fa se (Jr gp gg gh sk)) (hg : inG gp gq gg) (hx : GoodV n x) (hE : E.length ≤ 1000) (w : World) (h : BoxAt w bx gp gq gg gh n cap nb no mb fb fo fc ep base fa se (Jr gp gg gh sk) (vvS gp gq gg ep sk) f E) :
  Calls Tryz.prog 11 #[.pointer (some ⟨bx, 0, none⟩), .agg (vvS gp gq gg ep sk x).toArray] w fun r w' => r = .returned (.tuple #[.bool (putR E x).1, .int .i64 (putR E x).2]) ∧ ∃ f', BoxAt w' bx gp gq gg gh n cap nb no mb fb fo fc ep base fa se (Jr gp gg gh sk) (vvS gp gq gg ep sk) f' (Bal.bput E x) ∧ Turn w w' mb fb f ∧ ∀ g, rowB f' g → rowB f g ∨ w.heap.size ≤ g := by
 obtain ⟨i, hi⟩ : ∃ i, x.n = i + 1 := ⟨x.n - 1, by have := hx.2.2.1.1; omega⟩; have hin : i < n := by have := hx.2.2.1.2; omega
 have hk9 : x.k < 256 := by have := hx.1; omega
 have hv9 : x.v < 4294967296 := by have := hx.2.1; omega
 have hc := fun W hk => check_good (cap := cap) (ep := ep) st hg x hx W (nb := nb) (no := no) hk
 by_cases hxE : x ∈ E
 ·refine (BPut_in hi hin st.hn7 hk9 hv9 hE hc hxE w h).mono ?_; rintro r w' ⟨rfl, hb⟩; refine ⟨by unfold putR; rw [if_pos hxE], f, ?_, turn_of_below hb _ _ _, fun g hg => .inl hg⟩; have e : Bal.bput E x = E := by unfold Bal.bput; rw [if_pos hxE]
  rw [e]; exact h.later hb
 ·refine (BPut_new hi hin st.hn7 hk9 hv9 hE hc hxE w h).mono ?_; rintro r w' ⟨rfl, f', h1, h2, h3⟩; refine ⟨?_, f', h1, h2, h3⟩; unfold putR; rw [if_neg hxE]
  by_cases h0 : (Bal.at_ E x.k x.v x.n).length = 0
  ·rw [if_pos h0, if_pos h0, decide_eq_true h0]
  ·rw [if_neg h0, if_neg h0, decide_eq_false h0]
theorem kept_len (l : List Bal.Bv) : (Bal.kept l).length ≤ l.length := by
 have key : ∀ R : List Bal.Bv, (Bal.kept R.reverse).length ≤ R.length := by
  intro R
  induction R with
  | nil => exact Nat.le_refl _
  | cons x R ih =>
   rw [List.reverse_cons, Bal.kept_snoc, List.length_cons]; unfold Bal.bput
   split
   ·omega
   ·rw [List.length_append]
    simp
    omega
 have h9 := key l.reverse
 rwa [List.reverse_reverse, List.length_reverse] at h9
def castL (gp gq gg gh lg : Nat) (fa se : Int) (ks : Value) : List Value := [.int .u64 (jf jd gp 0), .int .u64 (jf jd gp 1), .int .u64 (jf jd gp 2), .int .u64 (jf jd gp 3), .int .u64 (jf jd gq 0), .int .u64 (jf jd gq 1), .int .u64 (jf jd gq 2), .int .u64 (jf jd gq 3), .int .u64 (jf jd gg 0), .int .u64 (jf jd gg 1), .int .u64 (jf jd gg 2), .int .u64 (jf jd gg 3), .int .u64 (jf jd gh 0), .int .u64 (jf jd gh 1), .int .u64 (jf jd gh 2), .int .u64 (jf jd gh 3), .int .u64 (jf jd lg 0), .int .u64 (jf jd lg 1), .int .u64 (jf jd lg 2), .int .u64 (jf jd lg 3), .int .i64 fa, .int .i64 se, ks]
def chL (x : Ch) : List Value := [.int .u8 x.node, .int .u8 x.set, .bool x.sec, .int .u8 x.view]
def ZU (Z : List Value) (al : Value) (x : Ch) (k : Nat) : List Value := Z ++ (al :: (chL x ++ [.int .u8 k]))
def noneV (gp gq gg gh lg : Nat) (fa se : Int) (ks al : Value) (x : Ch) (k : Nat) : Value := .agg (ZU (castL gp gq gg gh lg fa se ks) al x k).toArray
theorem castV_list {gp gq gg gh lg : Nat} {fa se : Int} {ks : Value} : zG gp gq gg gh lg fa se ks = .agg (castL gp gq gg gh lg fa se ks).toArray := rfl
theorem QY : (Tryz.prog.info? 57).map (·.size) = some 4 := by kernel_rfl
theorem noneL_length {Z : List Value} {al : Value} {x : Ch} {k : Nat} (h : Z.length = 23) : (ZU Z al x k).length = 29 := by unfold ZU chL; simp [h]
theorem none_at {w : World} {b : Nat} {Z : List Value} {al : Value} {x : Ch} {k : Nat} (hl : Z.length = 23) (h : w.rangeAt b 0 (ZU Z al x k)) :
  w.rangeAt b 0 Z ∧ w.cell? ⟨b, 23, none⟩ = some al ∧ w.rangeAt b 24 (chL x) ∧ w.cell? ⟨b, 28, none⟩ = some (.int .u8 k) := by
 refine ⟨fun j u hj => ?_, ?_, fun j u hj => ?_, ?_⟩
 ·refine h j u ?_; unfold ZU; rw [List.getElem?_append_left (List.getElem?_eq_some_iff.1 hj).1]; exact hj
 ·have h9 := h 23 al (by unfold ZU; rw [List.getElem?_append_right (by omega), hl]; rfl)
  simpa using h9
 ·have h4 : j < 4 := (List.getElem?_eq_some_iff.1 hj).1
  have h9 := h (24 + j) u (by
   unfold ZU; rw [List.getElem?_append_right (by omega), hl, show 24 + j - 23 = j + 1 by omega, List.getElem?_cons_succ, List.getElem?_append_left h4]
   exact hj)
  simpa using h9
 ·have h9 := h 28 (.int .u8 k) (by unfold ZU; rw [List.getElem?_append_right (by omega), hl]; rfl)
  simpa using h9
theorem loadC {w : World} {b o : Nat} {Z : List Value} (h : w.rangeAt b o Z) (hl : Z.length = 23) : (Instr.loadAt 29 (.pointer (some ⟨b, o, none⟩))).run Tryz.prog w = .ok (.agg Z.toArray) w :=
 run_loadAt_mid (P := Tryz.prog) w b o 29 Z _ h Tryz.underlying29 rfl (by rw [hl]; exact info_c9)
theorem loadX {w : World} {b o : Nat} {x : Ch} (h : w.rangeAt b o (chL x)) : (Instr.loadAt 57 (.pointer (some ⟨b, o, none⟩))).run Tryz.prog w = .ok (.agg (chL x).toArray) w :=
 run_loadAt_mid (P := Tryz.prog) w b o 57 (chL x) _ h Tryz.underlying57 rfl (by exact QY)
end Go.Proofs.YtdpkpcbikbbcbaaGreat
