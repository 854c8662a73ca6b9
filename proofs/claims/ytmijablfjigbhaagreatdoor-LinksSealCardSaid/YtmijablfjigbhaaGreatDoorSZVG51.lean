/- Layer 20's reference -/
import Derived.Test.YtmijablfjigbhaaGreatDoorSZVG50
import Derived.Test.YtmijablfjigbhaaGreatDoorSZVG47
import Derived.Test.YtmijablfjigbhaaGreatDoorSZVG39
import Derived.Test.YtmijablfjigbhaaGreatDoorSZVG44
set_option linter.unusedSimpArgs false
set_option linter.unusedVariables false
set_option maxHeartbeats 8000000
set_option maxRecDepth 100000
namespace Go.Proofs.YtmijablfjigbhaaGreatDoor
open Go.ChangeShapes Go.WideShapes Go.ChangeAt Go.RowKit
theorem mM {gp gq gg gh a b : Nat} (ha : a < jo) (Z4 : b < jo) (hm : gq < jo) (hmay : (1 < gq ∧ a < gq ∧ b < gq)) (w : World) :
  Calls Tryz.prog 116 #[qd gp gq gg gh, jj a, jj b] w fun e w' => e = .returned (.tuple #[jj ((a + b) % gq), .int .i64 0]) ∧ Below w.heap.size w w' := by
 obtain ⟨q, hq⟩ := je ((a + b) % gq); have CE := jh (fun W => by have h9 := xY hm hmay W; rewrite [← hq] at h9; unfold jj words at h9; exact h9); rw [← hq]; clear hq ha Z4 hm hmay; unfold qd jj words
 go_enter Tryz.func116, Tryz.ntmps116
 go_wp2_with fail
 obtain ⟨w0, GG, e0, s0, P7, g0, HB0⟩ := JR w 26 gp gq gg gh; rw [e0, s0, P7]; clear e0 s0 P7; obtain ⟨wz, AA, BB, RR, e9, J5, h_1, h_2, J3, U4, HRR, HF, B, V8, LC, TC, Y9, D6, U1⟩ := QY w0 24 a b; rw [e9, J5, h_1, h_2]; clear e9 J5 h_1 h_2; have G0 := jh (U2.later B.out g0); clear g0; refine (CE.out _).mono ?_; rintro _ w1 ⟨rfl, hb⟩; have J3 := jn hb J3; have U4 := jn hb U4; have HRR := jn hb HRR; have HF := jh (HF.out.later hb (by omega)); have G0 := jh (U2.later hb G0.out); have U1 := Nat.lt_of_lt_of_le U1 hb.size; have B := jw B hb; clear hb; obtain ⟨c0, c1, c2, c3, f0, f1, f2, f3⟩ := jL HRR.out HF.out
 go_wp2_with fail
 obtain ⟨Q7, B9⟩ := zw HRR B D6 q; obtain ⟨g0, g1, g2, g3⟩ := jz Q7.out; refine bodyPost_ret (v := .tuple #[jj q, .int .i64 0]) ?_ rfl ⟨rfl, jk HB0.out B9.out⟩
 simp [results, Tryz.results116, go_sem, jj, words, g0, g1, g2, g3]
theorem RAddS_no {gp gq gg gh a b : Nat} (ha : a < jo) (Z4 : b < jo) (hm : gq < jo) (hmay : ¬ (1 < gq ∧ a < gq ∧ b < gq)) (w : World) :
  Calls Tryz.prog 116 #[qd gp gq gg gh, jj a, jj b] w fun e w' => e = .returned (.tuple #[jj 0, .int .i64 1]) ∧ Below w.heap.size w w' := by
 obtain ⟨q, hq⟩ := je (0); have CE := jh (fun W => by have h9 := RAddM_no ha Z4 hm hmay W; rewrite [← hq] at h9; unfold jj words at h9; exact h9); rw [← hq]; clear hq ha Z4 hm hmay; unfold qd jj words
 go_enter Tryz.func116, Tryz.ntmps116
 go_wp2_with fail
 obtain ⟨w0, GG, e0, s0, P7, g0, HB0⟩ := JR w 26 gp gq gg gh; rw [e0, s0, P7]; clear e0 s0 P7; obtain ⟨wz, AA, BB, RR, e9, J5, h_1, h_2, J3, U4, HRR, HF, B, V8, LC, TC, Y9, D6, U1⟩ := QY w0 24 a b; rw [e9, J5, h_1, h_2]; clear e9 J5 h_1 h_2; have G0 := jh (U2.later B.out g0); clear g0; refine (CE.out _).mono ?_; rintro _ w1 ⟨rfl, hb⟩; have J3 := jn hb J3; have U4 := jn hb U4; have HRR := jn hb HRR; have HF := jh (HF.out.later hb (by omega)); have G0 := jh (U2.later hb G0.out); have U1 := Nat.lt_of_lt_of_le U1 hb.size; have B := jw B hb; clear hb; obtain ⟨c0, c1, c2, c3, f0, f1, f2, f3⟩ := jL HRR.out HF.out
 go_wp2_with fail
 obtain ⟨Q7, B9⟩ := zw HRR B D6 q; obtain ⟨g0, g1, g2, g3⟩ := jz Q7.out; refine bodyPost_ret (v := .tuple #[jj q, .int .i64 1]) ?_ rfl ⟨rfl, jk HB0.out B9.out⟩
 simp [results, Tryz.results116, go_sem, jj, words, g0, g1, g2, g3]
theorem tY {gp gq gg gh a : Nat} (ha : a < jo) (hm : gq < jo) (hmay : (1 < gq ∧ a < gq)) (w : World) :
  Calls Tryz.prog 112 #[qd gp gq gg gh, jj a] w fun e w' => e = .returned (.bool true) ∧ Below w.heap.size w w' := by
 obtain ⟨q, hq⟩ := je ((a + a) % gq); have CE := jh (fun W => by have h9 := mM (gp := gp) (gg := gg) (gh := gh) ha ha hm (by omega) W; rewrite [← hq] at h9; unfold qd jj words at h9; exact h9); clear hq ha hm hmay; unfold qd jj words
 go_enter Tryz.func112, Tryz.ntmps112
 go_wp2_with fail
 obtain ⟨w0, GG, e0, s0, P7, g0, HB0⟩ := JR w 26 gp gq gg gh; rw [e0, s0, P7]; clear e0 s0 P7; obtain ⟨wz, AA, e9, J5, J3, B, V8, Y9, sF, U1⟩ := Zp w0 24 a; rw [e9, J5]; clear e9 J5; have G0 := jh (U2.later B.out g0); clear g0; refine (CE.out _).mono ?_; rintro _ w1 ⟨rfl, hb⟩; have J3 := jn hb J3; have G0 := jh (U2.later hb G0.out); have U1 := Nat.lt_of_lt_of_le U1 hb.size; have B := jw B hb; clear hb
 go_wp2_with fail
 refine bodyPost_ret (v := .bool true) ?_ rfl ⟨rfl, jk HB0.out (jk B.out (ja))⟩
 simp [results, Tryz.results112, go_sem]
theorem RExpo_no {gp gq gg gh a : Nat} (ha : a < jo) (hm : gq < jo) (hmay : ¬ (1 < gq ∧ a < gq)) (w : World) :
  Calls Tryz.prog 112 #[qd gp gq gg gh, jj a] w fun e w' => e = .returned (.bool false) ∧ Below w.heap.size w w' := by
 obtain ⟨q, hq⟩ := je (0); have CE := jh (fun W => by have h9 := RAddS_no (gp := gp) (gg := gg) (gh := gh) ha ha hm (by omega) W; rewrite [← hq] at h9; unfold qd jj words at h9; exact h9); clear hq ha hm hmay; unfold qd jj words
 go_enter Tryz.func112, Tryz.ntmps112
 go_wp2_with fail
 obtain ⟨w0, GG, e0, s0, P7, g0, HB0⟩ := JR w 26 gp gq gg gh; rw [e0, s0, P7]; clear e0 s0 P7; obtain ⟨wz, AA, e9, J5, J3, B, V8, Y9, sF, U1⟩ := Zp w0 24 a; rw [e9, J5]; clear e9 J5; have G0 := jh (U2.later B.out g0); clear g0; refine (CE.out _).mono ?_; rintro _ w1 ⟨rfl, hb⟩; have J3 := jn hb J3; have G0 := jh (U2.later hb G0.out); have U1 := Nat.lt_of_lt_of_le U1 hb.size; have B := jw B hb; clear hb
 go_wp2_with fail
 refine bodyPost_ret (v := .bool false) ?_ rfl ⟨rfl, jk HB0.out (jk B.out (ja))⟩
 simp [results, Tryz.results112, go_sem]
theorem kM {gp gq gg gh a : Nat} (ha : a < jo) (hm : gq < jo) (w : World) :
  Calls Tryz.prog 112 #[qd gp gq gg gh, jj a] w fun e w' => e = .returned (.bool (decide (1 < gq ∧ a < gq))) ∧ Below w.heap.size w w' := by
 by_cases h : 1 < gq ∧ a < gq
 ·rw [decide_eq_true h]; exact tY ha hm h w
 ·rw [decide_eq_false h]; exact RExpo_no ha hm h w
theorem sU {gp gq gg gh a : Nat} (ha : a < jo) (hq : gq < jo) (hm : gp < jo) (w : World) :
  Calls Tryz.prog 97 #[qd gp gq gg gh, jj a] w fun e w' => e = .returned (.bool (!qJ gp gq a)) ∧ Below w.heap.size w w' := by
 obtain ⟨i9, hi9⟩ := je (decide (YJ gp gq a)); obtain ⟨e, he⟩ := je (decide (a = 1)); have hv : (!qJ gp gq a) = (i9 && !e) := by unfold qJ; rw [← hi9, ← he, Bool.not_or, Bool.not_not]
 rw [hv]; have CI := jh (fun (W : World) => by have h9 := RInG_any (gp := gp) (gg := gg) (gh := gh) ha hq hm W; rewrite [← hi9] at h9; unfold qd jj words at h9; exact h9); have heq : ∀ W : World, (binOp .neq 24 (.agg #[.int .u64 (jf jd a 0), .int .u64 (jf jd a 1), .int .u64 (jf jd a 2), .int .u64 (jf jd a 3)]) (.agg #[.int .u64 1, .int .u64 0, .int .u64 0, .int .u64 0])).run Tryz.prog W = .ok (.bool (!e)) W := fun W => by have h8 := QR a 1 ha (by decide) W; rewrite [← he] at h8; have z0 : ((jf jd 1 0 : Nat) : Int) = 1 := (by decide); have z1 : ((jf jd 1 1 : Nat) : Int) = 0 := (by decide); have z2 : ((jf jd 1 2 : Nat) : Int) = 0 := (by decide); have z3 : ((jf jd 1 3 : Nat) : Int) = 0 := (by decide); rewrite [z0, z1, z2, z3] at h8; exact h8
 have HEQ := jh heq; clear heq hi9 he hv ha hq hm; unfold qd jj words
 go_enter Tryz.func97, Tryz.ntmps97
 go_wp2_with fail
 obtain ⟨w0, GG, e0, s0, P7, g0, HB0⟩ := JR w 26 gp gq gg gh; rw [e0, s0, P7]; clear e0 s0 P7; obtain ⟨wz, AA, e9, J5, J3, B, V8, Y9, sF, U1⟩ := Zp w0 24 a; rw [e9, J5]; clear e9 J5; have G0 := jh (U2.later B.out g0); clear g0; refine (CI.out _).mono ?_; rintro _ w1 ⟨rfl, hb⟩; have J3 := jn hb J3; have G0 := jh (U2.later hb G0.out); have U1 := Nat.lt_of_lt_of_le U1 hb.size; have B := jw B hb; clear hb
 cases i9
 ·skip
  skip
  go_wp2_with fail
  refine bodyPost_ret (v := .bool false) ?_ rfl ⟨rfl, jk HB0.out B.out⟩
  simp [results, Tryz.results97, go_sem]
 ·skip
  obtain ⟨U3, I4, X3, V3⟩ := jz J3.out; have heq := HEQ.out
  cases e
  ·simp only [Bool.not_true, Bool.not_false] at heq
   go_wp2_with fail
   refine bodyPost_ret (v := .bool true) ?_ rfl ⟨rfl, jk HB0.out B.out⟩
   simp [results, Tryz.results97, go_sem]
  ·simp only [Bool.not_true, Bool.not_false] at heq
   go_wp2_with fail
   refine bodyPost_ret (v := .bool false) ?_ rfl ⟨rfl, jk HB0.out B.out⟩
   simp [results, Tryz.results97, go_sem]
theorem pY {gp gq gg gh a b : Nat} (ha : a < jo) (Z4 : b < jo) (hm : gq < jo) (hmay : 1 < gq ∧ a < gq ∧ b < gq) (w : World) :
  Calls Tryz.prog 115 #[qd gp gq gg gh, jj a, jj b] w fun e w' => e = .returned (.tuple #[jj (a * b % gq), .int .i64 0]) ∧ Below w.heap.size w w' := by
 obtain ⟨q, hq⟩ := je (a * b % gq); have CE := jh (fun W => by have h9 := rY hm hmay W; rewrite [← hq] at h9; unfold jj words at h9; exact h9); rw [← hq]; clear hq ha Z4 hm hmay; unfold qd jj words
 go_enter Tryz.func115, Tryz.ntmps115
 go_wp2_with fail
 obtain ⟨w0, GG, e0, s0, P7, g0, HB0⟩ := JR w 26 gp gq gg gh; rw [e0, s0, P7]; clear e0 s0 P7; obtain ⟨wz, AA, BB, RR, e9, J5, h_1, h_2, J3, U4, HRR, HF, B, V8, LC, TC, Y9, D6, U1⟩ := QY w0 24 a b; rw [e9, J5, h_1, h_2]; clear e9 J5 h_1 h_2; have G0 := jh (U2.later B.out g0); clear g0; refine (CE.out _).mono ?_; rintro _ w1 ⟨rfl, hb⟩; have J3 := jn hb J3; have U4 := jn hb U4; have HRR := jn hb HRR; have HF := jh (HF.out.later hb (by omega)); have G0 := jh (U2.later hb G0.out); have U1 := Nat.lt_of_lt_of_le U1 hb.size; have B := jw B hb; clear hb; obtain ⟨c0, c1, c2, c3, f0, f1, f2, f3⟩ := jL HRR.out HF.out
 go_wp2_with fail
 obtain ⟨Q7, B9⟩ := zw HRR B D6 q; obtain ⟨g0, g1, g2, g3⟩ := jz Q7.out; refine bodyPost_ret (v := .tuple #[jj q, .int .i64 0]) ?_ rfl ⟨rfl, jk HB0.out B9.out⟩
 simp [results, Tryz.results115, go_sem, jj, words, g0, g1, g2, g3]
def BM (gp gq gg secret draw : Nat) : Prop := Jq gp gg ∧ secret ≠ 0 ∧ draw ≠ 0 ∧ 1 < gq ∧ secret < gq ∧ draw < gq
instance (gp gq gg secret draw : Nat) : Decidable (BM gp gq gg secret draw) := by unfold BM; exact inferInstance
def s3C (gp gq gg secret draw : Nat) (h : List Nat) : Nat := if BM gp gq gg secret draw then YF gp gq gg secret draw h else 0
def s3S (gp gq gg secret draw : Nat) (h : List Nat) : Nat := if BM gp gq gg secret draw then ZS gp gq gg secret draw h else 0
def s3E (gp gq gg secret draw : Nat) : Nat := if BM gp gq gg secret draw then 0 else 1
theorem lY {gp gq gg gh secret draw : Nat} {h : List Nat} (iG : gp < jo) (hgg : gg < jo) (hq : gq < jo) (hsM : secret < jo) (nN : draw < jo) (hl : h.length = 32) (Z4 : jM h) (w : World) :
  Calls Tryz.prog 35 #[qd gp gq gg gh, jj secret, .agg (jp .u8 h).toArray, jj draw] w fun e w' => e = .returned (.tuple #[Ql (s3C gp gq gg secret draw h) (s3S gp gq gg secret draw h), .int .i64 (s3E gp gq gg secret draw : Nat)]) ∧ Below w.heap.size w w' := by
 obtain ⟨m1, hm1⟩ := je (decide (Jq gp gg)); obtain ⟨x1, hx1⟩ := je (decide (1 < gq ∧ secret < gq)); obtain ⟨x2, hx2⟩ := je (decide (1 < gq ∧ draw < gq)); obtain ⟨z1, hz1⟩ := je (decide (secret = 0)); obtain ⟨z2, hz2⟩ := je (decide (draw = 0)); have CMAY := jh (fun (W : World) => by have h9 := Zl (gp := gp) (gq := gq) (gg := gg) (gh := gh) hgg iG W; rewrite [← hm1] at h9; unfold qd jj words at h9; exact h9); have CX1 := jh (fun (W : World) => by have h9 := kM (gp := gp) (gg := gg) (gh := gh) hsM hq W; rewrite [← hx1] at h9; unfold qd jj words at h9; exact h9); have CX2 := jh (fun (W : World) => by have h9 := kM (gp := gp) (gg := gg) (gh := gh) nN hq W; rewrite [← hx2] at h9; unfold qd jj words at h9; exact h9); obtain ⟨key, hkey⟩ := je (gg ^ secret % gp); obtain ⟨r, hr⟩ := je (gg ^ draw % gp); obtain ⟨c, hc⟩ := je (zu gq key r h); obtain ⟨p, hp⟩ := je (secret * c % gq); obtain ⟨s, hs⟩ := je ((draw + p) % gq); have ec : YF gp gq gg secret draw h = c := by rw [hc, hkey, hr]; rfl
 have es : ZS gp gq gg secret draw h = s := by unfold ZS; rw [ec, ← hp, ← hs]
 have hcq : 1 < gq → c < gq := fun h1 => by rw [hc]; unfold zu zB; exact Nat.mod_lt _ (by omega)
 have hpq : 1 < gq → p < gq := fun h1 => by rw [hp]; exact Nat.mod_lt _ (by omega)
 have rX : x1 = true → 1 < gq ∧ secret < gq := fun h => by rw [hx1] at h; exact of_decide_eq_true h
 have hx2t : x2 = true → 1 < gq ∧ draw < gq := fun h => by rw [hx2] at h; exact of_decide_eq_true h
 have hm1t : m1 = true → Jq gp gg := fun h => by rw [hm1] at h; exact of_decide_eq_true h
 have CK := jh (fun (h1 : m1 = true) (W : World) => by have h9 := lM (gq := gq) (gg := gg) (gh := gh) (hm1t h1) hgg hsM iG W; rewrite [← hkey] at h9; unfold qd jj words at h9; exact h9); have CR := jh (fun (h1 : m1 = true) (W : World) => by have h9 := lM (gq := gq) (gg := gg) (gh := gh) (hm1t h1) hgg nN iG W; rewrite [← hr] at h9; unfold qd jj words at h9; exact h9); have CC := jh (fun (h1 : x1 = true) (W : World) => by have h9 := wY (gp := gp) (gg := gg) (gh := gh) (key := key) (r := r) hl Z4 (by have := (rX h1).1; omega) hq W; rewrite [← hc] at h9; unfold qd jj words at h9; exact h9); have CM := jh (fun (h1 : x1 = true) (W : World) => by have h9 := pY (gp := gp) (gg := gg) (gh := gh) hsM (Nat.lt_trans (hcq (rX h1).1) hq) hq ⟨(rX h1).1, (rX h1).2, hcq (rX h1).1⟩ W; rewrite [← hp] at h9; unfold qd jj words at h9; exact h9); have CA := jh (fun (h1 : x2 = true) (W : World) => by have h9 := mM (gp := gp) (gg := gg) (gh := gh) nN (Nat.lt_trans (hpq (hx2t h1).1) hq) hq ⟨(hx2t h1).1, (hx2t h1).2, hpq (hx2t h1).1⟩ W; rewrite [← hs] at h9; unfold qd jj words at h9; exact h9)
 have hok : (m1 && x1 && x2 && !z1 && !z2) = decide (BM gp gq gg secret draw) := by
  rw [hm1, hx1, hx2, hz1, hz2]; refine Bool.eq_iff_iff.2 (Iff.trans ?_ decide_eq_true_iff.symm); simp only [Bool.and_eq_true, decide_eq_true_eq, Bool.not_eq_true', decide_eq_false_iff_not]; unfold BM
  constructor
  ·rintro ⟨⟨⟨⟨a, b, c⟩, d, e⟩, f⟩, g⟩; exact ⟨a, f, g, b, c, e⟩
  ·rintro ⟨a, f, g, b, c, e⟩; exact ⟨⟨⟨⟨a, b, c⟩, b, e⟩, f⟩, g⟩
 obtain ⟨c9, wX⟩ := je (s3C gp gq gg secret draw h); obtain ⟨s9, hs9⟩ := je (s3S gp gq gg secret draw h); obtain ⟨E, hE⟩ := je (s3E gp gq gg secret draw); rw [← wX, ← hs9, ← hE]; have RF := jh (fun (h0 : (m1 && x1 && x2 && !z1 && !z2) = false) => show c9 = 0 ∧ s9 = 0 ∧ E = 1 by rw [hok] at h0; have h1 := of_decide_eq_false h0; rw [wX, hs9, hE]; unfold s3C s3S s3E; rw [if_neg h1, if_neg h1, if_neg h1]; exact ⟨rfl, rfl, rfl⟩); have HOK := jh (fun (h0 : (m1 && x1 && x2 && !z1 && !z2) = true) => show c9 = c ∧ s9 = s ∧ E = 0 by rw [hok] at h0; have h1 := of_decide_eq_true h0; rw [wX, hs9, hE]; unfold s3C s3S s3E; rw [if_pos h1, if_pos h1, if_pos h1]; exact ⟨ec, es, rfl⟩); have HZ1 := jh (show ∀ W : World, (binOp .eql 24 (.agg #[.int .u64 (jf jd secret 0), .int .u64 (jf jd secret 1), .int .u64 (jf jd secret 2), .int .u64 (jf jd secret 3)]) (.agg #[.int .u64 0, .int .u64 0, .int .u64 0, .int .u64 0])).run Tryz.prog W = .ok (.bool z1) W from fun W => by have h9 := zp secret 0 hsM (by decide) W; rewrite [← hz1] at h9; simp only [jI] at h9; exact h9); have HZ2 := jh (show ∀ W : World, (binOp .eql 24 (.agg #[.int .u64 (jf jd draw 0), .int .u64 (jf jd draw 1), .int .u64 (jf jd draw 2), .int .u64 (jf jd draw 3)]) (.agg #[.int .u64 0, .int .u64 0, .int .u64 0, .int .u64 0])).run Tryz.prog W = .ok (.bool z2) W from fun W => by have h9 := zp draw 0 nN (by decide) W; rewrite [← hz2] at h9; simp only [jI] at h9; exact h9); obtain ⟨T, hT⟩ := je ((jp .u8 h).toArray); have SG : (Tryz.prog.info? 32).map (·.size) = some T.size := by rw [zt, hT]; simp [jt, hl]
 rw [← hT] at CC ⊢; clear hm1 hx1 hx2 hz1 hz2 hkey hr hc hp hs ec es hcq hpq rX hx2t hm1t hok wX hs9 hE hT iG hgg hq hsM nN hl Z4; unfold qd jj words
 go_enter Tryz.func35, Tryz.ntmps35
 go_upto_region 1 with fail
 obtain ⟨A8, e0⟩ := je (w.alloc (.cells (jG gp gq gg gh) 26)); obtain ⟨F8, e1⟩ := je (A8.alloc (.cells (jD secret) 24)); obtain ⟨J9, e2⟩ := je (F8.alloc (.cells T 32)); obtain ⟨S9, e3⟩ := je (J9.alloc (.cells (jD draw) 24)); obtain ⟨FC, e4⟩ := je (S9.alloc (.cells jB 39)); have s0 : A8.heap.size = w.heap.size + 1 := by rw [e0]; simp
 have b0 := jc e0; have s1 : F8.heap.size = A8.heap.size + 1 := by rw [e1]; simp
 have b1 := jc e1; have s2 : J9.heap.size = F8.heap.size + 1 := by rw [e2]; simp
 have b2 := jc e2; have s3 : S9.heap.size = J9.heap.size + 1 := by rw [e3]; simp
 have b3 := jc e3; have s4 : FC.heap.size = S9.heap.size + 1 := by rw [e4]; simp
 have b4 := jc e4; have f0 : U2 A8 w.heap.size gp gq gg gh := by rw [e0]; exact U2.new _ _ _ _ _ _
 have f1 : U0 F8 (w.heap.size + 1) secret := by rw [← s0, e1]; exact U0.new _ _ _ _ rfl
 have f2 : J9.heap[w.heap.size + 1 + 1]? = some (.cells T 32 (0, 0)) := by rw [← s0, ← s1, e2]; exact heap_alloc_new _ _
 have f3 : U0 S9 (w.heap.size + 1 + 1 + 1) draw := by rw [← s0, ← s1, ← s2, e3]; exact U0.new _ _ _ _ rfl
 have f4 : FC.heap[w.heap.size + 1 + 1 + 1 + 1]? = some (.cells #[.int .u64 0, .int .u64 0, .int .u64 0, .int .u64 0, .int .u64 0, .int .u64 0, .int .u64 0, .int .u64 0] 39 (0, 0)) := by rw [← s0, ← s1, ← s2, ← s3, e4]; exact heap_alloc_new _ _
 rw [← e0, ← e1, ← e2, ← e3, ← e4]; have HG := jh ((((f0.later b1).later b2).later b3).later b4); have HS := jh (U0.later b4 (U0.later b3 (U0.later b2 f1))); have HH := jh ((b4.block _ (by omega)).trans ((b3.block _ (Array.getElem?_eq_some_iff.1 f2).1).trans f2)); have HD := jh (U0.later b4 f3); have HU := jh f4; have HB := jh (jk (jk (jk (jk b0 b1) b2) b3) b4); clear e0 e1 e2 e3 e4 s0 s1 s2 s3 s4 b0 b1 b2 b3 b4 f0 f1 f2 f3 f4; obtain ⟨GB, hGB⟩ := je (w.heap.size); rw [← hGB] at HG HS HH HD HU ⊢; have BD := jh (show w.heap.size ≤ GB + 1 + 1 + 1 + 1 by omega); obtain ⟨SB, L9⟩ := je (GB + 1); rw [← L9] at HS HH HD HU BD ⊢; obtain ⟨E8, fE⟩ := je (SB + 1); rw [← fE] at HH HD HU BD ⊢; obtain ⟨DB, hDB⟩ := je (E8 + 1); rw [← hDB] at HD HU BD ⊢; obtain ⟨UB, mV⟩ := je (DB + 1); rw [← mV] at HU BD ⊢; clear hGB L9 fE hDB mV; refine wp_region_lit ?_; refine ji rfl (jg (qR HG.out)) ?_; simp only [Act.put, pa, pb, pc]; refine ji (v := .pointer (some ⟨GB, 8, none⟩)) rfl (by kernel_rfl) ?_; simp only [Act.put, pa, pb, pc]; refine ji rfl (jg (qX HG.out.2.2.1)) ?_; simp only [Act.put, pa, pb, pc]
 go_wp2_with fail
 refine (CMAY.out _).mono ?_; rintro _ w1 ⟨rfl, hb⟩; have HG := jh (HG.out.later hb); have HS := jn hb HS; have HH := jb hb HH; have HD := jn hb HD; have HU := jb hb HU; have HB := jw HB hb; clear hb
 cases m1
 ·skip
  have HN := jh (RF.out (by trivial))
  go_upto_region 2 with fail
  refine wp_region_lit ?_; refine ji (v := .agg #[.int .u64 0, .int .u64 0, .int .u64 0, .int .u64 0, .int .u64 0, .int .u64 0, .int .u64 0, .int .u64 0]) rfl (by kernel_rfl) ?_; simp only [Act.put, pa, pb, pc]; refine jy rfl _ _ _ rfl UB _ _ _ HU.out rfl rfl (by rw [qm]; rfl) rfl (by simp [Value.oneCell']) ?_; simp only [Act.put, pa, pb, pc]; obtain ⟨T9, I8⟩ : ∃ T9 : Array Value, T9 = #[.int .u64 0, .int .u64 0, .int .u64 0, .int .u64 0, .int .u64 0, .int .u64 0, .int .u64 0, .int .u64 0] := ⟨_, rfl⟩; have hs9 : (Tryz.prog.info? 39).map (·.size) = some T9.size := by rw [qm, I8]; rfl
  obtain ⟨w9, e9⟩ := je (w1.setRow UB jB); have D7 : w9.heap[UB]? = some (.cells T9 39 (0, 0)) := by rw [e9, I8]; exact setRow_heap _ _ _ _ _ _ HU.out
  have Z4 : Below w.heap.size w w9 := by rw [e9]; exact below_setRow HB.out BD.out _
  rw [← e9]; have Z9 := jh D7; have E8 := jh Z4; have OE := jh I8; clear e9 D7 Z4 I8
  go_wp2_with fail
  refine bodyPost_ret (jO rfl _ w9 UB _ _ _ _ rfl Z9.out Tryz.underlying39 rfl hs9 (.int .i64 1) rfl) rfl ⟨by rw [HN.out.1, HN.out.2.1, HN.out.2.2, OE.out]; rw [JI]; rfl, E8.out⟩
 dsimp only
 go_step
 iterate 2
  refine ji (v := .bool false) rfl (by kernel_rfl) ?_; simp only [Act.put, pa, pb, pc]
 refine jv (by kernel_rfl) (jg (qR HG.out)) ?_; simp only [Act.put, pa, pb, pc]; refine jv (by kernel_rfl) (jg (qx HS.out)) ?_; simp only [Act.put, pa, pb, pc]
 go_wp2_with fail
 refine (CX1.out _).mono ?_; rintro _ w2 ⟨rfl, hb⟩; have HG := jh (HG.out.later hb); have HS := jn hb HS; have HH := jb hb HH; have HD := jn hb HD; have HU := jb hb HU; have HB := jw HB hb; clear hb
 cases x1
 ·skip
  have HN := jh (RF.out (by trivial))
  go_upto_region 2 with fail
  refine wp_region_lit ?_; refine ji (v := .agg #[.int .u64 0, .int .u64 0, .int .u64 0, .int .u64 0, .int .u64 0, .int .u64 0, .int .u64 0, .int .u64 0]) rfl (by kernel_rfl) ?_; simp only [Act.put, pa, pb, pc]; refine jy rfl _ _ _ rfl UB _ _ _ HU.out rfl rfl (by rw [qm]; rfl) rfl (by simp [Value.oneCell']) ?_; simp only [Act.put, pa, pb, pc]; obtain ⟨T9, I8⟩ : ∃ T9 : Array Value, T9 = #[.int .u64 0, .int .u64 0, .int .u64 0, .int .u64 0, .int .u64 0, .int .u64 0, .int .u64 0, .int .u64 0] := ⟨_, rfl⟩; have hs9 : (Tryz.prog.info? 39).map (·.size) = some T9.size := by rw [qm, I8]; rfl
  obtain ⟨w9, e9⟩ := je (w2.setRow UB jB); have D7 : w9.heap[UB]? = some (.cells T9 39 (0, 0)) := by rw [e9, I8]; exact setRow_heap _ _ _ _ _ _ HU.out
  have Z4 : Below w.heap.size w w9 := by rw [e9]; exact below_setRow HB.out BD.out _
  rw [← e9]; have Z9 := jh D7; have E8 := jh Z4; have OE := jh I8; clear e9 D7 Z4 I8
  go_wp2_with fail
  refine bodyPost_ret (jO rfl _ w9 UB _ _ _ _ rfl Z9.out Tryz.underlying39 rfl hs9 (.int .i64 1) rfl) rfl ⟨by rw [HN.out.1, HN.out.2.1, HN.out.2.2, OE.out]; rw [JI]; rfl, E8.out⟩
 dsimp only
 go_step
 refine jv (v := .bool false) (by kernel_rfl) (by kernel_rfl) ?_
 iterate 2
  simp only [Act.put, pa, pb, pc]; refine ji (v := .bool false) rfl (by kernel_rfl) ?_
 simp only [Act.put, pa, pb, pc]; refine jv (by kernel_rfl) (jg (qR HG.out)) ?_; simp only [Act.put, pa, pb, pc]; refine jv (by kernel_rfl) (jg (qx HD.out)) ?_; simp only [Act.put, pa, pb, pc]
 go_wp2_with fail
 refine (CX2.out _).mono ?_; rintro _ w3 ⟨rfl, hb⟩; have HG := jh (HG.out.later hb); have HS := jn hb HS; have HH := jb hb HH; have HD := jn hb HD; have HU := jb hb HU; have HB := jw HB hb; clear hb
 cases x2
 ·skip
  have HN := jh (RF.out (by trivial))
  go_upto_region 2 with fail
  refine wp_region_lit ?_; refine ji (v := .agg #[.int .u64 0, .int .u64 0, .int .u64 0, .int .u64 0, .int .u64 0, .int .u64 0, .int .u64 0, .int .u64 0]) rfl (by kernel_rfl) ?_; simp only [Act.put, pa, pb, pc]; refine jy rfl _ _ _ rfl UB _ _ _ HU.out rfl rfl (by rw [qm]; rfl) rfl (by simp [Value.oneCell']) ?_; simp only [Act.put, pa, pb, pc]; obtain ⟨T9, I8⟩ : ∃ T9 : Array Value, T9 = #[.int .u64 0, .int .u64 0, .int .u64 0, .int .u64 0, .int .u64 0, .int .u64 0, .int .u64 0, .int .u64 0] := ⟨_, rfl⟩; have hs9 : (Tryz.prog.info? 39).map (·.size) = some T9.size := by rw [qm, I8]; rfl
  obtain ⟨w9, e9⟩ := je (w3.setRow UB jB); have D7 : w9.heap[UB]? = some (.cells T9 39 (0, 0)) := by rw [e9, I8]; exact setRow_heap _ _ _ _ _ _ HU.out
  have Z4 : Below w.heap.size w w9 := by rw [e9]; exact below_setRow HB.out BD.out _
  rw [← e9]; have Z9 := jh D7; have E8 := jh Z4; have OE := jh I8; clear e9 D7 Z4 I8
  go_wp2_with fail
  refine bodyPost_ret (jO rfl _ w9 UB _ _ _ _ rfl Z9.out Tryz.underlying39 rfl hs9 (.int .i64 1) rfl) rfl ⟨by rw [HN.out.1, HN.out.2.1, HN.out.2.2, OE.out]; rw [JI]; rfl, E8.out⟩
 dsimp only
 go_step
 refine jv (v := .bool false) (by kernel_rfl) (by kernel_rfl) ?_
 iterate 2
  simp only [Act.put, pa, pb, pc]; refine ji (v := .bool false) rfl (by kernel_rfl) ?_
 simp only [Act.put, pa, pb, pc]; refine jv (by kernel_rfl) (jg (qx HS.out)) ?_; simp only [Act.put, pa, pb, pc]; refine jv (v := .agg #[.int .u64 0, .int .u64 0, .int .u64 0, .int .u64 0]) (by kernel_rfl) (by kernel_rfl) ?_; simp only [Act.put, pa, pb, pc]; refine jv (v := .bool z1) (by kernel_rfl) (zn sH rfl rfl rfl (HZ1.out _)) ?_; simp only [Act.put, pa, pb, pc]
 cases z1
 rotate_left
 ·skip
  have HN := jh (RF.out (by trivial))
  go_upto_region 2 with fail
  refine wp_region_lit ?_; refine ji (v := .agg #[.int .u64 0, .int .u64 0, .int .u64 0, .int .u64 0, .int .u64 0, .int .u64 0, .int .u64 0, .int .u64 0]) rfl (by kernel_rfl) ?_; simp only [Act.put, pa, pb, pc]; refine jy rfl _ _ _ rfl UB _ _ _ HU.out rfl rfl (by rw [qm]; rfl) rfl (by simp [Value.oneCell']) ?_; simp only [Act.put, pa, pb, pc]; obtain ⟨T9, I8⟩ : ∃ T9 : Array Value, T9 = #[.int .u64 0, .int .u64 0, .int .u64 0, .int .u64 0, .int .u64 0, .int .u64 0, .int .u64 0, .int .u64 0] := ⟨_, rfl⟩; have hs9 : (Tryz.prog.info? 39).map (·.size) = some T9.size := by rw [qm, I8]; rfl
  obtain ⟨w9, e9⟩ := je (w3.setRow UB jB); have D7 : w9.heap[UB]? = some (.cells T9 39 (0, 0)) := by rw [e9, I8]; exact setRow_heap _ _ _ _ _ _ HU.out
  have Z4 : Below w.heap.size w w9 := by rw [e9]; exact below_setRow HB.out BD.out _
  rw [← e9]; have Z9 := jh D7; have E8 := jh Z4; have OE := jh I8; clear e9 D7 Z4 I8
  go_wp2_with fail
  refine bodyPost_ret (jO rfl _ w9 UB _ _ _ _ rfl Z9.out Tryz.underlying39 rfl hs9 (.int .i64 1) rfl) rfl ⟨by rw [HN.out.1, HN.out.2.1, HN.out.2.2, OE.out]; rw [JI]; rfl, E8.out⟩
 iterate 2
  refine ji (v := .bool false) rfl (by kernel_rfl) ?_; simp only [Act.put, pa, pb, pc]
 refine jv (by kernel_rfl) (jg (qx HD.out)) ?_; simp only [Act.put, pa, pb, pc]; refine jv (v := .agg #[.int .u64 0, .int .u64 0, .int .u64 0, .int .u64 0]) (by kernel_rfl) (by kernel_rfl) ?_; simp only [Act.put, pa, pb, pc]; refine jv (v := .bool z2) (by kernel_rfl) (zn sH rfl rfl rfl (HZ2.out _)) ?_; simp only [Act.put, pa, pb, pc]
 cases z2
 rotate_left
 ·skip
  have HN := jh (RF.out (by trivial))
  go_upto_region 2 with fail
  refine wp_region_lit ?_; refine ji (v := .agg #[.int .u64 0, .int .u64 0, .int .u64 0, .int .u64 0, .int .u64 0, .int .u64 0, .int .u64 0, .int .u64 0]) rfl (by kernel_rfl) ?_; simp only [Act.put, pa, pb, pc]; refine jy rfl _ _ _ rfl UB _ _ _ HU.out rfl rfl (by rw [qm]; rfl) rfl (by simp [Value.oneCell']) ?_; simp only [Act.put, pa, pb, pc]; obtain ⟨T9, I8⟩ : ∃ T9 : Array Value, T9 = #[.int .u64 0, .int .u64 0, .int .u64 0, .int .u64 0, .int .u64 0, .int .u64 0, .int .u64 0, .int .u64 0] := ⟨_, rfl⟩; have hs9 : (Tryz.prog.info? 39).map (·.size) = some T9.size := by rw [qm, I8]; rfl
  obtain ⟨w9, e9⟩ := je (w3.setRow UB jB); have D7 : w9.heap[UB]? = some (.cells T9 39 (0, 0)) := by rw [e9, I8]; exact setRow_heap _ _ _ _ _ _ HU.out
  have Z4 : Below w.heap.size w w9 := by rw [e9]; exact below_setRow HB.out BD.out _
  rw [← e9]; have Z9 := jh D7; have E8 := jh Z4; have OE := jh I8; clear e9 D7 Z4 I8
  go_wp2_with fail
  refine bodyPost_ret (jO rfl _ w9 UB _ _ _ _ rfl Z9.out Tryz.underlying39 rfl hs9 (.int .i64 1) rfl) rfl ⟨by rw [HN.out.1, HN.out.2.1, HN.out.2.2, OE.out]; rw [JI]; rfl, E8.out⟩
 have HN := jh (HOK.out (by trivial))
 go_upto_region 3 with fail
 refine wp_region_lit ?_; refine ji rfl (jg (qR HG.out)) ?_; simp only [Act.put, pa, pb, pc]; refine ji (v := .pointer (some ⟨GB, 8, none⟩)) rfl (by kernel_rfl) ?_; simp only [Act.put, pa, pb, pc]; refine ji rfl (jg (qX HG.out.2.2.1)) ?_; simp only [Act.put, pa, pb, pc]; refine ji rfl (jg (qx HS.out)) ?_; simp only [Act.put, pa, pb, pc]
 go_wp2_with fail
 refine ((CK.out (by trivial)) _).mono ?_; rintro _ w4 ⟨rfl, hb⟩; have HG := jh (HG.out.later hb); have HS := jn hb HS; have HH := jb hb HH; have HD := jn hb HD; have HU := jb hb HU; have HB := jw HB hb; clear hb
 go_upto_region 4 with fail
 obtain ⟨w5, e9⟩ := je (w4.alloc (.cells (jD key) 24)); obtain ⟨KB, h9⟩ := je (w4.heap.size); have hb := jc e9; have HKB := jh (show U0 w5 KB key by rw [e9, h9]; exact U0.new _ _ _ _ rfl); have NE := jh (show KB < w5.heap.size by rw [e9, h9]; simp); have WKB := jh (show w4.heap.size = KB from h9.symm); rw [← e9, ← h9]; clear e9 h9; have HG := jh (HG.out.later hb); have HS := jn hb HS; have HH := jb hb HH; have HD := jn hb HD; have HU := jb hb HU; have HB := jw HB hb; clear hb
 go_upto_region 4 with fail
 refine wp_region_lit ?_; refine ji rfl (jg (qR HG.out)) ?_; simp only [Act.put, pa, pb, pc]; refine ji (v := .pointer (some ⟨GB, 8, none⟩)) rfl (by kernel_rfl) ?_; simp only [Act.put, pa, pb, pc]; refine ji rfl (jg (qX HG.out.2.2.1)) ?_; simp only [Act.put, pa, pb, pc]; refine ji rfl (jg (qx HD.out)) ?_; simp only [Act.put, pa, pb, pc]
 go_wp2_with fail
 refine ((CR.out (by trivial)) _).mono ?_; rintro _ w6 ⟨rfl, hb⟩; have HG := jh (HG.out.later hb); have HS := jn hb HS; have HH := jb hb HH; have HD := jn hb HD; have HU := jb hb HU; have HB := jw HB hb; have HKB := jn hb HKB; clear hb
 go_upto_region 5 with fail
 obtain ⟨w7, e9⟩ := je (w6.alloc (.cells (jD r) 24)); obtain ⟨RB, h9⟩ := je (w6.heap.size); have hb := jc e9; have SC := jh (show U0 w7 RB r by rw [e9, h9]; exact U0.new _ _ _ _ rfl); have UQ := jh (show RB < w7.heap.size by rw [e9, h9]; simp); have WRB := jh (show w6.heap.size = RB from h9.symm); rw [← e9, ← h9]; clear e9 h9; have HG := jh (HG.out.later hb); have HS := jn hb HS; have HH := jb hb HH; have HD := jn hb HD; have HU := jb hb HU; have HB := jw HB hb; have HKB := jn hb HKB; clear hb
 go_upto_region 5 with fail
 refine wp_region_lit ?_; refine ji rfl (jg (qR HG.out)) ?_; simp only [Act.put, pa, pb, pc]; refine ji rfl (jg (qx HKB.out)) ?_; simp only [Act.put, pa, pb, pc]; refine ji rfl (jg (qx SC.out)) ?_; simp only [Act.put, pa, pb, pc]; refine wpList_load_row rfl _ _ rfl E8 rfl _ _ _ _ HH.out Tryz.underlying32 rfl SG ?_; simp only [Act.put, pa, pb, pc]
 go_wp2_with fail
 refine ((CC.out (by trivial)) _).mono ?_; rintro _ w8 ⟨rfl, hb⟩; have HG := jh (HG.out.later hb); have HS := jn hb HS; have HH := jb hb HH; have HD := jn hb HD; have HU := jb hb HU; have HB := jw HB hb; have HKB := jn hb HKB; have SC := jn hb SC; clear hb
 go_upto_region 6 with fail
 obtain ⟨w9c, e9⟩ := je (w8.alloc (.cells (jD c) 24)); obtain ⟨CB, h9⟩ := je (w8.heap.size); have hb := jc e9; have HCB := jh (show U0 w9c CB c by rw [e9, h9]; exact U0.new _ _ _ _ rfl); have LCB := jh (show CB < w9c.heap.size by rw [e9, h9]; simp); have WCB := jh (show w8.heap.size = CB from h9.symm); rw [← e9, ← h9]; clear e9 h9; have HG := jh (HG.out.later hb); have HS := jn hb HS; have HH := jb hb HH; have HD := jn hb HD; have HU := jb hb HU; have HB := jw HB hb; have HKB := jn hb HKB; have SC := jn hb SC; clear hb
 go_upto_region 6 with fail
 refine wp_region_lit ?_; refine ji rfl (jg (qR HG.out)) ?_; simp only [Act.put, pa, pb, pc]; refine ji rfl (jg (qx HS.out)) ?_; simp only [Act.put, pa, pb, pc]; refine ji rfl (jg (qx HCB.out)) ?_; simp only [Act.put, pa, pb, pc]
 go_wp2_with fail
 refine ((CM.out (by trivial)) _).mono ?_; rintro _ w10 ⟨rfl, hb⟩; have HG := jh (HG.out.later hb); have HS := jn hb HS; have HH := jb hb HH; have HD := jn hb HD; have HU := jb hb HU; have HB := jw HB hb; have HKB := jn hb HKB; have SC := jn hb SC; have HCB := jn hb HCB; clear hb
 go_upto_region 7 with fail
 obtain ⟨w11, e9⟩ := je (w10.alloc (.cells (jD p) 24)); obtain ⟨PB, h9⟩ := je (w10.heap.size); have hb := jc e9; have HPB := jh (show U0 w11 PB p by rw [e9, h9]; exact U0.new _ _ _ _ rfl); have IG := jh (show PB < w11.heap.size by rw [e9, h9]; simp); have WPB := jh (show w10.heap.size = PB from h9.symm); rw [← e9, ← h9]; clear e9 h9; have HG := jh (HG.out.later hb); have HS := jn hb HS; have HH := jb hb HH; have HD := jn hb HD; have HU := jb hb HU; have HB := jw HB hb; have HKB := jn hb HKB; have SC := jn hb SC; have HCB := jn hb HCB; clear hb
 go_upto_region 7 with fail
 refine wp_region_lit ?_; refine ji rfl (jg (qR HG.out)) ?_; simp only [Act.put, pa, pb, pc]; refine ji rfl (jg (qx HD.out)) ?_; simp only [Act.put, pa, pb, pc]; refine ji rfl (jg (qx HPB.out)) ?_; simp only [Act.put, pa, pb, pc]
 go_wp2_with fail
 refine ((CA.out (by trivial)) _).mono ?_; rintro _ w12 ⟨rfl, hb⟩; have HG := jh (HG.out.later hb); have HS := jn hb HS; have HH := jb hb HH; have HD := jn hb HD; have HU := jb hb HU; have HB := jw HB hb; have HKB := jn hb HKB; have SC := jn hb SC; have HCB := jn hb HCB; have HPB := jn hb HPB; clear hb
 go_upto_region 8 with fail
 obtain ⟨w13, e9⟩ := je (w12.alloc (.cells (jD s) 24)); obtain ⟨TB, h9⟩ := je (w12.heap.size); have hb := jc e9; have HTB := jh (show U0 w13 TB s by rw [e9, h9]; exact U0.new _ _ _ _ rfl); have LTB := jh (show TB < w13.heap.size by rw [e9, h9]; simp); have WTB := jh (show w12.heap.size = TB from h9.symm); rw [← e9, ← h9]; clear e9 h9; have HG := jh (HG.out.later hb); have HS := jn hb HS; have HH := jb hb HH; have HD := jn hb HD; have HU := jb hb HU; have HB := jw HB hb; have HKB := jn hb HKB; have SC := jn hb SC; have HCB := jn hb HCB; have HPB := jn hb HPB; clear hb; refine wp_region_lit ?_; refine ji rfl (jg (qx HCB.out)) ?_; simp only [Act.put, pa, pb, pc]; refine ji rfl (jg (qx HTB.out)) ?_; simp only [Act.put, pa, pb, pc]; refine ji (v := .agg #[.int .u64 (jf jd c 0), .int .u64 (jf jd c 1), .int .u64 (jf jd c 2), .int .u64 (jf jd c 3), .int .u64 (jf jd s 0), .int .u64 (jf jd s 1), .int .u64 (jf jd s 2), .int .u64 (jf jd s 3)]) rfl (by kernel_rfl) ?_; simp only [Act.put, pa, pb, pc]; refine jy rfl _ _ _ rfl UB _ _ _ HU.out rfl rfl (by rw [qm]; rfl) rfl (by simp [Value.oneCell']) ?_; simp only [Act.put, pa, pb, pc]; obtain ⟨T9, I8⟩ : ∃ T9 : Array Value, T9 = #[.int .u64 (jf jd c 0), .int .u64 (jf jd c 1), .int .u64 (jf jd c 2), .int .u64 (jf jd c 3), .int .u64 (jf jd s 0), .int .u64 (jf jd s 1), .int .u64 (jf jd s 2), .int .u64 (jf jd s 3)] := ⟨_, rfl⟩; have hs9 : (Tryz.prog.info? 39).map (·.size) = some T9.size := by rw [qm, I8]; rfl
 obtain ⟨w9, e9⟩ := je (w13.setRow UB (jE c s)); have D7 : w9.heap[UB]? = some (.cells T9 39 (0, 0)) := by rw [e9, I8]; exact setRow_heap _ _ _ _ _ _ HU.out
 have Z4 : Below w.heap.size w w9 := by rw [e9]; exact below_setRow HB.out BD.out _
 rw [← e9]; have Z9 := jh D7; have E8 := jh Z4; have OE := jh I8; clear e9 D7 Z4 I8
 go_wp2_with fail
 refine bodyPost_ret (jO rfl _ w9 UB _ _ _ _ rfl Z9.out Tryz.underlying39 rfl hs9 (.int .i64 0) rfl) rfl ⟨by rw [HN.out.1, HN.out.2.1, HN.out.2.2, OE.out]; rfl, E8.out⟩
theorem GZ {gp gq gg secret : Nat} {h : List Nat} (h0 : 0 < gq) : BM gp gq gg secret (zm gq secret h) ↔ bF gp gq gg secret := by
 have hdq : ZA gq secret h < gq := by unfold ZA zB; exact Nat.mod_lt _ h0
 have hd0 : zm gq secret h ≠ 0 := by unfold zm; split <;> omega
 have hdl : 1 < gq → zm gq secret h < gq := by intro h1; unfold zm; split <;> omega
 unfold BM bF; exact ⟨fun ⟨a, b, _, c, d, _⟩ => ⟨a, b, c, d⟩, fun ⟨a, b, c, d⟩ => ⟨a, b, hd0, c, d, hdl c⟩⟩
theorem xG {gp gq gg gh secret : Nat} {fa se : Int} {nodes : Value} {h : List Nat} (iG : gp < jo) (hgg : gg < jo) (hq : gq < jo) (hsM : secret < jo) (hl : h.length = 32) (Z4 : jM h) (w : World) :
  Calls Tryz.prog 10 #[qU gp gq gg gh fa se nodes, .agg (jp .u8 h).toArray, jj secret] w fun e w' => e = .returned (.tuple #[Ql (WR gp gq gg secret h) (VR gp gq gg secret h), .int .i64 (wR gp gq gg secret : Nat)]) ∧ Below w.heap.size w w' := by
 obtain ⟨c, hc⟩ := je (WR gp gq gg secret h); obtain ⟨s, hs⟩ := je (VR gp gq gg secret h); obtain ⟨E, hE⟩ := je (wR gp gq gg secret); rw [← hc, ← hs, ← hE]
 obtain ⟨d0, e1, d, nN, hCN, hR⟩ : ∃ d0 e1 d : Nat, d0 < jo ∧ (∀ (W : World) (B : Nat) (vs : List Value) (hP : Parts W B 0 vs [zH secret, h]), Calls Tryz.prog 33 #[jj gq, .string ⟨#[100, 114, 97, 119]⟩, .slice (some ⟨B, 0, none⟩) 2 2] W fun e w' => e = .returned (.tuple #[jj d0, .int .i64 e1]) ∧ Below W.heap.size W w') ∧ ((e1 = 1 ∧ c = 0 ∧ s = 0 ∧ E = 1) ∨ (e1 = 0 ∧ (d0 = 0 → d = 1) ∧ (d0 ≠ 0 → d = d0) ∧ ∀ W, Calls Tryz.prog 35 #[qd gp gq gg gh, jj secret, .agg (jp .u8 h).toArray, jj d] W fun e w' => e = .returned (.tuple #[Ql c s, .int .i64 E]) ∧ Below W.heap.size W w')) := by
  rcases Nat.eq_zero_or_pos gq with h0 | h0
  ·have hn : ¬ bF gp gq gg secret := fun hc => by have := hc.2.2.1; omega
   refine ⟨0, 1, 0, by decide, fun W B vs hP => fO h0 W, .inl ⟨rfl, ?_, ?_, ?_⟩⟩
   ·rw [hc]; unfold WR; rw [if_neg hn]
   ·rw [hs]; unfold VR; rw [if_neg hn]
   ·rw [hE]; unfold wR; rw [if_neg hn]
  ·have hdq : ZA gq secret h < gq := by unfold ZA zB; exact Nat.mod_lt _ h0
   have hdD : zm gq secret h < jo := by
    unfold zm
    split
    ·decide
    ·exact Nat.lt_trans hdq hq
   refine ⟨ZA gq secret h, 0, zm gq secret h, Nat.lt_trans hdq hq, fun W B vs hP => ?_, .inr ⟨rfl, fun hz => by unfold zm; rw [if_pos hz], fun hz => by unfold zm; rw [if_neg hz], fun W => ?_⟩⟩
   ·have h9 := yG (s := ⟨#[100, 114, 97, 119]⟩) (m := gq) (cap := 2) (n := 2) W hP rfl h0 hq (by
     intro l TD; simp only [List.mem_cons, List.not_mem_nil, or_false] at TD
     rcases TD with rfl | rfl
     ·exact zG _
     ·exact Z4) (by decide) (by unfold maxLen; decide) (by unfold jU; simp [qn, jW, qo, qI, hl, ByteArray.size])
    exact h9
   ·have h9 := lY (gh := gh) iG hgg hq hsM hdD hl Z4 W; have e9 : s3C gp gq gg secret (zm gq secret h) h = c := by rw [hc]; unfold s3C WR; by_cases hh : bF gp gq gg secret <;> simp [hh, GZ h0]
    have e8 : s3S gp gq gg secret (zm gq secret h) h = s := by rw [hs]; unfold s3S VR; by_cases hh : bF gp gq gg secret <;> simp [hh, GZ h0]
    have e7 : s3E gp gq gg secret (zm gq secret h) = E := by rw [hE]; unfold s3E wR; by_cases hh : bF gp gq gg secret <;> simp [hh, GZ h0]
    rw [e9, e8, e7] at h9; exact h9
 have CN := jh (fun (W : World) (B : Nat) (vs : List Value) (hP : Parts W B 0 vs [zH secret, h]) => by have h9 := hCN W B vs hP; unfold jj words at h9; exact h9); obtain ⟨z, hz⟩ := je (decide (d0 = 0)); have HZ := jh (show ∀ W : World, (binOp .eql 24 (.agg #[.int .u64 (jf jd d0 0), .int .u64 (jf jd d0 1), .int .u64 (jf jd d0 2), .int .u64 (jf jd d0 3)]) (.agg #[.int .u64 0, .int .u64 0, .int .u64 0, .int .u64 0])).run Tryz.prog W = .ok (.bool z) W from fun W => by have h9 := zp d0 0 nN (by decide) W; rewrite [← hz] at h9; simp only [jI] at h9; exact h9)
 have HR := jh (show (e1 = 1 ∧ c = 0 ∧ s = 0 ∧ E = 1) ∨ (e1 = 0 ∧ (z = true → d = 1) ∧ (z = false → d = d0) ∧ ∀ W, Calls Tryz.prog 35 #[.agg #[.int .u64 (jf jd gp 0), .int .u64 (jf jd gp 1), .int .u64 (jf jd gp 2), .int .u64 (jf jd gp 3), .int .u64 (jf jd gq 0), .int .u64 (jf jd gq 1), .int .u64 (jf jd gq 2), .int .u64 (jf jd gq 3), .int .u64 (jf jd gg 0), .int .u64 (jf jd gg 1), .int .u64 (jf jd gg 2), .int .u64 (jf jd gg 3), .int .u64 (jf jd gh 0), .int .u64 (jf jd gh 1), .int .u64 (jf jd gh 2), .int .u64 (jf jd gh 3)], .agg #[.int .u64 (jf jd secret 0), .int .u64 (jf jd secret 1), .int .u64 (jf jd secret 2), .int .u64 (jf jd secret 3)], .agg (jp .u8 h).toArray, .agg #[.int .u64 (jf jd d 0), .int .u64 (jf jd d 1), .int .u64 (jf jd d 2), .int .u64 (jf jd d 3)]] W fun e w' => e = .returned (.tuple #[.agg #[.int .u64 (jf jd c 0), .int .u64 (jf jd c 1), .int .u64 (jf jd c 2), .int .u64 (jf jd c 3), .int .u64 (jf jd s 0), .int .u64 (jf jd s 1), .int .u64 (jf jd s 2), .int .u64 (jf jd s 3)], .int .i64 E]) ∧ Below W.heap.size W w') by
  rcases hR with h1 | ⟨h1, h2, h3, h4⟩
  ·exact .inl h1
  ·exact .inr ⟨h1, fun hq => h2 (by rw [hz] at hq; exact of_decide_eq_true hq), fun hq => h3 (by rw [hz] at hq; exact of_decide_eq_false hq), h4⟩)
 have HL := jh hl; obtain ⟨T, hT⟩ := je ((jp .u8 h).toArray); have HT := jh hT; have SG : (Tryz.prog.info? 32).map (·.size) = some T.size := by rw [zt, hT]; simp [jt, hl]
 rw [← hT] at HR ⊢; clear hc hs hE nN hCN hR hz iG hgg hq hsM hl Z4 hT; unfold qU jj words
 go_enter Tryz.func10, Tryz.ntmps10
 go_upto_region 1 with fail
 obtain ⟨A8, e0⟩ := je (w.alloc (.cells #[.int .u64 (jf jd gp 0), .int .u64 (jf jd gp 1), .int .u64 (jf jd gp 2), .int .u64 (jf jd gp 3), .int .u64 (jf jd gq 0), .int .u64 (jf jd gq 1), .int .u64 (jf jd gq 2), .int .u64 (jf jd gq 3), .int .u64 (jf jd gg 0), .int .u64 (jf jd gg 1), .int .u64 (jf jd gg 2), .int .u64 (jf jd gg 3), .int .u64 (jf jd gh 0), .int .u64 (jf jd gh 1), .int .u64 (jf jd gh 2), .int .u64 (jf jd gh 3), .int .i64 fa, .int .i64 se, nodes] 29)); obtain ⟨F8, e1⟩ := je (A8.alloc (.cells T 32)); obtain ⟨J9, e2⟩ := je (F8.alloc (.cells (jD secret) 24)); obtain ⟨S9, e3⟩ := je (J9.alloc (.cells jB 39)); have s0 : A8.heap.size = w.heap.size + 1 := by rw [e0]; simp
 have b0 := jc e0; have s1 : F8.heap.size = A8.heap.size + 1 := by rw [e1]; simp
 have b1 := jc e1; have s2 : J9.heap.size = F8.heap.size + 1 := by rw [e2]; simp
 have b2 := jc e2; have s3 : S9.heap.size = J9.heap.size + 1 := by rw [e3]; simp
 have b3 := jc e3; have f0 : UA A8 w.heap.size gp gq gg gh fa se nodes := by rw [e0]; exact UA.new _ _ _ _ _ _ _ _ _
 have f1 : F8.heap[w.heap.size + 1]? = some (.cells T 32 (0, 0)) := by rw [← s0, e1]; exact heap_alloc_new _ _
 have f2 : U0 J9 (w.heap.size + 1 + 1) secret := by rw [← s0, ← s1, e2]; exact U0.new _ _ _ _ rfl
 have f3 : S9.heap[w.heap.size + 1 + 1 + 1]? = some (.cells #[.int .u64 0, .int .u64 0, .int .u64 0, .int .u64 0, .int .u64 0, .int .u64 0, .int .u64 0, .int .u64 0] 39 (0, 0)) := by rw [← s0, ← s1, ← s2, e3]; exact heap_alloc_new _ _
 rw [← e0, ← e1, ← e2, ← e3]; have HS := jh (((f0.later b1).later b2).later b3); have HH := jh ((b3.block _ (by omega)).trans ((b2.block _ (Array.getElem?_eq_some_iff.1 f1).1).trans f1)); have HX := jh (U0.later b3 f2); have HU := jh f3; have HB := jh (jk (jk (jk b0 b1) b2) b3); clear e0 e2 e3 s0 s1 s2 s3 b0 b1 b2 b3 f0 f1 f2 f3; obtain ⟨SB, L9⟩ := je (w.heap.size); rw [← L9] at HS HH HX HU ⊢; have BD := jh (show w.heap.size ≤ SB + 1 + 1 + 1 by omega); obtain ⟨E8, fE⟩ := je (SB + 1); rw [← fE] at HH HX HU BD ⊢; obtain ⟨XB, hXB⟩ := je (E8 + 1); rw [← hXB] at HX HU BD ⊢; obtain ⟨UB, mV⟩ := je (XB + 1); rw [← mV] at HU BD ⊢; clear L9 fE hXB mV; refine jY (.take 0 (.take 1 (.take 2 (.take 3 (.take 5 (.fork 4 (.fork 6 (.fork 7 (.take 8 (.take 9 (.take 10 (.step 11 (.step 12 (.take 13 .done)))))) 11 (.step 7 (.take 8 (.take 9 (.take 10 (.step 12 (.take 13 .done))))))) 11 (.step 6 (.step 7 (.take 8 (.take 9 (.take 10 (.step 12 (.take 13 .done)))))))) 11 (.step 4 (.step 6 (.step 7 (.take 8 (.take 9 (.take 10 (.step 12 (.take 13 .done)))))))))))))) (fun w8 => UA w8 SB gp gq gg gh fa se nodes ∧ U0 w8 XB secret) (by kernel_rfl) (by kernel_rfl) (fun _ _ _ _ _ h => h) (⟨HS.out.later ((Below.refl _ _).drew), U0.later ((Below.refl _ _).drew) HX.out⟩) (fun hHeld => ?_); obtain ⟨x1, e1⟩ := je (S9.drew); rw [← e1]; have hb : Below S9.heap.size S9 x1 := by rw [e1]; exact (Below.refl _ _).drew
 have HS := jh (HS.out.later hb); have HH := jb hb HH; have HX := jn hb HX; have HU := jb hb HU; have HB := jw HB hb; clear hb e1
 iterate 2
  refine WT.tk rfl (k := ?_)
 refine WT.take rfl (Or.inl ⟨by rfl, fun w8 hSw => jg (qX hSw.1.grp.2.1)⟩) ?_
 try simp only [Act.put, pa, pb, pc]
 refine WT.take rfl (Or.inl ⟨by rfl, fun w8 hSw => jg (qx hSw.2)⟩) ?_
 try simp only [Act.put, pa, pb, pc]
 refine WT.tk rfl (k := ?_)
 focus
  refine WT.fork rfl rfl (fun K hK => ?_) (fun K hK => ?_)
 rotate_left
 focus
  go_simp
  obtain ⟨x2, e9⟩ := je (x1.alloc (.cells jA 24)); obtain ⟨VV, h9⟩ := je (x1.heap.size); have hb := jc e9; have HV := jh (show U0 x2 VV 0 by rw [e9, h9]; exact jP _ _); have Y8 := jh (show Y0 x2 VV 4 by rw [e9, h9]; exact Y0.new _ _ _ _); have IB := jh (show VV < x2.heap.size by rw [e9, h9]; simp); have WVV := jh (show x1.heap.size = VV from h9.symm); have NV := jh (show SB ≠ VV ∧ XB ≠ VV ∧ E8 ≠ VV ∧ UB ≠ VV by have a1 := HS.out.lt; have a2 := U0.lt HX.out; have a3 := (Array.getElem?_eq_some_iff.1 HH.out).1; have a5 := (Array.getElem?_eq_some_iff.1 HU.out).1; omega); have BV := jh (show w.heap.size ≤ VV by rw [h9]; exact HB.out.size); rw [← e9, ← h9]; clear e9 h9; have HS := jh (HS.out.later hb); have HH := jb hb HH; have HX := jn hb HX; have HU := jb hb HU; have HB := jw HB hb; clear hb; refine hK.out _ _ (⟨HS.out, HX.out⟩) (fun hHeld => ?_); clear hK K
  try simp only [Act.put, pa, pb, pc]
 rotate_right
 focus
  go_simp
  refine (JD secret _).mono ?_; rintro _ x2 ⟨a4, c4, rfl, hk9, hb⟩; have HS := jh (HS.out.later hb); have HH := jb hb HH; have HX := jn hb HX; have HU := jb hb HU; have HB := jw HB hb; clear hb; have K4 := jh hk9; clear hk9; refine hK.out _ _ (⟨HS.out, HX.out⟩) (fun hHeld => ?_); clear hK K
  try simp only [Act.put, pa, pb, pc]
 focus
  refine WT.fork rfl rfl (fun K hK => ?_) (fun K hK => ?_)
 rotate_left
 focus
  go_simp
  obtain ⟨x3, e9⟩ := je (x2.alloc (.cells jA 24)); obtain ⟨VV, h9⟩ := je (x2.heap.size); have hb := jc e9; have HV := jh (show U0 x3 VV 0 by rw [e9, h9]; exact jP _ _); have Y8 := jh (show Y0 x3 VV 4 by rw [e9, h9]; exact Y0.new _ _ _ _); have IB := jh (show VV < x3.heap.size by rw [e9, h9]; simp); have WVV := jh (show x2.heap.size = VV from h9.symm); have NV := jh (show SB ≠ VV ∧ XB ≠ VV ∧ E8 ≠ VV ∧ UB ≠ VV by have a1 := HS.out.lt; have a2 := U0.lt HX.out; have a3 := (Array.getElem?_eq_some_iff.1 HH.out).1; have a5 := (Array.getElem?_eq_some_iff.1 HU.out).1; omega); have BV := jh (show w.heap.size ≤ VV by rw [h9]; exact HB.out.size); rw [← e9, ← h9]; clear e9 h9; have HS := jh (HS.out.later hb); have HH := jb hb HH; have HX := jn hb HX; have HU := jb hb HU; have HB := jw HB hb; have K4 := jh (K4.out.later hb); clear hb; refine hK.out _ _ (⟨HS.out, HX.out⟩) (fun hHeld => ?_); clear hK K
  try simp only [Act.put, pa, pb, pc]
 rotate_right
 focus
  go_simp
  obtain ⟨x3, e9⟩ := je (x2.alloc (.cells #[.slice (some a4) 32 c4, .slice (some ⟨E8, 0, none⟩) 32 32] 30)); obtain ⟨PB, h9⟩ := je (x2.heap.size); have hb := jc e9; have P0 := jh (show x3.cell? ⟨PB, 0, none⟩ = some (.slice (some a4) 32 c4) by rw [e9, h9]; rw [cell_of_row _ _ _ _ _ _ (heap_alloc_new _ _)]; rfl); have P1 := jh (show x3.cell? ⟨PB, 1, none⟩ = some (.slice (some ⟨E8, 0, none⟩) 32 32) by rw [e9, h9]; rw [cell_of_row _ _ _ _ _ _ (heap_alloc_new _ _)]; rfl); have IG := jh (show PB < x3.heap.size by rw [e9, h9]; simp); have WPB := jh (show x2.heap.size = PB from h9.symm); rw [← e9, ← h9]; clear e9 h9; have HS := jh (HS.out.later hb); have HH := jb hb HH; have HX := jn hb HX; have HU := jb hb HU; have HB := jw HB hb; have K4 := jh (K4.out.later hb); clear hb; refine hK.out _ _ (⟨HS.out, HX.out⟩) (fun hHeld => ?_); clear hK K
  try simp only [Act.put, pa, pb, pc]
 focus
  refine WT.fork rfl rfl (fun K hK => ?_) (fun K hK => ?_)
 rotate_left
 focus
  go_simp
  obtain ⟨x4, e9⟩ := je (x3.alloc (.cells jA 24)); obtain ⟨VV, h9⟩ := je (x3.heap.size); have hb := jc e9; have HV := jh (show U0 x4 VV 0 by rw [e9, h9]; exact jP _ _); have Y8 := jh (show Y0 x4 VV 4 by rw [e9, h9]; exact Y0.new _ _ _ _); have IB := jh (show VV < x4.heap.size by rw [e9, h9]; simp); have WVV := jh (show x3.heap.size = VV from h9.symm); have NV := jh (show SB ≠ VV ∧ XB ≠ VV ∧ E8 ≠ VV ∧ UB ≠ VV by have a1 := HS.out.lt; have a2 := U0.lt HX.out; have a3 := (Array.getElem?_eq_some_iff.1 HH.out).1; have a5 := (Array.getElem?_eq_some_iff.1 HU.out).1; omega); have BV := jh (show w.heap.size ≤ VV by rw [h9]; exact HB.out.size); rw [← e9, ← h9]; clear e9 h9; have HS := jh (HS.out.later hb); have HH := jb hb HH; have HX := jn hb HX; have HU := jb hb HU; have HB := jw HB hb; have K4 := jh (K4.out.later hb); have P0 := jh (jm P0.out hb); have P1 := jh (jm P1.out hb); have IG := jl IG hb.size; clear hb; refine hK.out _ _ (⟨HS.out, HX.out⟩) (fun hHeld => ?_); clear hK K
  try simp only [Act.put, pa, pb, pc]
 rotate_right
 focus
  go_simp
  refine (CN.out _ PB _ (NM P0.out P1.out K4.out (Jh (by rw [← HT.out]; exact HH.out) HL.out))).mono ?_; rintro _ x4 ⟨rfl, hb⟩; have HS := jh (HS.out.later hb); have HH := jb hb HH; have HX := jn hb HX; have HU := jb hb HU; have HB := jw HB hb; have K4 := jh (K4.out.later hb); have P0 := jh (jm P0.out hb); have P1 := jh (jm P1.out hb); have IG := jl IG hb.size; clear hb; refine hK.out _ _ (⟨HS.out, HX.out⟩) (fun hHeld => ?_); clear hK K
  try simp only [Act.put, pa, pb, pc]
 focus
  refine WT.tk rfl (k := ?_); refine WT.tk rfl (k := ?_); refine WT.tk rfl (k := ?_); refine WT.step rfl (fun K hK => ?_)
  go_simp
  obtain ⟨x5, e9⟩ := je (x4.alloc (.cells jA 24)); obtain ⟨VV, h9⟩ := je (x4.heap.size); have hb := jc e9; have HV := jh (show U0 x5 VV 0 by rw [e9, h9]; exact jP _ _); have Y8 := jh (show Y0 x5 VV 4 by rw [e9, h9]; exact Y0.new _ _ _ _); have IB := jh (show VV < x5.heap.size by rw [e9, h9]; simp); have WVV := jh (show x4.heap.size = VV from h9.symm); have NV := jh (show SB ≠ VV ∧ XB ≠ VV ∧ E8 ≠ VV ∧ UB ≠ VV by have a1 := HS.out.lt; have a2 := U0.lt HX.out; have a3 := (Array.getElem?_eq_some_iff.1 HH.out).1; have a5 := (Array.getElem?_eq_some_iff.1 HU.out).1; omega); have BV := jh (show w.heap.size ≤ VV by rw [h9]; exact HB.out.size); rw [← e9, ← h9]; clear e9 h9; have HS := jh (HS.out.later hb); have HH := jb hb HH; have HX := jn hb HX; have HU := jb hb HU; have HB := jw HB hb; have K4 := jh (K4.out.later hb); have P0 := jh (jm P0.out hb); have P1 := jh (jm P1.out hb); have IG := jl IG hb.size; clear hb; refine hK.out _ _ (⟨HS.out, HX.out⟩) (fun hHeld => ?_); clear hK K
  try simp only [Act.put, pa, pb, pc]
 rotate_right
 focus
  refine WT.step rfl (fun K hK => ?_)
  go_simp
  refine (JD secret _).mono ?_; rintro _ x3 ⟨a4, c4, rfl, hk9, hb⟩; have HS := jh (HS.out.later hb); have HH := jb hb HH; have HX := jn hb HX; have HU := jb hb HU; have HB := jw HB hb; have HV := jn hb HV; have Y8 := jh (Y8.out.later hb IB.out); have IB := jl IB hb.size; clear hb; have K4 := jh hk9; clear hk9; refine hK.out _ _ (⟨HS.out, HX.out⟩) (fun hHeld => ?_); clear hK K
  try simp only [Act.put, pa, pb, pc]
 rotate_left
 rotate_right 2
 iterate 2
  focus
   refine WT.step rfl (fun K hK => ?_)
   go_simp
   obtain ⟨x4, e9⟩ := je (x3.alloc (.cells #[.slice (some a4) 32 c4, .slice (some ⟨E8, 0, none⟩) 32 32] 30)); obtain ⟨PB, h9⟩ := je (x3.heap.size); have hb := jc e9; have P0 := jh (show x4.cell? ⟨PB, 0, none⟩ = some (.slice (some a4) 32 c4) by rw [e9, h9]; rw [cell_of_row _ _ _ _ _ _ (heap_alloc_new _ _)]; rfl); have P1 := jh (show x4.cell? ⟨PB, 1, none⟩ = some (.slice (some ⟨E8, 0, none⟩) 32 32) by rw [e9, h9]; rw [cell_of_row _ _ _ _ _ _ (heap_alloc_new _ _)]; rfl); have IG := jh (show PB < x4.heap.size by rw [e9, h9]; simp); have WPB := jh (show x3.heap.size = PB from h9.symm); rw [← e9, ← h9]; clear e9 h9; have HS := jh (HS.out.later hb); have HH := jb hb HH; have HX := jn hb HX; have HU := jb hb HU; have HB := jw HB hb; have HV := jn hb HV; have Y8 := jh (Y8.out.later hb IB.out); have K4 := jh (K4.out.later hb); have IB := jl IB hb.size; clear hb; refine hK.out _ _ (⟨HS.out, HX.out⟩) (fun hHeld => ?_); clear hK K
   try simp only [Act.put, pa, pb, pc]
  rotate_left
 rotate_right 3
 iterate 3
  focus
   refine WT.step rfl (fun K hK => ?_)
   go_simp
   refine (CN.out _ PB _ (NM P0.out P1.out K4.out (Jh (by rw [← HT.out]; exact HH.out) HL.out))).mono ?_; rintro _ x5 ⟨rfl, hb⟩; have HS := jh (HS.out.later hb); have HH := jb hb HH; have HX := jn hb HX; have HU := jb hb HU; have HB := jw HB hb; have HV := jn hb HV; have Y8 := jh (Y8.out.later hb IB.out); have K4 := jh (K4.out.later hb); have P0 := jh (jm P0.out hb); have P1 := jh (jm P1.out hb); have IB := jl IB hb.size; have IG := jl IG hb.size; clear hb; refine hK.out _ _ (⟨HS.out, HX.out⟩) (fun hHeld => ?_); clear hK K
   try simp only [Act.put, pa, pb, pc]
   refine WT.tk rfl (k := ?_); refine WT.tk rfl (k := ?_); refine WT.tk rfl (k := ?_)
  rotate_left
 all_goals (
  refine WT.step rfl (fun K hK => ?_); obtain ⟨c0, c1, c2, c3, f0, f1, f2, f3⟩ := jL HV.out Y8.out
  go_simp
  clear c0 c1 c2 c3 f0 f1 f2 f3; obtain ⟨x6, e9⟩ := je ((((x5.setCell ⟨VV, 0, none⟩ (.int .u64 (jf jd d0 0))).setCell ⟨VV, 1, none⟩ (.int .u64 (jf jd d0 1))).setCell ⟨VV, 2, none⟩ (.int .u64 (jf jd d0 2))).setCell ⟨VV, 3, none⟩ (.int .u64 (jf jd d0 3))); have hgs : x5.grownBy x6 (some VV) := by rw [e9]; exact jx (jx (jx (jx (World.grownBy.refl x5 (some VV)) 0 _) 1 _) 2 _) 3 _
  have Y8 := jh (show Y0 x6 VV 4 by rw [e9]; exact Y0.set4 Y8.out _ _ _ _ _ _ _ _); have HV := jh (show U0 x6 VV d0 by rw [e9]; exact U0.set4 HV.out d0); have IB := jl IB hgs.size; rw [← e9]; clear e9; have HS := jh (HS.out.keep hgs (fun e => NV.out.1 (by injection e))); have HX := jh (JE HX.out hgs (fun e => NV.out.2.1 (by injection e))); have HH := jh (qZ HH.out hgs (fun e => NV.out.2.2.1 (by injection e))); have HU := jh (qZ HU.out hgs (fun e => NV.out.2.2.2 (by injection e))); have HB := jh (HB.out.grown hgs HB.out.size (fun k hk => by have e7 : VV = k := (by injection hk); rw [← e7]; exact BV.out)); clear hgs; refine hK.out _ _ (⟨HS.out, HX.out⟩) (fun hHeld => ?_); clear hK K
  try simp only [Act.put, pa, pb, pc]
  refine WT.tk rfl (k := ?_); refine WT.done ?_; clear hHeld
  rcases HR.out with ⟨rfl, h3⟩ | ⟨rfl, h3, h4, h5⟩
  ·have H3 := jh h3; clear h3
   go_upto_region 3 with fail
   refine wp_region_lit ?_; refine ji (v := .agg #[.int .u64 0, .int .u64 0, .int .u64 0, .int .u64 0, .int .u64 0, .int .u64 0, .int .u64 0, .int .u64 0]) rfl (by kernel_rfl) ?_; simp only [Act.put, pa, pb, pc]; refine ji (v := .int .i64 1) rfl (by kernel_rfl) ?_; simp only [Act.put, pa, pb, pc]; refine jy rfl _ _ _ rfl UB _ _ _ HU.out rfl rfl (by rw [qm]; rfl) rfl (by simp [Value.oneCell']) ?_; simp only [Act.put, pa, pb, pc]; obtain ⟨T9, I8⟩ : ∃ T9 : Array Value, T9 = #[.int .u64 0, .int .u64 0, .int .u64 0, .int .u64 0, .int .u64 0, .int .u64 0, .int .u64 0, .int .u64 0] := ⟨_, rfl⟩; have hs9 : (Tryz.prog.info? 39).map (·.size) = some T9.size := by rw [qm, I8]; rfl
   obtain ⟨w9, e9⟩ := je (x6.setRow UB jB); have D7 : w9.heap[UB]? = some (.cells T9 39 (0, 0)) := by rw [e9, I8]; exact setRow_heap _ _ _ _ _ _ HU.out
   have Z4 : Below w.heap.size w w9 := by rw [e9]; exact below_setRow HB.out BD.out _
   rw [← e9]; have Z9 := jh D7; have IJ := jh Z4; have OE := jh I8; clear e9 D7 Z4 I8
   go_wp2_with fail
   refine bodyPost_ret (jO rfl _ w9 UB _ _ _ _ rfl Z9.out Tryz.underlying39 rfl hs9 (.int .i64 1) rfl) rfl ⟨by rw [H3.out.1, H3.out.2.1, H3.out.2.2, OE.out]; rw [JI]; rfl, IJ.out⟩
  ·have HD1 := jh h3; have HD2 := jh h4; have CS := jh h5; clear h3 h4 h5
   go_upto_region 4 with fail
   refine wp_region_lit ?_; refine ji rfl (jg (qx HV.out)) ?_; simp only [Act.put, pa, pb, pc]; refine ji (v := .agg #[.int .u64 0, .int .u64 0, .int .u64 0, .int .u64 0]) rfl (by kernel_rfl) ?_; simp only [Act.put, pa, pb, pc]; refine ji (v := .bool z) rfl (zn sH rfl rfl rfl (HZ.out _)) ?_; simp only [Act.put, pa, pb, pc]
   cases z
   ·have GV := jh (HD2.out (by trivial))
    go_upto_region 6 with fail
    have HV := jh (show U0 x6 VV d by rw [GV.out]; exact HV.out); refine wp_region_lit ?_; refine ji (v := .pointer (some ⟨SB, 0, none⟩)) rfl (by kernel_rfl) ?_; simp only [Act.put, pa, pb, pc]; refine ji rfl (jg (qR HS.out.grp)) ?_; simp only [Act.put, pa, pb, pc]; refine ji rfl (jg (qx HX.out)) ?_; simp only [Act.put, pa, pb, pc]; refine wpList_load_row rfl _ _ rfl E8 rfl _ _ _ _ HH.out Tryz.underlying32 rfl SG ?_; simp only [Act.put, pa, pb, pc]; refine ji rfl (jg (qx HV.out)) ?_; simp only [Act.put, pa, pb, pc]
    go_wp2_with fail
    refine (CS.out _).mono ?_; rintro _ y9 ⟨rfl, hb⟩; have HS := jh (HS.out.later hb); have HH := jb hb HH; have HX := jn hb HX; have HU := jb hb HU; have HB := jw HB hb; have HV := jn hb HV; have Y8 := jh (Y8.out.later hb IB.out); have IB := jl IB hb.size; clear hb; dsimp only
    go_step
    refine ji (v := .agg #[.int .u64 (jf jd c 0), .int .u64 (jf jd c 1), .int .u64 (jf jd c 2), .int .u64 (jf jd c 3), .int .u64 (jf jd s 0), .int .u64 (jf jd s 1), .int .u64 (jf jd s 2), .int .u64 (jf jd s 3)]) rfl (by kernel_rfl) ?_; simp only [Act.put, pa, pb, pc]; refine ji (v := .int .i64 E) rfl (by kernel_rfl) ?_; simp only [Act.put, pa, pb, pc]; refine jy rfl _ _ _ rfl UB _ _ _ HU.out rfl rfl (by rw [qm]; rfl) rfl (by simp [Value.oneCell']) ?_; simp only [Act.put, pa, pb, pc]; obtain ⟨T9, I8⟩ : ∃ T9 : Array Value, T9 = #[.int .u64 (jf jd c 0), .int .u64 (jf jd c 1), .int .u64 (jf jd c 2), .int .u64 (jf jd c 3), .int .u64 (jf jd s 0), .int .u64 (jf jd s 1), .int .u64 (jf jd s 2), .int .u64 (jf jd s 3)] := ⟨_, rfl⟩; have hs9 : (Tryz.prog.info? 39).map (·.size) = some T9.size := by rw [qm, I8]; rfl
    obtain ⟨w9, e9⟩ := je (y9.setRow UB (jE c s)); have D7 : w9.heap[UB]? = some (.cells T9 39 (0, 0)) := by rw [e9, I8]; exact setRow_heap _ _ _ _ _ _ HU.out
    have Z4 : Below w.heap.size w w9 := by rw [e9]; exact below_setRow HB.out BD.out _
    rw [← e9]; have Z9 := jh D7; have IJ := jh Z4; have OE := jh I8; clear e9 D7 Z4 I8
    go_wp2_with fail
    refine bodyPost_ret (jO rfl _ w9 UB _ _ _ _ rfl Z9.out Tryz.underlying39 rfl hs9 (.int .i64 E) rfl) rfl ⟨by rw [OE.out]; rfl, IJ.out⟩
   ·have GV := jh (HD1.out (by trivial)); obtain ⟨c0, c1, c2, c3, f0, f1, f2, f3⟩ := jL HV.out Y8.out
    go_upto_region 6 with fail
    clear c0 c1 c2 c3 f0 f1 f2 f3; have o0 : ((jf jd 1 0 : Nat) : Int) = 1 := by decide
    have o1 : ((jf jd 1 1 : Nat) : Int) = 0 := by decide
    have o2 : ((jf jd 1 2 : Nat) : Int) = 0 := by decide
    have o3 : ((jf jd 1 3 : Nat) : Int) = 0 := by decide
    obtain ⟨x7, e9⟩ := je ((((x6.setCell ⟨VV, 0, none⟩ (.int .u64 1)).setCell ⟨VV, 1, none⟩ (.int .u64 0)).setCell ⟨VV, 2, none⟩ (.int .u64 0)).setCell ⟨VV, 3, none⟩ (.int .u64 0)); have hgs : x6.grownBy x7 (some VV) := by rw [e9]; exact jx (jx (jx (jx (World.grownBy.refl x6 (some VV)) 0 _) 1 _) 2 _) 3 _
    have Y8 := jh (show Y0 x7 VV 4 by rw [e9]; exact Y0.set4 Y8.out _ _ _ _ _ _ _ _); have HV := jh (show U0 x7 VV 1 by rw [e9]; have h7 := U0.set4 HV.out 1; rw [o0, o1, o2, o3] at h7; exact h7); have IB := jl IB hgs.size; rw [← e9]; clear e9; have HS := jh (HS.out.keep hgs (fun e => NV.out.1 (by injection e))); have HX := jh (JE HX.out hgs (fun e => NV.out.2.1 (by injection e))); have HH := jh (qZ HH.out hgs (fun e => NV.out.2.2.1 (by injection e))); have HU := jh (qZ HU.out hgs (fun e => NV.out.2.2.2 (by injection e))); have HB := jh (HB.out.grown hgs HB.out.size (fun k hk => by have e7 : VV = k := (by injection hk); rw [← e7]; exact BV.out)); clear hgs; clear o0 o1 o2 o3; have HV := jh (show U0 x7 VV d by rw [GV.out]; exact HV.out); refine wp_region_lit ?_; refine ji (v := .pointer (some ⟨SB, 0, none⟩)) rfl (by kernel_rfl) ?_; simp only [Act.put, pa, pb, pc]; refine ji rfl (jg (qR HS.out.grp)) ?_; simp only [Act.put, pa, pb, pc]; refine ji rfl (jg (qx HX.out)) ?_; simp only [Act.put, pa, pb, pc]; refine wpList_load_row rfl _ _ rfl E8 rfl _ _ _ _ HH.out Tryz.underlying32 rfl SG ?_; simp only [Act.put, pa, pb, pc]; refine ji rfl (jg (qx HV.out)) ?_; simp only [Act.put, pa, pb, pc]
    go_wp2_with fail
    refine (CS.out _).mono ?_; rintro _ y9 ⟨rfl, hb⟩; have HS := jh (HS.out.later hb); have HH := jb hb HH; have HX := jn hb HX; have HU := jb hb HU; have HB := jw HB hb; have HV := jn hb HV; have Y8 := jh (Y8.out.later hb IB.out); have IB := jl IB hb.size; clear hb; dsimp only
    go_step
    refine ji (v := .agg #[.int .u64 (jf jd c 0), .int .u64 (jf jd c 1), .int .u64 (jf jd c 2), .int .u64 (jf jd c 3), .int .u64 (jf jd s 0), .int .u64 (jf jd s 1), .int .u64 (jf jd s 2), .int .u64 (jf jd s 3)]) rfl (by kernel_rfl) ?_; simp only [Act.put, pa, pb, pc]; refine ji (v := .int .i64 E) rfl (by kernel_rfl) ?_; simp only [Act.put, pa, pb, pc]; refine jy rfl _ _ _ rfl UB _ _ _ HU.out rfl rfl (by rw [qm]; rfl) rfl (by simp [Value.oneCell']) ?_; simp only [Act.put, pa, pb, pc]; obtain ⟨T9, I8⟩ : ∃ T9 : Array Value, T9 = #[.int .u64 (jf jd c 0), .int .u64 (jf jd c 1), .int .u64 (jf jd c 2), .int .u64 (jf jd c 3), .int .u64 (jf jd s 0), .int .u64 (jf jd s 1), .int .u64 (jf jd s 2), .int .u64 (jf jd s 3)] := ⟨_, rfl⟩; have hs9 : (Tryz.prog.info? 39).map (·.size) = some T9.size := by rw [qm, I8]; rfl
    obtain ⟨w9, e9⟩ := je (y9.setRow UB (jE c s)); have D7 : w9.heap[UB]? = some (.cells T9 39 (0, 0)) := by rw [e9, I8]; exact setRow_heap _ _ _ _ _ _ HU.out
    have Z4 : Below w.heap.size w w9 := by rw [e9]; exact below_setRow HB.out BD.out _
    rw [← e9]; have Z9 := jh D7; have IJ := jh Z4; have OE := jh I8; clear e9 D7 Z4 I8
    go_wp2_with fail
    refine bodyPost_ret (jO rfl _ w9 UB _ _ _ _ rfl Z9.out Tryz.underlying39 rfl hs9 (.int .i64 E) rfl) rfl ⟨by rw [OE.out]; rfl, IJ.out⟩)
theorem ZW {x y : Nat} (h : x ||| y = 0) : x = 0 ∧ y = 0 := by
 constructor
 ·refine Nat.eq_of_testBit_eq fun i => ?_
  have := congrArg (fun n => n.testBit i) h; simp only [Nat.testBit_or, Nat.zero_testBit, Bool.or_eq_false_iff] at this; rw [this.1, Nat.zero_testBit]
 ·refine Nat.eq_of_testBit_eq fun i => ?_
  have := congrArg (fun n => n.testBit i) h; simp only [Nat.testBit_or, Nat.zero_testBit, Bool.or_eq_false_iff] at this; rw [this.2, Nat.zero_testBit]
theorem aO {gp gq gg gh n cap : Nat} {fa se : Int} {ao : Option Addr} {ks : List (Nat × Nat)} (hx : ∀ k ∈ ks, k.1 < jo ∧ k.2 < jo) (hq : gq < jo) (hm : gp < jo) (hgg : gg < jo) (hgh : gh < jo) (hn : n = ks.length) (hfa : -9223372036854775808 ≤ fa ∧ fa ≤ 9223372036854775807) (hse : -9223372036854775808 ≤ se ∧ se ≤ 9223372036854775807) (X8 : n ≤ 1000) (w : World) (hk : 0 < n → ∃ b o, ao = some ⟨b, o, none⟩ ∧ D8 w b o ks) :
  Calls Tryz.prog 28 #[qU gp gq gg gh fa se (.slice ao n cap)] w fun e w' => e = .returned (.bool (qk gp gq gg gh fa se n ks)) ∧ Below w.heap.size w w' := by
 obtain ⟨hf1, hf2⟩ := hfa; obtain ⟨hs1, hs2⟩ := hse; have CK := jh (fun (a : Nat) (ha : a < jo) (W : World) => by have h9 := sU (gp := gp) (gq := gq) (gg := gg) (gh := gh) ha hq hm W; unfold qd jj words at h9; exact h9); obtain ⟨R, hR⟩ := je (qk gp gq gg gh fa se n ks); rw [← hR]; have HR := jh hR; have HX := jh hx; have HN := jh hn; have VF := jh hgg; have HGH := jh hgh; have HKH := jh hk; clear hR hx hq hm hgg hgh hn hk; unfold qU
 go_enter Tryz.func28, Tryz.ntmps28
 go_upto_region 1 with fail
 obtain ⟨w0, e0⟩ := je (w.alloc (.cells #[.int .u64 (jf jd gp 0), .int .u64 (jf jd gp 1), .int .u64 (jf jd gp 2), .int .u64 (jf jd gp 3), .int .u64 (jf jd gq 0), .int .u64 (jf jd gq 1), .int .u64 (jf jd gq 2), .int .u64 (jf jd gq 3), .int .u64 (jf jd gg 0), .int .u64 (jf jd gg 1), .int .u64 (jf jd gg 2), .int .u64 (jf jd gg 3), .int .u64 (jf jd gh 0), .int .u64 (jf jd gh 1), .int .u64 (jf jd gh 2), .int .u64 (jf jd gh 3), .int .i64 fa, .int .i64 se, .slice ao n cap] 29)); obtain ⟨SB, L9⟩ := je (w.heap.size); have hb := jc e0; have HS := jh (show UA w0 SB gp gq gg gh fa se (.slice ao n cap) by rw [e0, L9]; exact UA.new _ _ _ _ _ _ _ _ _); have HB := jh hb; rw [← e0, ← L9]; clear e0 L9; clear hb; have GY := HS.out.nd
 go_upto_region 2 with fail
 clear GY; have q16 := HS.out.fa; have q17 := HS.out.se
 by_cases h0 : fa < 0
 ·skip
  have HR := jh (show R = false by rw [HR.out]; unfold qk; rw [if_pos h0]); have hn7 : (n : Int) ≤ 1000 := by omega
  go_wp2_with fail
  go_ret
  exact ⟨by rw [HR.out]; rfl, HB.out⟩
 by_cases h1 : 2 < fa
 ·skip
  have HR := jh (show R = false by rw [HR.out]; unfold qk; rw [if_neg h0, if_pos h1]); have hn7 : (n : Int) ≤ 1000 := by omega
  go_wp2_with fail
  go_ret
  exact ⟨by rw [HR.out]; rfl, HB.out⟩
 by_cases h2 : se < 1
 ·skip
  have HR := jh (show R = false by rw [HR.out]; unfold qk; rw [if_neg h0, if_neg h1, if_pos h2]); have hn7 : (n : Int) ≤ 1000 := by omega
  go_wp2_with fail
  go_ret
  exact ⟨by rw [HR.out]; rfl, HB.out⟩
 by_cases h8 : 3 < se
 ·skip
  have HR := jh (show R = false by rw [HR.out]; unfold qk; rw [if_neg h0, if_neg h1, if_neg h2, if_pos (show fa + 1 < se by omega)]); have hn7 : (n : Int) ≤ 1000 := by omega
  go_wp2_with fail
  go_ret
  exact ⟨by rw [HR.out]; rfl, HB.out⟩
 by_cases h3 : fa + 1 < se
 ·skip
  have HR := jh (show R = false by rw [HR.out]; unfold qk; rw [if_neg h0, if_neg h1, if_neg h2, if_pos h3]); have hn7 : (n : Int) ≤ 1000 := by omega
  go_wp2_with fail
  go_ret
  exact ⟨by rw [HR.out]; rfl, HB.out⟩
 by_cases h4 : (n : Int) < 3 * fa + 1
 ·skip
  have HR := jh (show R = false by rw [HR.out]; unfold qk; rw [if_neg h0, if_neg h1, if_neg h2, if_neg h3, if_pos h4]); have hn7 : (n : Int) ≤ 1000 := by omega
  go_wp2_with fail
  go_ret
  exact ⟨by rw [HR.out]; rfl, HB.out⟩
 by_cases h5 : (7 : Int) < (n : Int)
 ·skip
  have HR := jh (show R = false by rw [HR.out]; unfold qk; rw [if_neg h0, if_neg h1, if_neg h2, if_neg h3, if_neg h4, if_pos (show 7 < n by omega)]); have hn7 : (n : Int) ≤ 1000 := by omega
  go_wp2_with fail
  go_ret
  exact ⟨by rw [HR.out]; rfl, HB.out⟩
 have HR := jh (show R = (if Qi gq (n + se.toNat) = false then false else if (qJ gp gq gg || qJ gp gq gh) = true then false else !ks.any (qS gp gq)) by rw [HR.out]; unfold qk; rw [if_neg h0, if_neg h1, if_neg h2, if_neg h3, if_neg h4, if_neg (show ¬ 7 < n by omega)]); obtain ⟨m, hm9⟩ := je (n + se.toNat); rw [← hm9] at HR; have hmI : (n : Int) + se = (m : Int) := by omega
 have hmb : m ≤ 1000 := by omega
 have hn7 : (n : Int) ≤ 7 := by omega
 go_upto_region 4 with fail
 clear q16 q17 h0 h1 h2 h8 h3 h4 h5 hm9; refine wp_region_lit ?_; refine ji (v := .pointer (some ⟨SB, 0, none⟩)) rfl (by kernel_rfl) ?_; simp only [Act.put, pa, pb, pc]; refine ji (v := .pointer (some ⟨SB, 4, none⟩)) rfl (by kernel_rfl) ?_; simp only [Act.put, pa, pb, pc]; refine ji rfl (jg (qX HS.out.grp.2.1)) ?_; simp only [Act.put, pa, pb, pc]
 go_upto_region 5 with fail
 obtain ⟨w1, e9⟩ := je (w0.alloc (.cells (jD gq) 24)); obtain ⟨QB, h9⟩ := je (w0.heap.size); have hb := jc e9; have HQB := jh (show U0 w1 QB gq by rw [e9, h9]; exact U0.new _ _ _ _ rfl); have LQB := jh (show QB < w1.heap.size by rw [e9, h9]; simp); have WQB := jh (show w0.heap.size = QB from h9.symm); rw [← e9, ← h9]; clear e9 h9; have HS := jh (HS.out.later hb); have HB := jw HB hb; clear hb; obtain ⟨ab, hab⟩ := je (Qi gq m); rw [← hab] at HR; have HAB := jh hab; clear hab
 go_cut [72] (fun c wz => c = .bool (!ab) ∧ wz = w1)
 case first =>
  obtain ⟨r0, r1, r2, r3⟩ := jz HQB.out; have q17 := HS.out.se; have hv := HAB.out; unfold Qi at hv
  generalize jf jd gq 0 = d0 at *
  generalize jf jd gq 1 = d1 at *
  generalize jf jd gq 2 = d2 at *
  generalize jf jd gq 3 = d3 at *
  have MC : IntKind.u64.wrap (m : Int) = (m : Int) := by rw [IntKind.wrap_u64]; omega
  have h9 : (d1 ≠ 0 ∧ ab = true) ∨ (d1 = 0 ∧ d2 ≠ 0 ∧ ab = true) ∨ (d1 = 0 ∧ d2 = 0 ∧ d3 ≠ 0 ∧ ab = true) ∨ (d1 = 0 ∧ d2 = 0 ∧ d3 = 0 ∧ m < d0 ∧ ab = true) ∨ (d1 = 0 ∧ d2 = 0 ∧ d3 = 0 ∧ ¬ m < d0 ∧ ab = false) := by
   by_cases z1 : d1 = 0
   ·by_cases z2 : d2 = 0
    ·by_cases z3 : d3 = 0
     ·rw [if_pos (by rw [z1, z2, z3]; rfl)] at hv
      by_cases z4 : m < d0
      ·exact .inr (.inr (.inr (.inl ⟨z1, z2, z3, z4, by rw [hv]; exact decide_eq_true z4⟩)))
      ·exact .inr (.inr (.inr (.inr ⟨z1, z2, z3, z4, by rw [hv]; exact decide_eq_false z4⟩)))
     ·exact .inr (.inr (.inl ⟨z1, z2, z3, by rw [hv, if_neg (fun h => z3 (ZW h).2)]⟩))
    ·exact .inr (.inl ⟨z1, z2, by rw [hv, if_neg (fun h => z2 (ZW (ZW h).1).2)]⟩)
   ·exact .inl ⟨z1, by rw [hv, if_neg (fun h => z1 (ZW (ZW h).1).1)]⟩
  clear hv HAB HR HQB
  rcases h9 with ⟨z1, rfl⟩ | ⟨rfl, z2, rfl⟩ | ⟨rfl, rfl, z3, rfl⟩ | ⟨rfl, rfl, rfl, z4, rfl⟩ | ⟨rfl, rfl, rfl, z4, rfl⟩
  ·skip
   have z1I : ((d1 : Int) == 0) = false := by simpa using z1
   go_wp2_with fail
   go_meet
   exact ⟨rfl, rfl⟩
  ·skip
   have z2I : ((d2 : Int) == 0) = false := by simpa using z2
   go_wp2_with fail
   go_meet
   exact ⟨rfl, rfl⟩
  ·skip
   have z3I : ((d3 : Int) == 0) = false := by simpa using z3
   go_wp2_with fail
   go_meet
   exact ⟨rfl, rfl⟩
  ·skip
   have z4I : ¬ (d0 : Int) ≤ (m : Int) := by omega
   go_wp2_with fail
   go_meet
   exact ⟨rfl, rfl⟩
  ·skip
   have z4I : (d0 : Int) ≤ (m : Int) := by omega
   go_wp2_with fail
   go_meet
   exact ⟨rfl, rfl⟩
 case rest =>
  obtain ⟨rfl, hw⟩ := hcut; rw [hw]; clear hw wc HAB HQB
  cases ab
  ·skip
   go_wp2_with fail
   go_ret
   exact ⟨by rw [HR.out]; rfl, HB.out⟩
  have HR := jh (show R = if (qJ gp gq gg || qJ gp gq gh) = true then false else !ks.any (qS gp gq) by rw [HR.out]; rfl); obtain ⟨kg, hkg⟩ := je (qJ gp gq gg); obtain ⟨kh, hkh⟩ := je (qJ gp gq gh); have CG := jh (CK.out gg VF.out); have CH := jh (CK.out gh HGH.out); rw [← hkg] at HR CG; rw [← hkh] at HR CH; clear hkg hkh
  go_upto_region 7 with fail
  refine wp_region_lit ?_; refine ji (v := .pointer (some ⟨SB, 0, none⟩)) rfl (by kernel_rfl) ?_; simp only [Act.put, pa, pb, pc]; refine ji rfl (jg (qR HS.out.grp)) ?_; simp only [Act.put, pa, pb, pc]; refine ji (v := .pointer (some ⟨SB, 0, none⟩)) rfl (by kernel_rfl) ?_; simp only [Act.put, pa, pb, pc]; refine ji (v := .pointer (some ⟨SB, 8, none⟩)) rfl (by kernel_rfl) ?_; simp only [Act.put, pa, pb, pc]; refine ji rfl (jg (qX HS.out.grp.2.2.1)) ?_; simp only [Act.put, pa, pb, pc]
  go_wp2_with fail
  refine (CG.out _).mono ?_; rintro _ w2 ⟨rfl, hb⟩; have HS := jh (HS.out.later hb); have HB := jw HB hb; clear hb
  cases kg
  ·skip
   dsimp only
   go_step
   iterate 2
    refine ji (v := .bool false) rfl (by kernel_rfl) ?_; simp only [Act.put, pa, pb, pc]
   refine jv (v := .pointer (some ⟨SB, 0, none⟩)) (by kernel_rfl) (by kernel_rfl) ?_; simp only [Act.put, pa, pb, pc]; refine jv (by kernel_rfl) (jg (qR HS.out.grp)) ?_; simp only [Act.put, pa, pb, pc]; refine jv (v := .pointer (some ⟨SB, 0, none⟩)) (by kernel_rfl) (by kernel_rfl) ?_; simp only [Act.put, pa, pb, pc]; refine jv (v := .pointer (some ⟨SB, 12, none⟩)) (by kernel_rfl) (by kernel_rfl) ?_; simp only [Act.put, pa, pb, pc]; refine jv (by kernel_rfl) (jg (qX HS.out.grp.2.2.2)) ?_; simp only [Act.put, pa, pb, pc]
   go_wp2_with fail
   refine (CH.out _).mono ?_; rintro _ w3 ⟨rfl, hb⟩; have HS := jh (HS.out.later hb); have HB := jw HB hb; clear hb
   cases kh
   ·skip
    have HR := jh (show R = !ks.any (qS gp gq) by rw [HR.out]; rfl)
    go_wp2_with fail
    go_loopw [5] (fun i wr => ∃ k : Nat, k ≤ n ∧ i = .int .i64 k ∧ Hid ((ks.take k).any (qS gp gq) = false) ∧ Hid (UA wr SB gp gq gg gh fa se (.slice ao n cap)) ∧ Hid (Below w.heap.size w wr)) (fun i _ => n - (intOf i).toNat)
    case atStart => exact ⟨0, Nat.zero_le _, rfl, jh rfl, HS, HB⟩
    case round =>
     clear HS HB; obtain ⟨k, hk, rfl, HAN, HS, HB⟩ := hrel
     by_cases hlt : k < n
     ·obtain ⟨KB, o, rfl, hks⟩ := HKH.out (by omega); obtain ⟨⟨x, y⟩, hki⟩ : ∃ p, ks[k]? = some p := ⟨_, List.getElem?_eq_getElem (by rw [← HN.out]; exact hlt)⟩; have hxy := HX.out (x, y) (List.mem_of_getElem? hki); have h1 := jh (show X6 wr KB (o + k * 8) x from fun j hj => jm ((hks k _ hki).1 j hj) HB.out); have h2 := jh (show X6 wr KB (o + k * 8 + 4) y from fun j hj => by rw [Nat.add_assoc]; exact jm ((hks k _ hki).2 j hj) HB.out); have HTK := jh (show (ks.take (k + 1)).any (qS gp gq) = (qJ gp gq x || qJ gp gq y) by rw [List.take_add_one, hki, List.any_append, HAN.out]; simp [qS]); have UK := jh (fun (h : (qJ gp gq x || qJ gp gq y) = true) => show ks.any (qS gp gq) = true from List.any_eq_true.2 ⟨_, List.mem_of_getElem? hki, h⟩); obtain ⟨kx, hkx⟩ := je (qJ gp gq x); obtain ⟨ky, hky⟩ := je (qJ gp gq y); have C1 := jh (CK.out x hxy.1); have C2 := jh (CK.out y hxy.2); rw [← hkx] at C1 HTK UK; rw [← hky] at C2 HTK UK; have N8 : (k : Int) < (n : Int) := by omega
      have L8 := jh hlt; clear hxy hki hks hkx hky hlt
      go_upto_region 12 with fail
      cases kx
      ·skip
       refine jY (.take 0 (.take 1 (.take 2 (.take 3 (.take 4 (.take 5 (.take 6 (.take 7 (.step 8 (.take 9 (.take 10 (.take 11 (.take 12 (.take 13 (.take 14 (.take 15 (.take 16 (.take 17 (.take 18 (.step 19 (.take 20 (.take 21 .done)))))))))))))))))))))) (fun w8 => UA w8 SB gp gq gg gh fa se (.slice (some ⟨KB, o, none⟩) n cap) ∧ X6 w8 KB (o + k * 8) x ∧ X6 w8 KB (o + k * 8 + 4) y) (by kernel_rfl) (by kernel_rfl) (fun _ _ _ _ _ h => h) (⟨HS.out.later ((Below.refl _ _).drew), X6.later ((Below.refl _ _).drew) h1.out, X6.later ((Below.refl _ _).drew) h2.out⟩) (fun hHeld => ?_); obtain ⟨x1, e1⟩ := je (wr.drew); rw [← e1]; have hb : Below wr.heap.size wr x1 := by rw [e1]; exact (Below.refl _ _).drew
       have HS := jh (HS.out.later hb); have HB := jw HB hb; have h1 := jh (h1.out.later hb); have h2 := jh (h2.out.later hb); clear hb e1; refine WT.tk rfl (k := ?_); refine WT.take rfl (Or.inl ⟨by rfl, fun w8 hSw => jg (qR hSw.1.grp)⟩) ?_
       try simp only [Act.put, pa, pb, pc]
       refine WT.tk rfl (k := ?_); refine WT.tk (v := .slice (some ⟨KB, o, none⟩) n cap) rfl (fun w8 hSw => jg (JO hSw.1.nd)) (k := ?_); refine WT.tk rfl (k := ?_); refine WT.tk (v := .pointer (some ⟨KB, o + k * 8, none⟩)) rfl (fun w8 hSw => by simp [go_sem, N8]) (k := ?_); refine WT.tk (v := .pointer (some ⟨KB, o + k * 8, none⟩)) rfl (fun w8 hSw => by simp [go_sem]) (k := ?_); refine WT.take rfl (Or.inl ⟨by rfl, fun w8 hSw => jg (qX hSw.2.1)⟩) ?_
       try simp only [Act.put, pa, pb, pc]
       refine WT.step rfl (fun K hK => ?_)
       go_simp
       refine (C1.out _).mono ?_; rintro _ x2 ⟨rfl, hb⟩; have HS := jh (HS.out.later hb); have HB := jw HB hb; have h1 := jh (h1.out.later hb); have h2 := jh (h2.out.later hb); clear hb; refine hK.out _ _ (⟨HS.out, h1.out, h2.out⟩) (fun hHeld => ?_); clear hK K
       try simp only [Act.put, pa, pb, pc]
       iterate 2
        refine WT.tk (v := .bool false) rfl (fun w8 hSw => by kernel_rfl) (k := ?_)
       refine WT.tk (v := .pointer (some ⟨SB, 0, none⟩)) rfl (fun w8 hSw => by kernel_rfl) (k := ?_); refine WT.take rfl (Or.inl ⟨by rfl, fun w8 hSw => jg (qR hSw.1.grp)⟩) ?_
       try simp only [Act.put, pa, pb, pc]
       refine WT.tk (v := .pointer (some ⟨SB, 18, none⟩)) rfl (fun w8 hSw => by kernel_rfl) (k := ?_); refine WT.tk (v := .slice (some ⟨KB, o, none⟩) n cap) rfl (fun w8 hSw => jg (JO hSw.1.nd)) (k := ?_); refine WT.tk (v := .int .i64 k) rfl (fun w8 hSw => by kernel_rfl) (k := ?_); refine WT.tk (v := .pointer (some ⟨KB, o + k * 8, none⟩)) rfl (fun w8 hSw => by simp [go_sem, N8]) (k := ?_); refine WT.tk (v := .pointer (some ⟨KB, o + k * 8 + 4, none⟩)) rfl (fun w8 hSw => by simp [go_sem]) (k := ?_); refine WT.take rfl (Or.inl ⟨by rfl, fun w8 hSw => jg (qX hSw.2.2)⟩) ?_
       try simp only [Act.put, pa, pb, pc]
       refine WT.step rfl (fun K hK => ?_)
       go_simp
       refine (C2.out _).mono ?_; rintro _ x3 ⟨rfl, hb⟩; have HS := jh (HS.out.later hb); have HB := jw HB hb; have h1 := jh (h1.out.later hb); have h2 := jh (h2.out.later hb); clear hb; refine hK.out _ _ (⟨HS.out, h1.out, h2.out⟩) (fun hHeld => ?_); clear hK K
       try simp only [Act.put, pa, pb, pc]
       iterate 2
        refine WT.tk rfl (k := ?_)
       refine WT.done ?_; clear hHeld
       cases ky
       ·go_wp2_with fail
        go_roundw
        case rel => exact ⟨k + 1, by have := L8.out; omega, by go_num, jh (by rw [HTK.out]; rfl), HS, HB⟩
        case measure => (simp [intOf]; have := L8.out; omega)
       ·go_wp2_with fail
        go_ret
        exact ⟨by rw [HR.out, UK.out rfl]; rfl, HB.out⟩
      ·skip
       refine jY (.take 0 (.take 1 (.take 2 (.take 3 (.take 4 (.take 5 (.take 6 (.take 7 (.step 8 (.take 9 (.take 10 (.take 11 (.take 12 (.take 13 (.take 14 (.take 15 (.take 16 (.take 17 (.take 18 (.step 19 (.take 20 (.take 21 .done)))))))))))))))))))))) (fun w8 => UA w8 SB gp gq gg gh fa se (.slice (some ⟨KB, o, none⟩) n cap) ∧ X6 w8 KB (o + k * 8) x ∧ X6 w8 KB (o + k * 8 + 4) y) (by kernel_rfl) (by kernel_rfl) (fun _ _ _ _ _ h => h) (⟨HS.out.later ((Below.refl _ _).drew), X6.later ((Below.refl _ _).drew) h1.out, X6.later ((Below.refl _ _).drew) h2.out⟩) (fun hHeld => ?_); obtain ⟨x1, e1⟩ := je (wr.drew); rw [← e1]; have hb : Below wr.heap.size wr x1 := by rw [e1]; exact (Below.refl _ _).drew
       have HS := jh (HS.out.later hb); have HB := jw HB hb; have h1 := jh (h1.out.later hb); have h2 := jh (h2.out.later hb); clear hb e1; refine WT.tk rfl (k := ?_); refine WT.take rfl (Or.inl ⟨by rfl, fun w8 hSw => jg (qR hSw.1.grp)⟩) ?_
       try simp only [Act.put, pa, pb, pc]
       refine WT.tk rfl (k := ?_); refine WT.tk (v := .slice (some ⟨KB, o, none⟩) n cap) rfl (fun w8 hSw => jg (JO hSw.1.nd)) (k := ?_); refine WT.tk rfl (k := ?_); refine WT.tk (v := .pointer (some ⟨KB, o + k * 8, none⟩)) rfl (fun w8 hSw => by simp [go_sem, N8]) (k := ?_); refine WT.tk (v := .pointer (some ⟨KB, o + k * 8, none⟩)) rfl (fun w8 hSw => by simp [go_sem]) (k := ?_); refine WT.take rfl (Or.inl ⟨by rfl, fun w8 hSw => jg (qX hSw.2.1)⟩) ?_
       try simp only [Act.put, pa, pb, pc]
       refine WT.step rfl (fun K hK => ?_)
       go_simp
       refine (C1.out _).mono ?_; rintro _ x2 ⟨rfl, hb⟩; have HS := jh (HS.out.later hb); have HB := jw HB hb; have h1 := jh (h1.out.later hb); have h2 := jh (h2.out.later hb); clear hb; refine hK.out _ _ (⟨HS.out, h1.out, h2.out⟩) (fun hHeld => ?_); clear hK K
       try simp only [Act.put, pa, pb, pc]
       iterate 2
        refine WT.tk (v := .bool true) rfl (fun w8 hSw => by kernel_rfl) (k := ?_)
       iterate 8
        refine WT.tu rfl (k := ?_)
       refine WT.step rfl (fun K hK => ?_); refine LP (by rfl) ?_; refine hK.out _ _ (hHeld) (fun hHeld => ?_); clear hK K
       try simp only [Act.put, pa, pb, pc]
       refine WT.tu rfl (k := ?_); refine WT.tk (v := .bool true) rfl (fun w8 hSw => by kernel_rfl) (k := ?_); refine WT.done ?_; clear hHeld
       go_wp2_with fail
       go_ret
       exact ⟨by rw [HR.out, UK.out rfl]; rfl, HB.out⟩
     ·have hkn : k = n := by omega
      have HR := jh (show R = true by rw [HR.out]; have h9 := HAN.out; rw [List.take_of_length_le (by rw [← HN.out]; omega)] at h9; rw [h9]; rfl); have N8 : ¬ (k : Int) < (n : Int) := by omega
      clear hkn hlt
      go_wp2_with fail
      go_ret
      exact ⟨by rw [HR.out]; rfl, HB.out⟩
   ·skip
    go_wp2_with fail
    go_ret
    exact ⟨by rw [HR.out]; rfl, HB.out⟩
  ·skip
   go_wp2_with fail
   go_ret
   exact ⟨by rw [HR.out]; rfl, HB.out⟩
theorem mY {gp gq gg gh n cap fr tt secret : Nat} {fa se : Int} {ao : Option Addr} {ks : List (Nat × Nat)} {bv : Value} {b : List Nat} (hx : ∀ k ∈ ks, k.1 < jo ∧ k.2 < jo) (hq : gq < jo) (hm : gp < jo) (hgg : gg < jo) (hgh : gh < jo) (hn : n = ks.length) (hfa : -9223372036854775808 ≤ fa ∧ fa ≤ 9223372036854775807) (hse : -9223372036854775808 ≤ se ∧ se ≤ 9223372036854775807) (X8 : n ≤ 1000) (hfr : fr < 256) (hto : tt < 256) (hby : jM b) (hbl : b.length ≤ 70000) (hsM : secret < jo) (w : World) (hk : 0 < n → ∃ b o, ao = some ⟨b, o, none⟩ ∧ D8 w b o ks) (hb : J6 .u8 w bv b) :
  Calls Tryz.prog 8 #[qU gp gq gg gh fa se (.slice ao n cap), .int .u8 fr, .int .u8 tt, bv, jj secret] w fun e w' => ∃ a c, e = .returned (.tuple #[(Jb gp gq gg gh fa se n ks fr tt b secret).v a c, .int .i64 (oL gp gq gg gh fa se n ks fr tt b secret : Nat)]) ∧ Own w' w.heap.size (.slice a (Jb gp gq gg gh fa se n ks fr tt b secret).b.length c) (Jb gp gq gg gh fa se n ks fr tt b secret).b ∧ Below w.heap.size w w' := by
 obtain ⟨i0, hi0, hz0, hz1, hz2⟩ := info_parts QI; have HI := jh hi0; obtain ⟨H, hH⟩ := je (Jt fr tt b); have hHl : H.length = 32 := by rw [hH]; exact zS _ _ _
 have vC : jM H := by rw [hH]; exact rE _ _ _
 obtain ⟨C, hC⟩ := je (WR gp gq gg secret H); obtain ⟨G, hG⟩ := je (VR gp gq gg secret H); obtain ⟨e9, uT⟩ := je (wR gp gq gg secret); have h01 : e9 = 0 ∨ e9 = 1 := by rw [uT]; exact CZ _ _ _ _
 obtain ⟨st, hst⟩ := je (qk gp gq gg gh fa se n ks); obtain ⟨n1, hn1⟩ := je (decide (1 ≤ fr ∧ fr ≤ n)); obtain ⟨n2, hn2⟩ := je (decide (1 ≤ tt ∧ tt ≤ n))
 have hen : endsB n fr tt = (n1 && n2 && !decide (fr = tt)) := by
  rw [hn1, hn2]
  apply Bool.eq_iff_iff.2
  rw [ends_iff]; simp only [Bool.and_eq_true, decide_eq_true_eq, Bool.not_eq_true', decide_eq_false_iff_not, and_assoc, ne_eq]
 obtain ⟨E, hE⟩ := je (oL gp gq gg gh fa se n ks fr tt b secret); obtain ⟨X, hX⟩ := je (Jb gp gq gg gh fa se n ks fr tt b secret); obtain ⟨m, hmb⟩ := je (b.length); have HE := jh (show E = (if st = false then 1 else if (n1 && n2 && !decide (fr = tt)) = false then 1 else if 65536 < m then 3 else e9) by rw [hE, hst, ← hen, hmb, uT]; rfl); have HX0 := jh (show E ≠ 0 → X = ⟨0, 0, [], 0, 0⟩ from fun h => by rw [hX]; unfold Jb; rw [if_neg (by rw [← hE]; exact h)]); have HX1 := jh (show E = 0 → X = ⟨fr, tt, b, C, G⟩ from fun h => by rw [hX, hC, hG, hH]; unfold Jb; rw [if_pos (by rw [← hE]; exact h)]); rw [← hE, ← hX]; have CD := jh (fun (W : World) (hb : Below w.heap.size w W) => by have h9 := aO (cap := cap) (ao := ao) hx hq hm hgg hgh hn hfa hse X8 W (fun h0 => by obtain ⟨b, o, h1, h2⟩ := hk h0; exact ⟨b, o, h1, h2.later hb⟩); rewrite [← hst] at h9; unfold qU at h9; exact h9); have CN1 := jh (fun (W : World) => by have h9 := iM (gp := gp) (gq := gq) (gg := gg) (gh := gh) (cap := cap) (fa := fa) (se := se) (ao := ao) hfr X8 W; rewrite [← hn1] at h9; unfold qU at h9; exact h9); have CN2 := jh (fun (W : World) => by have h9 := iM (gp := gp) (gq := gq) (gg := gg) (gh := gh) (cap := cap) (fa := fa) (se := se) (ao := ao) hto X8 W; rewrite [← hn2] at h9; unfold qU at h9; exact h9); have HH9 := jh (fun (W : World) (v : Value) (h : J6 .u8 W v b) => by have h9 := BG (c := 0) (s := 0) hfr hto W h hby (by omega); rewrite [← hH] at h9; exact h9); have CS := jh (fun (W : World) => by have h9 := xG (gh := gh) (fa := fa) (se := se) (nodes := .slice ao n cap) hm hgg hq hsM hHl vC W; rewrite [← hC, ← hG, ← uT] at h9; unfold Ql qU jj words at h9; exact h9); obtain ⟨T, hT⟩ := je ((jp .u8 H).toArray); rw [← hT] at HH9 CS; have CH := jh (fun (W : World) (v : Value) (h : J6 .u8 W v b) => by have h9 := HH9.out W v h; unfold zy at h9; exact h9); obtain ⟨ab, cb, rfl, _⟩ := id hb; have HKB := jh (fun (W : World) (Z4 : Below w.heap.size w W) => (hb.later Z4).src); rw [← hmb] at HKB hb ⊢; have Y6 := jh hmb; have hmI2 : m ≤ 70000 := by omega
 clear HH9 hH hHl vC hC hG hT uT hst hen hE hX hx hq hm hgg hgh hn hfa hse X8 hfr hto hk hb hmb hby hbl hsM hn1 hn2 hi0; unfold qU jj words
 go_enter Tryz.func8, Tryz.ntmps8
 go_upto_region 1 with fail
 obtain ⟨A8, e0⟩ := je (w.alloc (.cells #[.int .u64 (jf jd gp 0), .int .u64 (jf jd gp 1), .int .u64 (jf jd gp 2), .int .u64 (jf jd gp 3), .int .u64 (jf jd gq 0), .int .u64 (jf jd gq 1), .int .u64 (jf jd gq 2), .int .u64 (jf jd gq 3), .int .u64 (jf jd gg 0), .int .u64 (jf jd gg 1), .int .u64 (jf jd gg 2), .int .u64 (jf jd gg 3), .int .u64 (jf jd gh 0), .int .u64 (jf jd gh 1), .int .u64 (jf jd gh 2), .int .u64 (jf jd gh 3), .int .i64 fa, .int .i64 se, .slice ao n cap] 29)); obtain ⟨F8, e1⟩ := je (A8.alloc (.cells (jD secret) 24)); obtain ⟨J9, e2⟩ := je (F8.alloc (.cells #[.int .u8 0, .int .u8 0, .slice none 0 0, .int .u64 0, .int .u64 0, .int .u64 0, .int .u64 0, .int .u64 0, .int .u64 0, .int .u64 0, .int .u64 0] 41)); have s0 : A8.heap.size = w.heap.size + 1 := by rw [e0]; simp
 have s1 : F8.heap.size = w.heap.size + 1 + 1 := by rw [e1]; simp [s0]
 have b0 := jc e0; have b1 := jc e1; have b2 := jc e2; have f0 : UA A8 w.heap.size gp gq gg gh fa se (.slice ao n cap) := by rw [e0]; exact UA.new _ _ _ _ _ _ _ _ _
 have f1 : U0 F8 (w.heap.size + 1) secret := by rw [← s0, e1]; exact U0.new _ _ _ _ rfl
 have f2 : J9.heap[w.heap.size + 1 + 1]? = some (.cells G6 41 (0, 0)) := by rw [← s1, e2]; exact heap_alloc_new _ _
 rw [← e0, ← e1, ← e2]; obtain ⟨SB, L9⟩ := je (w.heap.size); rw [← L9] at f0 f1 f2 ⊢; obtain ⟨XB, hXB⟩ := je (SB + 1); rw [← hXB] at f1 f2 ⊢; obtain ⟨RB, oH⟩ := je (XB + 1); rw [← oH] at f2 ⊢; have HRW := jh (show w.heap.size ≤ RB by omega); have HS := jh ((f0.later b1).later b2); have HX := jh (U0.later b2 f1); have HR := jh f2; have HB := jh (jk (jk b0 b1) b2); clear e0 e1 e2 s0 s1 b0 b1 b2 f0 f1 f2 L9 hXB oH; refine wp_region_lit ?_; refine ji rfl (jg (zV HS.out)) ?_; simp only [Act.put, pa, pb, pc]
 go_wp2_with fail
 refine (CD.out _ HB.out).mono ?_; rintro _ S9 ⟨rfl, hb⟩; have HS := jh (HS.out.later hb); have HX := jn hb HX; have HR := jb hb HR; have HB := jw HB hb; clear hb
 cases st
 ·have SE := jh (show E = 1 by rw [HE.out]; rfl); have HX := jh (HX0.out (by rw [SE.out]; decide))
  go_upto_region 2 with fail
  refine wp_region_lit ?_; refine ji (v := .agg G6) rfl (by kernel_rfl) ?_; simp only [Act.put, pa, pb, pc]; refine jy rfl _ _ _ rfl RB _ _ _ HR.out rfl rfl (by rw [qp]; rfl) rfl qV ?_; obtain ⟨w9, e8⟩ := je (S9.setRow RB G6); have D7 : w9.heap[RB]? = some (.cells G6 41 (0, 0)) := by rw [e8]; exact setRow_heap _ _ _ _ _ _ HR.out
  have Z4 : Below w.heap.size w w9 := by rw [e8]; exact below_setRow HB.out HRW.out _
  rw [← e8]; clear e8; have Z9 := jh D7; have E8 := jh Z4; clear D7 Z4
  go_wp2_with fail
  refine bodyPost_ret (jO rfl _ w9 RB _ _ _ _ rfl Z9.out Tryz.underlying41 rfl (by rw [qp]; rfl) (.int .i64 1) rfl) rfl ⟨none, 0, by rw [HX.out, SE.out, ← Jm]; rfl, by rw [HX.out]; exact zA _ _, E8.out⟩
 have HE := jh (show E = (if (n1 && n2 && !decide (fr = tt)) = false then 1 else if 65536 < m then 3 else e9) by rw [HE.out]; rfl); dsimp only
 go_step
 iterate 2
  refine ji (v := .bool false) rfl (by kernel_rfl) ?_; simp only [Act.put, pa, pb, pc]
 refine jv (by kernel_rfl) (jg (zV HS.out)) ?_; simp only [Act.put, pa, pb, pc]; refine jv (v := .int .u8 fr) (by kernel_rfl) (by kernel_rfl) ?_; simp only [Act.put, pa, pb, pc]
 go_wp2_with fail
 refine (CN1.out _).mono ?_; rintro _ FC ⟨rfl, hb⟩; have HS := jh (HS.out.later hb); have HX := jn hb HX; have HR := jb hb HR; have HB := jw HB hb; clear hb
 cases n1
 ·have SE := jh (show E = 1 by rw [HE.out]; rfl); have HX := jh (HX0.out (by rw [SE.out]; decide))
  go_upto_region 2 with fail
  refine wp_region_lit ?_; refine ji (v := .agg G6) rfl (by kernel_rfl) ?_; simp only [Act.put, pa, pb, pc]; refine jy rfl _ _ _ rfl RB _ _ _ HR.out rfl rfl (by rw [qp]; rfl) rfl qV ?_; obtain ⟨w9, e8⟩ := je (FC.setRow RB G6); have D7 : w9.heap[RB]? = some (.cells G6 41 (0, 0)) := by rw [e8]; exact setRow_heap _ _ _ _ _ _ HR.out
  have Z4 : Below w.heap.size w w9 := by rw [e8]; exact below_setRow HB.out HRW.out _
  rw [← e8]; clear e8; have Z9 := jh D7; have E8 := jh Z4; clear D7 Z4
  go_wp2_with fail
  refine bodyPost_ret (jO rfl _ w9 RB _ _ _ _ rfl Z9.out Tryz.underlying41 rfl (by rw [qp]; rfl) (.int .i64 1) rfl) rfl ⟨none, 0, by rw [HX.out, SE.out, ← Jm]; rfl, by rw [HX.out]; exact zA _ _, E8.out⟩
 dsimp only
 go_step
 refine jv (v := .bool false) (by kernel_rfl) (by kernel_rfl) ?_
 iterate 2
  simp only [Act.put, pa, pb, pc]; refine ji (v := .bool false) rfl (by kernel_rfl) ?_
 simp only [Act.put, pa, pb, pc]; refine jv (by kernel_rfl) (jg (zV HS.out)) ?_; simp only [Act.put, pa, pb, pc]; refine jv (v := .int .u8 tt) (by kernel_rfl) (by kernel_rfl) ?_; simp only [Act.put, pa, pb, pc]
 go_wp2_with fail
 refine (CN2.out _).mono ?_; rintro _ KD ⟨rfl, hb⟩; have HS := jh (HS.out.later hb); have HX := jn hb HX; have HR := jb hb HR; have HB := jw HB hb; clear hb
 cases n2
 ·have SE := jh (show E = 1 by rw [HE.out]; rfl); have HX := jh (HX0.out (by rw [SE.out]; decide))
  go_upto_region 2 with fail
  refine wp_region_lit ?_; refine ji (v := .agg G6) rfl (by kernel_rfl) ?_; simp only [Act.put, pa, pb, pc]; refine jy rfl _ _ _ rfl RB _ _ _ HR.out rfl rfl (by rw [qp]; rfl) rfl qV ?_; obtain ⟨w9, e8⟩ := je (KD.setRow RB G6); have D7 : w9.heap[RB]? = some (.cells G6 41 (0, 0)) := by rw [e8]; exact setRow_heap _ _ _ _ _ _ HR.out
  have Z4 : Below w.heap.size w w9 := by rw [e8]; exact below_setRow HB.out HRW.out _
  rw [← e8]; clear e8; have Z9 := jh D7; have E8 := jh Z4; clear D7 Z4
  go_wp2_with fail
  refine bodyPost_ret (jO rfl _ w9 RB _ _ _ _ rfl Z9.out Tryz.underlying41 rfl (by rw [qp]; rfl) (.int .i64 1) rfl) rfl ⟨none, 0, by rw [HX.out, SE.out, ← Jm]; rfl, by rw [HX.out]; exact zA _ _, E8.out⟩
 by_cases hft : fr = tt
 ·have SE := jh (show E = 1 by rw [HE.out, decide_eq_true hft]; rfl); have hneI : ((fr : Int) == (tt : Int)) = true := by rw [hft]; simp
  clear hft; have HX := jh (HX0.out (by rw [SE.out]; decide))
  go_upto_region 2 with fail
  refine wp_region_lit ?_; refine ji (v := .agg G6) rfl (by kernel_rfl) ?_; simp only [Act.put, pa, pb, pc]; refine jy rfl _ _ _ rfl RB _ _ _ HR.out rfl rfl (by rw [qp]; rfl) rfl qV ?_; obtain ⟨w9, e8⟩ := je (KD.setRow RB G6); have D7 : w9.heap[RB]? = some (.cells G6 41 (0, 0)) := by rw [e8]; exact setRow_heap _ _ _ _ _ _ HR.out
  have Z4 : Below w.heap.size w w9 := by rw [e8]; exact below_setRow HB.out HRW.out _
  rw [← e8]; clear e8; have Z9 := jh D7; have E8 := jh Z4; clear D7 Z4
  go_wp2_with fail
  refine bodyPost_ret (jO rfl _ w9 RB _ _ _ _ rfl Z9.out Tryz.underlying41 rfl (by rw [qp]; rfl) (.int .i64 1) rfl) rfl ⟨none, 0, by rw [HX.out, SE.out, ← Jm]; rfl, by rw [HX.out]; exact zA _ _, E8.out⟩
 have hneI : ((fr : Int) == (tt : Int)) = false := by simpa using (show ¬ ((fr : Int) = (tt : Int)) by omega)
 have HE := jh (show E = (if 65536 < m then 3 else e9) by rw [HE.out, decide_eq_false hft]; rfl); clear hft
 go_upto_region 3 with fail
 clear hneI
 by_cases hlong : 65536 < m
 ·have SE := jh (show E = 3 by rw [HE.out, if_pos hlong]); have hlI : (65536 : Int) < (m : Int) := by omega
  clear hlong; have HX := jh (HX0.out (by rw [SE.out]; decide))
  go_upto_region 4 with fail
  refine wp_region_lit ?_; refine ji (v := .agg G6) rfl (by kernel_rfl) ?_; simp only [Act.put, pa, pb, pc]; refine jy rfl _ _ _ rfl RB _ _ _ HR.out rfl rfl (by rw [qp]; rfl) rfl qV ?_; obtain ⟨w9, e8⟩ := je (KD.setRow RB G6); have D7 : w9.heap[RB]? = some (.cells G6 41 (0, 0)) := by rw [e8]; exact setRow_heap _ _ _ _ _ _ HR.out
  have Z4 : Below w.heap.size w w9 := by rw [e8]; exact below_setRow HB.out HRW.out _
  rw [← e8]; clear e8; have Z9 := jh D7; have E8 := jh Z4; clear D7 Z4
  go_wp2_with fail
  refine bodyPost_ret (jO rfl _ w9 RB _ _ _ _ rfl Z9.out Tryz.underlying41 rfl (by rw [qp]; rfl) (.int .i64 3) rfl) rfl ⟨none, 0, by rw [HX.out, SE.out, ← Jm]; rfl, by rw [HX.out]; exact zA _ _, E8.out⟩
 have HE := jh (show E = e9 by rw [HE.out, if_neg hlong]); have hmI : ¬ (65536 : Int) < (m : Int) := by omega
 clear hlong
 go_upto_region 5 with fail
 have S4 := jh HS.out.lt; have X4 := jh (U0.lt HX.out); have R4 := jh (Array.getElem?_eq_some_iff.1 HR.out).1; have W4 := jh HB.out.size
 go_upto_region 6 with (at_builtin; refine jJ rfl (.const (.slice none 0 0)) (.tmp 42) 30 rfl KD.heap.size 5 i0 (.int .u8 0) 1 1 Tryz.underlying30 HI.out hz0 hz1 hz2 rfl (.slice none 0 0) 0 [] rfl (zA _ _) (.slice ab m cb) m (jp .u8 b) rfl (HKB.out _ HB.out) (by unfold maxLen; omega) (by omega) (Nat.le_refl _) ?_; intro v9 FH ho hg hl; obtain ⟨a2, c2, rfl⟩ := ho.sl; rw [Nat.zero_add, List.nil_append] at ho; have SA := jh ho; have G1 := jh hg; clear ho hg hl; rw [show (0 + m : Nat) = m from Nat.zero_add m])
 have hb : Below KD.heap.size KD FH := (Below.refl _ _).grown G1.out (Nat.le_refl _) (fun k hk => by simp [Value.ownBlock] at hk); have V56 := jh hb.size; have HS := jh (HS.out.later hb); have HX := jn hb HX; have HR := jb hb HR; have HB := jw HB hb; clear hb; have HO := jh (show Own FH KD.heap.size (.slice a2 m c2) b by unfold Own; rw [← Y6.out]; exact SA.out); have ED := jh (show ∀ g, (Value.slice a2 m c2).ownBlock = some g → KD.heap.size ≤ g ∧ g < FH.heap.size from fun g hg => O1.lt HO.out g hg); have H6 := jh (Nat.le_refl FH.heap.size); clear SA G1; obtain ⟨v_7, e9⟩ := je (FH.alloc (.cells #[.int .u8 fr, .int .u8 tt, .slice a2 m c2, .int .u64 0, .int .u64 0, .int .u64 0, .int .u64 0, .int .u64 0, .int .u64 0, .int .u64 0, .int .u64 0] 41)); obtain ⟨FB, h9⟩ := je (FH.heap.size); have hb := jc e9; have HF := jh (show Z7 v_7 FB fr tt (.slice a2 m c2) 0 0 by rw [e9, h9]; exact Z7.new0 _ _ _ _ _); have LFB := jh (show FB < v_7.heap.size by rw [e9, h9]; simp); have WFB := jh (show FH.heap.size = FB from h9.symm); rw [← e9, ← h9]; clear e9 h9; have H6 := jh (Nat.le_trans H6.out hb.size); have HS := jh (HS.out.later hb); have HX := jn hb HX; have HR := jb hb HR; have HB := jw HB hb; have HO := jh (HO.out.later hb); clear hb; have NF := jh (show SB < FB ∧ XB < FB ∧ RB < FB ∧ w.heap.size ≤ FB by have a1 := S4.out; have a2 := X4.out; have a3 := R4.out; have a4 := WFB.out; have a5 := V56.out; have a6 := W4.out; omega); clear LFB; refine jY (.take 0 (.take 1 (.take 3 (.fork 2 (.fork 4 (.take 5 (.take 6 (.take 7 (.step 8 (.step 9 (.take 10 .done)))))) 8 (.step 4 (.take 5 (.take 6 (.take 7 (.step 9 (.take 10 .done))))))) 8 (.step 2 (.step 4 (.take 5 (.take 6 (.take 7 (.step 9 (.take 10 .done))))))))))) (fun w8 => UA w8 SB gp gq gg gh fa se (.slice ao n cap) ∧ U0 w8 XB secret ∧ Z7 w8 FB fr tt (.slice a2 m c2) 0 0) (by kernel_rfl) (by kernel_rfl) (fun _ _ _ _ _ h => h) (⟨HS.out.later ((Below.refl _ _).drew), U0.later ((Below.refl _ _).drew) HX.out, HF.out.later ((Below.refl _ _).drew)⟩) (fun hHeld => ?_); obtain ⟨x1, e1⟩ := je (v_7.drew); rw [← e1]; have hb : Below v_7.heap.size v_7 x1 := by rw [e1]; exact (Below.refl _ _).drew
 have H6 := jh (Nat.le_trans H6.out hb.size); have HS := jh (HS.out.later hb); have HX := jn hb HX; have HR := jb hb HR; have HB := jw HB hb; have HO := jh (HO.out.later hb); have HF := jh (HF.out.later hb); clear hb e1; refine WT.take rfl (Or.inl ⟨by rfl, fun w8 hSw => jg (zV hSw.1)⟩) ?_
 try simp only [Act.put, pa, pb, pc]
 refine WT.take rfl (Or.inl ⟨by rfl, fun w8 hSw => jg (Qz hSw.2.2)⟩) ?_
 try simp only [Act.put, pa, pb, pc]
 refine WT.take rfl (Or.inl ⟨by rfl, fun w8 hSw => jg (qx hSw.2.1)⟩) ?_
 try simp only [Act.put, pa, pb, pc]
 focus
  refine WT.fork rfl rfl (fun K hK => ?_) (fun K hK => ?_)
 rotate_left
 focus
  go_simp
  obtain ⟨x2, e8⟩ := je (x1.alloc (.cells jB 39)); obtain ⟨KB, h9⟩ := je (x1.heap.size); have hb := jc e8; have HK := jh (show x2.heap[KB]? = some (.cells #[.int .u64 0, .int .u64 0, .int .u64 0, .int .u64 0, .int .u64 0, .int .u64 0, .int .u64 0, .int .u64 0] 39 (0, 0)) by rw [e8, h9]; exact heap_alloc_new _ _); have NE := jh (show KB < x2.heap.size by rw [e8, h9]; simp); have WKB := jh (show x1.heap.size = KB from h9.symm); have NK := jh (show SB ≠ KB ∧ XB ≠ KB ∧ RB ≠ KB ∧ FB ≠ KB ∧ FH.heap.size ≤ KB by have a1 := HS.out.lt; have a2 := U0.lt HX.out; have a3 := (Array.getElem?_eq_some_iff.1 HR.out).1; have a4 := HF.out.lt; have a5 := H6.out; omega); have BK := jh (show w.heap.size ≤ KB by rw [h9]; exact HB.out.size); rw [← e8, ← h9]; clear e8 h9; have H6 := jh (Nat.le_trans H6.out hb.size); have HS := jh (HS.out.later hb); have HX := jn hb HX; have HR := jb hb HR; have HB := jw HB hb; have HO := jh (HO.out.later hb); have HF := jh (HF.out.later hb); clear hb; refine hK.out _ _ (⟨HS.out, HX.out, HF.out⟩) (fun hHeld => ?_); clear hK K
  try simp only [Act.put, pa, pb, pc]
 rotate_right
 focus
  go_simp
  refine (CH.out _ _ HO.out.at_).mono ?_; rintro _ x2 ⟨rfl, hb⟩; have H6 := jh (Nat.le_trans H6.out hb.size); have HS := jh (HS.out.later hb); have HX := jn hb HX; have HR := jb hb HR; have HB := jw HB hb; have HO := jh (HO.out.later hb); have HF := jh (HF.out.later hb); clear hb; refine hK.out _ _ (⟨HS.out, HX.out, HF.out⟩) (fun hHeld => ?_); clear hK K
  try simp only [Act.put, pa, pb, pc]
 focus
  refine WT.fork rfl rfl (fun K hK => ?_) (fun K hK => ?_)
 rotate_left
 focus
  go_simp
  obtain ⟨x3, e8⟩ := je (x2.alloc (.cells jB 39)); obtain ⟨KB, h9⟩ := je (x2.heap.size); have hb := jc e8; have HK := jh (show x3.heap[KB]? = some (.cells #[.int .u64 0, .int .u64 0, .int .u64 0, .int .u64 0, .int .u64 0, .int .u64 0, .int .u64 0, .int .u64 0] 39 (0, 0)) by rw [e8, h9]; exact heap_alloc_new _ _); have NE := jh (show KB < x3.heap.size by rw [e8, h9]; simp); have WKB := jh (show x2.heap.size = KB from h9.symm); have NK := jh (show SB ≠ KB ∧ XB ≠ KB ∧ RB ≠ KB ∧ FB ≠ KB ∧ FH.heap.size ≤ KB by have a1 := HS.out.lt; have a2 := U0.lt HX.out; have a3 := (Array.getElem?_eq_some_iff.1 HR.out).1; have a4 := HF.out.lt; have a5 := H6.out; omega); have BK := jh (show w.heap.size ≤ KB by rw [h9]; exact HB.out.size); rw [← e8, ← h9]; clear e8 h9; have H6 := jh (Nat.le_trans H6.out hb.size); have HS := jh (HS.out.later hb); have HX := jn hb HX; have HR := jb hb HR; have HB := jw HB hb; have HO := jh (HO.out.later hb); have HF := jh (HF.out.later hb); clear hb; refine hK.out _ _ (⟨HS.out, HX.out, HF.out⟩) (fun hHeld => ?_); clear hK K
  try simp only [Act.put, pa, pb, pc]
 rotate_right
 focus
  go_simp
  refine (CS.out _).mono ?_; rintro _ x3 ⟨rfl, hb⟩; have H6 := jh (Nat.le_trans H6.out hb.size); have HS := jh (HS.out.later hb); have HX := jn hb HX; have HR := jb hb HR; have HB := jw HB hb; have HO := jh (HO.out.later hb); have HF := jh (HF.out.later hb); clear hb; refine hK.out _ _ (⟨HS.out, HX.out, HF.out⟩) (fun hHeld => ?_); clear hK K
  try simp only [Act.put, pa, pb, pc]
 focus
  refine WT.tk rfl (k := ?_); refine WT.tk rfl (k := ?_); refine WT.tk rfl (k := ?_); refine WT.step rfl (fun K hK => ?_)
  go_simp
  obtain ⟨x4, e8⟩ := je (x3.alloc (.cells jB 39)); obtain ⟨KB, h9⟩ := je (x3.heap.size); have hb := jc e8; have HK := jh (show x4.heap[KB]? = some (.cells #[.int .u64 0, .int .u64 0, .int .u64 0, .int .u64 0, .int .u64 0, .int .u64 0, .int .u64 0, .int .u64 0] 39 (0, 0)) by rw [e8, h9]; exact heap_alloc_new _ _); have NE := jh (show KB < x4.heap.size by rw [e8, h9]; simp); have WKB := jh (show x3.heap.size = KB from h9.symm); have NK := jh (show SB ≠ KB ∧ XB ≠ KB ∧ RB ≠ KB ∧ FB ≠ KB ∧ FH.heap.size ≤ KB by have a1 := HS.out.lt; have a2 := U0.lt HX.out; have a3 := (Array.getElem?_eq_some_iff.1 HR.out).1; have a4 := HF.out.lt; have a5 := H6.out; omega); have BK := jh (show w.heap.size ≤ KB by rw [h9]; exact HB.out.size); rw [← e8, ← h9]; clear e8 h9; have H6 := jh (Nat.le_trans H6.out hb.size); have HS := jh (HS.out.later hb); have HX := jn hb HX; have HR := jb hb HR; have HB := jw HB hb; have HO := jh (HO.out.later hb); have HF := jh (HF.out.later hb); clear hb; refine hK.out _ _ (⟨HS.out, HX.out, HF.out⟩) (fun hHeld => ?_); clear hK K
  try simp only [Act.put, pa, pb, pc]
 rotate_right
 focus
  refine WT.step rfl (fun K hK => ?_)
  go_simp
  refine (CH.out _ _ HO.out.at_).mono ?_; rintro _ x3 ⟨rfl, hb⟩; have H6 := jh (Nat.le_trans H6.out hb.size); have HS := jh (HS.out.later hb); have HX := jn hb HX; have HR := jb hb HR; have HB := jw HB hb; have HO := jh (HO.out.later hb); have HF := jh (HF.out.later hb); have HK := jb hb HK; clear hb; refine hK.out _ _ (⟨HS.out, HX.out, HF.out⟩) (fun hHeld => ?_); clear hK K
  try simp only [Act.put, pa, pb, pc]
 rotate_left
 rotate_right 2
 iterate 2
  focus
   refine WT.step rfl (fun K hK => ?_)
   go_simp
   refine (CS.out _).mono ?_; rintro _ x4 ⟨rfl, hb⟩; have H6 := jh (Nat.le_trans H6.out hb.size); have HS := jh (HS.out.later hb); have HX := jn hb HX; have HR := jb hb HR; have HB := jw HB hb; have HO := jh (HO.out.later hb); have HF := jh (HF.out.later hb); have HK := jb hb HK; clear hb; refine hK.out _ _ (⟨HS.out, HX.out, HF.out⟩) (fun hHeld => ?_); clear hK K
   try simp only [Act.put, pa, pb, pc]
   refine WT.tk rfl (k := ?_); refine WT.tk rfl (k := ?_); refine WT.tk rfl (k := ?_)
  rotate_left
 all_goals (
  refine WT.step rfl (fun K hK => ?_); refine QM (by kernel_rfl) _ _ _ rfl KB _ #[.int .u64 (jf jd C 0), .int .u64 (jf jd C 1), .int .u64 (jf jd C 2), .int .u64 (jf jd C 3), .int .u64 (jf jd G 0), .int .u64 (jf jd G 1), .int .u64 (jf jd G 2), .int .u64 (jf jd G 3)] _ HK.out (by kernel_rfl) (by kernel_rfl) (by rw [qm]; rfl) rfl (by simp [Value.oneCell']) ?_; obtain ⟨x5, e8⟩ := je (x4.setRow KB (jE C G)); have hgs : x4.grownBy x5 (some KB) := by rw [e8]; exact Ji _ _ _
  have HK := jh (show x5.heap[KB]? = some (.cells #[.int .u64 (jf jd C 0), .int .u64 (jf jd C 1), .int .u64 (jf jd C 2), .int .u64 (jf jd C 3), .int .u64 (jf jd G 0), .int .u64 (jf jd G 1), .int .u64 (jf jd G 2), .int .u64 (jf jd G 3)] 39 (0, 0)) by rw [e8]; exact setRow_heap _ _ _ _ _ _ HK.out); rw [← e8]; clear e8; have HS := jh (HS.out.keep hgs (fun e => NK.out.1 (by injection e))); have HX := jh (JE HX.out hgs (fun e => NK.out.2.1 (by injection e))); have HR := jh (qZ HR.out hgs (fun e => NK.out.2.2.1 (by injection e))); have HF := jh (HF.out.keep9 hgs NK.out.2.2.2.1); have HO := jh (HO.out.kept hgs (.inr (fun e => by have h7 := ED.out _ e; have h8 := NK.out.2.2.2.2; omega))); have HB := jh (HB.out.grown hgs HB.out.size (fun q hq => by have e7 : KB = q := (by injection hq); rw [← e7]; exact BK.out)); have H6 := jh (Nat.le_trans H6.out hgs.size); clear hgs; refine hK.out _ _ (⟨HS.out, HX.out, HF.out⟩) (fun hHeld => ?_); clear hK K
  try simp only [Act.put, pa, pb, pc]
  refine WT.tk rfl (k := ?_); refine WT.done ?_; clear hHeld
  rcases h01 with rfl | rfl
  ·have HX9 := jh (HX1.out HE.out)
   go_upto_region 9 with fail
   refine wp_region_lit ?_; refine wpList_load_row rfl _ _ rfl KB rfl _ _ _ _ HK.out Tryz.underlying39 rfl (by rw [qm]; rfl) ?_; simp only [Act.put, pa, pb, pc]; refine ji (v := .pointer (some ⟨FB, 3, none⟩)) rfl (by kernel_rfl) ?_; simp only [Act.put, pa, pb, pc]; have y3 := HF.out.c 0 (by decide); have y4 := HF.out.c 1 (by decide); have y5 := HF.out.c 2 (by decide); have y6 := HF.out.c 3 (by decide); have y7 := HF.out.s 0 (by decide); have y8 := HF.out.s 1 (by decide); have y9 := HF.out.s 2 (by decide); have KJ := HF.out.s 3 (by decide); have z3 := HF.out.free 3 (by decide); have z4 := HF.out.free 4 (by decide); have z5 := HF.out.free 5 (by decide); have z6 := HF.out.free 6 (by decide); have z7 := HF.out.free 7 (by decide); have z8 := HF.out.free 8 (by decide); have z9 := HF.out.free 9 (by decide); have z10 := HF.out.free 10 (by decide); simp only [Nat.reduceAdd] at y3 y4 y5 y6 y7 y8 y9 KJ
   go_upto_region 10 with fail
   clear y3 z3 y4 z4 y5 z5 y6 z6 y7 z7 y8 z8 y9 z9 KJ z10; obtain ⟨u9, e8⟩ := je ((((((((x5.setCell ⟨FB, 3, none⟩ (.int .u64 (jf jd C 0))).setCell ⟨FB, 4, none⟩ (.int .u64 (jf jd C 1))).setCell ⟨FB, 5, none⟩ (.int .u64 (jf jd C 2))).setCell ⟨FB, 6, none⟩ (.int .u64 (jf jd C 3))).setCell ⟨FB, 7, none⟩ (.int .u64 (jf jd G 0))).setCell ⟨FB, 8, none⟩ (.int .u64 (jf jd G 1))).setCell ⟨FB, 9, none⟩ (.int .u64 (jf jd G 2))).setCell ⟨FB, 10, none⟩ (.int .u64 (jf jd G 3))); have hgs : x5.grownBy u9 (some FB) := by rw [e8]; exact (jx (jx (jx (jx (jx (jx (jx (jx (World.grownBy.refl x5 (some FB)) 3 _) 4 _) 5 _) 6 _) 7 _) 8 _) 9 _) 10 _)
   have HF := jh (show Z7 u9 FB fr tt (.slice a2 m c2) C G by rw [e8]; exact HF.out.sign C G); rw [← e8]; clear e8; have HR := jh (qZ HR.out hgs (fun e => by injection e with e; have := NF.out; omega)); have HO := jh (HO.out.kept hgs (.inr (fun e => by have h7 := ED.out _ e; have h8 := WFB.out; omega))); have HB := jh (HB.out.grown hgs HB.out.size (fun q hq => by injection hq with hq; have := NF.out; omega)); clear hgs; refine wp_region_lit ?_; refine ji rfl (jg (Qz HF.out)) ?_; simp only [Act.put, pa, pb, pc]; refine jy rfl _ _ _ rfl RB _ _ _ HR.out rfl rfl (by rw [qp]; rfl) rfl (by simp [Value.oneCell']) ?_; simp only [Act.put, pa, pb, pc]; obtain ⟨T9, I8⟩ : ∃ T9 : Array Value, T9 = #[.int .u8 fr, .int .u8 tt, .slice a2 m c2, .int .u64 (jf jd C 0), .int .u64 (jf jd C 1), .int .u64 (jf jd C 2), .int .u64 (jf jd C 3), .int .u64 (jf jd G 0), .int .u64 (jf jd G 1), .int .u64 (jf jd G 2), .int .u64 (jf jd G 3)] := ⟨_, rfl⟩; have hs9 : (Tryz.prog.info? 41).map (·.size) = some T9.size := by rw [qp, I8]; rfl
   obtain ⟨w9, e8⟩ := je (u9.setRow RB #[.int .u8 fr, .int .u8 tt, .slice a2 m c2, .int .u64 (jf jd C 0), .int .u64 (jf jd C 1), .int .u64 (jf jd C 2), .int .u64 (jf jd C 3), .int .u64 (jf jd G 0), .int .u64 (jf jd G 1), .int .u64 (jf jd G 2), .int .u64 (jf jd G 3)]); have D7 : w9.heap[RB]? = some (.cells T9 41 (0, 0)) := by rw [e8, I8]; exact setRow_heap _ _ _ _ _ _ HR.out
   have Z4 : Below w.heap.size w w9 := by rw [e8]; exact below_setRow HB.out HRW.out _
   have ho9 : Own w9 KD.heap.size (.slice a2 m c2) b := by rw [e8]; exact HO.out.kept (Ji _ _ _) (.inr (fun e => by have h7 := ED.out _ e; have h8 := R4.out; omega))
   rw [← e8]; clear e8; have Z9 := jh D7; have E8 := jh Z4; have HO9 := jh ho9; have OE := jh I8; clear D7 Z4 ho9 I8
   go_wp2_with fail
   refine bodyPost_ret (jO rfl _ w9 RB _ _ _ _ rfl Z9.out Tryz.underlying41 rfl hs9 (.int .i64 0) rfl) rfl ⟨a2, c2, by rw [HX9.out, HE.out, OE.out]; unfold Fm.v; dsimp only; rw [← Y6.out]; rfl, by rw [HX9.out]; dsimp only; rw [← Y6.out]; exact HO9.out.base W4.out, E8.out⟩
  ·have SE := jh (show E = 1 by rw [HE.out]); have HX := jh (HX0.out (by rw [SE.out]; decide))
   go_upto_region 8 with fail
   refine wp_region_lit ?_; refine ji (v := .agg G6) rfl (by kernel_rfl) ?_; simp only [Act.put, pa, pb, pc]; refine ji (v := .int .i64 1) rfl (by kernel_rfl) ?_; simp only [Act.put, pa, pb, pc]; refine jy rfl _ _ _ rfl RB _ _ _ HR.out rfl rfl (by rw [qp]; rfl) rfl qV ?_; obtain ⟨w9, e8⟩ := je (x5.setRow RB G6); have D7 : w9.heap[RB]? = some (.cells G6 41 (0, 0)) := by rw [e8]; exact setRow_heap _ _ _ _ _ _ HR.out
   have Z4 : Below w.heap.size w w9 := by rw [e8]; exact below_setRow HB.out HRW.out _
   rw [← e8]; clear e8; have Z9 := jh D7; have E8 := jh Z4; clear D7 Z4
   go_wp2_with fail
   refine bodyPost_ret (jO rfl _ w9 RB _ _ _ _ rfl Z9.out Tryz.underlying41 rfl (by rw [qp]; rfl) (.int .i64 1) rfl) rfl ⟨none, 0, by rw [HX.out, SE.out, ← Jm]; rfl, by rw [HX.out]; exact zA _ _, E8.out⟩)
end Go.Proofs.YtmijablfjigbhaaGreatDoor
