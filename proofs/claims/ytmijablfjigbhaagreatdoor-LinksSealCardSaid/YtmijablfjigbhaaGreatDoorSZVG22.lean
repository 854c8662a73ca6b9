/- The reference's Put, PutLong, PutBytes -/
import Derived.Test.YtmijablfjigbhaaGreatDoorSZVG04
set_option maxHeartbeats 3000000
set_option maxRecDepth 20000
namespace Go.Proofs.YtmijablfjigbhaaGreatDoor
open Go.ChangeShapes Go.WideShapes Go.ChangeAt Go.RowKit
def DI (n : Nat) : Nat → List Nat
 | 0 => []
 | i + 1 => DI n i ++ [n / 256 ^ i % 256]
theorem dG (n : Nat) : ∀ i, (DI n i).length = i
 | 0 => rfl
 | i + 1 => by rw [DI, List.length_append, dG n i]; rfl
theorem wP (n : Nat) : ∀ {i p : Nat}, p < i → (DI n i)[p]? = some (n / 256 ^ p % 256)
 | i + 1, p, h => by
  have hl := dG n i
  by_cases hp : p < i
  ·rw [DI, List.getElem?_append_left (by omega), wP n hp]
  ·obtain rfl : p = i := by omega
   rw [DI, List.getElem?_append_right (by omega), hl]
   simp
theorem div_next (n i : Nat) : n / 256 ^ i / 256 = n / 256 ^ (i + 1) := by rw [Nat.div_div_eq_div_mul, Nat.pow_succ]
theorem RPut_M {b : List Nat} {a : Option Addr} {n0 c : Nat} (w : World) (E0 : Hid (b.length = n0)) (hv : J6 .u8 w (.slice a n0 c) b) (n : Nat) (hn : n < 18446744073709551616) (bytes : Int) (mx M : Nat) (hM8 : M ≤ 8) (hsz : n0 + 8 ≤ 140737488355328)
  (hmx : ∀ w, (Builtin.max_ #[3, 3] 3 #[.int .i64 0, .int .i64 bytes]).run Tryz.prog w = .ok (.int .i64 mx) w) (hmn : ∀ w, (Builtin.min_ #[3, 3] 3 #[.int .i64 8, .int .i64 mx]).run Tryz.prog w = .ok (.int .i64 M) w) :
  Calls Tryz.prog 110 #[.slice a n0 c, .int .u64 n, .int .i64 bytes] w fun e w' => ∃ a' c', e = .returned (.slice a' (n0 + M) c') ∧ O1 w' w.heap.size 5 1 (.slice a' (n0 + M) c') (n0 + M) (jp .u8 (b ++ be M n)) ∧ Below w.heap.size w w' := by
 obtain ⟨i0, hi, hz0, hz1, hz2⟩ := info_parts QI; have HI := jh hi; have HE := jh (zA w w.heap.size); have hsrc := hv.src; rw [E0.out] at hsrc; have HS := jh hsrc; have hn64 : n ≤ 18446744073709551615 := by omega
 clear hi hv hsrc
 go_enter Tryz.func110, Tryz.ntmps110
 go_wp2_with (at_builtin; refine jJ rfl (.const (.slice none 0 0)) (.tmp 12) 30 rfl w.heap.size 5 i0 (.int .u8 0) 1 1 Tryz.underlying30 HI.out hz0 hz1 hz2 rfl (.slice none 0 0) 0 [] rfl HE.out (.slice a n0 c) n0 (jp .u8 b) rfl HS.out (by unfold maxLen; omega) (by omega) (Nat.le_refl _) ?_
              intro v7 w1 ho hg hl; obtain ⟨a7, c7, rfl⟩ := ho.sl; have HO := jh (show O1 w1 w.heap.size 5 1 (.slice a7 (0 + n0) c7) (0 + n0) (jp .u8 b) from ho); have HB1 := jh ((Below.refl w.heap.size w).grown hg (Nat.le_refl _) (fun k hk => by simp [Value.ownBlock] at hk))
              clear ho hg hl)
 have ho7 := HO.out; rw [Nat.zero_add] at ho7; have sO := jh ho7; have H7B := jh (fun g hg => (O1.lt ho7 g hg).2); have hs01 := HB1.out.size; clear ho7 HO HE HS
 go_loopw [1, 9, 10] (fun u v i wr => ∃ i' : Nat, i' ≤ M ∧ i = .int .i64 i' ∧ u = .int .u64 (n / 256 ^ i' : Nat) ∧ O1 wr w1.heap.size 5 1 v i' (jp .u8 (DI n i')) ∧ Below w1.heap.size w1 wr) (fun _ _ i _ => M - (intOf i).toNat)
 case atStart => exact ⟨0, Nat.zero_le _, rfl, by simp, zA _ _, Below.refl _ _⟩
 case round =>
  obtain ⟨i, hi, rfl, rfl, hown, hbel⟩ := hrel; obtain ⟨wo, rfl⟩ : ∃ wo : World, wo = wr := ⟨_, rfl⟩; obtain ⟨a9, c9, rfl⟩ := hown.sl; have HP := jh hown; have HB := jh hbel; have hs1o := hbel.size; clear hown hbel
  by_cases hlt : i < M
  ·have hdl : n / 256 ^ i ≤ n := Nat.div_le_self _ _; have HDN := jh (div_next n i); have XQ := jh (show DI n (i + 1) = DI n i ++ [n / 256 ^ i % 256] from rfl); obtain ⟨q, hq⟩ := je (n / 256 ^ i); rw [← hq] at HDN XQ hdl ⊢; clear hq hmx hmn
   go_wp2_with (at_builtin; refine jJ rfl (.tmp 22) (.tmp 26) 30 rfl w1.heap.size 5 i0 (.int .u8 0) 1 1 Tryz.underlying30 HI.out hz0 hz1 hz2 rfl (.slice a9 i c9) i (jp .u8 (DI n i)) rfl (O1.later HP.out (ja)) (.slice (some ⟨wo.heap.size, 0, none⟩) 1 1) 1 [.int .u8 ((q : Int) % 256)] rfl (Zc _ _ _) (by unfold maxLen; omega) (by omega) (by simp; omega) ?_
                intro v3 w3 ho3 hg3 hl3; have UY := jh ho3; have HG3 := jh hg3
                clear ho3 hg3 hl3)
   go_roundw
   case rel => exact ⟨i + 1, by omega, by go_num, by rw [← HDN.out]; exact congrArg (Value.int .u64) (by simp), by
    rw [XQ.out, jV, show jp .u8 [q % 256] = [.int .u8 ((q : Int) % 256)] by simp [jp]]
    exact UY.out, (HB.out.alloc hs1o _).grown HG3.out (by simp; omega) (fun g hg => (O1.lt HP.out g hg).1)⟩
   case measure => simp [intOf]; omega
  ·obtain rfl : i = M := by omega
   clear hlt hmx hmn; obtain ⟨q0, hq0⟩ : ∃ q : Nat, q = n / 256 ^ i := ⟨_, rfl⟩; rw [← hq0]; clear hq0; have W9 := jh (O1.later (sO.out) HB.out); have xB := jh (fun g hg => O1.lt HP.out g hg); have HBO := jh (qH HB1.out HB.out); have hapart : ∀ g, (Value.slice a9 i c9).ownBlock = some g → (Value.slice a7 n0 c7).ownBlock ≠ some g := fun g hg e => by have := xB.out g hg; have := H7B.out g e; omega
   have HAP := jh hapart; clear hapart
   go_wp2
   go_loopw [7, 11] (fun v j wr => ∃ j' : Nat, j' ≤ i ∧ j = .int .i64 ((i : Int) - 1 - j') ∧ O1 wr w.heap.size 5 1 v (n0 + j') (jp .u8 (b ++ (be i n).take j')) ∧ O1 wr w1.heap.size 5 1 (.slice a9 i c9) i (jp .u8 (DI n i)) ∧ (∀ g, (Value.slice a9 i c9).ownBlock = some g → v.ownBlock ≠ some g) ∧ Below w.heap.size w wr) (fun _ j _ => (intOf j + 1).toNat)
   case atStart => exact ⟨0, Nat.zero_le _, by go_num, by simpa using W9.out, HP.out, HAP.out, HBO.out⟩
   case round =>
    obtain ⟨j, hj, rfl, hout, hlow, hap, hbl⟩ := hrel; obtain ⟨wq, rfl⟩ : ∃ wq : World, wq = wr := ⟨_, rfl⟩; obtain ⟨a8, c8, rfl⟩ := hout.sl; have HOUT := jh hout; have HLOW := jh hlow; have HAPP := jh hap; have KG := jh hbl; have hsl := hbl.size; clear hap hbl hout
    by_cases hlt : j < i
    ·have hin : i - 1 - j < i := by omega
     have hidx : (i : Int) - 1 - j = ((i - 1 - j : Nat) : Int) := by omega
     have hbyte := wP n hin; have hh := hlow.2
     rcases hh with ⟨_, hh⟩ | ⟨g, o, cap, cur, hh, hg1, hg2, hg3, hg4, _⟩
     ·omega
     cases hh
     have hc := O1.cells hlow (i - 1 - j) (.int .u8 ((n / 256 ^ (i - 1 - j) % 256 : Nat) : Int)) (by rw [qv, hbyte]; rfl); rw [Addr.add_lit] at hc; have hltg : g < wq.heap.size := (Array.getElem?_eq_some_iff.1 hg2).1; have HTS := jh (JB (k := i) (x := n) hlt); obtain ⟨q, hq⟩ := je (n / 256 ^ (i - 1 - j) % 256); rw [← hq] at hc HTS; rw [hidx]; unfold maxLen at hg4; obtain ⟨p, hp⟩ := je (i - 1 - j); rw [← hp] at hc hin ⊢; have hpi : p + j + 1 = i := by omega
     clear hq hbyte hlow hg2 hidx hp
     go_wp2_with (at_builtin; refine jJ rfl (.tmp 36) (.tmp 41) 30 rfl w.heap.size 5 i0 (.int .u8 0) 1 1 Tryz.underlying30 HI.out hz0 hz1 hz2 rfl (.slice a8 (n0 + j) c8) (n0 + j) (jp .u8 (b ++ (be i n).take j)) rfl (O1.later HOUT.out (ja)) (.slice (some ⟨wq.heap.size, 0, none⟩) 1 1) 1 [.int .u8 (q : Int)] rfl (Zc _ _ _) (by unfold maxLen; omega) (by omega) (by simp; omega) ?_
                  intro v3 w3 ho3 hg3 hl3; have UY := jh ho3; have HG3 := jh hg3; have HL3 := jh hl3
                  clear ho3 hg3 hl3)
     go_roundw
     case rel => exact ⟨j + 1, by omega, by go_num, by
      rw [HTS.out, ← List.append_assoc, jV, show jp .u8 [q] = [.int .u8 (q : Int)] from rfl]
      exact UY.out, O1.kept (O1.later HLOW.out (ja)) HG3.out (.inr (fun e => HAPP.out g rfl (by rw [← e]; rfl))), fun g9 UC => by
       cases UC
       exact ZI HL3.out (HAPP.out g rfl) (by simp; omega), (KG.out.alloc hsl _).grown HG3.out (by simp; omega) (fun k hk => (O1.lt HOUT.out k hk).1)⟩
     case measure => simp [intOf]
    ·obtain rfl : j = i := by omega
     clear hlt hlow
     go_wp2
     go_ret
     exact ⟨_, _, rfl, by have h := HOUT.out; rwa [List.take_of_length_le (by rw [jH]; exact Nat.le_refl _)] at h, KG.out⟩
theorem vJ {b : List Nat} {v : Value} (w : World) (hv : J6 .u8 w v b) (n : Nat) (hn : n < 18446744073709551616) (bytes : Int) (hsz : b.length + 8 ≤ 140737488355328) :
  Calls Tryz.prog 110 #[v, .int .u64 n, .int .i64 bytes] w fun e w' => ∃ v', e = .returned v' ∧ Own w' w.heap.size v' (b ++ be (many bytes) n) ∧ Below w.heap.size w w' := by
 have hv' := hv; obtain ⟨a, c, rfl, _⟩ := hv'
 have hmx : ∃ mx : Nat, (∀ w, (Builtin.max_ #[3, 3] 3 #[.int .i64 0, .int .i64 bytes]).run Tryz.prog w = .ok (.int .i64 mx) w) ∧ mx = (max 0 bytes).toNat := by
  refine ⟨_, fun w => ?_, rfl⟩; rw [run_max_int2, show (if bytes > 0 then bytes else 0) = (((max 0 bytes).toNat : Nat) : Int) from by split <;> omega]
 obtain ⟨mx, hmx, emx⟩ := hmx
 have hmn : ∀ w, (Builtin.min_ #[3, 3] 3 #[.int .i64 8, .int .i64 mx]).run Tryz.prog w = .ok (.int .i64 (many bytes : Nat)) w := by
  intro w; have e : many bytes = min 8 mx := by unfold many; omega
  rw [e, run_min_int2, show (if (mx : Int) < 8 then (mx : Int) else 8) = ((min 8 mx : Nat) : Int) from by split <;> omega]
 refine (RPut_M w (jh rfl) hv n hn bytes mx (many bytes) (dV bytes) hsz hmx hmn).mono ?_; rintro e w' ⟨a', c', he, ho, hb⟩; refine ⟨_, he, ?_, hb⟩; unfold Own; rw [show (b ++ be (many bytes) n).length = b.length + many bytes by rw [List.length_append, jH]]; exact ho
theorem KL {w : World} {base n : Nat} {v : Value} {l : List Nat} (h : Own w base v l) (hn : l.length = n) : ∃ a c, v = .slice a n c := by
 unfold Own at h; rw [hn] at h; exact h.sl
theorem cO {b : List Nat} {v : Value} (w : World) (hv : J6 .u8 w v b) (x0 x1 x2 x3 : Nat) (h0 : x0 < 18446744073709551616) (h1 : x1 < 18446744073709551616) (h2 : x2 < 18446744073709551616) (h3 : x3 < 18446744073709551616) (hsz : b.length + 32 ≤ 140737488355328) :
  Calls Tryz.prog 34 #[v, .agg #[.int .u64 x0, .int .u64 x1, .int .u64 x2, .int .u64 x3]] w fun e w' => ∃ v', e = .returned v' ∧ Own w' w.heap.size v' (b ++ (be 8 x3 ++ (be 8 x2 ++ (be 8 x1 ++ be 8 x0)))) ∧ Below w.heap.size w w' := by
 have HG := jh (fun (l : List Nat) (n : Nat) (en : l.length = n) (v' : Value) (w1 : World) (hv' : J6 .u8 w1 v' l) (x : Nat) (hx : x < 18446744073709551616) (hl : n + 8 ≤ 140737488355328) =>
  (show Calls Tryz.prog 110 #[v', .int .u64 x, .int .i64 8] w1 fun e w' => ∃ a' c' r, e = .returned (.slice a' (n + 8) c') ∧ l ++ be 8 x = r ∧ Own w' w1.heap.size (.slice a' (n + 8) c') r ∧ Below w1.heap.size w1 w' from (vJ w1 hv' x hx 8 (by omega)).mono (by
   rintro _ w' ⟨v2, rfl, ho, hb⟩; obtain ⟨a2, c2, rfl⟩ := KL (n := n + 8) ho (by rw [List.length_append, jH, en]; rfl)
   exact ⟨a2, c2, _, rfl, rfl, ho, hb⟩)))
 have HV := jh hv; obtain ⟨a, c, rfl, _⟩ := hv; obtain ⟨n, en⟩ : ∃ n, Hid (b.length = n) := ⟨_, jh rfl⟩; rw [en.out] at HV hsz ⊢
 go_enter Tryz.func34, Tryz.ntmps34
 go_wp2
 obtain ⟨w1, e1⟩ : ∃ w1 : World, w1 = w.alloc (.cells #[.int .u64 x0, .int .u64 x1, .int .u64 x2, .int .u64 x3] 24) := ⟨_, rfl⟩; have hb1 := jc e1; have P1 := jh (show Four w1 w.heap.size x0 x1 x2 x3 by rw [e1]; exact Four.new _ _ _ _ _ _); rw [← e1]; clear e1; have HB1 := jh hb1; have hs1 := hb1.size; have V1 := jh (HV.out.later hb1); clear hb1 HV; refine wp_loop_rounds 5 ?_; rw [rounds_succ]; obtain ⟨p0, p1, p2, p3⟩ := P1.out
 go_wp2_with fail
 clear p0 p1 p2 p3; refine (HG.out b (n) en.out _ w1 V1.out x3 h3 (by omega)).mono ?_; rintro _ w2 ⟨a2, c2, l2, rfl, el, ho, hb⟩; have O2 := jh ho; have HB2 := jh (qH HB1.out hb); have P2 := jh (P1.out.later hb); have E2 := jh el; have N2 := jh (show l2.length = n + 8 by rw [← el, List.length_append, jH, en.out]); have hs2 := hb.size; clear ho hb el HB1 P1 V1
 go_wp2_with fail
 rw [rounds_succ]; obtain ⟨p0, p1, p2, p3⟩ := P2.out
 go_wp2_with fail
 clear p0 p1 p2 p3; refine (HG.out l2 (n + 8) N2.out _ w2 O2.out.at_ x2 h2 (by omega)).mono ?_; rintro _ w3 ⟨a3, c3, l3, rfl, el, ho, hb⟩; have O3 := jh ho; have HB3 := jh (qH HB2.out hb); have P3 := jh (P2.out.later hb); have E3 := jh el; have N3 := jh (show l3.length = n + 8 + 8 by rw [← el, List.length_append, jH, N2.out]); have hs3 := hb.size; clear ho hb el HB2 P2 O2
 go_wp2_with fail
 rw [rounds_succ]; obtain ⟨p0, p1, p2, p3⟩ := P3.out
 go_wp2_with fail
 clear p0 p1 p2 p3; refine (HG.out l3 (n + 8 + 8) N3.out _ w3 O3.out.at_ x1 h1 (by omega)).mono ?_; rintro _ w4 ⟨a4, c4, l4, rfl, el, ho, hb⟩; have O4 := jh ho; have HB4 := jh (qH HB3.out hb); have P4 := jh (P3.out.later hb); have E4 := jh el; have N4 := jh (show l4.length = n + 8 + 8 + 8 by rw [← el, List.length_append, jH, N3.out]); have hs4 := hb.size; clear ho hb el HB3 P3 O3
 go_wp2_with fail
 rw [rounds_succ]; obtain ⟨p0, p1, p2, p3⟩ := P4.out
 go_wp2_with fail
 clear p0 p1 p2 p3; refine (HG.out l4 (n + 8 + 8 + 8) N4.out _ w4 O4.out.at_ x0 h0 (by omega)).mono ?_; rintro _ w5 ⟨a5, c5, l5, rfl, el, ho, hb⟩; have O5 := jh ho; have HB5 := jh (qH HB4.out hb); have P5 := jh (P4.out.later hb); have E5 := jh el; have N5 := jh (show l5.length = n + 8 + 8 + 8 + 8 by rw [← el, List.length_append, jH, N4.out]); have hs5 := hb.size; clear ho hb el HB4 P4 O4
 go_wp2_with fail
 rw [rounds_succ]
 go_wp2_with fail
 go_ret
 refine ⟨_, rfl, ?_, HB5.out⟩; have h := O5.out.base (B' := w.heap.size) (by omega); rw [← E5.out, ← E4.out, ← E3.out, ← E2.out] at h
 simpa using h
theorem ZC {b l : List Nat} {v u : Value} (w : World) (hv : J6 .u8 w v b) (hu : J6 .u8 w u l) (hsz : b.length + 8 + l.length ≤ 140737488355328) :
  Calls Tryz.prog 191 #[v, u] w fun e w' => ∃ v', e = .returned v' ∧ Own w' w.heap.size v' (b ++ (be 4 l.length ++ l)) ∧ Below w.heap.size w w' := by
 have HP := jh (vJ w hv l.length (by omega) 4 (by omega)); have HU := jh hu; obtain ⟨i0, hi, hz0, hz1, hz2⟩ := info_parts QI; have HI := jh hi; have hu' := hu; obtain ⟨au, cu, rfl, hcu⟩ := hu'; obtain ⟨n, en⟩ : ∃ n, Hid (l.length = n) := ⟨_, jh rfl⟩; have hn : n = l.length := en.out.symm; rw [en.out] at HP HU hcu ⊢; have hln : n ≤ 9223372036854775807 := by omega
 have hln2 : b.length + 8 + n ≤ 140737488355328 := by omega
 clear hi hu hv hsz hn hcu
 go_enter Tryz.func191, Tryz.ntmps191
 go_wp2_with fail
 refine (HP.out).mono ?_; rintro _ w1 ⟨v1, rfl, ho, hb⟩; have hl1 : (b ++ be (many 4) n).length = b.length + 4 := by rw [List.length_append, jH]; rfl
 obtain ⟨a1, c1, rfl⟩ := KL ho hl1; have ho' : O1 w1 w.heap.size 5 1 (.slice a1 (b.length + 4) c1) (b.length + 4) (jp .u8 (b ++ be 4 n)) := by unfold Own at ho; rw [hl1] at ho; exact ho
 have HO := jh ho'; have hs := (HU.out.later hb).src; rw [en.out] at hs; have HS := jh hs; have HB := jh hb; have L8 := jh (fun g hg => (O1.lt ho' g hg)); have hs1 := hb.size; clear ho ho' hb hs hl1 HP HU
 go_wp2_with (at_builtin; refine zU rfl _ _ 30 rfl w.heap.size 5 i0 (.int .u8 0) 1 1 Tryz.underlying30 HI.out hz0 hz1 hz2 rfl (.slice a1 (b.length + 4) c1) (b.length + 4) (jp .u8 (b ++ be 4 n)) rfl HO.out (.slice au n cu) n (jp .u8 l) rfl HS.out (by unfold maxLen; omega) (by omega) hs1 ?_; intro v' w2 ho hg; have U9 := jh ho; have HGr := jh hg; clear ho hg)
 obtain ⟨a7, c7, rfl⟩ := U9.out.sl
 go_ret
 exact ⟨_, rfl, by have h1 := U9.out; unfold Own; rw [show (b ++ (be 4 n ++ l)).length = b.length + 4 + n by simp [jH, en.out]; omega, ← List.append_assoc, jV]; exact h1, HB.out.grown HGr.out hs1 (fun k hk => (L8.out k hk).1)⟩
end Go.Proofs.YtmijablfjigbhaaGreatDoor
