/- Layers 4, 9, 13 -/
import Derived.Test.YtmijablfjigbhaaGreatDoorSZVG31
import Derived.Deep.DeepCutAuto
import Derived.Test.YtmijablfjigbhaaGreatDoorSZVG32
set_option linter.unusedSimpArgs false
set_option linter.unusedVariables false
set_option maxHeartbeats 4000000
set_option maxRecDepth 100000
namespace Go.Proofs.YtmijablfjigbhaaGreatDoor
open Go.ChangeShapes Go.WideShapes Go.ChangeAt Go.RowKit
def qd (gp gq gg gh : Nat) : Value := .agg #[.int .u64 (jf jd gp 0), .int .u64 (jf jd gp 1), .int .u64 (jf jd gp 2), .int .u64 (jf jd gp 3), .int .u64 (jf jd gq 0), .int .u64 (jf jd gq 1), .int .u64 (jf jd gq 2), .int .u64 (jf jd gq 3), .int .u64 (jf jd gg 0), .int .u64 (jf jd gg 1), .int .u64 (jf jd gg 2), .int .u64 (jf jd gg 3), .int .u64 (jf jd gh 0), .int .u64 (jf jd gh 1), .int .u64 (jf jd gh 2), .int .u64 (jf jd gh 3)]
def YJ (gp gq a : Nat) : Prop := Jq gp a ∧ a ^ gq % gp = 1
instance (gp gq a : Nat) : Decidable (YJ gp gq a) := by unfold YJ; exact inferInstance
theorem in_yes {gp gq gg gh a : Nat} (h : Jq gp a) (G9 : a < jo) (hq : gq < jo) (hm : gp < jo) (w : World) :
  Calls Tryz.prog 161 #[qd gp gq gg gh, jj a] w fun e w' => e = .returned (.bool (decide (YJ gp gq a))) ∧ Below w.heap.size w w' := by
 unfold qd; obtain ⟨x, hx⟩ := je (a ^ gq % gp); have hxl : x < jo := by rw [hx]; exact Nat.lt_trans (Nat.mod_lt _ (by have := h.1; omega)) hm
 have CE := jh (fun w => by have h9 := kE (gq := gq) (gg := gg) (gh := gh) h G9 hq hm w; rw [← hx] at h9; unfold jj words at h9; exact h9); have heq := zp x 1 hxl (by decide); obtain ⟨d, hd⟩ := je (decide (x = 1)); have hdd : decide (YJ gp gq a) = d := by rw [hd]; exact decide_eq_decide.2 ⟨fun h9 => hx.trans h9.2, fun h9 => ⟨h, hx.symm.trans h9⟩⟩
 rw [hdd]; rw [← hd] at heq; have C1 := jh (fun w => by have h := zx 1 1 rfl (by decide) w; unfold jj words at h; exact h); clear hx hxl hd hdd; clear h G9 hq hm; unfold jj words
 go_enter Tryz.func161, Tryz.ntmps161
 go_wp2_with fail
 obtain ⟨w0, GG, e0, s0, P7, g0, HB0⟩ := JR w 26 gp gq gg gh; rw [e0, s0, P7]; clear e0 s0 P7; obtain ⟨wz, AA, e9, J5, J3, B, V8, Y9, sF, U1⟩ := Zp w0 24 a; rw [e9, J5]; clear e9 J5; clear g0; refine (CE.out _).mono ?_; rintro _ w2 ⟨rfl, hb⟩; have B := jw B hb; clear hb U1 J3
 go_upto_region 2 with fail
 obtain ⟨w3, e3⟩ := je (w2.alloc (.cells (jD x) 24)); obtain ⟨XX, KT⟩ := je (w2.heap.size); have hb := jc e3; have VA := jh (show U0 w3 XX x by rw [e3, KT]; exact U0.new _ _ _ _ rfl); have U1 : XX < w3.heap.size := VA.out.lt; have B := jw B hb; rw [← e3, ← KT]; clear e3 KT hb; refine js 7 (fun _ => none) (by kernel_rfl) (by kernel_rfl) (fun _ _ _ _ _ h => h) (fun F X8 hcl hbl => ?_); have mD := jr hbl VA 0 (by omega); have lD := jr hbl VA 1 (by omega); have kD := jr hbl VA 2 (by omega); have iD := jr hbl VA 3 (by omega); have U5 := jh hcl; clear hcl hbl; refine jN 7 0 _ _ (fun _ _ _ => rfl) (by decide) ?_; simp only [List.take_succ_cons, List.take_zero, List.drop_succ_cons, List.drop_zero, Nat.reduceAdd]
 repeat (go_big_quiet_step ((first | (go_at_call 194; with_reducible exact jq U5.out (C1.out _)))))
 refine wpQuiet_nil ?_; refine jR ?_; intro bs w4 hb _ _; clear mD lD kD iD; obtain ⟨VA, U1, B⟩ := Zn hb VA U1 B; clear hb; simp only [over]
 go_wp2_with fail
 refine bodyPost_ret (v := .bool d) ?_ rfl ⟨rfl, jk HB0.out B.out⟩
 simp [results, Tryz.results161, go_sem]
theorem in_no {gp gq gg gh a : Nat} (h : ¬ Jq gp a) (G9 : a < jo) (hq : gq < jo) (hm : gp < jo) (w : World) :
  Calls Tryz.prog 161 #[qd gp gq gg gh, jj a] w fun e w' => e = .returned (.bool (decide (YJ gp gq a))) ∧ Below w.heap.size w w' := by
 unfold qd; obtain ⟨x, hx⟩ := je (0); have hx2 : jj 0 = jj x := by rw [hx]
 have CE := jh (fun w => by have h9 := nV (gq := gq) (gg := gg) (gh := gh) h G9 hq hm w; rw [hx2] at h9; unfold jj words at h9; exact h9); have hdd : decide (YJ gp gq a) = false := decide_eq_false (fun h9 => h h9.1); rw [hdd]; have C1 := jh (fun w => by have h := zx 1 1 rfl (by decide) w; unfold jj words at h; exact h); clear hdd hx hx2; clear h G9 hq hm; unfold jj words
 go_enter Tryz.func161, Tryz.ntmps161
 go_wp2_with fail
 obtain ⟨w0, GG, e0, s0, P7, g0, HB0⟩ := JR w 26 gp gq gg gh; rw [e0, s0, P7]; clear e0 s0 P7; obtain ⟨wz, AA, e9, J5, J3, B, V8, Y9, sF, U1⟩ := Zp w0 24 a; rw [e9, J5]; clear e9 J5; clear g0; refine (CE.out _).mono ?_; rintro _ w2 ⟨rfl, hb⟩; have B := jw B hb; clear hb U1 J3
 go_upto_region 2 with fail
 obtain ⟨w3, e3⟩ := je (w2.alloc (.cells (jD x) 24)); obtain ⟨XX, KT⟩ := je (w2.heap.size); have hb := jc e3; have VA := jh (show U0 w3 XX x by rw [e3, KT]; exact U0.new _ _ _ _ rfl); have U1 : XX < w3.heap.size := VA.out.lt; have B := jw B hb; rw [← e3, ← KT]; clear e3 KT hb; refine js 7 (fun _ => none) (by kernel_rfl) (by kernel_rfl) (fun _ _ _ _ _ h => h) (fun F X8 hcl hbl => ?_); have mD := jr hbl VA 0 (by omega); have lD := jr hbl VA 1 (by omega); have kD := jr hbl VA 2 (by omega); have iD := jr hbl VA 3 (by omega); have U5 := jh hcl; clear hcl hbl; refine jN 7 0 _ _ (fun _ _ _ => rfl) (by decide) ?_; simp only [List.take_succ_cons, List.take_zero, List.drop_succ_cons, List.drop_zero, Nat.reduceAdd]
 repeat (go_big_quiet_step ((first | (go_at_call 194; with_reducible exact jq U5.out (C1.out _)))))
 refine wpQuiet_nil ?_; refine jR ?_; intro bs w4 hb _ _; clear mD lD kD iD; obtain ⟨VA, U1, B⟩ := Zn hb VA U1 B; clear hb; simp only [over]
 go_wp2_with fail
 refine bodyPost_ret (v := .bool false) ?_ rfl ⟨rfl, jk HB0.out B.out⟩
 simp [results, Tryz.results161, go_sem]
theorem wU {gp gq gg gh a : Nat} (G9 : a < jo) (hq : gq < jo) (hm : gp < jo) (w : World) :
  Calls Tryz.prog 161 #[qd gp gq gg gh, jj a] w fun e w' => e = .returned (.bool (decide (YJ gp gq a))) ∧ Below w.heap.size w w' := by
 by_cases h : Jq gp a
 ·exact in_yes h G9 hq hm w
 ·exact in_no h G9 hq hm w
theorem tJ {gp gq gg gh a b : Nat} (ha : a < gq) (Z4 : b < gq) (h1 : 1 < gq) (hm : gq < jo) (w : World) :
  Calls Tryz.prog 107 #[qd gp gq gg gh, jj a, jj b] w fun e w' => e = .returned (.tuple #[jj ((a + b) % gq), .int .i64 0]) ∧ Below w.heap.size w w' := by
 unfold qd; obtain ⟨q, hq⟩ := je ((a + b) % gq); have CE := jh (fun w => by have h9 := Add_any ha h1 Z4 hm w; rw [← hq] at h9; unfold jj words at h9; exact h9); rw [← hq]; clear hq ha Z4 h1 hm; unfold jj words
 go_enter Tryz.func107, Tryz.ntmps107
 go_upto_region 1 with fail
 obtain ⟨w0, GG, e0, s0, P7, g0, HB0⟩ := JR w 26 gp gq gg gh; rw [e0, s0, P7]; clear e0 s0 P7; obtain ⟨wz, AA, BB, RR, e9, J5, h_1, h_2, J3, U4, HRR, HF, B, V8, LC, TC, Y9, D6, U1⟩ := QY w0 24 a b; rw [e9, J5, h_1, h_2]; clear e9 J5 h_1 h_2; have G0 := jh (U2.later B.out g0); clear g0; have O7 := G0.out.2.1 0 (by omega); have N7 := G0.out.2.1 1 (by omega); have J7 := G0.out.2.1 2 (by omega); have I7 := G0.out.2.1 3 (by omega); simp only [Nat.reduceAdd] at O7 N7 J7 I7; obtain ⟨U3, I4, X3, V3⟩ := jz J3.out; obtain ⟨I5, Y5, X5, V5⟩ := jz U4.out
 go_wp2_with fail
 clear U3 I4 X3 V3 I5 Y5 X5 V5; clear O7 N7 J7 I7; refine (CE.out _).mono ?_; rintro _ w3 ⟨rfl, hb⟩; obtain ⟨J3, U4, HRR, HF, U1, B⟩ := OI hb J3 U4 HRR HF U1 B; clear hb; obtain ⟨c0, c1, c2, c3, f0, f1, f2, f3⟩ := jL HRR.out HF.out
 go_wp2_with fail
 obtain ⟨Q7, B9⟩ := zw HRR B D6 q; obtain ⟨g0, g1, g2, g3⟩ := jz Q7.out; refine bodyPost_ret (v := .tuple #[jj q, .int .i64 0]) ?_ rfl ⟨rfl, jk HB0.out B9.out⟩
 simp [results, Tryz.results107, go_sem, jj, words, g0, g1, g2, g3]
def uB (w : World) (b o : Nat) (xs : List Nat) : Prop := ∀ i x, xs[i]? = some x → ∀ j, j < 4 → w.cell? ⟨b, o + i * 4 + j, none⟩ = some (.int .u64 (jf jd x j))
theorem uB.later {w w' : World} {b o : Nat} {xs : List Nat} (h : uB w b o xs) (hb : Below w.heap.size w w') : uB w' b o xs := fun i x hx j hj => jm (h i x hx j hj) hb
theorem QW {w : World} {b gp gq gg gh : Nat} (h : U2 w b gp gq gg gh) : w.cell? ⟨b, 0, none⟩ = some (.int .u64 (jf jd gp 0)) ∧ w.cell? ⟨b, 1, none⟩ = some (.int .u64 (jf jd gp 1)) ∧ w.cell? ⟨b, 2, none⟩ = some (.int .u64 (jf jd gp 2)) ∧ w.cell? ⟨b, 3, none⟩ = some (.int .u64 (jf jd gp 3)) ∧ w.cell? ⟨b, 4, none⟩ = some (.int .u64 (jf jd gq 0)) ∧ w.cell? ⟨b, 5, none⟩ = some (.int .u64 (jf jd gq 1)) ∧ w.cell? ⟨b, 6, none⟩ = some (.int .u64 (jf jd gq 2)) ∧ w.cell? ⟨b, 7, none⟩ = some (.int .u64 (jf jd gq 3)) ∧ w.cell? ⟨b, 8, none⟩ = some (.int .u64 (jf jd gg 0)) ∧ w.cell? ⟨b, 9, none⟩ = some (.int .u64 (jf jd gg 1)) ∧ w.cell? ⟨b, 10, none⟩ = some (.int .u64 (jf jd gg 2)) ∧ w.cell? ⟨b, 11, none⟩ = some (.int .u64 (jf jd gg 3)) ∧ w.cell? ⟨b, 12, none⟩ = some (.int .u64 (jf jd gh 0)) ∧ w.cell? ⟨b, 13, none⟩ = some (.int .u64 (jf jd gh 1)) ∧ w.cell? ⟨b, 14, none⟩ = some (.int .u64 (jf jd gh 2)) ∧ w.cell? ⟨b, 15, none⟩ = some (.int .u64 (jf jd gh 3)) := by
 obtain ⟨h0, h1, h2, h3⟩ := h; exact ⟨h0 0 (by decide), h0 1 (by decide), h0 2 (by decide), h0 3 (by decide), h1 0 (by decide), h1 1 (by decide), h1 2 (by decide), h1 3 (by decide), h2 0 (by decide), h2 1 (by decide), h2 2 (by decide), h2 3 (by decide), h3 0 (by decide), h3 1 (by decide), h3 2 (by decide), h3 3 (by decide)⟩
theorem wK {gp gq gg gh b o cap : Nat} {xs : List Nat} (hx : ∀ x ∈ xs, x < gq) (h1 : 1 < gq) (hm : gq < jo) (w : World) (h : uB w b o xs) (hn0 : xs.length ≤ 1000) :
  Calls Tryz.prog 104 #[qd gp gq gg gh, .slice (some ⟨b, o, none⟩) xs.length cap] w fun e w' => e = .returned (.bool true) ∧ Below w.heap.size w w' := by
 unfold qd; have HX := jh h; obtain ⟨n, hn⟩ := je (xs.length); have HN := jh hn; rw [← hn]; have hnb : n ≤ 1000 := by omega
 have CE := jh (fun (x : Nat) (V9 : x < gq) (w : World) => by have h9 := tJ (gp := gp) (gg := gg) (gh := gh) V9 V9 h1 hm w; unfold jj words qd at h9; exact h9); have HXL := jh hx; clear h hn hx h1 hm hn0
 go_enter Tryz.func104, Tryz.ntmps104
 go_upto_region 1 with fail
 obtain ⟨w0, e0⟩ := je (w.alloc (.cells (jG gp gq gg gh) 26)); obtain ⟨GG, P7⟩ := je (w.heap.size); have b0 := jc e0; have s0 : w0.heap.size = w.heap.size + 1 := by rw [e0]; simp
 have g0 : U2 w0 GG gp gq gg gh := by rw [e0, P7]; exact U2.new _ _ _ _ _ _
 rw [← e0, ← P7]; have HB0 := jh b0; clear e0 P7 b0 s0; have G0 := jh g0; clear g0
 go_wp2_with fail
 go_loopw [11] (fun i wr => ∃ k : Nat, k ≤ n ∧ i = .int .i64 k ∧ Hid (U2 wr GG gp gq gg gh) ∧ Hid (Below w.heap.size w wr)) (fun i _ => n - (intOf i).toNat)
 case atStart => exact ⟨0, Nat.zero_le _, rfl, G0, HB0⟩
 case round =>
  clear G0 HB0; obtain ⟨k, hk, rfl, G0, HB0⟩ := hrel
  by_cases hlt : k < n
  ·obtain ⟨x, hx⟩ : ∃ x, xs[k]? = some x := ⟨_, List.getElem?_eq_getElem (by rw [← HN.out]; exact hlt)⟩; have N8 : (k : Int) < (n : Int) := by omega
   have L8 := jh hlt; have VA := jh (HXL.out x (List.mem_of_getElem? hx)); have r0 := jm (HX.out k x hx 0 (by decide)) HB0.out; have r1 := jm (HX.out k x hx 1 (by decide)) HB0.out; have r2 := jm (HX.out k x hx 2 (by decide)) HB0.out; have r3 := jm (HX.out k x hx 3 (by decide)) HB0.out; rw [Nat.add_zero] at r0; clear hx hlt
   go_upto_region 4 with fail
   obtain ⟨w3, e3⟩ := je (wr.alloc (.cells (jD x) 24)); obtain ⟨XX, KT⟩ := je (wr.heap.size); have hb := jc e3; have HV := jh (show U0 w3 XX x by rw [e3, KT]; exact U0.new _ _ _ _ rfl); have HB0 := jw HB0 hb; have G0 := jh (G0.out.later hb); rw [← e3, ← KT]; clear e3 KT hb r0 r1 r2 r3; obtain ⟨y0, y1, y2, y3, y4, y5, y6, y7, y8, y9, KJ, pR, nR, y13, kR, iR⟩ := QW G0.out; obtain ⟨r0, r1, r2, r3⟩ := jz HV.out
   go_wp2_with fail
   clear y0 y1 y2 y3 y4 y5 y6 y7 y8 y9 KJ pR nR y13 kR iR r0 r1 r2 r3; refine (CE.out x VA.out _).mono ?_; rintro _ w4 ⟨rfl, hb⟩; have HB0 := jw HB0 hb; have G0 := jh (G0.out.later hb); clear hb HV
   go_upto_region 5 with fail
   obtain ⟨z, hz⟩ := je ((x + x) % gq); rw [← hz]; obtain ⟨w5, e5⟩ := je (w4.alloc (.cells (jD z) 24)); have hb := jc e5; have HB0 := jw HB0 hb; have G0 := jh (G0.out.later hb); rw [← e5]; clear e5 hb hz
   go_wp2_with fail
   go_roundw
   case rel => exact ⟨k + 1, L8.out, by go_num, G0, HB0⟩
   case measure => simp [intOf]; have := L8.out; omega
  ·obtain rfl : k = n := by omega
   clear hlt
   go_wp2_with fail
   go_ret
   exact ⟨rfl, HB0.out⟩
def Qi (a n : Nat) : Bool := if (jf jd a 1 ||| jf jd a 2) ||| jf jd a 3 = 0 then decide (n < jf jd a 0) else true
theorem kY {a n : Nat} (hn : n ≤ 1000) (w : World) : Calls Tryz.prog 93 #[jj a, .int .i64 n] w fun e w' => e = .returned (.bool (Qi a n)) ∧ Below w.heap.size w w' := by
 have l1 := qO a 1; have l2 := qO a 2; have l3 := qO a 3; unfold jd at l1 l2 l3; obtain ⟨o1, h1⟩ := je (jf jd a 1 ||| jf jd a 2); obtain ⟨o2, h2⟩ := je (o1 ||| jf jd a 3); have lo1 : o1 < 18446744073709551616 := by rw [h1]; exact Nat.or_lt_two_pow (n := 64) l1 l2
 have b1 : bits BinOp.or IntKind.u64 (jf jd a 1 : Int) (jf jd a 2 : Int) = (o1 : Int) := by rw [h1]; exact u64_or_nat _ _ l1 l2
 have b2 : bits BinOp.or IntKind.u64 (o1 : Int) (jf jd a 3 : Int) = (o2 : Int) := by rw [h2]; exact u64_or_nat _ _ lo1 l3
 unfold Qi; rw [← h1, ← h2]; clear h1 h2 lo1 l1 l2 l3; obtain ⟨d0, hd0⟩ := je (jf jd a 0); unfold jj words; rw [← hd0]; clear hd0
 by_cases hz : o2 = 0
 ·rw [if_pos hz]; subst hz
  by_cases hlt : n < d0
  ·rw [decide_eq_true hlt]; have hI : (n : Int) < (d0 : Int) := by omega
   clear hlt
   go_enter Tryz.func93, Tryz.ntmps93
   go_wp2_with fail
   go_ret
   exact ⟨rfl, ja⟩
  ·rw [decide_eq_false hlt]; have hI : ¬ (n : Int) < (d0 : Int) := by omega
   clear hlt
   go_enter Tryz.func93, Tryz.ntmps93
   go_wp2_with fail
   go_ret
   exact ⟨rfl, ja⟩
 ·rw [if_neg hz]; have hI : ¬ (o2 : Int) = 0 := by omega
  clear hz
  go_enter Tryz.func93, Tryz.ntmps93
  go_wp2_with fail
  go_ret
  exact ⟨rfl, ja⟩
theorem SMul_any {gp gq gg gh a b : Nat} (ha : a < gq) (Z4 : b < gq) (h1 : 1 < gq) (hm : gq < jo) (w : World) :
  Calls Tryz.prog 106 #[qd gp gq gg gh, jj a, jj b] w fun e w' => e = .returned (.tuple #[jj (a * b % gq), .int .i64 0]) ∧ Below w.heap.size w w' := by
 unfold qd; obtain ⟨q, hq⟩ := je (a * b % gq); have CE := jh (fun w => by have h9 := Mul_any ha h1 Z4 hm w; rw [← hq] at h9; unfold jj words at h9; exact h9); rw [← hq]; clear hq ha Z4 h1 hm; unfold jj words
 go_enter Tryz.func106, Tryz.ntmps106
 go_upto_region 1 with fail
 obtain ⟨w0, GG, e0, s0, P7, g0, HB0⟩ := JR w 26 gp gq gg gh; rw [e0, s0, P7]; clear e0 s0 P7; obtain ⟨wz, AA, BB, RR, e9, J5, h_1, h_2, J3, U4, HRR, HF, B, V8, LC, TC, Y9, D6, U1⟩ := QY w0 24 a b; rw [e9, J5, h_1, h_2]; clear e9 J5 h_1 h_2; have G0 := jh (U2.later B.out g0); clear g0; have O7 := G0.out.2.1 0 (by omega); have N7 := G0.out.2.1 1 (by omega); have J7 := G0.out.2.1 2 (by omega); have I7 := G0.out.2.1 3 (by omega); simp only [Nat.reduceAdd] at O7 N7 J7 I7; obtain ⟨U3, I4, X3, V3⟩ := jz J3.out; obtain ⟨I5, Y5, X5, V5⟩ := jz U4.out
 go_wp2_with fail
 clear U3 I4 X3 V3 I5 Y5 X5 V5; clear O7 N7 J7 I7; refine (CE.out _).mono ?_; rintro _ w3 ⟨rfl, hb⟩; obtain ⟨J3, U4, HRR, HF, U1, B⟩ := OI hb J3 U4 HRR HF U1 B; clear hb; obtain ⟨c0, c1, c2, c3, f0, f1, f2, f3⟩ := jL HRR.out HF.out
 go_wp2_with fail
 obtain ⟨Q7, B9⟩ := zw HRR B D6 q; obtain ⟨g0, g1, g2, g3⟩ := jz Q7.out; refine bodyPost_ret (v := .tuple #[jj q, .int .i64 0]) ?_ rfl ⟨rfl, jk HB0.out B9.out⟩
 simp [results, Tryz.results106, go_sem, jj, words, g0, g1, g2, g3]
theorem Add_as {a n m q : Nat} {e9 : Int} (hof : ∀ W, Calls Tryz.prog 209 #[.agg #[.func (.func 210) #[] #[]], jj a, jj n, jj m] W fun e w' => e = .returned (.tuple #[jj q, .int .i64 e9]) ∧ Below W.heap.size W w') (w : World) :
  Calls Tryz.prog 175 #[jj a, jj n, jj m] w fun e w' => e = .returned (.tuple #[jj q, .int .i64 e9]) ∧ Below w.heap.size w w' := by
 have L6 := jh hof; clear hof; unfold jj words
 go_enter Tryz.func175, Tryz.ntmps175
 go_wp2_with fail
 obtain ⟨wz, AA, NN, MM, RR, e9, J5, h_1, h_2, h_3, J3, Z5, J4, HRR, HF, B, V8, LC, TC, PI, Y9, D6, U1⟩ := zC w 24 a n m; rw [e9, J5, h_1, h_2, h_3]; clear e9 J5 h_1 h_2 h_3; have CO := L6.out wz; unfold jj words at CO; refine CO.mono ?_; rintro _ w3 ⟨rfl, hb⟩; clear CO; obtain ⟨J3, Z5, J4, HRR, HF, U1, B⟩ := qG hb J3 Z5 J4 HRR HF U1 B; clear hb; obtain ⟨c0, c1, c2, c3, f0, f1, f2, f3⟩ := jL HRR.out HF.out
 go_wp2_with fail
 obtain ⟨Q7, B9⟩ := zw HRR B D6 q; obtain ⟨g0, g1, g2, g3⟩ := jz Q7.out; refine bodyPost_ret (v := .tuple #[.agg #[.int .u64 (jf jd q 0), .int .u64 (jf jd q 1), .int .u64 (jf jd q 2), .int .u64 (jf jd q 3)], .int .i64 e9]) ?_ rfl ⟨rfl, B9.out⟩
 simp [results, Tryz.results175, go_sem, g0, g1, g2, g3]
theorem DV {gp gq gg gh a b q : Nat} {e9 : Int} (ha : ∀ W, Calls Tryz.prog 175 #[jj a, jj b, jj gq] W fun e w' => e = .returned (.tuple #[jj q, .int .i64 e9]) ∧ Below W.heap.size W w') (w : World) :
  Calls Tryz.prog 107 #[qd gp gq gg gh, jj a, jj b] w fun e w' => e = .returned (.tuple #[jj q, .int .i64 e9]) ∧ Below w.heap.size w w' := by
 unfold qd; have CE := jh (fun w => by have h9 := ha w; unfold jj words at h9; exact h9); clear ha; unfold jj words
 go_enter Tryz.func107, Tryz.ntmps107
 go_upto_region 1 with fail
 obtain ⟨w0, GG, e0, s0, P7, g0, HB0⟩ := JR w 26 gp gq gg gh; rw [e0, s0, P7]; clear e0 s0 P7; obtain ⟨wz, AA, BB, RR, e9, J5, h_1, h_2, J3, U4, HRR, HF, B, V8, LC, TC, Y9, D6, U1⟩ := QY w0 24 a b; rw [e9, J5, h_1, h_2]; clear e9 J5 h_1 h_2; have G0 := jh (U2.later B.out g0); clear g0; have O7 := G0.out.2.1 0 (by omega); have N7 := G0.out.2.1 1 (by omega); have J7 := G0.out.2.1 2 (by omega); have I7 := G0.out.2.1 3 (by omega); simp only [Nat.reduceAdd] at O7 N7 J7 I7; obtain ⟨U3, I4, X3, V3⟩ := jz J3.out; obtain ⟨I5, Y5, X5, V5⟩ := jz U4.out
 go_wp2_with fail
 clear U3 I4 X3 V3 I5 Y5 X5 V5; clear O7 N7 J7 I7; refine (CE.out _).mono ?_; rintro _ w3 ⟨rfl, hb⟩; obtain ⟨J3, U4, HRR, HF, U1, B⟩ := OI hb J3 U4 HRR HF U1 B; clear hb; obtain ⟨c0, c1, c2, c3, f0, f1, f2, f3⟩ := jL HRR.out HF.out
 go_wp2_with fail
 obtain ⟨Q7, B9⟩ := zw HRR B D6 q; obtain ⟨g0, g1, g2, g3⟩ := jz Q7.out; refine bodyPost_ret (v := .tuple #[.agg #[.int .u64 (jf jd q 0), .int .u64 (jf jd q 1), .int .u64 (jf jd q 2), .int .u64 (jf jd q 3)], .int .i64 e9]) ?_ rfl ⟨rfl, jk HB0.out B9.out⟩
 simp [results, Tryz.results107, go_sem, g0, g1, g2, g3]
theorem SAdd_no {gp gq gg gh a : Nat} (ha : gq ≤ a) (h1 : 1 < gq) (G9 : a < jo) (hm : gq < jo) (w : World) :
  Calls Tryz.prog 107 #[qd gp gq gg gh, jj a, jj a] w fun e w' => e = .returned (.tuple #[jj 0, .int .i64 1]) ∧ Below w.heap.size w w' :=
 DV (Add_as (fun W => of_no h1 ha hm G9 G9 W)) w
theorem SAdd_low {gp gq gg gh a : Nat} (h1 : gq ≤ 1) (G9 : a < jo) (hm : gq < jo) (w : World) :
  Calls Tryz.prog 107 #[qd gp gq gg gh, jj a, jj a] w fun e w' => e = .returned (.tuple #[jj 0, .int .i64 1]) ∧ Below w.heap.size w w' :=
 DV (Add_as (fun W => of_low h1 hm G9 G9 W)) w
theorem xK {gp gq gg gh b o cap : Nat} {xs : List Nat} (hx : ∀ x ∈ xs, x < jo) (hm : gq < jo) (w : World) (h : uB w b o xs) (hn0 : xs.length ≤ 1000) :
  Calls Tryz.prog 104 #[qd gp gq gg gh, .slice (some ⟨b, o, none⟩) xs.length cap] w fun e w' => e = .returned (.bool (xs.all fun x => decide (1 < gq ∧ x < gq))) ∧ Below w.heap.size w w' := by
 unfold qd; have HX := jh h; obtain ⟨n, hn⟩ := je (xs.length); have HN := jh hn; rw [← hn]; have hnb : n ≤ 1000 := by omega
 have CE := jh (fun (x : Nat) (V9 : x < jo) (w : World) => show ∃ (z : Nat) (e9 : Int), (e9 = 0 ↔ 1 < gq ∧ x < gq) ∧ Calls Tryz.prog 107 #[qd gp gq gg gh, jj x, jj x] w (fun e w' => e = .returned (.tuple #[jj z, .int .i64 e9]) ∧ Below w.heap.size w w') from by by_cases h1 : 1 < gq; by_cases hq : x < gq; exact ⟨_, 0, ⟨fun _ => ⟨h1, hq⟩, fun _ => rfl⟩, tJ hq hq h1 hm w⟩; exact ⟨0, 1, ⟨fun h => by omega, fun h => absurd h.2 hq⟩, SAdd_no (by omega) h1 V9 hm w⟩; exact ⟨0, 1, ⟨fun h => by omega, fun h => absurd h.1 h1⟩, SAdd_low (by omega) V9 hm w⟩); have HXL := jh hx; clear h hn hx hm hn0
 go_enter Tryz.func104, Tryz.ntmps104
 go_upto_region 1 with fail
 obtain ⟨w0, e0⟩ := je (w.alloc (.cells (jG gp gq gg gh) 26)); obtain ⟨GG, P7⟩ := je (w.heap.size); have b0 := jc e0; have s0 : w0.heap.size = w.heap.size + 1 := by rw [e0]; simp
 have g0 : U2 w0 GG gp gq gg gh := by rw [e0, P7]; exact U2.new _ _ _ _ _ _
 rw [← e0, ← P7]; have HB0 := jh b0; clear e0 P7 b0 s0; have G0 := jh g0; clear g0
 go_wp2_with fail
 go_loopw [11] (fun i wr => ∃ k : Nat, k ≤ n ∧ i = .int .i64 k ∧ Hid (∀ x ∈ xs.take k, 1 < gq ∧ x < gq) ∧ Hid (U2 wr GG gp gq gg gh) ∧ Hid (Below w.heap.size w wr)) (fun i _ => n - (intOf i).toNat)
 case atStart => exact ⟨0, Nat.zero_le _, rfl, jh (by simp), G0, HB0⟩
 case round =>
  clear G0 HB0; obtain ⟨k, hk, rfl, HT, G0, HB0⟩ := hrel
  by_cases hlt : k < n
  ·obtain ⟨x, hx⟩ : ∃ x, xs[k]? = some x := ⟨_, List.getElem?_eq_getElem (by rw [← HN.out]; exact hlt)⟩; have N8 : (k : Int) < (n : Int) := by omega
   have L8 := jh hlt; have VA := jh (HXL.out x (List.mem_of_getElem? hx)); have HXK := jh hx; have r0 := jm (HX.out k x hx 0 (by decide)) HB0.out; have r1 := jm (HX.out k x hx 1 (by decide)) HB0.out; have r2 := jm (HX.out k x hx 2 (by decide)) HB0.out; have r3 := jm (HX.out k x hx 3 (by decide)) HB0.out; rw [Nat.add_zero] at r0; clear hx hlt
   go_upto_region 4 with fail
   obtain ⟨w3, e3⟩ := je (wr.alloc (.cells (jD x) 24)); obtain ⟨XX, KT⟩ := je (wr.heap.size); have hb := jc e3; have HV := jh (show U0 w3 XX x by rw [e3, KT]; exact U0.new _ _ _ _ rfl); have HB0 := jw HB0 hb; have G0 := jh (G0.out.later hb); rw [← e3, ← KT]; clear e3 KT hb; obtain ⟨y0, y1, y2, y3, y4, y5, y6, y7, y8, y9, KJ, pR, nR, y13, kR, iR⟩ := QW G0.out; obtain ⟨r0, r1, r2, r3⟩ := jz HV.out
   go_wp2_with fail
   clear y0 y1 y2 y3 y4 y5 y6 y7 y8 y9 KJ pR nR y13 kR iR r0 r1 r2 r3; obtain ⟨z, e9, uT, hC⟩ := CE.out x VA.out w3; unfold jj words qd at hC; have HE9 := jh uT; clear uT; refine hC.mono ?_; rintro _ w4 ⟨rfl, hb⟩; clear hC; have HB0 := jw HB0 hb; have G0 := jh (G0.out.later hb); clear hb HV
   go_upto_region 5 with fail
   obtain ⟨w5, e5⟩ := je (w4.alloc (.cells (jD z) 24)); have hb := jc e5; have HB0 := jw HB0 hb; have G0 := jh (G0.out.later hb); rw [← e5]; clear e5 hb
   by_cases he : e9 = 0
   ·have he1 : (e9 != 0) = false := by rw [he]; rfl
    have HLX := jh (HE9.out.1 he); clear he
    go_wp2_with fail
    go_roundw
    case rel => exact ⟨k + 1, L8.out, by go_num, jh (by intro y hy; rw [List.take_add_one, HXK.out] at hy; rcases List.mem_append.1 hy with h | h; exact HT.out y h; simp only [Option.toList_some, List.mem_singleton] at h; rw [h]; exact HLX.out), G0, HB0⟩
    case measure => simp [intOf]; have := L8.out; omega
   ·have he1 : (e9 != 0) = true := by simpa using he
    have HLX := jh (show xs.all (fun x => decide (1 < gq ∧ x < gq)) = false from List.all_eq_false.2 ⟨x, List.mem_of_getElem? HXK.out, by rw [decide_eq_false (fun h => he (HE9.out.2 h))]; decide⟩); clear he
    go_wp2_with fail
    go_ret
    rw [HLX.out]; exact ⟨rfl, HB0.out⟩
  ·obtain rfl : k = n := by omega
   clear hlt; have HLX := jh (show xs.all (fun x => decide (1 < gq ∧ x < gq)) = true from List.all_eq_true.2 (fun x hx => by exact decide_eq_true (HT.out x (by rw [List.take_of_length_le (by rw [← HN.out]; exact Nat.le_refl _)]; exact hx))))
   go_wp2_with fail
   go_ret
   rw [HLX.out]; exact ⟨rfl, HB0.out⟩
end Go.Proofs.YtmijablfjigbhaaGreatDoor
