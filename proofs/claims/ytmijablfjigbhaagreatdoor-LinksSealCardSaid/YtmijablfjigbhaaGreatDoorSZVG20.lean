/- Layer 2's reference -/
import Derived.Test.YtmijablfjigbhaaGreatDoorSZVG10
import Derived.Test.YtmijablfjigbhaaGreatDoorSZVG19
import Derived.Deep.MidRow
set_option maxHeartbeats 1500000
set_option maxRecDepth 20000
namespace Go.Proofs.YtmijablfjigbhaaGreatDoor
open Go.ChangeShapes Go.WideShapes Go.ChangeAt Go.RowKit
def JM (n : Nat) (A : Nat → Nat) : List Value := (List.range n).map fun j => Value.int .u64 (A j)
theorem qz (n : Nat) (A : Nat → Nat) : (JM n A).length = n := by simp [JM]
theorem zQ (n : Nat) (A : Nat → Nat) : ∀ v ∈ JM n A, v.oneCell' = true := by
 intro v hv; obtain ⟨j, _, rfl⟩ := List.mem_map.1 hv
 rfl
theorem A7.range {w : World} {b n : Nat} {A : Nat → Nat} (h : A7 w b n A) : w.rangeAt b 0 (JM n A) := by
 intro j v hj; have hl : j < n := by have := (List.getElem?_eq_some_iff.1 hj).1; rwa [qz] at this
 rw [Nat.zero_add, h j hl, ← hj]
 simp [JM, hl]
theorem A7.of_range {w : World} {b n : Nat} {A : Nat → Nat} (h : w.rangeAt b 0 (JM n A)) : A7 w b n A := by
 intro j hl; have := h j (.int .u64 (A j)) (by simp [JM, hl])
 rwa [Nat.zero_add] at this
theorem sZ {w : World} {b n : Nat} {A : Nat → Nat} (h : A7 w b n A) (hf : Y0 w b n) : w.there b 0 n := fun j hj => by
 rw [Nat.zero_add]; exact ⟨by rw [h j hj]; rfl, hf j hj⟩
theorem A7.setI {w : World} {b n : Nat} {A : Nat → Nat} (h : A7 w b n A) (c : Nat) (v : Int) (x : Nat) (hv : v = x) : A7 (w.setCell ⟨b, c, none⟩ (.int .u64 v)) b n (fun j => if j = c then x else A j) := by
 subst hv; exact h.set c x
theorem A7.zero16 (w : World) (t : TypeId) (b : Nat) (hb : b = w.heap.size) : A7 (w.alloc (.cells #[.int .u64 0, .int .u64 0, .int .u64 0, .int .u64 0, .int .u64 0, .int .u64 0, .int .u64 0, .int .u64 0, .int .u64 0, .int .u64 0, .int .u64 0, .int .u64 0, .int .u64 0, .int .u64 0, .int .u64 0, .int .u64 0] t)) b 16 (fun _ => 0) := by
 subst hb; intro j hj; have h : j = 0 ∨ j = 1 ∨ j = 2 ∨ j = 3 ∨ j = 4 ∨ j = 5 ∨ j = 6 ∨ j = 7 ∨ j = 8 ∨ j = 9 ∨ j = 10 ∨ j = 11 ∨ j = 12 ∨ j = 13 ∨ j = 14 ∨ j = 15 := by omega
 rcases h with rfl | rfl | rfl | rfl | rfl | rfl | rfl | rfl | rfl | rfl | rfl | rfl | rfl | rfl | rfl | rfl <;> simp
def yK (A : Nat → Nat) : Value := .agg (JM 16 A).toArray
theorem dig_int (a k : Nat) : ((jf jd a (k / 4) : Nat) : Int) / 2 ^ (16 * (k % 4)) % 65536 = ((jf 65536 a k : Nat) : Int) := by
 rw [← dig_word]
 simp
theorem zi {B : Nat} {a : World} (b : Nat) : ∀ (vs : List Value) (o : Nat) {w : World}, Below B a w → B ≤ b → Below B a (w.setCells b o vs)
 | [], _, _, h, _ => h
 | v :: r, o, _, h, hb => zi b r (o + 1) (h.setCell (p := ⟨b, o, none⟩) hb v) hb
theorem JF (w : World) (c : Array Value) (t : TypeId) (n : Nat) (hn : c.size = n) : (w.alloc (.cells c t)).there w.heap.size 0 n := fun j hj => by
 rw [Nat.zero_add]; refine ⟨?_, by simp⟩; rw [cell_of_row _ w.heap.size j c t (0, 0) (heap_alloc_new w _), Array.getElem?_eq_getElem (by omega)]
 rfl
theorem KX (w : World) (c : Array Value) (t : TypeId) (A : Nat → Nat) (hc : c.size = 16) : A7 ((w.alloc (.cells c t)).setCells w.heap.size 0 (JM 16 A)) w.heap.size 16 A ∧ Y0 ((w.alloc (.cells c t)).setCells w.heap.size 0 (JM 16 A)) w.heap.size 16 ∧ Below w.heap.size w ((w.alloc (.cells c t)).setCells w.heap.size 0 (JM 16 A)) := by
 have h := JF w c t 16 hc; refine ⟨A7.of_range (World.rangeAt_setCells_same _ _ _ _ (by rw [qz]; exact h)), fun j hj => ?_, zi _ _ _ (ja) (Nat.le_refl _)⟩; have := (World.there_setCells h w.heap.size 0 (JM 16 A) j hj).2
 rwa [Nat.zero_add] at this
theorem JA (w : World) (t : TypeId) (A : Nat → Nat) (cs : List Value) (hcs : cs = JM 16 A) : ∃ W, W = (w.alloc (.cells #[.int .u64 0, .int .u64 0, .int .u64 0, .int .u64 0, .int .u64 0, .int .u64 0, .int .u64 0, .int .u64 0, .int .u64 0, .int .u64 0, .int .u64 0, .int .u64 0, .int .u64 0, .int .u64 0, .int .u64 0, .int .u64 0] t)).setCells w.heap.size 0 cs ∧ A7 W w.heap.size 16 A ∧ Y0 W w.heap.size 16 ∧ Below w.heap.size w W := by
 subst hcs; exact ⟨_, rfl, KX w _ t A rfl⟩
theorem JZ {P : Program} {fn : Func} {tmps : Array Value} {w : World} (a : Tmp) (t : TypeId) (b : Nat) (v : Value) (hr : fn.results = #[.cell a t]) (ha : tmps.getD a undef = .pointer (some ⟨b, 0, none⟩)) (hl : (loadVar t ⟨b, 0, none⟩).run P w = .ok v w) : (results fn tmps).run P w = .ok v w := by
 unfold results; rw [hr]; rw [Array.getD_eq_getD_getElem?] at ha
 simp [ha, asAddr, hl]
theorem zq (a : Nat) (w : World) : Calls Tryz.prog 213 #[jj a] w fun e w' => e = .returned (yK (jf 65536 a)) ∧ Below w.heap.size w w' := by
 have HA0 := jh (yB.new w (jf jd a)); unfold jj words
 go_enter Tryz.func213, Tryz.ntmps213
 go_wp2
 go_loopw [4] (fun i wr => ∃ k : Nat, k ≤ 16 ∧ i = .int .i64 k ∧ yB wr w.heap.size (jf jd a) ∧ A7 wr (w.heap.size + 1) 16 (fun _ => 0) ∧ Y0 wr (w.heap.size + 1) 16 ∧ A7 wr (w.heap.size + 1 + 1) 16 (fun j => if j < k then jf 65536 a j else 0) ∧ Y0 wr (w.heap.size + 1 + 1) 16 ∧ Below w.heap.size w wr) (fun i _ => 16 - (intOf i).toNat)
 case atStart =>
  exact ⟨0, by omega, rfl, ((HA0.out _).alloc _).alloc _, (A7.zero16 _ _ _ (by simp)).alloc _, (Y0.made _ _ _ _ _ (by simp)).alloc (by simp) _, A7.zero16 _ _ _ (by simp), Y0.made _ _ _ _ _ (by simp), ((ja).alloc (by simp) _).alloc (by simp; omega) _⟩
 case round =>
  obtain ⟨k, hk, rfl, ha, hr, hrf, hd, hf, hb⟩ := hrel; have HA := jh ha; have HR := jh hr; have HRF := jh hrf; have HD := jh hd; have HF := jh hf; have HB := jh hb
  by_cases hlt : k < 16
  ·have ak := ha (k / 4) (by omega); have dk := hd k hlt; have fk := hf k hlt; have h4 : k / 4 < 4 := by omega
   have h5 : k % 4 < 4 := by omega
   clear ha hr hrf hd hf hb HA0
   go_wp2
   go_roundw
   case rel =>
    refine ⟨k + 1, by omega, by go_num, HA.out.other _ _ (by omega), HR.out.other _ _ (by omega), HRF.out.set _ _, (HD.out.setI k _ _ (dig_int a k)).congr fun j hj => ?_, HF.out.set _ _, HB.out.setCell (by simp; omega) _⟩
    by_cases h : j = k
    ·subst h; simp
    ·by_cases h' : j < k
     ·simp [h, h', show j < k + 1 by omega]
     ·simp [h, h', show ¬ j < k + 1 by omega]
   case measure => simp [intOf]; omega
  ·obtain rfl : k = 16 := by omega
   have hd' : A7 wr (w.heap.size + 1 + 1) 16 (jf 65536 a) := hd.congr fun j hj => if_pos hj
   have RL := jh hd'.range; have TH := jh (sZ hr hrf); obtain ⟨cs, hcs⟩ := je (JM 16 (jf 65536 a)); have HC := jh hcs; have HL : Hid (cs.length = 16) := jh (by rw [hcs, qz]); have HO : Hid (∀ v ∈ cs, v.oneCell' = true) := jh (by rw [hcs]; exact zQ _ _); rw [← hcs] at RL; clear ha hr hrf hd hf hb hd' hcs HD HF HA HR HRF HA0 hlt hk
   go_wp2_with (first
    | (refine wpList_load_mid rfl 273 _ rfl (w.heap.size + 1 + 1) 0 rfl cs _ RL.out Tryz.underlying273 rfl (by rw [HL.out]; kernel_rfl) ?_)
    | (refine wpList_store_mid rfl 273 _ _ rfl (w.heap.size + 1) 0 cs.toArray rfl rfl (by have := TH.out; simpa [HL.out] using this) (by rw [List.size_toArray, HL.out]; kernel_rfl) (all_oneCell_toArray HO.out) ?_))
   refine bodyPost_ret (v := .agg cs.toArray) (JZ _ _ (w.heap.size + 1) _ Tryz.results213 rfl (run_loadVar_mid _ _ _ _ cs _ (World.rangeAt_setCells_same _ _ _ _ (by have := TH.out; simpa [HL.out] using this)) Tryz.underlying273 rfl (by rw [HL.out]; kernel_rfl))) rfl ⟨by rw [HC.out]; rfl, ?_⟩; exact zi _ _ _ HB.out (by omega)
theorem of_val {d : Nat → Nat} (hd : ∀ j, j < 16 → d j < 65536) {i : Nat} (hi : i < 16) : IntKind.u64.wrap ((uS d i (i / 4) : Int) + IntKind.u64.wrap ((d i : Int) * 2 ^ (16 * (i % 4)))) = ((uS d (i + 1) (i / 4) : Nat) : Int) := by
 rw [TW hd hi, ofW_add hd hi]
theorem A7.zero4 (w : World) (t : TypeId) (b : Nat) (hb : b = w.heap.size) : A7 (w.alloc (.cells #[.int .u64 0, .int .u64 0, .int .u64 0, .int .u64 0] t)) b 4 (fun _ => 0) := by
 subst hb; intro j hj; have h : j = 0 ∨ j = 1 ∨ j = 2 ∨ j = 3 := by omega
 rcases h with rfl | rfl | rfl | rfl <;> simp
theorem TM {d : Nat → Nat} (hd : ∀ j, j < 16 → d j < 65536) (b o c : Nat) (w : World) (hb0 : b < w.heap.size) (h : ∀ j, j < 16 → w.cell? ⟨b, o + j, none⟩ = some (.int .u64 (d j))) (_hc : 16 ≤ c) :
  Calls Tryz.prog 227 #[.slice (some ⟨b, o, none⟩) 16 c] w fun e w' => e = .returned (jj (jT 65536 16 d)) ∧ Below w.heap.size w w' := by
 have GV := jh hd; have HCE := jh (fun (wr : World) (k : Nat) (hk : k < 16) (hb : Below w.heap.size w wr) => (hb.cell (p := ⟨b, o + k, none⟩) hb0).trans (h k hk)); clear h hb0 hd
 go_enter Tryz.func227, Tryz.ntmps227
 go_wp2
 go_loopw [4] (fun i wr => ∃ k : Nat, k ≤ 16 ∧ i = .int .i64 k ∧ A7 wr w.heap.size 4 (fun _ => 0) ∧ Y0 wr w.heap.size 4 ∧ A7 wr (w.heap.size + 1) 4 (uS d k) ∧ Y0 wr (w.heap.size + 1) 4 ∧ Below w.heap.size w wr) (fun i _ => 16 - (intOf i).toNat)
 case atStart =>
  exact ⟨0, by omega, rfl, (A7.zero4 _ _ _ rfl).alloc _, (Y0.made _ _ _ _ _ rfl).alloc (by simp) _, (A7.zero4 _ _ _ (by simp)).congr fun j _ => (ofW_zero d j).symm, Y0.made _ _ _ _ _ (by simp), (ja).alloc (by simp) _⟩
 case round =>
  obtain ⟨k, hk, rfl, hr, hrf, ha, hf, hb⟩ := hrel; have HR := jh hr; have HRF := jh hrf; have HA := jh ha; have HF := jh hf; have HB := jh hb
  by_cases hlt : k < 16
  ·have ck := HCE.out wr k hlt hb; have ak := ha (k / 4) (by omega); have fk := hf (k / 4) (by omega); have h4 : k / 4 < 4 := by omega
   have h5 : k % 4 < 4 := by omega
   have HV := jh (of_val GV.out hlt); clear hr hrf ha hf hb HCE
   go_wp2
   go_region
   go_wp2
   go_roundw
   case rel =>
    refine ⟨k + 1, by omega, by go_num, HR.out.other _ _ (by omega), HRF.out.set _ _, (HA.out.setI (k / 4) _ _ HV.out).congr fun j hj => ?_, HF.out.set _ _, (HB.out.drew).setCell (by simp) _⟩; have := nP d k j
    by_cases hjk : j = k / 4
    ·rw [if_pos hjk, hjk]
    ·rw [if_neg hjk] at this ⊢; exact this.symm
   case measure => simp [intOf]; omega
  ·obtain rfl : k = 16 := by omega
   have r0 := hr 0 (by omega); have r1 := hr 1 (by omega); have r2 := hr 2 (by omega); have r3 := hr 3 (by omega); have f0 := hrf 0 (by omega); have f1 := hrf 1 (by omega); have f2 := hrf 2 (by omega); have f3 := hrf 3 (by omega); have a0 := ha 0 (by omega); have a1 := ha 1 (by omega); have a2 := ha 2 (by omega); have a3 := ha 3 (by omega); have e0 := ZX GV.out (q := 0) (by omega); have e1 := ZX GV.out (q := 1) (by omega); have e2 := ZX GV.out (q := 2) (by omega); have e3 := ZX GV.out (q := 3) (by omega); obtain ⟨x, ex⟩ := je (jT 65536 16 d); rw [← ex] at e0 e1 e2 e3; have EX := jh ex; rw [e0] at a0; rw [e1] at a1; rw [e2] at a2; rw [e3] at a3; clear ex e0 e1 e2 e3 hr hrf ha hf hb HCE GV HR HRF HA HF hlt hk
   go_wp2
   refine bodyPost_ret (v := jj x) (by simp [results, Tryz.results227, go_sem, jj, words, r0, r1, r2, r3]) rfl ⟨by rw [EX.out], ?_⟩; exact (((HB.out.setCell (Nat.le_refl _) _).setCell (Nat.le_refl _) _).setCell (Nat.le_refl _) _).setCell (Nat.le_refl _) _
theorem oO (n : Nat) (hn : n < jd) (w : World) :
  Calls Tryz.prog 178 #[.int .u64 n] w fun e w' => e = .returned (jj n) ∧ Below w.heap.size w w' := by
 have e : jj n = .agg #[.int .u64 n, .int .u64 0, .int .u64 0, .int .u64 0] := by
  have h0 : jf jd n 0 = n := by unfold jf; rw [Nat.pow_zero, Nat.div_one, Nat.mod_eq_of_lt hn]
  have h1 : ∀ j, 1 ≤ j → jf jd n j = 0 := fun j hj => by
   unfold jf; rw [Nat.div_eq_of_lt, Nat.zero_mod]; exact Nat.lt_of_lt_of_le hn (by have := Nat.pow_le_pow_right qQ hj; rwa [Nat.pow_one] at this)
  unfold jj words; rw [h0, h1 1 (by omega), h1 2 (by omega), h1 3 (by omega)]
  rfl
 have E := jh e; clear e
 go_enter Tryz.func178, Tryz.ntmps178
 go_wp2
 refine bodyPost_ret (v := jj n) (by rw [E.out]; simp [results, Tryz.results178, go_sem]) rfl ⟨rfl, ?_⟩
 repeat (first | exact (Below.refl _ _) | refine Below.setCell ?_ (by simp) _ | refine Below.alloc ?_ (by simp) _)
theorem bit_dig (a n : Nat) (hn : n < 256) : ((jf 65536 a (n / 16) : Nat) : Int) / 2 ^ (n % 16) % 2 = ((Ju a n : Nat) : Int) := by
 have e : ((jf 65536 a (n / 16) : Nat) : Int) / 2 ^ (n % 16) % 2 = ((jf 65536 a (n / 16) / 2 ^ (n % 16) % 2 : Nat) : Int) := by simp
 rw [e, show (65536 : Nat) = 2 ^ 16 from rfl, ZO 16 a (n / 16) (n % 16) (by omega), show 16 * (n / 16) + n % 16 = n by omega]; unfold Ju; rw [if_neg (by omega), Int.toNat_natCast]
theorem xH (a : Nat) (i : Int) (w : World) (hi0 : -9223372036854775808 ≤ i) (hi1 : i ≤ 9223372036854775807) :
  Calls Tryz.prog 180 #[jj a, .int .i64 i] w fun e w' => e = .returned (.int .u64 (Ju a i)) ∧ Below w.heap.size w w' := by
 by_cases h : i < 0 ∨ 255 < i
 ·have hv : Ju a i = 0 := by unfold Ju; rw [if_pos h]
  rw [hv]; clear hv; unfold jj words
  rcases h with h | h
  all_goals
   go_enter Tryz.func180, Tryz.ntmps180
   go_wp2
   go_ret
   exact ⟨rfl, ja⟩
 ·obtain ⟨n, rfl⟩ := Int.eq_ofNat_of_zero_le (show 0 ≤ i by omega); have hn : n < 256 := by omega
  have hq : n / 16 < 16 := by omega
  have hr : n % 16 < 16 := by omega
  have HDG := jh (zq a); have pM := jh JF; have HV := jh (bit_dig a n hn); have HO := jh (zQ 16 (jf 65536 a)); obtain ⟨cs, hcs⟩ := je (JM 16 (jf 65536 a)); have HST := jh (fun w t => JA w t (jf 65536 a) cs hcs); have HL : Hid (cs.length = 16) := jh (by rw [hcs, qz]); have HS16 : Hid (16 = cs.toArray.size) := jh (by rw [List.size_toArray, HL.out]); unfold yK at HDG; rw [← hcs] at HDG HO; clear h hcs; unfold jj words at HDG ⊢
  go_enter Tryz.func180, Tryz.ntmps180
  go_wp2_with fail
  refine (HDG.out _).mono ?_; rintro _ w1 ⟨rfl, hb1⟩; have HB1 := jh (((Below.refl w.heap.size w).alloc (Nat.le_refl _) _).trans (hb1.mono (by simp))); clear hb1
  go_wp2_with (refine wpList_store_mid rfl 273 _ _ rfl w1.heap.size 0 cs.toArray rfl rfl (pM.out w1 _ _ _ HS16.out) (by rw [List.size_toArray, HL.out]; kernel_rfl) (all_oneCell_toArray HO.out) ?_
               obtain ⟨w2, e2, u2, -, b2⟩ := HST.out w1 273; rw [← e2]; have HB2 := jw HB1 b2; have cq := u2 (n / 16) hq
               clear e2 u2 b2)
  go_ret
  exact ⟨congrArg (fun z => Ending.returned (.int .u64 z)) HV.out, HB2.out⟩
theorem dR {a : Nat} (ha : a < jo) (w : World) :
  Calls Tryz.prog 216 #[jj a] w fun e w' => e = .returned (.int .i64 (jX a)) ∧ Below w.heap.size w w' := by
 have Ha : Hid (a < 2 ^ 256) := jh (by rw [← dC]; exact ha); have HW := jh (U0.new w a w.heap.size 24 rfl); have HBit := jh (xH a); clear ha; unfold jj words at HBit ⊢
 go_enter Tryz.func216, Tryz.ntmps216
 go_wp2
 go_loopw [3] (fun i wr => ∃ k : Nat, k ≤ 256 ∧ i = .int .i64 ((k : Int) - 1) ∧ U0 wr w.heap.size a ∧ Below w.heap.size w wr ∧ Hid (a < 2 ^ k)) (fun i _ => (intOf i + 1).toNat)
 case atStart => exact ⟨256, by omega, rfl, HW.out, ja, Ha⟩
 case round =>
  obtain ⟨k, hk, rfl, hc, hb, hz⟩ := hrel
  by_cases hk0 : k = 0
  ·subst hk0
   have h0 : a = 0 := by
    have := hz.out; rw [Nat.pow_zero] at this; omega
   have H0 := jh h0; have HB := jh hb; clear h0 hc hb
   go_wp2
   go_ret
   exact ⟨by rw [H0.out]; rfl, HB.out⟩
  ·obtain ⟨i, rfl⟩ : ∃ i, k = i + 1 := ⟨k - 1, by omega⟩; have ei : ((i + 1 : Nat) : Int) - 1 = (i : Int) := by omega
   rw [ei]; clear ei; obtain ⟨c0, c1, c2, c3⟩ := jz hc; have HC := jh hc; have HB := jh hb; clear hc hb hk0; have hbn := WX a i (by omega); have hbq : Ju a i = a / 2 ^ i % 2 := by unfold Ju; rw [if_neg (by omega), Int.toNat_natCast]
   by_cases hd : Ju a i = 1
   ·have hB := fun w => HBit.out i w (by omega) (by omega)
    rw [hd] at hB; have HB1 := jh hB; have HT := jh (is_top hz.out (by omega)); clear hB hbn hbq hd HBit
    go_wp2_with fail
    refine (HB1.out _).mono ?_; rintro _ w1 ⟨rfl, hb1⟩; have HB2 := jw HB hb1; clear hb1
    go_wp2
    go_ret
    exact ⟨congrArg (fun z => Ending.returned (.int .i64 z)) (by have := HT.out; omega), HB2.out⟩
   ·have hd0 : Ju a i = 0 := by rw [hbn] at hd ⊢; split at hd <;> simp_all
    have hB := fun w => HBit.out i w (by omega) (by omega)
    rw [hd0] at hB; have HB1 := jh hB; have HT := jh (no_top hz.out (by omega)); clear hB hbn hbq hd hd0 HBit
    go_wp2_with fail
    refine (HB1.out _).mono ?_; rintro _ w1 ⟨rfl, hb1⟩; have HB2 := jw HB hb1; have HC2 := jn hb1 HC; clear hb1
    go_wp2
    go_roundw
    case rel => exact ⟨i, by omega, by go_num, HC2.out, HB2.out, HT⟩
    case measure => simp [intOf]
theorem QG {a b : Nat} (ha : a < jo) (hb : b < jo) (w : World) :
  Calls Tryz.prog 181 #[jj a, jj b] w fun e w' => e = .returned (.int .i64 (qL a b)) ∧ Below w.heap.size w w' := by
 have pM := jh JF; have Ha := jh ha; have Hb := jh hb; have HW := jh (fun (w : World) (o : Obj) => U0.new (w.alloc o) b (w.heap.size + 1) 24 (by simp)); have aC := jh (zq a); have SA := jh (zQ 16 (jf 65536 a)); obtain ⟨cs, hcs1⟩ := je (JM 16 (jf 65536 a)); have CJ := jh (fun w t => JA w t (jf 65536 a) cs hcs1); have UF : Hid (cs.length = 16) := jh (by rw [hcs1, qz]); have wH : Hid (16 = cs.toArray.size) := jh (by rw [List.size_toArray, UF.out]); unfold yK at aC; rw [← hcs1] at aC SA; clear hcs1; have VB := jh (zq b); have U9 := jh (zQ 16 (jf 65536 b)); obtain ⟨ds, hcs2⟩ := je (JM 16 (jf 65536 b)); have BJ := jh (fun w t => JA w t (jf 65536 b) ds hcs2); have HL2 : Hid (ds.length = 16) := jh (by rw [hcs2, qz]); have HS2 : Hid (16 = ds.toArray.size) := jh (by rw [List.size_toArray, HL2.out]); unfold yK at VB; rw [← hcs2] at VB U9; clear hcs2; clear ha hb; unfold jj words at aC VB ⊢
 go_enter Tryz.func181, Tryz.ntmps181
 go_wp2_with fail
 refine (aC.out _).mono ?_; rintro _ w1 ⟨rfl, hb1⟩; have HB1 := jh ((((Below.refl w.heap.size w).alloc (Nat.le_refl _) _).alloc (by simp) _).trans (hb1.mono (by simp; omega))); have bD := jh (U0.later hb1 (HW.out _ _)); clear hb1 HW
 go_wp2_with (
   refine wpList_store_mid rfl 273 _ _ rfl w1.heap.size 0 cs.toArray rfl rfl (pM.out w1 _ _ _ wH.out) (by rw [List.size_toArray, UF.out]; kernel_rfl) (all_oneCell_toArray SA.out) ?_; obtain ⟨w2, e9, u9, f9, b9⟩ := CJ.out w1 273; rw [← e9]; have HX := jh u9; have HB2 := jw HB1 b9; have HN2 := jn b9 bD; have hn1 : w1.heap.size < w2.heap.size := World.block_lt_of_cell? (a := ⟨w1.heap.size, 0, none⟩) _ (u9 0 (by omega)); obtain ⟨q0, q1, q2, q3⟩ := jz HN2.out
   clear e9 u9 f9 b9)
 refine (VB.out _).mono ?_; rintro _ w3 ⟨rfl, hb3⟩; have HB3 := jw HB2 hb3; have HX3 := jh (HX.out.later hb3 hn1); have hn3 := hb3.size; clear hb3 q0 q1 q2 q3 HB1 bD HB2 HN2 HX CJ wH SA UF
 go_wp2_with (
   refine wpList_store_mid rfl 273 _ _ rfl w3.heap.size 0 ds.toArray rfl rfl (pM.out w3 _ _ _ HS2.out) (by rw [List.size_toArray, HL2.out]; kernel_rfl) (all_oneCell_toArray U9.out) ?_; obtain ⟨w4, e9, u9, f9, b9⟩ := BJ.out w3 273; rw [← e9]; have HY := jh u9; have HB4 := jw HB3 b9; have HX4 := jh (HX3.out.later b9 (by omega))
   clear e9 u9 f9 b9)
 clear HB3 HX3 BJ HS2 U9 HL2 pM
 go_loopw [7] (fun i wr => ∃ k n : Nat, k ≤ 16 ∧ i = .int .i64 ((k : Int) - 1) ∧ wr = w4.drewN n ∧ Hid (∀ j, k ≤ j → j < 16 → jf 65536 a j = jf 65536 b j)) (fun i _ => (intOf i + 1).toNat)
 case atStart => exact ⟨16, 0, by omega, rfl, rfl, jh fun j h1 h2 => by omega⟩
 case round =>
  obtain ⟨k, n, hk, rfl, rfl, hz⟩ := hrel
  by_cases hk0 : k = 0
  ·subst hk0; have h0 : a = b := IX Ha.out Hb.out fun j hj => hz.out j (by omega) hj
   have hv : qL a b = 0 := by unfold qL; rw [if_neg (by omega), if_pos h0]
   have HV := jh hv; clear h0 hv
   go_wp2
   go_ret
   exact ⟨by rw [HV.out]; rfl, ⟨HB4.out.os, HB4.out.tape, HB4.out.output, HB4.out.size, HB4.out.block⟩⟩
  ·obtain ⟨i, rfl⟩ : ∃ i, k = i + 1 := ⟨k - 1, by omega⟩; have ei : ((i + 1 : Nat) : Int) - 1 = (i : Int) := by omega
   rw [ei]; clear ei; have xk : ∀ n, (w4.drewN n).cell? ⟨w1.heap.size, i, none⟩ = some (.int .u64 (jf 65536 a i)) := fun n => HX4.out i (by omega)
   have yk : ∀ n, (w4.drewN n).cell? ⟨w3.heap.size, i, none⟩ = some (.int .u64 (jf 65536 b i)) := fun n => HY.out i (by omega)
   have hi16 : i < 16 := by omega
   have hz' := jh (fun j (h1 : i < j) (h2 : j < 16) => hz.out j h1 h2); clear hk0; obtain ⟨x, hx⟩ : ∃ x, jf 65536 a i = x := ⟨_, rfl⟩; obtain ⟨y, hy⟩ : ∃ y, jf 65536 b i = y := ⟨_, rfl⟩; have Hx := jh hx; have Hy := jh hy; rw [hx] at xk; rw [hy] at yk; clear hx hy
   rcases Nat.lt_trichotomy x y with h | h | h
   ·have HV : Hid (qL a b = -1) := jh (by
     have := bM Ha.out Hb.out hi16 hz'.out (by rw [Hx.out, Hy.out]; exact h); unfold qL
     rw [if_pos this])
    have h1 : decide (x < y) = true := by simpa using h
    clear h
    go_wp2
    go_quiet (fail)
    go_wp2
    go_ret
    exact ⟨by rw [HV.out]; rfl, ⟨HB4.out.os, HB4.out.tape, HB4.out.output, HB4.out.size, HB4.out.block⟩⟩
   ·subst h
    iterate 2
     go_wp2
     go_quiet (fail)
    go_wp2
    go_roundw
    case rel => exact ⟨i, _, by omega, by go_num, rfl, jh fun j h1 h2 => by
      by_cases hj : j = i
      ·subst hj; rw [Hx.out, Hy.out]
      ·exact hz'.out j (by omega) h2⟩
    case measure => simp [intOf]
   ·have HV : Hid (qL a b = 1) := jh (by
     have := bM Hb.out Ha.out hi16 (fun j h1 h2 => (hz'.out j h1 h2).symm) (by rw [Hx.out, Hy.out]; exact h); unfold qL
     rw [if_neg (by omega), if_neg (by omega)])
    have h1 : decide (x < y) = false := by simp; omega
    have h2 : decide (y < x) = true := by simpa using h
    clear h
    go_wp2
    go_quiet (fail)
    go_wp2
    go_quiet (fail)
    go_wp2
    go_ret
    exact ⟨by rw [HV.out]; rfl, ⟨HB4.out.os, HB4.out.tape, HB4.out.output, HB4.out.size, HB4.out.block⟩⟩
theorem MN (x j : Nat) : jf 65536 x j ≤ 65535 := by have := QA x j; omega
theorem iL (w : World) (b : Nat) (o0 : Obj) (t1 t2 : TypeId) : ∀ W, W = (((w.alloc o0).alloc (.cells #[.int .u64 (jf jd b 0), .int .u64 (jf jd b 1), .int .u64 (jf jd b 2), .int .u64 (jf jd b 3)] t1)).alloc (.cells #[.int .u64 0, .int .u64 0, .int .u64 0, .int .u64 0] t2)) →
  ∀ w1, Below W.heap.size W w1 → Below w.heap.size w w1 ∧ U0 w1 (w.heap.size + 1) b ∧ A7 w1 (w.heap.size + 1 + 1) 4 (fun _ => 0) ∧ Y0 w1 (w.heap.size + 1 + 1) 4 ∧ w.heap.size + 1 + 1 < w1.heap.size := by
 intro W hW w1 hb; have hs := hb.size; subst hW; refine ⟨((((Below.refl w.heap.size w).alloc (Nat.le_refl _) _).alloc (by simp) _).alloc (by simp; omega) _).trans (hb.mono (by simp; omega)), U0.later hb ((U0.new _ _ _ _ (by simp)).alloc _), (A7.zero4 _ _ _ (by simp)).later hb (by simp), (Y0.made _ _ _ _ _ (by simp)).later hb (by simp), ?_⟩
 simp at hs
 omega
theorem LV {a b : Nat} (ha : a < jo) (hb : b < jo) (w : World) :
  Calls Tryz.prog 211 #[jj a, jj b] w fun e w' => e = .returned (.tuple #[jj (qY a b), .int .u64 (qK a b)]) ∧ Below w.heap.size w w' := by
 have pM := jh JF; have HLaw := jh (bU ha hb); have aC := jh (zq a); have SA := jh (zQ 16 (jf 65536 a)); obtain ⟨cs, hcs1⟩ := je (JM 16 (jf 65536 a)); have CJ := jh (fun w t => JA w t (jf 65536 a) cs hcs1); have UF : Hid (cs.length = 16) := jh (by rw [hcs1, qz]); have wH : Hid (16 = cs.toArray.size) := jh (by rw [List.size_toArray, UF.out]); unfold yK at aC; rw [← hcs1] at aC SA; clear hcs1; have VB := jh (zq b); have U9 := jh (zQ 16 (jf 65536 b)); obtain ⟨ds, hcs2⟩ := je (JM 16 (jf 65536 b)); have BJ := jh (fun w t => JA w t (jf 65536 b) ds hcs2); have HL2 : Hid (ds.length = 16) := jh (by rw [hcs2, qz]); have HS2 : Hid (16 = ds.toArray.size) := jh (by rw [List.size_toArray, HL2.out]); unfold yK at VB; rw [← hcs2] at VB U9; clear hcs2; have HS0 := jh (iL w b); clear ha hb; unfold jj words at aC VB ⊢
 go_enter Tryz.func211, Tryz.ntmps211
 go_wp2_with fail
 refine (aC.out _).mono ?_; rintro _ w1 ⟨rfl, hb1⟩; obtain ⟨h1, h2, h3, h4, h5⟩ := HS0.out _ _ _ _ rfl w1 hb1; have HB1 := jh h1; have bD := jh h2; have HR1 := jh h3; have HF1 := jh h4; clear hb1 h1 h2 h3 h4 HS0
 go_wp2_with (
   refine wpList_store_mid rfl 273 _ _ rfl w1.heap.size 0 cs.toArray rfl rfl (pM.out w1 _ _ _ wH.out) (by rw [List.size_toArray, UF.out]; kernel_rfl) (all_oneCell_toArray SA.out) ?_; obtain ⟨w2, e9, u9, f9, b9⟩ := CJ.out w1 273; rw [← e9]; have HX := jh u9; have HFX := jh f9; have HB2 := jw HB1 b9; have HR2 := jh (HR1.out.later b9 h5); have HF2 := jh (HF1.out.later b9 h5); have hn1 : w1.heap.size < w2.heap.size := World.block_lt_of_cell? (a := ⟨w1.heap.size, 0, none⟩) _ (u9 0 (by omega)); obtain ⟨q0, q1, q2, q3⟩ := jz (U0.later b9 bD.out)
   clear e9 u9 f9 b9)
 refine (VB.out _).mono ?_; rintro _ w3 ⟨rfl, hb3⟩; have HB3 := jw HB2 hb3; have HX3 := jh (HX.out.later hb3 hn1); have HFX3 := jh (HFX.out.later hb3 hn1); have HR3 := jh (HR2.out.later hb3 (by omega)); have HF3 := jh (HF2.out.later hb3 (by omega)); have hn3 := hb3.size; clear hb3 q0 q1 q2 q3 HB1 bD HB2 HX HFX HR1 HF1 HR2 HF2 CJ wH SA UF
 go_wp2_with (
   refine wpList_store_mid rfl 273 _ _ rfl w3.heap.size 0 ds.toArray rfl rfl (pM.out w3 _ _ _ HS2.out) (by rw [List.size_toArray, HL2.out]; kernel_rfl) (all_oneCell_toArray U9.out) ?_; obtain ⟨w4, e9, u9, f9, b9⟩ := BJ.out w3 273; rw [← e9]; have HY := jh u9; have HB4 := jw HB3 b9; have HX4 := jh (HX3.out.later b9 (by omega)); have HFX4 := jh (HFX3.out.later b9 (by omega)); have HR4 := jh (HR3.out.later b9 (by omega)); have HF4 := jh (HF3.out.later b9 (by omega)); have hn4 : w3.heap.size < w4.heap.size := World.block_lt_of_cell? (a := ⟨w3.heap.size, 0, none⟩) _ (u9 0 (by omega))
   clear e9 u9 f9 b9)
 clear HB3 HX3 HFX3 HR3 HF3 BJ HS2 U9 HL2 pM aC VB; have hw1 : w.heap.size ≤ w1.heap.size := by omega
 go_loopw [8, 9] (fun m i wr => ∃ k : Nat, k ≤ 16 ∧ i = .int .i64 k ∧ m = .int .u64 (nJ (jf 65536 a) (jf 65536 b) k) ∧ A7 wr w1.heap.size 16 (fun j => if j < k then kW (jf 65536 a) (jf 65536 b) j else jf 65536 a j) ∧ Y0 wr w1.heap.size 16 ∧ A7 wr w3.heap.size 16 (jf 65536 b) ∧
  A7 wr (w.heap.size + 1 + 1) 4 (fun _ => 0) ∧ Y0 wr (w.heap.size + 1 + 1) 4 ∧ Below w.heap.size w wr ∧ w4.heap.size ≤ wr.heap.size) (fun _ i _ => 16 - (intOf i).toNat)
 case atStart => exact ⟨0, by omega, rfl, rfl, HX4.out.congr (fun j _ => rfl), HFX4.out, HY.out, HR4.out, HF4.out, HB4.out, Nat.le_refl _⟩
 case round =>
  obtain ⟨k, hk, rfl, rfl, hx, hfx, hy, hr, hf, hbl, hsz⟩ := hrel; have HX := jh hx; have HFX := jh hfx; have HYY := jh hy; have HR := jh hr; have HF := jh hf; have HB := jh hbl
  by_cases hlt : k < 16
  ·have xk := hx k hlt; simp only [Nat.lt_irrefl, if_false] at xk; have yk := hy k hlt; have fk := hfx k hlt; have lx := MN a k; have ly := MN b k; have lc := vV (QA a) (QA b) k; have HS := jh (show kW (jf 65536 a) (jf 65536 b) k = addS (jf 65536 a k) (jf 65536 b k) (nJ (jf 65536 a) (jf 65536 b) k) from rfl); have HC := jh (show nJ (jf 65536 a) (jf 65536 b) (k + 1) = addK (jf 65536 a k) (jf 65536 b k) (nJ (jf 65536 a) (jf 65536 b) k) from rfl); obtain ⟨x, ex⟩ := je (jf 65536 a k); obtain ⟨y, ey⟩ := je (jf 65536 b k); obtain ⟨c, ec⟩ := je (nJ (jf 65536 a) (jf 65536 b) k); rw [← ex, ← ey, ← ec] at HS HC; rw [← ex] at xk lx; rw [← ey] at yk ly; rw [← ec] at lc ⊢; clear ex ey ec hx hfx hy hr hf hbl
   go_wp2
   go_region
   go_wp2
   go_roundw
   case rel =>
    refine ⟨k + 1, by omega, by go_num, congrArg (Value.int .u64) (by rw [HC.out]; unfold addK; simp), (HX.out.setI k _ (kW (jf 65536 a) (jf 65536 b) k) (by rw [HS.out]; unfold addS; simp)).congr fun j hj => ?_, HFX.out.set _ _, HYY.out.other _ _ (by omega), HR.out.other _ _ (by omega), HF.out.set _ _, (HB.out.setCell (by simp; omega) _).drew, by simpa using hsz⟩
    by_cases h : j = k
    ·subst h; simp
    ·by_cases h' : j < k
     ·simp [h, h', show j < k + 1 by omega]
     ·simp [h, h', show ¬ j < k + 1 by omega]
   case measure => simp [intOf]; omega
  ·obtain rfl : k = 16 := by omega
   have hx' : A7 wr w1.heap.size 16 (kW (jf 65536 a) (jf 65536 b)) := hx.congr fun j hj => if_pos hj
   have r0 := hr 0 (by omega); have f0 := hf 0 (by omega); have HO := jh (TM (d := kW (jf 65536 a) (jf 65536 b)) (fun j _ => Nat.mod_lt _ (by omega)) w1.heap.size 0 16 wr (by omega) (fun j hj => by rw [Nat.zero_add]; exact hx' j hj) (Nat.le_refl _)); rw [HLaw.out.1] at HO; have hrs : w.heap.size + 1 + 1 < wr.heap.size := by omega
   have HV := jh HLaw.out.2; clear hx hfx hy hr hf hbl hx' r0 f0 HX HFX HYY; unfold jj words at HO
   go_wp2_with fail
   refine HO.out.mono ?_; rintro _ w5 ⟨rfl, hb5⟩; have HB5 := jw HB hb5; have hr5 := HR.out.later hb5 hrs; have hf5 := HF.out.later hb5 hrs; have r0 := hr5 0 (by omega); have r1 := hr5 1 (by omega); have r2 := hr5 2 (by omega); have r3 := hr5 3 (by omega); have f0 := hf5 0 (by omega); have f1 := hf5 1 (by omega); have f2 := hf5 2 (by omega); have f3 := hf5 3 (by omega); clear hb5 hr5 hf5 HR HF HB
   go_wp2
   refine bodyPost_ret (v := .tuple #[jj (qY a b), .int .u64 (qK a b)]) (by simp [results, Tryz.results211, go_sem, jj, words, r0, r1, r2, r3, HV.out]) rfl ⟨rfl, ?_⟩; exact (((HB5.out.setCell (by simp; omega) _).setCell (by simp; omega) _).setCell (by simp; omega) _).setCell (by simp; omega) _
theorem CV {a b : Nat} (ha : a < jo) (hb : b < jo) (w : World) :
  Calls Tryz.prog 212 #[jj a, jj b] w fun e w' => e = .returned (.tuple #[jj (Jj a b), .int .u64 (zk a b)]) ∧ Below w.heap.size w w' := by
 have pM := jh JF; have HLaw := jh (IR ha hb); have aC := jh (zq a); have SA := jh (zQ 16 (jf 65536 a)); obtain ⟨cs, hcs1⟩ := je (JM 16 (jf 65536 a)); have CJ := jh (fun w t => JA w t (jf 65536 a) cs hcs1); have UF : Hid (cs.length = 16) := jh (by rw [hcs1, qz]); have wH : Hid (16 = cs.toArray.size) := jh (by rw [List.size_toArray, UF.out]); unfold yK at aC; rw [← hcs1] at aC SA; clear hcs1; have VB := jh (zq b); have U9 := jh (zQ 16 (jf 65536 b)); obtain ⟨ds, hcs2⟩ := je (JM 16 (jf 65536 b)); have BJ := jh (fun w t => JA w t (jf 65536 b) ds hcs2); have HL2 : Hid (ds.length = 16) := jh (by rw [hcs2, qz]); have HS2 : Hid (16 = ds.toArray.size) := jh (by rw [List.size_toArray, HL2.out]); unfold yK at VB; rw [← hcs2] at VB U9; clear hcs2; have HS0 := jh (iL w b); clear ha hb; unfold jj words at aC VB ⊢
 go_enter Tryz.func212, Tryz.ntmps212
 go_wp2_with fail
 refine (aC.out _).mono ?_; rintro _ w1 ⟨rfl, hb1⟩; obtain ⟨h1, h2, h3, h4, h5⟩ := HS0.out _ _ _ _ rfl w1 hb1; have HB1 := jh h1; have bD := jh h2; have HR1 := jh h3; have HF1 := jh h4; clear hb1 h1 h2 h3 h4 HS0
 go_wp2_with (
   refine wpList_store_mid rfl 273 _ _ rfl w1.heap.size 0 cs.toArray rfl rfl (pM.out w1 _ _ _ wH.out) (by rw [List.size_toArray, UF.out]; kernel_rfl) (all_oneCell_toArray SA.out) ?_; obtain ⟨w2, e9, u9, f9, b9⟩ := CJ.out w1 273; rw [← e9]; have HX := jh u9; have HFX := jh f9; have HB2 := jw HB1 b9; have HR2 := jh (HR1.out.later b9 h5); have HF2 := jh (HF1.out.later b9 h5); have hn1 : w1.heap.size < w2.heap.size := World.block_lt_of_cell? (a := ⟨w1.heap.size, 0, none⟩) _ (u9 0 (by omega)); obtain ⟨q0, q1, q2, q3⟩ := jz (U0.later b9 bD.out)
   clear e9 u9 f9 b9)
 refine (VB.out _).mono ?_; rintro _ w3 ⟨rfl, hb3⟩; have HB3 := jw HB2 hb3; have HX3 := jh (HX.out.later hb3 hn1); have HFX3 := jh (HFX.out.later hb3 hn1); have HR3 := jh (HR2.out.later hb3 (by omega)); have HF3 := jh (HF2.out.later hb3 (by omega)); have hn3 := hb3.size; clear hb3 q0 q1 q2 q3 HB1 bD HB2 HX HFX HR1 HF1 HR2 HF2 CJ wH SA UF
 go_wp2_with (
   refine wpList_store_mid rfl 273 _ _ rfl w3.heap.size 0 ds.toArray rfl rfl (pM.out w3 _ _ _ HS2.out) (by rw [List.size_toArray, HL2.out]; kernel_rfl) (all_oneCell_toArray U9.out) ?_; obtain ⟨w4, e9, u9, f9, b9⟩ := BJ.out w3 273; rw [← e9]; have HY := jh u9; have HB4 := jw HB3 b9; have HX4 := jh (HX3.out.later b9 (by omega)); have HFX4 := jh (HFX3.out.later b9 (by omega)); have HR4 := jh (HR3.out.later b9 (by omega)); have HF4 := jh (HF3.out.later b9 (by omega)); have hn4 : w3.heap.size < w4.heap.size := World.block_lt_of_cell? (a := ⟨w3.heap.size, 0, none⟩) _ (u9 0 (by omega))
   clear e9 u9 f9 b9)
 clear HB3 HX3 HFX3 HR3 HF3 BJ HS2 U9 HL2 pM aC VB; have hw1 : w.heap.size ≤ w1.heap.size := by omega
 go_loopw [8, 9] (fun m i wr => ∃ k : Nat, k ≤ 16 ∧ i = .int .i64 k ∧ m = .int .u64 (pJ (jf 65536 a) (jf 65536 b) k) ∧ A7 wr w1.heap.size 16 (fun j => if j < k then LX (jf 65536 a) (jf 65536 b) j else jf 65536 a j) ∧ Y0 wr w1.heap.size 16 ∧ A7 wr w3.heap.size 16 (jf 65536 b) ∧
  A7 wr (w.heap.size + 1 + 1) 4 (fun _ => 0) ∧ Y0 wr (w.heap.size + 1 + 1) 4 ∧ Below w.heap.size w wr ∧ w4.heap.size ≤ wr.heap.size) (fun _ i _ => 16 - (intOf i).toNat)
 case atStart => exact ⟨0, by omega, rfl, rfl, HX4.out.congr (fun j _ => rfl), HFX4.out, HY.out, HR4.out, HF4.out, HB4.out, Nat.le_refl _⟩
 case round =>
  obtain ⟨k, hk, rfl, rfl, hx, hfx, hy, hr, hf, hbl, hsz⟩ := hrel; have HX := jh hx; have HFX := jh hfx; have HYY := jh hy; have HR := jh hr; have HF := jh hf; have HB := jh hbl
  by_cases hlt : k < 16
  ·have xk := hx k hlt; simp only [Nat.lt_irrefl, if_false] at xk; have yk := hy k hlt; have fk := hfx k hlt; have lx := MN a k; have ly := MN b k; have lc := TN (jf 65536 a) (jf 65536 b) k; have HS := jh (show LX (jf 65536 a) (jf 65536 b) k = wZ (jf 65536 a k) (jf 65536 b k) (pJ (jf 65536 a) (jf 65536 b) k) from rfl); have HC := jh (show pJ (jf 65536 a) (jf 65536 b) (k + 1) = xZ (jf 65536 a k) (jf 65536 b k) (pJ (jf 65536 a) (jf 65536 b) k) from rfl); obtain ⟨x, ex⟩ := je (jf 65536 a k); obtain ⟨y, ey⟩ := je (jf 65536 b k); obtain ⟨c, ec⟩ := je (pJ (jf 65536 a) (jf 65536 b) k); rw [← ex, ← ey, ← ec] at HS HC; rw [← ex] at xk lx; rw [← ey] at yk ly; rw [← ec] at lc ⊢; clear ex ey ec hx hfx hy hr hf hbl
   go_wp2
   go_region
   go_wp2
   go_roundw
   case rel =>
    refine ⟨k + 1, by omega, by go_num, congrArg (Value.int .u64) (by rw [HC.out]; unfold xZ; omega), (HX.out.setI k _ (LX (jf 65536 a) (jf 65536 b) k) (by rw [HS.out]; unfold wZ; omega)).congr fun j hj => ?_, HFX.out.set _ _, HYY.out.other _ _ (by omega), HR.out.other _ _ (by omega), HF.out.set _ _, (HB.out.setCell (by simp; omega) _).drew, by simpa using hsz⟩
    by_cases h : j = k
    ·subst h; simp
    ·by_cases h' : j < k
     ·simp [h, h', show j < k + 1 by omega]
     ·simp [h, h', show ¬ j < k + 1 by omega]
   case measure => simp [intOf]; omega
  ·obtain rfl : k = 16 := by omega
   have hx' : A7 wr w1.heap.size 16 (LX (jf 65536 a) (jf 65536 b)) := hx.congr fun j hj => if_pos hj
   have r0 := hr 0 (by omega); have f0 := hf 0 (by omega); have HO := jh (TM (d := LX (jf 65536 a) (jf 65536 b)) (fun j _ => Nat.mod_lt _ (by omega)) w1.heap.size 0 16 wr (by omega) (fun j hj => by rw [Nat.zero_add]; exact hx' j hj) (Nat.le_refl _)); rw [HLaw.out.1] at HO; have hrs : w.heap.size + 1 + 1 < wr.heap.size := by omega
   have HV := jh HLaw.out.2; clear hx hfx hy hr hf hbl hx' r0 f0 HX HFX HYY; unfold jj words at HO
   go_wp2_with fail
   refine HO.out.mono ?_; rintro _ w5 ⟨rfl, hb5⟩; have HB5 := jw HB hb5; have hr5 := HR.out.later hb5 hrs; have hf5 := HF.out.later hb5 hrs; have r0 := hr5 0 (by omega); have r1 := hr5 1 (by omega); have r2 := hr5 2 (by omega); have r3 := hr5 3 (by omega); have f0 := hf5 0 (by omega); have f1 := hf5 1 (by omega); have f2 := hf5 2 (by omega); have f3 := hf5 3 (by omega); clear hb5 hr5 hf5 HR HF HB
   go_wp2
   refine bodyPost_ret (v := .tuple #[jj (Jj a b), .int .u64 (zk a b)]) (by simp [results, Tryz.results212, go_sem, jj, words, r0, r1, r2, r3, HV.out]) rfl ⟨rfl, ?_⟩; exact (((HB5.out.setCell (by simp; omega) _).setCell (by simp; omega) _).setCell (by simp; omega) _).setCell (by simp; omega) _
end Go.Proofs.YtmijablfjigbhaaGreatDoor
