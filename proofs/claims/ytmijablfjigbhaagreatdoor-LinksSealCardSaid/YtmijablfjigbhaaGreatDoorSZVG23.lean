/- Layer 6's reference -/
import Derived.Test.YtmijablfjigbhaaGreatDoorSZVG17
import Derived.Test.YtmijablfjigbhaaGreatDoorSZVG18
import Derived.Lib.ConvBytes
import Derived.Test.YtmijablfjigbhaaGreatDoorSZVG21
import Derived.Test.YtmijablfjigbhaaGreatDoorSZVG22
set_option linter.unusedSimpArgs false
set_option linter.unusedVariables false
set_option maxHeartbeats 3000000
set_option maxRecDepth 20000
namespace Go.Proofs.YtmijablfjigbhaaGreatDoor
open Go.ChangeShapes Go.WideShapes Go.ChangeAt Go.RowKit
def qB (s : ByteArray) : List Nat := s.data.toList.map fun b => b.toNat
theorem jW (s : ByteArray) : (qB s).length = s.size := by unfold qB; simp
theorem lI (s : ByteArray) : jM (qB s) := fun x hx => by
 unfold qB at hx; obtain ⟨b, _, rfl⟩ := List.mem_map.1 hx; exact b.toNat_lt
theorem mJ (w : World) (s : ByteArray) (e : TypeId) : Below w.heap.size w (Lib.bytesWorld w e s) :=
 ⟨rfl, rfl, rfl, by rw [Lib.bytesWorld_size]; omega, fun g hg => Lib.bytesWorld_at_old w e s g hg⟩
theorem xQ (w : World) (s : ByteArray) (e : TypeId) (hs : s.size ≤ 140737488355328) : J6 .u8 (Lib.bytesWorld w e s) (.slice (some ⟨w.heap.size, 0, none⟩) s.size (grownCap w s.size 0 e)) (qB s) := by
 have hl := jW s; refine ⟨_, _, by rw [hl], by rw [hl]; exact grownCap_ge w s.size 0 e, grownCap_le_maxLen w s.size 0 e (by unfold maxLen; omega), (fun h => by cases h), fun _ => ⟨w.heap.size, 0, rfl, fun i x hx => ?_⟩⟩; have hi : i < s.size := by have := (List.getElem?_eq_some_iff.1 hx).1; omega
 rw [Nat.zero_add, Lib.bytesWorld_cell w e s i hi]; unfold qB at hx; rw [List.getElem?_map] at hx; obtain ⟨b, hb, rfl⟩ := Option.map_eq_some_iff.1 hx; rw [List.getD_eq_getElem?_getD, hb]
 rfl
def enc (l : List Nat) : List Nat := be 4 l.length ++ l
def hdr (s : List Nat) (n : Nat) : List Nat := enc s ++ be 4 n
def jU (s : List Nat) (ls : List (List Nat)) : List Nat := hdr s ls.length ++ ls.flatMap enc
theorem BF {l : List Nat} (h : jM l) : jM (enc l) := fun x hx => by
 unfold enc at hx
 rcases List.mem_append.1 hx with hx | hx
 ·exact zs _ _ x hx
 ·exact h x hx
theorem qo (l : List Nat) : (enc l).length = 4 + l.length := by unfold enc; simp [jH]
theorem qn (l : List Nat) (n : Nat) : (hdr l n).length = 8 + l.length := by unfold hdr; simp [qo, jH]; omega
theorem vF {ls : List (List Nat)} {i : Nat} {l : List Nat} (h : ls[i]? = some l) : (ls.take (i + 1)).flatMap enc = (ls.take i).flatMap enc ++ enc l := by
 rw [List.take_add_one, h]
 simp
theorem yN (ls : List (List Nat)) (i : Nat) : ((ls.take i).flatMap enc).length ≤ (ls.flatMap enc).length := by
 conv => rhs; rw [← List.take_append_drop i ls, List.flatMap_append, List.length_append]
 omega
structure SY (w wr : World) (OO S : Nat) (l : List Nat) : Prop where
 sum : J8 wr S l
 row : wr.heap[OO]? = some (.cells (Array.replicate 32 (.int .u8 0)) 32 (0, 0))
 below : Below w.heap.size w wr
 at9 : OO = w.heap.size
 lt : OO < S
theorem SY.later {w wr w' : World} {OO S : Nat} {l : List Nat} (h : SY w wr OO S l) (hb : Below wr.heap.size wr w') : SY w w' OO S l :=
 ⟨h.sum.later hb, (hb.block _ (Array.getElem?_eq_some_iff.1 h.row).1).trans h.row, jk h.below hb, h.at9, h.lt⟩
theorem SY.wrote {w wr w' : World} {OO S : Nat} {l l' : List Nat} (h : SY w wr OO S l) (hs : J8 w' S l') (hg : wr.grownBy w' (some S)) : SY w w' OO S l' :=
 ⟨hs, (hg.block OO (Array.getElem?_eq_some_iff.1 h.row).1 (fun e => by have := h.lt; injection e with e; omega)).trans h.row, h.below.grown hg h.below.size (fun k hk => by have := h.lt; have := h.at9; injection hk with hk; omega), h.at9, h.lt⟩
theorem OM {w w' : World} {v : Value} {l : List Nat} {S : Nat} (h : Own w' w.heap.size v l) (hS : S < w.heap.size) : v.ownBlock ≠ some S := fun e => by
 have := (O1.lt h S e).1; omega
theorem Of_any {s : ByteArray} {g o cap : Nat} {vs : List Value} {ls : List (List Nat)} (w : World) (hP : Parts w g o vs ls) (hcap : ls.length ≤ cap) (hcm : cap ≤ maxLen) (hby : ∀ l ∈ ls, jM l) (hsz : (jU (qB s) ls).length ≤ 1073741824) :
  Calls Tryz.prog 39 #[.string s, .slice (some ⟨g, o, none⟩) ls.length cap] w fun e w' => e = .returned (.agg (jp .u8 (qE (jU (qB s) ls))).toArray) ∧ Below w.heap.size w w' := by
 have HP := jh hP; have XQ := jh hby; have V8 := jh hsz; have hm1 := hcm; unfold maxLen at hm1
 have hs1 : s.size + 8 + (ls.flatMap enc).length ≤ 1073741824 := by
  unfold jU at hsz; rw [List.length_append, qn, jW] at hsz; omega
 have UF := jh hs1; have HCV := jh (fun W : World => Lib.run_convert_string_bytes (P := Tryz.prog) W 9 30 5 s Tryz.underlying9 Tryz.underlying30 Tryz.underlying5); clear hP hby hsz
 go_enter Tryz.func39, Tryz.ntmps39
 go_upto_region 1 with fail
 obtain ⟨w1, e1⟩ := je (w.alloc (.cells (Array.replicate 32 (.int .u8 0)) 32)); have HB1 := jh (show Below w.heap.size w w1 by rw [e1]; exact ja); have bD := jh (show w1.heap.size = w.heap.size + 1 by rw [e1]; simp); have HR1 := jh (show w1.heap[w.heap.size]? = some (.cells (Array.replicate 32 (.int .u8 0)) 32 (0, 0)) by rw [e1]; exact heap_alloc_new _ _); have h9 : (w.alloc (.cells #[.int .u8 0, .int .u8 0, .int .u8 0, .int .u8 0, .int .u8 0, .int .u8 0, .int .u8 0, .int .u8 0, .int .u8 0, .int .u8 0, .int .u8 0, .int .u8 0, .int .u8 0, .int .u8 0, .int .u8 0, .int .u8 0, .int .u8 0, .int .u8 0, .int .u8 0, .int .u8 0, .int .u8 0, .int .u8 0, .int .u8 0, .int .u8 0, .int .u8 0, .int .u8 0, .int .u8 0, .int .u8 0, .int .u8 0, .int .u8 0, .int .u8 0, .int .u8 0] 32)) = w1 := e1.symm; rw [h9]; clear h9 e1; obtain ⟨OO, dE⟩ := je (w.heap.size); rw [← dE] at bD HR1 ⊢; have W9 := jh dE; clear dE
 go_wp2_with fail
 refine (New_any w1).mono ?_; rintro _ w2 ⟨S, rfl, hS, hs2, hb2⟩; have HW := jh (show SY w w2 OO S [] from ⟨hs2, (hb2.block OO (by have := bD.out; omega)).trans HR1.out, jk HB1.out hb2, W9.out, by have := bD.out; omega⟩); clear hS hs2 hb2; have hcv := HCV.out
 go_wp2_with fail
 obtain ⟨w3, e3⟩ := je (Lib.bytesWorld w2 5 s); have HW := jh (show SY w w3 OO S [] by rw [e3]; exact HW.out.later (mJ _ _ _)); have hk3 := xQ w2 s 5 (by omega); obtain ⟨c9, wX⟩ := je (grownCap w2 s.size 0 5); obtain ⟨g9, UC⟩ := je (w2.heap.size); rw [← e3, ← wX, ← UC] at hk3; rw [← e3, ← wX, ← UC]; have HK3 := jh hk3; clear e3 hk3 wX UC hcv HCV; refine (nO w3 (J6.nil _ _) HK3.out (by simp [jW]; omega)).mono ?_; rintro _ w4 ⟨v4, rfl, bK, hb4⟩; have HW4 := jh (HW.out.later hb4); have rM := jh bK; have hlt4 := HW.out.sum.lt; clear hb4 bK
 go_wp2_with fail
 refine (Zk w4 HW4.out.sum rM.out.at_ (fun _ => OM rM.out hlt4) (by rw [List.nil_append]; exact BF (lI s)) (by have := V8.out; have := UF.out; simp [jH, qo, jW, qn]; omega)).mono ?_; rintro _ w5 ⟨rfl, hs, hg⟩; have HW := jh (show SY w w5 OO S (enc (qB s)) by have h9 := HW4.out.wrote hs hg; simpa [enc, hdr] using h9); clear hs hg HW4 rM hlt4
 go_wp2_with fail
 refine (mO w5 (J6.nil _ _) ls.length 4 (by omega) (by omega) (by simp)).mono ?_; rintro _ w6 ⟨v6, rfl, ho6, hb6⟩; rw [show many 4 = 4 from rfl] at ho6; have HW4 := jh (HW.out.later hb6); have rM := jh ho6; have hlt6 := HW.out.sum.lt; clear hb6 ho6
 go_wp2_with fail
 refine (Zk w6 HW4.out.sum rM.out.at_ (fun _ => OM rM.out hlt6) (by rw [List.nil_append]; exact zs _ _) (by have := V8.out; have := UF.out; simp [jH, qo, jW, qn]; omega)).mono ?_; rintro _ w7 ⟨rfl, hs, hg⟩; have HW := jh (show SY w w7 OO S (hdr (qB s) ls.length) by have h9 := HW4.out.wrote hs hg; simpa [enc, hdr] using h9); clear hs hg HW4 rM hlt6
 go_wp2_with fail
 go_loopw [22] (fun i wr => ∃ i' : Nat, i' ≤ ls.length ∧ i = .int .i64 i' ∧ Hid (SY w wr OO S (hdr (qB s) ls.length ++ (ls.take i').flatMap enc))) (fun i _ => ls.length - (intOf i).toNat)
 case atStart => exact ⟨0, Nat.zero_le _, rfl, jh (by simpa using HW.out)⟩
 case round =>
  clear HW; obtain ⟨i, hi, rfl, HW⟩ := hrel
  by_cases hlt : i < ls.length
  ·obtain ⟨v, l, hv, hl, hc, hk⟩ := HP.out.2 i hlt; have hcr := jm hc HW.out.below; have HKR := jh (hk.later HW.out.below); have HK0 := jh hk; have HLI := jh hl; have xB := jh (XQ.out l (List.mem_of_getElem? hl))
   have HLE := jh (show ((ls.take i).flatMap enc).length + (4 + l.length) ≤ (ls.flatMap enc).length by
    have h9 := yN ls (i + 1); rw [vF hl, List.length_append, qo] at h9
    omega)
   obtain ⟨ao, cp, rfl, k1, k2, k3, k4⟩ := hk; have L8 := jh hlt; have hli : (i : Int) < (ls.length : Int) := by omega
   have hll : l.length ≤ 1073741824 := by have := UF.out; have := HLE.out; omega
   unfold maxLen at k2; clear hv hl hc k3 k4 hlt
   go_wp2_with fail
   refine (mO wr (J6.nil _ _) l.length 4 (by omega) (by omega) (by simp)).mono ?_; rintro _ w8 ⟨v8, rfl, ho8, hb8⟩; rw [show many 4 = 4 from rfl] at ho8; clear hcr; have HW4 := jh (HW.out.later hb8); have rM := jh ho8; have hlt8 := HW.out.sum.lt; have HKR := jh (HKR.out.later hb8); clear hb8 ho8
   go_wp2_with fail
   refine (Zk w8 HW4.out.sum rM.out.at_ (fun _ => OM rM.out hlt8) (by rw [List.nil_append]; exact zs _ _) (by have := UF.out; have := HLE.out; simp [jH, qn, jW] at *; omega)).mono ?_; rintro _ w9 ⟨rfl, hs, hg⟩; have HW5 := jh (HW4.out.wrote hs hg); clear hs hg HW4 rM hlt8
   go_wp2_with fail
   refine (Zk w9 HW5.out.sum (HK0.out.later HW5.out.below) (fun hne e => by
    obtain ⟨ao9, cp9, e9, _, _, _, h4⟩ := HK0.out; obtain ⟨b9, o9, e8, h5⟩ := h4 (List.length_pos_iff.2 hne); injection e9 with e9 _ _
    rw [e9, e8] at e; have e7 : b9 = S := by injection e
    obtain ⟨x9, V9⟩ : ∃ x, l[0]? = some x := ⟨_, List.getElem?_eq_getElem (List.length_pos_iff.2 hne)⟩; have h7 := World.block_lt_of_cell? (a := ⟨b9, o9 + 0, none⟩) _ (h5 0 x9 V9); have h6 := HW5.out.lt; have h8 := HW5.out.at9; have h3 : b9 < w.heap.size := h7
    omega) xB.out (by have := UF.out; have := HLE.out; simp [jH, qn, jW] at *; omega)).mono ?_
   rintro _ w10 ⟨rfl, hs, hg⟩; have HW6 := jh (show SY w w10 OO S (hdr (qB s) ls.length ++ (ls.take (i + 1)).flatMap enc) by have h9 := HW5.out.wrote hs hg; rw [vF HLI.out]; simpa [enc, List.append_assoc] using h9); clear hs hg
   go_wp2_with fail
   go_roundw
   case rel => exact ⟨i + 1, L8.out, by go_num, HW6⟩
   case measure => simp [intOf]; have := L8.out; omega
  ·obtain rfl : i = ls.length := by omega
   rw [List.take_length] at HW; clear hlt
   go_upto_region 10 with fail
   refine wp_region_lit ?_; have CH := jh (Hash_any wr HW.out.sum (by have := V8.out; unfold jU at this; omega))
   go_wp2_with fail
   refine CH.out.mono ?_; rintro _ w11 ⟨rfl, hb⟩; have HW7 := jh (HW.out.later hb); clear hb; dsimp only
   rename_i hK9
   refine hK9 _ _ ?_; clear hK9; have hszH : (Tryz.prog.info? 32).map (·.size) = some (jp .u8 (qE (hdr (qB s) ls.length ++ ls.flatMap enc))).toArray.size := by rw [zt]; simp [jt, qe]
   refine jy rfl _ _ _ rfl OO _ _ _ HW7.out.row rfl rfl hszH (by simp [jt, qe]) (zY _ _) ?_; obtain ⟨w12, e12⟩ := je (w11.setRow OO (jp .u8 (qE (hdr (qB s) ls.length ++ ls.flatMap enc))).toArray); have hrow : w12.heap[OO]? = some (.cells (jp .u8 (qE (hdr (qB s) ls.length ++ ls.flatMap enc))).toArray 32 (0, 0)) := by rw [e12]; exact setRow_heap w11 OO _ _ _ _ HW7.out.row
   have HROW := jh hrow; have HB12 := jh (show Below w.heap.size w w12 by rw [e12]; exact below_setRow HW7.out.below (by have := HW7.out.at9; omega) _); rw [← e12]; simp only [Act.put, pa, pb, pc]; clear e12 hrow
   go_wp2_with fail
   exact bodyPost_ret (results_cell_row rfl _ w12 OO _ _ _ _ rfl HROW.out Tryz.underlying32 rfl hszH) rfl ⟨rfl, HB12.out⟩
theorem gQ (ls : List (List Nat)) : ls.length ≤ (ls.flatMap enc).length := by
 induction ls with
 | nil => simp
 | cons l ls ih => rw [List.flatMap_cons, List.length_append, qo, List.length_cons]; omega
theorem oN {s : List Nat} {ls : List (List Nat)} (hs : jM s) (hl : ∀ l ∈ ls, jM l) : jM (jU s ls) := fun x hx => by
 unfold jU hdr at hx
 rcases List.mem_append.1 hx with hx | hx
 ·rcases List.mem_append.1 hx with hx | hx
  ·exact BF hs x hx
  ·exact zs _ _ x hx
 ·obtain ⟨l, h1, h2⟩ := List.mem_flatMap.1 hx; exact BF (hl l h1) x h2
theorem Parts.on {w w' : World} {g o : Nat} {vs : List Value} {ls : List (List Nat)} (h : Parts w g o vs ls) (hb : Below w.heap.size w w') : Parts w' g o vs ls :=
 ⟨h.1, fun i hi => by obtain ⟨v, l, h1, h2, h3, h4⟩ := h.2 i hi; exact ⟨v, l, h1, h2, jm h3 hb, h4.later hb⟩⟩
theorem uU {s : ByteArray} {g o cap n : Nat} {vs : List Value} {ls : List (List Nat)} (w : World) (hP : Parts w g o vs ls) (hn : n = ls.length) (hsz : (jU (qB s) ls).length ≤ 190000) :
  Calls Tryz.prog 124 #[.string s, .slice (some ⟨g, o, none⟩) n cap] w fun e w' => ∃ v', e = .returned v' ∧ Own w' w.heap.size v' (jU (qB s) ls) ∧ Below w.heap.size w w' := by
 have HP := jh hP; have V8 := jh hsz; have hs1 : s.size + 8 + (ls.flatMap enc).length ≤ 190000 := by unfold jU at hsz; rw [List.length_append, qn, jW] at hsz; omega
 have hnb : n ≤ 190000 := by rw [hn]; have := gQ ls; omega
 have HN := jh hn; have UF := jh hs1; have hcv : ∀ W : World, _ := fun W : World => Lib.run_convert_string_bytes (P := Tryz.prog) W 9 30 5 s Tryz.underlying9 Tryz.underlying30 Tryz.underlying5
 clear hP hsz hn
 go_enter Tryz.func124, Tryz.ntmps124
 go_wp2_with fail
 obtain ⟨w3, e3⟩ := je (Lib.bytesWorld w 5 s); have B := jh (show Below w.heap.size w w3 by rw [e3]; exact mJ _ _ _); have hk3 := xQ w s 5 (by omega); obtain ⟨c9, wX⟩ := je (grownCap w s.size 0 5); obtain ⟨g9, UC⟩ := je (w.heap.size); rw [← e3, ← wX, ← UC] at hk3; rw [← e3, ← wX, ← UC]; have HK3 := jh hk3; clear e3 hk3 wX UC hcv; refine (ZC w3 (J6.nil _ _) HK3.out (by simp [jW]; omega)).mono ?_; rintro _ w4 ⟨v4, rfl, bK, hb4⟩; have rM := jh (show Own w4 w.heap.size v4 (enc (qB s)) from Own.base bK B.out.size); have B := jw B hb4; clear bK hb4 HK3
 go_wp2_with fail
 refine (vJ w4 rM.out.at_ n (by omega) 4 (by rw [qo, jW]; omega)).mono ?_; rintro _ w5 ⟨v5, rfl, ho5, hb5⟩; have HO := jh (show Own w5 w.heap.size v5 (hdr (qB s) ls.length) by rw [← HN.out]; exact Own.base ho5 B.out.size); have B := jw B hb5; clear ho5 hb5 rM
 go_wp2_with fail
 go_loopw [5, 6] (fun v i wr => ∃ i' : Nat, i' ≤ n ∧ i = .int .i64 i' ∧ Hid (Own wr w.heap.size v (hdr (qB s) ls.length ++ (ls.take i').flatMap enc)) ∧ Hid (Below w.heap.size w wr)) (fun _ i _ => n - (intOf i).toNat)
 case atStart => exact ⟨0, Nat.zero_le _, rfl, jh (by simpa using HO.out), B⟩
 case round =>
  clear HO B; obtain ⟨i, hi, rfl, HO, B⟩ := hrel
  by_cases hlt : i < n
  ·obtain ⟨wo, rfl⟩ : ∃ wo : World, wo = wr := ⟨_, rfl⟩; obtain ⟨v, l, hv, hl, hc, hk⟩ := HP.out.2 i (by have := HN.out; omega); have hcr := jm hc B.out; have HKR := jh (hk.later B.out); have HFT := jh (vF hl); have HFL := jh (yN ls (i + 1)); have hllen : l.length ≤ (ls.flatMap enc).length := by have h9 := HFL.out; rw [HFT.out, List.length_append, qo] at h9; omega
   have hli : ((ls.take i).flatMap enc).length ≤ (ls.flatMap enc).length := yN ls i; have N8 : (i : Int) < (n : Int) := by omega
   clear hv hl hc hk hlt
   go_wp2_with fail
   refine (ZC wo HO.out.at_ HKR.out (by rw [List.length_append, qn, jW]; omega)).mono ?_; rintro _ w6 ⟨v6, rfl, ho6, hb6⟩; have FV := jh (Own.base ho6 B.out.size); have B6 := jw B hb6; clear ho6 hb6 hcr
   go_wp2_with fail
   go_roundw
   case rel => exact ⟨i + 1, by omega, by go_num, jh (by rw [HFT.out, ← List.append_assoc]; exact FV.out), B6⟩
   case measure => (simp [intOf] <;> omega)
  ·have hiI : ¬ (i : Int) < (n : Int) := by omega
   have hin : i = n := by omega
   skip
   go_wp2_with fail
   go_ret
   exact ⟨_, rfl, by unfold jU; have h9 := HO.out; rwa [List.take_of_length_le (by have := HN.out; omega)] at h9, B.out⟩
theorem PQ {s : ByteArray} {g o cap n : Nat} {vs : List Value} {ls : List (List Nat)} (w : World) (hP : Parts w g o vs ls) (hn : n = ls.length) (hby : ∀ l ∈ ls, jM l) (hsz : (jU (qB s) ls).length ≤ 190000) :
  Calls Tryz.prog 40 #[.string s, .slice (some ⟨g, o, none⟩) n cap] w fun e w' => e = .returned (.agg (jp .u8 (qE (jU (qB s) ls))).toArray) ∧ Below w.heap.size w w' := by
 have HP := jh hP; have V8 := jh hsz; have HN := jh hn; have XQ := jh (oN (lI s) hby); obtain ⟨D, hD⟩ := je (qE (jU (qB s) ls)); have HDL := jh (show D.length = 32 by rw [hD]; exact qe _); have HD := jh hD; rw [← hD]; clear hP hsz hn hby hD
 go_enter Tryz.func40, Tryz.ntmps40
 go_upto_region 1 with fail
 obtain ⟨w0, e0⟩ := je (w.alloc (.cells jC 32)); obtain ⟨R, hR⟩ := je (w.heap.size); have hb0 := jc e0; have SF := jh (show Sf w R w0 from ⟨by rw [e0]; exact O9.zero w 32 _ rfl _ _ hR, by rw [e0, hR]; exact Y0.new _ _ _ _, hb0, by rw [e0, hR]; simp, by omega⟩); rw [← e0, ← hR]; have HP := jh (Parts.on HP.out hb0); clear e0 hR hb0
 go_wp2_with fail
 refine (uU w0 HP.out HN.out V8.out).mono ?_; rintro _ w1 ⟨v1, rfl, ho, hb⟩; have HO := jh ho; have SF := jh (SF.out.later hb); clear ho hb
 go_wp2_with fail
 refine (ROf5_any w1 HO.out.at_ XQ.out (by have := V8.out; omega)).mono ?_; rintro _ w2 ⟨rfl, hb⟩; rw [← HD.out]; have SF := jh (SF.out.later hb); have TH := jh (EF SF.out.c SF.out.f); obtain ⟨cs, hcs⟩ := je (jp .u8 D); have HC := jh hcs; have U5 : Hid (cs.length = 32) := jh (by rw [hcs, jt, HDL.out]); have HCO : Hid (∀ v ∈ cs, v.oneCell' = true) := jh (by rw [hcs]; exact zI _ _); rw [← hcs]; clear hcs hb
 go_wp2_with (refine wpList_store_mid rfl 32 _ _ rfl R 0 cs.toArray rfl rfl (by have := TH.out; simpa [U5.out] using this) (by rw [List.size_toArray, U5.out]; kernel_rfl) (all_oneCell_toArray HCO.out) ?_)
 refine bodyPost_ret (v := .agg cs.toArray) (JZ _ _ R _ Tryz.results40 rfl (run_loadVar_mid _ _ _ _ cs _ (World.rangeAt_setCells_same _ _ _ _ (by have := TH.out; simpa [U5.out] using this)) Tryz.underlying32 rfl (by rw [U5.out]; kernel_rfl))) rfl ⟨by rw [HC.out], ?_⟩; exact zi _ _ _ SF.out.below SF.out.le
end Go.Proofs.YtmijablfjigbhaaGreatDoor
