/- Layer 6 (hashes) -/
import Derived.Test.YtdpkpcbikbbcbaaGreatBZWG17
import Derived.Test.YtdpkpcbikbbcbaaGreatBZWG18
import Derived.Lib.ConvBytes
set_option linter.unusedSimpArgs false
set_option linter.unusedVariables false
set_option maxHeartbeats 3000000
set_option maxRecDepth 20000
namespace Go.Proofs.YtdpkpcbikbbcbaaGreat
open Go.ChangeShapes Go.WideShapes Go.ChangeAt Go.RowKit
def zL (s : ByteArray) : List Nat := s.data.toList.map fun b => b.toNat
theorem qJ (s : ByteArray) : (zL s).length = s.size := by unfold zL; simp
theorem nums_bytes (s : ByteArray) : qo (zL s) := fun x hx => by
 unfold zL at hx; obtain ⟨b, _, rfl⟩ := List.mem_map.1 hx; exact b.toNat_lt
theorem conv_below (w : World) (s : ByteArray) (e : TypeId) : Below w.heap.size w (Lib.bytesWorld w e s) :=
 ⟨rfl, rfl, rfl, by rw [Lib.bytesWorld_size]; omega, fun g hg => Lib.bytesWorld_at_old w e s g hg⟩
theorem conv_kat (w : World) (s : ByteArray) (e : TypeId) (hs : s.size ≤ 140737488355328) : KAt .u8 (Lib.bytesWorld w e s) (.slice (some ⟨w.heap.size, 0, none⟩) s.size (grownCap w s.size 0 e)) (zL s) := by
 have hl := qJ s; refine ⟨_, _, by rw [hl], by rw [hl]; exact grownCap_ge w s.size 0 e, grownCap_le_maxLen w s.size 0 e (by unfold maxLen; omega), (fun h => by cases h), fun _ => ⟨w.heap.size, 0, rfl, fun i x hx => ?_⟩⟩; have hi : i < s.size := by have := (List.getElem?_eq_some_iff.1 hx).1; omega
 rw [Nat.zero_add, Lib.bytesWorld_cell w e s i hi]; unfold zL at hx; rw [List.getElem?_map] at hx; obtain ⟨b, hb, rfl⟩ := Option.map_eq_some_iff.1 hx; rw [List.getD_eq_getElem?_getD, hb]
 rfl
def enc (l : List Nat) : List Nat := be 4 l.length ++ l
def hdr (s : List Nat) (n : Nat) : List Nat := enc s ++ be 4 n
def zn (s : List Nat) (ls : List (List Nat)) : List Nat := hdr s ls.length ++ ls.flatMap enc
theorem enc_bytes {l : List Nat} (h : qo l) : qo (enc l) := fun x hx => by
 unfold enc at hx
 rcases List.mem_append.1 hx with hx | hx
 ·exact qM _ _ x hx
 ·exact h x hx
theorem zP (l : List Nat) : (enc l).length = 4 + l.length := by unfold enc; simp [jO]
theorem zA (l : List Nat) (n : Nat) : (hdr l n).length = 8 + l.length := by unfold hdr; simp [zP, jO]; omega
theorem flat_take {ls : List (List Nat)} {i : Nat} {l : List Nat} (h : ls[i]? = some l) : (ls.take (i + 1)).flatMap enc = (ls.take i).flatMap enc ++ enc l := by
 rw [List.take_add_one, h]
 simp
theorem flat_le (ls : List (List Nat)) (i : Nat) : ((ls.take i).flatMap enc).length ≤ (ls.flatMap enc).length := by
 conv => rhs; rw [← List.take_append_drop i ls, List.flatMap_append, List.length_append]
 omega
structure OfW (w wr : World) (OO S : Nat) (l : List Nat) : Prop where
 sum : SumAt wr S l
 row : wr.heap[OO]? = some (.cells (Array.replicate 32 (.int .u8 0)) 48 (0, 0))
 below : Below w.heap.size w wr
 at9 : OO = w.heap.size
 lt : OO < S
theorem OfW.later {w wr w' : World} {OO S : Nat} {l : List Nat} (h : OfW w wr OO S l) (hb : Below wr.heap.size wr w') : OfW w w' OO S l :=
 ⟨h.sum.later hb, (hb.block _ (Array.getElem?_eq_some_iff.1 h.row).1).trans h.row, jm h.below hb, h.at9, h.lt⟩
theorem OfW.wrote {w wr w' : World} {OO S : Nat} {l l' : List Nat} (h : OfW w wr OO S l) (hs : SumAt w' S l') (hg : wr.grownBy w' (some S)) : OfW w w' OO S l' :=
 ⟨hs, (hg.block OO (Array.getElem?_eq_some_iff.1 h.row).1 (fun e => by have := h.lt; injection e with e; omega)).trans h.row, h.below.grown hg h.below.size (fun k hk => by have := h.lt; have := h.at9; injection hk with hk; omega), h.at9, h.lt⟩
theorem own_not {w w' : World} {v : Value} {l : List Nat} {S : Nat} (h : Own w' w.heap.size v l) (hS : S < w.heap.size) : v.ownBlock ≠ some S := fun e => by
 have := (OwnV.lt h S e).1; omega
theorem Of_any {s : ByteArray} {g o cap : Nat} {vs : List Value} {ls : List (List Nat)} (w : World) (hP : Parts w g o vs ls) (hcap : ls.length ≤ cap) (hcm : cap ≤ maxLen) (hby : ∀ l ∈ ls, qo l) (hsz : (zn (zL s) ls).length ≤ 1073741824) :
  Calls Tryz.prog 82 #[.string s, .slice (some ⟨g, o, none⟩) ls.length cap] w fun e w' => e = .returned (.agg (jq .u8 (zi (zn (zL s) ls))).toArray) ∧ Below w.heap.size w w' := by
 have HP := jh hP; have HBY := jh hby; have HSZ := jh hsz; have hm1 := hcm; unfold maxLen at hm1
 have hs1 : s.size + 8 + (ls.flatMap enc).length ≤ 1073741824 := by
  unfold zn at hsz; rw [List.length_append, zA, qJ] at hsz; omega
 have HL1 := jh hs1; have HCV := jh (fun W : World => Lib.run_convert_string_bytes (P := Tryz.prog) W 9 116 5 s Tryz.underlying9 Tryz.underlying116 Tryz.underlying5); clear hP hby hsz
 go_enter Tryz.func82, Tryz.ntmps82
 go_upto_region 1 with fail
 obtain ⟨w1, e1⟩ := je (w.alloc (.cells (Array.replicate 32 (.int .u8 0)) 48)); have HB1 := jh (show Below w.heap.size w w1 by rw [e1]; exact ja); have HN1 := jh (show w1.heap.size = w.heap.size + 1 by rw [e1]; simp); have HR1 := jh (show w1.heap[w.heap.size]? = some (.cells (Array.replicate 32 (.int .u8 0)) 48 (0, 0)) by rw [e1]; exact heap_alloc_new _ _); have h9 : (w.alloc (.cells #[.int .u8 0, .int .u8 0, .int .u8 0, .int .u8 0, .int .u8 0, .int .u8 0, .int .u8 0, .int .u8 0, .int .u8 0, .int .u8 0, .int .u8 0, .int .u8 0, .int .u8 0, .int .u8 0, .int .u8 0, .int .u8 0, .int .u8 0, .int .u8 0, .int .u8 0, .int .u8 0, .int .u8 0, .int .u8 0, .int .u8 0, .int .u8 0, .int .u8 0, .int .u8 0, .int .u8 0, .int .u8 0, .int .u8 0, .int .u8 0, .int .u8 0, .int .u8 0] 48)) = w1 := e1.symm; rw [h9]; clear h9 e1; obtain ⟨OO, hOO⟩ := je (w.heap.size); rw [← hOO] at HN1 HR1 ⊢; have HOO := jh hOO; clear hOO
 go_wp2_with fail
 refine (New_any w1).mono ?_; rintro _ w2 ⟨S, rfl, hS, hs2, hb2⟩; have HW := jh (show OfW w w2 OO S [] from ⟨hs2, (hb2.block OO (by have := HN1.out; omega)).trans HR1.out, jm HB1.out hb2, HOO.out, by have := HN1.out; omega⟩); clear hS hs2 hb2; have hcv := HCV.out
 go_wp2_with fail
 obtain ⟨w3, e3⟩ := je (Lib.bytesWorld w2 5 s); have HW := jh (show OfW w w3 OO S [] by rw [e3]; exact HW.out.later (conv_below _ _ _)); have hk3 := conv_kat w2 s 5 (by omega); obtain ⟨c9, hc9⟩ := je (grownCap w2 s.size 0 5); obtain ⟨g9, hg9⟩ := je (w2.heap.size); rw [← e3, ← hc9, ← hg9] at hk3; rw [← e3, ← hc9, ← hg9]; have HK3 := jh hk3; clear e3 hk3 hc9 hg9 hcv HCV; refine (PutBytes_any w3 (KAt.nil _ _) HK3.out (by simp [qJ]; omega)).mono ?_; rintro _ w4 ⟨v4, rfl, ho4, hb4⟩; have HW4 := jh (HW.out.later hb4); have HO4 := jh ho4; have hlt4 := HW.out.sum.lt; clear hb4 ho4
 go_wp2_with fail
 refine (Zn w4 HW4.out.sum HO4.out.at_ (fun _ => own_not HO4.out hlt4) (by rw [List.nil_append]; exact enc_bytes (nums_bytes s)) (by have := HSZ.out; have := HL1.out; simp [jO, zP, qJ, zA]; omega)).mono ?_; rintro _ w5 ⟨rfl, hs, hg⟩; have HW := jh (show OfW w w5 OO S (enc (zL s)) by have h9 := HW4.out.wrote hs hg; simpa [enc, hdr] using h9); clear hs hg HW4 HO4 hlt4
 go_wp2_with fail
 refine (Put_any w5 (KAt.nil _ _) ls.length 4 (by omega) (by omega) (by simp)).mono ?_; rintro _ w6 ⟨v6, rfl, ho6, hb6⟩; rw [show many 4 = 4 from rfl] at ho6; have HW4 := jh (HW.out.later hb6); have HO4 := jh ho6; have hlt6 := HW.out.sum.lt; clear hb6 ho6
 go_wp2_with fail
 refine (Zn w6 HW4.out.sum HO4.out.at_ (fun _ => own_not HO4.out hlt6) (by rw [List.nil_append]; exact qM _ _) (by have := HSZ.out; have := HL1.out; simp [jO, zP, qJ, zA]; omega)).mono ?_; rintro _ w7 ⟨rfl, hs, hg⟩; have HW := jh (show OfW w w7 OO S (hdr (zL s) ls.length) by have h9 := HW4.out.wrote hs hg; simpa [enc, hdr] using h9); clear hs hg HW4 HO4 hlt6
 go_wp2_with fail
 go_loopw [22] (fun i wr => ∃ i' : Nat, i' ≤ ls.length ∧ i = .int .i64 i' ∧ Hid (OfW w wr OO S (hdr (zL s) ls.length ++ (ls.take i').flatMap enc))) (fun i _ => ls.length - (intOf i).toNat)
 case atStart => exact ⟨0, Nat.zero_le _, rfl, jh (by simpa using HW.out)⟩
 case round =>
  clear HW; obtain ⟨i, hi, rfl, HW⟩ := hrel
  by_cases hlt : i < ls.length
  ·obtain ⟨v, l, hv, hl, hc, hk⟩ := HP.out.2 i hlt; have hcr := jj hc HW.out.below; have HKR := jh (hk.later HW.out.below); have HK0 := jh hk; have HLI := jh hl; have HLB := jh (HBY.out l (List.mem_of_getElem? hl))
   have HLE := jh (show ((ls.take i).flatMap enc).length + (4 + l.length) ≤ (ls.flatMap enc).length by
    have h9 := flat_le ls (i + 1); rw [flat_take hl, List.length_append, zP] at h9
    omega)
   obtain ⟨ao, cp, rfl, k1, k2, k3, k4⟩ := hk; have HLT := jh hlt; have hli : (i : Int) < (ls.length : Int) := by omega
   have hll : l.length ≤ 1073741824 := by have := HL1.out; have := HLE.out; omega
   unfold maxLen at k2; clear hv hl hc k3 k4 hlt
   go_wp2_with fail
   refine (Put_any wr (KAt.nil _ _) l.length 4 (by omega) (by omega) (by simp)).mono ?_; rintro _ w8 ⟨v8, rfl, ho8, hb8⟩; rw [show many 4 = 4 from rfl] at ho8; clear hcr; have HW4 := jh (HW.out.later hb8); have HO4 := jh ho8; have hlt8 := HW.out.sum.lt; have HKR := jh (HKR.out.later hb8); clear hb8 ho8
   go_wp2_with fail
   refine (Zn w8 HW4.out.sum HO4.out.at_ (fun _ => own_not HO4.out hlt8) (by rw [List.nil_append]; exact qM _ _) (by have := HL1.out; have := HLE.out; simp [jO, zA, qJ] at *; omega)).mono ?_; rintro _ w9 ⟨rfl, hs, hg⟩; have HW5 := jh (HW4.out.wrote hs hg); clear hs hg HW4 HO4 hlt8
   go_wp2_with fail
   refine (Zn w9 HW5.out.sum (HK0.out.later HW5.out.below) (fun hne e => by
    obtain ⟨ao9, cp9, e9, _, _, _, h4⟩ := HK0.out; obtain ⟨b9, o9, e8, h5⟩ := h4 (List.length_pos_iff.2 hne); injection e9 with e9 _ _
    rw [e9, e8] at e; have e7 : b9 = S := by injection e
    obtain ⟨x9, hx9⟩ : ∃ x, l[0]? = some x := ⟨_, List.getElem?_eq_getElem (List.length_pos_iff.2 hne)⟩; have h7 := World.block_lt_of_cell? (a := ⟨b9, o9 + 0, none⟩) _ (h5 0 x9 hx9); have h6 := HW5.out.lt; have h8 := HW5.out.at9; have h3 : b9 < w.heap.size := h7
    omega) HLB.out (by have := HL1.out; have := HLE.out; simp [jO, zA, qJ] at *; omega)).mono ?_
   rintro _ w10 ⟨rfl, hs, hg⟩; have HW6 := jh (show OfW w w10 OO S (hdr (zL s) ls.length ++ (ls.take (i + 1)).flatMap enc) by have h9 := HW5.out.wrote hs hg; rw [flat_take HLI.out]; simpa [enc, List.append_assoc] using h9); clear hs hg
   go_wp2_with fail
   go_roundw
   case rel => exact ⟨i + 1, HLT.out, by go_num, HW6⟩
   case measure => simp [intOf]; have := HLT.out; omega
  ·obtain rfl : i = ls.length := by omega
   rw [List.take_length] at HW; clear hlt
   go_upto_region 10 with fail
   refine wp_region_lit ?_; have CH := jh (Hash_any wr HW.out.sum (by have := HSZ.out; unfold zn at this; omega))
   go_wp2_with fail
   refine CH.out.mono ?_; rintro _ w11 ⟨rfl, hb⟩; have HW7 := jh (HW.out.later hb); clear hb; dsimp only
   rename_i hK9
   refine hK9 _ _ ?_; clear hK9; have hszH : (Tryz.prog.info? 48).map (·.size) = some (jq .u8 (zi (hdr (zL s) ls.length ++ ls.flatMap enc))).toArray.size := by rw [qC]; simp [js, qp]
   refine jI rfl _ _ _ rfl OO _ _ _ HW7.out.row rfl rfl hszH (by simp [js, qp]) (qE _ _) ?_; obtain ⟨w12, e12⟩ := je (w11.setRow OO (jq .u8 (zi (hdr (zL s) ls.length ++ ls.flatMap enc))).toArray); have hrow : w12.heap[OO]? = some (.cells (jq .u8 (zi (hdr (zL s) ls.length ++ ls.flatMap enc))).toArray 48 (0, 0)) := by rw [e12]; exact setRow_heap w11 OO _ _ _ _ HW7.out.row
   have HROW := jh hrow; have HB12 := jh (show Below w.heap.size w w12 by rw [e12]; exact below_setRow HW7.out.below (by have := HW7.out.at9; omega) _); rw [← e12]; simp only [Act.put, pa, pb, pc]; clear e12 hrow
   go_wp2_with fail
   exact bodyPost_ret (results_cell_row rfl _ w12 OO _ _ _ _ rfl HROW.out Tryz.underlying48 rfl hszH) rfl ⟨rfl, HB12.out⟩
end Go.Proofs.YtdpkpcbikbbcbaaGreat
