/- Layer 17's reference: Remove, Names, Sync, New -/
import Derived.Test.YtidhlbhfhfonoaaGreatDoorJZXG17
import Derived.Test.YtidhlbhfhfonoaaGreatDoorJZXG09
namespace Go.Proofs.YtidhlbhfhfonoaaGreatDoor
open Go.ChangeShapes Go.WideShapes Go.ChangeAt Go.RowKit
set_option linter.unusedSimpArgs false in
set_option linter.unusedVariables false in
set_option maxRecDepth 20000 in
set_option maxHeartbeats 1500000 in
theorem RRemove_any {w : World} {base D : Nat} {R : Rf} {S : Nat → Prop} (hd : Rk w base D R S) (ok : RfOk R) (s : ByteArray) (hs : s.size ≤ 140737488355328) :
    Calls Tryz.prog 20 #[.pointer (some ⟨D, 0, none⟩), .string s] w (RErrs w base D S (R.remove s)) := by
  have HD := Lib.hid hd
  have hB := hd.from_
  obtain ⟨⟨rv, mv, nv, sv, h, hS⟩, _⟩ := hd
  have HI := Lib.hid (Ris_any h s hs (by have := ok.nl; omega))
  unfold RErrs Rf.remove
  by_cases h0 : (R.is s).2 = 0
  · rw [if_pos h0]
    have hjl := (ok.at h0).2.1
    obtain ⟨j, hj⟩ : ∃ j, j = (R.is s).1 := ⟨_, rfl⟩
    rw [← hj, h0] at HI
    rw [← hj] at hjl ⊢
    obtain ⟨m, hm⟩ : ∃ m, m = R.now.length := ⟨_, rfl⟩
    have HM := Lib.hid hm
    have H := Lib.hid h
    have HS := Lib.hid hS
    have nl := ok.nl
    rw [← hm] at hjl nl
    clear h hS ok h0 hj hm
    go_enter Tryz.func20, Tryz.ntmps20
    go_wp2_with fail
    refine HI.out.mono ?_
    rintro _ w1 ⟨rfl, hb⟩
    have HB := Lib.hid hb
    have h1 := H.out.later hb
    have H1 := Lib.hid h1
    obtain ⟨_, _, _, f3, _⟩ := h1.field
    obtain ⟨a3, c3, v3⟩ := h1.now.sl
    rw [← HM.out] at v3
    rw [v3] at f3
    have h9 := h1.now
    rw [v3, ← HM.out] at h9
    have HG := Lib.hid (Rgone_any h9 HM.out.symm hjl (by omega))
    have hD1 := h1.lt
    have z3 := h1.free 3
    have hb1 : base ≤ w1.heap.size := by have := hb.size; omega
    clear hb h1 v3 h9
    go_wp2_with fail
    refine HG.out.mono ?_
    rintro _ w2 ⟨v2, rfl, ho, hb⟩
    have HO := Lib.hid ho
    have HB2 := Lib.hid hb
    have f3 := cell_on f3 hb
    have z3 : w2.frozen? ⟨D, 3, none⟩ = false := (World.frozen?_of_block (w := w1) (a := ⟨D, 3, none⟩) (hb.block D hD1)).trans z3
    obtain ⟨a4, c4, rfl⟩ := ho.sl
    clear ho hb
    go_wp2_with fail
    go_ret
    have h3 := H1.out.newNow HB2.out HO.out hb1
    refine ⟨rfl, rn_of HD.out h3 (((Chg.of_below HB.out S).on HB2.out).setCell (.inl (HS.out D (.inl rfl))) _) fun g hg => ?_⟩
    rcases hg with hg | hg | hg | hg | hg
    · exact .inl (HS.out g (.inl hg))
    · exact .inl (HS.out g (.inr (.inl hg)))
    · exact .inl (HS.out g (.inr (.inr (.inl hg))))
    · exact .inr (Nat.le_trans HB.out.size (OwnV.lt HO.out g hg).1)
    · exact .inl (HS.out g (.inr (.inr (.inr (.inr hg)))))
  · obtain ⟨e, he, hn, hn2, _⟩ := is_err_le R s h0
    rw [if_neg h0, he]
    obtain ⟨x, hx⟩ : ∃ x, x = (R.is s).1 := ⟨_, rfl⟩
    rw [he, ← hx] at HI
    clear h hS ok he h0 hx
    go_enter Tryz.func20, Tryz.ntmps20
    go_wp2_with fail
    refine HI.out.mono ?_
    rintro _ w1 ⟨rfl, hb⟩
    have HB := Lib.hid hb
    clear hb
    go_wp2_with fail
    go_ret
    exact ⟨rfl, HD.out.looked HB.out⟩
set_option linter.unusedSimpArgs false in
set_option linter.unusedVariables false in
set_option maxRecDepth 20000 in
set_option maxHeartbeats 1500000 in
theorem RNames_any {w : World} {base D : Nat} {R : Rf} {S : Nat → Prop} (hd : Rk w base D R S) (ok : R.now.length ≤ 64) :
    Calls Tryz.prog 16 #[.pointer (some ⟨D, 0, none⟩)] w (RErrs w base D S (R.names, 0)) := by
  have HD := Lib.hid hd
  have hB := hd.from_
  obtain ⟨⟨rv, mv, nv, sv, h, hS⟩, _⟩ := hd
  unfold RErrs
  have H := Lib.hid h
  have HS := Lib.hid hS
  obtain ⟨_, _, _, f3, f4⟩ := h.field
  obtain ⟨a3, c3, v3⟩ := h.now.sl
  obtain ⟨m, hm⟩ : ∃ m, m = R.now.length := ⟨_, rfl⟩
  have HM := Lib.hid hm
  have nl := ok
  rw [← hm] at v3 nl
  rw [v3] at f3
  have HSRC := Lib.hid (show SrcV w 2 (.slice a3 m c3) m (pairs8 R.now) from by have h9 := src_pairs h.now; rw [v3, ← hm] at h9; exact h9)
  have hD := h.lt
  have z4 := h.free 4
  obtain ⟨i1, hi1, hz10, hz11, hz12⟩ := info_parts infoP
  have HI1 := Lib.hid hi1
  have mI : (m : Int) ≤ 64 := by omega
  have HAP := Lib.hid (fun (w2 : World) (v2 : Value) (hg : w.grownBy w2 none) => show Below w.heap.size w w2 from (Below.refl w.heap.size w).grown hg (Nat.le_refl _) (fun g hg => by cases hg))
  clear h hS hm v3 hi1 ok
  go_enter Tryz.func16, Tryz.ntmps16
  go_wp2_with (
    at_builtin
    refine wpList_append_W rfl _ _ 95 rfl w.heap.size 120 i1 (.agg #[.string ⟨#[]⟩, .int .i64 0]) 2 24 Tryz.underlying95 HI1.out hz10 hz11 hz12 rfl (.slice none 0 0) 0 [] rfl ⟨rfl, .inl ⟨rfl, rfl⟩⟩ (.slice a3 m c3) m (pairs8 R.now) rfl HSRC.out (by unfold maxLen; omega) (by omega) (Nat.le_refl _) ?_
    intro v2 w2 ho2 hg2 hl2
    have hb := HAP.out w2 v2 hg2
    have HB2 := Lib.hid hb
    have d4 := cell_on f4 hb
    have g4 : w2.frozen? ⟨D, 4, none⟩ = false := (World.frozen?_of_block (w := w) (a := ⟨D, 4, none⟩) (hb.block D hD)).trans z4
    obtain ⟨a4, c4, rfl⟩ := ho2.sl
    have HO2 := Lib.hid (show OwnV w2 w.heap.size 120 2 (.slice a4 (0 + m) c4) R.now.length (pairs8 R.now) by rw [← HM.out]; rw [List.nil_append] at ho2; rw [Nat.zero_add] at ho2 ⊢; exact ho2)
    clear ho2 hg2 hl2 hb)
  go_ret
  have h3 := H.out.newSafe HB2.out HO2.out hB
  rw [Nat.zero_add] at h3 HO2
  refine ⟨rfl, rn_of HD.out h3 ((Chg.of_below HB2.out S).setCell (.inl (HS.out D (.inl rfl))) _) fun g hg => ?_⟩
  rcases hg with hg | hg | hg | hg | hg
  · exact .inl (HS.out g (.inl hg))
  · exact .inl (HS.out g (.inr (.inl hg)))
  · exact .inl (HS.out g (.inr (.inr (.inl hg))))
  · exact .inl (HS.out g (.inr (.inr (.inr (.inl hg)))))
  · exact .inr (OwnV.lt HO2.out g hg).1
set_option linter.unusedSimpArgs false in
set_option linter.unusedVariables false in
set_option maxRecDepth 20000 in
set_option maxHeartbeats 1500000 in
theorem RSync_any {w : World} {base D : Nat} {R : Rf} {S : Nat → Prop} (hd : Rk w base D R S) (ok : RfOk R) (s : ByteArray) (hs : s.size ≤ 140737488355328) (hc : R.rows.length ≤ 1000000) :
    Calls Tryz.prog 38 #[.pointer (some ⟨D, 0, none⟩), .string s] w (RErrs w base D S (R.sync s)) := by
  have HD := Lib.hid hd
  have hB := hd.from_
  obtain ⟨⟨rv, mv, nv, sv, h, hS⟩, _⟩ := hd
  have HI := Lib.hid (Ris_any h s hs (by have := ok.nl; omega))
  unfold RErrs Rf.sync
  by_cases h0 : (R.is s).2 = 0
  · obtain ⟨j, k, q, b, g1, o1, c1, g2, o2, c2, g3, o3, c3, i1, i2, i3, i4, i5, i6, i7, i8, i9, SE, v1, v2, v3⟩ := h.seat ok h0
    rw [if_pos h0, i1, i4, i5]
    rw [i1] at HI
    have HSE := Lib.hid SE
    have nl := ok.nl
    have ml := ok.ml
    have H := Lib.hid h
    have HS := Lib.hid hS
    have HV2 := Lib.hid v2
    obtain ⟨n, hn⟩ : ∃ n, n = R.rows.length := ⟨_, rfl⟩
    obtain ⟨m, hm⟩ : ∃ m, m = R.now.length := ⟨_, rfl⟩
    rw [← hn, ← hm] at HSE
    have jI : (j : Int) < (m : Int) := by omega
    have kI : (k : Int) < (n : Int) := by omega
    have mI : (m : Int) ≤ 64 := by omega
    have nI : (n : Int) ≤ 1000000 := by omega
    obtain ⟨z, hz⟩ : ∃ z, z = b.size := ⟨_, rfl⟩
    have eZ : (b.size : Int) = (z : Int) := by rw [hz]
    have zI : (z : Int) ≤ 1048576 := by omega
    rw [← hz]
    have HFR := Lib.hid (fun (w1 : World) (hb : Below w.heap.size w w1) => show w1.frozen? ⟨g2, o2 + k, none⟩ = false from by
      have h9 := (h.later hb).marks
      rw [v2] at h9
      exact own_free h9 _)
    clear SE h hS ok h0 i1 i2 i3 i4 i5 i6 i7 i8 i9 hn hm nl ml hz v1 v2 v3
    go_enter Tryz.func38, Tryz.ntmps38
    go_wp2_with fail
    refine HI.out.mono ?_
    rintro _ w1 ⟨rfl, hb⟩
    have HB := Lib.hid hb
    obtain ⟨f1, f2, f3, e1, e2, e3⟩ := HSE.out.later hb
    have z2 := HFR.out w1 hb
    clear hb
    go_wp2_with fail
    go_still_tail 28, (by kernel_rfl)
    change wpList _ _ _ _ _ w1.drew
    go_wp2_with fail
    go_ret
    refine ⟨rfl, rn_of HD.out (((H.out.later HB.out).markAt HV2.out k z).later ((Below.refl _ _).drew)) (((Chg.of_below HB.out S).setCell (.inl (HS.out g2 (.inr (.inr (.inl (by rw [HV2.out]; rfl)))))) _).drew) fun g hg => .inl (HS.out g hg)⟩
  · obtain ⟨e, he, hn, hn2, _⟩ := is_err_le R s h0
    rw [if_neg h0, he]
    obtain ⟨x, hx⟩ : ∃ x, x = (R.is s).1 := ⟨_, rfl⟩
    rw [he, ← hx] at HI
    clear h hS ok he h0 hx
    go_enter Tryz.func38, Tryz.ntmps38
    go_wp2_with fail
    refine HI.out.mono ?_
    rintro _ w1 ⟨rfl, hb⟩
    have HB := Lib.hid hb
    clear hb
    go_wp2_with fail
    go_ret
    exact ⟨rfl, HD.out.looked HB.out⟩
set_option linter.unusedSimpArgs false in
set_option linter.unusedVariables false in
set_option maxRecDepth 20000 in
set_option maxHeartbeats 1500000 in
theorem RAppend_any {w : World} {base D : Nat} {R : Rf} {S : Nat → Prop} (hd : Rk w base D R S) (ok : RfOk R) (s : ByteArray) (hs : s.size ≤ 140737488355328) (hc : R.rows.length ≤ 1000000) {v : Value} {l : List Nat} (hv : KAt .u8 w v l) (hl : l.length ≤ 100000) (hl8 : Bytes l) :
    Calls Tryz.prog 18 #[.pointer (some ⟨D, 0, none⟩), .string s, v] w (RErrs w base D S (R.append s (bstr l))) := by
  have HD := Lib.hid hd
  have hB := hd.from_
  have HK := Lib.hid hv
  obtain ⟨av, cv, hve⟩ : ∃ a c, v = .slice a l.length c := by obtain ⟨a, c, h, _⟩ := hv; exact ⟨a, c, h⟩
  obtain ⟨⟨rv, mv, nv, sv, h, hS⟩, _⟩ := hd
  have HI := Lib.hid (Ris_any h s hs (by have := ok.nl; omega))
  have hbl : (bstr l).size = l.length := by simp [bstr, ByteArray.size]
  unfold RErrs Rf.append
  rw [hbl]
  by_cases h0 : (R.is s).2 = 0
  · obtain ⟨j, k, q, b, g1, o1, c1, g2, o2, c2, g3, o3, c3, i1, i2, i3, i4, i5, i6, i7, i8, i9, SE, v1, v2, v3⟩ := h.seat ok h0
    rw [if_pos h0, i1, i4, i5]
    rw [i1] at HI
    have HL := Lib.hid (fun (w1 : World) (hb : Below w.heap.size w w1) => RLeft_any (h.later hb) ok hc)
    have HSE := Lib.hid SE
    have nl := ok.nl
    have H := Lib.hid h
    have HS := Lib.hid hS
    have HV1 := Lib.hid v1
    obtain ⟨n, hn⟩ : ∃ n, n = R.rows.length := ⟨_, rfl⟩
    obtain ⟨m, hm⟩ : ∃ m, m = R.now.length := ⟨_, rfl⟩
    rw [← hn, ← hm] at HSE
    obtain ⟨L, hL⟩ : ∃ L, L = R.left := ⟨_, rfl⟩
    rw [← hL] at HL ⊢
    have hLb : L ≤ 8388608 := by rw [hL]; have := ok.size.2; unfold Rf.left; omega
    obtain ⟨y, hy⟩ : ∃ y, y = l.length := ⟨_, rfl⟩
    have HY := Lib.hid hy
    rw [← hy] at hve hl ⊢
    have jI : (j : Int) < (m : Int) := by omega
    have kI : (k : Int) < (n : Int) := by omega
    have mI : (m : Int) ≤ 64 := by omega
    have nI : (n : Int) ≤ 1000000 := by omega
    obtain ⟨z, hz⟩ : ∃ z, z = b.size := ⟨_, rfl⟩
    have eZ : (b.size : Int) = (z : Int) := by rw [hz]
    have zI : (z : Int) ≤ 1048576 := by omega
    have yI : (y : Int) ≤ 100000 := by omega
    have LI : (L : Int) ≤ 8388608 := by omega
    rw [← hz]
    have HFR := Lib.hid (fun (w1 : World) (hb : Below w.heap.size w w1) => show w1.frozen? ⟨g1, o1 + k, none⟩ = false from by
      have h9 := (h.later hb).rows
      rw [v1] at h9
      exact own_free h9 _)
    have HCV := Lib.hid (fun (w1 : World) (hb : Below w.heap.size w w1) => conv_any (HK.out.later hb))
    have HBL := Lib.hid (show ((bstr l).size : Int) = (y : Int) by rw [hbl, hy])
    subst hve
    clear SE h hS ok h0 i1 i2 i3 i4 i5 i6 i7 i8 i9 hn hm nl hz v1 v2 v3 hL hLb hy hv hbl
    by_cases h1 : y ≤ L
    · have l1 : ¬ (L : Int) < (y : Int) := by omega
      by_cases h2 : z + y ≤ 1048576
      · have l2 : ¬ (1048576 : Int) < (z : Int) + (y : Int) := by omega
        have d1 : decide ((L : Int) < (y : Int)) = false := decide_eq_false l1
        have d2 : decide ((1048576 : Int) < (z : Int) + (y : Int)) = false := decide_eq_false l2
        rw [if_pos ⟨h1, h2⟩]
        clear h1 h2
        go_enter Tryz.func18, Tryz.ntmps18
        go_wp2_with fail
        refine HI.out.mono ?_
        rintro _ w1 ⟨rfl, hb⟩
        have HB := Lib.hid hb
        obtain ⟨f1, f2, f3, e1, e2, e3⟩ := HSE.out.later hb
        clear hb
        go_wp2_with fail
        refine (HL.out w1 HB.out).mono ?_
        rintro _ w2 ⟨rfl, hb⟩
        have HB2 := Lib.hid (below_on HB.out hb)
        clear hb f1 f2 f3 e1 e2 e3
        obtain ⟨f1, f2, f3, e1, e2, e3⟩ := HSE.out.later HB2.out
        have z2 := HFR.out w2 HB2.out
        have HCW := Lib.hid (HCV.out w2.drew HB2.out.drew)
        go_wp2_with fail
        go_still_tail 16, (by kernel_rfl)
        refine wpStill_step (fun K hK => ?_)
        go_simp
        rw [HCW.out]
        refine ⟨rfl, ?_⟩
        refine hK _ ?_
        clear hK K
        have l9 : ¬ (9223372036854775807 < b.size + (bstr l).size) := by have := HBL.out; omega
        repeat still_step
        refine wpStill_nil ?_
        change wpList _ _ _ _ _ w2.drew
        go_wp2_with fail
        go_ret
        refine ⟨rfl, rn_of HD.out (((H.out.later HB2.out).rowAt HV1.out k (b ++ bstr l)).later ((Below.refl _ _).drew)) (((Chg.of_below HB2.out S).setCell (.inl (HS.out g1 (.inr (.inl (by rw [HV1.out]; rfl))))) _).drew) fun g hg => .inl (HS.out g hg)⟩
      · have l2 : (1048576 : Int) < (z : Int) + (y : Int) := by omega
        have d1 : decide ((L : Int) < (y : Int)) = false := decide_eq_false l1
        have d2 : decide ((1048576 : Int) < (z : Int) + (y : Int)) = true := decide_eq_true l2
        rw [if_neg (fun e => h2 e.2)]
        clear h1 h2
        go_enter Tryz.func18, Tryz.ntmps18
        go_wp2_with fail
        refine HI.out.mono ?_
        rintro _ w1 ⟨rfl, hb⟩
        have HB := Lib.hid hb
        obtain ⟨f1, f2, f3, e1, e2, e3⟩ := HSE.out.later hb
        clear hb
        go_wp2_with fail
        refine (HL.out w1 HB.out).mono ?_
        rintro _ w2 ⟨rfl, hb⟩
        have HB2 := Lib.hid (below_on HB.out hb)
        clear hb f1 f2 f3 e1 e2 e3
        obtain ⟨f1, f2, f3, e1, e2, e3⟩ := HSE.out.later HB2.out
        go_wp2_with fail
        go_ret
        exact ⟨rfl, HD.out.looked HB2.out⟩
    · have l1 : (L : Int) < (y : Int) := by omega
      have d1 : decide ((L : Int) < (y : Int)) = true := decide_eq_true l1
      rw [if_neg (fun e => h1 e.1)]
      clear h1
      go_enter Tryz.func18, Tryz.ntmps18
      go_wp2_with fail
      refine HI.out.mono ?_
      rintro _ w1 ⟨rfl, hb⟩
      have HB := Lib.hid hb
      obtain ⟨f1, f2, f3, e1, e2, e3⟩ := HSE.out.later hb
      clear hb
      go_wp2_with fail
      refine (HL.out w1 HB.out).mono ?_
      rintro _ w2 ⟨rfl, hb⟩
      have HB2 := Lib.hid (below_on HB.out hb)
      clear hb f1 f2 f3 e1 e2 e3
      go_wp2_with fail
      go_ret
      exact ⟨rfl, HD.out.looked HB2.out⟩
  · obtain ⟨e, he, hn, hn2, _⟩ := is_err_le R s h0
    rw [if_neg h0, he]
    obtain ⟨x, hx⟩ : ∃ x, x = (R.is s).1 := ⟨_, rfl⟩
    rw [he, ← hx] at HI
    subst hve
    clear h hS ok he h0 hx hv
    go_enter Tryz.func18, Tryz.ntmps18
    go_wp2_with fail
    refine HI.out.mono ?_
    rintro _ w1 ⟨rfl, hb⟩
    have HB := Lib.hid hb
    clear hb
    go_wp2_with fail
    go_ret
    exact ⟨rfl, HD.out.looked HB.out⟩
end Go.Proofs.YtidhlbhfhfonoaaGreatDoor
