/- Layer 18's reference: a journal in memory; Sync, Add, Open -/
import Derived.Test.YtidhlbhfhfonoaaGreatDoorJZXG15
import Derived.Test.YtidhlbhfhfonoaaGreatDoorJZXG18
import Derived.Test.YtidhlbhfhfonoaaGreatDoorJZXG17
import Derived.Test.YtidhlbhfhfonoaaGreatDoorJZXG12
import Derived.Deep.RegionHeld3
namespace Go.Proofs.YtidhlbhfhfonoaaGreatDoor
open Go.ChangeShapes Go.WideShapes Go.ChangeAt Go.RowKit
/-- The reference's journal: the disk's block, the name, how long it is, the last check. -/
def RJ (w : World) (J D : Nat) (s : ByteArray) (n c : Nat) : Prop := w.heap[J]? = some (.cells #[.pointer (some ⟨D, 0, none⟩), .string s, .int .i64 n, .int .u32 c] 109 (0, 0))
/-- What a call leaves whose call came behind others that changed nothing. -/
theorem Rn.behind {w w1 w2 : World} {base D : Nat} {R R0 : Rf} {S : Nat → Prop} (h : Rn w1 w2 base D R S) (hb : Below w.heap.size w w1) (hd : Rk w base D R0 S) : Rn w w2 base D R S := by
  have hB := hd.from_
  have hs := hb.size
  have hs2 := h.chg.size
  have hc := Chg.of_below hb S
  refine ⟨h.rk.wide (fun g hg => ?_) (fun g hg => ?_), ⟨h.chg.os.trans hc.os, h.chg.tape.trans hc.tape, h.chg.output.trans hc.output, Nat.le_trans hc.size hs2, fun g hg hn => (h.chg.block g (by omega) hn).trans (hc.block g hg hn)⟩⟩
  · rcases hg with hg | hg
    · exact .inl hg
    · exact .inr ⟨by omega, hg.2⟩
  · rcases hg with hg | hg
    · have := hd.2 g hg; omega
    · omega
set_option linter.unusedSimpArgs false in
set_option linter.unusedVariables false in
set_option maxRecDepth 20000 in
set_option maxHeartbeats 2000000 in
theorem RJSync_any {w : World} {base D J n c : Nat} {R : Rf} {S : Nat → Prop} {s : ByteArray} (hd : Rk w base D R S) (ok : RfOk R) (hs : s.size ≤ 140737488355328) (hc : R.rows.length ≤ 1000000) (hj : RJ w J D s n c) (hjn : ¬ S J) :
    Calls Tryz.prog 14 #[.pointer (some ⟨J, 0, none⟩)] w (RErrs w base D S (R.sync s)) := by
  have hb0 : Below w.heap.size w w.drew := (Below.refl _ w).drew
  have HS := Lib.hid (RSync_any (hd.later hb0) ok s hs hc)
  unfold RErrs at HS ⊢
  obtain ⟨R', hR'⟩ : ∃ R', R' = R.sync s := ⟨_, rfl⟩
  rw [← hR'] at HS ⊢
  unfold RJ at hj
  have HJ := Lib.hid hj
  have HN := Lib.hid hjn
  have c0 : w.cell? ⟨J, 0, none⟩ = some (.pointer (some ⟨D, 0, none⟩)) := cell_of_row w J 0 _ _ (0, 0) hj
  have c1 : w.cell? ⟨J, 1, none⟩ = some (.string s) := cell_of_row w J 1 _ _ (0, 0) hj
  have HL := Lib.hid (lt_of_heap hj)
  have HD := Lib.hid hd
  clear hR' hj hjn hd ok hc
  go_enter Tryz.func14, Tryz.ntmps14
  go_wp2_with fail
  go_region_held3 (fun w' => w'.cell? ⟨J, 0, none⟩ = some (.pointer (some ⟨D, 0, none⟩)) ∧ w'.cell? ⟨J, 1, none⟩ = some (.string s)) (first | exact ⟨c0, c1⟩ | exact ⟨g0, g1⟩) ((go_at_call 38; refine HS.out.mono ?_; rintro _ w4 ⟨rfl, hr4⟩; have HR4 := Lib.hid hr4; have hj4 := (hr4.chg.block J (by have := HL.out; exact this) HN.out).trans HJ.out; have g0 : w4.cell? ⟨J, 0, none⟩ = some (.pointer (some ⟨D, 0, none⟩)) := cell_of_row w4 J 0 _ _ (0, 0) hj4; have g1 : w4.cell? ⟨J, 1, none⟩ = some (.string s) := cell_of_row w4 J 1 _ _ (0, 0) hj4; clear hr4 hj4))
  go_wp2_with fail
  go_ret
  exact ⟨rfl, HR4.out.behind hb0 HD.out⟩
/-- What the reference's Add does. -/
def Rf.add (R : Rf) (s : ByteArray) (n c : Nat) (r : List Nat) : (Rf × Nat × Nat) × Nat :=
  if 65536 < r.length then ((R, n, c), 3) else
    if (R.sizeE s).2 ≠ 0 then ((R, n, c), (R.sizeE s).2) else
      if (R.sizeE s).1 ≠ n then ((R, n, c), 9) else
        if (R.append s (bstr (laidR c r))).2 = 0 then (((R.append s (bstr (laidR c r))).1, n + (r.length + 8), nextC c r), 0)
        else (((R.append s (bstr (laidR c r))).1, n, c), (R.append s (bstr (laidR c r))).2)
/-- What it leaves. -/
def RAddEnd (w : World) (base D J : Nat) (S : Nat → Prop) (s : ByteArray) (x : (Rf × Nat × Nat) × Nat) (e : Ending) (w' : World) : Prop :=
  e = .returned (.int .i64 (x.2 : Nat)) ∧ Rk w' base D x.1.1 (plus S w w') ∧ Chg w w' (fun g => S g ∨ g = J) ∧ RJ w' J D s x.1.2.1 x.1.2.2
theorem RAddEnd.looked {w w' : World} {base D J n c k : Nat} {R : Rf} {S : Nat → Prop} {s : ByteArray} (hd : Rk w base D R S) (hj : RJ w J D s n c) (hb : Below w.heap.size w w') : RAddEnd w base D J S s ((R, n, c), k) (.returned (.int .i64 k)) w' :=
  ⟨rfl, (hd.looked hb).rk, Chg.of_below hb _, heap_on hb hj⟩
set_option linter.unusedSimpArgs false in
set_option linter.unusedVariables false in
set_option maxRecDepth 20000 in
set_option maxHeartbeats 4000000 in
theorem RJAdd_any {w : World} {base D J n c : Nat} {R : Rf} {S : Nat → Prop} {s : ByteArray} (hd : Rk w base D R S) (ok : RfOk R) (hs : s.size ≤ 140737488355328) (hc : R.rows.length ≤ 1000000) (hj : RJ w J D s n c) (hjn : ¬ S J) (hlong : n ≤ 1048576) (hc9 : c < 4294967296) {v : Value} {r : List Nat} (hv : KAt .u8 w v r) (hb : Bytes r) :
    Calls Tryz.prog 12 #[.pointer (some ⟨J, 0, none⟩), v] w (RAddEnd w base D J S s (R.add s n c r)) := by
  have H := Lib.hid hd
  have HJ := Lib.hid hj
  have HV := Lib.hid hv
  have HN := Lib.hid hjn
  have HB := Lib.hid hb
  have HOK := Lib.hid ok
  have HFEW := Lib.hid hc
  unfold RJ at hj
  have c0 : w.cell? ⟨J, 0, none⟩ = some (.pointer (some ⟨D, 0, none⟩)) := cell_of_row w J 0 _ _ (0, 0) hj
  have c1 : w.cell? ⟨J, 1, none⟩ = some (.string s) := cell_of_row w J 1 _ _ (0, 0) hj
  have c2 : w.cell? ⟨J, 2, none⟩ = some (.int .i64 n) := cell_of_row w J 2 _ _ (0, 0) hj
  have c3 : w.cell? ⟨J, 3, none⟩ = some (.int .u32 c) := cell_of_row w J 3 _ _ (0, 0) hj
  have HL := Lib.hid (lt_of_heap hj)
  obtain ⟨ao, cap, rfl, hc1, hc2, hc3, hc4⟩ := hv
  unfold maxLen at hc2
  obtain ⟨m, hm⟩ : ∃ m, m = r.length := ⟨_, rfl⟩
  have HM := Lib.hid hm
  rw [← hm] at HV hc1 ⊢
  have hm9 : (m : Int) ≤ 9223372036854775807 := by omega
  clear hc3 hc4 hj hm ok hc hjn
  have hb0 : Below w.heap.size w w.drew := (Below.refl _ w).drew
  by_cases h1 : 65536 < m
  · have h1I : (65536 : Int) < (m : Int) := by omega
    have HA := Lib.hid (show R.add s n c r = ((R, n, c), 3) by unfold Rf.add; rw [← HM.out, if_pos h1])
    clear h1
    go_enter Tryz.func12, Tryz.ntmps12
    go_wp2_with fail
    go_ret
    rw [HA.out]
    exact RAddEnd.looked H.out HJ.out (Below.refl _ _)
  · have h1I : ¬ (65536 : Int) < (m : Int) := by omega
    have mI : (m : Int) ≤ 65536 := by omega
    obtain ⟨z, hz⟩ : ∃ z, z = R.sizeE s := ⟨_, rfl⟩
    have HS := Lib.hid (show Calls Tryz.prog 40 #[.pointer (some ⟨D, 0, none⟩), .string s] w.drew fun e w' => e = .returned (.tuple #[.int .i64 z.1, .int .i64 z.2]) ∧ Below w.drew.heap.size w.drew w' by
      obtain ⟨⟨rv, mv, nv, sv, hra, _⟩, _⟩ := hd.later hb0
      rw [hz]
      exact RSize_any hra HOK.out s hs HFEW.out)
    obtain ⟨zn, ze⟩ := z
    have HZ := Lib.hid hz
    clear hz hd
    by_cases h2 : ze = 0
    · subst h2
      by_cases h3 : zn = n
      · subst h3
        go_enter Tryz.func12, Tryz.ntmps12
        go_wp2_with fail
        go_region_held3 (fun w' => w'.cell? ⟨J, 0, none⟩ = some (.pointer (some ⟨D, 0, none⟩)) ∧ w'.cell? ⟨J, 1, none⟩ = some (.string s)) (first | exact ⟨c0, c1⟩ | exact ⟨k0, k1⟩) ((go_at_call 40; refine HS.out.mono ?_; rintro _ w2 ⟨rfl, hb2⟩; replace hb2 := below_on hb0 hb2; have HB2 := Lib.hid hb2; have k0 := cell_on c0 hb2; have k1 := cell_on c1 hb2; have k2 := cell_on c2 hb2; have k3 := cell_on c3 hb2; clear hb2))
        have hb2 := HB2.out
        have HV2 := Lib.hid (HV.out.later hb2)
        have HR2 := Lib.hid (H.out.later hb2)
        have HLC := Lib.hid (RLaid_any w2 hc9 HV2.out HB.out (by rw [← HM.out]; omega))
        obtain ⟨x, hx⟩ : ∃ x, x = R.append s (bstr (laidR c r)) := ⟨_, rfl⟩
        obtain ⟨N, e9⟩ := x
        have HX := Lib.hid hx
        clear hx hb2 c0 c1 c2 c3
        go_wp2_with fail
        refine HLC.out.mono ?_
        rintro _ w3 ⟨u3, rfl, ho3, hb3⟩
        obtain ⟨ua, uc, hu3⟩ : ∃ a c, u3 = .slice a (m + 8) c := by obtain ⟨a, c, h⟩ := OwnV.sl ho3; exact ⟨a, c, by rw [h, laidR_length, ← HM.out]⟩
        subst hu3
        have HB3 := Lib.hid (below_on HB2.out hb3)
        have HO := Lib.hid ho3
        have d0 := cell_on k0 hb3
        have d1 := cell_on k1 hb3
        have d2 := cell_on k2 hb3
        have d3 := cell_on k3 hb3
        clear ho3 hb3 k0 k1 k2 k3
        have HAP := Lib.hid (show Calls Tryz.prog 18 #[.pointer (some ⟨D, 0, none⟩), .string s, .slice ua (m + 8) uc] w3.drew (RErrs w3.drew base D S (N, e9)) by
          rw [HX.out]
          exact RAppend_any ((H.out.later HB3.out).later (Below.refl _ w3).drew) HOK.out s hs HFEW.out (HO.out.at_.later (Below.refl _ w3).drew) (by rw [laidR_length, ← HM.out]; omega) (laidR_bytes HB.out))
        go_wp2_with fail
        have HJ3 := Lib.hid (show w3.drew.heap[J]? = _ from heap_on HB3.out HJ.out)
        have HB3d := Lib.hid (HB3.out.drew)
        have HLd := Lib.hid (show J < w3.drew.heap.size from lt_of_heap HJ3.out)
        go_region_held3 (fun w' => w'.cell? ⟨J, 0, none⟩ = some (.pointer (some ⟨D, 0, none⟩)) ∧ w'.cell? ⟨J, 1, none⟩ = some (.string s)) (first | exact ⟨d0, d1⟩ | exact ⟨g0, g1⟩) ((go_at_call 18; refine HAP.out.mono ?_; rintro _ w4 ⟨rfl, hr4⟩; have HR4 := Lib.hid (hr4.behind HB3d.out H.out); have hj4 := (hr4.chg.block J HLd.out HN.out).trans HJ3.out; have g0 : w4.cell? ⟨J, 0, none⟩ = some (.pointer (some ⟨D, 0, none⟩)) := cell_of_row w4 J 0 _ _ (0, 0) hj4; have g1 : w4.cell? ⟨J, 1, none⟩ = some (.string s) := cell_of_row w4 J 1 _ _ (0, 0) hj4; have g2 : w4.cell? ⟨J, 2, none⟩ = some (.int .i64 zn) := cell_of_row w4 J 2 _ _ (0, 0) hj4; have g3 : w4.cell? ⟨J, 3, none⟩ = some (.int .u32 c) := cell_of_row w4 J 3 _ _ (0, 0) hj4; have HJ4 := Lib.hid hj4; have l2 := frozen_row hj4 2; have l3 := frozen_row hj4 3; clear hr4 hj4))
        by_cases h5 : e9 = 0
        · subst h5
          have HA := Lib.hid (show R.add s zn c r = ((N, zn + (m + 8), nextC c r), 0) by unfold Rf.add; rw [← HM.out, if_neg (by omega), ← HZ.out, if_neg (by simp), if_neg (by simp), ← HX.out, if_pos rfl])
          clear HX HZ HAP HLC HS
          go_wp2_with fail
          go_ret
          rw [HA.out]
          refine ⟨rfl, ?_, ((HR4.out.chg.more fun g hg => .inl hg).setCell (.inl (.inr rfl)) _).setCell (.inl (.inr rfl)) _, ?_⟩
          · refine Rk.wide (HR4.out.rk.other (((Chg.refl w4 (fun g => g = J)).setCell (.inl rfl) _).setCell (.inl rfl) _) ?_) (fun g hg => ?_) (fun g hg => ?_)
            · rintro g rfl (hg | hg)
              · exact HN.out hg
              · have := HL.out; omega
            · rcases hg with hg | hg
              · exact .inl hg
              · exact .inr ⟨hg.1, by simpa using hg.2⟩
            · have h9 := HR4.out.rk.2 g (by
                rcases hg with hg | hg
                · exact .inl hg
                · exact .inr ⟨hg.1, by simpa using hg.2⟩)
              exact ⟨h9.1, by simpa using h9.2⟩
          · have e1 := heap_setCell_same w4 J 2 _ _ (.int .i64 ((zn : Int) + ((m : Int) + 8))) HJ4.out
            have e2 := heap_setCell_same _ J 3 _ _ (.int .u32 (nextC c r : Nat)) e1
            have e3 : ((zn : Int) + ((m : Int) + 8)) = ((zn + (m + 8) : Nat) : Int) := by omega
            unfold RJ
            rw [← e3]
            exact e2
        · have h5I : ¬ ((e9 : Int) = 0) := by omega
          have HA := Lib.hid (show R.add s zn c r = ((N, zn, c), e9) by unfold Rf.add; rw [← HM.out, if_neg (by omega), ← HZ.out, if_neg (by simp), if_neg (by simp), ← HX.out, if_neg h5])
          clear HX HZ HAP HLC HS
          go_wp2_with fail
          go_ret
          rw [HA.out]
          exact ⟨rfl, HR4.out.rk, HR4.out.chg.more fun g hg => .inl hg, HJ4.out⟩
      · have h3I : ¬ ((zn : Int) = (n : Int)) := by omega
        have HA := Lib.hid (show R.add s n c r = ((R, n, c), 9) by unfold Rf.add; rw [← HM.out, if_neg (by omega), ← HZ.out, if_neg (by simp), if_pos h3])
        go_enter Tryz.func12, Tryz.ntmps12
        go_wp2_with fail
        go_region_held3 (fun w' => w'.cell? ⟨J, 0, none⟩ = some (.pointer (some ⟨D, 0, none⟩)) ∧ w'.cell? ⟨J, 1, none⟩ = some (.string s)) (first | exact ⟨c0, c1⟩ | exact ⟨k0, k1⟩) ((go_at_call 40; refine HS.out.mono ?_; rintro _ w2 ⟨rfl, hb2⟩; replace hb2 := below_on hb0 hb2; have HB2 := Lib.hid hb2; have k0 := cell_on c0 hb2; have k1 := cell_on c1 hb2; have k2 := cell_on c2 hb2; have k3 := cell_on c3 hb2; clear hb2))
        go_wp2_with fail
        go_ret
        rw [HA.out]
        exact RAddEnd.looked H.out HJ.out HB2.out
    · have h2I : ¬ ((ze : Int) = 0) := by omega
      have HA := Lib.hid (show R.add s n c r = ((R, n, c), ze) by unfold Rf.add; rw [← HM.out, if_neg (by omega), ← HZ.out, if_pos h2])
      go_enter Tryz.func12, Tryz.ntmps12
      go_wp2_with fail
      go_region_held3 (fun w' => w'.cell? ⟨J, 0, none⟩ = some (.pointer (some ⟨D, 0, none⟩)) ∧ w'.cell? ⟨J, 1, none⟩ = some (.string s)) (first | exact ⟨c0, c1⟩ | exact ⟨k0, k1⟩) ((go_at_call 40; refine HS.out.mono ?_; rintro _ w2 ⟨rfl, hb2⟩; replace hb2 := below_on hb0 hb2; have HB2 := Lib.hid hb2; have k0 := cell_on c0 hb2; have k1 := cell_on c1 hb2; have k2 := cell_on c2 hb2; have k3 := cell_on c3 hb2; clear hb2))
      go_wp2_with fail
      go_ret
      rw [HA.out]
      exact RAddEnd.looked H.out HJ.out HB2.out
end Go.Proofs.YtidhlbhfhfonoaaGreatDoor
