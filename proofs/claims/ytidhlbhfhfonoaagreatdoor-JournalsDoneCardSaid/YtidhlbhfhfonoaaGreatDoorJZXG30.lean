/- Layer 18 (journals): Add, and Sync; Layer 18 (journals): Open and Add, of a disk with one file; Layer 18 (journals): kept, told, end and check of the statements -/
import Derived.Test.YtidhlbhfhfonoaaGreatDoorJZXG27
import Derived.Test.YtidhlbhfhfonoaaGreatDoorJZXG28
import Derived.Deep.RegionHeld3
import Derived.Test.YtidhlbhfhfonoaaGreatDoorJZXG29
namespace Go.Proofs.YtidhlbhfhfonoaaGreatDoor
open Go.ChangeShapes Go.WideShapes Go.ChangeAt Go.RowKit

set_option maxRecDepth 20000 in
set_option maxHeartbeats 1500000 in
theorem there_any {w : World} {Jb D : Nat} {s : ByteArray} {long c : Nat} (hj : Journ w Jb D s long c) :
    Calls Tryz.prog 46 #[.pointer (some ⟨Jb, 0, none⟩)] w fun e w' => e = .returned (.bool true) ∧ w' = w := by
  have c0 : w.cell? ⟨Jb, 0, none⟩ = some (.pointer (some ⟨D, 0, none⟩)) := cell_of_row w Jb 0 _ _ (0, 0) hj
  go_enter Tryz.func46, Tryz.ntmps46
  go_wp2
  go_ret
  exact ⟨rfl, rfl⟩
theorem Stay.less {K K' : Nat → Prop} {w w' : World} (h : Stay K w w') (hK : ∀ g, K' g → K g) : Stay K' w w' := ⟨h.os, h.tape, h.output, h.size, fun g hg => h.block g (hK g hg)⟩
/-- What a call on a journal leaves. -/
def AddEnd (K : Nat → Prop) (w : World) (base D Jb : Nat) (s : ByteArray) (x : (Dm × Nat × Nat) × Nat) (e : Ending) (w' : World) : Prop :=
  e = .returned (.int .i64 (x.2 : Nat)) ∧ OneK K w' base D x.1.1 ∧ Journ w' Jb D s x.1.2.1 x.1.2.2 ∧ Stay (fun g => K g ∧ g ≠ Jb) w w'
set_option linter.unusedSimpArgs false in
set_option maxRecDepth 20000 in
set_option maxHeartbeats 4000000 in
theorem Add_any {K : Nat → Prop} {w : World} {base D Jb : Nat} {M : Dm} {s : ByteArray} {long c : Nat} (h : OneK K w base D M) (hK : K Jb) (hj : Journ w Jb D s long c) (hs : s.size ≤ 140737488355328) (hlong : long ≤ 1048576) (hc : c < 4294967296)
    {v : Value} {r : List Nat} (hv : KAt .u8 w v r) (hb : Bytes r) :
    Calls Tryz.prog 11 #[.pointer (some ⟨Jb, 0, none⟩), v] w (AddEnd K w base D Jb s (M.add s long c r)) := by
  have HT := Lib.hid (there_any hj)
  have H := Lib.hid h
  have HJ := Lib.hid hj
  have HV := Lib.hid hv
  have c0 := cell_of_row w Jb 0 _ _ (0, 0) hj
  have c1 : w.cell? ⟨Jb, 1, none⟩ = some (.string s) := cell_of_row w Jb 1 _ _ (0, 0) hj
  have c2 : w.cell? ⟨Jb, 2, none⟩ = some (.int .i64 long) := cell_of_row w Jb 2 _ _ (0, 0) hj
  have c3 : w.cell? ⟨Jb, 3, none⟩ = some (.int .u32 c) := cell_of_row w Jb 3 _ _ (0, 0) hj
  obtain ⟨ao, cap, rfl, hc1, hc2, hc3, hc4⟩ := hv
  unfold maxLen at hc2
  obtain ⟨m, hm⟩ : ∃ m, m = r.length := ⟨_, rfl⟩
  have HM := Lib.hid hm
  rw [← hm] at HV hc1 ⊢
  have hm9 : (m : Int) ≤ 9223372036854775807 := by omega
  clear hc3 hc4 h hj hm
  have hmI : IntKind.i64.wrap (m : Int) = (m : Int) := by rw [IntKind.wrap_i64]; omega
  have hb0 : Below w.heap.size w w.drew := (Below.refl _ w).drew
  by_cases h1 : 65536 < m
  · have h1I : (65536 : Int) < (m : Int) := by omega
    go_enter Tryz.func11, Tryz.ntmps11
    go_wp2_with (go_at_call 46; refine HT.out.mono ?_; rintro e w9 ⟨rfl, rfl⟩)
    go_ret
    unfold AddEnd Dm.add
    rw [← HM.out, if_pos h1]
    exact ⟨rfl, H.out, HJ.out, Stay.refl _ _⟩
  · have h1I : ¬ ((65536 : Int) < (m : Int)) := by omega
    obtain ⟨z, hz⟩ : ∃ z, z = M.sizeE s := ⟨_, rfl⟩
    have hzl := sizeE_le H.out.ok s
    have HS := Lib.hid (fun (w1 : World) (hb : Below w.heap.size w w1) => (H.out.later hb).look fun S hS => Size_any hS s hs)
    rw [← hz] at HS hzl
    obtain ⟨zn, ze⟩ := z
    simp only at HS hzl
    have HZ := Lib.hid hz
    clear hz
    by_cases h2 : ze = 0
    · subst h2
      by_cases h3 : zn = long
      · subst h3
        go_enter Tryz.func11, Tryz.ntmps11
        go_wp2_with (go_at_call 46; refine HT.out.mono ?_; rintro e w9 ⟨rfl, rfl⟩)
        go_region_held3 (fun w' => w'.cell? ⟨Jb, 0, none⟩ = some (.pointer (some ⟨D, 0, none⟩)) ∧ w'.cell? ⟨Jb, 1, none⟩ = some (.string s)) (first | exact ⟨c0, c1⟩ | exact ⟨k0, k1⟩) ((go_at_call 39; refine (HS.out _ hb0).mono ?_; rintro _ w2 ⟨rfl, hb2⟩; have HB := Lib.hid hb2; replace hb2 := below_on hb0 hb2; have k0 := cell_on c0 hb2; have k1 := cell_on c1 hb2; have k2 := cell_on c2 hb2; have k3 := cell_on c3 hb2; clear hb2))
        have T := Lib.hid ((H.out.later (Below.refl _ _).drew).later HB.out)
        have HJ2 := Lib.hid (heap_on HB.out HJ.out)
        have HV2 := Lib.hid ((HV.out.later (Below.refl _ _).drew).later HB.out)
        go_wp2_with fail
        have HL := Lib.hid (laid_any w2 hc HV2.out (by rw [← HM.out]; omega) hb)
        rw [← HM.out] at HL
        obtain ⟨n8, hn8⟩ : ∃ n8, n8 = m + 8 := ⟨_, rfl⟩
        rw [← hn8] at HL
        have hz8 : (zn : Int) + (n8 : Int) ≤ 9223372036854775807 := by omega
        have HN8 := Lib.hid hn8
        clear hn8
        refine HL.out.mono ?_
        rintro _ w3 ⟨ab, kb, rfl, ho3, hb3⟩
        have T := Lib.hid (T.out.later hb3)
        have HJ3 := Lib.hid (heap_on hb3 HJ2.out)
        have HO := Lib.hid ho3
        have HB3 := Lib.hid (below_on (below_on hb0 HB.out) hb3)
        have d0 := cell_on k0 hb3
        have d1 := cell_on k1 hb3
        clear ho3 hb3 k0 k1 k2 k3 c0 c1 c2 c3 HL
        have HT2 := Lib.hid (T.out.later (Below.refl _ w3).drew)
        have HK2 := Lib.hid (HO.out.at_.later (Below.refl _ w3).drew)
        obtain ⟨x, hx⟩ : ∃ x, x = M.append s (laidR c r) := ⟨_, rfl⟩
        obtain ⟨N, e9⟩ := x
        have HX := Lib.hid hx
        clear hx
        go_wp2_with fail
        go_region_held3 (fun w' => w'.cell? ⟨Jb, 0, none⟩ = some (.pointer (some ⟨D, 0, none⟩)) ∧ w'.cell? ⟨Jb, 1, none⟩ = some (.string s)) (first | exact ⟨d0, d1⟩ | exact ⟨g0, g1⟩) ((go_at_call 17; refine (HT2.out.act (e9 : Int) HX.out.symm rfl fun S hS => Append_any hS s hs HK2.out (laidR_bytes hb)).mono ?_; rintro _ w4 ⟨rfl, ht4, hs4⟩; have T := Lib.hid ht4; have HST := Lib.hid hs4; have hj4 := (hs4.block Jb hK).trans HJ3.out; have g0 : w4.cell? ⟨Jb, 0, none⟩ = some (.pointer (some ⟨D, 0, none⟩)) := cell_of_row w4 Jb 0 _ _ (0, 0) hj4; have g1 : w4.cell? ⟨Jb, 1, none⟩ = some (.string s) := cell_of_row w4 Jb 1 _ _ (0, 0) hj4; have g2 : w4.cell? ⟨Jb, 2, none⟩ = some (.int .i64 zn) := cell_of_row w4 Jb 2 _ _ (0, 0) hj4; have g3 : w4.cell? ⟨Jb, 3, none⟩ = some (.int .u32 c) := cell_of_row w4 Jb 3 _ _ (0, 0) hj4; have HJ4 := Lib.hid hj4; have l2 := frozen_row hj4 2; have l3 := frozen_row hj4 3; clear ht4 hs4 hj4))
        have HS9 := Lib.hid ((H.out.stay HB3.out).trans ((H.out.later HB3.out).stay (Below.refl _ w3).drew |>.trans HST.out fun _ h => h) fun _ h => h)
        by_cases h5 : e9 = 0
        · subst h5
          go_wp2_with fail
          go_ret
          unfold AddEnd Dm.add
          rw [← HM.out, if_neg h1, ← HZ.out, if_neg (by simp), if_neg (by simp), ← HX.out, if_pos rfl]
          refine ⟨rfl, (T.out.putC Jb 2 _ hK).putC Jb 3 _ hK, ?_, ?_⟩
          · have e1 := heap_setCell_same w4 Jb 2 _ _ (.int .i64 ((zn : Int) + (n8 : Int))) HJ4.out
            have e2 := heap_setCell_same _ Jb 3 _ _ (.int .u32 (nextC c r : Nat)) e1
            have e3 : ((zn : Int) + (n8 : Int)) = ((zn + (m + 8) : Nat) : Int) := by have := HN8.out; omega
            unfold Journ
            rw [← e3]
            exact e2
          · exact ⟨HS9.out.os, HS9.out.tape, HS9.out.output, by simpa using HS9.out.size, fun g hg => by
              rw [Below.heap_setCell _ _ _ _ hg.2, Below.heap_setCell _ _ _ _ hg.2]
              exact HS9.out.block g hg.1⟩
        · have h5I : ¬ ((e9 : Int) = 0) := by omega
          go_wp2_with fail
          go_ret
          unfold AddEnd Dm.add
          rw [← HM.out, if_neg h1, ← HZ.out, if_neg (by simp), if_neg (by simp), ← HX.out, if_neg h5]
          exact ⟨rfl, T.out, HJ4.out, HS9.out.less fun g hg => hg.1⟩
      · have h3I : ¬ ((zn : Int) = (long : Int)) := by omega
        go_enter Tryz.func11, Tryz.ntmps11
        go_wp2_with (go_at_call 46; refine HT.out.mono ?_; rintro e w9 ⟨rfl, rfl⟩)
        go_region_held3 (fun w' => w'.cell? ⟨Jb, 0, none⟩ = some (.pointer (some ⟨D, 0, none⟩)) ∧ w'.cell? ⟨Jb, 1, none⟩ = some (.string s)) (first | exact ⟨c0, c1⟩ | exact ⟨k0, k1⟩) ((go_at_call 39; refine (HS.out _ hb0).mono ?_; rintro _ w2 ⟨rfl, hb2⟩; have HB := Lib.hid hb2; replace hb2 := below_on hb0 hb2; have k0 := cell_on c0 hb2; have k1 := cell_on c1 hb2; have k2 := cell_on c2 hb2; have k3 := cell_on c3 hb2; clear hb2))
        go_wp2_with fail
        go_ret
        unfold AddEnd Dm.add
        rw [← HM.out, if_neg h1, ← HZ.out, if_neg (by simp), if_pos h3]
        have hb := below_on (Below.refl _ w9).drew HB.out
        exact ⟨rfl, H.out.later hb, heap_on hb HJ.out, (H.out.stay hb).less fun g hg => hg.1⟩
    · have h2I : ¬ ((ze : Int) = 0) := by omega
      go_enter Tryz.func11, Tryz.ntmps11
      go_wp2_with (go_at_call 46; refine HT.out.mono ?_; rintro e w9 ⟨rfl, rfl⟩)
      go_region_held3 (fun w' => w'.cell? ⟨Jb, 0, none⟩ = some (.pointer (some ⟨D, 0, none⟩)) ∧ w'.cell? ⟨Jb, 1, none⟩ = some (.string s)) (first | exact ⟨c0, c1⟩ | exact ⟨k0, k1⟩) ((go_at_call 39; refine (HS.out _ hb0).mono ?_; rintro _ w2 ⟨rfl, hb2⟩; have HB := Lib.hid hb2; replace hb2 := below_on hb0 hb2; have k0 := cell_on c0 hb2; have k1 := cell_on c1 hb2; have k2 := cell_on c2 hb2; have k3 := cell_on c3 hb2; clear hb2))
      go_wp2_with fail
      go_ret
      unfold AddEnd Dm.add
      rw [← HM.out, if_neg h1, ← HZ.out, if_pos h2]
      have hb := below_on (Below.refl _ w9).drew HB.out
      exact ⟨rfl, H.out.later hb, heap_on hb HJ.out, (H.out.stay hb).less fun g hg => hg.1⟩
set_option maxRecDepth 20000 in
set_option maxHeartbeats 4000000 in
theorem JSync_any {K : Nat → Prop} {w : World} {base D Jb : Nat} {M : Dm} {s : ByteArray} {long c : Nat} (h : OneK K w base D M) (hK : K Jb) (hj : Journ w Jb D s long c) (hs : s.size ≤ 140737488355328) {N : Dm} {e9 : Nat} (hx : M.sync s = (N, e9)) :
    Calls Tryz.prog 13 #[.pointer (some ⟨Jb, 0, none⟩)] w fun e w' => e = .returned (.int .i64 e9) ∧ OneK K w' base D N ∧ Stay K w w' := by
  have HT := Lib.hid (there_any hj)
  have HJ := Lib.hid hj
  have H := Lib.hid h
  have HX := Lib.hid hx
  have c0 : w.cell? ⟨Jb, 0, none⟩ = some (.pointer (some ⟨D, 0, none⟩)) := cell_of_row w Jb 0 _ _ (0, 0) hj
  have c1 : w.cell? ⟨Jb, 1, none⟩ = some (.string s) := cell_of_row w Jb 1 _ _ (0, 0) hj
  have HT2 := Lib.hid (h.later (Below.refl _ w).drew)
  have hb0 : Below w.heap.size w w.drew := (Below.refl _ w).drew
  have HS0 := Lib.hid (h.stay hb0)
  clear hj h hx
  go_enter Tryz.func13, Tryz.ntmps13
  go_wp2_with (go_at_call 46; refine HT.out.mono ?_; rintro e w9 ⟨rfl, rfl⟩)
  go_region_held3 (fun w' => w'.cell? ⟨Jb, 0, none⟩ = some (.pointer (some ⟨D, 0, none⟩)) ∧ w'.cell? ⟨Jb, 1, none⟩ = some (.string s)) (first | exact ⟨c0, c1⟩ | exact ⟨g0, g1⟩) ((go_at_call 37; refine (HT2.out.act (e9 : Int) HX.out rfl fun S hS => Sync_any hS s hs).mono ?_; rintro _ w4 ⟨rfl, ht4, hs4⟩; have T := Lib.hid ht4; have HST := Lib.hid hs4; have hj4 := (hs4.block Jb hK).trans HJ.out; have g0 : w4.cell? ⟨Jb, 0, none⟩ = some (.pointer (some ⟨D, 0, none⟩)) := cell_of_row w4 Jb 0 _ _ (0, 0) hj4; have g1 : w4.cell? ⟨Jb, 1, none⟩ = some (.string s) := cell_of_row w4 Jb 1 _ _ (0, 0) hj4; clear ht4 hs4 hj4))
  go_wp2_with fail
  go_ret
  exact ⟨rfl, T.out, HS0.out.trans HST.out fun _ h => h⟩
end Go.Proofs.YtidhlbhfhfonoaaGreatDoor
namespace Go.Proofs.YtidhlbhfhfonoaaGreatDoor
open Go.ChangeShapes Go.WideShapes Go.ChangeAt Go.RowKit

end Go.Proofs.YtidhlbhfhfonoaaGreatDoor
