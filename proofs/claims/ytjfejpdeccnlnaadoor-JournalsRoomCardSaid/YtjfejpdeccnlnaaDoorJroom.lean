/- Layer 18 (journals): JournalsRoom, the walk. -/
import Derived.Test.YtjfejpdeccnlnaaDoorJroom0
namespace Go.Proofs.YtjfejpdeccnlnaaDoor
open Go.ChangeShapes Go.WideShapes Go.ChangeAt Go.RowKit

set_option linter.unusedSimpArgs false in
set_option linter.unusedVariables false in
set_option maxRecDepth 20000 in
set_option maxHeartbeats 8000000 in
theorem journalsRoom_great (v0 vt : Value) (L : List (List Nat)) (tl : List Bool) (z : Nat) (hz : z < 65536) (w : World) (hv0 : PartsAt w v0 L) (ht : BoolsAt w vt tl) (hb0 : ∀ r ∈ L, Bytes r) (hl0 : L.length ≤ 140737488351232) (hz0 : ∀ r ∈ L, r.length ≤ 140737488351232) (hs0 : manyB L = true) :
    Calls Tryd.prog 3 #[v0, .int .u16 z, vt] w fun e w' => e = .returned (.bool true) ∧ Below w.heap.size w w' := by
  have hv9 := hv0
  obtain ⟨ao0, cap0, rfl, hca0, hcb0, _, _⟩ := hv9
  obtain ⟨m0, hm⟩ : ∃ m, m = L.length := ⟨_, rfl⟩
  have HM0 := Lib.hid hm
  have PL0 := Lib.hid hv0
  rw [← hm] at PL0 hca0 ⊢
  have H80 := Lib.hid hb0
  unfold maxLen at hcb0
  clear hv0 hb0 hm
  have HZ0 := Lib.hid hz0
  have HL0 := Lib.hid hl0
  have ht9 := ht
  obtain ⟨at_, pt, rfl, _, hpt, hct⟩ := ht9
  obtain ⟨nt, hnt⟩ : ∃ n, n = tl.length := ⟨_, rfl⟩
  have HNT := Lib.hid hnt
  rw [← hnt] at hct ⊢
  have HCT := Lib.hid hct
  clear ht hct hpt
  obtain ⟨n, hn⟩ : ∃ n, n = 1 + z % 4000 := ⟨_, rfl⟩
  have en : (1 : Int) + (z : Int) % 4000 = (n : Int) := by omega
  have hn1 : 1 ≤ n := by omega
  have hn2 : n ≤ 4000 := by omega
  have hn2I : (n : Int) ≤ 4000 := by omega
  clear hn
  have HMB0 := Lib.hid hs0
  clear hs0 hnt
  go_enter Tryd.func3, Tryd.ntmps3
  go_wp2_with fail
  refine (New_yes n w hn1 (by omega)).mono ?_
  rintro _ w1 ⟨rfl, hd, hb⟩
  have T := Lib.hid (OneK.new hd)
  have B := Lib.hid hb
  obtain ⟨D, hD⟩ : ∃ D, D = w.heap.size := ⟨_, rfl⟩
  have HD := Lib.hid hD
  rw [← hD] at T ⊢
  clear hd hb hD
  go_wp2_with fail
  refine (Whole.new T.out (s := ⟨#[106]⟩) (by decide)).mono ?_
  rintro _ w2 ⟨Jb, a2, c2, rfl, hw, hst, hJ, _⟩
  have HI := Lib.hid (show RoomI w w2 D Jb n (.slice none 0 0) [] [] from ⟨⟨hw.disk.lessC fun g hg => (by rcases hg with hg | hg; exact hg; cases hg), hw.jour, .inl (.inr rfl), hw.recs, hw.name, hw.le⟩, ⟨[], ⟨rfl, .inl ⟨rfl, rfl⟩⟩, fun i l h => by simp at h⟩, (by rw [HD.out]; exact B.out.trans (hst.below fun g hg => by rw [HD.out]; exact hg)), by rw [HD.out]; exact Nat.le_trans B.out.size hJ, fun e => by cases e⟩)
  have PL := Lib.hid (PL0.out.later (by have := HI.out.below; rwa [HD.out] at this))
  clear hw hst hJ T B
  go_wp2_with fail
  refine (many_is w2 PL.out (fun s hs => by have := HZ0.out s hs; omega) (by have := HL0.out; omega) HMB0.out).mono ?_
  rintro _ w3 ⟨rfl, hb⟩
  have HI := Lib.hid (HI.out.later hb)
  clear hb PL
  go_wp2_with fail
  refine (alive18 _).mono ?_
  rintro _ w4 ⟨rfl, hb⟩
  have HI := Lib.hid (HI.out.later hb)
  clear hb
  go_wp2_with fail
  go_ret
  exact ⟨rfl, by have := HI.out.below; rwa [HD.out] at this⟩
set_option linter.unusedSimpArgs false in
set_option linter.unusedVariables false in
set_option maxRecDepth 20000 in
set_option maxHeartbeats 8000000 in
theorem journalsRoom_small (v0 vt : Value) (L : List (List Nat)) (tl : List Bool) (z : Nat) (hz : z < 65536) (w : World) (hv0 : PartsAt w v0 L) (ht : BoolsAt w vt tl) (hb0 : ∀ r ∈ L, Bytes r) (hl0 : L.length ≤ 140737488351232) (hz0 : ∀ r ∈ L, r.length ≤ 140737488351232) (hs0 : manyB L = false) :
    Calls Tryd.prog 3 #[v0, .int .u16 z, vt] w fun e w' => e = .returned (.bool true) ∧ Below w.heap.size w w' := by
  have hv9 := hv0
  obtain ⟨ao0, cap0, rfl, hca0, hcb0, _, _⟩ := hv9
  obtain ⟨m0, hm⟩ : ∃ m, m = L.length := ⟨_, rfl⟩
  have HM0 := Lib.hid hm
  have PL0 := Lib.hid hv0
  rw [← hm] at PL0 hca0 ⊢
  have H80 := Lib.hid hb0
  unfold maxLen at hcb0
  clear hv0 hb0 hm
  have HZ0 := Lib.hid hz0
  have HL0 := Lib.hid hl0
  have ht9 := ht
  obtain ⟨at_, pt, rfl, _, hpt, hct⟩ := ht9
  obtain ⟨nt, hnt⟩ : ∃ n, n = tl.length := ⟨_, rfl⟩
  have HNT := Lib.hid hnt
  rw [← hnt] at hct ⊢
  have HCT := Lib.hid hct
  clear ht hct hpt
  obtain ⟨n, hn⟩ : ∃ n, n = 1 + z % 4000 := ⟨_, rfl⟩
  have en : (1 : Int) + (z : Int) % 4000 = (n : Int) := by omega
  have hn1 : 1 ≤ n := by omega
  have hn2 : n ≤ 4000 := by omega
  have hn2I : (n : Int) ≤ 4000 := by omega
  clear hn
  clear hnt
  have SM0 := Lib.hid (small_of hs0)
  have hm0 : m0 ≤ 40 := by rw [HM0.out]; exact SM0.out.many
  have hm0I : (m0 : Int) ≤ 40 := by omega
  have HR0 := Lib.hid (show ∀ r ∈ L, Bytes r ∧ r.length ≤ 65536 from fun r hr => ⟨H80.out r hr, by have := SM0.out.each r hr; omega⟩)
  have HMB0 := Lib.hid hs0
  clear hs0
  obtain ⟨q0, hq⟩ : ∃ q, q = (laidAll firstC L).length := ⟨_, rfl⟩
  have HQ0 := Lib.hid hq.symm
  have hq0 : q0 ≤ 40320 := by rw [hq]; exact SM0.out.all _
  have HE0 := Lib.hid (show endN L m0 = q0 by rw [hq, endN_all L firstC, HM0.out])
  clear hq
  obtain ⟨i0, hi, hz0, hz1, hz2⟩ := info_parts infoR2
  have HII := Lib.hid hi
  clear hi
  go_enter Tryd.func3, Tryd.ntmps3
  go_wp2_with fail
  refine (New_yes n w hn1 (by omega)).mono ?_
  rintro _ w1 ⟨rfl, hd, hb⟩
  have T := Lib.hid (OneK.new hd)
  have B := Lib.hid hb
  obtain ⟨D, hD⟩ : ∃ D, D = w.heap.size := ⟨_, rfl⟩
  have HD := Lib.hid hD
  rw [← hD] at T ⊢
  clear hd hb hD
  go_wp2_with fail
  refine (Whole.new T.out (s := ⟨#[106]⟩) (by decide)).mono ?_
  rintro _ w2 ⟨Jb, a2, c2, rfl, hw, hst, hJ, _⟩
  have HI := Lib.hid (show RoomI w w2 D Jb n (.slice none 0 0) [] [] from ⟨⟨hw.disk.lessC fun g hg => (by rcases hg with hg | hg; exact hg; cases hg), hw.jour, .inl (.inr rfl), hw.recs, hw.name, hw.le⟩, ⟨[], ⟨rfl, .inl ⟨rfl, rfl⟩⟩, fun i l h => by simp at h⟩, (by rw [HD.out]; exact B.out.trans (hst.below fun g hg => by rw [HD.out]; exact hg)), by rw [HD.out]; exact Nat.le_trans B.out.size hJ, fun e => by cases e⟩)
  have PL := Lib.hid (PL0.out.later (by have := HI.out.below; rwa [HD.out] at this))
  clear hw hst hJ T B
  go_wp2_with fail
  refine (many_is w2 PL.out (fun s hs => by have := HZ0.out s hs; omega) (by have := HL0.out; omega) HMB0.out).mono ?_
  rintro _ w3 ⟨rfl, hb⟩
  have HI := Lib.hid (HI.out.later hb)
  clear hb PL
  go_wp2_with fail
  go_loopw [9, 12, 13] (fun j al i wr => ∃ (k J2 m : Nat) (aa : Option Addr) (cc : Nat) (R : List (List Nat)), k ≤ m0 ∧ i = .int .i64 k ∧ j = .pointer (some ⟨J2, 0, none⟩) ∧ al = .slice aa m cc ∧ m ≤ k ∧ Hid (m = R.length) ∧ Hid (RoomI w wr D J2 n (.slice aa m cc) R R)) (fun _ _ i _ => m0 - (intOf i).toNat)
  case atStart => exact ⟨0, Jb, 0, none, 0, [], Nat.zero_le _, rfl, rfl, rfl, Nat.le_refl _, Lib.hid rfl, HI⟩
  case round =>
    obtain ⟨k, J2, m, aa, cc, R, hk, rfl, rfl, rfl, hmk, HM, HI⟩ := hrel
    have hmI : (m : Int) ≤ 40 := by omega
    by_cases hlt : k < m0
    · have hltI : (k : Int) < (m0 : Int) := by omega
      have hl9 : k < L.length := by rw [← HM0.out]; exact hlt
      obtain ⟨s, hs⟩ : ∃ s, L[k]? = some s := ⟨_, List.getElem?_eq_getElem hl9⟩
      have hp9 := PL0.out
      obtain ⟨_, _, e9, _, _, _, hc4⟩ := hp9
      rw [← HM0.out] at e9 hc4
      cases e9
      obtain ⟨b, o, rfl, hcell⟩ := hc4 (by omega)
      obtain ⟨u, hu, hku⟩ := hcell k s hs
      have hku9 := hku
      obtain ⟨ua, uc, rfl, _⟩ := hku9
      have hsR := HR0.out s (List.mem_of_getElem? hs)
      have hsq := SM0.out.each s (List.mem_of_getElem? hs)
      obtain ⟨q, hq⟩ : ∃ q, q = s.length := ⟨_, rfl⟩
      rw [← hq] at hu hku hsq
      have hqI : (q : Int) ≤ 40000 := by omega
      have HCK := Lib.hid hu
      have HKU := Lib.hid hku
      have HSR := Lib.hid hsR
      have HQ := Lib.hid hq
      clear hcell hs hu hku hsR hq hc4 hl9
      have HBW := Lib.hid (fun (wx : World) (J : Nat) (av : Value) (R A : List (List Nat)) (h : RoomI w wx D J n av R A) => (show Below w.heap.size w wx by have := h.below; rwa [HD.out] at this))
      have ck := cell_on HCK.out (HBW.out _ _ _ _ _ HI.out)
      by_cases hnt : k < nt
      · have hntI : (k : Int) < (nt : Int) := by omega
        obtain ⟨tb, htb⟩ : ∃ tb, tl[k]? = some tb := ⟨_, List.getElem?_eq_getElem (by rw [← HNT.out]; exact hnt)⟩
        obtain ⟨b9, o9, rfl, hcell⟩ := HCT.out (by omega)
        have ct := cell_on (hcell k tb htb) (HBW.out _ _ _ _ _ HI.out)
        clear hcell htb
        cases tb with
        | true =>
          go_wp2_with fail
          refine (Whole.reopen HI.out.whole.disk (by decide) HI.out.whole.recs HI.out.whole.le HM.out).mono ?_
          rintro _ x1 ⟨J3, a3, c3, rfl, hw, hst, hJ, hp⟩
          have HI := Lib.hid (HI.out.opened hw hst hJ)
          have HP := Lib.hid hp
          clear hw hst hJ hp ck ct
          have ck := cell_on HCK.out (HBW.out _ _ _ _ _ HI.out)
          go_wp2_with fail
          refine (same_is x1 HP.out (HI.out.parts HD.out) (z := true) (by simp)).mono ?_
          rintro _ x2 ⟨rfl, hb⟩
          have HI := Lib.hid (HI.out.later hb)
          clear hb ck HP
          have ck := cell_on HCK.out (HBW.out _ _ _ _ _ HI.out)
          obtain ⟨lf, hlf⟩ : ∃ lf, lf = n - (laidAll firstC R).length := ⟨_, rfl⟩
          have hlfI : (lf : Int) ≤ 4000 := by omega
          have hlfr : lf ≤ 4000 := by omega
          have HLF := Lib.hid hlf
          clear hlf
          go_wp2_with fail
          refine (HI.out.whole.disk.look fun S hS => left_look hS (z := (lf : Int)) (by rw [jd_left, HLF.out])).mono ?_
          rintro _ y1 ⟨rfl, hb⟩
          have HI := Lib.hid (HI.out.later hb)
          clear hb ck
          have ck := cell_on HCK.out (HBW.out _ _ _ _ _ HI.out)
          by_cases hfit : q + 8 ≤ lf
          · have hfI : ((q : Int) + 8 ≤ (lf : Int)) := by omega
            go_wp2_with fail
            refine (HI.out.whole.add (HKU.out.later (HBW.out _ _ _ _ _ HI.out)) HSR.out.1 HSR.out.2 ⟨by rw [← HQ.out, ← HLF.out]; exact hfit, by have := HLF.out; have := HQ.out; omega⟩).mono ?_
            rintro _ y2 ⟨rfl, hw, hst⟩
            have HI := Lib.hid (HI.out.acted hw hst)
            clear hw hst ck
            have ck := cell_on HCK.out (HBW.out _ _ _ _ _ HI.out)
            obtain ⟨xs, hx1, hx2⟩ := HI.out.all
            rw [← HM.out] at hx1
            have HX1 := Lib.hid (hx1.later ((Below.refl _ y2).alloc (Nat.le_refl _) (.cells #[.slice ua q uc] 37)))
            have HX2 := Lib.hid hx2
            have hxl : xs.length = m := by have := hx1.1; omega
            have HXL := Lib.hid hxl
            have HDS := Lib.hid HI.out.whole.disk.size
            clear hx1 hx2 hxl
            go_wp2_with (at_builtin; refine wpList_append_W rfl (.tmp 112) (.tmp 117) 22 rfl D 37 i0 (.slice none 0 0) 1 24 Tryd.underlying22 HII.out hz0 hz1 hz2 rfl (.slice aa m cc) m xs rfl HX1.out (.slice (some ⟨y2.heap.size, 0, none⟩) 1 1) 1 [.slice ua q uc] rfl (src_one' y2 _ _ rfl) (by unfold maxLen; omega) (by omega) (by have := HDS.out; simp; omega) ?_; intro v9 y3 hown hgr hlies; obtain ⟨a9, c9, rfl⟩ := hown.sl; have HI := Lib.hid (HI.out.app HM.out rfl HKU.out hown ⟨HXL.out, HX2.out⟩ hgr hlies); clear hown hgr hlies ck; have ck := cell_on HCK.out (HBW.out _ _ _ _ _ HI.out))
            obtain ⟨m2, hm2⟩ : ∃ m2, m2 = m + 1 := ⟨_, rfl⟩
            rw [← hm2] at HI ⊢
            obtain ⟨R2, hR2⟩ : ∃ R2, R2 = R ++ [s] := ⟨_, rfl⟩
            have HM2 := Lib.hid (show m2 = R2.length by rw [hR2, hm2, HM.out, List.length_append]; rfl)
            rw [← hR2] at HI
            obtain ⟨l2, hl2⟩ : ∃ l2, l2 = lf - 8 - q := ⟨_, rfl⟩
            have el2 : (lf : Int) - 8 - (q : Int) = (l2 : Int) := by omega
            have HL2 := Lib.hid (show n - (laidAll firstC R2).length = l2 by rw [hR2, laidAll_append, List.length_append, laidAll, laidAll, List.append_nil, laidR_length, ← HQ.out, hl2, HLF.out]; omega)
            have hm29 : m2 ≤ k + 1 := by omega
            clear hm2 hR2 hl2
            refine (HI.out.whole.disk.look fun S hS => left_look hS (z := (l2 : Int)) (by rw [jd_left, HL2.out])).mono ?_
            rintro _ y4 ⟨rfl, hb⟩
            have HI := Lib.hid (HI.out.later hb)
            clear hb ck
            have ck := cell_on HCK.out (HBW.out _ _ _ _ _ HI.out)
            obtain ⟨ln, hln⟩ : ∃ ln, (laidAll firstC R2).length = ln := ⟨_, rfl⟩
            have HLN := Lib.hid hln
            clear hln
            go_wp2_with fail
            refine (row_jd HI.out.whole.disk (by decide) HLN.out).mono ?_
            rintro _ y5 ⟨a8, c8, rfl, _, hb⟩
            have HI := Lib.hid (HI.out.later hb)
            clear hb ck
            have ck := cell_on HCK.out (HBW.out _ _ _ _ _ HI.out)
            go_wp2_with fail
            refine (end_any (HI.out.parts HD.out) (by rw [HM2.out]; exact Nat.le_refl _) (by omega) (fun r hr => by have := (HI.out.whole.recs r hr).2; omega) (z := ln) (by rw [← HLN.out, endN_all, HM2.out])).mono ?_
            rintro _ y6 ⟨rfl, rfl⟩
            go_wp2_with fail
            go_roundw
            case rel => exact ⟨k + 1, J3, m2, _, _, R2, by omega, by go_num, rfl, rfl, by omega, HM2, HI⟩
            case measure => simp [intOf]; omega
          · have hfI : ¬ ((q : Int) + 8 ≤ (lf : Int)) := by omega
            go_wp2_with fail
            refine (HI.out.whole.full (HKU.out.later (HBW.out _ _ _ _ _ HI.out)) HSR.out.1 HSR.out.2 (fun h9 => hfit (by have := HLF.out; have := HQ.out; omega))).mono ?_
            rintro _ y2 ⟨rfl, hw, hst⟩
            have HI := Lib.hid (HI.out.acted hw hst)
            clear hw hst ck
            have ck := cell_on HCK.out (HBW.out _ _ _ _ _ HI.out)
            go_wp2_with fail
            refine (HI.out.whole.disk.look fun S hS => left_look hS (z := (lf : Int)) (by rw [jd_left, HLF.out.symm])).mono ?_
            rintro _ y3 ⟨rfl, hb⟩
            have HI := Lib.hid (HI.out.later hb)
            clear hb ck
            have ck := cell_on HCK.out (HBW.out _ _ _ _ _ HI.out)
            obtain ⟨ln, hln⟩ : ∃ ln, (laidAll firstC R).length = ln := ⟨_, rfl⟩
            have HLN := Lib.hid hln
            clear hln
            go_wp2_with fail
            refine (row_jd HI.out.whole.disk (by decide) HLN.out).mono ?_
            rintro _ y4 ⟨a8, c8, rfl, _, hb⟩
            have HI := Lib.hid (HI.out.later hb)
            clear hb ck
            have ck := cell_on HCK.out (HBW.out _ _ _ _ _ HI.out)
            go_wp2_with fail
            refine (end_any (HI.out.parts HD.out) (by rw [HM.out]; exact Nat.le_refl _) (by omega) (fun r hr => by have := (HI.out.whole.recs r hr).2; omega) (z := ln) (by rw [← HLN.out, endN_all, HM.out])).mono ?_
            rintro _ y5 ⟨rfl, rfl⟩
            go_wp2_with fail
            go_roundw
            case rel => exact ⟨k + 1, J3, m, _, _, R, by omega, by go_num, rfl, rfl, by omega, HM, HI⟩
            case measure => simp [intOf]; omega
        | false =>
          obtain ⟨lf, hlf⟩ : ∃ lf, lf = n - (laidAll firstC R).length := ⟨_, rfl⟩
          have hlfI : (lf : Int) ≤ 4000 := by omega
          have hlfr : lf ≤ 4000 := by omega
          have HLF := Lib.hid hlf
          clear hlf
          go_wp2_with fail
          refine (HI.out.whole.disk.look fun S hS => left_look hS (z := (lf : Int)) (by rw [jd_left, HLF.out])).mono ?_
          rintro _ y1 ⟨rfl, hb⟩
          have HI := Lib.hid (HI.out.later hb)
          clear hb ck
          have ck := cell_on HCK.out (HBW.out _ _ _ _ _ HI.out)
          by_cases hfit : q + 8 ≤ lf
          · have hfI : ((q : Int) + 8 ≤ (lf : Int)) := by omega
            go_wp2_with fail
            refine (HI.out.whole.add (HKU.out.later (HBW.out _ _ _ _ _ HI.out)) HSR.out.1 HSR.out.2 ⟨by rw [← HQ.out, ← HLF.out]; exact hfit, by have := HLF.out; have := HQ.out; omega⟩).mono ?_
            rintro _ y2 ⟨rfl, hw, hst⟩
            have HI := Lib.hid (HI.out.acted hw hst)
            clear hw hst ck
            have ck := cell_on HCK.out (HBW.out _ _ _ _ _ HI.out)
            obtain ⟨xs, hx1, hx2⟩ := HI.out.all
            rw [← HM.out] at hx1
            have HX1 := Lib.hid (hx1.later ((Below.refl _ y2).alloc (Nat.le_refl _) (.cells #[.slice ua q uc] 37)))
            have HX2 := Lib.hid hx2
            have hxl : xs.length = m := by have := hx1.1; omega
            have HXL := Lib.hid hxl
            have HDS := Lib.hid HI.out.whole.disk.size
            clear hx1 hx2 hxl
            go_wp2_with (at_builtin; refine wpList_append_W rfl (.tmp 112) (.tmp 117) 22 rfl D 37 i0 (.slice none 0 0) 1 24 Tryd.underlying22 HII.out hz0 hz1 hz2 rfl (.slice aa m cc) m xs rfl HX1.out (.slice (some ⟨y2.heap.size, 0, none⟩) 1 1) 1 [.slice ua q uc] rfl (src_one' y2 _ _ rfl) (by unfold maxLen; omega) (by omega) (by have := HDS.out; simp; omega) ?_; intro v9 y3 hown hgr hlies; obtain ⟨a9, c9, rfl⟩ := hown.sl; have HI := Lib.hid (HI.out.app HM.out rfl HKU.out hown ⟨HXL.out, HX2.out⟩ hgr hlies); clear hown hgr hlies ck; have ck := cell_on HCK.out (HBW.out _ _ _ _ _ HI.out))
            obtain ⟨m2, hm2⟩ : ∃ m2, m2 = m + 1 := ⟨_, rfl⟩
            rw [← hm2] at HI ⊢
            obtain ⟨R2, hR2⟩ : ∃ R2, R2 = R ++ [s] := ⟨_, rfl⟩
            have HM2 := Lib.hid (show m2 = R2.length by rw [hR2, hm2, HM.out, List.length_append]; rfl)
            rw [← hR2] at HI
            obtain ⟨l2, hl2⟩ : ∃ l2, l2 = lf - 8 - q := ⟨_, rfl⟩
            have el2 : (lf : Int) - 8 - (q : Int) = (l2 : Int) := by omega
            have HL2 := Lib.hid (show n - (laidAll firstC R2).length = l2 by rw [hR2, laidAll_append, List.length_append, laidAll, laidAll, List.append_nil, laidR_length, ← HQ.out, hl2, HLF.out]; omega)
            have hm29 : m2 ≤ k + 1 := by omega
            clear hm2 hR2 hl2
            refine (HI.out.whole.disk.look fun S hS => left_look hS (z := (l2 : Int)) (by rw [jd_left, HL2.out])).mono ?_
            rintro _ y4 ⟨rfl, hb⟩
            have HI := Lib.hid (HI.out.later hb)
            clear hb ck
            have ck := cell_on HCK.out (HBW.out _ _ _ _ _ HI.out)
            obtain ⟨ln, hln⟩ : ∃ ln, (laidAll firstC R2).length = ln := ⟨_, rfl⟩
            have HLN := Lib.hid hln
            clear hln
            go_wp2_with fail
            refine (row_jd HI.out.whole.disk (by decide) HLN.out).mono ?_
            rintro _ y5 ⟨a8, c8, rfl, _, hb⟩
            have HI := Lib.hid (HI.out.later hb)
            clear hb ck
            have ck := cell_on HCK.out (HBW.out _ _ _ _ _ HI.out)
            go_wp2_with fail
            refine (end_any (HI.out.parts HD.out) (by rw [HM2.out]; exact Nat.le_refl _) (by omega) (fun r hr => by have := (HI.out.whole.recs r hr).2; omega) (z := ln) (by rw [← HLN.out, endN_all, HM2.out])).mono ?_
            rintro _ y6 ⟨rfl, rfl⟩
            go_wp2_with fail
            go_roundw
            case rel => exact ⟨k + 1, J2, m2, _, _, R2, by omega, by go_num, rfl, rfl, by omega, HM2, HI⟩
            case measure => simp [intOf]; omega
          · have hfI : ¬ ((q : Int) + 8 ≤ (lf : Int)) := by omega
            go_wp2_with fail
            refine (HI.out.whole.full (HKU.out.later (HBW.out _ _ _ _ _ HI.out)) HSR.out.1 HSR.out.2 (fun h9 => hfit (by have := HLF.out; have := HQ.out; omega))).mono ?_
            rintro _ y2 ⟨rfl, hw, hst⟩
            have HI := Lib.hid (HI.out.acted hw hst)
            clear hw hst ck
            have ck := cell_on HCK.out (HBW.out _ _ _ _ _ HI.out)
            go_wp2_with fail
            refine (HI.out.whole.disk.look fun S hS => left_look hS (z := (lf : Int)) (by rw [jd_left, HLF.out.symm])).mono ?_
            rintro _ y3 ⟨rfl, hb⟩
            have HI := Lib.hid (HI.out.later hb)
            clear hb ck
            have ck := cell_on HCK.out (HBW.out _ _ _ _ _ HI.out)
            obtain ⟨ln, hln⟩ : ∃ ln, (laidAll firstC R).length = ln := ⟨_, rfl⟩
            have HLN := Lib.hid hln
            clear hln
            go_wp2_with fail
            refine (row_jd HI.out.whole.disk (by decide) HLN.out).mono ?_
            rintro _ y4 ⟨a8, c8, rfl, _, hb⟩
            have HI := Lib.hid (HI.out.later hb)
            clear hb ck
            have ck := cell_on HCK.out (HBW.out _ _ _ _ _ HI.out)
            go_wp2_with fail
            refine (end_any (HI.out.parts HD.out) (by rw [HM.out]; exact Nat.le_refl _) (by omega) (fun r hr => by have := (HI.out.whole.recs r hr).2; omega) (z := ln) (by rw [← HLN.out, endN_all, HM.out])).mono ?_
            rintro _ y5 ⟨rfl, rfl⟩
            go_wp2_with fail
            go_roundw
            case rel => exact ⟨k + 1, J2, m, _, _, R, by omega, by go_num, rfl, rfl, by omega, HM, HI⟩
            case measure => simp [intOf]; omega
      · have hntI : ¬ ((k : Int) < (nt : Int)) := by omega
        obtain ⟨lf, hlf⟩ : ∃ lf, lf = n - (laidAll firstC R).length := ⟨_, rfl⟩
        have hlfI : (lf : Int) ≤ 4000 := by omega
        have hlfr : lf ≤ 4000 := by omega
        have HLF := Lib.hid hlf
        clear hlf
        go_wp2_with fail
        refine (HI.out.whole.disk.look fun S hS => left_look hS (z := (lf : Int)) (by rw [jd_left, HLF.out])).mono ?_
        rintro _ y1 ⟨rfl, hb⟩
        have HI := Lib.hid (HI.out.later hb)
        clear hb ck
        have ck := cell_on HCK.out (HBW.out _ _ _ _ _ HI.out)
        by_cases hfit : q + 8 ≤ lf
        · have hfI : ((q : Int) + 8 ≤ (lf : Int)) := by omega
          go_wp2_with fail
          refine (HI.out.whole.add (HKU.out.later (HBW.out _ _ _ _ _ HI.out)) HSR.out.1 HSR.out.2 ⟨by rw [← HQ.out, ← HLF.out]; exact hfit, by have := HLF.out; have := HQ.out; omega⟩).mono ?_
          rintro _ y2 ⟨rfl, hw, hst⟩
          have HI := Lib.hid (HI.out.acted hw hst)
          clear hw hst ck
          have ck := cell_on HCK.out (HBW.out _ _ _ _ _ HI.out)
          obtain ⟨xs, hx1, hx2⟩ := HI.out.all
          rw [← HM.out] at hx1
          have HX1 := Lib.hid (hx1.later ((Below.refl _ y2).alloc (Nat.le_refl _) (.cells #[.slice ua q uc] 37)))
          have HX2 := Lib.hid hx2
          have hxl : xs.length = m := by have := hx1.1; omega
          have HXL := Lib.hid hxl
          have HDS := Lib.hid HI.out.whole.disk.size
          clear hx1 hx2 hxl
          go_wp2_with (at_builtin; refine wpList_append_W rfl (.tmp 112) (.tmp 117) 22 rfl D 37 i0 (.slice none 0 0) 1 24 Tryd.underlying22 HII.out hz0 hz1 hz2 rfl (.slice aa m cc) m xs rfl HX1.out (.slice (some ⟨y2.heap.size, 0, none⟩) 1 1) 1 [.slice ua q uc] rfl (src_one' y2 _ _ rfl) (by unfold maxLen; omega) (by omega) (by have := HDS.out; simp; omega) ?_; intro v9 y3 hown hgr hlies; obtain ⟨a9, c9, rfl⟩ := hown.sl; have HI := Lib.hid (HI.out.app HM.out rfl HKU.out hown ⟨HXL.out, HX2.out⟩ hgr hlies); clear hown hgr hlies ck; have ck := cell_on HCK.out (HBW.out _ _ _ _ _ HI.out))
          obtain ⟨m2, hm2⟩ : ∃ m2, m2 = m + 1 := ⟨_, rfl⟩
          rw [← hm2] at HI ⊢
          obtain ⟨R2, hR2⟩ : ∃ R2, R2 = R ++ [s] := ⟨_, rfl⟩
          have HM2 := Lib.hid (show m2 = R2.length by rw [hR2, hm2, HM.out, List.length_append]; rfl)
          rw [← hR2] at HI
          obtain ⟨l2, hl2⟩ : ∃ l2, l2 = lf - 8 - q := ⟨_, rfl⟩
          have el2 : (lf : Int) - 8 - (q : Int) = (l2 : Int) := by omega
          have HL2 := Lib.hid (show n - (laidAll firstC R2).length = l2 by rw [hR2, laidAll_append, List.length_append, laidAll, laidAll, List.append_nil, laidR_length, ← HQ.out, hl2, HLF.out]; omega)
          have hm29 : m2 ≤ k + 1 := by omega
          clear hm2 hR2 hl2
          refine (HI.out.whole.disk.look fun S hS => left_look hS (z := (l2 : Int)) (by rw [jd_left, HL2.out])).mono ?_
          rintro _ y4 ⟨rfl, hb⟩
          have HI := Lib.hid (HI.out.later hb)
          clear hb ck
          have ck := cell_on HCK.out (HBW.out _ _ _ _ _ HI.out)
          obtain ⟨ln, hln⟩ : ∃ ln, (laidAll firstC R2).length = ln := ⟨_, rfl⟩
          have HLN := Lib.hid hln
          clear hln
          go_wp2_with fail
          refine (row_jd HI.out.whole.disk (by decide) HLN.out).mono ?_
          rintro _ y5 ⟨a8, c8, rfl, _, hb⟩
          have HI := Lib.hid (HI.out.later hb)
          clear hb ck
          have ck := cell_on HCK.out (HBW.out _ _ _ _ _ HI.out)
          go_wp2_with fail
          refine (end_any (HI.out.parts HD.out) (by rw [HM2.out]; exact Nat.le_refl _) (by omega) (fun r hr => by have := (HI.out.whole.recs r hr).2; omega) (z := ln) (by rw [← HLN.out, endN_all, HM2.out])).mono ?_
          rintro _ y6 ⟨rfl, rfl⟩
          go_wp2_with fail
          go_roundw
          case rel => exact ⟨k + 1, J2, m2, _, _, R2, by omega, by go_num, rfl, rfl, by omega, HM2, HI⟩
          case measure => simp [intOf]; omega
        · have hfI : ¬ ((q : Int) + 8 ≤ (lf : Int)) := by omega
          go_wp2_with fail
          refine (HI.out.whole.full (HKU.out.later (HBW.out _ _ _ _ _ HI.out)) HSR.out.1 HSR.out.2 (fun h9 => hfit (by have := HLF.out; have := HQ.out; omega))).mono ?_
          rintro _ y2 ⟨rfl, hw, hst⟩
          have HI := Lib.hid (HI.out.acted hw hst)
          clear hw hst ck
          have ck := cell_on HCK.out (HBW.out _ _ _ _ _ HI.out)
          go_wp2_with fail
          refine (HI.out.whole.disk.look fun S hS => left_look hS (z := (lf : Int)) (by rw [jd_left, HLF.out.symm])).mono ?_
          rintro _ y3 ⟨rfl, hb⟩
          have HI := Lib.hid (HI.out.later hb)
          clear hb ck
          have ck := cell_on HCK.out (HBW.out _ _ _ _ _ HI.out)
          obtain ⟨ln, hln⟩ : ∃ ln, (laidAll firstC R).length = ln := ⟨_, rfl⟩
          have HLN := Lib.hid hln
          clear hln
          go_wp2_with fail
          refine (row_jd HI.out.whole.disk (by decide) HLN.out).mono ?_
          rintro _ y4 ⟨a8, c8, rfl, _, hb⟩
          have HI := Lib.hid (HI.out.later hb)
          clear hb ck
          have ck := cell_on HCK.out (HBW.out _ _ _ _ _ HI.out)
          go_wp2_with fail
          refine (end_any (HI.out.parts HD.out) (by rw [HM.out]; exact Nat.le_refl _) (by omega) (fun r hr => by have := (HI.out.whole.recs r hr).2; omega) (z := ln) (by rw [← HLN.out, endN_all, HM.out])).mono ?_
          rintro _ y5 ⟨rfl, rfl⟩
          go_wp2_with fail
          go_roundw
          case rel => exact ⟨k + 1, J2, m, _, _, R, by omega, by go_num, rfl, rfl, by omega, HM, HI⟩
          case measure => simp [intOf]; omega
    · obtain rfl : k = m0 := by omega
      have hltI : ¬ ((k : Int) < (k : Int)) := by omega
      go_wp2_with fail
      refine (alive18 _).mono ?_
      rintro _ y1 ⟨rfl, hb⟩
      have HI := Lib.hid (HI.out.later hb)
      clear hb
      obtain ⟨ln, hln⟩ : ∃ ln, (laidAll firstC R).length = ln := ⟨_, rfl⟩
      have HLN := Lib.hid hln
      clear hln
      go_wp2_with fail
      refine (row_jd HI.out.whole.disk (by decide) HLN.out).mono ?_
      rintro _ y2 ⟨a8, c8, rfl, ho, hb⟩
      have KB := Lib.hid ho.at_
      have HI := Lib.hid (HI.out.later hb)
      clear hb ho
      go_wp2_with fail
      refine (told_yes KB.out (laidAll_bytes _ _ fun r hr => (HI.out.whole.recs r hr).1) HI.out.whole.le (HI.out.parts HD.out) (z := true) (decide_eq_true (told_all fun r hr => (HI.out.whole.recs r hr).2))).mono ?_
      rintro _ y3 ⟨rfl, hb⟩
      have HI := Lib.hid (HI.out.later hb)
      clear hb
      go_wp2_with fail
      go_ret
      exact ⟨rfl, by have := HI.out.below; rwa [HD.out] at this⟩
end Go.Proofs.YtjfejpdeccnlnaaDoor
