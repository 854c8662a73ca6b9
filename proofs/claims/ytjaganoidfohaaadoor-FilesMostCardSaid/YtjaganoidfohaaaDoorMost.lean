/- Layer 17 (files): FilesMost, the walk. -/
import Derived.Test.YtjaganoidfohaaaDoorAliveF
import Derived.Test.YtjaganoidfohaaaDoorDiskOps2
import Derived.Test.YtjaganoidfohaaaDoorMostM
namespace Go.Proofs.YtjaganoidfohaaaDoor
open Go.ChangeShapes Go.WideShapes Go.ChangeAt Go.RowKit

set_option linter.unusedSimpArgs false in
set_option linter.unusedVariables false in
set_option maxRecDepth 20000 in
set_option maxHeartbeats 4000000 in
theorem filesMost_walk (many z0 z1 : Nat) (takes : Bool) (hm : many < 256) (hz0 : z0 < 256) (hz1 : z1 < 256) (w : World) :
    Calls Tryd.prog 8 #[.int .u8 many, .agg #[.int .u8 z0, .int .u8 z1], .bool takes] w fun e w' => e = .returned (.bool true) ∧ Below w.heap.size w w' := by
  go_enter Tryd.func8, Tryd.ntmps8
  go_wp2_with fail
  obtain ⟨w1, e9⟩ : ∃ w1 : World, w1 = w.alloc (.cells #[.int .u8 z0, .int .u8 z1] 60) := ⟨_, rfl⟩
  have hb : Below w.heap.size w w1 := by rw [e9]; exact (Below.refl _ _).alloc (Nat.le_refl _) _
  have h9 : w1.heap[w.heap.size]? = some (.cells #[.int .u8 z0, .int .u8 z1] 60) := by rw [e9]; exact heap_alloc_new _ _
  rw [← e9]
  clear e9
  have B := Lib.hid hb
  have FA := Lib.hid h9
  clear hb h9
  obtain ⟨A, hA⟩ : ∃ A, A = w.heap.size := ⟨_, rfl⟩
  rw [← hA] at FA ⊢
  clear hA
  refine (New_yes 10 w1 (by decide) (by decide)).mono ?_
  rintro _ w2 ⟨rfl, hd, hb⟩
  obtain ⟨C, hC⟩ : ∃ C, C = w1.heap.size := ⟨_, rfl⟩
  have hBC : w.heap.size ≤ C := by rw [hC]; exact B.out.size
  have hAC : A < C := by rw [hC]; exact lt_of_heap FA.out
  rw [← hC] at hd ⊢
  have T := Lib.hid (OneK.new hd)
  clear hd hC
  have FA := Lib.hid (heap_on hb FA.out)
  have B := Lib.hid (below_on B.out hb)
  clear hb
  obtain ⟨n, hn⟩ : ∃ n, n = 1 + many % 80 := ⟨_, rfl⟩
  have hn1 : 1 ≤ n := by omega
  have hn2 : n ≤ 80 := by omega
  have e1 : 1 + (many : Int) % 80 = (n : Int) := by omega
  have HN := Lib.hid hn
  clear hn
  go_wp2_with fail
  go_loopw [10] (fun i wr => ∃ (k : Nat) (M : Dm), k ≤ n ∧ i = .int .i64 k ∧ Hid (Most M k) ∧ Hid (OneK (fun g => g < C) wr C C M) ∧ Hid (wr.heap[A]? = some (.cells #[.int .u8 z0, .int .u8 z1] 60 (0, 0))) ∧ Below w.heap.size w wr) (fun i _ => n - (intOf i).toNat)
  case atStart => exact ⟨0, _, Nat.zero_le _, rfl, Lib.hid Most.zero, T, FA, B.out⟩
  case round =>
    obtain ⟨k, M, hk, rfl, HM, T, FA, hb⟩ := hrel
    have B := Lib.hid hb
    clear hb
    by_cases hlt : k < n
    · obtain ⟨M2, e, hcr, hm2, he0, he6⟩ := HM.out.next (show k < 80 by omega)
      have HCR := Lib.hid hcr
      have HM2 := Lib.hid hm2
      obtain ⟨q, hq⟩ : ∃ q, q = k / 10 := ⟨_, rfl⟩
      obtain ⟨r, hr⟩ : ∃ r, r = k % 10 := ⟨_, rfl⟩
      have hq7 : q ≤ 7 := by omega
      have hr9 : r ≤ 9 := by omega
      have eq : (k : Int) / 10 = (q : Int) := by omega
      have er : (k : Int) % 10 = (r : Int) := by omega
      have hqI : (q : Int) ≤ 7 := by omega
      have hrI : (r : Int) ≤ 9 := by omega
      have HNM := Lib.hid (show nm k = bstr [97 + q, 48 + r] by rw [hq, hr]; rfl)
      have HNS := Lib.hid (show (nm k).size ≤ 140737488355328 from by have := nameOk_size (nm_ok k (by omega)); omega)
      clear hcr hm2 hq hr
      have hcv : ∀ W : World, (convert 35 9 (.slice (some ⟨W.heap.size, 0, none⟩) 2 2)).run Tryd.prog (W.alloc (.cells #[.int .u8 (97 + (q : Int)), .int .u8 (48 + (r : Int))] 5)) = .ok (.string (nm k)) (W.alloc (.cells #[.int .u8 (97 + (q : Int)), .int .u8 (48 + (r : Int))] 5)) := fun W => by
        have h1 := conv_any (kat_lit W [97 + q, 48 + r] 5 (0, 0) (by unfold maxLen; simp))
        have h2 : (cellsK .u8 [97 + q, 48 + r]).toArray = #[.int .u8 (97 + (q : Int)), .int .u8 (48 + (r : Int))] := by simp [cellsK]
        rw [h2] at h1
        rw [HNM.out]
        exact h1
      have eu : (97 + (q : Int)) % 256 = 97 + (q : Int) := by omega
      have ev : (48 + (r : Int)) % 256 = 48 + (r : Int) := by omega
      by_cases h64 : k < 64
      · have e9 := he0 h64
        subst e9
        clear he0 he6
        have h64I : (k : Int) < 64 := by omega
        go_wp2_with fail
        obtain ⟨wx, e9⟩ : ∃ wx : World, wx = wr.alloc (.cells #[.int .u8 (97 + (q : Int)), .int .u8 (48 + (r : Int))] 5) := ⟨_, rfl⟩
        have hb : Below wr.heap.size wr wx := by rw [e9]; exact (Below.refl _ _).alloc (Nat.le_refl _) _
        rw [← e9]
        clear e9 hcv
        have T := Lib.hid (T.out.later hb)
        have FA := Lib.hid (heap_on hb FA.out)
        have B := Lib.hid (below_on B.out hb)
        clear hb
        refine (T.out.act 0 HCR.out rfl fun S hS => Create_any hS (nm k) HNS.out).mono ?_
        rintro _ wy ⟨rfl, ht, hs⟩
        have T := Lib.hid ht
        have FA := Lib.hid (hs.heap (show A < C from hAC) FA.out)
        have B := Lib.hid (B.out.trans (hs.below (base := w.heap.size) (fun g hg => (show g < C by omega))))
        clear ht hs
        go_wp2_with fail
        go_roundw
        case rel => exact ⟨k + 1, M2, by omega, by go_num, HM2, T, FA, B.out⟩
        case measure => simp [intOf]; omega
      · have e9 := he6 (by omega)
        subst e9
        clear he0 he6
        have h64I : ¬ ((k : Int) < 64) := by omega
        go_wp2_with fail
        obtain ⟨wx, e9⟩ : ∃ wx : World, wx = wr.alloc (.cells #[.int .u8 (97 + (q : Int)), .int .u8 (48 + (r : Int))] 5) := ⟨_, rfl⟩
        have hb : Below wr.heap.size wr wx := by rw [e9]; exact (Below.refl _ _).alloc (Nat.le_refl _) _
        rw [← e9]
        clear e9 hcv
        have T := Lib.hid (T.out.later hb)
        have FA := Lib.hid (heap_on hb FA.out)
        have B := Lib.hid (below_on B.out hb)
        clear hb
        refine (T.out.act 6 HCR.out rfl fun S hS => Create_any hS (nm k) HNS.out).mono ?_
        rintro _ wy ⟨rfl, ht, hs⟩
        have T := Lib.hid ht
        have FA := Lib.hid (hs.heap (show A < C from hAC) FA.out)
        have B := Lib.hid (B.out.trans (hs.below (base := w.heap.size) (fun g hg => (show g < C by omega))))
        clear ht hs
        go_wp2_with fail
        go_roundw
        case rel => exact ⟨k + 1, M2, by omega, by go_num, HM2, T, FA, B.out⟩
        case measure => simp [intOf]; omega
    · obtain rfl : k = n := by omega
      have HMK := HM
      obtain ⟨m, hm⟩ : ∃ m, m = min k 64 := ⟨_, rfl⟩
      have hm1 : 1 ≤ m := by omega
      have hm64 : m ≤ 64 := by omega
      have em : min (k : Int) 64 = (m : Int) := by omega
      have hcnt : cnt M.now = m := by rw [HM.out.cnt, hm]
      have HC := Lib.hid hcnt
      have HLEN := Lib.hid (show M.list.length = m by rw [list_cnt, hcnt])
      have hmore : find M.now ⟨#[111, 110, 101, 46, 109, 111, 114, 101]⟩ = none := by
        cases hf : find M.now ⟨#[111, 110, 101, 46, 109, 111, 114, 101]⟩ with
        | none => rfl
        | some j =>
          obtain ⟨f, h1, _⟩ := find_get hf
          obtain ⟨i, hi, he⟩ := HM.out.names j _ h1 (show ⟨#[111, 110, 101, 46, 109, 111, 114, 101]⟩ ≠ noName by decide)
          exact absurd he.symm (nm_more i (by omega))
      have HMORE := Lib.hid hmore
      clear hcnt hm hmore
      go_wp2_with fail
      refine (T.out.look fun S hS => list_look hS rfl HLEN.out).mono ?_
      rintro _ v1 ⟨la, lc, rfl, ho, hb⟩
      have hsat := ho.at_
      have T := Lib.hid (T.out.later hb)
      have FA := Lib.hid (heap_on hb FA.out)
      have B := Lib.hid (below_on B.out hb)
      clear hb ho
      obtain ⟨ao, cap, hsl, hs1, hs2, hs3, hs4⟩ := hsat
      obtain ⟨b, o, hao, hcell⟩ := hs4 (by rw [HLEN.out]; omega)
      simp only [Value.slice.injEq] at hsl
      obtain ⟨hla, hlm, hcap⟩ := hsl
      rw [hao] at hla
      subst hla hcap
      clear hao hlm
      obtain ⟨i0, hi0⟩ : ∃ i, i = z0 % m := ⟨_, rfl⟩
      obtain ⟨i1, hi1⟩ : ∃ i, i = z1 % m := ⟨_, rfl⟩
      have hi0m : i0 < m := by rw [hi0]; exact Nat.mod_lt _ (by omega)
      have hi1m : i1 < m := by rw [hi1]; exact Nat.mod_lt _ (by omega)
      have ei0 : (z0 : Int) % (m : Int) = (i0 : Int) := by rw [hi0]; rfl
      have ei1 : (z1 : Int) % (m : Int) = (i1 : Int) := by rw [hi1]; rfl
      obtain ⟨x, hx⟩ : ∃ x, M.list[i0]? = some x := ⟨_, List.getElem?_eq_getElem (by rw [HLEN.out]; exact hi0m)⟩
      obtain ⟨y, hy⟩ : ∃ y, M.list[i1]? = some y := ⟨_, List.getElem?_eq_getElem (by rw [HLEN.out]; exact hi1m)⟩
      have cx := hcell i0 x hx
      have cy := hcell i1 y hy
      have HX := Lib.hid (List.mem_of_getElem? hx)
      have HY := Lib.hid (List.mem_of_getElem? hy)
      have c0 := cell_of_row v1 A 0 _ _ (0, 0) FA.out
      have c1 := cell_of_row v1 A 1 _ _ (0, 0) FA.out
      have hi0I : (i0 : Int) < (m : Int) := by omega
      have hi1I : (i1 : Int) < (m : Int) := by omega
      have hmI : (m : Int) ≠ 0 := by omega
      have hmI1 : (1 : Int) ≤ (m : Int) := by omega
      have HXN := Lib.hid (list_ok HMK.out.ok HX.out)
      have HYN := Lib.hid (list_ok HMK.out.ok HY.out)
      have HXS := Lib.hid (show x.size ≤ 140737488355328 by have := nameOk_size HXN.out; omega)
      have HYS := Lib.hid (show y.size ≤ 140737488355328 by have := nameOk_size HYN.out; omega)
      obtain ⟨M1, hr1, ok1, cn1, fx1, keep1, none1⟩ := remove_cnt HMK.out.ok HX.out
      rw [HC.out] at cn1
      have HR1 := Lib.hid hr1
      have OK1 := Lib.hid ok1
      have CN1 := Lib.hid cn1
      have FX1 := Lib.hid fx1
      have K1 := Lib.hid keep1
      have N1 := Lib.hid (none1 ⟨#[111, 110, 101, 46, 109, 111, 114, 101]⟩ (by decide) HMORE.out)
      have KY := Lib.hid (keep1 y)
      clear hx hy hcell hi0 hi1 hr1 ok1 cn1 fx1 keep1 none1 hs1 hs2 hs3 hs4
      go_wp2_with fail
      refine (T.out.act 0 HR1.out rfl fun S hS => Remove_any hS x HXS.out).mono ?_
      rintro _ w3 ⟨rfl, ht, hs⟩
      have T := Lib.hid ht
      have B := Lib.hid (B.out.trans (hs.below (base := w.heap.size) (fun g hg => (show g < C by omega))))
      clear ht hs
      clear c0 c1 cx cy FA ei0 ei1
      obtain ⟨m1, hm1e⟩ : ∃ m1, m1 + 1 = m := ⟨m - 1, by omega⟩
      have em1 : (m : Int) - 1 = (m1 : Int) := by omega
      have hm1l : (m1 : Int) < 64 := by omega
      obtain ⟨M9, hr9, _⟩ := create_cnt OK1.out (s := ⟨#[111, 110, 101, 46, 109, 111, 114, 101]⟩) (by decide) N1.out (by have := CN1.out; omega)
      have HR9 := Lib.hid hr9
      have HL1 := Lib.hid (show M1.list.length = m1 by rw [list_cnt]; have := CN1.out; omega)
      clear hr9
      cases takes with
      | false =>
        go_wp2_with fail
        refine (T.out.look fun S hS => list_look hS rfl HL1.out).mono ?_
        rintro _ w4 ⟨la9, lc9, rfl, _, hb⟩
        have T := Lib.hid (T.out.later hb)
        have B := Lib.hid (below_on B.out hb)
        clear hb
        go_wp2_with fail
        refine (T.out.act 0 HR9.out rfl fun S hS => Create_any hS ⟨#[111, 110, 101, 46, 109, 111, 114, 101]⟩ (by decide)).mono ?_
        rintro _ w5 ⟨rfl, ht, hs⟩
        have T := Lib.hid ht
        have B := Lib.hid (B.out.trans (hs.below (base := w.heap.size) (fun g hg => (show g < C by omega))))
        clear ht hs
        go_wp2_with fail
        refine (alive17 _).mono ?_
        rintro _ w6 ⟨rfl, hb⟩
        have B := Lib.hid (below_on B.out hb)
        clear hb
        go_wp2_with fail
        go_ret
        first | exact ⟨rfl, B.out⟩ | exact ⟨by simp; omega, B.out⟩
      | true =>
        obtain ⟨M2, hr2, ok2, cn2, fx2, keep2, none2⟩ := create_cnt OK1.out HXN.out FX1.out (by have := CN1.out; omega)
        have cn2m : cnt M2.now = m := by have := CN1.out; omega
        have HR2 := Lib.hid hr2
        have OK2 := Lib.hid ok2
        have CN2 := Lib.hid cn2m
        have hxm : ⟨#[111, 110, 101, 46, 109, 111, 114, 101]⟩ ≠ x := fun e => by
          obtain ⟨i, k9, hf9, _⟩ := list_find HMK.out.ok HX.out
          rw [← e, HMORE.out] at hf9
          cases hf9
        have N2 := Lib.hid (none2 ⟨#[111, 110, 101, 46, 109, 111, 114, 101]⟩ hxm (by decide) N1.out)
        have FX2 := Lib.hid fx2
        have K2 := Lib.hid (keep2 y)
        have HL2 := Lib.hid (show M2.list.length = m by rw [list_cnt, cn2m])
        clear hr2 ok2 cn2 cn2m fx2 keep2 none2
        by_cases hxy : x = y
        · subst hxy
          have HRN := Lib.hid (show M2.rename x x = (M2, 0) by obtain ⟨i, hi⟩ := FX2.out; simp [Dm.rename, HXN.out, Dm.at, hi])
          by_cases hfull : m = 64
          · have hfr : M2.create ⟨#[111, 110, 101, 46, 109, 111, 114, 101]⟩ = (M2, 6) := by
              have hn := spot_none_full OK2.out (by rw [CN2.out, hfull])
              unfold Dm.create
              rw [if_pos (by decide), N2.out, hn]
            have HFR := Lib.hid hfr
            have hmI9 : ¬ ((m : Int) < 64) := by omega
            clear hfr hfull
            go_wp2_with fail
            refine (T.out.act 0 HR2.out rfl fun S hS => Create_any hS x HXS.out).mono ?_
            rintro _ w7 ⟨rfl, ht, hs⟩
            have T := Lib.hid ht
            have B := Lib.hid (B.out.trans (hs.below (base := w.heap.size) (fun g hg => (show g < C by omega))))
            clear ht hs
            go_wp2_with fail
            refine (T.out.act 0 HRN.out rfl fun S hS => Rename_any hS x x HXS.out HXS.out).mono ?_
            rintro _ w8 ⟨rfl, ht, hs⟩
            have T := Lib.hid ht
            have B := Lib.hid (B.out.trans (hs.below (base := w.heap.size) (fun g hg => (show g < C by omega))))
            clear ht hs
            go_wp2_with fail
            refine (T.out.look fun S hS => list_look hS rfl HL2.out).mono ?_
            rintro _ w9 ⟨la9, lc9, rfl, _, hb⟩
            have T := Lib.hid (T.out.later hb)
            have B := Lib.hid (below_on B.out hb)
            clear hb
            go_wp2_with fail
            refine (T.out.act 6 HFR.out rfl fun S hS => Create_any hS ⟨#[111, 110, 101, 46, 109, 111, 114, 101]⟩ (by decide)).mono ?_
            rintro _ w10 ⟨rfl, ht, hs⟩
            have T := Lib.hid ht
            have B := Lib.hid (B.out.trans (hs.below (base := w.heap.size) (fun g hg => (show g < C by omega))))
            clear ht hs
            go_wp2_with fail
            refine (alive17 _).mono ?_
            rintro _ w11 ⟨rfl, hb⟩
            have B := Lib.hid (below_on B.out hb)
            clear hb
            go_wp2_with fail
            go_ret
            first | exact ⟨rfl, B.out⟩ | exact ⟨by simp; omega, B.out⟩
          · obtain ⟨M8, hr8, _⟩ := create_cnt OK2.out (s := ⟨#[111, 110, 101, 46, 109, 111, 114, 101]⟩) (by decide) N2.out (by have := CN2.out; omega)
            have HFR := Lib.hid hr8
            have hmI9 : (m : Int) < 64 := by omega
            clear hr8 hfull
            go_wp2_with fail
            refine (T.out.act 0 HR2.out rfl fun S hS => Create_any hS x HXS.out).mono ?_
            rintro _ w12 ⟨rfl, ht, hs⟩
            have T := Lib.hid ht
            have B := Lib.hid (B.out.trans (hs.below (base := w.heap.size) (fun g hg => (show g < C by omega))))
            clear ht hs
            go_wp2_with fail
            refine (T.out.act 0 HRN.out rfl fun S hS => Rename_any hS x x HXS.out HXS.out).mono ?_
            rintro _ w13 ⟨rfl, ht, hs⟩
            have T := Lib.hid ht
            have B := Lib.hid (B.out.trans (hs.below (base := w.heap.size) (fun g hg => (show g < C by omega))))
            clear ht hs
            go_wp2_with fail
            refine (T.out.look fun S hS => list_look hS rfl HL2.out).mono ?_
            rintro _ w14 ⟨la9, lc9, rfl, _, hb⟩
            have T := Lib.hid (T.out.later hb)
            have B := Lib.hid (below_on B.out hb)
            clear hb
            go_wp2_with fail
            refine (T.out.act 0 HFR.out rfl fun S hS => Create_any hS ⟨#[111, 110, 101, 46, 109, 111, 114, 101]⟩ (by decide)).mono ?_
            rintro _ w15 ⟨rfl, ht, hs⟩
            have T := Lib.hid ht
            have B := Lib.hid (B.out.trans (hs.below (base := w.heap.size) (fun g hg => (show g < C by omega))))
            clear ht hs
            go_wp2_with fail
            refine (alive17 _).mono ?_
            rintro _ w16 ⟨rfl, hb⟩
            have B := Lib.hid (below_on B.out hb)
            clear hb
            go_wp2_with fail
            go_ret
            first | exact ⟨rfl, B.out⟩ | exact ⟨by simp; omega, B.out⟩
        · have hne := str_ne hxy
          obtain ⟨iy, ky, hfy, _⟩ := list_find HMK.out.ok HY.out
          have hy1 := KY.out (fun e => hxy e.symm) (nameOk_ne HYN.out) iy hfy
          have hy2 := K2.out (fun e => hxy e.symm) (nameOk_ne HYN.out) iy hy1
          obtain ⟨ix, hix⟩ := FX2.out
          obtain ⟨M3, hr3, ok3, cn3, none3⟩ := rename_cnt OK2.out HXN.out HYN.out hix hxy
          rw [hy2] at cn3
          have cn3m : cnt M3.now = m1 := by have := CN2.out; simp at cn3; omega
          have hym : ⟨#[111, 110, 101, 46, 109, 111, 114, 101]⟩ ≠ y := fun e => by
            rw [← e, HMORE.out] at hfy
            cases hfy
          obtain ⟨M8, hr8, _⟩ := create_cnt ok3 (s := ⟨#[111, 110, 101, 46, 109, 111, 114, 101]⟩) (by decide) (none3 ⟨#[111, 110, 101, 46, 109, 111, 114, 101]⟩ hym (by decide) N2.out) (by omega)
          have HR3 := Lib.hid hr3
          have HFR := Lib.hid hr8
          have HL3 := Lib.hid (show M3.list.length = m1 by rw [list_cnt, cn3m])
          clear hr3 ok3 cn3 none3 hr8 cn3m hfy hy1 hy2 hix hxy
          go_wp2_with fail
          refine (T.out.act 0 HR2.out rfl fun S hS => Create_any hS x HXS.out).mono ?_
          rintro _ w17 ⟨rfl, ht, hs⟩
          have T := Lib.hid ht
          have B := Lib.hid (B.out.trans (hs.below (base := w.heap.size) (fun g hg => (show g < C by omega))))
          clear ht hs
          go_wp2_with fail
          refine (T.out.act 0 HR3.out rfl fun S hS => Rename_any hS x y HXS.out HYS.out).mono ?_
          rintro _ w18 ⟨rfl, ht, hs⟩
          have T := Lib.hid ht
          have B := Lib.hid (B.out.trans (hs.below (base := w.heap.size) (fun g hg => (show g < C by omega))))
          clear ht hs
          go_wp2_with fail
          refine (T.out.look fun S hS => list_look hS rfl HL3.out).mono ?_
          rintro _ w19 ⟨la9, lc9, rfl, _, hb⟩
          have T := Lib.hid (T.out.later hb)
          have B := Lib.hid (below_on B.out hb)
          clear hb
          go_wp2_with fail
          refine (T.out.act 0 HFR.out rfl fun S hS => Create_any hS ⟨#[111, 110, 101, 46, 109, 111, 114, 101]⟩ (by decide)).mono ?_
          rintro _ w20 ⟨rfl, ht, hs⟩
          have T := Lib.hid ht
          have B := Lib.hid (B.out.trans (hs.below (base := w.heap.size) (fun g hg => (show g < C by omega))))
          clear ht hs
          go_wp2_with fail
          refine (alive17 _).mono ?_
          rintro _ w21 ⟨rfl, hb⟩
          have B := Lib.hid (below_on B.out hb)
          clear hb
          go_wp2_with fail
          go_ret
          first | exact ⟨rfl, B.out⟩ | exact ⟨by simp; omega, B.out⟩
end Go.Proofs.YtjaganoidfohaaaDoor
