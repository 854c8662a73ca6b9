/- Layer 18 (journals): JournalsLook, the walk. -/
import Derived.Test.YtjfejpdeccnlnaaDoorJlook0
namespace Go.Proofs.YtjfejpdeccnlnaaDoor
open Go.ChangeShapes Go.WideShapes Go.ChangeAt Go.RowKit

theorem same_yes {a : List Nat} {u v : Value} (w : World) (hu : KAt .u8 w u a) (hv : KAt .u8 w v a) :
    Calls Tryd.prog 32 #[u, v] w fun e w' => e = .returned (.bool true) ∧ Below w.heap.size w w' := by
  refine (same_any w hu hv).mono ?_
  rintro e w' ⟨h1, n, rfl⟩
  exact ⟨by rw [h1]; simp, below_drewN9 w n⟩
set_option linter.unusedSimpArgs false in
set_option linter.unusedVariables false in
set_option maxRecDepth 20000 in
set_option maxHeartbeats 8000000 in
theorem journalsLook_great0 (v0 : Value) (L : List (List Nat)) (s : ByteArray) (z : Nat) (hz : z < 256) (w : World) (hv0 : PartsAt w v0 L) (hb0 : ∀ r ∈ L, Bytes r) (hl0 : L.length ≤ 140737488351232) (hz0 : ∀ r ∈ L, r.length ≤ 140737488351232) (hsz0 : s.size ≤ 140737488351232) (hs0 : manyB L = true) :
    Calls Tryd.prog 8 #[v0, .string s, .int .u8 z] w fun e w' => e = .returned (.bool true) ∧ Below w.heap.size w w' := by
  have hv9 := hv0
  obtain ⟨ao0, cap0, rfl, hca0, hcb0, _, _⟩ := hv9
  obtain ⟨m0, hm⟩ : ∃ m, m = L.length := ⟨_, rfl⟩
  have HM0 := Lib.hid hm
  have PL0 := Lib.hid hv0
  rw [← hm] at PL0 hca0 ⊢
  have H80 := Lib.hid hb0
  unfold maxLen at hcb0
  clear hv0 hb0 hm
  have HZ0 := Lib.hid hz0
  have HL0 := Lib.hid hl0
  have hzI : (z : Int) < 256 := by omega
  obtain ⟨ns, hns⟩ : ∃ n, n = s.size := ⟨_, rfl⟩
  have HNS := Lib.hid hns
  have hnsI : (ns : Int) ≤ 140737488351232 := by omega
  have HMB0 := Lib.hid hs0
  clear hs0 hns
  have B := Lib.hid (Below.refl w.heap.size w)
  go_enter Tryd.func8, Tryd.ntmps8
  go_wp2_with fail
  refine (many_is w PL0.out (fun s hs => by have := HZ0.out s hs; omega) (by have := HL0.out; omega) HMB0.out).mono ?_
  rintro _ w1 ⟨rfl, hb⟩
  have B := Lib.hid (below_on B.out hb)
  clear hb
  go_wp2_with fail
  refine (alive18 _).mono ?_
  rintro _ w2 ⟨rfl, hb⟩
  have B := Lib.hid (below_on B.out hb)
  clear hb
  go_wp2_with fail
  go_ret
  exact ⟨rfl, B.out⟩
set_option linter.unusedSimpArgs false in
set_option linter.unusedVariables false in
set_option maxRecDepth 20000 in
set_option maxHeartbeats 8000000 in
theorem journalsLook_great1 (v0 : Value) (L : List (List Nat)) (s : ByteArray) (z : Nat) (hz : z < 256) (w : World) (hv0 : PartsAt w v0 L) (hb0 : ∀ r ∈ L, Bytes r) (hl0 : L.length ≤ 140737488351232) (hz0 : ∀ r ∈ L, r.length ≤ 140737488351232) (hsz0 : s.size ≤ 140737488351232) (hs0 : manyB L = false) (hgn : 1000 < s.size) :
    Calls Tryd.prog 8 #[v0, .string s, .int .u8 z] w fun e w' => e = .returned (.bool true) ∧ Below w.heap.size w w' := by
  have hv9 := hv0
  obtain ⟨ao0, cap0, rfl, hca0, hcb0, _, _⟩ := hv9
  obtain ⟨m0, hm⟩ : ∃ m, m = L.length := ⟨_, rfl⟩
  have HM0 := Lib.hid hm
  have PL0 := Lib.hid hv0
  rw [← hm] at PL0 hca0 ⊢
  have H80 := Lib.hid hb0
  unfold maxLen at hcb0
  clear hv0 hb0 hm
  have HZ0 := Lib.hid hz0
  have HL0 := Lib.hid hl0
  have hzI : (z : Int) < 256 := by omega
  obtain ⟨ns, hns⟩ : ∃ n, n = s.size := ⟨_, rfl⟩
  have HNS := Lib.hid hns
  have hnsI : (ns : Int) ≤ 140737488351232 := by omega
  have HMB0 := Lib.hid hs0
  have hnI : (1000 : Int) < (ns : Int) := by omega
  clear hs0
  have hsz : (s.size : Int) = (ns : Int) := by rw [hns]
  clear hns
  have B := Lib.hid (Below.refl w.heap.size w)
  go_enter Tryd.func8, Tryd.ntmps8
  go_wp2_with fail
  refine (many_is w PL0.out (fun s hs => by have := HZ0.out s hs; omega) (by have := HL0.out; omega) HMB0.out).mono ?_
  rintro _ w1 ⟨rfl, hb⟩
  have B := Lib.hid (below_on B.out hb)
  clear hb
  go_wp2_with fail
  refine (alive18 _).mono ?_
  rintro _ w2 ⟨rfl, hb⟩
  have B := Lib.hid (below_on B.out hb)
  clear hb
  go_wp2_with fail
  go_ret
  exact ⟨rfl, B.out⟩
set_option linter.unusedSimpArgs false in
set_option linter.unusedVariables false in
set_option maxRecDepth 20000 in
set_option maxHeartbeats 8000000 in
theorem journalsLook_small (v0 : Value) (L : List (List Nat)) (s : ByteArray) (z : Nat) (hz : z < 256) (w : World) (hv0 : PartsAt w v0 L) (hb0 : ∀ r ∈ L, Bytes r) (hl0 : L.length ≤ 140737488351232) (hz0 : ∀ r ∈ L, r.length ≤ 140737488351232) (hsz0 : s.size ≤ 140737488351232) (hs0 : manyB L = false) (hgn : s.size ≤ 1000) :
    Calls Tryd.prog 8 #[v0, .string s, .int .u8 z] w fun e w' => e = .returned (.bool true) ∧ Below w.heap.size w w' := by
  have hv9 := hv0
  obtain ⟨ao0, cap0, rfl, hca0, hcb0, _, _⟩ := hv9
  obtain ⟨m0, hm⟩ : ∃ m, m = L.length := ⟨_, rfl⟩
  have HM0 := Lib.hid hm
  have PL0 := Lib.hid hv0
  rw [← hm] at PL0 hca0 ⊢
  have H80 := Lib.hid hb0
  unfold maxLen at hcb0
  clear hv0 hb0 hm
  have HZ0 := Lib.hid hz0
  have HL0 := Lib.hid hl0
  have hzI : (z : Int) < 256 := by omega
  obtain ⟨ns, hns⟩ : ∃ n, n = s.size := ⟨_, rfl⟩
  have HNS := Lib.hid hns
  have hnsI : (ns : Int) ≤ 140737488351232 := by omega
  have SM0 := Lib.hid (small_of hs0)
  have hm0 : m0 ≤ 40 := by rw [HM0.out]; exact SM0.out.many
  have hm0I : (m0 : Int) ≤ 40 := by omega
  have HR0 := Lib.hid (show ∀ r ∈ L, Bytes r ∧ r.length ≤ 65536 from fun r hr => ⟨H80.out r hr, by have := SM0.out.each r hr; omega⟩)
  have HMB0 := Lib.hid hs0
  clear hs0
  obtain ⟨q0, hq⟩ : ∃ q, q = (laidAll firstC L).length := ⟨_, rfl⟩
  have HQ0 := Lib.hid hq.symm
  have hq0 : q0 ≤ 40320 := by rw [hq]; exact SM0.out.all _
  have HE0 := Lib.hid (show endN L m0 = q0 by rw [hq, endN_all L firstC, HM0.out])
  clear hq
  have hnI : ¬ ((1000 : Int) < (ns : Int)) := by omega
  have hsz : (s.size : Int) = (ns : Int) := by rw [hns]
  clear hns
  obtain ⟨ct, hct⟩ : ∃ c, c = z % 70 := ⟨_, rfl⟩
  have ect : (z : Int) % 70 = (ct : Int) := by omega
  have hct9 : ct < 70 := by omega
  clear hct
  have B := Lib.hid (Below.refl w.heap.size w)
  go_enter Tryd.func8, Tryd.ntmps8
  go_wp2_with fail
  refine (many_is w PL0.out (fun s hs => by have := HZ0.out s hs; omega) (by have := HL0.out; omega) HMB0.out).mono ?_
  rintro _ w1 ⟨rfl, hb⟩
  have B := Lib.hid (below_on B.out hb)
  clear hb
  go_wp2_with fail
  refine (kept_any 1000000 (by decide) (by decide) (PL0.out.later B.out) HR0.out (by rw [HQ0.out]; omega)).mono ?_
  rintro _ w2 ⟨D, rfl, ht, hb, hD⟩
  have T := Lib.hid (ht.lessC (K' := fun g => g < w.heap.size) fun g hg => Nat.lt_of_lt_of_le hg B.out.size)
  obtain ⟨bs, hbs⟩ : ∃ b, b = w1.heap.size := ⟨_, rfl⟩
  rw [← hbs, ← lk_zero] at T
  clear ht hD hbs
  have B := Lib.hid (below_on B.out hb)
  clear hb
  obtain ⟨bl, hbl⟩ : ∃ b, b = laidAll firstC L := ⟨_, rfl⟩
  rw [← hbl] at T HQ0
  have HBL := Lib.hid hbl
  clear hbl
  go_wp2_with fail
  go_loopw [9, 10] (fun n i wr => ∃ j c : Nat, j ≤ ct ∧ i = .int .i64 j ∧ n = .int .i64 ((c : Int) + 1) ∧ c ≤ 63 ∧ (j ≤ 63 → c = j) ∧ (63 ≤ j → c = 63) ∧ Hid (OneK (fun g => g < w.heap.size) wr bs D (lk bl c)) ∧ Hid (Below w.heap.size w wr)) (fun _ i _ => ct - (intOf i).toNat)
  case atStart => exact ⟨0, 0, Nat.zero_le _, rfl, rfl, by omega, by omega, by omega, T, B⟩
  case round =>
    obtain ⟨j, c, hj, rfl, rfl, hc, hc1, hc2, T, B⟩ := hrel
    by_cases hlt : j < ct
    · have hltI : (j : Int) < (ct : Int) := by omega
      obtain ⟨x1, hx1⟩ : ∃ x, x = 48 + j / 10 := ⟨_, rfl⟩
      obtain ⟨x2, hx2⟩ : ∃ x, x = 48 + j % 10 := ⟨_, rfl⟩
      have ex1 : (48 : Int) + (j : Int) / 10 = (x1 : Int) := by omega
      have ex2 : (48 : Int) + (j : Int) % 10 = (x2 : Int) := by omega
      have hx1I : (x1 : Int) ≤ 54 := by omega
      have hx2I : (x2 : Int) ≤ 57 := by omega
      obtain ⟨sn, hsn⟩ : ∃ s, s = nm j := ⟨_, rfl⟩
      have HSN := Lib.hid hsn
      have hcv : (convert 37 9 (.slice (some ⟨wr.heap.size, 0, none⟩) 3 3)).run Tryd.prog (wr.alloc (.cells #[.int .u8 110, .int .u8 x1, .int .u8 x2] 5)) = .ok (.string sn) (wr.alloc (.cells #[.int .u8 110, .int .u8 x1, .int .u8 x2] 5)) := by rw [show sn = bstr [110, x1, x2] by rw [hsn, hx1, hx2]; rfl]; exact conv_any (kat_lit wr [110, x1, x2] 5 (0, 0) (by unfold maxLen; simp))
      clear hx1 hx2 hsn
      go_wp2_with fail
      obtain ⟨wq, eq9⟩ : ∃ wq : World, wq = wr.alloc (.cells #[.int .u8 110, .int .u8 x1, .int .u8 x2] 5) := ⟨_, rfl⟩
      have hb : Below wr.heap.size wr wq := by rw [eq9]; exact (Below.refl _ _).alloc (Nat.le_refl _) _
      rw [← eq9]
      have T := Lib.hid (T.out.later hb)
      have B := Lib.hid (below_on B.out hb)
      clear hb eq9 hcv
      by_cases h63 : j < 63
      · obtain rfl : c = j := hc1 (by omega)
        refine (T.out.act 0 (by rw [HSN.out]; exact lk_step h63) rfl fun S hS => Create_any hS sn (by rw [HSN.out]; exact nameOk_le (nm_ok _ (by omega)))).mono ?_
        rintro _ y1 ⟨rfl, ht, hst⟩
        have T := Lib.hid ht
        have B := Lib.hid (B.out.trans (hst.below (base := w.heap.size) fun g hg => hg))
        clear ht hst
        go_wp2_with fail
        go_roundw
        case rel => exact ⟨c + 1, c + 1, by omega, by go_num, by go_num, by omega, by omega, by omega, T, B⟩
        case measure => simp [intOf]; omega
      · obtain rfl : c = 63 := hc2 (by omega)
        refine (T.out.act 6 (by rw [HSN.out]; exact lk_stop (by omega) (by omega)) rfl fun S hS => Create_any hS sn (by rw [HSN.out]; exact nameOk_le (nm_ok _ (by omega)))).mono ?_
        rintro _ y1 ⟨rfl, ht, hst⟩
        have T := Lib.hid ht
        have B := Lib.hid (B.out.trans (hst.below (base := w.heap.size) fun g hg => hg))
        clear ht hst
        go_wp2_with fail
        go_roundw
        case rel => exact ⟨j + 1, 63, by omega, by go_num, by go_num, by omega, by omega, by omega, T, B⟩
        case measure => simp [intOf]; omega
    · obtain rfl : j = ct := by omega
      have hltI : ¬ ((j : Int) < (j : Int)) := by omega
      clear hc1 hc2
      have hcI : (c : Int) ≤ 63 := by omega
      go_wp2_with fail
      refine (T.out.look fun S hS => row_any hS jn (by decide) lk_j.2.2).mono ?_
      rw [HQ0.out]
      rintro _ y2 ⟨a8, c8, rfl, ho, hb⟩
      have KW := Lib.hid ho.at_
      have HOL := Lib.hid ho.lt
      have T := Lib.hid ((T.out.grow (Chg.of_below hb (fun _ => False)) (fun g hg => hg.elim)).lessC (K' := fun g => g < w.heap.size ∨ (wr.heap.size ≤ g ∧ g < y2.heap.size)) fun g hg => hg)
      have HWS := Lib.hid B.out.size
      clear ho
      have B := Lib.hid (below_on B.out hb)
      clear hb
      have hst9 := lk_ways hc T.out.ok s
      have HSS := Lib.hid (show s.size ≤ 140737488355328 by have := HNS.out; omega)
      rcases hst9 with ⟨hok, hse⟩ | ⟨hok, hne, hfn, hse⟩ | hsj | ⟨hne, hse, hrd⟩
      · have HSE := Lib.hid hse
        clear hse
        go_wp2_with fail
        have hsz9 := T.out.look fun S hS => Size_any hS s HSS.out
        rw [HSE.out] at hsz9
        refine hsz9.mono ?_
        rintro _ y3 ⟨rfl, hb⟩
        have T := Lib.hid (T.out.later hb)
        have KW := Lib.hid (KW.out.later hb)
        have B := Lib.hid (below_on B.out hb)
        clear hb hsz9
        go_wp2_with fail
        refine (Open_no T.out HSS.out HSE.out (by decide)).mono ?_
        rintro _ y4 ⟨rfl, hb⟩
        have T := Lib.hid (T.out.later hb)
        have KW := Lib.hid (KW.out.later hb)
        have B := Lib.hid (below_on B.out hb)
        clear hb
        go_wp2_with fail
        refine (T.out.look fun S hS => list_look hS rfl (n := c + 1) lk_list).mono ?_
        rintro _ v1 ⟨la1, lc1, rfl, _, hb⟩
        have T := Lib.hid (T.out.later hb)
        have KW := Lib.hid (KW.out.later hb)
        have B := Lib.hid (below_on B.out hb)
        clear hb
        go_wp2_with fail
        have hr9 := T.out.look fun S hS => row_any hS jn (by decide) lk_j.2.2
        rw [HQ0.out] at hr9
        refine hr9.mono ?_
        rintro _ v2 ⟨ra2, rc2, rfl, ho, hb⟩
        have KR := Lib.hid ho.at_
        clear ho hr9
        have T := Lib.hid (T.out.later hb)
        have KW := Lib.hid (KW.out.later hb)
        have B := Lib.hid (below_on B.out hb)
        clear hb
        go_wp2_with fail
        refine (same_yes v2 KR.out KW.out).mono ?_
        rintro _ v3 ⟨rfl, hb⟩
        clear KR
        have T := Lib.hid (T.out.later hb)
        have KW := Lib.hid (KW.out.later hb)
        have B := Lib.hid (below_on B.out hb)
        clear hb
        go_wp2_with fail
        refine (alive18 _).mono ?_
        rintro _ v4 ⟨rfl, hb⟩
        have T := Lib.hid (T.out.later hb)
        have KW := Lib.hid (KW.out.later hb)
        have B := Lib.hid (below_on B.out hb)
        clear hb
        go_wp2_with fail
        refine (T.out.look fun S hS => list_look hS rfl (n := c + 1) lk_list).mono ?_
        rintro _ v5 ⟨la5, lc5, rfl, _, hb⟩
        have T := Lib.hid (T.out.later hb)
        have KW := Lib.hid (KW.out.later hb)
        have B := Lib.hid (below_on B.out hb)
        clear hb
        go_wp2_with fail
        all_goals (go_ret; exact ⟨rfl, B.out⟩)
      · have HSE := Lib.hid hse
        have HFN := Lib.hid hfn
        have hnj := str_ne hne
        clear hse hfn
        go_wp2_with fail
        have hsz9 := T.out.look fun S hS => Size_any hS s HSS.out
        rw [HSE.out] at hsz9
        refine hsz9.mono ?_
        rintro _ y3 ⟨rfl, hb⟩
        have T := Lib.hid (T.out.later hb)
        have KW := Lib.hid (KW.out.later hb)
        have B := Lib.hid (below_on B.out hb)
        clear hb hsz9
        by_cases hc63 : c < 63
        · have hcI2 : (c : Int) < 63 := by omega
          have HCR := Lib.hid (lk_create hc63 hok HFN.out)
          go_wp2_with fail
          have hop := Open_made T.out s HSS.out HSE.out HCR.out (lk1_read (l := bl) (c := c) (s := s))
          rw [recs_nil] at hop
          refine hop.mono ?_
          rintro _ y4 ⟨Jb, a3, c3, rfl, _, _, ht, hst, _⟩
          have T := Lib.hid (ht.lessC (K' := fun g => g < w.heap.size ∨ (wr.heap.size ≤ g ∧ g < y2.heap.size)) fun g hg => .inl hg)
          clear ht hop
          have KW := Lib.hid (KW.out.block fun g hg => hst.block g (.inr (HOL.out g hg)))
          have B := Lib.hid (B.out.trans (hst.below (base := w.heap.size) fun g hg => .inl hg))
          clear hst
          have hcw : ¬ ((c : Int) + 1 = 64) := by omega
          have hcb : ((c : Int) + 1 == 64) = false := by simp; omega
          go_wp2_with fail
          refine (T.out.look fun S hS => list_look hS rfl (n := c + 2) lk1_list).mono ?_
          rintro _ v6 ⟨la6, lc6, rfl, _, hb⟩
          have T := Lib.hid (T.out.later hb)
          have KW := Lib.hid (KW.out.later hb)
          have B := Lib.hid (below_on B.out hb)
          clear hb
          go_wp2_with fail
          have hr9 := T.out.look fun S hS => row_any hS jn (by decide) lk1_j
          rw [HQ0.out] at hr9
          refine hr9.mono ?_
          rintro _ v7 ⟨ra7, rc7, rfl, ho, hb⟩
          have KR := Lib.hid ho.at_
          clear ho hr9
          have T := Lib.hid (T.out.later hb)
          have KW := Lib.hid (KW.out.later hb)
          have B := Lib.hid (below_on B.out hb)
          clear hb
          go_wp2_with fail
          refine (same_yes v7 KR.out KW.out).mono ?_
          rintro _ v8 ⟨rfl, hb⟩
          clear KR
          have T := Lib.hid (T.out.later hb)
          have KW := Lib.hid (KW.out.later hb)
          have B := Lib.hid (below_on B.out hb)
          clear hb
          go_wp2_with fail
          refine (alive18 _).mono ?_
          rintro _ v9 ⟨rfl, hb⟩
          have T := Lib.hid (T.out.later hb)
          have KW := Lib.hid (KW.out.later hb)
          have B := Lib.hid (below_on B.out hb)
          clear hb
          go_wp2_with fail
          refine (T.out.look fun S hS => list_look hS rfl (n := c + 2) lk1_list).mono ?_
          rintro _ v10 ⟨la10, lc10, rfl, _, hb⟩
          have T := Lib.hid (T.out.later hb)
          have KW := Lib.hid (KW.out.later hb)
          have B := Lib.hid (below_on B.out hb)
          clear hb
          go_wp2_with fail
          all_goals (go_ret; exact ⟨rfl, B.out⟩)
        · obtain rfl : c = 63 := by omega
          have HCR := Lib.hid (lk_full (l := bl) hok HFN.out)
          go_wp2_with fail
          refine (Open_full T.out HSS.out HSE.out HCR.out (by decide)).mono ?_
          rintro _ y4 ⟨rfl, ht, hst⟩
          have T := Lib.hid ht
          clear ht
          have KW := Lib.hid (KW.out.block fun g hg => hst.block g (.inr (HOL.out g hg)))
          have B := Lib.hid (B.out.trans (hst.below (base := w.heap.size) fun g hg => .inl hg))
          clear hst
          go_wp2_with fail
          refine (T.out.look fun S hS => list_look hS rfl (n := 63 + 1) lk_list).mono ?_
          rintro _ v11 ⟨la11, lc11, rfl, _, hb⟩
          have T := Lib.hid (T.out.later hb)
          have KW := Lib.hid (KW.out.later hb)
          have B := Lib.hid (below_on B.out hb)
          clear hb
          go_wp2_with fail
          have hr9 := T.out.look fun S hS => row_any hS jn (by decide) lk_j.2.2
          rw [HQ0.out] at hr9
          refine hr9.mono ?_
          rintro _ v12 ⟨ra12, rc12, rfl, ho, hb⟩
          have KR := Lib.hid ho.at_
          clear ho hr9
          have T := Lib.hid (T.out.later hb)
          have KW := Lib.hid (KW.out.later hb)
          have B := Lib.hid (below_on B.out hb)
          clear hb
          go_wp2_with fail
          refine (same_yes v12 KR.out KW.out).mono ?_
          rintro _ v13 ⟨rfl, hb⟩
          clear KR
          have T := Lib.hid (T.out.later hb)
          have KW := Lib.hid (KW.out.later hb)
          have B := Lib.hid (below_on B.out hb)
          clear hb
          go_wp2_with fail
          refine (alive18 _).mono ?_
          rintro _ v14 ⟨rfl, hb⟩
          have T := Lib.hid (T.out.later hb)
          have KW := Lib.hid (KW.out.later hb)
          have B := Lib.hid (below_on B.out hb)
          clear hb
          go_wp2_with fail
          refine (T.out.look fun S hS => list_look hS rfl (n := 63 + 1) lk_list).mono ?_
          rintro _ v15 ⟨la15, lc15, rfl, _, hb⟩
          have T := Lib.hid (T.out.later hb)
          have KW := Lib.hid (KW.out.later hb)
          have B := Lib.hid (below_on B.out hb)
          clear hb
          go_wp2_with fail
          all_goals (go_ret; exact ⟨rfl, B.out⟩)
      · subst hsj
        have HSE := Lib.hid (lk_j (l := bl) (c := c)).1
        rw [HQ0.out] at HSE
        go_wp2_with fail
        have hsz9 := T.out.look fun S hS => Size_any hS jn HSS.out
        rw [HSE.out] at hsz9
        refine hsz9.mono ?_
        rintro _ y3 ⟨rfl, hb⟩
        have T := Lib.hid (T.out.later hb)
        have KW := Lib.hid (KW.out.later hb)
        have B := Lib.hid (below_on B.out hb)
        clear hb hsz9
        obtain ⟨nr, hnr⟩ : ∃ n, n = (recs firstC bl).length := ⟨_, rfl⟩
        have HNR := Lib.hid hnr
        clear hnr
        go_wp2_with fail
        have hop := Open_there T.out jn HSS.out HSE.out (b := bl) (by have := (lk_j (l := bl) (c := c)).2.1; rw [HQ0.out] at this; rw [this])
        rw [← HNR.out] at hop
        refine hop.mono ?_
        rintro _ y4 ⟨Jb, a3, c3, rfl, _, _, ht, hst, _⟩
        have T := Lib.hid (ht.lessC (K' := fun g => g < w.heap.size ∨ (wr.heap.size ≤ g ∧ g < y2.heap.size)) fun g hg => .inl hg)
        clear ht hop
        have KW := Lib.hid (KW.out.block fun g hg => hst.block g (.inr (HOL.out g hg)))
        have B := Lib.hid (B.out.trans (hst.below (base := w.heap.size) fun g hg => .inl hg))
        clear hst
        go_wp2_with fail
        refine (T.out.look fun S hS => list_look hS rfl (n := c + 1) lk_list).mono ?_
        rintro _ v16 ⟨la16, lc16, rfl, _, hb⟩
        have T := Lib.hid (T.out.later hb)
        have KW := Lib.hid (KW.out.later hb)
        have B := Lib.hid (below_on B.out hb)
        clear hb
        go_wp2_with fail
        have hr9 := T.out.look fun S hS => row_any hS jn (by decide) lk_j.2.2
        rw [HQ0.out] at hr9
        refine hr9.mono ?_
        rintro _ v17 ⟨ra17, rc17, rfl, ho, hb⟩
        have KR := Lib.hid ho.at_
        clear ho hr9
        have T := Lib.hid (T.out.later hb)
        have KW := Lib.hid (KW.out.later hb)
        have B := Lib.hid (below_on B.out hb)
        clear hb
        go_wp2_with fail
        refine (same_yes v17 KR.out KW.out).mono ?_
        rintro _ v18 ⟨rfl, hb⟩
        clear KR
        have T := Lib.hid (T.out.later hb)
        have KW := Lib.hid (KW.out.later hb)
        have B := Lib.hid (below_on B.out hb)
        clear hb
        go_wp2_with fail
        refine (alive18 _).mono ?_
        rintro _ v19 ⟨rfl, hb⟩
        have T := Lib.hid (T.out.later hb)
        have KW := Lib.hid (KW.out.later hb)
        have B := Lib.hid (below_on B.out hb)
        clear hb
        go_wp2_with fail
        refine (T.out.look fun S hS => list_look hS rfl (n := c + 1) lk_list).mono ?_
        rintro _ v20 ⟨la20, lc20, rfl, _, hb⟩
        have T := Lib.hid (T.out.later hb)
        have KW := Lib.hid (KW.out.later hb)
        have B := Lib.hid (below_on B.out hb)
        clear hb
        go_wp2_with fail
        all_goals (go_ret; exact ⟨rfl, B.out⟩)
      · have HSE := Lib.hid hse
        have HRD := Lib.hid hrd
        have hnj := str_ne hne
        clear hse hrd
        go_wp2_with fail
        have hsz9 := T.out.look fun S hS => Size_any hS s HSS.out
        rw [HSE.out] at hsz9
        refine hsz9.mono ?_
        rintro _ y3 ⟨rfl, hb⟩
        have T := Lib.hid (T.out.later hb)
        have KW := Lib.hid (KW.out.later hb)
        have B := Lib.hid (below_on B.out hb)
        clear hb hsz9
        go_wp2_with fail
        have hop := Open_there T.out s HSS.out HSE.out (b := []) (by have := HRD.out; rw [show ((0 : Nat) : Int) = 0 from rfl, this])
        rw [recs_nil] at hop
        refine hop.mono ?_
        rintro _ y4 ⟨Jb, a3, c3, rfl, _, _, ht, hst, _⟩
        have T := Lib.hid (ht.lessC (K' := fun g => g < w.heap.size ∨ (wr.heap.size ≤ g ∧ g < y2.heap.size)) fun g hg => .inl hg)
        clear ht hop
        have KW := Lib.hid (KW.out.block fun g hg => hst.block g (.inr (HOL.out g hg)))
        have B := Lib.hid (B.out.trans (hst.below (base := w.heap.size) fun g hg => .inl hg))
        clear hst
        go_wp2_with fail
        refine (T.out.look fun S hS => list_look hS rfl (n := c + 1) lk_list).mono ?_
        rintro _ v21 ⟨la21, lc21, rfl, _, hb⟩
        have T := Lib.hid (T.out.later hb)
        have KW := Lib.hid (KW.out.later hb)
        have B := Lib.hid (below_on B.out hb)
        clear hb
        go_wp2_with fail
        have hr9 := T.out.look fun S hS => row_any hS jn (by decide) lk_j.2.2
        rw [HQ0.out] at hr9
        refine hr9.mono ?_
        rintro _ v22 ⟨ra22, rc22, rfl, ho, hb⟩
        have KR := Lib.hid ho.at_
        clear ho hr9
        have T := Lib.hid (T.out.later hb)
        have KW := Lib.hid (KW.out.later hb)
        have B := Lib.hid (below_on B.out hb)
        clear hb
        go_wp2_with fail
        refine (same_yes v22 KR.out KW.out).mono ?_
        rintro _ v23 ⟨rfl, hb⟩
        clear KR
        have T := Lib.hid (T.out.later hb)
        have KW := Lib.hid (KW.out.later hb)
        have B := Lib.hid (below_on B.out hb)
        clear hb
        go_wp2_with fail
        refine (alive18 _).mono ?_
        rintro _ v24 ⟨rfl, hb⟩
        have T := Lib.hid (T.out.later hb)
        have KW := Lib.hid (KW.out.later hb)
        have B := Lib.hid (below_on B.out hb)
        clear hb
        go_wp2_with fail
        refine (T.out.look fun S hS => list_look hS rfl (n := c + 1) lk_list).mono ?_
        rintro _ v25 ⟨la25, lc25, rfl, _, hb⟩
        have T := Lib.hid (T.out.later hb)
        have KW := Lib.hid (KW.out.later hb)
        have B := Lib.hid (below_on B.out hb)
        clear hb
        go_wp2_with fail
        all_goals (go_ret; exact ⟨rfl, B.out⟩)
end Go.Proofs.YtjfejpdeccnlnaaDoor
