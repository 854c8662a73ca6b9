/- Layer 18 (journals): JournalsLeft, the walk. -/
import Derived.Test.YtjfejpdeccnlnaaDoorJleft0
namespace Go.Proofs.YtjfejpdeccnlnaaDoor
open Go.ChangeShapes Go.WideShapes Go.ChangeAt Go.RowKit

set_option linter.unusedSimpArgs false in
set_option linter.unusedVariables false in
set_option maxRecDepth 20000 in
set_option maxHeartbeats 8000000 in
theorem journalsLeft_great (v0 : Value) (L : List (List Nat)) (z keep : Nat) (hz : z < 256) (hkeep : keep < 65536) (w : World) (hv0 : PartsAt w v0 L) (hb0 : ∀ r ∈ L, Bytes r) (hl0 : L.length ≤ 140737488351232) (hz0 : ∀ r ∈ L, r.length ≤ 140737488351232) (hs0 : manyB L = true) :
    Calls Tryd.prog 6 #[v0, .int .u8 z, .int .u16 keep] w fun e w' => e = .returned (.bool true) ∧ Below w.heap.size w w' := by
  have hv9 := hv0
  obtain ⟨ao0, cap0, rfl, hca0, hcb0, _, _⟩ := hv9
  obtain ⟨m0, hm⟩ : ∃ m, m = L.length := ⟨_, rfl⟩
  have HM0 := Lib.hid hm
  have PL0 := Lib.hid hv0
  rw [← hm] at PL0 hca0 ⊢
  have H80 := Lib.hid hb0
  unfold maxLen at hcb0
  clear hv0 hb0 hm
  have HZ0 := Lib.hid hz0
  have HL0 := Lib.hid hl0
  have hzI : (z : Int) < 256 := by omega
  have hkeepI : (keep : Int) < 65536 := by omega
  have HMB0 := Lib.hid hs0
  clear hs0
  have B := Lib.hid (Below.refl w.heap.size w)
  go_enter Tryd.func6, Tryd.ntmps6
  go_wp2_with fail
  refine (many_is w PL0.out (fun s hs => by have := HZ0.out s hs; omega) (by have := HL0.out; omega) HMB0.out).mono ?_
  rintro _ w1 ⟨rfl, hb⟩
  have B := Lib.hid (below_on B.out hb)
  clear hb
  go_wp2_with fail
  refine (alive18 _).mono ?_
  rintro _ w2 ⟨rfl, hb⟩
  have B := Lib.hid (below_on B.out hb)
  clear hb
  go_wp2_with fail
  go_ret
  exact ⟨rfl, B.out⟩
set_option linter.unusedSimpArgs false in
set_option linter.unusedVariables false in
set_option maxRecDepth 20000 in
set_option maxHeartbeats 8000000 in
theorem journalsLeft_small (v0 : Value) (L : List (List Nat)) (z keep : Nat) (hz : z < 256) (hkeep : keep < 65536) (w : World) (hv0 : PartsAt w v0 L) (hb0 : ∀ r ∈ L, Bytes r) (hl0 : L.length ≤ 140737488351232) (hz0 : ∀ r ∈ L, r.length ≤ 140737488351232) (hs0 : manyB L = false) :
    Calls Tryd.prog 6 #[v0, .int .u8 z, .int .u16 keep] w fun e w' => e = .returned (.bool true) ∧ Below w.heap.size w w' := by
  have hv9 := hv0
  obtain ⟨ao0, cap0, rfl, hca0, hcb0, _, _⟩ := hv9
  obtain ⟨m0, hm⟩ : ∃ m, m = L.length := ⟨_, rfl⟩
  have HM0 := Lib.hid hm
  have PL0 := Lib.hid hv0
  rw [← hm] at PL0 hca0 ⊢
  have H80 := Lib.hid hb0
  unfold maxLen at hcb0
  clear hv0 hb0 hm
  have HZ0 := Lib.hid hz0
  have HL0 := Lib.hid hl0
  have hzI : (z : Int) < 256 := by omega
  have hkeepI : (keep : Int) < 65536 := by omega
  have SM0 := Lib.hid (small_of hs0)
  have hm0 : m0 ≤ 40 := by rw [HM0.out]; exact SM0.out.many
  have hm0I : (m0 : Int) ≤ 40 := by omega
  have HR0 := Lib.hid (show ∀ r ∈ L, Bytes r ∧ r.length ≤ 65536 from fun r hr => ⟨H80.out r hr, by have := SM0.out.each r hr; omega⟩)
  have HMB0 := Lib.hid hs0
  clear hs0
  obtain ⟨q0, hq⟩ : ∃ q, q = (laidAll firstC L).length := ⟨_, rfl⟩
  have HQ0 := Lib.hid hq.symm
  have hq0 : q0 ≤ 40320 := by rw [hq]; exact SM0.out.all _
  have HE0 := Lib.hid (show endN L m0 = q0 by rw [hq, endN_all L firstC, HM0.out])
  clear hq
  have kc := fun (w : World) (C : Array Value) (n c : Nat) => Lib.run_convert_bytes_const (P := Tryd.prog) w 37 5 C n c Tryd.underlying37 Tryd.underlying5
  obtain ⟨k, hk⟩ : ∃ k, k = z % (m0 + 1) := ⟨_, rfl⟩
  have ek : (z : Int) % ((m0 : Int) + 1) = (k : Int) := by rw [hk, Int.natCast_emod]; rfl
  have hkl : k ≤ m0 := by rw [hk]; exact Nat.lt_succ_iff.1 (Nat.mod_lt z (Nat.succ_pos m0))
  have hkI : (k : Int) ≤ (m0 : Int) := by omega
  clear hk
  obtain ⟨fr, hfr⟩ : ∃ fr, endN L k = fr := ⟨_, rfl⟩
  have hfr9 : fr ≤ q0 := by rw [← hfr, ← HE0.out, HM0.out]; exact endN_le L k
  have HF := Lib.hid hfr
  clear hfr
  have hfrI : (fr : Int) ≤ (q0 : Int) := by omega
  have hqI : (q0 : Int) ≤ 40320 := by omega
  obtain ⟨lg, hlg⟩ : ∃ lg, lg = fr + min keep (q0 - fr) := ⟨_, rfl⟩
  have hlg1 : fr ≤ lg := by omega
  have hlg2 : lg ≤ q0 := by omega
  have HLG := Lib.hid hlg
  have emin : min ((fr : Int) + (keep : Int)) (q0 : Int) = (lg : Int) := by omega
  clear hlg
  obtain ⟨a1, p1, ks1, hp1⟩ := parts_to PL0.out k (by rw [← HM0.out]; omega)
  have HP1 := Lib.hid hp1
  have E1 := Lib.hid (show (L.take k).length = k by rw [List.length_take, ← HM0.out]; omega)
  clear hp1
  have B := Lib.hid (Below.refl w.heap.size w)
  go_enter Tryd.func6, Tryd.ntmps6
  go_wp2_with fail
  refine (many_is w PL0.out (fun s hs => by have := HZ0.out s hs; omega) (by have := HL0.out; omega) HMB0.out).mono ?_
  rintro _ w1 ⟨rfl, hb⟩
  have B := Lib.hid (below_on B.out hb)
  clear hb
  go_wp2_with fail
  have hsz1 : (laidAll firstC (L.take k)).length = fr := by rw [endN_laid]; exact HF.out
  have HS1 := Lib.hid hsz1
  clear hsz1
  refine (kept_any (L := L.take k) 1000000 (by decide) (by decide) (by exact HP1.out.later B.out) (fun r hr => HR0.out r (List.mem_of_mem_take hr)) (by rw [HS1.out]; omega)).mono ?_
  rintro _ w2 ⟨D, rfl, ht, hb, hD⟩
  have T := Lib.hid (ht.lessC (K' := fun g => g < w.heap.size) fun g hg => Nat.lt_of_lt_of_le hg B.out.size)
  obtain ⟨bs, hbs⟩ : ∃ b, b = w1.heap.size := ⟨_, rfl⟩
  rw [← hbs] at T
  clear ht hD hbs
  have B := Lib.hid (below_on B.out hb)
  clear hb
  go_wp2_with fail
  refine (T.out.act 0 (jd_sync (by decide)) rfl fun S hS => Sync_any hS ⟨#[106]⟩ (by decide)).mono ?_
  rintro _ w3 ⟨rfl, ht, hst⟩
  rw [HS1.out] at ht
  have T := Lib.hid ht
  clear ht
  have B := Lib.hid (B.out.trans (hst.below (base := w.heap.size) fun g hg => hg))
  clear hst
  go_wp2_with fail
  refine (T.out.act 0 (show ((jd 1000000 ⟨#[106]⟩ (laidAll firstC (L.take k)) fr free64).names, 0) = (jd 1000000 ⟨#[106]⟩ (laidAll firstC (L.take k)) fr (⟨⟨#[106]⟩, some 0⟩ :: free63), 0) from rfl) rfl fun S hS => Names_any hS).mono ?_
  rintro _ w4 ⟨rfl, ht, hst⟩
  have T := Lib.hid ht
  clear ht
  have B := Lib.hid (B.out.trans (hst.below (base := w.heap.size) fun g hg => hg))
  clear hst
  go_wp2_with fail
  refine (Whole.reopen T.out (by decide) (fun r hr => HR0.out r (List.mem_of_mem_take hr)) (by rw [HS1.out]; omega) (q := k) E1.out.symm).mono ?_
  rintro _ w5 ⟨Jb, a2, c2, rfl, hw, hst, hJ, _⟩
  have HW := Lib.hid hw
  have HJ := Lib.hid (Nat.le_trans B.out.size hJ)
  clear hw hJ
  have B := Lib.hid (B.out.trans (hst.below (base := w.heap.size) fun g hg => hg))
  clear hst
  go_wp2_with fail
  go_loopw [12, 13] (fun e i wr => ∃ j : Nat, j ≤ m0 ∧ k ≤ j ∧ i = .int .i64 j ∧ e = .int .i64 0 ∧ Hid (Whole (fun g => g < w.heap.size ∨ g = Jb) wr bs D Jb 1000000 ⟨#[106]⟩ fr (⟨⟨#[106]⟩, some 0⟩ :: free63) (L.take j)) ∧ Hid (Below w.heap.size w wr)) (fun _ i _ => m0 - (intOf i).toNat)
  case atStart => exact ⟨k, hkl, Nat.le_refl _, rfl, rfl, HW, B⟩
  case round =>
    obtain ⟨j, hj, hkj, rfl, rfl, HW, HB⟩ := hrel
    by_cases hlt : j < m0
    · have hltI : (j : Int) < (m0 : Int) := by omega
      have hl9 : j < L.length := by rw [← HM0.out]; exact hlt
      obtain ⟨s, hs⟩ : ∃ s, L[j]? = some s := ⟨_, List.getElem?_eq_getElem hl9⟩
      have hp9 := PL0.out.later HB.out
      obtain ⟨_, _, e9, _, _, _, hc4⟩ := hp9
      rw [← HM0.out] at e9 hc4
      cases e9
      obtain ⟨b, o, rfl, hcell⟩ := hc4 (by omega)
      obtain ⟨u, hu, hku⟩ := hcell j s hs
      have hsR := HR0.out s (List.mem_of_getElem? hs)
      have htk : L.take (j + 1) = L.take j ++ [s] := by rw [List.take_add_one, hs]; rfl
      have hfit := laidAll_take L firstC (j + 1)
      rw [htk, laidAll_append, List.length_append, laidAll, laidAll, List.append_nil, laidR_length, HQ0.out] at hfit
      have HA := Lib.hid (HW.out.add hku hsR.1 hsR.2 (by omega))
      have HTK := Lib.hid htk
      clear hcell hs hku hsR htk hfit hc4 hl9
      go_wp2_with fail
      refine HA.out.mono ?_
      rintro _ y1 ⟨rfl, hw, hst⟩
      have HW2 := Lib.hid hw
      have HB2 := Lib.hid (HB.out.trans (hst.below (base := w.heap.size) fun g hg => ⟨.inl hg, by have := HJ.out; omega⟩))
      clear hw hst
      go_wp2_with fail
      go_roundw
      case rel => exact ⟨j + 1, by omega, by omega, by go_num, rfl, by rw [HTK.out]; exact HW2, HB2⟩
      case measure => simp [intOf]; omega
    · obtain rfl : j = m0 := by omega
      have hltI : ¬ ((j : Int) < (j : Int)) := by omega
      have htl : L.take j = L := List.take_of_length_le (by rw [HM0.out]; exact Nat.le_refl _)
      rw [htl] at HW
      have B := HB
      clear htl
      go_wp2_with fail
      refine (HW.out.disk.look fun S hS => Fail_yes hS keep false (by omega)).mono ?_
      rintro _ y2 ⟨X, rfl, hx, hb⟩
      have T := Lib.hid ((OneK.newB hx).lessC (K' := fun g => g < w.heap.size) fun g hg => Nat.lt_of_lt_of_le hg B.out.size)
      obtain ⟨b2, hb2⟩ : ∃ b, b = wr.heap.size := ⟨_, rfl⟩
      rw [← hb2, jd_fail (lg := lg) (by rw [HQ0.out]; exact HLG.out)] at T
      clear hx hb2
      have B := Lib.hid (below_on B.out hb)
      clear hb
      go_wp2_with fail
      refine (end_any (PL0.out.later B.out) (by rw [← HM0.out]; omega) (by omega) (fun r hr => by have := SM0.out.each r hr; omega) HF.out).mono ?_
      rintro _ x9 ⟨rfl, rfl⟩
      go_wp2_with fail
      refine (end_any (PL0.out.later B.out) (by rw [← HM0.out]; omega) (by omega) (fun r hr => by have := SM0.out.each r hr; omega) HE0.out).mono ?_
      rintro _ x9 ⟨rfl, rfl⟩
      go_wp2_with fail
      go_loopw [17] (fun i wx => ∃ h : Nat, k ≤ h ∧ h ≤ j ∧ i = .int .i64 h ∧ Hid (endN L h ≤ lg) ∧ wx = y2) (fun i _ => j - (intOf i).toNat)
      case atStart => exact ⟨k, Nat.le_refl _, hkl, rfl, Lib.hid (by rw [HF.out]; exact hlg1), rfl⟩
      case round =>
      obtain ⟨h, hkh, hhm, rfl, HEH, hwx⟩ := hrel
      subst hwx
      by_cases hlt9 : h < j
      · have hlt9I : (h : Int) < (j : Int) := by omega
        obtain ⟨h1, hh1⟩ : ∃ h1, h1 = h + 1 := ⟨_, rfl⟩
        have eh1 : (h : Int) + 1 = (h1 : Int) := by omega
        have HH1 := Lib.hid hh1
        have hh1m : h1 ≤ j := by omega
        clear hh1
        obtain ⟨f1, hf1⟩ : ∃ f, endN L h1 = f := ⟨_, rfl⟩
        have HF1 := Lib.hid hf1
        clear hf1
        go_wp2_with fail
        refine (end_any (PL0.out.later B.out) (by rw [← HM0.out]; omega) (by omega) (fun r hr => by have := SM0.out.each r hr; omega) HF1.out).mono ?_
        rintro _ x9 ⟨rfl, rfl⟩
        by_cases hle : f1 ≤ lg
        · have hleI : (f1 : Int) ≤ (lg : Int) := by omega
          go_wp2_with fail
          go_roundw
          case rel => exact ⟨h1, by have := HH1.out; omega, hh1m, rfl, Lib.hid (by rw [HF1.out]; exact hle), trivial⟩
          case measure => simp [intOf]; have := HH1.out; omega
        · have hleI : ¬ ((f1 : Int) ≤ (lg : Int)) := by omega
          have HT := Lib.hid (told_take (R := L) (k := h) (n := lg) (fun r hr => (HR0.out r hr).2) (by rw [← HM0.out]; exact hhm) HEH.out (fun hl => by have := HF1.out; rw [HH1.out] at this; omega) (by rw [← HM0.out, HE0.out]; exact hlg2))
          obtain ⟨ew, hew⟩ : ∃ e, endN L h = e := ⟨_, rfl⟩
          have HEW := Lib.hid hew
          clear hew
          have hew9 : ew ≤ lg := by rw [← HEW.out]; exact HEH.out
          have E2 := Lib.hid (show (L.take h).length = h by rw [List.length_take, ← HM0.out]; omega)
          obtain ⟨a4, p4, ks4, hp4⟩ := parts_to PL0.out h (by rw [← HM0.out]; omega)
          have HP4 := Lib.hid hp4
          clear hp4
          go_wp2_with fail
          refine (Open_jd T.out (by decide) HT.out (q := h) (by rw [withC_length, E2.out])).mono ?_
          rintro _ t1 ⟨J2, a3, c3, rfl, hjn, ht, hst, hJ, hp⟩
          rw [withC_long, withC_lastR, endN_laid, HEW.out] at hjn
          rw [withC_fst] at hp
          have HJN := Lib.hid hjn
          have T := Lib.hid ht
          have HP := Lib.hid hp
          have HJ2 := Lib.hid (Nat.le_trans B.out.size hJ)
          have B := Lib.hid (B.out.trans (hst.below (base := w.heap.size) fun g hg => hg))
          clear hjn ht hp hst hJ
          go_wp2_with fail
          refine (same_is t1 HP.out (HP4.out.later B.out) (z := true) (decide_eq_true rfl)).mono ?_
          rintro _ t2 ⟨rfl, hb⟩
          have T := Lib.hid (T.out.later hb)
          have HJN := Lib.hid (heap_on hb HJN.out)
          have B := Lib.hid (below_on B.out hb)
          clear hb
          go_wp2_with fail
          refine (row_jd T.out (by decide) (q := lg) (by rw [List.length_take, HQ0.out]; omega)).mono ?_
          rintro _ t3 ⟨a5, c5, rfl, _, hb⟩
          have T := Lib.hid (T.out.later hb)
          have HJN := Lib.hid (heap_on hb HJN.out)
          have B := Lib.hid (below_on B.out hb)
          clear hb
          go_wp2_with fail
          obtain ⟨t4, e4⟩ : ∃ t : World, t = t3.alloc (.cells #[.int .u8 103, .int .u8 111, .int .u8 101, .int .u8 115, .int .u8 32, .int .u8 111, .int .u8 110] 5 (7, 8)) := ⟨_, rfl⟩
          have hb : Below t3.heap.size t3 t4 := by rw [e4]; exact (Below.refl _ _).alloc (Nat.le_refl _) _
          have KG := Lib.hid (show KAt .u8 t4 (.slice (some ⟨t3.heap.size, 0, none⟩) 7 7) [103, 111, 101, 115, 32, 111, 110] by rw [e4]; exact kat_lit t3 [103, 111, 101, 115, 32, 111, 110] 5 (7, 8) (by decide))
          rw [← e4]
          have T := Lib.hid (T.out.later hb)
          have HJN := Lib.hid (heap_on hb HJN.out)
          have B := Lib.hid (below_on B.out hb)
          clear hb e4
          by_cases hex : ew = lg
          · have htk : (laidAll firstC L).take lg = laidAll firstC (L.take h) := by rw [← hex, ← HEW.out]; exact laid_to L firstC h
            rw [htk] at T
            have hlen9 : (laidAll firstC (L.take h)).length = ew := by rw [endN_laid]; exact HEW.out
            have hwh : Whole (fun g => g < w.heap.size ∨ g = J2) t4 b2 X J2 1000000 ⟨#[106]⟩ lg (⟨⟨#[106]⟩, some 0⟩ :: free63) (L.take h) := ⟨T.out, by rw [hlen9]; exact HJN.out, .inr rfl, fun r hr => HR0.out r (List.mem_of_mem_take hr), by decide, by rw [hlen9]; omega⟩
            refine (hwh.add KG.out (by unfold Bytes; decide) (by decide) (by rw [hlen9]; simp; omega)).mono ?_
            rintro _ t5 ⟨rfl, _, hst⟩
            subst hex
            have B := Lib.hid (B.out.trans (hst.below (base := w.heap.size) fun g hg => ⟨.inl hg, by have := HJ2.out; omega⟩))
            clear hst
            go_wp2_with fail
            refine (alive18 _).mono ?_
            rintro _ t6 ⟨rfl, hb⟩
            have B := Lib.hid (below_on B.out hb)
            clear hb
            go_wp2_with fail
            refine (end_any (PL0.out.later B.out) (by rw [← HM0.out]; omega) (by omega) (fun r hr => by have := SM0.out.each r hr; omega) HEW.out).mono ?_
            rintro _ x9 ⟨rfl, rfl⟩
            go_wp2_with fail
            go_ret
            exact ⟨rfl, B.out⟩
          · have hexI : ¬ ((ew : Int) = (lg : Int)) := by omega
            have hexB : ((ew : Int) == (lg : Int)) = false := by simp; omega
            refine (Add_stale T.out (.inr rfl) HJN.out (by decide) (by omega) (lastC_lt _ (by decide) fun r hr => (HR0.out r (List.mem_of_mem_take hr)).1) KG.out (by unfold Bytes; decide) (by decide) (by rw [List.length_take, HQ0.out]; omega)).mono ?_
            rintro _ t5 ⟨rfl, _, _, hst⟩
            have B := Lib.hid (B.out.trans (hst.below (base := w.heap.size) fun g hg => ⟨.inl hg, by have := HJ2.out; omega⟩))
            clear hst
            go_wp2_with fail
            refine (alive18 _).mono ?_
            rintro _ t6 ⟨rfl, hb⟩
            have B := Lib.hid (below_on B.out hb)
            clear hb
            go_wp2_with fail
            refine (end_any (PL0.out.later B.out) (by rw [← HM0.out]; omega) (by omega) (fun r hr => by have := SM0.out.each r hr; omega) HEW.out).mono ?_
            rintro _ x9 ⟨rfl, rfl⟩
            go_wp2_with fail
            go_ret
            exact ⟨rfl, B.out⟩
      · obtain rfl : h = j := by omega
        have hlt9I : ¬ ((h : Int) < (h : Int)) := by omega
        have HT := Lib.hid (told_take (R := L) (k := h) (n := lg) (fun r hr => (HR0.out r hr).2) (by rw [← HM0.out]; exact hhm) HEH.out (fun hl => by have := HM0.out; omega) (by rw [← HM0.out, HE0.out]; exact hlg2))
        obtain ⟨ew, hew⟩ : ∃ e, endN L h = e := ⟨_, rfl⟩
        have HEW := Lib.hid hew
        clear hew
        have hew9 : ew ≤ lg := by rw [← HEW.out]; exact HEH.out
        have E2 := Lib.hid (show (L.take h).length = h by rw [List.length_take, ← HM0.out]; omega)
        obtain ⟨a4, p4, ks4, hp4⟩ := parts_to PL0.out h (by rw [← HM0.out]; omega)
        have HP4 := Lib.hid hp4
        clear hp4
        go_wp2_with fail
        refine (Open_jd T.out (by decide) HT.out (q := h) (by rw [withC_length, E2.out])).mono ?_
        rintro _ t1 ⟨J2, a3, c3, rfl, hjn, ht, hst, hJ, hp⟩
        rw [withC_long, withC_lastR, endN_laid, HEW.out] at hjn
        rw [withC_fst] at hp
        have HJN := Lib.hid hjn
        have T := Lib.hid ht
        have HP := Lib.hid hp
        have HJ2 := Lib.hid (Nat.le_trans B.out.size hJ)
        have B := Lib.hid (B.out.trans (hst.below (base := w.heap.size) fun g hg => hg))
        clear hjn ht hp hst hJ
        go_wp2_with fail
        refine (same_is t1 HP.out (HP4.out.later B.out) (z := true) (decide_eq_true rfl)).mono ?_
        rintro _ t2 ⟨rfl, hb⟩
        have T := Lib.hid (T.out.later hb)
        have HJN := Lib.hid (heap_on hb HJN.out)
        have B := Lib.hid (below_on B.out hb)
        clear hb
        go_wp2_with fail
        refine (row_jd T.out (by decide) (q := lg) (by rw [List.length_take, HQ0.out]; omega)).mono ?_
        rintro _ t3 ⟨a5, c5, rfl, _, hb⟩
        have T := Lib.hid (T.out.later hb)
        have HJN := Lib.hid (heap_on hb HJN.out)
        have B := Lib.hid (below_on B.out hb)
        clear hb
        go_wp2_with fail
        obtain ⟨t4, e4⟩ : ∃ t : World, t = t3.alloc (.cells #[.int .u8 103, .int .u8 111, .int .u8 101, .int .u8 115, .int .u8 32, .int .u8 111, .int .u8 110] 5 (7, 8)) := ⟨_, rfl⟩
        have hb : Below t3.heap.size t3 t4 := by rw [e4]; exact (Below.refl _ _).alloc (Nat.le_refl _) _
        have KG := Lib.hid (show KAt .u8 t4 (.slice (some ⟨t3.heap.size, 0, none⟩) 7 7) [103, 111, 101, 115, 32, 111, 110] by rw [e4]; exact kat_lit t3 [103, 111, 101, 115, 32, 111, 110] 5 (7, 8) (by decide))
        rw [← e4]
        have T := Lib.hid (T.out.later hb)
        have HJN := Lib.hid (heap_on hb HJN.out)
        have B := Lib.hid (below_on B.out hb)
        clear hb e4
        by_cases hex : ew = lg
        · have htk : (laidAll firstC L).take lg = laidAll firstC (L.take h) := by rw [← hex, ← HEW.out]; exact laid_to L firstC h
          rw [htk] at T
          have hlen9 : (laidAll firstC (L.take h)).length = ew := by rw [endN_laid]; exact HEW.out
          have hwh : Whole (fun g => g < w.heap.size ∨ g = J2) t4 b2 X J2 1000000 ⟨#[106]⟩ lg (⟨⟨#[106]⟩, some 0⟩ :: free63) (L.take h) := ⟨T.out, by rw [hlen9]; exact HJN.out, .inr rfl, fun r hr => HR0.out r (List.mem_of_mem_take hr), by decide, by rw [hlen9]; omega⟩
          refine (hwh.add KG.out (by unfold Bytes; decide) (by decide) (by rw [hlen9]; simp; omega)).mono ?_
          rintro _ t5 ⟨rfl, _, hst⟩
          subst hex
          have B := Lib.hid (B.out.trans (hst.below (base := w.heap.size) fun g hg => ⟨.inl hg, by have := HJ2.out; omega⟩))
          clear hst
          go_wp2_with fail
          refine (alive18 _).mono ?_
          rintro _ t6 ⟨rfl, hb⟩
          have B := Lib.hid (below_on B.out hb)
          clear hb
          go_wp2_with fail
          refine (end_any (PL0.out.later B.out) (by rw [← HM0.out]; omega) (by omega) (fun r hr => by have := SM0.out.each r hr; omega) HEW.out).mono ?_
          rintro _ x9 ⟨rfl, rfl⟩
          go_wp2_with fail
          go_ret
          exact ⟨rfl, B.out⟩
        · have hexI : ¬ ((ew : Int) = (lg : Int)) := by omega
          have hexB : ((ew : Int) == (lg : Int)) = false := by simp; omega
          refine (Add_stale T.out (.inr rfl) HJN.out (by decide) (by omega) (lastC_lt _ (by decide) fun r hr => (HR0.out r (List.mem_of_mem_take hr)).1) KG.out (by unfold Bytes; decide) (by decide) (by rw [List.length_take, HQ0.out]; omega)).mono ?_
          rintro _ t5 ⟨rfl, _, _, hst⟩
          have B := Lib.hid (B.out.trans (hst.below (base := w.heap.size) fun g hg => ⟨.inl hg, by have := HJ2.out; omega⟩))
          clear hst
          go_wp2_with fail
          refine (alive18 _).mono ?_
          rintro _ t6 ⟨rfl, hb⟩
          have B := Lib.hid (below_on B.out hb)
          clear hb
          go_wp2_with fail
          refine (end_any (PL0.out.later B.out) (by rw [← HM0.out]; omega) (by omega) (fun r hr => by have := SM0.out.each r hr; omega) HEW.out).mono ?_
          rintro _ x9 ⟨rfl, rfl⟩
          go_wp2_with fail
          go_ret
          exact ⟨rfl, B.out⟩
end Go.Proofs.YtjfejpdeccnlnaaDoor
