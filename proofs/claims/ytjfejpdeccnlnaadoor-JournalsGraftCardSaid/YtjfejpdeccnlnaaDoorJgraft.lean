/- Layer 18 (journals): JournalsGraft, the walk. -/
import Derived.Test.YtjfejpdeccnlnaaDoorJcut
import Derived.Test.YtjfejpdeccnlnaaDoorJalive
namespace Go.Proofs.YtjfejpdeccnlnaaDoor
open Go.ChangeShapes Go.WideShapes Go.ChangeAt Go.RowKit

set_option linter.unusedSimpArgs false in
set_option linter.unusedVariables false in
set_option maxRecDepth 20000 in
set_option maxHeartbeats 8000000 in
theorem journalsGraft_great0 (v0 v1 : Value) (L M : List (List Nat)) (z0 z1 : Nat) (hz0I : z0 < 256) (hz1I : z1 < 256) (w : World) (hv0 : PartsAt w v0 L) (hv1 : PartsAt w v1 M) (hb0 : ∀ r ∈ L, Bytes r) (hb1 : ∀ r ∈ M, Bytes r) (hl0 : L.length ≤ 140737488351232) (hl1 : M.length ≤ 140737488351232) (hz0 : ∀ r ∈ L, r.length ≤ 140737488351232) (hz1 : ∀ r ∈ M, r.length ≤ 140737488351232) (hs0 : manyB L = true) :
    Calls Tryd.prog 5 #[v0, v1, .agg #[.int .u8 z0, .int .u8 z1]] w fun e w' => e = .returned (.bool true) ∧ Below w.heap.size w w' := by
  have hv9 := hv0
  obtain ⟨ao0, cap0, rfl, hca0, hcb0, _, _⟩ := hv9
  obtain ⟨m0, hm⟩ : ∃ m, m = L.length := ⟨_, rfl⟩
  have HM0 := Lib.hid hm
  have PL0 := Lib.hid hv0
  rw [← hm] at PL0 hca0 ⊢
  have H80 := Lib.hid hb0
  unfold maxLen at hcb0
  clear hv0 hb0 hm
  have hv9 := hv1
  obtain ⟨ao1, cap1, rfl, hca1, hcb1, _, _⟩ := hv9
  obtain ⟨m1, hm⟩ : ∃ m, m = M.length := ⟨_, rfl⟩
  have HM1 := Lib.hid hm
  have PL1 := Lib.hid hv1
  rw [← hm] at PL1 hca1 ⊢
  have H81 := Lib.hid hb1
  unfold maxLen at hcb1
  clear hv1 hb1 hm
  have hy0I : (z0 : Int) < 256 := by omega
  have hy1I : (z1 : Int) < 256 := by omega
  have HZ0 := Lib.hid hz0
  have HZ1 := Lib.hid hz1
  have HL0 := Lib.hid hl0
  have HL1 := Lib.hid hl1
  clear hz0 hz1
  have HMB0 := Lib.hid hs0
  clear hs0
  have B := Lib.hid (Below.refl w.heap.size w)
  go_enter Tryd.func5, Tryd.ntmps5
  go_wp2_with fail
  obtain ⟨w1, e9⟩ : ∃ w9 : World, w9 = w.alloc (.cells #[.int .u8 z0, .int .u8 z1] 46) := ⟨_, rfl⟩
  have hb : Below w.heap.size w w1 := by rw [e9]; exact (Below.refl _ _).alloc (Nat.le_refl _) _
  obtain ⟨A, hA⟩ : ∃ A, A = w.heap.size := ⟨_, rfl⟩
  have FA := Lib.hid (show w1.heap[A]? = some (.cells #[.int .u8 z0, .int .u8 z1] 46 (0, 0)) by rw [e9, hA]; exact heap_alloc_new w _)
  rw [← e9, ← hA]
  clear e9 hA
  have B := Lib.hid (below_on B.out hb)
  have PL0 := Lib.hid (PL0.out.later hb)
  have PL1 := Lib.hid (PL1.out.later hb)
  clear hb
  refine (many_is w1 PL0.out (fun s hs => by have := HZ0.out s hs; omega) (by have := HL0.out; omega) HMB0.out).mono ?_
  rintro _ w2 ⟨rfl, hb⟩
  have B := Lib.hid (below_on B.out hb)
  have PL0 := Lib.hid (PL0.out.later hb)
  have PL1 := Lib.hid (PL1.out.later hb)
  have FA := Lib.hid (heap_on hb FA.out)
  clear hb
  go_wp2_with fail
  refine (alive18 _).mono ?_
  rintro _ w3 ⟨rfl, hb⟩
  have B := Lib.hid (below_on B.out hb)
  have PL0 := Lib.hid (PL0.out.later hb)
  have PL1 := Lib.hid (PL1.out.later hb)
  have FA := Lib.hid (heap_on hb FA.out)
  clear hb
  go_wp2_with fail
  go_ret
  exact ⟨rfl, B.out⟩
set_option linter.unusedSimpArgs false in
set_option linter.unusedVariables false in
set_option maxRecDepth 20000 in
set_option maxHeartbeats 8000000 in
theorem journalsGraft_great1 (v0 v1 : Value) (L M : List (List Nat)) (z0 z1 : Nat) (hz0I : z0 < 256) (hz1I : z1 < 256) (w : World) (hv0 : PartsAt w v0 L) (hv1 : PartsAt w v1 M) (hb0 : ∀ r ∈ L, Bytes r) (hb1 : ∀ r ∈ M, Bytes r) (hl0 : L.length ≤ 140737488351232) (hl1 : M.length ≤ 140737488351232) (hz0 : ∀ r ∈ L, r.length ≤ 140737488351232) (hz1 : ∀ r ∈ M, r.length ≤ 140737488351232) (hs0 : manyB L = false) (hs1 : manyB M = true) :
    Calls Tryd.prog 5 #[v0, v1, .agg #[.int .u8 z0, .int .u8 z1]] w fun e w' => e = .returned (.bool true) ∧ Below w.heap.size w w' := by
  have hv9 := hv0
  obtain ⟨ao0, cap0, rfl, hca0, hcb0, _, _⟩ := hv9
  obtain ⟨m0, hm⟩ : ∃ m, m = L.length := ⟨_, rfl⟩
  have HM0 := Lib.hid hm
  have PL0 := Lib.hid hv0
  rw [← hm] at PL0 hca0 ⊢
  have H80 := Lib.hid hb0
  unfold maxLen at hcb0
  clear hv0 hb0 hm
  have hv9 := hv1
  obtain ⟨ao1, cap1, rfl, hca1, hcb1, _, _⟩ := hv9
  obtain ⟨m1, hm⟩ : ∃ m, m = M.length := ⟨_, rfl⟩
  have HM1 := Lib.hid hm
  have PL1 := Lib.hid hv1
  rw [← hm] at PL1 hca1 ⊢
  have H81 := Lib.hid hb1
  unfold maxLen at hcb1
  clear hv1 hb1 hm
  have hy0I : (z0 : Int) < 256 := by omega
  have hy1I : (z1 : Int) < 256 := by omega
  have HZ0 := Lib.hid hz0
  have HZ1 := Lib.hid hz1
  have HL0 := Lib.hid hl0
  have HL1 := Lib.hid hl1
  clear hz0 hz1
  have HMB0 := Lib.hid hs0
  have HMB1 := Lib.hid hs1
  clear hs0 hs1
  have B := Lib.hid (Below.refl w.heap.size w)
  go_enter Tryd.func5, Tryd.ntmps5
  go_wp2_with fail
  obtain ⟨w1, e9⟩ : ∃ w9 : World, w9 = w.alloc (.cells #[.int .u8 z0, .int .u8 z1] 46) := ⟨_, rfl⟩
  have hb : Below w.heap.size w w1 := by rw [e9]; exact (Below.refl _ _).alloc (Nat.le_refl _) _
  obtain ⟨A, hA⟩ : ∃ A, A = w.heap.size := ⟨_, rfl⟩
  have FA := Lib.hid (show w1.heap[A]? = some (.cells #[.int .u8 z0, .int .u8 z1] 46 (0, 0)) by rw [e9, hA]; exact heap_alloc_new w _)
  rw [← e9, ← hA]
  clear e9 hA
  have B := Lib.hid (below_on B.out hb)
  have PL0 := Lib.hid (PL0.out.later hb)
  have PL1 := Lib.hid (PL1.out.later hb)
  clear hb
  refine (many_is w1 PL0.out (fun s hs => by have := HZ0.out s hs; omega) (by have := HL0.out; omega) HMB0.out).mono ?_
  rintro _ w2 ⟨rfl, hb⟩
  have B := Lib.hid (below_on B.out hb)
  have PL0 := Lib.hid (PL0.out.later hb)
  have PL1 := Lib.hid (PL1.out.later hb)
  have FA := Lib.hid (heap_on hb FA.out)
  clear hb
  go_wp2_with fail
  refine (many_is w2 PL1.out (fun s hs => by have := HZ1.out s hs; omega) (by have := HL1.out; omega) HMB1.out).mono ?_
  rintro _ w3 ⟨rfl, hb⟩
  have B := Lib.hid (below_on B.out hb)
  have PL0 := Lib.hid (PL0.out.later hb)
  have PL1 := Lib.hid (PL1.out.later hb)
  have FA := Lib.hid (heap_on hb FA.out)
  clear hb
  go_wp2_with fail
  refine (alive18 _).mono ?_
  rintro _ w4 ⟨rfl, hb⟩
  have B := Lib.hid (below_on B.out hb)
  have PL0 := Lib.hid (PL0.out.later hb)
  have PL1 := Lib.hid (PL1.out.later hb)
  have FA := Lib.hid (heap_on hb FA.out)
  clear hb
  go_wp2_with fail
  go_ret
  exact ⟨rfl, B.out⟩
set_option linter.unusedSimpArgs false in
set_option linter.unusedVariables false in
set_option maxRecDepth 20000 in
set_option maxHeartbeats 8000000 in
theorem journalsGraft_small (v0 v1 : Value) (L M : List (List Nat)) (z0 z1 : Nat) (hz0I : z0 < 256) (hz1I : z1 < 256) (w : World) (hv0 : PartsAt w v0 L) (hv1 : PartsAt w v1 M) (hb0 : ∀ r ∈ L, Bytes r) (hb1 : ∀ r ∈ M, Bytes r) (hl0 : L.length ≤ 140737488351232) (hl1 : M.length ≤ 140737488351232) (hz0 : ∀ r ∈ L, r.length ≤ 140737488351232) (hz1 : ∀ r ∈ M, r.length ≤ 140737488351232) (hs0 : manyB L = false) (hs1 : manyB M = false) :
    Calls Tryd.prog 5 #[v0, v1, .agg #[.int .u8 z0, .int .u8 z1]] w fun e w' => e = .returned (.bool true) ∧ Below w.heap.size w w' := by
  have hv9 := hv0
  obtain ⟨ao0, cap0, rfl, hca0, hcb0, _, _⟩ := hv9
  obtain ⟨m0, hm⟩ : ∃ m, m = L.length := ⟨_, rfl⟩
  have HM0 := Lib.hid hm
  have PL0 := Lib.hid hv0
  rw [← hm] at PL0 hca0 ⊢
  have H80 := Lib.hid hb0
  unfold maxLen at hcb0
  clear hv0 hb0 hm
  have hv9 := hv1
  obtain ⟨ao1, cap1, rfl, hca1, hcb1, _, _⟩ := hv9
  obtain ⟨m1, hm⟩ : ∃ m, m = M.length := ⟨_, rfl⟩
  have HM1 := Lib.hid hm
  have PL1 := Lib.hid hv1
  rw [← hm] at PL1 hca1 ⊢
  have H81 := Lib.hid hb1
  unfold maxLen at hcb1
  clear hv1 hb1 hm
  have hy0I : (z0 : Int) < 256 := by omega
  have hy1I : (z1 : Int) < 256 := by omega
  have HZ0 := Lib.hid hz0
  have HZ1 := Lib.hid hz1
  have HL0 := Lib.hid hl0
  have HL1 := Lib.hid hl1
  clear hz0 hz1
  have SM0 := Lib.hid (small_of hs0)
  have hm0 : m0 ≤ 40 := by rw [HM0.out]; exact SM0.out.many
  have hm0I : (m0 : Int) ≤ 40 := by omega
  have HR0 := Lib.hid (show ∀ r ∈ L, Bytes r ∧ r.length ≤ 65536 from fun r hr => ⟨H80.out r hr, by have := SM0.out.each r hr; omega⟩)
  have HMB0 := Lib.hid hs0
  clear hs0
  obtain ⟨q0, hq⟩ : ∃ q, q = (laidAll firstC L).length := ⟨_, rfl⟩
  have HQ0 := Lib.hid hq.symm
  have hq0 : q0 ≤ 40320 := by rw [hq]; exact SM0.out.all _
  have HE0 := Lib.hid (show endN L m0 = q0 by rw [hq, endN_all L firstC, HM0.out])
  clear hq
  have SM1 := Lib.hid (small_of hs1)
  have hm1 : m1 ≤ 40 := by rw [HM1.out]; exact SM1.out.many
  have hm1I : (m1 : Int) ≤ 40 := by omega
  have HR1 := Lib.hid (show ∀ r ∈ M, Bytes r ∧ r.length ≤ 65536 from fun r hr => ⟨H81.out r hr, by have := SM1.out.each r hr; omega⟩)
  have HMB1 := Lib.hid hs1
  clear hs1
  obtain ⟨q1, hq⟩ : ∃ q, q = (laidAll firstC M).length := ⟨_, rfl⟩
  have HQ1 := Lib.hid hq.symm
  have hq1 : q1 ≤ 40320 := by rw [hq]; exact SM1.out.all _
  have HE1 := Lib.hid (show endN M m1 = q1 by rw [hq, endN_all M firstC, HM1.out])
  clear hq
  obtain ⟨i, hk⟩ : ∃ k, k = z0 % (m0 + 1) := ⟨_, rfl⟩
  have ei : (z0 : Int) % ((m0 : Int) + 1) = (i : Int) := by rw [hk, Int.natCast_emod]; rfl
  have hil : i ≤ m0 := by rw [hk]; exact Nat.lt_succ_iff.1 (Nat.mod_lt z0 (Nat.succ_pos m0))
  have hiI : (i : Int) ≤ (m0 : Int) := by omega
  clear hk
  obtain ⟨fr, hfr⟩ : ∃ fr, endN L i = fr := ⟨_, rfl⟩
  have hfr9 : fr ≤ q0 := by rw [← hfr, ← HE0.out, HM0.out]; exact endN_le L i
  have hfrI : (fr : Int) ≤ (q0 : Int) := by omega
  have hq0I : (q0 : Int) ≤ 40320 := by omega
  have HF0 := Lib.hid hfr
  clear hfr
  obtain ⟨k, hk⟩ : ∃ k, k = z1 % (m1 + 1) := ⟨_, rfl⟩
  have ek : (z1 : Int) % ((m1 : Int) + 1) = (k : Int) := by rw [hk, Int.natCast_emod]; rfl
  have hkl : k ≤ m1 := by rw [hk]; exact Nat.lt_succ_iff.1 (Nat.mod_lt z1 (Nat.succ_pos m1))
  have hkI : (k : Int) ≤ (m1 : Int) := by omega
  clear hk
  obtain ⟨to, hfr⟩ : ∃ fr, endN M k = fr := ⟨_, rfl⟩
  have hto9 : to ≤ q1 := by rw [← hfr, ← HE1.out, HM1.out]; exact endN_le M k
  have htoI : (to : Int) ≤ (q1 : Int) := by omega
  have hq1I : (q1 : Int) ≤ 40320 := by omega
  have HF1 := Lib.hid hfr
  clear hfr
  have HW := Lib.hid (told_graft HR0.out HR1.out (j := i) (k := k) (by rw [← HM0.out]; omega) (by rw [← HM1.out]; omega))
  rw [HF0.out, HF1.out] at HW
  obtain ⟨i0, hi, hz0, hz1, hz2⟩ := info_parts infoR2
  have HI := Lib.hid hi
  obtain ⟨ib, hi9, hy0, hy1, hy2⟩ := info_parts infoB
  have HIB := Lib.hid hi9
  clear hi hi9
  have B := Lib.hid (Below.refl w.heap.size w)
  go_enter Tryd.func5, Tryd.ntmps5
  go_wp2_with fail
  obtain ⟨w1, e9⟩ : ∃ w9 : World, w9 = w.alloc (.cells #[.int .u8 z0, .int .u8 z1] 46) := ⟨_, rfl⟩
  have hb : Below w.heap.size w w1 := by rw [e9]; exact (Below.refl _ _).alloc (Nat.le_refl _) _
  obtain ⟨A, hA⟩ : ∃ A, A = w.heap.size := ⟨_, rfl⟩
  have FA := Lib.hid (show w1.heap[A]? = some (.cells #[.int .u8 z0, .int .u8 z1] 46 (0, 0)) by rw [e9, hA]; exact heap_alloc_new w _)
  rw [← e9, ← hA]
  clear e9 hA
  have B := Lib.hid (below_on B.out hb)
  have PL0 := Lib.hid (PL0.out.later hb)
  have PL1 := Lib.hid (PL1.out.later hb)
  clear hb
  refine (many_is w1 PL0.out (fun s hs => by have := HZ0.out s hs; omega) (by have := HL0.out; omega) HMB0.out).mono ?_
  rintro _ w2 ⟨rfl, hb⟩
  have B := Lib.hid (below_on B.out hb)
  have PL0 := Lib.hid (PL0.out.later hb)
  have PL1 := Lib.hid (PL1.out.later hb)
  have FA := Lib.hid (heap_on hb FA.out)
  clear hb
  go_wp2_with fail
  refine (many_is w2 PL1.out (fun s hs => by have := HZ1.out s hs; omega) (by have := HL1.out; omega) HMB1.out).mono ?_
  rintro _ w3 ⟨rfl, hb⟩
  have B := Lib.hid (below_on B.out hb)
  have PL0 := Lib.hid (PL0.out.later hb)
  have PL1 := Lib.hid (PL1.out.later hb)
  have FA := Lib.hid (heap_on hb FA.out)
  clear hb
  go_wp2_with fail
  refine (kept_any 1000000 (by decide) (by decide) PL0.out HR0.out (by rw [HQ0.out]; omega)).mono ?_
  rintro _ w4 ⟨D0, rfl, ht, hb, _⟩
  have T0 := Lib.hid ht
  clear ht
  have B := Lib.hid (below_on B.out hb)
  have PL0 := Lib.hid (PL0.out.later hb)
  have PL1 := Lib.hid (PL1.out.later hb)
  have FA := Lib.hid (heap_on hb FA.out)
  clear hb
  go_wp2_with fail
  refine (kept_any 1000000 (by decide) (by decide) PL1.out HR1.out (by rw [HQ1.out]; omega)).mono ?_
  rintro _ w5 ⟨D1, rfl, ht, hb, _⟩
  have T1 := Lib.hid ht
  clear ht
  have B := Lib.hid (below_on B.out hb)
  have PL0 := Lib.hid (PL0.out.later hb)
  have PL1 := Lib.hid (PL1.out.later hb)
  have T0 := Lib.hid (T0.out.later hb)
  have FA := Lib.hid (heap_on hb FA.out)
  clear hb
  go_wp2_with fail
  refine (row_jd T0.out (by decide) HQ0.out).mono ?_
  rintro _ w6 ⟨a8, c8, rfl, ho, hb⟩
  have KB0 := Lib.hid ho.at_
  have T1 := Lib.hid (T1.out.later hb)
  clear ho T0
  have B := Lib.hid (below_on B.out hb)
  have PL0 := Lib.hid (PL0.out.later hb)
  have PL1 := Lib.hid (PL1.out.later hb)
  have FA := Lib.hid (heap_on hb FA.out)
  clear hb
  go_wp2_with fail
  refine (row_jd T1.out (by decide) HQ1.out).mono ?_
  rintro _ w7 ⟨a9, c9, rfl, ho, hb⟩
  have KB1 := Lib.hid ho.at_
  clear ho T1
  have B := Lib.hid (below_on B.out hb)
  have PL0 := Lib.hid (PL0.out.later hb)
  have PL1 := Lib.hid (PL1.out.later hb)
  have KB0 := Lib.hid (KB0.out.later hb)
  have FA := Lib.hid (heap_on hb FA.out)
  clear hb
  have k0 : w7.cell? ⟨A, 0, none⟩ = some (.int .u8 z0) := cell_of_row _ _ _ _ _ (0, 0) FA.out
  have k1 : w7.cell? ⟨A, 1, none⟩ = some (.int .u8 z1) := cell_of_row _ _ _ _ _ (0, 0) FA.out
  go_wp2_with fail
  refine (end_any PL0.out (by rw [← HM0.out]; omega) (by omega) (fun r hr => by have := SM0.out.each r hr; omega) HE0.out).mono ?_
  rintro _ w8 ⟨rfl, rfl⟩
  go_wp2_with fail
  refine (end_any PL1.out (by rw [← HM1.out]; omega) (by omega) (fun r hr => by have := SM1.out.each r hr; omega) HE1.out).mono ?_
  rintro _ w9 ⟨rfl, rfl⟩
  go_wp2_with fail
  refine (end_any PL0.out (by rw [← HM0.out]; omega) (by omega) (fun r hr => by have := SM0.out.each r hr; omega) HF0.out).mono ?_
  rintro _ w10 ⟨rfl, rfl⟩
  go_wp2_with fail
  refine (end_any PL1.out (by rw [← HM1.out]; omega) (by omega) (fun r hr => by have := SM1.out.each r hr; omega) HF1.out).mono ?_
  rintro _ w11 ⟨rfl, rfl⟩
  clear k0 k1
  obtain ⟨a1, p1, ks1, hp1⟩ := parts_to PL0.out i (by rw [← HM0.out]; omega)
  obtain ⟨a2, p2, ks2, hp2⟩ := parts_from PL1.out k (by rw [← HM1.out]; omega)
  obtain ⟨a3, p3, ks3, hk3⟩ := slice_to KB0.out fr (by rw [HQ0.out]; omega)
  obtain ⟨a4, p4, ks4, hk4⟩ := slice_from KB1.out to (by rw [HQ1.out]; omega)
  obtain ⟨d2, hd2⟩ : ∃ d, d = m1 - k := ⟨_, rfl⟩
  obtain ⟨d4, hd4⟩ : ∃ d, d = q1 - to := ⟨_, rfl⟩
  rw [← HM1.out] at ks2 hp2
  rw [HQ1.out] at ks4 hk4
  rw [← hd2] at ks2 hp2
  rw [← hd4] at ks4 hk4
  have hd2l : d2 ≤ 40 := by omega
  have hd4l : d4 ≤ 40320 := by omega
  have HD2 := Lib.hid hd2
  have HD4 := Lib.hid hd4
  have K3 := Lib.hid hk3
  have K4 := Lib.hid hk4
  have e1 : (L.take i).length = i := by rw [List.length_take, ← HM0.out]; omega
  have e2 : (M.drop k).length = d2 := by rw [List.length_drop, ← HM1.out]; omega
  obtain ⟨xs1, hs1, he1⟩ := hp1.src
  obtain ⟨xs2, hs2, he2⟩ := hp2.src
  rw [e1] at hs1
  rw [e2] at hs2
  have HS1 := Lib.hid hs1
  have HS2 := Lib.hid hs2
  have HX1 := Lib.hid he1
  have HX2 := Lib.hid he2
  have E1 := Lib.hid e1
  have E2 := Lib.hid e2
  obtain ⟨z1, hz1'⟩ : ∃ z, checkS (laidAll firstC L) fr = z := ⟨_, rfl⟩
  obtain ⟨z2, hz2'⟩ : ∃ z, checkS (laidAll firstC M) to = z := ⟨_, rfl⟩
  rw [hz1', hz2'] at HW
  have HZ1 := Lib.hid hz1'
  have HZ2 := Lib.hid hz2'
  clear hk3 hk4 hp1 hp2 hs1 hs2 he1 he2 hd2 hd4 e1 e2 hz1' hz2'
  go_wp2_with (at_builtin; refine wpList_append_W rfl (.const (.slice none 0 0)) (.tmp 85) 22 rfl w7.heap.size 37 i0 (.slice none 0 0) 1 24 Tryd.underlying22 HI.out hz0 hz1 hz2 rfl (.slice none 0 0) 0 [] rfl ⟨rfl, .inl ⟨rfl, rfl⟩⟩ (.slice a1 i p1) i xs1 rfl HS1.out (by unfold maxLen; omega) (by omega) (Nat.le_refl _) ?_; intro v9 w5 hown hgr hlies; rw [Nat.zero_add, List.nil_append] at hown; obtain ⟨aw, cw, rfl⟩ := hown.sl; have HO1 := Lib.hid hown; have HB1 := Lib.hid (below_none hgr); clear hown hgr hlies)
  refine (check_any (KB0.out.later HB1.out) (by rw [HQ0.out]; omega) HZ1.out).mono ?_
  rintro _ x9 ⟨rfl, rfl⟩
  go_wp2_with fail
  refine (check_any (KB1.out.later HB1.out) (by rw [HQ1.out]; omega) HZ2.out).mono ?_
  rintro _ x9 ⟨rfl, rfl⟩
  by_cases heq : z1 = z2
  · subst heq
    rw [if_pos rfl] at HW
    go_wp2_with (at_builtin; refine wpList_append_W rfl (.tmp 94) (.tmp 97) 22 rfl w7.heap.size 37 i0 (.slice none 0 0) 1 24 Tryd.underlying22 HI.out hz0 hz1 hz2 rfl (.slice aw i cw) i xs1 rfl HO1.out (.slice a2 d2 p2) d2 xs2 rfl (src_later HS2.out HB1.out) (by unfold maxLen; omega) (by omega) HB1.out.size ?_; intro v9 w6 hown hgr hlies; obtain ⟨aw2, cw2, rfl⟩ := hown.sl; have HO2 := Lib.hid hown; have HB2 := Lib.hid (below_own HB1.out HO1.out hgr HB1.out.size); clear hown hgr hlies)
    have PW := Lib.hid (parts_join HO2.out (by rw [List.length_append, E1.out, E2.out]) (by rw [xs_len HS1.out, E1.out]) HB2.out HX1.out HX2.out)
    have hb := HB2.out
    have B := Lib.hid (below_on B.out hb)
    have K3 := Lib.hid (K3.out.later hb)
    have K4 := Lib.hid (K4.out.later hb)
    clear hb
    have hb : Below w6.heap.size w6 w6.drew := ⟨rfl, rfl, rfl, Nat.le_refl _, fun _ _ => rfl⟩
    have B := Lib.hid (below_on B.out hb)
    have K3 := Lib.hid (K3.out.later hb)
    have K4 := Lib.hid (K4.out.later hb)
    have PW := Lib.hid (PW.out.later hb)
    clear hb
    refine wp_region_perm [(0, false), (1, true), (2, true), (3, true), (4, true), (6, true), (7, true), (8, true), (10, true), (5, false), (9, false), (11, false), (12, true), (13, true)] (fun _ => True) (by kernel_rfl) (by kernel_rfl) (fun _ _ _ _ _ h => h) (trivial) (fun hHeld => ?_)
    refine WP.step rfl (fun K hK => ?_)
    go_simp
    refine (alive18 _).mono ?_
    rintro _ x1 ⟨rfl, hb⟩
    have B := Lib.hid (below_on B.out hb)
    have K3 := Lib.hid (K3.out.later hb)
    have K4 := Lib.hid (K4.out.later hb)
    have PW := Lib.hid (PW.out.later hb)
    clear hb
    go_wp2_with fail
    obtain ⟨xb, hxb⟩ : ∃ n, n = x1.heap.size := ⟨_, rfl⟩
    have HXB := Lib.hid hxb
    clear hxb
    refine hK.out _ _ (trivial) (fun hHeld => ?_)
    clear hK K
    try simp only [Act.put, List.setIfInBounds_toArray, List.set_cons_zero, List.set_cons_succ]
    refine WP.take (v := ?_) rfl (Or.inl ⟨by rfl, ?_⟩) ?_
    rotate_left
    · intro w8 hSw
      (try dsimp only at hSw)
      go_simp
      any_goals with_reducible rfl
    try simp only [Act.put, List.setIfInBounds_toArray, List.set_cons_zero, List.set_cons_succ]
    refine WP.take (v := ?_) rfl (Or.inl ⟨by rfl, ?_⟩) ?_
    rotate_left
    · intro w8 hSw
      (try dsimp only at hSw)
      go_simp
      any_goals with_reducible rfl
    try simp only [Act.put, List.setIfInBounds_toArray, List.set_cons_zero, List.set_cons_succ]
    refine WP.take (v := ?_) rfl (Or.inl ⟨by rfl, ?_⟩) ?_
    rotate_left
    · intro w8 hSw
      (try dsimp only at hSw)
      go_simp
      any_goals with_reducible rfl
    try simp only [Act.put, List.setIfInBounds_toArray, List.set_cons_zero, List.set_cons_succ]
    refine WP.take (v := ?_) rfl (Or.inl ⟨by rfl, ?_⟩) ?_
    rotate_left
    · intro w8 hSw
      (try dsimp only at hSw)
      go_simp
      any_goals with_reducible rfl
    try simp only [Act.put, List.setIfInBounds_toArray, List.set_cons_zero, List.set_cons_succ]
    refine WP.take (v := ?_) rfl (Or.inl ⟨by rfl, ?_⟩) ?_
    rotate_left
    · intro w8 hSw
      (try dsimp only at hSw)
      go_simp
      any_goals with_reducible rfl
    try simp only [Act.put, List.setIfInBounds_toArray, List.set_cons_zero, List.set_cons_succ]
    refine WP.take (v := ?_) rfl (Or.inl ⟨by rfl, ?_⟩) ?_
    rotate_left
    · intro w8 hSw
      (try dsimp only at hSw)
      go_simp
      any_goals with_reducible rfl
    try simp only [Act.put, List.setIfInBounds_toArray, List.set_cons_zero, List.set_cons_succ]
    refine WP.take (v := ?_) rfl (Or.inl ⟨by rfl, ?_⟩) ?_
    rotate_left
    · intro w8 hSw
      (try dsimp only at hSw)
      go_simp
      any_goals with_reducible rfl
    try simp only [Act.put, List.setIfInBounds_toArray, List.set_cons_zero, List.set_cons_succ]
    refine WP.take (v := ?_) rfl (Or.inl ⟨by rfl, ?_⟩) ?_
    rotate_left
    · intro w8 hSw
      (try dsimp only at hSw)
      go_simp
      any_goals with_reducible rfl
    try simp only [Act.put, List.setIfInBounds_toArray, List.set_cons_zero, List.set_cons_succ]
    refine WP.step rfl (fun K hK => ?_)
    refine ite_then (by rfl) ?_
    refine oper_append_W (.const (.slice none 0 0)) (.tmp 103) 37 rfl xb 5 ib (.int .u8 0) 1 1 Tryd.underlying37 HIB.out hy0 hy1 hy2 rfl (.slice none 0 0) 0 [] rfl ⟨rfl, .inl ⟨rfl, rfl⟩⟩ (.slice a3 fr p3) fr (cellsK .u8 ((laidAll firstC L).take fr)) rfl (by have h9 := K3.out.src; rwa [show ((laidAll firstC L).take fr).length = fr from by rw [List.length_take, HQ0.out]; omega] at h9) (by unfold maxLen; omega) (by omega) (by rw [HXB.out]; exact Nat.le_refl _) ?_
    intro v9 x2 hown hgr hlies
    rw [Nat.zero_add, List.nil_append] at hown
    obtain ⟨ab1, cb1, rfl⟩ := hown.sl
    have HO9 := Lib.hid hown
    have HB9 := Lib.hid (below_none hgr)
    clear hown hgr hlies
    refine hK.out _ _ (trivial) (fun hHeld => ?_)
    clear hK K
    try simp only [Act.put, List.setIfInBounds_toArray, List.set_cons_zero, List.set_cons_succ]
    refine WP.step rfl (fun K hK => ?_)
    refine ite_then (by rfl) ?_
    refine oper_append_W (.tmp 104) (.tmp 107) 37 rfl xb 5 ib (.int .u8 0) 1 1 Tryd.underlying37 HIB.out hy0 hy1 hy2 rfl (.slice ab1 fr cb1) fr (cellsK .u8 ((laidAll firstC L).take fr)) rfl HO9.out (.slice a4 d4 p4) d4 (cellsK .u8 ((laidAll firstC M).drop to)) rfl (by have h9 := (K4.out.later HB9.out).src; rwa [show ((laidAll firstC M).drop to).length = d4 from by rw [List.length_drop, HQ1.out, HD4.out]] at h9) (by unfold maxLen; omega) (by omega) (by rw [HXB.out]; exact HB9.out.size) ?_
    intro v9 x3 hown hgr hlies
    obtain ⟨ab2, cb2, rfl⟩ := hown.sl
    have hbx : Below x1.heap.size x1 x3 := below_own HB9.out (by have := HO9.out; rwa [HXB.out] at this) hgr HB9.out.size
    have hown2 : Own x3 xb (.slice ab2 (fr + d4) cb2) ((laidAll firstC L).take fr ++ (laidAll firstC M).drop to) := by unfold Own; rw [show ((laidAll firstC L).take fr ++ (laidAll firstC M).drop to).length = fr + d4 from by rw [List.length_append, show ((laidAll firstC L).take fr).length = fr from by rw [List.length_take, HQ0.out]; omega, show ((laidAll firstC M).drop to).length = d4 from by rw [List.length_drop, HQ1.out, HD4.out]], show cellsK .u8 ((laidAll firstC L).take fr ++ (laidAll firstC M).drop to) = cellsK .u8 ((laidAll firstC L).take fr) ++ cellsK .u8 ((laidAll firstC M).drop to) from by simp [cellsK]]; exact hown
    have KB := Lib.hid hown2.at_
    have B := Lib.hid (below_on B.out hbx)
    have K3 := Lib.hid (K3.out.later hbx)
    have K4 := Lib.hid (K4.out.later hbx)
    have PW := Lib.hid (PW.out.later hbx)
    clear hown hgr hlies hbx hown2
    refine hK.out _ _ (trivial) (fun hHeld => ?_)
    clear hK K
    try simp only [Act.put, List.setIfInBounds_toArray, List.set_cons_zero, List.set_cons_succ]
    refine WP.step rfl (fun K hK => ?_)
    go_simp
    refine (told_yes KB.out (fun x hx => (List.mem_append.1 hx).elim (fun h => laidAll_bytes _ _ H80.out x (List.mem_of_mem_take h)) fun h => laidAll_bytes _ _ H81.out x (List.mem_of_mem_drop h)) (by rw [List.length_append, show ((laidAll firstC L).take fr).length = fr from by rw [List.length_take, HQ0.out]; omega, show ((laidAll firstC M).drop to).length = d4 from by rw [List.length_drop, HQ1.out, HD4.out]]; omega) PW.out (z := true) (decide_eq_true HW.out)).mono ?_
    rintro _ x4 ⟨rfl, hb⟩
    have B := Lib.hid (below_on B.out hb)
    clear hb
    go_wp2_with fail
    refine hK.out _ _ (trivial) (fun hHeld => ?_)
    clear hK K
    try simp only [Act.put, List.setIfInBounds_toArray, List.set_cons_zero, List.set_cons_succ]
    refine WP.take (v := ?_) rfl (Or.inl ⟨by rfl, ?_⟩) ?_
    rotate_left
    · intro w8 hSw
      (try dsimp only at hSw)
      go_simp
      any_goals with_reducible rfl
    try simp only [Act.put, List.setIfInBounds_toArray, List.set_cons_zero, List.set_cons_succ]
    refine WP.take (v := ?_) rfl (Or.inl ⟨by rfl, ?_⟩) ?_
    rotate_left
    · intro w8 hSw
      (try dsimp only at hSw)
      go_simp
      any_goals with_reducible rfl
    try simp only [Act.put, List.setIfInBounds_toArray, List.set_cons_zero, List.set_cons_succ]
    refine WP.done ?_
    go_wp2_with fail
    go_ret
    exact ⟨rfl, B.out⟩
  · rw [if_neg heq, List.append_nil] at HW
    have heq1 := str_ne heq
    go_wp2_with fail
    have PW := Lib.hid (parts_own (L := L.take i) (by rw [E1.out]; exact HO1.out) fun i l hl => by obtain ⟨u, h1, h2⟩ := HX1.out i l hl; exact ⟨u, h1, h2.later HB1.out⟩)
    have hb := HB1.out
    have B := Lib.hid (below_on B.out hb)
    have K3 := Lib.hid (K3.out.later hb)
    have K4 := Lib.hid (K4.out.later hb)
    clear hb
    have hb : Below w5.heap.size w5 w5.drew := ⟨rfl, rfl, rfl, Nat.le_refl _, fun _ _ => rfl⟩
    have B := Lib.hid (below_on B.out hb)
    have K3 := Lib.hid (K3.out.later hb)
    have K4 := Lib.hid (K4.out.later hb)
    have PW := Lib.hid (PW.out.later hb)
    clear hb
    refine wp_region_perm [(0, false), (1, true), (2, true), (3, true), (4, true), (6, true), (7, true), (8, true), (10, true), (5, false), (9, false), (11, false), (12, true), (13, true)] (fun _ => True) (by kernel_rfl) (by kernel_rfl) (fun _ _ _ _ _ h => h) (trivial) (fun hHeld => ?_)
    refine WP.step rfl (fun K hK => ?_)
    go_simp
    refine (alive18 _).mono ?_
    rintro _ x1 ⟨rfl, hb⟩
    have B := Lib.hid (below_on B.out hb)
    have K3 := Lib.hid (K3.out.later hb)
    have K4 := Lib.hid (K4.out.later hb)
    have PW := Lib.hid (PW.out.later hb)
    clear hb
    go_wp2_with fail
    obtain ⟨xb, hxb⟩ : ∃ n, n = x1.heap.size := ⟨_, rfl⟩
    have HXB := Lib.hid hxb
    clear hxb
    refine hK.out _ _ (trivial) (fun hHeld => ?_)
    clear hK K
    try simp only [Act.put, List.setIfInBounds_toArray, List.set_cons_zero, List.set_cons_succ]
    refine WP.take (v := ?_) rfl (Or.inl ⟨by rfl, ?_⟩) ?_
    rotate_left
    · intro w8 hSw
      (try dsimp only at hSw)
      go_simp
      any_goals with_reducible rfl
    try simp only [Act.put, List.setIfInBounds_toArray, List.set_cons_zero, List.set_cons_succ]
    refine WP.take (v := ?_) rfl (Or.inl ⟨by rfl, ?_⟩) ?_
    rotate_left
    · intro w8 hSw
      (try dsimp only at hSw)
      go_simp
      any_goals with_reducible rfl
    try simp only [Act.put, List.setIfInBounds_toArray, List.set_cons_zero, List.set_cons_succ]
    refine WP.take (v := ?_) rfl (Or.inl ⟨by rfl, ?_⟩) ?_
    rotate_left
    · intro w8 hSw
      (try dsimp only at hSw)
      go_simp
      any_goals with_reducible rfl
    try simp only [Act.put, List.setIfInBounds_toArray, List.set_cons_zero, List.set_cons_succ]
    refine WP.take (v := ?_) rfl (Or.inl ⟨by rfl, ?_⟩) ?_
    rotate_left
    · intro w8 hSw
      (try dsimp only at hSw)
      go_simp
      any_goals with_reducible rfl
    try simp only [Act.put, List.setIfInBounds_toArray, List.set_cons_zero, List.set_cons_succ]
    refine WP.take (v := ?_) rfl (Or.inl ⟨by rfl, ?_⟩) ?_
    rotate_left
    · intro w8 hSw
      (try dsimp only at hSw)
      go_simp
      any_goals with_reducible rfl
    try simp only [Act.put, List.setIfInBounds_toArray, List.set_cons_zero, List.set_cons_succ]
    refine WP.take (v := ?_) rfl (Or.inl ⟨by rfl, ?_⟩) ?_
    rotate_left
    · intro w8 hSw
      (try dsimp only at hSw)
      go_simp
      any_goals with_reducible rfl
    try simp only [Act.put, List.setIfInBounds_toArray, List.set_cons_zero, List.set_cons_succ]
    refine WP.take (v := ?_) rfl (Or.inl ⟨by rfl, ?_⟩) ?_
    rotate_left
    · intro w8 hSw
      (try dsimp only at hSw)
      go_simp
      any_goals with_reducible rfl
    try simp only [Act.put, List.setIfInBounds_toArray, List.set_cons_zero, List.set_cons_succ]
    refine WP.take (v := ?_) rfl (Or.inl ⟨by rfl, ?_⟩) ?_
    rotate_left
    · intro w8 hSw
      (try dsimp only at hSw)
      go_simp
      any_goals with_reducible rfl
    try simp only [Act.put, List.setIfInBounds_toArray, List.set_cons_zero, List.set_cons_succ]
    refine WP.step rfl (fun K hK => ?_)
    refine ite_then (by rfl) ?_
    refine oper_append_W (.const (.slice none 0 0)) (.tmp 103) 37 rfl xb 5 ib (.int .u8 0) 1 1 Tryd.underlying37 HIB.out hy0 hy1 hy2 rfl (.slice none 0 0) 0 [] rfl ⟨rfl, .inl ⟨rfl, rfl⟩⟩ (.slice a3 fr p3) fr (cellsK .u8 ((laidAll firstC L).take fr)) rfl (by have h9 := K3.out.src; rwa [show ((laidAll firstC L).take fr).length = fr from by rw [List.length_take, HQ0.out]; omega] at h9) (by unfold maxLen; omega) (by omega) (by rw [HXB.out]; exact Nat.le_refl _) ?_
    intro v9 x2 hown hgr hlies
    rw [Nat.zero_add, List.nil_append] at hown
    obtain ⟨ab1, cb1, rfl⟩ := hown.sl
    have HO9 := Lib.hid hown
    have HB9 := Lib.hid (below_none hgr)
    clear hown hgr hlies
    refine hK.out _ _ (trivial) (fun hHeld => ?_)
    clear hK K
    try simp only [Act.put, List.setIfInBounds_toArray, List.set_cons_zero, List.set_cons_succ]
    refine WP.step rfl (fun K hK => ?_)
    refine ite_then (by rfl) ?_
    refine oper_append_W (.tmp 104) (.tmp 107) 37 rfl xb 5 ib (.int .u8 0) 1 1 Tryd.underlying37 HIB.out hy0 hy1 hy2 rfl (.slice ab1 fr cb1) fr (cellsK .u8 ((laidAll firstC L).take fr)) rfl HO9.out (.slice a4 d4 p4) d4 (cellsK .u8 ((laidAll firstC M).drop to)) rfl (by have h9 := (K4.out.later HB9.out).src; rwa [show ((laidAll firstC M).drop to).length = d4 from by rw [List.length_drop, HQ1.out, HD4.out]] at h9) (by unfold maxLen; omega) (by omega) (by rw [HXB.out]; exact HB9.out.size) ?_
    intro v9 x3 hown hgr hlies
    obtain ⟨ab2, cb2, rfl⟩ := hown.sl
    have hbx : Below x1.heap.size x1 x3 := below_own HB9.out (by have := HO9.out; rwa [HXB.out] at this) hgr HB9.out.size
    have hown2 : Own x3 xb (.slice ab2 (fr + d4) cb2) ((laidAll firstC L).take fr ++ (laidAll firstC M).drop to) := by unfold Own; rw [show ((laidAll firstC L).take fr ++ (laidAll firstC M).drop to).length = fr + d4 from by rw [List.length_append, show ((laidAll firstC L).take fr).length = fr from by rw [List.length_take, HQ0.out]; omega, show ((laidAll firstC M).drop to).length = d4 from by rw [List.length_drop, HQ1.out, HD4.out]], show cellsK .u8 ((laidAll firstC L).take fr ++ (laidAll firstC M).drop to) = cellsK .u8 ((laidAll firstC L).take fr) ++ cellsK .u8 ((laidAll firstC M).drop to) from by simp [cellsK]]; exact hown
    have KB := Lib.hid hown2.at_
    have B := Lib.hid (below_on B.out hbx)
    have K3 := Lib.hid (K3.out.later hbx)
    have K4 := Lib.hid (K4.out.later hbx)
    have PW := Lib.hid (PW.out.later hbx)
    clear hown hgr hlies hbx hown2
    refine hK.out _ _ (trivial) (fun hHeld => ?_)
    clear hK K
    try simp only [Act.put, List.setIfInBounds_toArray, List.set_cons_zero, List.set_cons_succ]
    refine WP.step rfl (fun K hK => ?_)
    go_simp
    refine (told_yes KB.out (fun x hx => (List.mem_append.1 hx).elim (fun h => laidAll_bytes _ _ H80.out x (List.mem_of_mem_take h)) fun h => laidAll_bytes _ _ H81.out x (List.mem_of_mem_drop h)) (by rw [List.length_append, show ((laidAll firstC L).take fr).length = fr from by rw [List.length_take, HQ0.out]; omega, show ((laidAll firstC M).drop to).length = d4 from by rw [List.length_drop, HQ1.out, HD4.out]]; omega) PW.out (z := true) (decide_eq_true HW.out)).mono ?_
    rintro _ x4 ⟨rfl, hb⟩
    have B := Lib.hid (below_on B.out hb)
    clear hb
    go_wp2_with fail
    refine hK.out _ _ (trivial) (fun hHeld => ?_)
    clear hK K
    try simp only [Act.put, List.setIfInBounds_toArray, List.set_cons_zero, List.set_cons_succ]
    refine WP.take (v := ?_) rfl (Or.inl ⟨by rfl, ?_⟩) ?_
    rotate_left
    · intro w8 hSw
      (try dsimp only at hSw)
      go_simp
      any_goals with_reducible rfl
    try simp only [Act.put, List.setIfInBounds_toArray, List.set_cons_zero, List.set_cons_succ]
    refine WP.take (v := ?_) rfl (Or.inl ⟨by rfl, ?_⟩) ?_
    rotate_left
    · intro w8 hSw
      (try dsimp only at hSw)
      go_simp
      any_goals with_reducible rfl
    try simp only [Act.put, List.setIfInBounds_toArray, List.set_cons_zero, List.set_cons_succ]
    refine WP.done ?_
    go_wp2_with fail
    go_ret
    exact ⟨rfl, B.out⟩
end Go.Proofs.YtjfejpdeccnlnaaDoor
