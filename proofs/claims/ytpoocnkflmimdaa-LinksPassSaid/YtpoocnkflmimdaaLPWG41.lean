/- Layer 15 (dealings): Setting -/
import Derived.Test.YtpoocnkflmimdaaLPWG40
namespace Go.Proofs.Ytpoocnkflmimdaa
open Go.ChangeShapes Go.WideShapes Go.ChangeAt Go.RowKit
/-- Keys in a row. -/
def KeysAt (w : World) (b o : Nat) (ks : List (Nat × Nat)) : Prop := ∀ i k, ks[i]? = some k → (∀ j, j < 4 → w.cell? ⟨b, o + i * 8 + j, none⟩ = some (.int .u64 (dgt W64 k.1 j))) ∧ ∀ j, j < 4 → w.cell? ⟨b, o + i * 8 + (4 + j), none⟩ = some (.int .u64 (dgt W64 k.2 j))
theorem KeysAt.later {w w' : World} {b o : Nat} {ks : List (Nat × Nat)} (h : KeysAt w b o ks) (hb : Below w.heap.size w w') : KeysAt w' b o ks := fun i k hk => ⟨fun j hj => cell_on ((h i k hk).1 j hj) hb, fun j hj => cell_on ((h i k hk).2 j hj) hb⟩
def badKey (gp gq : Nat) (k : Nat × Nat) : Bool := badK gp gq k.1 || badK gp gq k.2
/-- May a setting be? -/
def settingB (gp gq gg gh : Nat) (fa se : Int) (n : Nat) (ks : List (Nat × Nat)) : Bool :=
 if fa < 0 then false else if 2 < fa then false else if se < 1 then false else if fa + 1 < se then false else if (n : Int) < 3 * fa + 1 then false else if 7 < n then false
 else if aboveB gq (n + se.toNat) = false then false else if (badK gp gq gg || badK gp gq gh) = true then false else !ks.any (badKey gp gq)
theorem set_grp {w : World} {gp gq gg gh : Nat} {x y z : Value} {t : TypeId} : GrpAt (w.alloc (.cells #[.int .u64 (dgt W64 gp 0), .int .u64 (dgt W64 gp 1), .int .u64 (dgt W64 gp 2), .int .u64 (dgt W64 gp 3), .int .u64 (dgt W64 gq 0), .int .u64 (dgt W64 gq 1), .int .u64 (dgt W64 gq 2), .int .u64 (dgt W64 gq 3), .int .u64 (dgt W64 gg 0), .int .u64 (dgt W64 gg 1), .int .u64 (dgt W64 gg 2), .int .u64 (dgt W64 gg 3), .int .u64 (dgt W64 gh 0), .int .u64 (dgt W64 gh 1), .int .u64 (dgt W64 gh 2), .int .u64 (dgt W64 gh 3), x, y, z] t)) w.heap.size gp gq gg gh :=
 grp_cells fun j v hj => by
  rw [cell_of_row _ _ _ _ _ _ (heap_alloc_new _ _)]
  have hl := (List.getElem?_eq_some_iff.1 hj).1
  simp only [List.length_cons, List.length_nil] at hl
  rcases (show j = 0 ∨ j = 1 ∨ j = 2 ∨ j = 3 ∨ j = 4 ∨ j = 5 ∨ j = 6 ∨ j = 7 ∨ j = 8 ∨ j = 9 ∨ j = 10 ∨ j = 11 ∨ j = 12 ∨ j = 13 ∨ j = 14 ∨ j = 15 by omega) with rfl | rfl | rfl | rfl | rfl | rfl | rfl | rfl | rfl | rfl | rfl | rfl | rfl | rfl | rfl | rfl <;> exact hj
set_option linter.unusedSimpArgs false in
set_option linter.unusedVariables false in
set_option maxRecDepth 20000 in
set_option maxHeartbeats 4000000 in
theorem set1_any {SB gp gq gg gh : Nat} {k : Nat × Nat} (h1 : k.1 < M256) (h2 : k.2 < M256) (hq : gq < M256) (hm : gp < M256) (w : World) (hg : GrpAt w SB gp gq gg gh) :
  Calls Try.prog 33 #[.agg #[.int .u64 (dgt W64 k.1 0), .int .u64 (dgt W64 k.1 1), .int .u64 (dgt W64 k.1 2), .int .u64 (dgt W64 k.1 3), .int .u64 (dgt W64 k.2 0), .int .u64 (dgt W64 k.2 1), .int .u64 (dgt W64 k.2 2), .int .u64 (dgt W64 k.2 3)], .pointer (some ⟨SB, 0, none⟩)] w fun e w' => e = .returned (.bool (badKey gp gq k)) ∧ Below w.heap.size w w' := by
 have CK := Lib.hid (fun (W : World) (B cap : Nat) hx9 => by have h9 := keys_any (gp := gp) (gq := gq) (gg := gg) (gh := gh) (b := B) (o := 0) (cap := cap) (xs := [k.1, k.2]) (by intro x hx; simp only [List.mem_cons, List.not_mem_nil, or_false] at hx; rcases hx with rfl | rfl; exact h1; exact h2) hq hm (by simp) W hx9; unfold grpV at h9; exact h9)
 have HG := Lib.hid hg
 have hv : [k.1, k.2].any (badK gp gq) = badKey gp gq k := by unfold badKey; simp
 rw [hv] at CK
 obtain ⟨d, hd⟩ : ∃ d, d = badKey gp gq k := ⟨_, rfl⟩
 rw [← hd] at CK ⊢
 obtain ⟨x, y⟩ := k
 clear hv hd hg h1 h2 hq hm
 go_enter Try.func33, Try.ntmps33
 go_upto_region 1 with fail
 obtain ⟨w0, e0⟩ : ∃ w9, w9 = w.alloc (.cells #[.int .u64 (dgt W64 x 0), .int .u64 (dgt W64 x 1), .int .u64 (dgt W64 x 2), .int .u64 (dgt W64 x 3), .int .u64 (dgt W64 y 0), .int .u64 (dgt W64 y 1), .int .u64 (dgt W64 y 2), .int .u64 (dgt W64 y 3)] 59) := ⟨_, rfl⟩
 obtain ⟨KB, hKB⟩ : ∃ b, b = w.heap.size := ⟨_, rfl⟩
 have hb : Below w.heap.size w w0 := by rw [e0]; exact (Below.refl _ _).alloc (Nat.le_refl _) _
 have hrow : w0.heap[KB]? = some (.cells #[.int .u64 (dgt W64 x 0), .int .u64 (dgt W64 x 1), .int .u64 (dgt W64 x 2), .int .u64 (dgt W64 x 3), .int .u64 (dgt W64 y 0), .int .u64 (dgt W64 y 1), .int .u64 (dgt W64 y 2), .int .u64 (dgt W64 y 3)] 59 (0, 0)) := by rw [e0, hKB]; exact heap_alloc_new _ _
 have HX := Lib.hid (show NumO w0 KB 0 x from fun j hj => by rw [cell_of_row _ _ _ _ _ _ hrow]; rcases (show j = 0 ∨ j = 1 ∨ j = 2 ∨ j = 3 by omega) with rfl | rfl | rfl | rfl <;> rfl)
 have HY := Lib.hid (show NumO w0 KB 4 y from fun j hj => by rw [cell_of_row _ _ _ _ _ _ hrow]; rcases (show j = 0 ∨ j = 1 ∨ j = 2 ∨ j = 3 by omega) with rfl | rfl | rfl | rfl <;> rfl)
 have HG := Lib.hid (HG.out.later hb)
 have HB := Lib.hid hb
 rw [← e0, ← hKB]
 clear e0 hKB hb hrow
 refine wp_region_lit ?_
 refine wpList_val (v := .pointer (some ⟨SB, 0, none⟩)) rfl (by kernel_rfl) ?_
 refine wpList_val rfl (run_value_of (loadG HG.out)) ?_
 refine wpList_val (v := .pointer (some ⟨KB, 0, none⟩)) rfl (by kernel_rfl) ?_
 refine wpList_val rfl (run_value_of (loadNo HX.out)) ?_
 refine wpList_val (v := .pointer (some ⟨KB, 4, none⟩)) rfl (by kernel_rfl) ?_
 refine wpList_val rfl (run_value_of (loadNo HY.out)) ?_
 simp only [Act.put, pa, pb, pc]
 go_wp2_with fail
 obtain ⟨w1, e9⟩ : ∃ w9, w9 = w0.alloc (.cells #[.int .u64 (dgt W64 x 0), .int .u64 (dgt W64 x 1), .int .u64 (dgt W64 x 2), .int .u64 (dgt W64 x 3), .int .u64 (dgt W64 y 0), .int .u64 (dgt W64 y 1), .int .u64 (dgt W64 y 2), .int .u64 (dgt W64 y 3)] 24) := ⟨_, rfl⟩
 obtain ⟨PB, h9⟩ : ∃ b, b = w0.heap.size := ⟨_, rfl⟩
 have hb : Below w0.heap.size w0 w1 := by rw [e9]; exact (Below.refl _ _).alloc (Nat.le_refl _) _
 have HP := Lib.hid (show w1.heap[PB]? = some (.cells #[.int .u64 (dgt W64 x 0), .int .u64 (dgt W64 x 1), .int .u64 (dgt W64 x 2), .int .u64 (dgt W64 x 3), .int .u64 (dgt W64 y 0), .int .u64 (dgt W64 y 1), .int .u64 (dgt W64 y 2), .int .u64 (dgt W64 y 3)] 24 (0, 0)) by rw [e9, h9]; exact heap_alloc_new _ _)
 have LPB := Lib.hid (show PB < w1.heap.size by rw [e9, h9]; simp)
 have WPB := Lib.hid (show w0.heap.size = PB from h9.symm)
 rw [← e9, ← h9]
 clear e9 h9
 have HB := Lib.hid (below_later HB.out hb)
 clear hb
 refine (CK.out _ PB _ (nums2 HP.out)).mono ?_
 rintro _ w2 ⟨rfl, hb⟩
 have HB := Lib.hid (below_later HB.out hb)
 clear hb
 go_wp2_with fail
 go_ret
 exact ⟨by simp, HB.out⟩
set_option linter.unusedSimpArgs false in
set_option linter.unusedVariables false in
set_option maxRecDepth 20000 in
set_option maxHeartbeats 4000000 in
theorem idxK_any {SB gp gq gg gh b o cap : Nat} {ks : List (Nat × Nat)} (hx : ∀ k ∈ ks, k.1 < M256 ∧ k.2 < M256) (hq : gq < M256) (hm : gp < M256) (hn0 : ks.length ≤ 1000) (w : World) (hg : GrpAt w SB gp gq gg gh) (h : KeysAt w b o ks) :
  Calls Try.prog 59 #[.slice (some ⟨b, o, none⟩) ks.length cap, .func (.func 33) #[] #[.pointer (some ⟨SB, 0, none⟩)]] w fun e w' => ∃ r : Int, e = .returned (.int .i64 r) ∧ (-1 ≤ r ∧ r ≤ 1000) ∧ decide (0 ≤ r) = ks.any (badKey gp gq) ∧ Below w.heap.size w w' := by
 have HX := Lib.hid h
 have HG := Lib.hid hg
 obtain ⟨n, hn⟩ : ∃ n, n = ks.length := ⟨_, rfl⟩
 have HN := Lib.hid hn
 rw [← hn]
 have hnb : n ≤ 1000 := by omega
 have CK := Lib.hid (fun (k : Nat × Nat) (hx9 : k.1 < M256 ∧ k.2 < M256) (W : World) hg9 => set1_any (SB := SB) (gg := gg) (gh := gh) hx9.1 hx9.2 hq hm W hg9)
 have HXL := Lib.hid hx
 clear h hn hx hq hm hn0 hg
 go_enter Try.func59, Try.ntmps59
 go_wp2_with fail
 go_loopw [8] (fun i wr => ∃ k : Nat, k ≤ n ∧ i = .int .i64 k ∧ Hid ((ks.take k).any (badKey gp gq) = false) ∧ Hid (Below w.heap.size w wr)) (fun i _ => n - (intOf i).toNat)
 case atStart => exact ⟨0, Nat.zero_le _, rfl, Lib.hid rfl, Lib.hid (Below.refl _ _)⟩
 case round =>
  obtain ⟨k, hk, rfl, HK, HB⟩ := hrel
  by_cases hlt : k < n
  ·obtain ⟨x, hx⟩ : ∃ x, ks[k]? = some x := ⟨_, List.getElem?_eq_getElem (by rw [← HN.out]; exact hlt)⟩
   have hltI : (k : Int) < (n : Int) := by omega
   have HLT := Lib.hid hlt
   have HXX := Lib.hid (HXL.out x (List.mem_of_getElem? hx))
   have HXI := Lib.hid hx
   have r0 := cell_on ((HX.out k x hx).1 0 (by decide)) HB.out
   have r1 := cell_on ((HX.out k x hx).1 1 (by decide)) HB.out
   have r2 := cell_on ((HX.out k x hx).1 2 (by decide)) HB.out
   have r3 := cell_on ((HX.out k x hx).1 3 (by decide)) HB.out
   have r4 := cell_on ((HX.out k x hx).2 0 (by decide)) HB.out
   have r5 := cell_on ((HX.out k x hx).2 1 (by decide)) HB.out
   have r6 := cell_on ((HX.out k x hx).2 2 (by decide)) HB.out
   have r7 := cell_on ((HX.out k x hx).2 3 (by decide)) HB.out
   rw [Nat.add_zero] at r0
   simp only [Nat.reduceAdd] at r4 r5 r6 r7
   clear hx hlt
   go_wp2_with fail
   clear r0 r1 r2 r3 r4 r5 r6 r7
   have CKx := Lib.hid (CK.out x HXX.out wr (HG.out.later HB.out))
   by_cases hbad : badKey gp gq x = true
   ·rw [hbad] at CKx
    refine CKx.out.mono ?_
    rintro _ w4 ⟨rfl, hb⟩
    have HB := Lib.hid (below_later HB.out hb)
    have HBD := Lib.hid hbad
    clear hb hbad
    go_wp2_with fail
    go_ret
    exact ⟨_, rfl, ⟨by omega, by have := HLT.out; omega⟩, by
     rw [decide_eq_true (show (0 : Int) ≤ (k : Int) by omega)]
     exact (List.any_eq_true.2 ⟨x, List.mem_of_getElem? HXI.out, HBD.out⟩).symm, HB.out⟩
   ·rw [show badKey gp gq x = false by simpa using hbad] at CKx
    refine CKx.out.mono ?_
    rintro _ w4 ⟨rfl, hb⟩
    have HB := Lib.hid (below_later HB.out hb)
    have HBD := Lib.hid hbad
    clear hb hbad
    go_wp2_with fail
    go_roundw
    case rel => exact ⟨k + 1, HLT.out, by go_num, Lib.hid (by rw [List.take_add_one, HXI.out, List.any_append, HK.out]; simpa using HBD.out), HB⟩
    case measure => simp [intOf]; have := HLT.out; omega
  ·obtain rfl : k = n := by omega
   clear hlt
   go_wp2_with fail
   go_ret
   exact ⟨_, rfl, ⟨by omega, by omega⟩, by
    have h9 := HK.out
    rw [HN.out, List.take_length] at h9
    rw [h9]
    rfl, HB.out⟩
set_option linter.unusedSimpArgs false in
set_option linter.unusedVariables false in
set_option maxRecDepth 20000 in
set_option maxHeartbeats 4000000 in
theorem conK_any {SB gp gq gg gh b o cap : Nat} {ks : List (Nat × Nat)} (hx : ∀ k ∈ ks, k.1 < M256 ∧ k.2 < M256) (hq : gq < M256) (hm : gp < M256) (hn0 : ks.length ≤ 1000) (w : World) (hg : GrpAt w SB gp gq gg gh) (h : KeysAt w b o ks) :
  Calls Try.prog 32 #[.slice (some ⟨b, o, none⟩) ks.length cap, .func (.func 33) #[] #[.pointer (some ⟨SB, 0, none⟩)]] w fun e w' => e = .returned (.bool (ks.any (badKey gp gq))) ∧ Below w.heap.size w w' := by
 have CI := Lib.hid (idxK_any (cap := cap) hx hq hm hn0 w hg h)
 obtain ⟨n, hn⟩ : ∃ n, n = ks.length := ⟨_, rfl⟩
 obtain ⟨d, hd⟩ : ∃ d, d = ks.any (badKey gp gq) := ⟨_, rfl⟩
 rw [← hn, ← hd] at CI ⊢
 clear hn hd hx hq hm hn0 hg h
 go_enter Try.func32, Try.ntmps32
 go_wp2_with fail
 refine CI.out.mono ?_
 rintro _ w1 ⟨r, rfl, ⟨h1, h2⟩, h3, hb⟩
 have HB := Lib.hid hb
 have H3 := Lib.hid h3
 clear h3 hb
 go_wp2_with fail
 go_ret
 exact ⟨by rw [← H3.out]; rfl, HB.out⟩
set_option linter.unusedSimpArgs false in
set_option linter.unusedVariables false in
set_option maxRecDepth 20000 in
set_option maxHeartbeats 4000000 in
theorem dset_0 {gp gq gg gh n cap : Nat} {fa se : Int} {ao : Option Addr} {ks : List (Nat × Nat)}  (h0 : fa < 0) (hx : ∀ k ∈ ks, k.1 < M256 ∧ k.2 < M256) (hq : gq < M256) (hm : gp < M256) (hgg : gg < M256) (hgh : gh < M256) (hn : n = ks.length) (hfa : -9223372036854775808 ≤ fa ∧ fa ≤ 9223372036854775807) (hse : -9223372036854775808 ≤ se ∧ se ≤ 9223372036854775807) (hn9 : n ≤ 140737488355328) (w : World) (hk : 0 < n → ∃ b o, ao = some ⟨b, o, none⟩ ∧ KeysAt w b o ks) :
  Calls Try.prog 13 #[setV gp gq gg gh fa se (.slice ao n cap)] w fun e w' => e = .returned (.bool (settingB gp gq gg gh fa se n ks)) ∧ Below w.heap.size w w' := by
 have hv : settingB gp gq gg gh fa se n ks = false := by unfold settingB; rw [if_pos h0]
 rw [hv]
 clear hv
 obtain ⟨hf1, hf2⟩ := hfa
 obtain ⟨hs1, hs2⟩ := hse
 clear hk hx hq hm hgg hgh hn
 unfold setV
 go_enter Try.func13, Try.ntmps13
 go_upto_region 1 with fail
 obtain ⟨w0, e0⟩ : ∃ w9, w9 = w.alloc (.cells #[.int .u64 (dgt W64 gp 0), .int .u64 (dgt W64 gp 1), .int .u64 (dgt W64 gp 2), .int .u64 (dgt W64 gp 3), .int .u64 (dgt W64 gq 0), .int .u64 (dgt W64 gq 1), .int .u64 (dgt W64 gq 2), .int .u64 (dgt W64 gq 3), .int .u64 (dgt W64 gg 0), .int .u64 (dgt W64 gg 1), .int .u64 (dgt W64 gg 2), .int .u64 (dgt W64 gg 3), .int .u64 (dgt W64 gh 0), .int .u64 (dgt W64 gh 1), .int .u64 (dgt W64 gh 2), .int .u64 (dgt W64 gh 3), .int .i64 fa, .int .i64 se, .slice ao n cap] 34) := ⟨_, rfl⟩
 obtain ⟨SB, hSB⟩ : ∃ b, b = w.heap.size := ⟨_, rfl⟩
 have hb : Below w.heap.size w w0 := by rw [e0]; exact (Below.refl _ _).alloc (Nat.le_refl _) _
 have HG := Lib.hid (show GrpAt w0 SB gp gq gg gh by rw [e0, hSB]; exact set_grp)
 have S16 := Lib.hid (show w0.cell? ⟨SB, 16, none⟩ = some (.int .i64 fa) by rw [e0, hSB, cell_of_row _ _ _ _ _ _ (heap_alloc_new _ _)]; rfl)
 have S17 := Lib.hid (show w0.cell? ⟨SB, 17, none⟩ = some (.int .i64 se) by rw [e0, hSB, cell_of_row _ _ _ _ _ _ (heap_alloc_new _ _)]; rfl)
 have S18 := Lib.hid (show w0.cell? ⟨SB, 18, none⟩ = some (.slice ao n cap) by rw [e0, hSB, cell_of_row _ _ _ _ _ _ (heap_alloc_new _ _)]; rfl)
 have HB := Lib.hid hb
 rw [← e0, ← hSB]
 clear e0 hSB hb
 have q16 := S16.out
 have q17 := S17.out
 have q18 := S18.out
 go_wp2_with fail
 go_ret
 exact ⟨rfl, HB.out⟩
set_option linter.unusedSimpArgs false in
set_option linter.unusedVariables false in
set_option maxRecDepth 20000 in
set_option maxHeartbeats 4000000 in
theorem dset_1 {gp gq gg gh n cap : Nat} {fa se : Int} {ao : Option Addr} {ks : List (Nat × Nat)} (h0 : ¬ fa < 0) (h1 : 2 < fa) (hx : ∀ k ∈ ks, k.1 < M256 ∧ k.2 < M256) (hq : gq < M256) (hm : gp < M256) (hgg : gg < M256) (hgh : gh < M256) (hn : n = ks.length) (hfa : -9223372036854775808 ≤ fa ∧ fa ≤ 9223372036854775807) (hse : -9223372036854775808 ≤ se ∧ se ≤ 9223372036854775807) (hn9 : n ≤ 140737488355328) (w : World) (hk : 0 < n → ∃ b o, ao = some ⟨b, o, none⟩ ∧ KeysAt w b o ks) :
  Calls Try.prog 13 #[setV gp gq gg gh fa se (.slice ao n cap)] w fun e w' => e = .returned (.bool (settingB gp gq gg gh fa se n ks)) ∧ Below w.heap.size w w' := by
 have hv : settingB gp gq gg gh fa se n ks = false := by unfold settingB; rw [if_neg h0, if_pos h1]
 rw [hv]
 clear hv
 obtain ⟨hf1, hf2⟩ := hfa
 obtain ⟨hs1, hs2⟩ := hse
 clear hk hx hq hm hgg hgh hn
 unfold setV
 go_enter Try.func13, Try.ntmps13
 go_upto_region 1 with fail
 obtain ⟨w0, e0⟩ : ∃ w9, w9 = w.alloc (.cells #[.int .u64 (dgt W64 gp 0), .int .u64 (dgt W64 gp 1), .int .u64 (dgt W64 gp 2), .int .u64 (dgt W64 gp 3), .int .u64 (dgt W64 gq 0), .int .u64 (dgt W64 gq 1), .int .u64 (dgt W64 gq 2), .int .u64 (dgt W64 gq 3), .int .u64 (dgt W64 gg 0), .int .u64 (dgt W64 gg 1), .int .u64 (dgt W64 gg 2), .int .u64 (dgt W64 gg 3), .int .u64 (dgt W64 gh 0), .int .u64 (dgt W64 gh 1), .int .u64 (dgt W64 gh 2), .int .u64 (dgt W64 gh 3), .int .i64 fa, .int .i64 se, .slice ao n cap] 34) := ⟨_, rfl⟩
 obtain ⟨SB, hSB⟩ : ∃ b, b = w.heap.size := ⟨_, rfl⟩
 have hb : Below w.heap.size w w0 := by rw [e0]; exact (Below.refl _ _).alloc (Nat.le_refl _) _
 have HG := Lib.hid (show GrpAt w0 SB gp gq gg gh by rw [e0, hSB]; exact set_grp)
 have S16 := Lib.hid (show w0.cell? ⟨SB, 16, none⟩ = some (.int .i64 fa) by rw [e0, hSB, cell_of_row _ _ _ _ _ _ (heap_alloc_new _ _)]; rfl)
 have S17 := Lib.hid (show w0.cell? ⟨SB, 17, none⟩ = some (.int .i64 se) by rw [e0, hSB, cell_of_row _ _ _ _ _ _ (heap_alloc_new _ _)]; rfl)
 have S18 := Lib.hid (show w0.cell? ⟨SB, 18, none⟩ = some (.slice ao n cap) by rw [e0, hSB, cell_of_row _ _ _ _ _ _ (heap_alloc_new _ _)]; rfl)
 have HB := Lib.hid hb
 rw [← e0, ← hSB]
 clear e0 hSB hb
 have q16 := S16.out
 have q17 := S17.out
 have q18 := S18.out
 go_wp2_with fail
 go_ret
 exact ⟨rfl, HB.out⟩
set_option linter.unusedSimpArgs false in
set_option linter.unusedVariables false in
set_option maxRecDepth 20000 in
set_option maxHeartbeats 4000000 in
theorem dset_2 {gp gq gg gh n cap : Nat} {fa se : Int} {ao : Option Addr} {ks : List (Nat × Nat)} (h0 : ¬ fa < 0) (h1 : ¬ 2 < fa) (h2 : se < 1) (hx : ∀ k ∈ ks, k.1 < M256 ∧ k.2 < M256) (hq : gq < M256) (hm : gp < M256) (hgg : gg < M256) (hgh : gh < M256) (hn : n = ks.length) (hfa : -9223372036854775808 ≤ fa ∧ fa ≤ 9223372036854775807) (hse : -9223372036854775808 ≤ se ∧ se ≤ 9223372036854775807) (hn9 : n ≤ 140737488355328) (w : World) (hk : 0 < n → ∃ b o, ao = some ⟨b, o, none⟩ ∧ KeysAt w b o ks) :
  Calls Try.prog 13 #[setV gp gq gg gh fa se (.slice ao n cap)] w fun e w' => e = .returned (.bool (settingB gp gq gg gh fa se n ks)) ∧ Below w.heap.size w w' := by
 have hv : settingB gp gq gg gh fa se n ks = false := by unfold settingB; rw [if_neg h0, if_neg h1, if_pos h2]
 rw [hv]
 clear hv
 obtain ⟨hf1, hf2⟩ := hfa
 obtain ⟨hs1, hs2⟩ := hse
 clear hk hx hq hm hgg hgh hn
 unfold setV
 go_enter Try.func13, Try.ntmps13
 go_upto_region 1 with fail
 obtain ⟨w0, e0⟩ : ∃ w9, w9 = w.alloc (.cells #[.int .u64 (dgt W64 gp 0), .int .u64 (dgt W64 gp 1), .int .u64 (dgt W64 gp 2), .int .u64 (dgt W64 gp 3), .int .u64 (dgt W64 gq 0), .int .u64 (dgt W64 gq 1), .int .u64 (dgt W64 gq 2), .int .u64 (dgt W64 gq 3), .int .u64 (dgt W64 gg 0), .int .u64 (dgt W64 gg 1), .int .u64 (dgt W64 gg 2), .int .u64 (dgt W64 gg 3), .int .u64 (dgt W64 gh 0), .int .u64 (dgt W64 gh 1), .int .u64 (dgt W64 gh 2), .int .u64 (dgt W64 gh 3), .int .i64 fa, .int .i64 se, .slice ao n cap] 34) := ⟨_, rfl⟩
 obtain ⟨SB, hSB⟩ : ∃ b, b = w.heap.size := ⟨_, rfl⟩
 have hb : Below w.heap.size w w0 := by rw [e0]; exact (Below.refl _ _).alloc (Nat.le_refl _) _
 have HG := Lib.hid (show GrpAt w0 SB gp gq gg gh by rw [e0, hSB]; exact set_grp)
 have S16 := Lib.hid (show w0.cell? ⟨SB, 16, none⟩ = some (.int .i64 fa) by rw [e0, hSB, cell_of_row _ _ _ _ _ _ (heap_alloc_new _ _)]; rfl)
 have S17 := Lib.hid (show w0.cell? ⟨SB, 17, none⟩ = some (.int .i64 se) by rw [e0, hSB, cell_of_row _ _ _ _ _ _ (heap_alloc_new _ _)]; rfl)
 have S18 := Lib.hid (show w0.cell? ⟨SB, 18, none⟩ = some (.slice ao n cap) by rw [e0, hSB, cell_of_row _ _ _ _ _ _ (heap_alloc_new _ _)]; rfl)
 have HB := Lib.hid hb
 rw [← e0, ← hSB]
 clear e0 hSB hb
 have q16 := S16.out
 have q17 := S17.out
 have q18 := S18.out
 go_wp2_with fail
 go_ret
 exact ⟨rfl, HB.out⟩
set_option linter.unusedSimpArgs false in
set_option linter.unusedVariables false in
set_option maxRecDepth 20000 in
set_option maxHeartbeats 4000000 in
theorem dset_3 {gp gq gg gh n cap : Nat} {fa se : Int} {ao : Option Addr} {ks : List (Nat × Nat)} (h0 : ¬ fa < 0) (h1 : ¬ 2 < fa) (h2 : ¬ se < 1) (h3 : fa + 1 < se) (hx : ∀ k ∈ ks, k.1 < M256 ∧ k.2 < M256) (hq : gq < M256) (hm : gp < M256) (hgg : gg < M256) (hgh : gh < M256) (hn : n = ks.length) (hfa : -9223372036854775808 ≤ fa ∧ fa ≤ 9223372036854775807) (hse : -9223372036854775808 ≤ se ∧ se ≤ 9223372036854775807) (hn9 : n ≤ 140737488355328) (w : World) (hk : 0 < n → ∃ b o, ao = some ⟨b, o, none⟩ ∧ KeysAt w b o ks) :
  Calls Try.prog 13 #[setV gp gq gg gh fa se (.slice ao n cap)] w fun e w' => e = .returned (.bool (settingB gp gq gg gh fa se n ks)) ∧ Below w.heap.size w w' := by
 have hv : settingB gp gq gg gh fa se n ks = false := by unfold settingB; rw [if_neg h0, if_neg h1, if_neg h2, if_pos h3]
 rw [hv]
 clear hv
 obtain ⟨hf1, hf2⟩ := hfa
 obtain ⟨hs1, hs2⟩ := hse
 clear hk hx hq hm hgg hgh hn
 unfold setV
 go_enter Try.func13, Try.ntmps13
 go_upto_region 1 with fail
 obtain ⟨w0, e0⟩ : ∃ w9, w9 = w.alloc (.cells #[.int .u64 (dgt W64 gp 0), .int .u64 (dgt W64 gp 1), .int .u64 (dgt W64 gp 2), .int .u64 (dgt W64 gp 3), .int .u64 (dgt W64 gq 0), .int .u64 (dgt W64 gq 1), .int .u64 (dgt W64 gq 2), .int .u64 (dgt W64 gq 3), .int .u64 (dgt W64 gg 0), .int .u64 (dgt W64 gg 1), .int .u64 (dgt W64 gg 2), .int .u64 (dgt W64 gg 3), .int .u64 (dgt W64 gh 0), .int .u64 (dgt W64 gh 1), .int .u64 (dgt W64 gh 2), .int .u64 (dgt W64 gh 3), .int .i64 fa, .int .i64 se, .slice ao n cap] 34) := ⟨_, rfl⟩
 obtain ⟨SB, hSB⟩ : ∃ b, b = w.heap.size := ⟨_, rfl⟩
 have hb : Below w.heap.size w w0 := by rw [e0]; exact (Below.refl _ _).alloc (Nat.le_refl _) _
 have HG := Lib.hid (show GrpAt w0 SB gp gq gg gh by rw [e0, hSB]; exact set_grp)
 have S16 := Lib.hid (show w0.cell? ⟨SB, 16, none⟩ = some (.int .i64 fa) by rw [e0, hSB, cell_of_row _ _ _ _ _ _ (heap_alloc_new _ _)]; rfl)
 have S17 := Lib.hid (show w0.cell? ⟨SB, 17, none⟩ = some (.int .i64 se) by rw [e0, hSB, cell_of_row _ _ _ _ _ _ (heap_alloc_new _ _)]; rfl)
 have S18 := Lib.hid (show w0.cell? ⟨SB, 18, none⟩ = some (.slice ao n cap) by rw [e0, hSB, cell_of_row _ _ _ _ _ _ (heap_alloc_new _ _)]; rfl)
 have HB := Lib.hid hb
 rw [← e0, ← hSB]
 clear e0 hSB hb
 have q16 := S16.out
 have q17 := S17.out
 have q18 := S18.out
 go_wp2_with fail
 go_ret
 exact ⟨rfl, HB.out⟩
set_option linter.unusedSimpArgs false in
set_option linter.unusedVariables false in
set_option maxRecDepth 20000 in
set_option maxHeartbeats 4000000 in
theorem dset_4 {gp gq gg gh n cap : Nat} {fa se : Int} {ao : Option Addr} {ks : List (Nat × Nat)} (h0 : ¬ fa < 0) (h1 : ¬ 2 < fa) (h2 : ¬ se < 1) (h3 : ¬ fa + 1 < se) (h4 : (n : Int) < 3 * fa + 1) (hx : ∀ k ∈ ks, k.1 < M256 ∧ k.2 < M256) (hq : gq < M256) (hm : gp < M256) (hgg : gg < M256) (hgh : gh < M256) (hn : n = ks.length) (hfa : -9223372036854775808 ≤ fa ∧ fa ≤ 9223372036854775807) (hse : -9223372036854775808 ≤ se ∧ se ≤ 9223372036854775807) (hn9 : n ≤ 140737488355328) (w : World) (hk : 0 < n → ∃ b o, ao = some ⟨b, o, none⟩ ∧ KeysAt w b o ks) :
  Calls Try.prog 13 #[setV gp gq gg gh fa se (.slice ao n cap)] w fun e w' => e = .returned (.bool (settingB gp gq gg gh fa se n ks)) ∧ Below w.heap.size w w' := by
 have hv : settingB gp gq gg gh fa se n ks = false := by unfold settingB; rw [if_neg h0, if_neg h1, if_neg h2, if_neg h3, if_pos h4]
 rw [hv]
 clear hv
 obtain ⟨hf1, hf2⟩ := hfa
 obtain ⟨hs1, hs2⟩ := hse
 clear hk hx hq hm hgg hgh hn
 unfold setV
 go_enter Try.func13, Try.ntmps13
 go_upto_region 1 with fail
 obtain ⟨w0, e0⟩ : ∃ w9, w9 = w.alloc (.cells #[.int .u64 (dgt W64 gp 0), .int .u64 (dgt W64 gp 1), .int .u64 (dgt W64 gp 2), .int .u64 (dgt W64 gp 3), .int .u64 (dgt W64 gq 0), .int .u64 (dgt W64 gq 1), .int .u64 (dgt W64 gq 2), .int .u64 (dgt W64 gq 3), .int .u64 (dgt W64 gg 0), .int .u64 (dgt W64 gg 1), .int .u64 (dgt W64 gg 2), .int .u64 (dgt W64 gg 3), .int .u64 (dgt W64 gh 0), .int .u64 (dgt W64 gh 1), .int .u64 (dgt W64 gh 2), .int .u64 (dgt W64 gh 3), .int .i64 fa, .int .i64 se, .slice ao n cap] 34) := ⟨_, rfl⟩
 obtain ⟨SB, hSB⟩ : ∃ b, b = w.heap.size := ⟨_, rfl⟩
 have hb : Below w.heap.size w w0 := by rw [e0]; exact (Below.refl _ _).alloc (Nat.le_refl _) _
 have HG := Lib.hid (show GrpAt w0 SB gp gq gg gh by rw [e0, hSB]; exact set_grp)
 have S16 := Lib.hid (show w0.cell? ⟨SB, 16, none⟩ = some (.int .i64 fa) by rw [e0, hSB, cell_of_row _ _ _ _ _ _ (heap_alloc_new _ _)]; rfl)
 have S17 := Lib.hid (show w0.cell? ⟨SB, 17, none⟩ = some (.int .i64 se) by rw [e0, hSB, cell_of_row _ _ _ _ _ _ (heap_alloc_new _ _)]; rfl)
 have S18 := Lib.hid (show w0.cell? ⟨SB, 18, none⟩ = some (.slice ao n cap) by rw [e0, hSB, cell_of_row _ _ _ _ _ _ (heap_alloc_new _ _)]; rfl)
 have HB := Lib.hid hb
 rw [← e0, ← hSB]
 clear e0 hSB hb
 have q16 := S16.out
 have q17 := S17.out
 have q18 := S18.out
 go_wp2_with fail
 go_ret
 exact ⟨rfl, HB.out⟩
set_option linter.unusedSimpArgs false in
set_option linter.unusedVariables false in
set_option maxRecDepth 20000 in
set_option maxHeartbeats 4000000 in
theorem dset_5 {gp gq gg gh n cap : Nat} {fa se : Int} {ao : Option Addr} {ks : List (Nat × Nat)} (h0 : ¬ fa < 0) (h1 : ¬ 2 < fa) (h2 : ¬ se < 1) (h3 : ¬ fa + 1 < se) (h4 : ¬ (n : Int) < 3 * fa + 1) (h5 : 7 < n) (hx : ∀ k ∈ ks, k.1 < M256 ∧ k.2 < M256) (hq : gq < M256) (hm : gp < M256) (hgg : gg < M256) (hgh : gh < M256) (hn : n = ks.length) (hfa : -9223372036854775808 ≤ fa ∧ fa ≤ 9223372036854775807) (hse : -9223372036854775808 ≤ se ∧ se ≤ 9223372036854775807) (hn9 : n ≤ 140737488355328) (w : World) (hk : 0 < n → ∃ b o, ao = some ⟨b, o, none⟩ ∧ KeysAt w b o ks) :
  Calls Try.prog 13 #[setV gp gq gg gh fa se (.slice ao n cap)] w fun e w' => e = .returned (.bool (settingB gp gq gg gh fa se n ks)) ∧ Below w.heap.size w w' := by
 have hv : settingB gp gq gg gh fa se n ks = false := by unfold settingB; rw [if_neg h0, if_neg h1, if_neg h2, if_neg h3, if_neg h4, if_pos h5]
 rw [hv]
 clear hv
 obtain ⟨hf1, hf2⟩ := hfa
 obtain ⟨hs1, hs2⟩ := hse
 have h5I : (7 : Int) < (n : Int) := by omega
 clear hk hx hq hm hgg hgh hn
 unfold setV
 go_enter Try.func13, Try.ntmps13
 go_upto_region 1 with fail
 obtain ⟨w0, e0⟩ : ∃ w9, w9 = w.alloc (.cells #[.int .u64 (dgt W64 gp 0), .int .u64 (dgt W64 gp 1), .int .u64 (dgt W64 gp 2), .int .u64 (dgt W64 gp 3), .int .u64 (dgt W64 gq 0), .int .u64 (dgt W64 gq 1), .int .u64 (dgt W64 gq 2), .int .u64 (dgt W64 gq 3), .int .u64 (dgt W64 gg 0), .int .u64 (dgt W64 gg 1), .int .u64 (dgt W64 gg 2), .int .u64 (dgt W64 gg 3), .int .u64 (dgt W64 gh 0), .int .u64 (dgt W64 gh 1), .int .u64 (dgt W64 gh 2), .int .u64 (dgt W64 gh 3), .int .i64 fa, .int .i64 se, .slice ao n cap] 34) := ⟨_, rfl⟩
 obtain ⟨SB, hSB⟩ : ∃ b, b = w.heap.size := ⟨_, rfl⟩
 have hb : Below w.heap.size w w0 := by rw [e0]; exact (Below.refl _ _).alloc (Nat.le_refl _) _
 have HG := Lib.hid (show GrpAt w0 SB gp gq gg gh by rw [e0, hSB]; exact set_grp)
 have S16 := Lib.hid (show w0.cell? ⟨SB, 16, none⟩ = some (.int .i64 fa) by rw [e0, hSB, cell_of_row _ _ _ _ _ _ (heap_alloc_new _ _)]; rfl)
 have S17 := Lib.hid (show w0.cell? ⟨SB, 17, none⟩ = some (.int .i64 se) by rw [e0, hSB, cell_of_row _ _ _ _ _ _ (heap_alloc_new _ _)]; rfl)
 have S18 := Lib.hid (show w0.cell? ⟨SB, 18, none⟩ = some (.slice ao n cap) by rw [e0, hSB, cell_of_row _ _ _ _ _ _ (heap_alloc_new _ _)]; rfl)
 have HB := Lib.hid hb
 rw [← e0, ← hSB]
 clear e0 hSB hb
 have q16 := S16.out
 have q17 := S17.out
 have q18 := S18.out
 go_wp2_with fail
 go_ret
 exact ⟨rfl, HB.out⟩
set_option linter.unusedSimpArgs false in
set_option linter.unusedVariables false in
set_option maxRecDepth 20000 in
set_option maxHeartbeats 4000000 in
theorem dset_6 {gp gq gg gh n cap : Nat} {fa se : Int} {ao : Option Addr} {ks : List (Nat × Nat)} (h0 : ¬ fa < 0) (h1 : ¬ 2 < fa) (h2 : ¬ se < 1) (h3 : ¬ fa + 1 < se) (h4 : ¬ (n : Int) < 3 * fa + 1) (h5 : ¬ 7 < n) (h6 : aboveB gq (n + se.toNat) = false) (hx : ∀ k ∈ ks, k.1 < M256 ∧ k.2 < M256) (hq : gq < M256) (hm : gp < M256) (hgg : gg < M256) (hgh : gh < M256) (hn : n = ks.length) (hfa : -9223372036854775808 ≤ fa ∧ fa ≤ 9223372036854775807) (hse : -9223372036854775808 ≤ se ∧ se ≤ 9223372036854775807) (hn9 : n ≤ 140737488355328) (w : World) (hk : 0 < n → ∃ b o, ao = some ⟨b, o, none⟩ ∧ KeysAt w b o ks) :
  Calls Try.prog 13 #[setV gp gq gg gh fa se (.slice ao n cap)] w fun e w' => e = .returned (.bool (settingB gp gq gg gh fa se n ks)) ∧ Below w.heap.size w w' := by
 have hv : settingB gp gq gg gh fa se n ks = false := by unfold settingB; rw [if_neg h0, if_neg h1, if_neg h2, if_neg h3, if_neg h4, if_neg h5, if_pos h6]
 rw [hv]
 clear hv
 obtain ⟨hf1, hf2⟩ := hfa
 obtain ⟨hs1, hs2⟩ := hse
 obtain ⟨m, hm9⟩ : ∃ m, m = n + se.toNat := ⟨_, rfl⟩
 have hmI : (n : Int) + se = (m : Int) := by omega
 have hmb : m ≤ 1000 := by omega
 have CA := Lib.hid (fun W => by have h9 := above_any (a := gq) hmb W; rw [show aboveB gq m = false by rw [hm9]; exact h6] at h9; unfold numV words at h9; exact h9)
 clear hm9 h6
 have hn7 : (n : Int) ≤ 1000000 := by omega
 have h5I : ¬ (7 : Int) < (n : Int) := by omega
 clear hk hx hq hm hgg hgh hn
 unfold setV
 go_enter Try.func13, Try.ntmps13
 go_upto_region 1 with fail
 obtain ⟨w0, e0⟩ : ∃ w9, w9 = w.alloc (.cells #[.int .u64 (dgt W64 gp 0), .int .u64 (dgt W64 gp 1), .int .u64 (dgt W64 gp 2), .int .u64 (dgt W64 gp 3), .int .u64 (dgt W64 gq 0), .int .u64 (dgt W64 gq 1), .int .u64 (dgt W64 gq 2), .int .u64 (dgt W64 gq 3), .int .u64 (dgt W64 gg 0), .int .u64 (dgt W64 gg 1), .int .u64 (dgt W64 gg 2), .int .u64 (dgt W64 gg 3), .int .u64 (dgt W64 gh 0), .int .u64 (dgt W64 gh 1), .int .u64 (dgt W64 gh 2), .int .u64 (dgt W64 gh 3), .int .i64 fa, .int .i64 se, .slice ao n cap] 34) := ⟨_, rfl⟩
 obtain ⟨SB, hSB⟩ : ∃ b, b = w.heap.size := ⟨_, rfl⟩
 have hb : Below w.heap.size w w0 := by rw [e0]; exact (Below.refl _ _).alloc (Nat.le_refl _) _
 have HG := Lib.hid (show GrpAt w0 SB gp gq gg gh by rw [e0, hSB]; exact set_grp)
 have S16 := Lib.hid (show w0.cell? ⟨SB, 16, none⟩ = some (.int .i64 fa) by rw [e0, hSB, cell_of_row _ _ _ _ _ _ (heap_alloc_new _ _)]; rfl)
 have S17 := Lib.hid (show w0.cell? ⟨SB, 17, none⟩ = some (.int .i64 se) by rw [e0, hSB, cell_of_row _ _ _ _ _ _ (heap_alloc_new _ _)]; rfl)
 have S18 := Lib.hid (show w0.cell? ⟨SB, 18, none⟩ = some (.slice ao n cap) by rw [e0, hSB, cell_of_row _ _ _ _ _ _ (heap_alloc_new _ _)]; rfl)
 have HB := Lib.hid hb
 rw [← e0, ← hSB]
 clear e0 hSB hb
 have q16 := S16.out
 have q17 := S17.out
 have q18 := S18.out
 obtain ⟨y0, y1, y2, y3, y4, y5, y6, y7, y8, y9, y10, y11, y12, y13, y14, y15⟩ := grp16 HG.out
 go_wp2_with fail
 clear q16 q17 q18 y0 y1 y2 y3 y4 y5 y6 y7 y8 y9 y10 y11 y12 y13 y14 y15
 refine (CA.out _).mono ?_
 rintro _ w1 ⟨rfl, hb⟩
 have HB := Lib.hid (below_later HB.out hb)
 have HG := Lib.hid (HG.out.later hb)
 have S16 := Lib.hid (cell_on S16.out hb)
 have S17 := Lib.hid (cell_on S17.out hb)
 have S18 := Lib.hid (cell_on S18.out hb)
 clear hb
 go_wp2_with fail
 go_ret
 exact ⟨rfl, HB.out⟩
set_option linter.unusedSimpArgs false in
set_option linter.unusedVariables false in
set_option maxRecDepth 20000 in
set_option maxHeartbeats 4000000 in
theorem dset_7 {gp gq gg gh n cap : Nat} {fa se : Int} {ao : Option Addr} {ks : List (Nat × Nat)} (h0 : ¬ fa < 0) (h1 : ¬ 2 < fa) (h2 : ¬ se < 1) (h3 : ¬ fa + 1 < se) (h4 : ¬ (n : Int) < 3 * fa + 1) (h5 : ¬ 7 < n) (h6 : ¬ aboveB gq (n + se.toNat) = false) (h7 : (badK gp gq gg || badK gp gq gh) = true) (hx : ∀ k ∈ ks, k.1 < M256 ∧ k.2 < M256) (hq : gq < M256) (hm : gp < M256) (hgg : gg < M256) (hgh : gh < M256) (hn : n = ks.length) (hfa : -9223372036854775808 ≤ fa ∧ fa ≤ 9223372036854775807) (hse : -9223372036854775808 ≤ se ∧ se ≤ 9223372036854775807) (hn9 : n ≤ 140737488355328) (w : World) (hk : 0 < n → ∃ b o, ao = some ⟨b, o, none⟩ ∧ KeysAt w b o ks) :
  Calls Try.prog 13 #[setV gp gq gg gh fa se (.slice ao n cap)] w fun e w' => e = .returned (.bool (settingB gp gq gg gh fa se n ks)) ∧ Below w.heap.size w w' := by
 have hv : settingB gp gq gg gh fa se n ks = false := by unfold settingB; rw [if_neg h0, if_neg h1, if_neg h2, if_neg h3, if_neg h4, if_neg h5, if_neg h6, if_pos h7]
 rw [hv]
 clear hv
 obtain ⟨hf1, hf2⟩ := hfa
 obtain ⟨hs1, hs2⟩ := hse
 obtain ⟨m, hm9⟩ : ∃ m, m = n + se.toNat := ⟨_, rfl⟩
 have hmI : (n : Int) + se = (m : Int) := by omega
 have hmb : m ≤ 1000 := by omega
 have CA := Lib.hid (fun W => by have h9 := above_any (a := gq) hmb W; rw [show aboveB gq m = true by rw [hm9]; simpa using h6] at h9; unfold numV words at h9; exact h9)
 clear hm9 h6
 have CK := Lib.hid (fun (W : World) (B cap : Nat) hx9 => by have h9 := keys_any (gp := gp) (gq := gq) (gg := gg) (gh := gh) (b := B) (o := 0) (cap := cap) (xs := [gg, gh]) (by intro x hx; simp only [List.mem_cons, List.not_mem_nil, or_false] at hx; rcases hx with rfl | rfl; exact hgg; exact hgh) hq hm (by simp) W hx9; rw [show [gg, gh].any (badK gp gq) = true by simpa using h7] at h9; unfold grpV at h9; exact h9)
 clear h7
 have hn7 : (n : Int) ≤ 1000000 := by omega
 have h5I : ¬ (7 : Int) < (n : Int) := by omega
 clear hk hx hq hm hgg hgh hn
 unfold setV
 go_enter Try.func13, Try.ntmps13
 go_upto_region 1 with fail
 obtain ⟨w0, e0⟩ : ∃ w9, w9 = w.alloc (.cells #[.int .u64 (dgt W64 gp 0), .int .u64 (dgt W64 gp 1), .int .u64 (dgt W64 gp 2), .int .u64 (dgt W64 gp 3), .int .u64 (dgt W64 gq 0), .int .u64 (dgt W64 gq 1), .int .u64 (dgt W64 gq 2), .int .u64 (dgt W64 gq 3), .int .u64 (dgt W64 gg 0), .int .u64 (dgt W64 gg 1), .int .u64 (dgt W64 gg 2), .int .u64 (dgt W64 gg 3), .int .u64 (dgt W64 gh 0), .int .u64 (dgt W64 gh 1), .int .u64 (dgt W64 gh 2), .int .u64 (dgt W64 gh 3), .int .i64 fa, .int .i64 se, .slice ao n cap] 34) := ⟨_, rfl⟩
 obtain ⟨SB, hSB⟩ : ∃ b, b = w.heap.size := ⟨_, rfl⟩
 have hb : Below w.heap.size w w0 := by rw [e0]; exact (Below.refl _ _).alloc (Nat.le_refl _) _
 have HG := Lib.hid (show GrpAt w0 SB gp gq gg gh by rw [e0, hSB]; exact set_grp)
 have S16 := Lib.hid (show w0.cell? ⟨SB, 16, none⟩ = some (.int .i64 fa) by rw [e0, hSB, cell_of_row _ _ _ _ _ _ (heap_alloc_new _ _)]; rfl)
 have S17 := Lib.hid (show w0.cell? ⟨SB, 17, none⟩ = some (.int .i64 se) by rw [e0, hSB, cell_of_row _ _ _ _ _ _ (heap_alloc_new _ _)]; rfl)
 have S18 := Lib.hid (show w0.cell? ⟨SB, 18, none⟩ = some (.slice ao n cap) by rw [e0, hSB, cell_of_row _ _ _ _ _ _ (heap_alloc_new _ _)]; rfl)
 have HB := Lib.hid hb
 rw [← e0, ← hSB]
 clear e0 hSB hb
 have q16 := S16.out
 have q17 := S17.out
 have q18 := S18.out
 obtain ⟨y0, y1, y2, y3, y4, y5, y6, y7, y8, y9, y10, y11, y12, y13, y14, y15⟩ := grp16 HG.out
 go_wp2_with fail
 clear q16 q17 q18 y0 y1 y2 y3 y4 y5 y6 y7 y8 y9 y10 y11 y12 y13 y14 y15
 refine (CA.out _).mono ?_
 rintro _ w1 ⟨rfl, hb⟩
 have HB := Lib.hid (below_later HB.out hb)
 have HG := Lib.hid (HG.out.later hb)
 have S16 := Lib.hid (cell_on S16.out hb)
 have S17 := Lib.hid (cell_on S17.out hb)
 have S18 := Lib.hid (cell_on S18.out hb)
 clear hb
 have q16 := S16.out
 have q17 := S17.out
 have q18 := S18.out
 obtain ⟨y0, y1, y2, y3, y4, y5, y6, y7, y8, y9, y10, y11, y12, y13, y14, y15⟩ := grp16 HG.out
 go_wp2_with fail
 clear q16 q17 q18 y0 y1 y2 y3 y4 y5 y6 y7 y8 y9 y10 y11 y12 y13 y14 y15
 obtain ⟨w2, e9⟩ : ∃ w9, w9 = w1.alloc (.cells #[.int .u64 (dgt W64 gg 0), .int .u64 (dgt W64 gg 1), .int .u64 (dgt W64 gg 2), .int .u64 (dgt W64 gg 3), .int .u64 (dgt W64 gh 0), .int .u64 (dgt W64 gh 1), .int .u64 (dgt W64 gh 2), .int .u64 (dgt W64 gh 3)] 24) := ⟨_, rfl⟩
 obtain ⟨PB, h9⟩ : ∃ b, b = w1.heap.size := ⟨_, rfl⟩
 have hb : Below w1.heap.size w1 w2 := by rw [e9]; exact (Below.refl _ _).alloc (Nat.le_refl _) _
 have HP := Lib.hid (show w2.heap[PB]? = some (.cells #[.int .u64 (dgt W64 gg 0), .int .u64 (dgt W64 gg 1), .int .u64 (dgt W64 gg 2), .int .u64 (dgt W64 gg 3), .int .u64 (dgt W64 gh 0), .int .u64 (dgt W64 gh 1), .int .u64 (dgt W64 gh 2), .int .u64 (dgt W64 gh 3)] 24 (0, 0)) by rw [e9, h9]; exact heap_alloc_new _ _)
 have LPB := Lib.hid (show PB < w2.heap.size by rw [e9, h9]; simp)
 have WPB := Lib.hid (show w1.heap.size = PB from h9.symm)
 rw [← e9, ← h9]
 clear e9 h9
 have HB := Lib.hid (below_later HB.out hb)
 have HG := Lib.hid (HG.out.later hb)
 have S16 := Lib.hid (cell_on S16.out hb)
 have S17 := Lib.hid (cell_on S17.out hb)
 have S18 := Lib.hid (cell_on S18.out hb)
 clear hb
 refine (CK.out _ PB _ (nums2 HP.out)).mono ?_
 rintro _ w3 ⟨rfl, hb⟩
 have HB := Lib.hid (below_later HB.out hb)
 have HG := Lib.hid (HG.out.later hb)
 have S16 := Lib.hid (cell_on S16.out hb)
 have S17 := Lib.hid (cell_on S17.out hb)
 have S18 := Lib.hid (cell_on S18.out hb)
 have LPB := Lib.hid (Nat.lt_of_lt_of_le LPB.out hb.size)
 clear hb
 clear HP
 go_wp2_with fail
 go_ret
 exact ⟨rfl, HB.out⟩
set_option linter.unusedSimpArgs false in
set_option linter.unusedVariables false in
set_option maxRecDepth 20000 in
set_option maxHeartbeats 4000000 in
theorem dset_8 {gp gq gg gh n cap : Nat} {fa se : Int} {ao : Option Addr} {ks : List (Nat × Nat)} (h0 : ¬ fa < 0) (h1 : ¬ 2 < fa) (h2 : ¬ se < 1) (h3 : ¬ fa + 1 < se) (h4 : ¬ (n : Int) < 3 * fa + 1) (h5 : ¬ 7 < n) (h6 : ¬ aboveB gq (n + se.toNat) = false) (h7 : ¬ (badK gp gq gg || badK gp gq gh) = true) (hx : ∀ k ∈ ks, k.1 < M256 ∧ k.2 < M256) (hq : gq < M256) (hm : gp < M256) (hgg : gg < M256) (hgh : gh < M256) (hn : n = ks.length) (hfa : -9223372036854775808 ≤ fa ∧ fa ≤ 9223372036854775807) (hse : -9223372036854775808 ≤ se ∧ se ≤ 9223372036854775807) (hn9 : n ≤ 140737488355328) (w : World) (hk : 0 < n → ∃ b o, ao = some ⟨b, o, none⟩ ∧ KeysAt w b o ks) :
  Calls Try.prog 13 #[setV gp gq gg gh fa se (.slice ao n cap)] w fun e w' => e = .returned (.bool (settingB gp gq gg gh fa se n ks)) ∧ Below w.heap.size w w' := by
 have hv : settingB gp gq gg gh fa se n ks = (!ks.any (badKey gp gq)) := by unfold settingB; rw [if_neg h0, if_neg h1, if_neg h2, if_neg h3, if_neg h4, if_neg h5, if_neg h6, if_neg h7]
 rw [hv]
 clear hv
 obtain ⟨hf1, hf2⟩ := hfa
 obtain ⟨hs1, hs2⟩ := hse
 obtain ⟨m, hm9⟩ : ∃ m, m = n + se.toNat := ⟨_, rfl⟩
 have hmI : (n : Int) + se = (m : Int) := by omega
 have hmb : m ≤ 1000 := by omega
 have CA := Lib.hid (fun W => by have h9 := above_any (a := gq) hmb W; rw [show aboveB gq m = true by rw [hm9]; simpa using h6] at h9; unfold numV words at h9; exact h9)
 clear hm9 h6
 have CK := Lib.hid (fun (W : World) (B cap : Nat) hx9 => by have h9 := keys_any (gp := gp) (gq := gq) (gg := gg) (gh := gh) (b := B) (o := 0) (cap := cap) (xs := [gg, gh]) (by intro x hx; simp only [List.mem_cons, List.not_mem_nil, or_false] at hx; rcases hx with rfl | rfl; exact hgg; exact hgh) hq hm (by simp) W hx9; rw [show [gg, gh].any (badK gp gq) = false by simpa using h7] at h9; unfold grpV at h9; exact h9)
 clear h7
 obtain ⟨b, o, hao, hks⟩ := hk (by omega)
 subst hao
 have CC := Lib.hid (fun (W : World) (SB : Nat) hg9 hk9 => by have h9 := conK_any (SB := SB) (gg := gg) (gh := gh) (b := b) (o := o) (cap := cap) hx hq hm (by omega) W hg9 hk9; rw [← hn] at h9; exact h9)
 have HKS := Lib.hid hks
 obtain ⟨d, hd⟩ : ∃ d, d = ks.any (badKey gp gq) := ⟨_, rfl⟩
 rw [← hd] at CC ⊢
 clear hks hd
 have hn7 : (n : Int) ≤ 1000000 := by omega
 have h5I : ¬ (7 : Int) < (n : Int) := by omega
 clear hk hx hq hm hgg hgh hn
 unfold setV
 go_enter Try.func13, Try.ntmps13
 go_upto_region 1 with fail
 obtain ⟨w0, e0⟩ : ∃ w9, w9 = w.alloc (.cells #[.int .u64 (dgt W64 gp 0), .int .u64 (dgt W64 gp 1), .int .u64 (dgt W64 gp 2), .int .u64 (dgt W64 gp 3), .int .u64 (dgt W64 gq 0), .int .u64 (dgt W64 gq 1), .int .u64 (dgt W64 gq 2), .int .u64 (dgt W64 gq 3), .int .u64 (dgt W64 gg 0), .int .u64 (dgt W64 gg 1), .int .u64 (dgt W64 gg 2), .int .u64 (dgt W64 gg 3), .int .u64 (dgt W64 gh 0), .int .u64 (dgt W64 gh 1), .int .u64 (dgt W64 gh 2), .int .u64 (dgt W64 gh 3), .int .i64 fa, .int .i64 se, .slice (some ⟨b, o, none⟩) n cap] 34) := ⟨_, rfl⟩
 obtain ⟨SB, hSB⟩ : ∃ b, b = w.heap.size := ⟨_, rfl⟩
 have hb : Below w.heap.size w w0 := by rw [e0]; exact (Below.refl _ _).alloc (Nat.le_refl _) _
 have HG := Lib.hid (show GrpAt w0 SB gp gq gg gh by rw [e0, hSB]; exact set_grp)
 have S16 := Lib.hid (show w0.cell? ⟨SB, 16, none⟩ = some (.int .i64 fa) by rw [e0, hSB, cell_of_row _ _ _ _ _ _ (heap_alloc_new _ _)]; rfl)
 have S17 := Lib.hid (show w0.cell? ⟨SB, 17, none⟩ = some (.int .i64 se) by rw [e0, hSB, cell_of_row _ _ _ _ _ _ (heap_alloc_new _ _)]; rfl)
 have S18 := Lib.hid (show w0.cell? ⟨SB, 18, none⟩ = some (.slice (some ⟨b, o, none⟩) n cap) by rw [e0, hSB, cell_of_row _ _ _ _ _ _ (heap_alloc_new _ _)]; rfl)
 have HB := Lib.hid hb
 rw [← e0, ← hSB]
 clear e0 hSB hb
 have HKS := Lib.hid (HKS.out.later HB.out)
 have q16 := S16.out
 have q17 := S17.out
 have q18 := S18.out
 obtain ⟨y0, y1, y2, y3, y4, y5, y6, y7, y8, y9, y10, y11, y12, y13, y14, y15⟩ := grp16 HG.out
 go_wp2_with fail
 clear q16 q17 q18 y0 y1 y2 y3 y4 y5 y6 y7 y8 y9 y10 y11 y12 y13 y14 y15
 refine (CA.out _).mono ?_
 rintro _ w1 ⟨rfl, hb⟩
 have HB := Lib.hid (below_later HB.out hb)
 have HG := Lib.hid (HG.out.later hb)
 have S16 := Lib.hid (cell_on S16.out hb)
 have S17 := Lib.hid (cell_on S17.out hb)
 have S18 := Lib.hid (cell_on S18.out hb)
 have HKS := Lib.hid (HKS.out.later hb)
 clear hb
 have q16 := S16.out
 have q17 := S17.out
 have q18 := S18.out
 obtain ⟨y0, y1, y2, y3, y4, y5, y6, y7, y8, y9, y10, y11, y12, y13, y14, y15⟩ := grp16 HG.out
 go_wp2_with fail
 clear q16 q17 q18 y0 y1 y2 y3 y4 y5 y6 y7 y8 y9 y10 y11 y12 y13 y14 y15
 obtain ⟨w2, e9⟩ : ∃ w9, w9 = w1.alloc (.cells #[.int .u64 (dgt W64 gg 0), .int .u64 (dgt W64 gg 1), .int .u64 (dgt W64 gg 2), .int .u64 (dgt W64 gg 3), .int .u64 (dgt W64 gh 0), .int .u64 (dgt W64 gh 1), .int .u64 (dgt W64 gh 2), .int .u64 (dgt W64 gh 3)] 24) := ⟨_, rfl⟩
 obtain ⟨PB, h9⟩ : ∃ b, b = w1.heap.size := ⟨_, rfl⟩
 have hb : Below w1.heap.size w1 w2 := by rw [e9]; exact (Below.refl _ _).alloc (Nat.le_refl _) _
 have HP := Lib.hid (show w2.heap[PB]? = some (.cells #[.int .u64 (dgt W64 gg 0), .int .u64 (dgt W64 gg 1), .int .u64 (dgt W64 gg 2), .int .u64 (dgt W64 gg 3), .int .u64 (dgt W64 gh 0), .int .u64 (dgt W64 gh 1), .int .u64 (dgt W64 gh 2), .int .u64 (dgt W64 gh 3)] 24 (0, 0)) by rw [e9, h9]; exact heap_alloc_new _ _)
 have LPB := Lib.hid (show PB < w2.heap.size by rw [e9, h9]; simp)
 have WPB := Lib.hid (show w1.heap.size = PB from h9.symm)
 rw [← e9, ← h9]
 clear e9 h9
 have HB := Lib.hid (below_later HB.out hb)
 have HG := Lib.hid (HG.out.later hb)
 have S16 := Lib.hid (cell_on S16.out hb)
 have S17 := Lib.hid (cell_on S17.out hb)
 have S18 := Lib.hid (cell_on S18.out hb)
 have HKS := Lib.hid (HKS.out.later hb)
 clear hb
 refine (CK.out _ PB _ (nums2 HP.out)).mono ?_
 rintro _ w3 ⟨rfl, hb⟩
 have HB := Lib.hid (below_later HB.out hb)
 have HG := Lib.hid (HG.out.later hb)
 have S16 := Lib.hid (cell_on S16.out hb)
 have S17 := Lib.hid (cell_on S17.out hb)
 have S18 := Lib.hid (cell_on S18.out hb)
 have HKS := Lib.hid (HKS.out.later hb)
 have LPB := Lib.hid (Nat.lt_of_lt_of_le LPB.out hb.size)
 clear hb
 clear HP
 have q18 := S18.out
 go_wp2_with fail
 clear q18
 refine (CC.out _ SB HG.out HKS.out).mono ?_
 rintro _ w4 ⟨rfl, hb⟩
 have HB := Lib.hid (below_later HB.out hb)
 clear hb
 go_wp2_with fail
 go_ret
 exact ⟨rfl, HB.out⟩
theorem DSet_any {gp gq gg gh n cap : Nat} {fa se : Int} {ao : Option Addr} {ks : List (Nat × Nat)} (hx : ∀ k ∈ ks, k.1 < M256 ∧ k.2 < M256) (hq : gq < M256) (hm : gp < M256) (hgg : gg < M256) (hgh : gh < M256) (hn : n = ks.length) (hfa : -9223372036854775808 ≤ fa ∧ fa ≤ 9223372036854775807) (hse : -9223372036854775808 ≤ se ∧ se ≤ 9223372036854775807) (hn9 : n ≤ 140737488355328) (w : World) (hk : 0 < n → ∃ b o, ao = some ⟨b, o, none⟩ ∧ KeysAt w b o ks) :
  Calls Try.prog 13 #[setV gp gq gg gh fa se (.slice ao n cap)] w fun e w' => e = .returned (.bool (settingB gp gq gg gh fa se n ks)) ∧ Below w.heap.size w w' := by
 by_cases h0 : fa < 0
 ·exact dset_0 h0 hx hq hm hgg hgh hn hfa hse hn9 w hk
 by_cases h1 : 2 < fa
 ·exact dset_1 h0 h1 hx hq hm hgg hgh hn hfa hse hn9 w hk
 by_cases h2 : se < 1
 ·exact dset_2 h0 h1 h2 hx hq hm hgg hgh hn hfa hse hn9 w hk
 by_cases h3 : fa + 1 < se
 ·exact dset_3 h0 h1 h2 h3 hx hq hm hgg hgh hn hfa hse hn9 w hk
 by_cases h4 : (n : Int) < 3 * fa + 1
 ·exact dset_4 h0 h1 h2 h3 h4 hx hq hm hgg hgh hn hfa hse hn9 w hk
 by_cases h5 : 7 < n
 ·exact dset_5 h0 h1 h2 h3 h4 h5 hx hq hm hgg hgh hn hfa hse hn9 w hk
 by_cases h6 : aboveB gq (n + se.toNat) = false
 ·exact dset_6 h0 h1 h2 h3 h4 h5 h6 hx hq hm hgg hgh hn hfa hse hn9 w hk
 by_cases h7 : (badK gp gq gg || badK gp gq gh) = true
 ·exact dset_7 h0 h1 h2 h3 h4 h5 h6 h7 hx hq hm hgg hgh hn hfa hse hn9 w hk
 exact dset_8 h0 h1 h2 h3 h4 h5 h6 h7 hx hq hm hgg hgh hn hfa hse hn9 w hk
end Go.Proofs.Ytpoocnkflmimdaa
