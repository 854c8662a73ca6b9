/- Layer 15 (dealings): keys -/
import Derived.Test.YtpoocnkflmimdaaLPWG38
import Derived.Test.YtpoocnkflmimdaaLPWG39
namespace Go.Proofs.Ytpoocnkflmimdaa
open Go.ChangeShapes Go.WideShapes Go.ChangeAt Go.RowKit
/-- Is a number none of the group, or 1? -/
def badK (gp gq a : Nat) : Bool := !decide (inG gp gq a) || decide (a = 1)
set_option linter.unusedSimpArgs false in
set_option linter.unusedVariables false in
set_option maxRecDepth 20000 in
set_option maxHeartbeats 4000000 in
theorem keys1_out {GB gp gq gg gh a : Nat} (h : ¬ inG gp gq a) (ha : a < M256) (hq : gq < M256) (hm : gp < M256) (w : World) (hg : GrpAt w GB gp gq gg gh) :
    Calls Try.prog 58 #[numV a, .pointer (some ⟨GB, 0, none⟩)] w fun e w' => e = .returned (.bool (badK gp gq a)) ∧ Below w.heap.size w w' := by
  have CI := Lib.hid (fun W => by have h8 := In_any (gg := gg) (gh := gh) ha hq hm W; rw [decide_eq_false h] at h8; unfold grpV numV words at h8; exact h8)
  have HG := Lib.hid hg
  have hv : badK gp gq a = true := by unfold badK; rw [decide_eq_false h]; rfl
  rw [hv]
  clear h hv hg ha hq hm
  unfold numV words
  go_enter Try.func58, Try.ntmps58
  go_upto_region 1 with fail
  obtain ⟨w0, e0⟩ : ∃ w9, w9 = w.alloc (.cells #[.int .u64 (dgt W64 a 0), .int .u64 (dgt W64 a 1), .int .u64 (dgt W64 a 2), .int .u64 (dgt W64 a 3)] 24) := ⟨_, rfl⟩
  obtain ⟨AB, hAB⟩ : ∃ b, b = w.heap.size := ⟨_, rfl⟩
  have hb : Below w.heap.size w w0 := by rw [e0]; exact (Below.refl _ _).alloc (Nat.le_refl _) _
  have HA := Lib.hid (show NumAt w0 AB a by rw [e0, hAB]; exact NumAt.new _ _ _ _ rfl)
  have HG := Lib.hid (HG.out.later hb)
  have HB := Lib.hid hb
  rw [← e0, ← hAB]
  clear e0 hAB hb
  refine wp_region_lit ?_
  refine wpList_val rfl (run_value_of (loadG HG.out)) ?_
  refine wpList_val rfl (run_value_of (loadN HA.out)) ?_
  simp only [Act.put, pa, pb, pc]
  go_wp2_with fail
  refine (CI.out _).mono ?_
  rintro _ w1 ⟨rfl, hb⟩
  have HA := Lib.hid (NumAt.later hb HA.out)
  have HB := Lib.hid (below_later HB.out hb)
  clear hb
  go_wp2_with fail
  go_ret
  exact ⟨rfl, HB.out⟩
set_option linter.unusedSimpArgs false in
set_option linter.unusedVariables false in
set_option maxRecDepth 20000 in
set_option maxHeartbeats 4000000 in
theorem keys1_one {GB gp gq gg gh a : Nat} (h : inG gp gq a) (h9 : a = 1) (ha : a < M256) (hq : gq < M256) (hm : gp < M256) (w : World) (hg : GrpAt w GB gp gq gg gh) :
    Calls Try.prog 58 #[numV a, .pointer (some ⟨GB, 0, none⟩)] w fun e w' => e = .returned (.bool (badK gp gq a)) ∧ Below w.heap.size w w' := by
  have CI := Lib.hid (fun W => by have h8 := In_any (gg := gg) (gh := gh) ha hq hm W; rw [decide_eq_true h] at h8; unfold grpV numV words at h8; exact h8)
  have HG := Lib.hid hg
  have hv : badK gp gq a = true := by unfold badK; rw [decide_eq_true h]; rw [decide_eq_true h9]; rfl
  rw [hv]
  have heq := eq_num a 1 ha (by decide)
  rw [decide_eq_true h9] at heq
  have z0 : ((dgt W64 1 0 : Nat) : Int) = 1 := by decide
  have z1 : ((dgt W64 1 1 : Nat) : Int) = 0 := by decide
  have z2 : ((dgt W64 1 2 : Nat) : Int) = 0 := by decide
  have z3 : ((dgt W64 1 3 : Nat) : Int) = 0 := by decide
  simp only [z0, z1, z2, z3] at heq
  clear z0 z1 z2 z3 h9
  clear h hv hg ha hq hm
  unfold numV words
  go_enter Try.func58, Try.ntmps58
  go_upto_region 1 with fail
  obtain ⟨w0, e0⟩ : ∃ w9, w9 = w.alloc (.cells #[.int .u64 (dgt W64 a 0), .int .u64 (dgt W64 a 1), .int .u64 (dgt W64 a 2), .int .u64 (dgt W64 a 3)] 24) := ⟨_, rfl⟩
  obtain ⟨AB, hAB⟩ : ∃ b, b = w.heap.size := ⟨_, rfl⟩
  have hb : Below w.heap.size w w0 := by rw [e0]; exact (Below.refl _ _).alloc (Nat.le_refl _) _
  have HA := Lib.hid (show NumAt w0 AB a by rw [e0, hAB]; exact NumAt.new _ _ _ _ rfl)
  have HG := Lib.hid (HG.out.later hb)
  have HB := Lib.hid hb
  rw [← e0, ← hAB]
  clear e0 hAB hb
  refine wp_region_lit ?_
  refine wpList_val rfl (run_value_of (loadG HG.out)) ?_
  refine wpList_val rfl (run_value_of (loadN HA.out)) ?_
  simp only [Act.put, pa, pb, pc]
  go_wp2_with fail
  refine (CI.out _).mono ?_
  rintro _ w1 ⟨rfl, hb⟩
  have HA := Lib.hid (NumAt.later hb HA.out)
  have HB := Lib.hid (below_later HB.out hb)
  clear hb
  obtain ⟨r0, r1, r2, r3⟩ := num4 HA.out
  go_wp2_with fail
  go_ret
  exact ⟨rfl, HB.out⟩
set_option linter.unusedSimpArgs false in
set_option linter.unusedVariables false in
set_option maxRecDepth 20000 in
set_option maxHeartbeats 4000000 in
theorem keys1_in {GB gp gq gg gh a : Nat} (h : inG gp gq a) (h9 : a ≠ 1) (ha : a < M256) (hq : gq < M256) (hm : gp < M256) (w : World) (hg : GrpAt w GB gp gq gg gh) :
    Calls Try.prog 58 #[numV a, .pointer (some ⟨GB, 0, none⟩)] w fun e w' => e = .returned (.bool (badK gp gq a)) ∧ Below w.heap.size w w' := by
  have CI := Lib.hid (fun W => by have h8 := In_any (gg := gg) (gh := gh) ha hq hm W; rw [decide_eq_true h] at h8; unfold grpV numV words at h8; exact h8)
  have HG := Lib.hid hg
  have hv : badK gp gq a = false := by unfold badK; rw [decide_eq_true h]; rw [decide_eq_false h9]; rfl
  rw [hv]
  have heq := eq_num a 1 ha (by decide)
  rw [decide_eq_false h9] at heq
  have z0 : ((dgt W64 1 0 : Nat) : Int) = 1 := by decide
  have z1 : ((dgt W64 1 1 : Nat) : Int) = 0 := by decide
  have z2 : ((dgt W64 1 2 : Nat) : Int) = 0 := by decide
  have z3 : ((dgt W64 1 3 : Nat) : Int) = 0 := by decide
  simp only [z0, z1, z2, z3] at heq
  clear z0 z1 z2 z3 h9
  clear h hv hg ha hq hm
  unfold numV words
  go_enter Try.func58, Try.ntmps58
  go_upto_region 1 with fail
  obtain ⟨w0, e0⟩ : ∃ w9, w9 = w.alloc (.cells #[.int .u64 (dgt W64 a 0), .int .u64 (dgt W64 a 1), .int .u64 (dgt W64 a 2), .int .u64 (dgt W64 a 3)] 24) := ⟨_, rfl⟩
  obtain ⟨AB, hAB⟩ : ∃ b, b = w.heap.size := ⟨_, rfl⟩
  have hb : Below w.heap.size w w0 := by rw [e0]; exact (Below.refl _ _).alloc (Nat.le_refl _) _
  have HA := Lib.hid (show NumAt w0 AB a by rw [e0, hAB]; exact NumAt.new _ _ _ _ rfl)
  have HG := Lib.hid (HG.out.later hb)
  have HB := Lib.hid hb
  rw [← e0, ← hAB]
  clear e0 hAB hb
  refine wp_region_lit ?_
  refine wpList_val rfl (run_value_of (loadG HG.out)) ?_
  refine wpList_val rfl (run_value_of (loadN HA.out)) ?_
  simp only [Act.put, pa, pb, pc]
  go_wp2_with fail
  refine (CI.out _).mono ?_
  rintro _ w1 ⟨rfl, hb⟩
  have HA := Lib.hid (NumAt.later hb HA.out)
  have HB := Lib.hid (below_later HB.out hb)
  clear hb
  obtain ⟨r0, r1, r2, r3⟩ := num4 HA.out
  go_wp2_with fail
  go_ret
  exact ⟨rfl, HB.out⟩
theorem keys1_any {GB gp gq gg gh a : Nat} (ha : a < M256) (hq : gq < M256) (hm : gp < M256) (w : World) (hg : GrpAt w GB gp gq gg gh) :
    Calls Try.prog 58 #[numV a, .pointer (some ⟨GB, 0, none⟩)] w fun e w' => e = .returned (.bool (badK gp gq a)) ∧ Below w.heap.size w w' := by
  by_cases h : inG gp gq a
  · by_cases h9 : a = 1
    · exact keys1_one h h9 ha hq hm w hg
    · exact keys1_in h h9 ha hq hm w hg
  · exact keys1_out h ha hq hm w hg
set_option linter.unusedSimpArgs false in
set_option linter.unusedVariables false in
set_option maxRecDepth 20000 in
set_option maxHeartbeats 4000000 in
theorem idxN_any {GB gp gq gg gh b o cap : Nat} {xs : List Nat} (hx : ∀ x ∈ xs, x < M256) (hq : gq < M256) (hm : gp < M256) (hn0 : xs.length ≤ 1000) (w : World) (hg : GrpAt w GB gp gq gg gh) (h : NumsAt w b o xs) :
    Calls Try.prog 80 #[.slice (some ⟨b, o, none⟩) xs.length cap, .func (.func 58) #[] #[.pointer (some ⟨GB, 0, none⟩)]] w fun e w' => ∃ r : Int, e = .returned (.int .i64 r) ∧ (-1 ≤ r ∧ r ≤ 1000) ∧ decide (0 ≤ r) = xs.any (badK gp gq) ∧ Below w.heap.size w w' := by
  have HX := Lib.hid h
  have HG := Lib.hid hg
  obtain ⟨n, hn⟩ : ∃ n, n = xs.length := ⟨_, rfl⟩
  have HN := Lib.hid hn
  rw [← hn]
  have hnb : n ≤ 1000 := by omega
  have CK := Lib.hid (fun (x : Nat) (hx9 : x < M256) (W : World) hg9 => by have h9 := keys1_any (GB := GB) (gg := gg) (gh := gh) hx9 hq hm W hg9; unfold numV words at h9; exact h9)
  have HXL := Lib.hid hx
  clear h hn hx hq hm hn0 hg
  go_enter Try.func80, Try.ntmps80
  go_wp2_with fail
  go_loopw [8] (fun i wr => ∃ k : Nat, k ≤ n ∧ i = .int .i64 k ∧ Hid ((xs.take k).any (badK gp gq) = false) ∧ Hid (Below w.heap.size w wr)) (fun i _ => n - (intOf i).toNat)
  case atStart => exact ⟨0, Nat.zero_le _, rfl, Lib.hid rfl, Lib.hid (Below.refl _ _)⟩
  case round =>
    obtain ⟨k, hk, rfl, HK, HB⟩ := hrel
    by_cases hlt : k < n
    · obtain ⟨x, hx⟩ : ∃ x, xs[k]? = some x := ⟨_, List.getElem?_eq_getElem (by rw [← HN.out]; exact hlt)⟩
      have hltI : (k : Int) < (n : Int) := by omega
      have HLT := Lib.hid hlt
      have HXX := Lib.hid (HXL.out x (List.mem_of_getElem? hx))
      have HXI := Lib.hid hx
      have r0 := cell_on (HX.out k x hx 0 (by decide)) HB.out
      have r1 := cell_on (HX.out k x hx 1 (by decide)) HB.out
      have r2 := cell_on (HX.out k x hx 2 (by decide)) HB.out
      have r3 := cell_on (HX.out k x hx 3 (by decide)) HB.out
      rw [Nat.add_zero] at r0
      clear hx hlt
      go_wp2_with fail
      clear r0 r1 r2 r3
      have CKx := Lib.hid (CK.out x HXX.out wr (HG.out.later HB.out))
      by_cases hbad : badK gp gq x = true
      · rw [hbad] at CKx
        refine CKx.out.mono ?_
        rintro _ w4 ⟨rfl, hb⟩
        have HB := Lib.hid (below_later HB.out hb)
        have HBD := Lib.hid hbad
        clear hb hbad
        go_wp2_with fail
        go_ret
        exact ⟨_, rfl, ⟨by omega, by have := HLT.out; omega⟩, by
          rw [decide_eq_true (show (0 : Int) ≤ (k : Int) by omega)]
          exact (List.any_eq_true.2 ⟨x, List.mem_of_getElem? HXI.out, HBD.out⟩).symm, HB.out⟩
      · rw [show badK gp gq x = false by simpa using hbad] at CKx
        refine CKx.out.mono ?_
        rintro _ w4 ⟨rfl, hb⟩
        have HB := Lib.hid (below_later HB.out hb)
        have HBD := Lib.hid hbad
        clear hb hbad
        go_wp2_with fail
        go_roundw
        case rel => exact ⟨k + 1, HLT.out, by go_num, Lib.hid (by rw [List.take_add_one, HXI.out, List.any_append, HK.out]; simpa using HBD.out), HB⟩
        case measure => simp [intOf]; have := HLT.out; omega
    · obtain rfl : k = n := by omega
      clear hlt
      go_wp2_with fail
      go_ret
      exact ⟨_, rfl, ⟨by omega, by omega⟩, by
        have h9 := HK.out
        rw [HN.out, List.take_length] at h9
        rw [h9]
        rfl, HB.out⟩
set_option linter.unusedSimpArgs false in
set_option linter.unusedVariables false in
set_option maxRecDepth 20000 in
set_option maxHeartbeats 4000000 in
theorem conN_any {GB gp gq gg gh b o cap : Nat} {xs : List Nat} (hx : ∀ x ∈ xs, x < M256) (hq : gq < M256) (hm : gp < M256) (hn0 : xs.length ≤ 1000) (w : World) (hg : GrpAt w GB gp gq gg gh) (h : NumsAt w b o xs) :
    Calls Try.prog 57 #[.slice (some ⟨b, o, none⟩) xs.length cap, .func (.func 58) #[] #[.pointer (some ⟨GB, 0, none⟩)]] w fun e w' => e = .returned (.bool (xs.any (badK gp gq))) ∧ Below w.heap.size w w' := by
  have CI := Lib.hid (idxN_any (cap := cap) hx hq hm hn0 w hg h)
  obtain ⟨n, hn⟩ : ∃ n, n = xs.length := ⟨_, rfl⟩
  obtain ⟨d, hd⟩ : ∃ d, d = xs.any (badK gp gq) := ⟨_, rfl⟩
  rw [← hn, ← hd] at CI ⊢
  clear hn hd hx hq hm hn0 hg h
  go_enter Try.func57, Try.ntmps57
  go_wp2_with fail
  refine CI.out.mono ?_
  rintro _ w1 ⟨r, rfl, ⟨h1, h2⟩, h3, hb⟩
  have HB := Lib.hid hb
  have H3 := Lib.hid h3
  clear h3 hb
  go_wp2_with fail
  go_ret
  exact ⟨by rw [← H3.out]; rfl, HB.out⟩
set_option linter.unusedSimpArgs false in
set_option linter.unusedVariables false in
set_option maxRecDepth 20000 in
set_option maxHeartbeats 4000000 in
theorem keys_any {gp gq gg gh b o cap : Nat} {xs : List Nat} (hx : ∀ x ∈ xs, x < M256) (hq : gq < M256) (hm : gp < M256) (hn0 : xs.length ≤ 1000) (w : World) (h : NumsAt w b o xs) :
    Calls Try.prog 31 #[grpV gp gq gg gh, .slice (some ⟨b, o, none⟩) xs.length cap] w fun e w' => e = .returned (.bool (!xs.any (badK gp gq))) ∧ Below w.heap.size w w' := by
  have CC := Lib.hid (fun (W : World) (GB : Nat) hg9 hx9 => conN_any (GB := GB) (gg := gg) (gh := gh) (o := o) (cap := cap) (b := b) hx hq hm hn0 W hg9 hx9)
  have HX := Lib.hid h
  obtain ⟨n, hn⟩ : ∃ n, n = xs.length := ⟨_, rfl⟩
  obtain ⟨d, hd⟩ : ∃ d, d = xs.any (badK gp gq) := ⟨_, rfl⟩
  rw [← hn, ← hd] at CC ⊢
  clear hn hd hx hq hm hn0 h
  unfold grpV
  go_enter Try.func31, Try.ntmps31
  go_upto_region 1 with fail
  obtain ⟨w0, e0⟩ : ∃ w9, w9 = w.alloc (.cells #[.int .u64 (dgt W64 gp 0), .int .u64 (dgt W64 gp 1), .int .u64 (dgt W64 gp 2), .int .u64 (dgt W64 gp 3), .int .u64 (dgt W64 gq 0), .int .u64 (dgt W64 gq 1), .int .u64 (dgt W64 gq 2), .int .u64 (dgt W64 gq 3), .int .u64 (dgt W64 gg 0), .int .u64 (dgt W64 gg 1), .int .u64 (dgt W64 gg 2), .int .u64 (dgt W64 gg 3), .int .u64 (dgt W64 gh 0), .int .u64 (dgt W64 gh 1), .int .u64 (dgt W64 gh 2), .int .u64 (dgt W64 gh 3)] 26) := ⟨_, rfl⟩
  obtain ⟨GG, hGG⟩ : ∃ b, b = w.heap.size := ⟨_, rfl⟩
  have hb : Below w.heap.size w w0 := by rw [e0]; exact (Below.refl _ _).alloc (Nat.le_refl _) _
  have HG := Lib.hid (show GrpAt w0 GG gp gq gg gh by rw [e0, hGG]; exact GrpAt.new _ _ _ _ _ _)
  have HB := Lib.hid hb
  rw [← e0, ← hGG]
  clear e0 hGG hb
  go_wp2_with fail
  refine (CC.out _ GG HG.out (HX.out.later HB.out)).mono ?_
  rintro _ w1 ⟨rfl, hb⟩
  have HB := Lib.hid (below_later HB.out hb)
  clear hb
  go_wp2_with fail
  go_ret
  exact ⟨rfl, HB.out⟩
end Go.Proofs.Ytpoocnkflmimdaa
