/- Layer 20 (links): ends, and a frame's Hash; Layer 20 (links): Seal, in a setting that may be; LinksSame: the walk -/
import Derived.Test.YtpoocnkflmimdaaLSWG35
import Derived.Test.YtpoocnkflmimdaaLSWG37
import Derived.Test.YtpoocnkflmimdaaLSWG18
import Derived.Deep.DeepCutAuto
import Derived.Test.YtpoocnkflmimdaaLSWG42
import Derived.Test.YtpoocnkflmimdaaLSWG40
import Derived.Test.YtpoocnkflmimdaaLSWG43
import Derived.Test.YtpoocnkflmimdaaLSWG44
import Derived.Test.YtpoocnkflmimdaaLSWG45
namespace Go.Proofs.Ytpoocnkflmimdaa
open Go.ChangeShapes Go.WideShapes Go.ChangeAt Go.RowKit
end Go.Proofs.Ytpoocnkflmimdaa
namespace Go.Proofs.Ytpoocnkflmimdaa
open Go.ChangeShapes Go.WideShapes Go.ChangeAt Go.RowKit
end Go.Proofs.Ytpoocnkflmimdaa
namespace Go.Proofs.Ytpoocnkflmimdaa
open Go.ChangeShapes Go.WideShapes Go.ChangeAt Go.RowKit
theorem lawset_any {gp gq gg gh lg n cap : Nat} {fa se : Int} {ao : Option Addr} {sk : List (Nat × Nat)} (hgp : gp < M256) (hgq : gq < M256) (hgg : gg < M256) (hlg : lg < M256) (hfa : -9223372036854775808 ≤ fa ∧ fa ≤ 9223372036854775807) (hse : -9223372036854775808 ≤ se ∧ se ≤ 9223372036854775807) (hsk : ∀ k ∈ sk, k.1 < M256 ∧ k.2 < M256) (hn : n = sk.length) (hcap : n ≤ cap) (hcm : cap ≤ maxLen) (w : World) (hk : 0 < n → ∃ b o, ao = some ⟨b, o, none⟩ ∧ KeysAt w b o sk) :
    Calls Try.prog 5 #[castV gp gq gg gh lg fa se (.slice ao n cap)] w fun e w' => ∃ (p q g h : Nat) (f s : Int) (a : Option Addr) (n9 c9 : Nat) (ok : Bool), e = .returned (.tuple #[setV p q g h f s (.slice a n9 c9), .bool ok]) ∧ (ok = true → p = gp ∧ q = gq ∧ g = gg ∧ h = gg ^ lg % gp ∧ f = fa ∧ s = se ∧ n9 = n ∧ SetOk w' gp gq gg lg n fa se sk a) ∧ Below w.heap.size w w' := by
  by_cases hm : mayG gp gg
  · by_cases h0 : lg = 0
    · exact lawset_log hm h0 hgp hgq hgg hlg hfa hse hsk hn hcap hcm w hk
    · by_cases h1 : 7 < n
      · exact lawset_many hm h0 h1 hgp hgq hgg hlg hfa hse hsk hn hcap hcm w hk
      · exact lawset_main hm h0 (by omega) hgp hgq hgg hlg hfa hse hsk hn hcap hcm w hk
  · exact lawset_nomay hm hgp hgq hgg hlg hfa hse hsk hn hcap hcm w hk
theorem KeysAt.num {w : World} {b o i : Nat} {ks : List (Nat × Nat)} {k : Nat × Nat} (h : KeysAt w b o ks) (hk : ks[i]? = some k) : NumO w b (o + i * 8) k.1 := fun j hj => (h i k hk).1 j hj
set_option linter.unusedSimpArgs false in
set_option linter.unusedVariables false in
set_option maxRecDepth 20000 in
set_option maxHeartbeats 4000000 in
theorem linksSame_walk {gp gq gg gh lg n cap : Nat} {fa se : Int} {ao : Option Addr} {sk : List (Nat × Nat)} {h : List Nat} {who : Nat} (hgp : gp < M256) (hgq : gq < M256) (hgg : gg < M256) (hlg : lg < M256) (hfa : -9223372036854775808 ≤ fa ∧ fa ≤ 9223372036854775807) (hse : -9223372036854775808 ≤ se ∧ se ≤ 9223372036854775807) (hsk : ∀ k ∈ sk, k.1 < M256 ∧ k.2 < M256) (hn : n = sk.length) (hcap : n ≤ cap) (hcm : cap ≤ maxLen) (hl : h.length = 32) (hb9 : Bytes h) (hwho : who < 256) (w : World) (hk : 0 < n → ∃ b o, ao = some ⟨b, o, none⟩ ∧ KeysAt w b o sk) :
    Calls Try.prog 3 #[castV gp gq gg gh lg fa se (.slice ao n cap), .agg (cellsK .u8 h).toArray, .int .u8 who] w fun e w' => e = .returned (.bool true) ∧ Below w.heap.size w w' := by
  have CW := Lib.hid (fun (W : World) (hb : Below w.heap.size w W) => by have h9 := lawset_any (gh := gh) hgp hgq hgg hlg hfa hse hsk hn hcap hcm W (fun h0 => by obtain ⟨b, o, h1, h2⟩ := hk h0; exact ⟨b, o, h1, h2.later hb⟩); simp only [castV, setV] at h9; exact h9)
  have HGP := Lib.hid hgp
  have HGG := Lib.hid hgg
  have HGQ := Lib.hid hgq
  have HSK := Lib.hid hsk
  have HN := Lib.hid hn
  have HL := Lib.hid hl
  have HB32 := Lib.hid hb9
  have HK := Lib.hid hk
  have g1 : (0 : Int) ≤ (who : Int) := by omega
  have g2 : (who : Int) < 256 := by omega
  obtain ⟨T, hT⟩ : ∃ T, T = (cellsK .u8 h).toArray := ⟨_, rfl⟩
  have HT := Lib.hid hT
  have hszT : (Try.prog.info? 31).map (·.size) = some T.size := by rw [info_hash, hT]; simp [cellsK_length, hl]
  rw [← hT]
  have hcx : cap ≤ 9223372036854775807 := by unfold maxLen at hcm; omega
  have hnx : n ≤ 9223372036854775807 := by omega
  clear hgp hgq hgg hlg hfa hse hsk hn hcap hcm hk hl hb9 hwho hT
  unfold castV
  go_enter Try.func3, Try.ntmps3
  go_upto_region 1 with fail
  obtain ⟨v_0, e0⟩ : ∃ w9, w9 = w.alloc (.cells #[.int .u64 (dgt W64 gp 0), .int .u64 (dgt W64 gp 1), .int .u64 (dgt W64 gp 2), .int .u64 (dgt W64 gp 3), .int .u64 (dgt W64 gq 0), .int .u64 (dgt W64 gq 1), .int .u64 (dgt W64 gq 2), .int .u64 (dgt W64 gq 3), .int .u64 (dgt W64 gg 0), .int .u64 (dgt W64 gg 1), .int .u64 (dgt W64 gg 2), .int .u64 (dgt W64 gg 3), .int .u64 (dgt W64 gh 0), .int .u64 (dgt W64 gh 1), .int .u64 (dgt W64 gh 2), .int .u64 (dgt W64 gh 3), .int .u64 (dgt W64 lg 0), .int .u64 (dgt W64 lg 1), .int .u64 (dgt W64 lg 2), .int .u64 (dgt W64 lg 3), .int .i64 fa, .int .i64 se, .slice ao n cap] 29) := ⟨_, rfl⟩
  obtain ⟨v_1, e1⟩ : ∃ w9, w9 = v_0.alloc (.cells T 31) := ⟨_, rfl⟩
  have s0 : v_0.heap.size = w.heap.size + 1 := by rw [e0]; simp
  have b0 : Below w.heap.size w v_0 := by rw [e0]; exact (Below.refl _ _).alloc (Nat.le_refl _) _
  have b1 : Below v_0.heap.size v_0 v_1 := by rw [e1]; exact (Below.refl _ _).alloc (Nat.le_refl _) _
  have f0 : GrpAt v_0 w.heap.size gp gq gg gh := by rw [e0]; exact cast_grp
  have f1 : NumO v_0 w.heap.size 16 lg := fun j hj => by rw [e0, cell_of_row _ _ _ _ _ _ (heap_alloc_new _ _)]; rcases (show j = 0 ∨ j = 1 ∨ j = 2 ∨ j = 3 by omega) with rfl | rfl | rfl | rfl <;> rfl
  have f20 : v_0.cell? ⟨w.heap.size, 20, none⟩ = some (.int .i64 fa) := by rw [e0, cell_of_row _ _ _ _ _ _ (heap_alloc_new _ _)]; rfl
  have f21 : v_0.cell? ⟨w.heap.size, 21, none⟩ = some (.int .i64 se) := by rw [e0, cell_of_row _ _ _ _ _ _ (heap_alloc_new _ _)]; rfl
  have f22 : v_0.cell? ⟨w.heap.size, 22, none⟩ = some (.slice ao n cap) := by rw [e0, cell_of_row _ _ _ _ _ _ (heap_alloc_new _ _)]; rfl
  have f9 : v_1.heap[w.heap.size + 1]? = some (.cells T 31 (0, 0)) := by rw [← s0, e1]; exact heap_alloc_new _ _
  rw [← e0, ← e1]
  obtain ⟨CB, hCB⟩ : ∃ b, b = w.heap.size := ⟨_, rfl⟩
  rw [← hCB] at f0 f1 f20 f21 f22 f9 ⊢
  obtain ⟨HB9, hHB⟩ : ∃ b, b = CB + 1 := ⟨_, rfl⟩
  rw [← hHB] at f9 ⊢
  have HC := Lib.hid (f0.later b1)
  have HLg := Lib.hid (NumO.later b1 f1)
  have C20 := Lib.hid (cell_on f20 b1)
  have C21 := Lib.hid (cell_on f21 b1)
  have C22 := Lib.hid (cell_on f22 b1)
  have HH := Lib.hid f9
  have HB := Lib.hid (below_later b0 b1)
  clear e0 e1 s0 b0 b1 f0 f1 f20 f21 f22 f9 hCB hHB
  refine wp_region_lit ?_
  refine wpList_val (v := .agg #[.int .u64 (dgt W64 gp 0), .int .u64 (dgt W64 gp 1), .int .u64 (dgt W64 gp 2), .int .u64 (dgt W64 gp 3), .int .u64 (dgt W64 gq 0), .int .u64 (dgt W64 gq 1), .int .u64 (dgt W64 gq 2), .int .u64 (dgt W64 gq 3), .int .u64 (dgt W64 gg 0), .int .u64 (dgt W64 gg 1), .int .u64 (dgt W64 gg 2), .int .u64 (dgt W64 gg 3), .int .u64 (dgt W64 gh 0), .int .u64 (dgt W64 gh 1), .int .u64 (dgt W64 gh 2), .int .u64 (dgt W64 gh 3), .int .u64 (dgt W64 lg 0), .int .u64 (dgt W64 lg 1), .int .u64 (dgt W64 lg 2), .int .u64 (dgt W64 lg 3), .int .i64 fa, .int .i64 se, .slice ao n cap]) rfl (run_value_of (loadC9 HC.out HLg.out C20.out C21.out C22.out)) ?_
  simp only [Act.put, List.setIfInBounds_toArray, List.set_cons_zero, List.set_cons_succ]
  go_wp2_with fail
  refine (CW.out _ HB.out).mono ?_
  rintro _ v_2 ⟨p, q, g, h2, f9, s9, a9, n9, c9, ok, rfl, hok, hb⟩
  clear HC HLg C20 C21
  have C22 := Lib.hid (cell_on C22.out hb)
  have HH := Lib.hid ((hb.block _ (Array.getElem?_eq_some_iff.1 HH.out).1).trans HH.out)
  have HB := Lib.hid (below_later HB.out hb)
  clear hb
  have HOK := Lib.hid hok
  clear hok
  dsimp only
  go_step
  refine wpList_val (v := .tuple #[.agg #[.int .u64 (dgt W64 p 0), .int .u64 (dgt W64 p 1), .int .u64 (dgt W64 p 2), .int .u64 (dgt W64 p 3), .int .u64 (dgt W64 q 0), .int .u64 (dgt W64 q 1), .int .u64 (dgt W64 q 2), .int .u64 (dgt W64 q 3), .int .u64 (dgt W64 g 0), .int .u64 (dgt W64 g 1), .int .u64 (dgt W64 g 2), .int .u64 (dgt W64 g 3), .int .u64 (dgt W64 h2 0), .int .u64 (dgt W64 h2 1), .int .u64 (dgt W64 h2 2), .int .u64 (dgt W64 h2 3), .int .i64 f9, .int .i64 s9, .slice a9 n9 c9], .bool ok]) rfl (by kernel_rfl) ?_
  simp only [Act.put, List.setIfInBounds_toArray, List.set_cons_zero, List.set_cons_succ]
  refine wpList_val (v := .agg #[.int .u64 (dgt W64 p 0), .int .u64 (dgt W64 p 1), .int .u64 (dgt W64 p 2), .int .u64 (dgt W64 p 3), .int .u64 (dgt W64 q 0), .int .u64 (dgt W64 q 1), .int .u64 (dgt W64 q 2), .int .u64 (dgt W64 q 3), .int .u64 (dgt W64 g 0), .int .u64 (dgt W64 g 1), .int .u64 (dgt W64 g 2), .int .u64 (dgt W64 g 3), .int .u64 (dgt W64 h2 0), .int .u64 (dgt W64 h2 1), .int .u64 (dgt W64 h2 2), .int .u64 (dgt W64 h2 3), .int .i64 f9, .int .i64 s9, .slice a9 n9 c9]) rfl (by kernel_rfl) ?_
  simp only [Act.put, List.setIfInBounds_toArray, List.set_cons_zero, List.set_cons_succ]
  refine wpList_val (v := .bool ok) rfl (by kernel_rfl) ?_
  simp only [Act.put, List.setIfInBounds_toArray, List.set_cons_zero, List.set_cons_succ]
  refine wpList_made (v := .pointer (some ⟨v_2.heap.size, 0, none⟩)) (w' := v_2.alloc (.cells zero19 34)) rfl (by kernel_rfl) ?_
  simp only [Act.put, List.setIfInBounds_toArray, List.set_cons_zero, List.set_cons_succ]
  refine wpList_store_new rfl _ _ _ rfl zero19 #[.int .u64 (dgt W64 p 0), .int .u64 (dgt W64 p 1), .int .u64 (dgt W64 p 2), .int .u64 (dgt W64 p 3), .int .u64 (dgt W64 q 0), .int .u64 (dgt W64 q 1), .int .u64 (dgt W64 q 2), .int .u64 (dgt W64 q 3), .int .u64 (dgt W64 g 0), .int .u64 (dgt W64 g 1), .int .u64 (dgt W64 g 2), .int .u64 (dgt W64 g 3), .int .u64 (dgt W64 h2 0), .int .u64 (dgt W64 h2 1), .int .u64 (dgt W64 h2 2), .int .u64 (dgt W64 h2 3), .int .i64 f9, .int .i64 s9, .slice a9 n9 c9] rfl rfl (by rw [info_st]; rfl) rfl (by kernel_rfl) ?_
  simp only [Act.put, List.setIfInBounds_toArray, List.set_cons_zero, List.set_cons_succ]
  go_upto_region 2 with fail
  obtain ⟨v_3, e9⟩ : ∃ w9, w9 = v_2.alloc (.cells #[.int .u64 (dgt W64 p 0), .int .u64 (dgt W64 p 1), .int .u64 (dgt W64 p 2), .int .u64 (dgt W64 p 3), .int .u64 (dgt W64 q 0), .int .u64 (dgt W64 q 1), .int .u64 (dgt W64 q 2), .int .u64 (dgt W64 q 3), .int .u64 (dgt W64 g 0), .int .u64 (dgt W64 g 1), .int .u64 (dgt W64 g 2), .int .u64 (dgt W64 g 3), .int .u64 (dgt W64 h2 0), .int .u64 (dgt W64 h2 1), .int .u64 (dgt W64 h2 2), .int .u64 (dgt W64 h2 3), .int .i64 f9, .int .i64 s9, .slice a9 n9 c9] 34) := ⟨_, rfl⟩
  obtain ⟨SB, h9⟩ : ∃ b, b = v_2.heap.size := ⟨_, rfl⟩
  have hb : Below v_2.heap.size v_2 v_3 := by rw [e9]; exact (Below.refl _ _).alloc (Nat.le_refl _) _
  have HS := Lib.hid (show SAt v_3 SB p q g h2 f9 s9 (.slice a9 n9 c9) by rw [e9, h9]; exact SAt.new _ _ _ _ _ _ _ _ _)
  have LSB := Lib.hid (show SB < v_3.heap.size by rw [e9, h9]; simp)
  have WSB := Lib.hid (show v_2.heap.size = SB from h9.symm)
  rw [← e9, ← h9]
  clear e9 h9
  have C22 := Lib.hid (cell_on C22.out hb)
  have HH := Lib.hid ((hb.block _ (Array.getElem?_eq_some_iff.1 HH.out).1).trans HH.out)
  have HB := Lib.hid (below_later HB.out hb)
  clear hb
  cases ok
  · go_wp2_with fail
    refine (Lv.lives_any _).mono ?_
    rintro _ v_4 ⟨rfl, hb⟩
    have HB := Lib.hid (below_later HB.out hb)
    clear hb
    go_wp2_with fail
    go_ret
    exact ⟨rfl, HB.out⟩
  obtain ⟨e1, e2, e3, e4, e5, e6, e7, hset⟩ := HOK.out rfl
  clear HOK
  have HE4 := Lib.hid e4
  have HSET := Lib.hid hset
  clear e4 hset
  subst e1 e2 e3 e5 e6 e7
  by_cases hn0 : n9 = 0
  · have k0 : ((n9 : Int) == 0) = true := by simp; omega
    have y18 := HS.out.nd
    go_wp2_with fail
    refine (Lv.lives_any _).mono ?_
    rintro _ v_4 ⟨rfl, hb⟩
    have HB := Lib.hid (below_later HB.out hb)
    clear hb
    go_wp2_with fail
    go_ret
    exact ⟨rfl, HB.out⟩
  obtain ⟨b, o, rfl, hks⟩ := HK.out (by omega)
  obtain ⟨j, hj⟩ : ∃ j, j = who % n9 := ⟨_, rfl⟩
  have hjn : j < n9 := by rw [hj]; exact Nat.mod_lt _ (by omega)
  obtain ⟨⟨x1, x2⟩, hx⟩ : ∃ x, sk[j]? = some x := ⟨_, List.getElem?_eq_getElem (by rw [← HN.out]; exact hjn)⟩
  obtain ⟨hx1, _, hx3, _⟩ := HSET.out.keys _ (List.mem_of_getElem? hx)
  have HK1 := Lib.hid (NumO.later HB.out (hks.num hx))
  have CS := Lib.hid (fun (W : World) => by
    have h9 := LSign_any (gh := h2) (fa := f9) (se := s9) (nodes := .slice a9 n9 c9) (secret := x1) HSET.out.may HGP.out HGG.out HSET.out.prime.2.1 HGQ.out hx1 hx3 HL.out HB32.out W
    rewrite [← HT.out] at h9
    unfold sigV setV numV words at h9
    exact h9)
  obtain ⟨C, hC⟩ : ∃ C, C = signC p q g x1 (drawD q x1 h) h := ⟨_, rfl⟩
  obtain ⟨G, hG⟩ : ∃ G, G = signS p q g x1 (drawD q x1 h) h := ⟨_, rfl⟩
  have hCq : C < q := by rw [hC]; unfold signC challenge numberN; exact Nat.mod_lt _ (by have := HSET.out.prime.2.1; omega)
  have hGq : G < q := by rw [hG]; unfold signS; exact Nat.mod_lt _ (by have := HSET.out.prime.2.1; omega)
  rw [← hC, ← hG] at CS
  have HES := Lib.hid (fun (W : World) => by have h9 := eq_sig (Nat.lt_trans hCq HGQ.out) (Nat.lt_trans hGq HGQ.out) (Nat.lt_trans hCq HGQ.out) (Nat.lt_trans hGq HGQ.out) W; rewrite [decide_eq_true rfl, decide_eq_true rfl] at h9; exact h9)
  have HJ9 := Lib.hid (show (who : Int).tmod (n9 : Int) = (j : Int) by rw [hj]; rfl)
  have HZ9 := Lib.hid (show ¬ (n9 : Int) = 0 by omega)
  have HZN := Lib.hid hn0
  have HW9 := Lib.hid (show IntKind.i64.wrap (who : Int) = (who : Int) by simp [IntKind.wrap, IntKind.bits, IntKind.signed]; omega)
  have hjI : (j : Int) < (n9 : Int) := by omega
  have hj9 : j < n9 := hjn
  have HWB := Lib.hid HB.out.size
  clear hks hj hjn hx hx1 hx3 hC hG hCq hGq hn0
  have k0 : ((n9 : Int) == 0) = false := by have := HZ9.out; simpa using this
  have y18 := HS.out.nd
  go_upto_region 4 with fail
  clear y18 k0
  refine wp_region_tree (.take 0 (.take 1 (.take 2 (.take 3 (.take 4 (.take 5 (.take 6 (.take 7 (.take 8 (.take 9 (.take 10 (.step 11 (.step 12 .done))))))))))))) (fun w8 => w8.cell? ⟨CB, 22, none⟩ = some (.slice (some ⟨b, o, none⟩) n9 cap) ∧ NumO w8 b (o + j * 8) x1) (by kernel_rfl) (by kernel_rfl) (fun _ _ _ _ _ h => h) (⟨C22.out, HK1.out⟩) (fun hHeld => ?_)
  obtain ⟨x_1, e1⟩ : ∃ y9, y9 = v_3.drew := ⟨_, rfl⟩
  rw [← e1]
  have hb : Below v_3.heap.size v_3 x_1 := by rw [e1]; exact (Below.refl _ _).drew
  have HK1 := Lib.hid (NumO.later hb HK1.out)
  have C22 := Lib.hid (cell_on C22.out hb)
  have HH := Lib.hid ((hb.block _ (Array.getElem?_eq_some_iff.1 HH.out).1).trans HH.out)
  have HB := Lib.hid (below_later HB.out hb)
  have HS := Lib.hid (HS.out.later hb)
  clear hb e1
  refine WT.take (v := ?_) rfl (Or.inl ⟨by rfl, ?_⟩) ?_
  rotate_left
  · intro w8 hSw
    (try dsimp only at hSw)
    go_simp
    any_goals with_reducible rfl
  try simp only [Act.put, List.setIfInBounds_toArray, List.set_cons_zero, List.set_cons_succ]
  refine WT.take (v := .slice (some ⟨b, o, none⟩) n9 cap) rfl (Or.inl ⟨by rfl, fun w8 hSw => run_value_of (loadSl hSw.1)⟩) ?_
  try simp only [Act.put, List.setIfInBounds_toArray, List.set_cons_zero, List.set_cons_succ]
  refine WT.take (v := ?_) rfl (Or.inl ⟨by rfl, ?_⟩) ?_
  rotate_left
  · intro w8 hSw
    (try dsimp only at hSw)
    go_simp
    any_goals with_reducible rfl
  try simp only [Act.put, List.setIfInBounds_toArray, List.set_cons_zero, List.set_cons_succ]
  refine WT.take (v := .int .i64 who) rfl (Or.inl ⟨by rfl, fun w8 hSw => by have e9 := HW9.out; simp [go_sem, e9]⟩) ?_
  try simp only [Act.put, List.setIfInBounds_toArray, List.set_cons_zero, List.set_cons_succ]
  refine WT.take (v := ?_) rfl (Or.inl ⟨by rfl, ?_⟩) ?_
  rotate_left
  · intro w8 hSw
    (try dsimp only at hSw)
    go_simp
    any_goals with_reducible rfl
  try simp only [Act.put, List.setIfInBounds_toArray, List.set_cons_zero, List.set_cons_succ]
  refine WT.take (v := .slice (some ⟨b, o, none⟩) n9 cap) rfl (Or.inl ⟨by rfl, fun w8 hSw => run_value_of (loadSl hSw.1)⟩) ?_
  try simp only [Act.put, List.setIfInBounds_toArray, List.set_cons_zero, List.set_cons_succ]
  refine WT.take (v := ?_) rfl (Or.inl ⟨by rfl, ?_⟩) ?_
  rotate_left
  · intro w8 hSw
    (try dsimp only at hSw)
    go_simp
    any_goals with_reducible rfl
  try simp only [Act.put, List.setIfInBounds_toArray, List.set_cons_zero, List.set_cons_succ]
  refine WT.take (v := .int .i64 j) rfl (Or.inl ⟨by rfl, fun w8 hSw => by have e9 := HJ9.out; have z9 := HZN.out; simp [go_sem, e9, z9]⟩) ?_
  try simp only [Act.put, List.setIfInBounds_toArray, List.set_cons_zero, List.set_cons_succ]
  refine WT.take (v := .pointer (some ⟨b, o + j * 8, none⟩)) rfl (Or.inl ⟨by rfl, fun w8 hSw => by simp [go_sem, hjI]⟩) ?_
  try simp only [Act.put, List.setIfInBounds_toArray, List.set_cons_zero, List.set_cons_succ]
  refine WT.take (v := .pointer (some ⟨b, o + j * 8, none⟩)) rfl (Or.inl ⟨by rfl, fun w8 hSw => by simp [go_sem]⟩) ?_
  try simp only [Act.put, List.setIfInBounds_toArray, List.set_cons_zero, List.set_cons_succ]
  refine WT.take (v := .agg #[.int .u64 (dgt W64 x1 0), .int .u64 (dgt W64 x1 1), .int .u64 (dgt W64 x1 2), .int .u64 (dgt W64 x1 3)]) rfl (Or.inl ⟨by rfl, fun w8 hSw => run_value_of (loadNo hSw.2)⟩) ?_
  try simp only [Act.put, List.setIfInBounds_toArray, List.set_cons_zero, List.set_cons_succ]
  refine WT.step rfl (fun K hK => ?_)
  go_simp
  obtain ⟨x_2, e9⟩ : ∃ w9, w9 = x_1.alloc (.cells #[.int .u64 0, .int .u64 0, .int .u64 0, .int .u64 0] 24) := ⟨_, rfl⟩
  obtain ⟨XB, h9⟩ : ∃ b, b = x_1.heap.size := ⟨_, rfl⟩
  have hb : Below x_1.heap.size x_1 x_2 := by rw [e9]; exact (Below.refl _ _).alloc (Nat.le_refl _) _
  have HX := Lib.hid (show NumAt x_2 XB 0 by rw [e9, h9]; exact num_zero _ _)
  have HXF := Lib.hid (show FreeN x_2 XB 4 by rw [e9, h9]; exact FreeN.new _ _ _ _)
  have LXB := Lib.hid (show XB < x_2.heap.size by rw [e9, h9]; simp)
  have WXB := Lib.hid (show x_1.heap.size = XB from h9.symm)
  have NX := Lib.hid (show SB ≠ XB ∧ HB9 ≠ XB ∧ CB ≠ XB ∧ b ≠ XB ∧ w.heap.size ≤ XB by have a1 := HS.out.lt; have a2 := (Array.getElem?_eq_some_iff.1 HH.out).1; have a3 : CB < x_1.heap.size := World.block_lt_of_cell? (a := ⟨CB, 22, none⟩) _ C22.out; have a4 := HK1.out.lt; have a5 := HB.out.size; omega)
  rw [← e9, ← h9]
  clear e9 h9
  have HK1 := Lib.hid (NumO.later hb HK1.out)
  have C22 := Lib.hid (cell_on C22.out hb)
  have HH := Lib.hid ((hb.block _ (Array.getElem?_eq_some_iff.1 HH.out).1).trans HH.out)
  have HB := Lib.hid (below_later HB.out hb)
  have HS := Lib.hid (HS.out.later hb)
  clear hb
  refine hK.out _ _ (⟨C22.out, HK1.out⟩) (fun hHeld => ?_)
  clear hK K
  try simp only [Act.put, List.setIfInBounds_toArray, List.set_cons_zero, List.set_cons_succ]
  refine WT.step rfl (fun K hK => ?_)
  obtain ⟨c0, c1, c2, c3, f0, f1, f2, f3⟩ := num4f HX.out HXF.out
  go_simp
  clear c0 c1 c2 c3 f0 f1 f2 f3
  obtain ⟨x_3, e9⟩ : ∃ y9, y9 = (((x_2.setCell ⟨XB, 0, none⟩ (.int .u64 (dgt W64 x1 0))).setCell ⟨XB, 1, none⟩ (.int .u64 (dgt W64 x1 1))).setCell ⟨XB, 2, none⟩ (.int .u64 (dgt W64 x1 2))).setCell ⟨XB, 3, none⟩ (.int .u64 (dgt W64 x1 3)) := ⟨_, rfl⟩
  have hgs : x_2.grownBy x_3 (some XB) := by rw [e9]; exact only_setS (only_setS (only_setS (only_setS (World.grownBy.refl _ _) 0 _) 1 _) 2 _) 3 _
  have HX := Lib.hid (show NumAt x_3 XB x1 by rw [e9]; exact NumAt.set4 HX.out x1)
  rw [← e9]
  clear e9
  have HS := Lib.hid (HS.out.keep hgs (fun e => NX.out.1 (by injection e)))
  have HH := Lib.hid (row_keepR HH.out hgs (fun e => NX.out.2.1 (by injection e)))
  have C22 := Lib.hid (cell_keepR C22.out hgs (fun e => NX.out.2.2.1 (by injection e)))
  have HK1 := Lib.hid (show NumO x_3 b (o + j * 8) x1 from fun j9 hj9 => hgs.cell (HK1.out j9 hj9) (fun e => NX.out.2.2.2.1 (by injection e)))
  have HB := Lib.hid (HB.out.grown hgs HB.out.size (fun q9 hq9 => by injection hq9 with hq9; have := NX.out.2.2.2.2; omega))
  clear hgs HXF
  refine hK.out _ _ (⟨C22.out, HK1.out⟩) (fun hHeld => ?_)
  clear hK K
  try simp only [Act.put, List.setIfInBounds_toArray, List.set_cons_zero, List.set_cons_succ]
  refine WT.done ?_
  clear hHeld
  clear HK1 C22
  go_upto_region 5 with fail
  refine wp_region_lit ?_
  refine wpList_val (v := .agg #[.int .u64 (dgt W64 p 0), .int .u64 (dgt W64 p 1), .int .u64 (dgt W64 p 2), .int .u64 (dgt W64 p 3), .int .u64 (dgt W64 q 0), .int .u64 (dgt W64 q 1), .int .u64 (dgt W64 q 2), .int .u64 (dgt W64 q 3), .int .u64 (dgt W64 g 0), .int .u64 (dgt W64 g 1), .int .u64 (dgt W64 g 2), .int .u64 (dgt W64 g 3), .int .u64 (dgt W64 h2 0), .int .u64 (dgt W64 h2 1), .int .u64 (dgt W64 h2 2), .int .u64 (dgt W64 h2 3), .int .i64 f9, .int .i64 s9, .slice a9 n9 c9]) rfl (run_value_of (loadS9 HS.out)) ?_
  simp only [Act.put, List.setIfInBounds_toArray, List.set_cons_zero, List.set_cons_succ]
  refine wpList_load_row rfl _ _ rfl HB9 rfl _ _ _ _ HH.out Try.underlying31 rfl hszT ?_
  simp only [Act.put, List.setIfInBounds_toArray, List.set_cons_zero, List.set_cons_succ]
  refine wpList_val (v := .agg #[.int .u64 (dgt W64 x1 0), .int .u64 (dgt W64 x1 1), .int .u64 (dgt W64 x1 2), .int .u64 (dgt W64 x1 3)]) rfl (run_value_of (loadN HX.out)) ?_
  simp only [Act.put, List.setIfInBounds_toArray, List.set_cons_zero, List.set_cons_succ]
  go_wp2_with fail
  refine (CS.out _).mono ?_
  rintro _ y_1 ⟨rfl, hb⟩
  have HH := Lib.hid ((hb.block _ (Array.getElem?_eq_some_iff.1 HH.out).1).trans HH.out)
  have HB := Lib.hid (below_later HB.out hb)
  have HS := Lib.hid (HS.out.later hb)
  have HX := Lib.hid (NumAt.later hb HX.out)
  clear hb
  go_upto_region 6 with fail
  obtain ⟨y_2, e9⟩ : ∃ w9, w9 = y_1.alloc (.cells #[.int .u64 (dgt W64 C 0), .int .u64 (dgt W64 C 1), .int .u64 (dgt W64 C 2), .int .u64 (dgt W64 C 3), .int .u64 (dgt W64 G 0), .int .u64 (dgt W64 G 1), .int .u64 (dgt W64 G 2), .int .u64 (dgt W64 G 3)] 41) := ⟨_, rfl⟩
  obtain ⟨S1, h9⟩ : ∃ b, b = y_1.heap.size := ⟨_, rfl⟩
  have hb : Below y_1.heap.size y_1 y_2 := by rw [e9]; exact (Below.refl _ _).alloc (Nat.le_refl _) _
  have HA1 := Lib.hid (show NumO y_2 S1 0 C ∧ NumO y_2 S1 4 G by rw [e9, h9]; exact numo_row8 (heap_alloc_new _ _))
  have LS1 := Lib.hid (show S1 < y_2.heap.size by rw [e9, h9]; simp)
  have WS1 := Lib.hid (show y_1.heap.size = S1 from h9.symm)
  rw [← e9, ← h9]
  clear e9 h9
  have HH := Lib.hid ((hb.block _ (Array.getElem?_eq_some_iff.1 HH.out).1).trans HH.out)
  have HB := Lib.hid (below_later HB.out hb)
  have HS := Lib.hid (HS.out.later hb)
  have HX := Lib.hid (NumAt.later hb HX.out)
  clear hb
  have HA1C := Lib.hid HA1.out.1
  have HA1G := Lib.hid HA1.out.2
  clear HA1
  go_upto_region 6 with fail
  refine wp_region_lit ?_
  refine wpList_val (v := .agg #[.int .u64 (dgt W64 p 0), .int .u64 (dgt W64 p 1), .int .u64 (dgt W64 p 2), .int .u64 (dgt W64 p 3), .int .u64 (dgt W64 q 0), .int .u64 (dgt W64 q 1), .int .u64 (dgt W64 q 2), .int .u64 (dgt W64 q 3), .int .u64 (dgt W64 g 0), .int .u64 (dgt W64 g 1), .int .u64 (dgt W64 g 2), .int .u64 (dgt W64 g 3), .int .u64 (dgt W64 h2 0), .int .u64 (dgt W64 h2 1), .int .u64 (dgt W64 h2 2), .int .u64 (dgt W64 h2 3), .int .i64 f9, .int .i64 s9, .slice a9 n9 c9]) rfl (run_value_of (loadS9 HS.out)) ?_
  simp only [Act.put, List.setIfInBounds_toArray, List.set_cons_zero, List.set_cons_succ]
  refine wpList_load_row rfl _ _ rfl HB9 rfl _ _ _ _ HH.out Try.underlying31 rfl hszT ?_
  simp only [Act.put, List.setIfInBounds_toArray, List.set_cons_zero, List.set_cons_succ]
  refine wpList_val (v := .agg #[.int .u64 (dgt W64 x1 0), .int .u64 (dgt W64 x1 1), .int .u64 (dgt W64 x1 2), .int .u64 (dgt W64 x1 3)]) rfl (run_value_of (loadN HX.out)) ?_
  simp only [Act.put, List.setIfInBounds_toArray, List.set_cons_zero, List.set_cons_succ]
  go_wp2_with fail
  refine (CS.out _).mono ?_
  rintro _ y_4 ⟨rfl, hb⟩
  have HA1C := Lib.hid (NumO.later hb HA1C.out)
  have HA1G := Lib.hid (NumO.later hb HA1G.out)
  have HH := Lib.hid ((hb.block _ (Array.getElem?_eq_some_iff.1 HH.out).1).trans HH.out)
  have HB := Lib.hid (below_later HB.out hb)
  have HS := Lib.hid (HS.out.later hb)
  have HX := Lib.hid (NumAt.later hb HX.out)
  clear hb
  go_upto_region 7 with fail
  obtain ⟨y_5, e9⟩ : ∃ w9, w9 = y_4.alloc (.cells #[.int .u64 (dgt W64 C 0), .int .u64 (dgt W64 C 1), .int .u64 (dgt W64 C 2), .int .u64 (dgt W64 C 3), .int .u64 (dgt W64 G 0), .int .u64 (dgt W64 G 1), .int .u64 (dgt W64 G 2), .int .u64 (dgt W64 G 3)] 41) := ⟨_, rfl⟩
  obtain ⟨S2, h9⟩ : ∃ b, b = y_4.heap.size := ⟨_, rfl⟩
  have hb : Below y_4.heap.size y_4 y_5 := by rw [e9]; exact (Below.refl _ _).alloc (Nat.le_refl _) _
  have HA2 := Lib.hid (show NumO y_5 S2 0 C ∧ NumO y_5 S2 4 G by rw [e9, h9]; exact numo_row8 (heap_alloc_new _ _))
  have LS2 := Lib.hid (show S2 < y_5.heap.size by rw [e9, h9]; simp)
  have WS2 := Lib.hid (show y_4.heap.size = S2 from h9.symm)
  rw [← e9, ← h9]
  clear e9 h9
  have HA1C := Lib.hid (NumO.later hb HA1C.out)
  have HA1G := Lib.hid (NumO.later hb HA1G.out)
  have HH := Lib.hid ((hb.block _ (Array.getElem?_eq_some_iff.1 HH.out).1).trans HH.out)
  have HB := Lib.hid (below_later HB.out hb)
  have HS := Lib.hid (HS.out.later hb)
  have HX := Lib.hid (NumAt.later hb HX.out)
  clear hb
  have HA2C := Lib.hid HA2.out.1
  have HA2G := Lib.hid HA2.out.2
  clear HA2
  refine wp_region_lit ?_
  refine wpList_val (v := .int .i64 0) rfl (by kernel_rfl) ?_
  simp only [Act.put, List.setIfInBounds_toArray, List.set_cons_zero, List.set_cons_succ]
  refine wpList_val (v := .bool true) rfl (by kernel_rfl) ?_
  simp only [Act.put, List.setIfInBounds_toArray, List.set_cons_zero, List.set_cons_succ]
  refine wpList_val (v := .bool true) rfl (by kernel_rfl) ?_
  simp only [Act.put, List.setIfInBounds_toArray, List.set_cons_zero, List.set_cons_succ]
  refine wpList_gval (v := .int .i64 0) (by kernel_rfl) (by kernel_rfl) ?_
  simp only [Act.put, List.setIfInBounds_toArray, List.set_cons_zero, List.set_cons_succ]
  refine wpList_gval (v := .bool true) (by kernel_rfl) (by kernel_rfl) ?_
  simp only [Act.put, List.setIfInBounds_toArray, List.set_cons_zero, List.set_cons_succ]
  refine wpList_val (v := .bool true) rfl (by kernel_rfl) ?_
  simp only [Act.put, List.setIfInBounds_toArray, List.set_cons_zero, List.set_cons_succ]
  refine wpList_val (v := .bool true) rfl (by kernel_rfl) ?_
  simp only [Act.put, List.setIfInBounds_toArray, List.set_cons_zero, List.set_cons_succ]
  refine wpList_gval (v := .agg #[.int .u64 (dgt W64 C 0), .int .u64 (dgt W64 C 1), .int .u64 (dgt W64 C 2), .int .u64 (dgt W64 C 3), .int .u64 (dgt W64 G 0), .int .u64 (dgt W64 G 1), .int .u64 (dgt W64 G 2), .int .u64 (dgt W64 G 3)]) (by kernel_rfl) (run_value_of (loadSig HA1C.out HA1G.out)) ?_
  simp only [Act.put, List.setIfInBounds_toArray, List.set_cons_zero, List.set_cons_succ]
  refine wpList_gval (v := .agg #[.int .u64 (dgt W64 C 0), .int .u64 (dgt W64 C 1), .int .u64 (dgt W64 C 2), .int .u64 (dgt W64 C 3), .int .u64 (dgt W64 G 0), .int .u64 (dgt W64 G 1), .int .u64 (dgt W64 G 2), .int .u64 (dgt W64 G 3)]) (by kernel_rfl) (run_value_of (loadSig HA2C.out HA2G.out)) ?_
  simp only [Act.put, List.setIfInBounds_toArray, List.set_cons_zero, List.set_cons_succ]
  refine wpList_gval (v := .bool true) (by kernel_rfl) (run_op_bin eqg_sig rfl (by kernel_rfl) (by kernel_rfl) (HES.out _)) ?_
  simp only [Act.put, List.setIfInBounds_toArray, List.set_cons_zero, List.set_cons_succ]
  refine wpList_val (v := .bool true) rfl (by kernel_rfl) ?_
  simp only [Act.put, List.setIfInBounds_toArray, List.set_cons_zero, List.set_cons_succ]
  refine wpList_val (v := .bool true) rfl (by kernel_rfl) ?_
  simp only [Act.put, List.setIfInBounds_toArray, List.set_cons_zero, List.set_cons_succ]
  go_wp2_with fail
  refine (Lv.lives_any _).mono ?_
  rintro _ y_9 ⟨rfl, hb⟩
  have HB := Lib.hid (below_later HB.out hb)
  clear hb
  go_wp2_with fail
  go_ret
  exact ⟨rfl, HB.out⟩
end Go.Proofs.Ytpoocnkflmimdaa
