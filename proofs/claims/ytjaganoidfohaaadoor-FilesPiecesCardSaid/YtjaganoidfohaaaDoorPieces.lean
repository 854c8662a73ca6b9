/- Layer 17 (files): FilesPieces, the walk. -/
import Derived.Test.YtjaganoidfohaaaDoorPieces0
namespace Go.Proofs.YtjaganoidfohaaaDoor
open Go.ChangeShapes Go.WideShapes Go.ChangeAt Go.RowKit

set_option linter.unusedSimpArgs false in
set_option linter.unusedVariables false in
set_option maxRecDepth 20000 in
set_option maxHeartbeats 4000000 in
theorem filesPieces_big (b : ByteArray) {v : Value} (l : List Nat) (z0 z1 : Nat) (w : World) (hv : KAt .u16 w v l) (h : 20000 < b.size ∨ (b.size ≤ 20000 ∧ 50 < l.length)) :
    Calls Tryd.prog 4 #[.string b, v, .agg #[.int .u16 z0, .int .u16 z1]] w fun e w' => e = .returned (.bool true) ∧ Below w.heap.size w w' := by
  have hsz : 20000 < b.size ∨ (b.size ≤ 20000 ∧ 50 < l.length) := h
  have HV := Lib.hid hv
  obtain ⟨ao, cap, rfl, hc1, hc2, hc3, hc4⟩ := HV.out
  obtain ⟨m, hm⟩ : ∃ m, m = l.length := ⟨_, rfl⟩
  have HM := Lib.hid hm
  rw [← hm] at hc1 hc4 hsz ⊢
  have H4 := Lib.hid hc4
  clear hc3 hc4 hm hv HV
  unfold maxLen at hc2
  go_enter Tryd.func4, Tryd.ntmps4
  go_wp2_with fail
  obtain ⟨w1, e9⟩ : ∃ w1 : World, w1 = w.alloc (.cells #[.int .u16 z0, .int .u16 z1] 42) := ⟨_, rfl⟩
  have hb : Below w.heap.size w w1 := by rw [e9]; exact (Below.refl _ _).alloc (Nat.le_refl _) _
  have h9 : w1.heap[w.heap.size]? = some (.cells #[.int .u16 z0, .int .u16 z1] 42) := by rw [e9]; exact heap_alloc_new _ _
  rw [← e9]
  clear e9
  have B := Lib.hid hb
  have FA := Lib.hid h9
  clear hb h9
  obtain ⟨A, hAe⟩ : ∃ A, A = w.heap.size := ⟨_, rfl⟩
  rw [← hAe] at FA ⊢
  clear hAe
  refine (alive17 w1).mono ?_
  rintro _ w2 ⟨rfl, hb⟩
  have FA := Lib.hid (heap_on hb FA.out)
  have B := Lib.hid (below_on B.out hb)
  clear hb
  rcases hsz with hx | ⟨hx, hy⟩
  · have hxI : (20000 : Int) < b.size := by omega
    go_wp2_with fail
    refine (alive17 w2).mono ?_
    rintro _ w3 ⟨rfl, hb⟩
    have B := Lib.hid (below_on B.out hb)
    go_wp2_with fail
    go_ret
    exact ⟨rfl, B.out⟩
  · have hxI : ¬ ((20000 : Int) < b.size) := by omega
    have hyI : (50 : Int) < m := by omega
    go_wp2_with fail
    refine (alive17 w2).mono ?_
    rintro _ w3 ⟨rfl, hb⟩
    have B := Lib.hid (below_on B.out hb)
    go_wp2_with fail
    go_ret
    exact ⟨rfl, B.out⟩
set_option linter.unusedSimpArgs false in
set_option linter.unusedVariables false in
set_option maxRecDepth 20000 in
set_option maxHeartbeats 4000000 in
theorem filesPieces_small (b : ByteArray) {v : Value} (l : List Nat) (hle : ∀ x ∈ l, x < 65536) (z0 z1 : Nat) (hz0 : z0 < 65536) (hz1 : z1 < 65536) (w : World) (hv : KAt .u16 w v l) (hsz : b.size ≤ 20000 ∧ l.length ≤ 50) :
    Calls Tryd.prog 4 #[.string b, v, .agg #[.int .u16 z0, .int .u16 z1]] w fun e w' => e = .returned (.bool true) ∧ Below w.heap.size w w' := by
  have HLE := Lib.hid hle
  have HV := Lib.hid hv
  obtain ⟨ao, cap, rfl, hc1, hc2, hc3, hc4⟩ := HV.out
  obtain ⟨m, hm⟩ : ∃ m, m = l.length := ⟨_, rfl⟩
  have HM := Lib.hid hm
  rw [← hm] at hc1 hc4 hsz ⊢
  have H4 := Lib.hid hc4
  clear hc3 hc4 hm hv HV
  unfold maxLen at hc2
  go_enter Tryd.func4, Tryd.ntmps4
  go_wp2_with fail
  obtain ⟨w1, e9⟩ : ∃ w1 : World, w1 = w.alloc (.cells #[.int .u16 z0, .int .u16 z1] 42) := ⟨_, rfl⟩
  have hb : Below w.heap.size w w1 := by rw [e9]; exact (Below.refl _ _).alloc (Nat.le_refl _) _
  have h9 : w1.heap[w.heap.size]? = some (.cells #[.int .u16 z0, .int .u16 z1] 42) := by rw [e9]; exact heap_alloc_new _ _
  rw [← e9]
  clear e9
  have B := Lib.hid hb
  have FA := Lib.hid h9
  clear hb h9
  obtain ⟨A, hAe⟩ : ∃ A, A = w.heap.size := ⟨_, rfl⟩
  rw [← hAe] at FA ⊢
  clear hAe
  refine (alive17 w1).mono ?_
  rintro _ w2 ⟨rfl, hb⟩
  have FA := Lib.hid (heap_on hb FA.out)
  have B := Lib.hid (below_on B.out hb)
  clear hb
  obtain ⟨n, hn⟩ : ∃ n, n = b.size := ⟨_, rfl⟩
  have hn9 : n ≤ 20000 := by omega
  have en : (b.size : Int) = (n : Int) := by rw [hn]
  have HN := Lib.hid hn
  have hnI : (n : Int) ≤ 20000 := by omega
  have hm50 : m ≤ 50 := by omega
  have hmI : (m : Int) ≤ 50 := by omega
  obtain ⟨sf, hsf⟩ : ∃ s, s = z0 % (n + 1) := ⟨_, rfl⟩
  have hsfn : sf ≤ n := by have := Nat.mod_lt z0 (show n + 1 > 0 by omega); omega
  have esf : (z0 : Int) % ((n : Int) + 1) = (sf : Int) := by rw [hsf]; push_cast; rfl
  have hn1 : ¬ ((n : Int) + 1 = 0) := by omega
  clear hsf hn hsz
  have c0 := cell_of_row w2 A 0 _ _ (0, 0) FA.out
  have c1 := cell_of_row w2 A 1 _ _ (0, 0) FA.out
  go_wp2_with fail
  clear c0 c1
  refine (New_yes 50000 w2 (by decide) (by decide)).mono ?_
  rintro _ w3 ⟨rfl, hd, hb⟩
  obtain ⟨C, hC⟩ : ∃ C, C = w2.heap.size := ⟨_, rfl⟩
  have hBC : w.heap.size ≤ C := by rw [hC]; exact B.out.size
  have hAC : A < C := by rw [hC]; exact lt_of_heap FA.out
  rw [← hC] at hd ⊢
  have T := Lib.hid (OneK.new hd)
  clear hd hC
  have FA := Lib.hid (heap_on hb FA.out)
  have B := Lib.hid (below_on B.out hb)
  clear hb
  go_wp2_with fail
  refine (New_yes 50000 w3 (by decide) (by decide)).mono ?_
  rintro _ w4 ⟨rfl, hd, hb⟩
  obtain ⟨D, hD⟩ : ∃ D, D = w3.heap.size := ⟨_, rfl⟩
  have T := Lib.hid (T.out.beside hb hd (Nat.le_refl _))
  rw [← hD] at T ⊢
  clear hd hD
  have FA := Lib.hid (heap_on hb FA.out)
  have B := Lib.hid (below_on B.out hb)
  clear hb
  go_wp2_with fail
  refine (T.out.act 0 pc_create rfl fun S hS => Create_any hS ⟨#[102]⟩ (by decide)).mono ?_
  rintro _ w5 ⟨rfl, ht, hs⟩
  have FA := Lib.hid (hs.heap (show A < C from hAC) FA.out)
  have B := Lib.hid (B.out.trans (hs.below (base := w.heap.size) (fun g hg => (show g < C by omega))))
  have T := Lib.hid ht
  clear ht hs
  go_wp2_with fail
  refine (T.out.act2 0 pc_create rfl fun S hS => Create_any hS ⟨#[102]⟩ (by decide)).mono ?_
  rintro _ w6 ⟨rfl, ht, hs⟩
  have FA := Lib.hid (hs.heap (show A < C from hAC) FA.out)
  have B := Lib.hid (B.out.trans (hs.below (base := w.heap.size) (fun g hg => (show g < C by omega))))
  have T := Lib.hid ht
  clear ht hs
  rw [pc_zero b] at T
  have kcs := fun (W : World) (s : ByteArray) => Lib.run_convert_string_bytes (P := Tryd.prog) W 9 35 5 s Tryd.underlying9 Tryd.underlying35 Tryd.underlying5
  obtain ⟨x9, hx9⟩ : ∃ x9, x9 = b.extract 0 sf := ⟨_, rfl⟩
  have ks := fun (W : World) => cut_to (w := W) b sf (by rw [← HN.out]; omega)
  rw [← hx9] at ks
  have H9 := Lib.hid hx9
  clear hx9
  go_wp2_with fail
  clear ks
  obtain ⟨w7, e9⟩ : ∃ w7 : World, w7 = Lib.bytesWorld w6 5 x9 := ⟨_, rfl⟩
  have hb : Below w6.heap.size w6 w7 := by rw [e9]; exact conv_below _ _ _
  have hx9 : x9.size ≤ 140737488355328 := by rw [H9.out, size_extract _ _ _ (by omega) (by have := HN.out; omega)]; have := HN.out; omega
  have K9 := Lib.hid (show KAt .u8 w7 (.slice (some ⟨w6.heap.size, 0, none⟩) x9.size (grownCap w6 x9.size 0 5)) (nums x9) by rw [e9]; exact conv_kat _ _ _ hx9)
  rw [← e9]
  clear e9
  have FA := Lib.hid (heap_on hb FA.out)
  have B := Lib.hid (below_on B.out hb)
  have T := Lib.hid (T.out.later hb)
  clear hb
  refine (T.out.act 0 (by rw [H9.out]; exact pc_append b 0 sf 0 (by omega) (by rw [← HN.out]; omega) (by rw [← HN.out]; omega)) rfl fun S hS => Append_any hS ⟨#[102]⟩ (by decide) K9.out (nums_bytes _)).mono ?_
  rintro _ w8 ⟨rfl, ht, hs⟩
  have FA := Lib.hid (hs.heap (show A < C from hAC) FA.out)
  have B := Lib.hid (B.out.trans (hs.below (base := w.heap.size) (fun g hg => (show g < C by omega))))
  have T := Lib.hid ht
  clear ht hs
  clear K9 H9 hx9
  go_wp2_with fail
  refine (T.out.act 0 (pc_sync b sf 0 (by rw [← HN.out]; omega)) rfl fun S hS => Sync_any hS ⟨#[102]⟩ (by decide)).mono ?_
  rintro _ w9 ⟨rfl, ht, hs⟩
  have FA := Lib.hid (hs.heap (show A < C from hAC) FA.out)
  have B := Lib.hid (B.out.trans (hs.below (base := w.heap.size) (fun g hg => (show g < C by omega))))
  have T := Lib.hid ht
  clear ht hs
  obtain ⟨x9, hx9⟩ : ∃ x9, x9 = b.extract sf b.size := ⟨_, rfl⟩
  have ks := fun (W : World) => cut_from (w := W) b sf (by rw [← HN.out]; omega)
  rw [← hx9] at ks
  have H9 := Lib.hid hx9
  clear hx9
  go_wp2_with fail
  clear ks
  obtain ⟨w10, e9⟩ : ∃ w10 : World, w10 = Lib.bytesWorld w9 5 x9 := ⟨_, rfl⟩
  have hb : Below w9.heap.size w9 w10 := by rw [e9]; exact conv_below _ _ _
  have hx9 : x9.size ≤ 140737488355328 := by rw [H9.out, size_extract _ _ _ (by omega) (by have := HN.out; omega)]; have := HN.out; omega
  have K9 := Lib.hid (show KAt .u8 w10 (.slice (some ⟨w9.heap.size, 0, none⟩) x9.size (grownCap w9 x9.size 0 5)) (nums x9) by rw [e9]; exact conv_kat _ _ _ hx9)
  rw [← e9]
  clear e9
  have FA := Lib.hid (heap_on hb FA.out)
  have B := Lib.hid (below_on B.out hb)
  have T := Lib.hid (T.out.later hb)
  clear hb
  refine (T.out.act 0 (by rw [H9.out]; exact (show (pc b sf sf).append ⟨#[102]⟩ (nums (b.extract sf b.size)) = (pc b n sf, 0) by rw [HN.out]; exact pc_append b sf b.size sf (by rw [← HN.out]; omega) (Nat.le_refl _) (by rw [← HN.out]; omega))) rfl fun S hS => Append_any hS ⟨#[102]⟩ (by decide) K9.out (nums_bytes _)).mono ?_
  rintro _ w11 ⟨rfl, ht, hs⟩
  have FA := Lib.hid (hs.heap (show A < C from hAC) FA.out)
  have B := Lib.hid (B.out.trans (hs.below (base := w.heap.size) (fun g hg => (show g < C by omega))))
  have T := Lib.hid ht
  clear ht hs
  clear K9 H9 hx9
  go_wp2_with fail
  go_loopw [12, 13, 14] (fun x y u wr => ∃ at_ k s : Nat, at_ ≤ n ∧ x = .int .i64 at_ ∧ y = .int .i64 k ∧ k ≤ m + at_ ∧ (at_ < sf → s = 0) ∧ (sf ≤ at_ → s = sf) ∧ Hid (TwoK (fun g => g < C) wr C C D (pc b n sf) (pc b at_ s)) ∧ Hid (wr.heap[A]? = some (.cells #[.int .u16 z0, .int .u16 z1] 42 (0, 0))) ∧ Below w.heap.size w wr) (fun x y _ _ => (m - (intOf y).toNat) + (n - (intOf x).toNat))
  case atStart => exact ⟨0, 0, 0, Nat.zero_le _, rfl, rfl, Nat.zero_le _, fun _ => rfl, fun h => (by omega), T, FA, B.out⟩
  case round =>
    obtain ⟨at_, k, s, hat, rfl, rfl, hkm, hs0, hs1, T, FA, hb⟩ := hrel
    have B := Lib.hid hb
    have hatI : (at_ : Int) ≤ (n : Int) := by omega
    have hkI : (k : Int) ≤ 20100 := by omega
    by_cases hlt : k < m
    · have hltI : (k : Int) < (m : Int) := by omega
      obtain ⟨c, hc⟩ : ∃ c, l[k]? = some c := ⟨_, List.getElem?_eq_getElem (by rw [← HM.out]; exact hlt)⟩
      obtain ⟨g, o, rfl, hcell⟩ := H4.out (by omega)
      have cc := cell_on (hcell k c hc) hb
      have hc16 := HLE.out c (List.mem_of_getElem? hc)
      obtain ⟨d, hd⟩ : ∃ d, d = n - at_ + 1 := ⟨_, rfl⟩
      have ed : (n : Int) - (at_ : Int) + 1 = (d : Int) := by omega
      have hd1 : 1 ≤ d := by omega
      have hdI : (1 : Int) ≤ (d : Int) := by omega
      have hdI0 : ¬ ((d : Int) = 0) := by omega
      obtain ⟨q, hq⟩ : ∃ q, q = c % d := ⟨_, rfl⟩
      have hqd : q < d := by rw [hq]; exact Nat.mod_lt _ (by omega)
      have eq : (c : Int) % (d : Int) = (q : Int) := by rw [hq]; rfl
      obtain ⟨t, ht⟩ : ∃ t, t = at_ + q := ⟨_, rfl⟩
      have et : (at_ : Int) + (q : Int) = (t : Int) := by omega
      have htn9 : t ≤ n := by omega
      have hat9 : at_ ≤ t := by omega
      have hcI : (c : Int) < 65536 := by omega
      have HQ := Lib.hid (show q = c % d from hq)
      clear hb hcell hc hq hd ht
      by_cases hls : at_ < sf
      · have hlsI : (at_ : Int) < (sf : Int) := by omega
        by_cases hov : sf < t
        · have hovI : (sf : Int) < (t : Int) := by omega
          have hbt : at_ ≤ sf := by omega
          have htn : sf ≤ n := by omega
          obtain ⟨x9, hx9⟩ : ∃ x9, x9 = b.extract at_ sf := ⟨_, rfl⟩
          have ks := fun (W : World) => cut_both (w := W) b at_ sf (by omega) (by rw [← HN.out]; omega)
          rw [← hx9] at ks
          have H9 := Lib.hid hx9
          clear hx9
          go_wp2_with fail
          clear ks
          obtain ⟨w41, e9⟩ : ∃ w41 : World, w41 = Lib.bytesWorld wr 5 x9 := ⟨_, rfl⟩
          have hb : Below wr.heap.size wr w41 := by rw [e9]; exact conv_below _ _ _
          have hx9 : x9.size ≤ 140737488355328 := by rw [H9.out, size_extract _ _ _ (by omega) (by have := HN.out; omega)]; have := HN.out; omega
          have K9 := Lib.hid (show KAt .u8 w41 (.slice (some ⟨wr.heap.size, 0, none⟩) x9.size (grownCap wr x9.size 0 5)) (nums x9) by rw [e9]; exact conv_kat _ _ _ hx9)
          rw [← e9]
          clear e9
          have FA := Lib.hid (heap_on hb FA.out)
          have B := Lib.hid (below_on B.out hb)
          have T := Lib.hid (T.out.later hb)
          clear hb
          refine (T.out.act2 0 (by rw [H9.out]; exact pc_append b at_ sf s (by omega) (by rw [← HN.out]; omega) (by rw [← HN.out]; omega)) rfl fun S hS => Append_any hS ⟨#[102]⟩ (by decide) K9.out (nums_bytes _)).mono ?_
          rintro _ w42 ⟨rfl, ht, hs⟩
          have FA := Lib.hid (hs.heap (show A < C from hAC) FA.out)
          have B := Lib.hid (B.out.trans (hs.below (base := w.heap.size) (fun g hg => (show g < C by omega))))
          have T := Lib.hid ht
          clear ht hs
          clear K9 H9 hx9
          go_wp2_with fail
          refine (T.out.act2 0 (pc_sync b sf s (by rw [← HN.out]; omega)) rfl fun S hS => Sync_any hS ⟨#[102]⟩ (by decide)).mono ?_
          rintro _ w43 ⟨rfl, ht, hs⟩
          have FA := Lib.hid (hs.heap (show A < C from hAC) FA.out)
          have B := Lib.hid (B.out.trans (hs.below (base := w.heap.size) (fun g hg => (show g < C by omega))))
          have T := Lib.hid ht
          clear ht hs
          go_wp2_with fail
          go_roundw
          case rel => exact ⟨sf, k + 1, sf, by omega, by go_num, by go_num, by omega, fun h => by omega, fun h => by omega, T, FA, B.out⟩
          case measure => simp [intOf]; omega
        · have hovI : ¬ ((sf : Int) < (t : Int)) := by omega
          by_cases heq : t = sf
          · subst heq
            have hbt : at_ ≤ t := by omega
            have htn : t ≤ n := by omega
            obtain ⟨x9, hx9⟩ : ∃ x9, x9 = b.extract at_ t := ⟨_, rfl⟩
            have ks := fun (W : World) => cut_both (w := W) b at_ t (by omega) (by rw [← HN.out]; omega)
            rw [← hx9] at ks
            have H9 := Lib.hid hx9
            clear hx9
            go_wp2_with fail
            clear ks
            obtain ⟨w41, e9⟩ : ∃ w41 : World, w41 = Lib.bytesWorld wr 5 x9 := ⟨_, rfl⟩
            have hb : Below wr.heap.size wr w41 := by rw [e9]; exact conv_below _ _ _
            have hx9 : x9.size ≤ 140737488355328 := by rw [H9.out, size_extract _ _ _ (by omega) (by have := HN.out; omega)]; have := HN.out; omega
            have K9 := Lib.hid (show KAt .u8 w41 (.slice (some ⟨wr.heap.size, 0, none⟩) x9.size (grownCap wr x9.size 0 5)) (nums x9) by rw [e9]; exact conv_kat _ _ _ hx9)
            rw [← e9]
            clear e9
            have FA := Lib.hid (heap_on hb FA.out)
            have B := Lib.hid (below_on B.out hb)
            have T := Lib.hid (T.out.later hb)
            clear hb
            refine (T.out.act2 0 (by rw [H9.out]; exact pc_append b at_ t s (by omega) (by rw [← HN.out]; omega) (by rw [← HN.out]; omega)) rfl fun S hS => Append_any hS ⟨#[102]⟩ (by decide) K9.out (nums_bytes _)).mono ?_
            rintro _ w42 ⟨rfl, ht, hs⟩
            have FA := Lib.hid (hs.heap (show A < C from hAC) FA.out)
            have B := Lib.hid (B.out.trans (hs.below (base := w.heap.size) (fun g hg => (show g < C by omega))))
            have T := Lib.hid ht
            clear ht hs
            clear K9 H9 hx9
            go_wp2_with fail
            refine (T.out.act2 0 (pc_sync b t s (by rw [← HN.out]; omega)) rfl fun S hS => Sync_any hS ⟨#[102]⟩ (by decide)).mono ?_
            rintro _ w43 ⟨rfl, ht, hs⟩
            have FA := Lib.hid (hs.heap (show A < C from hAC) FA.out)
            have B := Lib.hid (B.out.trans (hs.below (base := w.heap.size) (fun g hg => (show g < C by omega))))
            have T := Lib.hid ht
            clear ht hs
            go_wp2_with fail
            go_roundw
            case rel => exact ⟨t, k + 1, t, by omega, by go_num, by go_num, by omega, fun h => by omega, fun h => by omega, T, FA, B.out⟩
            case measure => simp [intOf]; omega
          · have heqI : ¬ ((t : Int) = (sf : Int)) := by omega
            have hbt : at_ ≤ t := by omega
            have htn : t ≤ n := by omega
            obtain ⟨x9, hx9⟩ : ∃ x9, x9 = b.extract at_ t := ⟨_, rfl⟩
            have ks := fun (W : World) => cut_both (w := W) b at_ t (by omega) (by rw [← HN.out]; omega)
            rw [← hx9] at ks
            have H9 := Lib.hid hx9
            clear hx9
            go_wp2_with fail
            clear ks
            obtain ⟨w41, e9⟩ : ∃ w41 : World, w41 = Lib.bytesWorld wr 5 x9 := ⟨_, rfl⟩
            have hb : Below wr.heap.size wr w41 := by rw [e9]; exact conv_below _ _ _
            have hx9 : x9.size ≤ 140737488355328 := by rw [H9.out, size_extract _ _ _ (by omega) (by have := HN.out; omega)]; have := HN.out; omega
            have K9 := Lib.hid (show KAt .u8 w41 (.slice (some ⟨wr.heap.size, 0, none⟩) x9.size (grownCap wr x9.size 0 5)) (nums x9) by rw [e9]; exact conv_kat _ _ _ hx9)
            rw [← e9]
            clear e9
            have FA := Lib.hid (heap_on hb FA.out)
            have B := Lib.hid (below_on B.out hb)
            have T := Lib.hid (T.out.later hb)
            clear hb
            refine (T.out.act2 0 (by rw [H9.out]; exact pc_append b at_ t s (by omega) (by rw [← HN.out]; omega) (by rw [← HN.out]; omega)) rfl fun S hS => Append_any hS ⟨#[102]⟩ (by decide) K9.out (nums_bytes _)).mono ?_
            rintro _ w42 ⟨rfl, ht, hs⟩
            have FA := Lib.hid (hs.heap (show A < C from hAC) FA.out)
            have B := Lib.hid (B.out.trans (hs.below (base := w.heap.size) (fun g hg => (show g < C by omega))))
            have T := Lib.hid ht
            clear ht hs
            clear K9 H9 hx9
            go_wp2_with fail
            go_roundw
            case rel => exact ⟨t, k + 1, s, by omega, by go_num, by go_num, by omega, fun h => by omega, fun h => by omega, T, FA, B.out⟩
            case measure => simp [intOf]; omega
      · have hlsI : ¬ ((at_ : Int) < (sf : Int)) := by omega
        by_cases heq : t = sf
        · subst heq
          obtain rfl : at_ = t := by omega
          have hbt : at_ ≤ at_ := by omega
          have htn : at_ ≤ n := by omega
          obtain ⟨x9, hx9⟩ : ∃ x9, x9 = b.extract at_ at_ := ⟨_, rfl⟩
          have ks := fun (W : World) => cut_both (w := W) b at_ at_ (by omega) (by rw [← HN.out]; omega)
          rw [← hx9] at ks
          have H9 := Lib.hid hx9
          clear hx9
          go_wp2_with fail
          clear ks
          obtain ⟨w41, e9⟩ : ∃ w41 : World, w41 = Lib.bytesWorld wr 5 x9 := ⟨_, rfl⟩
          have hb : Below wr.heap.size wr w41 := by rw [e9]; exact conv_below _ _ _
          have hx9 : x9.size ≤ 140737488355328 := by rw [H9.out, size_extract _ _ _ (by omega) (by have := HN.out; omega)]; have := HN.out; omega
          have K9 := Lib.hid (show KAt .u8 w41 (.slice (some ⟨wr.heap.size, 0, none⟩) x9.size (grownCap wr x9.size 0 5)) (nums x9) by rw [e9]; exact conv_kat _ _ _ hx9)
          rw [← e9]
          clear e9
          have FA := Lib.hid (heap_on hb FA.out)
          have B := Lib.hid (below_on B.out hb)
          have T := Lib.hid (T.out.later hb)
          clear hb
          refine (T.out.act2 0 (by rw [H9.out]; exact pc_append b at_ at_ s (by omega) (by rw [← HN.out]; omega) (by rw [← HN.out]; omega)) rfl fun S hS => Append_any hS ⟨#[102]⟩ (by decide) K9.out (nums_bytes _)).mono ?_
          rintro _ w42 ⟨rfl, ht, hs⟩
          have FA := Lib.hid (hs.heap (show A < C from hAC) FA.out)
          have B := Lib.hid (B.out.trans (hs.below (base := w.heap.size) (fun g hg => (show g < C by omega))))
          have T := Lib.hid ht
          clear ht hs
          clear K9 H9 hx9
          go_wp2_with fail
          go_roundw
          case rel => exact ⟨at_, k + 1, s, by omega, by go_num, by go_num, by omega, fun h => by omega, fun h => by omega, T, FA, B.out⟩
          case measure => simp [intOf]; omega
        · have heqI : ¬ ((t : Int) = (sf : Int)) := by omega
          have hbt : at_ ≤ t := by omega
          have htn : t ≤ n := by omega
          obtain ⟨x9, hx9⟩ : ∃ x9, x9 = b.extract at_ t := ⟨_, rfl⟩
          have ks := fun (W : World) => cut_both (w := W) b at_ t (by omega) (by rw [← HN.out]; omega)
          rw [← hx9] at ks
          have H9 := Lib.hid hx9
          clear hx9
          go_wp2_with fail
          clear ks
          obtain ⟨w41, e9⟩ : ∃ w41 : World, w41 = Lib.bytesWorld wr 5 x9 := ⟨_, rfl⟩
          have hb : Below wr.heap.size wr w41 := by rw [e9]; exact conv_below _ _ _
          have hx9 : x9.size ≤ 140737488355328 := by rw [H9.out, size_extract _ _ _ (by omega) (by have := HN.out; omega)]; have := HN.out; omega
          have K9 := Lib.hid (show KAt .u8 w41 (.slice (some ⟨wr.heap.size, 0, none⟩) x9.size (grownCap wr x9.size 0 5)) (nums x9) by rw [e9]; exact conv_kat _ _ _ hx9)
          rw [← e9]
          clear e9
          have FA := Lib.hid (heap_on hb FA.out)
          have B := Lib.hid (below_on B.out hb)
          have T := Lib.hid (T.out.later hb)
          clear hb
          refine (T.out.act2 0 (by rw [H9.out]; exact pc_append b at_ t s (by omega) (by rw [← HN.out]; omega) (by rw [← HN.out]; omega)) rfl fun S hS => Append_any hS ⟨#[102]⟩ (by decide) K9.out (nums_bytes _)).mono ?_
          rintro _ w42 ⟨rfl, ht, hs⟩
          have FA := Lib.hid (hs.heap (show A < C from hAC) FA.out)
          have B := Lib.hid (B.out.trans (hs.below (base := w.heap.size) (fun g hg => (show g < C by omega))))
          have T := Lib.hid ht
          clear ht hs
          clear K9 H9 hx9
          go_wp2_with fail
          go_roundw
          case rel => exact ⟨t, k + 1, s, by omega, by go_num, by go_num, by omega, fun h => by omega, fun h => by omega, T, FA, B.out⟩
          case measure => simp [intOf]; omega
    · have hltI : ¬ ((k : Int) < (m : Int)) := by omega
      clear hb
      by_cases hend : at_ < n
      · have hendI : (at_ : Int) < (n : Int) := by omega
        by_cases hls : at_ < sf
        · have hlsI : (at_ : Int) < (sf : Int) := by omega
          by_cases hov : sf < n
          · have hovI : (sf : Int) < (n : Int) := by omega
            have hbt : at_ ≤ sf := by omega
            have htn : sf ≤ n := by omega
            obtain ⟨x9, hx9⟩ : ∃ x9, x9 = b.extract at_ sf := ⟨_, rfl⟩
            have ks := fun (W : World) => cut_both (w := W) b at_ sf (by omega) (by rw [← HN.out]; omega)
            rw [← hx9] at ks
            have H9 := Lib.hid hx9
            clear hx9
            go_wp2_with fail
            clear ks
            obtain ⟨w41, e9⟩ : ∃ w41 : World, w41 = Lib.bytesWorld wr 5 x9 := ⟨_, rfl⟩
            have hb : Below wr.heap.size wr w41 := by rw [e9]; exact conv_below _ _ _
            have hx9 : x9.size ≤ 140737488355328 := by rw [H9.out, size_extract _ _ _ (by omega) (by have := HN.out; omega)]; have := HN.out; omega
            have K9 := Lib.hid (show KAt .u8 w41 (.slice (some ⟨wr.heap.size, 0, none⟩) x9.size (grownCap wr x9.size 0 5)) (nums x9) by rw [e9]; exact conv_kat _ _ _ hx9)
            rw [← e9]
            clear e9
            have FA := Lib.hid (heap_on hb FA.out)
            have B := Lib.hid (below_on B.out hb)
            have T := Lib.hid (T.out.later hb)
            clear hb
            refine (T.out.act2 0 (by rw [H9.out]; exact pc_append b at_ sf s (by omega) (by rw [← HN.out]; omega) (by rw [← HN.out]; omega)) rfl fun S hS => Append_any hS ⟨#[102]⟩ (by decide) K9.out (nums_bytes _)).mono ?_
            rintro _ w42 ⟨rfl, ht, hs⟩
            have FA := Lib.hid (hs.heap (show A < C from hAC) FA.out)
            have B := Lib.hid (B.out.trans (hs.below (base := w.heap.size) (fun g hg => (show g < C by omega))))
            have T := Lib.hid ht
            clear ht hs
            clear K9 H9 hx9
            go_wp2_with fail
            refine (T.out.act2 0 (pc_sync b sf s (by rw [← HN.out]; omega)) rfl fun S hS => Sync_any hS ⟨#[102]⟩ (by decide)).mono ?_
            rintro _ w43 ⟨rfl, ht, hs⟩
            have FA := Lib.hid (hs.heap (show A < C from hAC) FA.out)
            have B := Lib.hid (B.out.trans (hs.below (base := w.heap.size) (fun g hg => (show g < C by omega))))
            have T := Lib.hid ht
            clear ht hs
            go_wp2_with fail
            go_roundw
            case rel => exact ⟨sf, k + 1, sf, by omega, by go_num, by go_num, by omega, fun h => by omega, fun h => by omega, T, FA, B.out⟩
            case measure => simp [intOf]; omega
          · have hovI : ¬ ((sf : Int) < (n : Int)) := by omega
            by_cases heq : n = sf
            · subst heq
              have hbt : at_ ≤ n := by omega
              have htn : n ≤ n := by omega
              obtain ⟨x9, hx9⟩ : ∃ x9, x9 = b.extract at_ n := ⟨_, rfl⟩
              have ks := fun (W : World) => cut_both (w := W) b at_ n (by omega) (by rw [← HN.out]; omega)
              rw [← hx9] at ks
              have H9 := Lib.hid hx9
              clear hx9
              go_wp2_with fail
              clear ks
              obtain ⟨w41, e9⟩ : ∃ w41 : World, w41 = Lib.bytesWorld wr 5 x9 := ⟨_, rfl⟩
              have hb : Below wr.heap.size wr w41 := by rw [e9]; exact conv_below _ _ _
              have hx9 : x9.size ≤ 140737488355328 := by rw [H9.out, size_extract _ _ _ (by omega) (by have := HN.out; omega)]; have := HN.out; omega
              have K9 := Lib.hid (show KAt .u8 w41 (.slice (some ⟨wr.heap.size, 0, none⟩) x9.size (grownCap wr x9.size 0 5)) (nums x9) by rw [e9]; exact conv_kat _ _ _ hx9)
              rw [← e9]
              clear e9
              have FA := Lib.hid (heap_on hb FA.out)
              have B := Lib.hid (below_on B.out hb)
              have T := Lib.hid (T.out.later hb)
              clear hb
              refine (T.out.act2 0 (by rw [H9.out]; exact pc_append b at_ n s (by omega) (by rw [← HN.out]; omega) (by rw [← HN.out]; omega)) rfl fun S hS => Append_any hS ⟨#[102]⟩ (by decide) K9.out (nums_bytes _)).mono ?_
              rintro _ w42 ⟨rfl, ht, hs⟩
              have FA := Lib.hid (hs.heap (show A < C from hAC) FA.out)
              have B := Lib.hid (B.out.trans (hs.below (base := w.heap.size) (fun g hg => (show g < C by omega))))
              have T := Lib.hid ht
              clear ht hs
              clear K9 H9 hx9
              go_wp2_with fail
              refine (T.out.act2 0 (pc_sync b n s (by rw [← HN.out]; omega)) rfl fun S hS => Sync_any hS ⟨#[102]⟩ (by decide)).mono ?_
              rintro _ w43 ⟨rfl, ht, hs⟩
              have FA := Lib.hid (hs.heap (show A < C from hAC) FA.out)
              have B := Lib.hid (B.out.trans (hs.below (base := w.heap.size) (fun g hg => (show g < C by omega))))
              have T := Lib.hid ht
              clear ht hs
              go_wp2_with fail
              go_roundw
              case rel => exact ⟨n, k + 1, n, by omega, by go_num, by go_num, by omega, fun h => by omega, fun h => by omega, T, FA, B.out⟩
              case measure => simp [intOf]; omega
            · have heqI : ¬ ((n : Int) = (sf : Int)) := by omega
              have hbt : at_ ≤ n := by omega
              have htn : n ≤ n := by omega
              obtain ⟨x9, hx9⟩ : ∃ x9, x9 = b.extract at_ n := ⟨_, rfl⟩
              have ks := fun (W : World) => cut_both (w := W) b at_ n (by omega) (by rw [← HN.out]; omega)
              rw [← hx9] at ks
              have H9 := Lib.hid hx9
              clear hx9
              go_wp2_with fail
              clear ks
              obtain ⟨w41, e9⟩ : ∃ w41 : World, w41 = Lib.bytesWorld wr 5 x9 := ⟨_, rfl⟩
              have hb : Below wr.heap.size wr w41 := by rw [e9]; exact conv_below _ _ _
              have hx9 : x9.size ≤ 140737488355328 := by rw [H9.out, size_extract _ _ _ (by omega) (by have := HN.out; omega)]; have := HN.out; omega
              have K9 := Lib.hid (show KAt .u8 w41 (.slice (some ⟨wr.heap.size, 0, none⟩) x9.size (grownCap wr x9.size 0 5)) (nums x9) by rw [e9]; exact conv_kat _ _ _ hx9)
              rw [← e9]
              clear e9
              have FA := Lib.hid (heap_on hb FA.out)
              have B := Lib.hid (below_on B.out hb)
              have T := Lib.hid (T.out.later hb)
              clear hb
              refine (T.out.act2 0 (by rw [H9.out]; exact pc_append b at_ n s (by omega) (by rw [← HN.out]; omega) (by rw [← HN.out]; omega)) rfl fun S hS => Append_any hS ⟨#[102]⟩ (by decide) K9.out (nums_bytes _)).mono ?_
              rintro _ w42 ⟨rfl, ht, hs⟩
              have FA := Lib.hid (hs.heap (show A < C from hAC) FA.out)
              have B := Lib.hid (B.out.trans (hs.below (base := w.heap.size) (fun g hg => (show g < C by omega))))
              have T := Lib.hid ht
              clear ht hs
              clear K9 H9 hx9
              go_wp2_with fail
              go_roundw
              case rel => exact ⟨n, k + 1, s, by omega, by go_num, by go_num, by omega, fun h => by omega, fun h => by omega, T, FA, B.out⟩
              case measure => simp [intOf]; omega
        · have hlsI : ¬ ((at_ : Int) < (sf : Int)) := by omega
          by_cases heq : n = sf
          · omega
          · have heqI : ¬ ((n : Int) = (sf : Int)) := by omega
            have hbt : at_ ≤ n := by omega
            have htn : n ≤ n := by omega
            obtain ⟨x9, hx9⟩ : ∃ x9, x9 = b.extract at_ n := ⟨_, rfl⟩
            have ks := fun (W : World) => cut_both (w := W) b at_ n (by omega) (by rw [← HN.out]; omega)
            rw [← hx9] at ks
            have H9 := Lib.hid hx9
            clear hx9
            go_wp2_with fail
            clear ks
            obtain ⟨w41, e9⟩ : ∃ w41 : World, w41 = Lib.bytesWorld wr 5 x9 := ⟨_, rfl⟩
            have hb : Below wr.heap.size wr w41 := by rw [e9]; exact conv_below _ _ _
            have hx9 : x9.size ≤ 140737488355328 := by rw [H9.out, size_extract _ _ _ (by omega) (by have := HN.out; omega)]; have := HN.out; omega
            have K9 := Lib.hid (show KAt .u8 w41 (.slice (some ⟨wr.heap.size, 0, none⟩) x9.size (grownCap wr x9.size 0 5)) (nums x9) by rw [e9]; exact conv_kat _ _ _ hx9)
            rw [← e9]
            clear e9
            have FA := Lib.hid (heap_on hb FA.out)
            have B := Lib.hid (below_on B.out hb)
            have T := Lib.hid (T.out.later hb)
            clear hb
            refine (T.out.act2 0 (by rw [H9.out]; exact pc_append b at_ n s (by omega) (by rw [← HN.out]; omega) (by rw [← HN.out]; omega)) rfl fun S hS => Append_any hS ⟨#[102]⟩ (by decide) K9.out (nums_bytes _)).mono ?_
            rintro _ w42 ⟨rfl, ht, hs⟩
            have FA := Lib.hid (hs.heap (show A < C from hAC) FA.out)
            have B := Lib.hid (B.out.trans (hs.below (base := w.heap.size) (fun g hg => (show g < C by omega))))
            have T := Lib.hid ht
            clear ht hs
            clear K9 H9 hx9
            go_wp2_with fail
            go_roundw
            case rel => exact ⟨n, k + 1, s, by omega, by go_num, by go_num, by omega, fun h => by omega, fun h => by omega, T, FA, B.out⟩
            case measure => simp [intOf]; omega
      · have hendI : ¬ ((at_ : Int) < (n : Int)) := by omega
        obtain rfl : at_ = n := by omega
        obtain rfl : s = sf := hs1 (by omega)
        obtain ⟨kp, hkp⟩ : ∃ kp, kp = z1 % 30 := ⟨_, rfl⟩
        have ekp : (z1 : Int) % 30 = (kp : Int) := by rw [hkp]; rfl
        have hkp9 : kp < 30 := by omega
        clear hkp
        go_wp2_with fail
        obtain ⟨S, S9, hS, hS9, _⟩ := T.out
        refine (alike_any hS hS9 rfl rfl).mono ?_
        clear hS hS9
        rintro _ w41 ⟨rfl, hb⟩
        have FA := Lib.hid (heap_on hb FA.out)
        have B := Lib.hid (below_on B.out hb)
        have T := Lib.hid (T.out.later hb)
        clear hb
        go_wp2_with fail
        refine (T.out.act 0 rfl rfl fun S hS => Names_any hS).mono ?_
        rintro _ w42 ⟨rfl, ht, hs⟩
        have FA := Lib.hid (hs.heap (show A < C from hAC) FA.out)
        have B := Lib.hid (B.out.trans (hs.below (base := w.heap.size) (fun g hg => (show g < C by omega))))
        have T := Lib.hid ht
        clear ht hs
        go_wp2_with fail
        refine (T.out.act2 0 rfl rfl fun S hS => Names_any hS).mono ?_
        rintro _ w43 ⟨rfl, ht, hs⟩
        have FA := Lib.hid (hs.heap (show A < C from hAC) FA.out)
        have B := Lib.hid (B.out.trans (hs.below (base := w.heap.size) (fun g hg => (show g < C by omega))))
        have T := Lib.hid ht
        clear ht hs
        have c0 := cell_of_row w43 A 0 _ _ (0, 0) FA.out
        have c1 := cell_of_row w43 A 1 _ _ (0, 0) FA.out
        go_wp2_with fail
        clear c0 c1
        obtain ⟨S, S9, hS, hS9, _⟩ := T.out
        refine (fail_any hS hS9 rfl rfl rfl kp (by omega)).mono ?_
        clear hS hS9
        rintro _ w44 ⟨rfl, hb⟩
        have FA := Lib.hid (heap_on hb FA.out)
        have B := Lib.hid (below_on B.out hb)
        have T := Lib.hid (T.out.later hb)
        clear hb
        go_wp2_with fail
        go_ret
        exact ⟨rfl, B.out⟩
end Go.Proofs.YtjaganoidfohaaaDoor
