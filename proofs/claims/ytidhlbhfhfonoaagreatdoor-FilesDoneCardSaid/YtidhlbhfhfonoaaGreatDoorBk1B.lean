/- Book: lists of Bytes alone are kept, and lie apart. -/
import Derived.Test.YtidhlbhfhfonoaaGreatDoorBk1
import Derived.Test.YtidhlbhfhfonoaaGreatDoorBkByte
namespace Go.Proofs.YtidhlbhfhfonoaaGreatDoor
open Go.ChangeShapes Go.WideShapes Go.ChangeAt Go.RowKit
set_option linter.unusedVariables false in
set_option maxRecDepth 40000 in
set_option maxHeartbeats 4000000 in
theorem Bk.keepByte {w : World} {base B k : Nat} {S : Nat → Prop} (h : Bk 5 141 1 1 w base B k S) (hk : k < 1000) {v : Value} {n : Nat} {xs : List Value} (hv : OwnV w base 5 1 v n xs) (hn : n ≤ 4000000) (hd : ∀ g, v.ownBlock = some g → ¬ S g) :
    Calls Tryz.prog 58 #[.pointer (some ⟨B, 0, none⟩), v] w fun e w' => e = .returned (.tuple #[]) ∧ Bk 5 141 1 1 w' base B (k + 1) (fun g => S g ∨ v.ownBlock = some g ∨ (w.heap.size ≤ g ∧ g < w'.heap.size)) ∧ Chg w w' S := by
  obtain ⟨⟨F, L, N, X, h1, h2⟩, h3⟩ := h
  obtain ⟨a, c, hL⟩ := hv.sl
  have hne : ∀ g, v.ownBlock = some g → ¬ KfB 1 B k F L g := fun g hg e => hd g hg (h2 g e)
  have hhld : hld (fun i => i + 1) L (fun _ => .slice none 0 0) k = hld (fun i => i + 1) (fun j => if j = k then v else L j) (fun _ => .slice none 0 0) k := hld_congr fun i hi => ⟨(if_neg (by omega)).symm, rfl⟩
  have hrow : OwnV w base 141 3 (F 1) k (hld (fun i => i + 1) (fun j => if j = k then v else L j) (fun _ => .slice none 0 0) k) := by rw [← hhld]; exact h1.fam.row
  have hlow := h1.low
  have hlt := h1.fam.book.lt
  rw [hL]
  refine (keepByte_any w B base k k F (fun j => if j = k then v else L j) (fun _ => .slice none 0 0) (fun i => i + 1) a n c h1.fam.book hrow h1.apart.notB (by omega) (by omega) hlow rfl (by simp only [if_true]; exact hL) rfl).mono ?_
  rintro e w' ⟨he, vb, k1, k2, k3, k4, k5⟩
  refine ⟨he, ⟨⟨_, _, _, _, h1.more hv hn hne k1 k2 k3 k5, fun g hg => ?_⟩, fun g hg => ?_⟩, ⟨k4.os, k4.tape, k4.output, k4.size, fun g hg hS => (k5 g hg (fun e => hS (h2 g (.inl e))) (fun e => hS (h2 g (.inr (.inl e))))).1⟩⟩
  · rcases hg with hg | hg | ⟨i, hi, hg⟩
    · exact .inl (h2 g (.inl hg))
    · simp only [if_true] at hg
      by_cases hl : g < w.heap.size
      · by_cases hgB : g = B
        · exact absurd (by rw [← hgB]; exact hg) k3
        · by_cases hgF : (F 1).ownBlock = some g
          · exact .inl (h2 g (.inr (.inl hgF)))
          · exact absurd hg (k5 g hl hgB hgF).2
      · exact .inr (.inr ⟨by omega, (OwnV.lt k2 g hg).2⟩)
    · by_cases e : i = k
      · simp only [if_pos e] at hg
        exact .inr (.inl (by rw [← hL]; exact hg))
      · simp only [if_neg e] at hg
        exact .inl (h2 g (.inr (.inr ⟨i, by omega, hg⟩)))
  · have hs := k4.size
    rcases hg with hg | hg | hg
    · have := h3 g hg; omega
    · have := OwnV.lt hv g (by rw [hL]; exact hg); omega
    · have := h3 B (h2 B (.inl rfl)); omega
set_option linter.unusedVariables false in
set_option maxRecDepth 40000 in
set_option maxHeartbeats 4000000 in
theorem Bk.Bytes {w : World} {base B k : Nat} {S : Nat → Prop} (h : Bk 5 141 1 1 w base B k S) (hk : k < 1000) {v : Value} {n : Nat} {xs : List Value} (hv : OwnV w base 5 1 v n xs) (hn : n ≤ 4000000) (hd : ∀ g, v.ownBlock = some g → ¬ S g) :
    Calls Tryz.prog 27 #[.pointer (some ⟨B, 0, none⟩), v] w fun e w' => e = .returned (.tuple #[]) ∧ Bk 5 141 1 1 w' base B (k + 1) (fun g => S g ∨ v.ownBlock = some g ∨ (w.heap.size ≤ g ∧ g < w'.heap.size)) ∧ Chg w w' S := by
  have H := Lib.hid (h.keepByte hk hv hn hd)
  obtain ⟨a, c, hL⟩ := hv.sl
  subst hL
  clear h hv hd
  go_enter Tryz.func27, Tryz.ntmps27
  go_wp2_with fail
  refine H.out.mono ?_
  rintro _ w' ⟨rfl, h⟩
  have HH := Lib.hid h
  clear h
  go_wp2_with fail
  go_end0
  exact ⟨rfl, HH.out⟩
set_option linter.unusedVariables false in
set_option maxRecDepth 40000 in
set_option maxHeartbeats 4000000 in
theorem Bk.apartByte {w : World} {base B k : Nat} {S : Nat → Prop} (h : Bk 5 141 1 1 w base B k S) (hk : k < 1000) :
    Calls Tryz.prog 28 #[.pointer (some ⟨B, 0, none⟩)] w fun e w' => e = .returned (.bool true) ∧ Below base w w' ∧ Chg w w' S := by
  obtain ⟨⟨F, L, N, X, h, h2⟩, h3⟩ := h
  have hs : base ≤ w.heap.size := by have := h.low; have := h.fam.book.lt; omega
  have hk1 : k ≤ 1000 := by omega
  have hm : ∀ i, i < k → i + 1 ≤ 1000 := fun i hi => by omega
  have NIL := Lib.hid h.nil
  have C1 := Lib.hid (fillByte_any w B base k k F L (fun _ => .slice none 0 0) (fun i => i + 1) N X h.fam h.apart hk1 hm h.low (fun _ _ => rfl) h.short)
  have C2 := Lib.hid (fun (w1 : World) h9 => growByte_any w1 B base k k w1.heap.size F L (fun _ => .slice none 0 0) (fun i => i + 1) N (Grow.of h9) h.apart hk1 hm h.low (fun _ _ => rfl) h.short)
  have C3 := Lib.hid (fun (w1 : World) (z : Nat) (G : Nat → Value) h9 => lookByte_any w1 B base k k z F L G (fun i => i + 1) N h9 hk1 hm h.short)
  have SS := Lib.hid (show ∀ g, ¬ S g → (F 1).ownBlock ≠ some g ∧ ∀ i, i < k → (L i).ownBlock ≠ some g from fun g hg => ⟨fun e => hg (h2 g (.inr (.inl e))), fun i hi e => hg (h2 g (.inr (.inr ⟨i, hi, e⟩)))⟩)
  have BK := Lib.hid h.fam.book
  clear h h2 h3
  go_enter Tryz.func28, Tryz.ntmps28
  go_wp2_with fail
  refine C1.out.mono ?_
  rintro _ w1 ⟨rfl, fB, hb, sp⟩
  have FB := Lib.hid fB
  have BK := Lib.hid fB.book
  have HB := Lib.hid hb
  have PR := Lib.hid (show ∀ g, g < w.heap.size → ¬ S g → w1.heap[g]? = w.heap[g]? from fun g h1 h2 => sp.2 g h1 (SS.out g h2).1 (SS.out g h2).2)
  have hs1 := hb.size
  clear fB hb sp C1
  go_wp2_with fail
  refine (fillInt_none _ B (bk1_nil BK.out NIL.out 2 (by decide))).mono ?_
  rintro _ _ ⟨rfl, rfl⟩
  go_wp2_with fail
  refine (fillText_none _ B (bk1_nil BK.out NIL.out 3 (by decide))).mono ?_
  rintro _ _ ⟨rfl, rfl⟩
  go_wp2_with fail
  refine (fillNum_none _ B (bk1_nil BK.out NIL.out 4 (by decide))).mono ?_
  rintro _ _ ⟨rfl, rfl⟩
  go_wp2_with fail
  refine (fillHash_none _ B (bk1_nil BK.out NIL.out 5 (by decide))).mono ?_
  rintro _ _ ⟨rfl, rfl⟩
  go_wp2_with fail
  refine (fillReason_none _ B (bk1_nil BK.out NIL.out 6 (by decide))).mono ?_
  rintro _ _ ⟨rfl, rfl⟩
  go_wp2_with fail
  refine (fillKey_none _ B (bk1_nil BK.out NIL.out 7 (by decide))).mono ?_
  rintro _ _ ⟨rfl, rfl⟩
  go_wp2_with fail
  refine (fillProof_none _ B (bk1_nil BK.out NIL.out 8 (by decide))).mono ?_
  rintro _ _ ⟨rfl, rfl⟩
  go_wp2_with fail
  refine (fillDealing_none _ B (bk1_nil BK.out NIL.out 9 (by decide))).mono ?_
  rintro _ _ ⟨rfl, rfl⟩
  go_wp2_with fail
  refine (fillOpened_none _ B (bk1_nil BK.out NIL.out 10 (by decide))).mono ?_
  rintro _ _ ⟨rfl, rfl⟩
  go_wp2_with fail
  refine (fillShown_none _ B (bk1_nil BK.out NIL.out 11 (by decide))).mono ?_
  rintro _ _ ⟨rfl, rfl⟩
  go_wp2_with fail
  refine (fillVote_none _ B (bk1_nil BK.out NIL.out 12 (by decide))).mono ?_
  rintro _ _ ⟨rfl, rfl⟩
  go_wp2_with fail
  refine (fillBlock_none _ B (bk1_nil BK.out NIL.out 13 (by decide))).mono ?_
  rintro _ _ ⟨rfl, rfl⟩
  go_wp2_with fail
  refine (fillEvidence_none _ B (bk1_nil BK.out NIL.out 14 (by decide))).mono ?_
  rintro _ _ ⟨rfl, rfl⟩
  go_wp2_with fail
  refine (fillMsg_none _ B (bk1_nil BK.out NIL.out 15 (by decide))).mono ?_
  rintro _ _ ⟨rfl, rfl⟩
  go_wp2_with fail
  refine (fillFrame_none _ B (bk1_nil BK.out NIL.out 16 (by decide))).mono ?_
  rintro _ _ ⟨rfl, rfl⟩
  go_wp2_with fail
  refine (fillRecord_none _ B (bk1_nil BK.out NIL.out 17 (by decide))).mono ?_
  rintro _ _ ⟨rfl, rfl⟩
  go_wp2_with fail
  refine (C2.out w1 FB.out).mono ?_
  rintro _ w2 ⟨rfl, ⟨G1, gB⟩, hb, sp⟩
  have GB := Lib.hid gB
  have BK := Lib.hid gB.book
  have HB := Lib.hid (HB.out.trans hb)
  have PR := Lib.hid (show ∀ g, g < w.heap.size → ¬ S g → w2.heap[g]? = w.heap[g]? from fun g h1 h2 => (sp.2 g (by omega) (SS.out g h2).1 (SS.out g h2).2).trans (PR.out g h1 h2))
  have hs2 := hb.size
  clear gB hb sp C2 FB
  go_wp2_with fail
  refine (growInt_none _ B (bk1_nil BK.out NIL.out 2 (by decide))).mono ?_
  rintro _ _ ⟨rfl, rfl⟩
  go_wp2_with fail
  refine (growText_none _ B (bk1_nil BK.out NIL.out 3 (by decide))).mono ?_
  rintro _ _ ⟨rfl, rfl⟩
  go_wp2_with fail
  refine (growNum_none _ B (bk1_nil BK.out NIL.out 4 (by decide))).mono ?_
  rintro _ _ ⟨rfl, rfl⟩
  go_wp2_with fail
  refine (growHash_none _ B (bk1_nil BK.out NIL.out 5 (by decide))).mono ?_
  rintro _ _ ⟨rfl, rfl⟩
  go_wp2_with fail
  refine (growReason_none _ B (bk1_nil BK.out NIL.out 6 (by decide))).mono ?_
  rintro _ _ ⟨rfl, rfl⟩
  go_wp2_with fail
  refine (growKey_none _ B (bk1_nil BK.out NIL.out 7 (by decide))).mono ?_
  rintro _ _ ⟨rfl, rfl⟩
  go_wp2_with fail
  refine (growProof_none _ B (bk1_nil BK.out NIL.out 8 (by decide))).mono ?_
  rintro _ _ ⟨rfl, rfl⟩
  go_wp2_with fail
  refine (growDealing_none _ B (bk1_nil BK.out NIL.out 9 (by decide))).mono ?_
  rintro _ _ ⟨rfl, rfl⟩
  go_wp2_with fail
  refine (growOpened_none _ B (bk1_nil BK.out NIL.out 10 (by decide))).mono ?_
  rintro _ _ ⟨rfl, rfl⟩
  go_wp2_with fail
  refine (growShown_none _ B (bk1_nil BK.out NIL.out 11 (by decide))).mono ?_
  rintro _ _ ⟨rfl, rfl⟩
  go_wp2_with fail
  refine (growVote_none _ B (bk1_nil BK.out NIL.out 12 (by decide))).mono ?_
  rintro _ _ ⟨rfl, rfl⟩
  go_wp2_with fail
  refine (growBlock_none _ B (bk1_nil BK.out NIL.out 13 (by decide))).mono ?_
  rintro _ _ ⟨rfl, rfl⟩
  go_wp2_with fail
  refine (growEvidence_none _ B (bk1_nil BK.out NIL.out 14 (by decide))).mono ?_
  rintro _ _ ⟨rfl, rfl⟩
  go_wp2_with fail
  refine (growMsg_none _ B (bk1_nil BK.out NIL.out 15 (by decide))).mono ?_
  rintro _ _ ⟨rfl, rfl⟩
  go_wp2_with fail
  refine (growFrame_none _ B (bk1_nil BK.out NIL.out 16 (by decide))).mono ?_
  rintro _ _ ⟨rfl, rfl⟩
  go_wp2_with fail
  refine (growRecord_none _ B (bk1_nil BK.out NIL.out 17 (by decide))).mono ?_
  rintro _ _ ⟨rfl, rfl⟩
  go_wp2_with fail
  refine (C3.out w2 _ G1 GB.out).mono ?_
  rintro _ w3 ⟨rfl, hb⟩
  have BK := Lib.hid (BK.out.kept (hb.block B BK.out.lt))
  have HB := Lib.hid (HB.out.trans (hb.mono (by omega)))
  have PR := Lib.hid (show ∀ g, g < w.heap.size → ¬ S g → w3.heap[g]? = w.heap[g]? from fun g h1 h2 => (hb.block g (by omega)).trans (PR.out g h1 h2))
  have hs3 := hb.size
  clear hb C3 GB
  go_wp2_with fail
  refine (lookInt_none _ B (bk1_nil BK.out NIL.out 2 (by decide))).mono ?_
  rintro _ _ ⟨rfl, rfl⟩
  go_wp2_with fail
  refine (lookText_none _ B (bk1_nil BK.out NIL.out 3 (by decide))).mono ?_
  rintro _ _ ⟨rfl, rfl⟩
  go_wp2_with fail
  refine (lookNum_none _ B (bk1_nil BK.out NIL.out 4 (by decide))).mono ?_
  rintro _ _ ⟨rfl, rfl⟩
  go_wp2_with fail
  refine (lookHash_none _ B (bk1_nil BK.out NIL.out 5 (by decide))).mono ?_
  rintro _ _ ⟨rfl, rfl⟩
  go_wp2_with fail
  refine (lookReason_none _ B (bk1_nil BK.out NIL.out 6 (by decide))).mono ?_
  rintro _ _ ⟨rfl, rfl⟩
  go_wp2_with fail
  refine (lookKey_none _ B (bk1_nil BK.out NIL.out 7 (by decide))).mono ?_
  rintro _ _ ⟨rfl, rfl⟩
  go_wp2_with fail
  refine (lookProof_none _ B (bk1_nil BK.out NIL.out 8 (by decide))).mono ?_
  rintro _ _ ⟨rfl, rfl⟩
  go_wp2_with fail
  refine (lookDealing_none _ B (bk1_nil BK.out NIL.out 9 (by decide))).mono ?_
  rintro _ _ ⟨rfl, rfl⟩
  go_wp2_with fail
  refine (lookOpened_none _ B (bk1_nil BK.out NIL.out 10 (by decide))).mono ?_
  rintro _ _ ⟨rfl, rfl⟩
  go_wp2_with fail
  refine (lookShown_none _ B (bk1_nil BK.out NIL.out 11 (by decide))).mono ?_
  rintro _ _ ⟨rfl, rfl⟩
  go_wp2_with fail
  refine (lookVote_none _ B (bk1_nil BK.out NIL.out 12 (by decide))).mono ?_
  rintro _ _ ⟨rfl, rfl⟩
  go_wp2_with fail
  refine (lookBlock_none _ B (bk1_nil BK.out NIL.out 13 (by decide))).mono ?_
  rintro _ _ ⟨rfl, rfl⟩
  go_wp2_with fail
  refine (lookEvidence_none _ B (bk1_nil BK.out NIL.out 14 (by decide))).mono ?_
  rintro _ _ ⟨rfl, rfl⟩
  go_wp2_with fail
  refine (lookMsg_none _ B (bk1_nil BK.out NIL.out 15 (by decide))).mono ?_
  rintro _ _ ⟨rfl, rfl⟩
  go_wp2_with fail
  refine (lookFrame_none _ B (bk1_nil BK.out NIL.out 16 (by decide))).mono ?_
  rintro _ _ ⟨rfl, rfl⟩
  go_wp2_with fail
  refine (lookRecord_none _ B (bk1_nil BK.out NIL.out 17 (by decide))).mono ?_
  rintro _ _ ⟨rfl, rfl⟩
  go_wp2_with fail
  go_ret
  exact ⟨rfl, HB.out, ⟨HB.out.os, HB.out.tape, HB.out.output, HB.out.size, PR.out⟩⟩
end Go.Proofs.YtidhlbhfhfonoaaGreatDoor
