/- Book: Bytes, Apart. -/
import Derived.Test.YtplhfbflgjnjmaaGreatDoorBook5
namespace Go.Proofs.YtplhfbflgjnjmaaGreatDoor
open Go.ChangeShapes Go.WideShapes Go.ChangeAt Go.RowKit

theorem Grow.of {w : World} {base B k : Nat} {vb : Value} {L G : Nat → Value} {N : Nat → Nat} (h : Fam w base B k vb L G N (fun i => List.replicate (N i) (mark i))) : Grow w base B k vb L G N 0 :=
  ⟨h.book, h.row, fun j _ hj => h.own j hj, fun _ hj => absurd hj (Nat.not_lt_zero _), fun j hj g hg => (OwnV.lt (h.own j hj) g hg).2, fun _ hj => absurd hj (Nat.not_lt_zero _)⟩
set_option maxRecDepth 40000 in
set_option maxHeartbeats 4000000 in
theorem Apart_any (w : World) (B base k : Nat) (vb : Value) (L G : Nat → Value) (N : Nat → Nat) (X : Nat → List Value) (hF : Fam w base B k vb L G N X) (hA : Aparts B k vb L) (hk : k ≤ 100) (hB : base ≤ B) (hG : ∀ i, i < k → G i = .slice none 0 0) (hN : ∀ i, i < k → N i ≤ 4000000) :
    Calls Tryz.prog 16 #[.pointer (some ⟨B, 0, none⟩)] w fun e w' => e = .returned (.bool true) ∧ Below base w w' := by
  have H1 := Lib.hid (fill_any w B base k vb L G N X hF hA hk hB hG (fun i hi => by have := hN i hi; omega))
  have H2 := Lib.hid (fun (w1 : World) (h : Fam w1 base B k vb L G N (fun i => List.replicate (N i) (mark i))) => grow_any w1 B base k vb L G N (Grow.of h) hA hk hB hG hN)
  have H3 := Lib.hid (fun (w2 : World) (G' : Nat → Value) (h : Grow w2 base B k vb L G' N k) => look_any w2 B base k vb L G' N h hk hN)
  have hs : base ≤ w.heap.size := by have := hF.book.lt; omega
  clear hF hA hG hN
  go_enter Tryz.func16, Tryz.ntmps16
  go_wp2_with fail
  refine H1.out.mono ?_
  rintro _ w1 ⟨rfl, hf1, hb1⟩
  have HF1 := Lib.hid hf1
  have HB1 := Lib.hid hb1
  have hs1 := hb1.size
  clear hf1 hb1 H1
  go_wp2_with fail
  refine (fillInt_none _ B (HF1.out.book.2.2.1 2 (by omega) (by omega))).mono ?_
  rintro _ _ ⟨rfl, rfl⟩
  go_wp2_with fail
  refine (fillText_none _ B (HF1.out.book.2.2.1 3 (by omega) (by omega))).mono ?_
  rintro _ _ ⟨rfl, rfl⟩
  go_wp2_with fail
  refine (fillNum_none _ B (HF1.out.book.2.2.1 4 (by omega) (by omega))).mono ?_
  rintro _ _ ⟨rfl, rfl⟩
  go_wp2_with fail
  refine (fillHash_none _ B (HF1.out.book.2.2.1 5 (by omega) (by omega))).mono ?_
  rintro _ _ ⟨rfl, rfl⟩
  go_wp2_with fail
  refine (fillReason_none _ B (HF1.out.book.2.2.1 6 (by omega) (by omega))).mono ?_
  rintro _ _ ⟨rfl, rfl⟩
  go_wp2_with fail
  refine (fillKey_none _ B (HF1.out.book.2.2.1 7 (by omega) (by omega))).mono ?_
  rintro _ _ ⟨rfl, rfl⟩
  go_wp2_with fail
  refine (fillProof_none _ B (HF1.out.book.2.2.1 8 (by omega) (by omega))).mono ?_
  rintro _ _ ⟨rfl, rfl⟩
  go_wp2_with fail
  refine (fillDealing_none _ B (HF1.out.book.2.2.1 9 (by omega) (by omega))).mono ?_
  rintro _ _ ⟨rfl, rfl⟩
  go_wp2_with fail
  refine (fillOpened_none _ B (HF1.out.book.2.2.1 10 (by omega) (by omega))).mono ?_
  rintro _ _ ⟨rfl, rfl⟩
  go_wp2_with fail
  refine (fillShown_none _ B (HF1.out.book.2.2.1 11 (by omega) (by omega))).mono ?_
  rintro _ _ ⟨rfl, rfl⟩
  go_wp2_with fail
  refine (fillVote_none _ B (HF1.out.book.2.2.1 12 (by omega) (by omega))).mono ?_
  rintro _ _ ⟨rfl, rfl⟩
  go_wp2_with fail
  refine (fillBlock_none _ B (HF1.out.book.2.2.1 13 (by omega) (by omega))).mono ?_
  rintro _ _ ⟨rfl, rfl⟩
  go_wp2_with fail
  refine (fillEvidence_none _ B (HF1.out.book.2.2.1 14 (by omega) (by omega))).mono ?_
  rintro _ _ ⟨rfl, rfl⟩
  go_wp2_with fail
  refine (fillMsg_none _ B (HF1.out.book.2.2.1 15 (by omega) (by omega))).mono ?_
  rintro _ _ ⟨rfl, rfl⟩
  go_wp2_with fail
  refine (fillFrame_none _ B (HF1.out.book.2.2.1 16 (by omega) (by omega))).mono ?_
  rintro _ _ ⟨rfl, rfl⟩
  go_wp2_with fail
  refine (fillRecord_none _ B (HF1.out.book.2.2.1 17 (by omega) (by omega))).mono ?_
  rintro _ _ ⟨rfl, rfl⟩
  go_wp2_with fail
  refine (H2.out w1 HF1.out).mono ?_
  rintro _ w2 ⟨rfl, ⟨G', hf2⟩, hb2⟩
  have HF2 := Lib.hid hf2
  have HB2 := Lib.hid (HB1.out.trans hb2)
  have hs2 := hb2.size
  clear hf2 hb2 H2 HF1 HB1
  go_wp2_with fail
  refine (growInt_none _ B (HF2.out.book.2.2.1 2 (by omega) (by omega))).mono ?_
  rintro _ _ ⟨rfl, rfl⟩
  go_wp2_with fail
  refine (growText_none _ B (HF2.out.book.2.2.1 3 (by omega) (by omega))).mono ?_
  rintro _ _ ⟨rfl, rfl⟩
  go_wp2_with fail
  refine (growNum_none _ B (HF2.out.book.2.2.1 4 (by omega) (by omega))).mono ?_
  rintro _ _ ⟨rfl, rfl⟩
  go_wp2_with fail
  refine (growHash_none _ B (HF2.out.book.2.2.1 5 (by omega) (by omega))).mono ?_
  rintro _ _ ⟨rfl, rfl⟩
  go_wp2_with fail
  refine (growReason_none _ B (HF2.out.book.2.2.1 6 (by omega) (by omega))).mono ?_
  rintro _ _ ⟨rfl, rfl⟩
  go_wp2_with fail
  refine (growKey_none _ B (HF2.out.book.2.2.1 7 (by omega) (by omega))).mono ?_
  rintro _ _ ⟨rfl, rfl⟩
  go_wp2_with fail
  refine (growProof_none _ B (HF2.out.book.2.2.1 8 (by omega) (by omega))).mono ?_
  rintro _ _ ⟨rfl, rfl⟩
  go_wp2_with fail
  refine (growDealing_none _ B (HF2.out.book.2.2.1 9 (by omega) (by omega))).mono ?_
  rintro _ _ ⟨rfl, rfl⟩
  go_wp2_with fail
  refine (growOpened_none _ B (HF2.out.book.2.2.1 10 (by omega) (by omega))).mono ?_
  rintro _ _ ⟨rfl, rfl⟩
  go_wp2_with fail
  refine (growShown_none _ B (HF2.out.book.2.2.1 11 (by omega) (by omega))).mono ?_
  rintro _ _ ⟨rfl, rfl⟩
  go_wp2_with fail
  refine (growVote_none _ B (HF2.out.book.2.2.1 12 (by omega) (by omega))).mono ?_
  rintro _ _ ⟨rfl, rfl⟩
  go_wp2_with fail
  refine (growBlock_none _ B (HF2.out.book.2.2.1 13 (by omega) (by omega))).mono ?_
  rintro _ _ ⟨rfl, rfl⟩
  go_wp2_with fail
  refine (growEvidence_none _ B (HF2.out.book.2.2.1 14 (by omega) (by omega))).mono ?_
  rintro _ _ ⟨rfl, rfl⟩
  go_wp2_with fail
  refine (growMsg_none _ B (HF2.out.book.2.2.1 15 (by omega) (by omega))).mono ?_
  rintro _ _ ⟨rfl, rfl⟩
  go_wp2_with fail
  refine (growFrame_none _ B (HF2.out.book.2.2.1 16 (by omega) (by omega))).mono ?_
  rintro _ _ ⟨rfl, rfl⟩
  go_wp2_with fail
  refine (growRecord_none _ B (HF2.out.book.2.2.1 17 (by omega) (by omega))).mono ?_
  rintro _ _ ⟨rfl, rfl⟩
  go_wp2_with fail
  refine (H3.out w2 G' HF2.out).mono ?_
  rintro _ w3 ⟨rfl, hb3⟩
  have HK3 := Lib.hid (HF2.out.book.kept (hb3.block B HF2.out.book.lt))
  have HB3 := Lib.hid (HB2.out.trans (hb3.mono (by omega)))
  clear hb3 H3 HF2 HB2
  go_wp2_with fail
  refine (lookInt_none _ B (HK3.out.2.2.1 2 (by omega) (by omega))).mono ?_
  rintro _ _ ⟨rfl, rfl⟩
  go_wp2_with fail
  refine (lookText_none _ B (HK3.out.2.2.1 3 (by omega) (by omega))).mono ?_
  rintro _ _ ⟨rfl, rfl⟩
  go_wp2_with fail
  refine (lookNum_none _ B (HK3.out.2.2.1 4 (by omega) (by omega))).mono ?_
  rintro _ _ ⟨rfl, rfl⟩
  go_wp2_with fail
  refine (lookHash_none _ B (HK3.out.2.2.1 5 (by omega) (by omega))).mono ?_
  rintro _ _ ⟨rfl, rfl⟩
  go_wp2_with fail
  refine (lookReason_none _ B (HK3.out.2.2.1 6 (by omega) (by omega))).mono ?_
  rintro _ _ ⟨rfl, rfl⟩
  go_wp2_with fail
  refine (lookKey_none _ B (HK3.out.2.2.1 7 (by omega) (by omega))).mono ?_
  rintro _ _ ⟨rfl, rfl⟩
  go_wp2_with fail
  refine (lookProof_none _ B (HK3.out.2.2.1 8 (by omega) (by omega))).mono ?_
  rintro _ _ ⟨rfl, rfl⟩
  go_wp2_with fail
  refine (lookDealing_none _ B (HK3.out.2.2.1 9 (by omega) (by omega))).mono ?_
  rintro _ _ ⟨rfl, rfl⟩
  go_wp2_with fail
  refine (lookOpened_none _ B (HK3.out.2.2.1 10 (by omega) (by omega))).mono ?_
  rintro _ _ ⟨rfl, rfl⟩
  go_wp2_with fail
  refine (lookShown_none _ B (HK3.out.2.2.1 11 (by omega) (by omega))).mono ?_
  rintro _ _ ⟨rfl, rfl⟩
  go_wp2_with fail
  refine (lookVote_none _ B (HK3.out.2.2.1 12 (by omega) (by omega))).mono ?_
  rintro _ _ ⟨rfl, rfl⟩
  go_wp2_with fail
  refine (lookBlock_none _ B (HK3.out.2.2.1 13 (by omega) (by omega))).mono ?_
  rintro _ _ ⟨rfl, rfl⟩
  go_wp2_with fail
  refine (lookEvidence_none _ B (HK3.out.2.2.1 14 (by omega) (by omega))).mono ?_
  rintro _ _ ⟨rfl, rfl⟩
  go_wp2_with fail
  refine (lookMsg_none _ B (HK3.out.2.2.1 15 (by omega) (by omega))).mono ?_
  rintro _ _ ⟨rfl, rfl⟩
  go_wp2_with fail
  refine (lookFrame_none _ B (HK3.out.2.2.1 16 (by omega) (by omega))).mono ?_
  rintro _ _ ⟨rfl, rfl⟩
  go_wp2_with fail
  refine (lookRecord_none _ B (HK3.out.2.2.1 17 (by omega) (by omega))).mono ?_
  rintro _ _ ⟨rfl, rfl⟩
  go_wp2_with fail
  go_ret
  exact ⟨rfl, HB3.out⟩
theorem Bytes_any (w : World) (B base k : Nat) (vb : Value) (L G : Nat → Value) (a : Option Addr) (n c : Nat) (hb : BookAt w B k vb) (ho : OwnV w base 72 3 vb k (held L G k)) (hne : vb.ownBlock ≠ some B) (hk : k ≤ 100) (hB : base ≤ B) (hL : L k = .slice a n c) (hG : G k = .slice none 0 0) :
    Calls Tryz.prog 15 #[.pointer (some ⟨B, 0, none⟩), .slice a n c] w fun e w' => e = .returned (.tuple #[]) ∧ ∃ vb', BookAt w' B (k + 1) vb' ∧ OwnV w' base 72 3 vb' (k + 1) (held L G (k + 1)) ∧ vb'.ownBlock ≠ some B ∧
      Below base w w' ∧ (∀ g, g < w.heap.size → g ≠ B → vb.ownBlock ≠ some g → w'.heap[g]? = w.heap[g]? ∧ vb'.ownBlock ≠ some g) := by
  have H := Lib.hid (keep_any w B base k vb L G a n c hb ho hne hk hB hL hG)
  clear hb ho hne hB hL hG
  go_enter Tryz.func15, Tryz.ntmps15
  go_wp2_with fail
  refine H.out.mono ?_
  rintro _ w' ⟨rfl, h⟩
  have HH := Lib.hid h
  clear h
  go_wp2_with fail
  go_end0
  exact ⟨rfl, HH.out⟩
end Go.Proofs.YtplhfbflgjnjmaaGreatDoor
