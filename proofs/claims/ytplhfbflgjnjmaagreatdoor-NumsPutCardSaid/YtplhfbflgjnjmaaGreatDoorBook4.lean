/- Book: growByte. -/
import Derived.Test.YtplhfbflgjnjmaaGreatDoorBook3
namespace Go.Proofs.YtplhfbflgjnjmaaGreatDoor
open Go.ChangeShapes Go.WideShapes Go.ChangeAt Go.RowKit

/-- In the midst of a list's growth: p are put behind. -/
structure Long (wo wq : World) (base i n : Nat) (Li v : Value) (p : Nat) : Prop where
  own : OwnV wq base 5 1 v (n + p) (List.replicate (n + p) (mark i))
  at_ : KAt .u8 wq Li (List.replicate n (i + 1))
  start : (∃ g o c c', Li = .slice (some ⟨g, o, none⟩) n c ∧ v = .slice (some ⟨g, o, none⟩) (n + p) c') ∨ ∀ g, v.ownBlock = some g → wo.heap.size ≤ g
  frame : ∀ g, g < wo.heap.size → Li.ownBlock ≠ some g → wq.heap[g]? = wo.heap[g]?
  below : Below base wo wq
  low : ∀ g, Li.ownBlock = some g → g < wo.heap.size
  size : wo.heap.size ≤ wq.heap.size
theorem Long.first {wo : World} {base i n : Nat} {Li : Value} (h : OwnV wo base 5 1 Li n (List.replicate n (mark i))) : Long wo wo base i n Li Li 0 := by
  refine ⟨h, own_kat h, ?_, fun _ _ _ => rfl, Below.refl _ _, fun g hg => (OwnV.lt h g hg).2, Nat.le_refl _⟩
  rcases h.2 with ⟨rfl, _⟩ | ⟨g, o, cap, cur, rfl, _⟩
  · exact .inr (fun g hg => by simp [Value.ownBlock] at hg)
  · exact .inl ⟨g, o, cap, cap, rfl, rfl⟩
theorem Long.next {wo wq X w2 : World} {base i n p : Nat} {Li v v' : Value} (h : Long wo wq base i n Li v p) (hb : base ≤ wo.heap.size) (hX : Below wq.heap.size wq X) (hg : X.grownBy w2 v.ownBlock) (hl : Lies X w2 v v' (n + p) 1)
    (ho : OwnV w2 base 5 1 v' (n + p + 1) (List.replicate (n + p) (mark i) ++ [mark i])) : Long wo w2 base i n Li v' (p + 1) := by
  have hXs := hX.size
  have hwq := h.size
  have ho' : OwnV w2 base 5 1 v' (n + (p + 1)) (List.replicate (n + (p + 1)) (mark i)) := by
    rw [← Nat.add_assoc, List.replicate_succ']
    exact ho
  have hvb : ∀ g, g < wo.heap.size → Li.ownBlock ≠ some g → v.ownBlock ≠ some g := by
    intro g h1 h2 e
    rcases h.start with ⟨g1, o, c, c', rfl, rfl⟩ | h3
    · exact h2 e
    · have := h3 g e; omega
  refine ⟨ho', ?_, ?_, fun g h1 h2 => ?_, ?_, h.low, by have := hg.size; omega⟩
  · have hother : (∀ g, Li.ownBlock = some g → w2.heap[g]? = X.heap[g]?) → KAt .u8 w2 Li (List.replicate n (i + 1)) := fun hh => (h.at_.later hX).block hh
    rcases hl with ⟨g, o, cap, hv, hv'⟩ | ⟨_, hn⟩ | ⟨h0, _⟩
    · rcases h.start with ⟨g1, o1, c, c', hL, hv1⟩ | h3
      · rw [hv] at hv1
        cases hv1
        obtain ⟨ao, cap0, e, h1, h2, h3, h4⟩ := h.at_
        obtain ⟨ao2, cap2, e2, _, _, _, h5⟩ := own_kat ho'
        rw [hL] at e
        simp only [List.length_replicate] at e
        cases e
        refine ⟨_, _, by rw [hL, List.length_replicate], h1, h2, h3, fun h0 => ⟨g, o, rfl, fun q x hq => ?_⟩⟩
        rw [List.length_replicate] at h0
        obtain ⟨g3, o3, e3, h6⟩ := h5 (by simp; omega)
        rw [hv', e3] at e2
        simp only [List.length_replicate] at e2
        cases e2
        refine h6 q x ?_
        obtain ⟨hq1, hq2⟩ := List.getElem?_eq_some_iff.1 hq
        rw [List.length_replicate] at hq1
        rw [List.getElem_replicate] at hq2
        rw [List.getElem?_replicate, if_pos (by omega), hq2]
      · refine hother (fun g2 hg2 => hg.block g2 (by have := h.low g2 hg2; omega) (fun e => ?_))
        have := h3 g2 e.symm
        have := h.low g2 hg2
        omega
    · exact hother (fun g2 hg2 => hn.block g2 (by have := h.low g2 hg2; omega) (fun e => by cases e))
    · cases h0
  · rcases hl with ⟨g, o, cap, hv, hv'⟩ | ⟨hf, _⟩ | ⟨h0, _⟩
    · rcases h.start with ⟨g1, o1, c, c', hL, hv1⟩ | h3
      · rw [hv] at hv1
        cases hv1
        exact .inl ⟨g, o, c, cap, hL, by rw [hv', Nat.add_assoc]⟩
      · right
        intro g2 hg2
        rw [hv'] at hg2
        exact h3 g2 (by rw [hv]; exact hg2)
    · right
      intro g2 hg2
      rw [hf] at hg2
      cases hg2
      omega
    · cases h0
  · rw [hg.block g (by omega) (fun e => hvb g h1 h2 e.symm), hX.block g (by omega)]
    exact h.frame g h1 h2
  · exact (h.below.trans (hX.mono (by omega))).grown hg (by omega) (fun q hq => (OwnV.lt h.own q hq).1)

theorem Long.start_block {wo wq : World} {base i n p : Nat} {Li v : Value} (h : Long wo wq base i n Li v p) : v.ownBlock = Li.ownBlock ∨ ∀ g, v.ownBlock = some g → wo.heap.size ≤ g := by
  rcases h.start with ⟨g, o, c, c', rfl, rfl⟩ | h
  · exact .inl rfl
  · exact .inr h
set_option maxRecDepth 20000 in
set_option maxHeartbeats 3000000 in
theorem grow_any (w : World) (B base k : Nat) (vb : Value) (L G : Nat → Value) (N : Nat → Nat) (hF : Grow w base B k vb L G N 0) (hA : Aparts B k vb L) (hk : k ≤ 100) (hB : base ≤ B) (hG : ∀ i, i < k → G i = .slice none 0 0) (hN : ∀ i, i < k → N i ≤ 4000000) :
    Calls Tryz.prog 43 #[.pointer (some ⟨B, 0, none⟩)] w fun e w' => e = .returned (.tuple #[]) ∧ (∃ G', Grow w' base B k vb L G' N k) ∧ Below base w w' := by
  obtain ⟨i0, hi0, hz0, hz1, hz2⟩ := info_parts infoB
  have HI := Lib.hid hi0
  have HF := Lib.hid hF
  have HA := Lib.hid hA
  have HN := Lib.hid hN
  have HG0 := Lib.hid hG
  obtain ⟨va, vc, hvb⟩ := hF.row.sl
  have hs : base ≤ w.heap.size := by have := hF.book.lt; omega
  subst hvb
  clear hF hA hG hN hi0
  go_enter Tryz.func43, Tryz.ntmps43
  go_wp2
  go_loopw [2] (fun i wr => ∃ (i' : Nat) (G' : Nat → Value), i' ≤ k ∧ i = .int .i64 i' ∧ Grow wr base B k (.slice va k vc) L G' N i' ∧ (∀ j, i' ≤ j → j < k → G' j = .slice none 0 0) ∧ Below base w wr ∧ base ≤ wr.heap.size) (fun i _ => k - (intOf i).toNat)
  case atStart => exact ⟨0, G, Nat.zero_le _, rfl, HF.out, fun j _ hj => HG0.out j hj, Below.refl _ _, hs⟩
  case round =>
    obtain ⟨i, G', hi, rfl, hf, hgn, hbl, hsz⟩ := hrel
    obtain ⟨wo, rfl⟩ : ∃ wo : World, wo = wr := ⟨_, rfl⟩
    have d1 := hf.book.2.1
    clear HG0
    by_cases hlt : i < k
    · obtain ⟨gv, ov, cv, hvb, hcv1, hcv2, hcv3, hcv4⟩ := vb_some hf.row hlt
      cases hvb
      obtain ⟨l0, l1, l2⟩ := held_cells hf.row hlt
      rw [hgn i (Nat.le_refl _) hlt] at l1
      obtain ⟨la, lc, hL⟩ := (hf.own i (Nat.le_refl _) hlt).sl
      rw [hL] at l0
      have hnn := HN.out i hlt
      have HFF := Lib.hid hf
      have HBL := Lib.hid hbl
      have HL := Lib.hid hL
      have HGN := Lib.hid hgn
      unfold maxLen at hcv2
      clear hf hbl hL hgn
      go_wp2
      obtain ⟨w2, e2⟩ : ∃ w2, w2 = wo.alloc (.cells #[.slice la (N i) lc, .slice none 0 0, .int .i64 ((i : Int) + 1)] 72) := ⟨_, rfl⟩
      have h0 : w2.cell? ⟨wo.heap.size, 0, none⟩ = some (.slice la (N i) lc) := by rw [e2]; simp
      have h2 : w2.cell? ⟨wo.heap.size, 2, none⟩ = some (.int .i64 ((i : Int) + 1)) := by rw [e2]; simp
      have hb2 : Below wo.heap.size wo w2 := by rw [e2]; exact (Below.refl _ _).alloc (Nat.le_refl _) _
      have hs2 : w2.heap.size = wo.heap.size + 1 := by rw [e2]; simp
      rw [← e2]
      clear e2 l0 l1 l2 d1
      have HF2 := Lib.hid (HFF.out.later hb2)
      have HB2 := Lib.hid (HBL.out.trans (hb2.mono hsz))
      have HLO := Lib.hid (Long.first (HF2.out.own i (Nat.le_refl _) hlt))
      have HH0 := Lib.hid h0
      have HH2 := Lib.hid h2
      have hne : (L i).ownBlock ≠ some wo.heap.size := fun e => by have := HFF.out.low i hlt _ e; omega
      have HNE := Lib.hid hne
      clear h2 hb2 hne
      go_wp2
      go_loopw [4, 5] (fun v j wq => ∃ j' : Nat, j' ≤ 40 ∧ j = .int .i64 j' ∧ Long w2 wq base i (N i) (L i) v j') (fun _ j _ => 40 - (intOf j).toNat)
      case atStart => exact ⟨0, by omega, rfl, by have h9 := HLO.out; rw [show Value.slice la (N i) lc = L i from HL.out.symm]; exact h9⟩
      case round =>
        obtain ⟨j, hj, rfl, hlo⟩ := hrel
        obtain ⟨a9, c9, rfl⟩ := hlo.own.sl
        have hblk := hlo.frame wo.heap.size (by omega) HNE.out
        have h2 : wr.cell? ⟨wo.heap.size, 2, none⟩ = some (.int .i64 ((i : Int) + 1)) := (World.cell?_of_block (w := w2) (a := ⟨wo.heap.size, 2, none⟩) hblk).trans HH2.out
        have HLG := Lib.hid hlo
        clear hlo hblk
        by_cases hjl : j < 40
        · go_wp2_with (first
            | (go_at_call 80; refine (mark_any _ i (by omega)).mono ?_; rintro _ _ ⟨rfl, rfl⟩)
            | (at_builtin; refine wpList_append_W rfl (.tmp 28) (.tmp 32) 22 rfl base 5 i0 (.int .u8 0) 1 1 Tryz.underlying22 HI.out hz0 hz1 hz2 rfl (.slice a9 (N i + j) c9) (N i + j) (List.replicate (N i + j) (mark i)) rfl (OwnV.later HLG.out.own ((Below.refl _ _).alloc (Nat.le_refl _) _)) (.slice (some ⟨wr.heap.size, 0, none⟩) 1 1) 1 [.int .u8 ((i : Int) + 1)] rfl (src_one _ _ _) (by unfold maxLen; omega) (by omega) (by have := HLG.out.size; simp; omega) ?_
               intro v3 w3 ho3 hg3 hl3
               have HN3 := Lib.hid (HLG.out.next (by omega) ((Below.refl _ _).alloc (Nat.le_refl _) _) hg3 hl3 ho3)
               clear ho3 hg3 hl3))
          go_roundw
          case rel => exact ⟨j + 1, by omega, by go_num, HN3.out⟩
          case measure => simp [intOf]; omega
        · obtain rfl : j = 40 := by omega
          clear hjl h2
          have hbk : wr.heap[B]? = w2.heap[B]? := HLG.out.frame B (by have := HF2.out.book.lt; omega) (fun e => (HA.out.one i hlt B e).1 rfl)
          have hgk : wr.heap[gv]? = w2.heap[gv]? := HLG.out.frame gv (by omega) (fun e => (HA.out.one i hlt gv e).2 rfl)
          have d1 := (HF2.out.book.kept hbk).2.1
          have hrw := OwnV.block HF2.out.row (w' := wr) (fun g hg => by cases hg; exact hgk)
          obtain ⟨-, l1, -⟩ := held_cells hrw hlt
          have fr1 := own_free hrw (ov + i * 3 + 1)
          have HST := Lib.hid (HF2.out.step HA.out hlt HLG.out.size HLG.out.frame HLG.out.own HLG.out.at_ HLG.out.start_block)
          clear hbk hgk hrw
          go_wp2
          go_roundw
          case rel => exact ⟨i + 1, _, by omega, by go_num, HST.out, fun p h1 h2 => by rw [if_neg (by omega)]; exact HGN.out p (by omega) h2, ((HB2.out.trans HLG.out.below).setCell (p := ⟨gv, ov + i * 3 + 1, none⟩) hcv3 _), by have := HLG.out.size; simp; omega⟩
          case measure => simp [intOf]; omega
    · obtain rfl : i = k := by omega
      have HFF := Lib.hid hf
      have HBL := Lib.hid hbl
      clear hf hbl
      go_wp2
      go_end0
      exact ⟨rfl, ⟨G', HFF.out⟩, HBL.out⟩
end Go.Proofs.YtplhfbflgjnjmaaGreatDoor
