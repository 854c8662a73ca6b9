/- Book: what is done with lists of Bytes -/
import Derived.Test.YtidhlbhfhfonoaaGreatDoorJZXG37
import Derived.Test.YtidhlbhfhfonoaaGreatDoorJZXG04
namespace Go.Proofs.YtidhlbhfhfonoaaGreatDoor
open Go.ChangeShapes Go.WideShapes Go.ChangeAt Go.RowKit
def mkByte (m : Nat) : List Value := [.int .u8 ((m % 256 : Nat) : Int)]
theorem mkByte_length (m : Nat) : (mkByte m).length = 1 := rfl
theorem infoHByte : (Tryz.prog.info? 141).map (fun i => (i.size, i.bytes)) = some (3, 56) ∧ ((Tryz.prog.info? 141).bind (·.zero)).map (fun z => z.cells.size) = some 3 := ⟨by kernel_rfl, by kernel_rfl⟩
theorem infoHByte_parts : ∃ i z, Tryz.prog.info? 141 = some i ∧ i.zero = some z ∧ i.size = 3 ∧ i.bytes = 56 ∧ z.cells.size = 3 := by
  obtain ⟨h1, h2⟩ := infoHByte
  cases hq : Tryz.prog.info? 141 with
  | none => rw [hq] at h1; cases h1
  | some i =>
    rw [hq] at h1 h2
    simp only [Option.map_some, Option.some.injEq, Prod.mk.injEq] at h1
    cases hz : i.zero with
    | none => simp [hz] at h2
    | some z => exact ⟨i, z, rfl, hz, h1.1, h1.2, by simpa [hz] using h2⟩
set_option maxRecDepth 20000 in
set_option maxHeartbeats 3000000 in
theorem keepByte_any (w : World) (B base n k : Nat) (F L G : Nat → Value) (M : Nat → Nat) (a : Option Addr) (l c : Nat) (hb : BkAt w B n F) (ho : OwnV w base 141 3 (F 1) k (hld M L G k)) (hne : (F 1).ownBlock ≠ some B) (hk : k ≤ 100000000) (hn : n ≤ 100000000) (hB : base ≤ B) (hM : M k = n + 1) (hL : L k = .slice a l c) (hG : G k = .slice none 0 0) :
    Calls Tryz.prog 58 #[.pointer (some ⟨B, 0, none⟩), .slice a l c] w fun e w' => e = .returned (.tuple #[]) ∧ ∃ vb', BkAt w' B (n + 1) (fun j => if j = 1 then vb' else F j) ∧ OwnV w' base 141 3 vb' (k + 1) (hld M L G (k + 1)) ∧ vb'.ownBlock ≠ some B ∧
      Below base w w' ∧ (∀ g, g < w.heap.size → g ≠ B → (F 1).ownBlock ≠ some g → w'.heap[g]? = w.heap[g]? ∧ vb'.ownBlock ≠ some g) := by
  obtain ⟨i0, z0, hi, hz0, hz1, hz2, hz3⟩ := infoHByte_parts
  have HI := Lib.hid hi
  have hlt := hb.lt
  have hn0 : (n : Int) ≤ 100000000 := by omega
  have HB0 := Lib.hid hb
  have HO := Lib.hid ho
  obtain ⟨va, vn, vc, hvb⟩ := bk_sl ho
  have hs : base ≤ w.heap.size := by omega
  obtain ⟨c0, c9, cf⟩ := hb
  have c1 := c9 1 (by omega) (by omega)
  rw [hvb] at c1 HO hne ⊢
  have f0 := cf 0 (by omega)
  have f1 := cf 1 (by omega)
  clear cf hi ho c9
  go_enter Tryz.func58, Tryz.ntmps58
  go_wp2_with fail
  obtain ⟨w1, e1⟩ : ∃ w1, w1 = w.setCell ⟨B, 0, none⟩ (.int .i64 ((n : Int) + 1)) := ⟨_, rfl⟩
  have hB1 : BkAt w1 B (n + 1) F := by rw [e1]; exact HB0.out.set0 (n + 1)
  have hs1 : w1.heap.size = w.heap.size := by rw [e1]; simp
  have hg1 : w.grownBy w1 (some B) := by
    rw [e1]
    exact ⟨rfl, rfl, rfl, by simp, fun g _ hg => heap_other w _ _ g (fun e => hg (by rw [e]))⟩
  have hO1 : OwnV w1 base 141 3 (.slice va vn vc) k (hld M L G k) := OwnV.kept HO.out hg1 (.inr hne)
  have HO1 := Lib.hid (fun (W : World) (h : Below w1.heap.size w1 W) => OwnV.later hO1 h)
  have HBK := Lib.hid (fun (W : World) (h : Below w1.heap.size w1 W) => BkAt.kept hB1 (h.block B hB1.lt))
  have HNE := Lib.hid hne
  have HG1 := Lib.hid hg1
  have HS1 := Lib.hid hs1
  have HL := Lib.hid hL
  have HGG := Lib.hid hG
  have HM := Lib.hid hM
  have HVB := Lib.hid hvb
  rw [← e1]
  obtain ⟨d0, d9, df⟩ := hB1
  have d1 := d9 1 (by omega) (by omega)
  rw [hvb] at d1
  have g0 := df 0 (by omega)
  have g1 := df 1 (by omega)
  have hlt1 : B < w1.heap.size := by omega
  have hbs1 : base ≤ w1.heap.size := by omega
  have HSRC := Lib.hid (fun (w : World) => src_three w a l c ((n : Int) + 1) 141)
  have e9 : ((n + 1 : Nat) : Int) = (n : Int) + 1 := by omega
  rw [e9] at d0
  clear c0 c1 f0 f1 e1 df d9 hO1 hg1 hs1 hL hG HB0 HO e9 hM hvb
  go_region_law (first
    | (refine step_append_W rfl (.tmp 15) (.tmp 22) 39 rfl base 141 i0 z0 3 56 Tryz.underlying39 HI.out hz0 hz1 hz2 hz3 (.slice va vn vc) k (hld M L G k) rfl (HO1.out _ ((Below.refl _ _).drew.alloc (Nat.le_refl _) _)) (.slice (some ⟨w1.heap.size, 0, none⟩) 1 1) 1 [.slice a l c, .slice none 0 0, .int .i64 ((n : Int) + 1)] rfl (HSRC.out w1.drew) (by unfold maxLen; omega) (by omega) (by simp; omega) ?_
       intro v2 w2 ho2 hg2 hl2
       obtain ⟨a2, c2, rfl⟩ := ho2.sl
       have hbk2 := (HBK.out _ ((Below.refl _ _).drew.alloc (Nat.le_refl _) _)).grown hg2 HNE.out
       have HBK2 := Lib.hid hbk2
       have d2 := hbk2.2.1 1 (by omega) (by omega)
       have g2 := hbk2.2.2 1 (by omega)
       rw [HVB.out] at d2
       clear hbk2
       have HO2 := Lib.hid ho2
       have HG2 := Lib.hid hg2
       have HL2 := Lib.hid hl2
       clear ho2 hg2 hl2))
  all_goals
    have hf := bk_fin (f := 1) (by omega) hB hlt HNE.out HG1.out HS1.out (by first | exact (Below.refl _ _).drew.alloc (Nat.le_refl _) _ | exact ((Below.refl _ _).alloc (Nat.le_refl _) _).drew) (fun g hg => (OwnV.lt (HO1.out _ (Below.refl _ _)) g hg).1) HG2.out HL2.out HBK2.out HO2.out
    go_end0
    refine ⟨rfl, _, hf.1, ?_, hf.2.2⟩
    rw [hld, HL.out, HGG.out, HM.out]
    exact hf.2.1
theorem markByte_any (w : World) (m : Nat) (hm : m ≤ 100000000) : Calls Tryz.prog 124 #[.int .i64 m] w fun e w' => e = .returned (.int .u8 ((m % 256 : Nat) : Int)) ∧ Below w.heap.size w w' := by
  have h : (m : Int) ≤ 100000000 := by omega
  go_enter Tryz.func124, Tryz.ntmps124
  go_wp2
  go_ret
  exact ⟨by first | rfl | (simp [IntKind.wrap, IntKind.bits, IntKind.signed]), Below.refl _ _⟩
theorem isByte_any (w : World) (m : Nat) (hm : m ≤ 100000000) : Calls Tryz.prog 141 #[.int .u8 ((m % 256 : Nat) : Int), .int .i64 m] w fun e w' => e = .returned (.bool true) ∧ ∃ n, w' = w.drewN n := by
  have h : (m : Int) ≤ 100000000 := by omega
  have e9 : IntKind.u8.wrap (m : Int) = ((m % 256 : Nat) : Int) := by simp [IntKind.wrap, IntKind.bits, IntKind.signed]
  go_enter Tryz.func141, Tryz.ntmps141
  go_wp2
  go_ret
  exact ⟨rfl, 0, rfl⟩
set_option linter.unusedSimpArgs false in
set_option linter.unusedVariables false in
set_option maxRecDepth 20000 in
set_option maxHeartbeats 3000000 in
theorem fillByte_any (w : World) (B base n k : Nat) (F L G : Nat → Value) (M N : Nat → Nat) (X : Nat → List Value) (hF : Fam 5 141 1 1 M w base B n k F L G N X) (hA : Aparts B k (F 1) L) (hk : k ≤ 100000000) (hM : ∀ i, i < k → M i ≤ 100000000) (hB : base ≤ B) (hG : ∀ i, i < k → G i = .slice none 0 0) (hN : ∀ i, i < k → N i ≤ 4000000) :
    Calls Tryz.prog 59 #[.pointer (some ⟨B, 0, none⟩)] w fun e w' => e = .returned (.tuple #[]) ∧ Fam 5 141 1 1 M w' base B n k F L G N (fun i => rep (N i) (mkByte (M i))) ∧ Below base w w' ∧ Spare k L (F 1) w w' := by
  have HF := Lib.hid hF
  have HA := Lib.hid hA
  have HG := Lib.hid hG
  have HN := Lib.hid hN
  have HM := Lib.hid hM
  obtain ⟨va, vc, hvb⟩ := hF.row.sl
  have hs : base ≤ w.heap.size := by have := hF.book.lt; omega
  have HV := Lib.hid hvb
  clear hF hA hG hN hM hvb
  go_enter Tryz.func59, Tryz.ntmps59
  go_wp2_with fail
  go_loopw [2] (fun i wr => ∃ i' : Nat, i' ≤ k ∧ i = .int .i64 i' ∧ Fam 5 141 1 1 M wr base B n k F L G N (fun j => if j < i' then rep (N j) (mkByte (M j)) else X j) ∧ Below base w wr ∧ base ≤ wr.heap.size ∧ Spare k L (F 1) w wr) (fun i _ => k - (intOf i).toNat)
  case atStart => exact ⟨0, Nat.zero_le _, rfl, HF.out.congr fun i _ => by simp, Below.refl _ _, hs, Spare.refl _ _ _ _⟩
  case round =>
    obtain ⟨i, hi, rfl, hf, hbl, hsz, hsp⟩ := hrel
    obtain ⟨wo, rfl⟩ : ∃ wo : World, wo = wr := ⟨_, rfl⟩
    have d1 := hf.book.2.1 1 (by omega) (by omega)
    rw [HV.out] at d1
    have HSP := Lib.hid hsp
    clear hsp
    by_cases hlt : i < k
    · have hrow := hf.row
      rw [HV.out] at hrow
      obtain ⟨gv, ov, cv, hvb, hcv1, hcv2, hcv3, hcv4⟩ := row_some hrow hlt
      cases hvb
      obtain ⟨l0, l1, l2⟩ := hld_cells hrow hlt
      rw [HG.out i hlt] at l1
      obtain ⟨la, lc, hL⟩ := (hf.own i hlt).sl
      rw [hL] at l0
      have hnn := HN.out i hlt
      have hmm := HM.out i hlt
      have HFF := Lib.hid hf
      have HBL := Lib.hid hbl
      have HL := Lib.hid hL
      unfold maxLen at hcv2
      clear hf hbl hL hrow
      go_wp2_with fail
      obtain ⟨w2, e2⟩ : ∃ w2, w2 = wo.alloc (.cells #[.slice la (N i) lc, .slice none 0 0, .int .i64 (M i)] 141) := ⟨_, rfl⟩
      have h0 : w2.cell? ⟨wo.heap.size, 0, none⟩ = some (.slice la (N i) lc) := by rw [e2]; simp
      have h2 : w2.cell? ⟨wo.heap.size, 2, none⟩ = some (.int .i64 (M i)) := by rw [e2]; simp
      have hb2 : Below wo.heap.size wo w2 := by rw [e2]; exact (Below.refl _ _).alloc (Nat.le_refl _) _
      have hs2 : w2.heap.size = wo.heap.size + 1 := by rw [e2]; simp
      rw [← e2]
      clear e2 l0 l1 l2 d1
      have HF2 := Lib.hid (HFF.out.later hb2)
      have HB2 := Lib.hid (HBL.out.trans (hb2.mono hsz))
      have HS2 := Lib.hid (HSP.out.later hb2)
      have H0 := Lib.hid h0
      have H2 := Lib.hid h2
      clear h0 h2 hb2
      go_loopw [4] (fun j wq => ∃ j' : Nat, j' ≤ N i ∧ j = .int .i64 j' ∧ Fam 5 141 1 1 M wq base B n k F L G N (fun p => if p = i then prt (mkByte (M i)) j' (X i) else if p < i then rep (N p) (mkByte (M p)) else X p) ∧ wq.cell? ⟨wo.heap.size, 0, none⟩ = some (.slice la (N i) lc) ∧ wq.cell? ⟨wo.heap.size, 2, none⟩ = some (.int .i64 (M i)) ∧ Below base w wq ∧ wo.heap.size + 1 ≤ wq.heap.size ∧ Spare k L (F 1) w wq) (fun j _ => N i - (intOf j).toNat)
      case atStart => exact ⟨0, Nat.zero_le _, rfl, HF2.out.congr (fun p hp => by
          by_cases hpi : p = i
          · subst hpi; simp [prt_zero]
          · simp [hpi]), H0.out, H2.out, HB2.out, by omega, HS2.out⟩
      case round =>
        obtain ⟨j, hj, rfl, hfq, h0, h2, hbq, hsq, hspq⟩ := hrel
        have HFQ := Lib.hid hfq
        have HBQ := Lib.hid hbq
        have HSQ := Lib.hid hspq
        have hown := hfq.own i hlt
        rw [HL.out, if_pos rfl] at hown
        have hX := (HFF.out.own i hlt).1
        rw [if_neg (Nat.lt_irrefl i)] at hX
        have HX := Lib.hid hX
        by_cases hjl : j < N i
        · obtain ⟨g, o, cap, hh, -, hg4, hg1, hg5⟩ := row_some hown hjl
          cases hh
          have hL9 : L i = .slice (some ⟨g, o, none⟩) (N i) lc := HL.out
          have hgl : g < wo.heap.size := (OwnV.lt (HFF.out.own i hlt) g (by rw [hL9]; rfl)).2
          have HOW := Lib.hid hown
          obtain ⟨u0, hc0⟩ := prt_old (q := 0) hown (mkByte_length _) HX.out hjl (by omega)
          rw [Nat.mul_one, Nat.add_zero] at hc0
          have hf0 := own_free hown (o + j)
          unfold maxLen at hg4
          have HL9 := Lib.hid hL9
          clear hfq hbq hown hX hg5 hspq hL9
          go_wp2_with fail
          go_region_law (first
            | (go_simp
               go_at_call 124
               refine (markByte_any _ (M i) hmm).mono ?_
               rintro _ w9 ⟨rfl, hb9⟩
               have hD := (Below.refl wr.heap.size wr).drew.trans hb9
               have hown9 := OwnV.later HOW.out hD
               have h0 := cell_on h0 hD
               have h2 := cell_on h2 hD
               have hc0 := cell_on hc0 hD
               have hf0 := own_free hown9 (o + j)
               clear hown9))
          all_goals
            go_wp2_with fail
            go_roundw
            case rel =>
              have hp := (HFQ.out.later hD).over HA.out hlt HL9.out (if_pos rfl) HX.out hjl (mkByte_length _)
              exact ⟨j + 1, by omega, by go_num, Fam.congr (show Fam 5 141 1 1 M _ base B n k F L G N _ from by have h9 := hp; rw [Nat.mul_one] at h9; exact h9) (fun p hpk => by
                by_cases hpi : p = i
                · simp only [hpi, if_true]
                · simp only [hpi, if_false]), cell_far (l := mkByte (M i)) (p := o + j) h0 (show wo.heap.size ≠ g by omega), cell_far (l := mkByte (M i)) (p := o + j) h2 (show wo.heap.size ≠ g by omega), putL_below (mkByte (M i)) hg1 (HBQ.out.trans (hD.mono (by omega))), (by have := hD.size; have h8 := putL_size (mkByte (M i)) w9 g (o + j); exact Nat.le_trans (Nat.le_trans hsq this) (Nat.le_of_eq h8.symm)), (HSQ.out.later hD).put (l := mkByte (M i)) (p := o + j) hlt (show (L i).ownBlock = some g by rw [HL9.out]; rfl)⟩
            case measure => simp [intOf]; omega
        · obtain rfl : j = N i := by omega
          clear hjl hown hX hfq hbq hspq
          go_wp2_with fail
          go_roundw
          case rel => exact ⟨i + 1, by omega, by go_num, HFQ.out.congr (fun p hp => by
            by_cases hpi : p = i
            · subst hpi
              simp only [if_true, Nat.lt_succ_self]
              exact prt_all _ _ HX.out
            · by_cases hpl : p < i
              · simp [hpi, hpl, show p < i + 1 by omega]
              · simp [hpi, hpl, show ¬ p < i + 1 by omega]), HBQ.out, by omega, HSQ.out⟩
          case measure => simp [intOf]; omega
    · obtain rfl : i = k := by omega
      have HFF := Lib.hid hf
      have HBL := Lib.hid hbl
      clear hf hbl
      go_wp2_with fail
      go_end0
      exact ⟨rfl, HFF.out.congr (fun p hp => if_pos hp), HBL.out, HSP.out⟩
set_option linter.unusedSimpArgs false in
set_option linter.unusedVariables false in
set_option maxRecDepth 20000 in
set_option maxHeartbeats 3000000 in
theorem growByte_any (w : World) (B base n k z : Nat) (F L G : Nat → Value) (M N : Nat → Nat) (hF : Grow 5 141 1 1 mkByte M z w base B n k F L G N 0) (hA : Aparts B k (F 1) L) (hk : k ≤ 100000000) (hM : ∀ i, i < k → M i ≤ 100000000) (hB : base ≤ B) (hG : ∀ i, i < k → G i = .slice none 0 0) (hN : ∀ i, i < k → N i ≤ 4000000) :
    Calls Tryz.prog 76 #[.pointer (some ⟨B, 0, none⟩)] w fun e w' => e = .returned (.tuple #[]) ∧ (∃ G', Grow 5 141 1 1 mkByte M z w' base B n k F L G' N k) ∧ Below base w w' ∧ Spare k L (F 1) w w' := by
  obtain ⟨i0, hi0, hz0, hz1, hz2⟩ := info_parts infoB
  have HI := Lib.hid hi0
  have HF := Lib.hid hF
  have HA := Lib.hid hA
  have HN := Lib.hid hN
  have HM := Lib.hid hM
  have HG0 := Lib.hid hG
  obtain ⟨va, vc, hvb⟩ := hF.row.sl
  have hs : base ≤ w.heap.size := by have := hF.book.lt; omega
  have HV := Lib.hid hvb
  clear hF hA hG hN hi0 hM hvb
  go_enter Tryz.func76, Tryz.ntmps76
  go_wp2_with fail
  go_loopw [2] (fun i wr => ∃ (i' : Nat) (G' : Nat → Value), i' ≤ k ∧ i = .int .i64 i' ∧ Grow 5 141 1 1 mkByte M z wr base B n k F L G' N i' ∧ (∀ j, i' ≤ j → j < k → G' j = .slice none 0 0) ∧ Below base w wr ∧ base ≤ wr.heap.size ∧ Spare k L (F 1) w wr) (fun i _ => k - (intOf i).toNat)
  case atStart => exact ⟨0, G, Nat.zero_le _, rfl, HF.out, fun j _ hj => HG0.out j hj, Below.refl _ _, hs, Spare.refl _ _ _ _⟩
  case round =>
    obtain ⟨i, G', hi, rfl, hf, hgn, hbl, hsz, hsp⟩ := hrel
    obtain ⟨wo, rfl⟩ : ∃ wo : World, wo = wr := ⟨_, rfl⟩
    have d1 := hf.book.2.1 1 (by omega) (by omega)
    rw [HV.out] at d1
    have HSP := Lib.hid hsp
    clear HG0 hsp
    by_cases hlt : i < k
    · have hrow := hf.row
      rw [HV.out] at hrow
      obtain ⟨gv, ov, cv, hvb, hcv1, hcv2, hcv3, hcv4⟩ := row_some hrow hlt
      cases hvb
      obtain ⟨l0, l1, l2⟩ := hld_cells hrow hlt
      rw [hgn i (Nat.le_refl _) hlt] at l1
      obtain ⟨la, lc, hL⟩ := (hf.own i (Nat.le_refl _) hlt).sl
      rw [hL] at l0
      have hnn := HN.out i hlt
      have hmm := HM.out i hlt
      have HFF := Lib.hid hf
      have HBL := Lib.hid hbl
      have HL := Lib.hid hL
      have HGN := Lib.hid hgn
      unfold maxLen at hcv2
      clear hf hbl hL hgn hrow
      go_wp2_with fail
      obtain ⟨w2, e2⟩ : ∃ w2, w2 = wo.alloc (.cells #[.slice la (N i) lc, .slice none 0 0, .int .i64 (M i)] 141) := ⟨_, rfl⟩
      have h0 : w2.cell? ⟨wo.heap.size, 0, none⟩ = some (.slice la (N i) lc) := by rw [e2]; simp
      have h2 : w2.cell? ⟨wo.heap.size, 2, none⟩ = some (.int .i64 (M i)) := by rw [e2]; simp
      have hb2 : Below wo.heap.size wo w2 := by rw [e2]; exact (Below.refl _ _).alloc (Nat.le_refl _) _
      have hs2 : w2.heap.size = wo.heap.size + 1 := by rw [e2]; simp
      rw [← e2]
      clear e2 l0 l1 l2 d1
      have HF2 := Lib.hid (HFF.out.later hb2)
      have HB2 := Lib.hid (HBL.out.trans (hb2.mono hsz))
      have HS2 := Lib.hid (HSP.out.later hb2)
      have HLO := Lib.hid (Long.first (mkByte_length _) (HF2.out.own i (Nat.le_refl _) hlt))
      have HH2 := Lib.hid h2
      have hne : (L i).ownBlock ≠ some wo.heap.size := fun e => by have := HFF.out.low i hlt _ e; omega
      have HNE := Lib.hid hne
      clear h2 hb2 hne
      go_wp2_with fail
      go_loopw [4, 5] (fun v j wq => ∃ j' : Nat, j' ≤ 40 ∧ j = .int .i64 j' ∧ Long 5 1 (mkByte (M i)) w2 wq base (N i) (L i) v j') (fun _ j _ => 40 - (intOf j).toNat)
      case atStart => exact ⟨0, by omega, rfl, by have h9 := HLO.out; rw [show Value.slice la (N i) lc = L i from HL.out.symm]; exact h9⟩
      case round =>
        obtain ⟨j, hj, rfl, hlo⟩ := hrel
        obtain ⟨a9, c9, rfl⟩ := hlo.own.sl
        have hblk := hlo.frame wo.heap.size (by omega) HNE.out
        have h2 : wr.cell? ⟨wo.heap.size, 2, none⟩ = some (.int .i64 (M i)) := (World.cell?_of_block (w := w2) (a := ⟨wo.heap.size, 2, none⟩) hblk).trans HH2.out
        have HLG := Lib.hid hlo
        have hls := hlo.size
        clear hlo hblk
        by_cases hjl : j < 40
        · go_wp2_with (first
            | (go_at_call 124; refine (markByte_any _ (M i) hmm).mono ?_; rintro _ w9 ⟨rfl, hb9⟩; have h9s := hb9.size)
            | (at_builtin; refine wpList_append_W rfl (.tmp 28) (.tmp 32) 58 rfl base 5 i0 (.int .u8 0) 1 1 Tryz.underlying58 HI.out hz0 hz1 hz2 rfl (.slice a9 (N i + j) c9) (N i + j) (rep (N i + j) (mkByte (M i))) rfl (OwnV.later (OwnV.later HLG.out.own hb9) ((Below.refl _ _).alloc (Nat.le_refl _) _)) (.slice (some ⟨w9.heap.size, 0, none⟩) 1 1) 1 [.int .u8 ((M i % 256 : Nat) : Int)] rfl (src_one _ _ _) (by unfold maxLen; omega) (by omega) (by simp; omega) ?_
               intro v3 w3 ho3 hg3 hl3
               have HN3 := Lib.hid (HLG.out.next (mkByte_length _) (by omega) (below_on hb9 ((Below.refl _ _).alloc (Nat.le_refl _) _)) hg3 hl3 ho3)
               clear ho3 hg3 hl3))
          go_roundw
          case rel => exact ⟨j + 1, by omega, by go_num, HN3.out⟩
          case measure => simp [intOf]; omega
        · obtain rfl : j = 40 := by omega
          clear hjl h2
          have hbk : wr.heap[B]? = w2.heap[B]? := HLG.out.frame B (by have := HF2.out.book.lt; omega) (fun e => (HA.out.one i hlt B e).1 rfl)
          have hgk : wr.heap[gv]? = w2.heap[gv]? := HLG.out.frame gv (by omega) (fun e => (HA.out.one i hlt gv e).2 (by rw [HV.out]; rfl))
          have d1 := (HF2.out.book.kept hbk).2.1 1 (by omega) (by omega)
          rw [HV.out] at d1
          have hrw := OwnV.block HF2.out.row (w' := wr) (fun g hg => by rw [HV.out] at hg; cases hg; exact hgk)
          rw [HV.out] at hrw
          obtain ⟨-, l1, -⟩ := hld_cells hrw hlt
          have fr1 := own_free hrw (ov + i * 3 + 1)
          have HST := Lib.hid (HF2.out.step HV.out HA.out hlt (mkByte_length _) HLG.out.size HLG.out.frame HLG.out.own HLG.out.at_ HLG.out.start_block)
          have HSG := Lib.hid (fun u => HS2.out.grow (gv := gv) (p := ov + i * 3 + 1) (u := u) HLG.out.size HLG.out.frame hlt (by rw [HV.out]; rfl))
          clear hbk hgk hrw
          go_wp2_with fail
          go_roundw
          case rel => exact ⟨i + 1, _, by omega, by go_num, HST.out, fun p h1 h2 => by rw [if_neg (by omega)]; exact HGN.out p (by omega) h2, ((HB2.out.trans HLG.out.below).setCell (p := ⟨gv, ov + i * 3 + 1, none⟩) hcv3 _), by simp; omega, HSG.out _⟩
          case measure => simp [intOf]; omega
    · obtain rfl : i = k := by omega
      have HFF := Lib.hid hf
      have HBL := Lib.hid hbl
      clear hf hbl
      go_wp2_with fail
      go_end0
      exact ⟨rfl, ⟨G', HFF.out⟩, HBL.out, HSP.out⟩
set_option linter.unusedSimpArgs false in
set_option linter.unusedVariables false in
set_option maxRecDepth 20000 in
set_option maxHeartbeats 3000000 in
theorem lookByte_any (w : World) (B base n k z : Nat) (F L G : Nat → Value) (M N : Nat → Nat) (hF : Grow 5 141 1 1 mkByte M z w base B n k F L G N k) (hk : k ≤ 100000000) (hM : ∀ i, i < k → M i ≤ 100000000) (hN : ∀ i, i < k → N i ≤ 4000000) :
    Calls Tryz.prog 93 #[.pointer (some ⟨B, 0, none⟩)] w fun e w' => e = .returned (.bool true) ∧ Below w.heap.size w w' := by
  have HF := Lib.hid hF
  have HN := Lib.hid hN
  have HM := Lib.hid hM
  obtain ⟨va, vc, hvb⟩ := hF.row.sl
  have HV := Lib.hid hvb
  clear hF hN hM hvb
  go_enter Tryz.func93, Tryz.ntmps93
  go_wp2_with fail
  go_loopw [3] (fun i wr => ∃ i' : Nat, i' ≤ k ∧ i = .int .i64 i' ∧ Below w.heap.size w wr) (fun i _ => k - (intOf i).toNat)
  case atStart => exact ⟨0, Nat.zero_le _, rfl, Below.refl _ _⟩
  case round =>
    obtain ⟨i, hi, rfl, hbl⟩ := hrel
    obtain ⟨wo, rfl⟩ : ∃ wo : World, wo = wr := ⟨_, rfl⟩
    have hf := HF.out.later hbl
    have d1 := hf.book.2.1 1 (by omega) (by omega)
    rw [HV.out] at d1
    by_cases hlt : i < k
    · have hrow := hf.row
      rw [HV.out] at hrow
      obtain ⟨gv, ov, cv, hvb, hcv1, hcv2, hcv3, hcv4⟩ := row_some hrow hlt
      cases hvb
      obtain ⟨l0, l1, l2⟩ := hld_cells hrow hlt
      obtain ⟨k1, k2⟩ := hf.done i hlt hlt
      obtain ⟨la, lc, hL, _, _⟩ := k1.sl
      obtain ⟨ga, gc, hG, _, _⟩ := k2.sl
      have lo1 := hf.low i hlt
      have lo2 := fun g h => (hf.far i hlt hlt g h).1
      rw [hL] at l0 k1 lo1
      rw [hG] at l1 k2 lo2
      have hnn := HN.out i hlt
      have hmm := HM.out i hlt
      have HBL := Lib.hid hbl
      have K1 := Lib.hid k1
      have K2 := Lib.hid k2
      have LO1 := Lib.hid lo1
      have LO2 := Lib.hid lo2
      unfold maxLen at hcv2
      clear hf hbl hL hG k1 k2 hrow lo1 lo2
      go_wp2_with fail
      obtain ⟨w2, e2⟩ : ∃ w2, w2 = wo.alloc (.cells #[.slice la (N i) lc, .slice ga (N i + 40) gc, .int .i64 (M i)] 141) := ⟨_, rfl⟩
      have h0 : w2.cell? ⟨wo.heap.size, 0, none⟩ = some (.slice la (N i) lc) := by rw [e2]; simp
      have h1 : w2.cell? ⟨wo.heap.size, 1, none⟩ = some (.slice ga (N i + 40) gc) := by rw [e2]; simp
      have h2 : w2.cell? ⟨wo.heap.size, 2, none⟩ = some (.int .i64 (M i)) := by rw [e2]; simp
      have hb2 : Below wo.heap.size wo w2 := by rw [e2]; exact (Below.refl _ _).alloc (Nat.le_refl _) _
      rw [← e2]
      clear e2 l0 l1 l2 d1
      have HB2 := Lib.hid (below_on HBL.out hb2)
      have K12 := Lib.hid (K1.out.block (w' := w2) (fun g hg => hb2.block g (LO1.out g hg)))
      have K22 := Lib.hid (K2.out.block (w' := w2) (fun g hg => hb2.block g (LO2.out g hg)))
      have L12 := Lib.hid (fun g hg => Nat.lt_of_lt_of_le (LO1.out g hg) hb2.size)
      have L22 := Lib.hid (fun g hg => Nat.lt_of_lt_of_le (LO2.out g hg) hb2.size)
      have HH0 := Lib.hid h0
      have HH1 := Lib.hid h1
      have HH2 := Lib.hid h2
      clear hb2 K1 K2 LO1 LO2
      go_wp2_with fail
      go_loopw [5] (fun j wq => ∃ j' n : Nat, j' ≤ N i + 40 ∧ j = .int .i64 j' ∧ wq = w2.drewN n) (fun j _ => N i + 40 - (intOf j).toNat)
      case atStart => exact ⟨0, 0, by omega, rfl, rfl⟩
      case round =>
        obtain ⟨j, n, hj, rfl, hw⟩ := hrel
        have q0 : wr.cell? ⟨wo.heap.size, 0, none⟩ = some (.slice la (N i) lc) := by rw [hw]; exact HH0.out
        have q1 : wr.cell? ⟨wo.heap.size, 1, none⟩ = some (.slice ga (N i + 40) gc) := by rw [hw]; exact HH1.out
        have q2 : wr.cell? ⟨wo.heap.size, 2, none⟩ = some (.int .i64 (M i)) := by rw [hw]; exact HH2.out
        obtain ⟨z, hz⟩ : ∃ z : Int, z = ((M i % 256 : Nat) : Int) := ⟨_, rfl⟩
        have HZ := Lib.hid hz
        have S := Lib.hid (fun m => Calls.quiet_of (by have h9 := isByte_any (wr.drewN m) (M i) hmm; rewrite [← hz] at h9; exact h9))
        have HW := Lib.hid hw
        clear hz
        clear hw h0 h1 h2
        by_cases hjl : j < N i + 40
        · obtain ⟨g1, o1, rfl, hc1⟩ := K22.out.cell hjl
          have hc1' : wr.cell? ⟨g1, o1 + j, none⟩ = some (.int .u8 z) := by rw [HW.out, HZ.out]; have h9 := hc1 0 _ rfl; rw [Nat.add_zero, mkByte_length, Nat.mul_one] at h9; exact h9
          by_cases hjn : j < N i
          · obtain ⟨g2, o2, rfl, hc2⟩ := K12.out.cell hjn
            have hc2' : wr.cell? ⟨g2, o2 + j, none⟩ = some (.int .u8 z) := by rw [HW.out, HZ.out]; have h9 := hc2 0 _ rfl; rw [Nat.add_zero, mkByte_length, Nat.mul_one] at h9; exact h9
            clear hc1 hc2
            go_wp2
            go_quiet ((go_at_call 141; with_reducible exact S.out _))
            go_wp2
            go_roundw
            case rel => exact ⟨j + 1, _, by omega, by go_num, by rw [HW.out]; exact World.drewN_drewN _ _ _⟩
            case measure => simp [intOf]; omega
          · have hjn' : N i ≤ j := by omega
            have hjd : decide (j < N i) = false := by simpa using hjn'
            clear hc1 hjn
            go_wp2
            go_quiet ((go_at_call 141; with_reducible exact S.out _))
            go_wp2
            go_roundw
            case rel => exact ⟨j + 1, _, by omega, by go_num, by rw [HW.out]; exact World.drewN_drewN _ _ _⟩
            case measure => simp [intOf]; omega
        · obtain rfl : j = N i + 40 := by omega
          clear hjl
          go_wp2_with fail
          go_roundw
          case rel => exact ⟨i + 1, by omega, by go_num, by rw [HW.out]; exact below_on HB2.out (below_drewN9 _ _)⟩
          case measure => simp [intOf]; omega
    · obtain rfl : i = k := by omega
      have HBL := Lib.hid hbl
      clear hf hbl
      go_wp2_with fail
      go_ret
      exact ⟨rfl, HBL.out⟩
end Go.Proofs.YtidhlbhfhfonoaaGreatDoor
