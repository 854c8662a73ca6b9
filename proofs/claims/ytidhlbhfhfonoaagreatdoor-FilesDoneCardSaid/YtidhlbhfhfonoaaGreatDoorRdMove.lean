/- Layer 17's reference: Rename. -/
import Derived.Test.YtidhlbhfhfonoaaGreatDoorRdOps
namespace Go.Proofs.YtidhlbhfhfonoaaGreatDoor
open Go.ChangeShapes Go.WideShapes Go.ChangeAt Go.RowKit
set_option linter.unusedSimpArgs false in
set_option linter.unusedVariables false in
set_option maxRecDepth 20000 in
set_option maxHeartbeats 2000000 in
theorem RRename_any {w : World} {base D : Nat} {R : Rf} {S : Nat → Prop} (hd : Rk w base D R S) (ok : RfOk R) (s z : ByteArray) (hs : s.size ≤ 140737488355328) (hz : z.size ≤ 140737488355328) (hc : R.rows.length ≤ 1000000) :
    Calls Tryz.prog 33 #[.pointer (some ⟨D, 0, none⟩), .string s, .string z] w (RErrs w base D S (R.rename s z)) := by
  have HD := Lib.hid hd
  have hB := hd.from_
  obtain ⟨⟨rv, mv, nv, sv, h, hS⟩, _⟩ := hd
  have HI := Lib.hid (Ris_any h s hs (by have := ok.nl; omega))
  have HZ := Lib.hid (fun w1 : World => RName_any z hz w1)
  unfold RErrs Rf.rename
  obtain ⟨x, hx⟩ : ∃ x, x = (R.is s).1 := ⟨_, rfl⟩
  by_cases hzo : nameOk z = true
  · rw [if_pos hzo]
    rw [hzo] at HZ
    by_cases h0 : (R.is s).2 = 0
    · rw [if_pos h0]
      by_cases hsz : s = z
      · rw [if_pos hsz]
        rw [← hx, h0] at HI
        have hss : (s.toList == z.toList) = true := by rw [list_eq_str]; exact decide_eq_true hsz
        clear h hS ok h0 hx hsz
        go_enter Tryz.func33, Tryz.ntmps33
        go_wp2_with fail
        refine HI.out.mono ?_
        rintro _ w1 ⟨rfl, hb⟩
        have HB := Lib.hid hb
        clear hb
        go_wp2_with fail
        refine (HZ.out w1).mono ?_
        rintro _ w1b ⟨rfl, hb⟩
        have HB := Lib.hid (below_on HB.out hb)
        clear hb
        go_wp2_with fail
        go_ret
        exact ⟨rfl, HD.out.looked HB.out⟩
      · rw [if_neg hsz]
        obtain ⟨j, k, q, b, g1, o1, c1, g2, o2, c2, g3, o3, c3, i1, i2, i3, i4, i5, i6, i7, i8, i9, SE, v1, v2, v3⟩ := h.seat ok h0
        have hss := str_ne hsz
        rw [i1] at HI ⊢
        have HMV := Lib.hid (show R.moved j z = (R.now.eraseIdx j).eraseIdx (place (R.now.eraseIdx j) z) ++ [(z, k)] by unfold Rf.moved; rw [i4])
        have HSE := Lib.hid SE
        have nl := ok.nl
        have H := Lib.hid h
        have HS := Lib.hid hS
        obtain ⟨i1, hi1, hz10, hz11, hz12⟩ := info_parts infoP
        have HI1 := Lib.hid hi1
        obtain ⟨n, hn⟩ : ∃ n, n = R.rows.length := ⟨_, rfl⟩
        obtain ⟨m, hm⟩ : ∃ m, m = R.now.length := ⟨_, rfl⟩
        rw [← hn, ← hm] at HSE
        have HM := Lib.hid hm
        have jl : j < m := by omega
        have jI : (j : Int) < (m : Int) := by omega
        have kI : (k : Int) < (n : Int) := by omega
        have ml : m ≤ 64 := by omega
        have mI : (m : Int) ≤ 64 := by omega
        have nI : (n : Int) ≤ 1000000 := by omega
        have HL1 := Lib.hid (show (R.now.eraseIdx j).length ≤ 64 from Nat.le_trans (List.length_eraseIdx_le ..) nl)
        clear SE h hS ok h0 i2 i3 i4 i5 i6 i7 i8 i9 hn hm nl v1 v2 v3 hsz hx x
        go_enter Tryz.func33, Tryz.ntmps33
        go_wp2_with fail
        refine HI.out.mono ?_
        rintro _ w1 ⟨rfl, hb⟩
        have HB := Lib.hid hb
        clear hb
        go_wp2_with fail
        refine (HZ.out w1).mono ?_
        rintro _ w1b ⟨rfl, hb⟩
        have HB := Lib.hid (below_on HB.out hb)
        clear hb
        obtain ⟨f1, f2, f3, e1, e2, e3⟩ := HSE.out.later HB.out
        go_upto_region 7 with fail
        clear f1 f2 f3 e1 e2 e3
        have h1 := H.out.later HB.out
        have H1 := Lib.hid h1
        have h9 := h1.now
        obtain ⟨_, _, _, f3, _⟩ := h1.field
        obtain ⟨a3, c3, v3⟩ := h1.now.sl
        rw [← HM.out] at v3
        rw [v3] at f3
        rw [v3, ← HM.out] at h9
        have HG := Lib.hid (Rgone_any h9 HM.out.symm jl (by omega))
        have hD1 := h1.lt
        have z3 := h1.free 3
        have hb1 : base ≤ w1b.heap.size := by have := HB.out.size; omega
        clear h1 v3 h9
        go_wp2_with fail
        refine HG.out.mono ?_
        rintro _ w2 ⟨v2, rfl, ho, hb⟩
        have HO := Lib.hid ho
        have HB2 := Lib.hid hb
        have f3 := cell_on f3 hb
        have z3 : w2.frozen? ⟨D, 3, none⟩ = false := (World.frozen?_of_block (w := w1b) (a := ⟨D, 3, none⟩) (hb.block D hD1)).trans z3
        obtain ⟨a4, c4, hv2⟩ := ho.sl
        subst hv2
        clear ho hb
        go_upto_region 8 with fail
        have h3 := H1.out.newNow HB2.out HO.out hb1
        have hcg := ((Chg.of_below HB.out S).on HB2.out).setCell (p := ⟨D, 3, none⟩) (.inl (HS.out D (.inl rfl))) (.slice a4 (R.now.eraseIdx j).length c4)
        obtain ⟨w3, e3w⟩ : ∃ w3, w3 = w2.setCell ⟨D, 3, none⟩ (.slice a4 (R.now.eraseIdx j).length c4) := ⟨_, rfl⟩
        rw [← e3w] at h3 hcg ⊢
        clear e3w f3 z3
        have HC3 := Lib.hid hcg
        have HN3 := Lib.hid (show ∀ g, (Value.slice a4 (R.now.eraseIdx j).length c4).ownBlock = some g → S g ∨ w.heap.size ≤ g from fun g hg => .inr (Nat.le_trans HB.out.size (OwnV.lt HO.out g hg).1))
        have H3 := Lib.hid h3
        have HPL := Lib.hid (Rplace_any h3 z (by have := HL1.out; show (R.now.eraseIdx j).length ≤ 1000; omega))
        obtain ⟨q, hq⟩ : ∃ q, q = place (R.now.eraseIdx j) z := ⟨_, rfl⟩
        have HQ := Lib.hid hq
        have hql : q ≤ (R.now.eraseIdx j).length := by rw [hq]; exact List.findIdx_le_length
        have HPL := Lib.hid (show _ from hq ▸ HPL.out)
        clear h3 hcg hq HO
        go_wp2_with fail
        refine HPL.out.mono ?_
        rintro _ w4 ⟨rfl, hb⟩
        have HB4 := Lib.hid hb
        have h4 := H3.out.later hb
        have HC4 := Lib.hid (HC3.out.on hb)
        obtain ⟨_, _, _, f3, _⟩ := h4.field
        have H4 := Lib.hid h4
        have hb4 : base ≤ w4.heap.size := by have := HC4.out.size; omega
        clear hb h4
        obtain ⟨l, hl⟩ : ∃ l, l = R.now.eraseIdx j := ⟨_, rfl⟩
        rw [← hl] at HMV HL1 H3 H4 HN3 HQ hql f3 ⊢
        obtain ⟨y, hy⟩ : ∃ y, y = l.length := ⟨_, rfl⟩
        have HY := Lib.hid hy
        have hy64 : y ≤ 64 := by rw [hy]; exact HL1.out
        rw [← hy] at f3 H3 H4 HN3 hql ⊢
        have yI : (y : Int) ≤ 64 := by omega
        clear hl hy
        rw [← HQ.out] at HMV
        by_cases hqy : q < y
        · have qI : (q : Int) < (y : Int) := by omega
          have h9 := H4.out.now
          have h9 : OwnV w4 base 120 2 (.slice a4 y c4) y (pairs8 l) := by have h8 : OwnV w4 base 120 2 (.slice a4 y c4) l.length (pairs8 l) := h9; rw [← HY.out] at h8; exact h8
          have HG2 := Lib.hid (Rgone_any h9 HY.out.symm hqy (by omega))
          have hD4 := H4.out.lt
          have z3 := H4.out.free 3
          clear h9
          go_upto_region 10 with fail
          go_wp2_with fail
          refine HG2.out.mono ?_
          rintro _ w5 ⟨v5, rfl, ho, hb⟩
          have HO := Lib.hid ho
          have HB5 := Lib.hid hb
          have f3 := cell_on f3 hb
          have z3 : w5.frozen? ⟨D, 3, none⟩ = false := (World.frozen?_of_block (w := w4) (a := ⟨D, 3, none⟩) (hb.block D hD4)).trans z3
          obtain ⟨a5, c5, hv5⟩ := ho.sl
          subst hv5
          clear ho hb
          go_upto_region 11 with fail
          have h3 := H4.out.newNow HB5.out HO.out hb4
          have hcg := (HC4.out.on HB5.out).setCell (p := ⟨D, 3, none⟩) (.inl (HS.out D (.inl rfl))) (.slice a5 (l.eraseIdx q).length c5)
          obtain ⟨nvX, hnvX⟩ : ∃ v, v = Value.slice a5 (l.eraseIdx q).length c5 := ⟨_, rfl⟩
          obtain ⟨w6, e6⟩ : ∃ w6, w6 = w5.setCell ⟨D, 3, none⟩ (.slice a5 (l.eraseIdx q).length c5) := ⟨_, rfl⟩
          rw [← e6] at h3 hcg ⊢
          rw [← hnvX] at h3
          have HC6 := Lib.hid hcg
          have HN6 := Lib.hid (show ∀ g, nvX.ownBlock = some g → S g ∨ w.heap.size ≤ g from fun g hg => .inr (Nat.le_trans HC4.out.size (OwnV.lt HO.out g (by rw [hnvX] at hg; exact hg)).1))
          have H6 := Lib.hid h3
          have HLEN := Lib.hid (show (l.eraseIdx q).length ≤ 64 from Nat.le_trans (List.length_eraseIdx_le ..) HL1.out)
          clear h3 hcg e6 f3 z3 HO hnvX
          have h4 := H6.out
          obtain ⟨_, f1, f2, f3, _⟩ := h4.field
          obtain ⟨a3, c3, v3⟩ := h4.now.sl
          obtain ⟨p, hp⟩ : ∃ p, p = (l.eraseIdx q).length := ⟨_, rfl⟩
          have HP := Lib.hid hp
          have hpl : p ≤ 64 := by rw [hp]; exact HLEN.out
          have v3 : nvX = .slice a3 p c3 := by rw [v3, hp]
          have V3 := Lib.hid v3
          rw [v3] at f3
          have h9 := h4.now
          rw [v3] at h9
          have HO3 := Lib.hid (show ∀ W, Below w6.heap.size w6 W → OwnV W base 120 2 (.slice a3 p c3) p (pairs8 (l.eraseIdx q)) from fun W hb => by have h8 := OwnV.later h9 hb; rw [← HP.out] at h8; exact h8)
          have hDX := h4.lt
          have zX := h4.free 3
          have hbX : base ≤ w6.heap.size := by have := HC6.out.size; omega
          have HSRC := Lib.hid (fun W : World => src_pair W z k 120)
          have HND := Lib.hid (show (Value.slice a3 p c3).ownBlock ≠ some D from v3 ▸ h4.notD.2.2.1)
          have HAP := Lib.hid (fun (w1x w2 : World) (v2 : Value) (hbx : Below w6.heap.size w6 w1x) (hg : w1x.grownBy w2 (Value.slice a3 p c3).ownBlock) (hl : Lies w1x w2 (.slice a3 p c3) v2 p 1) => appd_of (D := D) hbx hg hl)
          clear h4 v3 hp h9
          go_wp2_with (
            at_builtin
            refine wpList_append_W rfl _ _ 95 rfl base 120 i1 (.agg #[.string ⟨#[]⟩, .int .i64 0]) 2 24 Tryz.underlying95 HI1.out hz10 hz11 hz12 rfl (.slice a3 p c3) p (pairs8 (l.eraseIdx q)) rfl (HO3.out _ ((Below.refl _ _).alloc (Nat.le_refl _) _)) (.slice (some ⟨w6.heap.size, 0, none⟩) 1 1) 1 (pairs8 [(z, k)]) rfl (HSRC.out w6) (by unfold maxLen; omega) (by omega) (by simp; omega) ?_
            intro v8 w8 ho8 hg8 hl8
            have hap := HAP.out _ w8 v8 ((Below.refl _ _).alloc (Nat.le_refl _) _) hg8 hl8
            have HA8 := Lib.hid hap
            have d8 := hap.cell HND.out f3
            have g8 := hap.free HND.out hDX zX
            obtain ⟨a9, c9, rfl⟩ := ho8.sl
            have HO8 := Lib.hid (show OwnV w8 base 120 2 (.slice a9 (p + 1) c9) (l.eraseIdx q ++ [(z, k)]).length (pairs8 (l.eraseIdx q ++ [(z, k)])) by rw [List.length_append, List.length_singleton, ← HP.out, pairs8_append]; exact ho8)
            clear ho8 hg8 hl8 hap)
          go_ret
          have h9 := H6.out.appNow (v2 := .slice a9 (p + 1) c9) (by rw [V3.out]; exact HA8.out) HO8.out
          have hcg := HA8.out.chg 3 (S := plus S w w6) (.inl (HS.out D (.inl rfl))) (fun g hg => by rcases HN6.out g (by rw [V3.out]; exact hg) with h7 | h7; exact .inl h7; exact .inr ⟨h7, (OwnV.lt (H6.out.now) g (by rw [V3.out]; exact hg)).2⟩)
          refine ⟨rfl, rn_of HD.out (by rw [HMV.out]; exact h9) (HC6.out.trans hcg) fun g hg => ?_⟩
          rcases hg with hg | hg | hg | hg | hg
          · exact .inl (HS.out g (.inl hg))
          · exact .inl (HS.out g (.inr (.inl hg)))
          · exact .inl (HS.out g (.inr (.inr (.inl hg))))
          · rcases HA8.out.new g hg with h7 | h7
            · exact HN6.out g (by rw [V3.out]; exact h7)
            · exact .inr (Nat.le_trans HC6.out.size h7)
          · exact .inl (HS.out g (.inr (.inr (.inr (.inr hg)))))
        · have qI : ¬ (q : Int) < (y : Int) := by omega
          have hqe : l.eraseIdx q = l := List.eraseIdx_of_length_le (by rw [← HY.out]; omega)
          have HMV := Lib.hid (show R.moved j z = l ++ [(z, k)] by rw [HMV.out, hqe])
          have HLEN := HL1
          obtain ⟨nvX, hnvX⟩ : ∃ v, v = Value.slice a4 y c4 := ⟨_, rfl⟩
          have H6 := Lib.hid (show RdAt w4 base D { R with now := l } rv mv nvX sv by rw [hnvX]; exact H4.out)
          have HN6 := Lib.hid (show ∀ g, nvX.ownBlock = some g → S g ∨ w.heap.size ≤ g by rw [hnvX]; exact HN3.out)
          go_upto_region 11 with fail
          clear hqe hnvX f3
          have h4 := H6.out
          obtain ⟨_, f1, f2, f3, _⟩ := h4.field
          obtain ⟨a3, c3, v3⟩ := h4.now.sl
          obtain ⟨p, hp⟩ : ∃ p, p = (l).length := ⟨_, rfl⟩
          have HP := Lib.hid hp
          have hpl : p ≤ 64 := by rw [hp]; exact HLEN.out
          have v3 : nvX = .slice a3 p c3 := by rw [v3, hp]
          have V3 := Lib.hid v3
          rw [v3] at f3
          have h9 := h4.now
          rw [v3] at h9
          have HO3 := Lib.hid (show ∀ W, Below w4.heap.size w4 W → OwnV W base 120 2 (.slice a3 p c3) p (pairs8 (l)) from fun W hb => by have h8 := OwnV.later h9 hb; rw [← HP.out] at h8; exact h8)
          have hDX := h4.lt
          have zX := h4.free 3
          have hbX : base ≤ w4.heap.size := by have := HC4.out.size; omega
          have HSRC := Lib.hid (fun W : World => src_pair W z k 120)
          have HND := Lib.hid (show (Value.slice a3 p c3).ownBlock ≠ some D from v3 ▸ h4.notD.2.2.1)
          have HAP := Lib.hid (fun (w1x w2 : World) (v2 : Value) (hbx : Below w4.heap.size w4 w1x) (hg : w1x.grownBy w2 (Value.slice a3 p c3).ownBlock) (hl : Lies w1x w2 (.slice a3 p c3) v2 p 1) => appd_of (D := D) hbx hg hl)
          clear h4 v3 hp h9
          go_wp2_with (
            at_builtin
            refine wpList_append_W rfl _ _ 95 rfl base 120 i1 (.agg #[.string ⟨#[]⟩, .int .i64 0]) 2 24 Tryz.underlying95 HI1.out hz10 hz11 hz12 rfl (.slice a3 p c3) p (pairs8 (l)) rfl (HO3.out _ ((Below.refl _ _).alloc (Nat.le_refl _) _)) (.slice (some ⟨w4.heap.size, 0, none⟩) 1 1) 1 (pairs8 [(z, k)]) rfl (HSRC.out w4) (by unfold maxLen; omega) (by omega) (by simp; omega) ?_
            intro v8 w8 ho8 hg8 hl8
            have hap := HAP.out _ w8 v8 ((Below.refl _ _).alloc (Nat.le_refl _) _) hg8 hl8
            have HA8 := Lib.hid hap
            have d8 := hap.cell HND.out f3
            have g8 := hap.free HND.out hDX zX
            obtain ⟨a9, c9, rfl⟩ := ho8.sl
            have HO8 := Lib.hid (show OwnV w8 base 120 2 (.slice a9 (p + 1) c9) (l ++ [(z, k)]).length (pairs8 (l ++ [(z, k)])) by rw [List.length_append, List.length_singleton, ← HP.out, pairs8_append]; exact ho8)
            clear ho8 hg8 hl8 hap)
          go_ret
          have h9 := H6.out.appNow (v2 := .slice a9 (p + 1) c9) (by rw [V3.out]; exact HA8.out) HO8.out
          have hcg := HA8.out.chg 3 (S := plus S w w4) (.inl (HS.out D (.inl rfl))) (fun g hg => by rcases HN6.out g (by rw [V3.out]; exact hg) with h7 | h7; exact .inl h7; exact .inr ⟨h7, (OwnV.lt (H6.out.now) g (by rw [V3.out]; exact hg)).2⟩)
          refine ⟨rfl, rn_of HD.out (by rw [HMV.out]; exact h9) (HC4.out.trans hcg) fun g hg => ?_⟩
          rcases hg with hg | hg | hg | hg | hg
          · exact .inl (HS.out g (.inl hg))
          · exact .inl (HS.out g (.inr (.inl hg)))
          · exact .inl (HS.out g (.inr (.inr (.inl hg))))
          · rcases HA8.out.new g hg with h7 | h7
            · exact HN6.out g (by rw [V3.out]; exact h7)
            · exact .inr (Nat.le_trans HC4.out.size h7)
          · exact .inl (HS.out g (.inr (.inr (.inr (.inr hg)))))
    · rw [if_neg h0]
      obtain ⟨e, he, hn, hn2, _⟩ := is_err_le R s h0
      rw [he]
      rw [he, ← hx] at HI
      clear h hS ok he h0 hx
      go_enter Tryz.func33, Tryz.ntmps33
      go_wp2_with fail
      refine HI.out.mono ?_
      rintro _ w1 ⟨rfl, hb⟩
      have HB := Lib.hid hb
      clear hb
      go_wp2_with fail
      refine (HZ.out w1).mono ?_
      rintro _ w1b ⟨rfl, hb⟩
      have HB := Lib.hid (below_on HB.out hb)
      clear hb
      go_wp2_with fail
      go_ret
      exact ⟨rfl, HD.out.looked HB.out⟩
  · rw [if_neg hzo]
    have hzf : nameOk z = false := by cases hq : nameOk z; rfl; exact absurd hq hzo
    rw [hzf] at HZ
    obtain ⟨y, hy⟩ : ∃ y, y = (R.is s).2 := ⟨_, rfl⟩
    rw [← hx, ← hy] at HI
    clear h hS ok hx hy hzf
    go_enter Tryz.func33, Tryz.ntmps33
    go_wp2_with fail
    refine HI.out.mono ?_
    rintro _ w1 ⟨rfl, hb⟩
    have HB := Lib.hid hb
    clear hb
    go_wp2_with fail
    refine (HZ.out w1).mono ?_
    rintro _ w1b ⟨rfl, hb⟩
    have HB := Lib.hid (below_on HB.out hb)
    clear hb
    go_wp2_with fail
    go_ret
    exact ⟨rfl, HD.out.looked HB.out⟩
end Go.Proofs.YtidhlbhfhfonoaaGreatDoor
