/- Layer 17's reference: Create -/
import Derived.Test.YtidhlbhfhfonoaaGreatDoorJZXG16
namespace Go.Proofs.YtidhlbhfhfonoaaGreatDoor
open Go.ChangeShapes Go.WideShapes Go.ChangeAt Go.RowKit
theorem infoN : (Tryz.prog.info? 3).map (fun i => (i.zero, i.size, i.bytes)) = some (some (.int .i64 0), 1, 8) := by kernel_rfl
theorem Rf.create_0 {R : Rf} {s : ByteArray} (h : (R.is s).2 = 0) : R.create s = (R, 8) := by unfold Rf.create; rw [if_pos h]
theorem Rf.create_1 {R : Rf} {s : ByteArray} (h : (R.is s).2 = 1) : R.create s = (R, 1) := by unfold Rf.create; rw [if_neg (by omega), if_pos h]
theorem Rf.create_full {R : Rf} {s : ByteArray} (h : (R.is s).2 = 7) (hl : R.now.length = 64) : R.create s = (R, 6) := by unfold Rf.create; rw [if_neg (by omega), if_neg (by omega), if_pos hl]
theorem Rf.create_yes {R : Rf} {s : ByteArray} (h : (R.is s).2 = 7) (hl : R.now.length ≠ 64) : R.create s = ({ R with now := R.now ++ [(s, R.rows.length)], rows := R.rows ++ [noName], marks := R.marks ++ [0] }, 0) := by
  unfold Rf.create; rw [if_neg (by omega), if_neg (by omega), if_neg hl]
theorem Rf.is_ways (R : Rf) (s : ByteArray) : (R.is s).2 = 0 ∨ (R.is s).2 = 1 ∨ (R.is s).2 = 7 := by
  unfold Rf.is
  split
  · split
    · exact .inr (.inr rfl)
    · exact .inl rfl
  · exact .inr (.inl rfl)
set_option linter.unusedSimpArgs false in
set_option linter.unusedVariables false in
set_option maxRecDepth 20000 in
set_option maxHeartbeats 1500000 in
theorem RCreate_any {w : World} {base D : Nat} {R : Rf} {S : Nat → Prop} (hd : Rk w base D R S) (ok : RfOk R) (s : ByteArray) (hs : s.size ≤ 140737488355328) (hc : R.rows.length ≤ 1000000) :
    Calls Tryz.prog 31 #[.pointer (some ⟨D, 0, none⟩), .string s] w (RErrs w base D S (R.create s)) := by
  have HD := Lib.hid hd
  have hB := hd.from_
  obtain ⟨⟨rv, mv, nv, sv, h, hS⟩, _⟩ := hd
  have HI := Lib.hid (Ris_any h s hs (by have := ok.nl; omega))
  obtain ⟨x, hx⟩ : ∃ x, x = (R.is s).1 := ⟨_, rfl⟩
  rw [← hx] at HI
  unfold RErrs
  rcases R.is_ways s with he | he | he
  · rw [Rf.create_0 he]
    rw [he] at HI
    clear h hS ok he hx
    go_enter Tryz.func31, Tryz.ntmps31
    go_wp2_with fail
    refine HI.out.mono ?_
    rintro _ w1 ⟨rfl, hb⟩
    have HB := Lib.hid hb
    clear hb
    go_wp2_with fail
    go_ret
    exact ⟨rfl, HD.out.looked HB.out⟩
  · rw [Rf.create_1 he]
    rw [he] at HI
    clear h hS ok he hx
    go_enter Tryz.func31, Tryz.ntmps31
    go_wp2_with fail
    refine HI.out.mono ?_
    rintro _ w1 ⟨rfl, hb⟩
    have HB := Lib.hid hb
    clear hb
    go_wp2_with fail
    go_ret
    exact ⟨rfl, HD.out.looked HB.out⟩
  · obtain ⟨_, _, _, f3, _⟩ := h.field
    obtain ⟨a3, c3, v3⟩ := h.now.sl
    obtain ⟨m, hm⟩ : ∃ m, m = R.now.length := ⟨_, rfl⟩
    by_cases hfull : R.now.length = 64
    · rw [Rf.create_full he hfull]
      rw [he] at HI
      rw [v3, hfull] at f3
      have F3 := Lib.hid (fun w1 (hb : Below w.heap.size w w1) => cell_on f3 hb)
      clear h hS ok he hx f3 v3 hfull hm
      go_enter Tryz.func31, Tryz.ntmps31
      go_wp2_with fail
      refine HI.out.mono ?_
      rintro _ w1 ⟨rfl, hb⟩
      have HB := Lib.hid hb
      have f3 := F3.out w1 hb
      clear hb
      go_wp2_with fail
      go_ret
      exact ⟨rfl, HD.out.looked HB.out⟩
    · rw [Rf.create_yes he hfull]
      rw [he] at HI
      have nl := ok.nl
      have hm64 : ((m : Int) == 64) = false := by simp; omega
      have mI : (m : Int) ≤ 64 := by omega
      have hbs := hB
      obtain ⟨i1, hi1, hz10, hz11, hz12⟩ := info_parts infoP
      obtain ⟨i2, hi2, hz20, hz21, hz22⟩ := info_parts infoS
      obtain ⟨i3, hi3, hz30, hz31, hz32⟩ := info_parts infoN
      have H := Lib.hid h
      have HS := Lib.hid hS
      have HI1 := Lib.hid hi1
      have HI2 := Lib.hid hi2
      have HI3 := Lib.hid hi3
      have HM := Lib.hid hm
      have HOK := Lib.hid ok
      obtain ⟨n, hn⟩ : ∃ n, n = R.rows.length := ⟨_, rfl⟩
      have HN := Lib.hid hn
      have nI : (n : Int) ≤ 1000000 := by omega
      clear h hS ok he hx f3 v3 hfull hm hi1 hi2 hi3 hn nl
      go_enter Tryz.func31, Tryz.ntmps31
      go_wp2_with fail
      refine HI.out.mono ?_
      rintro _ w1 ⟨rfl, hb⟩
      have HB := Lib.hid hb
      have h1 := H.out.later hb
      have H1 := Lib.hid h1
      obtain ⟨_, f1, f2, f3, _⟩ := h1.field
      obtain ⟨a1, c1, v1⟩ := h1.rows.sl
      obtain ⟨a3, c3, v3⟩ := h1.now.sl
      have V1 := Lib.hid v1
      have V3 := Lib.hid v3
      rw [v1, ← HN.out] at f1
      rw [v3, ← HM.out] at f3
      have HO3 := Lib.hid (show ∀ W, Below w1.heap.size w1 W → OwnV W base 120 2 (.slice a3 m c3) m (pairs8 R.now) from fun W hb => by have h9 := OwnV.later h1.now hb; rw [v3, ← HM.out] at h9; exact h9)
      have hD1 := h1.lt
      have z3 := h1.free 3
      have hb1 : base ≤ w1.heap.size := by have := hb.size; omega
      have HSRC := Lib.hid (fun W : World => src_pair W s n 120)
      have hnD3 : (Value.slice a3 m c3).ownBlock ≠ some D := by have := h1.notD.2.2.1; rwa [v3, ← HM.out] at this
      have HND := Lib.hid hnD3
      have HV3 := Lib.hid (show nv = .slice a3 m c3 by rw [v3, ← HM.out])
      clear hb h1 v1 v3 hnD3
      have HAP := Lib.hid (fun (w1x w2 : World) (v2 : Value) (hbx : Below w1.heap.size w1 w1x) (hg : w1x.grownBy w2 (Value.slice a3 m c3).ownBlock) (hl : Lies w1x w2 (.slice a3 m c3) v2 m 1) => And.intro (appd_of (D := D) (below_on HB.out hbx) hg hl) (appd_of (D := D) hbx hg hl))
      go_wp2_with fail
      go_region_law (first
        | (refine step_append_W rfl (.tmp 28) (.tmp 36) 95 rfl base 120 i1 (.agg #[.string ⟨#[]⟩, .int .i64 0]) 2 24 Tryz.underlying95 HI1.out hz10 hz11 hz12 rfl (.slice a3 m c3) m (pairs8 R.now) rfl (HO3.out _ ((Below.refl _ _).drew.alloc (Nat.le_refl _) _)) (.slice (some ⟨w1.heap.size, 0, none⟩) 1 1) 1 (pairs8 [(s, n)]) rfl (HSRC.out w1.drew) (by unfold maxLen; omega) (by omega) (by simp; omega) ?_
           intro v2 w2 ho2 hg2 hl2
           have hap := HAP.out _ w2 v2 ((Below.refl _ _).drew.alloc (Nat.le_refl _) _) hg2 hl2
           have HA := Lib.hid hap.1
           have d3 := hap.2.cell HND.out f3
           have g3 := hap.2.free HND.out hD1 z3
           obtain ⟨a4, c4, rfl⟩ := ho2.sl
           have HO2 := Lib.hid (show OwnV w2 base 120 2 (.slice a4 (m + 1) c4) (R.now ++ [(s, n)]).length (pairs8 (R.now ++ [(s, n)])) by rw [List.length_append, List.length_singleton, ← HM.out, pairs8_append]; exact ho2)
           clear ho2 hg2 hl2 hap))
      all_goals
        have h3 := H.out.appNow (v2 := .slice a4 (m + 1) c4) (by rw [HV3.out]; exact HA.out) HO2.out
        have hcg := HA.out.chg 3 (HS.out D (.inl rfl)) (fun g hg => HS.out g (.inr (.inr (.inr (.inl (by rw [HV3.out]; exact hg))))))
        have hnw := HA.out.new
        obtain ⟨w3, e3⟩ : ∃ w3, w3 = w2.setCell ⟨D, 3, none⟩ (.slice a4 (m + 1) c4) := ⟨_, rfl⟩
        rw [← e3] at h3 hcg ⊢
        have HC3 := Lib.hid hcg
        have HN3 := Lib.hid (show ∀ g, (Value.slice a4 (m + 1) c4).ownBlock = some g → S g ∨ w.heap.size ≤ g from fun g hg => (hnw g hg).imp_left fun h9 => HS.out g (.inr (.inr (.inr (.inl (by rw [HV3.out]; exact h9))))))
        have H3 := Lib.hid h3
        obtain ⟨_, f1, f2, f3, _⟩ := h3.field
        obtain ⟨a1, c1, v1⟩ := h3.rows.sl
        have v1 : rv = .slice a1 n c1 := by rw [HN.out]; exact v1
        have V1 := Lib.hid v1
        rw [v1] at f1
        have HO1 := Lib.hid (show ∀ W, Below w3.heap.size w3 W → OwnV W base 9 1 (.slice a1 n c1) n (strs R.rows) from fun W hb => by have h9 := OwnV.later h3.rows hb; rw [v1] at h9; rw [HN.out] at h9 ⊢; exact h9)
        have hD3 := h3.lt
        have z1 := h3.free 1
        have hb3 : base ≤ w3.heap.size := by have := HC3.out.size; omega
        have HSRC := Lib.hid (fun W : World => src_val W (.string noName) rfl 9)
        have HND := Lib.hid (show (Value.slice a1 n c1).ownBlock ≠ some D from v1 ▸ h3.notD.1)
        have HAP := Lib.hid (fun (w1x w2 : World) (v2 : Value) (hbx : Below w3.heap.size w3 w1x) (hg : w1x.grownBy w2 (Value.slice a1 n c1).ownBlock) (hl : Lies w1x w2 (.slice a1 n c1) v2 n 1) => appd_of (D := D) hbx hg hl)
        clear e3 h3 hcg hnw v1 d3 g3 HA HO2 HO3 H
        go_upto_region 10 with (
          at_builtin
          refine wpList_append_W rfl _ _ 93 rfl base 9 i2 (.string ⟨#[]⟩) 1 16 Tryz.underlying93 HI2.out hz20 hz21 hz22 rfl (.slice a1 n c1) n (strs R.rows) rfl (HO1.out _ ((Below.refl _ _).alloc (Nat.le_refl _) _)) (.slice (some ⟨w3.heap.size, 0, none⟩) 1 1) 1 [.string noName] rfl (HSRC.out w3) (by unfold maxLen; omega) (by omega) (by simp; omega) ?_
          intro v4 w4 ho4 hg4 hl4
          have hap := HAP.out _ w4 v4 ((Below.refl _ _).alloc (Nat.le_refl _) _) hg4 hl4
          have HA4 := Lib.hid hap
          have d4 := hap.cell HND.out f1
          have g4 := hap.free HND.out hD3 z1
          obtain ⟨a5, c5, rfl⟩ := ho4.sl
          have HO4 := Lib.hid (show OwnV w4 base 9 1 (.slice a5 (n + 1) c5) (R.rows ++ [noName]).length (strs (R.rows ++ [noName])) by rw [List.length_append, List.length_singleton, ← HN.out, strs_append]; exact ho4)
          clear ho4 hg4 hl4 hap)
        have h5 := H3.out.appRows (v2 := .slice a5 (n + 1) c5) (by rw [V1.out]; exact HA4.out) HO4.out
        have hcg := HA4.out.chg 1 (HS.out D (.inl rfl)) (fun g hg => HS.out g (.inr (.inl (by rw [V1.out]; exact hg))))
        have hnw := HA4.out.new
        obtain ⟨w5, e5⟩ : ∃ w5, w5 = w4.setCell ⟨D, 1, none⟩ (.slice a5 (n + 1) c5) := ⟨_, rfl⟩
        rw [← e5] at h5 hcg ⊢
        have HC5 := Lib.hid (HC3.out.trans (hcg.more (S' := plus S w w3) (fun g hg => .inl hg)))
        have HN5 := Lib.hid (show ∀ g, (Value.slice a5 (n + 1) c5).ownBlock = some g → S g ∨ w.heap.size ≤ g from fun g hg => by
          rcases hnw g hg with h9 | h9
          · exact .inl (HS.out g (.inr (.inl (by rw [V1.out]; exact h9))))
          · exact .inr (Nat.le_trans HC3.out.size h9))
        have H5 := Lib.hid h5
        obtain ⟨_, _, f2, _, _⟩ := h5.field
        obtain ⟨a2, c2, v2⟩ := h5.marks.sl
        have v2 : mv = .slice a2 n c2 := by rw [HN.out, ← HOK.out.ml]; exact v2
        have V2 := Lib.hid v2
        rw [v2] at f2
        have e9 : R.marks.length = n := by rw [HN.out, HOK.out.ml]
        have h9 := h5.marks
        rw [v2, e9] at h9
        have HO1 := Lib.hid (show ∀ W, Below w5.heap.size w5 W → OwnV W base 3 1 (.slice a2 n c2) n (cellsK .i64 R.marks) from fun W hb => OwnV.later h9 hb)
        have HE9 := Lib.hid e9
        have hD5 := h5.lt
        have z2 := h5.free 2
        have hb5 : base ≤ w5.heap.size := by have := HC5.out.size; omega
        have HSRC := Lib.hid (fun W : World => src_val W (.int .i64 0) rfl 3)
        have HND := Lib.hid (show (Value.slice a2 n c2).ownBlock ≠ some D from v2 ▸ h5.notD.2.1)
        have HAP := Lib.hid (fun (w1x w2 : World) (v2 : Value) (hbx : Below w5.heap.size w5 w1x) (hg : w1x.grownBy w2 (Value.slice a2 n c2).ownBlock) (hl : Lies w1x w2 (.slice a2 n c2) v2 n 1) => appd_of (D := D) hbx hg hl)
        clear e5 h5 hcg hnw v2 d4 g4 HA4 HO4 H3 f1 f3 z1 h9 e9
        go_wp2_with (
          at_builtin
          refine wpList_append_W rfl _ _ 94 rfl base 3 i3 (.int .i64 0) 1 8 Tryz.underlying94 HI3.out hz30 hz31 hz32 rfl (.slice a2 n c2) n (cellsK .i64 R.marks) rfl (HO1.out _ ((Below.refl _ _).alloc (Nat.le_refl _) _)) (.slice (some ⟨w5.heap.size, 0, none⟩) 1 1) 1 [.int .i64 0] rfl (HSRC.out w5) (by unfold maxLen; omega) (by omega) (by simp; omega) ?_
          intro v6 w6 ho6 hg6 hl6
          have hap := HAP.out _ w6 v6 ((Below.refl _ _).alloc (Nat.le_refl _) _) hg6 hl6
          have HA6 := Lib.hid hap
          have d6 := hap.cell HND.out f2
          have g6 := hap.free HND.out hD5 z2
          obtain ⟨a7, c7, rfl⟩ := ho6.sl
          have HO6 := Lib.hid (show OwnV w6 base 3 1 (.slice a7 (n + 1) c7) (R.marks ++ [0]).length (cellsK .i64 (R.marks ++ [0])) by rw [List.length_append, List.length_singleton, HE9.out, cellsK_append]; exact ho6)
          clear ho6 hg6 hl6 hap)
        go_ret
        have h7 := H5.out.appMarks (v2 := .slice a7 (n + 1) c7) (by rw [V2.out]; exact HA6.out) HO6.out
        have hcg := HA6.out.chg 2 (HS.out D (.inl rfl)) (fun g hg => HS.out g (.inr (.inr (.inl (by rw [V2.out]; exact hg)))))
        refine ⟨rfl, rn_of HD.out (by rw [← HN.out]; exact h7) (HC5.out.trans (hcg.more fun g hg => .inl hg)) fun g hg => ?_⟩
        rcases hg with hg | hg | hg | hg | hg
        · exact .inl (HS.out g (.inl hg))
        · exact HN5.out g hg
        · rcases HA6.out.new g hg with h9 | h9
          · exact .inl (HS.out g (.inr (.inr (.inl (by rw [V2.out]; exact h9)))))
          · exact .inr (Nat.le_trans HC5.out.size h9)
        · exact HN3.out g hg
        · exact .inl (HS.out g (.inr (.inr (.inr (.inr hg)))))
end Go.Proofs.YtidhlbhfhfonoaaGreatDoor
