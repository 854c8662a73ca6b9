/- The law FilesDone, walked. -/
import Derived.Test.YtidhlbhfhfonoaaGreatDoorTri2
namespace Go.Proofs.YtidhlbhfhfonoaaGreatDoor
open Go.ChangeShapes Go.WideShapes Go.ChangeAt Go.RowKit
theorem actC {w : World} {X : Nat} {a0 a1 a2 a3 a4 a5 a6 : Value} {t : TypeId} (h : w.heap[X]? = some (.cells #[a0, a1, a2, a3, a4, a5, a6] t (0, 0))) : w.cell? ⟨X, 0, none⟩ = some a0 ∧ w.cell? ⟨X, 1, none⟩ = some a1 ∧ w.cell? ⟨X, 2, none⟩ = some a2 ∧ w.cell? ⟨X, 3, none⟩ = some a3 ∧ w.cell? ⟨X, 4, none⟩ = some a4 ∧ w.cell? ⟨X, 5, none⟩ = some a5 ∧ w.cell? ⟨X, 6, none⟩ = some a6 :=
  ⟨cell_of_row _ X 0 _ _ (0, 0) h, cell_of_row _ X 1 _ _ (0, 0) h, cell_of_row _ X 2 _ _ (0, 0) h, cell_of_row _ X 3 _ _ (0, 0) h, cell_of_row _ X 4 _ _ (0, 0) h, cell_of_row _ X 5 _ _ (0, 0) h, cell_of_row _ X 6 _ _ (0, 0) h⟩
set_option linter.unusedSimpArgs false in
set_option linter.unusedVariables false in
set_option maxRecDepth 40000 in
set_option maxHeartbeats 8000000 in
theorem filesDone_great (size : Int) (l : List Ac) {v : Value} (w : World) (h : ActsAt w v l) (hg : great l = true) :
    Calls Tryz.prog 4 #[.int .i64 size, v] w fun e w' => e = .returned (.bool true) ∧ Below w.heap.size w w' := by
  have HG := Lib.hid (Great_any l w h)
  rw [hg] at HG
  obtain ⟨ao, cap, rfl, _⟩ := h
  clear hg
  go_enter Tryz.func4, Tryz.ntmps4
  go_wp2_with fail
  refine HG.out.mono ?_
  rintro _ w1 ⟨rfl, n, rfl⟩
  go_wp2_with fail
  go_ret
  exact ⟨rfl, below_drewN9 _ _⟩
set_option linter.unusedSimpArgs false in
set_option linter.unusedVariables false in
set_option maxRecDepth 40000 in
set_option maxHeartbeats 8000000 in
theorem filesDone_bad (size : Int) (hsz : -9223372036854775808 ≤ size ∧ size ≤ 9223372036854775807) (l : List Ac) {v : Value} (w : World) (h : ActsAt w v l) (hg : great l = false) (hb : size < 1 ∨ 8388608 < size) :
    Calls Tryz.prog 4 #[.int .i64 size, v] w fun e w' => e = .returned (.bool true) ∧ Below w.heap.size w w' := by
  have HG := Lib.hid (Great_any l w h)
  rw [hg] at HG
  have HN := Lib.hid (fun W : World => New_no size W hb)
  have HR := Lib.hid (fun W : World => RNew_no size W hb)
  obtain ⟨ao, cap, rfl, _⟩ := h
  clear hg hb
  go_enter Tryz.func4, Tryz.ntmps4
  go_wp2_with fail
  refine HG.out.mono ?_
  rintro _ w1 ⟨rfl, n, rfl⟩
  go_wp2_with fail
  refine (HN.out _).mono ?_
  rintro _ w1 ⟨rfl, e1⟩
  subst e1
  go_wp2_with fail
  refine (HR.out _).mono ?_
  rintro _ w2 ⟨rfl, hb⟩
  have HB := Lib.hid hb
  clear hb
  go_wp2_with fail
  go_ret
  exact ⟨rfl, below_on (below_drewN9 w n) HB.out⟩
set_option linter.unusedSimpArgs false in
set_option linter.unusedVariables false in
set_option maxRecDepth 40000 in
set_option maxHeartbeats 8000000 in
theorem filesDone_small (n : Nat) (hn1 : 1 ≤ n) (hn2 : n ≤ 8388608) (l : List Ac) {v : Value} (w : World) (h : ActsAt w v l) (hg : great l = false) :
    Calls Tryz.prog 4 #[.int .i64 n, v] w fun e w' => e = .returned (.bool true) ∧ Below w.heap.size w w' := by
  have HG := Lib.hid (Great_any l w h)
  rw [hg] at HG
  obtain ⟨hl200, hbulk⟩ := great_small hg
  have HBULK := Lib.hid hbulk
  have HA := Lib.hid h
  obtain ⟨C, hC⟩ : ∃ C, C = w.heap.size := ⟨_, rfl⟩
  have HC := Lib.hid hC
  obtain ⟨ao, cap, hv, hc1, hc2, hc3, hc4⟩ := h
  unfold maxLen at hc2
  obtain ⟨m, hm⟩ : ∃ m, m = l.length := ⟨_, rfl⟩
  have HM := Lib.hid hm
  rw [← hm] at hc1 hc4 hv hl200
  have H3 := Lib.hid hc3
  have H4 := Lib.hid hc4
  subst hv
  have mI : (m : Int) ≤ 200 := by omega
  have HN := Lib.hid (fun W : World => New_yes n W hn1 hn2)
  have HRN := Lib.hid (fun W : World => RNew_yes n W hn1 hn2)
  have HREL0 := Lib.hid (new_rel n)
  clear hc3 hc4 hm hg hbulk hC hn1 hn2
  go_enter Tryz.func4, Tryz.ntmps4
  go_wp2_with fail
  refine HG.out.mono ?_
  rintro _ w0 ⟨rfl, n0, e0⟩
  have hb0 : Below C w w0 := by rw [e0, HC.out]; exact below_drewN9 _ _
  have hs0 : C = w0.heap.size := by rw [e0, HC.out]; rfl
  have HB0 := Lib.hid hb0
  have HS0 := Lib.hid hs0
  clear e0 hb0 hs0
  go_wp2_with fail
  refine (HN.out w0).mono ?_
  rintro _ w1 ⟨rfl, hd, hb⟩
  have HD1 := Lib.hid hd
  have HB1 := Lib.hid hb
  clear hd hb
  go_wp2_with fail
  refine (HRN.out w1).mono ?_
  rintro _ w2 ⟨rfl, hr, hb⟩
  have HR2 := Lib.hid hr
  have HB2 := Lib.hid hb
  clear hr hb
  go_upto_region 10 with fail
  obtain ⟨w3, e3⟩ : ∃ w3, w3 = w2.alloc (.cells #[.int .i64 0, .slice none 0 0, .slice none 0 0, .slice none 0 0, .slice none 0 0, .slice none 0 0, .slice none 0 0, .slice none 0 0, .slice none 0 0, .slice none 0 0, .slice none 0 0, .slice none 0 0, .slice none 0 0, .slice none 0 0, .slice none 0 0, .slice none 0 0, .slice none 0 0, .slice none 0 0] 57) := ⟨_, rfl⟩
  obtain ⟨B, hB⟩ : ∃ B, B = w2.heap.size := ⟨_, rfl⟩
  have hbk := Bk.new w2 57 5 141 1 1
  have hb3 : Below w2.heap.size w2 w3 := by rw [e3]; exact (Below.refl _ _).alloc (Nat.le_refl _) _
  have s1 := HB1.out.size
  have s2 := HB2.out.size
  have s3 : C = w0.heap.size := HS0.out
  obtain ⟨D, hD⟩ : ∃ D, D = w0.heap.size := ⟨_, rfl⟩
  obtain ⟨E, hE⟩ : ∃ E, E = w1.heap.size := ⟨_, rfl⟩
  have T := Lib.hid (show Tri (fun _ => False) w3 C D E B 0 (new0 n) (newR n) by
    have hsD : w0.heap.size < w1.heap.size := by obtain ⟨⟨rb, rv, h9, _⟩, h8⟩ := HD1.out; exact (h8 _ rfl).2
    have hsE : w1.heap.size < w2.heap.size := by obtain ⟨h8, h9⟩ := HR2.out; exact (h9 _ rfl).2
    refine ⟨fun g => g = D, fun g => g = E, fun g => g = B, ?_, ?_, ?_, fun g h1 h2 => by omega, fun g h1 h2 => by omega, fun g h1 h2 => by omega, fun g hg => hg.elim⟩
    · rw [s3, hD]; exact ((HD1.out.later HB2.out).later hb3)
    · rw [hE]
      have h9 := HR2.out.later hb3
      obtain ⟨⟨rv, mv, nv, sv, r1, r2⟩, r3⟩ := h9
      exact ⟨⟨rv, mv, nv, sv, ⟨r1.blk, OwnV.base r1.rows (by omega), OwnV.base r1.marks (by omega), OwnV.base r1.now (by omega), OwnV.base r1.safe (by omega), by omega, r1.notD, r1.rm, r1.rn, r1.rs, r1.mn, r1.ms, r1.ns⟩, r2⟩, fun g hg => ⟨by have := r3 g hg; omega, (r3 g hg).2⟩⟩
    · rw [e3, hB]
      obtain ⟨⟨F0, L0, N0, X0, r1, r2⟩, r3⟩ := hbk
      exact ⟨⟨F0, L0, N0, X0, ⟨⟨r1.fam.book, OwnV.base r1.fam.row (by omega), fun i hi => OwnV.base (r1.fam.own i hi) (by omega)⟩, r1.apart, r1.nil, by omega, r1.short⟩, r2⟩, fun g hg => ⟨by have := r3 g hg; omega, (r3 g hg).2⟩⟩)
  have BW := Lib.hid (show Below C w w3 from ((HB0.out.trans (HB1.out.mono (by omega))).trans (HB2.out.mono (by omega))).trans (hb3.mono (by omega)))
  rw [← e3, ← hB]
  rw [← hD, ← hE]
  clear e3 hB hbk hb3 s1 s2 s3 hD hE HD1 HR2 HB0 HB1 HB2 HS0 HN HRN HG
  go_wp2_with fail
  go_loopw [5, 7, 10] (fun d mm i wr => ∃ (k D E q : Nat) (M : Dm) (R : Rf), k ≤ m ∧ i = .int .i64 k ∧ d = .pointer (some ⟨D, 0, none⟩) ∧ mm = .pointer (some ⟨E, 0, none⟩) ∧ Hid (Tri (fun _ => False) wr C D E B q M R) ∧ Hid (∃ f, Rel M R f) ∧ q ≤ 2 * k ∧ R.rows.length ≤ 64 + k ∧ Hid (Below C w wr)) (fun _ _ i _ => m - (intOf i).toNat)
  case atStart => exact ⟨0, D, E, 0, new0 n, newR n, Nat.zero_le _, rfl, rfl, rfl, T, Lib.hid ⟨_, HREL0.out⟩, Nat.zero_le _, by simp [newR], BW⟩
  case round =>
    clear T BW HREL0
    obtain ⟨k, D, E, q, M, R, hk, rfl, rfl, rfl, T, HREL, hq, hfew, BW⟩ := hrel
    by_cases hlt : k < m
    · have hkI : (k : Int) < (m : Int) := by omega
      obtain ⟨a, ha⟩ : ∃ a, l[k]? = some a := ⟨_, List.getElem?_eq_getElem (by rw [← HM.out]; exact hlt)⟩
      obtain ⟨b0, o0, rfl, hcell⟩ := H4.out (by omega)
      have ham := List.mem_of_getElem? ha
      obtain ⟨hok, hkv⟩ := H3.out a ham
      have hbk := HBULK.out a ham
      unfold Ac.bulk at hbk
      have HKV := Lib.hid hkv
      obtain ⟨ab, ac, hav, _, _, _, _⟩ := hkv
      have c0 := cell_on (hcell k a ha 0 _ rfl) (show Below w.heap.size w wr by rw [← HC.out]; exact BW.out)
      have c1 := cell_on (hcell k a ha 1 _ rfl) (show Below w.heap.size w wr by rw [← HC.out]; exact BW.out)
      have c2 := cell_on (hcell k a ha 2 _ rfl) (show Below w.heap.size w wr by rw [← HC.out]; exact BW.out)
      have c3 := cell_on (hcell k a ha 3 _ rfl) (show Below w.heap.size w wr by rw [← HC.out]; exact BW.out)
      have c4 := cell_on (hcell k a ha 4 _ rfl) (show Below w.heap.size w wr by rw [← HC.out]; exact BW.out)
      have c5 := cell_on (hcell k a ha 5 _ rfl) (show Below w.heap.size w wr by rw [← HC.out]; exact BW.out)
      have c6 := cell_on (hcell k a ha 6 _ rfl) (show Below w.heap.size w wr by rw [← HC.out]; exact BW.out)
      rw [Nat.add_zero] at c0
      rw [hav] at c3 HKV
      have HS1 := Lib.hid (show a.name.size ≤ 140737488355328 by omega)
      have HS2 := Lib.hid (show a.to_.size ≤ 140737488355328 by omega)
      have HBL := Lib.hid (show a.b.length ≤ 40000 by omega)
      have HBY := Lib.hid hok.b.1
      have HAT := Lib.hid hok.at_
      have HNN := Lib.hid hok.n
      have hk9 := hok.kind
      obtain ⟨r, hr⟩ : ∃ r, r = a.kind % 10 := ⟨_, rfl⟩
      have hr9 : r < 10 := by omega
      have er : (a.kind : Int) % 10 = (r : Int) := by omega
      clear hcell ha ham hok hav hbk hr
      go_upto_region 14 with fail
      obtain ⟨wx, e9⟩ : ∃ wx : World, wx = wr.alloc (.cells #[.int .u8 a.kind, .string a.name, .string a.to_, .slice ab a.b.length ac, .int .i64 a.at_, .int .i64 a.n, .bool a.nm] 78) := ⟨_, rfl⟩
      obtain ⟨AX, hAX⟩ : ∃ AX, AX = wr.heap.size := ⟨_, rfl⟩
      have hb : Below wr.heap.size wr wx := by rw [e9]; exact (Below.refl _ _).alloc (Nat.le_refl _) _
      have HAX := Lib.hid (show wx.heap[AX]? = some (.cells #[.int .u8 a.kind, .string a.name, .string a.to_, .slice ab a.b.length ac, .int .i64 a.at_, .int .i64 a.n, .bool a.nm] 78 (0, 0)) by rw [e9, hAX]; exact heap_alloc_new _ _)
      have hsx : wx.heap.size = AX + 1 := by rw [e9, hAX]; simp
      have BW := Lib.hid (BW.out.trans (hb.mono T.out.base))
      have T := Lib.hid (T.out.more (K' := fun g => g = AX) hb (fun g hg => .inr ⟨by omega, by omega⟩))
      rw [← e9, ← hAX]
      clear e9 hAX hb c0 c1 c2 c3 c4 c5 c6 hsx
      obtain ⟨x0, x1, x2, x3, x4, x5, x6⟩ := actC HAX.out
      go_wp2_with fail
      refine (Twin_any _ (HKV.out.later (show Below w.heap.size w _ from by rw [← HC.out]; exact BW.out)) (by have := HBL.out; omega)).mono ?_
      rintro _ w1 ⟨tv, rfl, ht, hb⟩
      obtain ⟨ta, tc, htv⟩ := ht.own.at_.len |> fun _ => ht.own.sl
      have HTW := Lib.hid (Twin.down ht T.out.base)
      have HAX := Lib.hid (((T.out.kept hb).2 AX rfl).trans HAX.out)
      have BW := Lib.hid (BW.out.trans (hb.mono T.out.base))
      have T := Lib.hid (T.out.more (K' := fun g => g = AX ∨ tv.ownBlock = some g) hb (fun g hg => hg.imp_right fun h9 => ⟨(OwnV.lt ht.own g h9).1, (OwnV.lt ht.own g h9).2⟩))
      clear x0 x1 x2 x3 x4 x5 x6 hb ht
      obtain ⟨x0, x1, x2, x3, x4, x5, x6⟩ := actC HAX.out
      subst htv
      match r, hr9 with
      | 0, _ => as_aux_lemma =>
        obtain ⟨f9, hf9⟩ := HREL.out
        have HOKR := Lib.hid (hf9.okR T.out.ok)
        obtain ⟨h1, h2⟩ := hf9.create T.out.ok a.name
        obtain ⟨M', hM⟩ : ∃ M', M' = (M.create a.name).1 := ⟨_, rfl⟩
        obtain ⟨R', hR⟩ : ∃ R', R' = (R.create a.name).1 := ⟨_, rfl⟩
        obtain ⟨e, he⟩ : ∃ e, e = (M.create a.name).2 := ⟨_, rfl⟩
        have HXM := Lib.hid (show M.create a.name = (M', e) from Prod.ext hM.symm he.symm)
        have HXR := Lib.hid (show R.create a.name = (R', e) from Prod.ext hR.symm (by rw [he]; first | done | exact h1))
        have HREL := Lib.hid (show ∃ f, Rel M' R' f by rw [hM, hR]; exact h2)
        have hfew2 : R'.rows.length ≤ 64 + (k + 1) := by have h9 := few_create R a.name; rw [hR]; exact Nat.le_trans h9 (by omega)
        have hfew1 : R.rows.length ≤ 1000000 := by omega
        clear hf9 h1 h2 hM hR he f9 hfew
        go_wp2_with fail
        refine (T.out.actD (x := (M', e)) (fun S hS => by have h9 := Create_any hS a.name HS1.out; rewrite [HXM.out] at h9; exact h9)).mono ?_
        rintro _ wy ⟨rfl, ht, hk9, hb⟩
        have T := Lib.hid ht
        clear ht
        have HAX := Lib.hid ((hk9.2 AX (.inl rfl)).trans HAX.out)
        have HTW := Lib.hid (HTW.out.block fun g hg => hk9.2 g (.inr hg))
        have BW := Lib.hid (BW.out.trans hb)
        clear hk9 hb x0 x1 x2 x3 x4 x5 x6
        obtain ⟨x0, x1, x2, x3, x4, x5, x6⟩ := actC HAX.out
        go_wp2_with fail
        refine (T.out.actR (x := (R', e)) (fun S hS => by have h9 := RCreate_any hS HOKR.out a.name HS1.out hfew1; rewrite [HXR.out] at h9; exact h9)).mono ?_
        rintro _ wz ⟨rfl, ht, hk9, hb⟩
        have T := Lib.hid ht
        clear ht
        have HAX := Lib.hid ((hk9.2 AX (.inl rfl)).trans HAX.out)
        have HTW := Lib.hid (HTW.out.block fun g hg => hk9.2 g (.inr hg))
        have BW := Lib.hid (BW.out.trans hb)
        clear hk9 hb x0 x1 x2 x3 x4 x5 x6
        obtain ⟨x0, x1, x2, x3, x4, x5, x6⟩ := actC HAX.out
        have hfewT : R'.rows.length ≤ 1000000 := by omega
        go_wp2_with fail
        refine (T.out.sizeD a.name HS1.out).mono ?_
        rintro _ y1 ⟨rfl, hb⟩
        have hk9 := T.out.kept hb
        have hbC := hb.mono T.out.base
        have T := Lib.hid (T.out.later hb)
        clear hb
        have hb := hbC
        clear hbC
        have HAX := Lib.hid ((hk9.2 AX (.inl rfl)).trans HAX.out)
        have HTW := Lib.hid (HTW.out.block fun g hg => hk9.2 g (.inr hg))
        have BW := Lib.hid (BW.out.trans hb)
        clear hk9 hb x0 x1 x2 x3 x4 x5 x6
        obtain ⟨x0, x1, x2, x3, x4, x5, x6⟩ := actC HAX.out
        go_wp2_with fail
        refine (T.out.sizeR HREL.out hfewT a.name HS1.out).mono ?_
        rintro _ y2 ⟨rfl, hb⟩
        have hk9 := T.out.kept hb
        have hbC := hb.mono T.out.base
        have T := Lib.hid (T.out.later hb)
        clear hb
        have hb := hbC
        clear hbC
        have HAX := Lib.hid ((hk9.2 AX (.inl rfl)).trans HAX.out)
        have HTW := Lib.hid (HTW.out.block fun g hg => hk9.2 g (.inr hg))
        have BW := Lib.hid (BW.out.trans hb)
        clear hk9 hb x0 x1 x2 x3 x4 x5 x6
        obtain ⟨x0, x1, x2, x3, x4, x5, x6⟩ := actC HAX.out
        go_wp2_with fail
        refine (T.out.leftD).mono ?_
        rintro _ y3 ⟨rfl, hb⟩
        have hk9 := T.out.kept hb
        have hbC := hb.mono T.out.base
        have T := Lib.hid (T.out.later hb)
        clear hb
        have hb := hbC
        clear hbC
        have HAX := Lib.hid ((hk9.2 AX (.inl rfl)).trans HAX.out)
        have HTW := Lib.hid (HTW.out.block fun g hg => hk9.2 g (.inr hg))
        have BW := Lib.hid (BW.out.trans hb)
        clear hk9 hb x0 x1 x2 x3 x4 x5 x6
        obtain ⟨x0, x1, x2, x3, x4, x5, x6⟩ := actC HAX.out
        go_wp2_with fail
        refine (T.out.leftR HREL.out hfewT).mono ?_
        rintro _ y4 ⟨rfl, hb⟩
        have hk9 := T.out.kept hb
        have hbC := hb.mono T.out.base
        have T := Lib.hid (T.out.later hb)
        clear hb
        have hb := hbC
        clear hbC
        have HAX := Lib.hid ((hk9.2 AX (.inl rfl)).trans HAX.out)
        have HTW := Lib.hid (HTW.out.block fun g hg => hk9.2 g (.inr hg))
        have BW := Lib.hid (BW.out.trans hb)
        clear hk9 hb x0 x1 x2 x3 x4 x5 x6
        obtain ⟨x0, x1, x2, x3, x4, x5, x6⟩ := actC HAX.out
        go_wp2_with fail
        refine (LeftB_any y4 HTW.out (HKV.out.later (show Below w.heap.size w _ from by rw [← HC.out]; exact BW.out))).mono ?_
        rintro _ y5 ⟨rfl, n5, e5⟩
        have hb : Below y4.heap.size y4 y5 := by rw [e5]; exact below_drewN9 _ _
        have hk9 := T.out.kept hb
        have hbC := hb.mono T.out.base
        have T := Lib.hid (T.out.later hb)
        clear hb e5
        have hb := hbC
        clear hbC
        have HAX := Lib.hid ((hk9.2 AX (.inl rfl)).trans HAX.out)
        have HTW := Lib.hid (HTW.out.block fun g hg => hk9.2 g (.inr hg))
        have BW := Lib.hid (BW.out.trans hb)
        clear hk9 hb x0 x1 x2 x3 x4 x5 x6
        obtain ⟨x0, x1, x2, x3, x4, x5, x6⟩ := actC HAX.out
        go_wp2_with fail
        refine (T.out.keepB (K' := fun _ => False) (by omega) HTW.out.own (by have := HBL.out; omega) (fun g hg => .inr hg) (fun g hg => hg.elim)).mono ?_
        rintro _ y6 ⟨rfl, ht, hk9, hb⟩
        have T := Lib.hid ht
        have BW := Lib.hid (BW.out.trans hb)
        clear ht hk9 hb x0 x1 x2 x3 x4 x5 x6
        go_wp2_with fail
        go_roundw
        case rel => exact ⟨k + 1, D, E, q + 1, M', R', by omega, by go_num, rfl, rfl, T, HREL, by omega, by omega, BW⟩
        case measure => simp [intOf]; omega
      | 1, _ => as_aux_lemma =>
        obtain ⟨f9, hf9⟩ := HREL.out
        have HOKR := Lib.hid (hf9.okR T.out.ok)
        obtain ⟨h1, h2⟩ := hf9.remove T.out.ok a.name
        obtain ⟨M', hM⟩ : ∃ M', M' = (M.remove a.name).1 := ⟨_, rfl⟩
        obtain ⟨R', hR⟩ : ∃ R', R' = (R.remove a.name).1 := ⟨_, rfl⟩
        obtain ⟨e, he⟩ : ∃ e, e = (M.remove a.name).2 := ⟨_, rfl⟩
        have HXM := Lib.hid (show M.remove a.name = (M', e) from Prod.ext hM.symm he.symm)
        have HXR := Lib.hid (show R.remove a.name = (R', e) from Prod.ext hR.symm (by rw [he]; first | done | exact h1))
        have HREL := Lib.hid (show ∃ f, Rel M' R' f by rw [hM, hR]; exact h2)
        have hfew2 : R'.rows.length ≤ 64 + (k + 1) := by have h9 := few_remove R a.name; rw [hR]; exact Nat.le_trans h9 (by omega)
        have hfew1 : R.rows.length ≤ 1000000 := by omega
        clear hf9 h1 h2 hM hR he f9 hfew
        go_wp2_with fail
        refine (T.out.actD (x := (M', e)) (fun S hS => by have h9 := Remove_any hS a.name HS1.out; rewrite [HXM.out] at h9; exact h9)).mono ?_
        rintro _ wy ⟨rfl, ht, hk9, hb⟩
        have T := Lib.hid ht
        clear ht
        have HAX := Lib.hid ((hk9.2 AX (.inl rfl)).trans HAX.out)
        have HTW := Lib.hid (HTW.out.block fun g hg => hk9.2 g (.inr hg))
        have BW := Lib.hid (BW.out.trans hb)
        clear hk9 hb x0 x1 x2 x3 x4 x5 x6
        obtain ⟨x0, x1, x2, x3, x4, x5, x6⟩ := actC HAX.out
        go_wp2_with fail
        refine (T.out.actR (x := (R', e)) (fun S hS => by have h9 := RRemove_any hS HOKR.out a.name HS1.out; rewrite [HXR.out] at h9; exact h9)).mono ?_
        rintro _ wz ⟨rfl, ht, hk9, hb⟩
        have T := Lib.hid ht
        clear ht
        have HAX := Lib.hid ((hk9.2 AX (.inl rfl)).trans HAX.out)
        have HTW := Lib.hid (HTW.out.block fun g hg => hk9.2 g (.inr hg))
        have BW := Lib.hid (BW.out.trans hb)
        clear hk9 hb x0 x1 x2 x3 x4 x5 x6
        obtain ⟨x0, x1, x2, x3, x4, x5, x6⟩ := actC HAX.out
        have hfewT : R'.rows.length ≤ 1000000 := by omega
        go_wp2_with fail
        refine (T.out.sizeD a.name HS1.out).mono ?_
        rintro _ y1 ⟨rfl, hb⟩
        have hk9 := T.out.kept hb
        have hbC := hb.mono T.out.base
        have T := Lib.hid (T.out.later hb)
        clear hb
        have hb := hbC
        clear hbC
        have HAX := Lib.hid ((hk9.2 AX (.inl rfl)).trans HAX.out)
        have HTW := Lib.hid (HTW.out.block fun g hg => hk9.2 g (.inr hg))
        have BW := Lib.hid (BW.out.trans hb)
        clear hk9 hb x0 x1 x2 x3 x4 x5 x6
        obtain ⟨x0, x1, x2, x3, x4, x5, x6⟩ := actC HAX.out
        go_wp2_with fail
        refine (T.out.sizeR HREL.out hfewT a.name HS1.out).mono ?_
        rintro _ y2 ⟨rfl, hb⟩
        have hk9 := T.out.kept hb
        have hbC := hb.mono T.out.base
        have T := Lib.hid (T.out.later hb)
        clear hb
        have hb := hbC
        clear hbC
        have HAX := Lib.hid ((hk9.2 AX (.inl rfl)).trans HAX.out)
        have HTW := Lib.hid (HTW.out.block fun g hg => hk9.2 g (.inr hg))
        have BW := Lib.hid (BW.out.trans hb)
        clear hk9 hb x0 x1 x2 x3 x4 x5 x6
        obtain ⟨x0, x1, x2, x3, x4, x5, x6⟩ := actC HAX.out
        go_wp2_with fail
        refine (T.out.leftD).mono ?_
        rintro _ y3 ⟨rfl, hb⟩
        have hk9 := T.out.kept hb
        have hbC := hb.mono T.out.base
        have T := Lib.hid (T.out.later hb)
        clear hb
        have hb := hbC
        clear hbC
        have HAX := Lib.hid ((hk9.2 AX (.inl rfl)).trans HAX.out)
        have HTW := Lib.hid (HTW.out.block fun g hg => hk9.2 g (.inr hg))
        have BW := Lib.hid (BW.out.trans hb)
        clear hk9 hb x0 x1 x2 x3 x4 x5 x6
        obtain ⟨x0, x1, x2, x3, x4, x5, x6⟩ := actC HAX.out
        go_wp2_with fail
        refine (T.out.leftR HREL.out hfewT).mono ?_
        rintro _ y4 ⟨rfl, hb⟩
        have hk9 := T.out.kept hb
        have hbC := hb.mono T.out.base
        have T := Lib.hid (T.out.later hb)
        clear hb
        have hb := hbC
        clear hbC
        have HAX := Lib.hid ((hk9.2 AX (.inl rfl)).trans HAX.out)
        have HTW := Lib.hid (HTW.out.block fun g hg => hk9.2 g (.inr hg))
        have BW := Lib.hid (BW.out.trans hb)
        clear hk9 hb x0 x1 x2 x3 x4 x5 x6
        obtain ⟨x0, x1, x2, x3, x4, x5, x6⟩ := actC HAX.out
        go_wp2_with fail
        refine (LeftB_any y4 HTW.out (HKV.out.later (show Below w.heap.size w _ from by rw [← HC.out]; exact BW.out))).mono ?_
        rintro _ y5 ⟨rfl, n5, e5⟩
        have hb : Below y4.heap.size y4 y5 := by rw [e5]; exact below_drewN9 _ _
        have hk9 := T.out.kept hb
        have hbC := hb.mono T.out.base
        have T := Lib.hid (T.out.later hb)
        clear hb e5
        have hb := hbC
        clear hbC
        have HAX := Lib.hid ((hk9.2 AX (.inl rfl)).trans HAX.out)
        have HTW := Lib.hid (HTW.out.block fun g hg => hk9.2 g (.inr hg))
        have BW := Lib.hid (BW.out.trans hb)
        clear hk9 hb x0 x1 x2 x3 x4 x5 x6
        obtain ⟨x0, x1, x2, x3, x4, x5, x6⟩ := actC HAX.out
        go_wp2_with fail
        refine (T.out.keepB (K' := fun _ => False) (by omega) HTW.out.own (by have := HBL.out; omega) (fun g hg => .inr hg) (fun g hg => hg.elim)).mono ?_
        rintro _ y6 ⟨rfl, ht, hk9, hb⟩
        have T := Lib.hid ht
        have BW := Lib.hid (BW.out.trans hb)
        clear ht hk9 hb x0 x1 x2 x3 x4 x5 x6
        go_wp2_with fail
        go_roundw
        case rel => exact ⟨k + 1, D, E, q + 1, M', R', by omega, by go_num, rfl, rfl, T, HREL, by omega, by omega, BW⟩
        case measure => simp [intOf]; omega
      | 2, _ => as_aux_lemma =>
        obtain ⟨f9, hf9⟩ := HREL.out
        have HOKR := Lib.hid (hf9.okR T.out.ok)
        obtain ⟨h1, h2⟩ := hf9.rename T.out.ok a.name a.to_
        obtain ⟨M', hM⟩ : ∃ M', M' = (M.rename a.name a.to_).1 := ⟨_, rfl⟩
        obtain ⟨R', hR⟩ : ∃ R', R' = (R.rename a.name a.to_).1 := ⟨_, rfl⟩
        obtain ⟨e, he⟩ : ∃ e, e = (M.rename a.name a.to_).2 := ⟨_, rfl⟩
        have HXM := Lib.hid (show M.rename a.name a.to_ = (M', e) from Prod.ext hM.symm he.symm)
        have HXR := Lib.hid (show R.rename a.name a.to_ = (R', e) from Prod.ext hR.symm (by rw [he]; first | done | exact h1))
        have HREL := Lib.hid (show ∃ f, Rel M' R' f by rw [hM, hR]; exact h2)
        have hfew2 : R'.rows.length ≤ 64 + (k + 1) := by have h9 := few_rename R a.name a.to_; rw [hR]; exact Nat.le_trans h9 (by omega)
        have hfew1 : R.rows.length ≤ 1000000 := by omega
        clear hf9 h1 h2 hM hR he f9 hfew
        go_wp2_with fail
        refine (T.out.actD (x := (M', e)) (fun S hS => by have h9 := Rename_any hS a.name a.to_ HS1.out HS2.out; rewrite [HXM.out] at h9; exact h9)).mono ?_
        rintro _ wy ⟨rfl, ht, hk9, hb⟩
        have T := Lib.hid ht
        clear ht
        have HAX := Lib.hid ((hk9.2 AX (.inl rfl)).trans HAX.out)
        have HTW := Lib.hid (HTW.out.block fun g hg => hk9.2 g (.inr hg))
        have BW := Lib.hid (BW.out.trans hb)
        clear hk9 hb x0 x1 x2 x3 x4 x5 x6
        obtain ⟨x0, x1, x2, x3, x4, x5, x6⟩ := actC HAX.out
        go_wp2_with fail
        refine (T.out.actR (x := (R', e)) (fun S hS => by have h9 := RRename_any hS HOKR.out a.name a.to_ HS1.out HS2.out hfew1; rewrite [HXR.out] at h9; exact h9)).mono ?_
        rintro _ wz ⟨rfl, ht, hk9, hb⟩
        have T := Lib.hid ht
        clear ht
        have HAX := Lib.hid ((hk9.2 AX (.inl rfl)).trans HAX.out)
        have HTW := Lib.hid (HTW.out.block fun g hg => hk9.2 g (.inr hg))
        have BW := Lib.hid (BW.out.trans hb)
        clear hk9 hb x0 x1 x2 x3 x4 x5 x6
        obtain ⟨x0, x1, x2, x3, x4, x5, x6⟩ := actC HAX.out
        have hfewT : R'.rows.length ≤ 1000000 := by omega
        go_wp2_with fail
        refine (T.out.sizeD a.name HS1.out).mono ?_
        rintro _ y1 ⟨rfl, hb⟩
        have hk9 := T.out.kept hb
        have hbC := hb.mono T.out.base
        have T := Lib.hid (T.out.later hb)
        clear hb
        have hb := hbC
        clear hbC
        have HAX := Lib.hid ((hk9.2 AX (.inl rfl)).trans HAX.out)
        have HTW := Lib.hid (HTW.out.block fun g hg => hk9.2 g (.inr hg))
        have BW := Lib.hid (BW.out.trans hb)
        clear hk9 hb x0 x1 x2 x3 x4 x5 x6
        obtain ⟨x0, x1, x2, x3, x4, x5, x6⟩ := actC HAX.out
        go_wp2_with fail
        refine (T.out.sizeR HREL.out hfewT a.name HS1.out).mono ?_
        rintro _ y2 ⟨rfl, hb⟩
        have hk9 := T.out.kept hb
        have hbC := hb.mono T.out.base
        have T := Lib.hid (T.out.later hb)
        clear hb
        have hb := hbC
        clear hbC
        have HAX := Lib.hid ((hk9.2 AX (.inl rfl)).trans HAX.out)
        have HTW := Lib.hid (HTW.out.block fun g hg => hk9.2 g (.inr hg))
        have BW := Lib.hid (BW.out.trans hb)
        clear hk9 hb x0 x1 x2 x3 x4 x5 x6
        obtain ⟨x0, x1, x2, x3, x4, x5, x6⟩ := actC HAX.out
        go_wp2_with fail
        refine (T.out.leftD).mono ?_
        rintro _ y3 ⟨rfl, hb⟩
        have hk9 := T.out.kept hb
        have hbC := hb.mono T.out.base
        have T := Lib.hid (T.out.later hb)
        clear hb
        have hb := hbC
        clear hbC
        have HAX := Lib.hid ((hk9.2 AX (.inl rfl)).trans HAX.out)
        have HTW := Lib.hid (HTW.out.block fun g hg => hk9.2 g (.inr hg))
        have BW := Lib.hid (BW.out.trans hb)
        clear hk9 hb x0 x1 x2 x3 x4 x5 x6
        obtain ⟨x0, x1, x2, x3, x4, x5, x6⟩ := actC HAX.out
        go_wp2_with fail
        refine (T.out.leftR HREL.out hfewT).mono ?_
        rintro _ y4 ⟨rfl, hb⟩
        have hk9 := T.out.kept hb
        have hbC := hb.mono T.out.base
        have T := Lib.hid (T.out.later hb)
        clear hb
        have hb := hbC
        clear hbC
        have HAX := Lib.hid ((hk9.2 AX (.inl rfl)).trans HAX.out)
        have HTW := Lib.hid (HTW.out.block fun g hg => hk9.2 g (.inr hg))
        have BW := Lib.hid (BW.out.trans hb)
        clear hk9 hb x0 x1 x2 x3 x4 x5 x6
        obtain ⟨x0, x1, x2, x3, x4, x5, x6⟩ := actC HAX.out
        go_wp2_with fail
        refine (LeftB_any y4 HTW.out (HKV.out.later (show Below w.heap.size w _ from by rw [← HC.out]; exact BW.out))).mono ?_
        rintro _ y5 ⟨rfl, n5, e5⟩
        have hb : Below y4.heap.size y4 y5 := by rw [e5]; exact below_drewN9 _ _
        have hk9 := T.out.kept hb
        have hbC := hb.mono T.out.base
        have T := Lib.hid (T.out.later hb)
        clear hb e5
        have hb := hbC
        clear hbC
        have HAX := Lib.hid ((hk9.2 AX (.inl rfl)).trans HAX.out)
        have HTW := Lib.hid (HTW.out.block fun g hg => hk9.2 g (.inr hg))
        have BW := Lib.hid (BW.out.trans hb)
        clear hk9 hb x0 x1 x2 x3 x4 x5 x6
        obtain ⟨x0, x1, x2, x3, x4, x5, x6⟩ := actC HAX.out
        go_wp2_with fail
        refine (T.out.keepB (K' := fun _ => False) (by omega) HTW.out.own (by have := HBL.out; omega) (fun g hg => .inr hg) (fun g hg => hg.elim)).mono ?_
        rintro _ y6 ⟨rfl, ht, hk9, hb⟩
        have T := Lib.hid ht
        have BW := Lib.hid (BW.out.trans hb)
        clear ht hk9 hb x0 x1 x2 x3 x4 x5 x6
        go_wp2_with fail
        go_roundw
        case rel => exact ⟨k + 1, D, E, q + 1, M', R', by omega, by go_num, rfl, rfl, T, HREL, by omega, by omega, BW⟩
        case measure => simp [intOf]; omega
      | 3, _ => as_aux_lemma =>
        obtain ⟨f9, hf9⟩ := HREL.out
        have HOKR := Lib.hid (hf9.okR T.out.ok)
        obtain ⟨h1, h2⟩ := (show (R.append a.name (bstr a.b)).2 = (M.append a.name a.b).2 ∧ ∃ g, Rel (M.append a.name a.b).1 (R.append a.name (bstr a.b)).1 g by have h9 := hf9.append T.out.ok a.name (bstr a.b); rw [bstr_num HBY.out] at h9; exact h9)
        obtain ⟨M', hM⟩ : ∃ M', M' = (M.append a.name a.b).1 := ⟨_, rfl⟩
        obtain ⟨R', hR⟩ : ∃ R', R' = (R.append a.name (bstr a.b)).1 := ⟨_, rfl⟩
        obtain ⟨e, he⟩ : ∃ e, e = (M.append a.name a.b).2 := ⟨_, rfl⟩
        have HXM := Lib.hid (show M.append a.name a.b = (M', e) from Prod.ext hM.symm he.symm)
        have HXR := Lib.hid (show R.append a.name (bstr a.b) = (R', e) from Prod.ext hR.symm (by rw [he]; first | done | exact h1))
        have HREL := Lib.hid (show ∃ f, Rel M' R' f by rw [hM, hR]; exact h2)
        have hfew2 : R'.rows.length ≤ 64 + (k + 1) := by have h9 := few_append R a.name (bstr a.b); rw [hR]; exact Nat.le_trans h9 (by omega)
        have hfew1 : R.rows.length ≤ 1000000 := by omega
        clear hf9 h1 h2 hM hR he f9 hfew
        go_wp2_with fail
        refine (T.out.actD (x := (M', e)) (fun S hS => by have h9 := Append_any hS a.name HS1.out HTW.out.own.at_ HBY.out; rewrite [HXM.out] at h9; exact h9)).mono ?_
        rintro _ wy ⟨rfl, ht, hk9, hb⟩
        have T := Lib.hid ht
        clear ht
        have HAX := Lib.hid ((hk9.2 AX (.inl rfl)).trans HAX.out)
        have HTW := Lib.hid (HTW.out.block fun g hg => hk9.2 g (.inr hg))
        have BW := Lib.hid (BW.out.trans hb)
        clear hk9 hb x0 x1 x2 x3 x4 x5 x6
        obtain ⟨x0, x1, x2, x3, x4, x5, x6⟩ := actC HAX.out
        go_wp2_with fail
        refine (T.out.actR (x := (R', e)) (fun S hS => by have h9 := RAppend_any hS HOKR.out a.name HS1.out hfew1 (HKV.out.later (show Below w.heap.size w _ from by rw [← HC.out]; exact BW.out)) (by have := HBL.out; omega) HBY.out; rewrite [HXR.out] at h9; exact h9)).mono ?_
        rintro _ wz ⟨rfl, ht, hk9, hb⟩
        have T := Lib.hid ht
        clear ht
        have HAX := Lib.hid ((hk9.2 AX (.inl rfl)).trans HAX.out)
        have HTW := Lib.hid (HTW.out.block fun g hg => hk9.2 g (.inr hg))
        have BW := Lib.hid (BW.out.trans hb)
        clear hk9 hb x0 x1 x2 x3 x4 x5 x6
        obtain ⟨x0, x1, x2, x3, x4, x5, x6⟩ := actC HAX.out
        have hfewT : R'.rows.length ≤ 1000000 := by omega
        go_wp2_with fail
        refine (T.out.sizeD a.name HS1.out).mono ?_
        rintro _ y1 ⟨rfl, hb⟩
        have hk9 := T.out.kept hb
        have hbC := hb.mono T.out.base
        have T := Lib.hid (T.out.later hb)
        clear hb
        have hb := hbC
        clear hbC
        have HAX := Lib.hid ((hk9.2 AX (.inl rfl)).trans HAX.out)
        have HTW := Lib.hid (HTW.out.block fun g hg => hk9.2 g (.inr hg))
        have BW := Lib.hid (BW.out.trans hb)
        clear hk9 hb x0 x1 x2 x3 x4 x5 x6
        obtain ⟨x0, x1, x2, x3, x4, x5, x6⟩ := actC HAX.out
        go_wp2_with fail
        refine (T.out.sizeR HREL.out hfewT a.name HS1.out).mono ?_
        rintro _ y2 ⟨rfl, hb⟩
        have hk9 := T.out.kept hb
        have hbC := hb.mono T.out.base
        have T := Lib.hid (T.out.later hb)
        clear hb
        have hb := hbC
        clear hbC
        have HAX := Lib.hid ((hk9.2 AX (.inl rfl)).trans HAX.out)
        have HTW := Lib.hid (HTW.out.block fun g hg => hk9.2 g (.inr hg))
        have BW := Lib.hid (BW.out.trans hb)
        clear hk9 hb x0 x1 x2 x3 x4 x5 x6
        obtain ⟨x0, x1, x2, x3, x4, x5, x6⟩ := actC HAX.out
        go_wp2_with fail
        refine (T.out.leftD).mono ?_
        rintro _ y3 ⟨rfl, hb⟩
        have hk9 := T.out.kept hb
        have hbC := hb.mono T.out.base
        have T := Lib.hid (T.out.later hb)
        clear hb
        have hb := hbC
        clear hbC
        have HAX := Lib.hid ((hk9.2 AX (.inl rfl)).trans HAX.out)
        have HTW := Lib.hid (HTW.out.block fun g hg => hk9.2 g (.inr hg))
        have BW := Lib.hid (BW.out.trans hb)
        clear hk9 hb x0 x1 x2 x3 x4 x5 x6
        obtain ⟨x0, x1, x2, x3, x4, x5, x6⟩ := actC HAX.out
        go_wp2_with fail
        refine (T.out.leftR HREL.out hfewT).mono ?_
        rintro _ y4 ⟨rfl, hb⟩
        have hk9 := T.out.kept hb
        have hbC := hb.mono T.out.base
        have T := Lib.hid (T.out.later hb)
        clear hb
        have hb := hbC
        clear hbC
        have HAX := Lib.hid ((hk9.2 AX (.inl rfl)).trans HAX.out)
        have HTW := Lib.hid (HTW.out.block fun g hg => hk9.2 g (.inr hg))
        have BW := Lib.hid (BW.out.trans hb)
        clear hk9 hb x0 x1 x2 x3 x4 x5 x6
        obtain ⟨x0, x1, x2, x3, x4, x5, x6⟩ := actC HAX.out
        go_wp2_with fail
        refine (LeftB_any y4 HTW.out (HKV.out.later (show Below w.heap.size w _ from by rw [← HC.out]; exact BW.out))).mono ?_
        rintro _ y5 ⟨rfl, n5, e5⟩
        have hb : Below y4.heap.size y4 y5 := by rw [e5]; exact below_drewN9 _ _
        have hk9 := T.out.kept hb
        have hbC := hb.mono T.out.base
        have T := Lib.hid (T.out.later hb)
        clear hb e5
        have hb := hbC
        clear hbC
        have HAX := Lib.hid ((hk9.2 AX (.inl rfl)).trans HAX.out)
        have HTW := Lib.hid (HTW.out.block fun g hg => hk9.2 g (.inr hg))
        have BW := Lib.hid (BW.out.trans hb)
        clear hk9 hb x0 x1 x2 x3 x4 x5 x6
        obtain ⟨x0, x1, x2, x3, x4, x5, x6⟩ := actC HAX.out
        go_wp2_with fail
        refine (T.out.keepB (K' := fun _ => False) (by omega) HTW.out.own (by have := HBL.out; omega) (fun g hg => .inr hg) (fun g hg => hg.elim)).mono ?_
        rintro _ y6 ⟨rfl, ht, hk9, hb⟩
        have T := Lib.hid ht
        have BW := Lib.hid (BW.out.trans hb)
        clear ht hk9 hb x0 x1 x2 x3 x4 x5 x6
        go_wp2_with fail
        go_roundw
        case rel => exact ⟨k + 1, D, E, q + 1, M', R', by omega, by go_num, rfl, rfl, T, HREL, by omega, by omega, BW⟩
        case measure => simp [intOf]; omega
      | 4, _ => as_aux_lemma =>
        obtain ⟨f9, hf9⟩ := HREL.out
        have HOKR := Lib.hid (hf9.okR T.out.ok)
        obtain ⟨h1, h2⟩ := (show (R.append a.name (bstr a.b)).2 = (M.append a.name a.b).2 ∧ ∃ g, Rel (M.append a.name a.b).1 (R.append a.name (bstr a.b)).1 g by have h9 := hf9.append T.out.ok a.name (bstr a.b); rw [bstr_num HBY.out] at h9; exact h9)
        obtain ⟨M', hM⟩ : ∃ M', M' = (M.append a.name a.b).1 := ⟨_, rfl⟩
        obtain ⟨R', hR⟩ : ∃ R', R' = (R.append a.name (bstr a.b)).1 := ⟨_, rfl⟩
        obtain ⟨e, he⟩ : ∃ e, e = (M.append a.name a.b).2 := ⟨_, rfl⟩
        have HXM := Lib.hid (show M.append a.name a.b = (M', e) from Prod.ext hM.symm he.symm)
        have HXR := Lib.hid (show R.append a.name (bstr a.b) = (R', e) from Prod.ext hR.symm (by rw [he]; first | done | exact h1))
        have HREL := Lib.hid (show ∃ f, Rel M' R' f by rw [hM, hR]; exact h2)
        have hfew2 : R'.rows.length ≤ 64 + (k + 1) := by have h9 := few_append R a.name (bstr a.b); rw [hR]; exact Nat.le_trans h9 (by omega)
        have hfew1 : R.rows.length ≤ 1000000 := by omega
        clear hf9 h1 h2 hM hR he f9 hfew
        go_wp2_with fail
        refine (T.out.actD (x := (M', e)) (fun S hS => by have h9 := Append_any hS a.name HS1.out HTW.out.own.at_ HBY.out; rewrite [HXM.out] at h9; exact h9)).mono ?_
        rintro _ wy ⟨rfl, ht, hk9, hb⟩
        have T := Lib.hid ht
        clear ht
        have HAX := Lib.hid ((hk9.2 AX (.inl rfl)).trans HAX.out)
        have HTW := Lib.hid (HTW.out.block fun g hg => hk9.2 g (.inr hg))
        have BW := Lib.hid (BW.out.trans hb)
        clear hk9 hb x0 x1 x2 x3 x4 x5 x6
        obtain ⟨x0, x1, x2, x3, x4, x5, x6⟩ := actC HAX.out
        go_wp2_with fail
        refine (T.out.actR (x := (R', e)) (fun S hS => by have h9 := RAppend_any hS HOKR.out a.name HS1.out hfew1 (HKV.out.later (show Below w.heap.size w _ from by rw [← HC.out]; exact BW.out)) (by have := HBL.out; omega) HBY.out; rewrite [HXR.out] at h9; exact h9)).mono ?_
        rintro _ wz ⟨rfl, ht, hk9, hb⟩
        have T := Lib.hid ht
        clear ht
        have HAX := Lib.hid ((hk9.2 AX (.inl rfl)).trans HAX.out)
        have HTW := Lib.hid (HTW.out.block fun g hg => hk9.2 g (.inr hg))
        have BW := Lib.hid (BW.out.trans hb)
        clear hk9 hb x0 x1 x2 x3 x4 x5 x6
        obtain ⟨x0, x1, x2, x3, x4, x5, x6⟩ := actC HAX.out
        have hfewT : R'.rows.length ≤ 1000000 := by omega
        go_wp2_with fail
        refine (T.out.sizeD a.name HS1.out).mono ?_
        rintro _ y1 ⟨rfl, hb⟩
        have hk9 := T.out.kept hb
        have hbC := hb.mono T.out.base
        have T := Lib.hid (T.out.later hb)
        clear hb
        have hb := hbC
        clear hbC
        have HAX := Lib.hid ((hk9.2 AX (.inl rfl)).trans HAX.out)
        have HTW := Lib.hid (HTW.out.block fun g hg => hk9.2 g (.inr hg))
        have BW := Lib.hid (BW.out.trans hb)
        clear hk9 hb x0 x1 x2 x3 x4 x5 x6
        obtain ⟨x0, x1, x2, x3, x4, x5, x6⟩ := actC HAX.out
        go_wp2_with fail
        refine (T.out.sizeR HREL.out hfewT a.name HS1.out).mono ?_
        rintro _ y2 ⟨rfl, hb⟩
        have hk9 := T.out.kept hb
        have hbC := hb.mono T.out.base
        have T := Lib.hid (T.out.later hb)
        clear hb
        have hb := hbC
        clear hbC
        have HAX := Lib.hid ((hk9.2 AX (.inl rfl)).trans HAX.out)
        have HTW := Lib.hid (HTW.out.block fun g hg => hk9.2 g (.inr hg))
        have BW := Lib.hid (BW.out.trans hb)
        clear hk9 hb x0 x1 x2 x3 x4 x5 x6
        obtain ⟨x0, x1, x2, x3, x4, x5, x6⟩ := actC HAX.out
        go_wp2_with fail
        refine (T.out.leftD).mono ?_
        rintro _ y3 ⟨rfl, hb⟩
        have hk9 := T.out.kept hb
        have hbC := hb.mono T.out.base
        have T := Lib.hid (T.out.later hb)
        clear hb
        have hb := hbC
        clear hbC
        have HAX := Lib.hid ((hk9.2 AX (.inl rfl)).trans HAX.out)
        have HTW := Lib.hid (HTW.out.block fun g hg => hk9.2 g (.inr hg))
        have BW := Lib.hid (BW.out.trans hb)
        clear hk9 hb x0 x1 x2 x3 x4 x5 x6
        obtain ⟨x0, x1, x2, x3, x4, x5, x6⟩ := actC HAX.out
        go_wp2_with fail
        refine (T.out.leftR HREL.out hfewT).mono ?_
        rintro _ y4 ⟨rfl, hb⟩
        have hk9 := T.out.kept hb
        have hbC := hb.mono T.out.base
        have T := Lib.hid (T.out.later hb)
        clear hb
        have hb := hbC
        clear hbC
        have HAX := Lib.hid ((hk9.2 AX (.inl rfl)).trans HAX.out)
        have HTW := Lib.hid (HTW.out.block fun g hg => hk9.2 g (.inr hg))
        have BW := Lib.hid (BW.out.trans hb)
        clear hk9 hb x0 x1 x2 x3 x4 x5 x6
        obtain ⟨x0, x1, x2, x3, x4, x5, x6⟩ := actC HAX.out
        go_wp2_with fail
        refine (LeftB_any y4 HTW.out (HKV.out.later (show Below w.heap.size w _ from by rw [← HC.out]; exact BW.out))).mono ?_
        rintro _ y5 ⟨rfl, n5, e5⟩
        have hb : Below y4.heap.size y4 y5 := by rw [e5]; exact below_drewN9 _ _
        have hk9 := T.out.kept hb
        have hbC := hb.mono T.out.base
        have T := Lib.hid (T.out.later hb)
        clear hb e5
        have hb := hbC
        clear hbC
        have HAX := Lib.hid ((hk9.2 AX (.inl rfl)).trans HAX.out)
        have HTW := Lib.hid (HTW.out.block fun g hg => hk9.2 g (.inr hg))
        have BW := Lib.hid (BW.out.trans hb)
        clear hk9 hb x0 x1 x2 x3 x4 x5 x6
        obtain ⟨x0, x1, x2, x3, x4, x5, x6⟩ := actC HAX.out
        go_wp2_with fail
        refine (T.out.keepB (K' := fun _ => False) (by omega) HTW.out.own (by have := HBL.out; omega) (fun g hg => .inr hg) (fun g hg => hg.elim)).mono ?_
        rintro _ y6 ⟨rfl, ht, hk9, hb⟩
        have T := Lib.hid ht
        have BW := Lib.hid (BW.out.trans hb)
        clear ht hk9 hb x0 x1 x2 x3 x4 x5 x6
        go_wp2_with fail
        go_roundw
        case rel => exact ⟨k + 1, D, E, q + 1, M', R', by omega, by go_num, rfl, rfl, T, HREL, by omega, by omega, BW⟩
        case measure => simp [intOf]; omega
      | 5, _ => as_aux_lemma =>
        have hfewT : R.rows.length ≤ 1000000 := by omega
        obtain ⟨rl, hrl⟩ : ∃ x, x = (M.readE a.name a.at_ a.n).1 := ⟨_, rfl⟩
        obtain ⟨re, hre⟩ : ∃ x, x = (M.readE a.name a.at_ a.n).2 := ⟨_, rfl⟩
        have HRL := Lib.hid (show rl.length ≤ 1048576 by rw [hrl]; exact read_len T.out.ok a.name a.at_ a.n)
        have RD := Lib.hid (fun (W : World) (M9 : Tri (fun g => g = AX ∨ (Value.slice ta a.b.length tc).ownBlock = some g) W C D E B q M R) => M9.readD a.name HS1.out a.at_ a.n HAT.out HNN.out)
        rw [← hrl, ← hre] at RD
        go_wp2_with fail
        refine (RD.out _ T.out).mono ?_
        rintro _ wy ⟨rv, rfl, ho, hb⟩
        have hk9 := T.out.kept hb
        have hbC := hb.mono T.out.base
        have HRB := Lib.hid (show Own wy C rv rl from Own.base ho T.out.base)
        have HNE := Lib.hid (show ∀ g, (Value.slice ta a.b.length tc).ownBlock = some g → rv.ownBlock ≠ some g from fun g h1 h2 => by have := (OwnV.lt HTW.out.own g h1).2; have := (OwnV.lt ho g h2).1; omega)
        have T := Lib.hid (T.out.more (K' := fun g => g = AX ∨ (Value.slice ta a.b.length tc).ownBlock = some g ∨ rv.ownBlock = some g) hb (fun g hg => by rcases hg with hg | hg | hg; exact .inl (.inl hg); exact .inl (.inr hg); exact .inr ⟨(OwnV.lt ho g hg).1, (OwnV.lt ho g hg).2⟩))
        have HNX := Lib.hid (show rv.ownBlock ≠ some AX from fun e9 => by have h1 := (OwnV.lt ho AX e9).1; have h2 := lt_of_heap HAX.out; omega)
        clear hb
        have hb := hbC
        clear hbC
        obtain ⟨ra, rn, rc, hrv⟩ := ho.shape
        clear ho
        have HAX := Lib.hid ((hk9.2 AX (.inl rfl)).trans HAX.out)
        have HTW := Lib.hid (HTW.out.block fun g hg => hk9.2 g (.inr hg))
        have BW := Lib.hid (BW.out.trans hb)
        clear hk9 hb x0 x1 x2 x3 x4 x5 x6
        obtain ⟨x0, x1, x2, x3, x4, x5, x6⟩ := actC HAX.out
        subst hrv
        have RR := Lib.hid (fun (W : World) (K9 : Nat → Prop) (M9 : Tri K9 W C D E B q M R) => M9.readR HREL.out hfewT a.name HS1.out a.at_ a.n HAT.out HNN.out)
        rw [← hrl, ← hre] at RR
        clear hrl hre RD
        go_wp2_with fail
        refine (RR.out _ _ T.out).mono ?_
        rintro _ wz ⟨sv, rfl, hs9, hb⟩
        have hk9 := T.out.kept hb
        have HSV := Lib.hid hs9
        obtain ⟨sa, sc, hsv, _⟩ := hs9
        have hbC := hb.mono T.out.base
        have T := Lib.hid (T.out.later hb)
        clear hb
        have hb := hbC
        clear hbC
        have HAX := Lib.hid ((hk9.2 AX (.inl rfl)).trans HAX.out)
        have HTW := Lib.hid (HTW.out.block fun g hg => hk9.2 g (.inr (.inl hg)))
        have HRB := Lib.hid (OwnV.block HRB.out fun g hg => hk9.2 g (.inr (.inr hg)))
        have BW := Lib.hid (BW.out.trans hb)
        clear hk9 hb x0 x1 x2 x3 x4 x5 x6
        obtain ⟨x0, x1, x2, x3, x4, x5, x6⟩ := actC HAX.out
        subst hsv
        go_wp2_with fail
        refine (same_any _ (show KAt .u8 _ _ rl from Own.at_ HRB.out) HSV.out).mono ?_
        rintro _ wv ⟨rfl, nv, ev⟩
        have hb : Below wz.heap.size wz wv := by rw [ev]; exact below_drewN9 _ _
        have hk9 := T.out.kept hb
        have hbC := hb.mono T.out.base
        have T := Lib.hid (T.out.later hb)
        clear hb ev HSV
        have hb := hbC
        clear hbC
        rw [decide_eq_true rfl]
        have HAX := Lib.hid ((hk9.2 AX (.inl rfl)).trans HAX.out)
        have HTW := Lib.hid (HTW.out.block fun g hg => hk9.2 g (.inr (.inl hg)))
        have HRB := Lib.hid (OwnV.block HRB.out fun g hg => hk9.2 g (.inr (.inr hg)))
        have BW := Lib.hid (BW.out.trans hb)
        clear hk9 hb x0 x1 x2 x3 x4 x5 x6
        obtain ⟨x0, x1, x2, x3, x4, x5, x6⟩ := actC HAX.out
        go_wp2_with fail
        refine (T.out.keepB (K' := fun g => g = AX ∨ (Value.slice ta a.b.length tc).ownBlock = some g) (by omega) HRB.out (by have := HRL.out; omega) (fun g hg => .inr (.inr hg)) (fun g hg => by rcases hg with rfl | hg; exact ⟨.inl rfl, HNX.out⟩; exact ⟨.inr (.inl hg), HNE.out g hg⟩)).mono ?_
        rintro _ wu ⟨rfl, ht, hk9, hb⟩
        have T := Lib.hid ht
        clear ht HRB RR
        have HAX := Lib.hid ((hk9.2 AX (.inl rfl)).trans HAX.out)
        have HTW := Lib.hid (HTW.out.block fun g hg => hk9.2 g (.inr hg))
        have BW := Lib.hid (BW.out.trans hb)
        clear hk9 hb x0 x1 x2 x3 x4 x5 x6
        obtain ⟨x0, x1, x2, x3, x4, x5, x6⟩ := actC HAX.out
        go_wp2_with fail
        refine (T.out.sizeD a.name HS1.out).mono ?_
        rintro _ y1 ⟨rfl, hb⟩
        have hk9 := T.out.kept hb
        have hbC := hb.mono T.out.base
        have T := Lib.hid (T.out.later hb)
        clear hb
        have hb := hbC
        clear hbC
        have HAX := Lib.hid ((hk9.2 AX (.inl rfl)).trans HAX.out)
        have HTW := Lib.hid (HTW.out.block fun g hg => hk9.2 g (.inr hg))
        have BW := Lib.hid (BW.out.trans hb)
        clear hk9 hb x0 x1 x2 x3 x4 x5 x6
        obtain ⟨x0, x1, x2, x3, x4, x5, x6⟩ := actC HAX.out
        go_wp2_with fail
        refine (T.out.sizeR HREL.out hfewT a.name HS1.out).mono ?_
        rintro _ y2 ⟨rfl, hb⟩
        have hk9 := T.out.kept hb
        have hbC := hb.mono T.out.base
        have T := Lib.hid (T.out.later hb)
        clear hb
        have hb := hbC
        clear hbC
        have HAX := Lib.hid ((hk9.2 AX (.inl rfl)).trans HAX.out)
        have HTW := Lib.hid (HTW.out.block fun g hg => hk9.2 g (.inr hg))
        have BW := Lib.hid (BW.out.trans hb)
        clear hk9 hb x0 x1 x2 x3 x4 x5 x6
        obtain ⟨x0, x1, x2, x3, x4, x5, x6⟩ := actC HAX.out
        go_wp2_with fail
        refine (T.out.leftD).mono ?_
        rintro _ y3 ⟨rfl, hb⟩
        have hk9 := T.out.kept hb
        have hbC := hb.mono T.out.base
        have T := Lib.hid (T.out.later hb)
        clear hb
        have hb := hbC
        clear hbC
        have HAX := Lib.hid ((hk9.2 AX (.inl rfl)).trans HAX.out)
        have HTW := Lib.hid (HTW.out.block fun g hg => hk9.2 g (.inr hg))
        have BW := Lib.hid (BW.out.trans hb)
        clear hk9 hb x0 x1 x2 x3 x4 x5 x6
        obtain ⟨x0, x1, x2, x3, x4, x5, x6⟩ := actC HAX.out
        go_wp2_with fail
        refine (T.out.leftR HREL.out hfewT).mono ?_
        rintro _ y4 ⟨rfl, hb⟩
        have hk9 := T.out.kept hb
        have hbC := hb.mono T.out.base
        have T := Lib.hid (T.out.later hb)
        clear hb
        have hb := hbC
        clear hbC
        have HAX := Lib.hid ((hk9.2 AX (.inl rfl)).trans HAX.out)
        have HTW := Lib.hid (HTW.out.block fun g hg => hk9.2 g (.inr hg))
        have BW := Lib.hid (BW.out.trans hb)
        clear hk9 hb x0 x1 x2 x3 x4 x5 x6
        obtain ⟨x0, x1, x2, x3, x4, x5, x6⟩ := actC HAX.out
        go_wp2_with fail
        refine (LeftB_any y4 HTW.out (HKV.out.later (show Below w.heap.size w _ from by rw [← HC.out]; exact BW.out))).mono ?_
        rintro _ y5 ⟨rfl, n5, e5⟩
        have hb : Below y4.heap.size y4 y5 := by rw [e5]; exact below_drewN9 _ _
        have hk9 := T.out.kept hb
        have hbC := hb.mono T.out.base
        have T := Lib.hid (T.out.later hb)
        clear hb e5
        have hb := hbC
        clear hbC
        have HAX := Lib.hid ((hk9.2 AX (.inl rfl)).trans HAX.out)
        have HTW := Lib.hid (HTW.out.block fun g hg => hk9.2 g (.inr hg))
        have BW := Lib.hid (BW.out.trans hb)
        clear hk9 hb x0 x1 x2 x3 x4 x5 x6
        obtain ⟨x0, x1, x2, x3, x4, x5, x6⟩ := actC HAX.out
        go_wp2_with fail
        refine (T.out.keepB (K' := fun _ => False) (by omega) HTW.out.own (by have := HBL.out; omega) (fun g hg => .inr hg) (fun g hg => hg.elim)).mono ?_
        rintro _ y6 ⟨rfl, ht, hk9, hb⟩
        have T := Lib.hid ht
        have BW := Lib.hid (BW.out.trans hb)
        clear ht hk9 hb x0 x1 x2 x3 x4 x5 x6
        go_wp2_with fail
        go_roundw
        case rel => exact ⟨k + 1, D, E, (q + 1) + 1, M, R, by omega, by go_num, rfl, rfl, T, HREL, by omega, by omega, BW⟩
        case measure => simp [intOf]; omega
      | 6, _ => as_aux_lemma =>
        obtain ⟨f9, hf9⟩ := HREL.out
        have HOKR := Lib.hid (hf9.okR T.out.ok)
        obtain ⟨h1, h2⟩ := hf9.sync T.out.ok a.name
        obtain ⟨M', hM⟩ : ∃ M', M' = (M.sync a.name).1 := ⟨_, rfl⟩
        obtain ⟨R', hR⟩ : ∃ R', R' = (R.sync a.name).1 := ⟨_, rfl⟩
        obtain ⟨e, he⟩ : ∃ e, e = (M.sync a.name).2 := ⟨_, rfl⟩
        have HXM := Lib.hid (show M.sync a.name = (M', e) from Prod.ext hM.symm he.symm)
        have HXR := Lib.hid (show R.sync a.name = (R', e) from Prod.ext hR.symm (by rw [he]; first | done | exact h1))
        have HREL := Lib.hid (show ∃ f, Rel M' R' f by rw [hM, hR]; exact h2)
        have hfew2 : R'.rows.length ≤ 64 + (k + 1) := by have h9 := few_sync R a.name; rw [hR]; exact Nat.le_trans h9 (by omega)
        have hfew1 : R.rows.length ≤ 1000000 := by omega
        clear hf9 h1 h2 hM hR he f9 hfew
        go_wp2_with fail
        refine (T.out.actD (x := (M', e)) (fun S hS => by have h9 := Sync_any hS a.name HS1.out; rewrite [HXM.out] at h9; exact h9)).mono ?_
        rintro _ wy ⟨rfl, ht, hk9, hb⟩
        have T := Lib.hid ht
        clear ht
        have HAX := Lib.hid ((hk9.2 AX (.inl rfl)).trans HAX.out)
        have HTW := Lib.hid (HTW.out.block fun g hg => hk9.2 g (.inr hg))
        have BW := Lib.hid (BW.out.trans hb)
        clear hk9 hb x0 x1 x2 x3 x4 x5 x6
        obtain ⟨x0, x1, x2, x3, x4, x5, x6⟩ := actC HAX.out
        go_wp2_with fail
        refine (T.out.actR (x := (R', e)) (fun S hS => by have h9 := RSync_any hS HOKR.out a.name HS1.out hfew1; rewrite [HXR.out] at h9; exact h9)).mono ?_
        rintro _ wz ⟨rfl, ht, hk9, hb⟩
        have T := Lib.hid ht
        clear ht
        have HAX := Lib.hid ((hk9.2 AX (.inl rfl)).trans HAX.out)
        have HTW := Lib.hid (HTW.out.block fun g hg => hk9.2 g (.inr hg))
        have BW := Lib.hid (BW.out.trans hb)
        clear hk9 hb x0 x1 x2 x3 x4 x5 x6
        obtain ⟨x0, x1, x2, x3, x4, x5, x6⟩ := actC HAX.out
        have hfewT : R'.rows.length ≤ 1000000 := by omega
        go_wp2_with fail
        refine (T.out.sizeD a.name HS1.out).mono ?_
        rintro _ y1 ⟨rfl, hb⟩
        have hk9 := T.out.kept hb
        have hbC := hb.mono T.out.base
        have T := Lib.hid (T.out.later hb)
        clear hb
        have hb := hbC
        clear hbC
        have HAX := Lib.hid ((hk9.2 AX (.inl rfl)).trans HAX.out)
        have HTW := Lib.hid (HTW.out.block fun g hg => hk9.2 g (.inr hg))
        have BW := Lib.hid (BW.out.trans hb)
        clear hk9 hb x0 x1 x2 x3 x4 x5 x6
        obtain ⟨x0, x1, x2, x3, x4, x5, x6⟩ := actC HAX.out
        go_wp2_with fail
        refine (T.out.sizeR HREL.out hfewT a.name HS1.out).mono ?_
        rintro _ y2 ⟨rfl, hb⟩
        have hk9 := T.out.kept hb
        have hbC := hb.mono T.out.base
        have T := Lib.hid (T.out.later hb)
        clear hb
        have hb := hbC
        clear hbC
        have HAX := Lib.hid ((hk9.2 AX (.inl rfl)).trans HAX.out)
        have HTW := Lib.hid (HTW.out.block fun g hg => hk9.2 g (.inr hg))
        have BW := Lib.hid (BW.out.trans hb)
        clear hk9 hb x0 x1 x2 x3 x4 x5 x6
        obtain ⟨x0, x1, x2, x3, x4, x5, x6⟩ := actC HAX.out
        go_wp2_with fail
        refine (T.out.leftD).mono ?_
        rintro _ y3 ⟨rfl, hb⟩
        have hk9 := T.out.kept hb
        have hbC := hb.mono T.out.base
        have T := Lib.hid (T.out.later hb)
        clear hb
        have hb := hbC
        clear hbC
        have HAX := Lib.hid ((hk9.2 AX (.inl rfl)).trans HAX.out)
        have HTW := Lib.hid (HTW.out.block fun g hg => hk9.2 g (.inr hg))
        have BW := Lib.hid (BW.out.trans hb)
        clear hk9 hb x0 x1 x2 x3 x4 x5 x6
        obtain ⟨x0, x1, x2, x3, x4, x5, x6⟩ := actC HAX.out
        go_wp2_with fail
        refine (T.out.leftR HREL.out hfewT).mono ?_
        rintro _ y4 ⟨rfl, hb⟩
        have hk9 := T.out.kept hb
        have hbC := hb.mono T.out.base
        have T := Lib.hid (T.out.later hb)
        clear hb
        have hb := hbC
        clear hbC
        have HAX := Lib.hid ((hk9.2 AX (.inl rfl)).trans HAX.out)
        have HTW := Lib.hid (HTW.out.block fun g hg => hk9.2 g (.inr hg))
        have BW := Lib.hid (BW.out.trans hb)
        clear hk9 hb x0 x1 x2 x3 x4 x5 x6
        obtain ⟨x0, x1, x2, x3, x4, x5, x6⟩ := actC HAX.out
        go_wp2_with fail
        refine (LeftB_any y4 HTW.out (HKV.out.later (show Below w.heap.size w _ from by rw [← HC.out]; exact BW.out))).mono ?_
        rintro _ y5 ⟨rfl, n5, e5⟩
        have hb : Below y4.heap.size y4 y5 := by rw [e5]; exact below_drewN9 _ _
        have hk9 := T.out.kept hb
        have hbC := hb.mono T.out.base
        have T := Lib.hid (T.out.later hb)
        clear hb e5
        have hb := hbC
        clear hbC
        have HAX := Lib.hid ((hk9.2 AX (.inl rfl)).trans HAX.out)
        have HTW := Lib.hid (HTW.out.block fun g hg => hk9.2 g (.inr hg))
        have BW := Lib.hid (BW.out.trans hb)
        clear hk9 hb x0 x1 x2 x3 x4 x5 x6
        obtain ⟨x0, x1, x2, x3, x4, x5, x6⟩ := actC HAX.out
        go_wp2_with fail
        refine (T.out.keepB (K' := fun _ => False) (by omega) HTW.out.own (by have := HBL.out; omega) (fun g hg => .inr hg) (fun g hg => hg.elim)).mono ?_
        rintro _ y6 ⟨rfl, ht, hk9, hb⟩
        have T := Lib.hid ht
        have BW := Lib.hid (BW.out.trans hb)
        clear ht hk9 hb x0 x1 x2 x3 x4 x5 x6
        go_wp2_with fail
        go_roundw
        case rel => exact ⟨k + 1, D, E, q + 1, M', R', by omega, by go_num, rfl, rfl, T, HREL, by omega, by omega, BW⟩
        case measure => simp [intOf]; omega
      | 7, _ => as_aux_lemma =>
        obtain ⟨f9, hf9⟩ := HREL.out
        have HOKR := Lib.hid (hf9.okR T.out.ok)
        obtain ⟨h1, h2⟩ := (show (0 : Nat) = 0 ∧ ∃ g, Rel M.names R.names g from ⟨rfl, _, hf9.names⟩)
        obtain ⟨M', hM⟩ : ∃ M', M' = ((M.names, (0 : Nat))).1 := ⟨_, rfl⟩
        obtain ⟨R', hR⟩ : ∃ R', R' = ((R.names, (0 : Nat))).1 := ⟨_, rfl⟩
        obtain ⟨e, he⟩ : ∃ e, e = ((M.names, (0 : Nat))).2 := ⟨_, rfl⟩
        have HXM := Lib.hid (show (M.names, (0 : Nat)) = (M', e) from Prod.ext hM.symm he.symm)
        have HXR := Lib.hid (show (R.names, (0 : Nat)) = (R', e) from Prod.ext hR.symm (by rw [he]; first | done | exact h1))
        have HREL := Lib.hid (show ∃ f, Rel M' R' f by rw [hM, hR]; exact h2)
        have hfew2 : R'.rows.length ≤ 64 + (k + 1) := by have h9 := (show R.names.rows.length ≤ R.rows.length + 1 from Nat.le_succ _); rw [hR]; exact Nat.le_trans h9 (by omega)
        have hfew1 : R.rows.length ≤ 1000000 := by omega
        clear hf9 h1 h2 hM hR he f9 hfew
        go_wp2_with fail
        refine (T.out.actD (x := (M', e)) (fun S hS => by have h9 := Names_any hS; rewrite [HXM.out] at h9; exact h9)).mono ?_
        rintro _ wy ⟨rfl, ht, hk9, hb⟩
        have T := Lib.hid ht
        clear ht
        have HAX := Lib.hid ((hk9.2 AX (.inl rfl)).trans HAX.out)
        have HTW := Lib.hid (HTW.out.block fun g hg => hk9.2 g (.inr hg))
        have BW := Lib.hid (BW.out.trans hb)
        clear hk9 hb x0 x1 x2 x3 x4 x5 x6
        obtain ⟨x0, x1, x2, x3, x4, x5, x6⟩ := actC HAX.out
        go_wp2_with fail
        refine (T.out.actR (x := (R', e)) (fun S hS => by have h9 := RNames_any hS HOKR.out.nl; rewrite [HXR.out] at h9; exact h9)).mono ?_
        rintro _ wz ⟨rfl, ht, hk9, hb⟩
        have T := Lib.hid ht
        clear ht
        have HAX := Lib.hid ((hk9.2 AX (.inl rfl)).trans HAX.out)
        have HTW := Lib.hid (HTW.out.block fun g hg => hk9.2 g (.inr hg))
        have BW := Lib.hid (BW.out.trans hb)
        clear hk9 hb x0 x1 x2 x3 x4 x5 x6
        obtain ⟨x0, x1, x2, x3, x4, x5, x6⟩ := actC HAX.out
        have hfewT : R'.rows.length ≤ 1000000 := by omega
        go_wp2_with fail
        refine (T.out.sizeD a.name HS1.out).mono ?_
        rintro _ y1 ⟨rfl, hb⟩
        have hk9 := T.out.kept hb
        have hbC := hb.mono T.out.base
        have T := Lib.hid (T.out.later hb)
        clear hb
        have hb := hbC
        clear hbC
        have HAX := Lib.hid ((hk9.2 AX (.inl rfl)).trans HAX.out)
        have HTW := Lib.hid (HTW.out.block fun g hg => hk9.2 g (.inr hg))
        have BW := Lib.hid (BW.out.trans hb)
        clear hk9 hb x0 x1 x2 x3 x4 x5 x6
        obtain ⟨x0, x1, x2, x3, x4, x5, x6⟩ := actC HAX.out
        go_wp2_with fail
        refine (T.out.sizeR HREL.out hfewT a.name HS1.out).mono ?_
        rintro _ y2 ⟨rfl, hb⟩
        have hk9 := T.out.kept hb
        have hbC := hb.mono T.out.base
        have T := Lib.hid (T.out.later hb)
        clear hb
        have hb := hbC
        clear hbC
        have HAX := Lib.hid ((hk9.2 AX (.inl rfl)).trans HAX.out)
        have HTW := Lib.hid (HTW.out.block fun g hg => hk9.2 g (.inr hg))
        have BW := Lib.hid (BW.out.trans hb)
        clear hk9 hb x0 x1 x2 x3 x4 x5 x6
        obtain ⟨x0, x1, x2, x3, x4, x5, x6⟩ := actC HAX.out
        go_wp2_with fail
        refine (T.out.leftD).mono ?_
        rintro _ y3 ⟨rfl, hb⟩
        have hk9 := T.out.kept hb
        have hbC := hb.mono T.out.base
        have T := Lib.hid (T.out.later hb)
        clear hb
        have hb := hbC
        clear hbC
        have HAX := Lib.hid ((hk9.2 AX (.inl rfl)).trans HAX.out)
        have HTW := Lib.hid (HTW.out.block fun g hg => hk9.2 g (.inr hg))
        have BW := Lib.hid (BW.out.trans hb)
        clear hk9 hb x0 x1 x2 x3 x4 x5 x6
        obtain ⟨x0, x1, x2, x3, x4, x5, x6⟩ := actC HAX.out
        go_wp2_with fail
        refine (T.out.leftR HREL.out hfewT).mono ?_
        rintro _ y4 ⟨rfl, hb⟩
        have hk9 := T.out.kept hb
        have hbC := hb.mono T.out.base
        have T := Lib.hid (T.out.later hb)
        clear hb
        have hb := hbC
        clear hbC
        have HAX := Lib.hid ((hk9.2 AX (.inl rfl)).trans HAX.out)
        have HTW := Lib.hid (HTW.out.block fun g hg => hk9.2 g (.inr hg))
        have BW := Lib.hid (BW.out.trans hb)
        clear hk9 hb x0 x1 x2 x3 x4 x5 x6
        obtain ⟨x0, x1, x2, x3, x4, x5, x6⟩ := actC HAX.out
        go_wp2_with fail
        refine (LeftB_any y4 HTW.out (HKV.out.later (show Below w.heap.size w _ from by rw [← HC.out]; exact BW.out))).mono ?_
        rintro _ y5 ⟨rfl, n5, e5⟩
        have hb : Below y4.heap.size y4 y5 := by rw [e5]; exact below_drewN9 _ _
        have hk9 := T.out.kept hb
        have hbC := hb.mono T.out.base
        have T := Lib.hid (T.out.later hb)
        clear hb e5
        have hb := hbC
        clear hbC
        have HAX := Lib.hid ((hk9.2 AX (.inl rfl)).trans HAX.out)
        have HTW := Lib.hid (HTW.out.block fun g hg => hk9.2 g (.inr hg))
        have BW := Lib.hid (BW.out.trans hb)
        clear hk9 hb x0 x1 x2 x3 x4 x5 x6
        obtain ⟨x0, x1, x2, x3, x4, x5, x6⟩ := actC HAX.out
        go_wp2_with fail
        refine (T.out.keepB (K' := fun _ => False) (by omega) HTW.out.own (by have := HBL.out; omega) (fun g hg => .inr hg) (fun g hg => hg.elim)).mono ?_
        rintro _ y6 ⟨rfl, ht, hk9, hb⟩
        have T := Lib.hid ht
        have BW := Lib.hid (BW.out.trans hb)
        clear ht hk9 hb x0 x1 x2 x3 x4 x5 x6
        go_wp2_with fail
        go_roundw
        case rel => exact ⟨k + 1, D, E, q + 1, M', R', by omega, by go_num, rfl, rfl, T, HREL, by omega, by omega, BW⟩
        case measure => simp [intOf]; omega
      | 8, _ => as_aux_lemma =>
        have hfewT : R.rows.length ≤ 1000000 := by omega
        by_cases hneg : a.n < 0
        · have HF1 := Lib.hid (fun (W : World) (K9 : Nat → Prop) (M9 : Tri K9 W C D E B q M R) => M9.failD_no a.n a.nm hneg)
          have HF2 := Lib.hid (fun (W : World) => RFail_no (w := W) (D := E) a.n a.nm hneg)
          go_wp2_with fail
          refine (HF1.out _ _ T.out).mono ?_
          rintro _ wy ⟨rfl, hb⟩
          have hk9 := T.out.kept hb
          have hbC := hb.mono T.out.base
          have T := Lib.hid (T.out.later hb)
          clear hb
          have hb := hbC
          clear hbC
          have HAX := Lib.hid ((hk9.2 AX (.inl rfl)).trans HAX.out)
          have HTW := Lib.hid (HTW.out.block fun g hg => hk9.2 g (.inr hg))
          have BW := Lib.hid (BW.out.trans hb)
          clear hk9 hb x0 x1 x2 x3 x4 x5 x6
          obtain ⟨x0, x1, x2, x3, x4, x5, x6⟩ := actC HAX.out
          go_wp2_with fail
          refine (HF2.out _).mono ?_
          rintro _ wz ⟨rfl, hb⟩
          have hk9 := T.out.kept hb
          have hbC := hb.mono T.out.base
          have T := Lib.hid (T.out.later hb)
          clear hb
          have hb := hbC
          clear hbC
          have HAX := Lib.hid ((hk9.2 AX (.inl rfl)).trans HAX.out)
          have HTW := Lib.hid (HTW.out.block fun g hg => hk9.2 g (.inr hg))
          have BW := Lib.hid (BW.out.trans hb)
          clear hk9 hb x0 x1 x2 x3 x4 x5 x6
          obtain ⟨x0, x1, x2, x3, x4, x5, x6⟩ := actC HAX.out
          go_wp2_with fail
          refine (T.out.sizeD a.name HS1.out).mono ?_
          rintro _ y1 ⟨rfl, hb⟩
          have hk9 := T.out.kept hb
          have hbC := hb.mono T.out.base
          have T := Lib.hid (T.out.later hb)
          clear hb
          have hb := hbC
          clear hbC
          have HAX := Lib.hid ((hk9.2 AX (.inl rfl)).trans HAX.out)
          have HTW := Lib.hid (HTW.out.block fun g hg => hk9.2 g (.inr hg))
          have BW := Lib.hid (BW.out.trans hb)
          clear hk9 hb x0 x1 x2 x3 x4 x5 x6
          obtain ⟨x0, x1, x2, x3, x4, x5, x6⟩ := actC HAX.out
          go_wp2_with fail
          refine (T.out.sizeR HREL.out hfewT a.name HS1.out).mono ?_
          rintro _ y2 ⟨rfl, hb⟩
          have hk9 := T.out.kept hb
          have hbC := hb.mono T.out.base
          have T := Lib.hid (T.out.later hb)
          clear hb
          have hb := hbC
          clear hbC
          have HAX := Lib.hid ((hk9.2 AX (.inl rfl)).trans HAX.out)
          have HTW := Lib.hid (HTW.out.block fun g hg => hk9.2 g (.inr hg))
          have BW := Lib.hid (BW.out.trans hb)
          clear hk9 hb x0 x1 x2 x3 x4 x5 x6
          obtain ⟨x0, x1, x2, x3, x4, x5, x6⟩ := actC HAX.out
          go_wp2_with fail
          refine (T.out.leftD).mono ?_
          rintro _ y3 ⟨rfl, hb⟩
          have hk9 := T.out.kept hb
          have hbC := hb.mono T.out.base
          have T := Lib.hid (T.out.later hb)
          clear hb
          have hb := hbC
          clear hbC
          have HAX := Lib.hid ((hk9.2 AX (.inl rfl)).trans HAX.out)
          have HTW := Lib.hid (HTW.out.block fun g hg => hk9.2 g (.inr hg))
          have BW := Lib.hid (BW.out.trans hb)
          clear hk9 hb x0 x1 x2 x3 x4 x5 x6
          obtain ⟨x0, x1, x2, x3, x4, x5, x6⟩ := actC HAX.out
          go_wp2_with fail
          refine (T.out.leftR HREL.out hfewT).mono ?_
          rintro _ y4 ⟨rfl, hb⟩
          have hk9 := T.out.kept hb
          have hbC := hb.mono T.out.base
          have T := Lib.hid (T.out.later hb)
          clear hb
          have hb := hbC
          clear hbC
          have HAX := Lib.hid ((hk9.2 AX (.inl rfl)).trans HAX.out)
          have HTW := Lib.hid (HTW.out.block fun g hg => hk9.2 g (.inr hg))
          have BW := Lib.hid (BW.out.trans hb)
          clear hk9 hb x0 x1 x2 x3 x4 x5 x6
          obtain ⟨x0, x1, x2, x3, x4, x5, x6⟩ := actC HAX.out
          go_wp2_with fail
          refine (LeftB_any y4 HTW.out (HKV.out.later (show Below w.heap.size w _ from by rw [← HC.out]; exact BW.out))).mono ?_
          rintro _ y5 ⟨rfl, n5, e5⟩
          have hb : Below y4.heap.size y4 y5 := by rw [e5]; exact below_drewN9 _ _
          have hk9 := T.out.kept hb
          have hbC := hb.mono T.out.base
          have T := Lib.hid (T.out.later hb)
          clear hb e5
          have hb := hbC
          clear hbC
          have HAX := Lib.hid ((hk9.2 AX (.inl rfl)).trans HAX.out)
          have HTW := Lib.hid (HTW.out.block fun g hg => hk9.2 g (.inr hg))
          have BW := Lib.hid (BW.out.trans hb)
          clear hk9 hb x0 x1 x2 x3 x4 x5 x6
          obtain ⟨x0, x1, x2, x3, x4, x5, x6⟩ := actC HAX.out
          go_wp2_with fail
          refine (T.out.keepB (K' := fun _ => False) (by omega) HTW.out.own (by have := HBL.out; omega) (fun g hg => .inr hg) (fun g hg => hg.elim)).mono ?_
          rintro _ y6 ⟨rfl, ht, hk9, hb⟩
          have T := Lib.hid ht
          have BW := Lib.hid (BW.out.trans hb)
          clear ht hk9 hb x0 x1 x2 x3 x4 x5 x6
          go_wp2_with fail
          go_roundw
          case rel => exact ⟨k + 1, D, E, q + 1, M, R, by omega, by go_num, rfl, rfl, T, HREL, by omega, by omega, BW⟩
          case measure => simp [intOf]; omega
        · obtain ⟨kp, hkp⟩ : ∃ kp : Nat, a.n = kp := ⟨a.n.toNat, by omega⟩
          have hkp9 : kp ≤ 9223372036854775807 := by have := HNN.out; omega
          rw [hkp] at x5 HAX
          obtain ⟨f9, hf9⟩ := HREL.out
          have HRELF := Lib.hid (hf9.fail T.out.ok kp a.nm)
          have HOKR := Lib.hid (hf9.okR T.out.ok)
          have hfewF : (R.fail kp a.nm).rows.length ≤ 64 := few_fail HOKR.out kp a.nm
          clear hf9 f9
          go_wp2_with fail
          refine (T.out.failD kp a.nm hkp9).mono ?_
          rintro _ wy ⟨X9, rfl, hd9, hb1⟩
          have HD9 := Lib.hid hd9
          have HB9 := Lib.hid hb1
          have hk9 := T.out.kept hb1
          have T1 := Lib.hid (T.out.later hb1)
          have hb := hb1.mono T.out.base
          clear hd9 hb1
          have HAX := Lib.hid ((hk9.2 AX (.inl rfl)).trans HAX.out)
          have HTW := Lib.hid (HTW.out.block fun g hg => hk9.2 g (.inr hg))
          have BW := Lib.hid (BW.out.trans hb)
          clear hk9 hb x0 x1 x2 x3 x4 x5 x6
          obtain ⟨x0, x1, x2, x3, x4, x5, x6⟩ := actC HAX.out
          go_wp2_with fail
          refine (T1.out.failR HOKR.out kp a.nm hkp9 hfewT).mono ?_
          rintro _ wz ⟨rfl, ⟨S', hr9⟩, hb1⟩
          have T2 := Lib.hid (T.out.fresh HD9.out HB9.out hr9 hb1)
          have hk9 := T1.out.kept hb1
          have T := Lib.hid (T1.out.later hb1)
          have hb := hb1.mono T1.out.base
          obtain ⟨Y9, hY9⟩ : ∃ Y9, Y9 = wy.heap.size := ⟨_, rfl⟩
          rw [← hY9] at T2 ⊢
          clear hr9 hb1 T1 HD9 HB9 hY9
          have HAX := Lib.hid ((hk9.2 AX (.inl rfl)).trans HAX.out)
          have HTW := Lib.hid (HTW.out.block fun g hg => hk9.2 g (.inr hg))
          have BW := Lib.hid (BW.out.trans hb)
          clear hk9 hb x0 x1 x2 x3 x4 x5 x6
          obtain ⟨x0, x1, x2, x3, x4, x5, x6⟩ := actC HAX.out
          go_wp2_with fail
          refine (T2.out.same HRELF.out (by omega)).mono ?_
          rintro _ wv ⟨rfl, hb1⟩
          have hk9 := T.out.kept hb1
          have hb := hb1.mono T.out.base
          have T := Lib.hid (T.out.later hb1)
          have T2 := Lib.hid (T2.out.later hb1)
          clear hb1
          have HAX := Lib.hid ((hk9.2 AX (.inl rfl)).trans HAX.out)
          have HTW := Lib.hid (HTW.out.block fun g hg => hk9.2 g (.inr hg))
          have BW := Lib.hid (BW.out.trans hb)
          clear hk9 hb x0 x1 x2 x3 x4 x5 x6
          obtain ⟨x0, x1, x2, x3, x4, x5, x6⟩ := actC HAX.out
          have T := T2
          have HREL := HRELF
          have hfewT : (R.fail kp a.nm).rows.length ≤ 1000000 := by omega
          clear T2 HRELF
          go_wp2_with fail
          refine (T.out.sizeD a.name HS1.out).mono ?_
          rintro _ y1 ⟨rfl, hb⟩
          have hk9 := T.out.kept hb
          have hbC := hb.mono T.out.base
          have T := Lib.hid (T.out.later hb)
          clear hb
          have hb := hbC
          clear hbC
          have HAX := Lib.hid ((hk9.2 AX (.inl rfl)).trans HAX.out)
          have HTW := Lib.hid (HTW.out.block fun g hg => hk9.2 g (.inr hg))
          have BW := Lib.hid (BW.out.trans hb)
          clear hk9 hb x0 x1 x2 x3 x4 x5 x6
          obtain ⟨x0, x1, x2, x3, x4, x5, x6⟩ := actC HAX.out
          go_wp2_with fail
          refine (T.out.sizeR HREL.out hfewT a.name HS1.out).mono ?_
          rintro _ y2 ⟨rfl, hb⟩
          have hk9 := T.out.kept hb
          have hbC := hb.mono T.out.base
          have T := Lib.hid (T.out.later hb)
          clear hb
          have hb := hbC
          clear hbC
          have HAX := Lib.hid ((hk9.2 AX (.inl rfl)).trans HAX.out)
          have HTW := Lib.hid (HTW.out.block fun g hg => hk9.2 g (.inr hg))
          have BW := Lib.hid (BW.out.trans hb)
          clear hk9 hb x0 x1 x2 x3 x4 x5 x6
          obtain ⟨x0, x1, x2, x3, x4, x5, x6⟩ := actC HAX.out
          go_wp2_with fail
          refine (T.out.leftD).mono ?_
          rintro _ y3 ⟨rfl, hb⟩
          have hk9 := T.out.kept hb
          have hbC := hb.mono T.out.base
          have T := Lib.hid (T.out.later hb)
          clear hb
          have hb := hbC
          clear hbC
          have HAX := Lib.hid ((hk9.2 AX (.inl rfl)).trans HAX.out)
          have HTW := Lib.hid (HTW.out.block fun g hg => hk9.2 g (.inr hg))
          have BW := Lib.hid (BW.out.trans hb)
          clear hk9 hb x0 x1 x2 x3 x4 x5 x6
          obtain ⟨x0, x1, x2, x3, x4, x5, x6⟩ := actC HAX.out
          go_wp2_with fail
          refine (T.out.leftR HREL.out hfewT).mono ?_
          rintro _ y4 ⟨rfl, hb⟩
          have hk9 := T.out.kept hb
          have hbC := hb.mono T.out.base
          have T := Lib.hid (T.out.later hb)
          clear hb
          have hb := hbC
          clear hbC
          have HAX := Lib.hid ((hk9.2 AX (.inl rfl)).trans HAX.out)
          have HTW := Lib.hid (HTW.out.block fun g hg => hk9.2 g (.inr hg))
          have BW := Lib.hid (BW.out.trans hb)
          clear hk9 hb x0 x1 x2 x3 x4 x5 x6
          obtain ⟨x0, x1, x2, x3, x4, x5, x6⟩ := actC HAX.out
          go_wp2_with fail
          refine (LeftB_any y4 HTW.out (HKV.out.later (show Below w.heap.size w _ from by rw [← HC.out]; exact BW.out))).mono ?_
          rintro _ y5 ⟨rfl, n5, e5⟩
          have hb : Below y4.heap.size y4 y5 := by rw [e5]; exact below_drewN9 _ _
          have hk9 := T.out.kept hb
          have hbC := hb.mono T.out.base
          have T := Lib.hid (T.out.later hb)
          clear hb e5
          have hb := hbC
          clear hbC
          have HAX := Lib.hid ((hk9.2 AX (.inl rfl)).trans HAX.out)
          have HTW := Lib.hid (HTW.out.block fun g hg => hk9.2 g (.inr hg))
          have BW := Lib.hid (BW.out.trans hb)
          clear hk9 hb x0 x1 x2 x3 x4 x5 x6
          obtain ⟨x0, x1, x2, x3, x4, x5, x6⟩ := actC HAX.out
          go_wp2_with fail
          refine (T.out.keepB (K' := fun _ => False) (by omega) HTW.out.own (by have := HBL.out; omega) (fun g hg => .inr hg) (fun g hg => hg.elim)).mono ?_
          rintro _ y6 ⟨rfl, ht, hk9, hb⟩
          have T := Lib.hid ht
          have BW := Lib.hid (BW.out.trans hb)
          clear ht hk9 hb x0 x1 x2 x3 x4 x5 x6
          go_wp2_with fail
          go_roundw
          case rel => exact ⟨k + 1, X9, Y9, q + 1, (M.fail kp a.nm), (R.fail kp a.nm), by omega, by go_num, rfl, rfl, T, HREL, by omega, by omega, BW⟩
          case measure => simp [intOf]; omega
      | 9, _ => as_aux_lemma =>
        have hfewT : R.rows.length ≤ 1000000 := by omega
        by_cases hneg : a.n < 0
        · have HF1 := Lib.hid (fun (W : World) (K9 : Nat → Prop) (M9 : Tri K9 W C D E B q M R) => M9.failD_no a.n a.nm hneg)
          have HF2 := Lib.hid (fun (W : World) => RFail_no (w := W) (D := E) a.n a.nm hneg)
          go_wp2_with fail
          refine (HF1.out _ _ T.out).mono ?_
          rintro _ wy ⟨rfl, hb⟩
          have hk9 := T.out.kept hb
          have hbC := hb.mono T.out.base
          have T := Lib.hid (T.out.later hb)
          clear hb
          have hb := hbC
          clear hbC
          have HAX := Lib.hid ((hk9.2 AX (.inl rfl)).trans HAX.out)
          have HTW := Lib.hid (HTW.out.block fun g hg => hk9.2 g (.inr hg))
          have BW := Lib.hid (BW.out.trans hb)
          clear hk9 hb x0 x1 x2 x3 x4 x5 x6
          obtain ⟨x0, x1, x2, x3, x4, x5, x6⟩ := actC HAX.out
          go_wp2_with fail
          refine (HF2.out _).mono ?_
          rintro _ wz ⟨rfl, hb⟩
          have hk9 := T.out.kept hb
          have hbC := hb.mono T.out.base
          have T := Lib.hid (T.out.later hb)
          clear hb
          have hb := hbC
          clear hbC
          have HAX := Lib.hid ((hk9.2 AX (.inl rfl)).trans HAX.out)
          have HTW := Lib.hid (HTW.out.block fun g hg => hk9.2 g (.inr hg))
          have BW := Lib.hid (BW.out.trans hb)
          clear hk9 hb x0 x1 x2 x3 x4 x5 x6
          obtain ⟨x0, x1, x2, x3, x4, x5, x6⟩ := actC HAX.out
          go_wp2_with fail
          refine (T.out.sizeD a.name HS1.out).mono ?_
          rintro _ y1 ⟨rfl, hb⟩
          have hk9 := T.out.kept hb
          have hbC := hb.mono T.out.base
          have T := Lib.hid (T.out.later hb)
          clear hb
          have hb := hbC
          clear hbC
          have HAX := Lib.hid ((hk9.2 AX (.inl rfl)).trans HAX.out)
          have HTW := Lib.hid (HTW.out.block fun g hg => hk9.2 g (.inr hg))
          have BW := Lib.hid (BW.out.trans hb)
          clear hk9 hb x0 x1 x2 x3 x4 x5 x6
          obtain ⟨x0, x1, x2, x3, x4, x5, x6⟩ := actC HAX.out
          go_wp2_with fail
          refine (T.out.sizeR HREL.out hfewT a.name HS1.out).mono ?_
          rintro _ y2 ⟨rfl, hb⟩
          have hk9 := T.out.kept hb
          have hbC := hb.mono T.out.base
          have T := Lib.hid (T.out.later hb)
          clear hb
          have hb := hbC
          clear hbC
          have HAX := Lib.hid ((hk9.2 AX (.inl rfl)).trans HAX.out)
          have HTW := Lib.hid (HTW.out.block fun g hg => hk9.2 g (.inr hg))
          have BW := Lib.hid (BW.out.trans hb)
          clear hk9 hb x0 x1 x2 x3 x4 x5 x6
          obtain ⟨x0, x1, x2, x3, x4, x5, x6⟩ := actC HAX.out
          go_wp2_with fail
          refine (T.out.leftD).mono ?_
          rintro _ y3 ⟨rfl, hb⟩
          have hk9 := T.out.kept hb
          have hbC := hb.mono T.out.base
          have T := Lib.hid (T.out.later hb)
          clear hb
          have hb := hbC
          clear hbC
          have HAX := Lib.hid ((hk9.2 AX (.inl rfl)).trans HAX.out)
          have HTW := Lib.hid (HTW.out.block fun g hg => hk9.2 g (.inr hg))
          have BW := Lib.hid (BW.out.trans hb)
          clear hk9 hb x0 x1 x2 x3 x4 x5 x6
          obtain ⟨x0, x1, x2, x3, x4, x5, x6⟩ := actC HAX.out
          go_wp2_with fail
          refine (T.out.leftR HREL.out hfewT).mono ?_
          rintro _ y4 ⟨rfl, hb⟩
          have hk9 := T.out.kept hb
          have hbC := hb.mono T.out.base
          have T := Lib.hid (T.out.later hb)
          clear hb
          have hb := hbC
          clear hbC
          have HAX := Lib.hid ((hk9.2 AX (.inl rfl)).trans HAX.out)
          have HTW := Lib.hid (HTW.out.block fun g hg => hk9.2 g (.inr hg))
          have BW := Lib.hid (BW.out.trans hb)
          clear hk9 hb x0 x1 x2 x3 x4 x5 x6
          obtain ⟨x0, x1, x2, x3, x4, x5, x6⟩ := actC HAX.out
          go_wp2_with fail
          refine (LeftB_any y4 HTW.out (HKV.out.later (show Below w.heap.size w _ from by rw [← HC.out]; exact BW.out))).mono ?_
          rintro _ y5 ⟨rfl, n5, e5⟩
          have hb : Below y4.heap.size y4 y5 := by rw [e5]; exact below_drewN9 _ _
          have hk9 := T.out.kept hb
          have hbC := hb.mono T.out.base
          have T := Lib.hid (T.out.later hb)
          clear hb e5
          have hb := hbC
          clear hbC
          have HAX := Lib.hid ((hk9.2 AX (.inl rfl)).trans HAX.out)
          have HTW := Lib.hid (HTW.out.block fun g hg => hk9.2 g (.inr hg))
          have BW := Lib.hid (BW.out.trans hb)
          clear hk9 hb x0 x1 x2 x3 x4 x5 x6
          obtain ⟨x0, x1, x2, x3, x4, x5, x6⟩ := actC HAX.out
          go_wp2_with fail
          refine (T.out.keepB (K' := fun _ => False) (by omega) HTW.out.own (by have := HBL.out; omega) (fun g hg => .inr hg) (fun g hg => hg.elim)).mono ?_
          rintro _ y6 ⟨rfl, ht, hk9, hb⟩
          have T := Lib.hid ht
          have BW := Lib.hid (BW.out.trans hb)
          clear ht hk9 hb x0 x1 x2 x3 x4 x5 x6
          go_wp2_with fail
          go_roundw
          case rel => exact ⟨k + 1, D, E, q + 1, M, R, by omega, by go_num, rfl, rfl, T, HREL, by omega, by omega, BW⟩
          case measure => simp [intOf]; omega
        · obtain ⟨kp, hkp⟩ : ∃ kp : Nat, a.n = kp := ⟨a.n.toNat, by omega⟩
          have hkp9 : kp ≤ 9223372036854775807 := by have := HNN.out; omega
          rw [hkp] at x5 HAX
          obtain ⟨f9, hf9⟩ := HREL.out
          have HRELF := Lib.hid (hf9.fail T.out.ok kp a.nm)
          have HOKR := Lib.hid (hf9.okR T.out.ok)
          have hfewF : (R.fail kp a.nm).rows.length ≤ 64 := few_fail HOKR.out kp a.nm
          clear hf9 f9
          go_wp2_with fail
          refine (T.out.failD kp a.nm hkp9).mono ?_
          rintro _ wy ⟨X9, rfl, hd9, hb1⟩
          have HD9 := Lib.hid hd9
          have HB9 := Lib.hid hb1
          have hk9 := T.out.kept hb1
          have T1 := Lib.hid (T.out.later hb1)
          have hb := hb1.mono T.out.base
          clear hd9 hb1
          have HAX := Lib.hid ((hk9.2 AX (.inl rfl)).trans HAX.out)
          have HTW := Lib.hid (HTW.out.block fun g hg => hk9.2 g (.inr hg))
          have BW := Lib.hid (BW.out.trans hb)
          clear hk9 hb x0 x1 x2 x3 x4 x5 x6
          obtain ⟨x0, x1, x2, x3, x4, x5, x6⟩ := actC HAX.out
          go_wp2_with fail
          refine (T1.out.failR HOKR.out kp a.nm hkp9 hfewT).mono ?_
          rintro _ wz ⟨rfl, ⟨S', hr9⟩, hb1⟩
          have T2 := Lib.hid (T.out.fresh HD9.out HB9.out hr9 hb1)
          have hk9 := T1.out.kept hb1
          have T := Lib.hid (T1.out.later hb1)
          have hb := hb1.mono T1.out.base
          obtain ⟨Y9, hY9⟩ : ∃ Y9, Y9 = wy.heap.size := ⟨_, rfl⟩
          rw [← hY9] at T2 ⊢
          clear hr9 hb1 T1 HD9 HB9 hY9
          have HAX := Lib.hid ((hk9.2 AX (.inl rfl)).trans HAX.out)
          have HTW := Lib.hid (HTW.out.block fun g hg => hk9.2 g (.inr hg))
          have BW := Lib.hid (BW.out.trans hb)
          clear hk9 hb x0 x1 x2 x3 x4 x5 x6
          obtain ⟨x0, x1, x2, x3, x4, x5, x6⟩ := actC HAX.out
          go_wp2_with fail
          refine (T2.out.same HRELF.out (by omega)).mono ?_
          rintro _ wv ⟨rfl, hb1⟩
          have hk9 := T.out.kept hb1
          have hb := hb1.mono T.out.base
          have T := Lib.hid (T.out.later hb1)
          have T2 := Lib.hid (T2.out.later hb1)
          clear hb1
          have HAX := Lib.hid ((hk9.2 AX (.inl rfl)).trans HAX.out)
          have HTW := Lib.hid (HTW.out.block fun g hg => hk9.2 g (.inr hg))
          have BW := Lib.hid (BW.out.trans hb)
          clear hk9 hb x0 x1 x2 x3 x4 x5 x6
          obtain ⟨x0, x1, x2, x3, x4, x5, x6⟩ := actC HAX.out
          clear T2 HRELF
          go_wp2_with fail
          refine (T.out.sizeD a.name HS1.out).mono ?_
          rintro _ y1 ⟨rfl, hb⟩
          have hk9 := T.out.kept hb
          have hbC := hb.mono T.out.base
          have T := Lib.hid (T.out.later hb)
          clear hb
          have hb := hbC
          clear hbC
          have HAX := Lib.hid ((hk9.2 AX (.inl rfl)).trans HAX.out)
          have HTW := Lib.hid (HTW.out.block fun g hg => hk9.2 g (.inr hg))
          have BW := Lib.hid (BW.out.trans hb)
          clear hk9 hb x0 x1 x2 x3 x4 x5 x6
          obtain ⟨x0, x1, x2, x3, x4, x5, x6⟩ := actC HAX.out
          go_wp2_with fail
          refine (T.out.sizeR HREL.out hfewT a.name HS1.out).mono ?_
          rintro _ y2 ⟨rfl, hb⟩
          have hk9 := T.out.kept hb
          have hbC := hb.mono T.out.base
          have T := Lib.hid (T.out.later hb)
          clear hb
          have hb := hbC
          clear hbC
          have HAX := Lib.hid ((hk9.2 AX (.inl rfl)).trans HAX.out)
          have HTW := Lib.hid (HTW.out.block fun g hg => hk9.2 g (.inr hg))
          have BW := Lib.hid (BW.out.trans hb)
          clear hk9 hb x0 x1 x2 x3 x4 x5 x6
          obtain ⟨x0, x1, x2, x3, x4, x5, x6⟩ := actC HAX.out
          go_wp2_with fail
          refine (T.out.leftD).mono ?_
          rintro _ y3 ⟨rfl, hb⟩
          have hk9 := T.out.kept hb
          have hbC := hb.mono T.out.base
          have T := Lib.hid (T.out.later hb)
          clear hb
          have hb := hbC
          clear hbC
          have HAX := Lib.hid ((hk9.2 AX (.inl rfl)).trans HAX.out)
          have HTW := Lib.hid (HTW.out.block fun g hg => hk9.2 g (.inr hg))
          have BW := Lib.hid (BW.out.trans hb)
          clear hk9 hb x0 x1 x2 x3 x4 x5 x6
          obtain ⟨x0, x1, x2, x3, x4, x5, x6⟩ := actC HAX.out
          go_wp2_with fail
          refine (T.out.leftR HREL.out hfewT).mono ?_
          rintro _ y4 ⟨rfl, hb⟩
          have hk9 := T.out.kept hb
          have hbC := hb.mono T.out.base
          have T := Lib.hid (T.out.later hb)
          clear hb
          have hb := hbC
          clear hbC
          have HAX := Lib.hid ((hk9.2 AX (.inl rfl)).trans HAX.out)
          have HTW := Lib.hid (HTW.out.block fun g hg => hk9.2 g (.inr hg))
          have BW := Lib.hid (BW.out.trans hb)
          clear hk9 hb x0 x1 x2 x3 x4 x5 x6
          obtain ⟨x0, x1, x2, x3, x4, x5, x6⟩ := actC HAX.out
          go_wp2_with fail
          refine (LeftB_any y4 HTW.out (HKV.out.later (show Below w.heap.size w _ from by rw [← HC.out]; exact BW.out))).mono ?_
          rintro _ y5 ⟨rfl, n5, e5⟩
          have hb : Below y4.heap.size y4 y5 := by rw [e5]; exact below_drewN9 _ _
          have hk9 := T.out.kept hb
          have hbC := hb.mono T.out.base
          have T := Lib.hid (T.out.later hb)
          clear hb e5
          have hb := hbC
          clear hbC
          have HAX := Lib.hid ((hk9.2 AX (.inl rfl)).trans HAX.out)
          have HTW := Lib.hid (HTW.out.block fun g hg => hk9.2 g (.inr hg))
          have BW := Lib.hid (BW.out.trans hb)
          clear hk9 hb x0 x1 x2 x3 x4 x5 x6
          obtain ⟨x0, x1, x2, x3, x4, x5, x6⟩ := actC HAX.out
          go_wp2_with fail
          refine (T.out.keepB (K' := fun _ => False) (by omega) HTW.out.own (by have := HBL.out; omega) (fun g hg => .inr hg) (fun g hg => hg.elim)).mono ?_
          rintro _ y6 ⟨rfl, ht, hk9, hb⟩
          have T := Lib.hid ht
          have BW := Lib.hid (BW.out.trans hb)
          clear ht hk9 hb x0 x1 x2 x3 x4 x5 x6
          go_wp2_with fail
          go_roundw
          case rel => exact ⟨k + 1, D, E, q + 1, M, R, by omega, by go_num, rfl, rfl, T, HREL, by omega, by omega, BW⟩
          case measure => simp [intOf]; omega
      | r + 10, h => omega
    · obtain rfl : k = m := by omega
      have hfewT : R.rows.length ≤ 1000000 := by omega
      go_wp2_with fail
      refine (T.out.same HREL.out hfewT).mono ?_
      rintro _ y1 ⟨rfl, hb⟩
      have BW := Lib.hid (BW.out.trans (hb.mono T.out.base))
      have T := Lib.hid (T.out.later hb)
      clear hb
      go_wp2_with fail
      refine (T.out.apart (by omega)).mono ?_
      rintro _ y2 ⟨rfl, hb⟩
      have BW := Lib.hid (BW.out.trans hb)
      clear hb
      go_wp2_with fail
      go_ret
      exact ⟨rfl, by rw [← HC.out]; exact BW.out⟩
end Go.Proofs.YtidhlbhfhfonoaaGreatDoor
