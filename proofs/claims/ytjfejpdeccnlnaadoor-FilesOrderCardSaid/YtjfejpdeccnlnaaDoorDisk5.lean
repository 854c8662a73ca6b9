/- Layer 17 (files): Create, Remove, Rename, Sync, Names. -/
import Derived.Test.YtjfejpdeccnlnaaDoorDisk4
namespace Go.Proofs.YtjfejpdeccnlnaaDoor
open Go.ChangeShapes Go.WideShapes Go.ChangeAt Go.RowKit

/-- The end of a call that writes: the disk as it is then, and what has turned. -/
theorem dn_of {w w' : World} {base D : Nat} {M M' : Dm} {S : Nat → Prop} {rb : Nat → Nat} {rv : Nat → Value} (hd : Dk w base D M S) (h' : DiskAt w' base D M' rb rv) (hc : Chg w w' S) (hf : ∀ g, Foot D M' rb rv g → S g ∨ w.heap.size ≤ g) : Dn w w' base D M' S := by
  have hB := hd.base
  have h3 := hd.2
  have hs := hc.size
  refine ⟨⟨⟨rb, rv, h', fun g hg => ?_⟩, fun g hg => ?_⟩, hc⟩
  · rcases hf g hg with e | e
    · exact .inl e
    · exact .inr ⟨e, (h'.foot g hg).2⟩
  · rcases hg with hg | hg
    · have := h3 g hg; omega
    · omega
abbrev Errs (w : World) (base D : Nat) (S : Nat → Prop) (x : Dm × Nat) (e : Ending) (w' : World) : Prop := e = .returned (.int .i64 x.2) ∧ Dn w w' base D x.1 S
/-- The hash of the ways: what finds does not find. -/
theorem foot_newRow {D : Nat} {M : Dm} {rb : Nat → Nat} {rv : Nat → Value} {n g : Nat} (hg : Foot D { M with rows := M.rows ++ [⟨[], 0⟩] } (fun k => if k = M.rows.length then n else rb k) (fun k => if k = M.rows.length then .slice none 0 0 else rv k) g) : Foot D M rb rv g ∨ g = n := by
  rcases hg with rfl | ⟨k, hk, hg⟩
  · exact .inl (.inl rfl)
  · have hk' : k < M.rows.length + 1 := by simpa using hk
    by_cases hkl : k = M.rows.length
    · subst hkl
      simp [Value.ownBlock] at hg
      exact .inr hg
    · simp only [if_neg hkl] at hg
      exact .inl (.inr ⟨k, by omega, hg⟩)
set_option maxRecDepth 20000 in
set_option maxHeartbeats 1500000 in
theorem Create_any {w : World} {base D : Nat} {M : Dm} {S : Nat → Prop} (hd : Dk w base D M S) (s : ByteArray) (hs : s.size ≤ 140737488355328) :
    Calls Tryd.prog 26 #[.pointer (some ⟨D, 0, none⟩), .string s] w (Errs w base D S (M.create s)) := by
  have HD := Lib.hid hd
  obtain ⟨⟨rb, rv, h, hS⟩, _⟩ := hd
  have HG := Lib.hid (goes_any w D M.size h.size h.ok.size.1 true s hs)
  have HA := Lib.hid (fun (z : ByteArray) (w1 : World) (hb : Below w.heap.size w w1) => at_any w1 D 1 M.now rb (h.later hb).now h.ok.nl z)
  have H := Lib.hid h
  have HS := Lib.hid hS
  by_cases hok : nameOk s = true
  · rw [if_pos (by simpa using hok)] at HG
    have HN := Lib.hid hok
    cases hf : find M.now noName with
    | none =>
      have A1 := Lib.hid (HA.out noName)
      rw [spot_none hf] at A1
      cases hz : find M.now s with
      | some i =>
        rw [show M.create s = (M, 8) by simp [Dm.create, hok, hz]]
        have A2 := Lib.hid (HA.out s)
        rw [spot_some hz] at A2
        clear h hS hok hf hz HA
        go_enter Tryd.func26, Tryd.ntmps26
        go_wp2_with fail
        refine HG.out.mono ?_
        rintro _ w1 ⟨rfl, hb⟩
        have HB := Lib.hid hb
        clear hb
        go_wp2_with fail
        refine (A1.out w1 HB.out).mono ?_
        rintro _ w2 ⟨rfl, hb⟩
        have HB2 := Lib.hid (below_on HB.out hb)
        clear hb
        go_wp2_with fail
        refine (A2.out w2 HB2.out).mono ?_
        rintro _ w3 ⟨rfl, hb⟩
        have HB3 := Lib.hid (below_on HB2.out hb)
        clear hb
        go_wp2_with fail
        go_ret
        exact ⟨rfl, HD.out.looked HB3.out⟩
      | none =>
        rw [show M.create s = (M, 6) by simp [Dm.create, hok, hz, hf]]
        have A2 := Lib.hid (HA.out s)
        rw [spot_none hz] at A2
        clear h hS hok hf hz HA
        go_enter Tryd.func26, Tryd.ntmps26
        go_wp2_with fail
        refine HG.out.mono ?_
        rintro _ w1 ⟨rfl, hb⟩
        have HB := Lib.hid hb
        clear hb
        go_wp2_with fail
        refine (A1.out w1 HB.out).mono ?_
        rintro _ w2 ⟨rfl, hb⟩
        have HB2 := Lib.hid (below_on HB.out hb)
        clear hb
        go_wp2_with fail
        refine (A2.out w2 HB2.out).mono ?_
        rintro _ w3 ⟨rfl, hb⟩
        have HB3 := Lib.hid (below_on HB2.out hb)
        clear hb
        go_wp2_with fail
        go_ret
        exact ⟨rfl, HD.out.looked HB3.out⟩
    | some i =>
      have A1 := Lib.hid (HA.out noName)
      rw [spot_some hf] at A1
      have hi64 : i < 64 := by obtain ⟨_, _, h2⟩ := find_get hf; have := h.ok.nl; omega
      have hi : (i : Int) < 64 := by omega
      cases hz : find M.now s with
      | some j =>
        rw [show M.create s = (M, 8) by simp [Dm.create, hok, hz]]
        have A2 := Lib.hid (HA.out s)
        rw [spot_some hz] at A2
        clear h hS hok hf hz HA
        go_enter Tryd.func26, Tryd.ntmps26
        go_wp2_with fail
        refine HG.out.mono ?_
        rintro _ w1 ⟨rfl, hb⟩
        have HB := Lib.hid hb
        clear hb
        go_wp2_with fail
        refine (A1.out w1 HB.out).mono ?_
        rintro _ w2 ⟨rfl, hb⟩
        have HB2 := Lib.hid (below_on HB.out hb)
        clear hb
        go_wp2_with fail
        refine (A2.out w2 HB2.out).mono ?_
        rintro _ w3 ⟨rfl, hb⟩
        have HB3 := Lib.hid (below_on HB2.out hb)
        clear hb
        go_wp2_with fail
        go_ret
        exact ⟨rfl, HD.out.looked HB3.out⟩
      | none =>
        rw [show M.create s = ({ M with now := M.now.set i ⟨s, some M.rows.length⟩, rows := M.rows ++ [⟨[], 0⟩] }, 0) by simp [Dm.create, hok, hz, hf]]
        have A2 := Lib.hid (HA.out s)
        rw [spot_none hz] at A2
        have HOK := Lib.hid (h.ok.create hok hz i)
        obtain ⟨q, hq⟩ : ∃ q, M.now[i]? = some q := ⟨_, List.getElem?_eq_getElem (by have := h.ok.nl; omega)⟩
        have C1 := Lib.hid (h.place hq)
        clear h hS hok hf hz HA hq
        go_enter Tryd.func26, Tryd.ntmps26
        go_wp2_with fail
        refine HG.out.mono ?_
        rintro _ w1 ⟨rfl, hb⟩
        have HB := Lib.hid hb
        clear hb
        go_wp2_with fail
        refine (A1.out w1 HB.out).mono ?_
        rintro _ w2 ⟨rfl, hb⟩
        have HB2 := Lib.hid (below_on HB.out hb)
        clear hb
        go_wp2_with fail
        refine (A2.out w2 HB2.out).mono ?_
        rintro _ w3 ⟨rfl, hb⟩
        have HB3 := Lib.hid (below_on HB2.out hb)
        clear hb
        have H3 := H.out.later HB3.out
        have hD3 := (H3.foot D (.inl rfl)).2
        have f1 := H3.free (1 + i * 2)
        have f2 := H3.free (1 + i * 2 + 1)
        have c1 := cell_on C1.out.1 HB3.out
        have c2 := cell_on C1.out.2 HB3.out
        have HH := Lib.hid H3.newRow
        clear H3 C1
        go_wp2_with fail
        go_ret
        refine ⟨rfl, ?_⟩
        have e : ((w3.setCell ⟨D, 1 + i * 2, none⟩ (.string s)).setCell ⟨D, 1 + i * 2 + 1, none⟩ (.pointer (some ⟨w3.heap.size, 0, none⟩))).alloc (.cells #[.slice none 0 0, .int .i64 0] 85) = ((w3.alloc (.cells #[.slice none 0 0, .int .i64 0] 85)).setCell ⟨D, 1 + i * 2, none⟩ (.string s)).setCell ⟨D, 1 + i * 2 + 1, none⟩ (.pointer (some ⟨w3.heap.size, 0, none⟩)) := by
          rw [World.setCell_alloc_past _ _ _ _ hD3, World.setCell_alloc_past _ _ _ _ (by simpa using hD3)]
        rw [e]
        exact dn_of HD.out (HH.out.put (p := ⟨s, some M.rows.length⟩) hi64 HOK.out (by simp [ptrOf])) ((((Chg.of_below HB3.out S).alloc _).setCell (.inl (HS.out D (.inl rfl))) _).setCell (.inl (HS.out D (.inl rfl))) _)
          (fun g hg => by
            rcases foot_newRow (show Foot D { M with rows := M.rows ++ [⟨[], 0⟩] } _ _ g from hg) with hg | rfl
            · exact .inl (HS.out g hg)
            · exact .inr HB3.out.size)
  · rw [if_neg (by simpa using hok)] at HG
    rw [show M.create s = (M, 1) by simp [Dm.create, hok]]
    clear h hS hok HA
    go_enter Tryd.func26, Tryd.ntmps26
    go_wp2_with fail
    refine HG.out.mono ?_
    rintro _ w1 ⟨rfl, hb⟩
    have HB := Lib.hid hb
    clear hb
    go_wp2_with fail
    go_ret
    exact ⟨rfl, HD.out.looked HB.out⟩
theorem str_ne {a b : ByteArray} (h : a ≠ b) : (a.toList == b.toList) = false := by rw [list_eq_str, decide_eq_false h]
set_option maxRecDepth 20000 in
set_option maxHeartbeats 1500000 in
theorem Rename_any {w : World} {base D : Nat} {M : Dm} {S : Nat → Prop} (hd : Dk w base D M S) (s z : ByteArray) (hs : s.size ≤ 140737488355328) (hz : z.size ≤ 140737488355328) :
    Calls Tryd.prog 43 #[.pointer (some ⟨D, 0, none⟩), .string s, .string z] w (Errs w base D S (M.rename s z)) := by
  have HD := Lib.hid hd
  obtain ⟨⟨rb, rv, h, hS⟩, _⟩ := hd
  have HG := Lib.hid (goes_any w D M.size h.size h.ok.size.1 true z hz)
  have H := Lib.hid h
  have HS := Lib.hid hS
  by_cases hok : nameOk z = true
  · rw [if_pos (by simpa using hok)] at HG
    rcases M.ways s with ⟨hoks, i, hf⟩ | hno
    · obtain ⟨k, r, h1, h2, hi64, h4, h5⟩ := h.ok.found hoks hf
      have HF := Lib.hid (fun (w1 : World) (hb : Below w.heap.size w w1) => finds_yes (h.later hb) s hs hoks i hf)
      by_cases hsz : s = z
      · subst hsz
        rw [show M.rename s s = (M, 0) by simp [Dm.rename, hok, Dm.at_yes hoks hf]]
        clear h hS hok hf hoks h1 h2 h4 h5
        go_enter Tryd.func43, Tryd.ntmps43
        go_wp2_with fail
        refine HG.out.mono ?_
        rintro _ w1 ⟨rfl, hb⟩
        have HB := Lib.hid hb
        clear hb
        go_wp2_with fail
        refine (HF.out w1 HB.out).mono ?_
        rintro _ w2 ⟨rfl, hb⟩
        have HB2 := Lib.hid (below_on HB.out hb)
        clear hb
        go_wp2_with fail
        go_ret
        exact ⟨rfl, HD.out.looked HB2.out⟩
      · have hne := str_ne hsz
        have hren : M.rename s z = ({ M with now := (freed M.now z).set i ⟨z, some k⟩ }, 0) := by simp [Dm.rename, hok, Dm.at_yes hoks hf, hsz, List.getD, h1]
        have HOK := Lib.hid (h.ok.rename (f := some k) hok h1 hoks)
        have HA := Lib.hid (fun (w1 : World) (hb : Below w.heap.size w w1) => at_any w1 D 1 M.now rb (h.later hb).now h.ok.nl z)
        have C1 := Lib.hid (h.place h1)
        have HI := Lib.hid h1
        cases hfz : find M.now z with
        | none =>
          rw [spot_none hfz] at HA
          have hfr : freed M.now z = M.now := by simp [freed, hfz]
          rw [hfr] at hren HOK
          rw [hren]
          clear h hS hok hf hoks h1 h2 h4 h5 hsz hren hfz hfr
          go_enter Tryd.func43, Tryd.ntmps43
          go_wp2_with fail
          refine HG.out.mono ?_
          rintro _ w1 ⟨rfl, hb⟩
          have HB := Lib.hid hb
          clear hb
          go_wp2_with fail
          refine (HF.out w1 HB.out).mono ?_
          rintro _ w2 ⟨rfl, hb⟩
          have HB2 := Lib.hid (below_on HB.out hb)
          clear hb
          go_wp2_with fail
          refine (HA.out w2 HB2.out).mono ?_
          rintro _ w3 ⟨rfl, hb⟩
          have HB3 := Lib.hid (below_on HB2.out hb)
          clear hb
          have H3 := H.out.later HB3.out
          have f1 := H3.free (1 + i * 2)
          have c1 := cell_on C1.out.1 HB3.out
          have HH := Lib.hid H3
          clear H3 C1
          go_wp2_with fail
          go_ret
          exact ⟨rfl, dn_of HD.out (HH.out.name HI.out HOK.out) ((Chg.of_below HB3.out S).setCell (.inl (HS.out D (.inl rfl))) _) (fun g hg => .inl (HS.out g hg))⟩
        | some j =>
          rw [spot_some hfz] at HA
          have hfr : freed M.now z = M.now.set j free := by simp [freed, hfz]
          rw [hfr] at hren HOK
          rw [hren]
          obtain ⟨fz, hj, hj2⟩ := find_get hfz
          have hj64 : j < 64 := by have := h.ok.nl; omega
          have hjI : (j : Int) < 64 := by omega
          have hij : j ≠ i := by
            rintro rfl
            rw [h1] at hj
            exact hsz (by cases hj; rfl)
          have C2 := Lib.hid (h.place hj)
          have HI2 := Lib.hid (show (M.now.set j free)[i]? = some ⟨s, some k⟩ by rw [List.getElem?_set_ne hij]; exact h1)
          have hij2 : 1 + i * 2 ≠ 1 + j * 2 := by omega
          have hij3 : 1 + i * 2 ≠ 1 + j * 2 + 1 := by omega
          clear h hS hok hf hoks h1 h2 h4 h5 hsz hren hfz hfr hj hj2
          go_enter Tryd.func43, Tryd.ntmps43
          go_wp2_with fail
          refine HG.out.mono ?_
          rintro _ w1 ⟨rfl, hb⟩
          have HB := Lib.hid hb
          clear hb
          go_wp2_with fail
          refine (HF.out w1 HB.out).mono ?_
          rintro _ w2 ⟨rfl, hb⟩
          have HB2 := Lib.hid (below_on HB.out hb)
          clear hb
          go_wp2_with fail
          refine (HA.out w2 HB2.out).mono ?_
          rintro _ w3 ⟨rfl, hb⟩
          have HB3 := Lib.hid (below_on HB2.out hb)
          clear hb
          have H3 := H.out.later HB3.out
          have f1 := H3.free (1 + i * 2)
          have f2 := H3.free (1 + j * 2)
          have f3 := H3.free (1 + j * 2 + 1)
          have c1 := cell_on C1.out.1 HB3.out
          have c2 := cell_on C2.out.1 HB3.out
          have c3 := cell_on C2.out.2 HB3.out
          have HH := Lib.hid H3
          clear H3 C1 C2
          go_wp2_with fail
          go_ret
          exact ⟨rfl, dn_of HD.out ((HH.out.put hj64 (HH.out.ok.remove j) rfl).name HI2.out HOK.out) ((((Chg.of_below HB3.out S).setCell (.inl (HS.out D (.inl rfl))) _).setCell (.inl (HS.out D (.inl rfl))) _).setCell (.inl (HS.out D (.inl rfl))) _) (fun g hg => .inl (HS.out g hg))⟩
    · rw [show M.rename s z = (M, M.why true s) by simp [Dm.rename, hok, Dm.at_no hno]]
      have HF := Lib.hid (fun (w1 : World) (hb : Below w.heap.size w w1) => finds_no (h.later hb) true s hs hno)
      obtain ⟨e, he⟩ : ∃ e, M.why true s = e := ⟨_, rfl⟩
      rw [he] at HF hno ⊢
      have hn : ((e : Int) != 0) = true := by simp; omega
      clear h he hS hok
      go_enter Tryd.func43, Tryd.ntmps43
      go_wp2_with fail
      refine HG.out.mono ?_
      rintro _ w1 ⟨rfl, hb⟩
      have HB := Lib.hid hb
      clear hb
      go_wp2_with fail
      refine (HF.out w1 HB.out).mono ?_
      rintro _ w2 ⟨rfl, hb⟩
      have HB2 := Lib.hid (below_on HB.out hb)
      clear hb
      go_wp2_with fail
      go_ret
      exact ⟨rfl, HD.out.looked HB2.out⟩
  · rw [if_neg (by simpa using hok)] at HG
    rw [show M.rename s z = (M, 1) by simp [Dm.rename, hok]]
    clear h hS hok
    go_enter Tryd.func43, Tryd.ntmps43
    go_wp2_with fail
    refine HG.out.mono ?_
    rintro _ w1 ⟨rfl, hb⟩
    have HB := Lib.hid hb
    clear hb
    go_wp2_with fail
    go_ret
    exact ⟨rfl, HD.out.looked HB.out⟩
end Go.Proofs.YtjfejpdeccnlnaaDoor
