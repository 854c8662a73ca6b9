/- Layer 17's reference: List -/
import Derived.Test.YtidhlbhfhfonoaaGreatDoorJZXG11
import Derived.Test.YtidhlbhfhfonoaaGreatDoorJZXG33
import Derived.Sort.Walk0
namespace Go.Proofs.YtidhlbhfhfonoaaGreatDoor
open Go.ChangeShapes Go.WideShapes Go.ChangeAt Go.RowKit
def lenS (v : Value) : Nat := match v with
  | .slice _ n _ => n
  | _ => 0
theorem less_eq (a b : ByteArray) : Op.bytesLess a.toList b.toList = decide (key8 a < key8 b) := by rw [bytesLess_eq, ByteArray.toList_eq, ByteArray.toList_eq]
set_option linter.unusedSimpArgs false in
set_option linter.unusedVariables false in
set_option maxRecDepth 20000 in
set_option maxHeartbeats 1500000 in
theorem RList_any {w : World} {base D : Nat} {R : Rf} {rv mv nv sv : Value} (h : RdAt w base D R rv mv nv sv) (ok : RfOk R) :
    Calls Tryz.prog 57 #[.pointer (some ⟨D, 0, none⟩)] w fun e w' => ∃ v, e = .returned v ∧ OwnS w' w.heap.size v (ordB (R.now.map Prod.fst)) ∧ Below w.heap.size w w' := by
  obtain ⟨a3, c3, v3, k3⟩ := now_cells h.now
  obtain ⟨_, _, _, f3, _⟩ := h.field
  obtain ⟨names, hnm⟩ : ∃ names, names = R.now.map Prod.fst := ⟨_, rfl⟩
  obtain ⟨m, hm⟩ : ∃ m, m = R.now.length := ⟨_, rfl⟩
  obtain ⟨T, hT⟩ : ∃ T, T = ordB names := ⟨_, rfl⟩
  have hTl : T.length = m := by rw [hT, (ordB_perm names).length_eq, hnm, List.length_map, hm]
  have hnl : names.length = m := by rw [hnm, List.length_map, hm]
  have NEXT := Lib.hid (show ∀ k s, T[k]? = some s → leastB (if k = 0 then noName else T.getD (k - 1) noName) names = s from fun k s hk => by
    rw [hT] at hk ⊢
    exact least_next (by rw [hnm]; exact ok.nd) (by rw [hnm]; exact ok.no0) hk)
  have LATER := Lib.hid (fun (w1 : World) (hb : Below w.heap.size w w1) => cell_on f3 hb)
  rw [v3, ← hm] at LATER
  have K3 := Lib.hid (show ∀ w1 : World, Below w.heap.size w w1 → ∀ i s, names[i]? = some s → ∃ g o, a3 = some ⟨g, o, none⟩ ∧ w1.cell? ⟨g, o + i * 2, none⟩ = some (.string s) from fun w1 hb i s hs => by
    rw [hnm, List.getElem?_map] at hs
    obtain ⟨p, hp, rfl⟩ := Option.map_eq_some_iff.1 hs
    obtain ⟨g, o, h1, h2, _⟩ := k3 i p hp
    exact ⟨g, o, h1, cell_on h2 hb⟩)
  obtain ⟨i0, hi0, hz0, hz1, hz2⟩ := info_parts infoS
  have HI := Lib.hid hi0
  rw [← hnm, ← hT]
  have nl := ok.nl
  have mI : (m : Int) ≤ 64 := by omega
  have HTL := Lib.hid hTl
  have HNL := Lib.hid hnl
  obtain ⟨C, hC⟩ : ∃ C, C = w.heap.size := ⟨_, rfl⟩
  have HC := Lib.hid hC
  rw [← hC] at LATER K3 ⊢
  clear h ok f3 v3 k3 hnm hm hT hTl hnl hi0 hC nl
  go_enter Tryz.func57, Tryz.ntmps57
  go_wp2_with fail
  go_loopw [3, 4] (fun v y wr => ∃ (k : Nat), k ≤ m ∧ OwnV wr C 9 1 v k (strs (T.take k)) ∧ Hid (y = .string (if k = 0 then noName else T.getD (k - 1) noName)) ∧ Below C w wr) (fun v _ _ => m - lenS v)
  case atStart => exact ⟨0, Nat.zero_le _, ⟨rfl, .inl ⟨rfl, rfl⟩⟩, Lib.hid rfl, Below.refl _ _⟩
  case round =>
    obtain ⟨k, hk, ho, HY, hb⟩ := hrel
    obtain ⟨a, c, rfl⟩ := ho.sl
    have HO := Lib.hid ho
    have HB := Lib.hid hb
    have yy := HY.out
    obtain ⟨last, hlast⟩ : ∃ last, last = (if k = 0 then noName else T.getD (k - 1) noName) := ⟨_, rfl⟩
    rw [← hlast] at yy HY
    subst yy
    have f3 := LATER.out wr hb
    have HLAST := Lib.hid hlast
    clear ho hb hlast
    by_cases hlt : k < m
    · have hltI : (k : Int) < (m : Int) := by omega
      obtain ⟨s, hs⟩ : ∃ s, T[k]? = some s := ⟨_, List.getElem?_eq_getElem (by rw [HTL.out]; exact hlt)⟩
      have HS := Lib.hid hs
      have HN := Lib.hid (show leastB last names = s by rw [HLAST.out]; exact NEXT.out k s hs)
      clear hs
      go_wp2_with fail
      go_loopw [5, 6] (fun v i wr2 => ∃ (q n : Nat), q ≤ m ∧ i = .int .i64 q ∧ Hid (v = .string (leastB last (names.take q))) ∧ wr2 = wr.drewN n) (fun _ i _ => m - (intOf i).toNat)
      case atStart => exact ⟨0, 0, Nat.zero_le _, rfl, Lib.hid rfl, rfl⟩
      case round =>
        obtain ⟨q, n, hq, rfl, HV, rfl⟩ := hrel
        obtain ⟨u, hu⟩ : ∃ u, u = leastB last (names.take q) := ⟨_, rfl⟩
        have HU := Lib.hid hu
        have hv := HV.out
        rw [← hu] at hv HV
        subst hv
        clear hu
        by_cases hql : q < m
        · have hqI : (q : Int) < (m : Int) := by omega
          obtain ⟨x, hx⟩ : ∃ x, names[q]? = some x := ⟨_, List.getElem?_eq_getElem (by rw [HNL.out]; exact hql)⟩
          obtain ⟨g, o, rfl, e3⟩ := K3.out wr HB.out q x hx
          have HT := Lib.hid (show leastB last (names.take (q + 1)) = pickB last u x by rw [leastB_take hx, ← HU.out])
          clear hx
          have HPP := Lib.hid (show ∀ b1 : Bool, b1 = decide (key8 last < key8 x) → ∀ b3 : Bool, b3 = decide (key8 x < key8 u) → pickB last u x = if b1 = true ∧ (u = noName ∨ b3 = true) then x else u from fun b1 h1 b3 h3 => by
            unfold pickB
            rw [h1, h3]
            simp)
          obtain ⟨b1, hb1⟩ : ∃ b, b = decide (key8 last < key8 x) := ⟨_, rfl⟩
          obtain ⟨b3, hb3⟩ : ∃ b, b = decide (key8 x < key8 u) := ⟨_, rfl⟩
          have HPK := Lib.hid (HPP.out b1 hb1 b3 hb3)
          have L3 := less_eq x u
          rw [← hb3] at L3
          have L1 : (b1 = true ∧ Op.bytesLess x.toList last.toList = false ∧ (x.toList == last.toList) = false) ∨ (b1 = false ∧ x = last) ∨ (b1 = false ∧ Op.bytesLess x.toList last.toList = true) := by
            rw [less_eq, list_eq_str, hb1]
            by_cases h1 : key8 last < key8 x
            · refine .inl ⟨decide_eq_true h1, decide_eq_false fun h => List.lt_irrefl _ (List.lt_trans h h1), decide_eq_false fun e => ?_⟩
              subst e
              exact List.lt_irrefl _ h1
            · by_cases h2 : x = last
              · exact .inr (.inl ⟨decide_eq_false h1, h2⟩)
              · refine .inr (.inr ⟨decide_eq_false h1, decide_eq_true ?_⟩)
                exact List.not_le.1 fun h => h2 (key8_inj (List.le_antisymm (List.not_lt.1 h1) h))
          clear hb1 hb3 HPP
          have hfin : ∀ y : ByteArray, pickB last u x = y → Hid (Value.string y = .string (leastB last (names.take (q + 1)))) := fun y hy => Lib.hid (by rw [HT.out, hy])
          have HFIN := Lib.hid hfin
          clear hfin
          by_cases hu0 : u = noName
          · subst hu0
            rcases L1 with ⟨rfl, l1, l2⟩ | ⟨rfl, rfl⟩ | ⟨rfl, l1⟩
            · go_wp2_with fail
              exact ⟨⟨q + 1, n, by omega, by go_num, HFIN.out _ (by rw [HPK.out]; simp), rfl⟩, by simp [intOf]; omega⟩
            · go_wp2_with fail
              exact ⟨⟨q + 1, n, by omega, by go_num, HFIN.out _ (by rw [HPK.out]; simp), rfl⟩, by simp [intOf]; omega⟩
            · go_wp2_with fail
              exact ⟨⟨q + 1, n, by omega, by go_num, HFIN.out _ (by rw [HPK.out]; simp), rfl⟩, by simp [intOf]; omega⟩
          · obtain ⟨n1, n2⟩ := ne_nil hu0
            have HU0 := Lib.hid hu0
            clear hu0
            rcases L1 with ⟨rfl, l1, l2⟩ | ⟨rfl, rfl⟩ | ⟨rfl, l1⟩
            · cases b3
              · go_wp2_with fail
                exact ⟨⟨q + 1, n, by omega, by go_num, HFIN.out _ (by rw [HPK.out]; simp [HU0.out]), rfl⟩, by simp [intOf]; omega⟩
              · go_wp2_with fail
                exact ⟨⟨q + 1, n, by omega, by go_num, HFIN.out _ (by rw [HPK.out]; simp [HU0.out]), rfl⟩, by simp [intOf]; omega⟩
            · go_wp2_with fail
              exact ⟨⟨q + 1, n, by omega, by go_num, HFIN.out _ (by rw [HPK.out]; simp), rfl⟩, by simp [intOf]; omega⟩
            · go_wp2_with fail
              exact ⟨⟨q + 1, n, by omega, by go_num, HFIN.out _ (by rw [HPK.out]; simp), rfl⟩, by simp [intOf]; omega⟩
        · obtain rfl : q = m := by omega
          have HE := Lib.hid (show u = s by rw [← HN.out, HU.out, ← HNL.out, List.take_length])
          have hes := HE.out
          subst hes
          clear HE
          have HO2 := Lib.hid (fun (w2 : World) (hb : Below wr.heap.size wr w2) => OwnV.later HO.out hb)
          have HSRC := Lib.hid (fun w2 : World => src_val w2 (.string u) rfl 9)
          have hbs : C ≤ wr.heap.size := by rw [HC.out]; exact HB.out.size
          clear HV HU
          go_wp2_with (at_builtin; refine wpList_append_W rfl _ _ 93 rfl C 9 i0 (.string ⟨#[]⟩) 1 16 Tryz.underlying93 HI.out hz0 hz1 hz2 rfl (.slice a k c) k (strs (T.take k)) rfl (HO2.out _ ((below_drewN9 wr n).alloc (Nat.le_refl _) _)) (.slice (some ⟨(wr.drewN n).heap.size, 0, none⟩) 1 1) 1 [.string u] rfl (HSRC.out _) (by unfold maxLen; omega) (by omega) (by simp; omega) ?_; intro v3 w3 ho3 hg3 hl3; obtain ⟨a4, c4, rfl⟩ := ho3.sl; have HO3 := Lib.hid ho3; have HG3 := Lib.hid hg3; clear ho3 hg3 hl3)
          have HBW := Lib.hid (show Below C w w3 from (((HB.out.trans ((below_drewN9 wr n).mono hbs)).alloc (by simp; omega) _).grown HG3.out (by simp; omega) (fun g hg => (OwnV.lt HO.out g hg).1)))
          have HTK := Lib.hid (show strs (T.take k) ++ [.string u] = strs (T.take (k + 1)) by rw [List.take_add_one, HS.out, strs_append]; rfl)
          have HO4 := Lib.hid (HTK.out ▸ HO3.out)
          have HU := Lib.hid (show u = if k + 1 = 0 then noName else T.getD (k + 1 - 1) noName by rw [if_neg (by omega), Nat.add_sub_cancel, List.getD_eq_getElem?_getD, HS.out]; rfl)
          go_wp2_with fail
          go_roundw
          case rel => exact ⟨k + 1, by omega, HO4.out, Lib.hid (by rw [← HU.out]), HBW.out⟩
          case measure => simp [lenS]; omega
    · obtain rfl : k = m := by omega
      have HO5 := Lib.hid (show OwnS wr C (.slice a k c) T by
        have h9 := HO.out
        rw [List.take_of_length_le (by rw [HTL.out]; exact Nat.le_refl _)] at h9
        unfold OwnS
        rw [HTL.out]
        exact h9)
      go_wp2_with fail
      go_ret
      exact ⟨_, rfl, HO5.out, HB.out⟩
end Go.Proofs.YtidhlbhfhfonoaaGreatDoor
