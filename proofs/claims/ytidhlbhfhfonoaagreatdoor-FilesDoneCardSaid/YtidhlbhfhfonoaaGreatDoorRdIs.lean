/- Layer 17's reference: where a name stands; a name's place, or why there is none. -/
import Derived.Test.YtidhlbhfhfonoaaGreatDoorRdName
import Derived.Test.YtidhlbhfhfonoaaGreatDoorRdAt
namespace Go.Proofs.YtidhlbhfhfonoaaGreatDoor
open Go.ChangeShapes Go.WideShapes Go.ChangeAt Go.RowKit
theorem now_cells {w : World} {base : Nat} {nv : Value} {l : List (ByteArray × Nat)} (h : OwnV w base 120 2 nv l.length (pairs8 l)) : ∃ a c, nv = .slice a l.length c ∧ ∀ (i : Nat) (p : ByteArray × Nat), l[i]? = some p → ∃ g o, a = some ⟨g, o, none⟩ ∧ w.cell? ⟨g, o + i * 2, none⟩ = some (.string p.1) ∧ w.cell? ⟨g, o + i * 2 + 1, none⟩ = some (.int .i64 p.2) := by
  obtain ⟨a, c, hv⟩ := h.sl
  refine ⟨a, c, hv, fun i p hp => ?_⟩
  have hi := (List.getElem?_eq_some_iff.1 hp).1
  rw [hv] at h
  have h' := h
  rcases h'.2 with ⟨h2, h3⟩ | ⟨g, o, cap, cur, h3, _⟩
  · omega
  · cases h3
    obtain ⟨g1, g2⟩ := pairs8_get hp
    have c1 := OwnV.cells h _ _ g1
    have c2 := OwnV.cells h _ _ g2
    rw [Addr.add_lit] at c1 c2
    exact ⟨g, o, rfl, c1, by rw [Nat.add_assoc]; exact c2⟩
theorem place_first {l : List (ByteArray × Nat)} {s : ByteArray} {k : Nat} (h : ∀ j p, j < k → l[j]? = some p → p.1 ≠ s) (hk : k ≤ l.length) (he : k = l.length ∨ ∃ x, l[k]? = some (s, x)) : place l s = k := by
  unfold place
  rcases he with rfl | ⟨x, hx⟩
  · rw [List.findIdx_eq_length]
    intro p hp
    obtain ⟨j, hj⟩ := List.mem_iff_getElem?.1 hp
    exact decide_eq_false (h j p (List.getElem?_eq_some_iff.1 hj).1 hj)
  · obtain ⟨hl, e⟩ := List.getElem?_eq_some_iff.1 hx
    rw [List.findIdx_eq hl]
    refine ⟨decide_eq_true (by rw [e]), fun j hj => decide_eq_false ?_⟩
    exact h j _ hj (List.getElem?_eq_getElem (by omega))
set_option linter.unusedSimpArgs false in
set_option linter.unusedVariables false in
set_option maxRecDepth 20000 in
set_option maxHeartbeats 1500000 in
theorem Rplace_any {w : World} {base D : Nat} {R : Rf} {rv mv nv sv : Value} (h : RdAt w base D R rv mv nv sv) (s : ByteArray) (hn : R.now.length ≤ 1000) :
    Calls Tryz.prog 112 #[.pointer (some ⟨D, 0, none⟩), .string s] w fun e w' => e = .returned (.int .i64 (place R.now s)) ∧ Below w.heap.size w w' := by
  obtain ⟨a, c, hv, hc⟩ := now_cells h.now
  obtain ⟨_, _, _, c3, _⟩ := h.field
  obtain ⟨m, hm⟩ : ∃ m, m = R.now.length := ⟨_, rfl⟩
  have HM := Lib.hid hm
  rw [hv, ← hm] at c3
  have HC := Lib.hid hc
  have hmI : (m : Int) ≤ 1000 := by omega
  have HP := Lib.hid (fun (k : Nat) => place_first (l := R.now) (s := s) (k := k))
  clear hm hv hc hn h
  go_enter Tryz.func112, Tryz.ntmps112
  go_wp2_with fail
  go_loopw [5] (fun i wr => ∃ k : Nat, k ≤ m ∧ i = .int .i64 k ∧ Hid (∀ j p, j < k → R.now[j]? = some p → p.1 ≠ s) ∧ ∃ n, wr = w.drewN n) (fun i _ => m - (intOf i).toNat)
  case atStart => exact ⟨0, Nat.zero_le _, rfl, Lib.hid fun j p hj => absurd hj (Nat.not_lt_zero _), 0, rfl⟩
  case round =>
    obtain ⟨k, hk, rfl, HA, n, rfl⟩ := hrel
    by_cases hlt : k < m
    · have hltI : (k : Int) < (m : Int) := by omega
      obtain ⟨p, hp⟩ : ∃ p, R.now[k]? = some p := ⟨_, List.getElem?_eq_getElem (by rw [← HM.out]; exact hlt)⟩
      obtain ⟨g, o, rfl, k1, _⟩ := HC.out k p hp
      have HPP := Lib.hid hp
      clear hp
      by_cases he : p.1 = s
      · have hs1 : (p.1.toList == s.toList) = true := by rw [list_eq_str]; exact decide_eq_true he
        have HE := Lib.hid (HP.out k HA.out (by rw [← HM.out]; omega) (.inr ⟨p.2, by rw [HPP.out, ← he]⟩))
        clear he
        go_wp2_with fail
        go_ret
        exact ⟨by rw [HE.out]; rfl, below_drewN9 _ _⟩
      · have hs1 := str_ne he
        have HE := Lib.hid he
        clear he
        go_wp2_with fail
        go_roundw
        case rel => exact ⟨k + 1, by omega, by go_num, Lib.hid fun j q hj hq => by
          by_cases e : j = k
          · subst e; rw [HPP.out] at hq; cases hq; exact HE.out
          · exact HA.out j q (by omega) hq, _, rfl⟩
        case measure => simp [intOf]; omega
    · obtain rfl : k = m := by omega
      have HE := Lib.hid (HP.out k HA.out (by rw [← HM.out]; omega) (.inl HM.out))
      go_wp2_with fail
      go_ret
      exact ⟨by rw [HE.out]; rfl, below_drewN9 _ _⟩
set_option linter.unusedSimpArgs false in
set_option linter.unusedVariables false in
set_option maxRecDepth 20000 in
set_option maxHeartbeats 1500000 in
theorem Ris_any {w : World} {base D : Nat} {R : Rf} {rv mv nv sv : Value} (h : RdAt w base D R rv mv nv sv) (s : ByteArray) (hs : s.size ≤ 140737488355328) (hn : R.now.length ≤ 1000) :
    Calls Tryz.prog 50 #[.pointer (some ⟨D, 0, none⟩), .string s] w fun e w' => e = .returned (.tuple #[.int .i64 (R.is s).1, .int .i64 (R.is s).2]) ∧ Below w.heap.size w w' := by
  have HN := Lib.hid (RName_any s hs w)
  have HP := Lib.hid (fun (w1 : World) (hb : Below w.heap.size w w1) => Rplace_any (h.later hb) s hn)
  obtain ⟨a, c, hv, _⟩ := now_cells h.now
  obtain ⟨_, _, _, c3, _⟩ := h.field
  rw [hv] at c3
  have C3 := Lib.hid (fun w1 (hb : Below w.heap.size w w1) => cell_on c3 hb)
  obtain ⟨m, hm⟩ : ∃ m, m = R.now.length := ⟨_, rfl⟩
  obtain ⟨q, hq⟩ : ∃ q, q = place R.now s := ⟨_, rfl⟩
  have hle : q ≤ m := by rw [hq, hm]; exact List.findIdx_le_length
  rw [← hm] at C3 hn
  rw [← hq] at HP
  have hmI : (m : Int) ≤ 1000 := by omega
  obtain ⟨z, hz⟩ : ∃ z, z = R.is s := ⟨_, rfl⟩
  have HZ := Lib.hid (show z = if nameOk s then (if q = m then (0, 7) else (q, 0)) else (0, 1) by rw [hz, hq, hm]; rfl)
  rw [← hz]
  clear h hv c3 hm hq hz
  obtain ⟨b, hb⟩ : ∃ b, b = nameOk s := ⟨_, rfl⟩
  rw [← hb] at HN HZ
  clear hb
  go_enter Tryz.func50, Tryz.ntmps50
  go_wp2_with fail
  refine HN.out.mono ?_
  rintro _ w1 ⟨rfl, hb⟩
  have HB := Lib.hid hb
  clear hb
  cases b with
  | false =>
    have HZ2 := Lib.hid (show z = (0, 1) from HZ.out)
    go_wp2_with fail
    go_ret2
    exact ⟨by rw [HZ2.out]; rfl, HB.out⟩
  | true =>
    go_wp2_with fail
    refine (HP.out w1 HB.out).mono ?_
    rintro _ w2 ⟨rfl, hb⟩
    have HB2 := Lib.hid (below_on HB.out hb)
    have c3 := C3.out w2 HB2.out
    clear hb
    by_cases e : q = m
    · have HZ2 := Lib.hid (show z = (0, 7) by rw [HZ.out]; exact if_pos e)
      subst e
      go_wp2_with fail
      go_ret2
      exact ⟨by rw [HZ2.out]; rfl, HB2.out⟩
    · have HZ2 := Lib.hid (show z = (q, 0) by rw [HZ.out]; exact if_neg e)
      have e9 : ((q : Int) == (m : Int)) = false := by simp; omega
      go_wp2_with fail
      go_ret2
      exact ⟨by rw [HZ2.out]; rfl, HB2.out⟩
end Go.Proofs.YtidhlbhfhfonoaaGreatDoor
