/- Layer 17's reference: Size, Left, Read. -/
import Derived.Test.YtidhlbhfhfonoaaGreatDoorRdIs
namespace Go.Proofs.YtidhlbhfhfonoaaGreatDoor
open Go.ChangeShapes Go.WideShapes Go.ChangeAt Go.RowKit
theorem rows_cells {w : World} {base : Nat} {rv : Value} {l : List ByteArray} (h : OwnV w base 9 1 rv l.length (strs l)) : ∃ a c, rv = .slice a l.length c ∧ ∀ (i : Nat) (b : ByteArray), l[i]? = some b → ∃ g o, a = some ⟨g, o, none⟩ ∧ w.cell? ⟨g, o + i, none⟩ = some (.string b) := by
  obtain ⟨a, c, hv⟩ := h.sl
  refine ⟨a, c, hv, fun i b hb => ?_⟩
  have hi := (List.getElem?_eq_some_iff.1 hb).1
  rw [hv] at h
  have h' := h
  rcases h'.2 with ⟨h2, h3⟩ | ⟨g, o, cap, cur, h3, _⟩
  · omega
  · cases h3
    have c1 := OwnV.cells h i (.string b) (by rw [strs_get, hb]; rfl)
    rw [Addr.add_lit] at c1
    exact ⟨g, o, rfl, c1⟩
theorem marks_cells {w : World} {base : Nat} {mv : Value} {l : List Nat} (h : OwnV w base 3 1 mv l.length (cellsK .i64 l)) : ∃ a c, mv = .slice a l.length c ∧ ∀ (i m : Nat), l[i]? = some m → ∃ g o, a = some ⟨g, o, none⟩ ∧ w.cell? ⟨g, o + i, none⟩ = some (.int .i64 m) := by
  obtain ⟨a, c, hv⟩ := h.sl
  refine ⟨a, c, hv, fun i m hm => ?_⟩
  have hi := (List.getElem?_eq_some_iff.1 hm).1
  rw [hv] at h
  have h' := h
  rcases h'.2 with ⟨h2, h3⟩ | ⟨g, o, cap, cur, h3, _⟩
  · omega
  · cases h3
    have c1 := OwnV.cells h i (.int .i64 m) (by rw [cellsK_get, hm]; rfl)
    rw [Addr.add_lit] at c1
    exact ⟨g, o, rfl, c1⟩
/-- What is looked at of a name that is there. -/
structure SeatAt (w : World) (D j k n m q : Nat) (b : ByteArray) (g1 o1 c1 g2 o2 c2 g3 o3 c3 : Nat) : Prop where
  f1 : w.cell? ⟨D, 1, none⟩ = some (.slice (some ⟨g1, o1, none⟩) n c1)
  f2 : w.cell? ⟨D, 2, none⟩ = some (.slice (some ⟨g2, o2, none⟩) n c2)
  f3 : w.cell? ⟨D, 3, none⟩ = some (.slice (some ⟨g3, o3, none⟩) m c3)
  e1 : w.cell? ⟨g1, o1 + k, none⟩ = some (.string b)
  e2 : w.cell? ⟨g2, o2 + k, none⟩ = some (.int .i64 q)
  e3 : w.cell? ⟨g3, o3 + j * 2 + 1, none⟩ = some (.int .i64 k)
theorem SeatAt.later {w w' : World} {D j k n m q : Nat} {b : ByteArray} {g1 o1 c1 g2 o2 c2 g3 o3 c3 : Nat} (h : SeatAt w D j k n m q b g1 o1 c1 g2 o2 c2 g3 o3 c3) (hb : Below w.heap.size w w') : SeatAt w' D j k n m q b g1 o1 c1 g2 o2 c2 g3 o3 c3 :=
  ⟨cell_on h.f1 hb, cell_on h.f2 hb, cell_on h.f3 hb, cell_on h.e1 hb, cell_on h.e2 hb, cell_on h.e3 hb⟩
theorem RdAt.seat {w : World} {base D : Nat} {R : Rf} {rv mv nv sv : Value} (h : RdAt w base D R rv mv nv sv) (ok : RfOk R) {s : ByteArray} (hs : (R.is s).2 = 0) :
    ∃ j k q b g1 o1 c1 g2 o2 c2 g3 o3 c3, R.is s = (j, 0) ∧ j < R.now.length ∧ k < R.rows.length ∧ R.row j = k ∧ R.text j = b ∧ b.size ≤ 1048576 ∧ q ≤ b.size ∧ R.rows[k]? = some b ∧ R.marks[k]? = some q ∧ SeatAt w D j k R.rows.length R.now.length q b g1 o1 c1 g2 o2 c2 g3 o3 c3 ∧
      rv = .slice (some ⟨g1, o1, none⟩) R.rows.length c1 ∧ mv = .slice (some ⟨g2, o2, none⟩) R.marks.length c2 ∧ nv = .slice (some ⟨g3, o3, none⟩) R.now.length c3 := by
  obtain ⟨h1, h2, k, b, m, h3, h4, h5, h6, h7, h8, h9, h10, h11⟩ := ok.at hs
  obtain ⟨a1, c1, v1, k1⟩ := rows_cells h.rows
  obtain ⟨a2, c2, v2, k2⟩ := marks_cells h.marks
  obtain ⟨a3, c3, v3, k3⟩ := now_cells h.now
  obtain ⟨g1, o1, rfl, x1⟩ := k1 k b h5
  obtain ⟨g2, o2, rfl, x2⟩ := k2 k m h8
  obtain ⟨g3, o3, rfl, _, x3⟩ := k3 _ _ h3
  obtain ⟨_, f1, f2, f3, _⟩ := h.field
  refine ⟨(R.is s).1, k, m, b, g1, o1, c1, g2, o2, c2, g3, o3, c3, Prod.ext rfl hs, h2, h10, h4, h6, h7, h9, h5, h8, ⟨by rw [f1, v1], by rw [f2, v2, ok.ml], by rw [f3, v3], x1, x2, x3⟩, v1, v2, v3⟩
theorem is_err_le (R : Rf) (s : ByteArray) (h : (R.is s).2 ≠ 0) : ∃ e : Nat, (R.is s).2 = e ∧ ((e : Int) != 0) = true ∧ ((e : Int) == 0) = false ∧ e ≤ 7 := by
  refine ⟨_, rfl, by simp; omega, by simp; omega, ?_⟩
  unfold Rf.is
  split
  · split <;> simp
  · simp
set_option linter.unusedSimpArgs false in
set_option linter.unusedVariables false in
set_option maxRecDepth 20000 in
set_option maxHeartbeats 1500000 in
theorem RSize_any {w : World} {base D : Nat} {R : Rf} {rv mv nv sv : Value} (h : RdAt w base D R rv mv nv sv) (ok : RfOk R) (s : ByteArray) (hs : s.size ≤ 140737488355328) (hc : R.rows.length ≤ 1000000) :
    Calls Tryz.prog 40 #[.pointer (some ⟨D, 0, none⟩), .string s] w fun e w' => e = .returned (.tuple #[.int .i64 (R.sizeE s).1, .int .i64 (R.sizeE s).2]) ∧ Below w.heap.size w w' := by
  have HI := Lib.hid (Ris_any h s hs (by have := ok.nl; omega))
  unfold Rf.sizeE
  by_cases h0 : (R.is s).2 = 0
  · obtain ⟨j, k, q, b, g1, o1, c1, g2, o2, c2, g3, o3, c3, i1, i2, i3, i4, i5, i6, i7, i8, i9, SE, _⟩ := h.seat ok h0
    rw [if_pos h0, i1, i5]
    rw [i1] at HI
    have HS := Lib.hid SE
    have nl := ok.nl
    obtain ⟨n, hn⟩ : ∃ n, n = R.rows.length := ⟨_, rfl⟩
    obtain ⟨m, hm⟩ : ∃ m, m = R.now.length := ⟨_, rfl⟩
    rw [← hn, ← hm] at HS
    have jI : (j : Int) < (m : Int) := by omega
    have kI : (k : Int) < (n : Int) := by omega
    have mI : (m : Int) ≤ 64 := by omega
    have nI : (n : Int) ≤ 1000000 := by omega
    obtain ⟨z, hz⟩ : ∃ z, z = b.size := ⟨_, rfl⟩
    have eZ : (b.size : Int) = (z : Int) := by rw [hz]
    have zI : (z : Int) ≤ 1048576 := by omega
    rw [← hz]
    clear SE h ok h0 i1 i2 i3 i4 i5 i6 i7 i8 i9 hn hm nl hz
    go_enter Tryz.func40, Tryz.ntmps40
    go_wp2_with fail
    refine HI.out.mono ?_
    rintro _ w1 ⟨rfl, hb⟩
    have HB := Lib.hid hb
    obtain ⟨f1, f2, f3, e1, e2, e3⟩ := HS.out.later hb
    clear hb
    go_wp2_with fail
    go_quiet (fail)
    go_wp2_with fail
    go_ret2
    exact ⟨rfl, below_on HB.out (below_drewN9 _ _)⟩
  · obtain ⟨e, he, hn, hn2, _⟩ := is_err_le R s h0
    rw [if_neg h0, he]
    obtain ⟨x, hx⟩ : ∃ x, x = (R.is s).1 := ⟨_, rfl⟩
    rw [he, ← hx] at HI
    clear h ok he h0 hx
    go_enter Tryz.func40, Tryz.ntmps40
    go_wp2_with fail
    refine HI.out.mono ?_
    rintro _ w1 ⟨rfl, hb⟩
    have HB := Lib.hid hb
    clear hb
    go_wp2_with fail
    go_ret2
    exact ⟨rfl, HB.out⟩
theorem total_take {rows : List ByteArray} {l : List (ByteArray × Nat)} {i : Nat} {p : ByteArray × Nat} {b : ByteArray} (h : l[i]? = some p) (hb : rows[p.2]? = some b) : total rows (l.take (i + 1)) = total rows (l.take i) + b.size := by
  unfold total
  rw [List.take_add_one, h, List.map_append, List.sum_append]
  simp [List.getD, hb]
theorem total_le {rows : List ByteArray} {c : Nat} : ∀ (l : List (ByteArray × Nat)), (∀ p ∈ l, (rows.getD p.2 noName).size ≤ c) → total rows l ≤ l.length * c
  | [], _ => by simp [total]
  | p :: l, h => by
    have ih := total_le l fun q hq => h q (List.mem_cons_of_mem _ hq)
    have h1 := h p (List.mem_cons_self ..)
    unfold total at ih ⊢
    rw [List.map_cons, List.sum_cons, List.length_cons, Nat.succ_mul]
    omega
set_option linter.unusedSimpArgs false in
set_option linter.unusedVariables false in
set_option maxRecDepth 20000 in
set_option maxHeartbeats 1500000 in
theorem RLeft_any {w : World} {base D : Nat} {R : Rf} {rv mv nv sv : Value} (h : RdAt w base D R rv mv nv sv) (ok : RfOk R) (hc : R.rows.length ≤ 1000000) :
    Calls Tryz.prog 42 #[.pointer (some ⟨D, 0, none⟩)] w fun e w' => e = .returned (.int .i64 R.left) ∧ Below w.heap.size w w' := by
  obtain ⟨a1, c1, v1, k1⟩ := rows_cells h.rows
  obtain ⟨a3, c3, v3, k3⟩ := now_cells h.now
  obtain ⟨f0, f1, _, f3, _⟩ := h.field
  obtain ⟨n, hn⟩ : ∃ n, n = R.rows.length := ⟨_, rfl⟩
  obtain ⟨m, hm⟩ : ∃ m, m = R.now.length := ⟨_, rfl⟩
  obtain ⟨z, hz⟩ : ∃ z, z = R.size := ⟨_, rfl⟩
  rw [v1, ← hn] at f1
  rw [v3, ← hm] at f3
  rw [← hz] at f0
  have HM := Lib.hid hm
  have HN := Lib.hid hn
  have zb : z ≤ 8388608 := by rw [hz]; exact ok.size.2
  have nl := ok.nl
  have mI : (m : Int) ≤ 64 := by omega
  have nI : (n : Int) ≤ 1000000 := by omega
  have K1 := Lib.hid k1
  have K3 := Lib.hid k3
  have NOW := Lib.hid ok.now
  have HT := Lib.hid (show ∀ k, total R.rows (R.now.take k) ≤ 67108864 from fun k => by
    have h1 := total_le (c := 1048576) (rows := R.rows) (R.now.take k) fun p hp => by
      obtain ⟨_, b, q, h2, h3, _⟩ := ok.now p (List.take_subset _ _ hp)
      rw [List.getD_eq_getElem?_getD, h2]; exact h3
    have h4 : (R.now.take k).length ≤ 64 := by rw [List.length_take]; omega
    have h5 := Nat.mul_le_mul_right 1048576 h4
    omega)
  have HL := Lib.hid (show R.left = z - total R.rows (R.now.take m) by rw [hm, List.take_length, hz]; rfl)
  obtain ⟨L, hL⟩ : ∃ L, L = R.left := ⟨_, rfl⟩
  rw [← hL] at HL ⊢
  clear h hn hm hz v1 v3 nl k1 k3 ok hc hL
  go_enter Tryz.func42, Tryz.ntmps42
  go_wp2_with fail
  go_loopw [3, 4] (fun y i wr => ∃ k n : Nat, ∃ x : Int, k ≤ m ∧ i = .int .i64 k ∧ y = .int .i64 x ∧ x + (total R.rows (R.now.take k) : Int) = z ∧ wr = w.drewN n) (fun _ i _ => m - (intOf i).toNat)
  case atStart => exact ⟨0, 0, z, Nat.zero_le _, rfl, rfl, by simp [total], rfl⟩
  case round =>
    obtain ⟨k, n1, x, hk, rfl, rfl, hx, rfl⟩ := hrel
    have ht := HT.out k
    have x1 : -67108864 ≤ x := by omega
    have x2 : x ≤ 8388608 := by omega
    have HX := Lib.hid hx
    clear hx ht
    by_cases hlt : k < m
    · have hltI : (k : Int) < (m : Int) := by omega
      obtain ⟨p, hp⟩ : ∃ p, R.now[k]? = some p := ⟨_, List.getElem?_eq_getElem (by rw [← HM.out]; exact hlt)⟩
      obtain ⟨g3, o3, rfl, _, e3⟩ := K3.out k p hp
      obtain ⟨_, b, q, h2, h3, _⟩ := NOW.out p (List.mem_of_getElem? hp)
      obtain ⟨g1, o1, rfl, e1⟩ := K1.out _ b h2
      have hpl := (List.getElem?_eq_some_iff.1 h2).1
      have HTT := Lib.hid (total_take hp h2)
      obtain ⟨r, hr⟩ : ∃ r, r = p.2 := ⟨_, rfl⟩
      rw [← hr] at e3 e1 hpl
      rw [← HN.out] at hpl
      have rI : (r : Int) < (n : Int) := by omega
      obtain ⟨y, hy⟩ : ∃ y, y = b.size := ⟨_, rfl⟩
      have eY : (b.size : Int) = (y : Int) := by rw [hy]
      rw [← hy] at HTT h3
      have yI : (y : Int) ≤ 1048576 := by omega
      clear hp h2 hr hy h3
      go_wp2_with fail
      go_quiet (fail)
      go_wp2_with fail
      go_roundw
      case rel => exact ⟨k + 1, _, x - y, by omega, by go_num, rfl, by rw [HTT.out]; have := HX.out; omega, rfl⟩
      case measure => simp [intOf]; omega
    · obtain rfl : k = m := by omega
      have HF := Lib.hid (show (L : Int) = max x 0 by have := HX.out; rw [HL.out]; omega)
      go_wp2_with fail
      go_ret
      exact ⟨by rw [HF.out]; rfl, below_drewN9 _ _⟩
end Go.Proofs.YtidhlbhfhfonoaaGreatDoor
