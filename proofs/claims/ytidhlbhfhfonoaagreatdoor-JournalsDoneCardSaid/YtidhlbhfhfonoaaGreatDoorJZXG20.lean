/- Layer 18's reference: Open -/
import Derived.Test.YtidhlbhfhfonoaaGreatDoorJZXG19
namespace Go.Proofs.YtidhlbhfhfonoaaGreatDoor
open Go.ChangeShapes Go.WideShapes Go.ChangeAt Go.RowKit
/-- What Open leaves, where it makes a journal. -/
def ROpenEnd (w : World) (base D : Nat) (S : Nat → Prop) (s : ByteArray) (R : Rf) (L : List (List Nat × Nat)) (e : Ending) (w' : World) : Prop :=
  ∃ J u S', e = .returned (.tuple #[.pointer (some ⟨J, 0, none⟩), u, .int .i64 0]) ∧ RJ w' J D s (longS L) (lastS firstC L) ∧ PartsAt w' u (L.map Prod.fst) ∧ Rk w' base D R S' ∧ ¬ S' J ∧ w.heap.size ≤ J ∧ (∀ g, S' g → S g ∨ w.heap.size ≤ g) ∧ Chg w w' S
set_option linter.unusedSimpArgs false in
set_option linter.unusedVariables false in
set_option maxRecDepth 20000 in
set_option maxHeartbeats 4000000 in
/-- Open where the file is there. -/
theorem ROpen_there {w : World} {base D : Nat} {R : Rf} {S : Nat → Prop} {s : ByteArray} (hd : Rk w base D R S) (ok : RfOk R) (hs : s.size ≤ 140737488355328) (hc : R.rows.length ≤ 1000000) {zn : Nat} (hz : R.sizeE s = (zn, 0)) (hzn : zn ≤ 1048576) {b : List Nat} (hr : (R.readE s 0 zn).1 = b) (hb : Bytes b) (hbl : b.length ≤ 1048576) :
    Calls Tryz.prog 9 #[.pointer (some ⟨D, 0, none⟩), .string s] w (ROpenEnd w base D S s R (recs firstC b)) := by
  have H := Lib.hid hd
  have HOK := Lib.hid ok
  have HB := Lib.hid hb
  have HS := Lib.hid (show Calls Tryz.prog 40 #[.pointer (some ⟨D, 0, none⟩), .string s] w fun e w' => e = .returned (.tuple #[.int .i64 zn, .int .i64 0]) ∧ Below w.heap.size w w' by
    obtain ⟨⟨rv, mv, nv, sv, hra, _⟩, _⟩ := hd
    have h9 := RSize_any hra ok s hs hc
    rw [hz] at h9
    exact h9)
  have HRD := Lib.hid (fun (W : World) (hW : Below w.heap.size w W) => (show Calls Tryz.prog 35 #[.pointer (some ⟨D, 0, none⟩), .string s, .int .i64 0, .int .i64 zn] W fun e w' => ∃ v k, e = .returned (.tuple #[v, .int .i64 k]) ∧ KAt .u8 w' v b ∧ Below W.heap.size W w' by
    obtain ⟨⟨rv, mv, nv, sv, hra, _⟩, _⟩ := hd.later hW
    refine (RRead_any hra ok s hs hc 0 zn (by omega) (by omega)).mono ?_
    rintro _ w' ⟨v, rfl, hk, hb⟩
    rw [hr] at hk
    exact ⟨v, _, rfl, hk, hb⟩))
  obtain ⟨L, hL⟩ : ∃ L, L = recs firstC b := ⟨_, rfl⟩
  have HREC := Lib.hid (fun (W : World) (v : Value) (hv : KAt .u8 W v b) => by have h9 := RRecords_any W hv hb hbl; rewrite [← hL] at h9; exact h9)
  rw [← hL]
  clear hd ok hb hbl hr hz hL hc
  go_enter Tryz.func9, Tryz.ntmps9
  go_wp2_with fail
  refine HS.out.mono ?_
  rintro _ w1 ⟨rfl, hb1⟩
  have HB1 := Lib.hid hb1
  clear hb1
  go_wp2_with fail
  refine (HRD.out w1 HB1.out).mono ?_
  rintro _ w2 ⟨v, k9, rfl, hk2, hb2⟩
  have HB2 := Lib.hid (below_on HB1.out hb2)
  have HK2 := Lib.hid hk2
  have HRC := Lib.hid (HREC.out w2 v hk2)
  clear hk2 hb2
  go_wp2_with fail
  refine HRC.out.mono ?_
  rintro _ w3 ⟨u, rfl, hp3, hb3⟩
  have HB3 := Lib.hid (below_on HB2.out hb3)
  have HP3 := Lib.hid hp3
  clear hp3 hb3
  go_wp2_with fail
  go_ret3
  have hs3 := HB3.out.size
  exact ⟨w3.heap.size, u, S, rfl, heap_alloc_new w3 _, HP3.out.later ((Below.refl _ w3).alloc (Nat.le_refl _) _), H.out.later (HB3.out.alloc hs3 _), fun e => by have := H.out.2 _ e; omega, hs3, fun g hg => .inl hg, Chg.of_below (HB3.out.alloc hs3 _) S⟩
set_option linter.unusedSimpArgs false in
set_option linter.unusedVariables false in
set_option maxRecDepth 20000 in
set_option maxHeartbeats 4000000 in
/-- Open where the file is made. -/
theorem ROpen_made {w : World} {base D : Nat} {R R' : Rf} {S : Nat → Prop} {s : ByteArray} (hd : Rk w base D R S) (ok : RfOk R) (ok' : RfOk R') (hs : s.size ≤ 140737488355328) (hc : R.rows.length ≤ 1000000) (hc' : R'.rows.length ≤ 1000000) {zn : Nat} (hz : R.sizeE s = (zn, 7)) (hzn : zn ≤ 1048576) (hcr : R.create s = (R', 0)) {b : List Nat} (hr : (R'.readE s 0 zn).1 = b) (hb : Bytes b) (hbl : b.length ≤ 1048576) :
    Calls Tryz.prog 9 #[.pointer (some ⟨D, 0, none⟩), .string s] w (ROpenEnd w base D S s R' (recs firstC b)) := by
  have H := Lib.hid hd
  have HOK := Lib.hid ok'
  have HB := Lib.hid hb
  have HS := Lib.hid (show Calls Tryz.prog 40 #[.pointer (some ⟨D, 0, none⟩), .string s] w fun e w' => e = .returned (.tuple #[.int .i64 zn, .int .i64 7]) ∧ Below w.heap.size w w' by
    obtain ⟨⟨rv, mv, nv, sv, hra, _⟩, _⟩ := hd
    have h9 := RSize_any hra ok s hs hc
    rw [hz] at h9
    exact h9)
  have HCR := Lib.hid (fun (W : World) (hW : Below w.heap.size w W) => (show Calls Tryz.prog 31 #[.pointer (some ⟨D, 0, none⟩), .string s] W fun e w' => e = .returned (.int .i64 0) ∧ Rn w w' base D R' S by
    have h9 := RCreate_any (hd.later hW) ok s hs hc
    rw [hcr] at h9
    exact h9.mono fun e w' h => ⟨h.1, h.2.behind hW hd⟩))
  have HRD := Lib.hid (fun (W : World) (S' : Nat → Prop) (hW : Rk W base D R' S') => (show Calls Tryz.prog 35 #[.pointer (some ⟨D, 0, none⟩), .string s, .int .i64 0, .int .i64 zn] W fun e w' => ∃ v k, e = .returned (.tuple #[v, .int .i64 k]) ∧ KAt .u8 w' v b ∧ Below W.heap.size W w' by
    obtain ⟨⟨rv, mv, nv, sv, hra, _⟩, _⟩ := hW
    refine (RRead_any hra ok' s hs hc' 0 zn (by omega) (by omega)).mono ?_
    rintro _ w' ⟨v, rfl, hk, hb⟩
    rw [hr] at hk
    exact ⟨v, _, rfl, hk, hb⟩))
  obtain ⟨L, hL⟩ : ∃ L, L = recs firstC b := ⟨_, rfl⟩
  have HREC := Lib.hid (fun (W : World) (v : Value) (hv : KAt .u8 W v b) => by have h9 := RRecords_any W hv hb hbl; rewrite [← hL] at h9; exact h9)
  rw [← hL]
  clear hd ok ok' hb hbl hr hz hL hc hc' hcr
  go_enter Tryz.func9, Tryz.ntmps9
  go_wp2_with fail
  refine HS.out.mono ?_
  rintro _ w1 ⟨rfl, hb1⟩
  have HB1 := Lib.hid hb1
  clear hb1
  go_wp2_with fail
  refine (HCR.out w1 HB1.out).mono ?_
  rintro _ w2 ⟨rfl, hr2⟩
  have HR2 := Lib.hid hr2
  clear hr2
  go_wp2_with fail
  refine (HRD.out w2 _ HR2.out.rk).mono ?_
  rintro _ w3 ⟨v, k9, rfl, hk2, hb2⟩
  have HB3 := Lib.hid hb2
  have HRC := Lib.hid (HREC.out w3 v hk2)
  clear hk2 hb2
  go_wp2_with fail
  refine HRC.out.mono ?_
  rintro _ w4 ⟨u, rfl, hp3, hb3⟩
  have HB4 := Lib.hid (below_on HB3.out hb3)
  have HP3 := Lib.hid hp3
  clear hp3 hb3
  go_wp2_with fail
  go_ret3
  have hs3 := HB4.out.size
  have hs2 := HR2.out.chg.size
  refine ⟨w4.heap.size, u, plus S w w2, rfl, heap_alloc_new w4 _, HP3.out.later ((Below.refl _ w4).alloc (Nat.le_refl _) _), HR2.out.rk.later (HB4.out.alloc hs3 _), fun e => by have := HR2.out.rk.2 _ e; omega, by omega, fun g hg => ?_, HR2.out.chg.on (HB4.out.alloc hs3 _)⟩
  rcases hg with hg | hg
  · exact .inl hg
  · exact .inr hg.1
set_option linter.unusedSimpArgs false in
set_option linter.unusedVariables false in
set_option maxRecDepth 20000 in
set_option maxHeartbeats 4000000 in
/-- Open where the name won't do. -/
theorem ROpen_no {w : World} {base D : Nat} {R : Rf} {S : Nat → Prop} {s : ByteArray} (hd : Rk w base D R S) (ok : RfOk R) (hs : s.size ≤ 140737488355328) (hc : R.rows.length ≤ 1000000) {zn ze : Nat} (hz : R.sizeE s = (zn, ze)) (h0 : ze ≠ 0) (h7 : ze ≠ 7) :
    Calls Tryz.prog 9 #[.pointer (some ⟨D, 0, none⟩), .string s] w fun e w' => e = .returned (.tuple #[.pointer none, .slice none 0 0, .int .i64 ze]) ∧ Below w.heap.size w w' := by
  have HS := Lib.hid (show Calls Tryz.prog 40 #[.pointer (some ⟨D, 0, none⟩), .string s] w fun e w' => e = .returned (.tuple #[.int .i64 zn, .int .i64 ze]) ∧ Below w.heap.size w w' by
    obtain ⟨⟨rv, mv, nv, sv, hra, _⟩, _⟩ := hd
    have h9 := RSize_any hra ok s hs hc
    rw [hz] at h9
    exact h9)
  have i0 : ¬ ((ze : Int) = 0) := by omega
  have i7 : ¬ ((ze : Int) = 7) := by omega
  clear hd ok hz hc h0 h7
  go_enter Tryz.func9, Tryz.ntmps9
  go_wp2_with fail
  refine HS.out.mono ?_
  rintro _ w1 ⟨rfl, hb1⟩
  have HB1 := Lib.hid hb1
  clear hb1
  go_wp2_with fail
  go_ret3
  exact ⟨rfl, HB1.out⟩
end Go.Proofs.YtidhlbhfhfonoaaGreatDoor
