/- Layer 17's reference: Read. -/
import Derived.Test.YtidhlbhfhfonoaaGreatDoorRdLook
import Derived.Test.YtidhlbhfhfonoaaGreatDoorDiskOps
namespace Go.Proofs.YtidhlbhfhfonoaaGreatDoor
open Go.ChangeShapes Go.WideShapes Go.ChangeAt Go.RowKit
theorem extract_num (b : ByteArray) (A Y : Nat) : nums (b.extract A (A + Y)) = ((num8 b).drop A).take Y := by
  unfold nums num8
  rw [ByteArray.data_extract, Array.toList_extract, List.extract_eq_take_drop, Nat.add_sub_cancel_left, List.map_take, List.map_drop]
set_option linter.unusedSimpArgs false in
set_option linter.unusedVariables false in
set_option maxRecDepth 20000 in
set_option maxHeartbeats 1500000 in
theorem RRead_any {w : World} {base D : Nat} {R : Rf} {rv mv nv sv : Value} (h : RdAt w base D R rv mv nv sv) (ok : RfOk R) (s : ByteArray) (hs : s.size ≤ 140737488355328) (hc : R.rows.length ≤ 1000000) (at_ n : Int) (ha : -9223372036854775808 ≤ at_ ∧ at_ ≤ 9223372036854775807) (hn : -9223372036854775808 ≤ n ∧ n ≤ 9223372036854775807) :
    Calls Tryz.prog 35 #[.pointer (some ⟨D, 0, none⟩), .string s, .int .i64 at_, .int .i64 n] w fun e w' => ∃ v, e = .returned (.tuple #[v, .int .i64 (R.readE s at_ n).2]) ∧ KAt .u8 w' v (R.readE s at_ n).1 ∧ Below w.heap.size w w' := by
  have HI := Lib.hid (Ris_any h s hs (by have := ok.nl; omega))
  obtain ⟨a1, a2⟩ := ha
  obtain ⟨n1, n2⟩ := hn
  have HNIL := Lib.hid (fun W : World => (KAt.nil .u8 W : KAt .u8 W (.slice none 0 0) []))
  obtain ⟨x, hx⟩ : ∃ x, x = (R.is s).1 := ⟨_, rfl⟩
  have HCV := Lib.hid (fun (W : World) (c : ByteArray) => Lib.run_convert_string_bytes (P := Tryz.prog) W 9 58 5 c Tryz.underlying9 Tryz.underlying58 Tryz.underlying5)
  by_cases hneg : 0 ≤ at_ ∧ 0 ≤ n
  · obtain ⟨p1, p2⟩ := hneg
    by_cases h0 : (R.is s).2 = 0
    · obtain ⟨j, k, q, b, g1, o1, c1, g2, o2, c2, g3, o3, c3, i1, i2, i3, i4, i5, i6, i7, i8, i9, SE, _⟩ := h.seat ok h0
      have hR : R.readE s at_ n = if at_ ≤ b.size ∧ n ≤ b.size - at_ then (((num8 b).drop at_.toNat).take n.toNat, 0) else ([], 5) := by
        unfold Rf.readE
        rw [if_pos ⟨p1, p2⟩, if_pos h0, i1, i5]
      rw [hR]
      rw [i1] at HI
      have HS := Lib.hid SE
      have nl := ok.nl
      obtain ⟨nn, hnn⟩ : ∃ nn, nn = R.rows.length := ⟨_, rfl⟩
      obtain ⟨m, hm⟩ : ∃ m, m = R.now.length := ⟨_, rfl⟩
      rw [← hnn, ← hm] at HS
      have jI : (j : Int) < (m : Int) := by omega
      have kI : (k : Int) < (nn : Int) := by omega
      have mI : (m : Int) ≤ 64 := by omega
      have nI : (nn : Int) ≤ 1000000 := by omega
      obtain ⟨z, hz⟩ : ∃ z, z = b.size := ⟨_, rfl⟩
      have HZ := Lib.hid hz
      have eZ : (b.size : Int) = (z : Int) := by rw [hz]
      have zI : (z : Int) ≤ 1048576 := by omega
      rw [← hz]
      clear SE h ok h0 i1 i2 i3 i4 i5 i6 i7 i8 i9 hnn hm nl hz hx hR hc
      by_cases hin : at_ ≤ z ∧ n ≤ z - at_
      · rw [if_pos hin]
        obtain ⟨q1, q2⟩ := hin
        obtain ⟨A, rfl⟩ : ∃ A : Nat, at_ = A := ⟨at_.toNat, by omega⟩
        obtain ⟨Y, rfl⟩ : ∃ Y : Nat, n = Y := ⟨n.toNat, by omega⟩
        obtain ⟨c, hc⟩ : ∃ c, c = b.extract A (A + Y) := ⟨_, rfl⟩
        have hrun : ∀ W, (Instr.slice 9 (.string b) (some (.int .i64 (A : Int))) (some (.int .i64 ((A : Int) + (Y : Int)))) none).run Tryz.prog W = .ok (.string c) W := fun W => by
          rw [run_slice_string W 9 b .i64 .i64 (A : Int) ((A : Int) + (Y : Int)) (by kernel_rfl) (by omega) (by omega) (by omega), hc, show ((A : Int) + (Y : Int)).toNat = A + Y by omega, show (A : Int).toNat = A by omega]
        have HCC := Lib.hid hc
        clear hc
        go_enter Tryz.func35, Tryz.ntmps35
        go_wp2_with fail
        refine HI.out.mono ?_
        rintro _ w1 ⟨rfl, hb⟩
        have HB := Lib.hid hb
        obtain ⟨f1, f2, f3, e1, e2, e3⟩ := HS.out.later hb
        clear hb
        go_wp2_with fail
        go_quiet (fail)
        have hcv := HCV.out
        go_wp2_with fail
        go_ret2
        refine ⟨_, rfl, ?_, ?_⟩
        · have hsz : c.size ≤ 140737488355328 := by
            rw [HCC.out, ByteArray.size_extract]
            omega
          have hk := conv_kat (w1.drewN nq) c 5 hsz
          have e9 : ((num8 b).drop (A : Int).toNat).take (Y : Int).toNat = nums c := by rw [HCC.out, extract_num]; rfl
          rw [e9]
          exact hk
        · exact below_on HB.out ((below_drewN9 w1 nq).trans (conv_below (w1.drewN nq) c 5))
      · rw [if_neg hin]
        by_cases hA : at_ ≤ z
        · have hA2 : decide ((z : Int) < at_) = false := decide_eq_false (by omega)
          have hY2 : (z : Int) - at_ < n := by omega
          clear hin HCV
          go_enter Tryz.func35, Tryz.ntmps35
          go_wp2_with fail
          refine HI.out.mono ?_
          rintro _ w1 ⟨rfl, hb⟩
          have HB := Lib.hid hb
          obtain ⟨f1, f2, f3, e1, e2, e3⟩ := HS.out.later hb
          clear hb
          go_wp2_with fail
          go_quiet (fail)
          go_wp2_with fail
          go_ret2
          exact ⟨_, rfl, HNIL.out _, below_on HB.out (below_drewN9 _ _)⟩
        · have hA2 : (z : Int) < at_ := by omega
          clear hin HCV hA
          go_enter Tryz.func35, Tryz.ntmps35
          go_wp2_with fail
          refine HI.out.mono ?_
          rintro _ w1 ⟨rfl, hb⟩
          have HB := Lib.hid hb
          obtain ⟨f1, f2, f3, e1, e2, e3⟩ := HS.out.later hb
          clear hb
          go_wp2_with fail
          go_quiet (fail)
          go_wp2_with fail
          go_ret2
          exact ⟨_, rfl, HNIL.out _, below_on HB.out (below_drewN9 _ _)⟩
    · obtain ⟨e, he, hn, hn2, _⟩ := is_err_le R s h0
      have hR : R.readE s at_ n = ([], e) := by
        unfold Rf.readE
        rw [if_pos ⟨p1, p2⟩, if_neg h0, he]
      rw [hR]
      rw [he, ← hx] at HI
      clear h ok he h0 hx hR HCV
      go_enter Tryz.func35, Tryz.ntmps35
      go_wp2_with fail
      refine HI.out.mono ?_
      rintro _ w1 ⟨rfl, hb⟩
      have HB := Lib.hid hb
      clear hb
      go_wp2_with fail
      go_ret2
      exact ⟨_, rfl, HNIL.out _, HB.out⟩
  · have hR : R.readE s at_ n = ([], 1) := by
      unfold Rf.readE
      rw [if_neg hneg]
    rw [hR]
    obtain ⟨y, hy⟩ : ∃ y, y = (R.is s).2 := ⟨_, rfl⟩
    rw [← hx, ← hy] at HI
    clear h ok hR hx hy HCV
    by_cases hA : at_ < 0
    · clear hneg
      go_enter Tryz.func35, Tryz.ntmps35
      go_wp2_with fail
      refine HI.out.mono ?_
      rintro _ w1 ⟨rfl, hb⟩
      have HB := Lib.hid hb
      clear hb
      go_wp2_with fail
      go_ret2
      exact ⟨_, rfl, HNIL.out _, HB.out⟩
    · have hY : n < 0 := by omega
      have hA2 : ¬ at_ < 0 := hA
      clear hneg
      go_enter Tryz.func35, Tryz.ntmps35
      go_wp2_with fail
      refine HI.out.mono ?_
      rintro _ w1 ⟨rfl, hb⟩
      have HB := Lib.hid hb
      clear hb
      go_wp2_with fail
      go_ret2
      exact ⟨_, rfl, HNIL.out _, HB.out⟩
end Go.Proofs.YtidhlbhfhfonoaaGreatDoor
