/- Layer 17 (files): calls on one disk, and on two side by side, as the laws take them; Layer 17 (files): disks beside blocks that stay as they are; Layer 17's reference: Read -/
import Derived.Test.YtidhlbhfhfonoaaGreatDoorJZXG09
import Derived.Lib.ConvBytes
import Derived.Test.YtidhlbhfhfonoaaGreatDoorJZXG11
namespace Go.Proofs.YtidhlbhfhfonoaaGreatDoor
open Go.ChangeShapes Go.WideShapes Go.ChangeAt Go.RowKit

/-- One disk, wherever it lies (from base on). -/
def One (w : World) (base D : Nat) (M : Dm) : Prop := ∃ S, Dk w base D M S
section
variable {P : Program} {f : FuncId} {args : Array Value} {w : World} {base C D : Nat} {M M' : Dm}
end
theorem Dk.down {w : World} {B base D : Nat} {M : Dm} {S : Nat → Prop} (h : Dk w B D M S) (hB : base ≤ B) : Dk w base D M S := by
  obtain ⟨⟨rb, rv, d1, d2⟩, d3⟩ := h
  exact ⟨⟨rb, rv, ⟨d1.ok, d1.blk, fun k r hr => ⟨(d1.row k r hr).blk, OwnV.base (d1.row k r hr).own hB⟩, Nat.le_trans hB d1.lowD, fun k hk => ⟨Nat.le_trans hB (d1.low k hk).1, (d1.low k hk).2⟩, d1.two⟩, d2⟩, fun g hg => ⟨Nat.le_trans hB (d3 g hg).1, (d3 g hg).2⟩⟩
end Go.Proofs.YtidhlbhfhfonoaaGreatDoor
namespace Go.Proofs.YtidhlbhfhfonoaaGreatDoor
open Go.ChangeShapes Go.WideShapes Go.ChangeAt Go.RowKit

/-- The blocks of K are as they were. -/
structure Stay (K : Nat → Prop) (w w' : World) : Prop where
  os : w'.os = w.os
  tape : w'.tape = w.tape
  output : w'.output = w.output
  size : w.heap.size ≤ w'.heap.size
  block : ∀ g, K g → w'.heap[g]? = w.heap[g]?
theorem Stay.refl (K : Nat → Prop) (w : World) : Stay K w w := ⟨rfl, rfl, rfl, Nat.le_refl _, fun _ _ => rfl⟩
theorem Stay.trans {K K' : Nat → Prop} {w w1 w2 : World} (h : Stay K w w1) (k : Stay K' w1 w2) (hK : ∀ g, K g → K' g) : Stay K w w2 :=
  ⟨k.os.trans h.os, k.tape.trans h.tape, k.output.trans h.output, Nat.le_trans h.size k.size, fun g hg => (k.block g (hK g hg)).trans (h.block g hg)⟩
theorem Stay.below {K : Nat → Prop} {w w' : World} {base : Nat} (h : Stay K w w') (hK : ∀ g, g < base → K g) : Below base w w' := ⟨h.os, h.tape, h.output, h.size, fun g hg => h.block g (hK g hg)⟩
theorem Stay.of_below {K : Nat → Prop} {w w' : World} (h : Below w.heap.size w w') (hK : ∀ g, K g → g < w.heap.size) : Stay K w w' := ⟨h.os, h.tape, h.output, h.size, fun g hg => h.block g (hK g hg)⟩
/-- One disk, beside the blocks of K. -/
def OneK (K : Nat → Prop) (w : World) (base C : Nat) (M : Dm) : Prop := ∃ S, Dk w base C M S ∧ ∀ g, K g → g < w.heap.size ∧ ¬ S g
theorem OneK.later {K : Nat → Prop} {w w' : World} {base C : Nat} {M : Dm} (h : OneK K w base C M) (hb : Below w.heap.size w w') : OneK K w' base C M := by
  obtain ⟨S, h1, h4⟩ := h
  exact ⟨S, h1.later hb, fun g hg => ⟨Nat.lt_of_lt_of_le (h4 g hg).1 hb.size, (h4 g hg).2⟩⟩
theorem OneK.stay {K : Nat → Prop} {w w' : World} {base C : Nat} {M : Dm} (h : OneK K w base C M) (hb : Below w.heap.size w w') : Stay K w w' := by
  obtain ⟨S, h1, h4⟩ := h
  exact Stay.of_below hb fun g hg => (h4 g hg).1
theorem OneK.ok {K : Nat → Prop} {w : World} {base C : Nat} {M : Dm} (h : OneK K w base C M) : M.ok := by
  obtain ⟨S, h1, h4⟩ := h
  exact h1.ok
/-- One new block more stays. -/
theorem OneK.more {K : Nat → Prop} {w w' : World} {base C : Nat} {M : Dm} (h : OneK K w base C M) (hb : Below w.heap.size w w') {G : Nat} (h1 : w.heap.size ≤ G) (h2 : G < w'.heap.size) : OneK (fun g => K g ∨ g = G) w' base C M := by
  obtain ⟨S, d1, h4⟩ := h
  refine ⟨S, d1.later hb, fun g hg => ?_⟩
  rcases hg with hg | rfl
  · exact ⟨Nat.lt_of_lt_of_le (h4 g hg).1 hb.size, (h4 g hg).2⟩
  · exact ⟨h2, fun hs => by have := (d1.2 g hs).2; omega⟩
section
variable {P : Program} {f : FuncId} {args : Array Value} {K : Nat → Prop} {w : World} {base C D : Nat} {M M' : Dm}
theorem stay_of {w' : World} {N : Dm} {S : Nat → Prop} (hK : ∀ g, K g → g < w.heap.size ∧ ¬ S g) (hn : Dn w w' base C N S) : Stay K w w' :=
  ⟨hn.chg.os, hn.chg.tape, hn.chg.output, hn.chg.size, fun g hg => hn.chg.block g (hK g hg).1 (hK g hg).2⟩
theorem OneK.act {x : Dm × Nat} {N : Dm} {e : Nat} (z : Int) (h : OneK K w base C M) (hx : x = (N, e)) (hz : z = e) (hc : ∀ S, Dk w base C M S → Calls P f args w (Errs w base C S x)) :
    Calls P f args w fun en w' => en = .returned (.int .i64 z) ∧ OneK K w' base C N ∧ Stay K w w' := by
  obtain ⟨S, h, h4⟩ := h
  subst hx hz
  refine (hc S h).mono ?_
  rintro en w' ⟨rfl, hn⟩
  refine ⟨rfl, ⟨_, hn.dk, fun g hg => ⟨Nat.lt_of_lt_of_le (h4 g hg).1 hn.chg.size, fun hs => ?_⟩⟩, stay_of h4 hn⟩
  rcases hs with hs | hs
  · exact (h4 g hg).2 hs
  · have := (h4 g hg).1; omega
end
theorem OneK.look {P : Program} {f : FuncId} {args : Array Value} {K : Nat → Prop} {w : World} {base C : Nat} {M : Dm} {R : Ending → World → Prop} (h : OneK K w base C M) (hc : ∀ S, Dk w base C M S → Calls P f args w R) : Calls P f args w R := by
  obtain ⟨S, h, _⟩ := h
  exact hc S h
theorem Stay.heap {K : Nat → Prop} {w w' : World} (h : Stay K w w') {g : Nat} (hg : K g) {o : Obj} (ho : w.heap[g]? = some o) : w'.heap[g]? = some o := (h.block g hg).trans ho
theorem heap_on {w w' : World} (hb : Below w.heap.size w w') {g : Nat} {o : Obj} (ho : w.heap[g]? = some o) : w'.heap[g]? = some o := (hb.block g (lt_of_heap ho)).trans ho
/-! ### Bytes of a text -/
def nums (s : ByteArray) : List Nat := s.data.toList.map UInt8.toNat
theorem nums_length (s : ByteArray) : (nums s).length = s.size := by
  unfold nums
  rw [List.length_map]
  rfl
theorem conv_below (w : World) (s : ByteArray) (e : TypeId) : Below w.heap.size w (Lib.bytesWorld w e s) :=
  ⟨rfl, rfl, rfl, by rw [Lib.bytesWorld_size]; omega, fun g hg => Lib.bytesWorld_at_old w e s g hg⟩
theorem conv_kat (w : World) (s : ByteArray) (e : TypeId) (hs : s.size ≤ 140737488355328) : KAt .u8 (Lib.bytesWorld w e s) (.slice (some ⟨w.heap.size, 0, none⟩) s.size (grownCap w s.size 0 e)) (nums s) := by
  have hl := nums_length s
  refine ⟨_, _, by rw [hl], by rw [hl]; exact grownCap_ge w s.size 0 e, grownCap_le_maxLen w s.size 0 e (by unfold maxLen; omega), (fun h => by cases h), fun _ => ⟨w.heap.size, 0, rfl, fun i x hx => ?_⟩⟩
  have hi : i < s.size := by have := (List.getElem?_eq_some_iff.1 hx).1; omega
  rw [Nat.zero_add, Lib.bytesWorld_cell w e s i hi]
  unfold nums at hx
  rw [List.getElem?_map] at hx
  obtain ⟨b, hb, rfl⟩ := Option.map_eq_some_iff.1 hx
  rw [List.getD_eq_getElem?_getD, hb]
  rfl
end Go.Proofs.YtidhlbhfhfonoaaGreatDoor
namespace Go.Proofs.YtidhlbhfhfonoaaGreatDoor
open Go.ChangeShapes Go.WideShapes Go.ChangeAt Go.RowKit
theorem extract_num (b : ByteArray) (A Y : Nat) : nums (b.extract A (A + Y)) = ((num8 b).drop A).take Y := by
  unfold nums num8
  rw [ByteArray.data_extract, Array.toList_extract, List.extract_eq_take_drop, Nat.add_sub_cancel_left, List.map_take, List.map_drop]
set_option linter.unusedSimpArgs false in
set_option linter.unusedVariables false in
set_option maxRecDepth 20000 in
set_option maxHeartbeats 1500000 in
theorem RRead_any {w : World} {base D : Nat} {R : Rf} {rv mv nv sv : Value} (h : RdAt w base D R rv mv nv sv) (ok : RfOk R) (s : ByteArray) (hs : s.size ≤ 140737488355328) (hc : R.rows.length ≤ 1000000) (at_ n : Int) (ha : -9223372036854775808 ≤ at_ ∧ at_ ≤ 9223372036854775807) (hn : -9223372036854775808 ≤ n ∧ n ≤ 9223372036854775807) :
    Calls Tryz.prog 35 #[.pointer (some ⟨D, 0, none⟩), .string s, .int .i64 at_, .int .i64 n] w fun e w' => ∃ v, e = .returned (.tuple #[v, .int .i64 (R.readE s at_ n).2]) ∧ KAt .u8 w' v (R.readE s at_ n).1 ∧ Below w.heap.size w w' := by
  have HI := Lib.hid (Ris_any h s hs (by have := ok.nl; omega))
  obtain ⟨a1, a2⟩ := ha
  obtain ⟨n1, n2⟩ := hn
  have HNIL := Lib.hid (fun W : World => (KAt.nil .u8 W : KAt .u8 W (.slice none 0 0) []))
  obtain ⟨x, hx⟩ : ∃ x, x = (R.is s).1 := ⟨_, rfl⟩
  have HCV := Lib.hid (fun (W : World) (c : ByteArray) => Lib.run_convert_string_bytes (P := Tryz.prog) W 9 58 5 c Tryz.underlying9 Tryz.underlying58 Tryz.underlying5)
  by_cases hneg : 0 ≤ at_ ∧ 0 ≤ n
  · obtain ⟨p1, p2⟩ := hneg
    by_cases h0 : (R.is s).2 = 0
    · obtain ⟨j, k, q, b, g1, o1, c1, g2, o2, c2, g3, o3, c3, i1, i2, i3, i4, i5, i6, i7, i8, i9, SE, _⟩ := h.seat ok h0
      have hR : R.readE s at_ n = if at_ ≤ b.size ∧ n ≤ b.size - at_ then (((num8 b).drop at_.toNat).take n.toNat, 0) else ([], 5) := by
        unfold Rf.readE
        rw [if_pos ⟨p1, p2⟩, if_pos h0, i1, i5]
      rw [hR]
      rw [i1] at HI
      have HS := Lib.hid SE
      have nl := ok.nl
      obtain ⟨nn, hnn⟩ : ∃ nn, nn = R.rows.length := ⟨_, rfl⟩
      obtain ⟨m, hm⟩ : ∃ m, m = R.now.length := ⟨_, rfl⟩
      rw [← hnn, ← hm] at HS
      have jI : (j : Int) < (m : Int) := by omega
      have kI : (k : Int) < (nn : Int) := by omega
      have mI : (m : Int) ≤ 64 := by omega
      have nI : (nn : Int) ≤ 1000000 := by omega
      obtain ⟨z, hz⟩ : ∃ z, z = b.size := ⟨_, rfl⟩
      have HZ := Lib.hid hz
      have eZ : (b.size : Int) = (z : Int) := by rw [hz]
      have zI : (z : Int) ≤ 1048576 := by omega
      rw [← hz]
      clear SE h ok h0 i1 i2 i3 i4 i5 i6 i7 i8 i9 hnn hm nl hz hx hR hc
      by_cases hin : at_ ≤ z ∧ n ≤ z - at_
      · rw [if_pos hin]
        obtain ⟨q1, q2⟩ := hin
        obtain ⟨A, rfl⟩ : ∃ A : Nat, at_ = A := ⟨at_.toNat, by omega⟩
        obtain ⟨Y, rfl⟩ : ∃ Y : Nat, n = Y := ⟨n.toNat, by omega⟩
        obtain ⟨c, hc⟩ : ∃ c, c = b.extract A (A + Y) := ⟨_, rfl⟩
        have hrun : ∀ W, (Instr.slice 9 (.string b) (some (.int .i64 (A : Int))) (some (.int .i64 ((A : Int) + (Y : Int)))) none).run Tryz.prog W = .ok (.string c) W := fun W => by
          rw [run_slice_string W 9 b .i64 .i64 (A : Int) ((A : Int) + (Y : Int)) (by kernel_rfl) (by omega) (by omega) (by omega), hc, show ((A : Int) + (Y : Int)).toNat = A + Y by omega, show (A : Int).toNat = A by omega]
        have HCC := Lib.hid hc
        clear hc
        go_enter Tryz.func35, Tryz.ntmps35
        go_wp2_with fail
        refine HI.out.mono ?_
        rintro _ w1 ⟨rfl, hb⟩
        have HB := Lib.hid hb
        obtain ⟨f1, f2, f3, e1, e2, e3⟩ := HS.out.later hb
        clear hb
        go_wp2_with fail
        go_quiet (fail)
        have hcv := HCV.out
        go_wp2_with fail
        go_ret2
        refine ⟨_, rfl, ?_, ?_⟩
        · have hsz : c.size ≤ 140737488355328 := by
            rw [HCC.out, ByteArray.size_extract]
            omega
          have hk := conv_kat (w1.drewN nq) c 5 hsz
          have e9 : ((num8 b).drop (A : Int).toNat).take (Y : Int).toNat = nums c := by rw [HCC.out, extract_num]; rfl
          rw [e9]
          exact hk
        · exact below_on HB.out ((below_drewN9 w1 nq).trans (conv_below (w1.drewN nq) c 5))
      · rw [if_neg hin]
        by_cases hA : at_ ≤ z
        · have hA2 : decide ((z : Int) < at_) = false := decide_eq_false (by omega)
          have hY2 : (z : Int) - at_ < n := by omega
          clear hin HCV
          go_enter Tryz.func35, Tryz.ntmps35
          go_wp2_with fail
          refine HI.out.mono ?_
          rintro _ w1 ⟨rfl, hb⟩
          have HB := Lib.hid hb
          obtain ⟨f1, f2, f3, e1, e2, e3⟩ := HS.out.later hb
          clear hb
          go_wp2_with fail
          go_quiet (fail)
          go_wp2_with fail
          go_ret2
          exact ⟨_, rfl, HNIL.out _, below_on HB.out (below_drewN9 _ _)⟩
        · have hA2 : (z : Int) < at_ := by omega
          clear hin HCV hA
          go_enter Tryz.func35, Tryz.ntmps35
          go_wp2_with fail
          refine HI.out.mono ?_
          rintro _ w1 ⟨rfl, hb⟩
          have HB := Lib.hid hb
          obtain ⟨f1, f2, f3, e1, e2, e3⟩ := HS.out.later hb
          clear hb
          go_wp2_with fail
          go_quiet (fail)
          go_wp2_with fail
          go_ret2
          exact ⟨_, rfl, HNIL.out _, below_on HB.out (below_drewN9 _ _)⟩
    · obtain ⟨e, he, hn, hn2, _⟩ := is_err_le R s h0
      have hR : R.readE s at_ n = ([], e) := by
        unfold Rf.readE
        rw [if_pos ⟨p1, p2⟩, if_neg h0, he]
      rw [hR]
      rw [he, ← hx] at HI
      clear h ok he h0 hx hR HCV
      go_enter Tryz.func35, Tryz.ntmps35
      go_wp2_with fail
      refine HI.out.mono ?_
      rintro _ w1 ⟨rfl, hb⟩
      have HB := Lib.hid hb
      clear hb
      go_wp2_with fail
      go_ret2
      exact ⟨_, rfl, HNIL.out _, HB.out⟩
  · have hR : R.readE s at_ n = ([], 1) := by
      unfold Rf.readE
      rw [if_neg hneg]
    rw [hR]
    obtain ⟨y, hy⟩ : ∃ y, y = (R.is s).2 := ⟨_, rfl⟩
    rw [← hx, ← hy] at HI
    clear h ok hR hx hy HCV
    by_cases hA : at_ < 0
    · clear hneg
      go_enter Tryz.func35, Tryz.ntmps35
      go_wp2_with fail
      refine HI.out.mono ?_
      rintro _ w1 ⟨rfl, hb⟩
      have HB := Lib.hid hb
      clear hb
      go_wp2_with fail
      go_ret2
      exact ⟨_, rfl, HNIL.out _, HB.out⟩
    · have hY : n < 0 := by omega
      have hA2 : ¬ at_ < 0 := hA
      clear hneg
      go_enter Tryz.func35, Tryz.ntmps35
      go_wp2_with fail
      refine HI.out.mono ?_
      rintro _ w1 ⟨rfl, hb⟩
      have HB := Lib.hid hb
      clear hb
      go_wp2_with fail
      go_ret2
      exact ⟨_, rfl, HNIL.out _, HB.out⟩
end Go.Proofs.YtidhlbhfhfonoaaGreatDoor
