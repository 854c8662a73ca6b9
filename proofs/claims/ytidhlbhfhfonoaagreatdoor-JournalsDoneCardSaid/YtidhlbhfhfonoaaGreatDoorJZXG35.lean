/- Layer 17: has a disk what the reference's has? -/
import Derived.Test.YtidhlbhfhfonoaaGreatDoorJZXG31
import Derived.Test.YtidhlbhfhfonoaaGreatDoorJZXG32
import Derived.Test.YtidhlbhfhfonoaaGreatDoorJZXG12
import Derived.Test.YtidhlbhfhfonoaaGreatDoorJZXG34
import Derived.Test.YtidhlbhfhfonoaaGreatDoorJZXG22
import Derived.Test.YtidhlbhfhfonoaaGreatDoorJZXG09
namespace Go.Proofs.YtidhlbhfhfonoaaGreatDoor
open Go.ChangeShapes Go.WideShapes Go.ChangeAt Go.RowKit
/-- A disk and the reference's one, that go together. -/
structure Both (w : World) (base D E : Nat) (M : Dm) (R : Rf) (S S' : Nat → Prop) : Prop where
  dk : Dk w base D M S
  rk : Rk w base E R S'
  rel : ∃ f, Rel M R f
  few : R.rows.length ≤ 1000000
theorem Both.later {w w' : World} {base D E : Nat} {M : Dm} {R : Rf} {S S' : Nat → Prop} (h : Both w base D E M R S S') (hb : Below w.heap.size w w') : Both w' base D E M R S S' := ⟨h.dk.later hb, h.rk.later hb, h.rel, h.few⟩
theorem Both.okR {w : World} {base D E : Nat} {M : Dm} {R : Rf} {S S' : Nat → Prop} (h : Both w base D E M R S S') : RfOk R := by
  obtain ⟨f, hf⟩ := h.rel
  exact hf.okR h.dk.ok
section
variable {w : World} {base D E : Nat} {M : Dm} {R : Rf} {S S' : Nat → Prop}
theorem Both.size (h : Both w base D E M R S S') (s : ByteArray) (hs : s.size ≤ 140737488355328) : Calls Tryz.prog 40 #[.pointer (some ⟨E, 0, none⟩), .string s] w fun e w' => e = .returned (.tuple #[.int .i64 (M.sizeE s).1, .int .i64 (M.sizeE s).2]) ∧ Below w.heap.size w w' := by
  obtain ⟨f, hf⟩ := h.rel
  obtain ⟨⟨rv, mv, nv, sv, hr, _⟩, _⟩ := h.rk
  have h9 := RSize_any hr h.okR s hs h.few
  rw [hf.sizeE h.dk.ok] at h9
  exact h9
theorem Both.left (h : Both w base D E M R S S') : Calls Tryz.prog 42 #[.pointer (some ⟨E, 0, none⟩)] w fun e w' => e = .returned (.int .i64 M.left) ∧ Below w.heap.size w w' := by
  obtain ⟨f, hf⟩ := h.rel
  obtain ⟨⟨rv, mv, nv, sv, hr, _⟩, _⟩ := h.rk
  have h9 := RLeft_any hr h.okR h.few
  rw [hf.left h.dk.ok] at h9
  exact h9
theorem Both.list (h : Both w base D E M R S S') : Calls Tryz.prog 57 #[.pointer (some ⟨E, 0, none⟩)] w fun e w' => ∃ v, e = .returned v ∧ OwnS w' w.heap.size v M.list ∧ Below w.heap.size w w' := by
  obtain ⟨f, hf⟩ := h.rel
  obtain ⟨⟨rv, mv, nv, sv, hr, _⟩, _⟩ := h.rk
  have h9 := RList_any hr h.okR
  rw [hf.list] at h9
  exact h9
theorem Both.read (h : Both w base D E M R S S') (s : ByteArray) (hs : s.size ≤ 140737488355328) (at_ n : Int) (ha : -9223372036854775808 ≤ at_ ∧ at_ ≤ 9223372036854775807) (hn : -9223372036854775808 ≤ n ∧ n ≤ 9223372036854775807) :
    Calls Tryz.prog 35 #[.pointer (some ⟨E, 0, none⟩), .string s, .int .i64 at_, .int .i64 n] w fun e w' => ∃ v, e = .returned (.tuple #[v, .int .i64 (M.readE s at_ n).2]) ∧ KAt .u8 w' v (M.readE s at_ n).1 ∧ Below w.heap.size w w' := by
  obtain ⟨f, hf⟩ := h.rel
  obtain ⟨⟨rv, mv, nv, sv, hr, _⟩, _⟩ := h.rk
  have h9 := RRead_any hr h.okR s hs h.few at_ n ha hn
  rw [hf.readE h.dk.ok] at h9
  exact h9
end
set_option linter.unusedSimpArgs false in
set_option linter.unusedVariables false in
set_option maxRecDepth 20000 in
set_option maxHeartbeats 2000000 in
theorem Same_any {w : World} {base D E : Nat} {M : Dm} {R : Rf} {S S' : Nat → Prop} (h : Both w base D E M R S S') :
    Calls Tryz.prog 26 #[.pointer (some ⟨D, 0, none⟩), .pointer (some ⟨E, 0, none⟩)] w fun e w' => e = .returned (.bool true) ∧ Below w.heap.size w w' := by
  have HL1 := Lib.hid (List_any h.dk)
  have HL2 := Lib.hid (fun (w1 : World) (hb : Below w.heap.size w w1) => (h.later hb).list)
  have HF1 := Lib.hid (fun (w1 : World) (hb : Below w.heap.size w w1) => Left_any (h.dk.later hb))
  have HF2 := Lib.hid (fun (w1 : World) (hb : Below w.heap.size w w1) => (h.later hb).left)
  have HNS := Lib.hid (show ∀ s, s ∈ M.list → s.size ≤ 140737488355328 from fun s hn => by have := nameOk_size (list_ok h.dk.ok hn); omega)
  have HS1 := Lib.hid (fun (s : ByteArray) (hn : s ∈ M.list) (w1 : World) (hb : Below w.heap.size w w1) => Size_any (h.dk.later hb) s (HNS.out s hn))
  have HS2 := Lib.hid (fun (s : ByteArray) (hn : s ∈ M.list) (w1 : World) (hb : Below w.heap.size w w1) => (h.later hb).size s (HNS.out s hn))
  have HSZ := Lib.hid (show ∀ s, (M.sizeE s).1 ≤ 1048576 from fun s => by
    unfold Dm.sizeE
    split
    · cases hf : find M.now s with
      | none => simp
      | some i =>
        simp only [Option.map_some, Option.getD_some]
        rcases hr : M.rows[M.file i]? with _ | r
        · simp [Dm.row, List.getD, hr]
        · have := (h.dk.ok.rl _ r hr).1
          simpa [Dm.row, List.getD, hr] using this
    · simp)
  have HR1 := Lib.hid (fun (s : ByteArray) (hn : s ∈ M.list) (n : Nat) (hm : n ≤ 1048576) (w1 : World) (hb : Below w.heap.size w w1) => Read_any (h.dk.later hb) s (HNS.out s hn) 0 n ⟨by omega, by omega⟩ ⟨by omega, by omega⟩)
  have HR2 := Lib.hid (fun (s : ByteArray) (hn : s ∈ M.list) (n : Nat) (hm : n ≤ 1048576) (w1 : World) (hb : Below w.heap.size w w1) => (h.later hb).read s (HNS.out s hn) 0 n ⟨by omega, by omega⟩ ⟨by omega, by omega⟩)
  have hln := list_len h.dk.ok
  obtain ⟨L, hL⟩ : ∃ L, L = M.list := ⟨_, rfl⟩
  obtain ⟨f, hf⟩ : ∃ f, f = M.left := ⟨_, rfl⟩
  rw [← hL] at HL1 HL2 HS1 HS2 HR1 HR2 hln
  rw [← hf] at HF1 HF2
  clear h hL hf HNS
  go_enter Tryz.func26, Tryz.ntmps26
  go_wp2_with fail
  refine HL1.out.mono ?_
  rintro _ w1 ⟨v1, rfl, ho1, hb⟩
  have HB1 := Lib.hid hb
  have HO1 := Lib.hid ho1.at_
  obtain ⟨a1, c1, rfl⟩ := ho1.sl
  clear hb ho1
  go_wp2_with fail
  refine (HL2.out w1 HB1.out).mono ?_
  rintro _ w2 ⟨v2, rfl, ho2, hb⟩
  have HB2 := Lib.hid (below_on HB1.out hb)
  have HO12 := Lib.hid (HO1.out.later hb)
  have HO2 := Lib.hid ho2.at_
  obtain ⟨a2, c2, rfl⟩ := ho2.sl
  clear hb ho2 HO1
  go_wp2_with fail
  refine (texts_same L w2 HO12.out HO2.out).mono ?_
  rintro _ w3 ⟨rfl, n3, e3⟩
  have hb23 : Below w2.heap.size w2 w3 := by rw [e3]; exact below_drewN9 _ _
  have HB3 := Lib.hid (below_on HB2.out hb23)
  have HO3 := Lib.hid (HO12.out.later hb23)
  clear e3 hb23 HO12 HO2
  go_wp2_with fail
  refine (HF1.out w3 HB3.out).mono ?_
  rintro _ w4 ⟨rfl, hb⟩
  have HB4 := Lib.hid (below_on HB3.out hb)
  have HO4 := Lib.hid (HO3.out.later hb)
  clear hb HO3
  go_wp2_with fail
  refine (HF2.out w4 HB4.out).mono ?_
  rintro _ w5 ⟨rfl, hb⟩
  have HB5 := Lib.hid (below_on HB4.out hb)
  have HO5 := Lib.hid (HO4.out.later hb)
  clear hb HO4
  go_wp2_with fail
  go_loopw [6] (fun i wr => ∃ k : Nat, k ≤ L.length ∧ i = .int .i64 k ∧ Below w.heap.size w wr ∧ Hid (SAt wr (.slice a1 L.length c1) L)) (fun i _ => L.length - (intOf i).toNat)
  case atStart => exact ⟨0, Nat.zero_le _, rfl, HB5.out, HO5⟩
  case round =>
    obtain ⟨k, hk, rfl, hb, ho⟩ := hrel
    have HB := Lib.hid hb
    by_cases hlt : k < L.length
    · obtain ⟨x, hx⟩ : ∃ x, L[k]? = some x := ⟨_, List.getElem?_eq_getElem hlt⟩
      obtain ⟨ao, cap, hsl, h1, h2, h3, h4⟩ := ho.out
      obtain ⟨b, o, hao, hcell⟩ := h4 (by omega)
      subst hao
      cases hsl
      have cx := hcell k x hx
      have hxm := List.mem_of_getElem? hx
      have hsz := HSZ.out x
      obtain ⟨z, hz⟩ : ∃ z, z = (M.sizeE x).1 := ⟨_, rfl⟩
      obtain ⟨e, he⟩ : ∃ e, e = (M.sizeE x).2 := ⟨_, rfl⟩
      rw [← hz] at hsz
      have S1 := Lib.hid (HS1.out x hxm)
      have S2 := Lib.hid (HS2.out x hxm)
      have R1 := Lib.hid (HR1.out x hxm z hsz)
      have R2 := Lib.hid (HR2.out x hxm z hsz)
      rw [← hz, ← he] at S1 S2
      obtain ⟨rl, hrl⟩ : ∃ rl, rl = (M.readE x 0 z).1 := ⟨_, rfl⟩
      obtain ⟨re, hre⟩ : ∃ re, re = (M.readE x 0 z).2 := ⟨_, rfl⟩
      rw [← hrl, ← hre] at R1 R2
      have HO := ho
      have hcap : (L.length : Int) ≤ 64 := by omega
      have HCX := Lib.hid (fun (W : World) (hW : Below wr.heap.size wr W) => cell_on cx hW)
      clear hb hcell h4 hx hxm h3 h2 hz he hrl hre
      go_wp2_with fail
      refine (S1.out wr HB.out).mono ?_
      rintro _ x1 ⟨rfl, hb⟩
      have X := Lib.hid hb
      have cx := HCX.out x1 X.out
      clear hb
      go_wp2_with fail
      refine (S2.out x1 (below_on HB.out X.out)).mono ?_
      rintro _ x2 ⟨rfl, hb⟩
      have X := Lib.hid (below_on X.out hb)
      have cx := HCX.out x2 X.out
      clear hb
      go_wp2_with fail
      refine (R1.out x2 (below_on HB.out X.out)).mono ?_
      rintro _ x3 ⟨v3, rfl, ho3, hb⟩
      have X := Lib.hid (below_on X.out hb)
      have cx := HCX.out x3 X.out
      have K3 := Lib.hid ho3.at_
      obtain ⟨a3, n3, c3, rfl⟩ := ho3.shape
      clear hb ho3
      go_wp2_with fail
      refine (R2.out x3 (below_on HB.out X.out)).mono ?_
      rintro _ x4 ⟨v4, rfl, ho4, hb⟩
      have X := Lib.hid (below_on X.out hb)
      have cx := HCX.out x4 X.out
      have K3 := Lib.hid (K3.out.later hb)
      have K4 := Lib.hid ho4
      obtain ⟨a4, c4, e4, _⟩ := ho4
      subst e4
      clear hb
      go_wp2_with fail
      refine (same_any x4 K3.out K4.out).mono ?_
      rintro _ x5 ⟨rfl, n5, e5⟩
      have hb5 : Below x4.heap.size x4 x5 := by rw [e5]; exact below_drewN9 _ _
      have X := Lib.hid (below_on X.out hb5)
      clear hb5 e5
      go_wp2_with fail
      go_roundw
      case rel => exact ⟨k + 1, by omega, by go_num, below_on HB.out X.out, Lib.hid (HO.out.later X.out)⟩
      case measure => simp [intOf]; omega
    · obtain rfl : k = L.length := by omega
      clear hb
      go_wp2_with fail
      go_ret
      exact ⟨rfl, HB.out⟩
end Go.Proofs.YtidhlbhfhfonoaaGreatDoor
