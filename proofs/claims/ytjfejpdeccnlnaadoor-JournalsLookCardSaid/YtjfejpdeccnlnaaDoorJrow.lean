/- Layer 18 (journals): all bytes of a file. -/
import Derived.Test.YtjfejpdeccnlnaaDoorJsize
import Derived.Test.YtjfejpdeccnlnaaDoorDisk12
namespace Go.Proofs.YtjfejpdeccnlnaaDoor
open Go.ChangeShapes Go.WideShapes Go.ChangeAt Go.RowKit

theorem sizeE_le {M : Dm} (h : M.ok) (s : ByteArray) : (M.sizeE s).1 ≤ 1048576 := by
  unfold Dm.sizeE
  split
  · cases hf : find M.now s with
    | none => simp
    | some i =>
      simp only [Option.map_some, Option.getD_some]
      rcases M.ways s with ⟨hok, j, hj⟩ | hno
      · obtain ⟨k, r, _, h2, _, _, h5⟩ := h.found hok hj
        rw [hf] at hj
        cases hj
        rw [h5]
        exact (h.rl k r h2).1
      · exact absurd ‹_› hno
  · simp
set_option maxRecDepth 20000 in
set_option maxHeartbeats 1500000 in
theorem row_any {w : World} {base D : Nat} {M : Dm} {S : Nat → Prop} (hd : Dk w base D M S) (s : ByteArray) (hs : s.size ≤ 140737488355328) {l : List Nat} (hl : M.allB s = l) :
    Calls Tryd.prog 16 #[.pointer (some ⟨D, 0, none⟩), .string s] w fun e w' => ∃ a c, e = .returned (.slice a l.length c) ∧ Own w' w.heap.size (.slice a l.length c) l ∧ Below w.heap.size w w' := by
  have HS := Lib.hid (Size_any hd s hs)
  have hsz := sizeE_le hd.ok s
  have HR := Lib.hid (fun (w1 : World) (hb : Below w.heap.size w w1) => Read_any (hd.later hb) s hs 0 (M.sizeE s).1 (by omega) (by omega))
  unfold Dm.allB at hl
  obtain ⟨z, hz⟩ : ∃ z, z = M.sizeE s := ⟨_, rfl⟩
  obtain ⟨q, hq⟩ : ∃ q, q = M.readE s 0 (M.sizeE s).1 := ⟨_, rfl⟩
  rw [← hq] at hl HR
  rw [← hz] at HS HR hsz
  obtain ⟨zn, ze⟩ := z
  obtain ⟨ql, qe⟩ := q
  simp only at HS HR hl hsz
  subst hl
  clear hz hq hd
  go_enter Tryd.func16, Tryd.ntmps16
  go_wp2_with fail
  refine HS.out.mono ?_
  rintro _ w1 ⟨rfl, hb⟩
  have HB := Lib.hid hb
  clear hb
  go_wp2_with fail
  refine (HR.out w1 HB.out).mono ?_
  rintro _ w2 ⟨v2, rfl, ho, hb⟩
  have HO := Lib.hid (ho.base HB.out.size)
  have HB2 := Lib.hid (below_on HB.out hb)
  obtain ⟨a2, c2, rfl⟩ := ho.sl
  clear ho hb
  go_wp2_with fail
  go_ret
  exact ⟨_, _, rfl, HO.out, HB2.out⟩
end Go.Proofs.YtjfejpdeccnlnaaDoor
