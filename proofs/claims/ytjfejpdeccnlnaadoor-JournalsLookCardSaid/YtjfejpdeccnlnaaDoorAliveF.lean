/- Layer 17 (files): what the laws show of their own lives. -/
import Derived.Test.YtjfejpdeccnlnaaDoorDiskOps
import Derived.Lib.SlBytesConst
namespace Go.Proofs.YtjfejpdeccnlnaaDoor
open Go.ChangeShapes Go.WideShapes Go.ChangeAt Go.RowKit

def al1 : Dm := ((new0 10).create ⟨#[97]⟩).1
def al2 : Dm := (al1.append ⟨#[97]⟩ [97, 98, 99, 100, 101]).1
def al3 : Dm := (al2.sync ⟨#[97]⟩).1
def al4 : Dm := (al3.append ⟨#[97]⟩ [102, 103]).1
def al5 : Dm := al4.names
def al6 : Dm := (al5.rename ⟨#[97]⟩ ⟨#[98]⟩).1
theorem al1e : (new0 10).create ⟨#[97]⟩ = (al1, 0) := Prod.ext rfl (by kernel_rfl)
theorem al2e : al1.append ⟨#[97]⟩ [97, 98, 99, 100, 101] = (al2, 0) := Prod.ext rfl (by kernel_rfl)
theorem al3e : al2.sync ⟨#[97]⟩ = (al3, 0) := Prod.ext rfl (by kernel_rfl)
theorem al4e : al3.append ⟨#[97]⟩ [102, 103] = (al4, 0) := Prod.ext rfl (by kernel_rfl)
theorem al6e : al5.rename ⟨#[97]⟩ ⟨#[98]⟩ = (al6, 0) := Prod.ext rfl (by kernel_rfl)
theorem al7 : al6.readE ⟨#[98]⟩ 5 3 = ([], 5) := by kernel_rfl
theorem al8 : al6.readE ⟨#[97]⟩ 0 0 = ([], 7) := by kernel_rfl
theorem al9 : al6.left = 3 := by kernel_rfl
theorem al10 : namesOf al6.now = [⟨#[98]⟩] := by kernel_rfl
theorem al10l : al6.list = [⟨#[98]⟩] := by
  unfold Dm.list
  rw [al10]
  simp [sortB]
theorem al11 : (al6.fail 0 true).sizeE ⟨#[98]⟩ = (5, 0) := by kernel_rfl
theorem al12 : namesOf (al6.fail 1 false).now = [⟨#[97]⟩] := by kernel_rfl
theorem al12l : (al6.fail 1 false).list = [⟨#[97]⟩] := by
  unfold Dm.list
  rw [al12]
  simp [sortB]
theorem al13 : bstr ((al6.fail 1 false).allB ⟨#[97]⟩) = ⟨#[97, 98, 99, 100, 101, 102]⟩ := by kernel_rfl
theorem al14 : al6.append ⟨#[98]⟩ [0, 0, 0, 0] = (al6, 6) := by kernel_rfl
theorem al15 : al6.create ⟨#[65]⟩ = (al6, 1) := by kernel_rfl
theorem al16 : al6.create ⟨#[98]⟩ = (al6, 8) := by kernel_rfl
theorem mk4 : ∀ w : World, (Instr.makeSlice 37 (.int .i64 4) (.int .i64 4)).run Tryd.prog w = .ok (.slice (some ⟨w.heap.size, 0, none⟩) 4 4) (w.alloc (.cells #[.int .u8 0, .int .u8 0, .int .u8 0, .int .u8 0] 5)) := fun w => by kernel_rfl
set_option maxRecDepth 20000 in
set_option maxHeartbeats 3000000 in
theorem alive17 (w : World) : Calls Tryd.prog 24 #[] w fun e w' => e = .returned (.bool true) ∧ Below w.heap.size w w' := by
  have kc := fun (w : World) (C : Array Value) (n c : Nat) => Lib.run_convert_bytes_const (P := Tryd.prog) w 37 5 C n c Tryd.underlying37 Tryd.underlying5
  go_enter Tryd.func24, Tryd.ntmps24
  go_wp2_with fail
  refine (New_yes 10 w (by decide) (by decide)).mono ?_
  rintro _ w1 ⟨rfl, hd, hb⟩
  have O := Lib.hid (One.start (base := w.heap.size) hd (Below.refl _ _) (Nat.le_refl _))
  have B := Lib.hid hb
  obtain ⟨D, hD⟩ : ∃ D, D = w.heap.size := ⟨_, rfl⟩
  clear hd hb
  go_wp2_with fail
  refine (O.out.act 0 al1e rfl fun S hS => Create_any hS ⟨#[97]⟩ (by decide)).mono ?_
  rintro _ w2 ⟨rfl, h1, h2⟩
  have O := Lib.hid h1; have B := Lib.hid (B.out.trans h2); clear h1 h2
  go_wp2_with fail
  obtain ⟨w3, e9⟩ : ∃ w3 : World, w3 = w2.alloc (.cells (cellsK .u8 [97, 98, 99, 100, 101]).toArray 5 (5, 6)) := ⟨_, rfl⟩
  have hb9 : Below w2.heap.size w2 w3 := by rw [e9]; exact (Below.refl _ _).alloc (Nat.le_refl _) _
  have K9 := Lib.hid (show KAt .u8 w3 (.slice (some ⟨w2.heap.size, 0, none⟩) 5 5) [97, 98, 99, 100, 101] by rw [e9]; exact kat_lit _ _ _ _ (by decide))
  have B := Lib.hid (B.out.trans (hb9.mono O.out.base)); have O := Lib.hid (O.out.later hb9)
  change Calls _ _ _ (w2.alloc (.cells (cellsK .u8 [97, 98, 99, 100, 101]).toArray 5 (5, 6))) _
  rw [← e9]
  clear e9 hb9
  refine (O.out.act 0 al2e rfl fun S hS => Append_any hS ⟨#[97]⟩ (by decide) K9.out (by unfold Bytes; decide)).mono ?_
  rintro _ w4 ⟨rfl, h1, h2⟩
  have O := Lib.hid h1; have B := Lib.hid (B.out.trans h2); clear h1 h2 K9
  go_wp2_with fail
  refine (O.out.act 0 al3e rfl fun S hS => Sync_any hS ⟨#[97]⟩ (by decide)).mono ?_
  rintro _ w5 ⟨rfl, h1, h2⟩
  have O := Lib.hid h1; have B := Lib.hid (B.out.trans h2); clear h1 h2
  go_wp2_with fail
  obtain ⟨w6, e9⟩ : ∃ w6 : World, w6 = w5.alloc (.cells (cellsK .u8 [102, 103]).toArray 5 (2, 3)) := ⟨_, rfl⟩
  have hb9 : Below w5.heap.size w5 w6 := by rw [e9]; exact (Below.refl _ _).alloc (Nat.le_refl _) _
  have K9 := Lib.hid (show KAt .u8 w6 (.slice (some ⟨w5.heap.size, 0, none⟩) 2 2) [102, 103] by rw [e9]; exact kat_lit _ _ _ _ (by decide))
  have B := Lib.hid (B.out.trans (hb9.mono O.out.base)); have O := Lib.hid (O.out.later hb9)
  change Calls _ _ _ (w5.alloc (.cells (cellsK .u8 [102, 103]).toArray 5 (2, 3))) _
  rw [← e9]
  clear e9 hb9
  refine (O.out.act 0 al4e rfl fun S hS => Append_any hS ⟨#[97]⟩ (by decide) K9.out (by unfold Bytes; decide)).mono ?_
  rintro _ w7 ⟨rfl, h1, h2⟩
  have O := Lib.hid h1; have B := Lib.hid (B.out.trans h2); clear h1 h2 K9
  go_wp2_with fail
  refine (O.out.act 0 (show (al4.names, 0) = (al5, 0) from rfl) rfl fun S hS => Names_any hS).mono ?_
  rintro _ w8 ⟨rfl, h1, h2⟩
  have O := Lib.hid h1; have B := Lib.hid (B.out.trans h2); clear h1 h2
  go_wp2_with fail
  refine (O.out.act 0 al6e rfl fun S hS => Rename_any hS ⟨#[97]⟩ ⟨#[98]⟩ (by decide) (by decide)).mono ?_
  rintro _ w9 ⟨rfl, h1, h2⟩
  have O := Lib.hid h1; have B := Lib.hid (B.out.trans h2); clear h1 h2
  go_wp2_with fail
  obtain ⟨S9, hS9⟩ := O.out
  have h9 := Read_any hS9 ⟨#[98]⟩ (by decide) 5 3 (by decide) (by decide)
  rw [al7] at h9
  have H9 := Lib.hid h9
  clear h9 hS9
  refine H9.out.mono ?_
  rintro _ w10 ⟨v9, rfl, ho, hb⟩
  obtain ⟨ra, rc, rfl⟩ := ho.sl
  have B := Lib.hid (B.out.trans (hb.mono O.out.base)); have O := Lib.hid (O.out.later hb)
  clear ho hb H9
  go_wp2_with fail
  obtain ⟨S9, hS9⟩ := O.out
  have h9 := Read_any hS9 ⟨#[97]⟩ (by decide) 0 0 (by decide) (by decide)
  rw [al8] at h9
  have H9 := Lib.hid h9
  clear h9 hS9
  refine H9.out.mono ?_
  rintro _ w11 ⟨v9, rfl, ho, hb⟩
  obtain ⟨qa, qc, rfl⟩ := ho.sl
  have B := Lib.hid (B.out.trans (hb.mono O.out.base)); have O := Lib.hid (O.out.later hb)
  clear ho hb H9
  go_wp2_with fail
  obtain ⟨S9, hS9⟩ := O.out
  have h9 := Left_any hS9
  rw [al9] at h9
  have H9 := Lib.hid h9
  clear h9 hS9
  refine H9.out.mono ?_
  rintro _ w12 ⟨rfl, hb⟩
  clear H9
  have B := Lib.hid (B.out.trans (hb.mono O.out.base))
  have O := Lib.hid (O.out.later hb)
  clear hb
  go_wp2_with fail
  obtain ⟨S9, hS9⟩ := O.out
  have h9 := List_any hS9
  rw [al10l] at h9
  have H9 := Lib.hid h9
  clear h9 hS9
  refine H9.out.mono ?_
  rintro _ w13 ⟨v9, rfl, ho, hb⟩
  have T := Lib.hid ho.at_
  obtain ⟨ta, tc, rfl⟩ := ho.sl
  clear ho H9
  have B := Lib.hid (B.out.trans (hb.mono O.out.base))
  have O := Lib.hid (O.out.later hb)
  clear hb
  go_wp2_with fail
  obtain ⟨w14, e9⟩ : ∃ w14 : World, w14 = w13.alloc (.cells #[.string ⟨#[98]⟩] 9) := ⟨_, rfl⟩
  have hb : Below w13.heap.size w13 w14 := by rw [e9]; exact (Below.refl _ _).alloc (Nat.le_refl _) _
  have K9 := Lib.hid (show SAt w14 (.slice (some ⟨w13.heap.size, 0, none⟩) 1 1) [⟨#[98]⟩] by rw [e9]; exact sat_lit _ _ _)
  rw [← e9]
  clear e9
  have B := Lib.hid (B.out.trans (hb.mono O.out.base))
  have O := Lib.hid (O.out.later hb)
  have T := Lib.hid (T.out.later hb)
  clear hb
  refine (texts_same _ w14 T.out K9.out).mono ?_
  rintro _ w15 ⟨rfl, n9, e9⟩
  have hb : Below w14.heap.size w14 w15 := by rw [e9]; exact below_drewN9 _ _
  clear e9 K9
  have B := Lib.hid (B.out.trans (hb.mono O.out.base))
  have O := Lib.hid (O.out.later hb)
  have T := Lib.hid (T.out.later hb)
  clear hb
  clear T
  go_wp2_with fail
  obtain ⟨S9, hS9⟩ := O.out
  have h9 := Fail_yes hS9 1 false (by decide)
  have H9 := Lib.hid h9
  clear h9 hS9
  refine H9.out.mono ?_
  rintro _ w16 ⟨X, rfl, hx, hb⟩
  have OX := Lib.hid (show One w16 w.heap.size X (al6.fail 1 false) from ⟨_, hx.down O.out.base⟩)
  clear hx H9
  have B := Lib.hid (B.out.trans (hb.mono O.out.base))
  have O := Lib.hid (O.out.later hb)
  clear hb
  go_wp2_with fail
  obtain ⟨S9, hS9⟩ := O.out
  have h9 := Fail_yes hS9 0 true (by decide)
  have H9 := Lib.hid h9
  clear h9 hS9
  refine H9.out.mono ?_
  rintro _ w17 ⟨Y, rfl, hx, hb⟩
  have OY := Lib.hid (show One w17 w.heap.size Y (al6.fail 0 true) from ⟨_, hx.down O.out.base⟩)
  clear hx H9
  have B := Lib.hid (B.out.trans (hb.mono O.out.base))
  have O := Lib.hid (O.out.later hb)
  have OX := Lib.hid (OX.out.later hb)
  clear hb
  go_wp2_with fail
  obtain ⟨S9, hS9⟩ := OY.out
  have h9 := Size_any hS9 ⟨#[98]⟩ (by decide)
  rw [al11] at h9
  have H9 := Lib.hid h9
  clear h9 hS9
  refine H9.out.mono ?_
  rintro _ w18 ⟨rfl, hb⟩
  clear H9
  have B := Lib.hid (B.out.trans (hb.mono O.out.base))
  have O := Lib.hid (O.out.later hb)
  have OX := Lib.hid (OX.out.later hb)
  have OY := Lib.hid (OY.out.later hb)
  clear hb
  go_wp2_with fail
  obtain ⟨S9, hS9⟩ := OX.out
  have h9 := List_any hS9
  rw [al12l] at h9
  have H9 := Lib.hid h9
  clear h9 hS9
  refine H9.out.mono ?_
  rintro _ w19 ⟨v9, rfl, ho, hb⟩
  have T := Lib.hid ho.at_
  obtain ⟨ta, tc, rfl⟩ := ho.sl
  clear ho H9
  have B := Lib.hid (B.out.trans (hb.mono O.out.base))
  have O := Lib.hid (O.out.later hb)
  have OX := Lib.hid (OX.out.later hb)
  have OY := Lib.hid (OY.out.later hb)
  clear hb
  go_wp2_with fail
  obtain ⟨w20, e9⟩ : ∃ w20 : World, w20 = w19.alloc (.cells #[.string ⟨#[97]⟩] 9) := ⟨_, rfl⟩
  have hb : Below w19.heap.size w19 w20 := by rw [e9]; exact (Below.refl _ _).alloc (Nat.le_refl _) _
  have K9 := Lib.hid (show SAt w20 (.slice (some ⟨w19.heap.size, 0, none⟩) 1 1) [⟨#[97]⟩] by rw [e9]; exact sat_lit _ _ _)
  rw [← e9]
  clear e9
  have B := Lib.hid (B.out.trans (hb.mono O.out.base))
  have O := Lib.hid (O.out.later hb)
  have OX := Lib.hid (OX.out.later hb)
  have OY := Lib.hid (OY.out.later hb)
  have T := Lib.hid (T.out.later hb)
  clear hb
  refine (texts_same _ w20 T.out K9.out).mono ?_
  rintro _ w21 ⟨rfl, n9, e9⟩
  have hb : Below w20.heap.size w20 w21 := by rw [e9]; exact below_drewN9 _ _
  clear e9 K9
  have B := Lib.hid (B.out.trans (hb.mono O.out.base))
  have O := Lib.hid (O.out.later hb)
  have OX := Lib.hid (OX.out.later hb)
  have OY := Lib.hid (OY.out.later hb)
  have T := Lib.hid (T.out.later hb)
  clear hb
  clear T
  go_wp2_with fail
  obtain ⟨S9, hS9⟩ := OX.out
  have h9 := All_any hS9 ⟨#[97]⟩ (by decide)
  rw [al13] at h9
  have H9 := Lib.hid h9
  clear h9 hS9
  refine H9.out.mono ?_
  rintro _ w22 ⟨rfl, hb⟩
  clear H9
  have B := Lib.hid (B.out.trans (hb.mono O.out.base))
  have O := Lib.hid (O.out.later hb)
  have OX := Lib.hid (OX.out.later hb)
  have OY := Lib.hid (OY.out.later hb)
  clear hb
  clear OX OY
  have hmk := mk4
  go_wp2_with fail
  obtain ⟨w23, e9⟩ : ∃ w23 : World, w23 = w22.alloc (.cells (cellsK .u8 [0, 0, 0, 0]).toArray 5) := ⟨_, rfl⟩
  have hb : Below w22.heap.size w22 w23 := by rw [e9]; exact (Below.refl _ _).alloc (Nat.le_refl _) _
  have K9 := Lib.hid (show KAt .u8 w23 (.slice (some ⟨w22.heap.size, 0, none⟩) 4 4) [0, 0, 0, 0] by rw [e9]; exact kat_lit _ _ _ _ (by decide))
  change Calls _ _ _ (w22.alloc (.cells (cellsK .u8 [0, 0, 0, 0]).toArray 5)) _
  rw [← e9]
  clear e9 hmk
  have B := Lib.hid (B.out.trans (hb.mono O.out.base))
  have O := Lib.hid (O.out.later hb)
  clear hb
  refine (O.out.act 6 al14 rfl fun S hS => Append_any hS ⟨#[98]⟩ (by decide) K9.out (by unfold Bytes; decide)).mono ?_
  rintro _ w24 ⟨rfl, h1, h2⟩
  have O := Lib.hid h1; have B := Lib.hid (B.out.trans h2); clear h1 h2 K9
  go_wp2_with fail
  refine (O.out.act 1 al15 rfl fun S hS => Create_any hS ⟨#[65]⟩ (by decide)).mono ?_
  rintro _ w25 ⟨rfl, h1, h2⟩
  have O := Lib.hid h1; have B := Lib.hid (B.out.trans h2); clear h1 h2
  go_wp2_with fail
  refine (O.out.act 8 al16 rfl fun S hS => Create_any hS ⟨#[98]⟩ (by decide)).mono ?_
  rintro _ w26 ⟨rfl, h1, h2⟩
  have O := Lib.hid h1; have B := Lib.hid (B.out.trans h2); clear h1 h2
  go_wp2_with fail
  go_ret
  exact ⟨rfl, B.out⟩
end Go.Proofs.YtjfejpdeccnlnaaDoor
