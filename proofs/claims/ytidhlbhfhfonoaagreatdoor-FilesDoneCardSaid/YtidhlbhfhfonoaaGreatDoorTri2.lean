/- Layer 17: what is looked at of a disk and of the reference's one. -/
import Derived.Test.YtidhlbhfhfonoaaGreatDoorTri
namespace Go.Proofs.YtidhlbhfhfonoaaGreatDoor
open Go.ChangeShapes Go.WideShapes Go.ChangeAt Go.RowKit
section
variable {K : Nat → Prop} {w : World} {C D E B q : Nat} {M : Dm} {R : Rf}
theorem Tri.sizeD (T : Tri K w C D E B q M R) (s : ByteArray) (hs : s.size ≤ 140737488355328) : Calls Tryz.prog 39 #[.pointer (some ⟨D, 0, none⟩), .string s] w fun e w' => e = .returned (.tuple #[.int .i64 (M.sizeE s).1, .int .i64 (M.sizeE s).2]) ∧ Below w.heap.size w w' := by
  obtain ⟨S1, S2, S3, h1, _⟩ := T
  exact Size_any h1 s hs
theorem Tri.sizeR (T : Tri K w C D E B q M R) (hr : ∃ f, Rel M R f) (hf : R.rows.length ≤ 1000000) (s : ByteArray) (hs : s.size ≤ 140737488355328) : Calls Tryz.prog 40 #[.pointer (some ⟨E, 0, none⟩), .string s] w fun e w' => e = .returned (.tuple #[.int .i64 (M.sizeE s).1, .int .i64 (M.sizeE s).2]) ∧ Below w.heap.size w w' := by
  obtain ⟨S1, S2, h⟩ := T.both hr hf
  exact h.size s hs
theorem Tri.leftD (T : Tri K w C D E B q M R) : Calls Tryz.prog 41 #[.pointer (some ⟨D, 0, none⟩)] w fun e w' => e = .returned (.int .i64 M.left) ∧ Below w.heap.size w w' := by
  obtain ⟨S1, S2, S3, h1, _⟩ := T
  exact Left_any h1
theorem Tri.leftR (T : Tri K w C D E B q M R) (hr : ∃ f, Rel M R f) (hf : R.rows.length ≤ 1000000) : Calls Tryz.prog 42 #[.pointer (some ⟨E, 0, none⟩)] w fun e w' => e = .returned (.int .i64 M.left) ∧ Below w.heap.size w w' := by
  obtain ⟨S1, S2, h⟩ := T.both hr hf
  exact h.left
theorem Tri.readD (T : Tri K w C D E B q M R) (s : ByteArray) (hs : s.size ≤ 140737488355328) (at_ n : Int) (ha : -9223372036854775808 ≤ at_ ∧ at_ ≤ 9223372036854775807) (hn : -9223372036854775808 ≤ n ∧ n ≤ 9223372036854775807) :
    Calls Tryz.prog 34 #[.pointer (some ⟨D, 0, none⟩), .string s, .int .i64 at_, .int .i64 n] w fun e w' => ∃ v, e = .returned (.tuple #[v, .int .i64 (M.readE s at_ n).2]) ∧ Own w' w.heap.size v (M.readE s at_ n).1 ∧ Below w.heap.size w w' := by
  obtain ⟨S1, S2, S3, h1, _⟩ := T
  exact Read_any h1 s hs at_ n ha hn
theorem Tri.readR (T : Tri K w C D E B q M R) (hr : ∃ f, Rel M R f) (hf : R.rows.length ≤ 1000000) (s : ByteArray) (hs : s.size ≤ 140737488355328) (at_ n : Int) (ha : -9223372036854775808 ≤ at_ ∧ at_ ≤ 9223372036854775807) (hn : -9223372036854775808 ≤ n ∧ n ≤ 9223372036854775807) :
    Calls Tryz.prog 35 #[.pointer (some ⟨E, 0, none⟩), .string s, .int .i64 at_, .int .i64 n] w fun e w' => ∃ v, e = .returned (.tuple #[v, .int .i64 (M.readE s at_ n).2]) ∧ KAt .u8 w' v (M.readE s at_ n).1 ∧ Below w.heap.size w w' := by
  obtain ⟨S1, S2, h⟩ := T.both hr hf
  exact h.read s hs at_ n ha hn
theorem Tri.failD_no (T : Tri K w C D E B q M R) (keep : Int) (names : Bool) (hk : keep < 0) : Calls Tryz.prog 21 #[.pointer (some ⟨D, 0, none⟩), .int .i64 keep, .bool names] w fun e w' => e = .returned (.tuple #[.pointer none, .int .i64 1]) ∧ Below w.heap.size w w' := by
  obtain ⟨S1, S2, S3, h1, _⟩ := T
  exact Fail_no h1 keep names hk
theorem Tri.failD (T : Tri K w C D E B q M R) (keep : Nat) (names : Bool) (hk : keep ≤ 9223372036854775807) : Calls Tryz.prog 21 #[.pointer (some ⟨D, 0, none⟩), .int .i64 keep, .bool names] w fun e w' => ∃ X, e = .returned (.tuple #[.pointer (some ⟨X, 0, none⟩), .int .i64 0]) ∧ Dk w' w.heap.size X (M.fail keep names) (fun g => w.heap.size ≤ g ∧ g < w'.heap.size) ∧ Below w.heap.size w w' := by
  obtain ⟨S1, S2, S3, h1, _⟩ := T
  exact Fail_yes h1 keep names hk
theorem Tri.failR (T : Tri K w C D E B q M R) (ok : RfOk R) (keep : Nat) (names : Bool) (hk : keep ≤ 9223372036854775807) (hf : R.rows.length ≤ 1000000) : Calls Tryz.prog 22 #[.pointer (some ⟨E, 0, none⟩), .int .i64 keep, .bool names] w fun e w' => e = .returned (.tuple #[.pointer (some ⟨w.heap.size, 0, none⟩), .int .i64 0]) ∧ (∃ S', Rk w' w.heap.size w.heap.size (R.fail keep names) S') ∧ Below w.heap.size w w' := by
  obtain ⟨S1, S2, S3, h1, h2, _⟩ := T
  exact RFail_yes h2 ok keep hk names hf
theorem Tri.same (T : Tri K w C D E B q M R) (hr : ∃ f, Rel M R f) (hf : R.rows.length ≤ 1000000) : Calls Tryz.prog 26 #[.pointer (some ⟨D, 0, none⟩), .pointer (some ⟨E, 0, none⟩)] w fun e w' => e = .returned (.bool true) ∧ Below w.heap.size w w' := by
  obtain ⟨S1, S2, h⟩ := T.both hr hf
  exact Same_any h
theorem Tri.apart (T : Tri K w C D E B q M R) (hq : q < 1000) : Calls Tryz.prog 28 #[.pointer (some ⟨B, 0, none⟩)] w fun e w' => e = .returned (.bool true) ∧ Below C w w' := by
  obtain ⟨S1, S2, S3, h1, h2, h3, _⟩ := T
  exact (h3.apartByte hq).mono fun e w' h => ⟨h.1, h.2.1⟩
end
theorem read_len {M : Dm} (ok : M.ok) (s : ByteArray) (at_ n : Int) : (M.readE s at_ n).1.length ≤ 1048576 := by
  unfold Dm.readE
  split
  · split
    · cases hf : find M.now s with
      | none =>
        dsimp only [Option.map_none, Option.getD_none]
        split <;> simp
      | some i =>
        simp only [Option.map_some, Option.getD_some]
        have hr : (M.row i).l.length ≤ 1048576 := by
          rcases hr : M.rows[M.file i]? with _ | r
          · simp [Dm.row, List.getD, hr]
          · have := (ok.rl _ r hr).1
            simpa [Dm.row, List.getD, hr] using this
        split
        · simp only [List.length_take, List.length_drop]; omega
        · simp
    · simp
  · simp
end Go.Proofs.YtidhlbhfhfonoaaGreatDoor
