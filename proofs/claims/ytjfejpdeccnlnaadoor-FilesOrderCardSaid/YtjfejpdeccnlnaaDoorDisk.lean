/- Layer 17 (files): a disk in memory; goes, at, finds. -/
import Derived.Test.YtjfejpdeccnlnaaDoorFm
import Derived.Test.YtjfejpdeccnlnaaDoorShelf
import Derived.Test.YtjfejpdeccnlnaaDoorRows
import Derived.ProofKit
import Derived.OpenShut
import Derived.WalkLawsBesides
import Derived.Deep.QuietTactic
import Derived.BigQuiet
import Derived.BigRegion
import Derived.Outline
import Derived.LoopTactic
import Derived.Deep.MidRow
import Derived.Great.Walk
import Derived.Shelf.Strings.SlTrimAscii
namespace Go.Proofs.YtjfejpdeccnlnaaDoor
open Go.ChangeShapes Go.WideShapes Go.ChangeAt Go.RowKit

theorem trim_nil (l : List UInt8) : ((⟨(Lib.trimLeftS l mayB).toArray⟩ : ByteArray) = ⟨#[]⟩) ↔ l.all (fun b => mayB.contains b) = true := by
  have h1 : ((⟨(Lib.trimLeftS l mayB).toArray⟩ : ByteArray) = ⟨#[]⟩) ↔ Lib.trimLeftS l mayB = [] := by
    constructor
    · intro h
      have := congrArg (fun x : ByteArray => x.data.toList) h
      simpa using this
    · intro h
      rw [h]
  rw [h1]
  unfold Lib.trimLeftS
  clear h1
  induction l with
  | nil => simp
  | cons a l ih =>
    rw [List.dropWhile_cons, List.all_cons]
    cases h : mayB.contains a
    · simp
    · simpa using ih
theorem TrimLeft_may (s : ByteArray) (w : World) : Calls Tryd.prog 56 #[.string s, .string ⟨#[97, 98, 99, 100, 101, 102, 103, 104, 105, 106, 107, 108, 109, 110, 111, 112, 113, 114, 115, 116, 117, 118, 119, 120, 121, 122, 48, 49, 50, 51, 52, 53, 54, 55, 56, 57, 45, 46]⟩] w fun e w' => e = .returned (.string ⟨(Lib.trimLeftS s.data.toList mayB).toArray⟩) ∧ Below w.heap.size w w' :=
  Any.strings_TrimLeft_laid Tryd.lays161 (by kernel_rfl) s ⟨#[97, 98, 99, 100, 101, 102, 103, 104, 105, 106, 107, 108, 109, 110, 111, 112, 113, 114, 115, 116, 117, 118, 119, 120, 121, 122, 48, 49, 50, 51, 52, 53, 54, 55, 56, 57, 45, 46]⟩ w (by decide) (ascii_of_all (by decide))
theorem size_zero {s : ByteArray} : s.size = 0 ↔ s = ⟨#[]⟩ := by
  constructor
  · intro h
    cases s with
    | mk d => congr; exact Array.eq_empty_of_size_eq_zero h
  · rintro rfl
    rfl
theorem list_eq_str (a b : ByteArray) : (a.toList == b.toList) = decide (a = b) := by
  rw [ByteArray.toList_eq, ByteArray.toList_eq]
  by_cases h : a = b
  · subst h
    simp
  · have h2 : a.data.toList ≠ b.data.toList := fun e => h (bytes_inj e)
    rw [decide_eq_false h]
    simpa using h2
theorem ne_nil {s : ByteArray} (h : s ≠ ⟨#[]⟩) : s.toList ≠ [] ∧ s.toList.isEmpty = false := by
  have h1 : s.toList ≠ [] := fun e => by
    rw [ByteArray.toList_eq] at e
    exact h (bytes_inj e)
  exact ⟨h1, by cases hl : s.toList with | nil => exact absurd hl h1 | cons _ _ => rfl⟩
theorem eq_str (a b : ByteArray) (w : World) : (binOp .eql 9 (.string a) (.string b)).run Tryd.prog w = .ok (.bool (decide (a = b))) w := by
  go_simp
  exact list_eq_str a b
theorem ne_str (a b : ByteArray) (w : World) : (binOp .neq 9 (.string a) (.string b)).run Tryd.prog w = .ok (.bool (decide (a ≠ b))) w := by
  go_simp
  rw [list_eq_str a b]
set_option maxRecDepth 20000 in
set_option maxHeartbeats 1500000 in
theorem goes_any (w : World) (D n : Nat) (h : w.cell? ⟨D, 0, none⟩ = some (.int .i64 n)) (hn : 1 ≤ n) (ok : Bool) (s : ByteArray) (hs : s.size ≤ 140737488355328) :
    Calls Tryd.prog 41 #[.pointer (some ⟨D, 0, none⟩), .bool ok, .string s] w fun e w' => e = .returned (.int .i64 (if ok && nameOk s then 0 else 1)) ∧ Below w.heap.size w w' := by
  have HT := Lib.hid (TrimLeft_may s w)
  cases ok with
  | false =>
    clear HT
    go_enter Tryd.func41, Tryd.ntmps41
    go_wp2_with fail
    go_ret
    exact ⟨rfl, Below.refl _ _⟩
  | true =>
    by_cases h0 : s = ⟨#[]⟩
    · subst h0
      clear HT
      go_enter Tryd.func41, Tryd.ntmps41
      go_wp2_with fail
      go_ret
      exact ⟨rfl, Below.refl _ _⟩
    · have hz : s.size ≠ 0 := fun e => h0 (size_zero.1 e)
      obtain ⟨hq, hq2⟩ := ne_nil h0
      by_cases h16 : 16 < s.size
      · have e : nameOk s = false := by
          unfold nameOk
          rw [show decide (s.size ≤ 16) = false by simpa using h16]
          simp
        rw [e]
        clear HT
        go_enter Tryd.func41, Tryd.ntmps41
        go_wp2_with fail
        go_ret
        exact ⟨rfl, Below.refl _ _⟩
      · have e : nameOk s = s.data.toList.all (fun b => mayB.contains b) := by
          unfold nameOk
          rw [show decide (s.size ≤ 16) = true by simpa using h16, show decide (s.size ≠ 0) = true by simpa using hz]
          simp
        rw [e]
        have ht := trim_nil s.data.toList
        obtain ⟨r, hr'⟩ : ∃ r, r = (⟨(Lib.trimLeftS s.data.toList mayB).toArray⟩ : ByteArray) := ⟨_, rfl⟩
        rw [← hr'] at HT ht
        cases ha : s.data.toList.all (fun b => mayB.contains b) with
        | true =>
          have hr := ht.2 ha
          subst hr
          clear ht ha e hr' h0 hz
          go_enter Tryd.func41, Tryd.ntmps41
          go_wp2_with fail
          refine (HT.out).mono ?_
          rintro _ w1 ⟨rfl, hb⟩
          have HB := Lib.hid hb
          clear hb
          go_wp2_with fail
          go_ret
          exact ⟨rfl, HB.out⟩
        | false =>
          have hr : r ≠ ⟨#[]⟩ := fun x => by rw [ht.1 x] at ha; cases ha
          obtain ⟨hn, hn2⟩ := ne_nil hr
          clear ht ha hr e hr' h0 hz
          go_enter Tryd.func41, Tryd.ntmps41
          go_wp2_with fail
          refine (HT.out).mono ?_
          rintro _ w1 ⟨rfl, hb⟩
          have HB := Lib.hid hb
          clear hb
          go_wp2_with fail
          go_ret
          exact ⟨rfl, HB.out⟩
end Go.Proofs.YtjfejpdeccnlnaaDoor
