/- Layer 17 (files): pieces of a text. -/
import Derived.Test.YtjfejpdeccnlnaaDoorAliveF
import Derived.Test.YtjfejpdeccnlnaaDoorDiskOps
import Derived.Test.YtjfejpdeccnlnaaDoorGoneM
namespace Go.Proofs.YtjfejpdeccnlnaaDoor
open Go.ChangeShapes Go.WideShapes Go.ChangeAt Go.RowKit

set_option linter.unusedSimpArgs false in
theorem cut_both {w : World} (s : ByteArray) (a c : Nat) (h1 : a ≤ c) (h2 : c ≤ s.size) : (Instr.sliceAt 9 (.string s) (some (.int .i64 a)) (some (.int .i64 c)) none).run Tryd.prog w = .ok (.string (s.extract a c)) w := by
  have hu := Tryd.underlying9
  have e1 : (0 : Int) ≤ a := by omega
  have e2 : (a : Int) ≤ c := by omega
  have e3 : (0 : Int) ≤ c := by omega
  have e4 : (c : Int) ≤ s.size := by omega
  have e5 : max (c : Int) 0 = c := by omega
  simp [e5, Instr.sliceAt, Instr.slice, Instr.sliceBounds, Instr.sliceBound, asIntOf, hu, h1, h2, e1, e2, e3, e4]
set_option linter.unusedSimpArgs false in
theorem cut_from {w : World} (s : ByteArray) (a : Nat) (h1 : a ≤ s.size) : (Instr.sliceAt 9 (.string s) (some (.int .i64 a)) none none).run Tryd.prog w = .ok (.string (s.extract a s.size)) w := by
  have hu := Tryd.underlying9
  have e1 : (0 : Int) ≤ a := by omega
  have e2 : (a : Int) ≤ s.size := by omega
  simp [Instr.sliceAt, Instr.slice, Instr.sliceBounds, Instr.sliceBound, asIntOf, hu, h1, e1, e2]
set_option linter.unusedSimpArgs false in
theorem cut_to {w : World} (s : ByteArray) (c : Nat) (h1 : c ≤ s.size) : (Instr.sliceAt 9 (.string s) none (some (.int .i64 c)) none).run Tryd.prog w = .ok (.string (s.extract 0 c)) w := by
  have hu := Tryd.underlying9
  have e1 : (0 : Int) ≤ c := by omega
  have e2 : (c : Int) ≤ s.size := by omega
  simp [Instr.sliceAt, Instr.slice, Instr.sliceBounds, Instr.sliceBound, asIntOf, hu, h1, e1, e2]
theorem nums_extract (s : ByteArray) (a c : Nat) : nums (s.extract a c) = ((nums s).take c).drop a := by
  unfold nums
  have : (s.extract a c).data = s.data.extract a c := by simp [ByteArray.data_extract]
  rw [this, Array.toList_extract, List.extract_eq_take_drop, List.map_take, List.map_drop, List.drop_take]
theorem size_extract (s : ByteArray) (a c : Nat) (h1 : a ≤ c) (h2 : c ≤ s.size) : (s.extract a c).size = c - a := by
  rw [ByteArray.size_extract]
  omega
/-- One file, of which the first a bytes are there, and m are safe. -/
def pc (b : ByteArray) (a m : Nat) : Dm := one1 50000 ⟨#[102]⟩ 0 (List.replicate 64 free) [⟨(nums b).take a, m⟩]
theorem pc_create : (new0 50000).create ⟨#[102]⟩ = (one1 50000 ⟨#[102]⟩ 0 (List.replicate 64 free) [⟨[], 0⟩], 0) := free_create (by decide)
theorem pc_zero (b : ByteArray) : one1 50000 ⟨#[102]⟩ 0 (List.replicate 64 free) [⟨[], 0⟩] = pc b 0 0 := by simp [pc]
theorem pc_append (b : ByteArray) (a c m : Nat) (h1 : a ≤ c) (h2 : c ≤ b.size) (h3 : b.size ≤ 20000) : (pc b a m).append ⟨#[102]⟩ (nums (b.extract a c)) = (pc b c m, 0) := by
  have hl : (nums b).length = b.size := nums_length b
  have hr : ([⟨(nums b).take a, m⟩] : List Rw)[0]? = some ⟨(nums b).take a, m⟩ := rfl
  unfold pc
  rw [one1_append (r := ⟨(nums b).take a, m⟩) (by decide) hr]
  · congr 2
    show ([⟨(nums b).take a ++ nums (b.extract a c), m⟩] : List Rw) = _
    rw [nums_extract]
    have : (nums b).take a ++ ((nums b).take c).drop a = (nums b).take c := by
      have h9 := List.take_append_drop a ((nums b).take c)
      rw [List.take_take, Nat.min_eq_left h1] at h9
      exact h9
    rw [this]
  · rw [nums_length, size_extract b a c h1 h2]
    simp only [List.length_take]
    omega
  · rw [nums_length, size_extract b a c h1 h2]
    simp only [List.length_take]
    omega
theorem pc_sync (b : ByteArray) (a m : Nat) (h : a ≤ b.size) : (pc b a m).sync ⟨#[102]⟩ = (pc b a a, 0) := by
  unfold pc
  rw [one1_sync (r := ⟨(nums b).take a, m⟩) (by decide) rfl]
  congr 2
  show ([⟨(nums b).take a, ((nums b).take a).length⟩] : List Rw) = _
  rw [List.length_take, nums_length, Nat.min_eq_left h]
theorem kat16_of_ints {w : World} {v : Value} {l : List Int} (h : IntsAt w .u16 v l) : ∃ l' : List Nat, KAt .u16 w v l' ∧ (∀ x ∈ l', x < 65536) := by
  obtain ⟨ao, cap, rfl, h1, h2, h3, h4, h5⟩ := h
  refine ⟨l.map Int.toNat, ?_, ?_⟩
  · refine ⟨ao, cap, by simp, by simpa using h1, h2, h3, fun h0 => ?_⟩
    rw [List.length_map] at h0
    obtain ⟨b, o, hb, _⟩ := h5 0 h0
    refine ⟨b, o, hb, fun i x hx => ?_⟩
    rw [List.getElem?_map] at hx
    obtain ⟨y, hy, rfl⟩ := Option.map_eq_some_iff.1 hx
    obtain ⟨hi, hy'⟩ := List.getElem?_eq_some_iff.1 hy
    obtain ⟨b', o', hb', hc⟩ := h5 i hi
    rw [hb] at hb'
    cases hb'
    rw [hc, hy']
    have hw := bounds_u16 (h4 y (List.mem_of_getElem? hy))
    rw [Int.toNat_of_nonneg hw.1]
  · intro x hx
    obtain ⟨y, hy, rfl⟩ := List.mem_map.1 hx
    have hw := bounds_u16 (h4 y hy)
    omega
end Go.Proofs.YtjfejpdeccnlnaaDoor
