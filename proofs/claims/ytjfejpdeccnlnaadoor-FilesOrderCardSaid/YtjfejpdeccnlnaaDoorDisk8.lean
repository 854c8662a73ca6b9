/- Layer 17 (files): New; a disk that is built. -/
import Derived.Test.YtjfejpdeccnlnaaDoorDisk7
namespace Go.Proofs.YtjfejpdeccnlnaaDoor
open Go.ChangeShapes Go.WideShapes Go.ChangeAt Go.RowKit

theorem New_no (n : Int) (w : World) (h : n < 1 ∨ 8388608 < n) :
    Calls Tryd.prog 9 #[.int .i64 n] w fun e w' => e = .returned (.tuple #[.pointer none, .int .i64 1]) ∧ w = w' := by
  by_cases h1 : n < 1
  · go_enter Tryd.func9, Tryd.ntmps9
    go_wp2_with fail
    go_ret2
    exact ⟨rfl, rfl⟩
  · have h2 : 8388608 < n := by omega
    have h3 : ¬ (n < 1) := h1
    go_enter Tryd.func9, Tryd.ntmps9
    go_wp2_with fail
    go_ret2
    exact ⟨rfl, rfl⟩
theorem built_disk : (fun parts => Tryd.prog.built 72 parts) = fun parts => Instr.fill (#[(0, 1), (1, 128), (129, 128)][·]?) (dc (new0 0) fun _ => 0).toArray parts := by kernel_rfl
theorem zip_setL (off : Nat) : ∀ (l : List Value) (k : Nat) (cs : Array Value), ((l.zipIdx k).foldl (fun (cs : Array Value) (x : Value × Nat) => cs.setIfInBounds (off + x.2) x.1) cs).toList = setL cs.toList (off + k) l
  | [], _, _ => rfl
  | v :: l, k, cs => by
    rw [List.zipIdx_cons, List.foldl_cons, zip_setL off l (k + 1), setL]
    simp [Nat.add_assoc]
theorem fill_parts (v : Value) (off : Nat) (cs : Array Value) : (v.cells.zipIdx.foldl (fun cs (c, j) => cs.setIfInBounds (off + j) c) cs) = (setL cs.toList off v.cells.toList).toArray := by
  apply Array.ext'
  have := zip_setL off v.cells.toList 0 cs
  rw [Nat.add_zero] at this
  rw [← this]
  rw [← Array.foldl_toList]
  simp
theorem setL_length : ∀ (vs : List Value) (o : Nat) (l : List Value), (setL l o vs).length = l.length
  | [], _, _ => rfl
  | v :: vs, o, l => by rw [setL, setL_length vs, List.length_set]
theorem fill_step {place : Nat → Option (Nat × Nat)} {cells : Array Value} {i off size : Nat} {v : Value} {rest : List (Nat × Value)} (hp : place i = some (off, size)) (hs : v.cells.size = size) (hb : off + size ≤ cells.size) :
    Instr.fill place cells ((i, v) :: rest) = Instr.fill place (setL cells.toList off v.cells.toList).toArray rest := by
  rw [← fill_parts]
  conv => lhs; unfold Instr.fill
  rw [hp]
  have hc : (v.cells.size ≠ size || off + v.cells.size > cells.size) = false := by simp [hs]; omega
  dsimp only
  rw [hc]
  rfl
theorem built_both (n : Int) (cs : List Value) (hl : cs.length = 128) : Tryd.prog.built 72 [(0, .int .i64 n), (1, .agg cs.toArray)] = some (.int .i64 n :: (cs ++ tab (fun _ => 0) (List.replicate 64 free))).toArray := by
  have h := congrFun built_disk [(0, .int .i64 n), (1, .agg cs.toArray)]
  rw [h]
  have h1 : (Value.agg cs.toArray).cells = cs.toArray := rfl
  have h2 : (Value.int .i64 n).cells = #[.int .i64 n] := rfl
  have hz : (dc (new0 0) fun _ => 0) = .int .i64 0 :: (tab (fun _ => 0) (List.replicate 64 free) ++ tab (fun _ => 0) (List.replicate 64 free)) := rfl
  have hzl : (tab (fun _ => 0) (List.replicate 64 free)).length = 128 := by rw [tab_length]; rfl
  rw [hz]
  generalize tab (fun _ => 0) (List.replicate 64 free) = Z at hzl ⊢
  have e0 : (#[(0, 1), (1, 128), (129, 128)] : Array (Nat × Nat))[0]? = some (0, 1) := rfl
  have e1 : (#[(0, 1), (1, 128), (129, 128)] : Array (Nat × Nat))[1]? = some (1, 128) := rfl
  generalize (#[(0, 1), (1, 128), (129, 128)] : Array (Nat × Nat)) = pl at e0 e1 ⊢
  have hm := setL_mid cs [.int .i64 n] Z Z (by omega)
  simp only [List.singleton_append, List.length_singleton] at hm
  rw [fill_step e0 rfl (by simp), h2]
  simp only [setL, List.set_cons_zero]
  rw [fill_step e1 (by rw [h1, List.size_toArray, hl]) (by simp; omega), h1]
  simp only [hm]
  rfl
theorem tab_free (rb : Nat → Nat) : tab rb (List.replicate 64 free) = tab (fun _ => 0) (List.replicate 64 free) := tab_congr fun p hp k hk => by
  rw [List.eq_of_mem_replicate hp] at hk
  cases hk
theorem zero_disk : Tryd.zeroCells72 = (dc (new0 0) fun _ => 0).toArray := by kernel_rfl
theorem zero_set (n : Nat) : Tryd.zeroCells72.setIfInBounds 0 (.int .i64 n) = (dc (new0 n) fun _ => 0).toArray := by
  rw [zero_disk, List.setIfInBounds_toArray]
  unfold dc
  rw [List.set_cons_zero]
  rfl
set_option maxRecDepth 20000 in
theorem New_yes (n : Nat) (w : World) (h1 : 1 ≤ n) (h2 : n ≤ 8388608) :
    Calls Tryd.prog 9 #[.int .i64 n] w fun e w' => e = .returned (.tuple #[.pointer (some ⟨w.heap.size, 0, none⟩), .int .i64 0]) ∧ Dk w' w.heap.size w.heap.size (new0 n) (fun g => g = w.heap.size) ∧ Below w.heap.size w w' := by
  have hnI1 : (1 : Int) ≤ n := by omega
  have hnI2 : (n : Int) ≤ 8388608 := by omega
  go_enter Tryd.func9, Tryd.ntmps9
  go_wp2_with fail
  go_ret2
  refine ⟨rfl, ?_, (Below.refl _ _).alloc (Nat.le_refl _) _⟩
  rw [zero_set]
  have hrows : ∀ k, ¬ k < (new0 n).rows.length := fun k hk => by simp [new0] at hk
  refine ⟨⟨fun _ => 0, fun _ => .slice none 0 0, ⟨new0_ok h1 h2, heap_alloc_new w _, fun k r hr => absurd (List.getElem?_eq_some_iff.1 hr).1 (hrows k), Nat.le_refl _, fun k hk => absurd hk (hrows k), fun j k hj _ => absurd hj (hrows j)⟩, fun g hg => ?_⟩, fun g hg => ?_⟩
  · rcases hg with rfl | ⟨k, hk, _⟩
    · rfl
    · exact absurd hk (hrows k)
  · subst hg
    exact ⟨Nat.le_refl _, by simp⟩
end Go.Proofs.YtjfejpdeccnlnaaDoor
