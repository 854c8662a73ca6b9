/- TwinBytes, LeftBytes -/
import Derived.Test.YtidhlbhfhfonoaaGreatDoorJZXG03
import Derived.Test.YtidhlbhfhfonoaaGreatDoorJZXG04
namespace Go.Proofs.YtidhlbhfhfonoaaGreatDoor
open Go.ChangeShapes Go.WideShapes Go.ChangeAt Go.RowKit

theorem own_start (w : World) (c : Nat) (hc : c ≤ maxLen) : (w.alloc (.cells (List.replicate c (Value.int .u8 0)).toArray 5)).ownsRow w.heap.size 5 1 (.slice (some ⟨w.heap.size, 0, none⟩) 0 c) 0 (cellsK .u8 []) :=
  ⟨by simp [cellsK], .inr ⟨w.heap.size, c, _, rfl, Nat.le_refl _, heap_alloc_new w _, Nat.zero_le _, hc, by simp, by simp [cellsK]⟩⟩
theorem cells_snoc (l : List Nat) (x : Nat) : cellsK .u8 (l ++ [x]) = cellsK .u8 l ++ [.int .u8 x] := by rw [cellsK_append]; rfl
/-- A copy with a mark behind: the slice v of n bytes, whose row holds one more. -/
def Twin (w : World) (base : Nat) (v : Value) (l : List Nat) : Prop := ∃ g o cap, v = .slice (some ⟨g, o, none⟩) l.length cap ∧ Own w base (.slice (some ⟨g, o, none⟩) (l.length + 1) cap) (l ++ [77])
theorem Twin.own {w : World} {base : Nat} {v : Value} {l : List Nat} (h : Twin w base v l) : Own w base v l := by
  obtain ⟨g, o, cap, rfl, h0⟩ := h
  unfold Own at h0
  rw [List.length_append, List.length_singleton] at h0
  obtain ⟨h1, h2⟩ := h0
  rcases h2 with ⟨h2, _⟩ | ⟨g', o', cap', cur, h3, h4, h5, h6, h7, h8, h9⟩
  · cases h2
  · cases h3
    refine ⟨by simp [cellsK_length], .inr ⟨g, o, cap, cur, rfl, h4, h5, by omega, h7, h8, ?_⟩⟩
    rw [cells_snoc] at h9
    have := congrArg (List.take l.length) h9
    rw [List.take_take, show min l.length ((l.length + 1) * 1) = l.length by omega] at this
    rw [Nat.mul_one, this, List.take_left' (by rw [cellsK_length])]

set_option maxRecDepth 20000 in
set_option maxHeartbeats 2000000 in
theorem Twin_any {l : List Nat} {v : Value} (w : World) (hv : KAt .u8 w v l) (hsz : l.length + 1 ≤ 140737488355328) :
    Calls Tryz.prog 10 #[v] w fun e w' => ∃ v', e = .returned v' ∧ Twin w' w.heap.size v' l ∧ Below w.heap.size w w' := by
  obtain ⟨i0, hi, hz0, hz1, hz2⟩ := info_parts infoB
  obtain ⟨ao, cap, rfl, hc1, hc2, hc3, hc4⟩ := hv
  have hm1 := hc2
  unfold maxLen at hm1
  have HC := Lib.hid hc4
  have HI := Lib.hid hi
  have hmk : ∀ w, (Instr.makeSlice 58 (.int .i64 0) (.int .i64 ((l.length : Int) + 1))).run Tryz.prog w = .ok (.slice (some ⟨w.heap.size, 0, none⟩) 0 (l.length + 1)) (w.alloc (.cells (List.replicate (l.length + 1) (Value.int .u8 0)).toArray 5)) := by
    intro w
    have e := run_make (P := Tryz.prog) w 58 5 i0 (.int .u8 0) Tryz.underlying58 hi hz0 .i64 .i64 0 ((l.length : Int) + 1) (by omega) (by omega) (by rw [hz2]; omega) (by omega)
    rw [e, hz1, show ((l.length : Int) + 1).toNat = l.length + 1 by omega, made_row]
    rfl
  have HST := Lib.hid (own_start w (l.length + 1) (by unfold maxLen; omega))
  have HBE := Lib.hid ((Below.refl w.heap.size w).alloc (Nat.le_refl _) (.cells (List.replicate (l.length + 1) (Value.int .u8 0)).toArray 5))
  clear hi hc4 hc2 hc3
  go_enter Tryz.func10, Tryz.ntmps10
  go_wp2
  go_loopw [3, 4] (fun v i wr => ∃ i' : Nat, i' ≤ l.length ∧ i = .int .i64 i' ∧ wr.ownsRow w.heap.size 5 1 v i' (cellsK .u8 (l.take i')) ∧ Below w.heap.size w wr) (fun _ i _ => l.length - (intOf i).toNat)
  case atStart => exact ⟨0, Nat.zero_le _, rfl, by simpa using HST.out, HBE.out⟩
  case round =>
    obtain ⟨i, hi, rfl, hown, hbel⟩ := hrel
    have HP := Lib.hid hown
    have HB := Lib.hid hbel
    clear hown hbel HST HBE
    by_cases hlt : i < l.length
    · obtain ⟨x, hx⟩ : ∃ x, l[i]? = some x := ⟨_, List.getElem?_eq_getElem hlt⟩
      obtain ⟨g, o, rfl, hcells⟩ := HC.out (by omega)
      have hcell := hcells i x hx
      have hcell2 := HB.out.cell (p := ⟨g, o + i, none⟩) (World.block_lt_of_cell? (a := ⟨g, o + i, none⟩) _ hcell)
      rw [hcell] at hcell2
      have HX := Lib.hid hx
      clear hcell hx hcells hmk
      go_wp2_with (at_builtin; refine wpList_append_own _ rfl _ _ 58 rfl w.heap.size 5 i0 (.int .u8 0) 1 1 Tryz.underlying58 HI.out hz0 hz1 hz2 rfl (by decide) _ _ _ rfl (HP.out.alloc _) ⟨wr.heap.size, 0, none⟩ 1 1 [.int .u8 x] rfl rfl (one_new _ _ _) (one_one _) (by unfold maxLen; omega) (by omega) (by have := HB.out.size; simp only [World.size_alloc]; omega) ?_; intro v' w2 hown2 hgrow _; have HO2 := Lib.hid hown2; have HG2 := Lib.hid hgrow; clear hown2 hgrow)
      go_roundw
      case rel => exact ⟨i + 1, by omega, by go_num, by
        rw [List.take_add_one, HX.out, show (some x).toList = [x] from rfl, cells_snoc]
        exact HO2.out, (HB.out.alloc HB.out.size _).grown HG2.out (by have := HB.out.size; simp only [World.size_alloc]; omega) (fun q hq => (HP.out.lt q hq).1)⟩
      case measure => simp [intOf]; omega
    · obtain rfl : i = l.length := by omega
      clear hmk hlt
      have HCS := Lib.hid (fun (v' : Value) (w2 : World) (h : w2.ownsRow w.heap.size 5 1 v' (l.length + 1) (cellsK .u8 (l.take l.length) ++ [.int .u8 77])) => show ∃ g cap, v' = .slice (some ⟨g, 0, none⟩) (l.length + 1) cap ∧ l.length + 1 ≤ cap ∧ cap ≤ 9223372036854775807 ∧ Own w2 w.heap.size (.slice (some ⟨g, 0, none⟩) (l.length + 1) cap) (l ++ [77]) from by
        rw [List.take_length, show [Value.int .u8 77] = [Value.int .u8 ((77 : Nat) : Int)] from rfl, ← cells_snoc] at h
        have h2 := OwnV.of_row h
        obtain ⟨h3, h4⟩ := h
        rcases h4 with ⟨_, h4⟩ | ⟨g, cap, cur, rfl, h5, h6, h7, h8, h9, h10⟩
        · omega
        · exact ⟨g, cap, rfl, h7, h8, by unfold Own; rw [List.length_append, List.length_singleton]; exact h2⟩)
      go_wp2_with (at_builtin; refine wpList_append_own _ rfl _ _ 58 rfl w.heap.size 5 i0 (.int .u8 0) 1 1 Tryz.underlying58 HI.out hz0 hz1 hz2 rfl (by decide) _ _ _ rfl (HP.out.alloc _) ⟨wr.heap.size, 0, none⟩ 1 1 [.int .u8 77] rfl rfl (one_new _ _ _) (one_one _) (by unfold maxLen; omega) (by omega) (by have := HB.out.size; simp only [World.size_alloc]; omega) ?_; intro v' w2 hown2 hgrow _; obtain ⟨g9, c9, rfl, hc9, hd9, ho9⟩ := HCS.out v' w2 hown2; have HO2 := Lib.hid ho9; have HG2 := Lib.hid hgrow; clear hown2 hgrow ho9)
      go_ret
      exact ⟨_, rfl, ⟨g9, 0, c9, rfl, HO2.out⟩, (HB.out.alloc HB.out.size _).grown HG2.out (by have := HB.out.size; simp only [World.size_alloc]; omega) (fun q hq => (HP.out.lt q hq).1)⟩

set_option maxRecDepth 20000 in
set_option maxHeartbeats 2000000 in
theorem LeftB_any {l : List Nat} {v u : Value} {base : Nat} (w : World) (hv : Twin w base v l) (hu : KAt .u8 w u l) :
    Calls Tryz.prog 25 #[v, u] w fun e w' => e = .returned (.bool true) ∧ ∃ n, w' = w.drewN n := by
  obtain ⟨g, o, cap, rfl, ho⟩ := hv
  have hk := ho.at_
  obtain ⟨_, _, he, hk1, hk2, _, hk4⟩ := hk
  rw [List.length_append, List.length_singleton] at he hk1
  cases he
  obtain ⟨_, _, he, hcell⟩ := hk4 (by simp)
  cases he
  have c77 := hcell l.length 77 (by simp)
  have HT := Lib.hid (fun (i x : Nat) (hx : l[i]? = some x) => hcell i x (by rw [List.getElem?_append_left (List.getElem?_eq_some_iff.1 hx).1]; exact hx))
  obtain ⟨ao, cu, rfl, hu1, hu2, hu3, hu4⟩ := hu
  have HU := Lib.hid hu4
  have HC7 := Lib.hid c77
  unfold maxLen at hk2 hu2
  have hle : ((cap : Int) ≤ (l.length : Int)) = False := by simp; omega
  have hdl : decide ((cap : Int) ≤ (l.length : Int)) = false := by simp; omega
  clear hcell hk4 hu4 ho hu3 c77
  go_enter Tryz.func25, Tryz.ntmps25
  go_wp2
  go_loopw [5] (fun i wr => ∃ i' n : Nat, i' ≤ l.length ∧ i = .int .i64 i' ∧ wr = w.drewN n) (fun i _ => l.length - (intOf i).toNat)
  case atStart => exact ⟨0, 0, Nat.zero_le _, rfl, rfl⟩
  case round =>
    obtain ⟨i, n, hi, rfl, rfl⟩ := hrel
    by_cases hlt : i < l.length
    · obtain ⟨x, hx⟩ : ∃ x, l[i]? = some x := ⟨_, List.getElem?_eq_getElem hlt⟩
      have cx := HT.out i x hx
      obtain ⟨h, p, rfl, hcells⟩ := HU.out (by omega)
      have cy := hcells i x hx
      clear hx hcells
      go_wp2
      go_quiet (fail)
      go_wp2
      go_roundw
      case rel => exact ⟨i + 1, _, by omega, by go_num, rfl⟩
      case measure => simp [intOf]; omega
    · obtain rfl : i = l.length := by omega
      have c77 := HC7.out
      clear hlt
      go_wp2
      go_ret
      exact ⟨rfl, _, rfl⟩
theorem src_one (w : World) (z : Int) (t : TypeId) : SrcV (w.alloc (.cells #[.int .u8 z] t)) 1 (.slice (some ⟨w.heap.size, 0, none⟩) 1 1) 1 [.int .u8 z] := by
  refine ⟨_, 1, rfl, rfl, one_one _, (fun h => by cases h), fun ad had j u hu => ?_⟩
  cases had
  exact one_new w _ t j u hu
end Go.Proofs.YtidhlbhfhfonoaaGreatDoor
