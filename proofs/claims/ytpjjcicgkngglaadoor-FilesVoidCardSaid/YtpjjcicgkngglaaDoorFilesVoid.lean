/- Layer 17 (files): a disk that is not there, or that no call made: every method's contract. -/
import Derived.Test.YtpjjcicgkngglaaDoorCommon
import Derived.Test.YtpjjcicgkngglaaDoorRows
import Derived.WalkKit
import Derived.ProofKit
import Derived.OpenShut
import Derived.WalkLawsBesides
import Derived.Deep.QuietTactic
import Derived.BigQuiet
import Derived.BigRegion
import Derived.Outline
import Derived.LoopTactic
import Derived.Deep.MidRow
import Derived.Great.Walk
import Derived.Lib.Hide
namespace Go.Proofs.YtpjjcicgkngglaaDoor
open Go.ChangeShapes Go.WideShapes Go.ChangeAt Go.RowKit

/-- A table's cells when no name is in it. -/
def places : Array Value := ((List.replicate 64 [Value.string ByteArray.empty, Value.pointer none]).flatten).toArray
def disk0 : Array Value := #[.int .i64 0] ++ places ++ places
theorem info_disk : (Tryd.prog.info? 32).map (fun i => i.zero) = some (some (Value.agg disk0)) := by kernel_rfl
theorem places_size : places.size = 128 := by kernel_rfl
theorem places_even : ∀ n i : Nat, i < n → ((List.replicate n [Value.string ByteArray.empty, Value.pointer none]).flatten)[i * 2]? = some (Value.string ByteArray.empty) ∧ ((List.replicate n [Value.string ByteArray.empty, Value.pointer none]).flatten)[i * 2 + 1]? = some (Value.pointer none)
  | n + 1, 0, _ => by simp [List.replicate_succ]
  | n + 1, i + 1, h => by
    have := places_even n i (by omega)
    rw [List.replicate_succ, List.flatten_cons, show (i + 1) * 2 = i * 2 + 2 by omega]
    simpa using this
theorem places_at (i : Nat) (h : i < 64) : places.extract (i * 2) (i * 2 + 2) = #[Value.string ByteArray.empty, Value.pointer none] := by
  have hs := places_size
  have he := places_even 64 i h
  have e0 : places[i * 2]? = some (Value.string ByteArray.empty) := by simpa [places] using he.1
  have e1 : places[i * 2 + 1]? = some (Value.pointer none) := by simpa [places] using he.2
  apply Array.ext
  · simp; omega
  · intro k h1 h2
    have hk : k = 0 ∨ k = 1 := by simp at h2; omega
    rcases hk with rfl | rfl
    · simp only [Array.getElem_extract, Nat.add_zero]
      rw [Array.getElem?_eq_getElem (by omega)] at e0
      simpa using e0
    · simp only [Array.getElem_extract]
      rw [Array.getElem?_eq_getElem (by omega)] at e1
      simpa using e1
theorem run_place (i : Nat) (h : i < 64) (w : World) : (Instr.index 30 (.agg places) (.int .i64 i)).run Tryd.prog w = .ok (.agg #[Value.string ByteArray.empty, Value.pointer none]) w := by
  have hu := fun w => run_underlying (P := Tryd.prog) Tryd.underlying30 w
  have hs : (sizeOf 28).run Tryd.prog w = .ok 2 w := by go_simp
  have ha : (isAgg 28).run Tryd.prog w = .ok true w := by go_simp
  have hp := places_at i h
  generalize places = ps at hp ⊢
  unfold Instr.index
  simp only [asIntOf, Sem.run_bind, Sem.run_pure, Result.andThen_ok, hu]
  rw [if_pos ⟨by omega, by omega⟩]
  simp only [Sem.run_bind, hs, Result.andThen_ok, part, ha, Int.toNat_natCast, if_true, Sem.run_pure, hp]
/-- A disk that no call made. -/
def VAt (w : World) (b : Nat) : Prop := w.cell? ⟨b, 0, none⟩ = some (.int .i64 0) ∧ w.rangeAt b 1 places.toList
theorem VAt.lt {w : World} {b : Nat} (h : VAt w b) : b < w.heap.size := World.block_lt_of_cell? (a := ⟨b, 0, none⟩) _ h.1
theorem VAt.later {w w' : World} {b : Nat} (h : VAt w b) (hb : Below w.heap.size w w') : VAt w' b :=
  ⟨(World.cell?_of_block (w := w) (hb.block b h.lt)).trans h.1, fun j v hj => (World.cell?_of_block (w := w) (hb.block b h.lt)).trans (h.2 j v hj)⟩
theorem VAt.new (w : World) (t : TypeId) : VAt (w.alloc (.cells disk0 t)) w.heap.size := by
  have h := heap_alloc_new w (.cells disk0 t)
  refine ⟨?_, ?_⟩
  · rw [cell_of_row _ w.heap.size 0 disk0 t (0, 0) h]
    kernel_rfl
  · have e : places.toList = (disk0.extract 1 (1 + 128)).toList := by kernel_rfl
    rw [e]
    exact World.rangeAt_of_block h 1 128
def Vd (w : World) (v : Value) : Prop := v = .pointer none ∨ ∃ b, v = .pointer (some ⟨b, 0, none⟩) ∧ VAt w b

section
set_option maxRecDepth 20000
theorem goes_void (w : World) (v : Value) (hv : Vd w v) (ok : Bool) (s : ByteArray) : Calls Tryd.prog 18 #[v, .bool ok, .string s] w fun e w' => e = .returned (.int .i64 2) ∧ w = w' := by
  rcases hv with rfl | ⟨b, rfl, h1, h2⟩
  · go_enter Tryd.func18, Tryd.ntmps18
    go_wp2_with fail
    go_ret
    exact ⟨rfl, rfl⟩
  · clear h2
    go_enter Tryd.func18, Tryd.ntmps18
    go_wp2_with fail
    go_ret
    exact ⟨rfl, rfl⟩
theorem finds_void (w : World) (v : Value) (hv : Vd w v) (ok : Bool) (s : ByteArray) : Calls Tryd.prog 15 #[v, .bool ok, .string s] w fun e w' => e = .returned (.tuple #[.pointer none, .int .i64 2]) ∧ w = w' := by
  have H := Lib.hid (goes_void w v hv ok s)
  clear hv
  go_enter Tryd.func15, Tryd.ntmps15
  go_wp2_with fail
  refine H.out.mono ?_
  rintro _ _ ⟨rfl, rfl⟩
  go_wp2_with fail
  go_ret2
  exact ⟨rfl, rfl⟩
theorem Read_void (w : World) (v : Value) (hv : Vd w v) (s : ByteArray) (at_ n : Int) : Calls Tryd.prog 4 #[v, .string s, .int .i64 at_, .int .i64 n] w fun e w' => e = .returned (.tuple #[.slice none 0 0, .int .i64 2]) ∧ w = w' := by
  have H := Lib.hid (fun ok s => finds_void w v hv ok s)
  clear hv
  go_enter Tryd.func4, Tryd.ntmps4
  go_wp2_with fail
  all_goals
    refine (H.out _ _).mono ?_
    rintro _ _ ⟨rfl, rfl⟩
    go_wp2_with fail
    go_ret2
    exact ⟨rfl, rfl⟩
theorem Size_void (w : World) (v : Value) (hv : Vd w v) (s : ByteArray) : Calls Tryd.prog 5 #[v, .string s] w fun e w' => e = .returned (.tuple #[.int .i64 0, .int .i64 2]) ∧ w = w' := by
  have H := Lib.hid (fun ok s => finds_void w v hv ok s)
  clear hv
  go_enter Tryd.func5, Tryd.ntmps5
  go_wp2_with fail
  all_goals
    refine (H.out _ _).mono ?_
    rintro _ _ ⟨rfl, rfl⟩
    go_wp2_with fail
    go_ret2
    exact ⟨rfl, rfl⟩
theorem Fail_void (w : World) (v : Value) (hv : Vd w v) (n : Int) (names : Bool) : Calls Tryd.prog 6 #[v, .int .i64 n, .bool names] w fun e w' => e = .returned (.tuple #[.pointer none, .int .i64 2]) ∧ w = w' := by
  have H := Lib.hid (fun ok s => goes_void w v hv ok s)
  clear hv
  go_enter Tryd.func6, Tryd.ntmps6
  go_wp2_with fail
  all_goals
    refine (H.out _ _).mono ?_
    rintro _ _ ⟨rfl, rfl⟩
    go_wp2_with fail
    go_ret2
    exact ⟨rfl, rfl⟩
theorem Create_void (w : World) (v : Value) (hv : Vd w v) (s : ByteArray) : Calls Tryd.prog 9 #[v, .string s] w fun e w' => e = .returned (.int .i64 2) ∧ w = w' := by
  have H := Lib.hid (fun ok s => goes_void w v hv ok s)
  clear hv
  go_enter Tryd.func9, Tryd.ntmps9
  go_wp2_with fail
  all_goals
    refine (H.out _ _).mono ?_
    rintro _ _ ⟨rfl, rfl⟩
    go_wp2_with fail
    go_ret
    exact ⟨rfl, rfl⟩
theorem Remove_void (w : World) (v : Value) (hv : Vd w v) (s : ByteArray) : Calls Tryd.prog 10 #[v, .string s] w fun e w' => e = .returned (.int .i64 2) ∧ w = w' := by
  have H := Lib.hid (fun ok s => finds_void w v hv ok s)
  clear hv
  go_enter Tryd.func10, Tryd.ntmps10
  go_wp2_with fail
  all_goals
    refine (H.out _ _).mono ?_
    rintro _ _ ⟨rfl, rfl⟩
    go_wp2_with fail
    go_ret
    exact ⟨rfl, rfl⟩
theorem Rename_void (w : World) (v : Value) (hv : Vd w v) (s z : ByteArray) : Calls Tryd.prog 11 #[v, .string s, .string z] w fun e w' => e = .returned (.int .i64 2) ∧ w = w' := by
  have H := Lib.hid (fun ok s => goes_void w v hv ok s)
  clear hv
  go_enter Tryd.func11, Tryd.ntmps11
  go_wp2_with fail
  all_goals
    refine (H.out _ _).mono ?_
    rintro _ _ ⟨rfl, rfl⟩
    go_wp2_with fail
    go_ret
    exact ⟨rfl, rfl⟩
theorem Append_void (w : World) (v : Value) (hv : Vd w v) (s : ByteArray) (u : Value) : Calls Tryd.prog 12 #[v, .string s, u] w fun e w' => e = .returned (.int .i64 2) ∧ w = w' := by
  have H := Lib.hid (fun ok s => finds_void w v hv ok s)
  clear hv
  go_enter Tryd.func12, Tryd.ntmps12
  go_wp2_with fail
  all_goals
    refine (H.out _ _).mono ?_
    rintro _ _ ⟨rfl, rfl⟩
    go_wp2_with fail
    go_ret
    exact ⟨rfl, rfl⟩
theorem Sync_void (w : World) (v : Value) (hv : Vd w v) (s : ByteArray) : Calls Tryd.prog 13 #[v, .string s] w fun e w' => e = .returned (.int .i64 2) ∧ w = w' := by
  have H := Lib.hid (fun ok s => finds_void w v hv ok s)
  clear hv
  go_enter Tryd.func13, Tryd.ntmps13
  go_wp2_with fail
  all_goals
    refine (H.out _ _).mono ?_
    rintro _ _ ⟨rfl, rfl⟩
    go_wp2_with fail
    go_ret
    exact ⟨rfl, rfl⟩
theorem Names_void (w : World) (v : Value) (hv : Vd w v) : Calls Tryd.prog 14 #[v] w fun e w' => e = .returned (.int .i64 2) ∧ w = w' := by
  rcases hv with rfl | ⟨b, rfl, h1, h2⟩
  · go_enter Tryd.func14, Tryd.ntmps14
    go_wp2_with fail
    go_ret
    exact ⟨rfl, rfl⟩
  · clear h2
    go_enter Tryd.func14, Tryd.ntmps14
    go_wp2_with fail
    go_ret
    exact ⟨rfl, rfl⟩

theorem Len64_zero (w : World) : Calls Tryd.prog 39 #[.int .u64 0] w fun e w' => e = .returned (.int .i64 0) ∧ w = w' := by
  go_enter Tryd.func39, Tryd.ntmps39
  go_wp2_with fail
  go_ret
  exact ⟨by kernel_rfl, rfl⟩
theorem Len_zero (w : World) : Calls Tryd.prog 24 #[.int .u64 0] w fun e w' => e = .returned (.int .i64 0) ∧ w = w' := by
  go_enter Tryd.func24, Tryd.ntmps24
  go_wp2_with fail
  refine (Len64_zero _).mono ?_
  rintro _ _ ⟨rfl, rfl⟩
  go_wp2_with fail
  go_ret
  exact ⟨rfl, rfl⟩
theorem ins_nil (w : World) : Calls Tryd.prog 29 #[.slice none 0 0, .int .i64 0, .int .i64 0] w fun e w' => e = .returned (.tuple #[]) ∧ w = w' := by
  go_enter Tryd.func29, Tryd.ntmps29
  go_wp2_with fail
  refine wp_loop_rounds 1 ?_
  rw [rounds_succ]
  go_wp2_with fail
  go_end0
  exact ⟨rfl, rfl⟩
theorem pdq_nil (w : World) : Calls Tryd.prog 23 #[.slice none 0 0, .int .i64 0, .int .i64 0, .int .i64 0] w fun e w' => e = .returned (.tuple #[]) ∧ w = w' := by
  go_enter Tryd.func23, Tryd.ntmps23
  go_wp2_with fail
  refine wp_loop_rounds 1 ?_
  rw [rounds_succ]
  go_wp2_with fail
  refine (ins_nil _).mono ?_
  rintro _ _ ⟨rfl, rfl⟩
  go_wp2_with fail
  refine bodyPost_ret (results_none rfl _ _ _) rfl ?_
  exact ⟨rfl, rfl⟩
theorem sort_nil (w : World) : Calls Tryd.prog 19 #[.slice none 0 0] w fun e w' => e = .returned (.tuple #[]) ∧ w = w' := by
  go_enter Tryd.func19, Tryd.ntmps19
  go_wp2_with fail
  refine (Len_zero _).mono ?_
  rintro _ _ ⟨rfl, rfl⟩
  go_wp2_with fail
  refine (pdq_nil _).mono ?_
  rintro _ _ ⟨rfl, rfl⟩
  go_wp2_with fail
  go_end0
  exact ⟨rfl, rfl⟩
theorem clip_nil (w : World) : Calls Tryd.prog 20 #[.slice none 0 0] w fun e w' => e = .returned (.slice none 0 0) ∧ w = w' := by
  go_enter Tryd.func20, Tryd.ntmps20
  go_wp2_with fail
  go_ret
  exact ⟨rfl, rfl⟩
theorem List_nil (w : World) : Calls Tryd.prog 7 #[.pointer none] w fun e w' => e = .returned (.slice none 0 0) ∧ Below w.heap.size w w' := by
  go_enter Tryd.func7, Tryd.ntmps7
  go_wp2_with fail
  go_ret
  exact ⟨rfl, Below.refl _ _⟩
theorem Left_nil (w : World) : Calls Tryd.prog 8 #[.pointer none] w fun e w' => e = .returned (.int .i64 0) ∧ Below w.heap.size w w' := by
  go_enter Tryd.func8, Tryd.ntmps8
  go_wp2_with fail
  go_ret
  exact ⟨rfl, Below.refl _ _⟩
set_option maxHeartbeats 1500000 in
theorem List_void (w : World) (b : Nat) (h : VAt w b) : Calls Tryd.prog 7 #[.pointer (some ⟨b, 0, none⟩)] w fun e w' => e = .returned (.slice none 0 0) ∧ Below w.heap.size w w' := by
  obtain ⟨h1, h2⟩ := h
  have HP := Lib.hid run_place
  have HS := Lib.hid places_size
  have HR := Lib.hid h2
  clear h1 h2
  generalize places = ps at HP HS HR
  obtain ⟨cs, hcs⟩ : ∃ cs, cs = ps.toList := ⟨_, rfl⟩
  have hpa : ps = cs.toArray := by rw [hcs]
  subst hpa
  clear hcs
  have hlen : Hid (cs.length = 128) := Lib.hid (by simpa using HS.out)
  clear HS
  go_enter Tryd.func7, Tryd.ntmps7
  go_wp2_with (refine wpList_load_mid rfl 30 _ rfl b 1 rfl cs _ HR.out Tryd.underlying30 rfl (by rw [hlen.out]; kernel_rfl) ?_)
  go_loopw [2, 11] (fun l i wr => ∃ k : Nat, k ≤ 64 ∧ i = .int .i64 k ∧ l = .slice none 0 0 ∧ Below w.heap.size w wr) (fun _ i _ => 64 - (intOf i).toNat)
  case atStart => exact ⟨0, Nat.zero_le _, rfl, rfl, Below.refl _ _⟩
  case round =>
    obtain ⟨k, hk, rfl, rfl, hb⟩ := hrel
    by_cases hlt : k < 64
    · have hp := HP.out k hlt
      have HB := Lib.hid hb
      clear hb
      go_wp2_with fail
      go_round
      case rel => exact ⟨k + 1, by omega, by go_num, rfl, HB.out.alloc HB.out.size _⟩
      case measure => simp [intOf]; omega
    · obtain rfl : k = 64 := by omega
      have HB := Lib.hid hb
      clear hb
      go_wp2_with fail
      refine (sort_nil _).mono ?_
      rintro _ _ ⟨rfl, rfl⟩
      go_wp2_with fail
      refine (clip_nil _).mono ?_
      rintro _ _ ⟨rfl, rfl⟩
      go_wp2_with fail
      go_ret
      exact ⟨rfl, HB.out⟩
set_option maxHeartbeats 1500000 in
theorem Left_void (w : World) (b : Nat) (h : VAt w b) : Calls Tryd.prog 8 #[.pointer (some ⟨b, 0, none⟩)] w fun e w' => e = .returned (.int .i64 0) ∧ Below w.heap.size w w' := by
  obtain ⟨h1, h2⟩ := h
  have HP := Lib.hid run_place
  have HS := Lib.hid places_size
  have HR := Lib.hid h2
  clear h2
  generalize places = ps at HP HS HR
  obtain ⟨cs, hcs⟩ : ∃ cs, cs = ps.toList := ⟨_, rfl⟩
  have hpa : ps = cs.toArray := by rw [hcs]
  subst hpa
  clear hcs
  have HR := Lib.hid (show w.rangeAt b 1 cs from HR.out)
  have hlen : Hid (cs.length = 128) := Lib.hid (by simpa using HS.out)
  clear HS
  go_enter Tryd.func8, Tryd.ntmps8
  go_wp2_with (refine wpList_load_mid rfl 30 _ rfl b 1 rfl cs _ HR.out Tryd.underlying30 rfl (by rw [hlen.out]; kernel_rfl) ?_)
  go_loopw [2, 15] (fun l i wr => ∃ k : Nat, k ≤ 64 ∧ i = .int .i64 k ∧ l = .int .i64 0 ∧ Below w.heap.size w wr) (fun _ i _ => 64 - (intOf i).toNat)
  case atStart => exact ⟨0, Nat.zero_le _, rfl, rfl, Below.refl _ _⟩
  case round =>
    obtain ⟨k, hk, rfl, rfl, hb⟩ := hrel
    by_cases hlt : k < 64
    · have hp := HP.out k hlt
      have HB := Lib.hid hb
      clear hb
      go_wp2_with fail
      go_round
      case rel => exact ⟨k + 1, by omega, by go_num, rfl, HB.out.alloc HB.out.size _⟩
      case measure => simp [intOf]; omega
    · obtain rfl : k = 64 := by omega
      have HB := Lib.hid hb
      clear hb
      go_wp2_with fail
      go_ret
      exact ⟨rfl, HB.out⟩

theorem run_new (w : World) : (Instr.alloc 32 true (.tuple #[])).run Tryd.prog w = .ok (.pointer (some ⟨w.heap.size, 0, none⟩)) (w.alloc (.cells disk0 32)) := by
  have hi := info_disk
  cases hq : Tryd.prog.info? 32 with
  | none => rw [hq] at hi; cases hi
  | some i =>
    rw [hq] at hi
    have hz : i.zero = some (Value.agg disk0) := Option.some.inj hi
    generalize disk0 = d0 at hz ⊢
    simp [Instr.alloc, zeroValue, Sem.run_bind, typeInfo, hq, hz, newVar, newRow, newObj, Value.cells]
    rfl
theorem wpList_new {ops : Array Oper} {rest : List Oper} {o : Oper} {a : Act} {w : World} {Q : Exit → Act → World → Prop} (hg : o.guard = none) (ho : o.op = .alloc 32)
    (h : wpList Tryd.prog ops Q rest (a.put o.dst (.pointer (some ⟨w.heap.size, 0, none⟩))) (w.alloc (.cells disk0 32))) : wpList Tryd.prog ops Q (o :: rest) a w := by
  refine Great.wpList_allocTo hg o.dst rfl _ _ ?_ h
  unfold execOp
  simp only [ho, Sem.run_bind, run_new, Result.andThen_ok, Sem.run_pure]
/-- An Act in its block. -/
def BoxA (w : World) (b : Nat) (s z : ByteArray) (u : Value) (at_ n : Int) (nm : Bool) : Prop :=
  w.cell? ⟨b, 1, none⟩ = some (.string s) ∧ w.cell? ⟨b, 2, none⟩ = some (.string z) ∧ w.cell? ⟨b, 3, none⟩ = some u ∧ w.cell? ⟨b, 4, none⟩ = some (.int .i64 at_) ∧ w.cell? ⟨b, 5, none⟩ = some (.int .i64 n) ∧ w.cell? ⟨b, 6, none⟩ = some (.bool nm)
theorem cell_on {w w' : World} {a : Addr} {v : Value} (h : w.cell? a = some v) (hb : Below w.heap.size w w') : w'.cell? a = some v :=
  (World.cell?_of_block (w := w) (hb.block a.block (World.block_lt_of_cell? (a := a) _ h))).trans h
theorem BoxA.later {w w' : World} {b : Nat} {s z : ByteArray} {u : Value} {at_ n : Int} {nm : Bool} (h : BoxA w b s z u at_ n nm) (hb : Below w.heap.size w w') : BoxA w' b s z u at_ n nm :=
  ⟨cell_on h.1 hb, cell_on h.2.1 hb, cell_on h.2.2.1 hb, cell_on h.2.2.2.1 hb, cell_on h.2.2.2.2.1 hb, cell_on h.2.2.2.2.2 hb⟩
theorem BoxA.new (w : World) (kd : Int) (s z : ByteArray) (u : Value) (at_ n : Int) (nm : Bool) (t : TypeId) : BoxA (w.alloc (.cells #[.int .u8 kd, .string s, .string z, u, .int .i64 at_, .int .i64 n, .bool nm] t)) w.heap.size s z u at_ n nm := by
  refine ⟨?_, ?_, ?_, ?_, ?_, ?_⟩ <;> simp
theorem on_later {w0 w w' : World} (h : Below w0.heap.size w0 w) (hb : Below w.heap.size w w') : Below w0.heap.size w0 w' := h.trans (hb.mono h.size)
set_option maxRecDepth 40000 in
set_option maxHeartbeats 2000000 in
theorem filesVoid_walk (kd : Int) (s z : ByteArray) (ua : Option Addr) (ul uc : Nat) (at_ n : Int) (nm : Bool) (w : World) :
    Calls Tryd.prog 3 #[.agg #[.int .u8 kd, .string s, .string z, .slice ua ul uc, .int .i64 at_, .int .i64 n, .bool nm]] w fun e w' => e = .returned (.bool true) ∧ Below w.heap.size w w' := by
  have HA := Lib.hid (BoxA.new w kd s z (.slice ua ul uc) at_ n nm)
  go_enter Tryd.func3, Tryd.ntmps3
  go_wp2_with fail
  refine wp_loop_rounds 3 ?_
  rw [rounds_succ]
  go_wp2_with fail
  refine (Read_void _ _  (.inl rfl) s at_ n).mono ?_
  rintro _ _ ⟨rfl, rfl⟩
  go_wp2_with fail
  refine (Size_void _ _  (.inl rfl) s).mono ?_
  rintro _ _ ⟨rfl, rfl⟩
  go_wp2_with fail
  refine (Fail_void _ _  (.inl rfl) n nm).mono ?_
  rintro _ _ ⟨rfl, rfl⟩
  go_wp2_with fail
  refine (List_nil _).mono ?_
  rintro _ w1 ⟨rfl, hb1⟩
  have A1 := Lib.hid ((HA.out _).later hb1)
  have B1 := Lib.hid (on_later ((Below.refl w.heap.size w).alloc (Nat.le_refl _) _) hb1)
  clear hb1 HA
  go_wp2_with fail
  refine (Left_nil _).mono ?_
  rintro _ w2 ⟨rfl, hb2⟩
  have A2 := Lib.hid (A1.out.later hb2)
  have B2 := Lib.hid (on_later B1.out hb2)
  clear hb2 A1 B1
  obtain ⟨q1, q2, q3, q4, q5, q6⟩ := A2.out
  go_wp2_with fail
  refine (Create_void _ _ (.inl rfl) s).mono ?_
  rintro _ _ ⟨rfl, rfl⟩
  go_wp2_with fail
  refine (Remove_void _ _ (.inl rfl) s).mono ?_
  rintro _ _ ⟨rfl, rfl⟩
  go_wp2_with fail
  refine (Rename_void _ _ (.inl rfl) s z).mono ?_
  rintro _ _ ⟨rfl, rfl⟩
  go_wp2_with fail
  refine (Append_void _ _ (.inl rfl) s (.slice ua ul uc)).mono ?_
  rintro _ _ ⟨rfl, rfl⟩
  go_wp2_with fail
  refine (Sync_void _ _ (.inl rfl) s).mono ?_
  rintro _ _ ⟨rfl, rfl⟩
  go_wp2_with fail
  refine (Names_void _ _ (.inl rfl)).mono ?_
  rintro _ _ ⟨rfl, rfl⟩
  go_wp2_with fail
  rw [rounds_succ]
  have HW := Lib.hid (show ∃ w3 : World, w3 = w2.alloc (.cells disk0 32) ∧ VAt w3 w2.heap.size ∧ Below w.heap.size w w3 ∧ BoxA w3 w.heap.size s z (.slice ua ul uc) at_ n nm from
    ⟨_, rfl, VAt.new w2 _, on_later B2.out ((Below.refl _ _).alloc (Nat.le_refl _) _), A2.out.later ((Below.refl _ _).alloc (Nat.le_refl _) _)⟩)
  clear q1 q2 q3 q4 q5 q6
  go_wp2_with (refine wpList_new rfl rfl ?_
               obtain ⟨w3, e3, v3, b3, a3⟩ := HW.out
               have V3 := Lib.hid v3
               have B3 := Lib.hid b3
               have A3 := Lib.hid a3
               obtain ⟨q1, q2, q3, q4, q5, q6⟩ := a3
               rw [← e3]
               clear e3 v3 b3 HW)
  refine (Read_void _ _ (.inr ⟨_, rfl, V3.out⟩) s at_ n).mono ?_
  rintro _ _ ⟨rfl, rfl⟩
  go_wp2_with fail
  refine (Size_void _ _ (.inr ⟨_, rfl, V3.out⟩) s).mono ?_
  rintro _ _ ⟨rfl, rfl⟩
  go_wp2_with fail
  refine (Fail_void _ _ (.inr ⟨_, rfl, V3.out⟩) n nm).mono ?_
  rintro _ _ ⟨rfl, rfl⟩
  go_wp2_with fail
  refine (List_void _ _ V3.out).mono ?_
  rintro _ w4 ⟨rfl, hb4⟩
  have A4 := Lib.hid (A3.out.later hb4)
  have B4 := Lib.hid (on_later B3.out hb4)
  have V4 := Lib.hid (V3.out.later hb4)
  clear hb4 A3 B3 V3 q1 q2 q3 q4 q5 q6
  go_wp2_with fail
  refine (Left_void _ _ V4.out).mono ?_
  rintro _ w5 ⟨rfl, hb5⟩
  have B5 := Lib.hid (on_later B4.out hb5)
  have V5 := Lib.hid (V4.out.later hb5)
  obtain ⟨q1, q2, q3, q4, q5, q6⟩ := A4.out.later hb5
  clear hb5 A4 B4 V4
  go_wp2_with fail
  refine (Create_void _ _ (.inr ⟨_, rfl, V5.out⟩) s).mono ?_
  rintro _ _ ⟨rfl, rfl⟩
  go_wp2_with fail
  refine (Remove_void _ _ (.inr ⟨_, rfl, V5.out⟩) s).mono ?_
  rintro _ _ ⟨rfl, rfl⟩
  go_wp2_with fail
  refine (Rename_void _ _ (.inr ⟨_, rfl, V5.out⟩) s z).mono ?_
  rintro _ _ ⟨rfl, rfl⟩
  go_wp2_with fail
  refine (Append_void _ _ (.inr ⟨_, rfl, V5.out⟩) s (.slice ua ul uc)).mono ?_
  rintro _ _ ⟨rfl, rfl⟩
  go_wp2_with fail
  refine (Sync_void _ _ (.inr ⟨_, rfl, V5.out⟩) s).mono ?_
  rintro _ _ ⟨rfl, rfl⟩
  go_wp2_with fail
  refine (Names_void _ _ (.inr ⟨_, rfl, V5.out⟩)).mono ?_
  rintro _ _ ⟨rfl, rfl⟩
  go_wp2_with fail
  rw [rounds_succ]
  go_wp2_with fail
  go_ret
  exact ⟨rfl, B5.out⟩
end
end Go.Proofs.YtpjjcicgkngglaaDoor
