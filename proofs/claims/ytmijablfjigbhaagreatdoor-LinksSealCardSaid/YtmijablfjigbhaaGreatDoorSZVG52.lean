/- Layer 20's quota -/
import Derived.Test.YtmijablfjigbhaaGreatDoorRows
import Derived.WalkKit
import Derived.ProofKit
import Derived.OpenShut
import Derived.WalkLawsBesides
import Derived.Deep.QuietTactic
import Derived.BigQuiet
import Derived.BigRegion
import Derived.Outline
import Derived.Lib.Hide
namespace Go.Proofs.YtmijablfjigbhaaGreatDoor.Lv
open Go.ChangeShapes Go.WideShapes Go.ChangeAt Go.RowKit
def QAt (w : World) (B : Nat) (f : Nat → Int) (e : Int) : Prop := (∀ j, j < 8 → w.cell? ⟨B, j, none⟩ = some (.int .i64 (f j))) ∧ w.cell? ⟨B, 8, none⟩ = some (.int .i64 e) ∧ ∀ j, j < 9 → w.frozen? ⟨B, j, none⟩ = false
def tk (f : Nat → Int) (e c : Int) : Bool := decide (1 ≤ c ∧ c ≤ 7 ∧ f c.toNat < e)
def up (f : Nat → Int) (c : Nat) : Nat → Int := fun j => if j = c then f j + 1 else f j
theorem QAt.set {w : World} {B : Nat} {f : Nat → Int} {e : Int} (h : QAt w B f e) (c : Nat) (x : Int) (hc : c < 8 := by omega) : QAt (w.setCell ⟨B, c, none⟩ (.int .i64 x)) B (fun j => if j = c then x else f j) e := by
 refine ⟨fun j hj => ?_, ?_, fun j hj => by simpa using h.2.2 j hj⟩
 ·by_cases hjc : j = c
  ·subst hjc; rw [World.cell?_setCell_same (h := h.1 j hj)]
   simp
  ·rw [World.cell?_setCell_other _ _ _ _ (by intro h; injection h; omega), h.1 j hj]
   simp [hjc]
 ·rw [World.cell?_setCell_other _ _ _ _ (by intro h; injection h; omega), h.2.1]
theorem lF (w : World) (B : Nat) : w.grownBy w (some B) := ⟨rfl, rfl, rfl, Nat.le_refl _, fun _ _ _ => rfl⟩
theorem Jf {a w : World} {B : Nat} (h : a.grownBy w (some B)) (c : Nat) (v : Value) : a.grownBy (w.setCell ⟨B, c, none⟩ v) (some B) :=
 ⟨h.os, h.tape, h.output, by simpa [World.setCell] using h.size, fun i hi hne => (Below.heap_setCell w ⟨B, c, none⟩ v i (by rintro rfl; exact hne rfl)).trans (h.block i hi hne)⟩
theorem gI {a w : World} {r : Option Nat} (h : a.grownBy w r) (n : Nat) : a.grownBy (w.drewN n) r := ⟨h.os, h.tape, h.output, h.size, h.block⟩
theorem zT {a w w' : World} {B C : Nat} (h : Below B a w) (hg : w.grownBy w' (some C)) (hB : B ≤ w.heap.size) (hC : B ≤ C) : Below B a w' := h.grown hg hB (fun k hk => by injection hk; omega)
theorem take_no (B : Nat) (f : Nat → Int) (e c : Int) (w : World) (hq : QAt w B f e) (h0 : 0 ≤ c) (h1 : c < 256) (hn : tk f e c = false) :
  Calls Tryz.prog 21 #[.pointer (some ⟨B, 0, none⟩), .int .u8 c] w fun r w' => r = .returned (.bool false) ∧ ∃ n, w' = w.drewN n := by
 have hn' : c < 1 ∨ 7 < c ∨ (1 ≤ c ∧ c ≤ 7 ∧ e ≤ f c.toNat) := by
  have := of_decide_eq_false hn; omega
 rcases hn' with h | h | ⟨h2, h3, h4⟩
 ·go_enter Tryz.func21, Tryz.ntmps21
  go_wp2
  go_quiet (fail)
  go_wp2
  go_ret
  exact ⟨rfl, _, rfl⟩
 ·have hd1 : decide (c < 1) = false := by simp; omega
  have hd2 : decide (7 < c) = true := by simp; omega
  go_enter Tryz.func21, Tryz.ntmps21
  go_wp2
  go_quiet (fail)
  go_wp2
  go_ret
  exact ⟨rfl, _, rfl⟩
 ·have hd1 : decide (c < 1) = false := by simpa using h2
  have hd2 : decide (7 < c) = false := by simpa using h3
  have c1 := hq.1 c.toNat (by omega); have c2 := hq.2.1
  go_enter Tryz.func21, Tryz.ntmps21
  go_wp2
  go_quiet (fail)
  go_wp2
  go_ret
  exact ⟨rfl, _, rfl⟩
theorem tZ (B : Nat) (f : Nat → Int) (e c : Int) (w : World) (hq : QAt w B f e) (hf : ∀ j, 0 ≤ f j ∧ f j ≤ 1000000) (hn : tk f e c = true) :
  Calls Tryz.prog 21 #[.pointer (some ⟨B, 0, none⟩), .int .u8 c] w fun r w' => r = .returned (.bool true) ∧ ∃ n, w' = (w.setCell ⟨B, c.toNat, none⟩ (.int .i64 (f c.toNat + 1))).drewN n := by
 obtain ⟨h2, h3, h4⟩ := of_decide_eq_true hn; have hd1 : decide (c < 1) = false := by simpa using h2
 have hd2 : decide (7 < c) = false := by simpa using h3
 have c1 := hq.1 c.toNat (by omega); have c2 := hq.2.1; have c3 := hq.2.2 c.toNat (by omega); have hf1 := (hf c.toNat).1; have hf2 := (hf c.toNat).2; clear hq hf hn
 generalize f c.toNat = x at *
 go_enter Tryz.func21, Tryz.ntmps21
 go_wp2
 go_quiet (fail)
 go_wp2
 go_region
 go_wp2
 go_ret
 exact ⟨rfl, _, rfl⟩
theorem new_no (e : Int) (w : World) (h : e < 1 ∨ 1024 < e) : Calls Tryz.prog 20 #[.int .i64 e] w fun r w' => r = .returned (.tuple #[.pointer Option.none, .int .i64 1]) ∧ w = w' := by
 rcases h with h | h
 all_goals
  go_enter Tryz.func20, Tryz.ntmps20
  go_wp2
  go_ret2
  exact ⟨rfl, rfl⟩
def zero9 (e : Int) : Array Value := #[.int .i64 0, .int .i64 0, .int .i64 0, .int .i64 0, .int .i64 0, .int .i64 0, .int .i64 0, .int .i64 0, .int .i64 e]
theorem new_yes (e : Int) (w : World) (h : 1 ≤ e) (h' : e ≤ 1024) : Calls Tryz.prog 20 #[.int .i64 e] w fun r w' => r = .returned (.tuple #[.pointer (some ⟨w.heap.size, 0, none⟩), .int .i64 0]) ∧ w' = w.alloc (.cells (zero9 e) 94) := by
 go_enter Tryz.func20, Tryz.ntmps20
 go_wp2
 go_ret2
 exact ⟨rfl, rfl⟩
theorem oZ (w : World) : Calls Tryz.prog 22 #[.pointer Option.none] w fun r w' => r = .returned (.tuple #[]) ∧ w = w' := by
 go_enter Tryz.func22, Tryz.ntmps22
 go_wp2
 go_end0
 exact ⟨rfl, rfl⟩
theorem take_nil (w : World) : Calls Tryz.prog 21 #[.pointer Option.none, .int .u8 1] w fun r w' => r = .returned (.bool false) ∧ ∃ n, w' = w.drewN n := by
 go_enter Tryz.func21, Tryz.ntmps21
 go_wp2
 go_quiet (fail)
 go_wp2
 go_ret
 exact ⟨rfl, _, rfl⟩
theorem rZ (B : Nat) (f : Nat → Int) (e : Int) (w : World) (hq : QAt w B f e) :
  Calls Tryz.prog 22 #[.pointer (some ⟨B, 0, none⟩)] w fun r w' => r = .returned (.tuple #[]) ∧ QAt w' B (fun _ => 0) e ∧ w.grownBy w' (some B) := by
 have c0 := hq.1 0 (by omega); have c1 := hq.1 1 (by omega); have c2 := hq.1 2 (by omega); have c3 := hq.1 3 (by omega); have c4 := hq.1 4 (by omega); have c5 := hq.1 5 (by omega); have c6 := hq.1 6 (by omega); have c7 := hq.1 7 (by omega); have f0 := hq.2.2 0 (by omega); have f1 := hq.2.2 1 (by omega); have f2 := hq.2.2 2 (by omega); have f3 := hq.2.2 3 (by omega); have f4 := hq.2.2 4 (by omega); have f5 := hq.2.2 5 (by omega); have f6 := hq.2.2 6 (by omega); have f7 := hq.2.2 7 (by omega)
 go_enter Tryz.func22, Tryz.ntmps22
 go_wp2
 go_end0
 refine ⟨rfl, ?_, ?_⟩
 ·have h := (((((((hq.set 0 0).set 1 0).set 2 0).set 3 0).set 4 0).set 5 0).set 6 0).set 7 0; refine ⟨fun j hj => ?_, h.2.1, h.2.2⟩; rw [h.1 j hj]; have : j = 0 ∨ j = 1 ∨ j = 2 ∨ j = 3 ∨ j = 4 ∨ j = 5 ∨ j = 6 ∨ j = 7 := by omega
  rcases this with rfl | rfl | rfl | rfl | rfl | rfl | rfl | rfl <;> simp
 ·exact Jf (Jf (Jf (Jf (Jf (Jf (Jf (Jf (lF w B) 0 _) 1 _) 2 _) 3 _) 4 _) 5 _) 6 _) 7 _
theorem qAt_new (e : Int) (w : World) (t : TypeId) : QAt (w.alloc (.cells (zero9 e) t)) w.heap.size (fun _ => 0) e := by
 refine ⟨fun j hj => ?_, by simp [zero9], fun j _ => by simp⟩; have : j = 0 ∨ j = 1 ∨ j = 2 ∨ j = 3 ∨ j = 4 ∨ j = 5 ∨ j = 6 ∨ j = 7 := by omega
 rcases this with rfl | rfl | rfl | rfl | rfl | rfl | rfl | rfl <;> simp [zero9]
def upd (f : Nat → Int) (e c : Int) : Nat → Int := if tk f e c then (fun j => if j = c.toNat then f c.toNat + 1 else f j) else f
theorem iZ {f : Nat → Int} {e c : Int} {m : Int} (hf : ∀ j, 0 ≤ f j ∧ f j ≤ m) (j : Nat) : 0 ≤ upd f e c j ∧ upd f e c j ≤ m + 1 := by
 have h1 := hf j; have h2 := hf c.toNat; unfold upd
 split
 ·dsimp only
  split <;> omega
 ·omega
theorem Qk (B : Nat) (f : Nat → Int) (e c : Int) (w : World) (hq : QAt w B f e) (hf : ∀ j, 0 ≤ f j ∧ f j ≤ 1000000) (h0 : 0 ≤ c) (h1 : c < 256) :
  Calls Tryz.prog 21 #[.pointer (some ⟨B, 0, none⟩), .int .u8 c] w fun r w' => r = .returned (.bool (tk f e c)) ∧ QAt w' B (upd f e c) e ∧ w.grownBy w' (some B) := by
 cases h : tk f e c with
 | false =>
  have hu : upd f e c = f := by unfold upd; rw [h]; rfl
  rw [hu]; exact (take_no B f e c w hq h0 h1 h).mono fun r w' ⟨hr, n, hw⟩ => ⟨hr, hw ▸ hq, hw ▸ gI (lF w B) n⟩
 | true =>
  have hu : upd f e c = (fun j => if j = c.toNat then f c.toNat + 1 else f j) := by unfold upd; rw [h]; rfl
  rw [hu]; have hc := (of_decide_eq_true h); exact (tZ B f e c w hq hf h).mono fun r w' ⟨hr, n, hw⟩ => ⟨hr, hw ▸ hq.set c.toNat _, hw ▸ gI (Jf (lF w B) _ _) n⟩
theorem lives_any (w : World) : Calls Tryz.prog 4 #[] w fun r w' => r = .returned (.bool true) ∧ Below w.heap.size w w' := by
 have T1 : tk (fun _ => 0) 2 1 = true := rfl; have T2 : tk (upd (fun _ => 0) 2 1) 2 1 = true := rfl; have T3 : tk (upd (upd (fun _ => 0) 2 1) 2 1) 2 1 = false := rfl; have z0 : ∀ j : Nat, (0 : Int) ≤ (fun _ : Nat => (0 : Int)) j ∧ (fun _ : Nat => (0 : Int)) j ≤ 2 := fun _ => ⟨by simp, by simp⟩
 have z1 := fun j => iZ (e := 2) (c := 1) z0 j
 have z2 := fun j => iZ (e := 2) (c := 1) z1 j
 have H1 := Lib.hid T1; have H2 := Lib.hid T2; have H3 := Lib.hid T3; have Z0 := Lib.hid z0; have Z1 := Lib.hid z1; have Z2 := Lib.hid z2; clear T1 T2 T3 z0 z1 z2
 go_enter Tryz.func4, Tryz.ntmps4
 go_wp2_with fail
 refine (new_yes 2 w (by omega) (by omega)).mono ?_; rintro _ w1 ⟨rfl, hw1⟩; have q1 : QAt w1 w.heap.size (fun _ => 0) 2 := hw1 ▸ qAt_new 2 w _; have b1 : Below w.heap.size w w1 := hw1 ▸ (Below.refl _ _).alloc (Nat.le_refl _) _; have Q1 := Lib.hid q1; have B1 := Lib.hid b1; clear hw1 q1 b1
 go_wp2_with fail
 refine (Qk _ _ _ 1 _ Q1.out (fun j => ⟨(Z0.out j).1, by have := (Z0.out j).2; omega⟩) (by omega) (by omega)).mono ?_; rintro _ w2 ⟨rfl, q, g⟩; have Q2 := Lib.hid q; have B2 := Lib.hid (zT B1.out g B1.out.size (Nat.le_refl _)); clear q g; rw [H1.out]
 go_wp2_with fail
 refine (Qk _ _ _ 1 _ Q2.out (fun j => ⟨(Z1.out j).1, by have := (Z1.out j).2; omega⟩) (by omega) (by omega)).mono ?_; rintro _ w3 ⟨rfl, q, g⟩; have Q3 := Lib.hid q; have B3 := Lib.hid (zT B2.out g B2.out.size (Nat.le_refl _)); clear q g; rw [H2.out]
 go_wp2_with fail
 refine (Qk _ _ _ 1 _ Q3.out (fun j => ⟨(Z2.out j).1, by have := (Z2.out j).2; omega⟩) (by omega) (by omega)).mono ?_; rintro _ w4 ⟨rfl, q, g⟩; have Q4 := Lib.hid q; have B4 := Lib.hid (zT B3.out g B3.out.size (Nat.le_refl _)); clear q g; rw [H3.out]
 go_wp2_with fail
 refine (rZ _ _ _ _ Q4.out).mono ?_; rintro _ w5 ⟨rfl, q, g⟩; have Q5 := Lib.hid q; have B5 := Lib.hid (zT B4.out g B4.out.size (Nat.le_refl _)); clear q g
 go_wp2_with fail
 refine (Qk _ _ _ 1 _ Q5.out (fun j => ⟨(Z0.out j).1, by have := (Z0.out j).2; omega⟩) (by omega) (by omega)).mono ?_; rintro _ w6 ⟨rfl, q, g⟩; have B6 := Lib.hid (zT B5.out g B5.out.size (Nat.le_refl _)); clear q g; rw [H1.out]
 go_wp2_with fail
 refine (oZ _).mono ?_; rintro _ _ ⟨rfl, rfl⟩
 go_wp2_with fail
 refine (new_no 0 _ (.inl (by omega))).mono ?_; rintro _ _ ⟨rfl, rfl⟩
 go_wp2_with fail
 refine (take_nil _).mono ?_; rintro _ _ ⟨rfl, n, rfl⟩
 go_wp2
 go_ret
 exact ⟨rfl, below_drewN B6.out n⟩
end Go.Proofs.YtmijablfjigbhaaGreatDoor.Lv
