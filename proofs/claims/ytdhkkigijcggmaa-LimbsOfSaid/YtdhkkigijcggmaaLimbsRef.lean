/- Layer 2's reference: contracts of its functions. -/
import Derived.Test.YtdhkkigijcggmaaNums4
import Derived.Test.YtdhkkigijcggmaaLimbsRef0
import Derived.Deep.MidRow
namespace Go.Proofs.Ytdhkkigijcggmaa
open Go.ChangeShapes Go.WideShapes Go.ChangeAt Go.RowKit

/-! ### Rows of words -/
def rowU (n : Nat) (A : Nat → Nat) : List Value := (List.range n).map fun j => Value.int .u64 (A j)
theorem rowU_length (n : Nat) (A : Nat → Nat) : (rowU n A).length = n := by simp [rowU]
theorem rowU_one (n : Nat) (A : Nat → Nat) : ∀ v ∈ rowU n A, v.oneCell' = true := by
  intro v hv
  obtain ⟨j, _, rfl⟩ := List.mem_map.1 hv
  rfl
theorem UAt.range {w : World} {b n : Nat} {A : Nat → Nat} (h : UAt w b n A) : w.rangeAt b 0 (rowU n A) := by
  intro j v hj
  have hl : j < n := by have := (List.getElem?_eq_some_iff.1 hj).1; rwa [rowU_length] at this
  rw [Nat.zero_add, h j hl, ← hj]
  simp [rowU, hl]
theorem UAt.of_range {w : World} {b n : Nat} {A : Nat → Nat} (h : w.rangeAt b 0 (rowU n A)) : UAt w b n A := by
  intro j hl
  have := h j (.int .u64 (A j)) (by simp [rowU, hl])
  rwa [Nat.zero_add] at this
theorem there_of {w : World} {b n : Nat} {A : Nat → Nat} (h : UAt w b n A) (hf : FreeN w b n) : w.there b 0 n := fun j hj => by
  rw [Nat.zero_add]
  exact ⟨by rw [h j hj]; rfl, hf j hj⟩
theorem UAt.setI {w : World} {b n : Nat} {A : Nat → Nat} (h : UAt w b n A) (c : Nat) (v : Int) (x : Nat) (hv : v = x) : UAt (w.setCell ⟨b, c, none⟩ (.int .u64 v)) b n (fun j => if j = c then x else A j) := by
  subst hv
  exact h.set c x
theorem UAt.zero16 (w : World) (t : TypeId) (b : Nat) (hb : b = w.heap.size) : UAt (w.alloc (.cells #[.int .u64 0, .int .u64 0, .int .u64 0, .int .u64 0, .int .u64 0, .int .u64 0, .int .u64 0, .int .u64 0, .int .u64 0, .int .u64 0, .int .u64 0, .int .u64 0, .int .u64 0, .int .u64 0, .int .u64 0, .int .u64 0] t)) b 16 (fun _ => 0) := by
  subst hb
  intro j hj
  have h : j = 0 ∨ j = 1 ∨ j = 2 ∨ j = 3 ∨ j = 4 ∨ j = 5 ∨ j = 6 ∨ j = 7 ∨ j = 8 ∨ j = 9 ∨ j = 10 ∨ j = 11 ∨ j = 12 ∨ j = 13 ∨ j = 14 ∨ j = 15 := by omega
  rcases h with rfl | rfl | rfl | rfl | rfl | rfl | rfl | rfl | rfl | rfl | rfl | rfl | rfl | rfl | rfl | rfl <;> simp
/-- A number's digits, as a value. -/
def digV (A : Nat → Nat) : Value := .agg (rowU 16 A).toArray
theorem dig_int (a k : Nat) : ((dgt W64 a (k / 4) : Nat) : Int) / 2 ^ (16 * (k % 4)) % 65536 = ((dgt 65536 a k : Nat) : Int) := by
  rw [← dig_word]
  simp

theorem below_setCells {B : Nat} {a : World} (b : Nat) : ∀ (vs : List Value) (o : Nat) {w : World}, Below B a w → B ≤ b → Below B a (w.setCells b o vs)
  | [], _, _, h, _ => h
  | v :: r, o, _, h, hb => below_setCells b r (o + 1) (h.setCell (p := ⟨b, o, none⟩) hb v) hb
theorem new_there (w : World) (c : Array Value) (t : TypeId) (n : Nat) (hn : c.size = n) : (w.alloc (.cells c t)).there w.heap.size 0 n := fun j hj => by
  rw [Nat.zero_add]
  refine ⟨?_, by simp⟩
  rw [cell_of_row _ w.heap.size j c t (0, 0) (heap_alloc_new w _), Array.getElem?_eq_getElem (by omega)]
  rfl
/-- Digits, stored into a new block. -/
theorem dig_store (w : World) (c : Array Value) (t : TypeId) (A : Nat → Nat) (hc : c.size = 16) : UAt ((w.alloc (.cells c t)).setCells w.heap.size 0 (rowU 16 A)) w.heap.size 16 A ∧ FreeN ((w.alloc (.cells c t)).setCells w.heap.size 0 (rowU 16 A)) w.heap.size 16 ∧ Below w.heap.size w ((w.alloc (.cells c t)).setCells w.heap.size 0 (rowU 16 A)) := by
  have h := new_there w c t 16 hc
  refine ⟨UAt.of_range (World.rangeAt_setCells_same _ _ _ _ (by rw [rowU_length]; exact h)), fun j hj => ?_, below_setCells _ _ _ ((Below.refl _ _).alloc (Nat.le_refl _) _) (Nat.le_refl _)⟩
  have := (World.there_setCells h w.heap.size 0 (rowU 16 A) j hj).2
  rwa [Nat.zero_add] at this
abbrev zeros16 : Array Value := #[.int .u64 0, .int .u64 0, .int .u64 0, .int .u64 0, .int .u64 0, .int .u64 0, .int .u64 0, .int .u64 0, .int .u64 0, .int .u64 0, .int .u64 0, .int .u64 0, .int .u64 0, .int .u64 0, .int .u64 0, .int .u64 0]
/-- Digits, stored into a new block: as a walk takes it. -/
theorem dig_new (w : World) (t : TypeId) (A : Nat → Nat) (cs : List Value) (hcs : cs = rowU 16 A) : ∃ W, W = (w.alloc (.cells #[.int .u64 0, .int .u64 0, .int .u64 0, .int .u64 0, .int .u64 0, .int .u64 0, .int .u64 0, .int .u64 0, .int .u64 0, .int .u64 0, .int .u64 0, .int .u64 0, .int .u64 0, .int .u64 0, .int .u64 0, .int .u64 0] t)).setCells w.heap.size 0 cs ∧ UAt W w.heap.size 16 A ∧ FreeN W w.heap.size 16 ∧ Below w.heap.size w W := by
  subst hcs
  exact ⟨_, rfl, dig_store w _ t A rfl⟩
theorem results_row {P : Program} {fn : Func} {tmps : Array Value} {w : World} (a : Tmp) (t : TypeId) (b : Nat) (v : Value) (hr : fn.results = #[.cell a t]) (ha : tmps.getD a undef = .pointer (some ⟨b, 0, none⟩)) (hl : (loadVar t ⟨b, 0, none⟩).run P w = .ok v w) : (results fn tmps).run P w = .ok v w := by
  unfold results
  rw [hr]
  rw [Array.getD_eq_getD_getElem?] at ha
  simp [ha, asAddr, hl]
set_option maxRecDepth 20000 in
set_option maxHeartbeats 1500000 in
theorem digits_any (a : Nat) (w : World) : Calls Try.prog 30 #[numV a] w fun e w' => e = .returned (digV (dgt 65536 a)) ∧ Below w.heap.size w w' := by
  have HA0 := Lib.hid (WAt.new w (dgt W64 a))
  unfold numV words
  go_enter Try.func30, Try.ntmps30
  go_wp2
  go_loopw [4] (fun i wr => ∃ k : Nat, k ≤ 16 ∧ i = .int .i64 k ∧ WAt wr w.heap.size (dgt W64 a) ∧ UAt wr (w.heap.size + 1) 16 (fun _ => 0) ∧ FreeN wr (w.heap.size + 1) 16 ∧ UAt wr (w.heap.size + 1 + 1) 16 (fun j => if j < k then dgt 65536 a j else 0) ∧ FreeN wr (w.heap.size + 1 + 1) 16 ∧ Below w.heap.size w wr) (fun i _ => 16 - (intOf i).toNat)
  case atStart =>
    exact ⟨0, by omega, rfl, ((HA0.out _).alloc _).alloc _, (UAt.zero16 _ _ _ (by simp)).alloc _, (FreeN.made _ _ _ _ _ (by simp)).alloc (by simp) _, UAt.zero16 _ _ _ (by simp), FreeN.made _ _ _ _ _ (by simp), (((Below.refl _ _).alloc (Nat.le_refl _) _).alloc (by simp) _).alloc (by simp; omega) _⟩
  case round =>
    obtain ⟨k, hk, rfl, ha, hr, hrf, hd, hf, hb⟩ := hrel
    have HA := Lib.hid ha
    have HR := Lib.hid hr
    have HRF := Lib.hid hrf
    have HD := Lib.hid hd
    have HF := Lib.hid hf
    have HB := Lib.hid hb
    by_cases hlt : k < 16
    · have ak := ha (k / 4) (by omega)
      have dk := hd k hlt
      have fk := hf k hlt
      have h4 : k / 4 < 4 := by omega
      have h5 : k % 4 < 4 := by omega
      clear ha hr hrf hd hf hb HA0
      go_wp2
      go_roundw
      case rel =>
        refine ⟨k + 1, by omega, by go_num, HA.out.other _ _ (by omega), HR.out.other _ _ (by omega), HRF.out.set _ _, (HD.out.setI k _ _ (dig_int a k)).congr fun j hj => ?_, HF.out.set _ _, HB.out.setCell (by simp; omega) _⟩
        by_cases h : j = k
        · subst h; simp
        · by_cases h' : j < k
          · simp [h, h', show j < k + 1 by omega]
          · simp [h, h', show ¬ j < k + 1 by omega]
      case measure => simp [intOf]; omega
    · obtain rfl : k = 16 := by omega
      have hd' : UAt wr (w.heap.size + 1 + 1) 16 (dgt 65536 a) := hd.congr fun j hj => if_pos hj
      have RL := Lib.hid hd'.range
      have TH := Lib.hid (there_of hr hrf)
      obtain ⟨cs, hcs⟩ : ∃ cs, cs = rowU 16 (dgt 65536 a) := ⟨_, rfl⟩
      have HC := Lib.hid hcs
      have HL : Hid (cs.length = 16) := Lib.hid (by rw [hcs, rowU_length])
      have HO : Hid (∀ v ∈ cs, v.oneCell' = true) := Lib.hid (by rw [hcs]; exact rowU_one _ _)
      rw [← hcs] at RL
      clear ha hr hrf hd hf hb hd' hcs HD HF HA HR HRF HA0 hlt hk
      go_wp2_with (first
        | (refine wpList_load_mid rfl 46 _ rfl (w.heap.size + 1 + 1) 0 rfl cs _ RL.out Try.underlying46 rfl (by rw [HL.out]; kernel_rfl) ?_)
        | (refine wpList_store_mid rfl 46 _ _ rfl (w.heap.size + 1) 0 cs.toArray rfl rfl (by have := TH.out; simpa [HL.out] using this) (by rw [List.size_toArray, HL.out]; kernel_rfl) (all_oneCell_toArray HO.out) ?_))
      refine bodyPost_ret (v := .agg cs.toArray) (results_row _ _ (w.heap.size + 1) _ Try.results30 rfl (run_loadVar_mid _ _ _ _ cs _ (World.rangeAt_setCells_same _ _ _ _ (by have := TH.out; simpa [HL.out] using this)) Try.underlying46 rfl (by rw [HL.out]; kernel_rfl))) rfl ⟨by rw [HC.out]; rfl, ?_⟩
      exact below_setCells _ _ _ HB.out (by omega)
end Go.Proofs.Ytdhkkigijcggmaa
