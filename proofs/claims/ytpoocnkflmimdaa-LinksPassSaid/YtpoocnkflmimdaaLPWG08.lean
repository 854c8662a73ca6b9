/- Layer 2 (limbs): contracts of the program's functions -/
import Derived.Test.YtpoocnkflmimdaaRows
import Derived.Test.YtpoocnkflmimdaaLPWG02
import Derived.WalkKit
import Derived.ProofKit
import Derived.OpenShut
import Derived.WalkLawsBesides
import Derived.Deep.QuietTactic
import Derived.BigQuiet
import Derived.BigRegion
import Derived.Outline
import Derived.Lib.Hide
import Derived.Laws.Externs
import Derived.Laws.BitsAllLaws
import Derived.Test.YtpoocnkflmimdaaLPWG07
import Derived.Test.YtpoocnkflmimdaaLPWG01
namespace Go.Proofs.Ytpoocnkflmimdaa
open Go.ChangeShapes Go.WideShapes Go.ChangeAt Go.RowKit

/-! ### math/bits.Add64, Sub64: the model's own -/
theorem run_add64 (x y c : Nat) (hc : c ≤ 1) (w : World) :
    (callFunc 94 #[.int .u64 x, .int .u64 y, .int .u64 c]).run Try.prog w = .ok (.value (.tuple #[.int .u64 (addW x y c), .int .u64 (addC x y c)])) w := by
  rw [run_callFunc_extern Try.func94 (by kernel_rfl) (by kernel_rfl) (by kernel_rfl) (e := add64Entry) (by kernel_rfl), Go.run_add64 x y c (by omega) (by omega) (by omega) (by omega)]
  simp only [Result.andThen, addW, addC, W64]
  congr 5 <;> omega
def sub64Entry : Array Value → Sem Value := fun args => do
  let (x, y, b) ← Extern.MathBitsCarry.three "Sub64" args
  pure (Extern.MathBitsCarry.pair ((x + Extern.MathBitsCarry.m64 - y - b) % Extern.MathBitsCarry.m64) (if x < y + b then 1 else 0))
theorem sub64Entry_run (x y b : Nat) (hb : b ≤ 1) (w : World) :
    (sub64Entry #[.int .u64 x, .int .u64 y, .int .u64 b]).run Try.prog w = .ok (.tuple #[.int .u64 (subW x y b), .int .u64 (subB x y b)]) w := by
  have : b = 0 ∨ b = 1 := by omega
  rcases this with rfl | rfl <;> rfl
theorem run_sub64 (x y b : Nat) (hb : b ≤ 1) (w : World) :
    (callFunc 56 #[.int .u64 x, .int .u64 y, .int .u64 b]).run Try.prog w = .ok (.value (.tuple #[.int .u64 (subW x y b), .int .u64 (subB x y b)])) w := by
  rw [run_callFunc_extern Try.func56 (by kernel_rfl) (by kernel_rfl) (by kernel_rfl) (e := sub64Entry) (by kernel_rfl), sub64Entry_run x y b hb]
  rfl

/-- Four words as a value. -/
def words (A : Nat → Nat) : Value := .agg #[.int .u64 (A 0), .int .u64 (A 1), .int .u64 (A 2), .int .u64 (A 3)]

/-- Four cells of a block hold four words. -/
def WAt (w : World) (b : Nat) (A : Nat → Nat) : Prop := ∀ j, j < 4 → w.cell? ⟨b, j, none⟩ = some (.int .u64 (A j))
def Free4 (w : World) (b : Nat) : Prop := ∀ j, j < 4 → w.frozen? ⟨b, j, none⟩ = false
theorem WAt.new (w : World) (A : Nat → Nat) (t : TypeId) : WAt (w.alloc (.cells #[.int .u64 (A 0), .int .u64 (A 1), .int .u64 (A 2), .int .u64 (A 3)] t)) w.heap.size A := by
  intro j hj
  have : j = 0 ∨ j = 1 ∨ j = 2 ∨ j = 3 := by omega
  rcases this with rfl | rfl | rfl | rfl <;> simp
theorem WAt.zero (w : World) (t : TypeId) : WAt (w.alloc (.cells #[.int .u64 0, .int .u64 0, .int .u64 0, .int .u64 0] t)) w.heap.size (fun _ => 0) := by
  intro j hj
  have : j = 0 ∨ j = 1 ∨ j = 2 ∨ j = 3 := by omega
  rcases this with rfl | rfl | rfl | rfl <;> simp
theorem WAt.alloc {w : World} {b : Nat} {A : Nat → Nat} (h : WAt w b A) (o : Obj) : WAt (w.alloc o) b A := fun j hj =>
  (World.cell?_alloc_lt w o ⟨b, j, none⟩ (World.block_lt_of_cell? (a := ⟨b, j, none⟩) _ (h j hj))).trans (h j hj)
theorem WAt.congr {w : World} {b : Nat} {A B : Nat → Nat} (h : WAt w b A) (hg : ∀ j, j < 4 → A j = B j) : WAt w b B := fun j hj => by rw [h j hj, hg j hj]
theorem WAt.set {w : World} {b : Nat} {A : Nat → Nat} (h : WAt w b A) (c : Nat) (x : Nat) : WAt (w.setCell ⟨b, c, none⟩ (.int .u64 x)) b (fun j => if j = c then x else A j) := by
  intro j hj
  by_cases hjc : j = c
  · subst hjc
    rw [World.cell?_setCell_same (h := h j hj)]
    simp
  · rw [World.cell?_setCell_other _ _ _ _ (by intro h; injection h; omega), h j hj]
    simp [hjc]
theorem WAt.other {w : World} {b : Nat} {A : Nat → Nat} (h : WAt w b A) {c : Nat} (i : Nat) (v : Value) (hc : b ≠ c) : WAt (w.setCell ⟨c, i, none⟩ v) b A := fun j hj => by
  rw [World.cell?_setCell_other _ _ _ _ (by intro h; injection h; omega), h j hj]
theorem Free4.set {w : World} {b : Nat} (h : Free4 w b) (a : Addr) (v : Value) : Free4 (w.setCell a v) b := fun j hj => by simpa using h j hj

theorem Free4.new (w : World) (c : Array Value) (t : TypeId) : Free4 (w.alloc (.cells c t)) w.heap.size := fun j _ => by simp
/-- Two long numbers and a zero one are laid. -/
theorem start3 (w : World) (A B : Nat → Nat) (t1 t2 t3 : TypeId) :
    WAt (((w.alloc (.cells #[.int .u64 (A 0), .int .u64 (A 1), .int .u64 (A 2), .int .u64 (A 3)] t1)).alloc (.cells #[.int .u64 (B 0), .int .u64 (B 1), .int .u64 (B 2), .int .u64 (B 3)] t2)).alloc (.cells #[.int .u64 0, .int .u64 0, .int .u64 0, .int .u64 0] t3)) w.heap.size A ∧
    WAt (((w.alloc (.cells #[.int .u64 (A 0), .int .u64 (A 1), .int .u64 (A 2), .int .u64 (A 3)] t1)).alloc (.cells #[.int .u64 (B 0), .int .u64 (B 1), .int .u64 (B 2), .int .u64 (B 3)] t2)).alloc (.cells #[.int .u64 0, .int .u64 0, .int .u64 0, .int .u64 0] t3)) (w.heap.size + 1) B ∧
    WAt (((w.alloc (.cells #[.int .u64 (A 0), .int .u64 (A 1), .int .u64 (A 2), .int .u64 (A 3)] t1)).alloc (.cells #[.int .u64 (B 0), .int .u64 (B 1), .int .u64 (B 2), .int .u64 (B 3)] t2)).alloc (.cells #[.int .u64 0, .int .u64 0, .int .u64 0, .int .u64 0] t3)) (w.heap.size + 1 + 1) (fun _ => 0) ∧
    Free4 (((w.alloc (.cells #[.int .u64 (A 0), .int .u64 (A 1), .int .u64 (A 2), .int .u64 (A 3)] t1)).alloc (.cells #[.int .u64 (B 0), .int .u64 (B 1), .int .u64 (B 2), .int .u64 (B 3)] t2)).alloc (.cells #[.int .u64 0, .int .u64 0, .int .u64 0, .int .u64 0] t3)) (w.heap.size + 1 + 1) ∧
    Below w.heap.size w (((w.alloc (.cells #[.int .u64 (A 0), .int .u64 (A 1), .int .u64 (A 2), .int .u64 (A 3)] t1)).alloc (.cells #[.int .u64 (B 0), .int .u64 (B 1), .int .u64 (B 2), .int .u64 (B 3)] t2)).alloc (.cells #[.int .u64 0, .int .u64 0, .int .u64 0, .int .u64 0] t3)) := by
  have h1 := WAt.new w A t1
  have h2 := WAt.new (w.alloc (.cells #[.int .u64 (A 0), .int .u64 (A 1), .int .u64 (A 2), .int .u64 (A 3)] t1)) B t2
  have h3 := WAt.zero ((w.alloc (.cells #[.int .u64 (A 0), .int .u64 (A 1), .int .u64 (A 2), .int .u64 (A 3)] t1)).alloc (.cells #[.int .u64 (B 0), .int .u64 (B 1), .int .u64 (B 2), .int .u64 (B 3)] t2)) t3
  have h4 := Free4.new ((w.alloc (.cells #[.int .u64 (A 0), .int .u64 (A 1), .int .u64 (A 2), .int .u64 (A 3)] t1)).alloc (.cells #[.int .u64 (B 0), .int .u64 (B 1), .int .u64 (B 2), .int .u64 (B 3)] t2)) #[.int .u64 0, .int .u64 0, .int .u64 0, .int .u64 0] t3
  simp only [World.size_alloc] at h2 h3 h4
  exact ⟨(h1.alloc _).alloc _, h2.alloc _, h3, h4, (((Below.refl _ _).alloc (Nat.le_refl _) _).alloc (by simp) _).alloc (by simp; omega) _⟩

theorem add_walk (A B : Nat → Nat) (hA : ∀ i, A i < W64) (hB : ∀ i, B i < W64) (w : World) :
    Calls Try.prog 87 #[words A, words B] w fun e w' => e = .returned (.tuple #[words (sumW A B), .int .u64 (carry A B 4)]) ∧ Below w.heap.size w w' := by
  unfold words
  have hcl := fun k => carry_le hA hB k
  have HCL := Lib.hid hcl
  have hadd := run_add64
  clear hA hB hcl
  have ST := Lib.hid (start3 w A B)
  go_enter Try.func87, Try.ntmps87
  go_wp2
  go_loopw [5, 7] (fun c i wr => ∃ k : Nat, k ≤ 4 ∧ i = .int .i64 k ∧ c = .int .u64 (carry A B k) ∧ WAt wr w.heap.size A ∧ WAt wr (w.heap.size + 1) B ∧
    WAt wr (w.heap.size + 1 + 1) (fun j => if j < k then sumW A B j else 0) ∧ Free4 wr (w.heap.size + 1 + 1) ∧ Below w.heap.size w wr) (fun _ i _ => 4 - (intOf i).toNat)
  case atStart => exact ⟨0, by omega, rfl, rfl, (ST.out _ _ _).1, (ST.out _ _ _).2.1, (ST.out _ _ _).2.2.1, (ST.out _ _ _).2.2.2.1, (ST.out _ _ _).2.2.2.2⟩
  case round =>
    obtain ⟨k, hk, rfl, rfl, ha, hb, hs, hf, hbel⟩ := hrel
    by_cases hlt : k < 4
    · have ak := ha k hlt
      have bk := hb k hlt
      have sk := hs k hlt
      have fk := hf k hlt
      have hc1 := HCL.out k
      have HA := Lib.hid ha
      have HB := Lib.hid hb
      have HS := Lib.hid hs
      have HF := Lib.hid hf
      have HBel := Lib.hid hbel
      clear ha hb hs hf hbel
      go_wp2
      go_region
      go_wp2
      go_roundw
      case rel =>
        refine ⟨k + 1, by omega, by go_num, rfl, HA.out.other _ _ (by omega), HB.out.other _ _ (by omega), (HS.out.set k _).congr fun j hj => ?_, HF.out.set _ _, (HBel.out.drew).setCell (by simp; omega) _⟩
        by_cases h : j = k
        · subst h; simp; rfl
        · by_cases h' : j < k
          · simp [h, h', show j < k + 1 by omega]
          · simp [h, h', show ¬ j < k + 1 by omega]
      case measure => simp [intOf]; omega
    · obtain rfl : k = 4 := by omega
      clear hlt
      have s0 := hs 0 (by omega)
      have s1 := hs 1 (by omega)
      have s2 := hs 2 (by omega)
      have s3 := hs 3 (by omega)
      have f0 := hf 0 (by omega)
      have f1 := hf 1 (by omega)
      have f2 := hf 2 (by omega)
      have f3 := hf 3 (by omega)
      simp only [show (0 : Nat) < 4 from by omega, show (1 : Nat) < 4 from by omega, show (2 : Nat) < 4 from by omega, show (3 : Nat) < 4 from by omega, if_true] at s0 s1 s2 s3
      have HBel := Lib.hid hbel
      clear ha hb hs hf hbel
      go_wp2
      refine bodyPost_ret (v := .tuple #[words (sumW A B), .int .u64 (carry A B 4)]) (by simp [results, Try.results87, go_sem, words, s0, s1, s2, s3]) rfl ⟨rfl, ?_⟩
      exact (((HBel.out.setCell (by simp; omega) _).setCell (by simp; omega) _).setCell (by simp; omega) _).setCell (by simp; omega) _
theorem sub_walk (A B : Nat → Nat) (w : World) :
    Calls Try.prog 29 #[words A, words B] w fun e w' => e = .returned (.tuple #[words (difW A B), .int .u64 (borrow A B 4)]) ∧ Below w.heap.size w w' := by
  unfold words
  have hcl := fun k => borrow_le A B k
  have HCL := Lib.hid hcl
  have hsub := run_sub64
  clear hcl
  have ST := Lib.hid (start3 w A B)
  go_enter Try.func29, Try.ntmps29
  go_wp2
  go_loopw [5, 7] (fun c i wr => ∃ k : Nat, k ≤ 4 ∧ i = .int .i64 k ∧ c = .int .u64 (borrow A B k) ∧ WAt wr w.heap.size A ∧ WAt wr (w.heap.size + 1) B ∧
    WAt wr (w.heap.size + 1 + 1) (fun j => if j < k then difW A B j else 0) ∧ Free4 wr (w.heap.size + 1 + 1) ∧ Below w.heap.size w wr) (fun _ i _ => 4 - (intOf i).toNat)
  case atStart => exact ⟨0, by omega, rfl, rfl, (ST.out _ _ _).1, (ST.out _ _ _).2.1, (ST.out _ _ _).2.2.1, (ST.out _ _ _).2.2.2.1, (ST.out _ _ _).2.2.2.2⟩
  case round =>
    obtain ⟨k, hk, rfl, rfl, ha, hb, hs, hf, hbel⟩ := hrel
    by_cases hlt : k < 4
    · have ak := ha k hlt
      have bk := hb k hlt
      have sk := hs k hlt
      have fk := hf k hlt
      have hc1 := HCL.out k
      have HA := Lib.hid ha
      have HB := Lib.hid hb
      have HS := Lib.hid hs
      have HF := Lib.hid hf
      have HBel := Lib.hid hbel
      clear ha hb hs hf hbel
      go_wp2
      go_region
      go_wp2
      go_roundw
      case rel =>
        refine ⟨k + 1, by omega, by go_num, rfl, HA.out.other _ _ (by omega), HB.out.other _ _ (by omega), (HS.out.set k _).congr fun j hj => ?_, HF.out.set _ _, (HBel.out.drew).setCell (by simp; omega) _⟩
        by_cases h : j = k
        · subst h; simp; rfl
        · by_cases h' : j < k
          · simp [h, h', show j < k + 1 by omega]
          · simp [h, h', show ¬ j < k + 1 by omega]
      case measure => simp [intOf]; omega
    · obtain rfl : k = 4 := by omega
      clear hlt
      have s0 := hs 0 (by omega)
      have s1 := hs 1 (by omega)
      have s2 := hs 2 (by omega)
      have s3 := hs 3 (by omega)
      have f0 := hf 0 (by omega)
      have f1 := hf 1 (by omega)
      have f2 := hf 2 (by omega)
      have f3 := hf 3 (by omega)
      simp only [show (0 : Nat) < 4 from by omega, show (1 : Nat) < 4 from by omega, show (2 : Nat) < 4 from by omega, show (3 : Nat) < 4 from by omega, if_true] at s0 s1 s2 s3
      have HBel := Lib.hid hbel
      clear ha hb hs hf hbel
      go_wp2
      refine bodyPost_ret (v := .tuple #[words (difW A B), .int .u64 (borrow A B 4)]) (by simp [results, Try.results29, go_sem, words, s0, s1, s2, s3]) rfl ⟨rfl, ?_⟩
      exact (((HBel.out.setCell (by simp; omega) _).setCell (by simp; omega) _).setCell (by simp; omega) _).setCell (by simp; omega) _

/-- A number as a value. -/
def numV (x : Nat) : Value := words (dgt W64 x)
theorem words_congr {A B : Nat → Nat} (h : ∀ j, j < 4 → A j = B j) : words A = words B := by
  unfold words
  rw [h 0 (by omega), h 1 (by omega), h 2 (by omega), h 3 (by omega)]
theorem add_any {a b : Nat} (ha : a < M256) (hb : b < M256) (w : World) :
    Calls Try.prog 87 #[numV a, numV b] w fun e w' => e = .returned (.tuple #[numV (addN a b), .int .u64 (addNC a b)]) ∧ Below w.heap.size w w' := by
  have h := add_words ha hb
  refine (add_walk _ _ (dgtW_lt a) (dgtW_lt b) w).mono fun e w' ⟨he, hw⟩ => ⟨?_, hw⟩
  rw [he, h.2, words_congr h.1]
  rfl
theorem sub_any {a b : Nat} (ha : a < M256) (hb : b < M256) (w : World) :
    Calls Try.prog 29 #[numV a, numV b] w fun e w' => e = .returned (.tuple #[numV (subN a b), .int .u64 (subNB a b)]) ∧ Below w.heap.size w w' := by
  have h := sub_words ha hb
  refine (sub_walk _ _ w).mono fun e w' ⟨he, hw⟩ => ⟨?_, hw⟩
  rw [he, h.2, words_congr h.1]
  rfl

theorem of_any (n : Nat) (hn : n < W64) (w : World) :
    Calls Try.prog 27 #[.int .u64 n] w fun e w' => e = .returned (numV n) ∧ Below w.heap.size w w' := by
  have e : numV n = .agg #[.int .u64 n, .int .u64 0, .int .u64 0, .int .u64 0] := by
    have h0 : dgt W64 n 0 = n := by unfold dgt; rw [Nat.pow_zero, Nat.div_one, Nat.mod_eq_of_lt hn]
    have h1 : ∀ j, 1 ≤ j → dgt W64 n j = 0 := fun j hj => by
      unfold dgt
      rw [Nat.div_eq_of_lt, Nat.zero_mod]
      exact Nat.lt_of_lt_of_le hn (by have := Nat.pow_le_pow_right W64_pos hj; rwa [Nat.pow_one] at this)
    unfold numV words
    rw [h0, h1 1 (by omega), h1 2 (by omega), h1 3 (by omega)]
    rfl
  have E := Lib.hid e
  clear e
  go_enter Try.func27, Try.ntmps27
  go_wp2
  refine bodyPost_ret (v := numV n) (by rw [E.out]; simp [results, Try.results27, go_sem]) rfl ⟨rfl, ?_⟩
  exact (Below.refl _ _).alloc (Nat.le_refl _) _

theorem run_mul64 (x y : Nat) (hx : x < W64) (hy : y < W64) (w : World) :
    Calls Try.prog 78 #[.int .u64 x, .int .u64 y] w fun e w' => e = .returned (.tuple #[.int .u64 (hiW x y), .int .u64 (loW x y)]) ∧ w = w' :=
  (Try.bits_Mul64 x y hx hy w).mono fun _ _ ⟨he, hw⟩ => ⟨he, hw.symm⟩
theorem times_any (x y s m : Nat) (hx : x < W64) (hy : y < W64) (hs : s < W64) (hm : m < W64) (w : World) :
    Calls Try.prog 91 #[.int .u64 x, .int .u64 y, .int .u64 s, .int .u64 m] w fun e w' => e = .returned (.tuple #[.int .u64 (tmL x y s m), .int .u64 (tmH x y s m)]) ∧ w = w' := by
  have hadd0 : ∀ (x y : Nat) (w : World), (callFunc 94 #[.int .u64 x, .int .u64 y, .int .u64 0]).run Try.prog w = .ok (.value (.tuple #[.int .u64 (addW x y 0), .int .u64 (addC x y 0)])) w := fun x y w => run_add64 x y 0 (by omega) w
  have hmul := Lib.hid (run_mul64 x y hx hy)
  have ht := times_words hx hy hs hm
  have b1 : (addC (loW x y) s 0 : Int) ≤ 1 := by have := ht.1; omega
  have b2 : (hiW x y : Int) + addC (loW x y) s 0 + addC (addW (loW x y) s 0) m 0 ≤ 18446744073709551615 := by have := ht.2.1; unfold W64 at this; omega
  have HT := Lib.hid ht
  clear ht hx hy hs hm
  go_enter Try.func91, Try.ntmps91
  go_wp2_with fail
  refine (hmul.out _).mono ?_
  rintro _ _ ⟨rfl, rfl⟩
  go_wp2
  go_ret2
  refine ⟨?_, rfl⟩
  show Ending.returned (.tuple #[.int .u64 (addW (addW (loW x y) s 0) m 0), .int .u64 ((hiW x y : Int) + addC (loW x y) s 0 + addC (addW (loW x y) s 0) m 0)]) = _
  rw [← HT.out.2.2.1, ← HT.out.2.2.2]
  simp

/-- n cells of a block hold n words. -/
def UAt (w : World) (b n : Nat) (A : Nat → Nat) : Prop := ∀ j, j < n → w.cell? ⟨b, j, none⟩ = some (.int .u64 (A j))
def FreeN (w : World) (b n : Nat) : Prop := ∀ j, j < n → w.frozen? ⟨b, j, none⟩ = false
theorem UAt.alloc {w : World} {b n : Nat} {A : Nat → Nat} (h : UAt w b n A) (o : Obj) : UAt (w.alloc o) b n A := fun j hj =>
  (World.cell?_alloc_lt w o ⟨b, j, none⟩ (World.block_lt_of_cell? (a := ⟨b, j, none⟩) _ (h j hj))).trans (h j hj)
theorem UAt.congr {w : World} {b n : Nat} {A B : Nat → Nat} (h : UAt w b n A) (hg : ∀ j, j < n → A j = B j) : UAt w b n B := fun j hj => by rw [h j hj, hg j hj]
theorem UAt.set {w : World} {b n : Nat} {A : Nat → Nat} (h : UAt w b n A) (c : Nat) (x : Nat) : UAt (w.setCell ⟨b, c, none⟩ (.int .u64 x)) b n (fun j => if j = c then x else A j) := by
  intro j hj
  by_cases hjc : j = c
  · subst hjc
    rw [World.cell?_setCell_same (h := h j hj)]
    simp
  · rw [World.cell?_setCell_other _ _ _ _ (by intro h; injection h; omega), h j hj]
    simp [hjc]
theorem UAt.other {w : World} {b n : Nat} {A : Nat → Nat} (h : UAt w b n A) {c : Nat} (i : Nat) (v : Value) (hc : b ≠ c) : UAt (w.setCell ⟨c, i, none⟩ v) b n A := fun j hj => by
  rw [World.cell?_setCell_other _ _ _ _ (by intro h; injection h; omega), h j hj]
theorem FreeN.set {w : World} {b n : Nat} (h : FreeN w b n) (a : Addr) (v : Value) : FreeN (w.setCell a v) b n := fun j hj => by simpa using h j hj
theorem FreeN.new (w : World) (c : Array Value) (t : TypeId) (n : Nat) : FreeN (w.alloc (.cells c t)) w.heap.size n := fun j _ => by simp
theorem FreeN.alloc {w : World} {b n : Nat} (h : FreeN w b n) (hb : b < w.heap.size) (o : Obj) : FreeN (w.alloc o) b n := fun j hj =>
  (World.frozen?_alloc_old w o ⟨b, j, none⟩ (Nat.ne_of_lt hb)).trans (h j hj)
theorem UAt.zero8 (w : World) (t : TypeId) : UAt (w.alloc (.cells #[.int .u64 0, .int .u64 0, .int .u64 0, .int .u64 0, .int .u64 0, .int .u64 0, .int .u64 0, .int .u64 0] t)) w.heap.size 8 (fun _ => 0) := by
  intro j hj
  have : j = 0 ∨ j = 1 ∨ j = 2 ∨ j = 3 ∨ j = 4 ∨ j = 5 ∨ j = 6 ∨ j = 7 := by omega
  rcases this with rfl | rfl | rfl | rfl | rfl | rfl | rfl | rfl <;> simp

theorem idx_words (A : Nat → Nat) : ∀ (k : Nat) (_ : k < 4) (w : World), (Instr.index 24 (.agg #[.int .u64 (A 0), .int .u64 (A 1), .int .u64 (A 2), .int .u64 (A 3)]) (.int .i64 k)).run Try.prog w = .ok (.int .u64 (A k)) w
  | 0, _, _ => by kernel_rfl
  | 1, _, _ => by kernel_rfl
  | 2, _, _ => by kernel_rfl
  | 3, _, _ => by kernel_rfl
  | k + 4, h, _ => absurd h (by omega)

/-- What the product's loops hold: the second number, eight words. -/
structure MulWorld (w wr : World) (b : Nat) (L : Nat → Nat) : Prop where
  two : UAt wr (w.heap.size + 1) 4 (dgt W64 b)
  out : UAt wr (w.heap.size + 1 + 1 + 1 + 1) 8 L
  free : FreeN wr (w.heap.size + 1 + 1 + 1 + 1) 8
  low : UAt wr (w.heap.size + 1 + 1) 4 (fun _ => 0)
  high : UAt wr (w.heap.size + 1 + 1 + 1) 4 (fun _ => 0)
  lowFree : FreeN wr (w.heap.size + 1 + 1) 4
  highFree : FreeN wr (w.heap.size + 1 + 1 + 1) 4
  below : Below w.heap.size w wr
theorem MulWorld.set {w wr : World} {b : Nat} {L : Nat → Nat} (h : MulWorld w wr b L) (c x : Nat) : MulWorld w (wr.setCell ⟨w.heap.size + 1 + 1 + 1 + 1, c, none⟩ (.int .u64 x)) b (fun j => if j = c then x else L j) :=
  ⟨h.two.other _ _ (by omega), h.out.set _ _, h.free.set _ _, h.low.other _ _ (by omega), h.high.other _ _ (by omega), h.lowFree.set _ _, h.highFree.set _ _, h.below.setCell (by simp; omega) _⟩
theorem mul_start (w : World) (A B : Nat → Nat) (t1 t2 t3 t4 t5 : TypeId) : ∀ W, W = ((((w.alloc (.cells #[.int .u64 (A 0), .int .u64 (A 1), .int .u64 (A 2), .int .u64 (A 3)] t1)).alloc (.cells #[.int .u64 (B 0), .int .u64 (B 1), .int .u64 (B 2), .int .u64 (B 3)] t2)).alloc (.cells #[.int .u64 0, .int .u64 0, .int .u64 0, .int .u64 0] t3)).alloc
      (.cells #[.int .u64 0, .int .u64 0, .int .u64 0, .int .u64 0] t4)).alloc (.cells #[.int .u64 0, .int .u64 0, .int .u64 0, .int .u64 0, .int .u64 0, .int .u64 0, .int .u64 0, .int .u64 0] t5) →
    UAt W (w.heap.size + 1) 4 B ∧ UAt W (w.heap.size + 1 + 1 + 1 + 1) 8 (fun _ => 0) ∧ FreeN W (w.heap.size + 1 + 1 + 1 + 1) 8 ∧ UAt W (w.heap.size + 1 + 1) 4 (fun _ => 0) ∧ UAt W (w.heap.size + 1 + 1 + 1) 4 (fun _ => 0) ∧ FreeN W (w.heap.size + 1 + 1) 4 ∧ FreeN W (w.heap.size + 1 + 1 + 1) 4 ∧ Below w.heap.size w W := by
  intro W hW
  have h2 : UAt _ _ 4 B := WAt.new (w.alloc (.cells #[.int .u64 (A 0), .int .u64 (A 1), .int .u64 (A 2), .int .u64 (A 3)] t1)) B t2
  generalize h1e : w.alloc (.cells #[.int .u64 (A 0), .int .u64 (A 1), .int .u64 (A 2), .int .u64 (A 3)] t1) = w1 at *
  have s1 : w1.heap.size = w.heap.size + 1 := by rw [← h1e]; simp
  have b1 : Below w.heap.size w w1 := h1e ▸ (Below.refl _ _).alloc (Nat.le_refl _) _
  generalize h2e : w1.alloc (.cells #[.int .u64 (B 0), .int .u64 (B 1), .int .u64 (B 2), .int .u64 (B 3)] t2) = w2 at *
  have s2 : w2.heap.size = w.heap.size + 1 + 1 := by rw [← h2e, ← s1]; simp
  have b2 : Below w.heap.size w w2 := h2e ▸ b1.alloc (by omega) _
  have h3 : UAt _ _ 4 (fun _ => 0) := WAt.zero w2 t3
  have f3 := FreeN.new w2 #[.int .u64 0, .int .u64 0, .int .u64 0, .int .u64 0] t3 4
  generalize h3e : w2.alloc (.cells #[.int .u64 0, .int .u64 0, .int .u64 0, .int .u64 0] t3) = w3 at *
  have s3 : w3.heap.size = w.heap.size + 1 + 1 + 1 := by rw [← h3e, ← s2]; simp
  have b3 : Below w.heap.size w w3 := h3e ▸ b2.alloc (by omega) _
  have h4 : UAt _ _ 4 (fun _ => 0) := WAt.zero w3 t4
  have f4 := FreeN.new w3 #[.int .u64 0, .int .u64 0, .int .u64 0, .int .u64 0] t4 4
  generalize h4e : w3.alloc (.cells #[.int .u64 0, .int .u64 0, .int .u64 0, .int .u64 0] t4) = w4 at *
  have s4 : w4.heap.size = w.heap.size + 1 + 1 + 1 + 1 := by rw [← h4e, ← s3]; simp
  have b4 : Below w.heap.size w w4 := h4e ▸ b3.alloc (by omega) _
  have h5 := UAt.zero8 w4 t5
  have f5 := FreeN.new w4 #[.int .u64 0, .int .u64 0, .int .u64 0, .int .u64 0, .int .u64 0, .int .u64 0, .int .u64 0, .int .u64 0] t5 8
  rw [s1] at h2
  rw [s2] at h3 f3
  rw [s3] at h4 f4
  rw [s4] at h5 f5
  have f3' : FreeN w4 (w.heap.size + 1 + 1) 4 := h4e ▸ f3.alloc (by omega) _
  have h3' : UAt w4 (w.heap.size + 1 + 1) 4 (fun _ => 0) := h4e ▸ h3.alloc _
  have h2' : UAt w4 (w.heap.size + 1) 4 B := h4e ▸ (show UAt w3 _ 4 B from h3e ▸ h2.alloc _).alloc _
  rw [hW]
  exact ⟨h2'.alloc _, h5, f5, h3'.alloc _, h4.alloc _, f3'.alloc (by omega) _, f4.alloc (by omega) _, b4.alloc (by omega) _⟩

set_option maxHeartbeats 1000000 in
theorem mul_any {a b : Nat} (ha : a < M256) (hb : b < M256) (w : World) :
    Calls Try.prog 79 #[numV a, numV b] w fun e w' => e = .returned (.tuple #[numV (mulL a b), numV (mulH a b)]) ∧ Below w.heap.size w w' := by
  have hXa := idx_words (dgt W64 a)
  have hXb := idx_words (dgt W64 b)
  have HA := Lib.hid (dgtW_lt a)
  have HB := Lib.hid (dgtW_lt b)
  have Ha := Lib.hid ha
  have Hb := Lib.hid hb
  have harr := fun (x : Nat) (o n c : Nat) (w : World) (h : 4 ≤ n) => run_arrayAt (P := Try.prog) w 24 22 4 (some ⟨x, o, none⟩) n c Try.underlying24 h
  have HS := Lib.hid (mul_start w (dgt W64 a) (dgt W64 b))
  clear ha hb
  unfold numV words
  go_enter Try.func79, Try.ntmps79
  go_wp2
  go_loopw [13] (fun i wr => ∃ (i' : Nat) (L : Nat → Nat), i' ≤ 4 ∧ i = .int .i64 i' ∧ MulWorld w wr b L ∧ Hid (valn W64 8 L = valn W64 i' (dgt W64 a) * valn W64 4 (dgt W64 b) ∧ (∀ j, i' + 4 ≤ j → L j = 0) ∧ ∀ j, L j < W64)) (fun i _ => 4 - (intOf i).toNat)
  case atStart =>
    obtain ⟨h1, h2, h3, h4, h5, h6, h7, h8⟩ := HS.out _ _ _ _ _ _ rfl
    exact ⟨0, fun _ => 0, by omega, rfl, ⟨h1, h2, h3, h4, h5, h6, h7, h8⟩, Lib.hid ⟨by rw [valn_zero]; simp [valn], fun _ _ => rfl, fun _ => W64_pos⟩⟩
  case round =>
    obtain ⟨i', L, hi, rfl, hM, hL⟩ := hrel
    by_cases hlt : i' < 4
    · have b0 := hM.two 0 (by omega)
      have b1 := hM.two 1 (by omega)
      have b2 := hM.two 2 (by omega)
      have b3 := hM.two 3 (by omega)
      have HM := Lib.hid hM
      have hdec : decide ((i' : Int) < 4) = true := by simp; omega
      clear hM
      go_wp2
      clear b0 b1 b2 b3
      obtain ⟨wo, hwo⟩ : ∃ wo : World, wo = wr := ⟨_, rfl⟩
      have HWO := Lib.hid hwo
      clear hwo
      go_loopw [9, 18] (fun m k wr => ∃ (k' more : Nat) (L : Nat → Nat), k' ≤ 4 ∧ k = .int .i64 k' ∧ m = .int .u64 more ∧ MulWorld w wr b L ∧ Hid (MulAt W64 8 4 (dgt W64 a) (dgt W64 b) L i' k' more ∧ (∀ j, L j < W64) ∧ more < W64)) (fun _ k _ => 4 - (intOf k).toNat)
      case atStart => exact ⟨0, 0, L, by omega, rfl, rfl, HM.out, Lib.hid ⟨mul_begin hL.out.1 hL.out.2.1, hL.out.2.2, W64_pos⟩⟩
      case round =>
        obtain ⟨k', more, L', hk, rfl, rfl, hM', hL'⟩ := hrel
        by_cases hkl : k' < 4
        · have c1 := hM'.out (i' + k') (by omega)
          have f1 := hM'.free (i' + k') (by omega)
          have HM' := Lib.hid hM'
          clear hM'
          go_wp2_with fail
          refine (times_any (dgt W64 a i') (dgt W64 b k') (L' (i' + k')) more (HA.out _) (HB.out _) (hL'.out.2.1 _) hL'.out.2.2 _).mono ?_
          rintro _ _ ⟨rfl, rfl⟩
          go_wp2
          go_roundw
          case rel =>
            have hn : Hid (MulAt W64 8 4 (dgt W64 a) (dgt W64 b) (fun j => if j = i' + k' then tmL (dgt W64 a i') (dgt W64 b k') (L' (i' + k')) more else L' j) i' (k' + 1) (tmH (dgt W64 a i') (dgt W64 b k') (L' (i' + k')) more) ∧
                (∀ j, (fun j => if j = i' + k' then tmL (dgt W64 a i') (dgt W64 b k') (L' (i' + k')) more else L' j) j < W64) ∧ tmH (dgt W64 a i') (dgt W64 b k') (L' (i' + k')) more < W64) := by
              refine Lib.hid ⟨mul_step hL'.out.1 hkl (by omega) (tm_eq _ _ _ _), fun j => ?_, tmH_lt (HA.out _) (HB.out _) (hL'.out.2.1 _) hL'.out.2.2⟩
              dsimp only
              split
              · exact tmL_lt _ _ _ _
              · exact hL'.out.2.1 j
            exact ⟨k' + 1, _, _, by omega, by go_num, rfl, HM'.out.set _ _, hn⟩
          case measure => simp [intOf]; omega
        · obtain rfl : k' = 4 := by omega
          clear hkl
          have c1 := hM'.out (i' + 4) (by omega)
          have f1 := hM'.free (i' + 4) (by omega)
          have HM' := Lib.hid hM'
          clear hM'
          go_wp2
          go_roundw
          case rel =>
            have hr := mul_row hL'.out.1 (show i' + 4 < 8 by omega)
            refine ⟨i' + 1, _, by omega, by go_num, HM'.out.set _ _, Lib.hid ⟨hr.1, hr.2, fun j => ?_⟩⟩
            split
            · exact hL'.out.2.2
            · exact hL'.out.2.1 j
          case measure => simp [intOf]; omega
    · obtain rfl : i' = 4 := by omega
      clear hlt
      have c0 := hM.out 0 (by omega)
      have c1 := hM.out 1 (by omega)
      have c2 := hM.out 2 (by omega)
      have c3 := hM.out 3 (by omega)
      have c4 := hM.out 4 (by omega)
      have c5 := hM.out 5 (by omega)
      have c6 := hM.out 6 (by omega)
      have c7 := hM.out 7 (by omega)
      have l0 := hM.low 0 (by omega)
      have l1 := hM.low 1 (by omega)
      have l2 := hM.low 2 (by omega)
      have l3 := hM.low 3 (by omega)
      have h0 := hM.high 0 (by omega)
      have h1 := hM.high 1 (by omega)
      have h2 := hM.high 2 (by omega)
      have h3 := hM.high 3 (by omega)
      have lf0 := hM.lowFree 0 (by omega)
      have lf1 := hM.lowFree 1 (by omega)
      have lf2 := hM.lowFree 2 (by omega)
      have lf3 := hM.lowFree 3 (by omega)
      have hf0 := hM.highFree 0 (by omega)
      have hf1 := hM.highFree 1 (by omega)
      have hf2 := hM.highFree 2 (by omega)
      have hf3 := hM.highFree 3 (by omega)
      have hbel := Lib.hid hM.below
      clear hM
      go_wp2
      go_region
      go_wp2
      have hn := mul_number (n := 4) W64_pow (fun j _ => hL.out.2.2 j) (by rw [show 4 + 4 = 8 from rfl, hL.out.1, valn_self Ha.out, valn_self Hb.out])
      have e1 : words L = numV (mulL a b) := words_congr fun j hj => by rw [← hn.1, dgt_valn W64_pos (fun j _ => hL.out.2.2 j) j hj]
      have e2 : words (fun j => L (4 + j)) = numV (mulH a b) := words_congr fun j hj => by rw [← hn.2, dgt_valn (L := fun j => L (4 + j)) W64_pos (fun j _ => hL.out.2.2 _) j hj]
      refine bodyPost_ret (v := .tuple #[words L, words (fun j => L (4 + j))]) (by simp [results, Try.results79, go_sem, words, l0, l1, l2, l3, h0, h1, h2, h3]) rfl ⟨?_, ?_⟩
      · rw [e1, e2]; rfl
      · exact ((((((((hbel.out.setCell (by simp; omega) _).setCell (by simp; omega) _).setCell (by simp; omega) _).setCell (by simp; omega) _).setCell (by simp; omega) _).setCell (by simp; omega) _).setCell (by simp; omega) _).setCell (by simp; omega) _).drew

/-! ### Numbers, compared -/
theorem all_words {a b : Nat} (ha : a < M256) (hb : b < M256) : ((List.range 4).all fun i => ((dgt W64 a i : Nat) : Int) == ((dgt W64 b i : Nat) : Int)) = decide (a = b) := by
  by_cases h : a = b
  · subst h; simp
  · rw [decide_eq_false h, ← Bool.not_eq_true]
    intro hall
    rw [List.all_eq_true] at hall
    exact h (eq_of_words ha hb fun j hj => by
      exact Int.ofNat_inj.1 (eq_of_beq (hall j (List.mem_range.2 hj))))
theorem words_get (A : Nat → Nat) : ∀ i, i < 4 → (#[Value.int .u64 (A 0), .int .u64 (A 1), .int .u64 (A 2), .int .u64 (A 3)])[i]? = some (.int .u64 ((A i : Nat) : Int))
  | 0, _ => rfl
  | 1, _ => rfl
  | 2, _ => rfl
  | 3, _ => rfl
  | k + 4, h => absurd h (by omega)
theorem eq_num (a b : Nat) (ha : a < M256) (hb : b < M256) (w : World) : (binOp .eql 24 (.agg #[.int .u64 (dgt W64 a 0), .int .u64 (dgt W64 a 1), .int .u64 (dgt W64 a 2), .int .u64 (dgt W64 a 3)]) (.agg #[.int .u64 (dgt W64 b 0), .int .u64 (dgt W64 b 1), .int .u64 (dgt W64 b 2), .int .u64 (dgt W64 b 3)])).run Try.prog w = .ok (.bool (decide (a = b))) w := by
  rw [run_eql_arr w 24 22 .u64 4 Try.underlying24 Try.underlying22 (fun _ => by kernel_rfl) (fun _ => by kernel_rfl) _ _ (fun i => dgt W64 a i) (fun i => dgt W64 b i) (words_get _) (words_get _), all_words ha hb]
theorem ne_num (a b : Nat) (ha : a < M256) (hb : b < M256) (w : World) : (binOp .neq 24 (.agg #[.int .u64 (dgt W64 a 0), .int .u64 (dgt W64 a 1), .int .u64 (dgt W64 a 2), .int .u64 (dgt W64 a 3)]) (.agg #[.int .u64 (dgt W64 b 0), .int .u64 (dgt W64 b 1), .int .u64 (dgt W64 b 2), .int .u64 (dgt W64 b 3)])).run Try.prog w = .ok (.bool (!decide (a = b))) w := by
  rw [run_neq_arr w 24 22 .u64 4 Try.underlying24 Try.underlying22 (fun _ => by kernel_rfl) (fun _ => by kernel_rfl) _ _ (fun i => dgt W64 a i) (fun i => dgt W64 b i) (words_get _) (words_get _), all_words ha hb]

theorem cmp_any {a b : Nat} (ha : a < M256) (hb : b < M256) (w : World) :
    Calls Try.prog 12 #[numV a, numV b] w fun e w' => e = .returned (.int .i64 (cmpN a b)) ∧ Below w.heap.size w w' := by
  have heq := eq_num a b ha hb
  have HC := Lib.hid (@sub_any a b ha hb)
  by_cases h : a = b
  · have hv : cmpN a b = 0 := by unfold cmpN; rw [if_neg (by omega), if_pos h]
    rw [hv]
    rw [decide_eq_true h] at heq
    clear hv h ha hb
    unfold numV words
    go_enter Try.func12, Try.ntmps12
    go_wp2
    go_ret
    exact ⟨rfl, ((Below.refl _ _).alloc (Nat.le_refl _) _).alloc (by simp) _⟩
  · rw [decide_eq_false h] at heq
    by_cases hlt : a < b
    · have hv : cmpN a b = -1 := by unfold cmpN; rw [if_pos hlt]
      have hs : subNB a b = 1 := by unfold subNB; rw [if_pos hlt]
      rw [hv]
      rw [hs] at HC
      unfold numV words at HC ⊢
      clear hv hs h hlt ha hb
      go_enter Try.func12, Try.ntmps12
      go_wp2_with fail
      refine (HC.out _).mono ?_
      rintro _ w1 ⟨rfl, hb1⟩
      have HB := Lib.hid hb1
      clear hb1
      go_wp2
      go_ret
      have hb1 := HB.out
      exact ⟨rfl, (((Below.refl _ _).alloc (Nat.le_refl _) _).alloc (by simp) _).trans ((hb1.mono (by simp; omega)).alloc (by have := hb1.size; simp at this; omega) _)⟩
    · have hv : cmpN a b = 1 := by unfold cmpN; rw [if_neg hlt, if_neg h]
      have hs : subNB a b = 0 := by unfold subNB; rw [if_neg hlt]
      rw [hv]
      rw [hs] at HC
      unfold numV words at HC ⊢
      clear hv hs h hlt ha hb
      go_enter Try.func12, Try.ntmps12
      go_wp2_with fail
      refine (HC.out _).mono ?_
      rintro _ w1 ⟨rfl, hb1⟩
      have HB := Lib.hid hb1
      clear hb1
      go_wp2
      go_ret
      have hb1 := HB.out
      exact ⟨rfl, (((Below.refl _ _).alloc (Nat.le_refl _) _).alloc (by simp) _).trans ((hb1.mono (by simp; omega)).alloc (by have := hb1.size; simp at this; omega) _)⟩

/-! ### Bits -/
theorem bitLen_eq (x : Nat) (h : x < 2 ^ 64) : Lib.bitLen x = bitsN x := by
  induction x using Nat.strongRecOn with
  | _ x ih =>
    by_cases h0 : x = 0
    · subst h0; rfl
    · rw [Lib.bitLen_half x h0 h, ih (x / 2) (by omega) (by omega)]
      unfold bitsN
      rw [if_neg h0, Nat.log2_def x]
      by_cases h2 : 2 ≤ x
      · rw [if_pos h2, if_neg (by omega)]; omega
      · obtain rfl : x = 1 := by omega
        simp
theorem run_len64 (x : Nat) (hx : x < W64) (w : World) : Calls Try.prog 77 #[.int .u64 x] w fun e w' => e = .returned (.int .i64 (bitsN x)) ∧ w = w' := by
  refine (Try.bits_Len64 x w (by omega) (by unfold W64 at hx; omega)).mono fun _ _ ⟨he, hw⟩ => ⟨?_, hw.symm⟩
  rw [he, Int.toNat_natCast, bitLen_eq x (by rw [← W64_eq]; exact hx)]

theorem bits_any {a : Nat} (ha : a < M256) (w : World) :
    Calls Try.prog 48 #[numV a] w fun e w' => e = .returned (.int .i64 (bitsN a)) ∧ Below w.heap.size w w' := by
  have Ha := Lib.hid ha
  have hw := WAt.new w (dgt W64 a)
  have HW := Lib.hid hw
  clear ha hw
  unfold numV words
  go_enter Try.func48, Try.ntmps48
  go_wp2
  go_loopw [3] (fun i wr => ∃ k : Nat, k ≤ 4 ∧ i = .int .i64 ((k : Int) - 1) ∧ WAt wr w.heap.size (dgt W64 a) ∧ Below w.heap.size w wr ∧ Hid (∀ j, k ≤ j → j < 4 → dgt W64 a j = 0)) (fun i _ => (intOf i + 1).toNat)
  case atStart => exact ⟨4, by omega, rfl, HW.out _, (Below.refl _ _).alloc (Nat.le_refl _) _, Lib.hid fun j h1 h2 => by omega⟩
  case round =>
    obtain ⟨k, hk, rfl, hc, hb, hz⟩ := hrel
    by_cases hk0 : k = 0
    · subst hk0
      have h0 : a = 0 := by
        have := below_of_zeros Ha.out hz.out (by omega)
        rw [Nat.pow_zero] at this
        omega
      have H0 := Lib.hid h0
      have HB := Lib.hid hb
      clear h0 hc hb
      go_wp2
      go_ret
      exact ⟨by rw [H0.out]; rfl, HB.out⟩
    · obtain ⟨i, rfl⟩ : ∃ i, k = i + 1 := ⟨k - 1, by omega⟩
      have ei : ((i + 1 : Nat) : Int) - 1 = (i : Int) := by omega
      rw [ei]
      clear ei
      have ci := hc i (by omega)
      have HC := Lib.hid hc
      have HB := Lib.hid hb
      clear hc hb hk0
      by_cases hd : dgt W64 a i = 0
      · have hz' : Hid (∀ j, i ≤ j → j < 4 → dgt W64 a j = 0) := Lib.hid fun j h1 h2 => by
          by_cases hj : j = i
          · subst hj; exact hd
          · exact hz.out j (by omega) h2
        rw [hd] at ci
        clear hd
        go_wp2
        go_roundw
        case rel => exact ⟨i, by omega, by go_num, HC.out, HB.out, hz'⟩
        case measure => simp [intOf]
      · have hlt := below_of_zeros Ha.out hz.out hk
        have hbt := bitsN_word (a := a) (i := i) (by rw [W64_eq, ← Nat.pow_mul] at hlt; exact hlt) hd
        have hdp : 0 < dgt W64 a i := by omega
        have hle := bitsN_le Ha.out
        have HR := Lib.hid hbt
        have HL := Lib.hid (run_len64 (dgt W64 a i) (dgtW_lt a i))
        have hdl : (bitsN (dgt W64 a i) : Int) ≤ 256 := by omega
        clear hd hlt hbt hle
        go_wp2_with fail
        refine (HL.out _).mono ?_
        rintro _ _ ⟨rfl, rfl⟩
        go_wp2
        go_ret
        refine ⟨?_, HB.out⟩
        rw [HR.out]
        exact congrArg (fun z => Ending.returned (.int .i64 z)) (by omega)

theorem bit_val (a n : Nat) (hn : n < 256) : bits BinOp.and IntKind.u64 ((dgt W64 a (n / 64) : Int) / 2 ^ (n % 64)) 1 = ((bitN a n : Nat) : Int) := by
  have e : ((dgt W64 a (n / 64) : Nat) : Int) / 2 ^ (n % 64) = ((dgt W64 a (n / 64) / 2 ^ (n % 64) : Nat) : Int) := by simp
  have hl : dgt W64 a (n / 64) / 2 ^ (n % 64) < 18446744073709551616 := Nat.lt_of_le_of_lt (Nat.div_le_self _ _) (dgtW_lt a _)
  rw [e, show (1 : Int) = ((1 : Nat) : Int) from rfl, u64_and_nat _ _ hl (by omega), Nat.and_one_is_mod]
  unfold bitN
  rw [if_neg (by omega), Int.toNat_natCast]
  rw [W64_eq, bit_of_dgt 64 a (n / 64) (n % 64) (by omega), show 64 * (n / 64) + n % 64 = n by omega]
theorem bit_any {a : Nat} (i : Int) (w : World) (hi0 : -9223372036854775808 ≤ i) (hi1 : i ≤ 9223372036854775807) :
    Calls Try.prog 71 #[numV a, .int .i64 i] w fun e w' => e = .returned (.int .u64 (bitN a i)) ∧ Below w.heap.size w w' := by
  by_cases h : i < 0 ∨ 255 < i
  · have hv : bitN a i = 0 := by unfold bitN; rw [if_pos h]
    rw [hv]
    have h' : i < 0 ∨ 256 ≤ i := by omega
    clear hv h
    unfold numV words
    rcases h' with h | h
    all_goals
      go_enter Try.func71, Try.ntmps71
      go_wp2
      go_ret
      exact ⟨rfl, (Below.refl _ _).alloc (Nat.le_refl _) _⟩
  · obtain ⟨n, rfl⟩ := Int.eq_ofNat_of_zero_le (show 0 ≤ i by omega)
    have hn : n < 256 := by omega
    have hq : n / 64 < 4 := by omega
    have cq := fun t => WAt.new w (dgt W64 a) t (n / 64) hq
    have hr : n % 64 < 64 := by omega
    clear h
    unfold numV words
    go_enter Try.func71, Try.ntmps71
    go_wp2
    go_ret
    exact ⟨congrArg (fun z => Ending.returned (.int .u64 z)) (bit_val a n hn), (Below.refl _ _).alloc (Nat.le_refl _) _⟩

end Go.Proofs.Ytpoocnkflmimdaa
