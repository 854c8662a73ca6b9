/- Layer 2's reference: Add, Sub. -/
import Derived.Test.YtdhkkigijcggmaaLimbsRef3
namespace Go.Proofs.Ytdhkkigijcggmaa
open Go.ChangeShapes Go.WideShapes Go.ChangeAt Go.RowKit

theorem dig_le (x j : Nat) : dgt 65536 x j ≤ 65535 := by have := digD_lt x j; omega
theorem start_two (w : World) (b : Nat) (o0 : Obj) (t1 t2 : TypeId) : ∀ W, W = (((w.alloc o0).alloc (.cells #[.int .u64 (dgt W64 b 0), .int .u64 (dgt W64 b 1), .int .u64 (dgt W64 b 2), .int .u64 (dgt W64 b 3)] t1)).alloc (.cells #[.int .u64 0, .int .u64 0, .int .u64 0, .int .u64 0] t2)) →
    ∀ w1, Below W.heap.size W w1 → Below w.heap.size w w1 ∧ NumAt w1 (w.heap.size + 1) b ∧ UAt w1 (w.heap.size + 1 + 1) 4 (fun _ => 0) ∧ FreeN w1 (w.heap.size + 1 + 1) 4 ∧ w.heap.size + 1 + 1 < w1.heap.size := by
  intro W hW w1 hb
  have hs := hb.size
  subst hW
  refine ⟨((((Below.refl w.heap.size w).alloc (Nat.le_refl _) _).alloc (by simp) _).alloc (by simp; omega) _).trans (hb.mono (by simp; omega)), NumAt.later hb ((NumAt.new _ _ _ _ (by simp)).alloc _), (UAt.zero4 _ _ _ (by simp)).later hb (by simp), (FreeN.made _ _ _ _ _ (by simp)).later hb (by simp), ?_⟩
  simp at hs
  omega
set_option maxRecDepth 20000 in
set_option maxHeartbeats 1500000 in
theorem Add_ref {a b : Nat} (ha : a < M256) (hb : b < M256) (w : World) :
    Calls Try.prog 13 #[numV a, numV b] w fun e w' => e = .returned (.tuple #[numV (addN a b), .int .u64 (addNC a b)]) ∧ Below w.heap.size w w' := by
  have HTH := Lib.hid new_there
  have HLaw := Lib.hid (add_digits ha hb)
  have HDG1 := Lib.hid (digits_any a)
  have HO1 := Lib.hid (rowU_one 16 (dgt 65536 a))
  obtain ⟨cs, hcs1⟩ : ∃ cs, cs = rowU 16 (dgt 65536 a) := ⟨_, rfl⟩
  have HST1 := Lib.hid (fun w t => dig_new w t (dgt 65536 a) cs hcs1)
  have HL1 : Hid (cs.length = 16) := Lib.hid (by rw [hcs1, rowU_length])
  have HS1 : Hid (16 = cs.toArray.size) := Lib.hid (by rw [List.size_toArray, HL1.out])
  unfold digV at HDG1
  rw [← hcs1] at HDG1 HO1
  clear hcs1
  have HDG2 := Lib.hid (digits_any b)
  have HO2 := Lib.hid (rowU_one 16 (dgt 65536 b))
  obtain ⟨ds, hcs2⟩ : ∃ cs, cs = rowU 16 (dgt 65536 b) := ⟨_, rfl⟩
  have HST2 := Lib.hid (fun w t => dig_new w t (dgt 65536 b) ds hcs2)
  have HL2 : Hid (ds.length = 16) := Lib.hid (by rw [hcs2, rowU_length])
  have HS2 : Hid (16 = ds.toArray.size) := Lib.hid (by rw [List.size_toArray, HL2.out])
  unfold digV at HDG2
  rw [← hcs2] at HDG2 HO2
  clear hcs2
  have HS0 := Lib.hid (start_two w b)
  clear ha hb
  unfold numV words at HDG1 HDG2 ⊢
  go_enter Try.func13, Try.ntmps13
  go_wp2_with fail
  refine (HDG1.out _).mono ?_
  rintro _ w1 ⟨rfl, hb1⟩
  obtain ⟨h1, h2, h3, h4, h5⟩ := HS0.out _ _ _ _ rfl w1 hb1
  have HB1 := Lib.hid h1
  have HN1 := Lib.hid h2
  have HR1 := Lib.hid h3
  have HF1 := Lib.hid h4
  clear hb1 h1 h2 h3 h4 HS0
  go_wp2_with (
      refine wpList_store_mid rfl 46 _ _ rfl w1.heap.size 0 cs.toArray rfl rfl (HTH.out w1 _ _ _ HS1.out) (by rw [List.size_toArray, HL1.out]; kernel_rfl) (all_oneCell_toArray HO1.out) ?_
      obtain ⟨w2, e9, u9, f9, b9⟩ := HST1.out w1 46
      rw [← e9]
      have HX := Lib.hid u9
      have HFX := Lib.hid f9
      have HB2 := Lib.hid (below_later HB1.out b9)
      have HR2 := Lib.hid (HR1.out.later b9 h5)
      have HF2 := Lib.hid (HF1.out.later b9 h5)
      have hn1 : w1.heap.size < w2.heap.size := World.block_lt_of_cell? (a := ⟨w1.heap.size, 0, none⟩) _ (u9 0 (by omega))
      obtain ⟨q0, q1, q2, q3⟩ := num4 (NumAt.later b9 HN1.out)
      clear e9 u9 f9 b9)
  refine (HDG2.out _).mono ?_
  rintro _ w3 ⟨rfl, hb3⟩
  have HB3 := Lib.hid (below_later HB2.out hb3)
  have HX3 := Lib.hid (HX.out.later hb3 hn1)
  have HFX3 := Lib.hid (HFX.out.later hb3 hn1)
  have HR3 := Lib.hid (HR2.out.later hb3 (by omega))
  have HF3 := Lib.hid (HF2.out.later hb3 (by omega))
  have hn3 := hb3.size
  clear hb3 q0 q1 q2 q3 HB1 HN1 HB2 HX HFX HR1 HF1 HR2 HF2 HST1 HS1 HO1 HL1
  go_wp2_with (
      refine wpList_store_mid rfl 46 _ _ rfl w3.heap.size 0 ds.toArray rfl rfl (HTH.out w3 _ _ _ HS2.out) (by rw [List.size_toArray, HL2.out]; kernel_rfl) (all_oneCell_toArray HO2.out) ?_
      obtain ⟨w4, e9, u9, f9, b9⟩ := HST2.out w3 46
      rw [← e9]
      have HY := Lib.hid u9
      have HB4 := Lib.hid (below_later HB3.out b9)
      have HX4 := Lib.hid (HX3.out.later b9 (by omega))
      have HFX4 := Lib.hid (HFX3.out.later b9 (by omega))
      have HR4 := Lib.hid (HR3.out.later b9 (by omega))
      have HF4 := Lib.hid (HF3.out.later b9 (by omega))
      have hn4 : w3.heap.size < w4.heap.size := World.block_lt_of_cell? (a := ⟨w3.heap.size, 0, none⟩) _ (u9 0 (by omega))
      clear e9 u9 f9 b9)
  clear HB3 HX3 HFX3 HR3 HF3 HST2 HS2 HO2 HL2 HTH HDG1 HDG2
  have hw1 : w.heap.size ≤ w1.heap.size := by omega
  go_loopw [8, 9] (fun m i wr => ∃ k : Nat, k ≤ 16 ∧ i = .int .i64 k ∧ m = .int .u64 (carD (dgt 65536 a) (dgt 65536 b) k) ∧ UAt wr w1.heap.size 16 (fun j => if j < k then sumD (dgt 65536 a) (dgt 65536 b) j else dgt 65536 a j) ∧ FreeN wr w1.heap.size 16 ∧ UAt wr w3.heap.size 16 (dgt 65536 b) ∧
    UAt wr (w.heap.size + 1 + 1) 4 (fun _ => 0) ∧ FreeN wr (w.heap.size + 1 + 1) 4 ∧ Below w.heap.size w wr ∧ w4.heap.size ≤ wr.heap.size) (fun _ i _ => 16 - (intOf i).toNat)
  case atStart => exact ⟨0, by omega, rfl, rfl, HX4.out.congr (fun j _ => rfl), HFX4.out, HY.out, HR4.out, HF4.out, HB4.out, Nat.le_refl _⟩
  case round =>
    obtain ⟨k, hk, rfl, rfl, hx, hfx, hy, hr, hf, hbl, hsz⟩ := hrel
    have HX := Lib.hid hx
    have HFX := Lib.hid hfx
    have HYY := Lib.hid hy
    have HR := Lib.hid hr
    have HF := Lib.hid hf
    have HB := Lib.hid hbl
    by_cases hlt : k < 16
    · have xk := hx k hlt
      simp only [Nat.lt_irrefl, if_false] at xk
      have yk := hy k hlt
      have fk := hfx k hlt
      have lx := dig_le a k
      have ly := dig_le b k
      have lc := carD_le (digD_lt a) (digD_lt b) k
      have HS := Lib.hid (show sumD (dgt 65536 a) (dgt 65536 b) k = addS (dgt 65536 a k) (dgt 65536 b k) (carD (dgt 65536 a) (dgt 65536 b) k) from rfl)
      have HC := Lib.hid (show carD (dgt 65536 a) (dgt 65536 b) (k + 1) = addK (dgt 65536 a k) (dgt 65536 b k) (carD (dgt 65536 a) (dgt 65536 b) k) from rfl)
      obtain ⟨x, ex⟩ : ∃ x, x = dgt 65536 a k := ⟨_, rfl⟩
      obtain ⟨y, ey⟩ : ∃ y, y = dgt 65536 b k := ⟨_, rfl⟩
      obtain ⟨c, ec⟩ : ∃ c, c = carD (dgt 65536 a) (dgt 65536 b) k := ⟨_, rfl⟩
      rw [← ex, ← ey, ← ec] at HS HC
      rw [← ex] at xk lx
      rw [← ey] at yk ly
      rw [← ec] at lc ⊢
      clear ex ey ec hx hfx hy hr hf hbl
      go_wp2
      go_region
      go_wp2
      go_roundw
      case rel =>
        refine ⟨k + 1, by omega, by go_num, congrArg (Value.int .u64) (by rw [HC.out]; unfold addK; simp), (HX.out.setI k _ (sumD (dgt 65536 a) (dgt 65536 b) k) (by rw [HS.out]; unfold addS; simp)).congr fun j hj => ?_, HFX.out.set _ _, HYY.out.other _ _ (by omega), HR.out.other _ _ (by omega), HF.out.set _ _, (HB.out.setCell (by simp; omega) _).drew, by simpa using hsz⟩
        by_cases h : j = k
        · subst h; simp
        · by_cases h' : j < k
          · simp [h, h', show j < k + 1 by omega]
          · simp [h, h', show ¬ j < k + 1 by omega]
      case measure => simp [intOf]; omega
    · obtain rfl : k = 16 := by omega
      have hx' : UAt wr w1.heap.size 16 (sumD (dgt 65536 a) (dgt 65536 b)) := hx.congr fun j hj => if_pos hj
      have r0 := hr 0 (by omega)
      have f0 := hf 0 (by omega)
      have HO := Lib.hid (of_ref (d := sumD (dgt 65536 a) (dgt 65536 b)) (fun j _ => Nat.mod_lt _ (by omega)) w1.heap.size 0 16 wr (by omega) (fun j hj => by rw [Nat.zero_add]; exact hx' j hj) (Nat.le_refl _))
      rw [HLaw.out.1] at HO
      have hrs : w.heap.size + 1 + 1 < wr.heap.size := by omega
      have HV := Lib.hid HLaw.out.2
      clear hx hfx hy hr hf hbl hx' r0 f0 HX HFX HYY
      unfold numV words at HO
      go_wp2_with fail
      refine HO.out.mono ?_
      rintro _ w5 ⟨rfl, hb5⟩
      have HB5 := Lib.hid (below_later HB.out hb5)
      have hr5 := HR.out.later hb5 hrs
      have hf5 := HF.out.later hb5 hrs
      have r0 := hr5 0 (by omega)
      have r1 := hr5 1 (by omega)
      have r2 := hr5 2 (by omega)
      have r3 := hr5 3 (by omega)
      have f0 := hf5 0 (by omega)
      have f1 := hf5 1 (by omega)
      have f2 := hf5 2 (by omega)
      have f3 := hf5 3 (by omega)
      clear hb5 hr5 hf5 HR HF HB
      go_wp2
      refine bodyPost_ret (v := .tuple #[numV (addN a b), .int .u64 (addNC a b)]) (by simp [results, Try.results13, go_sem, numV, words, r0, r1, r2, r3, HV.out]) rfl ⟨rfl, ?_⟩
      exact (((HB5.out.setCell (by simp; omega) _).setCell (by simp; omega) _).setCell (by simp; omega) _).setCell (by simp; omega) _
set_option maxRecDepth 20000 in
set_option maxHeartbeats 1500000 in
theorem Sub_ref {a b : Nat} (ha : a < M256) (hb : b < M256) (w : World) :
    Calls Try.prog 14 #[numV a, numV b] w fun e w' => e = .returned (.tuple #[numV (subN a b), .int .u64 (subNB a b)]) ∧ Below w.heap.size w w' := by
  have HTH := Lib.hid new_there
  have HLaw := Lib.hid (sub_digits ha hb)
  have HDG1 := Lib.hid (digits_any a)
  have HO1 := Lib.hid (rowU_one 16 (dgt 65536 a))
  obtain ⟨cs, hcs1⟩ : ∃ cs, cs = rowU 16 (dgt 65536 a) := ⟨_, rfl⟩
  have HST1 := Lib.hid (fun w t => dig_new w t (dgt 65536 a) cs hcs1)
  have HL1 : Hid (cs.length = 16) := Lib.hid (by rw [hcs1, rowU_length])
  have HS1 : Hid (16 = cs.toArray.size) := Lib.hid (by rw [List.size_toArray, HL1.out])
  unfold digV at HDG1
  rw [← hcs1] at HDG1 HO1
  clear hcs1
  have HDG2 := Lib.hid (digits_any b)
  have HO2 := Lib.hid (rowU_one 16 (dgt 65536 b))
  obtain ⟨ds, hcs2⟩ : ∃ cs, cs = rowU 16 (dgt 65536 b) := ⟨_, rfl⟩
  have HST2 := Lib.hid (fun w t => dig_new w t (dgt 65536 b) ds hcs2)
  have HL2 : Hid (ds.length = 16) := Lib.hid (by rw [hcs2, rowU_length])
  have HS2 : Hid (16 = ds.toArray.size) := Lib.hid (by rw [List.size_toArray, HL2.out])
  unfold digV at HDG2
  rw [← hcs2] at HDG2 HO2
  clear hcs2
  have HS0 := Lib.hid (start_two w b)
  clear ha hb
  unfold numV words at HDG1 HDG2 ⊢
  go_enter Try.func14, Try.ntmps14
  go_wp2_with fail
  refine (HDG1.out _).mono ?_
  rintro _ w1 ⟨rfl, hb1⟩
  obtain ⟨h1, h2, h3, h4, h5⟩ := HS0.out _ _ _ _ rfl w1 hb1
  have HB1 := Lib.hid h1
  have HN1 := Lib.hid h2
  have HR1 := Lib.hid h3
  have HF1 := Lib.hid h4
  clear hb1 h1 h2 h3 h4 HS0
  go_wp2_with (
      refine wpList_store_mid rfl 46 _ _ rfl w1.heap.size 0 cs.toArray rfl rfl (HTH.out w1 _ _ _ HS1.out) (by rw [List.size_toArray, HL1.out]; kernel_rfl) (all_oneCell_toArray HO1.out) ?_
      obtain ⟨w2, e9, u9, f9, b9⟩ := HST1.out w1 46
      rw [← e9]
      have HX := Lib.hid u9
      have HFX := Lib.hid f9
      have HB2 := Lib.hid (below_later HB1.out b9)
      have HR2 := Lib.hid (HR1.out.later b9 h5)
      have HF2 := Lib.hid (HF1.out.later b9 h5)
      have hn1 : w1.heap.size < w2.heap.size := World.block_lt_of_cell? (a := ⟨w1.heap.size, 0, none⟩) _ (u9 0 (by omega))
      obtain ⟨q0, q1, q2, q3⟩ := num4 (NumAt.later b9 HN1.out)
      clear e9 u9 f9 b9)
  refine (HDG2.out _).mono ?_
  rintro _ w3 ⟨rfl, hb3⟩
  have HB3 := Lib.hid (below_later HB2.out hb3)
  have HX3 := Lib.hid (HX.out.later hb3 hn1)
  have HFX3 := Lib.hid (HFX.out.later hb3 hn1)
  have HR3 := Lib.hid (HR2.out.later hb3 (by omega))
  have HF3 := Lib.hid (HF2.out.later hb3 (by omega))
  have hn3 := hb3.size
  clear hb3 q0 q1 q2 q3 HB1 HN1 HB2 HX HFX HR1 HF1 HR2 HF2 HST1 HS1 HO1 HL1
  go_wp2_with (
      refine wpList_store_mid rfl 46 _ _ rfl w3.heap.size 0 ds.toArray rfl rfl (HTH.out w3 _ _ _ HS2.out) (by rw [List.size_toArray, HL2.out]; kernel_rfl) (all_oneCell_toArray HO2.out) ?_
      obtain ⟨w4, e9, u9, f9, b9⟩ := HST2.out w3 46
      rw [← e9]
      have HY := Lib.hid u9
      have HB4 := Lib.hid (below_later HB3.out b9)
      have HX4 := Lib.hid (HX3.out.later b9 (by omega))
      have HFX4 := Lib.hid (HFX3.out.later b9 (by omega))
      have HR4 := Lib.hid (HR3.out.later b9 (by omega))
      have HF4 := Lib.hid (HF3.out.later b9 (by omega))
      have hn4 : w3.heap.size < w4.heap.size := World.block_lt_of_cell? (a := ⟨w3.heap.size, 0, none⟩) _ (u9 0 (by omega))
      clear e9 u9 f9 b9)
  clear HB3 HX3 HFX3 HR3 HF3 HST2 HS2 HO2 HL2 HTH HDG1 HDG2
  have hw1 : w.heap.size ≤ w1.heap.size := by omega
  go_loopw [8, 9] (fun m i wr => ∃ k : Nat, k ≤ 16 ∧ i = .int .i64 k ∧ m = .int .u64 (borD (dgt 65536 a) (dgt 65536 b) k) ∧ UAt wr w1.heap.size 16 (fun j => if j < k then difD (dgt 65536 a) (dgt 65536 b) j else dgt 65536 a j) ∧ FreeN wr w1.heap.size 16 ∧ UAt wr w3.heap.size 16 (dgt 65536 b) ∧
    UAt wr (w.heap.size + 1 + 1) 4 (fun _ => 0) ∧ FreeN wr (w.heap.size + 1 + 1) 4 ∧ Below w.heap.size w wr ∧ w4.heap.size ≤ wr.heap.size) (fun _ i _ => 16 - (intOf i).toNat)
  case atStart => exact ⟨0, by omega, rfl, rfl, HX4.out.congr (fun j _ => rfl), HFX4.out, HY.out, HR4.out, HF4.out, HB4.out, Nat.le_refl _⟩
  case round =>
    obtain ⟨k, hk, rfl, rfl, hx, hfx, hy, hr, hf, hbl, hsz⟩ := hrel
    have HX := Lib.hid hx
    have HFX := Lib.hid hfx
    have HYY := Lib.hid hy
    have HR := Lib.hid hr
    have HF := Lib.hid hf
    have HB := Lib.hid hbl
    by_cases hlt : k < 16
    · have xk := hx k hlt
      simp only [Nat.lt_irrefl, if_false] at xk
      have yk := hy k hlt
      have fk := hfx k hlt
      have lx := dig_le a k
      have ly := dig_le b k
      have lc := borD_le (dgt 65536 a) (dgt 65536 b) k
      have HS := Lib.hid (show difD (dgt 65536 a) (dgt 65536 b) k = subS (dgt 65536 a k) (dgt 65536 b k) (borD (dgt 65536 a) (dgt 65536 b) k) from rfl)
      have HC := Lib.hid (show borD (dgt 65536 a) (dgt 65536 b) (k + 1) = subK (dgt 65536 a k) (dgt 65536 b k) (borD (dgt 65536 a) (dgt 65536 b) k) from rfl)
      obtain ⟨x, ex⟩ : ∃ x, x = dgt 65536 a k := ⟨_, rfl⟩
      obtain ⟨y, ey⟩ : ∃ y, y = dgt 65536 b k := ⟨_, rfl⟩
      obtain ⟨c, ec⟩ : ∃ c, c = borD (dgt 65536 a) (dgt 65536 b) k := ⟨_, rfl⟩
      rw [← ex, ← ey, ← ec] at HS HC
      rw [← ex] at xk lx
      rw [← ey] at yk ly
      rw [← ec] at lc ⊢
      clear ex ey ec hx hfx hy hr hf hbl
      go_wp2
      go_region
      go_wp2
      go_roundw
      case rel =>
        refine ⟨k + 1, by omega, by go_num, congrArg (Value.int .u64) (by rw [HC.out]; unfold subK; omega), (HX.out.setI k _ (difD (dgt 65536 a) (dgt 65536 b) k) (by rw [HS.out]; unfold subS; omega)).congr fun j hj => ?_, HFX.out.set _ _, HYY.out.other _ _ (by omega), HR.out.other _ _ (by omega), HF.out.set _ _, (HB.out.setCell (by simp; omega) _).drew, by simpa using hsz⟩
        by_cases h : j = k
        · subst h; simp
        · by_cases h' : j < k
          · simp [h, h', show j < k + 1 by omega]
          · simp [h, h', show ¬ j < k + 1 by omega]
      case measure => simp [intOf]; omega
    · obtain rfl : k = 16 := by omega
      have hx' : UAt wr w1.heap.size 16 (difD (dgt 65536 a) (dgt 65536 b)) := hx.congr fun j hj => if_pos hj
      have r0 := hr 0 (by omega)
      have f0 := hf 0 (by omega)
      have HO := Lib.hid (of_ref (d := difD (dgt 65536 a) (dgt 65536 b)) (fun j _ => Nat.mod_lt _ (by omega)) w1.heap.size 0 16 wr (by omega) (fun j hj => by rw [Nat.zero_add]; exact hx' j hj) (Nat.le_refl _))
      rw [HLaw.out.1] at HO
      have hrs : w.heap.size + 1 + 1 < wr.heap.size := by omega
      have HV := Lib.hid HLaw.out.2
      clear hx hfx hy hr hf hbl hx' r0 f0 HX HFX HYY
      unfold numV words at HO
      go_wp2_with fail
      refine HO.out.mono ?_
      rintro _ w5 ⟨rfl, hb5⟩
      have HB5 := Lib.hid (below_later HB.out hb5)
      have hr5 := HR.out.later hb5 hrs
      have hf5 := HF.out.later hb5 hrs
      have r0 := hr5 0 (by omega)
      have r1 := hr5 1 (by omega)
      have r2 := hr5 2 (by omega)
      have r3 := hr5 3 (by omega)
      have f0 := hf5 0 (by omega)
      have f1 := hf5 1 (by omega)
      have f2 := hf5 2 (by omega)
      have f3 := hf5 3 (by omega)
      clear hb5 hr5 hf5 HR HF HB
      go_wp2
      refine bodyPost_ret (v := .tuple #[numV (subN a b), .int .u64 (subNB a b)]) (by simp [results, Try.results14, go_sem, numV, words, r0, r1, r2, r3, HV.out]) rfl ⟨rfl, ?_⟩
      exact (((HB5.out.setCell (by simp; omega) _).setCell (by simp; omega) _).setCell (by simp; omega) _).setCell (by simp; omega) _
end Go.Proofs.Ytdhkkigijcggmaa
