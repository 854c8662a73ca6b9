/- Layer 20's quota: the walks of LinksQuota and LinksFair: each returns true. -/
import Derived.Test.YtckadhiaofohgaaQuota
import Derived.Test.YtckadhiaofohgaaCommon
import Derived.Deep.RegionHeld3
namespace Go.Proofs.Ytckadhiaofohgaa
open Go.ChangeShapes Go.WideShapes Go.ChangeAt Go.RowKit

set_option maxHeartbeats 4000000 in
theorem linksQuota_walk (e : Int) (v : Value) (l : List Int) (w : World) (hv : IntsAt w .u8 v l) (he0 : -9223372036854775808 ≤ e) (he1 : e ≤ 9223372036854775807) :
    Calls Try.prog 3 #[.int .i64 e, v] w fun r w' => r = .returned (.bool true) ∧ Below w.heap.size w w' := by
  obtain ⟨ao, cap, rfl, hcap, hmx, _, hwf, hcell⟩ := hv
  have hmax : (l.length : Int) ≤ 9223372036854775807 := by unfold maxLen at hmx; omega
  clear hcap hmx
  by_cases hlen : 5000 < l.length
  · have hlen' : (5000 : Int) < l.length := by omega
    clear hcell
    go_enter Try.func3, Try.ntmps3
    go_wp2_with (go_at_call 5; refine (lives_any _).mono ?_; rintro _ w' ⟨rfl, hb⟩)
    go_ret
    exact ⟨rfl, by assumption⟩
  have hlen' : (l.length : Int) ≤ 5000 := by omega
  by_cases he : e < 1 ∨ 1024 < e
  · clear hcell
    go_enter Try.func3, Try.ntmps3
    go_wp2_with fail
    refine (new_no e _ he).mono ?_
    rintro _ _ ⟨rfl, rfl⟩
    go_wp2_with fail
    refine (rnew_no e _ he).mono ?_
    rintro _ _ ⟨rfl, rfl⟩
    go_wp2_with (go_at_call 5; refine (lives_any _).mono ?_; rintro _ w' ⟨rfl, hb⟩)
    go_ret
    exact ⟨rfl, by assumption⟩
  have e1 : 1 ≤ e := by omega
  have e2 : e ≤ 1024 := by omega
  clear hlen he
  have HC := Lib.hid hcell
  clear hcell
  go_enter Try.func3, Try.ntmps3
  go_wp2_with fail
  refine (new_yes e _ e1 e2).mono ?_
  rintro _ w1 ⟨rfl, hw1⟩
  have q1 : QAt w1 w.heap.size (fun _ => 0) e := hw1 ▸ qAt_new e w _
  have b1 : Below w.heap.size w w1 := hw1 ▸ (Below.refl _ _).alloc (Nat.le_refl _) _
  have s1 : w1.heap.size = w.heap.size + 1 := by rw [hw1]; simp
  have Q1 := Lib.hid q1
  have B1 := Lib.hid b1
  have S1 := Lib.hid s1
  clear hw1 q1 b1 s1
  go_wp2_with fail
  refine (rnew_yes e _ e1 e2).mono ?_
  rintro _ w2 ⟨rfl, hw2⟩
  have r2 : RAt w2 w1.heap.size (fun _ => 0) e := hw2 ▸ rAt_new e w1 _
  have b2 : Below w1.heap.size w1 w2 := hw2 ▸ (Below.refl _ _).alloc (Nat.le_refl _) _
  have s2 : w2.heap.size = w.heap.size + 1 + 1 := by rw [hw2]; simp [S1.out]
  have q2 : QAt w2 w.heap.size (fun _ => 0) e := Q1.out.kept (b2.block _ (by rw [S1.out]; omega))
  have b2' : Below w.heap.size w w2 := B1.out.trans (b2.mono (by rw [S1.out]; omega))
  rw [S1.out] at r2 ⊢
  have Q2 := Lib.hid q2
  have R2 := Lib.hid r2
  have B2 := Lib.hid b2'
  have S2 := Lib.hid s2
  clear hw2 q2 r2 b2 b2' s2
  go_wp2
  go_loopw [9] (fun i wr => ∃ (k : Nat) (f : Nat → Int), k ≤ l.length ∧ i = .int .i64 k ∧ QAt wr w.heap.size f e ∧ RAt wr (w.heap.size + 1) f e ∧ Below w.heap.size w wr ∧ wr.heap.size ≥ w.heap.size + 1 + 1 ∧ ∀ j, 0 ≤ f j ∧ f j ≤ 1024) (fun i _ => l.length - (intOf i).toNat)
  case atStart => exact ⟨0, fun _ => 0, Nat.zero_le _, rfl, Q2.out, R2.out, B2.out, by rw [S2.out]; omega, fun _ => ⟨by simp, by simp⟩⟩
  case round =>
    obtain ⟨k, f, hk, rfl, hq, hr, hb, hs, hf⟩ := hrel
    by_cases hlt : k < l.length
    · obtain ⟨b, o, rfl, hc⟩ := HC.out k hlt
      have hx := bounds_u8 (hwf l[k] (List.getElem_mem hlt))
      have hblt : b < w.heap.size := World.block_lt_of_cell? (a := ⟨b, o + k, none⟩) _ hc
      obtain ⟨x, hxe⟩ : ∃ x, x = l[k] := ⟨_, rfl⟩
      rw [← hxe] at hc hx
      have hcr : wr.cell? ⟨b, o + k, none⟩ = some (.int .u8 x) := (hb.cell (p := ⟨b, o + k, none⟩) hblt).trans hc
      have hf' : Hid (∀ j, 0 ≤ f j ∧ f j ≤ 1000000) := Lib.hid fun j => ⟨(hf j).1, by have := (hf j).2; omega⟩
      have hf2 : Hid (∀ j, 0 ≤ upd f e (x % 10) j ∧ upd f e (x % 10) j ≤ 1024) := Lib.hid (upd_cap hf e2)
      have HQ := Lib.hid hq
      have HR := Lib.hid hr
      have HB := Lib.hid hb
      have HS := Lib.hid hs
      have hx1 := hx.1
      have hx2 := hx.2
      have hkl : k + 1 ≤ l.length := hlt
      clear hxe hc hq hr hb hs hf HC hwf hx
      by_cases hx3 : 250 ≤ x
      · go_wp2_with fail
        refine (tick_any _ _ _ _ HQ.out).mono ?_
        rintro _ w3 ⟨rfl, q3, g3⟩
        have r3 : RAt w3 (w.heap.size + 1) f e := HR.out.kept (g3.block _ (by have := HS.out; omega) (by intro h; injection h; omega))
        have HB3 := Lib.hid (below_grownBy HB.out g3 (by have := HS.out; omega) (Nat.le_refl _))
        have HS3 := Lib.hid (Nat.le_trans HS.out g3.size)
        have HQ3 := Lib.hid q3
        have HR3 := Lib.hid r3
        clear q3 g3 r3
        go_wp2_with fail
        refine (rtick_any _ _ _ _ HR3.out).mono ?_
        rintro _ w4 ⟨rfl, r4, g4⟩
        have q4 : QAt w4 w.heap.size (fun _ => 0) e := HQ3.out.kept (g4.block _ (by have := HS3.out; omega) (by intro h; injection h; omega))
        have HB4 := Lib.hid (below_grownBy HB3.out g4 (by have := HS3.out; omega) (by omega))
        have HS4 := Lib.hid (Nat.le_trans HS3.out g4.size)
        have HQ4 := Lib.hid q4
        have HR4 := Lib.hid r4
        clear q4 g4 r4
        go_wp2
        go_roundw
        case rel => exact ⟨k + 1, fun _ => 0, by omega, by go_num, HQ4.out, HR4.out, HB4.out, HS4.out, fun _ => ⟨by simp, by simp⟩⟩
        case measure => simp [intOf]; omega
      · have hx4 : x < 250 := by omega
        clear hx3
        have hm1 : 0 ≤ x % 10 := by omega
        have hm2 : x % 10 < 256 := by omega
        have htm : x.tmod 10 = x % 10 := IntWalk.rem_in x 10 hx1
        go_wp2_with fail
        go_region_held3 (fun w' => w'.cell? ⟨b, o + k, none⟩ = some (.int .u8 x)) (first | exact hcr | exact hc3 | exact hc4) (first
          | (go_at_call 10; refine (take_any _ _ _ _ _ (by exact HQ.out) hf'.out hm1 hm2).mono ?_; rintro _ w3 ⟨rfl, q3, g3⟩; have hc3 : w3.cell? ⟨b, o + k, none⟩ = some (.int .u8 x) := g3.cell (a := ⟨b, o + k, none⟩) hcr (by simp; omega); have HQ3 := Lib.hid q3; have HG3 := Lib.hid g3; clear q3 g3)
          | (go_at_call 11; refine (rtake_any _ _ _ _ _ (by exact HR.out.kept (HG3.out.block _ (by have := HS.out; simp only [World.size_drew]; omega) (by intro h; injection h; omega))) hf'.out hm1 hm2).mono ?_; rintro _ w4 ⟨rfl, r4, g4⟩; have HR4 := Lib.hid r4; have HG4 := Lib.hid g4; have hc4 : w4.cell? ⟨b, o + k, none⟩ = some (.int .u8 x) := g4.cell (a := ⟨b, o + k, none⟩) hc3 (by simp; omega); clear r4 g4))
        have q4 := HQ3.out.kept (HG4.out.block w.heap.size (by have := HS.out; have := HG3.out.size; simp only [World.size_drew] at this; omega) (by intro h; injection h; omega))
        have HQ4 := Lib.hid q4
        have g3 := HG3.out
        have hb3 := below_grownBy (HB.out.drew) HG3.out (by have := HS.out; simp only [World.size_drew]; omega) (Nat.le_refl _)
        have hs3 : w3.heap.size ≥ w.heap.size + 1 + 1 := Nat.le_trans HS.out (by have := HG3.out.size; simp only [World.size_drew] at this; exact this)
        have HB4 := Lib.hid (below_grownBy hb3 HG4.out (by omega) (by omega))
        have HS4 := Lib.hid (Nat.le_trans hs3 HG4.out.size)
        clear q4 g3 hb3 hs3 htm
        go_wp2
        go_roundw
        case rel => exact ⟨k + 1, upd f e (x % 10), by omega, by go_num, HQ4.out, HR4.out, HB4.out, HS4.out, hf2.out⟩
        case measure => simp [intOf]; omega
    · have hge : l.length ≤ k := by omega
      clear hlt hwf
      have HB := Lib.hid hb
      clear hq hr hb hs hf
      go_wp2_with (go_at_call 5; refine (lives_any _).mono ?_; rintro _ w' ⟨rfl, hb'⟩)
      go_ret
      exact ⟨rfl, HB.out.trans ((by assumption : Below _ _ _).mono HB.out.size)⟩

/-- k frames of node A have come: so many were taken of it, none of another one. -/
def fairF (A : Nat) (N : Int) (k : Nat) : Nat → Int := fun j => if j = A then (if (k : Int) ≤ N then (k : Int) else N) else 0
theorem fairF_le (A : Nat) (N : Int) (k : Nat) (hN : 0 ≤ N) (hN' : N ≤ 1000000) (j : Nat) : 0 ≤ fairF A N k j ∧ fairF A N k j ≤ 1000000 := by
  unfold fairF
  split
  · split <;> omega
  · omega
theorem fairF_tk (A : Nat) (N : Int) (k : Nat) (hA : 1 ≤ A) (hA' : A ≤ 7) (hk : (k : Int) < N) : tk (fairF A N k) N A = true := by
  unfold tk fairF
  simp
  omega
theorem fairF_tk' (A : Nat) (N : Int) (k : Nat) (hk : N ≤ (k : Int)) : tk (fairF A N k) N A = false := by
  unfold tk fairF
  simp
  omega
theorem fairF_other (A : Nat) (N : Int) (k C : Nat) (hC : C ≠ A) (h1 : 1 ≤ C) (h2 : C ≤ 7) (hN : 1 ≤ N) : tk (fairF A N k) N C = true := by
  unfold tk fairF
  simp [hC]
  omega
theorem fairF_step (A : Nat) (N : Int) (k : Nat) (hA : 1 ≤ A) (hA' : A ≤ 7) : ∀ j, j < 8 → upd (fairF A N k) N A j = fairF A N (k + 1) j := by
  intro j _
  unfold upd
  by_cases hk : (k : Int) < N
  · rw [fairF_tk A N k hA hA' hk]
    unfold fairF
    simp
    by_cases hj : j = A
    · simp [hj]
      omega
    · simp [hj]
  · rw [fairF_tk' A N k (by omega)]
    unfold fairF
    simp
    by_cases hj : j = A
    · simp [hj]
      omega
    · simp [hj]

set_option maxHeartbeats 4000000 in
theorem linksFair_walk (n a b m : Int) (w : World) (hn0 : 0 ≤ n) (hn1 : n < 256) (ha0 : 0 ≤ a) (ha1 : a < 256) (hb0 : 0 ≤ b) (hb1 : b < 256) (hm0 : 0 ≤ m) (hm1 : m < 65536) :
    Calls Try.prog 4 #[.agg #[.int .u8 n, .int .u8 a, .int .u8 b, .int .u16 m]] w fun r w' => r = .returned (.bool true) ∧ Below w.heap.size w w' := by
  obtain ⟨A, hA, hA1, hA2⟩ : ∃ A : Nat, Hid (1 + a % 7 = (A : Int)) ∧ 1 ≤ A ∧ A ≤ 7 := ⟨(1 + a % 7).toNat, Lib.hid (by omega), by omega, by omega⟩
  obtain ⟨C, hC, hC1, hC2⟩ : ∃ C : Nat, Hid (1 + b % 7 = (C : Int)) ∧ 1 ≤ C ∧ C ≤ 7 := ⟨(1 + b % 7).toNat, Lib.hid (by omega), by omega, by omega⟩
  obtain ⟨M, hM, hM1⟩ : ∃ M : Nat, Hid (m % 3000 = (M : Int)) ∧ M < 3000 := ⟨(m % 3000).toNat, Lib.hid (by omega), by omega⟩
  have ha7 : 0 ≤ a % 7 ∧ a % 7 ≤ 6 := by omega
  have hb7 : 0 ≤ b % 7 ∧ b % 7 ≤ 6 := by omega
  have hm3 : 0 ≤ m % 3000 ∧ m % 3000 < 3000 := by omega
  go_enter Try.func4, Try.ntmps4
  go_wp2_with fail
  refine (new_yes (1 + n) _ (by omega) (by omega)).mono ?_
  rintro _ w1 ⟨rfl, hw1⟩
  have q1 : QAt w1 (w.heap.size + 1) (fairF A (1 + n) 0) (1 + n) := by
    rw [hw1]
    have := qAt_new (1 + n) (w.alloc (.cells #[.int .u8 n, .int .u8 a, .int .u8 b, .int .u16 m] 35)) 41
    simp only [World.size_alloc] at this
    exact this.congr fun j _ => by unfold fairF; split <;> simp; omega
  have b1 : Below w.heap.size w w1 := hw1 ▸ ((Below.refl _ _).alloc (Nat.le_refl _) _).alloc (by simp) _
  have s1 : w1.heap.size = w.heap.size + 2 := by rw [hw1]; simp
  have c1 : w1.cell? ⟨w.heap.size, 3, none⟩ = some (.int .u16 m) := by rw [hw1]; simp [World.cell?_alloc_lt]
  have Q1 := Lib.hid q1
  have B1 := Lib.hid b1
  have S1 := Lib.hid s1
  clear hw1 q1 b1 s1 c1
  simp only [World.size_alloc]
  rw [hA.out, hC.out]
  have hA0 : 0 ≤ (A : Int) := by omega
  have hA3 : (A : Int) < 256 := by omega
  go_wp2
  go_loopw [12, 13] (fun t i wr => ∃ k : Nat, k ≤ M ∧ i = .int .i64 k ∧ t = .int .i64 (if (k : Int) ≤ 1 + n then (k : Int) else 1 + n) ∧ QAt wr (w.heap.size + 1) (fairF A (1 + n) k) (1 + n) ∧ Below w.heap.size w wr ∧ wr.heap.size ≥ w.heap.size + 2) (fun _ i _ => M - (intOf i).toNat)
  case atStart => exact ⟨0, by omega, rfl, by rw [if_pos (by omega)]; rfl, Q1.out, B1.out, by rw [S1.out]; omega⟩
  case round =>
    obtain ⟨k, hk, rfl, rfl, hq, hb, hs⟩ := hrel
    have HQ := Lib.hid hq
    have HB := Lib.hid hb
    have HS := Lib.hid hs
    have hf := fairF_le A (1 + n) k (by omega) (by omega)
    have HF := Lib.hid hf
    clear hq hb hs hf
    by_cases hlt : k < M
    · have hlt' : (k : Int) < m % 3000 := by rw [hM.out]; omega
      by_cases hkN : (k : Int) < 1 + n
      · have ht := Lib.hid (fairF_tk A (1 + n) k hA1 hA2 hkN)
        rw [if_pos (show (k : Int) ≤ 1 + n by omega)]
        go_wp2_with fail
        refine (take_any _ _ _ _ _ HQ.out HF.out hA0 hA3).mono ?_
        rintro _ w3 ⟨rfl, q3, g3⟩
        rw [ht.out]
        have HQ3 := Lib.hid (q3.congr (fairF_step A (1 + n) k hA1 hA2))
        have HB3 := Lib.hid (below_grownBy HB.out g3 (by have := HS.out; omega) (by omega))
        have HS3 := Lib.hid (Nat.le_trans HS.out g3.size)
        clear q3 g3
        go_wp2
        go_roundw
        case rel => exact ⟨k + 1, by omega, by go_num, by rw [if_pos (by omega)]; go_num, HQ3.out, HB3.out, HS3.out⟩
        case measure => simp [intOf]; omega
      · have hkN' : 1 + n ≤ (k : Int) := by omega
        have ht := Lib.hid (fairF_tk' A (1 + n) k hkN')
        have hsame : (if (k : Int) ≤ 1 + n then (k : Int) else 1 + n) = 1 + n := by split <;> omega
        rw [hsame]
        clear hsame hkN
        go_wp2_with fail
        refine (take_any _ _ _ _ _ HQ.out HF.out hA0 hA3).mono ?_
        rintro _ w3 ⟨rfl, q3, g3⟩
        rw [ht.out]
        have HQ3 := Lib.hid (q3.congr (fairF_step A (1 + n) k hA1 hA2))
        have HB3 := Lib.hid (below_grownBy HB.out g3 (by have := HS.out; omega) (by omega))
        have HS3 := Lib.hid (Nat.le_trans HS.out g3.size)
        clear q3 g3
        go_wp2
        go_roundw
        case rel => exact ⟨k + 1, by omega, by go_num, by rw [if_neg (by omega)], HQ3.out, HB3.out, HS3.out⟩
        case measure => simp [intOf]; omega
    · obtain rfl : k = M := by omega
      have hge : m % 3000 ≤ (k : Int) := by rw [hM.out]; exact Int.le_refl _
      clear hlt hk hM1
      have e3 := hM.out
      have hk0 : (0 : Int) ≤ k := by omega
      have hk1 : (k : Int) < 3000 := by omega
      clear hm3
      have hC0 : 0 ≤ (C : Int) := by omega
      have hC3 : (C : Int) < 256 := by omega
      by_cases hkN : (k : Int) < 1 + n
      · rw [if_pos (show (k : Int) ≤ 1 + n by omega)]
        by_cases hAC : A = C
        · subst hAC
          have ht := Lib.hid (fairF_tk A (1 + n) k hA1 hA2 hkN)
          go_wp2_with fail
          refine (take_any _ _ _ _ _ HQ.out HF.out hA0 hA3).mono ?_
          rintro _ w3 ⟨rfl, q3, g3⟩
          rw [ht.out]
          have HB3 := Lib.hid (below_grownBy HB.out g3 (by have := HS.out; omega) (by omega))
          clear q3 g3
          go_wp2_with (go_at_call 5; refine (lives_any _).mono ?_; rintro _ w' ⟨rfl, hb'⟩)
          go_ret
          exact ⟨rfl, HB3.out.trans ((by assumption : Below _ _ _).mono HB3.out.size)⟩
        · have hne : ((A : Int) == (C : Int)) = false := by simp; omega
          have ht := Lib.hid (fairF_other A (1 + n) k C (by omega) hC1 hC2 (by omega))
          clear hAC
          go_wp2_with fail
          refine (take_any _ _ _ _ _ HQ.out HF.out hC0 hC3).mono ?_
          rintro _ w3 ⟨rfl, q3, g3⟩
          rw [ht.out]
          have HB3 := Lib.hid (below_grownBy HB.out g3 (by have := HS.out; omega) (by omega))
          clear q3 g3
          go_wp2_with (go_at_call 5; refine (lives_any _).mono ?_; rintro _ w' ⟨rfl, hb'⟩)
          go_ret
          exact ⟨rfl, HB3.out.trans ((by assumption : Below _ _ _).mono HB3.out.size)⟩
      · have hkN' : 1 + n ≤ (k : Int) := by omega
        have hsame : (if (k : Int) ≤ 1 + n then (k : Int) else 1 + n) = 1 + n := by split <;> omega
        rw [hsame]
        clear hsame hkN
        have hmin : min (1 + n) (k : Int) = 1 + n := by omega
        by_cases hAC : A = C
        · subst hAC
          have ht := Lib.hid (fairF_tk' A (1 + n) k hkN')
          go_wp2_with fail
          refine (take_any _ _ _ _ _ HQ.out HF.out hA0 hA3).mono ?_
          rintro _ w3 ⟨rfl, q3, g3⟩
          rw [ht.out]
          have HB3 := Lib.hid (below_grownBy HB.out g3 (by have := HS.out; omega) (by omega))
          clear q3 g3
          go_wp2_with (go_at_call 5; refine (lives_any _).mono ?_; rintro _ w' ⟨rfl, hb'⟩)
          go_ret
          exact ⟨rfl, HB3.out.trans ((by assumption : Below _ _ _).mono HB3.out.size)⟩
        · have hne : ((A : Int) == (C : Int)) = false := by simp; omega
          have ht := Lib.hid (fairF_other A (1 + n) k C (by omega) hC1 hC2 (by omega))
          clear hAC
          go_wp2_with fail
          refine (take_any _ _ _ _ _ HQ.out HF.out hC0 hC3).mono ?_
          rintro _ w3 ⟨rfl, q3, g3⟩
          rw [ht.out]
          have HB3 := Lib.hid (below_grownBy HB.out g3 (by have := HS.out; omega) (by omega))
          clear q3 g3
          go_wp2_with (go_at_call 5; refine (lives_any _).mono ?_; rintro _ w' ⟨rfl, hb'⟩)
          go_ret
          exact ⟨rfl, HB3.out.trans ((by assumption : Below _ _ _).mono HB3.out.size)⟩
end Go.Proofs.Ytckadhiaofohgaa
