/- Layer 22 (ballots) -/
import Derived.Test.YtdpkpcbikbbcbaaGreatBNWG45
set_option linter.unusedSimpArgs false
set_option linter.unusedVariables false
set_option maxHeartbeats 2000000
set_option maxRecDepth 20000
namespace Go.Proofs.YtdpkpcbikbbcbaaGreat
open Go.ChangeShapes Go.WideShapes Go.ChangeAt Go.RowKit
theorem anyOf_succ (E : List Bal.Bv) (i k v : Nat) : Bal.anyOf E (i + 1) k v = Bal.anyOf E i k v + if 0 < (Bal.at_ E k v (i + 1)).length then 1 else 0 := by
 unfold Bal.anyOf; rw [List.range_succ, List.countP_append]
 simp [List.countP_cons]
theorem BAny_any {bx gp gq gg gh n cap nb no mb fb fo fc ep base k v : Nat} {fa se : Int} {ks : List (Nat × Nat)} {vv : Bal.Bv → List Value} {f : Value → Option Value} {E : List Bal.Bv} (hE : E.length ≤ 1000) (hn7 : n ≤ 7) (hk : k < 256) (hv : v < 4294967296) (w : World) (h : BoxAt w bx gp gq gg gh n cap nb no mb fb fo fc ep base fa se ks vv f E) :
  Calls Tryz.prog 18 #[.pointer (some ⟨bx, 0, none⟩), .int .u8 k, .int .u32 v] w fun r w' => r = .returned (.int .i64 (Bal.anyOf E n k v)) ∧ Below w.heap.size w w' := by
 have HEL := jh hE; have HKL := jh hk; have HVL := jh hv; have HN7 := jh hn7; have hcm := h.mp; have HX1 := jh h; clear h hE hk hv hn7
 go_enter Tryz.func18, Tryz.ntmps18
 go_upto_region 3 with (first | (go_at_call 28; refine (JC _ hcm).mono ?_; rintro _ w2 ⟨rfl, hb⟩; have HB2 := jh hb; clear hb))
 have HX2 := jh (HX1.out.later HB2.out); have hnd := HX2.out.set.nd; have hnc : n ≤ 9223372036854775807 := by have := HN7.out; omega
 clear hcm
 go_wp2_with fail
 clear hnd
 go_loopw [6, 17] (fun o i wr => ∃ j : Nat, j ≤ n ∧ i = .int .i64 j ∧ o = .int .i64 (Bal.anyOf E j k v) ∧ Hid (Below w2.heap.size w2 wr)) (fun _ i _ => n - (intOf i).toNat)
 case atStart => exact ⟨0, Nat.zero_le _, rfl, rfl, jh (Below.refl _ _)⟩
 case round =>
  obtain ⟨j, hj, rfl, rfl, HW⟩ := hrel; have hja := Bal.anyOf_le E j k v; obtain ⟨m, hm⟩ := je (Bal.anyOf E j k v); rw [← hm] at hja ⊢
  by_cases hlt : j < n
  ·have HXr := jh (HX2.out.later HW.out); obtain ⟨kl, hkl⟩ := ZX (k := k) (v := v) (n := j + 1) HKL.out HVL.out (by have := HN7.out; omega); have hrow := HX2.out.rows.row k v (j + 1); obtain ⟨rn, hrn⟩ := je ((Bal.at_ E k v (j + 1)).length); have hsu := anyOf_succ E j k v; rw [← hm, ← hrn] at hsu; rw [← hrn] at hrow; obtain ⟨ra, rc, hrv⟩ := hrow.shape9; have hltI : (j : Int) < (n : Int) := by omega
   have hj7 : (j : Int) ≤ 7 := by have := HN7.out; omega
   have hm7 : (m : Int) ≤ 7 := by omega
   have E8 : IntKind.u8.wrap ((j : Int) + 1) = ((j + 1 : Nat) : Int) := by simp [IntKind.wrap, IntKind.bits, IntKind.signed]; omega
   have E64 : IntKind.i64.wrap ((j : Int) + 1) = (j : Int) + 1 := by simp [IntKind.wrap, IntKind.bits, IntKind.signed]; omega
   have HRV := jh hrv; have HKL9 := jh hkl; have HLT := jh hlt; have HSU := jh hsu; clear hrow hrn hrv hkl hlt hm hj hsu hja
   go_upto_region 6 with fail
   refine wp_region_lit ?_
   iterate 2
    refine ji (v := .pointer (some ⟨bx, 0, none⟩)) rfl (by kernel_rfl) ?_
   refine ji (v := .pointer (some ⟨bx, 20, none⟩)) rfl (by kernel_rfl) ?_; refine ji (v := .map (some mb)) rfl (jg (loadMp HXr.out.mp)) ?_; refine ji (v := .int .u8 k) rfl (by kernel_rfl) ?_; refine ji (v := .int .u32 v) rfl (by kernel_rfl) ?_; refine ji (v := .int .i64 j) rfl (by kernel_rfl) ?_; refine ji (v := .int .i64 ((j : Int) + 1)) rfl (by simp [go_sem, E64]) ?_; refine ji (v := .int .u8 ((j + 1 : Nat) : Int)) rfl (by simp [go_sem, E8]) ?_; refine ji (v := qh k v (j + 1)) rfl (by kernel_rfl) ?_; simp only [Act.put, pa, pb, pc]; refine QL _ rfl _ _ 80 rfl 86 41 JG Tryz.underlying80 (.slice none 0 0) (zeroVs _) mb f (by kernel_rfl) HXr.out.map _ kl (by kernel_rfl) HKL9.out ?_; rw [HRV.out]; simp only [Act.put, pa, pb, pc]; clear E8 E64
   by_cases hr0 : 0 < rn
   ·have hrI : (0 : Int) < (rn : Int) := by omega
    have HS2 := jh (show Bal.anyOf E (j + 1) k v = m + 1 by rw [HSU.out, if_pos hr0]); clear hr0
    go_wp2_with fail
    go_roundw
    case rel => exact ⟨j + 1, HLT.out, by go_num, by rw [HS2.out]; go_num, HW⟩
    case measure => simp [intOf]; have := HLT.out; omega
   ·have hrI : ¬ (0 : Int) < (rn : Int) := by omega
    have HS2 := jh (show Bal.anyOf E (j + 1) k v = m by rw [HSU.out, if_neg hr0, Nat.add_zero]); clear hr0
    go_wp2_with fail
    go_roundw
    case rel => exact ⟨j + 1, HLT.out, by go_num, by rw [HS2.out], HW⟩
    case measure => simp [intOf]; have := HLT.out; omega
  ·obtain rfl : j = n := by omega
   have HM9 := jh hm; clear hlt hm
   go_wp2_with fail
   go_ret
   rw [← HM9.out]; exact ⟨rfl, jm HB2.out HW.out⟩
end Go.Proofs.YtdpkpcbikbbcbaaGreat
