/- math/bits.Div64: the walk -/
import Derived.Test.YtpoocnkflmimdaaLPWG02
import Derived.Test.YtpoocnkflmimdaaLPWG08
namespace Go.Proofs.Ytpoocnkflmimdaa
open Go.ChangeShapes Go.WideShapes Go.ChangeAt Go.RowKit

set_option maxRecDepth 20000 in
set_option maxHeartbeats 4000000 in
theorem lead_any (x : Nat) (hx : x < W64) (w : World) : Calls Try.prog 86 #[.int .u64 x] w fun e w' => e = .returned (.int .i64 ((64 - bitsN x : Nat) : Int)) ∧ w = w' := by
  have h := run_len64 x hx w
  have hb : bitsN x ≤ 64 := by
    unfold bitsN
    split
    · omega
    · have := Nat.log2_lt (n := x) (k := 64) (by omega) |>.2 (by rw [← W64_eq]; exact hx)
      omega
  have hbI : (bitsN x : Int) ≤ 64 := by omega
  have H := Lib.hid h
  obtain ⟨k, hk⟩ : ∃ k, k = bitsN x := ⟨_, rfl⟩
  rw [← hk] at H hbI ⊢
  clear h hk hb
  go_enter Try.func86, Try.ntmps86
  go_wp2_with (go_at_call 77; refine H.out.mono ?_; rintro _ w9 ⟨rfl, rfl⟩)
  go_ret
  exact ⟨by rw [show ((64 - k : Nat) : Int) = 64 - (k : Int) by omega]; rfl, rfl⟩
theorem wrapN (x : Nat) : IntKind.u64.wrap (x : Int) = ((x % 18446744073709551616 : Nat) : Int) := by
  rw [IntKind.wrap_u64]
  omega
set_option maxRecDepth 20000 in
set_option maxHeartbeats 4000000 in
theorem div64_small (lo y : Nat) (hlo : lo < W64) (hy : y < W64) (h0 : 0 < y) (w : World) : Calls Try.prog 69 #[.int .u64 0, .int .u64 lo, .int .u64 y] w fun e w' => e = .returned (.tuple #[.int .u64 ((lo / y : Nat) : Int), .int .u64 ((lo % y : Nat) : Int)]) ∧ Below w.heap.size w w' := by
  unfold W64 at hlo hy
  have hloI : (lo : Int) ≤ 18446744073709551615 := by omega
  have hyI : (y : Int) ≤ 18446744073709551615 := by omega
  have h0I : (0 : Int) < (y : Int) := by omega
  have h1I : ((y : Int) == 0) = false := by simp; omega
  have h2I : ¬ ((y : Int) ≤ 0) := by omega
  have h3I : ¬ ((y : Int) = 0) := by omega
  go_enter Try.func69, Try.ntmps69
  go_wp2
  go_quiet (fail)
  go_wp2
  go_ret2
  have hq : lo / y ≤ 18446744073709551615 := Nat.le_trans (Nat.div_le_self _ _) (by omega)
  have e9 : IntKind.u64.wrap ((lo : Int) / (y : Int)) = ((lo / y : Nat) : Int) := by rw [show (lo : Int) / (y : Int) = ((lo / y : Nat) : Int) by simp, wrapN, Nat.mod_eq_of_lt (by omega)]
  exact ⟨by simp [e9], ⟨rfl, rfl, rfl, Nat.le_refl _, fun _ _ => rfl⟩⟩
theorem and_low (x : Nat) (hx : x < 18446744073709551616) : bits .and .u64 (x : Int) 4294967295 = ((x % 4294967296 : Nat) : Int) := by
  rw [show (4294967295 : Int) = ((4294967295 : Nat) : Int) from rfl, u64_and_nat _ _ hx (by omega), show (4294967295 : Nat) = 2 ^ 32 - 1 from rfl, Nat.and_two_pow_sub_one_eq_mod]
/-- What the great case is made of. -/
structure Dx (hi lo y s Y y1 y0 u u1 u0 : Nat) : Prop where
  hY : Y = y * 2 ^ s
  hs : s ≤ 63
  Yb : 9223372036854775808 ≤ Y ∧ Y < 18446744073709551616
  h : Dh y1 y0 u u1
  Ye : Y = y1 * 4294967296 + y0
  hu0 : u0 < 4294967296
  key : (hi * W64 + lo) * 2 ^ s = (u * 4294967296 + u1) * 4294967296 + u0
theorem bitsN_le64 {y : Nat} (hy : y < W64) : bitsN y ≤ 64 := by
  unfold bitsN
  split
  · omega
  · have := Nat.log2_lt (n := y) (k := 64) (by omega) |>.2 (by rw [← W64_eq]; exact hy)
    omega
theorem dx_start {hi lo y : Nat} (hlo : lo < W64) (hy : y < W64) (hhi : hi < y) : ∃ Y y1 y0 u L u1 u0, Dx hi lo y (64 - bitsN y) Y y1 y0 u u1 u0 ∧ y1 = Y / 4294967296 ∧ y0 = Y % 4294967296 ∧ u1 = L / 4294967296 ∧ u0 = L % 4294967296 ∧ L < 18446744073709551616 ∧
    IntKind.u64.wrap ((y : Int) * 2 ^ (64 - bitsN y)) = (Y : Int) ∧ IntKind.u64.wrap ((lo : Int) * 2 ^ (64 - bitsN y)) = (L : Int) ∧ bits .or .u64 (IntKind.u64.wrap ((hi : Int) * 2 ^ (64 - bitsN y))) ((lo : Int) / 2 ^ (64 - (64 - bitsN y))) = (u : Int) := by
  have hb := bitsN_le64 hy
  have hsp := bitsN_spec y
  have hb1 : 1 ≤ bitsN y := by
    unfold bitsN
    rw [if_neg (by omega)]
    omega
  obtain ⟨b, hbe⟩ : ∃ b, b = bitsN y := ⟨_, rfl⟩
  rw [← hbe] at hb hsp hb1 ⊢
  obtain ⟨s, hs⟩ : ∃ s, s = 64 - b := ⟨_, rfl⟩
  rw [← hs, show 64 - s = b by omega]
  have hpow : 2 ^ b * 2 ^ s = 18446744073709551616 := by rw [← Nat.pow_add, show b + s = 64 by omega]
  have hpow1 : 2 ^ (b - 1) * 2 ^ s = 9223372036854775808 := by rw [← Nat.pow_add, show b - 1 + s = 63 by omega]
  have hps : 0 < 2 ^ s := Nat.pow_pos (by omega)
  have hpb : 0 < 2 ^ b := Nat.pow_pos (by omega)
  unfold W64 at hlo hy
  have hY2 : y * 2 ^ s < 18446744073709551616 := by rw [← hpow]; exact Nat.mul_lt_mul_of_pos_right hsp.1 hps
  have hY1 : 9223372036854775808 ≤ y * 2 ^ s := by rw [← hpow1]; exact Nat.mul_le_mul_right _ (hsp.2 (by omega))
  have hH : hi * 2 ^ s < 18446744073709551616 := Nat.lt_of_le_of_lt (Nat.mul_le_mul_right _ (Nat.le_of_lt hhi)) hY2
  have hlo2 : lo / 2 ^ b < 2 ^ s := by rw [Nat.div_lt_iff_lt_mul hpb, Nat.mul_comm, hpow]; exact hlo
  have hlod : lo * 2 ^ s = lo / 2 ^ b * 18446744073709551616 + lo * 2 ^ s % 18446744073709551616 := by
    have h1 : lo * 2 ^ s / 18446744073709551616 = lo / 2 ^ b := by rw [← hpow, Nat.mul_div_mul_right _ _ hps]
    have := Nat.div_add_mod (lo * 2 ^ s) 18446744073709551616
    rw [h1] at this
    omega
  have hkey : (hi * W64 + lo) * 2 ^ s = (hi * 2 ^ s + lo / 2 ^ b) * 18446744073709551616 + lo * 2 ^ s % 18446744073709551616 := by
    unfold W64
    have e1 : hi * 18446744073709551616 * 2 ^ s = hi * 2 ^ s * 18446744073709551616 := by rw [Nat.mul_assoc, Nat.mul_comm 18446744073709551616, Nat.mul_assoc]
    rw [Nat.add_mul, Nat.add_mul, e1]
    omega
  have hlt : (hi * W64 + lo) * 2 ^ s < y * 2 ^ s * 18446744073709551616 := by
    have h1 : hi * W64 + lo < y * 18446744073709551616 := by unfold W64; omega
    have h2 := Nat.mul_lt_mul_of_pos_right h1 hps
    have h3 : y * 18446744073709551616 * 2 ^ s = y * 2 ^ s * 18446744073709551616 := by rw [Nat.mul_assoc, Nat.mul_comm 18446744073709551616, Nat.mul_assoc]
    rw [h3] at h2
    exact h2
  have hLm : lo * 2 ^ s % 18446744073709551616 < 18446744073709551616 := Nat.mod_lt _ (by omega)
  have cs : ((2 : Int) ^ s) = ((2 ^ s : Nat) : Int) := by simp
  have cb : ((2 : Int) ^ b) = ((2 ^ b : Nat) : Int) := by simp
  obtain ⟨Y, hYe⟩ : ∃ Y, Y = y * 2 ^ s := ⟨_, rfl⟩
  obtain ⟨L, hLe⟩ : ∃ L, L = lo * 2 ^ s % 18446744073709551616 := ⟨_, rfl⟩
  obtain ⟨H, hHe⟩ : ∃ H, H = hi * 2 ^ s := ⟨_, rfl⟩
  obtain ⟨t, hte⟩ : ∃ t, t = lo / 2 ^ b := ⟨_, rfl⟩
  have hor : H ||| t = H + t := by
    rw [hHe]
    exact nat_join s _ _ (Nat.mul_mod_left _ _) (by rw [hte]; exact hlo2)
  refine ⟨Y, Y / 4294967296, Y % 4294967296, H + t, L, L / 4294967296, L % 4294967296, ⟨hYe, by omega, by omega, ⟨by omega, by omega, by rw [← hYe, hkey, ← hHe, ← hte, ← hLe] at hlt; omega, by omega⟩, by omega, by omega, by rw [hkey, ← hHe, ← hte, ← hLe]; omega⟩, rfl, rfl, rfl, rfl, by omega, ?_, ?_, ?_⟩
  · rw [cs, show (y : Int) * ((2 ^ s : Nat) : Int) = ((y * 2 ^ s : Nat) : Int) by simp, wrapN, ← hYe, Nat.mod_eq_of_lt (by omega)]
  · rw [cs, show (lo : Int) * ((2 ^ s : Nat) : Int) = ((lo * 2 ^ s : Nat) : Int) by simp, wrapN, ← hLe]
  · rw [cs, cb, show (hi : Int) * ((2 ^ s : Nat) : Int) = ((hi * 2 ^ s : Nat) : Int) by simp, wrapN, ← hHe, Nat.mod_eq_of_lt (by omega), show (lo : Int) / ((2 ^ b : Nat) : Int) = ((lo / 2 ^ b : Nat) : Int) by simp, ← hte, u64_or_nat _ _ (by omega) (by rw [hte]; exact Nat.lt_of_le_of_lt (Nat.div_le_self _ _) hlo), hor]
theorem Dx.fin {hi lo y s Y y1 y0 u u1 u0 q v q2 R : Nat} (h : Dx hi lo y s Y y1 y0 u u1 u0) (hq : q = (u * 4294967296 + u1) / (y1 * 4294967296 + y0)) (hv : v = (u * 4294967296 + u1) % (y1 * 4294967296 + y0)) (hq2 : q2 = (v * 4294967296 + u0) / (y1 * 4294967296 + y0)) (hR : R = (v * 4294967296 + u0) % (y1 * 4294967296 + y0)) :
    (hi * W64 + lo) / y = q * 4294967296 + q2 ∧ (hi * W64 + lo) % y = R / 2 ^ s := by
  have hps : 0 < 2 ^ s := Nat.pow_pos (by omega)
  have h2 := two_digits (y := y1 * 4294967296 + y0) (u := u) (u1 := u1) (u0 := u0) h.h.pos
  rw [← hv, ← hq, ← hq2, ← hR, ← h.key, ← h.Ye, h.hY] at h2
  rw [Nat.mul_div_mul_right _ _ hps, Nat.mul_mod_mul_right] at h2
  refine ⟨h2.1, ?_⟩
  rw [← h2.2, Nat.mul_div_cancel _ hps]
set_option linter.unusedVariables false in
set_option maxRecDepth 20000 in
set_option maxHeartbeats 8000000 in
theorem div64_great (hi lo y : Nat) (h0 : 0 < hi) (hlo : lo < W64) (hy : y < W64) (hhi : hi < y) (w : World) : Calls Try.prog 69 #[.int .u64 hi, .int .u64 lo, .int .u64 y] w fun e w' => e = .returned (.tuple #[.int .u64 (((hi * W64 + lo) / y : Nat) : Int), .int .u64 (((hi * W64 + lo) % y : Nat) : Int)]) ∧ Below w.heap.size w w' := by
  obtain ⟨QQ, hQQ⟩ : ∃ x, x = (hi * W64 + lo) / y := ⟨_, rfl⟩
  obtain ⟨RR, hRR⟩ : ∃ x, x = (hi * W64 + lo) % y := ⟨_, rfl⟩
  rw [← hQQ, ← hRR]
  have HQQ := Lib.hid hQQ
  have HRR := Lib.hid hRR
  clear hQQ hRR
  have HLZ := Lib.hid (lead_any y hy)
  obtain ⟨Y, y1, y0, u, L, u1, u0, hx, e1, e2, e3, e4, hL, eY, eL, eU⟩ := dx_start hlo hy hhi
  obtain ⟨s, hs⟩ : ∃ s, s = 64 - bitsN y := ⟨_, rfl⟩
  rw [← hs] at HLZ hx eY eL eU
  have HX := Lib.hid hx
  have hYb := hx.Yb
  have hy1 := hx.h.hy1
  have hy0 := hx.h.hy0
  have hu1 := hx.h.hu1
  have hu0 := hx.hu0
  have hs9 := hx.hs
  have hu9 := hx.h.hu
  have hYe := hx.Ye
  have HDa := Lib.hid hx.h
  have hsI : (s : Int) ≤ 63 := by omega
  have hYI : (Y : Int) ≤ 18446744073709551615 := by omega
  have hLI : (L : Int) ≤ 18446744073709551615 := by omega
  have huI : (u : Int) ≤ 18446744073709551615 := by omega
  have hy1a : (2147483648 : Int) ≤ (y1 : Int) := by omega
  have hy1b : (y1 : Int) ≤ 4294967295 := by omega
  have hy0b : (y0 : Int) ≤ 4294967295 := by omega
  have hu1b : (u1 : Int) ≤ 4294967295 := by omega
  have hu0b : (u0 : Int) ≤ 4294967295 := by omega
  have ey1 : (Y : Int) / 4294967296 = (y1 : Int) := by omega
  have ey0 : bits .and .u64 (Y : Int) 4294967295 = (y0 : Int) := by rw [and_low _ hYb.2, ← e2]
  have eu1 : (L : Int) / 4294967296 = (u1 : Int) := by omega
  have eu0 : bits .and .u64 (L : Int) 4294967295 = (u0 : Int) := by rw [and_low _ hL, ← e4]
  have hy0p : 0 < y := by omega
  unfold W64 at hlo hy
  have hloI : (lo : Int) ≤ 18446744073709551615 := by omega
  have hyI : (y : Int) ≤ 18446744073709551615 := by omega
  have h1I : ((y : Int) == 0) = false := by simp; omega
  have h2I : ¬ ((y : Int) ≤ (hi : Int)) := by omega
  have h3I : ¬ ((y : Int) = 0) := by omega
  have h4I : ¬ ((hi : Int) = 0) := by omega
  have hhiI : (hi : Int) < (y : Int) := by omega
  have h5I : ¬ ((y1 : Int) = 0) := by omega
  clear hx e1 e2 e3 e4 hs hYb hy0 hu1 hu0 hYe hu9
  obtain ⟨qa, hqa⟩ : ∃ q, q = u / y1 := ⟨_, rfl⟩
  obtain ⟨ra, hra⟩ : ∃ r, r = u % y1 := ⟨_, rfl⟩
  have Ga := Lib.hid (show Dg y1 y0 u u1 qa ra by rw [hqa, hra]; exact Dg.start HDa.out)
  have hgqa : qa ≤ 4294967297 := Ga.out.le
  have hgqaI : (qa : Int) ≤ 4294967297 := by omega
  have hgra : ra < y1 := by rw [hra]; exact Nat.mod_lt _ (by omega)
  have hgraI : (ra : Int) ≤ 4294967295 := by omega
  have eda : (u : Int) / (y1 : Int) = (qa : Int) := by rw [hqa]; simp
  have eta : (u : Int).tdiv (y1 : Int) = (qa : Int) := by rw [Int.tdiv_eq_ediv_of_nonneg (by omega)]; exact eda
  obtain ⟨pa, hpa⟩ : ∃ p, p = qa * y1 := ⟨_, rfl⟩
  have hpua : u = pa + ra := by rw [hpa]; exact Ga.out.sum
  have epa : IntKind.u64.wrap ((qa : Int) * (y1 : Int)) = (pa : Int) := by rw [show (qa : Int) * (y1 : Int) = ((qa * y1 : Nat) : Int) by simp, wrapN, ← hpa, Nat.mod_eq_of_lt (by omega)]
  have eba : (qa : Int) * (y1 : Int) = (pa : Int) := by rw [hpa]; simp
  have era : (u : Int) - (pa : Int) = (ra : Int) := by omega
  clear hqa hra hpa hpua
  go_enter Try.func69, Try.ntmps69
  go_wp2_with (go_at_call 86; refine (HLZ.out _).mono ?_; rintro _ w9 ⟨rfl, rfl⟩)
  go_loop [15, 16] (fun a b => ∃ qa ra : Nat, a = .int .u64 qa ∧ b = .int .u64 ra ∧ Hid (Dg y1 y0 u u1 qa ra) ∧ ra ≤ 4294967295) (fun a _ => (intOf a).toNat)
  case atStart => exact ⟨_, _, rfl, rfl, Ga, by omega⟩
  case round =>
    obtain ⟨qa, ra, rfl, rfl, HG, hr9⟩ := hrel
    have hr9I : (ra : Int) ≤ 4294967295 := by omega
    have hq9 : qa ≤ 4294967297 := HG.out.le
    have hq9I : (qa : Int) ≤ 4294967297 := by omega
    obtain ⟨Z, hZ⟩ : ∃ Z, Z = qa * y0 := ⟨_, rfl⟩
    have HZ := Lib.hid hZ
    have hZ9 : Z < 18446744073709551616 := by rw [hZ]; exact HG.out.small HDa.out
    have eZ : IntKind.u64.wrap ((qa : Int) * (y0 : Int)) = (Z : Int) := by rw [show (qa : Int) * (y0 : Int) = ((qa * y0 : Nat) : Int) by simp, wrapN, ← hZ, Nat.mod_eq_of_lt hZ9]
    have eZb : (qa : Int) * (y0 : Int) = (Z : Int) := by rw [hZ]; simp
    clear hZ
    by_cases hcq : 4294967296 ≤ qa
    · have hcqI : (4294967296 : Int) ≤ (qa : Int) := by omega
      have hdn := HG.out.down HDa.out (.inl hcq)
      obtain ⟨q9a, hq9e⟩ : ∃ q9a, q9a = qa - 1 := ⟨_, rfl⟩
      obtain ⟨r9a, hr9e⟩ : ∃ r9a, r9a = ra + y1 := ⟨_, rfl⟩
      rw [← hq9e, ← hr9e] at hdn
      have HG9 := Lib.hid hdn.2
      have hqpos := hdn.1
      have eq9 : (qa : Int) - 1 = (q9a : Int) := by omega
      have er9 : (ra : Int) + (y1 : Int) = (r9a : Int) := by omega
      have hq99 : q9a ≤ 4294967296 := by omega
      have hq99I : (q9a : Int) ≤ 4294967296 := by omega
      have hqlt : q9a < qa := by omega
      have hr99 : (r9a : Int) ≤ 8589934590 := by omega
      clear hq9e hr9e hdn
      by_cases hbr : 4294967296 ≤ r9a
      · have hbrI : (4294967296 : Int) ≤ (r9a : Int) := by omega
        have HQa := Lib.hid (HG9.out.broke HDa.out hq99 hbr)
        have hqB : q9a < 4294967296 := by rw [HQa.out]; exact HDa.out.lt
        have hqBI : (q9a : Int) ≤ 4294967295 := by omega
        obtain ⟨v, hv⟩ : ∃ v9, v9 = (u * 4294967296 + u1) % (y1 * 4294967296 + y0) := ⟨_, rfl⟩
        have HV := Lib.hid hv
        have hltv : v < y1 * 4294967296 + y0 := by rw [hv]; exact Nat.mod_lt _ HDa.out.pos
        obtain ⟨ap, hap⟩ : ∃ p, p = q9a * Y := ⟨_, rfl⟩
        have hsumv : ap + v = u * 4294967296 + u1 := by rw [hap, hv, HX.out.Ye, HQa.out, Nat.mul_comm]; exact Nat.div_add_mod _ _
        have ea3 : IntKind.u64.wrap ((q9a : Int) * (Y : Int)) = ((ap % 18446744073709551616 : Nat) : Int) := by rw [show (q9a : Int) * (Y : Int) = ((q9a * Y : Nat) : Int) by simp, wrapN, ← hap]
        obtain ⟨a1, ha1⟩ : ∃ a, a = u * 4294967296 % 18446744073709551616 := ⟨_, rfl⟩
        have ea1 : IntKind.u64.wrap ((u : Int) * 4294967296) = (a1 : Int) := by rw [show (u : Int) * 4294967296 = ((u * 4294967296 : Nat) : Int) by simp, wrapN, ← ha1]
        obtain ⟨a2, ha2⟩ : ∃ a, a = (a1 + u1) % 18446744073709551616 := ⟨_, rfl⟩
        have ea2 : IntKind.u64.wrap ((a1 : Int) + (u1 : Int)) = (a2 : Int) := by rw [show (a1 : Int) + (u1 : Int) = ((a1 + u1 : Nat) : Int) by simp, wrapN, ← ha2]
        obtain ⟨a3, ha3⟩ : ∃ a, a = ap % 18446744073709551616 := ⟨_, rfl⟩
        rw [← ha3] at ea3
        have hYb := HX.out.Yb
        have hYe := HX.out.Ye
        have ea4 : IntKind.u64.wrap ((a2 : Int) - (a3 : Int)) = (v : Int) := by rw [IntKind.wrap_u64]; omega
        have ha1b : (a1 : Int) ≤ 18446744073709551615 := by omega
        have ha2b : (a2 : Int) ≤ 18446744073709551615 := by omega
        have ha3b : (a3 : Int) ≤ 18446744073709551615 := by omega
        have hvI : (v : Int) ≤ 18446744073709551615 := by omega
        clear hv hap hsumv ha1 ha2 ha3 hYb hYe
        have HDb := Lib.hid (show Dh y1 y0 v u0 from ⟨HDa.out.hy1, HDa.out.hy0, hltv, HX.out.hu0⟩)
        obtain ⟨qb, hqb⟩ : ∃ q, q = v / y1 := ⟨_, rfl⟩
        obtain ⟨rb, hrb⟩ : ∃ r, r = v % y1 := ⟨_, rfl⟩
        have Gb := Lib.hid (show Dg y1 y0 v u0 qb rb by rw [hqb, hrb]; exact Dg.start HDb.out)
        have hgqb : qb ≤ 4294967297 := Gb.out.le
        have hgqbI : (qb : Int) ≤ 4294967297 := by omega
        have hgrb : rb < y1 := by rw [hrb]; exact Nat.mod_lt _ (by omega)
        have hgrbI : (rb : Int) ≤ 4294967295 := by omega
        have edb : (v : Int) / (y1 : Int) = (qb : Int) := by rw [hqb]; simp
        have etb : (v : Int).tdiv (y1 : Int) = (qb : Int) := by rw [Int.tdiv_eq_ediv_of_nonneg (by omega)]; exact edb
        obtain ⟨pb, hpb⟩ : ∃ p, p = qb * y1 := ⟨_, rfl⟩
        have hpub : v = pb + rb := by rw [hpb]; exact Gb.out.sum
        have epb : IntKind.u64.wrap ((qb : Int) * (y1 : Int)) = (pb : Int) := by rw [show (qb : Int) * (y1 : Int) = ((qb * y1 : Nat) : Int) by simp, wrapN, ← hpb, Nat.mod_eq_of_lt (by omega)]
        have ebb : (qb : Int) * (y1 : Int) = (pb : Int) := by rw [hpb]; simp
        have erb : (v : Int) - (pb : Int) = (rb : Int) := by omega
        clear hqb hrb hpb hpub
        go_wp2
        go_loop [16, 18] (fun b a => ∃ qb rb : Nat, a = .int .u64 qb ∧ b = .int .u64 rb ∧ Hid (Dg y1 y0 v u0 qb rb) ∧ rb ≤ 4294967295) (fun _ a => (intOf a).toNat)
        case atStart => exact ⟨_, _, rfl, rfl, Gb, by omega⟩
        case round =>
          obtain ⟨qb, rb, rfl, rfl, HG, hr9⟩ := hrel
          have hr9I : (rb : Int) ≤ 4294967295 := by omega
          have hq9 : qb ≤ 4294967297 := HG.out.le
          have hq9I : (qb : Int) ≤ 4294967297 := by omega
          obtain ⟨Z, hZ⟩ : ∃ Z, Z = qb * y0 := ⟨_, rfl⟩
          have HZ := Lib.hid hZ
          have hZ9 : Z < 18446744073709551616 := by rw [hZ]; exact HG.out.small HDb.out
          have eZ : IntKind.u64.wrap ((qb : Int) * (y0 : Int)) = (Z : Int) := by rw [show (qb : Int) * (y0 : Int) = ((qb * y0 : Nat) : Int) by simp, wrapN, ← hZ, Nat.mod_eq_of_lt hZ9]
          have eZb : (qb : Int) * (y0 : Int) = (Z : Int) := by rw [hZ]; simp
          clear hZ
          by_cases hcq : 4294967296 ≤ qb
          · have hcqI : (4294967296 : Int) ≤ (qb : Int) := by omega
            have hdn := HG.out.down HDb.out (.inl hcq)
            obtain ⟨q9b, hq9e⟩ : ∃ q9b, q9b = qb - 1 := ⟨_, rfl⟩
            obtain ⟨r9b, hr9e⟩ : ∃ r9b, r9b = rb + y1 := ⟨_, rfl⟩
            rw [← hq9e, ← hr9e] at hdn
            have HG9 := Lib.hid hdn.2
            have hqpos := hdn.1
            have eq9 : (qb : Int) - 1 = (q9b : Int) := by omega
            have er9 : (rb : Int) + (y1 : Int) = (r9b : Int) := by omega
            have hq99 : q9b ≤ 4294967296 := by omega
            have hq99I : (q9b : Int) ≤ 4294967296 := by omega
            have hqlt : q9b < qb := by omega
            have hr99 : (r9b : Int) ≤ 8589934590 := by omega
            clear hq9e hr9e hdn
            by_cases hbr : 4294967296 ≤ r9b
            · have hbrI : (4294967296 : Int) ≤ (r9b : Int) := by omega
              have HQb := Lib.hid (HG9.out.broke HDb.out hq99 hbr)
              have hq2B : q9b < 4294967296 := by rw [HQb.out]; exact HDb.out.lt
              have hq2BI : (q9b : Int) ≤ 4294967295 := by omega
              obtain ⟨R, hR⟩ : ∃ v9, v9 = (v * 4294967296 + u0) % (y1 * 4294967296 + y0) := ⟨_, rfl⟩
              have HR := Lib.hid hR
              have hltR : R < y1 * 4294967296 + y0 := by rw [hR]; exact Nat.mod_lt _ HDb.out.pos
              obtain ⟨bp, hbp⟩ : ∃ p, p = q9b * Y := ⟨_, rfl⟩
              have hsumR : bp + R = v * 4294967296 + u0 := by rw [hbp, hR, HX.out.Ye, HQb.out, Nat.mul_comm]; exact Nat.div_add_mod _ _
              have eb3 : IntKind.u64.wrap ((q9b : Int) * (Y : Int)) = ((bp % 18446744073709551616 : Nat) : Int) := by rw [show (q9b : Int) * (Y : Int) = ((q9b * Y : Nat) : Int) by simp, wrapN, ← hbp]
              obtain ⟨b1, hb1⟩ : ∃ a, a = v * 4294967296 % 18446744073709551616 := ⟨_, rfl⟩
              have eb1 : IntKind.u64.wrap ((v : Int) * 4294967296) = (b1 : Int) := by rw [show (v : Int) * 4294967296 = ((v * 4294967296 : Nat) : Int) by simp, wrapN, ← hb1]
              obtain ⟨b2, hb2⟩ : ∃ a, a = (b1 + u0) % 18446744073709551616 := ⟨_, rfl⟩
              have eb2 : IntKind.u64.wrap ((b1 : Int) + (u0 : Int)) = (b2 : Int) := by rw [show (b1 : Int) + (u0 : Int) = ((b1 + u0 : Nat) : Int) by simp, wrapN, ← hb2]
              obtain ⟨b3, hb3⟩ : ∃ a, a = bp % 18446744073709551616 := ⟨_, rfl⟩
              rw [← hb3] at eb3
              have hYb := HX.out.Yb
              have hYe := HX.out.Ye
              have eb4 : IntKind.u64.wrap ((b2 : Int) - (b3 : Int)) = (R : Int) := by rw [IntKind.wrap_u64]; omega
              have hb1b : (b1 : Int) ≤ 18446744073709551615 := by omega
              have hb2b : (b2 : Int) ≤ 18446744073709551615 := by omega
              have hb3b : (b3 : Int) ≤ 18446744073709551615 := by omega
              have hRI : (R : Int) ≤ 18446744073709551615 := by omega
              clear hR hbp hsumR hb1 hb2 hb3 hYb hYe
              have hfin := Dx.fin HX.out HQa.out HV.out HQb.out HR.out
              rw [← HQQ.out, ← HRR.out] at hfin
              have eR : (R : Int) / 2 ^ s = (RR : Int) := by rw [hfin.2]; simp
              have HF := Lib.hid hfin.1
              clear hfin
              go_wp2
              go_ret2
              refine ⟨?_, Below.refl _ _⟩
              rw [show (QQ : Int) = (q9a : Int) * 4294967296 + (q9b : Int) by have := HF.out; omega]
              rfl
            · have hbrI : ¬ ((4294967296 : Int) ≤ (r9b : Int)) := by omega
              go_wp2
              go_round
              case rel => exact ⟨q9b, r9b, rfl, rfl, HG9, by omega⟩
              case measure => simp [intOf]; omega
          · have hcqI : ¬ ((4294967296 : Int) ≤ (qb : Int)) := by omega
            by_cases hcz : 4294967296 * rb + u0 < Z
            · have hczI : (4294967296 : Int) * (rb : Int) + (u0 : Int) < (Z : Int) := by omega
              have hdn := HG.out.down HDb.out (.inr (by rw [← HZ.out]; exact hcz))
              obtain ⟨q9b, hq9e⟩ : ∃ q9b, q9b = qb - 1 := ⟨_, rfl⟩
              obtain ⟨r9b, hr9e⟩ : ∃ r9b, r9b = rb + y1 := ⟨_, rfl⟩
              rw [← hq9e, ← hr9e] at hdn
              have HG9 := Lib.hid hdn.2
              have hqpos := hdn.1
              have eq9 : (qb : Int) - 1 = (q9b : Int) := by omega
              have er9 : (rb : Int) + (y1 : Int) = (r9b : Int) := by omega
              have hq99 : q9b ≤ 4294967296 := by omega
              have hq99I : (q9b : Int) ≤ 4294967296 := by omega
              have hqlt : q9b < qb := by omega
              have hr99 : (r9b : Int) ≤ 8589934590 := by omega
              clear hq9e hr9e hdn
              by_cases hbr : 4294967296 ≤ r9b
              · have hbrI : (4294967296 : Int) ≤ (r9b : Int) := by omega
                have HQb := Lib.hid (HG9.out.broke HDb.out hq99 hbr)
                have hq2B : q9b < 4294967296 := by rw [HQb.out]; exact HDb.out.lt
                have hq2BI : (q9b : Int) ≤ 4294967295 := by omega
                obtain ⟨R, hR⟩ : ∃ v9, v9 = (v * 4294967296 + u0) % (y1 * 4294967296 + y0) := ⟨_, rfl⟩
                have HR := Lib.hid hR
                have hltR : R < y1 * 4294967296 + y0 := by rw [hR]; exact Nat.mod_lt _ HDb.out.pos
                obtain ⟨bp, hbp⟩ : ∃ p, p = q9b * Y := ⟨_, rfl⟩
                have hsumR : bp + R = v * 4294967296 + u0 := by rw [hbp, hR, HX.out.Ye, HQb.out, Nat.mul_comm]; exact Nat.div_add_mod _ _
                have eb3 : IntKind.u64.wrap ((q9b : Int) * (Y : Int)) = ((bp % 18446744073709551616 : Nat) : Int) := by rw [show (q9b : Int) * (Y : Int) = ((q9b * Y : Nat) : Int) by simp, wrapN, ← hbp]
                obtain ⟨b1, hb1⟩ : ∃ a, a = v * 4294967296 % 18446744073709551616 := ⟨_, rfl⟩
                have eb1 : IntKind.u64.wrap ((v : Int) * 4294967296) = (b1 : Int) := by rw [show (v : Int) * 4294967296 = ((v * 4294967296 : Nat) : Int) by simp, wrapN, ← hb1]
                obtain ⟨b2, hb2⟩ : ∃ a, a = (b1 + u0) % 18446744073709551616 := ⟨_, rfl⟩
                have eb2 : IntKind.u64.wrap ((b1 : Int) + (u0 : Int)) = (b2 : Int) := by rw [show (b1 : Int) + (u0 : Int) = ((b1 + u0 : Nat) : Int) by simp, wrapN, ← hb2]
                obtain ⟨b3, hb3⟩ : ∃ a, a = bp % 18446744073709551616 := ⟨_, rfl⟩
                rw [← hb3] at eb3
                have hYb := HX.out.Yb
                have hYe := HX.out.Ye
                have eb4 : IntKind.u64.wrap ((b2 : Int) - (b3 : Int)) = (R : Int) := by rw [IntKind.wrap_u64]; omega
                have hb1b : (b1 : Int) ≤ 18446744073709551615 := by omega
                have hb2b : (b2 : Int) ≤ 18446744073709551615 := by omega
                have hb3b : (b3 : Int) ≤ 18446744073709551615 := by omega
                have hRI : (R : Int) ≤ 18446744073709551615 := by omega
                clear hR hbp hsumR hb1 hb2 hb3 hYb hYe
                have hfin := Dx.fin HX.out HQa.out HV.out HQb.out HR.out
                rw [← HQQ.out, ← HRR.out] at hfin
                have eR : (R : Int) / 2 ^ s = (RR : Int) := by rw [hfin.2]; simp
                have HF := Lib.hid hfin.1
                clear hfin
                go_wp2
                go_ret2
                refine ⟨?_, Below.refl _ _⟩
                rw [show (QQ : Int) = (q9a : Int) * 4294967296 + (q9b : Int) by have := HF.out; omega]
                rfl
              · have hbrI : ¬ ((4294967296 : Int) ≤ (r9b : Int)) := by omega
                go_wp2
                go_round
                case rel => exact ⟨q9b, r9b, rfl, rfl, HG9, by omega⟩
                case measure => simp [intOf]; omega
            · have hczI : ¬ ((4294967296 : Int) * (rb : Int) + (u0 : Int) < (Z : Int)) := by omega
              have HQb := Lib.hid (HG.out.done HDb.out (by rw [← HZ.out]; omega))
              have hq2B : qb < 4294967296 := by rw [HQb.out]; exact HDb.out.lt
              have hq2BI : (qb : Int) ≤ 4294967295 := by omega
              obtain ⟨R, hR⟩ : ∃ v9, v9 = (v * 4294967296 + u0) % (y1 * 4294967296 + y0) := ⟨_, rfl⟩
              have HR := Lib.hid hR
              have hltR : R < y1 * 4294967296 + y0 := by rw [hR]; exact Nat.mod_lt _ HDb.out.pos
              obtain ⟨bp, hbp⟩ : ∃ p, p = qb * Y := ⟨_, rfl⟩
              have hsumR : bp + R = v * 4294967296 + u0 := by rw [hbp, hR, HX.out.Ye, HQb.out, Nat.mul_comm]; exact Nat.div_add_mod _ _
              have eb3 : IntKind.u64.wrap ((qb : Int) * (Y : Int)) = ((bp % 18446744073709551616 : Nat) : Int) := by rw [show (qb : Int) * (Y : Int) = ((qb * Y : Nat) : Int) by simp, wrapN, ← hbp]
              obtain ⟨b1, hb1⟩ : ∃ a, a = v * 4294967296 % 18446744073709551616 := ⟨_, rfl⟩
              have eb1 : IntKind.u64.wrap ((v : Int) * 4294967296) = (b1 : Int) := by rw [show (v : Int) * 4294967296 = ((v * 4294967296 : Nat) : Int) by simp, wrapN, ← hb1]
              obtain ⟨b2, hb2⟩ : ∃ a, a = (b1 + u0) % 18446744073709551616 := ⟨_, rfl⟩
              have eb2 : IntKind.u64.wrap ((b1 : Int) + (u0 : Int)) = (b2 : Int) := by rw [show (b1 : Int) + (u0 : Int) = ((b1 + u0 : Nat) : Int) by simp, wrapN, ← hb2]
              obtain ⟨b3, hb3⟩ : ∃ a, a = bp % 18446744073709551616 := ⟨_, rfl⟩
              rw [← hb3] at eb3
              have hYb := HX.out.Yb
              have hYe := HX.out.Ye
              have eb4 : IntKind.u64.wrap ((b2 : Int) - (b3 : Int)) = (R : Int) := by rw [IntKind.wrap_u64]; omega
              have hb1b : (b1 : Int) ≤ 18446744073709551615 := by omega
              have hb2b : (b2 : Int) ≤ 18446744073709551615 := by omega
              have hb3b : (b3 : Int) ≤ 18446744073709551615 := by omega
              have hRI : (R : Int) ≤ 18446744073709551615 := by omega
              clear hR hbp hsumR hb1 hb2 hb3 hYb hYe
              have hfin := Dx.fin HX.out HQa.out HV.out HQb.out HR.out
              rw [← HQQ.out, ← HRR.out] at hfin
              have eR : (R : Int) / 2 ^ s = (RR : Int) := by rw [hfin.2]; simp
              have HF := Lib.hid hfin.1
              clear hfin
              go_wp2
              go_ret2
              refine ⟨?_, Below.refl _ _⟩
              rw [show (QQ : Int) = (q9a : Int) * 4294967296 + (qb : Int) by have := HF.out; omega]
              rfl
      · have hbrI : ¬ ((4294967296 : Int) ≤ (r9a : Int)) := by omega
        go_wp2
        go_round
        case rel => exact ⟨q9a, r9a, rfl, rfl, HG9, by omega⟩
        case measure => simp [intOf]; omega
    · have hcqI : ¬ ((4294967296 : Int) ≤ (qa : Int)) := by omega
      by_cases hcz : 4294967296 * ra + u1 < Z
      · have hczI : (4294967296 : Int) * (ra : Int) + (u1 : Int) < (Z : Int) := by omega
        have hdn := HG.out.down HDa.out (.inr (by rw [← HZ.out]; exact hcz))
        obtain ⟨q9a, hq9e⟩ : ∃ q9a, q9a = qa - 1 := ⟨_, rfl⟩
        obtain ⟨r9a, hr9e⟩ : ∃ r9a, r9a = ra + y1 := ⟨_, rfl⟩
        rw [← hq9e, ← hr9e] at hdn
        have HG9 := Lib.hid hdn.2
        have hqpos := hdn.1
        have eq9 : (qa : Int) - 1 = (q9a : Int) := by omega
        have er9 : (ra : Int) + (y1 : Int) = (r9a : Int) := by omega
        have hq99 : q9a ≤ 4294967296 := by omega
        have hq99I : (q9a : Int) ≤ 4294967296 := by omega
        have hqlt : q9a < qa := by omega
        have hr99 : (r9a : Int) ≤ 8589934590 := by omega
        clear hq9e hr9e hdn
        by_cases hbr : 4294967296 ≤ r9a
        · have hbrI : (4294967296 : Int) ≤ (r9a : Int) := by omega
          have HQa := Lib.hid (HG9.out.broke HDa.out hq99 hbr)
          have hqB : q9a < 4294967296 := by rw [HQa.out]; exact HDa.out.lt
          have hqBI : (q9a : Int) ≤ 4294967295 := by omega
          obtain ⟨v, hv⟩ : ∃ v9, v9 = (u * 4294967296 + u1) % (y1 * 4294967296 + y0) := ⟨_, rfl⟩
          have HV := Lib.hid hv
          have hltv : v < y1 * 4294967296 + y0 := by rw [hv]; exact Nat.mod_lt _ HDa.out.pos
          obtain ⟨ap, hap⟩ : ∃ p, p = q9a * Y := ⟨_, rfl⟩
          have hsumv : ap + v = u * 4294967296 + u1 := by rw [hap, hv, HX.out.Ye, HQa.out, Nat.mul_comm]; exact Nat.div_add_mod _ _
          have ea3 : IntKind.u64.wrap ((q9a : Int) * (Y : Int)) = ((ap % 18446744073709551616 : Nat) : Int) := by rw [show (q9a : Int) * (Y : Int) = ((q9a * Y : Nat) : Int) by simp, wrapN, ← hap]
          obtain ⟨a1, ha1⟩ : ∃ a, a = u * 4294967296 % 18446744073709551616 := ⟨_, rfl⟩
          have ea1 : IntKind.u64.wrap ((u : Int) * 4294967296) = (a1 : Int) := by rw [show (u : Int) * 4294967296 = ((u * 4294967296 : Nat) : Int) by simp, wrapN, ← ha1]
          obtain ⟨a2, ha2⟩ : ∃ a, a = (a1 + u1) % 18446744073709551616 := ⟨_, rfl⟩
          have ea2 : IntKind.u64.wrap ((a1 : Int) + (u1 : Int)) = (a2 : Int) := by rw [show (a1 : Int) + (u1 : Int) = ((a1 + u1 : Nat) : Int) by simp, wrapN, ← ha2]
          obtain ⟨a3, ha3⟩ : ∃ a, a = ap % 18446744073709551616 := ⟨_, rfl⟩
          rw [← ha3] at ea3
          have hYb := HX.out.Yb
          have hYe := HX.out.Ye
          have ea4 : IntKind.u64.wrap ((a2 : Int) - (a3 : Int)) = (v : Int) := by rw [IntKind.wrap_u64]; omega
          have ha1b : (a1 : Int) ≤ 18446744073709551615 := by omega
          have ha2b : (a2 : Int) ≤ 18446744073709551615 := by omega
          have ha3b : (a3 : Int) ≤ 18446744073709551615 := by omega
          have hvI : (v : Int) ≤ 18446744073709551615 := by omega
          clear hv hap hsumv ha1 ha2 ha3 hYb hYe
          have HDb := Lib.hid (show Dh y1 y0 v u0 from ⟨HDa.out.hy1, HDa.out.hy0, hltv, HX.out.hu0⟩)
          obtain ⟨qb, hqb⟩ : ∃ q, q = v / y1 := ⟨_, rfl⟩
          obtain ⟨rb, hrb⟩ : ∃ r, r = v % y1 := ⟨_, rfl⟩
          have Gb := Lib.hid (show Dg y1 y0 v u0 qb rb by rw [hqb, hrb]; exact Dg.start HDb.out)
          have hgqb : qb ≤ 4294967297 := Gb.out.le
          have hgqbI : (qb : Int) ≤ 4294967297 := by omega
          have hgrb : rb < y1 := by rw [hrb]; exact Nat.mod_lt _ (by omega)
          have hgrbI : (rb : Int) ≤ 4294967295 := by omega
          have edb : (v : Int) / (y1 : Int) = (qb : Int) := by rw [hqb]; simp
          have etb : (v : Int).tdiv (y1 : Int) = (qb : Int) := by rw [Int.tdiv_eq_ediv_of_nonneg (by omega)]; exact edb
          obtain ⟨pb, hpb⟩ : ∃ p, p = qb * y1 := ⟨_, rfl⟩
          have hpub : v = pb + rb := by rw [hpb]; exact Gb.out.sum
          have epb : IntKind.u64.wrap ((qb : Int) * (y1 : Int)) = (pb : Int) := by rw [show (qb : Int) * (y1 : Int) = ((qb * y1 : Nat) : Int) by simp, wrapN, ← hpb, Nat.mod_eq_of_lt (by omega)]
          have ebb : (qb : Int) * (y1 : Int) = (pb : Int) := by rw [hpb]; simp
          have erb : (v : Int) - (pb : Int) = (rb : Int) := by omega
          clear hqb hrb hpb hpub
          go_wp2
          go_loop [16, 18] (fun b a => ∃ qb rb : Nat, a = .int .u64 qb ∧ b = .int .u64 rb ∧ Hid (Dg y1 y0 v u0 qb rb) ∧ rb ≤ 4294967295) (fun _ a => (intOf a).toNat)
          case atStart => exact ⟨_, _, rfl, rfl, Gb, by omega⟩
          case round =>
            obtain ⟨qb, rb, rfl, rfl, HG, hr9⟩ := hrel
            have hr9I : (rb : Int) ≤ 4294967295 := by omega
            have hq9 : qb ≤ 4294967297 := HG.out.le
            have hq9I : (qb : Int) ≤ 4294967297 := by omega
            obtain ⟨Z, hZ⟩ : ∃ Z, Z = qb * y0 := ⟨_, rfl⟩
            have HZ := Lib.hid hZ
            have hZ9 : Z < 18446744073709551616 := by rw [hZ]; exact HG.out.small HDb.out
            have eZ : IntKind.u64.wrap ((qb : Int) * (y0 : Int)) = (Z : Int) := by rw [show (qb : Int) * (y0 : Int) = ((qb * y0 : Nat) : Int) by simp, wrapN, ← hZ, Nat.mod_eq_of_lt hZ9]
            have eZb : (qb : Int) * (y0 : Int) = (Z : Int) := by rw [hZ]; simp
            clear hZ
            by_cases hcq : 4294967296 ≤ qb
            · have hcqI : (4294967296 : Int) ≤ (qb : Int) := by omega
              have hdn := HG.out.down HDb.out (.inl hcq)
              obtain ⟨q9b, hq9e⟩ : ∃ q9b, q9b = qb - 1 := ⟨_, rfl⟩
              obtain ⟨r9b, hr9e⟩ : ∃ r9b, r9b = rb + y1 := ⟨_, rfl⟩
              rw [← hq9e, ← hr9e] at hdn
              have HG9 := Lib.hid hdn.2
              have hqpos := hdn.1
              have eq9 : (qb : Int) - 1 = (q9b : Int) := by omega
              have er9 : (rb : Int) + (y1 : Int) = (r9b : Int) := by omega
              have hq99 : q9b ≤ 4294967296 := by omega
              have hq99I : (q9b : Int) ≤ 4294967296 := by omega
              have hqlt : q9b < qb := by omega
              have hr99 : (r9b : Int) ≤ 8589934590 := by omega
              clear hq9e hr9e hdn
              by_cases hbr : 4294967296 ≤ r9b
              · have hbrI : (4294967296 : Int) ≤ (r9b : Int) := by omega
                have HQb := Lib.hid (HG9.out.broke HDb.out hq99 hbr)
                have hq2B : q9b < 4294967296 := by rw [HQb.out]; exact HDb.out.lt
                have hq2BI : (q9b : Int) ≤ 4294967295 := by omega
                obtain ⟨R, hR⟩ : ∃ v9, v9 = (v * 4294967296 + u0) % (y1 * 4294967296 + y0) := ⟨_, rfl⟩
                have HR := Lib.hid hR
                have hltR : R < y1 * 4294967296 + y0 := by rw [hR]; exact Nat.mod_lt _ HDb.out.pos
                obtain ⟨bp, hbp⟩ : ∃ p, p = q9b * Y := ⟨_, rfl⟩
                have hsumR : bp + R = v * 4294967296 + u0 := by rw [hbp, hR, HX.out.Ye, HQb.out, Nat.mul_comm]; exact Nat.div_add_mod _ _
                have eb3 : IntKind.u64.wrap ((q9b : Int) * (Y : Int)) = ((bp % 18446744073709551616 : Nat) : Int) := by rw [show (q9b : Int) * (Y : Int) = ((q9b * Y : Nat) : Int) by simp, wrapN, ← hbp]
                obtain ⟨b1, hb1⟩ : ∃ a, a = v * 4294967296 % 18446744073709551616 := ⟨_, rfl⟩
                have eb1 : IntKind.u64.wrap ((v : Int) * 4294967296) = (b1 : Int) := by rw [show (v : Int) * 4294967296 = ((v * 4294967296 : Nat) : Int) by simp, wrapN, ← hb1]
                obtain ⟨b2, hb2⟩ : ∃ a, a = (b1 + u0) % 18446744073709551616 := ⟨_, rfl⟩
                have eb2 : IntKind.u64.wrap ((b1 : Int) + (u0 : Int)) = (b2 : Int) := by rw [show (b1 : Int) + (u0 : Int) = ((b1 + u0 : Nat) : Int) by simp, wrapN, ← hb2]
                obtain ⟨b3, hb3⟩ : ∃ a, a = bp % 18446744073709551616 := ⟨_, rfl⟩
                rw [← hb3] at eb3
                have hYb := HX.out.Yb
                have hYe := HX.out.Ye
                have eb4 : IntKind.u64.wrap ((b2 : Int) - (b3 : Int)) = (R : Int) := by rw [IntKind.wrap_u64]; omega
                have hb1b : (b1 : Int) ≤ 18446744073709551615 := by omega
                have hb2b : (b2 : Int) ≤ 18446744073709551615 := by omega
                have hb3b : (b3 : Int) ≤ 18446744073709551615 := by omega
                have hRI : (R : Int) ≤ 18446744073709551615 := by omega
                clear hR hbp hsumR hb1 hb2 hb3 hYb hYe
                have hfin := Dx.fin HX.out HQa.out HV.out HQb.out HR.out
                rw [← HQQ.out, ← HRR.out] at hfin
                have eR : (R : Int) / 2 ^ s = (RR : Int) := by rw [hfin.2]; simp
                have HF := Lib.hid hfin.1
                clear hfin
                go_wp2
                go_ret2
                refine ⟨?_, Below.refl _ _⟩
                rw [show (QQ : Int) = (q9a : Int) * 4294967296 + (q9b : Int) by have := HF.out; omega]
                rfl
              · have hbrI : ¬ ((4294967296 : Int) ≤ (r9b : Int)) := by omega
                go_wp2
                go_round
                case rel => exact ⟨q9b, r9b, rfl, rfl, HG9, by omega⟩
                case measure => simp [intOf]; omega
            · have hcqI : ¬ ((4294967296 : Int) ≤ (qb : Int)) := by omega
              by_cases hcz : 4294967296 * rb + u0 < Z
              · have hczI : (4294967296 : Int) * (rb : Int) + (u0 : Int) < (Z : Int) := by omega
                have hdn := HG.out.down HDb.out (.inr (by rw [← HZ.out]; exact hcz))
                obtain ⟨q9b, hq9e⟩ : ∃ q9b, q9b = qb - 1 := ⟨_, rfl⟩
                obtain ⟨r9b, hr9e⟩ : ∃ r9b, r9b = rb + y1 := ⟨_, rfl⟩
                rw [← hq9e, ← hr9e] at hdn
                have HG9 := Lib.hid hdn.2
                have hqpos := hdn.1
                have eq9 : (qb : Int) - 1 = (q9b : Int) := by omega
                have er9 : (rb : Int) + (y1 : Int) = (r9b : Int) := by omega
                have hq99 : q9b ≤ 4294967296 := by omega
                have hq99I : (q9b : Int) ≤ 4294967296 := by omega
                have hqlt : q9b < qb := by omega
                have hr99 : (r9b : Int) ≤ 8589934590 := by omega
                clear hq9e hr9e hdn
                by_cases hbr : 4294967296 ≤ r9b
                · have hbrI : (4294967296 : Int) ≤ (r9b : Int) := by omega
                  have HQb := Lib.hid (HG9.out.broke HDb.out hq99 hbr)
                  have hq2B : q9b < 4294967296 := by rw [HQb.out]; exact HDb.out.lt
                  have hq2BI : (q9b : Int) ≤ 4294967295 := by omega
                  obtain ⟨R, hR⟩ : ∃ v9, v9 = (v * 4294967296 + u0) % (y1 * 4294967296 + y0) := ⟨_, rfl⟩
                  have HR := Lib.hid hR
                  have hltR : R < y1 * 4294967296 + y0 := by rw [hR]; exact Nat.mod_lt _ HDb.out.pos
                  obtain ⟨bp, hbp⟩ : ∃ p, p = q9b * Y := ⟨_, rfl⟩
                  have hsumR : bp + R = v * 4294967296 + u0 := by rw [hbp, hR, HX.out.Ye, HQb.out, Nat.mul_comm]; exact Nat.div_add_mod _ _
                  have eb3 : IntKind.u64.wrap ((q9b : Int) * (Y : Int)) = ((bp % 18446744073709551616 : Nat) : Int) := by rw [show (q9b : Int) * (Y : Int) = ((q9b * Y : Nat) : Int) by simp, wrapN, ← hbp]
                  obtain ⟨b1, hb1⟩ : ∃ a, a = v * 4294967296 % 18446744073709551616 := ⟨_, rfl⟩
                  have eb1 : IntKind.u64.wrap ((v : Int) * 4294967296) = (b1 : Int) := by rw [show (v : Int) * 4294967296 = ((v * 4294967296 : Nat) : Int) by simp, wrapN, ← hb1]
                  obtain ⟨b2, hb2⟩ : ∃ a, a = (b1 + u0) % 18446744073709551616 := ⟨_, rfl⟩
                  have eb2 : IntKind.u64.wrap ((b1 : Int) + (u0 : Int)) = (b2 : Int) := by rw [show (b1 : Int) + (u0 : Int) = ((b1 + u0 : Nat) : Int) by simp, wrapN, ← hb2]
                  obtain ⟨b3, hb3⟩ : ∃ a, a = bp % 18446744073709551616 := ⟨_, rfl⟩
                  rw [← hb3] at eb3
                  have hYb := HX.out.Yb
                  have hYe := HX.out.Ye
                  have eb4 : IntKind.u64.wrap ((b2 : Int) - (b3 : Int)) = (R : Int) := by rw [IntKind.wrap_u64]; omega
                  have hb1b : (b1 : Int) ≤ 18446744073709551615 := by omega
                  have hb2b : (b2 : Int) ≤ 18446744073709551615 := by omega
                  have hb3b : (b3 : Int) ≤ 18446744073709551615 := by omega
                  have hRI : (R : Int) ≤ 18446744073709551615 := by omega
                  clear hR hbp hsumR hb1 hb2 hb3 hYb hYe
                  have hfin := Dx.fin HX.out HQa.out HV.out HQb.out HR.out
                  rw [← HQQ.out, ← HRR.out] at hfin
                  have eR : (R : Int) / 2 ^ s = (RR : Int) := by rw [hfin.2]; simp
                  have HF := Lib.hid hfin.1
                  clear hfin
                  go_wp2
                  go_ret2
                  refine ⟨?_, Below.refl _ _⟩
                  rw [show (QQ : Int) = (q9a : Int) * 4294967296 + (q9b : Int) by have := HF.out; omega]
                  rfl
                · have hbrI : ¬ ((4294967296 : Int) ≤ (r9b : Int)) := by omega
                  go_wp2
                  go_round
                  case rel => exact ⟨q9b, r9b, rfl, rfl, HG9, by omega⟩
                  case measure => simp [intOf]; omega
              · have hczI : ¬ ((4294967296 : Int) * (rb : Int) + (u0 : Int) < (Z : Int)) := by omega
                have HQb := Lib.hid (HG.out.done HDb.out (by rw [← HZ.out]; omega))
                have hq2B : qb < 4294967296 := by rw [HQb.out]; exact HDb.out.lt
                have hq2BI : (qb : Int) ≤ 4294967295 := by omega
                obtain ⟨R, hR⟩ : ∃ v9, v9 = (v * 4294967296 + u0) % (y1 * 4294967296 + y0) := ⟨_, rfl⟩
                have HR := Lib.hid hR
                have hltR : R < y1 * 4294967296 + y0 := by rw [hR]; exact Nat.mod_lt _ HDb.out.pos
                obtain ⟨bp, hbp⟩ : ∃ p, p = qb * Y := ⟨_, rfl⟩
                have hsumR : bp + R = v * 4294967296 + u0 := by rw [hbp, hR, HX.out.Ye, HQb.out, Nat.mul_comm]; exact Nat.div_add_mod _ _
                have eb3 : IntKind.u64.wrap ((qb : Int) * (Y : Int)) = ((bp % 18446744073709551616 : Nat) : Int) := by rw [show (qb : Int) * (Y : Int) = ((qb * Y : Nat) : Int) by simp, wrapN, ← hbp]
                obtain ⟨b1, hb1⟩ : ∃ a, a = v * 4294967296 % 18446744073709551616 := ⟨_, rfl⟩
                have eb1 : IntKind.u64.wrap ((v : Int) * 4294967296) = (b1 : Int) := by rw [show (v : Int) * 4294967296 = ((v * 4294967296 : Nat) : Int) by simp, wrapN, ← hb1]
                obtain ⟨b2, hb2⟩ : ∃ a, a = (b1 + u0) % 18446744073709551616 := ⟨_, rfl⟩
                have eb2 : IntKind.u64.wrap ((b1 : Int) + (u0 : Int)) = (b2 : Int) := by rw [show (b1 : Int) + (u0 : Int) = ((b1 + u0 : Nat) : Int) by simp, wrapN, ← hb2]
                obtain ⟨b3, hb3⟩ : ∃ a, a = bp % 18446744073709551616 := ⟨_, rfl⟩
                rw [← hb3] at eb3
                have hYb := HX.out.Yb
                have hYe := HX.out.Ye
                have eb4 : IntKind.u64.wrap ((b2 : Int) - (b3 : Int)) = (R : Int) := by rw [IntKind.wrap_u64]; omega
                have hb1b : (b1 : Int) ≤ 18446744073709551615 := by omega
                have hb2b : (b2 : Int) ≤ 18446744073709551615 := by omega
                have hb3b : (b3 : Int) ≤ 18446744073709551615 := by omega
                have hRI : (R : Int) ≤ 18446744073709551615 := by omega
                clear hR hbp hsumR hb1 hb2 hb3 hYb hYe
                have hfin := Dx.fin HX.out HQa.out HV.out HQb.out HR.out
                rw [← HQQ.out, ← HRR.out] at hfin
                have eR : (R : Int) / 2 ^ s = (RR : Int) := by rw [hfin.2]; simp
                have HF := Lib.hid hfin.1
                clear hfin
                go_wp2
                go_ret2
                refine ⟨?_, Below.refl _ _⟩
                rw [show (QQ : Int) = (q9a : Int) * 4294967296 + (qb : Int) by have := HF.out; omega]
                rfl
        · have hbrI : ¬ ((4294967296 : Int) ≤ (r9a : Int)) := by omega
          go_wp2
          go_round
          case rel => exact ⟨q9a, r9a, rfl, rfl, HG9, by omega⟩
          case measure => simp [intOf]; omega
      · have hczI : ¬ ((4294967296 : Int) * (ra : Int) + (u1 : Int) < (Z : Int)) := by omega
        have HQa := Lib.hid (HG.out.done HDa.out (by rw [← HZ.out]; omega))
        have hqB : qa < 4294967296 := by rw [HQa.out]; exact HDa.out.lt
        have hqBI : (qa : Int) ≤ 4294967295 := by omega
        obtain ⟨v, hv⟩ : ∃ v9, v9 = (u * 4294967296 + u1) % (y1 * 4294967296 + y0) := ⟨_, rfl⟩
        have HV := Lib.hid hv
        have hltv : v < y1 * 4294967296 + y0 := by rw [hv]; exact Nat.mod_lt _ HDa.out.pos
        obtain ⟨ap, hap⟩ : ∃ p, p = qa * Y := ⟨_, rfl⟩
        have hsumv : ap + v = u * 4294967296 + u1 := by rw [hap, hv, HX.out.Ye, HQa.out, Nat.mul_comm]; exact Nat.div_add_mod _ _
        have ea3 : IntKind.u64.wrap ((qa : Int) * (Y : Int)) = ((ap % 18446744073709551616 : Nat) : Int) := by rw [show (qa : Int) * (Y : Int) = ((qa * Y : Nat) : Int) by simp, wrapN, ← hap]
        obtain ⟨a1, ha1⟩ : ∃ a, a = u * 4294967296 % 18446744073709551616 := ⟨_, rfl⟩
        have ea1 : IntKind.u64.wrap ((u : Int) * 4294967296) = (a1 : Int) := by rw [show (u : Int) * 4294967296 = ((u * 4294967296 : Nat) : Int) by simp, wrapN, ← ha1]
        obtain ⟨a2, ha2⟩ : ∃ a, a = (a1 + u1) % 18446744073709551616 := ⟨_, rfl⟩
        have ea2 : IntKind.u64.wrap ((a1 : Int) + (u1 : Int)) = (a2 : Int) := by rw [show (a1 : Int) + (u1 : Int) = ((a1 + u1 : Nat) : Int) by simp, wrapN, ← ha2]
        obtain ⟨a3, ha3⟩ : ∃ a, a = ap % 18446744073709551616 := ⟨_, rfl⟩
        rw [← ha3] at ea3
        have hYb := HX.out.Yb
        have hYe := HX.out.Ye
        have ea4 : IntKind.u64.wrap ((a2 : Int) - (a3 : Int)) = (v : Int) := by rw [IntKind.wrap_u64]; omega
        have ha1b : (a1 : Int) ≤ 18446744073709551615 := by omega
        have ha2b : (a2 : Int) ≤ 18446744073709551615 := by omega
        have ha3b : (a3 : Int) ≤ 18446744073709551615 := by omega
        have hvI : (v : Int) ≤ 18446744073709551615 := by omega
        clear hv hap hsumv ha1 ha2 ha3 hYb hYe
        have HDb := Lib.hid (show Dh y1 y0 v u0 from ⟨HDa.out.hy1, HDa.out.hy0, hltv, HX.out.hu0⟩)
        obtain ⟨qb, hqb⟩ : ∃ q, q = v / y1 := ⟨_, rfl⟩
        obtain ⟨rb, hrb⟩ : ∃ r, r = v % y1 := ⟨_, rfl⟩
        have Gb := Lib.hid (show Dg y1 y0 v u0 qb rb by rw [hqb, hrb]; exact Dg.start HDb.out)
        have hgqb : qb ≤ 4294967297 := Gb.out.le
        have hgqbI : (qb : Int) ≤ 4294967297 := by omega
        have hgrb : rb < y1 := by rw [hrb]; exact Nat.mod_lt _ (by omega)
        have hgrbI : (rb : Int) ≤ 4294967295 := by omega
        have edb : (v : Int) / (y1 : Int) = (qb : Int) := by rw [hqb]; simp
        have etb : (v : Int).tdiv (y1 : Int) = (qb : Int) := by rw [Int.tdiv_eq_ediv_of_nonneg (by omega)]; exact edb
        obtain ⟨pb, hpb⟩ : ∃ p, p = qb * y1 := ⟨_, rfl⟩
        have hpub : v = pb + rb := by rw [hpb]; exact Gb.out.sum
        have epb : IntKind.u64.wrap ((qb : Int) * (y1 : Int)) = (pb : Int) := by rw [show (qb : Int) * (y1 : Int) = ((qb * y1 : Nat) : Int) by simp, wrapN, ← hpb, Nat.mod_eq_of_lt (by omega)]
        have ebb : (qb : Int) * (y1 : Int) = (pb : Int) := by rw [hpb]; simp
        have erb : (v : Int) - (pb : Int) = (rb : Int) := by omega
        clear hqb hrb hpb hpub
        go_wp2
        go_loop [16, 18] (fun b a => ∃ qb rb : Nat, a = .int .u64 qb ∧ b = .int .u64 rb ∧ Hid (Dg y1 y0 v u0 qb rb) ∧ rb ≤ 4294967295) (fun _ a => (intOf a).toNat)
        case atStart => exact ⟨_, _, rfl, rfl, Gb, by omega⟩
        case round =>
          obtain ⟨qb, rb, rfl, rfl, HG, hr9⟩ := hrel
          have hr9I : (rb : Int) ≤ 4294967295 := by omega
          have hq9 : qb ≤ 4294967297 := HG.out.le
          have hq9I : (qb : Int) ≤ 4294967297 := by omega
          obtain ⟨Z, hZ⟩ : ∃ Z, Z = qb * y0 := ⟨_, rfl⟩
          have HZ := Lib.hid hZ
          have hZ9 : Z < 18446744073709551616 := by rw [hZ]; exact HG.out.small HDb.out
          have eZ : IntKind.u64.wrap ((qb : Int) * (y0 : Int)) = (Z : Int) := by rw [show (qb : Int) * (y0 : Int) = ((qb * y0 : Nat) : Int) by simp, wrapN, ← hZ, Nat.mod_eq_of_lt hZ9]
          have eZb : (qb : Int) * (y0 : Int) = (Z : Int) := by rw [hZ]; simp
          clear hZ
          by_cases hcq : 4294967296 ≤ qb
          · have hcqI : (4294967296 : Int) ≤ (qb : Int) := by omega
            have hdn := HG.out.down HDb.out (.inl hcq)
            obtain ⟨q9b, hq9e⟩ : ∃ q9b, q9b = qb - 1 := ⟨_, rfl⟩
            obtain ⟨r9b, hr9e⟩ : ∃ r9b, r9b = rb + y1 := ⟨_, rfl⟩
            rw [← hq9e, ← hr9e] at hdn
            have HG9 := Lib.hid hdn.2
            have hqpos := hdn.1
            have eq9 : (qb : Int) - 1 = (q9b : Int) := by omega
            have er9 : (rb : Int) + (y1 : Int) = (r9b : Int) := by omega
            have hq99 : q9b ≤ 4294967296 := by omega
            have hq99I : (q9b : Int) ≤ 4294967296 := by omega
            have hqlt : q9b < qb := by omega
            have hr99 : (r9b : Int) ≤ 8589934590 := by omega
            clear hq9e hr9e hdn
            by_cases hbr : 4294967296 ≤ r9b
            · have hbrI : (4294967296 : Int) ≤ (r9b : Int) := by omega
              have HQb := Lib.hid (HG9.out.broke HDb.out hq99 hbr)
              have hq2B : q9b < 4294967296 := by rw [HQb.out]; exact HDb.out.lt
              have hq2BI : (q9b : Int) ≤ 4294967295 := by omega
              obtain ⟨R, hR⟩ : ∃ v9, v9 = (v * 4294967296 + u0) % (y1 * 4294967296 + y0) := ⟨_, rfl⟩
              have HR := Lib.hid hR
              have hltR : R < y1 * 4294967296 + y0 := by rw [hR]; exact Nat.mod_lt _ HDb.out.pos
              obtain ⟨bp, hbp⟩ : ∃ p, p = q9b * Y := ⟨_, rfl⟩
              have hsumR : bp + R = v * 4294967296 + u0 := by rw [hbp, hR, HX.out.Ye, HQb.out, Nat.mul_comm]; exact Nat.div_add_mod _ _
              have eb3 : IntKind.u64.wrap ((q9b : Int) * (Y : Int)) = ((bp % 18446744073709551616 : Nat) : Int) := by rw [show (q9b : Int) * (Y : Int) = ((q9b * Y : Nat) : Int) by simp, wrapN, ← hbp]
              obtain ⟨b1, hb1⟩ : ∃ a, a = v * 4294967296 % 18446744073709551616 := ⟨_, rfl⟩
              have eb1 : IntKind.u64.wrap ((v : Int) * 4294967296) = (b1 : Int) := by rw [show (v : Int) * 4294967296 = ((v * 4294967296 : Nat) : Int) by simp, wrapN, ← hb1]
              obtain ⟨b2, hb2⟩ : ∃ a, a = (b1 + u0) % 18446744073709551616 := ⟨_, rfl⟩
              have eb2 : IntKind.u64.wrap ((b1 : Int) + (u0 : Int)) = (b2 : Int) := by rw [show (b1 : Int) + (u0 : Int) = ((b1 + u0 : Nat) : Int) by simp, wrapN, ← hb2]
              obtain ⟨b3, hb3⟩ : ∃ a, a = bp % 18446744073709551616 := ⟨_, rfl⟩
              rw [← hb3] at eb3
              have hYb := HX.out.Yb
              have hYe := HX.out.Ye
              have eb4 : IntKind.u64.wrap ((b2 : Int) - (b3 : Int)) = (R : Int) := by rw [IntKind.wrap_u64]; omega
              have hb1b : (b1 : Int) ≤ 18446744073709551615 := by omega
              have hb2b : (b2 : Int) ≤ 18446744073709551615 := by omega
              have hb3b : (b3 : Int) ≤ 18446744073709551615 := by omega
              have hRI : (R : Int) ≤ 18446744073709551615 := by omega
              clear hR hbp hsumR hb1 hb2 hb3 hYb hYe
              have hfin := Dx.fin HX.out HQa.out HV.out HQb.out HR.out
              rw [← HQQ.out, ← HRR.out] at hfin
              have eR : (R : Int) / 2 ^ s = (RR : Int) := by rw [hfin.2]; simp
              have HF := Lib.hid hfin.1
              clear hfin
              go_wp2
              go_ret2
              refine ⟨?_, Below.refl _ _⟩
              rw [show (QQ : Int) = (qa : Int) * 4294967296 + (q9b : Int) by have := HF.out; omega]
              rfl
            · have hbrI : ¬ ((4294967296 : Int) ≤ (r9b : Int)) := by omega
              go_wp2
              go_round
              case rel => exact ⟨q9b, r9b, rfl, rfl, HG9, by omega⟩
              case measure => simp [intOf]; omega
          · have hcqI : ¬ ((4294967296 : Int) ≤ (qb : Int)) := by omega
            by_cases hcz : 4294967296 * rb + u0 < Z
            · have hczI : (4294967296 : Int) * (rb : Int) + (u0 : Int) < (Z : Int) := by omega
              have hdn := HG.out.down HDb.out (.inr (by rw [← HZ.out]; exact hcz))
              obtain ⟨q9b, hq9e⟩ : ∃ q9b, q9b = qb - 1 := ⟨_, rfl⟩
              obtain ⟨r9b, hr9e⟩ : ∃ r9b, r9b = rb + y1 := ⟨_, rfl⟩
              rw [← hq9e, ← hr9e] at hdn
              have HG9 := Lib.hid hdn.2
              have hqpos := hdn.1
              have eq9 : (qb : Int) - 1 = (q9b : Int) := by omega
              have er9 : (rb : Int) + (y1 : Int) = (r9b : Int) := by omega
              have hq99 : q9b ≤ 4294967296 := by omega
              have hq99I : (q9b : Int) ≤ 4294967296 := by omega
              have hqlt : q9b < qb := by omega
              have hr99 : (r9b : Int) ≤ 8589934590 := by omega
              clear hq9e hr9e hdn
              by_cases hbr : 4294967296 ≤ r9b
              · have hbrI : (4294967296 : Int) ≤ (r9b : Int) := by omega
                have HQb := Lib.hid (HG9.out.broke HDb.out hq99 hbr)
                have hq2B : q9b < 4294967296 := by rw [HQb.out]; exact HDb.out.lt
                have hq2BI : (q9b : Int) ≤ 4294967295 := by omega
                obtain ⟨R, hR⟩ : ∃ v9, v9 = (v * 4294967296 + u0) % (y1 * 4294967296 + y0) := ⟨_, rfl⟩
                have HR := Lib.hid hR
                have hltR : R < y1 * 4294967296 + y0 := by rw [hR]; exact Nat.mod_lt _ HDb.out.pos
                obtain ⟨bp, hbp⟩ : ∃ p, p = q9b * Y := ⟨_, rfl⟩
                have hsumR : bp + R = v * 4294967296 + u0 := by rw [hbp, hR, HX.out.Ye, HQb.out, Nat.mul_comm]; exact Nat.div_add_mod _ _
                have eb3 : IntKind.u64.wrap ((q9b : Int) * (Y : Int)) = ((bp % 18446744073709551616 : Nat) : Int) := by rw [show (q9b : Int) * (Y : Int) = ((q9b * Y : Nat) : Int) by simp, wrapN, ← hbp]
                obtain ⟨b1, hb1⟩ : ∃ a, a = v * 4294967296 % 18446744073709551616 := ⟨_, rfl⟩
                have eb1 : IntKind.u64.wrap ((v : Int) * 4294967296) = (b1 : Int) := by rw [show (v : Int) * 4294967296 = ((v * 4294967296 : Nat) : Int) by simp, wrapN, ← hb1]
                obtain ⟨b2, hb2⟩ : ∃ a, a = (b1 + u0) % 18446744073709551616 := ⟨_, rfl⟩
                have eb2 : IntKind.u64.wrap ((b1 : Int) + (u0 : Int)) = (b2 : Int) := by rw [show (b1 : Int) + (u0 : Int) = ((b1 + u0 : Nat) : Int) by simp, wrapN, ← hb2]
                obtain ⟨b3, hb3⟩ : ∃ a, a = bp % 18446744073709551616 := ⟨_, rfl⟩
                rw [← hb3] at eb3
                have hYb := HX.out.Yb
                have hYe := HX.out.Ye
                have eb4 : IntKind.u64.wrap ((b2 : Int) - (b3 : Int)) = (R : Int) := by rw [IntKind.wrap_u64]; omega
                have hb1b : (b1 : Int) ≤ 18446744073709551615 := by omega
                have hb2b : (b2 : Int) ≤ 18446744073709551615 := by omega
                have hb3b : (b3 : Int) ≤ 18446744073709551615 := by omega
                have hRI : (R : Int) ≤ 18446744073709551615 := by omega
                clear hR hbp hsumR hb1 hb2 hb3 hYb hYe
                have hfin := Dx.fin HX.out HQa.out HV.out HQb.out HR.out
                rw [← HQQ.out, ← HRR.out] at hfin
                have eR : (R : Int) / 2 ^ s = (RR : Int) := by rw [hfin.2]; simp
                have HF := Lib.hid hfin.1
                clear hfin
                go_wp2
                go_ret2
                refine ⟨?_, Below.refl _ _⟩
                rw [show (QQ : Int) = (qa : Int) * 4294967296 + (q9b : Int) by have := HF.out; omega]
                rfl
              · have hbrI : ¬ ((4294967296 : Int) ≤ (r9b : Int)) := by omega
                go_wp2
                go_round
                case rel => exact ⟨q9b, r9b, rfl, rfl, HG9, by omega⟩
                case measure => simp [intOf]; omega
            · have hczI : ¬ ((4294967296 : Int) * (rb : Int) + (u0 : Int) < (Z : Int)) := by omega
              have HQb := Lib.hid (HG.out.done HDb.out (by rw [← HZ.out]; omega))
              have hq2B : qb < 4294967296 := by rw [HQb.out]; exact HDb.out.lt
              have hq2BI : (qb : Int) ≤ 4294967295 := by omega
              obtain ⟨R, hR⟩ : ∃ v9, v9 = (v * 4294967296 + u0) % (y1 * 4294967296 + y0) := ⟨_, rfl⟩
              have HR := Lib.hid hR
              have hltR : R < y1 * 4294967296 + y0 := by rw [hR]; exact Nat.mod_lt _ HDb.out.pos
              obtain ⟨bp, hbp⟩ : ∃ p, p = qb * Y := ⟨_, rfl⟩
              have hsumR : bp + R = v * 4294967296 + u0 := by rw [hbp, hR, HX.out.Ye, HQb.out, Nat.mul_comm]; exact Nat.div_add_mod _ _
              have eb3 : IntKind.u64.wrap ((qb : Int) * (Y : Int)) = ((bp % 18446744073709551616 : Nat) : Int) := by rw [show (qb : Int) * (Y : Int) = ((qb * Y : Nat) : Int) by simp, wrapN, ← hbp]
              obtain ⟨b1, hb1⟩ : ∃ a, a = v * 4294967296 % 18446744073709551616 := ⟨_, rfl⟩
              have eb1 : IntKind.u64.wrap ((v : Int) * 4294967296) = (b1 : Int) := by rw [show (v : Int) * 4294967296 = ((v * 4294967296 : Nat) : Int) by simp, wrapN, ← hb1]
              obtain ⟨b2, hb2⟩ : ∃ a, a = (b1 + u0) % 18446744073709551616 := ⟨_, rfl⟩
              have eb2 : IntKind.u64.wrap ((b1 : Int) + (u0 : Int)) = (b2 : Int) := by rw [show (b1 : Int) + (u0 : Int) = ((b1 + u0 : Nat) : Int) by simp, wrapN, ← hb2]
              obtain ⟨b3, hb3⟩ : ∃ a, a = bp % 18446744073709551616 := ⟨_, rfl⟩
              rw [← hb3] at eb3
              have hYb := HX.out.Yb
              have hYe := HX.out.Ye
              have eb4 : IntKind.u64.wrap ((b2 : Int) - (b3 : Int)) = (R : Int) := by rw [IntKind.wrap_u64]; omega
              have hb1b : (b1 : Int) ≤ 18446744073709551615 := by omega
              have hb2b : (b2 : Int) ≤ 18446744073709551615 := by omega
              have hb3b : (b3 : Int) ≤ 18446744073709551615 := by omega
              have hRI : (R : Int) ≤ 18446744073709551615 := by omega
              clear hR hbp hsumR hb1 hb2 hb3 hYb hYe
              have hfin := Dx.fin HX.out HQa.out HV.out HQb.out HR.out
              rw [← HQQ.out, ← HRR.out] at hfin
              have eR : (R : Int) / 2 ^ s = (RR : Int) := by rw [hfin.2]; simp
              have HF := Lib.hid hfin.1
              clear hfin
              go_wp2
              go_ret2
              refine ⟨?_, Below.refl _ _⟩
              rw [show (QQ : Int) = (qa : Int) * 4294967296 + (qb : Int) by have := HF.out; omega]
              rfl
/-- **math/bits.Div64.** -/
theorem div64_any (hi lo y : Nat) (hlo : lo < W64) (hy : y < W64) (hhi : hi < y) (w : World) : Calls Try.prog 69 #[.int .u64 hi, .int .u64 lo, .int .u64 y] w fun e w' => e = .returned (.tuple #[.int .u64 (((hi * W64 + lo) / y : Nat) : Int), .int .u64 (((hi * W64 + lo) % y : Nat) : Int)]) ∧ Below w.heap.size w w' := by
  rcases Nat.eq_zero_or_pos hi with rfl | h0
  · rw [Nat.zero_mul, Nat.zero_add]
    exact div64_small lo y hlo hy (by omega) w
  · exact div64_great hi lo y h0 hlo hy hhi w
end Go.Proofs.Ytpoocnkflmimdaa
