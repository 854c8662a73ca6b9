/- Layer 2 (limbs): the walk of LimbsParts: it returns true. -/
import Derived.Test.YtdhkkigijcggmaaFresh
import Derived.Test.YtdhkkigijcggmaaLimbsSums
namespace Go.Proofs.Ytdhkkigijcggmaa
open Go.ChangeShapes Go.WideShapes Go.ChangeAt Go.RowKit

def H128 : Nat := 340282366920938463463374607431768211456
theorem H_two : H128 * H128 = M256 := by unfold H128 M256; rfl
theorem H_W : H128 = W64 * W64 := by unfold H128 W64; rfl
theorem dgt_low (a : Nat) : dgt W64 (a % H128) 0 = dgt W64 a 0 ∧ dgt W64 (a % H128) 1 = dgt W64 a 1 ∧ dgt W64 (a % H128) 2 = 0 ∧ dgt W64 (a % H128) 3 = 0 := by
  unfold dgt H128 W64
  refine ⟨?_, ?_, ?_, ?_⟩ <;> omega
theorem dgt_high {a : Nat} (ha : a < M256) : dgt W64 (a / H128) 0 = dgt W64 a 2 ∧ dgt W64 (a / H128) 1 = dgt W64 a 3 ∧ dgt W64 (a / H128) 2 = 0 ∧ dgt W64 (a / H128) 3 = 0 := by
  unfold dgt H128
  unfold M256 at ha
  unfold W64
  refine ⟨?_, ?_, ?_, ?_⟩ <;> omega
theorem dgt_mid {m y : Nat} (hm : m < W64) (hy : y < W64) : dgt W64 (m + y * H128) 0 = m ∧ dgt W64 (m + y * H128) 1 = 0 ∧ dgt W64 (m + y * H128) 2 = y ∧ dgt W64 (m + y * H128) 3 = 0 := by
  unfold dgt H128
  unfold W64 at *
  refine ⟨?_, ?_, ?_, ?_⟩ <;> omega
theorem small_mul {x y : Nat} (hx : x < H128) (hy : y < H128) : x * y < M256 := by
  rw [← H_two]
  exact Nat.mul_lt_mul'' hx hy
theorem small_mulL {x y : Nat} (hx : x < H128) (hy : y < H128) : mulL x y = x * y ∧ mulH x y = 0 := by
  have h := small_mul hx hy
  exact ⟨Nat.mod_eq_of_lt h, Nat.div_eq_of_lt h⟩
theorem shift_up (s : Nat) : shiftN s 128 = s % H128 * H128 := by
  unfold shiftN
  rw [if_pos (by omega), show (2 : Nat) ^ (128 : Int).toNat = H128 by unfold H128; rfl, ← H_two, Nat.mul_mod_mul_right]
theorem shift_down (s : Nat) : shiftN s (-128) = s / H128 := by
  unfold shiftN
  rw [if_neg (by omega), show (2 : Nat) ^ (-(-128 : Int)).toNat = H128 by unfold H128; rfl]

structure Parts (a b al ah bl bh ll lh hl hh s y sl sh low more h1 md h2 : Nat) : Prop where
  al_lt : al < M256
  ah_lt : ah < M256
  bl_lt : bl < M256
  bh_lt : bh < M256
  alw : dgt W64 al 0 = dgt W64 a 0 ∧ dgt W64 al 1 = dgt W64 a 1 ∧ dgt W64 al 2 = 0 ∧ dgt W64 al 3 = 0
  ahw : dgt W64 ah 0 = dgt W64 a 2 ∧ dgt W64 ah 1 = dgt W64 a 3 ∧ dgt W64 ah 2 = 0 ∧ dgt W64 ah 3 = 0
  blw : dgt W64 bl 0 = dgt W64 b 0 ∧ dgt W64 bl 1 = dgt W64 b 1 ∧ dgt W64 bl 2 = 0 ∧ dgt W64 bl 3 = 0
  bhw : dgt W64 bh 0 = dgt W64 b 2 ∧ dgt W64 bh 1 = dgt W64 b 3 ∧ dgt W64 bh 2 = 0 ∧ dgt W64 bh 3 = 0
  mll : mulL al bl = ll ∧ mulH al bl = 0
  mlh : mulL al bh = lh ∧ mulH al bh = 0
  mhl : mulL ah bl = hl ∧ mulH ah bl = 0
  mhh : mulL ah bh = hh ∧ mulH ah bh = 0
  cs : addN lh hl = s ∧ addNC lh hl = y
  su : shiftN s 128 = sl
  sd : shiftN s (-128) = sh
  lo : addN ll sl = low ∧ addNC ll sl = more
  hi : addN hh sh = h1 ∧ addNC hh sh = 0
  mdw : dgt W64 md 0 = more ∧ dgt W64 md 1 = 0 ∧ dgt W64 md 2 = y ∧ dgt W64 md 3 = 0
  md_lt : md < M256
  fin : addN h1 md = h2 ∧ addNC h1 md = 0
  all : mulL a b = low ∧ mulH a b = h2

theorem parts_sum {al ah bl bh a b s ll lh hl hh y : Nat} (ea : a = al + H128 * ah) (eb : b = bl + H128 * bh) (h1 : ll = al * bl) (h2 : lh = al * bh) (h3 : hl = ah * bl) (h4 : hh = ah * bh) (hs : lh + hl = s + M256 * y) :
    a * b = ll + s % H128 * H128 + M256 * (hh + s / H128 + H128 * y) := by
  have e : a * b = ll + H128 * (lh + hl) + H128 * H128 * hh := by
    subst ea eb h1 h2 h3 h4
    simp only [Nat.add_mul, Nat.mul_add]
    have := Nat.mul_left_comm al H128 bh
    have h5 : H128 * ah * (H128 * bh) = H128 * H128 * (ah * bh) := by rw [Nat.mul_mul_mul_comm]
    have h6 : H128 * ah * bl = H128 * (ah * bl) := Nat.mul_assoc _ _ _
    omega
  have e2 := Nat.mod_add_div s H128
  rw [e, hs, H_two]
  have e3 : H128 * s = s % H128 * H128 + M256 * (s / H128) := by
    calc H128 * s = H128 * (s % H128 + H128 * (s / H128)) := by rw [e2]
      _ = _ := by rw [Nat.mul_add, ← Nat.mul_assoc, H_two, Nat.mul_comm H128]
  have e4 : H128 * (M256 * y) = M256 * (H128 * y) := Nat.mul_left_comm _ _ _
  rw [Nat.mul_add, e3, e4, Nat.mul_add, Nat.mul_add]
  omega
theorem parts_law {a b : Nat} (ha : a < M256) (hb : b < M256) : ∃ al ah bl bh ll lh hl hh s y sl sh low more h1 md h2 : Nat, Parts a b al ah bl bh ll lh hl hh s y sl sh low more h1 md h2 := by
  have hH : H128 ≤ M256 := by unfold H128 M256; omega
  have hp : 0 < H128 := by unfold H128; omega
  have lal : a % H128 < H128 := Nat.mod_lt _ hp
  have lbl : b % H128 < H128 := Nat.mod_lt _ hp
  have lah : a / H128 < H128 := Nat.div_lt_of_lt_mul (by rw [H_two]; exact ha)
  have lbh : b / H128 < H128 := Nat.div_lt_of_lt_mul (by rw [H_two]; exact hb)
  have lll := small_mul lal lbl
  have llh := small_mul lal lbh
  have lhl := small_mul lah lbl
  have lhh := small_mul lah lbh
  have hab : a * b < M256 * M256 := Nat.mul_lt_mul'' ha hb
  have hs : a % H128 * (b / H128) + a / H128 * (b % H128) = addN (a % H128 * (b / H128)) (a / H128 * (b % H128)) + M256 * addNC (a % H128 * (b / H128)) (a / H128 * (b % H128)) := (Nat.mod_add_div _ _).symm
  have hy : addNC (a % H128 * (b / H128)) (a / H128 * (b % H128)) ≤ 1 := addNC_le llh lhl
  have key := parts_sum (Nat.mod_add_div a H128).symm (Nat.mod_add_div b H128).symm rfl rfl rfl rfl hs
  have hsl : addN (a % H128 * (b / H128)) (a / H128 * (b % H128)) < M256 := addN_lt _ _
  generalize es : addN (a % H128 * (b / H128)) (a / H128 * (b % H128)) = s at *
  generalize ey : addNC (a % H128 * (b / H128)) (a / H128 * (b % H128)) = y at *
  have hsm : s % H128 < H128 := Nat.mod_lt _ hp
  have hsh : s / H128 < H128 := Nat.div_lt_of_lt_mul (by rw [H_two]; exact hsl)
  have hsu : s % H128 * H128 < M256 := by rw [← H_two]; exact Nat.mul_lt_mul_of_pos_right hsm hp
  have hm : addNC (a % H128 * (b % H128)) (s % H128 * H128) ≤ 1 := addNC_le lll hsu
  have lo : a % H128 * (b % H128) + s % H128 * H128 = addN (a % H128 * (b % H128)) (s % H128 * H128) + M256 * addNC (a % H128 * (b % H128)) (s % H128 * H128) := (Nat.mod_add_div _ _).symm
  have hlow : addN (a % H128 * (b % H128)) (s % H128 * H128) < M256 := addN_lt _ _
  rw [lo] at key
  generalize hhe : a / H128 * (b / H128) = hh at *
  have tot : a * b = addN (a % H128 * (b % H128)) (s % H128 * H128) + M256 * (addNC (a % H128 * (b % H128)) (s % H128 * H128) + (hh + s / H128 + H128 * y)) := by rw [key, Nat.mul_add M256 _ (hh + s / H128 + H128 * y)]; omega
  have hbig : addNC (a % H128 * (b % H128)) (s % H128 * H128) + (hh + s / H128 + H128 * y) < M256 := by
    refine Nat.lt_of_mul_lt_mul_left (a := M256) ?_
    omega
  have hML : mulL a b = addN (a % H128 * (b % H128)) (s % H128 * H128) := by
    unfold mulL
    rw [tot, Nat.add_mul_mod_self_left, Nat.mod_eq_of_lt hlow]
  have hMH : mulH a b = addNC (a % H128 * (b % H128)) (s % H128 * H128) + (hh + s / H128 + H128 * y) := by
    unfold mulH
    rw [tot, Nat.add_mul_div_left _ _ M256_pos, Nat.div_eq_of_lt hlow, Nat.zero_add]
  have e1 : addN hh (s / H128) = hh + s / H128 ∧ addNC hh (s / H128) = 0 := ⟨Nat.mod_eq_of_lt (by omega), Nat.div_eq_of_lt (by omega)⟩
  have hyH : y * H128 = H128 * y := Nat.mul_comm _ _
  have hmd := dgt_mid (m := addNC (a % H128 * (b % H128)) (s % H128 * H128)) (y := y) (by unfold W64; omega) (by unfold W64; omega)
  refine ⟨a % H128, a / H128, b % H128, b / H128, a % H128 * (b % H128), a % H128 * (b / H128), a / H128 * (b % H128), hh, s, y, s % H128 * H128, s / H128, addN (a % H128 * (b % H128)) (s % H128 * H128), addNC (a % H128 * (b % H128)) (s % H128 * H128), hh + s / H128,
    addNC (a % H128 * (b % H128)) (s % H128 * H128) + y * H128, addNC (a % H128 * (b % H128)) (s % H128 * H128) + (hh + s / H128 + H128 * y), by omega, by omega, by omega, by omega, dgt_low a, dgt_high ha, dgt_low b, dgt_high hb,
    small_mulL lal lbl, small_mulL lal lbh, small_mulL lah lbl, hhe ▸ small_mulL lah lbh, ⟨es, ey⟩, shift_up s, shift_down s, ⟨rfl, rfl⟩, e1, hmd, by omega, ⟨?_, ?_⟩, ⟨hML, hMH⟩⟩
  · unfold addN
    rw [Nat.mod_eq_of_lt (by omega)]
    omega
  · exact Nat.div_eq_of_lt (by omega)
theorem half_int {x y0 y1 : Nat} (h : dgt W64 x 0 = y0 ∧ dgt W64 x 1 = y1 ∧ dgt W64 x 2 = 0 ∧ dgt W64 x 3 = 0) : ((dgt W64 x 0 : Nat) : Int) = (y0 : Int) ∧ ((dgt W64 x 1 : Nat) : Int) = (y1 : Int) ∧ ((dgt W64 x 2 : Nat) : Int) = 0 ∧ ((dgt W64 x 3 : Nat) : Int) = 0 := by
  obtain ⟨h0, h1, h2, h3⟩ := h
  rw [h0, h1, h2, h3]
  exact ⟨rfl, rfl, rfl, rfl⟩
theorem mid_int {x y0 y1 : Nat} (h : dgt W64 x 0 = y0 ∧ dgt W64 x 1 = 0 ∧ dgt W64 x 2 = y1 ∧ dgt W64 x 3 = 0) : ((dgt W64 x 0 : Nat) : Int) = (y0 : Int) ∧ ((dgt W64 x 1 : Nat) : Int) = 0 ∧ ((dgt W64 x 2 : Nat) : Int) = (y1 : Int) ∧ ((dgt W64 x 3 : Nat) : Int) = 0 := by
  obtain ⟨h0, h1, h2, h3⟩ := h
  rw [h0, h1, h2, h3]
  exact ⟨rfl, rfl, rfl, rfl⟩
theorem zero_int : ((0 : Nat) : Int) = 0 := rfl
theorem lowhalf {w : World} {b : Nat} {t : TypeId} {x y0 y1 : Nat} (h : dgt W64 x 0 = y0 ∧ dgt W64 x 1 = y1 ∧ dgt W64 x 2 = 0 ∧ dgt W64 x 3 = 0) (hb : b = w.heap.size) : NumAt (w.alloc (.cells #[.int .u64 y0, .int .u64 y1, .int .u64 0, .int .u64 0] t)) b x := by
  obtain ⟨h0, h1, h2, h3⟩ := h
  have := NumAt.new w x b t hb
  rw [h0, h1, h2, h3] at this
  exact this
theorem neq0 (w : World) : (binOp .neq 24 (.agg #[.int .u64 (dgt W64 0 0), .int .u64 (dgt W64 0 1), .int .u64 (dgt W64 0 2), .int .u64 (dgt W64 0 3)]) (.agg #[.int .u64 (dgt W64 0 0), .int .u64 (dgt W64 0 1), .int .u64 (dgt W64 0 2), .int .u64 (dgt W64 0 3)])).run Try.prog w = .ok (.bool false) w := by
  rw [ne_num 0 0 M256_pos M256_pos]
  simp
set_option maxRecDepth 20000 in
set_option maxHeartbeats 8000000 in
theorem limbsParts_walk {a b : Nat} (ha : a < M256) (hb : b < M256) (w : World) :
    Calls Try.prog 9 #[.agg #[.int .u64 (dgt W64 a 0), .int .u64 (dgt W64 a 1), .int .u64 (dgt W64 a 2), .int .u64 (dgt W64 a 3)], .agg #[.int .u64 (dgt W64 b 0), .int .u64 (dgt W64 b 1), .int .u64 (dgt W64 b 2), .int .u64 (dgt W64 b 3)]] w fun e w' => e = .returned (.bool true) ∧ Below w.heap.size w w' := by
  have heq := eq4
  have hne0 := neq0
  obtain ⟨al, ah, bl, bh, ll, lh, hl, hh, s, y, sl, sh, low, more, h1, md, h2, HP⟩ := parts_law ha hb
  have HP := Lib.hid HP
  have Ha := Lib.hid ha
  have Hb := Lib.hid hb
  clear ha hb
  have Lll := Lib.hid (show ll < M256 by rw [← HP.out.mll.1]; exact mulL_lt _ _)
  have Llh := Lib.hid (show lh < M256 by rw [← HP.out.mlh.1]; exact mulL_lt _ _)
  have Lhl := Lib.hid (show hl < M256 by rw [← HP.out.mhl.1]; exact mulL_lt _ _)
  have Lhh := Lib.hid (show hh < M256 by rw [← HP.out.mhh.1]; exact mulL_lt _ _)
  have Ls := Lib.hid (show s < M256 by rw [← HP.out.cs.1]; exact addN_lt _ _)
  have Lsl := Lib.hid (show sl < M256 by rw [← HP.out.su]; exact shiftN_lt Ls.out _)
  have Lsh := Lib.hid (show sh < M256 by rw [← HP.out.sd]; exact shiftN_lt Ls.out _)
  have Lh1 := Lib.hid (show h1 < M256 by rw [← HP.out.hi.1]; exact addN_lt _ _)
  have C5 := Lib.hid (show ∀ w, Calls Try.prog 12 #[.agg #[.int .u64 (dgt W64 a 0), .int .u64 (dgt W64 a 1), .int .u64 0, .int .u64 0], .agg #[.int .u64 (dgt W64 b 0), .int .u64 (dgt W64 b 1), .int .u64 0, .int .u64 0]] w fun e w' => e = .returned (.tuple #[.agg #[.int .u64 (dgt W64 ll 0), .int .u64 (dgt W64 ll 1), .int .u64 (dgt W64 ll 2), .int .u64 (dgt W64 ll 3)], .agg #[.int .u64 (dgt W64 0 0), .int .u64 (dgt W64 0 1), .int .u64 (dgt W64 0 2), .int .u64 (dgt W64 0 3)]]) ∧ Below w.heap.size w w' from fun w => by have h := mul_any (a := al) (b := bl) HP.out.al_lt HP.out.bl_lt w; unfold numV words at h; rw [HP.out.mll.1] at h; rw [HP.out.mll.2] at h; rw [(half_int HP.out.alw).1, (half_int HP.out.alw).2.1, (half_int HP.out.alw).2.2.1, (half_int HP.out.alw).2.2.2] at h; rw [(half_int HP.out.blw).1, (half_int HP.out.blw).2.1, (half_int HP.out.blw).2.2.1, (half_int HP.out.blw).2.2.2] at h; exact h)
  have C6 := Lib.hid (show ∀ w, Calls Try.prog 12 #[.agg #[.int .u64 (dgt W64 al 0), .int .u64 (dgt W64 al 1), .int .u64 (dgt W64 al 2), .int .u64 (dgt W64 al 3)], .agg #[.int .u64 (dgt W64 bh 0), .int .u64 (dgt W64 bh 1), .int .u64 (dgt W64 bh 2), .int .u64 (dgt W64 bh 3)]] w fun e w' => e = .returned (.tuple #[.agg #[.int .u64 (dgt W64 lh 0), .int .u64 (dgt W64 lh 1), .int .u64 (dgt W64 lh 2), .int .u64 (dgt W64 lh 3)], .agg #[.int .u64 (dgt W64 0 0), .int .u64 (dgt W64 0 1), .int .u64 (dgt W64 0 2), .int .u64 (dgt W64 0 3)]]) ∧ Below w.heap.size w w' from fun w => by have h := mul_any (a := al) (b := bh) HP.out.al_lt HP.out.bh_lt w; unfold numV words at h; rw [HP.out.mlh.1] at h; rw [HP.out.mlh.2] at h; exact h)
  have C7 := Lib.hid (show ∀ w, Calls Try.prog 12 #[.agg #[.int .u64 (dgt W64 ah 0), .int .u64 (dgt W64 ah 1), .int .u64 (dgt W64 ah 2), .int .u64 (dgt W64 ah 3)], .agg #[.int .u64 (dgt W64 bl 0), .int .u64 (dgt W64 bl 1), .int .u64 (dgt W64 bl 2), .int .u64 (dgt W64 bl 3)]] w fun e w' => e = .returned (.tuple #[.agg #[.int .u64 (dgt W64 hl 0), .int .u64 (dgt W64 hl 1), .int .u64 (dgt W64 hl 2), .int .u64 (dgt W64 hl 3)], .agg #[.int .u64 (dgt W64 0 0), .int .u64 (dgt W64 0 1), .int .u64 (dgt W64 0 2), .int .u64 (dgt W64 0 3)]]) ∧ Below w.heap.size w w' from fun w => by have h := mul_any (a := ah) (b := bl) HP.out.ah_lt HP.out.bl_lt w; unfold numV words at h; rw [HP.out.mhl.1] at h; rw [HP.out.mhl.2] at h; exact h)
  have C8 := Lib.hid (show ∀ w, Calls Try.prog 12 #[.agg #[.int .u64 (dgt W64 ah 0), .int .u64 (dgt W64 ah 1), .int .u64 (dgt W64 ah 2), .int .u64 (dgt W64 ah 3)], .agg #[.int .u64 (dgt W64 bh 0), .int .u64 (dgt W64 bh 1), .int .u64 (dgt W64 bh 2), .int .u64 (dgt W64 bh 3)]] w fun e w' => e = .returned (.tuple #[.agg #[.int .u64 (dgt W64 hh 0), .int .u64 (dgt W64 hh 1), .int .u64 (dgt W64 hh 2), .int .u64 (dgt W64 hh 3)], .agg #[.int .u64 (dgt W64 0 0), .int .u64 (dgt W64 0 1), .int .u64 (dgt W64 0 2), .int .u64 (dgt W64 0 3)]]) ∧ Below w.heap.size w w' from fun w => by have h := mul_any (a := ah) (b := bh) HP.out.ah_lt HP.out.bh_lt w; unfold numV words at h; rw [HP.out.mhh.1] at h; rw [HP.out.mhh.2] at h; exact h)
  have C9 := Lib.hid (show ∀ w, Calls Try.prog 16 #[.int .u64 0] w fun e w' => e = .returned (.agg #[.int .u64 (dgt W64 0 0), .int .u64 (dgt W64 0 1), .int .u64 (dgt W64 0 2), .int .u64 (dgt W64 0 3)]) ∧ Below w.heap.size w w' from fun w => by have h := of_lit 0 0 rfl W64_pos w; unfold numV words at h;  exact h)
  have C11 := Lib.hid (show ∀ w, Calls Try.prog 10 #[.agg #[.int .u64 (dgt W64 lh 0), .int .u64 (dgt W64 lh 1), .int .u64 (dgt W64 lh 2), .int .u64 (dgt W64 lh 3)], .agg #[.int .u64 (dgt W64 hl 0), .int .u64 (dgt W64 hl 1), .int .u64 (dgt W64 hl 2), .int .u64 (dgt W64 hl 3)]] w fun e w' => e = .returned (.tuple #[.agg #[.int .u64 (dgt W64 s 0), .int .u64 (dgt W64 s 1), .int .u64 (dgt W64 s 2), .int .u64 (dgt W64 s 3)], .int .u64 y]) ∧ Below w.heap.size w w' from fun w => by have h := add_any (a := lh) (b := hl) Llh.out Lhl.out w; unfold numV words at h; rw [HP.out.cs.1] at h; rw [HP.out.cs.2] at h; exact h)
  have C12 := Lib.hid (show ∀ w, Calls Try.prog 24 #[.agg #[.int .u64 (dgt W64 s 0), .int .u64 (dgt W64 s 1), .int .u64 (dgt W64 s 2), .int .u64 (dgt W64 s 3)], .int .i64 128] w fun e w' => e = .returned (.agg #[.int .u64 (dgt W64 sl 0), .int .u64 (dgt W64 sl 1), .int .u64 (dgt W64 sl 2), .int .u64 (dgt W64 sl 3)]) ∧ Below w.heap.size w w' from fun w => by have h := shift_any (a := s) Ls.out 128 (by omega) (by omega) w; unfold numV words at h; rw [HP.out.su] at h; exact h)
  have C12b := Lib.hid (show ∀ w, Calls Try.prog 10 #[.agg #[.int .u64 (dgt W64 ll 0), .int .u64 (dgt W64 ll 1), .int .u64 (dgt W64 ll 2), .int .u64 (dgt W64 ll 3)], .agg #[.int .u64 (dgt W64 sl 0), .int .u64 (dgt W64 sl 1), .int .u64 (dgt W64 sl 2), .int .u64 (dgt W64 sl 3)]] w fun e w' => e = .returned (.tuple #[.agg #[.int .u64 (dgt W64 low 0), .int .u64 (dgt W64 low 1), .int .u64 (dgt W64 low 2), .int .u64 (dgt W64 low 3)], .int .u64 more]) ∧ Below w.heap.size w w' from fun w => by have h := add_any (a := ll) (b := sl) Lll.out Lsl.out w; unfold numV words at h; rw [HP.out.lo.1] at h; rw [HP.out.lo.2] at h; exact h)
  have C13 := Lib.hid (show ∀ w, Calls Try.prog 24 #[.agg #[.int .u64 (dgt W64 s 0), .int .u64 (dgt W64 s 1), .int .u64 (dgt W64 s 2), .int .u64 (dgt W64 s 3)], .int .i64 (-128)] w fun e w' => e = .returned (.agg #[.int .u64 (dgt W64 sh 0), .int .u64 (dgt W64 sh 1), .int .u64 (dgt W64 sh 2), .int .u64 (dgt W64 sh 3)]) ∧ Below w.heap.size w w' from fun w => by have h := shift_any (a := s) Ls.out (-128) (by omega) (by omega) w; unfold numV words at h; rw [HP.out.sd] at h; exact h)
  have C13b := Lib.hid (show ∀ w, Calls Try.prog 10 #[.agg #[.int .u64 (dgt W64 hh 0), .int .u64 (dgt W64 hh 1), .int .u64 (dgt W64 hh 2), .int .u64 (dgt W64 hh 3)], .agg #[.int .u64 (dgt W64 sh 0), .int .u64 (dgt W64 sh 1), .int .u64 (dgt W64 sh 2), .int .u64 (dgt W64 sh 3)]] w fun e w' => e = .returned (.tuple #[.agg #[.int .u64 (dgt W64 h1 0), .int .u64 (dgt W64 h1 1), .int .u64 (dgt W64 h1 2), .int .u64 (dgt W64 h1 3)], .int .u64 0]) ∧ Below w.heap.size w w' from fun w => by have h := add_any (a := hh) (b := sh) Lhh.out Lsh.out w; unfold numV words at h; rw [HP.out.hi.1] at h; rw [HP.out.hi.2] at h; rw [zero_int] at h; exact h)
  have C14 := Lib.hid (show ∀ w, Calls Try.prog 10 #[.agg #[.int .u64 (dgt W64 h1 0), .int .u64 (dgt W64 h1 1), .int .u64 (dgt W64 h1 2), .int .u64 (dgt W64 h1 3)], .agg #[.int .u64 more, .int .u64 0, .int .u64 y, .int .u64 0]] w fun e w' => e = .returned (.tuple #[.agg #[.int .u64 (dgt W64 h2 0), .int .u64 (dgt W64 h2 1), .int .u64 (dgt W64 h2 2), .int .u64 (dgt W64 h2 3)], .int .u64 0]) ∧ Below w.heap.size w w' from fun w => by have h := add_any (a := h1) (b := md) Lh1.out HP.out.md_lt w; unfold numV words at h; rw [HP.out.fin.1] at h; rw [HP.out.fin.2] at h; rw [zero_int] at h; rw [(mid_int HP.out.mdw).1, (mid_int HP.out.mdw).2.1, (mid_int HP.out.mdw).2.2.1, (mid_int HP.out.mdw).2.2.2] at h; exact h)
  have C15 := Lib.hid (show ∀ w, Calls Try.prog 12 #[.agg #[.int .u64 (dgt W64 a 0), .int .u64 (dgt W64 a 1), .int .u64 (dgt W64 a 2), .int .u64 (dgt W64 a 3)], .agg #[.int .u64 (dgt W64 b 0), .int .u64 (dgt W64 b 1), .int .u64 (dgt W64 b 2), .int .u64 (dgt W64 b 3)]] w fun e w' => e = .returned (.tuple #[.agg #[.int .u64 (dgt W64 low 0), .int .u64 (dgt W64 low 1), .int .u64 (dgt W64 low 2), .int .u64 (dgt W64 low 3)], .agg #[.int .u64 (dgt W64 h2 0), .int .u64 (dgt W64 h2 1), .int .u64 (dgt W64 h2 2), .int .u64 (dgt W64 h2 3)]]) ∧ Below w.heap.size w w' from fun w => by have h := mul_any (a := a) (b := b) Ha.out Hb.out w; unfold numV words at h; rw [HP.out.all.1] at h; rw [HP.out.all.2] at h; exact h)
  go_enter Try.func9, Try.ntmps9
  go_wp2_with fail
  refine (C5.out _).mono ?_
  rintro _ w1 ⟨rfl, hb1⟩
  have Ua := Lib.hid (NumAt.later hb1 ((((((NumAt.new _ a (w.heap.size) _ (by simp)).alloc _).alloc _).alloc _).alloc _).alloc _))
  have Ub := Lib.hid (NumAt.later hb1 (((((NumAt.new _ b (w.heap.size + 1) _ (by simp)).alloc _).alloc _).alloc _).alloc _))
  have Ual := Lib.hid (NumAt.later hb1 ((((lowhalf HP.out.alw (b := w.heap.size + 2) (by simp)).alloc _).alloc _).alloc _))
  have Uah := Lib.hid (NumAt.later hb1 (((lowhalf HP.out.ahw (b := w.heap.size + 3) (by simp)).alloc _).alloc _))
  have Ubl := Lib.hid (NumAt.later hb1 ((lowhalf HP.out.blw (b := w.heap.size + 4) (by simp)).alloc _))
  have Ubh := Lib.hid (NumAt.later hb1 (lowhalf HP.out.bhw (b := w.heap.size + 5) (by simp)))
  have BC := Lib.hid (below_later (below_new (below_new (below_new (below_new (below_new (below_new (Below.refl _ _) _) _) _) _) _) _) hb1)
  have Va := Ua
  clear Ua
  have Vb := Ub
  clear Ub
  have Val := Ual
  clear Ual
  have Vah := Uah
  clear Uah
  have Vbl := Ubl
  clear Ubl
  have Vbh := Ubh
  clear Ubh
  have BB := BC
  clear BC
  clear hb1
  have l_al_0 := Val.out 0 (by omega)
  have l_al_1 := Val.out 1 (by omega)
  have l_al_2 := Val.out 2 (by omega)
  have l_al_3 := Val.out 3 (by omega)
  have t_al := Val.out.lt
  have u_al : w.heap.size + 1 < w1.heap.size := by omega
  have l_bh_0 := Vbh.out 0 (by omega)
  have l_bh_1 := Vbh.out 1 (by omega)
  have l_bh_2 := Vbh.out 2 (by omega)
  have l_bh_3 := Vbh.out 3 (by omega)
  have t_bh := Vbh.out.lt
  have u_bh : w.heap.size + 4 < w1.heap.size := by omega
  go_wp2_with fail
  refine (C6.out _).mono ?_
  rintro _ w2 ⟨rfl, hb2⟩
  clear l_al_0 l_al_1 l_al_2 l_al_3 t_al u_al l_bh_0 l_bh_1 l_bh_2 l_bh_3 t_bh u_bh
  have Ua := Lib.hid (NumAt.later hb2 (((Va.out).alloc _).alloc _))
  have Ub := Lib.hid (NumAt.later hb2 (((Vb.out).alloc _).alloc _))
  have Ual := Lib.hid (NumAt.later hb2 (((Val.out).alloc _).alloc _))
  have Uah := Lib.hid (NumAt.later hb2 (((Vah.out).alloc _).alloc _))
  have Ubl := Lib.hid (NumAt.later hb2 (((Vbl.out).alloc _).alloc _))
  have Ubh := Lib.hid (NumAt.later hb2 (((Vbh.out).alloc _).alloc _))
  have Ull := Lib.hid (NumAt.later hb2 ((NumAt.new _ ll (w1.heap.size) _ (by simp)).alloc _))
  have Um0 := Lib.hid (NumAt.later hb2 (NumAt.new _ 0 (w1.heap.size + 1) _ (by simp)))
  have BC := Lib.hid (below_later (below_new (below_new (BB.out) _) _) hb2)
  clear Va
  clear Vb
  clear Val
  clear Vah
  clear Vbl
  clear Vbh
  clear BB
  have Va := Ua
  clear Ua
  have Vb := Ub
  clear Ub
  have Val := Ual
  clear Ual
  have Vah := Uah
  clear Uah
  have Vbl := Ubl
  clear Ubl
  have Vbh := Ubh
  clear Ubh
  have Vll := Ull
  clear Ull
  have Vm0 := Um0
  clear Um0
  have BB := BC
  clear BC
  clear hb2
  have l_ah_0 := Vah.out 0 (by omega)
  have l_ah_1 := Vah.out 1 (by omega)
  have l_ah_2 := Vah.out 2 (by omega)
  have l_ah_3 := Vah.out 3 (by omega)
  have t_ah := Vah.out.lt
  have u_ah : w.heap.size + 2 < w2.heap.size := by omega
  have l_bl_0 := Vbl.out 0 (by omega)
  have l_bl_1 := Vbl.out 1 (by omega)
  have l_bl_2 := Vbl.out 2 (by omega)
  have l_bl_3 := Vbl.out 3 (by omega)
  have t_bl := Vbl.out.lt
  have u_bl : w.heap.size + 3 < w2.heap.size := by omega
  go_wp2_with fail
  refine (C7.out _).mono ?_
  rintro _ w3 ⟨rfl, hb3⟩
  clear l_ah_0 l_ah_1 l_ah_2 l_ah_3 t_ah u_ah l_bl_0 l_bl_1 l_bl_2 l_bl_3 t_bl u_bl
  have Ua := Lib.hid (NumAt.later hb3 (((Va.out).alloc _).alloc _))
  have Ub := Lib.hid (NumAt.later hb3 (((Vb.out).alloc _).alloc _))
  have Ual := Lib.hid (NumAt.later hb3 (((Val.out).alloc _).alloc _))
  have Uah := Lib.hid (NumAt.later hb3 (((Vah.out).alloc _).alloc _))
  have Ubl := Lib.hid (NumAt.later hb3 (((Vbl.out).alloc _).alloc _))
  have Ubh := Lib.hid (NumAt.later hb3 (((Vbh.out).alloc _).alloc _))
  have Ull := Lib.hid (NumAt.later hb3 (((Vll.out).alloc _).alloc _))
  have Um0 := Lib.hid (NumAt.later hb3 (((Vm0.out).alloc _).alloc _))
  have Ulh := Lib.hid (NumAt.later hb3 ((NumAt.new _ lh (w2.heap.size) _ (by simp)).alloc _))
  have Un0 := Lib.hid (NumAt.later hb3 (NumAt.new _ 0 (w2.heap.size + 1) _ (by simp)))
  have BC := Lib.hid (below_later (below_new (below_new (BB.out) _) _) hb3)
  clear Va
  clear Vb
  clear Val
  clear Vah
  clear Vbl
  clear Vbh
  clear Vll
  clear Vm0
  clear BB
  have Va := Ua
  clear Ua
  have Vb := Ub
  clear Ub
  have Val := Ual
  clear Ual
  have Vah := Uah
  clear Uah
  have Vbl := Ubl
  clear Ubl
  have Vbh := Ubh
  clear Ubh
  have Vll := Ull
  clear Ull
  have Vm0 := Um0
  clear Um0
  have Vlh := Ulh
  clear Ulh
  have Vn0 := Un0
  clear Un0
  have BB := BC
  clear BC
  clear hb3
  have l_ah_0 := Vah.out 0 (by omega)
  have l_ah_1 := Vah.out 1 (by omega)
  have l_ah_2 := Vah.out 2 (by omega)
  have l_ah_3 := Vah.out 3 (by omega)
  have t_ah := Vah.out.lt
  have u_ah : w.heap.size + 2 < w3.heap.size := by omega
  have l_bh_0 := Vbh.out 0 (by omega)
  have l_bh_1 := Vbh.out 1 (by omega)
  have l_bh_2 := Vbh.out 2 (by omega)
  have l_bh_3 := Vbh.out 3 (by omega)
  have t_bh := Vbh.out.lt
  have u_bh : w.heap.size + 4 < w3.heap.size := by omega
  go_wp2_with fail
  refine (C8.out _).mono ?_
  rintro _ w4 ⟨rfl, hb4⟩
  clear l_ah_0 l_ah_1 l_ah_2 l_ah_3 t_ah u_ah l_bh_0 l_bh_1 l_bh_2 l_bh_3 t_bh u_bh
  have Ua := Lib.hid (NumAt.later hb4 (((Va.out).alloc _).alloc _))
  have Ub := Lib.hid (NumAt.later hb4 (((Vb.out).alloc _).alloc _))
  have Ual := Lib.hid (NumAt.later hb4 (((Val.out).alloc _).alloc _))
  have Uah := Lib.hid (NumAt.later hb4 (((Vah.out).alloc _).alloc _))
  have Ubl := Lib.hid (NumAt.later hb4 (((Vbl.out).alloc _).alloc _))
  have Ubh := Lib.hid (NumAt.later hb4 (((Vbh.out).alloc _).alloc _))
  have Ull := Lib.hid (NumAt.later hb4 (((Vll.out).alloc _).alloc _))
  have Um0 := Lib.hid (NumAt.later hb4 (((Vm0.out).alloc _).alloc _))
  have Ulh := Lib.hid (NumAt.later hb4 (((Vlh.out).alloc _).alloc _))
  have Un0 := Lib.hid (NumAt.later hb4 (((Vn0.out).alloc _).alloc _))
  have Uhl := Lib.hid (NumAt.later hb4 ((NumAt.new _ hl (w3.heap.size) _ (by simp)).alloc _))
  have Uo0 := Lib.hid (NumAt.later hb4 (NumAt.new _ 0 (w3.heap.size + 1) _ (by simp)))
  have BC := Lib.hid (below_later (below_new (below_new (BB.out) _) _) hb4)
  clear Va
  clear Vb
  clear Val
  clear Vah
  clear Vbl
  clear Vbh
  clear Vll
  clear Vm0
  clear Vlh
  clear Vn0
  clear BB
  have Va := Ua
  clear Ua
  have Vb := Ub
  clear Ub
  have Val := Ual
  clear Ual
  have Vah := Uah
  clear Uah
  have Vbl := Ubl
  clear Ubl
  have Vbh := Ubh
  clear Ubh
  have Vll := Ull
  clear Ull
  have Vm0 := Um0
  clear Um0
  have Vlh := Ulh
  clear Ulh
  have Vn0 := Un0
  clear Un0
  have Vhl := Uhl
  clear Uhl
  have Vo0 := Uo0
  clear Uo0
  have BB := BC
  clear BC
  clear hb4
  clear Val
  clear Vah
  clear Vbl
  clear Vbh
  go_wp2_with fail
  refine region_in (fun W9 => NumAt W9 (w.heap.size) a ∧ NumAt W9 (w.heap.size + 1) b ∧ NumAt W9 (w1.heap.size) ll ∧ NumAt W9 (w1.heap.size + 1) 0 ∧ NumAt W9 (w2.heap.size) lh ∧ NumAt W9 (w2.heap.size + 1) 0 ∧ NumAt W9 (w3.heap.size) hl ∧ NumAt W9 (w3.heap.size + 1) 0 ∧ NumAt W9 (w4.heap.size) hh ∧ NumAt W9 (w4.heap.size + 1) 0 ∧ Below w.heap.size w W9) ⟨((Va.out).alloc _).alloc _, ((Vb.out).alloc _).alloc _, ((Vll.out).alloc _).alloc _, ((Vm0.out).alloc _).alloc _, ((Vlh.out).alloc _).alloc _, ((Vn0.out).alloc _).alloc _, ((Vhl.out).alloc _).alloc _, ((Vo0.out).alloc _).alloc _, (NumAt.new _ hh (w4.heap.size) _ (by simp)).alloc _, NumAt.new _ 0 (w4.heap.size + 1) _ (by simp), below_new (below_new (BB.out) _) _⟩ ?_
  intro v5 hv5
  clear Va
  clear Vb
  clear Vll
  clear Vm0
  clear Vlh
  clear Vn0
  clear Vhl
  clear Vo0
  clear BB
  obtain ⟨Va, Vb, Vll, Vm0, Vlh, Vn0, Vhl, Vo0, Vhh, Vp0, BB⟩ := hv5
  have H9 := Lib.hid Va; clear Va; have Va := H9; clear H9
  have H9 := Lib.hid Vb; clear Vb; have Vb := H9; clear H9
  have H9 := Lib.hid Vll; clear Vll; have Vll := H9; clear H9
  have H9 := Lib.hid Vm0; clear Vm0; have Vm0 := H9; clear H9
  have H9 := Lib.hid Vlh; clear Vlh; have Vlh := H9; clear H9
  have H9 := Lib.hid Vn0; clear Vn0; have Vn0 := H9; clear H9
  have H9 := Lib.hid Vhl; clear Vhl; have Vhl := H9; clear H9
  have H9 := Lib.hid Vo0; clear Vo0; have Vo0 := H9; clear H9
  have H9 := Lib.hid Vhh; clear Vhh; have Vhh := H9; clear H9
  have H9 := Lib.hid Vp0; clear Vp0; have Vp0 := H9; clear H9
  have H9 := Lib.hid BB; clear BB; have BB := H9; clear H9
  refine wp_region_fresh 18 (fun _ => none) (by kernel_rfl) (by kernel_rfl) (fun _ _ _ _ _ h => h) (fun F hn9 hcl hbl => ?_)
  have r_m0_0 := fun X9 : Wd F => (NumAt.later (hbl X9.world X9.fact) Vm0.out) 0 (by omega)
  have r_m0_1 := fun X9 : Wd F => (NumAt.later (hbl X9.world X9.fact) Vm0.out) 1 (by omega)
  have r_m0_2 := fun X9 : Wd F => (NumAt.later (hbl X9.world X9.fact) Vm0.out) 2 (by omega)
  have r_m0_3 := fun X9 : Wd F => (NumAt.later (hbl X9.world X9.fact) Vm0.out) 3 (by omega)
  have r_n0_0 := fun X9 : Wd F => (NumAt.later (hbl X9.world X9.fact) Vn0.out) 0 (by omega)
  have r_n0_1 := fun X9 : Wd F => (NumAt.later (hbl X9.world X9.fact) Vn0.out) 1 (by omega)
  have r_n0_2 := fun X9 : Wd F => (NumAt.later (hbl X9.world X9.fact) Vn0.out) 2 (by omega)
  have r_n0_3 := fun X9 : Wd F => (NumAt.later (hbl X9.world X9.fact) Vn0.out) 3 (by omega)
  have r_o0_0 := fun X9 : Wd F => (NumAt.later (hbl X9.world X9.fact) Vo0.out) 0 (by omega)
  have r_o0_1 := fun X9 : Wd F => (NumAt.later (hbl X9.world X9.fact) Vo0.out) 1 (by omega)
  have r_o0_2 := fun X9 : Wd F => (NumAt.later (hbl X9.world X9.fact) Vo0.out) 2 (by omega)
  have r_o0_3 := fun X9 : Wd F => (NumAt.later (hbl X9.world X9.fact) Vo0.out) 3 (by omega)
  have r_p0_0 := fun X9 : Wd F => (NumAt.later (hbl X9.world X9.fact) Vp0.out) 0 (by omega)
  have r_p0_1 := fun X9 : Wd F => (NumAt.later (hbl X9.world X9.fact) Vp0.out) 1 (by omega)
  have r_p0_2 := fun X9 : Wd F => (NumAt.later (hbl X9.world X9.fact) Vp0.out) 2 (by omega)
  have r_p0_3 := fun X9 : Wd F => (NumAt.later (hbl X9.world X9.fact) Vp0.out) 3 (by omega)
  have HCL := Lib.hid hcl
  clear hcl hbl
  refine wpF_seg 18 0 _ _ (fun _ _ _ => rfl) (by decide) ?_
  simp only [List.take_succ_cons, List.take_zero, List.drop_succ_cons, List.drop_zero, Nat.reduceAdd]
  repeat (go_big_quiet_step ((first
    | (go_at_call 16; exact to_class HCL.out (C9.out _)))))
  refine wpQuiet_nil ?_
  refine wpF_nil ?_
  clear HCL hn9 r_m0_0 r_m0_1 r_m0_2 r_m0_3 r_n0_0 r_n0_1 r_n0_2 r_n0_3 r_o0_0 r_o0_1 r_o0_2 r_o0_3 r_p0_0 r_p0_1 r_p0_2 r_p0_3
  intro bs w5 hb5 hob hap
  clear hob hap
  simp only [over]
  have Ua := Lib.hid (NumAt.later hb5 Va.out)
  have Ub := Lib.hid (NumAt.later hb5 Vb.out)
  have Ull := Lib.hid (NumAt.later hb5 Vll.out)
  have Um0 := Lib.hid (NumAt.later hb5 Vm0.out)
  have Ulh := Lib.hid (NumAt.later hb5 Vlh.out)
  have Un0 := Lib.hid (NumAt.later hb5 Vn0.out)
  have Uhl := Lib.hid (NumAt.later hb5 Vhl.out)
  have Uo0 := Lib.hid (NumAt.later hb5 Vo0.out)
  have Uhh := Lib.hid (NumAt.later hb5 Vhh.out)
  have Up0 := Lib.hid (NumAt.later hb5 Vp0.out)
  have BC := Lib.hid (below_later BB.out hb5)
  clear BB Va Vb Vll Vm0 Vlh Vn0 Vhl Vo0 Vhh Vp0
  have BB := BC; clear BC
  have Va := Ua; clear Ua
  have Vb := Ub; clear Ub
  have Vll := Ull; clear Ull
  have Vm0 := Um0; clear Um0
  have Vlh := Ulh; clear Ulh
  have Vn0 := Un0; clear Un0
  have Vhl := Uhl; clear Uhl
  have Vo0 := Uo0; clear Uo0
  have Vhh := Uhh; clear Uhh
  have Vp0 := Up0; clear Up0
  clear hb5
  clear Vm0
  clear Vn0
  clear Vo0
  clear Vp0
  have l_lh_0 := Vlh.out 0 (by omega)
  have l_lh_1 := Vlh.out 1 (by omega)
  have l_lh_2 := Vlh.out 2 (by omega)
  have l_lh_3 := Vlh.out 3 (by omega)
  have t_lh := Vlh.out.lt
  have l_hl_0 := Vhl.out 0 (by omega)
  have l_hl_1 := Vhl.out 1 (by omega)
  have l_hl_2 := Vhl.out 2 (by omega)
  have l_hl_3 := Vhl.out 3 (by omega)
  have t_hl := Vhl.out.lt
  go_wp2_with fail
  refine (C11.out _).mono ?_
  rintro _ w6 ⟨rfl, hb6⟩
  clear l_lh_0 l_lh_1 l_lh_2 l_lh_3 t_lh l_hl_0 l_hl_1 l_hl_2 l_hl_3 t_hl
  have Ua := Lib.hid (NumAt.later hb6 (Va.out))
  have Ub := Lib.hid (NumAt.later hb6 (Vb.out))
  have Ull := Lib.hid (NumAt.later hb6 (Vll.out))
  have Ulh := Lib.hid (NumAt.later hb6 (Vlh.out))
  have Uhl := Lib.hid (NumAt.later hb6 (Vhl.out))
  have Uhh := Lib.hid (NumAt.later hb6 (Vhh.out))
  have BC := Lib.hid (below_later (BB.out) hb6)
  clear Va
  clear Vb
  clear Vll
  clear Vlh
  clear Vhl
  clear Vhh
  clear BB
  have Va := Ua
  clear Ua
  have Vb := Ub
  clear Ub
  have Vll := Ull
  clear Ull
  have Vlh := Ulh
  clear Ulh
  have Vhl := Uhl
  clear Uhl
  have Vhh := Uhh
  clear Uhh
  have BB := BC
  clear BC
  clear hb6
  clear Vlh
  clear Vhl
  go_wp2_with fail
  refine region_in (fun W9 => NumAt W9 (w.heap.size) a ∧ NumAt W9 (w.heap.size + 1) b ∧ NumAt W9 (w1.heap.size) ll ∧ NumAt W9 (w4.heap.size) hh ∧ NumAt W9 (w6.heap.size) s ∧ Below w.heap.size w W9) ⟨(Va.out).alloc _, (Vb.out).alloc _, (Vll.out).alloc _, (Vhh.out).alloc _, NumAt.new _ s (w6.heap.size) _ (by simp), below_new (BB.out) _⟩ ?_
  intro v7 hv7
  clear Va
  clear Vb
  clear Vll
  clear Vhh
  clear BB
  obtain ⟨Va, Vb, Vll, Vhh, Vs, BB⟩ := hv7
  have H9 := Lib.hid Va; clear Va; have Va := H9; clear H9
  have H9 := Lib.hid Vb; clear Vb; have Vb := H9; clear H9
  have H9 := Lib.hid Vll; clear Vll; have Vll := H9; clear H9
  have H9 := Lib.hid Vhh; clear Vhh; have Vhh := H9; clear H9
  have H9 := Lib.hid Vs; clear Vs; have Vs := H9; clear H9
  have H9 := Lib.hid BB; clear BB; have BB := H9; clear H9
  refine wp_region_fresh 8 (fun j => if j = 7 then some (.cells #[.int .u64 0, .int .u64 0, .int .u64 0, .int .u64 0] 24) else none) (by kernel_rfl) (by kernel_rfl) (fun _ _ _ _ _ h => h) (fun F hn9 hcl hbl => ?_)
  have r_ll_0 := fun X9 : Wd F => (NumAt.later (hbl X9.world X9.fact) Vll.out) 0 (by omega)
  have r_ll_1 := fun X9 : Wd F => (NumAt.later (hbl X9.world X9.fact) Vll.out) 1 (by omega)
  have r_ll_2 := fun X9 : Wd F => (NumAt.later (hbl X9.world X9.fact) Vll.out) 2 (by omega)
  have r_ll_3 := fun X9 : Wd F => (NumAt.later (hbl X9.world X9.fact) Vll.out) 3 (by omega)
  have r_s_0 := fun X9 : Wd F => (NumAt.later (hbl X9.world X9.fact) Vs.out) 0 (by omega)
  have r_s_1 := fun X9 : Wd F => (NumAt.later (hbl X9.world X9.fact) Vs.out) 1 (by omega)
  have r_s_2 := fun X9 : Wd F => (NumAt.later (hbl X9.world X9.fact) Vs.out) 2 (by omega)
  have r_s_3 := fun X9 : Wd F => (NumAt.later (hbl X9.world X9.fact) Vs.out) 3 (by omega)
  have HCL := Lib.hid hcl
  clear hcl hbl
  refine wpF_seg 7 0 _ _ (fun j h1 h2 => by have h6 : j ≠ 7 := (by omega); simp [h6]) (by decide) ?_
  simp only [List.take_succ_cons, List.take_zero, List.drop_succ_cons, List.drop_zero, Nat.reduceAdd]
  repeat (go_big_quiet_step ((first
    | (go_at_call 24; exact to_class HCL.out (C12.out _))
    | (go_at_call 10; exact to_class HCL.out (C12b.out _)))))
  refine wpQuiet_nil ?_
  refine wpF_alloc rfl (fun _ => by go_simp) ?_
  refine wpF_nil ?_
  clear HCL hn9 r_ll_0 r_ll_1 r_ll_2 r_ll_3 r_s_0 r_s_1 r_s_2 r_s_3
  intro bs w7 hb7 hob hap
  have ho_low := hob 7 _ (by omega) rfl
  clear hob hap
  simp [over, dstOf, Act.put]
  generalize bs 7 = b_low at ho_low ⊢
  clear bs
  have N_low_a := Lib.hid (show w.heap.size ≠ b_low by have := NumAt.lt Va.out; have := ho_low.1; omega)
  have N_low_b := Lib.hid (show w.heap.size + 1 ≠ b_low by have := NumAt.lt Vb.out; have := ho_low.1; omega)
  have N_low_ll := Lib.hid (show w1.heap.size ≠ b_low by have := NumAt.lt Vll.out; have := ho_low.1; omega)
  have N_low_hh := Lib.hid (show w4.heap.size ≠ b_low by have := NumAt.lt Vhh.out; have := ho_low.1; omega)
  have N_low_s := Lib.hid (show w6.heap.size ≠ b_low by have := NumAt.lt Vs.out; have := ho_low.1; omega)
  have Ua := Lib.hid (NumAt.later hb7 Va.out)
  have Ub := Lib.hid (NumAt.later hb7 Vb.out)
  have Ull := Lib.hid (NumAt.later hb7 Vll.out)
  have Uhh := Lib.hid (NumAt.later hb7 Vhh.out)
  have Us := Lib.hid (NumAt.later hb7 Vs.out)
  have BC := Lib.hid (below_later BB.out hb7)
  have G_low := Lib.hid (show w.heap.size ≤ b_low by have := BB.out.size; have := ho_low.1; omega)
  have Vlow := Lib.hid (NumAt.born ho_low.2); have Flow := Lib.hid (FreeN.born (n := 4) ho_low.2)
  clear BB Va Vb Vll Vhh Vs
  have BB := BC; clear BC
  have Va := Ua; clear Ua
  have Vb := Ub; clear Ub
  have Vll := Ull; clear Ull
  have Vhh := Uhh; clear Uhh
  have Vs := Us; clear Us
  clear ho_low
  clear hb7
  have s_low_0 := Vlow.out 0 (by omega); have f_low_0 := Flow.out 0 (by omega)
  have s_low_1 := Vlow.out 1 (by omega); have f_low_1 := Flow.out 1 (by omega)
  have s_low_2 := Vlow.out 2 (by omega); have f_low_2 := Flow.out 2 (by omega)
  have s_low_3 := Vlow.out 3 (by omega); have f_low_3 := Flow.out 3 (by omega)
  go_wp2_with fail
  refine region_in (fun W9 => NumAt W9 (w.heap.size) a ∧ NumAt W9 (w.heap.size + 1) b ∧ NumAt W9 (w1.heap.size) ll ∧ NumAt W9 (w4.heap.size) hh ∧ NumAt W9 (w6.heap.size) s ∧ NumAt W9 (b_low) low ∧ FreeN W9 (b_low) 4 ∧ Below w.heap.size w W9) ⟨NumAt.other4 (Va.out) N_low_a.out _ _ _ _, NumAt.other4 (Vb.out) N_low_b.out _ _ _ _, NumAt.other4 (Vll.out) N_low_ll.out _ _ _ _, NumAt.other4 (Vhh.out) N_low_hh.out _ _ _ _, NumAt.other4 (Vs.out) N_low_s.out _ _ _ _, NumAt.set4 (Vlow.out) low, FreeN.set4 (Flow.out) _ _ _ _ _ _ _ _, below_set4 (BB.out) G_low.out _ _ _ _⟩ ?_
  intro v8 hv8
  clear Va
  clear Vb
  clear Vll
  clear Vhh
  clear Vs
  clear Vlow
  clear Flow
  clear BB
  clear s_low_0 f_low_0 s_low_1 f_low_1 s_low_2 f_low_2 s_low_3 f_low_3
  obtain ⟨Va, Vb, Vll, Vhh, Vs, Vlow, Flow, BB⟩ := hv8
  have H9 := Lib.hid Va; clear Va; have Va := H9; clear H9
  have H9 := Lib.hid Vb; clear Vb; have Vb := H9; clear H9
  have H9 := Lib.hid Vll; clear Vll; have Vll := H9; clear H9
  have H9 := Lib.hid Vhh; clear Vhh; have Vhh := H9; clear H9
  have H9 := Lib.hid Vs; clear Vs; have Vs := H9; clear H9
  have H9 := Lib.hid Vlow; clear Vlow; have Vlow := H9; clear H9
  have H9 := Lib.hid Flow; clear Flow; have Flow := H9; clear H9
  have H9 := Lib.hid BB; clear BB; have BB := H9; clear H9
  refine wp_region_fresh 8 (fun j => if j = 7 then some (.cells #[.int .u64 0, .int .u64 0, .int .u64 0, .int .u64 0] 24) else none) (by kernel_rfl) (by kernel_rfl) (fun _ _ _ _ _ h => h) (fun F hn9 hcl hbl => ?_)
  have r_hh_0 := fun X9 : Wd F => (NumAt.later (hbl X9.world X9.fact) Vhh.out) 0 (by omega)
  have r_hh_1 := fun X9 : Wd F => (NumAt.later (hbl X9.world X9.fact) Vhh.out) 1 (by omega)
  have r_hh_2 := fun X9 : Wd F => (NumAt.later (hbl X9.world X9.fact) Vhh.out) 2 (by omega)
  have r_hh_3 := fun X9 : Wd F => (NumAt.later (hbl X9.world X9.fact) Vhh.out) 3 (by omega)
  have r_s_0 := fun X9 : Wd F => (NumAt.later (hbl X9.world X9.fact) Vs.out) 0 (by omega)
  have r_s_1 := fun X9 : Wd F => (NumAt.later (hbl X9.world X9.fact) Vs.out) 1 (by omega)
  have r_s_2 := fun X9 : Wd F => (NumAt.later (hbl X9.world X9.fact) Vs.out) 2 (by omega)
  have r_s_3 := fun X9 : Wd F => (NumAt.later (hbl X9.world X9.fact) Vs.out) 3 (by omega)
  have HCL := Lib.hid hcl
  clear hcl hbl
  refine wpF_seg 7 0 _ _ (fun j h1 h2 => by have h6 : j ≠ 7 := (by omega); simp [h6]) (by decide) ?_
  simp only [List.take_succ_cons, List.take_zero, List.drop_succ_cons, List.drop_zero, Nat.reduceAdd]
  repeat (go_big_quiet_step ((first
    | (go_at_call 24; exact to_class HCL.out (C13.out _))
    | (go_at_call 10; exact to_class HCL.out (C13b.out _)))))
  refine wpQuiet_nil ?_
  refine wpF_alloc rfl (fun _ => by go_simp) ?_
  refine wpF_nil ?_
  clear HCL hn9 r_hh_0 r_hh_1 r_hh_2 r_hh_3 r_s_0 r_s_1 r_s_2 r_s_3
  intro bs w8 hb8 hob hap
  have ho_high := hob 7 _ (by omega) rfl
  clear hob hap
  simp [over, dstOf, Act.put]
  generalize bs 7 = b_high at ho_high ⊢
  clear bs
  have N_high_a := Lib.hid (show w.heap.size ≠ b_high by have := NumAt.lt Va.out; have := ho_high.1; omega)
  have N_high_b := Lib.hid (show w.heap.size + 1 ≠ b_high by have := NumAt.lt Vb.out; have := ho_high.1; omega)
  have N_high_ll := Lib.hid (show w1.heap.size ≠ b_high by have := NumAt.lt Vll.out; have := ho_high.1; omega)
  have N_high_hh := Lib.hid (show w4.heap.size ≠ b_high by have := NumAt.lt Vhh.out; have := ho_high.1; omega)
  have N_high_s := Lib.hid (show w6.heap.size ≠ b_high by have := NumAt.lt Vs.out; have := ho_high.1; omega)
  have N_high_low := Lib.hid (show b_low ≠ b_high by have := NumAt.lt Vlow.out; have := ho_high.1; omega)
  have N_low_high := Lib.hid (show b_high ≠ b_low by have := NumAt.lt Vlow.out; have := ho_high.1; omega)
  have Ua := Lib.hid (NumAt.later hb8 Va.out)
  have Ub := Lib.hid (NumAt.later hb8 Vb.out)
  have Ull := Lib.hid (NumAt.later hb8 Vll.out)
  have Uhh := Lib.hid (NumAt.later hb8 Vhh.out)
  have Us := Lib.hid (NumAt.later hb8 Vs.out)
  have Ulow := Lib.hid (NumAt.later hb8 Vlow.out)
  have Wlow := Lib.hid (FreeN.later Flow.out hb8 (NumAt.lt Vlow.out))
  have BC := Lib.hid (below_later BB.out hb8)
  have G_high := Lib.hid (show w.heap.size ≤ b_high by have := BB.out.size; have := ho_high.1; omega)
  have Vhigh := Lib.hid (NumAt.born ho_high.2); have Fhigh := Lib.hid (FreeN.born (n := 4) ho_high.2)
  clear BB Va Vb Vll Vhh Vs Vlow Flow
  have BB := BC; clear BC
  have Va := Ua; clear Ua
  have Vb := Ub; clear Ub
  have Vll := Ull; clear Ull
  have Vhh := Uhh; clear Uhh
  have Vs := Us; clear Us
  have Vlow := Ulow; clear Ulow
  have Flow := Wlow; clear Wlow
  clear ho_high
  clear hb8
  have s_high_0 := Vhigh.out 0 (by omega); have f_high_0 := Fhigh.out 0 (by omega)
  have s_high_1 := Vhigh.out 1 (by omega); have f_high_1 := Fhigh.out 1 (by omega)
  have s_high_2 := Vhigh.out 2 (by omega); have f_high_2 := Fhigh.out 2 (by omega)
  have s_high_3 := Vhigh.out 3 (by omega); have f_high_3 := Fhigh.out 3 (by omega)
  clear Vll
  clear N_low_ll
  clear N_high_ll
  clear Vs
  clear N_low_s
  clear N_high_s
  clear Vhh
  clear N_low_hh
  clear N_high_hh
  have l_high_0 := Vhigh.out 0 (by omega)
  have l_high_1 := Vhigh.out 1 (by omega)
  have l_high_2 := Vhigh.out 2 (by omega)
  have l_high_3 := Vhigh.out 3 (by omega)
  have t_high := Vhigh.out.lt
  go_wp2_with fail
  refine (C14.out _).mono ?_
  rintro _ w9 ⟨rfl, hb9⟩
  clear l_high_0 l_high_1 l_high_2 l_high_3 t_high
  have Wlow := Lib.hid (FreeN.later (FreeN.set4 (Flow.out) _ _ _ _ _ _ _ _) hb9 (NumAt.lt (NumAt.other4 (Vlow.out) N_high_low.out _ _ _ _)))
  have Whigh := Lib.hid (FreeN.later (FreeN.set4 (Fhigh.out) _ _ _ _ _ _ _ _) hb9 (NumAt.lt (NumAt.set4 (Vhigh.out) h1)))
  have Ua := Lib.hid (NumAt.later hb9 (NumAt.other4 (Va.out) N_high_a.out _ _ _ _))
  have Ub := Lib.hid (NumAt.later hb9 (NumAt.other4 (Vb.out) N_high_b.out _ _ _ _))
  have Ulow := Lib.hid (NumAt.later hb9 (NumAt.other4 (Vlow.out) N_high_low.out _ _ _ _))
  have Uhigh := Lib.hid (NumAt.later hb9 (NumAt.set4 (Vhigh.out) h1))
  have BC := Lib.hid (below_later (below_set4 (BB.out) G_high.out _ _ _ _) hb9)
  clear Va
  clear Vb
  clear Vlow
  clear Vhigh
  clear Flow
  clear Fhigh
  clear BB
  have Va := Ua
  clear Ua
  have Vb := Ub
  clear Ub
  have Vlow := Ulow
  clear Ulow
  have Vhigh := Uhigh
  clear Uhigh
  have Flow := Wlow
  clear Wlow
  have Fhigh := Whigh
  clear Whigh
  have BB := BC
  clear BC
  clear s_high_0 f_high_0 s_high_1 f_high_1 s_high_2 f_high_2 s_high_3 f_high_3
  clear hb9
  have s_0 := Vhigh.out 0 (by omega)
  have f_0 := Fhigh.out 0 (by omega)
  have s_1 := Vhigh.out 1 (by omega)
  have f_1 := Fhigh.out 1 (by omega)
  have s_2 := Vhigh.out 2 (by omega)
  have f_2 := Fhigh.out 2 (by omega)
  have s_3 := Vhigh.out 3 (by omega)
  have f_3 := Fhigh.out 3 (by omega)
  have l_a_0 := Va.out 0 (by omega)
  have l_a_1 := Va.out 1 (by omega)
  have l_a_2 := Va.out 2 (by omega)
  have l_a_3 := Va.out 3 (by omega)
  have t_a := Va.out.lt
  have m_high_a := N_high_a.out
  have l_b_0 := Vb.out 0 (by omega)
  have l_b_1 := Vb.out 1 (by omega)
  have l_b_2 := Vb.out 2 (by omega)
  have l_b_3 := Vb.out 3 (by omega)
  have t_b := Vb.out.lt
  have m_high_b := N_high_b.out
  go_wp2_with fail
  refine (C15.out _).mono ?_
  rintro _ w10 ⟨rfl, hb10⟩
  clear l_a_0 l_a_1 l_a_2 l_a_3 t_a m_high_a l_b_0 l_b_1 l_b_2 l_b_3 t_b m_high_b
  have Wlow := Lib.hid (FreeN.later (FreeN.set4 (Flow.out) _ _ _ _ _ _ _ _) hb10 (NumAt.lt (NumAt.other4 (Vlow.out) N_high_low.out _ _ _ _)))
  have Whigh := Lib.hid (FreeN.later (FreeN.set4 (Fhigh.out) _ _ _ _ _ _ _ _) hb10 (NumAt.lt (NumAt.set4 (Vhigh.out) h2)))
  have Ua := Lib.hid (NumAt.later hb10 (NumAt.other4 (Va.out) N_high_a.out _ _ _ _))
  have Ub := Lib.hid (NumAt.later hb10 (NumAt.other4 (Vb.out) N_high_b.out _ _ _ _))
  have Ulow := Lib.hid (NumAt.later hb10 (NumAt.other4 (Vlow.out) N_high_low.out _ _ _ _))
  have Uhigh := Lib.hid (NumAt.later hb10 (NumAt.set4 (Vhigh.out) h2))
  have BC := Lib.hid (below_later (below_set4 (BB.out) G_high.out _ _ _ _) hb10)
  clear Va
  clear Vb
  clear Vlow
  clear Vhigh
  clear Flow
  clear Fhigh
  clear BB
  have Va := Ua
  clear Ua
  have Vb := Ub
  clear Ub
  have Vlow := Ulow
  clear Ulow
  have Vhigh := Uhigh
  clear Uhigh
  have Flow := Wlow
  clear Wlow
  have Fhigh := Whigh
  clear Whigh
  have BB := BC
  clear BC
  clear s_0 f_0 s_1 f_1 s_2 f_2 s_3 f_3
  clear hb10
  go_wp2_with fail
  refine (alive_any _).mono ?_
  rintro _ w11 ⟨rfl, hb11⟩
  have N_low_x := Lib.hid (show w10.heap.size ≠ b_low by have := NumAt.lt Vlow.out; omega)
  have N_high_x := Lib.hid (show w10.heap.size ≠ b_high by have := NumAt.lt Vhigh.out; omega)
  have N_low_y := Lib.hid (show w10.heap.size + 1 ≠ b_low by have := NumAt.lt Vlow.out; omega)
  have N_high_y := Lib.hid (show w10.heap.size + 1 ≠ b_high by have := NumAt.lt Vhigh.out; omega)
  have Wlow := Lib.hid (FreeN.later (FreeN.alloc (FreeN.alloc (Flow.out) (by (try simp only [World.size_alloc]); have := NumAt.lt Vlow.out; omega) _) (by (try simp only [World.size_alloc]); have := NumAt.lt Vlow.out; omega) _) hb11 (NumAt.lt (((Vlow.out).alloc _).alloc _)))
  have Whigh := Lib.hid (FreeN.later (FreeN.alloc (FreeN.alloc (Fhigh.out) (by (try simp only [World.size_alloc]); have := NumAt.lt Vhigh.out; omega) _) (by (try simp only [World.size_alloc]); have := NumAt.lt Vhigh.out; omega) _) hb11 (NumAt.lt (((Vhigh.out).alloc _).alloc _)))
  have Ua := Lib.hid (NumAt.later hb11 (((Va.out).alloc _).alloc _))
  have Ub := Lib.hid (NumAt.later hb11 (((Vb.out).alloc _).alloc _))
  have Ulow := Lib.hid (NumAt.later hb11 (((Vlow.out).alloc _).alloc _))
  have Uhigh := Lib.hid (NumAt.later hb11 (((Vhigh.out).alloc _).alloc _))
  have Ux := Lib.hid (NumAt.later hb11 ((NumAt.new _ low (w10.heap.size) _ (by simp)).alloc _))
  have Uy := Lib.hid (NumAt.later hb11 (NumAt.new _ h2 (w10.heap.size + 1) _ (by simp)))
  have BC := Lib.hid (below_later (below_new (below_new (BB.out) _) _) hb11)
  clear Va
  clear Vb
  clear Vlow
  clear Vhigh
  clear Flow
  clear Fhigh
  clear BB
  have Va := Ua
  clear Ua
  have Vb := Ub
  clear Ub
  have Vlow := Ulow
  clear Ulow
  have Vhigh := Uhigh
  clear Uhigh
  have Vx := Ux
  clear Ux
  have Vy := Uy
  clear Uy
  have Flow := Wlow
  clear Wlow
  have Fhigh := Whigh
  clear Whigh
  have BB := BC
  clear BC
  clear hb11
  have l_x_0 := Vx.out 0 (by omega)
  have l_x_1 := Vx.out 1 (by omega)
  have l_x_2 := Vx.out 2 (by omega)
  have l_x_3 := Vx.out 3 (by omega)
  have t_x := Vx.out.lt
  have l_low_0 := Vlow.out 0 (by omega)
  have l_low_1 := Vlow.out 1 (by omega)
  have l_low_2 := Vlow.out 2 (by omega)
  have l_low_3 := Vlow.out 3 (by omega)
  have t_low := Vlow.out.lt
  have l_y_0 := Vy.out 0 (by omega)
  have l_y_1 := Vy.out 1 (by omega)
  have l_y_2 := Vy.out 2 (by omega)
  have l_y_3 := Vy.out 3 (by omega)
  have t_y := Vy.out.lt
  have l_high_0 := Vhigh.out 0 (by omega)
  have l_high_1 := Vhigh.out 1 (by omega)
  have l_high_2 := Vhigh.out 2 (by omega)
  have l_high_3 := Vhigh.out 3 (by omega)
  have t_high := Vhigh.out.lt
  go_wp2
  go_ret
  exact ⟨rfl, BB.out⟩
end Go.Proofs.Ytdhkkigijcggmaa
