/- Layer 1 (nums): NumsBack, whole. -/
import Derived.Test.YtplhfbflgjnjmaaNumsBack
namespace Go.Proofs.Ytplhfbflgjnjmaa
open Go.ChangeShapes Go.WideShapes Go.ChangeAt Go.RowKit

set_option maxRecDepth 40000 in
set_option maxHeartbeats 2000000 in
theorem numsBack_big (n0 n1 : Nat) (a0 a1 : Option Addr) (c0 c1 : Nat) (zn : Nat) (zb : Int) (x : Nat → Nat) (w : World)
    (HY : Hid (∀ (w : World) (b : Nat), b = w.heap.size → Calls Try.prog 7 #[.slice (some ⟨b, 0, none⟩) 2 2] (w.alloc (.cells #[.int .i64 n0, .int .i64 n1] 3)) fun e w' => e = .returned (.bool true) ∧ w.alloc (.cells #[.int .i64 n0, .int .i64 n1] 3) = w')) :
    Calls Try.prog 3 #[.agg #[.int .u64 zn, .int .i64 zb, .int .u64 (x 0), .int .u64 (x 1), .int .u64 (x 2), .int .u64 (x 3)], .agg #[.slice a0 n0 c0, .slice a1 n1 c1]] w fun e w' => e = .returned (.bool true) ∧ Below w.heap.size w w' := by
  have HN := Lib.hid (fun (w : World) (b : Nat) (t : TypeId) (hb : b = w.heap.size) => (show Box2 (w.alloc (.cells #[.slice a0 n0 c0, .slice a1 n1 c1] t)) b (.slice a0 n0 c0) (.slice a1 n1 c1) from by subst hb; exact Box2.new w (.slice a0 n0 c0) (.slice a1 n1 c1) t))
  go_enter Try.func3, Try.ntmps3
  go_wp2_with fail
  refine (alive_any _).mono ?_
  rintro _ w1 ⟨rfl, hb1⟩
  have hbox1 := (HN.out _ (w.heap.size + 1) _ (by simp)).later (by simp) hb1
  have HB1 := Lib.hid (((((Below.refl w.heap.size w).alloc (Nat.le_refl _) _)).alloc (by simp) _).trans (hb1.mono (by simp; omega)))
  obtain ⟨p0, p1⟩ := hbox1
  clear hb1 HN
  go_wp2_with fail
  go_fit (HY.out w1 _ rfl)
  rintro _ w2 ⟨rfl, rfl⟩
  go_wp2_with fail
  refine (alive_any _).mono ?_
  rintro _ w3 ⟨rfl, hb3⟩
  have HB3 := Lib.hid (below_later (HB1.out.alloc HB1.out.size _) hb3)
  clear hb3
  go_wp2_with fail
  go_ret
  exact ⟨rfl, HB3.out⟩

theorem numsBack_walk (l0 l1 : List Nat) (v0 v1 : Value) (zn : Nat) (zb : Int) (x : Nat → Nat) (w : World) (h0 : KAt .u8 w v0 l0) (h1 : KAt .u8 w v1 l1) (hb1 : Bytes l1) (s0 : l0.length ≤ 140737488351232) (s1 : l1.length ≤ 140737488351232)
    (hzn : zn < 18446744073709551616) (hzb : -9223372036854775808 ≤ zb ∧ zb ≤ 9223372036854775807) (hx : ∀ i, i < 4 → x i < 18446744073709551616) :
    Calls Try.prog 3 #[.agg #[.int .u64 zn, .int .i64 zb, .int .u64 (x 0), .int .u64 (x 1), .int .u64 (x 2), .int .u64 (x 3)], .agg #[v0, v1]] w fun e w' => e = .returned (.bool true) ∧ Below w.heap.size w w' := by
  obtain ⟨a0, c0, rfl, _⟩ := h0.shapeK
  obtain ⟨a1, c1, rfl, _⟩ := h1.shapeK
  have hy := beyond_two l0.length l1.length (by omega) (by omega)
  by_cases hbig : 1048576 < l0.length + l1.length
  · rw [decide_eq_true hbig] at hy
    exact numsBack_big _ _ _ _ _ _ _ _ _ _ (Lib.hid hy)
  · rw [decide_eq_false hbig] at hy
    have hmx : ∃ mx : Nat, (∀ w, (Builtin.max_ #[3, 3] 3 #[.int .i64 0, .int .i64 zb]).run Try.prog w = .ok (.int .i64 mx) w) ∧ mx = (max 0 zb).toNat := by
      refine ⟨_, fun w => ?_, rfl⟩
      rw [run_max_int2, show (if zb > 0 then zb else 0) = (((max 0 zb).toNat : Nat) : Int) from by split <;> omega]
    obtain ⟨mx, hmx, emx⟩ := hmx
    have hmn : ∀ w, (Builtin.min_ #[3, 3] 3 #[.int .i64 8, .int .i64 mx]).run Try.prog w = .ok (.int .i64 (many zb : Nat)) w := by
      intro w
      have e : many zb = min 8 mx := by unfold many; omega
      rw [e, run_min_int2, show (if (mx : Int) < 8 then (mx : Int) else 8) = ((min 8 mx : Nat) : Int) from by split <;> omega]
    exact numsBack_small l0 l1 _ _ (Lib.hid rfl) (Lib.hid rfl) a0 a1 c0 c1 zn zb x mx (many zb) _ (Lib.hid rfl) (many_le zb) w (Lib.hid rfl) (Lib.hid hzb) (Lib.hid h0) (Lib.hid h1) (Lib.hid hb1) (by omega) hzn (Lib.hid hx) hmx hmn (Lib.hid hy)
end Go.Proofs.Ytplhfbflgjnjmaa
