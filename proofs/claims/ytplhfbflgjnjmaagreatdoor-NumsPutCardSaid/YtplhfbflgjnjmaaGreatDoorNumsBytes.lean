/- Layer 1 (nums): bytes with their number ahead, and back. -/
import Derived.Test.YtplhfbflgjnjmaaGreatDoorNumsLong
import Derived.Test.YtplhfbflgjnjmaaGreatDoorSlices
namespace Go.Proofs.YtplhfbflgjnjmaaGreatDoor
open Go.ChangeShapes Go.WideShapes Go.ChangeAt Go.RowKit

theorem Own.shape {w : World} {B : Nat} {v : Value} {l : List Nat} (h : Own w B v l) : ∃ ao n cap, v = .slice ao n cap := by
  obtain ⟨ao, cap, h, _⟩ := h.at_
  exact ⟨ao, _, cap, h⟩
set_option maxRecDepth 20000 in
set_option maxHeartbeats 1500000 in
theorem PutBytes_any {b l : List Nat} {v u : Value} (w : World) (hv : KAt .u8 w v b) (hu : KAt .u8 w u l) (hsz : b.length + 8 + l.length ≤ 140737488355328) :
    Calls Tryz.prog 19 #[v, u] w fun e w' => ∃ v', e = .returned v' ∧ Own w' w.heap.size v' (b ++ (be 4 l.length ++ l)) ∧ Below w.heap.size w w' := by
  have hu' := hu
  obtain ⟨ao, cap, rfl, hc1, hc2, hc3, hc4⟩ := hu'
  have HP := Lib.hid (Put_any w hv l.length 4 (by omega) (by omega) (by omega))
  have HC := Lib.hid (fun (w1 : World) (v1 : Value) (t : TypeId) (hb : Below w.heap.size w w1) (ho : Own w1 w.heap.size v1 (b ++ be (many 4) l.length)) =>
    Concat_any (g := w1.heap.size) (o := 0) (cap := 2) (vs := [v1, .slice ao l.length cap]) (ls := [b ++ be 4 l.length, l]) (w1.alloc (.cells #[v1, .slice ao l.length cap] t))
      ⟨rfl, fun i hi => by
        have h1 : KAt .u8 (w1.alloc (.cells #[v1, .slice ao l.length cap] t)) v1 (b ++ be 4 l.length) := ho.at_.later ((Below.refl _ w1).alloc (Nat.le_refl _) _)
        have h2 : KAt .u8 (w1.alloc (.cells #[v1, .slice ao l.length cap] t)) (.slice ao l.length cap) l := hu.later (hb.trans (((Below.refl _ w1).alloc hb.size _)))
        match i, hi with
        | 0, _ => exact ⟨_, _, rfl, rfl, by simp, h1⟩
        | 1, _ => exact ⟨_, _, rfl, rfl, by simp, h2⟩⟩ (by simp) (by unfold maxLen; omega) (by simp [be_length]; omega))
  have hl : l.length ≤ 9223372036854775807 := by omega
  clear hv hu hc4 hc3 hc2
  go_enter Tryz.func19, Tryz.ntmps19
  go_wp2_with (first
    | (go_at_call 17; refine (HP.out).mono ?_; rintro e w1 ⟨v1, rfl, ho, hb⟩; obtain ⟨a1, n1, c1, rfl⟩ := ho.shape; have HO := Lib.hid ho; have HB := Lib.hid hb; clear ho hb)
    | (go_at_call 79; refine (HC.out w1 _ _ HB.out HO.out).mono ?_; rintro e w2 ⟨v2, rfl, ho, hb⟩; have HO2 := Lib.hid ho; have HB2 := Lib.hid hb; clear ho hb))
  go_ret
  have hbb := HB.out.alloc HB.out.size (.cells #[.slice a1 n1 c1, .slice ao l.length cap] 22)
  exact ⟨_, rfl, by have h := HO2.out.base (B' := w.heap.size) hbb.size; simpa using h, hbb.trans (HB2.out.mono hbb.size)⟩

theorem KAt.cut {w : World} {g o cap : Nat} {b : List Nat} {k : IntKind} (hc : ∀ i x : Nat, b[i]? = some x → w.cell? ⟨g, o + i, none⟩ = some (.int k x)) (h1 : b.length ≤ cap) (h2 : cap ≤ maxLen) (j n : Nat) (hn : j + n ≤ b.length) :
    KAt k w (.slice (some ⟨g, o + j, none⟩) n (cap - j)) ((b.drop j).take n) := by
  have hl : ((b.drop j).take n).length = n := by simp; omega
  refine ⟨some ⟨g, o + j, none⟩, cap - j, by rw [hl], by rw [hl]; omega, by omega, (fun h => by cases h), fun _ => ⟨g, o + j, rfl, fun i x hx => ?_⟩⟩
  rw [List.getElem?_take] at hx
  split at hx
  · rw [List.getElem?_drop] at hx
    rw [Nat.add_assoc]
    exact hc _ _ hx
  · cases hx
set_option maxRecDepth 20000 in
set_option maxHeartbeats 1500000 in
theorem GetBytes_short {b : List Nat} {v : Value} (w : World) (hv : KAt .u8 w v b) (hb : Bytes b) (h : b.length < 4 ∨ b.length < 4 + num (b.take 4)) :
    Calls Tryz.prog 11 #[v] w fun e w' => e = .returned (.tuple #[.slice none 0 0, .int .i64 0, .int .i64 5]) ∧ w = w' := by
  have HG := Lib.hid (Get_get w hv hb 4)
  obtain ⟨ao, cap, rfl, hc1, hc2, hc3, hc4⟩ := hv
  unfold maxLen at hc2
  clear hc4 hc3
  by_cases h4 : b.length < 4
  · have e : getR b 4 = (0, 5) := by unfold getR; rw [if_neg (by omega), if_pos (by omega)]
    rw [e] at HG
    clear e h hb
    go_enter Tryz.func11, Tryz.ntmps11
    go_wp2_with (go_at_call 7; refine (HG.out).mono ?_; rintro e w1 ⟨rfl, rfl⟩)
    go_ret3
    exact ⟨rfl, rfl⟩
  · have e : getR b 4 = (num (b.take 4), 0) := by unfold getR; rw [if_neg (by omega), if_neg (by omega)]; rfl
    rw [e] at HG
    have hnl := num_lt 4 (b.take 4) (by simp; omega) (fun y hy => hb y (List.take_subset _ _ hy))
    obtain ⟨n, hn⟩ : ∃ n, Hid (num (b.take 4) = n) := ⟨_, Lib.hid rfl⟩
    rw [hn.out] at HG hnl h
    have hgt : b.length < 4 + n := by omega
    have hnl2 : n < 4294967296 := by omega
    clear e h hb hnl
    go_enter Tryz.func11, Tryz.ntmps11
    go_wp2_with (go_at_call 7; refine (HG.out).mono ?_; rintro e w1 ⟨rfl, rfl⟩)
    go_ret3
    exact ⟨rfl, rfl⟩
set_option maxRecDepth 20000 in
set_option maxHeartbeats 1500000 in
theorem GetBytes_ok {b : List Nat} {v : Value} (w : World) (hv : KAt .u8 w v b) (hb : Bytes b) (n : Nat) (hn : num (b.take 4) = n) (h : 4 + n ≤ b.length) (hsz : b.length ≤ 140737488355328) :
    Calls Tryz.prog 11 #[v] w fun e w' => ∃ v', e = .returned (.tuple #[v', .int .i64 ((4 : Int) + n), .int .i64 0]) ∧ Own w' w.heap.size v' ((b.drop 4).take n) ∧ Below w.heap.size w w' := by
  have HG := Lib.hid (Get_any (m := 4) w hv hb (by omega) (by omega) (by omega))
  obtain ⟨ao, cap, rfl, hc1, hc2, hc3, hc4⟩ := hv
  obtain ⟨g, o, rfl, hc5⟩ := hc4 (by omega)
  rw [hn] at HG
  have hnl := num_lt 4 (b.take 4) (by simp; omega) (fun y hy => hb y (List.take_subset _ _ hy))
  rw [hn] at hnl
  have hlt : ((b.drop 4).take n).length ≤ 140737488355328 := by simp; omega
  have HC := Lib.hid (Clone_any w (KAt.cut hc5 hc1 hc2 4 n h) hlt)
  have HC0 := Lib.hid (fun (h0 : n = 0) (c : Nat) (hcm : c ≤ maxLen) => (show Calls Tryz.prog 24 #[.slice (some ⟨g, o, none⟩) 0 c] w fun e w' => ∃ v', e = .returned v' ∧ Own w' w.heap.size v' ((b.drop 4).take n) ∧ Below w.heap.size w w' from by
    subst h0
    rw [List.take_zero]
    exact Clone_any w ⟨_, c, rfl, Nat.zero_le _, hcm, (fun h => by cases h), fun h => absurd h (Nat.lt_irrefl _)⟩ (by simp)))
  have HL := Lib.hid (fun (w1 : World) (v1 : Value) (ho : Own w1 w.heap.size v1 ((b.drop 4).take n)) => Clip_any w1 ho)
  unfold maxLen at hc2
  have hnl2 : n < 4294967296 := by omega
  clear hc4 hc5 hc3 hn hnl hlt hb
  by_cases hcap : cap = 4
  · obtain rfl : n = 0 := by omega
    subst hcap
    have HC1 := Lib.hid (HC0.out rfl)
    clear HC0
    go_enter Tryz.func11, Tryz.ntmps11
    go_wp2_with (first
      | (go_at_call 7; refine (HG.out).mono ?_; rintro e w1 ⟨rfl, rfl⟩)
      | (go_at_call 24; refine (HC1.out _ (by unfold maxLen; omega)).mono ?_; rintro e w1 ⟨v1, rfl, ho, hb⟩; have HO := Lib.hid ho; have HB := Lib.hid hb; clear ho hb)
      | (go_at_call 23; refine (HL.out w1 v1 HO.out).mono ?_; rintro e w2 ⟨v2, rfl, ho, rfl⟩; have HO2 := Lib.hid ho; clear ho))
    go_ret3
    exact ⟨_, rfl, HO2.out, HB.out⟩
  · have hcap2 : 4 < cap := by omega
    clear hcap
    go_enter Tryz.func11, Tryz.ntmps11
    go_wp2_with (first
      | (go_at_call 7; refine (HG.out).mono ?_; rintro e w1 ⟨rfl, rfl⟩)
      | (go_at_call 24; refine (HC.out).mono ?_; rintro e w1 ⟨v1, rfl, ho, hb⟩; have HO := Lib.hid ho; have HB := Lib.hid hb; clear ho hb)
      | (go_at_call 23; refine (HL.out w1 v1 HO.out).mono ?_; rintro e w2 ⟨v2, rfl, ho, rfl⟩; have HO2 := Lib.hid ho; clear ho))
    go_ret3
    exact ⟨_, rfl, HO2.out, HB.out⟩
end Go.Proofs.YtplhfbflgjnjmaaGreatDoor
