/- The reference's GetBytes. -/
import Derived.Test.YtplhfbflgjnjmaaGreatDoorRefGet
namespace Go.Proofs.YtplhfbflgjnjmaaGreatDoor
open Go.ChangeShapes Go.WideShapes Go.ChangeAt Go.RowKit

set_option maxRecDepth 20000 in
set_option maxHeartbeats 1500000 in
theorem RGetBytes_short {b : List Nat} {v : Value} (w : World) (hv : KAt .u8 w v b) (hb : Bytes b) (h : b.length < 4 ∨ b.length < 4 + num (b.take 4)) :
    Calls Tryz.prog 12 #[v] w fun e w' => e = .returned (.tuple #[.slice none 0 0, .int .i64 0, .int .i64 5]) ∧ w = w' := by
  have HG := Lib.hid (RGet_get w hv hb 4)
  obtain ⟨ao, cap, rfl, hc1, hc2, hc3, hc4⟩ := hv
  unfold maxLen at hc2
  clear hc4 hc3
  by_cases h4 : b.length < 4
  · have e : getR b 4 = (0, 5) := by unfold getR; rw [if_neg (by omega), if_pos (by omega)]
    rw [e] at HG
    clear e h hb
    go_enter Tryz.func12, Tryz.ntmps12
    go_wp2_with (go_at_call 8; refine (HG.out).mono ?_; rintro e w1 ⟨rfl, rfl⟩)
    go_ret3
    exact ⟨rfl, rfl⟩
  · have e : getR b 4 = (num (b.take 4), 0) := by unfold getR; rw [if_neg (by omega), if_neg (by omega)]; rfl
    rw [e] at HG
    have hnl := num_lt 4 (b.take 4) (by simp; omega) (fun y hy => hb y (List.take_subset _ _ hy))
    obtain ⟨n, hn⟩ : ∃ n, Hid (num (b.take 4) = n) := ⟨_, Lib.hid rfl⟩
    rw [hn.out] at HG hnl h
    have hgt : b.length < 4 + n := by omega
    have hnl2 : n < 4294967296 := by omega
    clear e h hb hnl
    go_enter Tryz.func12, Tryz.ntmps12
    go_wp2_with (go_at_call 8; refine (HG.out).mono ?_; rintro e w1 ⟨rfl, rfl⟩)
    go_ret3
    exact ⟨rfl, rfl⟩
theorem own_nil (w : World) (base : Nat) : OwnV w base 5 1 (.slice none 0 0) 0 [] := ⟨rfl, .inl ⟨rfl, rfl⟩⟩
set_option maxRecDepth 20000 in
set_option maxHeartbeats 1500000 in
theorem RGetBytes_ok {b : List Nat} {v : Value} (w : World) (hv : KAt .u8 w v b) (hb : Bytes b) (n : Nat) (hn : num (b.take 4) = n) (h : 4 + n ≤ b.length) (hsz : b.length ≤ 140737488355328) :
    Calls Tryz.prog 12 #[v] w fun e w' => ∃ v', e = .returned (.tuple #[v', .int .i64 ((4 : Int) + n), .int .i64 0]) ∧ Own w' w.heap.size v' ((b.drop 4).take n) ∧ Below w.heap.size w w' := by
  have HG := Lib.hid (RGet_any (m := 4) w hv hb (by omega) (by omega) (by omega))
  obtain ⟨i0, hi, hz0, hz1, hz2⟩ := info_parts infoB
  obtain ⟨ao, cap, rfl, hc1, hc2, hc3, hc4⟩ := hv
  obtain ⟨g, o, rfl, hc5⟩ := hc4 (by omega)
  rw [hn] at HG
  have hnl := num_lt 4 (b.take 4) (by simp; omega) (fun y hy => hb y (List.take_subset _ _ hy))
  rw [hn] at hnl
  have hlen : ((b.drop 4).take n).length = n := by simp; omega
  have hK := (KAt.cut hc5 hc1 hc2 4 n h).src
  rw [hlen] at hK
  have HS := Lib.hid hK
  have HS2 : Hid (SrcV w 1 (.slice (some ⟨g, o + 4, none⟩) (4 + n - 4) (cap - 4)) n (cellsK .u8 ((b.drop 4).take n))) := Lib.hid (by rw [show 4 + n - 4 = n by omega]; exact HS.out)
  clear HS
  have HI := Lib.hid hi
  have HE := Lib.hid (own_nil w w.heap.size)
  have HLN := Lib.hid hlen
  unfold maxLen at hc2
  have hnl2 : n < 4294967296 := by omega
  clear hc4 hc5 hc3 hn hnl hb hi hK hlen
  by_cases hcap : cap = 4
  · obtain rfl : n = 0 := by omega
    subst hcap
    clear HS2 HE HI HLN
    go_enter Tryz.func12, Tryz.ntmps12
    go_wp2_with (go_at_call 8; refine (HG.out).mono ?_; rintro e w1 ⟨rfl, rfl⟩)
    go_ret3
    exact ⟨_, rfl, by rw [List.take_zero]; exact own_nil _ _, Below.refl _ _⟩
  · have hcap2 : 4 < cap := by omega
    clear hcap
    go_enter Tryz.func12, Tryz.ntmps12
    go_wp2_with (first
      | (go_at_call 8; refine (HG.out).mono ?_; rintro e w1 ⟨rfl, rfl⟩)
      | (at_builtin; refine wpList_append_V rfl _ _ 22 rfl w.heap.size 5 i0 (.int .u8 0) 1 1 Tryz.underlying22 HI.out hz0 hz1 hz2 rfl (.slice none 0 0) 0 [] rfl HE.out (.slice (some ⟨g, o + 4, none⟩) (4 + n - 4) (cap - 4)) n (cellsK .u8 ((b.drop 4).take n)) rfl HS2.out (by unfold maxLen; omega) (by omega) (Nat.le_refl _) ?_; intro v' w2 ho hg; have HO := Lib.hid ho; have HGr := Lib.hid hg; clear ho hg))
    go_ret3
    exact ⟨_, rfl, by have h1 := HO.out; unfold Own; rw [HLN.out]; simpa using h1, (Below.refl w.heap.size w).grown HGr.out (Nat.le_refl _) (fun k hk => by simp [Value.ownBlock] at hk)⟩
end Go.Proofs.YtplhfbflgjnjmaaGreatDoor
