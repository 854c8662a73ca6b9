/- Layer 18 (journals): what the walk of alive wants; Layer 18 (journals): the chapter's answers (alive) -/
import Derived.Test.YtjfejpdeccnlnaaDoorJadd
import Derived.Test.YtjfejpdeccnlnaaDoorAliveF
namespace Go.Proofs.YtjfejpdeccnlnaaDoor
open Go.ChangeShapes Go.WideShapes Go.ChangeAt Go.RowKit

theorem row_jd {K : Nat → Prop} {w : World} {base D n m : Nat} {s : ByteArray} {l : List Nat} {t : List Pl} (h : OneK K w base D (jd n s l m t)) (hs : nameOk s = true) {q : Nat} (hq : l.length = q) :
    Calls Tryd.prog 16 #[.pointer (some ⟨D, 0, none⟩), .string s] w fun e w' => ∃ a c, e = .returned (.slice a q c) ∧ Own w' w.heap.size (.slice a q c) l ∧ Below w.heap.size w w' := by
  subst hq
  exact h.look fun S hS => row_any hS s (nameOk_le hs) (jd_all hs)
theorem told_yes {w : World} {vb v : Value} {b : List Nat} {L : List (List Nat)} (hb : KAt .u8 w vb b) (hb8 : Bytes b) (hbl : b.length ≤ 1048576) (hv : PartsAt w v L) {z : Bool} (hz : decide (told b = L) = z) :
    Calls Tryd.prog 18 #[vb, v] w fun e w' => e = .returned (.bool z) ∧ Below w.heap.size w w' := by
  subst hz
  exact told_any hb hb8 hbl hv
theorem Add_stale {K : Nat → Prop} {w : World} {base D Jb n m long c : Nat} {s : ByteArray} {b : List Nat} {t : List Pl} (h : OneK K w base D (jd n s b m t)) (hK : K Jb) (hj : Journ w Jb D s long c) (hs : nameOk s = true) (hlong : long ≤ 1048576) (hc : c < 4294967296)
    {v : Value} {r : List Nat} (hv : KAt .u8 w v r) (hb : Bytes r) (hr : r.length ≤ 65536) (hne : b.length ≠ long) :
    Calls Tryd.prog 15 #[.pointer (some ⟨Jb, 0, none⟩), v] w fun e w' => e = .returned (.int .i64 9) ∧ OneK K w' base D (jd n s b m t) ∧ Journ w' Jb D s long c ∧ Stay (fun g => K g ∧ g ≠ Jb) w w' := by
  refine (Add_any h hK hj (nameOk_le hs) hlong hc hv hb).mono ?_
  rintro e w' ⟨h1, h2, h3, h4⟩
  have e9 : (jd n s b m t).add s long c r = ((jd n s b m t, long, c), 9) := by
    unfold Dm.add
    rw [if_neg (by omega), jd_size hs, if_neg (by simp), if_pos hne]
  rw [e9] at h1 h2 h3
  exact ⟨h1, h2, h3, h4⟩
theorem Add_great {K : Nat → Prop} {w : World} {base D Jb n m long c : Nat} {s : ByteArray} {b : List Nat} {t : List Pl} (h : OneK K w base D (jd n s b m t)) (hK : K Jb) (hj : Journ w Jb D s long c) (hs : nameOk s = true) (hlong : long ≤ 1048576) (hc : c < 4294967296)
    {v : Value} {r : List Nat} (hv : KAt .u8 w v r) (hb : Bytes r) (hr : 65536 < r.length) :
    Calls Tryd.prog 15 #[.pointer (some ⟨Jb, 0, none⟩), v] w fun e w' => e = .returned (.int .i64 3) ∧ OneK K w' base D (jd n s b m t) ∧ Journ w' Jb D s long c ∧ Stay (fun g => K g ∧ g ≠ Jb) w w' := by
  refine (Add_any h hK hj (nameOk_le hs) hlong hc hv hb).mono ?_
  rintro e w' ⟨h1, h2, h3, h4⟩
  have e9 : (jd n s b m t).add s long c r = ((jd n s b m t, long, c), 3) := by
    unfold Dm.add
    rw [if_pos hr]
  rw [e9] at h1 h2 h3
  exact ⟨h1, h2, h3, h4⟩
theorem kat_nil (w : World) : KAt .u8 w (.slice none 0 0) [] := ⟨_, 0, rfl, Nat.le_refl _, Nat.zero_le _, fun _ => rfl, fun h => absurd h (Nat.lt_irrefl _)⟩
/-- A world in which so many noughts were made. -/
def mkW (n : Nat) (w : World) : World := w.alloc (.cells (List.replicate n (Value.int .u8 0)).toArray 5)
theorem mkW_below (n : Nat) (w : World) : Below w.heap.size w (mkW n w) := (Below.refl _ _).alloc (Nat.le_refl _) _
theorem mkW_kat (n : Nat) (w : World) (hn : n ≤ maxLen) : KAt .u8 (mkW n w) (.slice (some ⟨w.heap.size, 0, none⟩) n n) (List.replicate n 0) := by
  have h := kat_lit w (List.replicate n 0) 5 (0, 0) (by rw [List.length_replicate]; exact hn)
  have e : cellsK .u8 (List.replicate n 0) = List.replicate n (Value.int .u8 0) := by
    unfold cellsK
    rw [List.map_replicate]
    rfl
  rw [e, List.length_replicate] at h
  exact h
theorem mkW_run (n : Nat) (hn : n ≤ 1000000) (w : World) : (Instr.makeSlice 37 (.int .i64 n) (.int .i64 n)).run Tryd.prog w = .ok (.slice (some ⟨w.heap.size, 0, none⟩) n n) (mkW n w) := by
  obtain ⟨i0, hi, hz0, hz1, hz2⟩ := info_parts infoB
  have e := run_make (P := Tryd.prog) w 37 5 i0 (.int .u8 0) Tryd.underlying37 hi hz0 .i64 .i64 n n (by omega) (by omega) (by rw [hz2]; omega) (by omega)
  rw [e, hz1, Int.toNat_natCast, made_row]
  simp [mkW]
theorem mk200 (w : World) : (Instr.makeSlice 37 (.int .i64 200) (.int .i64 200)).run Tryd.prog w = .ok (.slice (some ⟨w.heap.size, 0, none⟩) 200 200) (mkW 200 w) := mkW_run 200 (by decide) w
theorem mk65537 (w : World) : (Instr.makeSlice 37 (.int .i64 65537) (.int .i64 65537)).run Tryd.prog w = .ok (.slice (some ⟨w.heap.size, 0, none⟩) 65537 65537) (mkW 65537 w) := mkW_run 65537 (by decide) w
end Go.Proofs.YtjfejpdeccnlnaaDoor
namespace Go.Proofs.YtjfejpdeccnlnaaDoor
open Go.ChangeShapes Go.WideShapes Go.ChangeAt Go.RowKit

theorem al18b : ∀ r ∈ [[], [97]], Bytes r ∧ r.length ≤ 65536 := by
  unfold Bytes
  decide
theorem al18r {R : List (List Nat)} (h : ∀ r ∈ R, Bytes r ∧ r.length ≤ 65536) : recs firstC (laidAll firstC R ++ [0]) = withC firstC R := by
  rw [recs_laidAll _ _ _ fun r hr => (h r hr).2, recs_eq, if_pos (by decide), List.append_nil]
set_option linter.unusedSimpArgs false in
set_option linter.unusedVariables false in
set_option maxRecDepth 20000 in
set_option maxHeartbeats 4000000 in
theorem alive18 (w : World) : Calls Tryd.prog 12 #[] w fun e w' => e = .returned (.bool true) ∧ Below w.heap.size w w' := by
  have kc := fun (w : World) (C : Array Value) (n c : Nat) => Lib.run_convert_bytes_const (P := Tryd.prog) w 37 5 C n c Tryd.underlying37 Tryd.underlying5
  have mk1 := mk200
  have mk2 := mk65537
  have B := Lib.hid (Below.refl w.heap.size w)
  go_enter Tryd.func12, Tryd.ntmps12
  go_wp2_with fail
  obtain ⟨w1, e9⟩ : ∃ w1 : World, w1 = w.alloc (.cells #[.int .u8 97] 5 (1, 2)) := ⟨_, rfl⟩
  have hb : Below w.heap.size w w1 := by rw [e9]; exact (Below.refl _ _).alloc (Nat.le_refl _) _
  have KL := Lib.hid (show KAt .u8 w1 (.slice (some ⟨w.heap.size, 0, none⟩) 1 1) [97] by rw [e9]; exact kat_lit w [97] 5 (1, 2) (by decide))
  have hz9 : w1.heap.size = w.heap.size + 1 := by rw [e9]; simp
  rw [← e9]
  clear e9
  have B := Lib.hid (below_on B.out hb)
  clear hb
  obtain ⟨w2, e9⟩ : ∃ w2 : World, w2 = w1.alloc (.cells #[.slice none 0 0, .slice (some ⟨w.heap.size, 0, none⟩) 1 1] 37) := ⟨_, rfl⟩
  have hb : Below w1.heap.size w1 w2 := by rw [e9]; exact (Below.refl _ _).alloc (Nat.le_refl _) _
  have PL := Lib.hid (show PartsAt w2 (.slice (some ⟨w.heap.size + 1, 0, none⟩) 2 2) [[], [97]] by rw [e9, ← hz9]; exact parts2 _ (kat_nil _) KL.out)
  rw [← e9]
  clear e9 hz9 KL
  have B := Lib.hid (below_on B.out hb)
  clear hb
  have e1 : (laidAll firstC [[], [97]]).length = 17 := by rw [laidAll_length]; rfl
  have HE1 := Lib.hid e1
  clear e1
  refine (kept_any 10000 (by decide) (by decide) PL.out al18b (by rw [HE1.out]; decide)).mono ?_
  rintro _ w3 ⟨D, rfl, ht, hb, hD⟩
  have T := Lib.hid ht
  have HD := Lib.hid (Nat.le_trans B.out.size hD)
  have HK := Lib.hid B.out.size
  clear ht hD PL
  have T := Lib.hid (T.out.lessC (K' := fun g => g < w.heap.size) fun g hg => Nat.lt_of_lt_of_le hg HK.out)
  clear HK
  have B := Lib.hid (below_on B.out hb)
  clear hb
  go_wp2_with fail
  refine (row_jd T.out (by decide) HE1.out).mono ?_
  rintro _ w4 ⟨a9, c9, rfl, ho, hb⟩
  have RW := Lib.hid ho.at_
  clear ho
  have B := Lib.hid (below_on B.out hb)
  have T := Lib.hid (T.out.later hb)
  clear hb
  go_wp2_with fail
  obtain ⟨w5, e9⟩ : ∃ w5 : World, w5 = w4.alloc (.cells #[.int .u8 97] 5 (1, 2)) := ⟨_, rfl⟩
  have hb : Below w4.heap.size w4 w5 := by rw [e9]; exact (Below.refl _ _).alloc (Nat.le_refl _) _
  have KL := Lib.hid (show KAt .u8 w5 (.slice (some ⟨w4.heap.size, 0, none⟩) 1 1) [97] by rw [e9]; exact kat_lit w4 [97] 5 (1, 2) (by decide))
  have hz9 : w5.heap.size = w4.heap.size + 1 := by rw [e9]; simp
  rw [← e9]
  clear e9
  have B := Lib.hid (below_on B.out hb)
  have T := Lib.hid (T.out.later hb)
  have RW := Lib.hid (RW.out.later hb)
  clear hb
  obtain ⟨w6, e9⟩ : ∃ w6 : World, w6 = w5.alloc (.cells #[.slice none 0 0, .slice (some ⟨w4.heap.size, 0, none⟩) 1 1] 37) := ⟨_, rfl⟩
  have hb : Below w5.heap.size w5 w6 := by rw [e9]; exact (Below.refl _ _).alloc (Nat.le_refl _) _
  have PL := Lib.hid (show PartsAt w6 (.slice (some ⟨w4.heap.size + 1, 0, none⟩) 2 2) [[], [97]] by rw [e9, ← hz9]; exact parts2 _ (kat_nil _) KL.out)
  rw [← e9]
  clear e9 hz9 KL
  have B := Lib.hid (below_on B.out hb)
  have T := Lib.hid (T.out.later hb)
  have RW := Lib.hid (RW.out.later hb)
  clear hb
  refine (told_yes RW.out (laidAll_bytes _ _ fun r hr => (al18b r hr).1) (by rw [HE1.out]; decide) PL.out (z := true) (decide_eq_true (told_all fun r hr => (al18b r hr).2))).mono ?_
  rintro _ w7 ⟨rfl, hb⟩
  clear RW PL
  have B := Lib.hid (below_on B.out hb)
  have T := Lib.hid (T.out.later hb)
  clear hb
  go_wp2_with fail
  refine (Whole.reopen T.out (by decide) al18b (by rw [HE1.out]; decide) (q := 2) rfl).mono ?_
  rintro _ w8 ⟨Jb, a2, c2, rfl, hw, hs, hJ, _⟩
  have HJ := Lib.hid (Nat.le_trans B.out.size hJ)
  clear hJ T
  have T := Lib.hid hw
  clear hw
  have B := Lib.hid (B.out.trans (hs.below (base := w.heap.size) fun g hg => hg))
  clear hs
  go_wp2_with fail
  obtain ⟨w9, e9⟩ : ∃ w9 : World, w9 = mkW 200 w8 := ⟨_, rfl⟩
  have hb : Below w8.heap.size w8 w9 := by rw [e9]; exact mkW_below _ _
  have V := Lib.hid (show KAt .u8 w9 (.slice (some ⟨w8.heap.size, 0, none⟩) 200 200) (List.replicate 200 0) by rw [e9]; exact mkW_kat 200 _ (by unfold maxLen; omega))
  rw [← e9]
  clear e9
  have B := Lib.hid (below_on B.out hb)
  have T := Lib.hid (T.out.later hb)
  clear hb
  obtain ⟨r2, hr2⟩ : ∃ r2 : List Nat, r2 = List.replicate 200 0 := ⟨_, rfl⟩
  have hb2 : Bytes r2 ∧ r2.length = 200 := by rw [hr2]; exact ⟨fun x hx => by rw [(List.mem_replicate.1 hx).2]; decide, List.length_replicate⟩
  have H2 := Lib.hid hb2
  rw [← hr2] at V
  clear hb2 hr2
  refine (T.out.add V.out H2.out.1 (by rw [H2.out.2]; decide) (by rw [HE1.out, H2.out.2]; decide)).mono ?_
  rintro _ w10 ⟨rfl, hw, hs⟩
  clear T V
  have T := Lib.hid hw
  clear hw
  have B := Lib.hid (B.out.trans (hs.below (base := w.heap.size) fun g hg => ⟨.inl hg, by have := HJ.out; omega⟩))
  clear hs
  have HE2 := Lib.hid (show (laidAll firstC ([[], [97]] ++ [r2])).length = 225 by rw [laidAll_length]; simp [H2.out.2])
  have HT := Lib.hid (show [[], [97]] ++ [r2] = [[], [97], r2] from rfl)
  rw [HT.out] at T HE2
  clear HT
  have J := Lib.hid T.out.jour
  have TR := Lib.hid T.out.recs
  have T := Lib.hid T.out.disk
  rw [HE2.out] at J
  go_wp2_with fail
  refine (row_jd T.out (by decide) HE2.out).mono ?_
  rintro _ w11 ⟨a9, c9, rfl, ho, hb⟩
  clear ho
  have B := Lib.hid (below_on B.out hb)
  have T := Lib.hid (T.out.later hb)
  have J := Lib.hid (heap_on hb J.out)
  clear hb
  go_wp2_with fail
  refine (JSync_any T.out (.inr rfl) J.out (by decide) (jd_sync (by decide))).mono ?_
  rintro _ w12 ⟨rfl, ht, hs⟩
  have T := Lib.hid ht
  have J := Lib.hid ((hs.block Jb (.inr rfl)).trans J.out)
  clear ht
  have B := Lib.hid (B.out.trans (hs.below (base := w.heap.size) fun g hg => .inl hg))
  clear hs
  go_wp2_with fail
  obtain ⟨w13, e9⟩ : ∃ w13 : World, w13 = mkW 65537 w12 := ⟨_, rfl⟩
  have hb : Below w12.heap.size w12 w13 := by rw [e9]; exact mkW_below _ _
  have V := Lib.hid (show KAt .u8 w13 (.slice (some ⟨w12.heap.size, 0, none⟩) 65537 65537) (List.replicate 65537 0) by rw [e9]; exact mkW_kat 65537 _ (by unfold maxLen; omega))
  rw [← e9]
  clear e9
  have B := Lib.hid (below_on B.out hb)
  have T := Lib.hid (T.out.later hb)
  have J := Lib.hid (heap_on hb J.out)
  clear hb
  have HC := Lib.hid (show lastC firstC [[], [97], r2] < 4294967296 from lastC_lt _ (by decide) fun r hr => (TR.out r hr).1)
  refine (Add_great T.out (.inr rfl) J.out (by decide) (by decide) HC.out V.out (fun x hx => by rw [(List.mem_replicate.1 hx).2]; decide) (by rw [List.length_replicate]; decide)).mono ?_
  rintro _ w14 ⟨rfl, ht, hj, hs⟩
  have T := Lib.hid ht
  have J := Lib.hid hj
  clear ht hj V
  have B := Lib.hid (B.out.trans (hs.below (base := w.heap.size) fun g hg => ⟨.inl hg, by have := HJ.out; omega⟩))
  clear hs
  go_wp2_with fail
  obtain ⟨w15, e9⟩ : ∃ w15 : World, w15 = w14.alloc (.cells #[.int .u8 0] 5) := ⟨_, rfl⟩
  have hb : Below w14.heap.size w14 w15 := by rw [e9]; exact (Below.refl _ _).alloc (Nat.le_refl _) _
  have V := Lib.hid (show KAt .u8 w15 (.slice (some ⟨w14.heap.size, 0, none⟩) 1 1) [0] by rw [e9]; exact kat_lit w14 [0] 5 (0, 0) (by decide))
  rw [← e9]
  clear e9
  have B := Lib.hid (below_on B.out hb)
  have T := Lib.hid (T.out.later hb)
  have J := Lib.hid (heap_on hb J.out)
  clear hb
  refine (T.out.act 0 ((jd_append (by decide) [0]).trans (if_pos ⟨by rw [HE2.out]; decide, by rw [HE2.out]; decide⟩)) rfl fun S hS => Append_any hS ⟨#[106]⟩ (by decide) V.out (by unfold Bytes; decide)).mono ?_
  rintro _ w16 ⟨rfl, ht, hs⟩
  have T := Lib.hid ht
  have J := Lib.hid ((hs.block Jb (.inr rfl)).trans J.out)
  clear ht V
  have B := Lib.hid (B.out.trans (hs.below (base := w.heap.size) fun g hg => .inl hg))
  clear hs
  have HE3 := Lib.hid (show (laidAll firstC [[], [97], r2] ++ [0]).length = 226 by rw [List.length_append, HE2.out]; rfl)
  go_wp2_with fail
  obtain ⟨w17, e9⟩ : ∃ w17 : World, w17 = w16.alloc (.cells #[.int .u8 98] 5 (1, 2)) := ⟨_, rfl⟩
  have hb : Below w16.heap.size w16 w17 := by rw [e9]; exact (Below.refl _ _).alloc (Nat.le_refl _) _
  have V := Lib.hid (show KAt .u8 w17 (.slice (some ⟨w16.heap.size, 0, none⟩) 1 1) [98] by rw [e9]; exact kat_lit w16 [98] 5 (1, 2) (by decide))
  have hz9 : w17.heap.size = w16.heap.size + 1 := by rw [e9]; simp
  rw [← e9]
  clear e9
  clear hz9
  have B := Lib.hid (below_on B.out hb)
  have T := Lib.hid (T.out.later hb)
  have J := Lib.hid (heap_on hb J.out)
  clear hb
  refine (Add_stale T.out (.inr rfl) J.out (by decide) (by decide) HC.out V.out (by unfold Bytes; decide) (by decide) (by rw [HE3.out]; decide)).mono ?_
  rintro _ w18 ⟨rfl, ht, hj, hs⟩
  have T := Lib.hid ht
  clear ht hj V
  have B := Lib.hid (B.out.trans (hs.below (base := w.heap.size) fun g hg => ⟨.inl hg, by have := HJ.out; omega⟩))
  clear hs
  go_wp2_with fail
  have HQ := Lib.hid (al18r TR.out)
  have HO := Lib.hid (Open_jd T.out (by decide) HQ.out (q := 3) rfl)
  refine HO.out.mono ?_
  rintro _ w19 ⟨Jc, a3, c3, rfl, hj, ht, hs, hJ, _⟩
  have HJ2 := Lib.hid (Nat.le_trans B.out.size hJ)
  have T := Lib.hid ht
  rw [withC_long, withC_lastR, HE2.out] at hj
  have J2 := Lib.hid hj
  clear ht hj hJ HO
  have B := Lib.hid (B.out.trans (hs.below (base := w.heap.size) fun g hg => .inl hg))
  clear hs
  go_wp2_with fail
  obtain ⟨w20, e9⟩ : ∃ w20 : World, w20 = w19.alloc (.cells #[.int .u8 98] 5 (1, 2)) := ⟨_, rfl⟩
  have hb : Below w19.heap.size w19 w20 := by rw [e9]; exact (Below.refl _ _).alloc (Nat.le_refl _) _
  have V := Lib.hid (show KAt .u8 w20 (.slice (some ⟨w19.heap.size, 0, none⟩) 1 1) [98] by rw [e9]; exact kat_lit w19 [98] 5 (1, 2) (by decide))
  have hz9 : w20.heap.size = w19.heap.size + 1 := by rw [e9]; simp
  rw [← e9]
  clear e9
  clear hz9
  have B := Lib.hid (below_on B.out hb)
  have T := Lib.hid (T.out.later hb)
  have J2 := Lib.hid (heap_on hb J2.out)
  clear hb
  refine (Add_stale T.out (.inr rfl) J2.out (by decide) (by decide) HC.out V.out (by unfold Bytes; decide) (by decide) (by rw [HE3.out]; decide)).mono ?_
  rintro _ w21 ⟨rfl, ht, hj, hs⟩
  have T := Lib.hid ht
  clear ht hj V
  have B := Lib.hid (B.out.trans (hs.below (base := w.heap.size) fun g hg => ⟨.inl (.inl hg), by have := HJ2.out; omega⟩))
  clear hs
  go_wp2_with fail
  go_ret
  exact ⟨rfl, B.out⟩
end Go.Proofs.YtjfejpdeccnlnaaDoor
