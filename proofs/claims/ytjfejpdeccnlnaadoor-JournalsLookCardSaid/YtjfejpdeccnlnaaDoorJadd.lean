/- Layer 18 (journals): Add, and Sync; Layer 18 (journals): Open and Add, of a disk with one file; Layer 18 (journals): kept, told, end and check of the statements -/
import Derived.Test.YtjfejpdeccnlnaaDoorJopen0
import Derived.Test.YtjfejpdeccnlnaaDoorJopen
import Derived.Deep.RegionHeld3
import Derived.Test.YtjfejpdeccnlnaaDoorJopen2
namespace Go.Proofs.YtjfejpdeccnlnaaDoor
open Go.ChangeShapes Go.WideShapes Go.ChangeAt Go.RowKit

set_option maxRecDepth 20000 in
set_option maxHeartbeats 1500000 in
theorem there_any {w : World} {Jb D : Nat} {s : ByteArray} {long c : Nat} (hj : Journ w Jb D s long c) :
    Calls Tryd.prog 38 #[.pointer (some ⟨Jb, 0, none⟩)] w fun e w' => e = .returned (.bool true) ∧ w' = w := by
  have c0 : w.cell? ⟨Jb, 0, none⟩ = some (.pointer (some ⟨D, 0, none⟩)) := cell_of_row w Jb 0 _ _ (0, 0) hj
  go_enter Tryd.func38, Tryd.ntmps38
  go_wp2
  go_ret
  exact ⟨rfl, rfl⟩
theorem Stay.less {K K' : Nat → Prop} {w w' : World} (h : Stay K w w') (hK : ∀ g, K' g → K g) : Stay K' w w' := ⟨h.os, h.tape, h.output, h.size, fun g hg => h.block g (hK g hg)⟩
/-- What a call on a journal leaves. -/
def AddEnd (K : Nat → Prop) (w : World) (base D Jb : Nat) (s : ByteArray) (x : (Dm × Nat × Nat) × Nat) (e : Ending) (w' : World) : Prop :=
  e = .returned (.int .i64 (x.2 : Nat)) ∧ OneK K w' base D x.1.1 ∧ Journ w' Jb D s x.1.2.1 x.1.2.2 ∧ Stay (fun g => K g ∧ g ≠ Jb) w w'
set_option linter.unusedSimpArgs false in
set_option maxRecDepth 20000 in
set_option maxHeartbeats 4000000 in
theorem Add_any {K : Nat → Prop} {w : World} {base D Jb : Nat} {M : Dm} {s : ByteArray} {long c : Nat} (h : OneK K w base D M) (hK : K Jb) (hj : Journ w Jb D s long c) (hs : s.size ≤ 140737488355328) (hlong : long ≤ 1048576) (hc : c < 4294967296)
    {v : Value} {r : List Nat} (hv : KAt .u8 w v r) (hb : Bytes r) :
    Calls Tryd.prog 15 #[.pointer (some ⟨Jb, 0, none⟩), v] w (AddEnd K w base D Jb s (M.add s long c r)) := by
  have HT := Lib.hid (there_any hj)
  have H := Lib.hid h
  have HJ := Lib.hid hj
  have HV := Lib.hid hv
  have c0 := cell_of_row w Jb 0 _ _ (0, 0) hj
  have c1 : w.cell? ⟨Jb, 1, none⟩ = some (.string s) := cell_of_row w Jb 1 _ _ (0, 0) hj
  have c2 : w.cell? ⟨Jb, 2, none⟩ = some (.int .i64 long) := cell_of_row w Jb 2 _ _ (0, 0) hj
  have c3 : w.cell? ⟨Jb, 3, none⟩ = some (.int .u32 c) := cell_of_row w Jb 3 _ _ (0, 0) hj
  obtain ⟨ao, cap, rfl, hc1, hc2, hc3, hc4⟩ := hv
  unfold maxLen at hc2
  obtain ⟨m, hm⟩ : ∃ m, m = r.length := ⟨_, rfl⟩
  have HM := Lib.hid hm
  rw [← hm] at HV hc1 ⊢
  have hm9 : (m : Int) ≤ 9223372036854775807 := by omega
  clear hc3 hc4 h hj hm
  have hmI : IntKind.i64.wrap (m : Int) = (m : Int) := by rw [IntKind.wrap_i64]; omega
  have hb0 : Below w.heap.size w w.drew := (Below.refl _ w).drew
  by_cases h1 : 65536 < m
  · have h1I : (65536 : Int) < (m : Int) := by omega
    go_enter Tryd.func15, Tryd.ntmps15
    go_wp2_with (go_at_call 38; refine HT.out.mono ?_; rintro e w9 ⟨rfl, rfl⟩)
    go_ret
    unfold AddEnd Dm.add
    rw [← HM.out, if_pos h1]
    exact ⟨rfl, H.out, HJ.out, Stay.refl _ _⟩
  · have h1I : ¬ ((65536 : Int) < (m : Int)) := by omega
    obtain ⟨z, hz⟩ : ∃ z, z = M.sizeE s := ⟨_, rfl⟩
    have hzl := sizeE_le H.out.ok s
    have HS := Lib.hid (fun (w1 : World) (hb : Below w.heap.size w w1) => (H.out.later hb).look fun S hS => Size_any hS s hs)
    rw [← hz] at HS hzl
    obtain ⟨zn, ze⟩ := z
    simp only at HS hzl
    have HZ := Lib.hid hz
    clear hz
    by_cases h2 : ze = 0
    · subst h2
      by_cases h3 : zn = long
      · subst h3
        go_enter Tryd.func15, Tryd.ntmps15
        go_wp2_with (go_at_call 38; refine HT.out.mono ?_; rintro e w9 ⟨rfl, rfl⟩)
        go_region_held3 (fun w' => w'.cell? ⟨Jb, 0, none⟩ = some (.pointer (some ⟨D, 0, none⟩)) ∧ w'.cell? ⟨Jb, 1, none⟩ = some (.string s)) (first | exact ⟨c0, c1⟩ | exact ⟨k0, k1⟩) ((go_at_call 30; refine (HS.out _ hb0).mono ?_; rintro _ w2 ⟨rfl, hb2⟩; have HB := Lib.hid hb2; replace hb2 := below_on hb0 hb2; have k0 := cell_on c0 hb2; have k1 := cell_on c1 hb2; have k2 := cell_on c2 hb2; have k3 := cell_on c3 hb2; clear hb2))
        have T := Lib.hid ((H.out.later (Below.refl _ _).drew).later HB.out)
        have HJ2 := Lib.hid (heap_on HB.out HJ.out)
        have HV2 := Lib.hid ((HV.out.later (Below.refl _ _).drew).later HB.out)
        go_wp2_with fail
        have HL := Lib.hid (laid_any w2 hc HV2.out (by rw [← HM.out]; omega) hb)
        rw [← HM.out] at HL
        obtain ⟨n8, hn8⟩ : ∃ n8, n8 = m + 8 := ⟨_, rfl⟩
        rw [← hn8] at HL
        have hz8 : (zn : Int) + (n8 : Int) ≤ 9223372036854775807 := by omega
        have HN8 := Lib.hid hn8
        clear hn8
        refine HL.out.mono ?_
        rintro _ w3 ⟨ab, kb, rfl, ho3, hb3⟩
        have T := Lib.hid (T.out.later hb3)
        have HJ3 := Lib.hid (heap_on hb3 HJ2.out)
        have HO := Lib.hid ho3
        have HB3 := Lib.hid (below_on (below_on hb0 HB.out) hb3)
        have d0 := cell_on k0 hb3
        have d1 := cell_on k1 hb3
        clear ho3 hb3 k0 k1 k2 k3 c0 c1 c2 c3 HL
        have HT2 := Lib.hid (T.out.later (Below.refl _ w3).drew)
        have HK2 := Lib.hid (HO.out.at_.later (Below.refl _ w3).drew)
        obtain ⟨x, hx⟩ : ∃ x, x = M.append s (laidR c r) := ⟨_, rfl⟩
        obtain ⟨N, e9⟩ := x
        have HX := Lib.hid hx
        clear hx
        go_wp2_with fail
        go_region_held3 (fun w' => w'.cell? ⟨Jb, 0, none⟩ = some (.pointer (some ⟨D, 0, none⟩)) ∧ w'.cell? ⟨Jb, 1, none⟩ = some (.string s)) (first | exact ⟨d0, d1⟩ | exact ⟨g0, g1⟩) ((go_at_call 27; refine (HT2.out.act (e9 : Int) HX.out.symm rfl fun S hS => Append_any hS s hs HK2.out (laidR_bytes hb)).mono ?_; rintro _ w4 ⟨rfl, ht4, hs4⟩; have T := Lib.hid ht4; have HST := Lib.hid hs4; have hj4 := (hs4.block Jb hK).trans HJ3.out; have g0 : w4.cell? ⟨Jb, 0, none⟩ = some (.pointer (some ⟨D, 0, none⟩)) := cell_of_row w4 Jb 0 _ _ (0, 0) hj4; have g1 : w4.cell? ⟨Jb, 1, none⟩ = some (.string s) := cell_of_row w4 Jb 1 _ _ (0, 0) hj4; have g2 : w4.cell? ⟨Jb, 2, none⟩ = some (.int .i64 zn) := cell_of_row w4 Jb 2 _ _ (0, 0) hj4; have g3 : w4.cell? ⟨Jb, 3, none⟩ = some (.int .u32 c) := cell_of_row w4 Jb 3 _ _ (0, 0) hj4; have HJ4 := Lib.hid hj4; have l2 := frozen_row hj4 2; have l3 := frozen_row hj4 3; clear ht4 hs4 hj4))
        have HS9 := Lib.hid ((H.out.stay HB3.out).trans ((H.out.later HB3.out).stay (Below.refl _ w3).drew |>.trans HST.out fun _ h => h) fun _ h => h)
        by_cases h5 : e9 = 0
        · subst h5
          go_wp2_with fail
          go_ret
          unfold AddEnd Dm.add
          rw [← HM.out, if_neg h1, ← HZ.out, if_neg (by simp), if_neg (by simp), ← HX.out, if_pos rfl]
          refine ⟨rfl, (T.out.putC Jb 2 _ hK).putC Jb 3 _ hK, ?_, ?_⟩
          · have e1 := heap_setCell_same w4 Jb 2 _ _ (.int .i64 ((zn : Int) + (n8 : Int))) HJ4.out
            have e2 := heap_setCell_same _ Jb 3 _ _ (.int .u32 (nextC c r : Nat)) e1
            have e3 : ((zn : Int) + (n8 : Int)) = ((zn + (m + 8) : Nat) : Int) := by have := HN8.out; omega
            unfold Journ
            rw [← e3]
            exact e2
          · exact ⟨HS9.out.os, HS9.out.tape, HS9.out.output, by simpa using HS9.out.size, fun g hg => by
              rw [Below.heap_setCell _ _ _ _ hg.2, Below.heap_setCell _ _ _ _ hg.2]
              exact HS9.out.block g hg.1⟩
        · have h5I : ¬ ((e9 : Int) = 0) := by omega
          go_wp2_with fail
          go_ret
          unfold AddEnd Dm.add
          rw [← HM.out, if_neg h1, ← HZ.out, if_neg (by simp), if_neg (by simp), ← HX.out, if_neg h5]
          exact ⟨rfl, T.out, HJ4.out, HS9.out.less fun g hg => hg.1⟩
      · have h3I : ¬ ((zn : Int) = (long : Int)) := by omega
        go_enter Tryd.func15, Tryd.ntmps15
        go_wp2_with (go_at_call 38; refine HT.out.mono ?_; rintro e w9 ⟨rfl, rfl⟩)
        go_region_held3 (fun w' => w'.cell? ⟨Jb, 0, none⟩ = some (.pointer (some ⟨D, 0, none⟩)) ∧ w'.cell? ⟨Jb, 1, none⟩ = some (.string s)) (first | exact ⟨c0, c1⟩ | exact ⟨k0, k1⟩) ((go_at_call 30; refine (HS.out _ hb0).mono ?_; rintro _ w2 ⟨rfl, hb2⟩; have HB := Lib.hid hb2; replace hb2 := below_on hb0 hb2; have k0 := cell_on c0 hb2; have k1 := cell_on c1 hb2; have k2 := cell_on c2 hb2; have k3 := cell_on c3 hb2; clear hb2))
        go_wp2_with fail
        go_ret
        unfold AddEnd Dm.add
        rw [← HM.out, if_neg h1, ← HZ.out, if_neg (by simp), if_pos h3]
        have hb := below_on (Below.refl _ w9).drew HB.out
        exact ⟨rfl, H.out.later hb, heap_on hb HJ.out, (H.out.stay hb).less fun g hg => hg.1⟩
    · have h2I : ¬ ((ze : Int) = 0) := by omega
      go_enter Tryd.func15, Tryd.ntmps15
      go_wp2_with (go_at_call 38; refine HT.out.mono ?_; rintro e w9 ⟨rfl, rfl⟩)
      go_region_held3 (fun w' => w'.cell? ⟨Jb, 0, none⟩ = some (.pointer (some ⟨D, 0, none⟩)) ∧ w'.cell? ⟨Jb, 1, none⟩ = some (.string s)) (first | exact ⟨c0, c1⟩ | exact ⟨k0, k1⟩) ((go_at_call 30; refine (HS.out _ hb0).mono ?_; rintro _ w2 ⟨rfl, hb2⟩; have HB := Lib.hid hb2; replace hb2 := below_on hb0 hb2; have k0 := cell_on c0 hb2; have k1 := cell_on c1 hb2; have k2 := cell_on c2 hb2; have k3 := cell_on c3 hb2; clear hb2))
      go_wp2_with fail
      go_ret
      unfold AddEnd Dm.add
      rw [← HM.out, if_neg h1, ← HZ.out, if_pos h2]
      have hb := below_on (Below.refl _ w9).drew HB.out
      exact ⟨rfl, H.out.later hb, heap_on hb HJ.out, (H.out.stay hb).less fun g hg => hg.1⟩
set_option maxRecDepth 20000 in
set_option maxHeartbeats 4000000 in
theorem JSync_any {K : Nat → Prop} {w : World} {base D Jb : Nat} {M : Dm} {s : ByteArray} {long c : Nat} (h : OneK K w base D M) (hK : K Jb) (hj : Journ w Jb D s long c) (hs : s.size ≤ 140737488355328) {N : Dm} {e9 : Nat} (hx : M.sync s = (N, e9)) :
    Calls Tryd.prog 37 #[.pointer (some ⟨Jb, 0, none⟩)] w fun e w' => e = .returned (.int .i64 e9) ∧ OneK K w' base D N ∧ Stay K w w' := by
  have HT := Lib.hid (there_any hj)
  have HJ := Lib.hid hj
  have H := Lib.hid h
  have HX := Lib.hid hx
  have c0 : w.cell? ⟨Jb, 0, none⟩ = some (.pointer (some ⟨D, 0, none⟩)) := cell_of_row w Jb 0 _ _ (0, 0) hj
  have c1 : w.cell? ⟨Jb, 1, none⟩ = some (.string s) := cell_of_row w Jb 1 _ _ (0, 0) hj
  have HT2 := Lib.hid (h.later (Below.refl _ w).drew)
  have hb0 : Below w.heap.size w w.drew := (Below.refl _ w).drew
  have HS0 := Lib.hid (h.stay hb0)
  clear hj h hx
  go_enter Tryd.func37, Tryd.ntmps37
  go_wp2_with (go_at_call 38; refine HT.out.mono ?_; rintro e w9 ⟨rfl, rfl⟩)
  go_region_held3 (fun w' => w'.cell? ⟨Jb, 0, none⟩ = some (.pointer (some ⟨D, 0, none⟩)) ∧ w'.cell? ⟨Jb, 1, none⟩ = some (.string s)) (first | exact ⟨c0, c1⟩ | exact ⟨g0, g1⟩) ((go_at_call 21; refine (HT2.out.act (e9 : Int) HX.out rfl fun S hS => Sync_any hS s hs).mono ?_; rintro _ w4 ⟨rfl, ht4, hs4⟩; have T := Lib.hid ht4; have HST := Lib.hid hs4; have hj4 := (hs4.block Jb hK).trans HJ.out; have g0 : w4.cell? ⟨Jb, 0, none⟩ = some (.pointer (some ⟨D, 0, none⟩)) := cell_of_row w4 Jb 0 _ _ (0, 0) hj4; have g1 : w4.cell? ⟨Jb, 1, none⟩ = some (.string s) := cell_of_row w4 Jb 1 _ _ (0, 0) hj4; clear ht4 hs4 hj4))
  go_wp2_with fail
  go_ret
  exact ⟨rfl, T.out, HS0.out.trans HST.out fun _ h => h⟩
end Go.Proofs.YtjfejpdeccnlnaaDoor
namespace Go.Proofs.YtjfejpdeccnlnaaDoor
open Go.ChangeShapes Go.WideShapes Go.ChangeAt Go.RowKit

theorem nameOk_le {s : ByteArray} (h : nameOk s = true) : s.size ≤ 140737488355328 := by have := nameOk_size h; omega
theorem new0_size (n : Nat) {s : ByteArray} (hs : nameOk s = true) : (new0 n).sizeE s = (0, 7) := by
  unfold Dm.sizeE Dm.why
  rw [show (new0 n).now = free64 from rfl, find_free63 (nameOk_ne hs), hs]
  rfl
/-- Open, of a new disk. -/
theorem Open_new {K : Nat → Prop} {w : World} {base D n : Nat} {s : ByteArray} (h : OneK K w base D (new0 n)) (hs : nameOk s = true) :
    Calls Tryd.prog 10 #[.pointer (some ⟨D, 0, none⟩), .string s] w fun e w' => ∃ Jb a c, e = .returned (.tuple #[.pointer (some ⟨Jb, 0, none⟩), .slice a 0 c, .int .i64 0]) ∧
      Journ w' Jb D s 0 firstC ∧ OneK (fun g => K g ∨ g = Jb) w' base D (jd n s [] 0 free64) ∧ Stay K w w' ∧ w.heap.size ≤ Jb ∧ PartsAt w' (.slice a 0 c) [] := by
  have hr : ((jd n s [] 0 free64).readE s 0 0).1 = [] := congrArg Prod.fst (jd_read (n := n) (l := []) (m := 0) (t := free64) hs)
  have h1 := Open_made h s (nameOk_le hs) (new0_size n hs) (jd_create hs) hr
  rw [recs_nil] at h1
  refine h1.mono ?_
  rintro e w' ⟨Jb, a, c, rfl, hj, hp, ht, hst, hle⟩
  exact ⟨Jb, a, c, rfl, hj, ht, hst, hle, hp⟩
/-- Open, of a file that is there. -/
theorem Open_jd {K : Nat → Prop} {w : World} {base D n m : Nat} {s : ByteArray} {b : List Nat} {t : List Pl} (h : OneK K w base D (jd n s b m t)) (hs : nameOk s = true) {L : List (List Nat × Nat)} (hL : recs firstC b = L) {q : Nat} (hq : q = L.length) :
    Calls Tryd.prog 10 #[.pointer (some ⟨D, 0, none⟩), .string s] w fun e w' => ∃ Jb a c, e = .returned (.tuple #[.pointer (some ⟨Jb, 0, none⟩), .slice a q c, .int .i64 0]) ∧
      Journ w' Jb D s (longR L) (lastR L) ∧ OneK (fun g => K g ∨ g = Jb) w' base D (jd n s b m t) ∧ Stay K w w' ∧ w.heap.size ≤ Jb ∧ PartsAt w' (.slice a q c) (L.map Prod.fst) := by
  subst hq hL
  refine (Open_there h s (nameOk_le hs) (jd_size hs) (b := b) (by rw [jd_read hs])).mono ?_
  rintro e w' ⟨Jb, a, c, rfl, hj, hp, ht, hst, hle⟩
  exact ⟨Jb, a, c, rfl, hj, ht, hst, hle, hp⟩
/-- A journal that is whole, of these records. -/
structure Whole (K : Nat → Prop) (w : World) (base D Jb n : Nat) (s : ByteArray) (m : Nat) (t : List Pl) (R : List (List Nat)) : Prop where
  disk : OneK K w base D (jd n s (laidAll firstC R) m t)
  jour : Journ w Jb D s (laidAll firstC R).length (lastC firstC R)
  held : K Jb
  recs : ∀ r ∈ R, Bytes r ∧ r.length ≤ 65536
  name : nameOk s = true
  le : (laidAll firstC R).length ≤ 1048576
theorem Whole.later {K : Nat → Prop} {w w' : World} {base D Jb n : Nat} {s : ByteArray} {m : Nat} {t : List Pl} {R : List (List Nat)} (h : Whole K w base D Jb n s m t R) (hb : Below w.heap.size w w') : Whole K w' base D Jb n s m t R :=
  ⟨h.disk.later hb, heap_on hb h.jour, h.held, h.recs, h.name, h.le⟩
theorem Whole.add {K : Nat → Prop} {w : World} {base D Jb n : Nat} {s : ByteArray} {m : Nat} {t : List Pl} {R : List (List Nat)} (h : Whole K w base D Jb n s m t R) {v : Value} {r : List Nat} (hv : KAt .u8 w v r) (hb : Bytes r) (hr : r.length ≤ 65536) (hf : r.length + 8 ≤ n - (laidAll firstC R).length ∧ (laidAll firstC R).length + (r.length + 8) ≤ 1048576) :
    Calls Tryd.prog 15 #[.pointer (some ⟨Jb, 0, none⟩), v] w fun e w' => e = .returned (.int .i64 0) ∧ Whole K w' base D Jb n s m t (R ++ [r]) ∧ Stay (fun g => K g ∧ g ≠ Jb) w w' := by
  have hc : lastC firstC R < 4294967296 := lastC_lt R (by decide) fun r hr => (h.recs r hr).1
  refine (Add_any h.disk h.held h.jour (nameOk_le h.name) h.le hc hv hb).mono ?_
  rintro e w' ⟨h1, h2, h3, h4⟩
  rw [jd_add h.name R r hr, if_pos hf] at h1 h2 h3
  refine ⟨h1, ⟨h2, h3, h.held, fun x hx => ?_, h.name, ?_⟩, h4⟩
  · rcases List.mem_append.1 hx with hx | hx
    · exact h.recs x hx
    · simp only [List.mem_cons, List.not_mem_nil, or_false] at hx
      subst hx
      exact ⟨hb, hr⟩
  · rw [laidAll_append, List.length_append, laidAll, laidAll, List.append_nil, laidR_length]
    exact hf.2
theorem Whole.full {K : Nat → Prop} {w : World} {base D Jb n : Nat} {s : ByteArray} {m : Nat} {t : List Pl} {R : List (List Nat)} (h : Whole K w base D Jb n s m t R) {v : Value} {r : List Nat} (hv : KAt .u8 w v r) (hb : Bytes r) (hr : r.length ≤ 65536) (hf : ¬ (r.length + 8 ≤ n - (laidAll firstC R).length ∧ (laidAll firstC R).length + (r.length + 8) ≤ 1048576)) :
    Calls Tryd.prog 15 #[.pointer (some ⟨Jb, 0, none⟩), v] w fun e w' => e = .returned (.int .i64 6) ∧ Whole K w' base D Jb n s m t R ∧ Stay (fun g => K g ∧ g ≠ Jb) w w' := by
  have hc : lastC firstC R < 4294967296 := lastC_lt R (by decide) fun r hr => (h.recs r hr).1
  refine (Add_any h.disk h.held h.jour (nameOk_le h.name) h.le hc hv hb).mono ?_
  rintro e w' ⟨h1, h2, h3, h4⟩
  rw [jd_add h.name R r hr, if_neg hf] at h1 h2 h3
  exact ⟨h1, ⟨h2, h3, h.held, h.recs, h.name, h.le⟩, h4⟩
theorem Whole.reopen {K : Nat → Prop} {w : World} {base D n m : Nat} {s : ByteArray} {t : List Pl} {R : List (List Nat)} (h : OneK K w base D (jd n s (laidAll firstC R) m t)) (hs : nameOk s = true) (hR : ∀ r ∈ R, Bytes r ∧ r.length ≤ 65536) (hle : (laidAll firstC R).length ≤ 1048576) {q : Nat} (hq : q = R.length) :
    Calls Tryd.prog 10 #[.pointer (some ⟨D, 0, none⟩), .string s] w fun e w' => ∃ Jb a c, e = .returned (.tuple #[.pointer (some ⟨Jb, 0, none⟩), .slice a q c, .int .i64 0]) ∧
      Whole (fun g => K g ∨ g = Jb) w' base D Jb n s m t R ∧ Stay K w w' ∧ w.heap.size ≤ Jb ∧ PartsAt w' (.slice a q c) R := by
  refine (Open_jd h hs (recs_all fun r hr => (hR r hr).2) (q := q) (by rw [withC_length, hq])).mono ?_
  rintro e w' ⟨Jb, a, c, rfl, hj, ht, hst, hle', hp⟩
  rw [withC_long, withC_lastR] at hj
  rw [withC_fst] at hp
  exact ⟨Jb, a, c, rfl, ⟨ht, hj, .inr rfl, hR, hs, hle⟩, hst, hle', hp⟩
theorem Whole.new {K : Nat → Prop} {w : World} {base D n : Nat} {s : ByteArray} (h : OneK K w base D (new0 n)) (hs : nameOk s = true) :
    Calls Tryd.prog 10 #[.pointer (some ⟨D, 0, none⟩), .string s] w fun e w' => ∃ Jb a c, e = .returned (.tuple #[.pointer (some ⟨Jb, 0, none⟩), .slice a 0 c, .int .i64 0]) ∧
      Whole (fun g => K g ∨ g = Jb) w' base D Jb n s 0 free64 [] ∧ Stay K w w' ∧ w.heap.size ≤ Jb ∧ PartsAt w' (.slice a 0 c) [] := by
  refine (Open_new h hs).mono ?_
  rintro e w' ⟨Jb, a, c, rfl, hj, ht, hst, hle', hp⟩
  exact ⟨Jb, a, c, rfl, ⟨ht, hj, .inr rfl, fun r hr => (by cases hr), hs, by simp [laidAll]⟩, hst, hle', hp⟩
end Go.Proofs.YtjfejpdeccnlnaaDoor
namespace Go.Proofs.YtjfejpdeccnlnaaDoor
open Go.ChangeShapes Go.WideShapes Go.ChangeAt Go.RowKit

theorem laidAll_take (R : List (List Nat)) (c k : Nat) : (laidAll c (R.take k)).length ≤ (laidAll c R).length := by
  rw [laid_cut R c k, List.length_append]
  omega
set_option maxRecDepth 20000 in
set_option maxHeartbeats 4000000 in
theorem kept_any {w : World} {v : Value} {L : List (List Nat)} (n : Nat) (hn1 : 1 ≤ n) (hn2 : n ≤ 8388608) (hv : PartsAt w v L) (hL : ∀ r ∈ L, Bytes r ∧ r.length ≤ 65536) (hz : (laidAll firstC L).length ≤ n ∧ (laidAll firstC L).length ≤ 1048576) :
    Calls Tryd.prog 19 #[.int .i64 n, v] w fun e w' => ∃ D, e = .returned (.tuple #[.pointer (some ⟨D, 0, none⟩), .bool true]) ∧ OneK (fun g => g < w.heap.size) w' w.heap.size D (jd n ⟨#[106]⟩ (laidAll firstC L) 0 free64) ∧ Below w.heap.size w w' ∧ w.heap.size ≤ D := by
  have hv' := hv
  obtain ⟨ao, cap, rfl, hc1, hc2, hc3, hc4⟩ := hv'
  unfold maxLen at hc2
  obtain ⟨m, hm⟩ : ∃ m, m = L.length := ⟨_, rfl⟩
  have HM := Lib.hid hm
  have HV := Lib.hid hv
  have HL := Lib.hid hL
  have HZ := Lib.hid hz
  have H4 := Lib.hid hc4
  rw [← hm] at hc1 H4 ⊢
  have hm9 : (m : Int) ≤ 9223372036854775807 := by omega
  clear hc3 hc4 hm hv hL hz
  go_enter Tryd.func19, Tryd.ntmps19
  go_wp2_with fail
  refine (New_yes n w hn1 hn2).mono ?_
  rintro _ w1 ⟨rfl, hd, hb⟩
  have T := Lib.hid (OneK.new hd)
  have B := Lib.hid hb
  obtain ⟨D, hD⟩ : ∃ D, D = w.heap.size := ⟨_, rfl⟩
  have HD := Lib.hid hD
  rw [← hD] at T ⊢
  clear hd hb hD
  go_wp2_with fail
  refine (Whole.new T.out (s := ⟨#[106]⟩) (by decide)).mono ?_
  rintro _ w2 ⟨Jb, a2, c2, rfl, hw, hst, hJ, _⟩
  have hJ' : w.heap.size ≤ Jb := Nat.le_trans B.out.size hJ
  have B := Lib.hid (B.out.trans (hst.below (base := w.heap.size) fun g hg => by rw [HD.out]; exact hg))
  have HW := Lib.hid hw
  clear hst hw hJ
  go_wp2_with fail
  go_loopw [11, 12] (fun ok i wr => ∃ k : Nat, k ≤ m ∧ i = .int .i64 k ∧ ok = .bool true ∧ Hid (Whole (fun g => g < D ∨ g = Jb) wr D D Jb n ⟨#[106]⟩ 0 free64 (L.take k)) ∧ Hid (Below w.heap.size w wr)) (fun _ i _ => m - (intOf i).toNat)
  case atStart => exact ⟨0, Nat.zero_le _, rfl, rfl, HW, B⟩
  case round =>
    obtain ⟨k, hk, rfl, rfl, HW, HB⟩ := hrel
    by_cases hlt : k < m
    · have hltI : (k : Int) < (m : Int) := by omega
      have hl9 : k < L.length := by rw [← HM.out]; exact hlt
      obtain ⟨s, hs⟩ : ∃ s, L[k]? = some s := ⟨_, List.getElem?_eq_getElem hl9⟩
      have HVR := (HV.out.later HB.out)
      obtain ⟨ao', cap', e9, _, _, _, hc4'⟩ := HVR
      rw [← HM.out] at e9 hc4'
      cases e9
      obtain ⟨b, o, rfl, hcell⟩ := hc4' (by omega)
      obtain ⟨u, hu, hku⟩ := hcell k s hs
      have hsL := HL.out s (List.mem_of_getElem? hs)
      have htk : L.take (k + 1) = L.take k ++ [s] := by rw [List.take_add_one, hs]; rfl
      have hfit := laidAll_take L firstC (k + 1)
      rw [htk, laidAll_append, List.length_append, laidAll, laidAll, List.append_nil, laidR_length] at hfit
      have HA := Lib.hid (HW.out.add hku hsL.1 hsL.2 (by have := HZ.out; omega))
      have HTK := Lib.hid htk
      clear hcell hs hku hsL htk hfit hc4' hl9
      go_wp2_with fail
      refine HA.out.mono ?_
      rintro _ w3 ⟨rfl, hw3, hst3⟩
      have HW3 := Lib.hid hw3
      have HB3 := Lib.hid (HB.out.trans (hst3.below (base := w.heap.size) fun g hg => ⟨.inl (by rw [HD.out]; exact hg), by omega⟩))
      clear hw3 hst3
      go_wp2_with fail
      go_roundw
      case rel => exact ⟨k + 1, by omega, by go_num, rfl, by rw [HTK.out]; exact HW3, HB3⟩
      case measure => simp [intOf]; omega
    · obtain rfl : k = m := by omega
      have hltI : ¬ ((k : Int) < (k : Int)) := by omega
      go_wp2_with fail
      go_ret2
      have hT := HW.out.disk
      rw [List.take_of_length_le (by rw [HM.out]; exact Nat.le_refl _)] at hT
      rw [← HD.out]
      exact ⟨D, rfl, hT.lessC fun g hg => .inl hg, by rw [HD.out]; exact HB.out, Nat.le_refl _⟩
set_option maxRecDepth 20000 in
set_option maxHeartbeats 4000000 in
theorem told_any {w : World} {vb v : Value} {b : List Nat} {L : List (List Nat)} (hb : KAt .u8 w vb b) (hb8 : Bytes b) (hbl : b.length ≤ 1048576) (hv : PartsAt w v L) :
    Calls Tryd.prog 18 #[vb, v] w fun e w' => e = .returned (.bool (decide (told b = L))) ∧ Below w.heap.size w w' := by
  have HB8 := Lib.hid hb
  have HV := Lib.hid hv
  have HL := Lib.hid hbl
  have hb' := hb
  obtain ⟨ao, cap, rfl, _⟩ := hb'
  obtain ⟨m, hm⟩ : ∃ m, m = b.length := ⟨_, rfl⟩
  rw [← hm] at HB8 ⊢
  have hv' := hv
  obtain ⟨vo, vcap, rfl, _⟩ := hv'
  obtain ⟨q, hq⟩ : ∃ q, q = L.length := ⟨_, rfl⟩
  rw [← hq] at HV ⊢
  clear hb hv hm hq hbl
  go_enter Tryd.func18, Tryd.ntmps18
  go_wp2_with fail
  refine (New_yes 2000000 w (by decide) (by decide)).mono ?_
  rintro _ w1 ⟨rfl, hd, hb⟩
  have T := Lib.hid (OneK.new hd)
  have B := Lib.hid hb
  obtain ⟨D, hD⟩ : ∃ D, D = w.heap.size := ⟨_, rfl⟩
  have HD := Lib.hid hD
  rw [← hD] at T ⊢
  clear hd hb hD
  go_wp2_with fail
  refine (T.out.act 0 (jd_create (s := ⟨#[120]⟩) (by decide)) rfl fun S hS => Create_any hS ⟨#[120]⟩ (by decide)).mono ?_
  rintro _ w2 ⟨rfl, ht, hst⟩
  have T := Lib.hid ht
  have B := Lib.hid (B.out.trans (hst.below (base := w.heap.size) fun g hg => by rw [HD.out]; exact hg))
  clear ht hst
  go_wp2_with fail
  refine (T.out.act 0 ((jd_append (by decide) b).trans (if_pos ⟨by have := HL.out; simp; omega, by have := HL.out; simp; omega⟩)) rfl fun S hS => Append_any hS ⟨#[120]⟩ (by decide) (HB8.out.later B.out) hb8).mono ?_
  rintro _ w3 ⟨rfl, ht, hst⟩
  have T := Lib.hid ht
  have B := Lib.hid (B.out.trans (hst.below (base := w.heap.size) fun g hg => by rw [HD.out]; exact hg))
  clear ht hst
  rw [List.nil_append] at T
  obtain ⟨Q, hQ⟩ : ∃ Q, recs firstC b = Q := ⟨_, rfl⟩
  obtain ⟨n9, hn9⟩ : ∃ n9, n9 = Q.length := ⟨_, rfl⟩
  have HO := Lib.hid (Open_jd T.out (by decide) hQ hn9)
  have HQ := Lib.hid hQ
  clear hQ hn9
  go_wp2_with fail
  refine HO.out.mono ?_
  rintro _ w4 ⟨Jb, a4, c4, rfl, hj, ht, hst, hJ, hp⟩
  have HP := Lib.hid hp
  have B := Lib.hid (B.out.trans (hst.below (base := w.heap.size) fun g hg => by rw [HD.out]; exact hg))
  clear hj ht hst hJ hp HO
  go_wp2_with fail
  refine (SameRecs_any w4 HP.out (HV.out.later B.out)).mono ?_
  rintro _ w5 ⟨rfl, n5, hw5⟩
  have B := Lib.hid (show Below w.heap.size w w5 by rw [hw5]; exact below_on B.out (below_drewN9 w4 n5))
  clear hw5
  go_wp2_with fail
  go_ret
  refine ⟨?_, B.out⟩
  unfold told
  rw [HQ.out]
  rfl
set_option maxRecDepth 20000 in
set_option maxHeartbeats 4000000 in
theorem end_any {w : World} {v : Value} {L : List (List Nat)} {k z : Nat} (hv : PartsAt w v L) (hk : k ≤ L.length) (hk9 : k ≤ 1000000) (hL : ∀ r ∈ L, r.length ≤ 1000000) (hz : endN L k = z) :
    Calls Tryd.prog 17 #[v, .int .i64 k] w fun e w' => e = .returned (.int .i64 z) ∧ w = w' := by
  have HV := Lib.hid hv
  have hv' := hv
  obtain ⟨ao, cap, rfl, hc1, hc2, hc3, hc4⟩ := hv'
  unfold maxLen at hc2
  obtain ⟨m, hm⟩ : ∃ m, m = L.length := ⟨_, rfl⟩
  have HM := Lib.hid hm
  have HL := Lib.hid hL
  have HZ := Lib.hid hz
  rw [← hm] at hc1 hc4 hk ⊢
  have H4 := Lib.hid hc4
  have hm9 : (m : Int) ≤ 9223372036854775807 := by omega
  have hkI : (k : Int) ≤ 1000000 := by omega
  clear hc3 hc4 hm hv hL hz
  go_enter Tryd.func17, Tryd.ntmps17
  go_wp2_with fail
  go_loop [5, 6] (fun n i => ∃ j y : Nat, j ≤ k ∧ i = .int .i64 j ∧ n = .int .i64 y ∧ y ≤ 8 * k + 1000000 * j ∧ Hid (y = 8 * k + ((L.take j).map List.length).sum)) (fun _ i => k - (intOf i).toNat)
  case atStart => exact ⟨0, 8 * k, Nat.zero_le _, rfl, by go_num, by omega, Lib.hid (by simp)⟩
  case round =>
    obtain ⟨j, y, hj, rfl, rfl, hy, HY⟩ := hrel
    have hyI : (y : Int) ≤ 8 * 1000000 + 1000000 * 1000000 := by omega
    by_cases hlt : j < k
    · have hltI : (j : Int) < (k : Int) := by omega
      have hjm : (j : Int) < (m : Int) := by omega
      obtain ⟨s, hs⟩ : ∃ s, L[j]? = some s := ⟨_, List.getElem?_eq_getElem (by rw [← HM.out]; omega)⟩
      obtain ⟨b, o, rfl, hcell⟩ := H4.out (by omega)
      obtain ⟨u, hu, hku⟩ := hcell j s hs
      obtain ⟨ua, uc, rfl, _⟩ := hku
      obtain ⟨q, hq⟩ : ∃ q, q = s.length := ⟨_, rfl⟩
      have hsl := HL.out s (List.mem_of_getElem? hs)
      rw [← hq] at hu hsl
      have htk : ((L.take (j + 1)).map List.length).sum = ((L.take j).map List.length).sum + q := by rw [List.take_add_one, hs, hq]; simp
      have HTK := Lib.hid htk
      have hqI : (q : Int) ≤ 1000000 := by omega
      clear hcell hs hq htk
      go_wp2
      go_round
      case rel => exact ⟨j + 1, y + q, by omega, by go_num, by go_num, by omega, Lib.hid (by rw [HTK.out, HY.out]; omega)⟩
      case measure => simp [intOf]; omega
    · obtain rfl : j = k := by omega
      have hltI : ¬ ((j : Int) < (j : Int)) := by omega
      go_wp2
      go_ret
      refine ⟨?_, rfl⟩
      have e : y = z := by
        rw [HY.out, ← HZ.out]
        have hgen : ∀ l : List (List Nat), (l.map fun r => r.length + 8).sum = 8 * l.length + (l.map List.length).sum := fun l => by
          induction l with
          | nil => rfl
          | cons a l ih => simp only [List.map_cons, List.sum_cons, List.length_cons, ih]; omega
        unfold endN
        rw [hgen, List.length_take, ← HM.out]
        omega
      rw [e]
      rfl
/-- The check ahead of a place. -/
def checkS (b : List Nat) (at_ : Nat) : ByteArray := if at_ < 4 then ⟨#[255, 255, 255, 255]⟩ else bstr ((b.drop (at_ - 4)).take 4)
set_option maxRecDepth 20000 in
set_option maxHeartbeats 4000000 in
theorem check_any {w : World} {v : Value} {b : List Nat} {k : Nat} {z : ByteArray} (hv : KAt .u8 w v b) (hk : k ≤ b.length) (hz : checkS b k = z) :
    Calls Tryd.prog 20 #[v, .int .i64 k] w fun e w' => e = .returned (.string z) ∧ w = w' := by
  have HV := Lib.hid hv
  have HZ := Lib.hid hz
  have hv' := hv
  obtain ⟨ao, cap, rfl, hc1, hc2, _, _⟩ := hv'
  unfold maxLen at hc2
  obtain ⟨m, hm⟩ : ∃ m, m = b.length := ⟨_, rfl⟩
  have HM := Lib.hid hm
  rw [← hm] at hc1 hk HV ⊢
  have hkI : (k : Int) ≤ (m : Int) := by omega
  have hm9 : (m : Int) ≤ 9223372036854775807 := by omega
  clear hm hv hz
  by_cases h4 : k < 4
  · have h4I : (k : Int) < 4 := by omega
    go_enter Tryd.func20, Tryd.ntmps20
    go_wp2
    go_ret
    refine ⟨?_, rfl⟩
    rw [← HZ.out, checkS, if_pos h4]
    rfl
  · have h4I : ¬ ((k : Int) < 4) := by omega
    have h5I : ¬ ((m : Int) < (k : Int)) := by omega
    obtain ⟨a9, c9, ks, hk9⟩ := slice_mid HV.out (k - 4) k (by omega) (by rw [← HM.out]; omega)
    rw [show k - (k - 4) = 4 by omega] at ks hk9
    have hcv := conv_any hk9
    rw [show ((k - 4 : Nat) : Int) = (k : Int) - 4 by omega] at ks
    have HCV := Lib.hid hcv
    have HKS := Lib.hid ks
    clear hk9 hcv ks
    have ks := HKS.out
    have hcv := HCV.out
    go_enter Tryd.func20, Tryd.ntmps20
    go_wp2
    go_ret
    refine ⟨?_, rfl⟩
    rw [← HZ.out, checkS, if_neg h4]
    rfl
end Go.Proofs.YtjfejpdeccnlnaaDoor
