/- Layer 17 (files): a disk with which some things were done. -/
import Derived.Test.YtjaganoidfohaaaDoorGreat
namespace Go.Proofs.YtjaganoidfohaaaDoor
open Go.ChangeShapes Go.WideShapes Go.ChangeAt Go.RowKit

/-- One thing more is done. -/
def stepM (M : Dm) (a : Ac) : Dm :=
  if a.kind % 10 = 1 then (M.remove a.name).1 else if a.kind % 10 = 2 then (M.rename a.name a.to_).1 else if a.kind % 10 = 3 ∨ a.kind % 10 = 4 ∨ a.kind % 10 = 5 then (M.append a.name a.b).1
  else if a.kind % 10 = 6 then (M.sync a.name).1 else if a.kind % 10 = 7 then M.names else (M.create a.name).1
def doneM (l : List Ac) : Dm := l.foldl stepM (new0 2000000)
theorem done_take {l : List Ac} {k : Nat} {a : Ac} (h : l[k]? = some a) : doneM (l.take (k + 1)) = stepM (doneM (l.take k)) a := by
  unfold doneM
  rw [List.take_add_one, h]
  simp
set_option linter.unusedSimpArgs false in
set_option linter.unusedVariables false in
set_option maxRecDepth 20000 in
set_option maxHeartbeats 4000000 in
theorem done_any (l : List Ac) {v : Value} (w : World) (h : ActsAt w v l) (hg : great l = false) :
    Calls Tryd.prog 18 #[v] w fun e w' => e = .returned (.pointer (some ⟨w.heap.size, 0, none⟩)) ∧ (∃ S, Dk w' w.heap.size w.heap.size (doneM l) S) ∧ Below w.heap.size w w' := by
  obtain ⟨C, hC⟩ : ∃ C, C = w.heap.size := ⟨_, rfl⟩
  have HC := Lib.hid hC
  clear hC
  have HA := Lib.hid h
  clear h
  obtain ⟨ao, cap, hv, hc1, hc2, hc3, hc4⟩ := HA.out
  unfold maxLen at hc2
  obtain ⟨m, hm⟩ : ∃ m, m = l.length := ⟨_, rfl⟩
  have HM := Lib.hid hm
  rw [← hm] at hc1 hc4 hv
  have H3 := Lib.hid hc3
  have H4 := Lib.hid hc4
  subst hv
  clear hc3 hc4 hm
  have hm9 : (m : Int) ≤ 9223372036854775807 := by omega
  go_enter Tryd.func18, Tryd.ntmps18
  go_wp2_with fail
  refine (New_yes 2000000 w (by decide) (by decide)).mono ?_
  rintro _ w1 ⟨rfl, hd, hb⟩
  rw [← HC.out] at hd ⊢
  have T := Lib.hid (OneK.new hd)
  have HA1 := Lib.hid (HA.out.later hb)
  have B := Lib.hid hb
  clear hb hd
  go_wp2_with fail
  refine (Great_any l w1 HA1.out).mono ?_
  rintro _ w2 ⟨rfl, n, rfl⟩
  rw [hg]
  have T := Lib.hid (T.out.later (below_drewN9 w1 n))
  have B := Lib.hid (below_on B.out (below_drewN9 w1 n))
  clear HA1
  go_wp2_with fail
  go_loopw [5] (fun i wr => ∃ k : Nat, k ≤ m ∧ i = .int .i64 k ∧ Hid (OneK (fun g => g < C) wr C C (doneM (l.take k))) ∧ Below w.heap.size w wr) (fun i _ => m - (intOf i).toNat)
  case atStart => exact ⟨0, Nat.zero_le _, rfl, T, B.out⟩
  case round =>
    obtain ⟨k, hk, rfl, T, hb⟩ := hrel
    have B := Lib.hid hb
    by_cases hlt : k < m
    · obtain ⟨a, ha⟩ : ∃ a, l[k]? = some a := ⟨_, List.getElem?_eq_getElem (by rw [← HM.out]; exact hlt)⟩
      obtain ⟨b, o, rfl, hcell⟩ := H4.out (by omega)
      obtain ⟨hok, hkv⟩ := H3.out a (List.mem_of_getElem? ha)
      have HK := Lib.hid (hkv.later hb)
      have HO := Lib.hid hok
      obtain ⟨ab, ac, hav, _, _, _, _⟩ := hkv
      have c0 := cell_on (hcell k a ha 0 _ rfl) hb
      rw [Nat.add_zero] at c0
      have c1 := cell_on (hcell k a ha 1 _ rfl) hb
      have c2 := cell_on (hcell k a ha 2 _ rfl) hb
      have c3 := cell_on (hcell k a ha 3 _ rfl) hb
      have c4 := cell_on (hcell k a ha 4 _ rfl) hb
      have c5 := cell_on (hcell k a ha 5 _ rfl) hb
      have c6 := cell_on (hcell k a ha 6 _ rfl) hb
      have HD := Lib.hid (done_take ha)
      have HS1 := Lib.hid (show a.name.size ≤ 140737488355328 by have := hok.name; omega)
      have HS2 := Lib.hid (show a.to_.size ≤ 140737488355328 by have := hok.to_; omega)
      have hk9 := hok.kind
      obtain ⟨r, hr⟩ : ∃ r, r = a.kind % 10 := ⟨_, rfl⟩
      have hr9 : r < 10 := by omega
      have er : (a.kind : Int) % 10 = (r : Int) := by omega
      rw [hav] at c3 HK
      have HV := Lib.hid hav
      have HR := Lib.hid hr
      have hbb := hok.b.1
      clear hb hcell hok hav ha hr
      have HB := Lib.hid hbb
      clear hbb
      match r, hr9 with
      | 0, _ =>
        go_wp2_with fail
        obtain ⟨wx, e9⟩ : ∃ wx : World, wx = wr.alloc (.cells #[.int .u8 a.kind, .string a.name, .string a.to_, .slice ab a.b.length ac, .int .i64 a.at_, .int .i64 a.n, .bool a.nm] 79) := ⟨_, rfl⟩
        have hb : Below wr.heap.size wr wx := by rw [e9]; exact (Below.refl _ _).alloc (Nat.le_refl _) _
        rw [← e9]
        clear e9
        have T := Lib.hid (T.out.later hb)
        have HK := Lib.hid (HK.out.later hb)
        have B := Lib.hid (below_on B.out hb)
        clear hb
        obtain ⟨N, hN⟩ : ∃ N, N = doneM (l.take k) := ⟨_, rfl⟩
        rw [← hN] at T HD
        obtain ⟨x, hx⟩ : ∃ x : Dm × Nat, x = N.create a.name := ⟨_, rfl⟩
        have hst : stepM N a = x.1 := by unfold stepM; rw [hx, ← HR.out]; rfl
        rw [hst] at HD
        clear hst hN
        refine (T.out.act x.2 (show N.create a.name = (x.1, x.2) from hx.symm) rfl fun S hS => Create_any hS a.name HS1.out).mono ?_
        rintro _ wy ⟨rfl, ht, hs⟩
        have T := Lib.hid ht
        have B := Lib.hid (B.out.trans (hs.below (base := w.heap.size) (fun g hg => (show g < C by rw [HC.out]; exact hg))))
        clear ht hs hx
        go_wp2_with fail
        go_roundw
        case rel => exact ⟨k + 1, by omega, by go_num, by rw [HD.out]; exact T, B.out⟩
        case measure => simp [intOf]; omega
      | 1, _ =>
        go_wp2_with fail
        obtain ⟨wx, e9⟩ : ∃ wx : World, wx = wr.alloc (.cells #[.int .u8 a.kind, .string a.name, .string a.to_, .slice ab a.b.length ac, .int .i64 a.at_, .int .i64 a.n, .bool a.nm] 79) := ⟨_, rfl⟩
        have hb : Below wr.heap.size wr wx := by rw [e9]; exact (Below.refl _ _).alloc (Nat.le_refl _) _
        rw [← e9]
        clear e9
        have T := Lib.hid (T.out.later hb)
        have HK := Lib.hid (HK.out.later hb)
        have B := Lib.hid (below_on B.out hb)
        clear hb
        obtain ⟨N, hN⟩ : ∃ N, N = doneM (l.take k) := ⟨_, rfl⟩
        rw [← hN] at T HD
        obtain ⟨x, hx⟩ : ∃ x : Dm × Nat, x = N.remove a.name := ⟨_, rfl⟩
        have hst : stepM N a = x.1 := by unfold stepM; rw [hx, ← HR.out]; rfl
        rw [hst] at HD
        clear hst hN
        refine (T.out.act x.2 (show N.remove a.name = (x.1, x.2) from hx.symm) rfl fun S hS => Remove_any hS a.name HS1.out).mono ?_
        rintro _ wy ⟨rfl, ht, hs⟩
        have T := Lib.hid ht
        have B := Lib.hid (B.out.trans (hs.below (base := w.heap.size) (fun g hg => (show g < C by rw [HC.out]; exact hg))))
        clear ht hs hx
        go_wp2_with fail
        go_roundw
        case rel => exact ⟨k + 1, by omega, by go_num, by rw [HD.out]; exact T, B.out⟩
        case measure => simp [intOf]; omega
      | 2, _ =>
        go_wp2_with fail
        obtain ⟨wx, e9⟩ : ∃ wx : World, wx = wr.alloc (.cells #[.int .u8 a.kind, .string a.name, .string a.to_, .slice ab a.b.length ac, .int .i64 a.at_, .int .i64 a.n, .bool a.nm] 79) := ⟨_, rfl⟩
        have hb : Below wr.heap.size wr wx := by rw [e9]; exact (Below.refl _ _).alloc (Nat.le_refl _) _
        rw [← e9]
        clear e9
        have T := Lib.hid (T.out.later hb)
        have HK := Lib.hid (HK.out.later hb)
        have B := Lib.hid (below_on B.out hb)
        clear hb
        obtain ⟨N, hN⟩ : ∃ N, N = doneM (l.take k) := ⟨_, rfl⟩
        rw [← hN] at T HD
        obtain ⟨x, hx⟩ : ∃ x : Dm × Nat, x = N.rename a.name a.to_ := ⟨_, rfl⟩
        have hst : stepM N a = x.1 := by unfold stepM; rw [hx, ← HR.out]; rfl
        rw [hst] at HD
        clear hst hN
        refine (T.out.act x.2 (show N.rename a.name a.to_ = (x.1, x.2) from hx.symm) rfl fun S hS => Rename_any hS a.name a.to_ HS1.out HS2.out).mono ?_
        rintro _ wy ⟨rfl, ht, hs⟩
        have T := Lib.hid ht
        have B := Lib.hid (B.out.trans (hs.below (base := w.heap.size) (fun g hg => (show g < C by rw [HC.out]; exact hg))))
        clear ht hs hx
        go_wp2_with fail
        go_roundw
        case rel => exact ⟨k + 1, by omega, by go_num, by rw [HD.out]; exact T, B.out⟩
        case measure => simp [intOf]; omega
      | 3, _ =>
        go_wp2_with fail
        obtain ⟨wx, e9⟩ : ∃ wx : World, wx = wr.alloc (.cells #[.int .u8 a.kind, .string a.name, .string a.to_, .slice ab a.b.length ac, .int .i64 a.at_, .int .i64 a.n, .bool a.nm] 79) := ⟨_, rfl⟩
        have hb : Below wr.heap.size wr wx := by rw [e9]; exact (Below.refl _ _).alloc (Nat.le_refl _) _
        rw [← e9]
        clear e9
        have T := Lib.hid (T.out.later hb)
        have HK := Lib.hid (HK.out.later hb)
        have B := Lib.hid (below_on B.out hb)
        clear hb
        obtain ⟨N, hN⟩ : ∃ N, N = doneM (l.take k) := ⟨_, rfl⟩
        rw [← hN] at T HD
        obtain ⟨x, hx⟩ : ∃ x : Dm × Nat, x = N.append a.name a.b := ⟨_, rfl⟩
        have hst : stepM N a = x.1 := by unfold stepM; rw [hx, ← HR.out]; rfl
        rw [hst] at HD
        clear hst hN
        refine (T.out.act x.2 (show N.append a.name a.b = (x.1, x.2) from hx.symm) rfl fun S hS => Append_any hS a.name HS1.out HK.out HB.out).mono ?_
        rintro _ wy ⟨rfl, ht, hs⟩
        have T := Lib.hid ht
        have B := Lib.hid (B.out.trans (hs.below (base := w.heap.size) (fun g hg => (show g < C by rw [HC.out]; exact hg))))
        clear ht hs hx
        go_wp2_with fail
        go_roundw
        case rel => exact ⟨k + 1, by omega, by go_num, by rw [HD.out]; exact T, B.out⟩
        case measure => simp [intOf]; omega
      | 4, _ =>
        go_wp2_with fail
        obtain ⟨wx, e9⟩ : ∃ wx : World, wx = wr.alloc (.cells #[.int .u8 a.kind, .string a.name, .string a.to_, .slice ab a.b.length ac, .int .i64 a.at_, .int .i64 a.n, .bool a.nm] 79) := ⟨_, rfl⟩
        have hb : Below wr.heap.size wr wx := by rw [e9]; exact (Below.refl _ _).alloc (Nat.le_refl _) _
        rw [← e9]
        clear e9
        have T := Lib.hid (T.out.later hb)
        have HK := Lib.hid (HK.out.later hb)
        have B := Lib.hid (below_on B.out hb)
        clear hb
        obtain ⟨N, hN⟩ : ∃ N, N = doneM (l.take k) := ⟨_, rfl⟩
        rw [← hN] at T HD
        obtain ⟨x, hx⟩ : ∃ x : Dm × Nat, x = N.append a.name a.b := ⟨_, rfl⟩
        have hst : stepM N a = x.1 := by unfold stepM; rw [hx, ← HR.out]; rfl
        rw [hst] at HD
        clear hst hN
        refine (T.out.act x.2 (show N.append a.name a.b = (x.1, x.2) from hx.symm) rfl fun S hS => Append_any hS a.name HS1.out HK.out HB.out).mono ?_
        rintro _ wy ⟨rfl, ht, hs⟩
        have T := Lib.hid ht
        have B := Lib.hid (B.out.trans (hs.below (base := w.heap.size) (fun g hg => (show g < C by rw [HC.out]; exact hg))))
        clear ht hs hx
        go_wp2_with fail
        go_roundw
        case rel => exact ⟨k + 1, by omega, by go_num, by rw [HD.out]; exact T, B.out⟩
        case measure => simp [intOf]; omega
      | 5, _ =>
        go_wp2_with fail
        obtain ⟨wx, e9⟩ : ∃ wx : World, wx = wr.alloc (.cells #[.int .u8 a.kind, .string a.name, .string a.to_, .slice ab a.b.length ac, .int .i64 a.at_, .int .i64 a.n, .bool a.nm] 79) := ⟨_, rfl⟩
        have hb : Below wr.heap.size wr wx := by rw [e9]; exact (Below.refl _ _).alloc (Nat.le_refl _) _
        rw [← e9]
        clear e9
        have T := Lib.hid (T.out.later hb)
        have HK := Lib.hid (HK.out.later hb)
        have B := Lib.hid (below_on B.out hb)
        clear hb
        obtain ⟨N, hN⟩ : ∃ N, N = doneM (l.take k) := ⟨_, rfl⟩
        rw [← hN] at T HD
        obtain ⟨x, hx⟩ : ∃ x : Dm × Nat, x = N.append a.name a.b := ⟨_, rfl⟩
        have hst : stepM N a = x.1 := by unfold stepM; rw [hx, ← HR.out]; rfl
        rw [hst] at HD
        clear hst hN
        refine (T.out.act x.2 (show N.append a.name a.b = (x.1, x.2) from hx.symm) rfl fun S hS => Append_any hS a.name HS1.out HK.out HB.out).mono ?_
        rintro _ wy ⟨rfl, ht, hs⟩
        have T := Lib.hid ht
        have B := Lib.hid (B.out.trans (hs.below (base := w.heap.size) (fun g hg => (show g < C by rw [HC.out]; exact hg))))
        clear ht hs hx
        go_wp2_with fail
        go_roundw
        case rel => exact ⟨k + 1, by omega, by go_num, by rw [HD.out]; exact T, B.out⟩
        case measure => simp [intOf]; omega
      | 6, _ =>
        go_wp2_with fail
        obtain ⟨wx, e9⟩ : ∃ wx : World, wx = wr.alloc (.cells #[.int .u8 a.kind, .string a.name, .string a.to_, .slice ab a.b.length ac, .int .i64 a.at_, .int .i64 a.n, .bool a.nm] 79) := ⟨_, rfl⟩
        have hb : Below wr.heap.size wr wx := by rw [e9]; exact (Below.refl _ _).alloc (Nat.le_refl _) _
        rw [← e9]
        clear e9
        have T := Lib.hid (T.out.later hb)
        have HK := Lib.hid (HK.out.later hb)
        have B := Lib.hid (below_on B.out hb)
        clear hb
        obtain ⟨N, hN⟩ : ∃ N, N = doneM (l.take k) := ⟨_, rfl⟩
        rw [← hN] at T HD
        obtain ⟨x, hx⟩ : ∃ x : Dm × Nat, x = N.sync a.name := ⟨_, rfl⟩
        have hst : stepM N a = x.1 := by unfold stepM; rw [hx, ← HR.out]; rfl
        rw [hst] at HD
        clear hst hN
        refine (T.out.act x.2 (show N.sync a.name = (x.1, x.2) from hx.symm) rfl fun S hS => Sync_any hS a.name HS1.out).mono ?_
        rintro _ wy ⟨rfl, ht, hs⟩
        have T := Lib.hid ht
        have B := Lib.hid (B.out.trans (hs.below (base := w.heap.size) (fun g hg => (show g < C by rw [HC.out]; exact hg))))
        clear ht hs hx
        go_wp2_with fail
        go_roundw
        case rel => exact ⟨k + 1, by omega, by go_num, by rw [HD.out]; exact T, B.out⟩
        case measure => simp [intOf]; omega
      | 7, _ =>
        go_wp2_with fail
        obtain ⟨wx, e9⟩ : ∃ wx : World, wx = wr.alloc (.cells #[.int .u8 a.kind, .string a.name, .string a.to_, .slice ab a.b.length ac, .int .i64 a.at_, .int .i64 a.n, .bool a.nm] 79) := ⟨_, rfl⟩
        have hb : Below wr.heap.size wr wx := by rw [e9]; exact (Below.refl _ _).alloc (Nat.le_refl _) _
        rw [← e9]
        clear e9
        have T := Lib.hid (T.out.later hb)
        have HK := Lib.hid (HK.out.later hb)
        have B := Lib.hid (below_on B.out hb)
        clear hb
        obtain ⟨N, hN⟩ : ∃ N, N = doneM (l.take k) := ⟨_, rfl⟩
        rw [← hN] at T HD
        obtain ⟨x, hx⟩ : ∃ x : Dm × Nat, x = (N.names, 0) := ⟨_, rfl⟩
        have hst : stepM N a = x.1 := by unfold stepM; rw [hx, ← HR.out]; rfl
        rw [hst] at HD
        clear hst hN
        refine (T.out.act x.2 (show (N.names, 0) = (x.1, x.2) from hx.symm) rfl fun S hS => Names_any hS).mono ?_
        rintro _ wy ⟨rfl, ht, hs⟩
        have T := Lib.hid ht
        have B := Lib.hid (B.out.trans (hs.below (base := w.heap.size) (fun g hg => (show g < C by rw [HC.out]; exact hg))))
        clear ht hs hx
        go_wp2_with fail
        go_roundw
        case rel => exact ⟨k + 1, by omega, by go_num, by rw [HD.out]; exact T, B.out⟩
        case measure => simp [intOf]; omega
      | 8, _ =>
        go_wp2_with fail
        obtain ⟨wx, e9⟩ : ∃ wx : World, wx = wr.alloc (.cells #[.int .u8 a.kind, .string a.name, .string a.to_, .slice ab a.b.length ac, .int .i64 a.at_, .int .i64 a.n, .bool a.nm] 79) := ⟨_, rfl⟩
        have hb : Below wr.heap.size wr wx := by rw [e9]; exact (Below.refl _ _).alloc (Nat.le_refl _) _
        rw [← e9]
        clear e9
        have T := Lib.hid (T.out.later hb)
        have HK := Lib.hid (HK.out.later hb)
        have B := Lib.hid (below_on B.out hb)
        clear hb
        obtain ⟨N, hN⟩ : ∃ N, N = doneM (l.take k) := ⟨_, rfl⟩
        rw [← hN] at T HD
        obtain ⟨x, hx⟩ : ∃ x : Dm × Nat, x = N.create a.name := ⟨_, rfl⟩
        have hst : stepM N a = x.1 := by unfold stepM; rw [hx, ← HR.out]; rfl
        rw [hst] at HD
        clear hst hN
        refine (T.out.act x.2 (show N.create a.name = (x.1, x.2) from hx.symm) rfl fun S hS => Create_any hS a.name HS1.out).mono ?_
        rintro _ wy ⟨rfl, ht, hs⟩
        have T := Lib.hid ht
        have B := Lib.hid (B.out.trans (hs.below (base := w.heap.size) (fun g hg => (show g < C by rw [HC.out]; exact hg))))
        clear ht hs hx
        go_wp2_with fail
        go_roundw
        case rel => exact ⟨k + 1, by omega, by go_num, by rw [HD.out]; exact T, B.out⟩
        case measure => simp [intOf]; omega
      | 9, _ =>
        go_wp2_with fail
        obtain ⟨wx, e9⟩ : ∃ wx : World, wx = wr.alloc (.cells #[.int .u8 a.kind, .string a.name, .string a.to_, .slice ab a.b.length ac, .int .i64 a.at_, .int .i64 a.n, .bool a.nm] 79) := ⟨_, rfl⟩
        have hb : Below wr.heap.size wr wx := by rw [e9]; exact (Below.refl _ _).alloc (Nat.le_refl _) _
        rw [← e9]
        clear e9
        have T := Lib.hid (T.out.later hb)
        have HK := Lib.hid (HK.out.later hb)
        have B := Lib.hid (below_on B.out hb)
        clear hb
        obtain ⟨N, hN⟩ : ∃ N, N = doneM (l.take k) := ⟨_, rfl⟩
        rw [← hN] at T HD
        obtain ⟨x, hx⟩ : ∃ x : Dm × Nat, x = N.create a.name := ⟨_, rfl⟩
        have hst : stepM N a = x.1 := by unfold stepM; rw [hx, ← HR.out]; rfl
        rw [hst] at HD
        clear hst hN
        refine (T.out.act x.2 (show N.create a.name = (x.1, x.2) from hx.symm) rfl fun S hS => Create_any hS a.name HS1.out).mono ?_
        rintro _ wy ⟨rfl, ht, hs⟩
        have T := Lib.hid ht
        have B := Lib.hid (B.out.trans (hs.below (base := w.heap.size) (fun g hg => (show g < C by rw [HC.out]; exact hg))))
        clear ht hs hx
        go_wp2_with fail
        go_roundw
        case rel => exact ⟨k + 1, by omega, by go_num, by rw [HD.out]; exact T, B.out⟩
        case measure => simp [intOf]; omega
      | r + 10, h => omega
    · obtain rfl : k = m := by omega
      go_wp2_with fail
      go_ret
      rw [HM.out, List.take_length] at T
      obtain ⟨S, hS, _⟩ := T.out
      refine ⟨?_, ⟨S, by rw [← HC.out]; exact hS⟩, B.out⟩
      rw [← HC.out]
      rfl
set_option linter.unusedSimpArgs false in
set_option maxRecDepth 20000 in
set_option maxHeartbeats 4000000 in
theorem done_great (l : List Ac) {v : Value} (w : World) (h : ActsAt w v l) (hg : great l = true) :
    Calls Tryd.prog 18 #[v] w fun e w' => e = .returned (.pointer none) ∧ Below w.heap.size w w' := by
  have HA := Lib.hid h
  clear h
  obtain ⟨ao, cap, rfl, _⟩ := HA.out
  go_enter Tryd.func18, Tryd.ntmps18
  go_wp2_with fail
  refine (New_yes 2000000 w (by decide) (by decide)).mono ?_
  rintro _ w1 ⟨rfl, hd, hb⟩
  have HA1 := Lib.hid (HA.out.later hb)
  have B := Lib.hid hb
  clear hb hd
  go_wp2_with fail
  refine (Great_any l w1 HA1.out).mono ?_
  rintro _ w2 ⟨rfl, n, rfl⟩
  rw [hg]
  have B := Lib.hid (below_on B.out (below_drewN9 w1 n))
  go_wp2_with fail
  go_ret
  exact ⟨rfl, B.out⟩
end Go.Proofs.YtjaganoidfohaaaDoor
