/- Layer 18 (journals): numbers in four bytes; a record laid behind a check; bytes.Equal, of slices that read as bytes -/
import Derived.Test.YtidhlbhfhfonoaaGreatDoorJZXG14
import Derived.Test.YtidhlbhfhfonoaaGreatDoorJZXG21
import Derived.Test.YtidhlbhfhfonoaaGreatDoorJZXG23
import Derived.Test.YtidhlbhfhfonoaaGreatDoorJZXG09
import Derived.Test.YtidhlbhfhfonoaaGreatDoorJZXG05
namespace Go.Proofs.YtidhlbhfhfonoaaGreatDoor
open Go.ChangeShapes Go.WideShapes Go.ChangeAt Go.RowKit

theorem cells_num4 (n : Nat) (hn : n < 4294967296) : cellsK .u8 (num4 n) = [.int .u8 ((n : Int) / 16777216), .int .u8 ((n : Int) / 65536 % 256), .int .u8 ((n : Int) / 256 % 256), .int .u8 ((n : Int) % 256)] := by
  simp [cellsK, num4]
  omega
set_option maxRecDepth 20000 in
set_option maxHeartbeats 1500000 in
theorem number_any (n : Nat) (hn : n < 4294967296) (w : World) :
    Calls Tryz.prog 117 #[.int .u32 n] w fun e w' => ∃ a, e = .returned (.slice a 4 4) ∧ Own w' w.heap.size (.slice a 4 4) (num4 n) ∧ Below w.heap.size w w' := by
  go_enter Tryz.func117, Tryz.ntmps117
  go_wp2
  go_ret
  refine ⟨_, rfl, ?_, (Below.refl _ w).alloc (Nat.le_refl _) _⟩
  have h := own_lit w (num4 n) (by rw [num4_length]; unfold maxLen; omega)
  rw [cells_num4 n hn] at h
  exact h
theorem parts2 {w : World} {u1 u2 : Value} {l1 l2 : List Nat} (t : TypeId) (h1 : KAt .u8 w u1 l1) (h2 : KAt .u8 w u2 l2) : PartsAt (w.alloc (.cells #[u1, u2] t)) (.slice (some ⟨w.heap.size, 0, none⟩) 2 2) [l1, l2] := by
  have hb : Below w.heap.size w (w.alloc (.cells #[u1, u2] t)) := (Below.refl _ w).alloc (Nat.le_refl _) _
  have hh := heap_alloc_new w (.cells #[u1, u2] t)
  refine ⟨_, 2, rfl, Nat.le_refl _, by unfold maxLen; omega, (fun h => by cases h), fun _ => ⟨w.heap.size, 0, rfl, fun i l hl => ?_⟩⟩
  match i, hl with
  | 0, hl => cases hl; exact ⟨u1, cell_of_row _ _ 0 _ _ (0, 0) hh, h1.later hb⟩
  | 1, hl => cases hl; exact ⟨u2, cell_of_row _ _ 1 _ _ (0, 0) hh, h2.later hb⟩
  | i + 2, hl => simp at hl
theorem parts3 {w : World} {u1 u2 u3 : Value} {l1 l2 l3 : List Nat} (t : TypeId) (h1 : KAt .u8 w u1 l1) (h2 : KAt .u8 w u2 l2) (h3 : KAt .u8 w u3 l3) : Parts (w.alloc (.cells #[u1, u2, u3] t)) w.heap.size 0 [u1, u2, u3] [l1, l2, l3] := by
  have hb : Below w.heap.size w (w.alloc (.cells #[u1, u2, u3] t)) := (Below.refl _ w).alloc (Nat.le_refl _) _
  have hh := heap_alloc_new w (.cells #[u1, u2, u3] t)
  refine ⟨rfl, fun i hi => ?_⟩
  match i, hi with
  | 0, _ => exact ⟨u1, l1, rfl, rfl, cell_of_row _ _ 0 _ _ (0, 0) hh, h1.later hb⟩
  | 1, _ => exact ⟨u2, l2, rfl, rfl, cell_of_row _ _ 1 _ _ (0, 0) hh, h2.later hb⟩
  | 2, _ => exact ⟨u3, l3, rfl, rfl, cell_of_row _ _ 2 _ _ (0, 0) hh, h3.later hb⟩
  | i + 3, hi => exact absurd hi (by simp)
set_option maxRecDepth 20000 in
set_option maxHeartbeats 1500000 in
theorem laid_any {c : Nat} {v : Value} {r : List Nat} (w : World) (hc : c < 4294967296) (hv : KAt .u8 w v r) (hr : r.length ≤ 65536) (hb8 : Bytes r) :
    Calls Tryz.prog 47 #[.int .u32 c, v] w fun e w' => ∃ a k, e = .returned (.tuple #[.slice a (r.length + 8) k, .int .u32 (nextC c r)]) ∧ Own w' w.heap.size (.slice a (r.length + 8) k) (laidR c r) ∧ Below w.heap.size w w' := by
  have HV := Lib.hid hv
  obtain ⟨ao, cap, rfl, hc1, hc2, hc3, hc4⟩ := hv
  obtain ⟨m, hm⟩ : ∃ m, m = r.length := ⟨_, rfl⟩
  have HM := Lib.hid hm
  have HR := Lib.hid hb8
  rw [← hm] at HV hr hc1 ⊢
  have hmI : (m : Int) ≤ 65536 := by omega
  have hm4 : m < 4294967296 := by omega
  have hw : IntKind.u32.wrap (m : Int) = (m : Int) := by rw [IntKind.wrap_u32']; omega
  clear hc2 hc3 hc4 hm hb8
  go_enter Tryz.func47, Tryz.ntmps47
  go_wp2_with fail
  refine (number_any m hm4 w).mono ?_
  rintro _ w1 ⟨a1, rfl, ho, hb⟩
  have B := Lib.hid hb
  have HV := Lib.hid (HV.out.later hb)
  have K1 := Lib.hid ho.at_
  clear ho hb
  go_wp2_with fail
  have hb : Below w1.heap.size w1 (w1.alloc (.cells #[.slice a1 4 4, .slice ao m cap] 58)) := (Below.refl _ w1).alloc (Nat.le_refl _) _
  have hp := parts2 58 K1.out HV.out
  obtain ⟨w2, e2⟩ : ∃ w2, w2 = w1.alloc (.cells #[.slice a1 4 4, .slice ao m cap] 58) := ⟨_, rfl⟩
  rw [← e2] at hb hp ⊢
  have hfl : [num4 m, r].flatten = headR r := by simp [headR, HM.out]
  refine (over_any w2 hc (fun l hl => ?_) hp).mono ?_
  · simp only [List.mem_cons, List.not_mem_nil, or_false] at hl
    rcases hl with rfl | rfl
    · exact num4_bytes m
    · exact HR.out
  rintro _ w3 ⟨rfl, n3, h3⟩
  have hb3 : Below w2.heap.size w2 w3 := by rw [h3]; exact below_drewN9 _ _
  obtain ⟨c2, hc2⟩ : ∃ c2, c2 = nextC c r := ⟨_, rfl⟩
  have hc9 : c2 < 4294967296 := by rw [hc2]; exact nextC_lt hc HR.out
  rw [hfl, show crc c (headR r) = c2 from hc2.symm]
  have HC2 := Lib.hid hc2
  have B := Lib.hid (below_on (below_on B.out hb) hb3)
  have HV := Lib.hid ((HV.out.later hb).later hb3)
  have K1 := Lib.hid ((K1.out.later hb).later hb3)
  clear hb hp e2 hfl h3 hb3 hc2
  go_wp2_with fail
  refine (number_any c2 hc9 w3).mono ?_
  rintro _ w4 ⟨a4, rfl, ho, hb⟩
  have B := Lib.hid (below_on B.out hb)
  have HV := Lib.hid (HV.out.later hb)
  have K1 := Lib.hid (K1.out.later hb)
  have K4 := Lib.hid ho.at_
  clear ho hb
  go_wp2_with fail
  have hb : Below w4.heap.size w4 (w4.alloc (.cells #[.slice a1 4 4, .slice ao m cap, .slice a4 4 4] 58)) := (Below.refl _ w4).alloc (Nat.le_refl _) _
  have hp := parts3 58 K1.out HV.out K4.out
  obtain ⟨w5, e5⟩ : ∃ w5, w5 = w4.alloc (.cells #[.slice a1 4 4, .slice ao m cap, .slice a4 4 4] 58) := ⟨_, rfl⟩
  obtain ⟨g5, hg5⟩ : ∃ g5, g5 = w4.heap.size := ⟨_, rfl⟩
  rw [← hg5] at hp ⊢
  rw [← e5] at hb hp ⊢
  have hf : [num4 m, r, num4 c2].flatten = laidR c r := by simp [laidR, headR, HM.out, HC2.out]
  refine (Concat_any w5 hp (Nat.le_refl 3) (by unfold maxLen; omega) (by rw [hf, laidR_length, ← HM.out]; omega)).mono ?_
  rintro _ w6 ⟨v6, rfl, ho, hb6⟩
  rw [hf] at ho
  have B5 := B.out.size
  have B := Lib.hid (below_on (below_on B.out hb) hb6)
  have h5 : w.heap.size ≤ w5.heap.size := Nat.le_trans B5 hb.size
  have ho := ho.base h5
  obtain ⟨a6, k6, rfl⟩ := ho.sl
  rw [laidR_length, ← HM.out] at ho ⊢
  have HO := Lib.hid ho
  clear ho hp hf hb hb6 e5 hg5 h5
  go_wp2_with fail
  go_ret2
  refine ⟨a6, k6, ?_, HO.out, B.out⟩
  rw [← HC2.out]
  rfl
end Go.Proofs.YtidhlbhfhfonoaaGreatDoor
namespace Go.Proofs.YtidhlbhfhfonoaaGreatDoor
open Go.ChangeShapes Go.WideShapes Go.ChangeAt Go.RowKit

theorem bytesOf_cast (l : List Nat) : Lib.bytesOf (l.map fun x : Nat => (x : Int)) = l.map UInt8.ofNat := by
  unfold Lib.bytesOf
  rw [List.map_map]
  rfl
theorem u8_inj : ∀ (a b : List Nat), Bytes a → Bytes b → a.map UInt8.ofNat = b.map UInt8.ofNat → a = b
  | [], [], _, _, _ => rfl
  | [], _ :: _, _, _, h => by simp at h
  | _ :: _, [], _, _, h => by simp at h
  | x :: a, y :: b, ha, hb, h => by
    simp only [List.map_cons, List.cons.injEq] at h
    have hx := ha x (List.mem_cons_self ..)
    have hy := hb y (List.mem_cons_self ..)
    have h1 := congrArg UInt8.toNat h.1
    rw [UInt8.toNat_ofNat', UInt8.toNat_ofNat'] at h1
    rw [u8_inj a b (fun z hz => ha z (List.mem_cons_of_mem _ hz)) (fun z hz => hb z (List.mem_cons_of_mem _ hz)) h.2, show x = y by omega]
theorem KAt.bytesIn {w : World} {ao : Option Addr} {n c : Nat} {l : List Nat} (h : KAt .u8 w (.slice ao n c) l) (hn : l.length = n) : Lib.BytesIn w ao n (l.map fun x : Nat => (x : Int)) := by
  obtain ⟨a, cap, e, h1, h2, h3, h4⟩ := h
  cases e
  rcases Nat.eq_zero_or_pos l.length with h0 | h0
  · rw [h0]
    exact Lib.BytesIn.nil _ _ _
  · obtain ⟨b, o, rfl, hc⟩ := h4 h0
    exact Lib.BytesIn.of_cells fun i hi => by
      rw [Addr.add_lit, hc i l[i] (List.getElem?_eq_getElem hi)]
      simp [hi]
theorem Equal_any {w : World} {u v : Value} {a b : List Nat} (hu : KAt .u8 w u a) (hv : KAt .u8 w v b) (ha : Bytes a) (hb : Bytes b) {t : Bool} (ht : decide (a = b) = t) :
    Calls Tryz.prog 116 #[u, v] w fun e w' => e = .returned (.bool t) ∧ w' = w := by
  have hu' := hu
  have hv' := hv
  obtain ⟨ao, ca, rfl, _⟩ := hu'
  obtain ⟨bo, cb, rfl, _⟩ := hv'
  refine (Tryz.bytes_Equal_all ao bo a.length ca b.length cb _ _ w (by simp) (by simp) (hu.bytesIn rfl) (hv.bytesIn rfl)).mono ?_
  rintro _ w' ⟨rfl, rfl⟩
  refine ⟨?_, rfl⟩
  rw [bytesOf_cast, bytesOf_cast, ← ht]
  by_cases h : a = b
  · subst h
    simp
  · rw [decide_eq_false h]
    have : ¬ (a.map UInt8.ofNat = b.map UInt8.ofNat) := fun e => h (u8_inj a b ha hb e)
    simp [this]
end Go.Proofs.YtidhlbhfhfonoaaGreatDoor
