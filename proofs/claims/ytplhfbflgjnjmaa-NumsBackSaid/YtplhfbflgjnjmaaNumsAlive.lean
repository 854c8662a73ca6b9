/- Layer 1 (nums): alive returns true; bytes as strings. -/
import Derived.Test.YtplhfbflgjnjmaaNumsBytes
import Derived.Test.YtplhfbflgjnjmaaSame
import Derived.Laws.BytesString
import Derived.Shelf.Bytes.SlSmallAll
import Derived.Laws.Strings
namespace Go.Proofs.Ytplhfbflgjnjmaa
open Go.ChangeShapes Go.WideShapes Go.ChangeAt Go.RowKit

/-- Bytes as a string. -/
def strOf (l : List Nat) : ByteArray := ⟨(l.map UInt8.ofNat).toArray⟩
theorem str_of {w : World} {v : Value} {l : List Nat} (h : KAt .u8 w v l) (hb : Bytes l) : (convert 27 9 v).run Try.prog w = .ok (.string (strOf l)) w := by
  obtain ⟨ao, cap, rfl, h1, h2, h3, h4⟩ := h
  by_cases h0 : 0 < l.length
  · obtain ⟨b, o, rfl, hc⟩ := h4 h0
    have key := run_convert_bytes_back (P := Try.prog) w 27 9 5 ⟨b, o, none⟩ cap (l.map UInt8.ofNat) Try.underlying27 Try.underlying5 Try.underlying9 (fun j hj => by
      rw [List.length_map] at hj
      rw [Addr.add_lit, hc j l[j] (by simp)]
      have : l[j] < 256 := hb _ (List.getElem_mem hj)
      simp only [List.getElem_map]
      rw [show (UInt8.ofNat l[j]).toNat = l[j] from by rw [UInt8.toNat_ofNat']; exact Nat.mod_eq_of_lt this])
    rw [List.length_map] at key
    exact key
  · have : l = [] := List.length_eq_zero_iff.1 (by omega)
    subst this
    exact run_convert_bytes_zero w 27 5 Try.underlying27 Try.underlying5 ao cap 9 Try.underlying9
theorem lit_at (w : World) (l : List Nat) (cs : Array Value) (n : Nat) (t : TypeId) (hcs : cs = (cellsK .u8 l).toArray) (hn : n = l.length) (hm : n ≤ maxLen) : KAt .u8 (w.alloc (.cells cs t)) (.slice (some ⟨w.heap.size, 0, none⟩) n n) l := by
  subst hcs hn
  refine ⟨_, _, rfl, Nat.le_refl _, hm, (fun h => by cases h), fun _ => ⟨_, _, rfl, fun i x hx => ?_⟩⟩
  have : (cellsK .u8 l)[i]? = some (.int .u8 x) := by rw [cellsK_get, hx]; rfl
  rw [Nat.zero_add]
  simp [this]
theorem own_shape {w : World} {B n : Nat} {v : Value} {l : List Nat} (h : Own w B v l) (hn : l.length = n) : ∃ a c, v = .slice a n c := by
  obtain ⟨ao, cap, h, _⟩ := h.at_
  exact ⟨ao, cap, by rw [h, hn]⟩
theorem kat_some {w : World} {a : Option Addr} {n c : Nat} {l : List Nat} (h : KAt .u8 w (.slice a n c) l) (h0 : 0 < l.length) : ∃ g o, a = some ⟨g, o, none⟩ ∧ n = l.length ∧ l.length ≤ c ∧ c ≤ maxLen ∧ ∀ i x : Nat, l[i]? = some x → w.cell? ⟨g, o + i, none⟩ = some (.int .u8 (x : Int)) := by
  obtain ⟨ao, cap, h1, h2, h3, h4, h5⟩ := h
  cases h1
  obtain ⟨g, o, h6, h7⟩ := h5 h0
  exact ⟨g, o, h6, rfl, h2, h3, h7⟩
def L32 : List Nat := be 8 0 ++ (be 8 0 ++ (be 8 0 ++ be 8 5))
theorem g1 (w : World) (b : Nat) (hb : b = w.heap.size) : Calls Try.prog 11 #[.slice (some ⟨b, 0, none⟩) 3 3, .int .i64 2] (w.alloc (.cells #[.int .u8 1, .int .u8 2, .int .u8 7] 5)) fun e w' => e = .returned (.tuple #[.int .u64 258, .int .i64 0]) ∧ w.alloc (.cells #[.int .u8 1, .int .u8 2, .int .u8 7] 5) = w' := by
  subst hb
  exact Get_get (b := [1, 2, 7]) _ (lit_at w [1, 2, 7] #[.int .u8 1, .int .u8 2, .int .u8 7] 3 5 rfl rfl (by unfold maxLen; omega)) (by unfold Bytes; simp) 2
theorem g2 (w : World) (b : Nat) (hb : b = w.heap.size) : Calls Try.prog 11 #[.slice (some ⟨b, 0, none⟩) 1 1, .int .i64 2] (w.alloc (.cells #[.int .u8 1] 5)) fun e w' => e = .returned (.tuple #[.int .u64 0, .int .i64 5]) ∧ w.alloc (.cells #[.int .u8 1] 5) = w' := by
  subst hb
  exact Get_get (b := [1]) _ (lit_at w [1] #[.int .u8 1] 1 5 rfl rfl (by unfold maxLen; omega)) (by unfold Bytes; simp) 2
theorem g3 (w : World) (b : Nat) (hb : b = w.heap.size) : Calls Try.prog 11 #[.slice (some ⟨b, 0, none⟩) 1 1, .int .i64 9] (w.alloc (.cells #[.int .u8 1] 5)) fun e w' => e = .returned (.tuple #[.int .u64 0, .int .i64 1]) ∧ w.alloc (.cells #[.int .u8 1] 5) = w' := by
  subst hb
  exact Get_get (b := [1]) _ (lit_at w [1] #[.int .u8 1] 1 5 rfl rfl (by unfold maxLen; omega)) (by unfold Bytes; simp) 9
theorem getB_ok (w : World) (b : Nat) (hb : b = w.heap.size) : Calls Try.prog 14 #[.slice (some ⟨b, 0, none⟩) 7 7] (w.alloc (.cells #[.int .u8 0, .int .u8 0, .int .u8 0, .int .u8 2, .int .u8 7, .int .u8 8, .int .u8 9] 5)) fun e w' => ∃ v', e = .returned (.tuple #[v', .int .i64 6, .int .i64 0]) ∧ Own w' w.heap.size v' [7, 8] ∧ Below w.heap.size w w' := by
  subst hb
  exact (GetBytes_ok (b := [0, 0, 0, 2, 7, 8, 9]) _ (lit_at w [0, 0, 0, 2, 7, 8, 9] #[.int .u8 0, .int .u8 0, .int .u8 0, .int .u8 2, .int .u8 7, .int .u8 8, .int .u8 9] 7 5 rfl rfl (by unfold maxLen; omega)) (by unfold Bytes; simp) 2 rfl (by simp) (by simp)).mono fun e w' ⟨v', he, ho, hb⟩ => ⟨v', he, ho.base (by simp), ((Below.refl _ w).alloc (Nat.le_refl _) _).trans (hb.mono (by simp))⟩
theorem getB_short (w : World) (b : Nat) (hb : b = w.heap.size) : Calls Try.prog 14 #[.slice (some ⟨b, 0, none⟩) 5 5] (w.alloc (.cells #[.int .u8 0, .int .u8 0, .int .u8 0, .int .u8 2, .int .u8 7] 5)) fun e w' => e = .returned (.tuple #[.slice none 0 0, .int .i64 0, .int .i64 5]) ∧ w.alloc (.cells #[.int .u8 0, .int .u8 0, .int .u8 0, .int .u8 2, .int .u8 7] 5) = w' := by
  subst hb
  exact GetBytes_short (b := [0, 0, 0, 2, 7]) _ (lit_at w [0, 0, 0, 2, 7] #[.int .u8 0, .int .u8 0, .int .u8 0, .int .u8 2, .int .u8 7] 5 5 rfl rfl (by unfold maxLen; omega)) (by unfold Bytes; simp) (.inr (by show 5 < 4 + 2; omega))
theorem put_lit (w : World) (b : Nat) (hb : b = w.heap.size) : Calls Try.prog 8 #[.slice (some ⟨b, 0, none⟩) 1 1, .int .u64 258, .int .i64 2] (w.alloc (.cells #[.int .u8 9] 5)) fun e w' => ∃ v', e = .returned v' ∧ Own w' w.heap.size v' [9, 1, 2] ∧ Below w.heap.size w w' := by
  subst hb
  exact (Put_any (b := [9]) _ (lit_at w [9] #[.int .u8 9] 1 5 rfl rfl (by unfold maxLen; omega)) 258 2 (by omega) (by omega) (by simp)).mono fun e w' ⟨v', he, ho, hb⟩ => ⟨v', he, ho.base (by simp), ((Below.refl _ w).alloc (Nat.le_refl _) _).trans (hb.mono (by simp))⟩
theorem put_nil (w : World) : Calls Try.prog 8 #[.slice none 0 0, .int .u64 258, .int .i64 1] w fun e w' => ∃ v', e = .returned v' ∧ Own w' w.heap.size v' [2] ∧ Below w.heap.size w w' :=
  Put_any (b := []) w (KAt.nil _ _) 258 1 (by omega) (by omega) (by simp)
theorem putL_lit (w : World) : Calls Try.prog 9 #[.slice none 0 0, .agg #[.int .u64 5, .int .u64 0, .int .u64 0, .int .u64 0]] w fun e w' => ∃ v', e = .returned v' ∧ Own w' w.heap.size v' L32 ∧ Below w.heap.size w w' :=
  PutLong_any (b := []) w (KAt.nil _ _) 5 0 0 0 (by simp)
theorem putB_lit (w : World) (b c : Nat) (hb : b = w.heap.size) (hc : c = w.heap.size + 1) : Calls Try.prog 13 #[.slice (some ⟨b, 0, none⟩) 1 1, .slice (some ⟨c, 0, none⟩) 2 2] ((w.alloc (.cells #[.int .u8 1] 5)).alloc (.cells #[.int .u8 7, .int .u8 7] 5)) fun e w' => ∃ v', e = .returned v' ∧ Own w' w.heap.size v' [1, 0, 0, 0, 2, 7, 7] ∧ Below w.heap.size w w' := by
  subst hb hc
  exact (PutBytes_any (b := [1]) (l := [7, 7]) _ ((lit_at w [1] #[.int .u8 1] 1 5 rfl rfl (by unfold maxLen; omega)).later ((Below.refl _ _).alloc (Nat.le_refl _) _)) (by have h := lit_at (w.alloc (.cells #[.int .u8 1] 5)) [7, 7] #[.int .u8 7, .int .u8 7] 2 5 rfl rfl (by unfold maxLen; omega); simpa using h) (by simp)).mono
    fun e w' ⟨v', he, ho, hb⟩ => ⟨v', he, ho.base (by simp; omega), (((Below.refl _ w).alloc (Nat.le_refl _) _).alloc (by simp) _).trans (hb.mono (by simp; omega))⟩
theorem cell_al {w w' : World} {p : Addr} {v : Value} (h : w.cell? p = some v) (hb : Below w.heap.size w w') : w'.cell? p = some v := (hb.cell (World.block_lt_of_cell? (a := p) _ h)).trans h

set_option maxRecDepth 40000 in
set_option maxHeartbeats 1400000 in
theorem alive_any (w : World) : Calls Try.prog 6 #[] w fun e w' => e = .returned (.bool true) ∧ Below w.heap.size w w' := by
  go_enter Try.func6, Try.ntmps6
  go_wp2_with fail
  refine (g1 _ _ (by simp)).mono ?_
  rintro _ w1 ⟨rfl, rfl⟩
  go_wp2_with fail
  refine (g2 _ _ (by simp)).mono ?_
  rintro _ w1 ⟨rfl, rfl⟩
  go_wp2_with fail
  refine (g3 _ _ (by simp)).mono ?_
  rintro _ w1 ⟨rfl, rfl⟩
  go_wp2_with fail
  refine (putL_lit _).mono ?_
  rintro _ w1 ⟨v7, rfl, ho, hb⟩
  have HB := Lib.hid (((((Below.refl _ w).alloc (Nat.le_refl _) (.cells #[.int .u8 1, .int .u8 2, .int .u8 7] 5)).alloc (by simp) (.cells #[.int .u8 1] 5)).alloc (by simp; omega) (.cells #[.int .u8 1] 5)).trans (hb.mono (by simp; omega)))
  obtain ⟨a7, c7, rfl⟩ := own_shape (n := 32) ho rfl
  have H7 := Lib.hid ho
  have hk := ho.at_
  obtain ⟨g7, o7, rfl, hq7, hc7, hm7, hcell⟩ := kat_some hk (by decide)
  clear hq7
  have HC7 := Lib.hid hcell
  have hc8 : 32 ≤ c7 := hc7
  have hm8 : c7 ≤ 9223372036854775807 := by unfold maxLen at hm7; omega
  have HL := Lib.hid (KAt.drop hcell hc7 hm7 1 (by decide))
  clear ho hb hk hcell hc7 hm7
  go_wp2_with fail
  refine (GetLong_short (b := L32.drop 1) _ HL.out (by decide)).mono ?_
  rintro _ w2 ⟨rfl, hb⟩
  have HB2 := Lib.hid (HB.out.trans (hb.mono HB.out.size))
  have HC2 := Lib.hid (fun (i x : Nat) (hx : L32[i]? = some x) => (hb.cell (p := ⟨g7, o7 + i, none⟩) (World.block_lt_of_cell? (a := ⟨g7, o7 + i, none⟩) _ (HC7.out i x hx))).trans (HC7.out i x hx))
  clear HB HC7 HL hb H7
  go_wp2_with fail
  refine (getB_ok _ _ (by simp)).mono ?_
  rintro _ w3 ⟨v10, rfl, ho, hb⟩
  have hb2 : Below w2.heap.size w2 w3 := ((Below.refl _ w2).alloc (Nat.le_refl _) _).trans (hb.mono (by simp))
  have HB3 := Lib.hid (HB2.out.trans (hb2.mono HB2.out.size))
  have HC3 := Lib.hid (fun (i x : Nat) (hx : L32[i]? = some x) => cell_al (HC2.out i x hx) hb2)
  clear hb2
  obtain ⟨a10, c10, rfl⟩ := own_shape (n := 2) ho rfl
  have H10 := Lib.hid ho.at_
  clear ho hb HB2 HC2
  go_wp2_with fail
  refine (getB_short _ _ (by simp)).mono ?_
  rintro _ w4 ⟨rfl, rfl⟩
  go_wp2_with fail
  refine (put_lit _ _ (by simp)).mono ?_
  rintro _ w5 ⟨v8, rfl, ho, hb⟩
  have hb5 : Below w3.heap.size w3 w5 := ((Below.refl _ w3).alloc (Nat.le_refl _) _).trans (hb.mono (by simp))
  have HB5 := Lib.hid (HB3.out.trans (hb5.mono HB3.out.size))
  have HC5 := Lib.hid (fun (i x : Nat) (hx : L32[i]? = some x) => cell_al (HC3.out i x hx) hb5)
  have H10b := Lib.hid (H10.out.later hb5)
  clear hb5
  obtain ⟨a8, c8, rfl⟩ := own_shape (n := 3) ho rfl
  have hs8 := str_of ho.at_ (by unfold Bytes; simp)
  rw [show strOf [9, 1, 2] = ⟨#[9, 1, 2]⟩ from rfl] at hs8
  clear ho hb HB3 HC3 H10
  go_wp2_with fail
  refine (put_nil _).mono ?_
  rintro _ w6 ⟨v9, rfl, ho, hb⟩
  clear hs8
  have HB6 := Lib.hid (HB5.out.trans (hb.mono HB5.out.size))
  have HC6 := Lib.hid (fun (i x : Nat) (hx : L32[i]? = some x) => cell_al (HC5.out i x hx) hb)
  have H10c := Lib.hid (H10b.out.later hb)
  obtain ⟨a9, c9, rfl⟩ := own_shape (n := 1) ho rfl
  have hs9 := str_of ho.at_ (by unfold Bytes; simp)
  rw [show strOf [2] = ⟨#[2]⟩ from rfl] at hs9
  have h31 := HC6.out 31 5 rfl
  clear ho hb HB5 HC5 H10b
  go_wp2_with fail
  refine (putB_lit _ _ _ (by simp) (by simp)).mono ?_
  rintro _ w7 ⟨v97, rfl, ho, hb⟩
  clear hs9 h31
  have HB7 := Lib.hid (HB6.out.trans (hb.mono HB6.out.size))
  have hs10 := str_of (H10c.out.later hb) (by unfold Bytes; simp)
  rw [show strOf [7, 8] = ⟨#[7, 8]⟩ from rfl] at hs10
  obtain ⟨a11, c11, rfl⟩ := own_shape (n := 7) ho rfl
  have hs11 := str_of ho.at_ (by unfold Bytes; simp)
  rw [show strOf [1, 0, 0, 0, 2, 7, 7] = ⟨#[1, 0, 0, 0, 2, 7, 7]⟩ from rfl] at hs11
  clear ho hb HB6 HC6 H10c
  go_wp2
  go_ret
  exact ⟨rfl, HB7.out⟩
end Go.Proofs.Ytplhfbflgjnjmaa
