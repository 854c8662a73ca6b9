/- Layer 17 (files): two files on one disk, gone on with in turns. -/
import Derived.Test.YtjfejpdeccnlnaaDoorPieces0
import Derived.Test.YtjfejpdeccnlnaaDoorPerm
namespace Go.Proofs.YtjfejpdeccnlnaaDoor
open Go.ChangeShapes Go.WideShapes Go.ChangeAt Go.RowKit

/-- How much these texts are, up to where it is counted. -/
def tn : List ByteArray → Nat → Nat
  | [], n => n
  | s :: L, n => if n ≤ 1048576 then tn L (n + s.size) else n
def textsN (L : List ByteArray) : Nat := tn L L.length
def sizes (L : List ByteArray) : Nat := (L.map ByteArray.size).sum
theorem tn_ge : ∀ (L : List ByteArray) (n : Nat), n ≤ tn L n
  | [], n => Nat.le_refl n
  | s :: L, n => by
    unfold tn
    split
    · exact Nat.le_trans (Nat.le_add_right _ _) (tn_ge L _)
    · exact Nat.le_refl n
theorem tn_small : ∀ (L : List ByteArray) (n : Nat), tn L n ≤ 1048576 → tn L n = n + sizes L
  | [], n, _ => rfl
  | s :: L, n, h => by
    have hn : n ≤ 1048576 := Nat.le_trans (tn_ge (s :: L) n) h
    unfold tn at h ⊢
    rw [if_pos hn] at h ⊢
    rw [tn_small L _ h]
    simp [sizes]
    omega
theorem tn_le : ∀ (L : List ByteArray) (n : Nat), (∀ s ∈ L, s.size ≤ 140737488351232) → n ≤ 281474976710656 → tn L n ≤ 281474976710656
  | [], n, _, hn => hn
  | s :: L, n, h, hn => by
    unfold tn
    split
    · exact tn_le L _ (fun x hx => h x (List.mem_cons_of_mem _ hx)) (by have := h s (List.mem_cons_self ..); omega)
    · exact hn
set_option linter.unusedSimpArgs false in
set_option maxRecDepth 20000 in
set_option maxHeartbeats 4000000 in
theorem TextsSize_any (L : List ByteArray) {v : Value} (w : World) (h : SAt w v L) (hz : ∀ s ∈ L, s.size ≤ 140737488351232) (hL : L.length ≤ 281474976710656) :
    Calls Tryd.prog 25 #[v] w fun e w' => e = .returned (.int .i64 (textsN L)) ∧ ∃ n, w' = w.drewN n := by
  obtain ⟨ao, cap, rfl, hc1, hc2, hc3, hc4⟩ := h
  unfold maxLen at hc2
  obtain ⟨m, hm⟩ : ∃ m, m = L.length := ⟨_, rfl⟩
  have HM := Lib.hid hm
  have HZ := Lib.hid hz
  rw [← hm] at hc1 hc4 hL ⊢
  have H4 := Lib.hid hc4
  clear hc3 hc4 hm hz
  have hm9 : (m : Int) ≤ 281474976710656 := by omega
  go_enter Tryd.func25, Tryd.ntmps25
  go_wp2_with fail
  go_loopw [3, 4] (fun s i wr => ∃ k n y : Nat, k ≤ m ∧ i = .int .i64 k ∧ s = .int .i64 y ∧ y ≤ 281474976710656 ∧ Hid (tn (L.drop k) y = textsN L) ∧ wr = w.drewN n) (fun _ i _ => m - (intOf i).toNat)
  case atStart => exact ⟨0, 0, m, Nat.zero_le _, rfl, rfl, hL, Lib.hid (by rw [HM.out]; rfl), rfl⟩
  case round =>
    obtain ⟨k, n, y, hk, rfl, rfl, hy, HT, rfl⟩ := hrel
    have hyI : (y : Int) ≤ 281474976710656 := by omega
    by_cases hlt : k < m
    · have hltI : (k : Int) < (m : Int) := by omega
      obtain ⟨s, hs⟩ : ∃ s, L[k]? = some s := ⟨_, List.getElem?_eq_getElem (by rw [← HM.out]; exact hlt)⟩
      obtain ⟨b, o, rfl, hcell⟩ := H4.out (by omega)
      have cc := hcell k s hs
      have hd : L.drop k = s :: L.drop (k + 1) := by rw [List.drop_eq_getElem_cons (by rw [← HM.out]; exact hlt), (List.getElem?_eq_some_iff.1 hs).2]
      have hsz := HZ.out s (List.mem_of_getElem? hs)
      obtain ⟨q, hq⟩ : ∃ q, q = s.size := ⟨_, rfl⟩
      have eq : (s.size : Int) = (q : Int) := by rw [hq]
      have HQ := Lib.hid hq
      rw [← hq] at hsz
      have HD := Lib.hid hd
      clear hcell hs hd hq
      have hqI : (q : Int) ≤ 140737488351232 := by omega
      by_cases hgt : y ≤ 1048576
      · have hgI : (y : Int) ≤ 1048576 := by omega
        go_wp2_with fail
        first | go_quiet (fail) | skip
        go_wp2_with fail
        go_roundw
        case rel => exact ⟨k + 1, _, y + q, by omega, by go_num, by go_num, by omega, Lib.hid (by
          have h1 := HT.out
          rw [HD.out, tn, if_pos hgt, ← HQ.out] at h1
          exact h1), rfl⟩
        case measure => simp [intOf]; omega
      · have hgI : ¬ ((y : Int) ≤ 1048576) := by omega
        go_wp2_with fail
        go_ret
        refine ⟨?_, _, rfl⟩
        have h1 := HT.out
        rw [HD.out, tn, if_neg hgt] at h1
        rw [← h1]
        rfl
    · obtain rfl : k = m := by omega
      have hltI : ¬ ((k : Int) < (k : Int)) := by omega
      go_wp2_with fail
      go_ret
      refine ⟨?_, _, rfl⟩
      have h1 := HT.out
      rw [HM.out, List.drop_length] at h1
      rw [← h1]
      rfl
/-! ### Two files -/
abbrev nmA : ByteArray := ⟨#[97]⟩
abbrev nmB : ByteArray := ⟨#[98]⟩
def tab2 : List Pl := ⟨nmA, some 0⟩ :: ⟨nmB, some 1⟩ :: List.replicate 62 free
def two2 (ra rb : Rw) : Dm := ⟨50000, tab2, List.replicate 64 free, [ra, rb]⟩
theorem two2_create1 : (new0 50000).create nmA = (one1 50000 nmA 0 (List.replicate 64 free) [⟨[], 0⟩], 0) := free_create (by decide)
theorem two2_create2 : (one1 50000 nmA 0 (List.replicate 64 free) [⟨[], 0⟩]).create nmB = (two2 ⟨[], 0⟩ ⟨[], 0⟩, 0) := by
  rw [create_ok (i := 1) (by decide) (by decide +kernel) (by decide +kernel)]
  rfl
theorem two2_left (ra rb : Rw) : (two2 ra rb).left = 50000 - (ra.l.length + rb.l.length) := by
  show 50000 - used (two2 ra rb) tab2 = _
  unfold tab2
  rw [used_cons, used_cons, used_free, Nat.add_zero]
  rfl
theorem find2A : find tab2 nmA = some 0 := by decide +kernel
theorem find2B : find tab2 nmB = some 1 := by decide +kernel
theorem appendA {ra rb : Rw} {x : List Nat} (h : ra.l.length + rb.l.length + x.length ≤ 20000) : (two2 ra rb).append nmA x = (two2 ⟨ra.l ++ x, ra.m⟩ rb, 0) := by
  rw [append_ok (i := 0) (k := 0) (r := ra) (by decide) find2A rfl rfl (by rw [two2_left]; omega) (by omega)]
  rfl
theorem appendB {ra rb : Rw} {x : List Nat} (h : ra.l.length + rb.l.length + x.length ≤ 20000) : (two2 ra rb).append nmB x = (two2 ra ⟨rb.l ++ x, rb.m⟩, 0) := by
  rw [append_ok (i := 1) (k := 1) (r := rb) (by decide) find2B rfl rfl (by rw [two2_left]; omega) (by omega)]
  rfl
theorem syncA {ra rb : Rw} : (two2 ra rb).sync nmA = (two2 ⟨ra.l, ra.l.length⟩ rb, 0) := by
  rw [sync_ok (i := 0) (k := 0) (r := ra) (by decide) find2A rfl rfl]
  rfl
theorem syncB {ra rb : Rw} : (two2 ra rb).sync nmB = (two2 ra ⟨rb.l, rb.l.length⟩, 0) := by
  rw [sync_ok (i := 1) (k := 1) (r := rb) (by decide) find2B rfl rfl]
  rfl
/-- A file of which the first pieces are there. -/
def rowAt (L : List ByteArray) : Nat → Rw
  | 0 => ⟨[], 0⟩
  | j + 1 => ⟨(rowAt L j).l ++ nums (L.getD j noName), if j % 3 = 1 then ((rowAt L j).l ++ nums (L.getD j noName)).length else (rowAt L j).m⟩
theorem rowAt_next {L : List ByteArray} {j : Nat} {s : ByteArray} (h : L[j]? = some s) : rowAt L (j + 1) = ⟨(rowAt L j).l ++ nums s, if j % 3 = 1 then ((rowAt L j).l ++ nums s).length else (rowAt L j).m⟩ := by
  rw [rowAt, List.getD_eq_getElem?_getD, h]
  rfl
theorem sizes_take {L : List ByteArray} {j : Nat} {s : ByteArray} (h : L[j]? = some s) : sizes (L.take (j + 1)) = sizes (L.take j) + s.size := by
  unfold sizes
  rw [List.take_add_one, h]
  simp
theorem sizes_le (L : List ByteArray) (j : Nat) : sizes (L.take j) ≤ sizes L := by
  have h : sizes L = sizes (L.take j) + sizes (L.drop j) := by
    unfold sizes
    rw [← List.sum_append, ← List.map_append, List.take_append_drop]
  omega
theorem rowAt_len (L : List ByteArray) : ∀ j, j ≤ L.length → (rowAt L j).l.length = sizes (L.take j)
  | 0, _ => rfl
  | j + 1, h => by
    have hs : L[j]? = some L[j] := List.getElem?_eq_getElem (by omega)
    rw [rowAt_next hs, sizes_take hs, ← rowAt_len L j (by omega)]
    simp [nums_length]
section
variable {L L' : List ByteArray} {i j : Nat} {s : ByteArray}
theorem room (hz : sizes L + sizes L' ≤ 20000) (hs : L[i]? = some s) (hj : j ≤ L'.length) : (rowAt L i).l.length + (rowAt L' j).l.length + (nums s).length ≤ 20000 := by
  have hi : i < L.length := (List.getElem?_eq_some_iff.1 hs).1
  have h1 := sizes_take hs
  have h2 := sizes_le L (i + 1)
  have h3 := sizes_le L' j
  rw [rowAt_len L i (by omega), rowAt_len L' j hj, nums_length]
  omega
theorem stepA_n (hz : sizes L + sizes L' ≤ 20000) (hs : L[i]? = some s) (hj : j ≤ L'.length) (h3 : ¬ i % 3 = 1) : (two2 (rowAt L i) (rowAt L' j)).append nmA (nums s) = (two2 (rowAt L (i + 1)) (rowAt L' j), 0) := by
  rw [appendA (room hz hs hj), rowAt_next hs, if_neg h3]
theorem stepA_s (hz : sizes L + sizes L' ≤ 20000) (hs : L[i]? = some s) (hj : j ≤ L'.length) (h3 : i % 3 = 1) : ∃ N, (two2 (rowAt L i) (rowAt L' j)).append nmA (nums s) = (N, 0) ∧ N.sync nmA = (two2 (rowAt L (i + 1)) (rowAt L' j), 0) := by
  refine ⟨_, appendA (room hz hs hj), ?_⟩
  rw [syncA, rowAt_next hs, if_pos h3]
theorem stepB_n (hz : sizes L' + sizes L ≤ 20000) (hs : L[i]? = some s) (hj : j ≤ L'.length) (h3 : ¬ i % 3 = 1) : (two2 (rowAt L' j) (rowAt L i)).append nmB (nums s) = (two2 (rowAt L' j) (rowAt L (i + 1)), 0) := by
  have := room (by omega : sizes L + sizes L' ≤ 20000) hs hj
  rw [appendB (by omega), rowAt_next hs, if_neg h3]
theorem stepB_s (hz : sizes L' + sizes L ≤ 20000) (hs : L[i]? = some s) (hj : j ≤ L'.length) (h3 : i % 3 = 1) : ∃ N, (two2 (rowAt L' j) (rowAt L i)).append nmB (nums s) = (N, 0) ∧ N.sync nmB = (two2 (rowAt L' j) (rowAt L (i + 1)), 0) := by
  have := room (by omega : sizes L + sizes L' ≤ 20000) hs hj
  refine ⟨_, appendB (by omega), ?_⟩
  rw [syncB, rowAt_next hs, if_pos h3]
end
end Go.Proofs.YtjfejpdeccnlnaaDoor
