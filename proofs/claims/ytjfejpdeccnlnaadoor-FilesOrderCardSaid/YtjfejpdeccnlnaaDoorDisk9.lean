/- Layer 17 (files): List. -/
import Derived.Test.YtjfejpdeccnlnaaDoorDisk8
namespace Go.Proofs.YtjfejpdeccnlnaaDoor
open Go.ChangeShapes Go.WideShapes Go.ChangeAt Go.RowKit

/-! ### Strings of a call's own -/
def strs (L : List ByteArray) : List Value := L.map Value.string
theorem strs_length (L : List ByteArray) : (strs L).length = L.length := by simp [strs]
theorem strs_get (L : List ByteArray) (i : Nat) : (strs L)[i]? = (L[i]?).map Value.string := by simp [strs]
theorem strs_append (L M : List ByteArray) : strs (L ++ M) = strs L ++ strs M := by simp [strs]
def OwnS (w : World) (base : Nat) (v : Value) (L : List ByteArray) : Prop := OwnV w base 9 1 v L.length (strs L)
theorem infoS : (Tryd.prog.info? 9).map (fun i => (i.zero, i.size, i.bytes)) = some (some (.string ⟨#[]⟩), 1, 16) := by kernel_rfl
def sortB (L : List ByteArray) : List ByteArray := ((L.map fun s => s.data.toList).mergeSort fun x y => decide (x ≤ y)).map fun l => ⟨l.toArray⟩
theorem sortB_length (L : List ByteArray) : (sortB L).length = L.length := by simp [sortB]
theorem src_val (w : World) (x : Value) (hx : x.oneCell' = true) (t : TypeId) : SrcV (w.alloc (.cells #[x] t)) 1 (.slice (some ⟨w.heap.size, 0, none⟩) 1 1) 1 [x] := by
  refine ⟨_, 1, rfl, rfl, fun u hu => ?_, (fun h => by cases h), fun ad had j u hu => ?_⟩
  · simp only [List.mem_cons, List.not_mem_nil, or_false] at hu
    subst hu
    exact hx
  · cases had
    exact one_new w _ t j u hu
theorem heap_mapBlock (w : World) (g : Nat) (f : Array Value → Array Value) {c : Array Value} {e : TypeId} {fr : Nat × Nat} (h : w.heap[g]? = some (.cells c e fr)) : (Go.Sort.mapBlock w g f).heap[g]? = some (.cells (f c) e fr) := by
  unfold Go.Sort.mapBlock
  simp only [Array.getElem?_modify, if_true]
  rw [h]
  rfl
theorem mapBlock_far (w : World) (g k : Nat) (f : Array Value → Array Value) (h : k ≠ g) : (Go.Sort.mapBlock w g f).heap[k]? = w.heap[k]? := by
  simp only [Go.Sort.mapBlock, Array.getElem?_modify]
  rw [if_neg (fun e => h e.symm)]
theorem Sort_own {w : World} {base g o cap : Nat} {L : List ByteArray} (h : OwnS w base (.slice (some ⟨g, o, none⟩) L.length cap) L) (hn : L.length < 4611686018427387904) :
    Calls Tryd.prog 47 #[.slice (some ⟨g, o, none⟩) L.length cap] w fun e w' => e = .returned (.tuple #[]) ∧ OwnS w' base (.slice (some ⟨g, o, none⟩) L.length cap) (sortB L) ∧ w.grownBy w' (some g) := by
  have hcell := OwnV.cells h
  have hfree := own_free h
  obtain ⟨hl, h2⟩ := h
  rcases h2 with ⟨h2, _⟩ | ⟨g', o', cap', cur, h3, hbase, hblk, hnc, hcm, hsz, htake⟩
  · cases h2
  cases h3
  have hg := (Array.getElem?_eq_some_iff.1 hblk).1
  have hH : Go.Sort.Holds encStr w g o (L.map fun s => s.data.toList).toArray := by
    intro j hj
    have hj' : j < L.length := by simpa using hj
    refine ⟨?_, hfree _⟩
    have := hcell j (.string L[j]) (by rw [strs_get, List.getElem?_eq_getElem hj']; rfl)
    rw [Addr.add_lit] at this
    rw [this, getElem!_pos _ j hj]
    simp [encStr]
  have hc := Tryd.slices_Sort_string g o cap (L.map fun s => s.data.toList) w hH hg (by simpa using hn)
  rw [List.length_map] at hc
  refine hc.mono ?_
  rintro e w' ⟨rfl, n, os, rfl⟩
  obtain ⟨ss, hss⟩ : ∃ ss, ss = (L.map fun s => s.data.toList).mergeSort fun x y => decide (x ≤ y) := ⟨_, rfl⟩
  have hsl : ss.length = L.length := by rw [hss]; simp
  have hsb : sortB L = ss.map fun l => ⟨l.toArray⟩ := by rw [hss]; rfl
  rw [← hss, hsb]
  have hg0 : (Go.Sort.ahead w n).heap[g]? = some (.cells cur 9 (0, 0)) := hblk
  have hb1 : (Go.Sort.putRow encStr (Go.Sort.ahead w n) g o ss.toArray).heap[g]? = some (.cells (Go.Sort.putCells encStr o ss.toArray cur) 9 (0, 0)) := heap_mapBlock _ _ _ hg0
  have hsz1 : (Go.Sort.putRow encStr (Go.Sort.ahead w n) g o ss.toArray).heap.size = w.heap.size := by rw [Go.Sort.size_putRow]; rfl
  have hgrow : ∀ k, k < w.heap.size → (Go.Sort.grow (Go.Sort.putRow encStr (Go.Sort.ahead w n) g o ss.toArray) os).heap[k]? = (Go.Sort.putRow encStr (Go.Sort.ahead w n) g o ss.toArray).heap[k]? := fun k hk => by
    simp only [Go.Sort.grow]
    rw [Array.getElem?_append_left (by rw [hsz1]; exact hk)]
  refine ⟨rfl, ⟨by simp [strs, hsl], .inr ⟨g, o, cap, _, by simp [hsl], hbase, (hgrow g hg).trans hb1, by simpa [hsl] using hnc, hcm, ?_, ?_⟩⟩, ⟨rfl, rfl, rfl, ?_, fun k hk hne => ?_⟩⟩
  · simpa [Go.Sort.putCells] using hsz
  · refine List.ext_getElem? fun j => ?_
    rw [List.getElem?_take]
    simp only [List.length_map, hsl, Nat.mul_one]
    split
    · rename_i hj
      rw [List.getElem?_drop, Array.getElem?_toList]
      simp only [Go.Sort.putCells, Array.getElem?_mapIdx]
      rw [Array.getElem?_eq_getElem (by have := hnc; omega), Option.map_some, if_pos ⟨by omega, by simp [hsl]; omega⟩, show o + j - o = j by omega, getElem!_pos _ j (by simp [hsl]; exact hj)]
      simp [strs, encStr, hsl, hj]
    · rename_i hj
      rw [List.getElem?_eq_none (by simp [strs, hsl]; omega)]
  · rw [Go.Sort.size_grow, hsz1]
    omega
  · rw [hgrow k hk]
    exact mapBlock_far _ _ _ _ (fun e => hne (by rw [e]))
theorem Sort_own0 (p : Option Addr) (cap : Nat) (w : World) : Calls Tryd.prog 47 #[.slice p 0 cap] w fun e w' => e = .returned (.tuple #[]) ∧ w = w' :=
  (Tryd.slices_Sort_string_none p cap w).mono fun _ _ ⟨h1, h2⟩ => ⟨h1, h2.symm⟩
/-- The names in a table, by their places. -/
def namesOf (t : List Pl) : List ByteArray := (t.filter fun p => p.file.isSome).map Pl.name
theorem namesOf_take {t : List Pl} {i : Nat} {p : Pl} (h : t[i]? = some p) : namesOf (t.take (i + 1)) = namesOf (t.take i) ++ (if p.file.isSome then [p.name] else []) := by
  unfold namesOf
  rw [List.take_add_one, h, List.filter_append, List.map_append]
  congr 1
  by_cases hp : p.file.isSome = true
  · simp [hp]
  · simp [hp]
theorem namesOf_le (t : List Pl) : (namesOf t).length ≤ t.length := by
  unfold namesOf
  rw [List.length_map]
  exact List.length_filter_le ..
def Dm.list (M : Dm) : List ByteArray := sortB (namesOf M.now)
set_option maxRecDepth 20000 in
set_option maxHeartbeats 1500000 in
theorem ClipS_any {b : List ByteArray} {a : Option Addr} {n c : Nat} (hn : n = b.length) (w : World) {B : Nat} (hv : OwnS w B (.slice a n c) b) (hc : c ≤ maxLen) (hbc : n ≤ c) :
    Calls Tryd.prog 48 #[.slice a n c] w fun e w' => e = .returned (.slice a n n) ∧ OwnS w' B (.slice a n n) b ∧ w = w' := by
  have HV := Lib.hid hv
  have HN := Lib.hid hn
  have hc5 : c ≤ 9223372036854775807 := by unfold maxLen at hc; omega
  clear hv hc hn
  go_enter Tryd.func48, Tryd.ntmps48
  go_wp2
  go_ret
  exact ⟨rfl, by have h := HV.out; unfold OwnS at h ⊢; rw [← HN.out] at h ⊢; exact OwnV.clip h, rfl⟩
theorem own_cap {w : World} {base : Nat} {e : TypeId} {size : Nat} {a : Option Addr} {n m c : Nat} {xs : List Value} (h : OwnV w base e size (.slice a m c) n xs) : m = n ∧ n ≤ c ∧ c ≤ maxLen ∧ (a = none → n = 0) := by
  rcases h.2 with ⟨h1, rfl⟩ | ⟨g, o, cap, cur, h1, _, _, h2, h3, _⟩
  · cases h1
    exact ⟨rfl, Nat.le_refl _, Nat.zero_le _, fun _ => rfl⟩
  · cases h1
    exact ⟨rfl, h2, h3, fun h => by cases h⟩
set_option maxRecDepth 20000 in
set_option maxHeartbeats 1500000 in
theorem List_any {w : World} {base D : Nat} {M : Dm} {S : Nat → Prop} (hd : Dk w base D M S) :
    Calls Tryd.prog 31 #[.pointer (some ⟨D, 0, none⟩)] w fun e w' => ∃ v, e = .returned v ∧ OwnS w' w.heap.size v M.list ∧ Below w.heap.size w w' := by
  obtain ⟨⟨rb, rv, h, hS⟩, _⟩ := hd
  have HN := Lib.hid h.now
  have HL := Lib.hid (show (tab rb M.now).length = 128 by rw [tab_length, h.ok.nl])
  have HI := Lib.hid (fun (i : Nat) (p : Pl) (hp : M.now[i]? = some p) (w : World) => index_tab rb hp h.ok.nl w)
  have HNL := Lib.hid h.ok.nl
  obtain ⟨i0, hi0, hz0, hz1, hz2⟩ := info_parts infoS
  have HI0 := Lib.hid hi0
  obtain ⟨cs, hcs⟩ : ∃ cs, cs = tab rb M.now := ⟨_, rfl⟩
  rw [← hcs] at HN HL HI
  clear h hS hcs hi0
  go_enter Tryd.func31, Tryd.ntmps31
  go_wp2_with (refine wpList_load_mid rfl 70 _ rfl D 1 rfl cs _ HN.out Tryd.underlying70 rfl (by rw [HL.out]; kernel_rfl) ?_)
  go_loopw [2, 11] (fun l i wr => ∃ (k n c : Nat) (a : Option Addr), k ≤ 64 ∧ n ≤ k ∧ i = .int .i64 k ∧ l = .slice a n c ∧ Hid (n = (namesOf (M.now.take k)).length) ∧ Hid (OwnV wr w.heap.size 9 1 (.slice a n c) n (strs (namesOf (M.now.take k)))) ∧ Below w.heap.size w wr) (fun _ i _ => 64 - (intOf i).toNat)
  case atStart => exact ⟨0, 0, 0, none, Nat.zero_le _, Nat.le_refl _, rfl, rfl, Lib.hid rfl, Lib.hid ⟨rfl, .inl ⟨rfl, rfl⟩⟩, Below.refl _ _⟩
  case round =>
    obtain ⟨k, n, c, a, hk, hnk, rfl, rfl, hn, ho, hb⟩ := hrel
    have HB := Lib.hid hb
    by_cases hlt : k < 64
    · obtain ⟨p, hp⟩ : ∃ p, M.now[k]? = some p := ⟨_, List.getElem?_eq_getElem (by have := HNL.out; omega)⟩
      have hi := HI.out k p hp
      have hnt := namesOf_take hp
      cases hf : p.file with
      | none =>
        rw [hf] at hi hnt
        have hi2 : ∀ w, (Instr.index 70 (.agg cs.toArray) (.int .i64 k)).run Tryd.prog w = .ok (.agg #[.string p.name, .pointer none]) w := hi
        have HT := Lib.hid (show namesOf (M.now.take (k + 1)) = namesOf (M.now.take k) by rw [hnt]; simp)
        clear hb hp hi hnt hf
        go_wp2_with fail
        go_round
        case rel => exact ⟨k + 1, n, c, a, by omega, by omega, by go_num, rfl, Lib.hid (by rw [HT.out]; exact hn.out), Lib.hid (by rw [HT.out]; exact ho.out.later ((Below.refl _ _).alloc (Nat.le_refl _) _)), HB.out.alloc HB.out.size _⟩
        case measure => simp [intOf]; omega
      | some j =>
        rw [hf] at hi hnt
        have hi2 : ∀ w, (Instr.index 70 (.agg cs.toArray) (.int .i64 k)).run Tryd.prog w = .ok (.agg #[.string p.name, .pointer (some ⟨rb j, 0, none⟩)]) w := hi
        have HT := Lib.hid (show namesOf (M.now.take (k + 1)) = namesOf (M.now.take k) ++ [p.name] by rw [hnt]; simp)
        have hsz := HB.out.size
        clear hb hp hi hnt hf
        go_wp2_with (at_builtin; refine wpList_append_W rfl _ _ 52 rfl w.heap.size 9 i0 (.string ⟨#[]⟩) 1 16 Tryd.underlying52 HI0.out hz0 hz1 hz2 rfl (.slice a n c) n (strs (namesOf (M.now.take k))) rfl ((ho.out.later ((Below.refl _ _).alloc (Nat.le_refl _) _)).later ((Below.refl _ _).alloc (Nat.le_refl _) _)) (.slice (some ⟨wr.heap.size + 1, 0, none⟩) 1 1) 1 [.string p.name] rfl (by have := src_val (wr.alloc (.cells #[.string p.name, .pointer (some ⟨rb j, 0, none⟩)] 68)) (.string p.name) rfl 9; simpa using this) (by unfold maxLen; omega) (by omega) (by simp; omega) ?_; intro v3 w3 ho3 hg3 _; obtain ⟨a3, cp3, rfl⟩ := ho3.sl; have HO3 := Lib.hid ho3; have HG3 := Lib.hid hg3; clear ho3 hg3)
        go_roundw
        case rel => exact ⟨k + 1, n + 1, cp3, a3, by omega, by omega, by go_num, rfl, Lib.hid (by rw [HT.out, List.length_append, ← hn.out]; rfl), Lib.hid (by rw [HT.out, strs_append]; exact HO3.out), ((HB.out.alloc HB.out.size _).alloc (by simp; omega) _).grown HG3.out (by simp; omega) (fun g hg => (OwnV.lt ho.out g hg).1)⟩
        case measure => simp [intOf]; omega
    · obtain rfl : k = 64 := by omega
      have ho9 := ho.out
      have hn9 := hn.out
      rw [List.take_of_length_le (by have := HNL.out; omega)] at ho9 hn9
      obtain ⟨_, hcap, hcm, hnone⟩ := own_cap ho9
      have HN9 := Lib.hid hn9
      have hfin : ∀ W v, OwnS W w.heap.size v (sortB (namesOf M.now)) → OwnS W w.heap.size v M.list := fun _ _ h => h
      obtain ⟨N, hN⟩ : ∃ N, N = namesOf M.now := ⟨_, rfl⟩
      rw [← hN] at HN9 ho9 hn9 hfin
      have HFIN := Lib.hid hfin
      have HO := Lib.hid (show OwnS wr w.heap.size (.slice a n c) N by unfold OwnS; rw [← hn9]; exact ho9)
      have hnI : (n : Int) ≤ 64 := by omega
      clear hlt hn ho ho9 hn9 hfin hb HL HI
      by_cases h0 : n = 0
      · have HC := Lib.hid (fun W (h : OwnS W w.heap.size (.slice a 0 c) (sortB N)) => ClipS_any (by rw [sortB_length, ← HN9.out, h0]) W h hcm (Nat.zero_le _))
        have hs0 : sortB N = N := by
          have : N = [] := List.length_eq_zero_iff.1 (by have := HN9.out; omega)
          subst this
          simp [sortB]
        have HS0 := Lib.hid hs0
        subst h0
        clear hs0 hcm hnone hN
        go_wp2_with fail
        refine (Sort_own0 a c wr).mono ?_
        rintro _ _ ⟨rfl, rfl⟩
        go_wp2_with fail
        refine (HC.out _ (by rw [HS0.out]; exact HO.out)).mono ?_
        rintro _ _ ⟨rfl, ho, rfl⟩
        have HO2 := Lib.hid ho
        clear ho
        go_wp2_with fail
        go_ret
        exact ⟨_, rfl, HFIN.out _ _ HO2.out, HB.out⟩
      · obtain ⟨g, o, rfl⟩ : ∃ g o, a = some ⟨g, o, none⟩ := by
          have hh := HO.out.2
          rcases hh with ⟨h1, _⟩ | ⟨g, o, cap, cur, h1, _⟩
          · cases h1; exact absurd rfl h0
          · cases h1; exact ⟨g, o, rfl⟩
        have HSO := Lib.hid (Sort_own (w := wr) (base := w.heap.size) (g := g) (o := o) (cap := c) (L := N) (by rw [← HN9.out]; exact HO.out) (by rw [← HN9.out]; omega))
        rw [← HN9.out] at HSO
        have HGB := Lib.hid ((OwnV.lt HO.out g rfl).1)
        clear h0 hN hnone
        go_wp2_with fail
        refine HSO.out.mono ?_
        rintro _ w2 ⟨rfl, ho, hg⟩
        have HC := Lib.hid (ClipS_any (by rw [sortB_length, ← HN9.out]) w2 ho hcm hcap)
        have HB2 := Lib.hid (HB.out.grown hg HB.out.size (fun k hk => by cases hk; exact HGB.out))
        clear ho hg
        go_wp2_with fail
        refine HC.out.mono ?_
        rintro _ _ ⟨rfl, ho, rfl⟩
        have HO2 := Lib.hid ho
        clear ho
        go_wp2_with fail
        go_ret
        exact ⟨_, rfl, HFIN.out _ _ HO2.out, HB2.out⟩
end Go.Proofs.YtjfejpdeccnlnaaDoor
