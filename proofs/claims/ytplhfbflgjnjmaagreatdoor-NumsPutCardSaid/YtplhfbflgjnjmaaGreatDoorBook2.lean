/- Book: all lists of bytes are written over. -/
import Derived.Test.YtplhfbflgjnjmaaGreatDoorBook1
namespace Go.Proofs.YtplhfbflgjnjmaaGreatDoor
open Go.ChangeShapes Go.WideShapes Go.ChangeAt Go.RowKit

theorem heap_same (w : World) (b off : Nat) (u : Value) (c : Array Value) (t : TypeId) (fr : Nat × Nat) (h : w.heap[b]? = some (.cells c t fr)) : (w.setCell ⟨b, off, none⟩ u).heap[b]? = some (.cells (c.setIfInBounds off u) t fr) := by
  simp only [World.setCell]
  rw [Array.getElem?_modify]
  simp [h]
/-- One element of a slice of the call's own is written over. -/
theorem OwnV.put {w : World} {base : Nat} {e : TypeId} {size n : Nat} {xs : List Value} {g o cap : Nat} (h : OwnV w base e size (.slice (some ⟨g, o, none⟩) n cap) n xs) {j : Nat} (u : Value) : OwnV (w.setCell ⟨g, o + j, none⟩ u) base e size (.slice (some ⟨g, o, none⟩) n cap) n (xs.set j u) := by
  obtain ⟨h1, h2⟩ := h
  rcases h2 with ⟨h2, _⟩ | ⟨g', o', cap', cur, h3, h4, h5, h6, h7, h8, h9⟩
  · cases h2
  · cases h3
    refine ⟨by rw [List.length_set]; exact h1, .inr ⟨g, o, cap, _, rfl, h4, heap_same w g (o + j) u cur e (0, 0) h5, h6, h7, by rw [Array.size_setIfInBounds]; exact h8, ?_⟩⟩
    rw [Array.toList_setIfInBounds, List.drop_set, if_neg (by omega), show o + j - o = j by omega, List.take_set, h9]
theorem set_grown (w : World) (g off : Nat) (u : Value) : w.grownBy (w.setCell ⟨g, off, none⟩ u) (some g) := ⟨rfl, rfl, rfl, by simp, fun k _ hk => heap_other w _ _ k (fun e => hk (by rw [e]))⟩
theorem drew_grown (w : World) (r : Option Nat) : w.grownBy w.drew r := ⟨rfl, rfl, rfl, Nat.le_refl _, fun _ _ _ => rfl⟩
theorem own_free {w : World} {base : Nat} {e : TypeId} {size n : Nat} {xs : List Value} {g o cap : Nat} (h : OwnV w base e size (.slice (some ⟨g, o, none⟩) n cap) n xs) (j : Nat) : w.frozen? ⟨g, j, none⟩ = false := by
  obtain ⟨h1, h2⟩ := h
  rcases h2 with ⟨h2, _⟩ | ⟨g', o', cap', cur, h3, h4, h5, _⟩
  · cases h2
  · cases h3
    simp [World.frozen?, h5]
theorem cell_far {w : World} {a : Addr} {v u : Value} {g off : Nat} (h : w.cell? a = some v) (hn : a.block ≠ g) : (w.setCell ⟨g, off, none⟩ u).cell? a = some v := (World.cell?_of_block (w := w) (heap_other w ⟨g, off, none⟩ u a.block hn)).trans h
def mark (i : Nat) : Value := .int .u8 ((i : Int) + 1)
/-- The first p are written over. -/
def part_ (i p : Nat) (xs : List Value) : List Value := List.replicate p (mark i) ++ xs.drop p
theorem part_zero (i : Nat) (xs : List Value) : part_ i 0 xs = xs := by simp [part_]
theorem part_all (i : Nat) (xs : List Value) {n : Nat} (h : xs.length = n) : part_ i n xs = List.replicate n (mark i) := by rw [part_, List.drop_eq_nil_of_le (by omega), List.append_nil]
theorem part_set (i p : Nat) (xs : List Value) (h : p < xs.length) : (part_ i p xs).set p (mark i) = part_ i (p + 1) xs := by
  unfold part_
  rw [List.set_append_right _ _ (by simp), List.length_replicate, Nat.sub_self, List.drop_eq_getElem_cons h, List.set_cons_zero, List.replicate_succ', List.append_assoc]
  rfl
theorem part_get (i p : Nat) (xs : List Value) : (part_ i p xs)[p]? = xs[p]? := by
  unfold part_
  rw [List.getElem?_append_right (by simp), List.length_replicate, Nat.sub_self, List.getElem?_drop, Nat.add_zero]
/-- What is known of the lists that a book holds. -/
structure Fam (w : World) (base B k : Nat) (vb : Value) (L G : Nat → Value) (N : Nat → Nat) (X : Nat → List Value) : Prop where
  book : BookAt w B k vb
  row : OwnV w base 72 3 vb k (held L G k)
  own : ∀ i, i < k → OwnV w base 5 1 (L i) (N i) (X i)
theorem Fam.later {w w' : World} {base B k : Nat} {vb : Value} {L G : Nat → Value} {N : Nat → Nat} {X : Nat → List Value} (h : Fam w base B k vb L G N X) (hb : Below w.heap.size w w') : Fam w' base B k vb L G N X :=
  ⟨h.book.kept (hb.block B h.book.lt), OwnV.later h.row hb, fun i hi => OwnV.later (h.own i hi) hb⟩
/-- The lists lie apart. -/
structure Aparts (B k : Nat) (vb : Value) (L : Nat → Value) : Prop where
  notB : vb.ownBlock ≠ some B
  one : ∀ i, i < k → ∀ g, (L i).ownBlock = some g → g ≠ B ∧ vb.ownBlock ≠ some g
  two : ∀ i j, i < k → j < k → i ≠ j → ∀ g, (L i).ownBlock = some g → (L j).ownBlock ≠ some g
theorem Fam.put {w : World} {base B k : Nat} {vb : Value} {L G : Nat → Value} {N : Nat → Nat} {X : Nat → List Value} (h : Fam w base B k vb L G N X) (ha : Aparts B k vb L) {i : Nat} (hi : i < k) {g o cap : Nat} (hL : L i = .slice (some ⟨g, o, none⟩) (N i) cap) {j : Nat} (u : Value) :
    Fam (w.setCell ⟨g, o + j, none⟩ u) base B k vb L G N (fun p => if p = i then (X i).set j u else X p) := by
  have hg : (L i).ownBlock = some g := by rw [hL]; rfl
  have hab := ha.one i hi g hg
  have hs := set_grown w g (o + j) u
  refine ⟨h.book.grown hs (fun e => by cases e; exact hab.1 rfl), OwnV.kept h.row hs (.inr hab.2), fun p hp => ?_⟩
  by_cases hpi : p = i
  · subst hpi
    rw [if_pos rfl]
    have h1 := h.own p hp
    rw [hL] at h1 ⊢
    exact OwnV.put h1 u
  · rw [if_neg hpi]
    exact OwnV.kept (h.own p hp) hs (.inr (ha.two i p hi hp (fun e => hpi e.symm) g hg))
theorem Fam.drew {w : World} {base B k : Nat} {vb : Value} {L G : Nat → Value} {N : Nat → Nat} {X : Nat → List Value} (h : Fam w base B k vb L G N X) : Fam w.drew base B k vb L G N X := h.later ((Below.refl _ _).drew)
theorem Fam.congr {w : World} {base B k : Nat} {vb : Value} {L G : Nat → Value} {N : Nat → Nat} {X Y : Nat → List Value} (h : Fam w base B k vb L G N X) (hxy : ∀ i, i < k → X i = Y i) : Fam w base B k vb L G N Y :=
  ⟨h.book, h.row, fun i hi => by rw [← hxy i hi]; exact h.own i hi⟩
theorem mark_any (w : World) (i : Nat) (hi : i ≤ 100) : Calls Tryz.prog 80 #[.int .i64 ((i : Int) + 1)] w fun e w' => e = .returned (.int .u8 ((i : Int) + 1)) ∧ w = w' := by
  have h : (i : Int) ≤ 100 := by omega
  have e : ((i : Int) + 1) % 256 = (i : Int) + 1 := by omega
  go_enter Tryz.func80, Tryz.ntmps80
  go_wp2
  go_ret
  exact ⟨by first | rfl | (rw [e]; rfl), rfl⟩
/-- A held list, in its row. -/
theorem held_cells {w : World} {base k : Nat} {L G : Nat → Value} {g o cap : Nat} (h : OwnV w base 72 3 (.slice (some ⟨g, o, none⟩) k cap) k (held L G k)) {i : Nat} (hi : i < k) :
    w.cell? ⟨g, o + i * 3, none⟩ = some (L i) ∧ w.cell? ⟨g, o + i * 3 + 1, none⟩ = some (G i) ∧ w.cell? ⟨g, o + i * 3 + 2, none⟩ = some (.int .i64 ((i : Int) + 1)) := by
  obtain ⟨h1, h2, h3⟩ := held_get L G hi
  have hc := OwnV.cells h
  refine ⟨?_, ?_, ?_⟩
  · have := hc _ _ h1; rwa [Addr.add_lit] at this
  · have := hc _ _ h2; rwa [Addr.add_lit, ← Nat.add_assoc] at this
  · have := hc _ _ h3; rwa [Addr.add_lit, ← Nat.add_assoc] at this
theorem vb_some {w : World} {base k n : Nat} {vb : Value} {xs : List Value} (h : OwnV w base 72 3 vb n xs) (hk : k < n) : ∃ g o cap, vb = .slice (some ⟨g, o, none⟩) n cap ∧ n ≤ cap ∧ cap ≤ maxLen ∧ base ≤ g ∧ g < w.heap.size := by
  rcases h.2 with ⟨_, h⟩ | ⟨g, o, cap, cur, h1, h2, h3, h4, h5, _⟩
  · omega
  · exact ⟨g, o, cap, h1, h4, h5, h2, (Array.getElem?_eq_some_iff.1 h3).1⟩
set_option maxRecDepth 20000 in
set_option maxHeartbeats 3000000 in
theorem fill_any (w : World) (B base k : Nat) (vb : Value) (L G : Nat → Value) (N : Nat → Nat) (X : Nat → List Value) (hF : Fam w base B k vb L G N X) (hA : Aparts B k vb L) (hk : k ≤ 100) (hB : base ≤ B) (hG : ∀ i, i < k → G i = .slice none 0 0) (hN : ∀ i, i < k → N i ≤ 140737488355328) :
    Calls Tryz.prog 26 #[.pointer (some ⟨B, 0, none⟩)] w fun e w' => e = .returned (.tuple #[]) ∧ Fam w' base B k vb L G N (fun i => List.replicate (N i) (mark i)) ∧ Below base w w' := by
  have HF := Lib.hid hF
  have HA := Lib.hid hA
  have HG := Lib.hid hG
  have HN := Lib.hid hN
  obtain ⟨va, vc, hvb⟩ := hF.row.sl
  have hs : base ≤ w.heap.size := by have := hF.book.lt; omega
  subst hvb
  clear hF hA hG hN
  go_enter Tryz.func26, Tryz.ntmps26
  go_wp2
  go_loopw [2] (fun i wr => ∃ i' : Nat, i' ≤ k ∧ i = .int .i64 i' ∧ Fam wr base B k (.slice va k vc) L G N (fun j => if j < i' then List.replicate (N j) (mark j) else X j) ∧ Below base w wr ∧ base ≤ wr.heap.size) (fun i _ => k - (intOf i).toNat)
  case atStart => exact ⟨0, Nat.zero_le _, rfl, HF.out.congr fun i _ => by simp, Below.refl _ _, hs⟩
  case round =>
    obtain ⟨i, hi, rfl, hf, hbl, hsz⟩ := hrel
    obtain ⟨wo, rfl⟩ : ∃ wo : World, wo = wr := ⟨_, rfl⟩
    have d1 := hf.book.2.1
    by_cases hlt : i < k
    · obtain ⟨gv, ov, cv, hvb, hcv1, hcv2, hcv3, hcv4⟩ := vb_some hf.row hlt
      cases hvb
      obtain ⟨l0, l1, l2⟩ := held_cells hf.row hlt
      rw [HG.out i hlt] at l1
      obtain ⟨la, lc, hL⟩ := (hf.own i hlt).sl
      rw [hL] at l0
      have hnn := HN.out i hlt
      have HFF := Lib.hid hf
      have HBL := Lib.hid hbl
      have HL := Lib.hid hL
      unfold maxLen at hcv2
      clear hf hbl hL
      go_wp2
      obtain ⟨w2, e2⟩ : ∃ w2, w2 = wo.alloc (.cells #[.slice la (N i) lc, .slice none 0 0, .int .i64 ((i : Int) + 1)] 72) := ⟨_, rfl⟩
      have h0 : w2.cell? ⟨wo.heap.size, 0, none⟩ = some (.slice la (N i) lc) := by rw [e2]; simp
      have h2 : w2.cell? ⟨wo.heap.size, 2, none⟩ = some (.int .i64 ((i : Int) + 1)) := by rw [e2]; simp
      have hb2 : Below wo.heap.size wo w2 := by rw [e2]; exact (Below.refl _ _).alloc (Nat.le_refl _) _
      rw [← e2]
      clear e2 l0 l1 l2 d1
      have HF2 := Lib.hid (HFF.out.later hb2)
      have HB2 := Lib.hid (HBL.out.trans (hb2.mono hsz))
      have hsz2 := hb2.size
      have H0 := Lib.hid h0
      have H2 := Lib.hid h2
      clear h0 h2 hb2
      go_loopw [4] (fun j wq => ∃ j' : Nat, j' ≤ N i ∧ j = .int .i64 j' ∧ Fam wq base B k (.slice (some ⟨gv, ov, none⟩) k vc) L G N (fun p => if p = i then part_ i j' (X i) else if p < i then List.replicate (N p) (mark p) else X p) ∧ wq.cell? ⟨wo.heap.size, 0, none⟩ = some (.slice la (N i) lc) ∧ wq.cell? ⟨wo.heap.size, 2, none⟩ = some (.int .i64 ((i : Int) + 1)) ∧ Below base w wq ∧ wo.heap.size ≤ wq.heap.size) (fun j _ => N i - (intOf j).toNat)
      case atStart => exact ⟨0, Nat.zero_le _, rfl, HF2.out.congr (fun p hp => by
          by_cases hpi : p = i
          · subst hpi; simp [part_zero]
          · simp [hpi]), H0.out, H2.out, HB2.out, hsz2⟩
      case round =>
        obtain ⟨j, hj, rfl, hfq, h0, h2, hbq, hsq⟩ := hrel
        have hbd := hfq.book.2.1
        have HFQ := Lib.hid hfq
        have HBQ := Lib.hid hbq
        have hown := hfq.own i hlt
        rw [HL.out, if_pos rfl] at hown
        have HOW := Lib.hid hown
        have hX := (HFF.out.own i hlt).1
        rw [if_neg (Nat.lt_irrefl i), Nat.mul_one] at hX
        have HX := Lib.hid hX
        by_cases hjl : j < N i
        · have hh := hown.2
          rcases hh with ⟨_, hh⟩ | ⟨g, o, cap, cur, hh, hg1, hg2, hg3, hg4, _⟩
          · omega
          cases hh
          have hgb : (L i).ownBlock = some g := by rw [HL.out]; rfl
          have hgl : g < wo.heap.size := (OwnV.lt (HFF.out.own i hlt) g hgb).2
          have HGB := Lib.hid hgb
          obtain ⟨u9, hu9⟩ : ∃ u, (X i)[j]? = some u := ⟨_, List.getElem?_eq_getElem (by omega)⟩
          have hc := OwnV.cells hown j u9 (by rw [part_get]; exact hu9)
          rw [Addr.add_lit] at hc
          have hfr := own_free hown (o + j)
          unfold maxLen at hg4
          clear hfq hbq hown hu9 hX hg2 hgb
          go_wp2
          go_region_law (first
            | (go_simp
               go_at_call 80
               refine (mark_any _ i (by omega)).mono ?_
               rintro _ _ ⟨rfl, rfl⟩))
          all_goals
            go_wp2
            go_roundw
            case rel =>
              have hL9 : L i = .slice (some ⟨g, o, none⟩) (N i) lc := HL.out
              have hp := HFQ.out.put HA.out hlt hL9 (j := j) (mark i)
              refine ⟨j + 1, by omega, by go_num, Fam.congr (show Fam _ base B k _ L G N _ from hp.later (by first | exact Below.refl _ _ | exact (Below.refl _ _).drew)) (fun p hpk => ?_), ?_, ?_, ?_, ?_⟩
              · by_cases hpi : p = i
                · subst hpi
                  simp only [if_true]
                  exact part_set p j _ (by rw [HX.out]; exact hjl)
                · simp [hpi]
              · exact cell_far (off := o + j) (u := .int .u8 ((i : Int) + 1)) h0 (show wo.heap.size ≠ g by omega)
              · exact cell_far (off := o + j) (u := .int .u8 ((i : Int) + 1)) h2 (show wo.heap.size ≠ g by omega)
              · exact (HBQ.out.drew).setCell (p := ⟨g, o + j, none⟩) hg1 _
              · simpa using hsq
            case measure => simp [intOf]; omega
        · obtain rfl : j = N i := by omega
          clear hjl hown hX hfq hbq
          go_wp2
          go_roundw
          case rel => exact ⟨i + 1, by omega, by go_num, HFQ.out.congr (fun p hp => by
            by_cases hpi : p = i
            · subst hpi
              simp only [if_true, Nat.lt_succ_self]
              exact part_all p _ HX.out
            · by_cases hpl : p < i
              · simp [hpi, hpl, show p < i + 1 by omega]
              · simp [hpi, hpl, show ¬ p < i + 1 by omega]), HBQ.out, by omega⟩
          case measure => simp [intOf]; omega
    · obtain rfl : i = k := by omega
      have HFF := Lib.hid hf
      have HBL := Lib.hid hbl
      clear hf hbl
      go_wp2
      go_end0
      exact ⟨rfl, HFF.out.congr (fun p hp => if_pos hp), HBL.out⟩
end Go.Proofs.YtplhfbflgjnjmaaGreatDoor
