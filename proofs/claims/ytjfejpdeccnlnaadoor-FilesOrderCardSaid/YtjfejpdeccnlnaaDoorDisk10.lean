/- Layer 17 (files): Fail. -/
import Derived.Test.YtjfejpdeccnlnaaDoorDisk9
import Derived.Test.YtjfejpdeccnlnaaDoorFm2
import Derived.Deep.RegionHeld3
import Derived.Deep.RegionWith
namespace Go.Proofs.YtjfejpdeccnlnaaDoor
open Go.ChangeShapes Go.WideShapes Go.ChangeAt Go.RowKit

/-- Rows of bytes in memory, apart from each other and from block X. -/
structure RowsAt (w : World) (base X : Nat) (rows : List Rw) (rb : Nat → Nat) (rv : Nat → Value) : Prop where
  row : ∀ k r, rows[k]? = some r → RowAt w base (rb k) (rv k) r
  low : ∀ k, k < rows.length → base ≤ rb k ∧ rb k ≠ X ∧ (rv k).ownBlock ≠ some X
  two : ∀ j k, j < rows.length → k < rows.length → (rv j).ownBlock ≠ some (rb k) ∧ (j ≠ k → rb j ≠ rb k ∧ ∀ g, (rv j).ownBlock = some g → (rv k).ownBlock ≠ some g)
theorem RowsAt.nil (w : World) (base X : Nat) (rb : Nat → Nat) (rv : Nat → Value) : RowsAt w base X [] rb rv := ⟨fun k r h => by simp at h, fun k h => absurd h (Nat.not_lt_zero _), fun j k h => absurd h (Nat.not_lt_zero _)⟩
theorem RowsAt.lt {w : World} {base X : Nat} {rows : List Rw} {rb : Nat → Nat} {rv : Nat → Value} (h : RowsAt w base X rows rb rv) {k : Nat} (hk : k < rows.length) : rb k < w.heap.size ∧ ∀ g, (rv k).ownBlock = some g → base ≤ g ∧ g < w.heap.size := by
  have h0 := h.row k _ (List.getElem?_eq_getElem hk)
  exact ⟨lt_of_heap h0.blk, fun g hg => h0.own.lt g hg⟩
theorem RowsAt.kept {w w' : World} {base X : Nat} {rows : List Rw} {rb : Nat → Nat} {rv : Nat → Value} (h : RowsAt w base X rows rb rv) (hb : ∀ g, g < w.heap.size → g ≠ X → w'.heap[g]? = w.heap[g]?) : RowsAt w' base X rows rb rv := by
  refine ⟨fun k r hr => ?_, h.low, h.two⟩
  have hk : k < rows.length := (List.getElem?_eq_some_iff.1 hr).1
  obtain ⟨l1, l2⟩ := h.lt hk
  obtain ⟨m1, m2, m3⟩ := h.low k hk
  have h0 := h.row k r hr
  exact ⟨(hb _ l1 m2).trans h0.blk, h0.own.block fun g hg => hb g (l2 g hg).2 (fun e => m3 (by rw [hg, e]))⟩
theorem RowsAt.snoc {w w' : World} {base X b : Nat} {rows : List Rw} {rb : Nat → Nat} {rv : Nat → Value} {r : Rw} {v : Value} (h : RowsAt w base X rows rb rv) (hb : ∀ g, g < w.heap.size → g ≠ X → w'.heap[g]? = w.heap[g]?) (hX : X < w.heap.size) (hbase : base ≤ w.heap.size)
    (hr : RowAt w' base b v r) (h1 : w.heap.size ≤ b) (h2 : ∀ g, v.ownBlock = some g → w.heap.size ≤ g ∧ g ≠ b) :
    RowsAt w' base X (rows ++ [r]) (fun k => if k = rows.length then b else rb k) (fun k => if k = rows.length then v else rv k) := by
  have hk' := h.kept hb
  have hl : (rows ++ [r]).length = rows.length + 1 := by simp
  have hne : ∀ k, k < rows.length → k ≠ rows.length := fun k hk => by omega
  refine ⟨fun k q hq => ?_, fun k hk => ?_, fun j k hj hk => ?_⟩
  · rcases Nat.lt_or_ge k rows.length with hkl | hkl
    · rw [List.getElem?_append_left hkl] at hq
      simp only [if_neg (hne k hkl)]
      exact hk'.row k q hq
    · rw [List.getElem?_append_right hkl] at hq
      obtain ⟨h3, hq⟩ := List.getElem?_eq_some_iff.1 hq
      have h4 : k = rows.length := by simp at h3; omega
      rw [List.getElem_singleton] at hq
      simp only [if_pos h4]
      rw [← hq]
      exact hr
  · by_cases hkl : k = rows.length
    · simp only [if_pos hkl]
      exact ⟨by omega, by omega, fun e => by have := (h2 X e).1; omega⟩
    · simp only [if_neg hkl]
      exact h.low k (by omega)
  · by_cases hjl : j = rows.length
    · subst hjl
      simp only [if_pos]
      by_cases hkl : k = rows.length
      · subst hkl
        simp only [if_pos]
        exact ⟨fun e => (h2 b e).2 rfl, fun hne => absurd rfl hne⟩
      · simp only [if_neg hkl]
        obtain ⟨l1, l2⟩ := h.lt (k := k) (by omega)
        exact ⟨fun e => by have := (h2 _ e).1; omega, fun _ => ⟨by omega, fun g hg e => by have := (h2 g hg).1; have := (l2 g e).2; omega⟩⟩
    · simp only [if_neg hjl]
      obtain ⟨l1, l2⟩ := h.lt (k := j) (by omega)
      by_cases hkl : k = rows.length
      · subst hkl
        simp only [if_pos]
        exact ⟨fun e => by have := (l2 _ e).2; omega, fun _ => ⟨by omega, fun g hg e => by have := (h2 g e).1; have := (l2 g hg).2; omega⟩⟩
      · simp only [if_neg hkl]
        exact h.two j k (by omega) (by omega)
theorem tab_append (rb : Nat → Nat) : ∀ (t u : List Pl), tab rb (t ++ u) = tab rb t ++ tab rb u
  | [], _ => rfl
  | p :: t, u => by rw [List.cons_append, tab, tab_append rb t u, tab]; rfl
/-- The disk that is made, i places done. -/
structure Half (w : World) (base X : Nat) (M : Dm) (keep : Nat) (T : List Pl) (i : Nat) (rb rb' : Nat → Nat) (rv' : Nat → Value) : Prop where
  blk : w.heap[X]? = some (.cells (.int .i64 M.size :: (tab rb' (failT M keep (T.take i)).1 ++ (tab rb (T.drop i) ++ tab (fun _ => 0) (List.replicate 64 free)))).toArray 72 (0, 0))
  rows : RowsAt w base X (failT M keep (T.take i)).2 rb' rv'
theorem Half.done {w : World} {base X : Nat} {M : Dm} {keep : Nat} {names : Bool} {rb rb' : Nat → Nat} {rv' : Nat → Value} (h : Half w base X M keep (if names then M.now else M.safe) 64 rb rb' rv') (hok : M.ok) (hX : base ≤ X) :
    DiskAt w base X (M.left0 keep names) rb' rv' := by
  have ht := (hok.tab names).len
  obtain ⟨h1, h2⟩ := h
  rw [List.take_of_length_le (by omega)] at h1 h2
  rw [List.drop_of_length_le (by omega)] at h1
  refine ⟨hok.left0 keep names, ?_, h2.row, hX, h2.low, h2.two⟩
  rw [h1]
  unfold Dm.left0 dc
  rw [tab_free]
  rfl
/-- A place without a file. -/
theorem Half.skip {w w' : World} {base X : Nat} {M : Dm} {keep : Nat} {T : List Pl} {i : Nat} {rb rb' : Nat → Nat} {rv' : Nat → Value} {p : Pl} (h : Half w base X M keep T i rb rb' rv') (hp : T[i]? = some p) (hf : p.file = none) (hb : Below w.heap.size w w') :
    Half w' base X M keep T (i + 1) rb rb' rv' := by
  have hX := lt_of_heap h.blk
  have hd : T.drop i = p :: T.drop (i + 1) := by
    obtain ⟨hi, rfl⟩ := List.getElem?_eq_some_iff.1 hp
    exact List.drop_eq_getElem_cons hi
  obtain ⟨h1, h2⟩ := h
  have he : failT M keep (T.take (i + 1)) = ((failT M keep (T.take i)).1 ++ [p], (failT M keep (T.take i)).2) := by
    rw [failT_take hp]
    unfold failStep
    rw [hf]
  refine ⟨?_, ?_⟩
  · rw [hb.block X hX, h1, he, hd]
    simp [tab, tab_append, ptrOf, hf]
  · rw [he]
    exact h2.kept fun g hg _ => hb.block g hg
/-- A place with one: its row is a copy. -/
theorem Half.put {w w2 : World} {base X b k : Nat} {M : Dm} {keep : Nat} {T : List Pl} {i : Nat} {rb rb' : Nat → Nat} {rv' : Nat → Value} {p : Pl} {v : Value} (h : Half w base X M keep T i rb rb' rv') (hp : T[i]? = some p) (hf : p.file = some k) (hok : M.ok) (hbase : base ≤ w.heap.size)
    (hT : ∀ q ∈ T, (q.name = noName ↔ q.file = none) ∧ ∀ k, q.file = some k → k < M.rows.length)
    (hb : Below w.heap.size w w2) (hr : RowAt w2 base b v (failRow keep (M.rows.getD k noRow))) (h1 : w.heap.size ≤ b) (h2 : ∀ g, v.ownBlock = some g → w.heap.size ≤ g ∧ g ≠ b) (hl : (T.take i).length = i) :
    Half (w2.setCell ⟨X, 1 + i * 2 + 1, none⟩ (.pointer (some ⟨b, 0, none⟩))) base X M keep T (i + 1) rb (fun j => if j = (failT M keep (T.take i)).2.length then b else rb' j) (fun j => if j = (failT M keep (T.take i)).2.length then v else rv' j) := by
  have hX := lt_of_heap h.blk
  have hd : T.drop i = p :: T.drop (i + 1) := by
    obtain ⟨hi, rfl⟩ := List.getElem?_eq_some_iff.1 hp
    exact List.drop_eq_getElem_cons hi
  obtain ⟨g1, g2⟩ := h
  have he : failT M keep (T.take (i + 1)) = ((failT M keep (T.take i)).1 ++ [⟨p.name, some (failT M keep (T.take i)).2.length⟩], (failT M keep (T.take i)).2 ++ [failRow keep (M.rows.getD k noRow)]) := by
    rw [failT_take hp]
    unfold failStep
    rw [hf]
  have hF := failT_ok hok keep (T.take i) fun q hq => hT q (List.take_subset _ _ hq)
  have hfl : (failT M keep (T.take i)).1.length = i := by
    have := congrArg List.length hF.names
    rw [List.length_map, List.length_map, hl] at this
    exact this
  have hset : ∀ g, g < w.heap.size → g ≠ X → (w2.setCell ⟨X, 1 + i * 2 + 1, none⟩ (.pointer (some ⟨b, 0, none⟩))).heap[g]? = w.heap[g]? := fun g hg hne => by
    rw [Below.heap_setCell _ _ _ _ hne, hb.block g hg]
  have hbX : b ≠ X := by omega
  refine ⟨?_, ?_⟩
  · have hB2 := (hb.block X hX).trans g1
    have h3 := heap_setCell_same w2 X (1 + i * 2 + 1) _ _ (.pointer (some ⟨b, 0, none⟩)) hB2
    rw [List.setIfInBounds_toArray] at h3
    rw [h3, he, hd]
    congr 2
    have e1 : tab (fun j => if j = (failT M keep (T.take i)).2.length then b else rb' j) (failT M keep (T.take i)).1 = tab rb' (failT M keep (T.take i)).1 := tab_congr fun q hq j hj => if_neg (by have := (hF.file q hq).2 j hj; omega)
    have e2 : (tab rb' (failT M keep (T.take i)).1).length = i * 2 := by rw [tab_length, hfl]
    simp only [tab_append, e1]
    generalize tab rb' (failT M keep (T.take i)).1 = A at e2 ⊢
    rw [show 1 + i * 2 + 1 = (i * 2 + 1) + 1 by omega, List.set_cons_succ, List.set_append_right _ _ (by omega), e2, show i * 2 + 1 - i * 2 = 1 by omega]
    simp [tab, ptrOf]
  · rw [he]
    refine g2.snoc hset hX hbase ⟨?_, ?_⟩ h1 h2
    · rw [Below.heap_setCell _ _ _ _ hbX]
      exact hr.blk
    · exact hr.own.block fun g hg => Below.heap_setCell _ _ _ _ (fun e => by have := (h2 g hg).1; simp only at e; omega)
theorem Half.cell {w : World} {base X : Nat} {M : Dm} {keep : Nat} {T : List Pl} {i : Nat} {rb rb' : Nat → Nat} {rv' : Nat → Value} {p : Pl} (h : Half w base X M keep T i rb rb' rv') (hp : T[i]? = some p) (hok : M.ok)
    (hT : ∀ q ∈ T, (q.name = noName ↔ q.file = none) ∧ ∀ k, q.file = some k → k < M.rows.length) : w.cell? ⟨X, 1 + i * 2 + 1, none⟩ = some (ptrOf rb p.file) := by
  have hi := (List.getElem?_eq_some_iff.1 hp).1
  have hd : T.drop i = p :: T.drop (i + 1) := by
    obtain ⟨hi, rfl⟩ := List.getElem?_eq_some_iff.1 hp
    exact List.drop_eq_getElem_cons hi
  have hF := failT_ok hok keep (T.take i) fun q hq => hT q (List.take_subset _ _ hq)
  have hfl : (failT M keep (T.take i)).1.length = i := by
    have := congrArg List.length hF.names
    rw [List.length_map, List.length_map, List.length_take] at this
    omega
  have e2 : (tab rb' (failT M keep (T.take i)).1).length = i * 2 := by rw [tab_length, hfl]
  rw [cell_of_row w X _ _ _ (0, 0) h.blk, hd]
  generalize tab rb' (failT M keep (T.take i)).1 = A at e2 ⊢
  rw [List.getElem?_toArray, show 1 + i * 2 + 1 = (i * 2 + 1) + 1 by omega, List.getElem?_cons_succ, List.getElem?_append_right (by omega), e2, show i * 2 + 1 - i * 2 = 1 by omega]
  rfl
end Go.Proofs.YtjfejpdeccnlnaaDoor
