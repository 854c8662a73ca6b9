/- Layer 17 (files): what stores make of a disk. -/
import Derived.Test.YtjfejpdeccnlnaaDoorDisk3
namespace Go.Proofs.YtjfejpdeccnlnaaDoor
open Go.ChangeShapes Go.WideShapes Go.ChangeAt Go.RowKit

theorem Chg.setCell {w w' : World} {S : Nat → Prop} (h : Chg w w' S) {p : Addr} (hp : S p.block ∨ w.heap.size ≤ p.block) (v : Value) : Chg w (w'.setCell p v) S :=
  ⟨h.os, h.tape, h.output, by simpa [World.setCell] using h.size, fun g hg hn => by
    rw [Below.heap_setCell _ _ _ _ (by rintro rfl; rcases hp with hp | hp; exact hn hp; omega)]
    exact h.block g hg hn⟩
theorem Chg.alloc {w w' : World} {S : Nat → Prop} (h : Chg w w' S) (o : Obj) : Chg w (w'.alloc o) S :=
  ⟨h.os, h.tape, h.output, Nat.le_trans h.size (by simp), fun g hg hn => (Below.heap_alloc _ _ _ (by have := h.size; omega)).trans (h.block g hg hn)⟩
theorem Chg.drew {w w' : World} {S : Nat → Prop} (h : Chg w w' S) : Chg w w'.drew S := ⟨h.os, h.tape, h.output, h.size, h.block⟩
theorem Chg.drewN {w w' : World} {S : Nat → Prop} (h : Chg w w' S) (n : Nat) : Chg w (w'.drewN n) S := ⟨h.os, h.tape, h.output, h.size, h.block⟩
theorem Chg.grown {w w' w2 : World} {S : Nat → Prop} {row : Option Nat} (h : Chg w w' S) (hg : w'.grownBy w2 row) (hr : ∀ k, row = some k → S k ∨ w.heap.size ≤ k) : Chg w w2 S :=
  ⟨hg.os.trans h.os, hg.tape.trans h.tape, hg.output.trans h.output, Nat.le_trans h.size hg.size, fun g hl hn => by
    rw [hg.block g (by have := h.size; omega) (fun e => by rcases hr g e.symm with e | e; exact hn e; omega)]
    exact h.block g hl hn⟩
theorem Chg.on {w w1 w2 : World} {S : Nat → Prop} (h : Chg w w1 S) (hb : Below w1.heap.size w1 w2) : Chg w w2 S :=
  ⟨hb.os.trans h.os, hb.tape.trans h.tape, hb.output.trans h.output, Nat.le_trans h.size hb.size, fun g hl hn => (hb.block g (by have := h.size; omega)).trans (h.block g hl hn)⟩

/-! ### A table's store -/
theorem dc_put (M : Dm) (rb : Nat → Nat) (i : Nat) (p : Pl) (hi : i < M.now.length) : dc { M with now := M.now.set i p } rb = ((dc M rb).set (1 + i * 2) (.string p.name)).set (1 + i * 2 + 1) (ptrOf rb p.file) := by
  have hl := tab_length rb M.now
  unfold dc
  rw [show 1 + i * 2 = i * 2 + 1 by omega, List.set_cons_succ, List.set_cons_succ, List.set_append_left _ _ (by omega), List.set_append_left _ _ (by rw [List.length_set]; omega), tab_set]
theorem dc_length {M : Dm} (h : M.ok) (rb : Nat → Nat) : (dc M rb).length = 257 := by
  simp [dc, tab_length, h.nl, h.sl]
theorem heap_two {w : World} {D a b : Nat} {l : List Value} {t : TypeId} (h : w.heap[D]? = some (.cells l.toArray t (0, 0))) (u v : Value) :
    ((w.setCell ⟨D, a, none⟩ u).setCell ⟨D, b, none⟩ v).heap[D]? = some (.cells ((l.set a u).set b v).toArray t (0, 0)) := by
  have h1 := heap_setCell_same w D a _ t u h
  rw [List.setIfInBounds_toArray] at h1
  have h2 := heap_setCell_same _ D b _ t v h1
  rw [List.setIfInBounds_toArray] at h2
  exact h2
theorem DiskAt.put {w : World} {base D : Nat} {M : Dm} {rb : Nat → Nat} {rv : Nat → Value} (h : DiskAt w base D M rb rv) {i : Nat} {p : Pl} (hi : i < 64) (hok : Dm.ok { M with now := M.now.set i p }) {f : Value} (hf : f = ptrOf rb p.file) :
    DiskAt ((w.setCell ⟨D, 1 + i * 2, none⟩ (.string p.name)).setCell ⟨D, 1 + i * 2 + 1, none⟩ f) base D { M with now := M.now.set i p } rb rv := by
  subst hf
  have hk : ∀ g, g ≠ D → ((w.setCell ⟨D, 1 + i * 2, none⟩ (.string p.name)).setCell ⟨D, 1 + i * 2 + 1, none⟩ (ptrOf rb p.file)).heap[g]? = w.heap[g]? := fun g hg => by
    rw [Below.heap_setCell _ _ _ _ hg, Below.heap_setCell _ _ _ _ hg]
  refine ⟨hok, ?_, fun k r hr => ?_, h.lowD, h.low, h.two⟩
  · rw [dc_put M rb i p (by have := h.ok.nl; omega)]
    exact heap_two h.blk _ _
  · have hkl : k < M.rows.length := (List.getElem?_eq_some_iff.1 hr).1
    have h0 := h.row k r hr
    obtain ⟨l1, l2, l3⟩ := h.low k hkl
    exact ⟨(hk _ l2).trans h0.blk, h0.own.block fun g hg => hk g (fun e => l3 (by rw [hg, e]))⟩
theorem Foot.put {D : Nat} {M : Dm} {rb : Nat → Nat} {rv : Nat → Value} {t : List Pl} {g : Nat} : Foot D { M with now := t } rb rv g ↔ Foot D M rb rv g := Iff.rfl
/-- The name alone. -/
theorem DiskAt.name {w : World} {base D : Nat} {M : Dm} {rb : Nat → Nat} {rv : Nat → Value} (h : DiskAt w base D M rb rv) {i : Nat} {s z : ByteArray} {f : Option Nat} (hi : M.now[i]? = some ⟨s, f⟩) (hok : Dm.ok { M with now := M.now.set i ⟨z, f⟩ }) :
    DiskAt (w.setCell ⟨D, 1 + i * 2, none⟩ (.string z)) base D { M with now := M.now.set i ⟨z, f⟩ } rb rv := by
  have hi' : i < M.now.length := (List.getElem?_eq_some_iff.1 hi).1
  have hk : ∀ g, g ≠ D → (w.setCell ⟨D, 1 + i * 2, none⟩ (.string z)).heap[g]? = w.heap[g]? := fun g hg => Below.heap_setCell _ _ _ _ hg
  refine ⟨hok, ?_, fun k r hr => ?_, h.lowD, h.low, h.two⟩
  · have h1 := heap_setCell_same w D (1 + i * 2) _ _ (.string z) h.blk
    rw [List.setIfInBounds_toArray] at h1
    rw [h1, dc_put M rb i _ hi']
    have h2 : (dc M rb)[1 + i * 2 + 1]? = some (ptrOf rb f) := by
      have := (tab_get rb hi).2
      have hlen := (List.getElem?_eq_some_iff.1 this).1
      rw [show 1 + i * 2 + 1 = (i * 2 + 1) + 1 by omega, dc, List.getElem?_cons_succ, List.getElem?_append_left hlen]
      exact this
    have e : ((dc M rb).set (1 + i * 2) (.string z)).set (1 + i * 2 + 1) (ptrOf rb f) = (dc M rb).set (1 + i * 2) (.string z) := by
      refine List.ext_getElem? fun j => ?_
      by_cases hj : j = 1 + i * 2 + 1
      · subst hj
        rw [List.getElem?_set_self (by rw [List.length_set]; exact (List.getElem?_eq_some_iff.1 h2).1), List.getElem?_set_ne (by omega), h2]
      · rw [List.getElem?_set_ne (fun e => hj e.symm)]
    rw [e]
  · have hkl : k < M.rows.length := (List.getElem?_eq_some_iff.1 hr).1
    have h0 := h.row k r hr
    obtain ⟨l1, l2, l3⟩ := h.low k hkl
    exact ⟨(hk _ l2).trans h0.blk, h0.own.block fun g hg => hk g (fun e => l3 (by rw [hg, e]))⟩

/-! ### A new row -/
theorem DiskAt.newRow {w : World} {base D : Nat} {M : Dm} {rb : Nat → Nat} {rv : Nat → Value} (h : DiskAt w base D M rb rv) :
    DiskAt (w.alloc (.cells #[.slice none 0 0, .int .i64 0] 85)) base D { M with rows := M.rows ++ [⟨[], 0⟩] } (fun k => if k = M.rows.length then w.heap.size else rb k) (fun k => if k = M.rows.length then .slice none 0 0 else rv k) := by
  have hD := (h.foot D (.inl rfl)).2
  have hb : Below w.heap.size w (w.alloc (.cells #[.slice none 0 0, .int .i64 0] 85)) := (Below.refl _ _).alloc (Nat.le_refl _) _
  have hlen : (M.rows ++ [(⟨[], 0⟩ : Rw)]).length = M.rows.length + 1 := by simp
  have hrow : ∀ (k : Nat) (r : Rw), (M.rows ++ [(⟨[], 0⟩ : Rw)])[k]? = some r → (k < M.rows.length ∧ M.rows[k]? = some r) ∨ (k = M.rows.length ∧ r = ⟨[], 0⟩) := by
    intro k r hr
    rcases Nat.lt_or_ge k M.rows.length with hk | hk
    · rw [List.getElem?_append_left hk] at hr
      exact .inl ⟨hk, hr⟩
    · rw [List.getElem?_append_right hk] at hr
      obtain ⟨h1, h2⟩ := List.getElem?_eq_some_iff.1 hr
      have h0 : k - M.rows.length = 0 := by simpa using h1
      exact .inr ⟨by omega, by rw [← h2]; simp [h0]⟩
  have hne : ∀ k, k < M.rows.length → k ≠ M.rows.length := fun k hk => by omega
  have hrbk : ∀ k, k < M.rows.length → rb k < w.heap.size := fun k hk => (h.foot _ (.inr ⟨k, hk, .inl rfl⟩)).2
  have hrvk : ∀ k, k < M.rows.length → ∀ g, (rv k).ownBlock = some g → g < w.heap.size := fun k hk g hg => (h.foot _ (.inr ⟨k, hk, .inr hg⟩)).2
  refine ⟨⟨h.ok.size, ?_, ?_, ?_⟩, ?_, fun k r hr => ?_, h.lowD, fun k hk => ?_, fun j k hj hk => ?_⟩
  · show okT (M.rows ++ [(⟨[], 0⟩ : Rw)]).length M.now
    rw [hlen]; exact h.ok.now.mono (Nat.le_succ _)
  · show okT (M.rows ++ [(⟨[], 0⟩ : Rw)]).length M.safe
    rw [hlen]; exact h.ok.safe.mono (Nat.le_succ _)
  · intro k r hr
    rcases hrow k r hr with ⟨_, hr⟩ | ⟨_, rfl⟩
    · exact h.ok.rl k r hr
    · simp
  · have e1 : ∀ (t : List Pl), okT M.rows.length t → tab (fun k => if k = M.rows.length then w.heap.size else rb k) t = tab rb t := fun t ht => tab_congr fun p hp k hk => by
      obtain ⟨i, hi⟩ := List.mem_iff_getElem?.1 hp
      exact if_neg (hne k ((ht.file i p hi).2 k hk))
    rw [Below.heap_alloc _ _ _ hD, h.blk]
    simp only [dc]
    rw [e1 _ h.ok.now, e1 _ h.ok.safe]
  · rcases hrow k r hr with ⟨hk, hr⟩ | ⟨rfl, rfl⟩
    · simp only [if_neg (hne k hk)]
      have h0 := h.row k r hr
      exact ⟨(hb.block _ (hrbk k hk)).trans h0.blk, h0.own.later hb⟩
    · simp only [if_pos]
      exact ⟨heap_alloc_new w _, rfl, .inl ⟨rfl, rfl⟩⟩
  · have hk' : k < M.rows.length + 1 := by rw [← hlen]; exact hk
    by_cases hkl : k = M.rows.length
    · simp only [if_pos hkl]
      exact ⟨by have := h.lowD; omega, by omega, by simp [Value.ownBlock]⟩
    · simp only [if_neg hkl]
      exact h.low k (by omega)
  · have hj' : j < M.rows.length + 1 := by rw [← hlen]; exact hj
    have hk' : k < M.rows.length + 1 := by rw [← hlen]; exact hk
    by_cases hjl : j = M.rows.length
    · subst hjl
      refine ⟨by simp [Value.ownBlock], fun hjk => ?_⟩
      have hkn : k ≠ M.rows.length := fun e => hjk e.symm
      simp only [if_pos, if_neg hkn]
      exact ⟨by have := hrbk k (by omega); omega, fun g hg => by simp [Value.ownBlock] at hg⟩
    · have hjl' : j < M.rows.length := by omega
      by_cases hkl : k = M.rows.length
      · subst hkl
        simp only [if_pos, if_neg hjl]
        refine ⟨fun e => by have := hrvk j hjl' _ e; omega, fun _ => ⟨by have := hrbk j hjl'; omega, fun g hg => by simp [Value.ownBlock]⟩⟩
      · simp only [if_neg hjl, if_neg hkl]
        exact h.two j k hjl' (by omega)

/-! ### A row that turns -/
theorem DiskAt.setRow {w w' : World} {base D : Nat} {M : Dm} {rb : Nat → Nat} {rv : Nat → Value} (h : DiskAt w base D M rb rv) {k : Nat} {r r' : Rw} {v' : Value} (hr : M.rows[k]? = some r) (hok : Dm.ok { M with rows := M.rows.set k r' })
    (hb : ∀ g, g < w.heap.size → g ≠ rb k → (rv k).ownBlock ≠ some g → w'.heap[g]? = w.heap[g]?) (hrow : RowAt w' base (rb k) v' r') (hv : v'.ownBlock = (rv k).ownBlock ∨ ∀ g, v'.ownBlock = some g → w.heap.size ≤ g) :
    DiskAt w' base D { M with rows := M.rows.set k r' } rb (fun j => if j = k then v' else rv j) := by
  have hk : k < M.rows.length := (List.getElem?_eq_some_iff.1 hr).1
  have hlen : (M.rows.set k r').length = M.rows.length := List.length_set
  obtain ⟨l1, l2, l3⟩ := h.low k hk
  have hrbk : ∀ j, j < M.rows.length → rb j < w.heap.size := fun j hj => (h.foot _ (.inr ⟨j, hj, .inl rfl⟩)).2
  have hrvk : ∀ j, j < M.rows.length → ∀ g, (rv j).ownBlock = some g → g < w.heap.size := fun j hj g hg => (h.foot _ (.inr ⟨j, hj, .inr hg⟩)).2
  have hD := (h.foot D (.inl rfl)).2
  refine ⟨hok, ?_, fun j q hq => ?_, h.lowD, fun j hj => ?_, fun i j hi hj => ?_⟩
  · exact (hb D hD (fun e => l2 e.symm) l3).trans h.blk
  · by_cases hjk : j = k
    · subst hjk
      simp only [if_pos]
      have hq' : (M.rows.set j r')[j]? = some q := hq
      rw [List.getElem?_set_self hk] at hq'
      cases hq'
      exact hrow
    · simp only [if_neg hjk]
      have hq' : (M.rows.set k r')[j]? = some q := hq
      rw [List.getElem?_set_ne (fun e => hjk e.symm)] at hq'
      have hjl : j < M.rows.length := (List.getElem?_eq_some_iff.1 hq').1
      have h0 := h.row j q hq'
      obtain ⟨t1, t2⟩ := h.two j k hjl hk
      obtain ⟨t3, t4⟩ := t2 hjk
      obtain ⟨t5, t6⟩ := h.two k j hk hjl
      exact ⟨(hb _ (hrbk j hjl) t3 (fun e => t5 e)).trans h0.blk, h0.own.block fun g hg => hb g (hrvk j hjl g hg) (fun e => t1 (by rw [hg, e])) (t4 g hg)⟩
  · have hj' : j < M.rows.length := by rw [← hlen]; exact hj
    by_cases hjk : j = k
    · subst hjk
      simp only [if_pos]
      refine ⟨l1, l2, fun e => ?_⟩
      rcases hv with hv | hv
      · exact l3 (hv ▸ e)
      · have := hv D e; omega
    · simp only [if_neg hjk]
      exact h.low j hj'
  · have hi' : i < M.rows.length := by rw [← hlen]; exact hi
    have hj' : j < M.rows.length := by rw [← hlen]; exact hj
    obtain ⟨t1, t2⟩ := h.two i j hi' hj'
    obtain ⟨t1', t2'⟩ := h.two j i hj' hi'
    by_cases hik : i = k
    · subst hik
      simp only [if_pos]
      refine ⟨fun e => ?_, fun hne => ?_⟩
      · rcases hv with hv | hv
        · exact t1 (hv ▸ e)
        · have := hv _ e; have := hrbk j hj'; omega
      · have hjk : j ≠ i := fun e => hne e.symm
        simp only [if_neg hjk]
        refine ⟨(t2 hne).1, fun g hg => ?_⟩
        rcases hv with hv | hv
        · exact (t2 hne).2 g (hv ▸ hg)
        · exact fun e => by have := hv g hg; have := hrvk j hj' g e; omega
    · simp only [if_neg hik]
      refine ⟨t1, fun hne => ⟨(t2 hne).1, fun g hg => ?_⟩⟩
      by_cases hjk : j = k
      · subst hjk
        simp only [if_pos]
        intro e
        rcases hv with hv | hv
        · exact (t2 hne).2 g hg (hv ▸ e)
        · have := hv g e; have := hrvk i hi' g hg; omega
      · simp only [if_neg hjk]
        exact (t2 hne).2 g hg

/-! ### Names -/
def setL (l : List Value) : Nat → List Value → List Value
  | _, [] => l
  | o, v :: r => setL (l.set o v) (o + 1) r
theorem setL_mid : ∀ (vs a b c : List Value), b.length = vs.length → setL (a ++ (b ++ c)) a.length vs = a ++ (vs ++ c)
  | [], a, b, c, h => by
    have : b = [] := List.length_eq_zero_iff.1 h
    subst this
    rfl
  | v :: vs, a, x :: b, c, h => by
    rw [setL]
    have h1 : (a ++ (x :: b ++ c)).set a.length v = (a ++ [v]) ++ (b ++ c) := by
      rw [List.set_append_right _ _ (Nat.le_refl _), Nat.sub_self]
      simp
    have h2 := setL_mid vs (a ++ [v]) b c (by simpa using h)
    rw [List.length_append, List.length_singleton] at h2
    rw [h1, h2]
    simp
theorem heap_setCells {t : TypeId} {D : Nat} : ∀ (vs : List Value) (o : Nat) (w : World) (l : List Value), w.heap[D]? = some (.cells l.toArray t (0, 0)) → (w.setCells D o vs).heap[D]? = some (.cells (setL l o vs).toArray t (0, 0))
  | [], _, _, _, h => h
  | v :: vs, o, w, l, h => by
    have h1 := heap_setCell_same w D o _ t v h
    rw [List.setIfInBounds_toArray] at h1
    exact heap_setCells vs (o + 1) _ _ h1
theorem setCells_other (D : Nat) : ∀ (vs : List Value) (o : Nat) (w : World) (g : Nat), g ≠ D → (w.setCells D o vs).heap[g]? = w.heap[g]?
  | [], _, _, _, _ => rfl
  | v :: vs, o, w, g, h => by
    rw [World.setCells, setCells_other D vs (o + 1) _ g h, Below.heap_setCell _ _ _ _ h]
theorem setCells_size (D : Nat) : ∀ (vs : List Value) (o : Nat) (w : World), (w.setCells D o vs).heap.size = w.heap.size
  | [], _, _ => rfl
  | v :: vs, o, w => by rw [World.setCells, setCells_size D vs]; simp
theorem setCells_rest (D : Nat) : ∀ (vs : List Value) (o : Nat) (w : World), (w.setCells D o vs).os = w.os ∧ (w.setCells D o vs).tape = w.tape ∧ (w.setCells D o vs).output = w.output
  | [], _, _ => ⟨rfl, rfl, rfl⟩
  | v :: vs, o, w => setCells_rest D vs (o + 1) (w.setCell ⟨D, o, none⟩ v)
theorem DiskAt.names {w : World} {base D : Nat} {M : Dm} {rb : Nat → Nat} {rv : Nat → Value} (h : DiskAt w base D M rb rv) : DiskAt (w.setCells D 129 (tab rb M.now)) base D M.names rb rv := by
  have hk : ∀ g, g ≠ D → (w.setCells D 129 (tab rb M.now)).heap[g]? = w.heap[g]? := fun g hg => setCells_other D _ _ _ g hg
  refine ⟨h.ok.names, ?_, fun k r hr => ?_, h.lowD, h.low, h.two⟩
  · have h1 := heap_setCells (tab rb M.now) 129 w _ h.blk
    rw [h1]
    have h2 := setL_mid (tab rb M.now) (.int .i64 M.size :: tab rb M.now) (tab rb M.safe) [] (by rw [tab_length, tab_length, h.ok.nl, h.ok.sl])
    rw [List.length_cons, tab_length, h.ok.nl] at h2
    simp only [List.append_nil] at h2
    show some (Obj.cells (setL (dc M rb) 129 (tab rb M.now)).toArray _ _) = some (Obj.cells (dc M.names rb).toArray _ _)
    congr 3
  · have hkl : k < M.rows.length := (List.getElem?_eq_some_iff.1 hr).1
    have h0 := h.row k r hr
    obtain ⟨l1, l2, l3⟩ := h.low k hkl
    exact ⟨(hk _ l2).trans h0.blk, h0.own.block fun g hg => hk g (fun e => l3 (by rw [hg, e]))⟩
theorem Chg.setCells {w w' : World} {S : Nat → Prop} (h : Chg w w' S) {D : Nat} (hp : S D ∨ w.heap.size ≤ D) (o : Nat) (vs : List Value) : Chg w (w'.setCells D o vs) S := by
  obtain ⟨e1, e2, e3⟩ := setCells_rest D vs o w'
  refine ⟨e1.trans h.os, e2.trans h.tape, e3.trans h.output, by rw [setCells_size]; exact h.size, fun g hg hn => ?_⟩
  rw [setCells_other D vs o w' g (by rintro rfl; rcases hp with hp | hp; exact hn hp; omega)]
  exact h.block g hg hn
end Go.Proofs.YtjfejpdeccnlnaaDoor
