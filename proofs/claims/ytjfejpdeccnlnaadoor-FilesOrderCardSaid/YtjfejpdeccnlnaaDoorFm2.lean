/- Layer 17 (files), in plain words: what is left of a disk that fails; what is seen of a disk. -/
import Derived.Test.YtjfejpdeccnlnaaDoorFm
namespace Go.Proofs.YtjfejpdeccnlnaaDoor

abbrev noRow : Rw := ⟨[], 0⟩
def failRow (keep : Nat) (r : Rw) : Rw := ⟨r.l.take (r.m + min keep (r.l.length - r.m)), r.m + min keep (r.l.length - r.m)⟩
/-- One place more of the disk that is left. -/
def failStep (M : Dm) (keep : Nat) (x : List Pl × List Rw) (p : Pl) : List Pl × List Rw := match p.file with
  | none => (x.1 ++ [p], x.2)
  | some k => (x.1 ++ [⟨p.name, some x.2.length⟩], x.2 ++ [failRow keep (M.rows.getD k noRow)])
def failT (M : Dm) (keep : Nat) (t : List Pl) : List Pl × List Rw := t.foldl (failStep M keep) ([], [])
theorem failT_snoc (M : Dm) (keep : Nat) (t : List Pl) (p : Pl) : failT M keep (t ++ [p]) = failStep M keep (failT M keep t) p := by simp [failT]
theorem failT_take {M : Dm} {keep : Nat} {t : List Pl} {i : Nat} {p : Pl} (h : t[i]? = some p) : failT M keep (t.take (i + 1)) = failStep M keep (failT M keep (t.take i)) p := by
  rw [List.take_add_one, h]
  exact failT_snoc M keep _ p
/-- What a table shows: names, and what their files hold. -/
def view (rows : List Rw) (t : List Pl) : List (ByteArray × Option Rw) := t.map fun p => (p.name, p.file.map fun k => rows.getD k noRow)
theorem view_append (rows : List Rw) (t u : List Pl) : view rows (t ++ u) = view rows t ++ view rows u := by simp [view]
def failView (keep : Nat) (v : List (ByteArray × Option Rw)) : List (ByteArray × Option Rw) := v.map fun x => (x.1, x.2.map (failRow keep))
structure FailOk (M : Dm) (keep : Nat) (t : List Pl) (x : List Pl × List Rw) : Prop where
  names : x.1.map Pl.name = t.map Pl.name
  file : ∀ p ∈ x.1, (p.name = noName ↔ p.file = none) ∧ ∀ k, p.file = some k → k < x.2.length
  view : view x.2 x.1 = failView keep (view M.rows t)
  rows : ∀ (k : Nat) (r : Rw), x.2[k]? = some r → r.l.length ≤ 1048576 ∧ r.m ≤ r.l.length ∧ ∀ b ∈ r.l, b < 256
theorem failRow_ok {r : Rw} (keep : Nat) (h : r.l.length ≤ 1048576 ∧ r.m ≤ r.l.length ∧ ∀ b ∈ r.l, b < 256) : (failRow keep r).l.length ≤ 1048576 ∧ (failRow keep r).m ≤ (failRow keep r).l.length ∧ (∀ b ∈ (failRow keep r).l, b < 256) ∧ (failRow keep r).l.length = (failRow keep r).m := by
  obtain ⟨h1, h2, h3⟩ := h
  have h4 : (r.l.take (r.m + min keep (r.l.length - r.m))).length = r.m + min keep (r.l.length - r.m) := by rw [List.length_take]; omega
  refine ⟨?_, ?_, fun b hb => h3 b (List.take_subset _ _ hb), h4⟩
  · show (r.l.take _).length ≤ _
    rw [List.length_take]
    omega
  · show _ ≤ (r.l.take _).length
    rw [h4]
    exact Nat.le_refl _
theorem view_grow {rows : List Rw} (r : Rw) {t : List Pl} (h : ∀ p ∈ t, ∀ k, p.file = some k → k < rows.length) : view (rows ++ [r]) t = view rows t := by
  unfold view
  refine List.map_congr_left fun p hp => ?_
  congr 1
  cases hf : p.file with
  | none => rfl
  | some k =>
    have := h p hp k hf
    simp only [Option.map_some, List.getD_eq_getElem?_getD]
    rw [List.getElem?_append_left this]
theorem failT_ok {M : Dm} (h : M.ok) (keep : Nat) (t : List Pl) (ht : ∀ p ∈ t, (p.name = noName ↔ p.file = none) ∧ ∀ k, p.file = some k → k < M.rows.length) : FailOk M keep t (failT M keep t) := by
  suffices H : ∀ (n : Nat) (t : List Pl), t.length = n → (∀ p ∈ t, (p.name = noName ↔ p.file = none) ∧ ∀ k, p.file = some k → k < M.rows.length) → FailOk M keep t (failT M keep t) from H _ t rfl ht
  clear ht t
  intro n
  induction n with
  | zero =>
    intro t hl _
    have : t = [] := List.length_eq_zero_iff.1 hl
    subst this
    exact ⟨rfl, fun p hp => by simp [failT] at hp, rfl, fun k r hr => by simp [failT] at hr⟩
  | succ n ih =>
    intro t hl ht
    obtain ⟨u, p, rfl⟩ : ∃ u p, t = u ++ [p] := by
      have hne : t ≠ [] := by rintro rfl; simp at hl
      exact ⟨t.dropLast, t.getLast hne, (List.dropLast_concat_getLast hne).symm⟩
    have hu := ih u (by simpa using hl) fun q hq => ht q (List.mem_append_left _ hq)
    have hp := ht p (List.mem_append_right _ (List.mem_singleton.2 rfl))
    rw [failT_snoc]
    obtain ⟨h1, h2, h3, h4⟩ := hu
    unfold failStep
    cases hf : p.file with
    | none =>
      refine ⟨by simp [h1], fun q hq => ?_, ?_, h4⟩
      · rcases List.mem_append.1 hq with hq | hq
        · exact h2 q hq
        · rw [List.mem_singleton.1 hq]
          exact ⟨hp.1, fun k hk => by rw [hf] at hk; cases hk⟩
      · simp only [view_append, h3, failView, List.map_append]
        simp [view, hf]
    | some k =>
      have hk := hp.2 k hf
      have hr := List.getElem?_eq_getElem hk
      have hg : M.rows.getD k noRow = M.rows[k] := by rw [List.getD_eq_getElem?_getD, hr]; rfl
      have hro := failRow_ok keep (h.rl k _ hr)
      refine ⟨by simp [h1], fun q hq => ?_, ?_, fun j r hj => ?_⟩
      · rcases List.mem_append.1 hq with hq | hq
        · exact ⟨(h2 q hq).1, fun j hj => by have := (h2 q hq).2 j hj; simp; omega⟩
        · rw [List.mem_singleton.1 hq]
          refine ⟨⟨fun e => ?_, fun e => by cases e⟩, fun j hj => by cases hj; simp⟩
          have := hp.1.1 e
          rw [hf] at this
          cases this
      · simp only [view_append, failView, List.map_append]
        rw [view_grow _ fun q hq j hj => (h2 q hq).2 j hj, h3]
        simp [failView, view, hf, List.getD_eq_getElem?_getD]
      · rcases Nat.lt_or_ge j (failT M keep u).2.length with hjl | hjl
        · rw [List.getElem?_append_left hjl] at hj
          exact h4 j r hj
        · rw [List.getElem?_append_right hjl] at hj
          obtain ⟨_, hj⟩ := List.getElem?_eq_some_iff.1 hj
          rw [List.getElem_singleton, hg] at hj
          rw [← hj]
          exact ⟨hro.1, hro.2.1, hro.2.2.1⟩
/-- What is left of a disk, its names not safe yet. -/
def Dm.left0 (M : Dm) (keep : Nat) (names : Bool) : Dm :=
  ⟨M.size, (failT M keep (if names then M.now else M.safe)).1, List.replicate 64 free, (failT M keep (if names then M.now else M.safe)).2⟩
def Dm.fail (M : Dm) (keep : Nat) (names : Bool) : Dm := (M.left0 keep names).names
theorem Dm.ok.tab {M : Dm} (h : M.ok) (names : Bool) : okT M.rows.length (if names then M.now else M.safe) := by cases names; exact h.safe; exact h.now
theorem okT.mem {n : Nat} {t : List Pl} (h : okT n t) : ∀ p ∈ t, (p.name = noName ↔ p.file = none) ∧ ∀ k, p.file = some k → k < n := fun p hp => by
  obtain ⟨i, hi⟩ := List.mem_iff_getElem?.1 hp
  exact h.file i p hi
theorem Dm.ok.left0 {M : Dm} (h : M.ok) (keep : Nat) (names : Bool) : (M.left0 keep names).ok := by
  have ht := h.tab names
  have hf := failT_ok h keep _ ht.mem
  refine ⟨h.size, ?_, okT.free0 _, hf.rows⟩
  unfold Dm.left0
  generalize (if names then M.now else M.safe) = t at ht hf ⊢
  have hn : ∀ (i : Nat) (p : Pl), (failT M keep t).1[i]? = some p → ∃ q, t[i]? = some q ∧ q.name = p.name := by
    intro i p hp
    have h1 := congrArg (fun l => l[i]?) hf.names
    simp only [List.getElem?_map, hp, Option.map_some] at h1
    cases hq : t[i]? with
    | none => rw [hq] at h1; cases h1
    | some q => rw [hq] at h1; exact ⟨q, rfl, (Option.some.inj h1).symm⟩
  refine ⟨?_, fun i p hp => hf.file p (List.mem_of_getElem? hp), fun i j p q hp hq he hne => ?_, fun i p hp hne => ?_⟩
  · have := congrArg List.length hf.names
    rw [List.length_map, List.length_map, ht.len] at this
    exact this
  · obtain ⟨p', hp', e1⟩ := hn i p hp
    obtain ⟨q', hq', e2⟩ := hn j q hq
    exact ht.one i j p' q' hp' hq' (by rw [e1, e2, he]) (by rw [e1]; exact hne)
  · obtain ⟨p', hp', e1⟩ := hn i p hp
    rw [← e1] at hne ⊢
    exact ht.may i p' hp' hne
theorem Dm.ok.fail {M : Dm} (h : M.ok) (keep : Nat) (names : Bool) : (M.fail keep names).ok := (h.left0 keep names).names
def Dm.see (M : Dm) : List (ByteArray × Option Rw) := view M.rows M.now
def Dm.seeSafe (M : Dm) : List (ByteArray × Option Rw) := view M.rows M.safe
theorem fail_see {M : Dm} (h : M.ok) (keep : Nat) (names : Bool) : (M.fail keep names).see = failView keep (if names then M.see else M.seeSafe) := by
  have hf := (failT_ok h keep _ (h.tab names).mem).view
  show view (failT M keep (if names then M.now else M.safe)).2 (failT M keep (if names then M.now else M.safe)).1 = _
  rw [hf]
  cases names <;> rfl
end Go.Proofs.YtjfejpdeccnlnaaDoor
