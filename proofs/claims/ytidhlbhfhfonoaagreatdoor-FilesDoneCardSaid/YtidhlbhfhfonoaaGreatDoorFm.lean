/- Layer 17 (files): what a disk is, in plain words; Layer 17 (files), in plain words: what is left of a disk that fails; what is seen of a disk -/
import Derived.Test.YtidhlbhfhfonoaaGreatDoorCommon
import Derived.WalkKit
import Derived.Lib.Hide
namespace Go.Proofs.YtidhlbhfhfonoaaGreatDoor

/-- A row of bytes, and the mark in it. -/
structure Rw where
  l : List Nat
  m : Nat
/-- A place: a name, and its file's number. -/
structure Pl where
  name : ByteArray
  file : Option Nat
/-- A disk. -/
structure Dm where
  size : Nat
  now : List Pl
  safe : List Pl
  rows : List Rw

abbrev noName : ByteArray := ⟨#[]⟩
abbrev free : Pl := ⟨noName, none⟩
/-- Which names may be. -/
def mayB : List UInt8 := [97, 98, 99, 100, 101, 102, 103, 104, 105, 106, 107, 108, 109, 110, 111, 112, 113, 114, 115, 116, 117, 118, 119, 120, 121, 122, 48, 49, 50, 51, 52, 53, 54, 55, 56, 57, 45, 46]
def nameOk (s : ByteArray) : Bool := decide (s.size ≠ 0) && decide (s.size ≤ 16) && s.data.toList.all (fun b => mayB.contains b)
/-- Where a name stands. -/
def find (t : List Pl) (s : ByteArray) : Option Nat := t.findIdx? (fun p => decide (p.name = s))
theorem find_some {t : List Pl} {s : ByteArray} {i : Nat} (h : find t s = some i) : ∃ p, t[i]? = some p ∧ p.name = s ∧ i < t.length := by
  unfold find at h
  rw [List.findIdx?_eq_some_iff_getElem] at h
  obtain ⟨h1, h2, _⟩ := h
  exact ⟨t[i], List.getElem?_eq_getElem h1, by simpa using h2, h1⟩
theorem find_of {t : List Pl} {s : ByteArray} {i : Nat} (h : i < t.length) (h1 : t[i].name = s) (h2 : ∀ j (hj : j < i), t[j].name ≠ s) : find t s = some i := by
  unfold find
  rw [List.findIdx?_eq_some_iff_getElem]
  exact ⟨h, by simpa using h1, fun j hj => by simpa using h2 j hj⟩
theorem find_none_of {t : List Pl} {s : ByteArray} (h2 : ∀ j (hj : j < t.length), t[j].name ≠ s) : find t s = none := by
  unfold find
  rw [List.findIdx?_eq_none_iff]
  intro p hp
  obtain ⟨j, hj, rfl⟩ := List.mem_iff_getElem.1 hp
  simpa using h2 j hj
/-- Where a name stands, or -1. -/
def spot (t : List Pl) (s : ByteArray) : Int := match find t s with
  | some i => i
  | none => -1
/-- The bytes of all files. -/
def rowOf (M : Dm) (p : Pl) : Rw := match p.file with
  | some k => M.rows.getD k ⟨[], 0⟩
  | none => ⟨[], 0⟩
def used (M : Dm) (t : List Pl) : Nat := (t.map fun p => (rowOf M p).l.length).sum
def Dm.left (M : Dm) : Nat := M.size - used M M.now

/-- The table in which a name is free. -/
def freed (t : List Pl) (z : ByteArray) : List Pl := match find t z with
  | some j => t.set j free
  | none => t
def Dm.create (M : Dm) (s : ByteArray) : Dm × Nat :=
  if nameOk s then match find M.now s with
    | some _ => (M, 8)
    | none => match find M.now noName with
      | none => (M, 6)
      | some i => ({ M with now := M.now.set i ⟨s, some M.rows.length⟩, rows := M.rows ++ [⟨[], 0⟩] }, 0)
  else (M, 1)
/-- What is done at a name that is there. -/
def Dm.at (M : Dm) (s : ByteArray) (f : Nat → Dm × Nat) : Dm × Nat :=
  if nameOk s then match find M.now s with
    | none => (M, 7)
    | some i => f i
  else (M, 1)
def Dm.remove (M : Dm) (s : ByteArray) : Dm × Nat := M.at s fun i => ({ M with now := M.now.set i free }, 0)
def Dm.rename (M : Dm) (s z : ByteArray) : Dm × Nat :=
  if nameOk z then M.at s fun i =>
    if s = z then (M, 0) else
      ({ M with now := (freed M.now z).set i ⟨z, (M.now.getD i free).file⟩ }, 0)
  else (M, 1)
def Dm.file (M : Dm) (i : Nat) : Nat := ((M.now.getD i free).file).getD 0
def Dm.row (M : Dm) (i : Nat) : Rw := M.rows.getD (M.file i) ⟨[], 0⟩
def Dm.append (M : Dm) (s : ByteArray) (b : List Nat) : Dm × Nat := M.at s fun i =>
  if b.length ≤ M.left ∧ (M.row i).l.length + b.length ≤ 1048576 then ({ M with rows := M.rows.set (M.file i) ⟨(M.row i).l ++ b, (M.row i).m⟩ }, 0) else (M, 6)
def Dm.sync (M : Dm) (s : ByteArray) : Dm × Nat := M.at s fun i => ({ M with rows := M.rows.set (M.file i) ⟨(M.row i).l, (M.row i).l.length⟩ }, 0)
def Dm.names (M : Dm) : Dm := { M with safe := M.now }
def new0 (n : Nat) : Dm := ⟨n, List.replicate 64 free, List.replicate 64 free, []⟩

theorem nameOk_ne {s : ByteArray} (h : nameOk s = true) : s ≠ noName := by
  rintro rfl
  revert h
  decide
/-- No two places have one name. -/
def dist (t : List Pl) : Prop := ∀ (i j : Nat) (p q : Pl), t[i]? = some p → t[j]? = some q → p.name = q.name → p.name ≠ noName → i = j
/-- A table that is one, of n rows. -/
structure okT (n : Nat) (t : List Pl) : Prop where
  len : t.length = 64
  file : ∀ (i : Nat) (p : Pl), t[i]? = some p → (p.name = noName ↔ p.file = none) ∧ ∀ k, p.file = some k → k < n
  one : dist t
  may : ∀ (i : Nat) (p : Pl), t[i]? = some p → p.name ≠ noName → nameOk p.name = true
theorem okT.mono {n m : Nat} {t : List Pl} (h : okT n t) (hm : n ≤ m) : okT m t := ⟨h.len, fun i p hp => ⟨(h.file i p hp).1, fun k hk => Nat.lt_of_lt_of_le ((h.file i p hp).2 k hk) hm⟩, h.one, h.may⟩
theorem set_get {t : List Pl} {i j : Nat} {p q : Pl} (h : (t.set i p)[j]? = some q) : (i = j ∧ i < t.length ∧ q = p) ∨ (i ≠ j ∧ t[j]? = some q) := by
  by_cases hij : i = j
  · subst hij
    rw [List.getElem?_set] at h
    rw [if_pos rfl] at h
    split at h
    · cases h; exact .inl ⟨rfl, ‹_›, rfl⟩
    · cases h
  · rw [List.getElem?_set_ne hij] at h
    exact .inr ⟨hij, h⟩
theorem okT.set {n : Nat} {t : List Pl} (h : okT n t) {i : Nat} {p : Pl} (h1 : p.name = noName ↔ p.file = none) (h2 : ∀ k, p.file = some k → k < n) (h3 : p.name ≠ noName → ∀ (j : Nat) (q : Pl), j ≠ i → t[j]? = some q → q.name ≠ p.name) (h4 : p.name ≠ noName → nameOk p.name = true) : okT n (t.set i p) := by
  refine ⟨by rw [List.length_set, h.len], fun j q hq => ?_, fun a b q r hq hr he hne => ?_, fun j q hq hne => ?_⟩
  · rcases set_get hq with ⟨rfl, _, rfl⟩ | ⟨_, hq⟩
    · exact ⟨h1, h2⟩
    · exact h.file j q hq
  · rcases set_get hq with ⟨e1, _, e2⟩ | ⟨hia, hq'⟩
    · rcases set_get hr with ⟨e3, _, e4⟩ | ⟨hib, hr'⟩
      · omega
      · rw [e2] at he hne
        exact absurd he.symm (h3 hne b r (fun e => hib e.symm) hr')
    · rcases set_get hr with ⟨e3, _, e4⟩ | ⟨hib, hr'⟩
      · rw [e4] at he
        exact absurd he (h3 (by rw [← he]; exact hne) a q (fun e => hia e.symm) hq')
      · exact h.one a b q r hq' hr' he hne
  · rcases set_get hq with ⟨_, _, e2⟩ | ⟨_, hq'⟩
    · rw [e2] at hne ⊢
      exact h4 hne
    · exact h.may j q hq' hne
theorem okT.gone {n : Nat} {t : List Pl} (h : okT n t) (i : Nat) : okT n (t.set i free) := h.set (by simp) (by simp) (fun hn => absurd rfl hn) (fun hn => absurd rfl hn)
theorem okT.free0 (n : Nat) : okT n (List.replicate 64 free) :=
  have h : ∀ (i : Nat) (p : Pl), (List.replicate 64 free)[i]? = some p → p = free := fun i p hp => by
    rw [List.getElem?_replicate] at hp
    split at hp
    · exact (Option.some.inj hp).symm
    · cases hp
  ⟨rfl, fun i p hp => by rw [h i p hp]; simp, fun i j p q hp _ _ hne => by rw [h i p hp] at hne; exact absurd rfl hne, fun i p hp hne => by rw [h i p hp] at hne; exact absurd rfl hne⟩
theorem find_get {t : List Pl} {s : ByteArray} {i : Nat} (h : find t s = some i) : ∃ f, t[i]? = some ⟨s, f⟩ ∧ i < t.length := by
  obtain ⟨p, h1, rfl, h3⟩ := find_some h
  exact ⟨p.file, h1, h3⟩
theorem find_none {t : List Pl} {s : ByteArray} (h : find t s = none) : ∀ (j : Nat) (q : Pl), t[j]? = some q → q.name ≠ s := fun j q hq e => by
  unfold find at h
  rw [List.findIdx?_eq_none_iff] at h
  have := h q (List.mem_of_getElem? hq)
  simp [e] at this
/-- A disk that is one. -/
structure Dm.ok (M : Dm) : Prop where
  size : 1 ≤ M.size ∧ M.size ≤ 8388608
  now : okT M.rows.length M.now
  safe : okT M.rows.length M.safe
  rl : ∀ (k : Nat) (r : Rw), M.rows[k]? = some r → r.l.length ≤ 1048576 ∧ r.m ≤ r.l.length ∧ ∀ b ∈ r.l, b < 256
theorem Dm.ok.nl {M : Dm} (h : M.ok) : M.now.length = 64 := h.now.len
theorem Dm.ok.sl {M : Dm} (h : M.ok) : M.safe.length = 64 := h.safe.len
theorem Dm.ok.found {M : Dm} (h : M.ok) {s : ByteArray} {i : Nat} (hs : nameOk s = true) (hf : find M.now s = some i) : ∃ k r, M.now[i]? = some ⟨s, some k⟩ ∧ M.rows[k]? = some r ∧ i < 64 ∧ M.file i = k ∧ M.row i = r := by
  obtain ⟨f, h1, h2⟩ := find_get hf
  obtain ⟨h3, h4⟩ := h.now.file i _ h1
  cases f with
  | none => exact absurd (h3.2 rfl) (nameOk_ne hs)
  | some k =>
    have hk := h4 k rfl
    refine ⟨k, M.rows[k], h1, List.getElem?_eq_getElem hk, by have := h.nl; omega, ?_, ?_⟩
    · simp [Dm.file, List.getD, h1]
    · simp [Dm.row, Dm.file, List.getD, h1, hk]
theorem Dm.ok.create {M : Dm} (h : M.ok) {s : ByteArray} (hs : nameOk s = true) (hf : find M.now s = none) (i : Nat) : Dm.ok { M with now := M.now.set i ⟨s, some M.rows.length⟩, rows := M.rows ++ [⟨[], 0⟩] } := by
  have hl : (M.rows ++ [(⟨[], 0⟩ : Rw)]).length = M.rows.length + 1 := by simp
  refine ⟨h.size, ?_, ?_, fun k r hr => ?_⟩
  · show okT (M.rows ++ [(⟨[], 0⟩ : Rw)]).length _
    rw [hl]
    exact (h.now.mono (Nat.le_succ _)).set ⟨fun e => absurd e (nameOk_ne hs), fun e => by cases e⟩ (fun k hk => by cases hk; omega) (fun _ j q _ hq => find_none hf j q hq) (fun _ => hs)
  · show okT (M.rows ++ [(⟨[], 0⟩ : Rw)]).length _
    rw [hl]
    exact h.safe.mono (Nat.le_succ _)
  · rcases Nat.lt_or_ge k M.rows.length with hk | hk
    · rw [List.getElem?_append_left hk] at hr
      exact h.rl k r hr
    · rw [List.getElem?_append_right hk] at hr
      have := List.getElem?_eq_some_iff.1 hr
      obtain ⟨h1, rfl⟩ := this
      have h0 : k - M.rows.length = 0 := by simpa using h1
      simp [h0]
theorem Dm.ok.remove {M : Dm} (h : M.ok) (i : Nat) : Dm.ok { M with now := M.now.set i free } := ⟨h.size, h.now.gone i, h.safe, h.rl⟩
theorem okT.freed {n : Nat} {t : List Pl} (h : okT n t) (z : ByteArray) : okT n (freed t z) := by
  unfold Go.Proofs.YtidhlbhfhfonoaaGreatDoor.freed
  split
  · exact h.gone _
  · exact h
theorem freed_none {n : Nat} {t : List Pl} (h : okT n t) {z : ByteArray} (hz : z ≠ noName) : ∀ (j : Nat) (q : Pl), (freed t z)[j]? = some q → q.name ≠ z := by
  intro j q hq e
  unfold freed at hq
  split at hq
  · rename_i a ha
    obtain ⟨f, h1, _⟩ := find_get ha
    rcases set_get hq with ⟨rfl, _, rfl⟩ | ⟨hne, hq⟩
    · exact hz e.symm
    · exact hne (h.one a j _ _ h1 hq e.symm hz)
  · rename_i hn
    exact find_none hn j q hq e
theorem Dm.ok.rename {M : Dm} (h : M.ok) {s z : ByteArray} {i : Nat} {f : Option Nat} (hz : nameOk z = true) (hi : M.now[i]? = some ⟨s, f⟩) (hs : nameOk s = true) : Dm.ok { M with now := (freed M.now z).set i ⟨z, f⟩ } := by
  obtain ⟨h3, h4⟩ := h.now.file i _ hi
  exact ⟨h.size, (h.now.freed z).set ⟨fun e => absurd e (nameOk_ne hz), fun e => absurd (h3.2 e) (nameOk_ne hs)⟩ h4 (fun _ j q _ hq => freed_none h.now (nameOk_ne hz) j q hq) (fun _ => hz), h.safe, h.rl⟩
theorem Dm.ok.setRow {M : Dm} (h : M.ok) {k : Nat} {r : Rw} (h1 : r.l.length ≤ 1048576) (h2 : r.m ≤ r.l.length) (h3 : ∀ b ∈ r.l, b < 256) : Dm.ok { M with rows := M.rows.set k r } := by
  refine ⟨h.size, ?_, ?_, fun j q hq => ?_⟩
  · show okT (M.rows.set k r).length _
    rw [List.length_set]; exact h.now
  · show okT (M.rows.set k r).length _
    rw [List.length_set]; exact h.safe
  · rw [List.getElem?_set] at hq
    split at hq
    · split at hq
      · cases hq; exact ⟨h1, h2, h3⟩
      · cases hq
    · exact h.rl j q hq
theorem Dm.ok.names {M : Dm} (h : M.ok) : M.names.ok := ⟨h.size, h.now, h.now, h.rl⟩
theorem new0_ok {n : Nat} (h1 : 1 ≤ n) (h2 : n ≤ 8388608) : (new0 n).ok := ⟨⟨h1, h2⟩, okT.free0 _, okT.free0 _, fun k r hr => by simp [new0] at hr⟩
end Go.Proofs.YtidhlbhfhfonoaaGreatDoor
namespace Go.Proofs.YtidhlbhfhfonoaaGreatDoor

abbrev noRow : Rw := ⟨[], 0⟩
def failRow (keep : Nat) (r : Rw) : Rw := ⟨r.l.take (r.m + min keep (r.l.length - r.m)), r.m + min keep (r.l.length - r.m)⟩
/-- One place more of the disk that is left. -/
def failStep (M : Dm) (keep : Nat) (x : List Pl × List Rw) (p : Pl) : List Pl × List Rw := match p.file with
  | none => (x.1 ++ [p], x.2)
  | some k => (x.1 ++ [⟨p.name, some x.2.length⟩], x.2 ++ [failRow keep (M.rows.getD k noRow)])
def failT (M : Dm) (keep : Nat) (t : List Pl) : List Pl × List Rw := t.foldl (failStep M keep) ([], [])
theorem failT_snoc (M : Dm) (keep : Nat) (t : List Pl) (p : Pl) : failT M keep (t ++ [p]) = failStep M keep (failT M keep t) p := by simp [failT]
theorem failT_take {M : Dm} {keep : Nat} {t : List Pl} {i : Nat} {p : Pl} (h : t[i]? = some p) : failT M keep (t.take (i + 1)) = failStep M keep (failT M keep (t.take i)) p := by
  rw [List.take_add_one, h]
  exact failT_snoc M keep _ p
/-- What a table shows: names, and what their files hold. -/
def view (rows : List Rw) (t : List Pl) : List (ByteArray × Option Rw) := t.map fun p => (p.name, p.file.map fun k => rows.getD k noRow)
theorem view_append (rows : List Rw) (t u : List Pl) : view rows (t ++ u) = view rows t ++ view rows u := by simp [view]
def failView (keep : Nat) (v : List (ByteArray × Option Rw)) : List (ByteArray × Option Rw) := v.map fun x => (x.1, x.2.map (failRow keep))
structure FailOk (M : Dm) (keep : Nat) (t : List Pl) (x : List Pl × List Rw) : Prop where
  names : x.1.map Pl.name = t.map Pl.name
  file : ∀ p ∈ x.1, (p.name = noName ↔ p.file = none) ∧ ∀ k, p.file = some k → k < x.2.length
  view : view x.2 x.1 = failView keep (view M.rows t)
  rows : ∀ (k : Nat) (r : Rw), x.2[k]? = some r → r.l.length ≤ 1048576 ∧ r.m ≤ r.l.length ∧ ∀ b ∈ r.l, b < 256
theorem failRow_ok {r : Rw} (keep : Nat) (h : r.l.length ≤ 1048576 ∧ r.m ≤ r.l.length ∧ ∀ b ∈ r.l, b < 256) : (failRow keep r).l.length ≤ 1048576 ∧ (failRow keep r).m ≤ (failRow keep r).l.length ∧ (∀ b ∈ (failRow keep r).l, b < 256) ∧ (failRow keep r).l.length = (failRow keep r).m := by
  obtain ⟨h1, h2, h3⟩ := h
  have h4 : (r.l.take (r.m + min keep (r.l.length - r.m))).length = r.m + min keep (r.l.length - r.m) := by rw [List.length_take]; omega
  refine ⟨?_, ?_, fun b hb => h3 b (List.take_subset _ _ hb), h4⟩
  · show (r.l.take _).length ≤ _
    rw [List.length_take]
    omega
  · show _ ≤ (r.l.take _).length
    rw [h4]
    exact Nat.le_refl _
theorem view_grow {rows : List Rw} (r : Rw) {t : List Pl} (h : ∀ p ∈ t, ∀ k, p.file = some k → k < rows.length) : view (rows ++ [r]) t = view rows t := by
  unfold view
  refine List.map_congr_left fun p hp => ?_
  congr 1
  cases hf : p.file with
  | none => rfl
  | some k =>
    have := h p hp k hf
    simp only [Option.map_some, List.getD_eq_getElem?_getD]
    rw [List.getElem?_append_left this]
theorem failT_ok {M : Dm} (h : M.ok) (keep : Nat) (t : List Pl) (ht : ∀ p ∈ t, (p.name = noName ↔ p.file = none) ∧ ∀ k, p.file = some k → k < M.rows.length) : FailOk M keep t (failT M keep t) := by
  suffices H : ∀ (n : Nat) (t : List Pl), t.length = n → (∀ p ∈ t, (p.name = noName ↔ p.file = none) ∧ ∀ k, p.file = some k → k < M.rows.length) → FailOk M keep t (failT M keep t) from H _ t rfl ht
  clear ht t
  intro n
  induction n with
  | zero =>
    intro t hl _
    have : t = [] := List.length_eq_zero_iff.1 hl
    subst this
    exact ⟨rfl, fun p hp => by simp [failT] at hp, rfl, fun k r hr => by simp [failT] at hr⟩
  | succ n ih =>
    intro t hl ht
    obtain ⟨u, p, rfl⟩ : ∃ u p, t = u ++ [p] := by
      have hne : t ≠ [] := by rintro rfl; simp at hl
      exact ⟨t.dropLast, t.getLast hne, (List.dropLast_concat_getLast hne).symm⟩
    have hu := ih u (by simpa using hl) fun q hq => ht q (List.mem_append_left _ hq)
    have hp := ht p (List.mem_append_right _ (List.mem_singleton.2 rfl))
    rw [failT_snoc]
    obtain ⟨h1, h2, h3, h4⟩ := hu
    unfold failStep
    cases hf : p.file with
    | none =>
      refine ⟨by simp [h1], fun q hq => ?_, ?_, h4⟩
      · rcases List.mem_append.1 hq with hq | hq
        · exact h2 q hq
        · rw [List.mem_singleton.1 hq]
          exact ⟨hp.1, fun k hk => by rw [hf] at hk; cases hk⟩
      · simp only [view_append, h3, failView, List.map_append]
        simp [view, hf]
    | some k =>
      have hk := hp.2 k hf
      have hr := List.getElem?_eq_getElem hk
      have hg : M.rows.getD k noRow = M.rows[k] := by rw [List.getD_eq_getElem?_getD, hr]; rfl
      have hro := failRow_ok keep (h.rl k _ hr)
      refine ⟨by simp [h1], fun q hq => ?_, ?_, fun j r hj => ?_⟩
      · rcases List.mem_append.1 hq with hq | hq
        · exact ⟨(h2 q hq).1, fun j hj => by have := (h2 q hq).2 j hj; simp; omega⟩
        · rw [List.mem_singleton.1 hq]
          refine ⟨⟨fun e => ?_, fun e => by cases e⟩, fun j hj => by cases hj; simp⟩
          have := hp.1.1 e
          rw [hf] at this
          cases this
      · simp only [view_append, failView, List.map_append]
        rw [view_grow _ fun q hq j hj => (h2 q hq).2 j hj, h3]
        simp [failView, view, hf, List.getD_eq_getElem?_getD]
      · rcases Nat.lt_or_ge j (failT M keep u).2.length with hjl | hjl
        · rw [List.getElem?_append_left hjl] at hj
          exact h4 j r hj
        · rw [List.getElem?_append_right hjl] at hj
          obtain ⟨_, hj⟩ := List.getElem?_eq_some_iff.1 hj
          rw [List.getElem_singleton, hg] at hj
          rw [← hj]
          exact ⟨hro.1, hro.2.1, hro.2.2.1⟩
/-- What is left of a disk, its names not safe yet. -/
def Dm.left0 (M : Dm) (keep : Nat) (names : Bool) : Dm :=
  ⟨M.size, (failT M keep (if names then M.now else M.safe)).1, List.replicate 64 free, (failT M keep (if names then M.now else M.safe)).2⟩
def Dm.fail (M : Dm) (keep : Nat) (names : Bool) : Dm := (M.left0 keep names).names
theorem Dm.ok.tab {M : Dm} (h : M.ok) (names : Bool) : okT M.rows.length (if names then M.now else M.safe) := by cases names; exact h.safe; exact h.now
theorem okT.mem {n : Nat} {t : List Pl} (h : okT n t) : ∀ p ∈ t, (p.name = noName ↔ p.file = none) ∧ ∀ k, p.file = some k → k < n := fun p hp => by
  obtain ⟨i, hi⟩ := List.mem_iff_getElem?.1 hp
  exact h.file i p hi
theorem Dm.ok.left0 {M : Dm} (h : M.ok) (keep : Nat) (names : Bool) : (M.left0 keep names).ok := by
  have ht := h.tab names
  have hf := failT_ok h keep _ ht.mem
  refine ⟨h.size, ?_, okT.free0 _, hf.rows⟩
  unfold Dm.left0
  generalize (if names then M.now else M.safe) = t at ht hf ⊢
  have hn : ∀ (i : Nat) (p : Pl), (failT M keep t).1[i]? = some p → ∃ q, t[i]? = some q ∧ q.name = p.name := by
    intro i p hp
    have h1 := congrArg (fun l => l[i]?) hf.names
    simp only [List.getElem?_map, hp, Option.map_some] at h1
    cases hq : t[i]? with
    | none => rw [hq] at h1; cases h1
    | some q => rw [hq] at h1; exact ⟨q, rfl, (Option.some.inj h1).symm⟩
  refine ⟨?_, fun i p hp => hf.file p (List.mem_of_getElem? hp), fun i j p q hp hq he hne => ?_, fun i p hp hne => ?_⟩
  · have := congrArg List.length hf.names
    rw [List.length_map, List.length_map, ht.len] at this
    exact this
  · obtain ⟨p', hp', e1⟩ := hn i p hp
    obtain ⟨q', hq', e2⟩ := hn j q hq
    exact ht.one i j p' q' hp' hq' (by rw [e1, e2, he]) (by rw [e1]; exact hne)
  · obtain ⟨p', hp', e1⟩ := hn i p hp
    rw [← e1] at hne ⊢
    exact ht.may i p' hp' hne
theorem Dm.ok.fail {M : Dm} (h : M.ok) (keep : Nat) (names : Bool) : (M.fail keep names).ok := (h.left0 keep names).names
def Dm.see (M : Dm) : List (ByteArray × Option Rw) := view M.rows M.now
def Dm.seeSafe (M : Dm) : List (ByteArray × Option Rw) := view M.rows M.safe
theorem fail_see {M : Dm} (h : M.ok) (keep : Nat) (names : Bool) : (M.fail keep names).see = failView keep (if names then M.see else M.seeSafe) := by
  have hf := (failT_ok h keep _ (h.tab names).mem).view
  show view (failT M keep (if names then M.now else M.safe)).2 (failT M keep (if names then M.now else M.safe)).1 = _
  rw [hf]
  cases names <;> rfl
end Go.Proofs.YtidhlbhfhfonoaaGreatDoor
