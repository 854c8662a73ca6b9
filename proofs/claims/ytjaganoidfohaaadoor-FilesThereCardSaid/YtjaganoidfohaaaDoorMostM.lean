/- Layer 17 (files), in plain words: how many names there are. -/
import Derived.Test.YtjaganoidfohaaaDoorGoneM
import Derived.Test.YtjaganoidfohaaaDoorDisk12
namespace Go.Proofs.YtjaganoidfohaaaDoor

/-- How many names there are. -/
def cnt (t : List Pl) : Nat := (namesOf t).length
theorem cnt_cons (p : Pl) (t : List Pl) : cnt (p :: t) = (if p.file.isSome then 1 else 0) + cnt t := by
  unfold cnt namesOf
  rw [List.filter_cons]
  by_cases h : p.file.isSome = true
  · simp [h]; omega
  · simp [h]
theorem cnt_set : ∀ (t : List Pl) (i : Nat) (p q : Pl), t[i]? = some q → cnt (t.set i p) + (if q.file.isSome then 1 else 0) = cnt t + (if p.file.isSome then 1 else 0)
  | [], i, p, q, h => by simp at h
  | x :: t, 0, p, q, h => by
    simp at h
    subst h
    rw [List.set_cons_zero, cnt_cons, cnt_cons]
    omega
  | x :: t, i + 1, p, q, h => by
    have := cnt_set t i p q (by simpa using h)
    rw [List.set_cons_succ, cnt_cons, cnt_cons]
    omega
theorem cnt_le : ∀ t : List Pl, cnt t ≤ t.length
  | [] => Nat.le_refl _
  | p :: t => by
    have := cnt_le t
    rw [cnt_cons, List.length_cons]
    split <;> omega
theorem cnt_full : ∀ (t : List Pl), cnt t = t.length → ∀ p ∈ t, p.file.isSome = true
  | [], _, p, hp => by cases hp
  | q :: t, h, p, hp => by
    have := cnt_le t
    rw [cnt_cons, List.length_cons] at h
    by_cases hq : q.file.isSome = true
    · rw [if_pos hq] at h
      rcases List.mem_cons.1 hp with rfl | hp
      · exact hq
      · exact cnt_full t (by omega) p hp
    · rw [if_neg hq] at h
      omega
theorem cnt_free : ∀ (t : List Pl), cnt t < t.length → ∃ p ∈ t, p.file = none
  | [], h => absurd h (Nat.not_lt_zero _)
  | q :: t, h => by
    rw [cnt_cons, List.length_cons] at h
    cases hq : q.file with
    | none => exact ⟨q, List.mem_cons_self .., hq⟩
    | some k =>
      rw [hq] at h
      obtain ⟨p, hp, hf⟩ := cnt_free t (by simp at h; omega)
      exact ⟨p, List.mem_cons_of_mem _ hp, hf⟩
theorem list_cnt (M : Dm) : M.list.length = cnt M.now := by
  unfold Dm.list cnt
  rw [sortB_length]
theorem spot_room {M : Dm} (h : M.ok) (hc : cnt M.now < 64) : ∃ i p, find M.now noName = some i ∧ M.now[i]? = some p ∧ p.file = none := by
  cases hf : find M.now noName with
  | none =>
    obtain ⟨p, hp, hpf⟩ := cnt_free M.now (by rw [h.nl]; exact hc)
    obtain ⟨i, hi⟩ := List.mem_iff_getElem?.1 hp
    exact absurd ((h.now.file i p hi).1.2 hpf) (find_none hf i p hi)
  | some i =>
    obtain ⟨f, h1, _⟩ := find_get hf
    exact ⟨i, _, rfl, h1, (h.now.file i _ h1).1.1 rfl⟩
theorem spot_none_full {M : Dm} (h : M.ok) (hc : cnt M.now = 64) : find M.now noName = none := by
  cases hf : find M.now noName with
  | none => rfl
  | some i =>
    obtain ⟨f, h1, _⟩ := find_get hf
    have h2 := cnt_full M.now (by rw [h.nl]; exact hc) _ (List.mem_of_getElem? h1)
    have h3 := (h.now.file i _ h1).1.1 rfl
    simp only at h2 h3
    rw [h3] at h2
    cases h2
/-- The names that are made. -/
def nm (i : Nat) : ByteArray := bstr [97 + i / 10, 48 + i % 10]
def dec (s : ByteArray) : Nat := ((s.data.toList.getD 0 0).toNat - 97) * 10 + ((s.data.toList.getD 1 0).toNat - 48)
theorem nm_ok : ∀ i, i < 80 → nameOk (nm i) = true := by decide
theorem nm_dec : ∀ i, i < 80 → dec (nm i) = i := by decide
theorem nm_more : ∀ i, i < 80 → nm i ≠ ⟨#[111, 110, 101, 46, 109, 111, 114, 101]⟩ := by decide
theorem nm_inj {i j : Nat} (hi : i < 80) (hj : j < 80) (h : nm i = nm j) : i = j := by rw [← nm_dec i hi, h, nm_dec j hj]
structure Most (M : Dm) (i : Nat) : Prop where
  ok : M.ok
  cnt : cnt M.now = min i 64
  names : ∀ (j : Nat) (p : Pl), M.now[j]? = some p → p.name ≠ noName → ∃ k, k < i ∧ p.name = nm k
theorem Most.zero : Most (new0 10) 0 := by
  refine ⟨new0_ok (by decide) (by decide), by decide, fun j p hp hne => ?_⟩
  have hp' : (List.replicate 64 free)[j]? = some p := hp
  rw [List.getElem?_replicate] at hp'
  split at hp'
  · cases hp'; exact absurd rfl hne
  · cases hp'
theorem Most.next {M : Dm} {i : Nat} (h : Most M i) (hi : i < 80) : ∃ M' e, M.create (nm i) = (M', e) ∧ Most M' (i + 1) ∧ (i < 64 → e = 0) ∧ (64 ≤ i → e = 6) := by
  have hs := nm_ok i hi
  have hnf : find M.now (nm i) = none := by
    cases hf : find M.now (nm i) with
    | none => rfl
    | some j =>
      obtain ⟨f, h1, _⟩ := find_get hf
      obtain ⟨k, hk, he⟩ := h.names j _ h1 (nameOk_ne hs)
      have := nm_inj hi (by omega) he
      omega
  by_cases hlt : i < 64
  · obtain ⟨z, p, hz, hp, hpf⟩ := spot_room h.ok (by rw [h.cnt]; omega)
    refine ⟨_, 0, create_ok hs hnf hz, ⟨h.ok.create hs hnf z, ?_, fun j q hq hne => ?_⟩, fun _ => rfl, fun h64 => by omega⟩
    · have := cnt_set M.now z ⟨nm i, some M.rows.length⟩ p hp
      rw [hpf] at this
      simp only [Option.isSome_none, Option.isSome_some, if_true, Bool.false_eq_true, if_false, h.cnt] at this
      show Go.Proofs.YtjaganoidfohaaaDoor.cnt (M.now.set z ⟨nm i, some M.rows.length⟩) = _
      omega
    · rcases set_get hq with ⟨_, _, rfl⟩ | ⟨_, hq⟩
      · exact ⟨i, by omega, rfl⟩
      · obtain ⟨k, hk, he⟩ := h.names j q hq hne
        exact ⟨k, by omega, he⟩
  · have hz := spot_none_full h.ok (by rw [h.cnt]; omega)
    refine ⟨M, 6, by simp [Dm.create, hs, hnf, hz], ⟨h.ok, by rw [h.cnt]; omega, fun j q hq hne => ?_⟩, fun h64 => by omega, fun _ => rfl⟩
    obtain ⟨k, hk, he⟩ := h.names j q hq hne
    exact ⟨k, by omega, he⟩
/-- A name of the list is there. -/
theorem list_find {M : Dm} (h : M.ok) {s : ByteArray} (hs : s ∈ M.list) : ∃ i k, find M.now s = some i ∧ M.now[i]? = some ⟨s, some k⟩ := by
  have h1 := sortB_mem hs
  unfold namesOf at h1
  obtain ⟨p, hp, rfl⟩ := List.mem_map.1 h1
  obtain ⟨hp, hf⟩ := List.mem_filter.1 hp
  cases hfd : find M.now p.name with
  | none =>
    obtain ⟨i, hi⟩ := List.mem_iff_getElem?.1 hp
    exact absurd rfl (find_none hfd i p hi)
  | some i =>
    obtain ⟨k, _, h2, _⟩ := h.found (list_ok h hs) hfd
    exact ⟨i, k, rfl, h2⟩
/-- What is removed, made anew, and takes another one's name. -/
theorem remove_cnt {M : Dm} (h : M.ok) {s : ByteArray} (hs : s ∈ M.list) : ∃ M', M.remove s = (M', 0) ∧ M'.ok ∧ cnt M'.now + 1 = cnt M.now ∧ find M'.now s = none ∧ (∀ z, z ≠ s → z ≠ noName → ∀ k, find M.now z = some k → find M'.now z = some k) ∧ (∀ z, z ≠ noName → find M.now z = none → find M'.now z = none) := by
  obtain ⟨i, k, hf, hi⟩ := list_find h hs
  have hok := list_ok h hs
  have hg : ∀ z, z ≠ noName → ∀ (j : Nat) (q : Pl), (M.now.set i free)[j]? = some q → q.name = z → j ≠ i ∧ M.now[j]? = some q := by
    intro z hz j q hq hn
    rcases set_get hq with ⟨rfl, _, rfl⟩ | ⟨hne, hq⟩
    · exact absurd hn.symm hz
    · exact ⟨fun e => hne e.symm, hq⟩
  refine ⟨_, remove_ok hok hf, h.remove i, ?_, ?_, fun z hzs hz j hj => ?_, fun z hz hj => ?_⟩
  · have := cnt_set M.now i free _ hi
    simpa using this
  · cases hfd : find (M.now.set i free) s with
    | none => rfl
    | some j =>
      obtain ⟨f, h1, _⟩ := find_get hfd
      obtain ⟨hne, h2⟩ := hg s (nameOk_ne hok) j _ h1 rfl
      exact absurd (h.now.one j i _ _ h2 hi rfl (nameOk_ne hok)) hne
  · obtain ⟨f, h1, h2⟩ := find_get hj
    have hji : i ≠ j := by
      rintro rfl
      rw [hi] at h1
      exact hzs (by cases h1; rfl)
    have hlen : j < (M.now.set i free).length := by rw [List.length_set]; exact h2
    refine find_of hlen ?_ fun a ha e => ?_
    · rw [List.getElem_set_ne hji]
      rw [List.getElem?_eq_getElem h2] at h1
      rw [Option.some.inj h1]
    · have hal : a < M.now.length := by omega
      obtain ⟨hne, h3⟩ := hg z hz a _ (List.getElem?_eq_getElem (by rw [List.length_set]; exact hal)) e
      have := h.now.one a j _ _ h3 h1 e (by rw [e]; exact hz)
      omega
  · cases hfd : find (M.now.set i free) z with
    | none => rfl
    | some j =>
      obtain ⟨f, h1, _⟩ := find_get hfd
      obtain ⟨_, h2⟩ := hg z hz j _ h1 rfl
      exact absurd rfl (find_none hj j _ h2)
theorem create_cnt {M : Dm} (h : M.ok) {s : ByteArray} (hs : nameOk s = true) (hf : find M.now s = none) (hc : cnt M.now < 64) : ∃ M', M.create s = (M', 0) ∧ M'.ok ∧ cnt M'.now = cnt M.now + 1 ∧ (∃ i, find M'.now s = some i) ∧ (∀ z, z ≠ s → z ≠ noName → ∀ k, find M.now z = some k → find M'.now z = some k) ∧ (∀ z, z ≠ s → z ≠ noName → find M.now z = none → find M'.now z = none) := by
  obtain ⟨i, p, hz, hp, hpf⟩ := spot_room h hc
  have hpn : p.name = noName := by
    obtain ⟨f, h1, _⟩ := find_get hz
    rw [hp] at h1
    cases h1
    rfl
  have hil := (List.getElem?_eq_some_iff.1 hp).1
  have hgn : ∀ z, z ≠ s → ∀ (j : Nat) (q : Pl), (M.now.set i ⟨s, some M.rows.length⟩)[j]? = some q → q.name = z → j ≠ i ∧ M.now[j]? = some q := by
    intro z hzs j q hq hn
    rcases set_get hq with ⟨rfl, _, rfl⟩ | ⟨hne, hq⟩
    · exact absurd hn.symm hzs
    · exact ⟨fun e => hne e.symm, hq⟩
  refine ⟨_, create_ok hs hf hz, h.create hs hf i, ?_, ?_, fun z hzs hzn j hj => ?_, fun z hzs hzn hj => ?_⟩
  · have := cnt_set M.now i ⟨s, some M.rows.length⟩ p hp
    rw [hpf] at this
    simpa using this
  · cases hfd : find (M.now.set i ⟨s, some M.rows.length⟩) s with
    | none => exact absurd rfl (find_none hfd i ⟨s, some M.rows.length⟩ (List.getElem?_set_self hil))
    | some j => exact ⟨j, rfl⟩
  · obtain ⟨f, h1, h2⟩ := find_get hj
    have hji : i ≠ j := by
      rintro rfl
      rw [hp] at h1
      cases h1
      exact hzn hpn
    have hlen : j < (M.now.set i ⟨s, some M.rows.length⟩).length := by rw [List.length_set]; exact h2
    refine find_of hlen ?_ fun a ha e => ?_
    · rw [List.getElem_set_ne hji]
      rw [List.getElem?_eq_getElem h2] at h1
      rw [Option.some.inj h1]
    · have hal : a < M.now.length := by omega
      obtain ⟨hne, h3⟩ := hgn z hzs a _ (List.getElem?_eq_getElem (by rw [List.length_set]; exact hal)) e
      have := h.now.one a j _ _ h3 h1 e (by rw [e]; exact hzn)
      omega
  · cases hfd : find (M.now.set i ⟨s, some M.rows.length⟩) z with
    | none => rfl
    | some j =>
      obtain ⟨f, h1, _⟩ := find_get hfd
      obtain ⟨_, h2⟩ := hgn z hzs j _ h1 rfl
      exact absurd rfl (find_none hj j _ h2)
theorem rename_cnt {M : Dm} (h : M.ok) {s z : ByteArray} {i : Nat} (hs : nameOk s = true) (hz : nameOk z = true) (hf : find M.now s = some i) (hne : s ≠ z) :
    ∃ M', M.rename s z = (M', 0) ∧ M'.ok ∧ cnt M'.now + (if (find M.now z).isSome then 1 else 0) = cnt M.now ∧ (∀ x, x ≠ z → x ≠ noName → find M.now x = none → find M'.now x = none) := by
  obtain ⟨k, r, h1, h2, h3, _, _⟩ := h.found hs hf
  have hren : M.rename s z = ({ M with now := (freed M.now z).set i ⟨z, some k⟩ }, 0) := by simp [Dm.rename, hz, Dm.at, hs, hf, hne, List.getD, h1]
  refine ⟨_, hren, h.rename hz h1 hs, ?_, fun x hxz hxn hx => ?_⟩
  · unfold freed
    cases hfz : find M.now z with
    | none =>
      have := cnt_set M.now i ⟨z, some k⟩ _ h1
      simpa using this
    | some j =>
      obtain ⟨f, hj, _⟩ := find_get hfz
      have hij : j ≠ i := by
        rintro rfl
        rw [h1] at hj
        exact hne (by cases hj; rfl)
      have hjf : f.isSome = true := by
        obtain ⟨k', _, h5, _⟩ := h.found hz hfz
        rw [hj] at h5
        cases h5
        rfl
      have e1 := cnt_set M.now j free _ hj
      have e2 := cnt_set (M.now.set j free) i ⟨z, some k⟩ ⟨s, some k⟩ (by rw [List.getElem?_set_ne hij]; exact h1)
      rw [hjf] at e1
      simp at e1 e2 ⊢
      omega
  · cases hfd : find ((freed M.now z).set i ⟨z, some k⟩) x with
    | none => rfl
    | some j =>
      obtain ⟨f, h5, _⟩ := find_get hfd
      rcases set_get h5 with ⟨_, _, e⟩ | ⟨_, h5⟩
      · cases e; exact absurd rfl hxz
      · unfold freed at h5
        split at h5
        · rcases set_get h5 with ⟨_, _, e⟩ | ⟨_, h5⟩
          · cases e; exact absurd rfl hxn
          · exact absurd rfl (find_none hx j _ h5)
        · exact absurd rfl (find_none hx j _ h5)
end Go.Proofs.YtjaganoidfohaaaDoor
