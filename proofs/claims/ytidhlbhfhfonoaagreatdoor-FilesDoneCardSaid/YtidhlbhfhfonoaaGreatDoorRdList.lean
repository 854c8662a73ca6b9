/- What the reference's List tells, in plain words: the least name above the last one, again and again. -/
import Derived.Test.YtidhlbhfhfonoaaGreatDoorRd
namespace Go.Proofs.YtidhlbhfhfonoaaGreatDoor
abbrev key8 (s : ByteArray) : List UInt8 := s.data.toList
theorem key8_inj {a b : ByteArray} (h : key8 a = key8 b) : a = b := by
  cases a; cases b
  simpa [key8] using h
def pickB (last : ByteArray) (b s : ByteArray) : ByteArray := if key8 last < key8 s ∧ (b = noName ∨ key8 s < key8 b) then s else b
def leastB (last : ByteArray) (L : List ByteArray) : ByteArray := L.foldl (pickB last) noName
theorem leastB_take {last : ByteArray} {L : List ByteArray} {i : Nat} {s : ByteArray} (h : L[i]? = some s) : leastB last (L.take (i + 1)) = pickB last (leastB last (L.take i)) s := by
  unfold leastB
  rw [List.take_add_one, h, List.foldl_append]
  rfl
theorem least_spec (last : ByteArray) : ∀ (L : List ByteArray) (b : ByteArray), noName ∉ L →
    (L.foldl (pickB last) b = b ∨ (L.foldl (pickB last) b ∈ L ∧ key8 last < key8 (L.foldl (pickB last) b))) ∧ (b ≠ noName → key8 (L.foldl (pickB last) b) ≤ key8 b) ∧
    ∀ s ∈ L, key8 last < key8 s → L.foldl (pickB last) b ≠ noName ∧ key8 (L.foldl (pickB last) b) ≤ key8 s
  | [], b, _ => ⟨.inl rfl, fun _ => List.le_refl _, fun s hs => absurd hs (List.not_mem_nil)⟩
  | s :: L, b, h0 => by
    have hs0 : s ≠ noName := fun e => h0 (by rw [e]; exact List.mem_cons_self ..)
    have hL0 : noName ∉ L := fun e => h0 (List.mem_cons_of_mem _ e)
    obtain ⟨h1, h2, h3⟩ := least_spec last L (pickB last b s) hL0
    have e : (s :: L).foldl (pickB last) b = L.foldl (pickB last) (pickB last b s) := rfl
    rw [e]
    generalize hc : L.foldl (pickB last) (pickB last b s) = c at h1 h2 h3 ⊢
    by_cases hp : key8 last < key8 s ∧ (b = noName ∨ key8 s < key8 b)
    · have hq : pickB last b s = s := by unfold pickB; rw [if_pos hp]
      rw [hq] at h1 h2
      have hc0 : c ≠ noName := by
        rcases h1 with h1 | h1
        · rw [h1]; exact hs0
        · exact fun e => hL0 (by rw [← e]; exact h1.1)
      refine ⟨.inr ?_, fun hb => ?_, fun x hx hl => ?_⟩
      · rcases h1 with h1 | h1
        · rw [h1]; exact ⟨List.mem_cons_self .., hp.1⟩
        · exact ⟨List.mem_cons_of_mem _ h1.1, h1.2⟩
      · exact List.le_trans (h2 hs0) (List.le_of_lt (hp.2.resolve_left hb))
      · rcases List.mem_cons.1 hx with rfl | hx
        · exact ⟨hc0, h2 hs0⟩
        · exact h3 x hx hl
    · have hq : pickB last b s = b := by unfold pickB; rw [if_neg hp]
      rw [hq] at h1 h2
      refine ⟨?_, h2, fun x hx hl => ?_⟩
      · rcases h1 with h1 | h1
        · exact .inl h1
        · exact .inr ⟨List.mem_cons_of_mem _ h1.1, h1.2⟩
      · rcases List.mem_cons.1 hx with rfl | hx
        · have hb : b ≠ noName := fun e => hp ⟨hl, .inl e⟩
          have hn : ¬ key8 x < key8 b := fun e => hp ⟨hl, .inr e⟩
          refine ⟨?_, List.le_trans (h2 hb) (List.not_lt.1 hn)⟩
          rcases h1 with h1 | h1
          · rw [h1]; exact hb
          · exact fun e => hL0 (by rw [← e]; exact h1.1)
        · exact h3 x hx hl
def ordB (L : List ByteArray) : List ByteArray := ((L.map key8).mergeSort fun x y => decide (x ≤ y)).map fun l => ⟨l.toArray⟩
theorem ordB_perm (L : List ByteArray) : (ordB L).Perm L := by
  have h := (List.mergeSort_perm (L.map key8) fun x y => decide (x ≤ y)).map fun l => (⟨l.toArray⟩ : ByteArray)
  rw [List.map_map] at h
  have e : L.map ((fun l => (⟨l.toArray⟩ : ByteArray)) ∘ key8) = L := by
    conv => rhs; rw [← List.map_id L]
    exact List.map_congr_left fun s _ => by cases s; rfl
  rw [e] at h
  exact h
theorem ordB_le (L : List ByteArray) : (ordB L).Pairwise fun x y => key8 x ≤ key8 y := by
  unfold ordB
  rw [List.pairwise_map]
  refine (List.pairwise_mergeSort (le := fun x y : List UInt8 => decide (x ≤ y)) (fun a b c h1 h2 => ?_) (fun a b => ?_) _).imp fun {a b} h => by simpa [key8] using h
  · exact decide_eq_true (List.le_trans (of_decide_eq_true h1) (of_decide_eq_true h2))
  · rcases List.le_total a b with h | h <;> simp [h]
theorem least_next {L : List ByteArray} (hd : L.Nodup) (h0 : noName ∉ L) {k : Nat} {s : ByteArray} (hk : (ordB L)[k]? = some s) : leastB (if k = 0 then noName else (ordB L).getD (k - 1) noName) L = s := by
  have hp := ordB_perm L
  have hle := ordB_le L
  have hdT : (ordB L).Nodup := hp.nodup_iff.2 hd
  obtain ⟨T, hT⟩ : ∃ T, T = ordB L := ⟨_, rfl⟩
  rw [← hT] at hp hle hdT hk ⊢
  obtain ⟨hkl, hs⟩ := List.getElem?_eq_some_iff.1 hk
  have hsL : s ∈ L := hp.mem_iff.1 (List.mem_of_getElem? hk)
  have hs0 : s ≠ noName := fun e => h0 (by rw [← e]; exact hsL)
  have lt_of : ∀ {a b : ByteArray}, key8 a ≤ key8 b → a ≠ b → key8 a < key8 b := fun {a b} h hn => List.not_le.1 fun h' => hn (key8_inj (List.le_antisymm h h'))
  have idx : ∀ i j (hi : i < T.length) (hj : j < T.length), i < j → key8 T[i] < key8 T[j] := fun i j hi hj hij => lt_of (List.pairwise_iff_getElem.1 hle i j hi hj hij) fun e => by
    have := (List.getElem_inj hdT).1 e
    omega
  obtain ⟨last, hl⟩ : ∃ last, last = (if k = 0 then noName else T.getD (k - 1) noName) := ⟨_, rfl⟩
  rw [← hl]
  have hlt : key8 last < key8 s := by
    rw [hl]
    by_cases h : k = 0
    · rw [if_pos h]
      cases hq : key8 s with
      | nil => exact absurd (key8_inj (b := noName) hq) hs0
      | cons x l => exact List.nil_lt_cons x l
    · rw [if_neg h, List.getD_eq_getElem?_getD, List.getElem?_eq_getElem (by omega), Option.getD_some, ← hs]
      exact idx (k - 1) k (by omega) hkl (by omega)
  have hmin : ∀ x ∈ L, key8 last < key8 x → key8 s ≤ key8 x := fun x hx hx' => by
    obtain ⟨j, hj⟩ := List.mem_iff_getElem?.1 (hp.mem_iff.2 hx)
    obtain ⟨hjl, rfl⟩ := List.getElem?_eq_some_iff.1 hj
    rcases Nat.lt_trichotomy j k with h | h | h
    · exfalso
      have hk0 : k ≠ 0 := by omega
      rw [hl, if_neg hk0, List.getD_eq_getElem?_getD, List.getElem?_eq_getElem (by omega), Option.getD_some] at hx'
      by_cases h' : j = k - 1
      · subst h'; exact List.lt_irrefl _ hx'
      · exact List.lt_irrefl _ (List.lt_trans hx' (idx j (k - 1) hjl (by omega) (by omega)))
    · subst h; rw [hs]; exact List.le_refl _
    · rw [← hs]; exact List.le_of_lt (idx k j hkl hjl h)
  obtain ⟨h1, _, h3⟩ := least_spec last L noName h0
  obtain ⟨h4, h5⟩ := h3 s hsL hlt
  have hc := h1.resolve_left h4
  exact key8_inj (List.le_antisymm h5 (hmin _ hc.1 hc.2))
end Go.Proofs.YtidhlbhfhfonoaaGreatDoor
