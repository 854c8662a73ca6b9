/- What the reference's disk tells is what the program's tells, in plain words -/
import Derived.Test.YtidhlbhfhfonoaaGreatDoorJZXG01
import Derived.Test.YtidhlbhfhfonoaaGreatDoorJZXG07
namespace Go.Proofs.YtidhlbhfhfonoaaGreatDoor
section
variable {M : Dm} {R : Rf} {f : Nat → Nat}
theorem Rel.why (H : Rel M R f) (ok : M.ok) (s : ByteArray) : (R.is s).2 = M.why true s := by
  rw [H.is_err ok s]
  unfold Dm.why
  by_cases hs : nameOk s = true
  · cases find M.now s <;> simp [hs]
  · simp [hs]
theorem Rel.found (H : Rel M R f) (ok : M.ok) {s : ByteArray} (h : M.why true s = 0) : ∃ i r, nameOk s = true ∧ find M.now s = some i ∧ M.row i = r ∧ num8 (R.text (R.is s).1) = r.l ∧ (R.text (R.is s).1).size = r.l.length := by
  unfold Dm.why at h
  by_cases hs : nameOk s = true
  · cases hf : find M.now s with
    | none => simp [hs, hf] at h
    | some i =>
      obtain ⟨k, r, j, b, h1, h2, h3, h4, h5, h6, h7, h8, h9, h10, h11, h12, h13⟩ := H.yes ok hs hf
      exact ⟨i, r, hs, rfl, h5, by rw [h7]; dsimp only; rw [h12, h10], by rw [h7]; dsimp only; rw [h12, h13]⟩
  · simp [hs] at h
theorem Rel.sizeE (H : Rel M R f) (ok : M.ok) (s : ByteArray) : R.sizeE s = M.sizeE s := by
  unfold Rf.sizeE Dm.sizeE
  rw [H.why ok s]
  by_cases h : M.why true s = 0
  · obtain ⟨i, r, h1, h2, h3, h4, h5⟩ := H.found ok h
    rw [if_pos h, if_pos h, h5, h2, Option.map_some, Option.getD_some, h3]
  · rw [if_neg h, if_neg h]
theorem Rel.readE (H : Rel M R f) (ok : M.ok) (s : ByteArray) (a n : Int) : R.readE s a n = M.readE s a n := by
  unfold Rf.readE Dm.readE
  rw [H.why ok s]
  by_cases h0 : 0 ≤ a ∧ 0 ≤ n
  · rw [if_pos h0, if_pos h0]
    by_cases h : M.why true s = 0
    · obtain ⟨i, r, h1, h2, h3, h4, h5⟩ := H.found ok h
      rw [if_pos h, if_pos h, h5, h4, h2]
      simp only [Option.map_some, Option.getD_some, h3]
    · rw [if_neg h, if_neg h]
  · rw [if_neg h0, if_neg h0]
theorem sortB_ord (L : List ByteArray) : sortB L = ordB L := rfl
theorem ordB_of_perm {L L' : List ByteArray} (h : L.Perm L') : ordB L = ordB L' :=
  List.Perm.eq_of_pairwise (fun _ _ _ _ h1 h2 => key8_inj (List.le_antisymm h1 h2)) (ordB_le L) (ordB_le L') ((ordB_perm L).trans (h.trans (ordB_perm L').symm))
theorem Rel.list (H : Rel M R f) : ordB (R.now.map Prod.fst) = M.list := by
  unfold Dm.list
  rw [sortB_ord]
  refine ordB_of_perm ((H.now.map Prod.fst).trans (List.Perm.of_eq ?_))
  rw [prs_names]
  rfl
end
end Go.Proofs.YtidhlbhfhfonoaaGreatDoor
