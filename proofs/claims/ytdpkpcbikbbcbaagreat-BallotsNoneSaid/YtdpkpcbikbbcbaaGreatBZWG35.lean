/- A box of votes, in memory -/
import Derived.Test.YtdpkpcbikbbcbaaGreatBZWG34
import Derived.Test.YtdpkpcbikbbcbaaGreatBZWG04
namespace Go.Proofs.YtdpkpcbikbbcbaaGreat
open Go.ChangeShapes Go.WideShapes Go.ChangeAt Go.RowKit
def qm (k v n : Nat) : Value := .agg #[.int .u8 (k : Int), .int .u32 (v : Int), .int .u8 (n : Int)]
theorem placeV_inj {k v n k' v' n' : Nat} (h : qm k v n = qm k' v' n') : k = k' ∧ v = v' ∧ n = n' := by
 unfold qm at h; injection h with h
 have h := congrArg Array.toList h; simp only [List.cons.injEq, Value.int.injEq, true_and, and_true] at h; omega
structure RowsAt (w : World) (base : Nat) (t : TypeId) (W : Nat) (vv : Bal.Bv → List Value) (f : Value → Option Value) (E : List Bal.Bv) : Prop where
 row : ∀ k v n, OwnV w base t W ((f (qm k v n)).getD (.slice none 0 0)) (Bal.at_ E k v n).length ((Bal.at_ E k v n).flatMap vv)
 apart : ∀ k v n k' v' n', ¬(k = k' ∧ v = v' ∧ n = n') → ((f (qm k v n)).getD (.slice none 0 0)).ownBlock = none ∨ ((f (qm k v n)).getD (.slice none 0 0)).ownBlock ≠ ((f (qm k' v' n')).getD (.slice none 0 0)).ownBlock
variable {w w' : World} {base W : Nat} {t : TypeId} {vv : Bal.Bv → List Value} {f : Value → Option Value} {E : List Bal.Bv}
theorem rowsAt_made (w : World) (base : Nat) (t : TypeId) (W : Nat) (vv : Bal.Bv → List Value) : RowsAt w base t W vv (fun _ => none) [] :=
 ⟨fun k v n => ⟨by simp [Bal.at_], .inl ⟨rfl, by simp [Bal.at_]⟩⟩, fun _ _ _ _ _ _ _ => .inl rfl⟩
theorem Jp {v : Value} {n g : Nat} {xs : List Value} (h : OwnV w base t W v n xs) (hg : v.ownBlock = some g) : base ≤ g ∧ g < w.heap.size := by
 obtain ⟨_, h2⟩ := h
 rcases h2 with ⟨rfl, _⟩ | ⟨g', o, cap, cur, rfl, hb, hh, _⟩
 ·cases hg
 ·cases hg
  exact ⟨hb, (Array.getElem?_eq_some_iff.1 hh).1⟩
theorem RowsAt.other {g : Nat} (h : RowsAt w base t W vv f E) (hg : g < base) (hb : w.grownBy w' (some g)) : RowsAt w' base t W vv f E :=
 ⟨fun k v n => OwnV.block (h.row k v n) (fun q hq => hb.block q (Jp (h.row k v n) hq).2 (fun e => by
  have := (Jp (h.row k v n) hq).1; injection e with e
  omega)), h.apart⟩
open Classical in
theorem RowsAt.put (h : RowsAt w base t W vv f E) (x : Bal.Bv) (hx : x ∉ Bal.at_ E x.k x.v x.n) {v' : Value}
  (hown : OwnV w' base t W v' ((Bal.at_ E x.k x.v x.n).length + 1) ((Bal.at_ E x.k x.v x.n).flatMap vv ++ vv x))
  (hgr : w.grownBy w' ((f (qm x.k x.v x.n)).getD (.slice none 0 0)).ownBlock) (hl : Lies w w' ((f (qm x.k x.v x.n)).getD (.slice none 0 0)) v' (Bal.at_ E x.k x.v x.n).length 1) :
  RowsAt w' base t W vv (fun q => if q = qm x.k x.v x.n then some v' else f q) (Bal.bput E x) := by
 have hv' : ∃ g, v'.ownBlock = some g ∧ (((f (qm x.k x.v x.n)).getD (.slice none 0 0)).ownBlock = some g ∨ g = w.heap.size) := by
  rcases hl with ⟨g, o, cap, e1, e2⟩ | ⟨e1, _⟩ | ⟨e1, _⟩
  ·exact ⟨g, by rw [e2]; rfl, .inl (by rw [e1]; rfl)⟩
  ·exact ⟨_, e1, .inr rfl⟩
  ·exact absurd e1 (by decide)
 obtain ⟨g, hvg, hgo⟩ := hv'
 have far : ∀ k v n, ¬(k = x.k ∧ v = x.v ∧ n = x.n) → ((f (qm k v n)).getD (.slice none 0 0)).ownBlock = none ∨ ((f (qm k v n)).getD (.slice none 0 0)).ownBlock ≠ some g := by
  intro k v n hne
  rcases hgo with e | e
  ·rw [← e]; exact h.apart _ _ _ _ _ _ hne
  ·right
   intro e1; have := (Jp (h.row k v n) e1).2; omega
 have here : ∀ k v n, ¬(k = x.k ∧ v = x.v ∧ n = x.n) → (if qm k v n = qm x.k x.v x.n then some v' else f (qm k v n)) = f (qm k v n) :=
  fun k v n hne => if_neg fun e => hne (placeV_inj e)
 refine ⟨fun k v n => ?_, fun k v n k1 v1 n1 hne => ?_⟩
 ·by_cases hk : k = x.k ∧ v = x.v ∧ n = x.n
  ·obtain ⟨rfl, rfl, rfl⟩ := hk; rw [if_pos rfl, Bal.at_bput_same hx, List.length_append, List.flatMap_append]
   simpa using hown
  ·rw [here k v n hk, Bal.at_bput_other (fun e => hk ⟨e.1.symm, e.2.1.symm, e.2.2.symm⟩)]; refine OwnV.block (h.row k v n) fun q hq => hgr.block q (Jp (h.row k v n) hq).2 fun e => ?_
   rcases h.apart k v n x.k x.v x.n hk with e1 | e1
   ·rw [e1] at hq
    cases hq
   ·exact e1 (hq.trans e)
 ·by_cases hk : k = x.k ∧ v = x.v ∧ n = x.n
  ·have hk1 : ¬(k1 = x.k ∧ v1 = x.v ∧ n1 = x.n) := fun e => hne ⟨hk.1.trans e.1.symm, hk.2.1.trans e.2.1.symm, hk.2.2.trans e.2.2.symm⟩
   obtain ⟨rfl, rfl, rfl⟩ := hk; rw [if_pos rfl, here k1 v1 n1 hk1]
   right
   show v'.ownBlock ≠ _
   rw [hvg]
   rcases far k1 v1 n1 hk1 with e | e
   ·rw [e]
    simp
   ·exact fun e1 => e e1.symm
  ·rw [here k v n hk]
   by_cases hk1 : k1 = x.k ∧ v1 = x.v ∧ n1 = x.n
   ·obtain ⟨rfl, rfl, rfl⟩ := hk1; rw [if_pos rfl]
    show _ ∨ _ ≠ v'.ownBlock
    rw [hvg]; exact far k v n hk
   ·rw [here k1 v1 n1 hk1]; exact h.apart _ _ _ _ _ _ hne
end Go.Proofs.YtdpkpcbikbbcbaaGreat
