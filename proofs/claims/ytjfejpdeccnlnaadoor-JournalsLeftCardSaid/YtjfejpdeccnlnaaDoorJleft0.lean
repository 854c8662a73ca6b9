/- Layer 18 (journals): JournalsLeft, in plain words: what is left of a disk with one file. -/
import Derived.Test.YtjfejpdeccnlnaaDoorJcut
namespace Go.Proofs.YtjfejpdeccnlnaaDoor
open Go.ChangeShapes Go.WideShapes Go.ChangeAt Go.RowKit

theorem failT_free (M : Dm) (keep : Nat) : ∀ (k : Nat) (x : List Pl × List Rw), (List.replicate k Go.Proofs.YtjfejpdeccnlnaaDoor.free).foldl (failStep M keep) x = (x.1 ++ List.replicate k Go.Proofs.YtjfejpdeccnlnaaDoor.free, x.2)
  | 0, x => by simp
  | k + 1, x => by
    rw [List.replicate_succ, List.foldl_cons, failT_free M keep k]
    simp [failStep]
theorem jd_fail {n : Nat} {s : ByteArray} {l : List Nat} {m : Nat} {keep lg : Nat} (hlg : lg = m + min keep (l.length - m)) :
    (jd n s l m (⟨s, some 0⟩ :: free63)).fail keep false = jd n s (l.take lg) lg (⟨s, some 0⟩ :: free63) := by
  subst hlg
  unfold Dm.fail Dm.left0
  have h : failT (jd n s l m (⟨s, some 0⟩ :: free63)) keep (⟨s, some 0⟩ :: free63) = (⟨s, some 0⟩ :: free63, [failRow keep ⟨l, m⟩]) := by
    unfold failT
    rw [List.foldl_cons, failT_free]
    rfl
  show Dm.names ⟨_, (failT (jd n s l m (⟨s, some 0⟩ :: free63)) keep (⟨s, some 0⟩ :: free63)).1, _, (failT (jd n s l m (⟨s, some 0⟩ :: free63)) keep (⟨s, some 0⟩ :: free63)).2⟩ = _
  rw [h]
  rfl
theorem OneK.newB {w : World} {B C : Nat} {M : Dm} {S : Nat → Prop} (h : Dk w B C M S) : OneK (fun g => g < B) w B C M :=
  ⟨S, h, fun g hg => ⟨by have := h.base; omega, fun hs => by have := (h.2 g hs).1; omega⟩⟩
end Go.Proofs.YtjfejpdeccnlnaaDoor
