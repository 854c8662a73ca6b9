/- A vote -/
import Derived.Test.YtdpkpcbikbbcbaaGreatBZWG29
namespace Go.Proofs.YtdpkpcbikbbcbaaGreat
open Go.ChangeShapes Go.WideShapes Go.ChangeAt Go.RowKit
def Zp (c s : Nat) : List Value := [.int .u64 (jf jd c 0), .int .u64 (jf jd c 1), .int .u64 (jf jd c 2), .int .u64 (jf jd c 3), .int .u64 (jf jd s 0), .int .u64 (jf jd s 1), .int .u64 (jf jd s 2), .int .u64 (jf jd s 3)]
def jG (k e v n : Nat) (h : List Nat) (c s : Nat) : List Value := .int .u8 k :: .int .u64 e :: .int .u32 v :: .int .u8 n :: (jq .u8 h ++ Zp c s)
def qv (k e v n : Nat) (h : List Nat) (c s : Nat) : Value := .agg (jG k e v n h c s).toArray
theorem jD {k e v n : Nat} {h : List Nat} {c s : Nat} (hl : h.length = 32) : (jG k e v n h c s).length = 44 := by simp [jG, Zp, js, hl]
theorem Ze (k e v n : Nat) (h : List Nat) (c s : Nat) : ∀ u ∈ jG k e v n h c s, u.oneCell' = true := fun u hu => by
 unfold jG Zp at hu; simp only [List.mem_cons, List.mem_append, List.not_mem_nil, or_false] at hu
 rcases hu with rfl | rfl | rfl | rfl | hu | rfl | rfl | rfl | rfl | rfl | rfl | rfl | rfl <;> first | rfl | exact Jj _ _ _ hu
theorem jJ : (Tryz.prog.info? 52).map (·.size) = some 44 := by kernel_rfl
theorem qO (w : World) (L : List Value) (t : TypeId) : (w.alloc (.cells L.toArray t)).rangeAt w.heap.size 0 L := fun j u hj => by
 rw [Nat.zero_add, cell_of_row _ _ _ _ _ _ (heap_alloc_new _ _)]
 simpa using hj
theorem jy {w w' : World} {b o : Nat} {L : List Value} (h : w.rangeAt b o L) (hb : Below w.heap.size w w') : w'.rangeAt b o L := fun j u hj => jj (h j u hj) hb
theorem loadVo {w : World} {b o k e v n : Nat} {h : List Nat} {c s : Nat} (hr : w.rangeAt b o (jG k e v n h c s)) (hl : h.length = 32) :
  (Instr.loadAt 52 (.pointer (some ⟨b, o, none⟩))).run Tryz.prog w = .ok (qv k e v n h c s) w :=
 run_loadAt_mid (P := Tryz.prog) w b o 52 (jG k e v n h c s) _ hr Tryz.underlying52 rfl (by rw [jD hl]; exact jJ)
section
variable {w : World} {b o k e v n : Nat} {h : List Nat} {c s : Nat}
theorem QJ (hr : w.rangeAt b o (jG k e v n h c s)) : w.cell? ⟨b, o, none⟩ = some (.int .u8 k) := hr 0 _ rfl
theorem vo_e (hr : w.rangeAt b o (jG k e v n h c s)) : w.cell? ⟨b, o + 1, none⟩ = some (.int .u64 e) := hr 1 _ rfl
theorem ZM (hr : w.rangeAt b o (jG k e v n h c s)) : w.cell? ⟨b, o + 2, none⟩ = some (.int .u32 v) := hr 2 _ rfl
theorem Qg (hr : w.rangeAt b o (jG k e v n h c s)) : w.cell? ⟨b, o + 3, none⟩ = some (.int .u8 n) := hr 3 _ rfl
theorem vo_set (hr : w.rangeAt b o (jG k e v n h c s)) : w.rangeAt b (o + 4) (jq .u8 h) := fun j u hj => by
 have h9 := hr (j + 4) u (by
  unfold jG; simp only [List.getElem?_cons_succ]; rw [List.getElem?_append_left (List.getElem?_eq_some_iff.1 hj).1]
  exact hj)
 rw [show o + (j + 4) = o + 4 + j by omega] at h9; exact h9
theorem vo_sig (hr : w.rangeAt b o (jG k e v n h c s)) (hl : h.length = 32) : w.rangeAt b (o + 36) (Zp c s) := fun j u hj => by
 have h9 := hr (j + 36) u (by
  unfold jG; simp only [show j + 36 = (j + 32) + 4 by omega, List.getElem?_cons_succ]; rw [List.getElem?_append_right (by rw [js, hl]; omega), js, hl, show j + 32 - 32 = j by omega]
  exact hj)
 rw [show o + (j + 36) = o + 36 + j by omega] at h9; exact h9
theorem Zi (hr : w.rangeAt b o (jG k e v n h c s)) (hl : h.length = 32) : (Instr.loadAt 48 (.pointer (some ⟨b, o + 4, none⟩))).run Tryz.prog w = .ok (.agg (jq .u8 h).toArray) w :=
 run_loadAt_mid (P := Tryz.prog) w b (o + 4) 48 (jq .u8 h) _ (vo_set hr) Tryz.underlying48 rfl (by rw [js, hl]; exact qC)
end
def Qf (k e v n : Nat) (h : List Nat) : List Nat := be 1 k ++ (be 8 e ++ (be 4 v ++ (be 1 n ++ h)))
end Go.Proofs.YtdpkpcbikbbcbaaGreat
