/- Bytes of a call's own: how they read, what is cut of them, what is put behind them; slices.Clip of bytes -/
import Derived.Test.YtidhlbhfhfonoaaGreatDoorAppW
import Derived.Test.YtidhlbhfhfonoaaGreatDoorRows
import Derived.WalkKit
import Derived.ProofKit
import Derived.OpenShut
import Derived.WalkLawsBesides
import Derived.Deep.QuietTactic
import Derived.BigQuiet
import Derived.BigRegion
import Derived.Outline
import Derived.Lib.Hide
import Derived.LoopTactic
namespace Go.Proofs.YtidhlbhfhfonoaaGreatDoor
open Go.ChangeShapes Go.WideShapes Go.ChangeAt Go.RowKit

theorem infoB : (Tryz.prog.info? 5).map (fun i => (i.zero, i.size, i.bytes)) = some (some (.int .u8 0), 1, 1) := by kernel_rfl

theorem one_new (w : World) (x : Value) (t : TypeId) : ∀ (j : Nat) (u : Value), [x][j]? = some u → (w.alloc (.cells #[x] t)).cell? ((⟨w.heap.size, 0, none⟩ : Addr).add j) = some u := by
  intro j u h
  cases j with
  | zero => simp at h; subst h; simp [Addr.add]
  | succ j => simp at h
theorem one_one {k : IntKind} (n : Int) : ∀ u ∈ [Value.int k n], u.oneCell' = true := fun u hu => by simp at hu; subst hu; rfl

/-- Bytes of the call's own: a slice whose row, up to its capacity, lies from block base on; or nothing at all. -/
def Own (w : World) (base : Nat) (v : Value) (l : List Nat) : Prop := OwnV w base 5 1 v l.length (cellsK .u8 l)
theorem Own.at_ {w : World} {base : Nat} {v : Value} {l : List Nat} (h : Own w base v l) : KAt .u8 w v l := by
  have h' := h
  obtain ⟨h1, h2⟩ := h'
  rcases h2 with ⟨rfl, h3⟩ | ⟨g, o, cap, cur, rfl, hb, hg, hc, hm, hs, ht⟩
  · have : l = [] := List.length_eq_zero_iff.1 h3
    subst this
    exact KAt.nil _ w
  · refine ⟨_, _, rfl, hc, hm, (fun h => by cases h), fun _ => ⟨g, o, rfl, fun i x hx => ?_⟩⟩
    have := OwnV.cells h i (.int .u8 x) (by rw [cellsK_get, hx]; rfl)
    rw [Addr.add_lit] at this
    exact this
theorem Own.base {w : World} {B B' : Nat} {v : Value} {l : List Nat} (h : Own w B v l) (hB : B' ≤ B) : Own w B' v l := OwnV.base h hB
theorem Own.later {w w' : World} {B : Nat} {v : Value} {l : List Nat} (h : Own w B v l) (hb : Below w.heap.size w w') : Own w' B v l := OwnV.later h hb
theorem Own.shape {w : World} {B : Nat} {v : Value} {l : List Nat} (h : Own w B v l) : ∃ ao n cap, v = .slice ao n cap := by
  obtain ⟨ao, cap, h, _⟩ := h.at_
  exact ⟨ao, _, cap, h⟩
/-- What reads as bytes may be appended. -/
theorem KAt.src {k : IntKind} {w : World} {v : Value} {l : List Nat} (h : KAt k w v l) : SrcV w 1 v l.length (cellsK k l) := by
  obtain ⟨ao, cap, rfl, h1, h2, h3, h4⟩ := h
  refine ⟨ao, cap, rfl, by simp [cellsK_length], cellsK_one _ _, fun h0 => by have := h3 h0; omega, fun ad had j u hu => ?_⟩
  rw [cellsK_get] at hu
  obtain ⟨x, hx, rfl⟩ := Option.map_eq_some_iff.1 hu
  obtain ⟨b, o, hbo, hc⟩ := h4 (by have := (List.getElem?_eq_some_iff.1 hx).1; omega)
  rw [had] at hbo
  cases hbo
  rw [Addr.add_lit]
  exact hc j x hx
theorem KAt.cut {w : World} {g o cap : Nat} {b : List Nat} {k : IntKind} (hc : ∀ i x : Nat, b[i]? = some x → w.cell? ⟨g, o + i, none⟩ = some (.int k x)) (h1 : b.length ≤ cap) (h2 : cap ≤ maxLen) (j n : Nat) (hn : j + n ≤ b.length) :
    KAt k w (.slice (some ⟨g, o + j, none⟩) n (cap - j)) ((b.drop j).take n) := by
  have hl : ((b.drop j).take n).length = n := by simp; omega
  refine ⟨some ⟨g, o + j, none⟩, cap - j, by rw [hl], by rw [hl]; omega, by omega, (fun h => by cases h), fun _ => ⟨g, o + j, rfl, fun i x hx => ?_⟩⟩
  rw [List.getElem?_take] at hx
  split at hx
  · rw [List.getElem?_drop] at hx
    rw [Nat.add_assoc]
    exact hc _ _ hx
  · cases hx
theorem KAt.drop {w : World} {g o cap : Nat} {b : List Nat} {k : IntKind} (hc : ∀ i x : Nat, b[i]? = some x → w.cell? ⟨g, o + i, none⟩ = some (.int k x)) (h1 : b.length ≤ cap) (h2 : cap ≤ maxLen) (n : Nat) (hn : n ≤ b.length) :
    KAt k w (.slice (some ⟨g, o + n, none⟩) (b.length - n) (cap - n)) (b.drop n) := by
  refine ⟨some ⟨g, o + n, none⟩, cap - n, by simp, by simp; omega, by omega, (fun h => by cases h), fun _ => ⟨g, o + n, rfl, fun i x hx => ?_⟩⟩
  rw [List.getElem?_drop] at hx
  have := hc _ _ hx
  rw [Nat.add_assoc]
  exact this
theorem own_empty (w : World) (e : TypeId) (size : Nat) : OwnV (w.alloc (.cells #[] e)) w.heap.size e size (.slice (some ⟨w.heap.size, 0, none⟩) 0 0) 0 [] :=
  ⟨by simp, .inr ⟨w.heap.size, 0, 0, #[], rfl, Nat.le_refl _, heap_alloc_new w _, Nat.le_refl _, Nat.zero_le _, by simp, by simp⟩⟩
theorem OwnV.clip {w : World} {B : Nat} {e : TypeId} {size : Nat} {ao : Option Addr} {n cap : Nat} {xs : List Value} (h : OwnV w B e size (.slice ao n cap) n xs) : OwnV w B e size (.slice ao n n) n xs := by
  obtain ⟨h1, h2⟩ := h
  refine ⟨h1, ?_⟩
  rcases h2 with ⟨h2, h3⟩ | ⟨g, o, c, cur, h3, h4, h5, h6, h7, h8, h9⟩
  · cases h2
    exact .inl ⟨rfl, rfl⟩
  · cases h3
    exact .inr ⟨g, o, n, cur, rfl, h4, h5, Nat.le_refl _, Nat.le_trans h6 h7, Nat.le_trans (Nat.add_le_add_left (Nat.mul_le_mul_right _ h6) _) h8, h9⟩
/-- append, as a run equation says it. -/
theorem wpList_append_run {P : Program} {w : World} {ops : Array Oper} {rest : List Oper} {o : Oper} {a : Act} {Q : Exit → Act → World → Prop} (hgd : o.guard = none) (s x : Operand) (t k : TypeId)
    (ho : o.op = .call { callee := .builtin .append, args := #[s, x], argTypes := #[t, k] }) (v y r : Value) (w' : World) (hs : a.eval s = v) (hy : a.eval x = y) (hr : ∀ ty, (Builtin.append_ #[t, k] ty #[v, y]).run P w = .ok r w')
    (h : wpList P ops Q rest (a.put o.dst r) w') : wpList P ops Q (o :: rest) a w := by
  refine wpList_plain hgd fun K hK => ?_
  unfold Oper.wp execOp
  simp only [ho, resolve, invoke, builtin, Sem.run_bind, Sem.run_pure, Result.andThen_ok, List.map_toArray, List.map_cons, List.map_nil, hs, hy, hr]
  exact hK _ _ h
/-- A slice of slices: its elements, and how they read. -/
def Parts (w : World) (g o : Nat) (vs : List Value) (ls : List (List Nat)) : Prop := vs.length = ls.length ∧ ∀ i, i < ls.length → ∃ v l, vs[i]? = some v ∧ ls[i]? = some l ∧ w.cell? ⟨g, o + i, none⟩ = some v ∧ KAt .u8 w v l
theorem sum_len_take {ls : List (List Nat)} {i : Nat} {l : List Nat} (h : ls[i]? = some l) : (ls.take (i + 1)).flatten = (ls.take i).flatten ++ l := by
  rw [List.take_add_one, h]
  simp
theorem len_take_le (ls : List (List Nat)) (i : Nat) : (ls.take i).flatten.length ≤ ls.flatten.length := by
  have h := congrArg (fun x => x.flatten.length) (List.take_append_drop i ls)
  simp only [List.flatten_append, List.length_append] at h
  omega

/-! ### A slice of a slice of bytes -/
theorem sizeB (w : World) : (sizeOf (Tryz.prog.elem 58)).run Tryz.prog w = .ok 1 w := by
  have : Tryz.prog.elem 58 = 5 := by kernel_rfl
  rw [this]
  go_simp
theorem elemB : Tryz.prog.underlying 58 = some (.slice (Tryz.prog.elem 58)) := by kernel_rfl
theorem slice_from {w : World} {v : Value} {l : List Nat} (hk : KAt .u8 w v l) (n : Nat) (hn : n ≤ l.length) :
    ∃ a c, (∀ W, (Instr.sliceAt 58 v (some (.int .i64 n)) none none).run Tryz.prog W = .ok (.slice a (l.length - n) c) W) ∧ KAt .u8 w (.slice a (l.length - n) c) (l.drop n) := by
  obtain ⟨ao, cap, rfl, h1, h2, h3, h4⟩ := hk
  have hrun : ∀ W, (Instr.sliceAt 58 (.slice ao l.length cap) (some (.int .i64 n)) none none).run Tryz.prog W = .ok (sliced ao n l.length cap 1) W := fun W => by
    rw [run_sliceAt_slice _ _ _ _ _ _ elemB, run_slice_l _ _ _ _ _ elemB .i64 n (by omega) (by omega), sizeB]
    simp
  unfold sliced at hrun
  refine ⟨_, _, hrun, ?_⟩
  have hl : (l.drop n).length = l.length - n := by simp
  refine ⟨_, _, by rw [hl], by rw [hl]; omega, by omega, fun hno => ?_, fun h0 => ?_⟩
  · split at hno
    · omega
    · have : ao = none := by cases ao with | none => rfl | some _ => cases hno
      have := h3 this
      omega
  · rw [hl] at h0
    obtain ⟨b, o, rfl, hc⟩ := h4 (by omega)
    rw [if_neg (by omega)]
    refine ⟨b, o + n, by simp [Addr.add_lit], fun i x hx => ?_⟩
    rw [List.getElem?_drop] at hx
    rw [Nat.add_assoc]
    exact hc _ _ hx
theorem slice_to {w : World} {v : Value} {l : List Nat} (hk : KAt .u8 w v l) (n : Nat) (hn : n ≤ l.length) :
    ∃ a c, (∀ W, (Instr.sliceAt 58 v none (some (.int .i64 n)) none).run Tryz.prog W = .ok (.slice a n c) W) ∧ KAt .u8 w (.slice a n c) (l.take n) := by
  obtain ⟨ao, cap, rfl, h1, h2, h3, h4⟩ := hk
  have hrun : ∀ W, (Instr.sliceAt 58 (.slice ao l.length cap) none (some (.int .i64 n)) none).run Tryz.prog W = .ok (sliced ao 0 n cap 1) W := fun W => by
    rw [run_sliceAt_slice _ _ _ _ _ _ elemB, run_slice_h _ _ _ _ _ elemB .i64 n (by omega) (by omega), sizeB]
    simp
  unfold sliced at hrun
  have hl : (l.take n).length = n := by simp; omega
  refine ⟨_, _, fun W => hrun W, ?_⟩
  refine ⟨_, _, by rw [hl], by rw [hl]; omega, by omega, fun hno => ?_, fun h0 => ?_⟩
  · split at hno
    · omega
    · have : ao = none := by cases ao with | none => rfl | some _ => cases hno
      have := h3 this
      omega
  · rw [hl] at h0
    obtain ⟨b, o, rfl, hc⟩ := h4 (by omega)
    refine ⟨b, o, ?_, fun i x hx => ?_⟩
    · split
      · rfl
      · simp [Addr.add]
    · rw [List.getElem?_take] at hx
      split at hx
      · exact hc _ _ hx
      · cases hx
end Go.Proofs.YtidhlbhfhfonoaaGreatDoor
