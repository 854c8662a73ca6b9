/- append to a slice that owns the rest of its row, as one step of a region that draws; reslicing such a slice. -/
import Derived.Test.YtplhfbflgjnjmaaNumsBytes
import Derived.Deep.AppendLies
namespace Go.Proofs.Ytplhfbflgjnjmaa
open Go.ChangeShapes Go.WideShapes Go.ChangeAt Go.RowKit

section
variable {P : Program} {w : World}
theorem step_append_V {ops : Array Oper} {o : Oper} {a : Act} {K : Act → World → Prop} {Q : Exit → Act → World → Prop} {E : Prop} (hgd : o.guard = none) (s x : Operand) (t : TypeId)
    (ho : o.op = .call { callee := .builtin .append, args := #[s, x], argTypes := #[t, t] })
    (base : Nat) (e : TypeId) (i : TypeInfo) (z : Value) (size bytes : Nat) (ht : P.underlying t = some (.slice e)) (hi : P.info? e = some i) (hz : i.zero = some z)
    (hsize : i.size = size) (hby : i.bytes = bytes) (hzs : z.cells.size = size) (v : Value) (n : Nat) (xs : List Value) (hs : a.eval s = v) (hown : OwnV w base e size v n xs)
    (y : Value) (m : Nat) (news : List Value) (hy : a.eval x = y) (hx : SrcV w size y m news) (h63 : n + m ≤ maxLen) (hbytes : (n + m) * bytes ≤ 140737488355328) (hbase : base ≤ w.heap.size)
    (h : ∀ v' w', OwnV w' base e size v' (n + m) (xs ++ news) → w.grownBy w' v.ownBlock → K (a.put o.dst v') w') :
    if Region.wanted o (yielded ops a.tmps) = true then Oper.wp P o a w K Q else E := by
  have hw : Region.wanted o (yielded ops a.tmps) = true := by simp [Region.wanted, hgd]
  rw [if_pos hw]
  obtain ⟨v', w', hr, h2, h3⟩ := run_append_V (P := P) w base t o.type e i z size bytes ht hi hz hsize hby hzs v n xs hown y m news hx h63 hbytes hbase
  unfold Oper.wp execOp
  simp only [ho, resolve, invoke, builtin, Sem.run_bind, Sem.run_pure, Result.andThen_ok, List.map_toArray, List.map_cons, List.map_nil, hs, hy, hr]
  exact h v' w' h2 h3
/-- A slice of the call's own, from its k-th element on. -/
theorem own_from {base : Nat} {l : List Nat} {a : Option Addr} {n c k : Nat} (h : OwnV w base 5 1 (.slice a n c) l.length (cellsK .u8 l)) (hk : k ≤ l.length) :
    ∃ a' c', (∀ w, (Instr.slice 27 (.slice a n c) (some (.int .i64 (k : Int))) none none).run Try.prog w = .ok (.slice a' (n - k) c') w) ∧ n = l.length ∧ OwnV w base 5 1 (.slice a' (n - k) c') (l.drop k).length (cellsK .u8 (l.drop k)) ∧
      (Value.slice a' (n - k) c').ownBlock = (Value.slice a n c).ownBlock := by
  obtain ⟨h1, h2⟩ := h
  rcases h2 with ⟨h2, h3⟩ | ⟨g, o, cap, cur, h3, h4, h5, h6, h7, h8, h9⟩
  · cases h2
    have hl : l = [] := List.length_eq_zero_iff.1 h3
    subst hl
    obtain rfl : k = 0 := by simpa using hk
    refine ⟨none, 0, fun w => ?_, rfl, ⟨rfl, .inl ⟨rfl, rfl⟩⟩, rfl⟩
    go_simp
  · cases h3
    have hl : l.length - k = (l.drop k).length := by simp
    by_cases hc : c = k
    · subst hc
      have hkl : l.length = c := by omega
      have hd : l.drop c = [] := List.drop_eq_nil_of_le (by omega)
      refine ⟨some ⟨g, o, none⟩, 0, fun w => ?_, rfl, ?_, rfl⟩
      · go_simp
      · rw [hl, hd]
        refine ⟨rfl, .inr ⟨g, o, 0, cur, rfl, h4, h5, Nat.le_refl _, Nat.zero_le _, by rw [Nat.zero_mul]; omega, ?_⟩⟩
        simp [cellsK]
    · have hkc : k < c := by omega
      refine ⟨some ⟨g, o + k, none⟩, c - k, fun w => ?_, rfl, ?_, rfl⟩
      · have h1 := run_slice_l (P := Try.prog) w 27 (some ⟨g, o, none⟩) l.length c (by kernel_rfl) .i64 k (by omega) (by omega)
        have hs : (sizeOf (Try.prog.elem 27)).run Try.prog w = .ok 1 w := by go_simp
        rw [h1, hs, Result.andThen_ok, Int.toNat_natCast]
        show Result.ok (Value.slice (if c = k then some ⟨g, o, none⟩ else (some (⟨g, o, none⟩ : Addr)).map (·.add (k * 1))) (l.length - k) (c - k)) w = _
        rw [if_neg hc, Option.map_some, Nat.mul_one, Addr.add_lit]
      · rw [hl]
        refine ⟨by simp [cellsK_length], .inr ⟨g, o + k, c - k, cur, rfl, h4, h5, by rw [List.length_drop]; omega, by omega, by omega, ?_⟩⟩
        have h10 := congrArg (List.drop k) h9
        rw [List.drop_take, List.drop_drop] at h10
        rw [List.length_drop, Nat.mul_one]
        rw [Nat.mul_one] at h10
        rw [h10, cellsK, cellsK, List.map_drop]
end
end Go.Proofs.Ytplhfbflgjnjmaa
