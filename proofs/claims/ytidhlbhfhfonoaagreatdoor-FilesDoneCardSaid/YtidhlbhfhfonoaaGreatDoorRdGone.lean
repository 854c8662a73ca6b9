/- Layer 17's reference: names without one. -/
import Derived.Test.YtidhlbhfhfonoaaGreatDoorRdLook
namespace Go.Proofs.YtidhlbhfhfonoaaGreatDoor
open Go.ChangeShapes Go.WideShapes Go.ChangeAt Go.RowKit
theorem infoP : (Tryz.prog.info? 120).map (fun i => (i.zero, i.size, i.bytes)) = some (some (.agg #[.string ⟨#[]⟩, .int .i64 0]), 2, 24) := by kernel_rfl
theorem sizeP (w : World) : (sizeOf (Tryz.prog.elem 95)).run Tryz.prog w = .ok 2 w := by
  have : Tryz.prog.elem 95 = 120 := by kernel_rfl
  rw [this]
  go_simp
theorem elemP : Tryz.prog.underlying 95 = some (.slice (Tryz.prog.elem 95)) := by kernel_rfl
theorem own_at {w : World} {base : Nat} {e : TypeId} {s n c : Nat} {a : Option Addr} {xs : List Value} (h : OwnV w base e s (.slice a n c) n xs) {j : Nat} {u : Value} (hu : xs[j]? = some u) (ad : Addr) (had : a = some ad) : w.cell? (ad.add j) = some u := by
  subst had
  have h' := h
  rcases h'.2 with ⟨h2, _⟩ | ⟨g, o, cap, cur, h3, _⟩
  · cases h2
  · cases h3
    exact OwnV.cells h j u hu
/-- Names that lie somewhere may be appended. -/
theorem src_pairs {w : World} {base : Nat} {v : Value} {l : List (ByteArray × Nat)} (h : OwnV w base 120 2 v l.length (pairs8 l)) : SrcV w 2 v l.length (pairs8 l) := by
  obtain ⟨a, c, hv⟩ := h.sl
  subst hv
  refine ⟨a, c, rfl, h.1, pairs8_one l, fun h0 => ?_, fun ad had j u hu => ?_⟩
  · rcases h.2 with ⟨_, h3⟩ | ⟨g, o, cap, cur, h3, _⟩
    · exact h3
    · cases h3; cases h0
  · exact own_at h hu ad had
theorem slice_toP {w : World} {base : Nat} {a : Option Addr} {n c : Nat} {l : List (ByteArray × Nat)} (h : OwnV w base 120 2 (.slice a n c) n (pairs8 l)) (hl : l.length = n) (k : Nat) (hk : k ≤ n) :
    ∃ a' c', (∀ W, (Instr.sliceAt 95 (.slice a n c) none (some (.int .i64 k)) none).run Tryz.prog W = .ok (.slice a' k c') W) ∧ ∀ W, Below w.heap.size w W → SrcV W 2 (.slice a' k c') k (pairs8 (l.take k)) := by
  have hc : k ≤ c := by
    rcases h.2 with ⟨h2, h3⟩ | ⟨g, o, cap, cur, h3, _, _, hcc, _⟩
    · omega
    · cases h3; omega
  have hrun : ∀ W, (Instr.sliceAt 95 (.slice a n c) none (some (.int .i64 k)) none).run Tryz.prog W = .ok (sliced a 0 k c 2) W := fun W => by
    rw [run_sliceAt_slice _ _ _ _ _ _ elemP, run_slice_h _ _ _ _ _ elemP .i64 k (by omega) (by omega), sizeP]
    simp
  unfold sliced at hrun
  refine ⟨_, _, fun W => hrun W, fun W hb => ⟨_, _, rfl, by rw [pairs8_length, List.length_take]; omega, pairs8_one _, fun h0 => ?_, fun ad had j u hu => ?_⟩⟩
  · split at h0
    · subst h0
      rcases h.2 with ⟨_, h3⟩ | ⟨g, o, cap, cur, h3, _⟩
      · omega
      · cases h3
    · cases a with
      | none =>
        rcases h.2 with ⟨_, h3⟩ | ⟨g, o, cap, cur, h3, _⟩
        · omega
        · cases h3
      | some _ => cases h0
  · have hj : (pairs8 l)[j]? = some u := by
      rw [← pairs8_take l k (by omega), List.getElem?_take] at hu
      split at hu
      · exact hu
      · cases hu
    have hc : ∀ ad, a = some ad → w.cell? (ad.add j) = some u := fun ad e => own_at h hj ad e
    split at had
    · exact cell_on (hc ad had) hb
    · cases a with
      | none => cases had
      | some a0 =>
        simp only [Option.map_some, Option.some.injEq, Nat.zero_mul] at had
        subst had
        have e : (a0.add 0).add j = a0.add j := by simp [Addr.add]
        rw [e]
        exact cell_on (hc a0 rfl) hb
theorem slice_fromP {w : World} {base : Nat} {a : Option Addr} {n c : Nat} {l : List (ByteArray × Nat)} (h : OwnV w base 120 2 (.slice a n c) n (pairs8 l)) (hl : l.length = n) (k : Nat) (hk : k ≤ n) :
    ∃ a' c', (∀ W, (Instr.sliceAt 95 (.slice a n c) (some (.int .i64 k)) none none).run Tryz.prog W = .ok (.slice a' (n - k) c') W) ∧ ∀ W, Below w.heap.size w W → SrcV W 2 (.slice a' (n - k) c') (n - k) (pairs8 (l.drop k)) := by
  have hrun : ∀ W, (Instr.sliceAt 95 (.slice a n c) (some (.int .i64 k)) none none).run Tryz.prog W = .ok (sliced a k n c 2) W := fun W => by
    rw [run_sliceAt_slice _ _ _ _ _ _ elemP, run_slice_l _ _ _ _ _ elemP .i64 k (by omega) (by omega), sizeP]
    simp
  unfold sliced at hrun
  have hcap : n ≤ c := by
    rcases h.2 with ⟨h2, h3⟩ | ⟨g, o, cap, cur, h3, _, _, hcc, _⟩
    · cases h2; omega
    · cases h3; exact hcc
  refine ⟨_, _, fun W => hrun W, fun W hb => ⟨_, _, rfl, by rw [pairs8_length, List.length_drop]; omega, pairs8_one _, fun h0 => ?_, fun ad had j u hu => ?_⟩⟩
  · split at h0
    · omega
    · cases a with
      | none =>
        rcases h.2 with ⟨_, h3⟩ | ⟨g, o, cap, cur, h3, _⟩
        · omega
        · cases h3
      | some _ => cases h0
  · rw [← pairs8_drop l k (by omega), List.getElem?_drop] at hu
    have hj2 : k * 2 + j < (pairs8 l).length := (List.getElem?_eq_some_iff.1 hu).1
    rw [pairs8_length] at hj2
    rw [if_neg (by omega)] at had
    cases a with
    | none => cases had
    | some a0 =>
      simp only [Option.map_some, Option.some.injEq] at had
      subst had
      have h9 := own_at h hu a0 rfl
      rcases h.2 with ⟨h2, _⟩ | ⟨g, o, cap, cur, h3, _⟩
      · cases h2
      · cases h3
        rw [Addr.add_lit] at h9
        rw [Addr.add_lit, Addr.add_lit, Nat.add_assoc]
        exact cell_on h9 hb
set_option linter.unusedSimpArgs false in
set_option linter.unusedVariables false in
set_option maxRecDepth 20000 in
set_option maxHeartbeats 1500000 in
theorem Rgone_any {w : World} {base : Nat} {a : Option Addr} {n c k : Nat} {l : List (ByteArray × Nat)} (h : OwnV w base 120 2 (.slice a n c) n (pairs8 l)) (hl : l.length = n) (hk : k < n) (hn : n ≤ 1000) :
    Calls Tryz.prog 51 #[.slice a n c, .int .i64 k] w fun e w' => ∃ v, e = .returned v ∧ OwnV w' w.heap.size 120 2 v (l.eraseIdx k).length (pairs8 (l.eraseIdx k)) ∧ Below w.heap.size w w' := by
  obtain ⟨a1, c1, r1, s1⟩ := slice_toP h hl k (by omega)
  obtain ⟨a2, c2, r2, s2⟩ := slice_fromP h hl (k + 1) (by omega)
  obtain ⟨i0, hi0, hz0, hz1, hz2⟩ := info_parts infoP
  have HI := Lib.hid hi0
  have S1 := Lib.hid s1
  have S2 := Lib.hid s2
  have HE := Lib.hid (show pairs8 (l.take k) ++ pairs8 (l.drop (k + 1)) = pairs8 (l.eraseIdx k) ∧ (k + (n - (k + 1))) = (l.eraseIdx k).length by
    constructor
    · rw [← pairs8_append, ← List.eraseIdx_eq_take_drop_succ]
    · rw [List.length_eraseIdx]; rw [if_pos (by omega)]; omega)
  have kI : (k : Int) + 1 ≤ (n : Int) := by omega
  have nI : (n : Int) ≤ 1000 := by omega
  have hwr : IntKind.i64.wrap ((k : Int) + 1) = (k : Int) + 1 := by simp [IntKind.wrap, IntKind.bits, IntKind.signed]; omega
  have e2 : ((k + 1 : Nat) : Int) = (k : Int) + 1 := by omega
  rw [e2] at r2
  obtain ⟨C, hC⟩ : ∃ C, C = w.heap.size := ⟨_, rfl⟩
  have HC := Lib.hid hC
  have hCl : C ≤ w.heap.size := by omega
  rw [← hC] at S1 S2 ⊢
  clear h hl s1 s2 hi0 e2 hC
  go_enter Tryz.func51, Tryz.ntmps51
  go_wp2_with fail
  go_region_law (first
    | (refine step_append_W rfl (.const (.slice none 0 0)) (.tmp 7) 95 rfl C 120 i0 (.agg #[.string ⟨#[]⟩, .int .i64 0]) 2 24 Tryz.underlying95 HI.out hz0 hz1 hz2 rfl (.slice none 0 0) 0 [] rfl ⟨rfl, .inl ⟨rfl, rfl⟩⟩ (.slice a1 k c1) k (pairs8 (l.take k)) rfl (S1.out _ (Below.refl _ _).drew) (by unfold maxLen; omega) (by omega) (by simp; omega) ?_
       intro v2 w2 ho2 hg2 hl2
       obtain ⟨a3, c3, rfl⟩ := ho2.sl
       have HO2 := Lib.hid (show OwnV w2 C 120 2 (.slice a3 k c3) k (pairs8 (l.take k)) by rw [Nat.zero_add, List.nil_append] at ho2; exact ho2)
       have HB2 := Lib.hid (show Below C w w2 from (Below.refl C w).drew.grown hg2 (by simp; omega) (fun g hg => by cases hg))
       have hs2 : C ≤ w2.heap.size := by have := HB2.out.size; omega
       clear ho2 hg2 hl2)
    | (refine step_append_W rfl (.tmp 8) (.tmp 12) 95 rfl C 120 i0 (.agg #[.string ⟨#[]⟩, .int .i64 0]) 2 24 Tryz.underlying95 HI.out hz0 hz1 hz2 rfl (.slice a3 k c3) k (pairs8 (l.take k)) rfl HO2.out (.slice a2 (n - (k + 1)) c2) (n - (k + 1)) (pairs8 (l.drop (k + 1))) rfl (S2.out _ HB2.out) (by unfold maxLen; omega) (by omega) (by omega) ?_
       intro v4 w4 ho4 hg4 hl4
       obtain ⟨a5, c5, rfl⟩ := ho4.sl
       have HO4 := Lib.hid (show OwnV w4 C 120 2 (.slice a5 (k + (n - (k + 1))) c5) (l.eraseIdx k).length (pairs8 (l.eraseIdx k)) by rw [← HE.out.1, ← HE.out.2]; exact ho4)
       have HB4 := Lib.hid (show Below C w w4 from HB2.out.grown hg4 hs2 (fun g hg => (OwnV.lt HO2.out g hg).1))
       clear ho4 hg4 hl4))
  all_goals
    go_wp2_with fail
    go_ret
    exact ⟨_, rfl, HO4.out, HB4.out⟩
end Go.Proofs.YtidhlbhfhfonoaaGreatDoor
