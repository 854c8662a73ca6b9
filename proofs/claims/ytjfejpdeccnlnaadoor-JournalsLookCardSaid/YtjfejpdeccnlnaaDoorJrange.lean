/- Layer 18 (journals): a loop over the records, by the iterator's own contract. -/
import Derived.Test.YtjfejpdeccnlnaaDoorJiter
namespace Go.Proofs.YtjfejpdeccnlnaaDoor
open Go.ChangeShapes Go.WideShapes Go.ChangeAt Go.RowKit

theorem chg_putObj {W A : World} {S : Nat → Prop} (h : Chg W A S) (l : Nat) (o : Obj) (hl : W.heap.size ≤ l) : Chg W (A.putObj l o) S :=
  ⟨h.os, h.tape, h.output, by simpa using h.size, fun g hg hn => (World.putObj_heap_other (by omega)).trans (h.block g hg hn)⟩
/-- How a round's body ends. -/
def roundEnd (B : Nat) (K : Nat → Prop) (I : World → Prop) (W : World) : Exit → Act → World → Prop
  | .normal, _, W' => KeepsFrom B W W' ∧ Stay K W W' ∧ I W'
  | _, _, _ => False
theorem range_recs {n : Nat} (hn : 5 ≤ n) {g : Operand} {ps : Array Tmp} {assign body : Code} {Q : Exit → Act → World → Prop} {a : Act} {w : World} {Bn : Nat}
    (hg : a.eval g = .func (.func 50) #[] #[.pointer (some ⟨Bn, 0, none⟩)])
    (K : Nat → Prop) (hKB : K Bn) (hKw : ∀ k, K k → k < w.heap.size) (b : List Nat) (hb8 : Bytes b) (v : Value) (hBn : w.heap[Bn]? = some (.cells #[v] 37 (0, 0))) (hv : KAt .u8 w v b) (hvK : ∀ g, v.ownBlock = some g → K g ∧ g ≠ Bn)
    (hps : ps.size = 2) (I : List Rec → World → Prop) (R : List Rec → Rec → World → Prop)
    (hI : ∀ pre A l o o', w.heap.size ≤ l → A.heap[l]? = some o → o.isCells = false → I pre A → I pre (A.putObj l o'))
    (hR : ∀ pre x A l o o', w.heap.size ≤ l → A.heap[l]? = some o → o.isCells = false → R pre x A → R pre x (A.putObj l o'))
    (h0 : ∀ o1 o2, I [] ((w.alloc o1).alloc o2)) (hIc : ∀ pre A B, I pre A → Chg A B (fun g => g = Bn) → I pre B)
    (hready : ∀ pre x W0 W1, I pre W0 → Chg W0 W1 (fun g => g = Bn) → RecNew W0 W1 x → (∃ rest, recs firstC b = (pre ++ [x]).map Rec.rc ++ rest) → R pre x W1)
    (a₁ : Rec → Act)
    (hassign : ∀ (l : Nat) (x : Rec) (W : World) (K : Act → World → Prop), K (a₁ x) W →
      assign.wpIn (Fence.wide.inRound l) (n - 1 - 1) Tryd.prog (Exit.then K (fun _ _ _ => False)) { tmps := (ps.zip #[x.v, .int .u32 x.c]).foldl (fun t (p, v) => t.setIfInBounds p v) a.tmps, defers := [] } W)
    (hbody : ∀ (l : Nat) (pre : List Rec) (x : Rec) (W : World), R pre x W → body.wpIn (Fence.wide.inRound l) (n - 1 - 1) Tryd.prog (roundEnd w.heap.size K (I (pre ++ [x])) W) (a₁ x) W)
    (hdone : ∀ (D : Nat) (xs : List Rec) (W : World), w.heap.size ≤ D → xs.map Rec.rc = recs firstC b → I xs W → W.heap[D]? = some (.deferred (some [])) → Q .normal { a with defers := { target := .collected D, args := #[] } :: a.defers } W) :
    (Code.rangeFunc g ps assign body).wpIn Fence.wide n Tryd.prog Q a w := by
  refine wpIn_rangeFunc ?_
  intro fn hfn
  obtain ⟨rec, hrec⟩ : ∃ rec : LoopState → Option Code → Loop, rec = fun st pe => { state := st, pending := pe, fn, tmps := a.tmps, params := ps, assign, body, defers := w.heap.size } := ⟨_, rfl⟩
  obtain ⟨W1, hW1⟩ : ∃ W1, (w.alloc (.deferred (some []))).alloc (.loop (rec .ready none)) = W1 := ⟨_, rfl⟩
  have hL1 : W1.heap[w.heap.size + 1]? = some (.loop (rec .ready none)) := by
    rw [← hW1]; have := World.alloc_heap_new (w.alloc (.deferred (some []))) (.loop (rec .ready none)); rwa [World.size_alloc] at this
  have hK1 : W1.heap[w.heap.size]? = some (.deferred (some [])) := by
    rw [← hW1]; exact (Below.heap_alloc _ _ _ (by simp)).trans (World.alloc_heap_new w _)
  have hI1 : I [] W1 := by rw [← hW1]; exact h0 _ _
  have hb1 : Below w.heap.size w W1 := by rw [← hW1]; exact ((Below.refl _ w).alloc (Nat.le_refl _) _).alloc (by simp) _
  refine ⟨w.heap.size + 1, [{ target := .collected w.heap.size, args := #[] }], W1, { target := .fn (.func 50) #[.pointer (some ⟨Bn, 0, none⟩)], args := #[.func (.yield (w.heap.size + 1)) #[] #[]] }, W1, 50,
    #[.func (.yield (w.heap.size + 1)) #[] #[]] ++ #[.pointer (some ⟨Bn, 0, none⟩)], W1, ?_, ?_, ?_, ?_, fun _ => (by omega), ?_⟩
  · rw [← hW1, hrec]; exact run_enterLoop_outer _ _ _ _ _
  · simp only [resolve, hg]
    simp [go_sem]
  · intro f' hf'; exact trivial
  · simp [invoke, go_sem]
  · have hBlt : Bn < w.heap.size := lt_of_heap hBn
    refine (records_in (n - 1) (by omega) (w.heap.size + 1) Bn K hKB b hb8 v (fun pre W => I pre W ∧ W.heap[w.heap.size + 1]? = some (.loop (rec .ready none)) ∧ W.heap[w.heap.size]? = some (.deferred (some []))) ?_ W1 (heap_on hb1 hBn) (hv.later hb1) hvK ⟨hI1, hL1, hK1⟩).mono ?_
    · rintro pre x W0 Wy ⟨hi, hl, hk⟩ hc hnew hpre
      have hl' : Wy.heap[w.heap.size + 1]? = some (.loop (rec .ready none)) := (hc.block _ (lt_of_heap hl) (by omega)).trans hl
      have hk' : Wy.heap[w.heap.size]? = some (.deferred (some [])) := (hc.block _ (lt_of_heap hk) (by omega)).trans hk
      have hrd := hready pre x W0 Wy hi hc hnew hpre
      have hlt := lt_of_heap hl'
      have hy := run_yield (P := Tryd.prog) (args := #[x.v, .int .u32 x.c]) hl' (by rw [hrec]; exact hps.symm)
      rw [hrec] at hy
      refine ⟨fn, _, assign, body, hy, roundIn_of_wpIn hfn (hassign _ x Wy _ ⟨_, run_beginRound hl' (by rw [hrec]), ?_⟩)⟩
      have hl2 : (Wy.putObj (w.heap.size + 1) (.loop { rec .ready none with state := .busy })).heap[w.heap.size + 1]? = some (.loop { rec .ready none with state := .busy }) := World.putObj_heap_same hlt
      have hk2 : (Wy.putObj (w.heap.size + 1) (.loop { rec .ready none with state := .busy })).heap[w.heap.size]? = some (.deferred (some [])) := (World.putObj_heap_other (by omega)).trans hk'
      refine wpIn_mono (hbody _ pre x _ (hR _ _ _ _ _ _ (by omega) hl' rfl hrd)) ?_
      rintro e a3 W3 hp
      cases e with
      | normal =>
        obtain ⟨hk3, hs3, hi3⟩ := hp
        have hl3 := hk3.same _ _ (by omega) hl2 rfl
        have hd3 := hk3.same _ _ (Nat.le_refl _) hk2 rfl
        have hr := run_endRound (P := Tryd.prog) none hl3
        rw [hrec] at hr
        refine ⟨_, _, hr, rfl, ⟨hI _ _ _ _ _ (by omega) hl3 rfl hi3, ?_, (World.putObj_heap_other (by omega)).trans hd3⟩, ?_⟩
        · rw [World.putObj_heap_same (lt_of_heap hl3), hrec]
          rfl
        · exact ⟨hs3.os, hs3.tape, hs3.output, Nat.le_trans (by simp) (Nat.le_trans hs3.size (by simp)), fun q hq => by
            have hqw := hKw q hq
            rw [World.putObj_heap_other (by omega), hs3.block q hq, World.putObj_heap_other (by omega)]⟩
      | ret => exact hp.elim
      | exit id => exact hp.elim
      | goto t => exact hp.elim
      | panic ch => exact hp.elim
      | outgrown => exact hp.elim
    · rintro e W2 ⟨⟨v9, rfl⟩, xs, W0, hxs, ⟨hi, hl, hk⟩, hc⟩
      have hl' : W2.heap[w.heap.size + 1]? = some (.loop (rec .ready none)) := (hc.block _ (lt_of_heap hl) (by omega)).trans hl
      have hk' : W2.heap[w.heap.size]? = some (.deferred (some [])) := (hc.block _ (lt_of_heap hk) (by omega)).trans hk
      have hr := run_endLoop (P := Tryd.prog) hl' (by rw [hrec]; simp)
      rw [hrec] at hr
      exact ⟨none, _, hr, hdone _ xs _ (Nat.le_refl _) hxs (hI _ _ _ _ _ (by omega) hl' rfl (hIc _ _ _ hi hc)) ((World.putObj_heap_other (by omega)).trans hk')⟩
end Go.Proofs.YtjfejpdeccnlnaaDoor
