/- Layer 8 (groups): pairs; a range over them, in whose rounds memory is made -/
import Derived.Test.YtpoocnkflmimdaaLPWG35
import Derived.Test.YtpoocnkflmimdaaLPWG27
namespace Go.Proofs.Ytpoocnkflmimdaa
open Go.ChangeShapes Go.WideShapes Go.ChangeAt Go.RowKit

theorem wpListIn_val {l n : Nat} {P : Program} {ops : Array Oper} {rest : List Oper} {o : Oper} {a : Act} {w : World} {Q : Exit → Act → World → Prop} {v : Value} (hgd : o.guard = none) (hdf : ∀ c, o.op ≠ .defer c) (h : (execOp a.eval o).run P w = .ok (.value v) w)
    (k : wpListIn (Fence.wide.inRound l) n P ops Q rest (a.put o.dst v) w) : wpListIn (Fence.wide.inRound l) n P ops Q (o :: rest) a w :=
  wpListIn_plain hgd fun K hK => by
    refine ⟨fun _ _ => trivial, ?_⟩
    have e : o.semAt (Fence.wide.inRound l).round a.eval = execOp a.eval o := Oper.semAt_some l _ _ hdf
    rw [e, h]
    exact hK _ _ k
theorem cell_put {W : World} {l : Nat} {o o' : Obj} (h : W.heap[l]? = some o) (ho : o.isCells = false) {p : Addr} {v : Value} (hp : W.cell? p = some v) : (W.putObj l o').cell? p = some v := by
  by_cases e : p.block = l
  · exfalso
    unfold World.cell? at hp
    rw [e, h] at hp
    cases o <;> first | (simp at hp; done) | (cases ho)
  · exact (World.cell?_of_block (World.putObj_heap_other e)).trans hp
theorem frozen_put {W : World} {l : Nat} {o o' : Obj} (h : W.heap[l]? = some o) (ho : o.isCells = false) {p : Addr} {v : Value} (hp : W.cell? p = some v) (hf : W.frozen? p = false) : (W.putObj l o').frozen? p = false := by
  by_cases e : p.block = l
  · exfalso
    unfold World.cell? at hp
    rw [e, h] at hp
    cases o <;> first | (simp at hp; done) | (cases ho)
  · exact (World.frozen?_of_block (World.putObj_heap_other e)).trans hf
theorem StayK.trans {K : Nat → Prop} {w w1 w2 : World} (h : StayK K w w1) (h2 : StayK K w1 w2) : StayK K w w2 :=
  ⟨h2.os.trans h.os, h2.tape.trans h.tape, h2.output.trans h.output, Nat.le_trans h.size h2.size, fun g hg => (h2.block g hg).trans (h.block g hg)⟩
/-- As range_down; a round may make its variables in memory. -/
theorem range_made {n : Nat} (hn : 5 ≤ n) {g : Operand} {ps : Array Tmp} {assign body : Code} {Q : Exit → Act → World → Prop} {a : Act} {w : World} {itf : FuncId} {caps : Array Value} {encs : Nat → Array Value}
    (hg : a.eval g = .func (.func itf) #[] caps) (hent : ∀ (args : Array Value) (W : World), (callFunc itf args).run Try.prog W = .ok (.enter itf args) W)
    (K : Nat → Prop) (hKw : ∀ k, K k → k < w.heap.size) (N : Nat) (hps : ∀ i, ps.size = (encs i).size) (I : Nat → World → Prop)
    (hI : ∀ k A l o o', w.heap.size ≤ l → A.heap[l]? = some o → o.isCells = false → I k A → I k (A.putObj l o'))
    (hId : ∀ k W, I k W → I k W.drew)
    (h0 : ∀ o1 o2, I N ((w.alloc o1).alloc o2))
    (hit : ∀ (l : Nat) (J : Nat → World → Prop) (W : World), (∀ k W, J k W → J k W.drew) → (∀ i W0, i < N → J (i + 1) W0 → YieldAt Fence.wide (n - 1 - 1) Try.prog l (encs i) W0 fun e W' => e = .returned (.bool true) ∧ J i W' ∧ StayK K W0 W') → Below w.heap.size w W → J N W →
      CallsIn Fence.wide (n - 1) Try.prog itf (#[.func (.yield l) #[] #[]] ++ caps) W fun e W' => (∃ v, e = .returned v) ∧ J 0 W')
    (hround : ∀ (l i : Nat) (W : World) (KK : Act → World → Prop), i < N → I (i + 1) W → w.heap.size ≤ l → (∃ o, W.heap[l]? = some o ∧ o.isCells = false) →
      (∀ a1 W1, KeepsFrom w.heap.size W W1 → StayK K W W1 → (∀ o', body.wpIn (Fence.wide.inRound l) (n - 1 - 1) Try.prog (roundEndK w.heap.size K (I i) (W1.putObj l o')) a1 (W1.putObj l o')) → KK a1 W1) →
      assign.wpIn (Fence.wide.inRound l) (n - 1 - 1) Try.prog (Exit.then KK (fun _ _ _ => False)) { tmps := (ps.zip (encs i)).foldl (fun t (p, v) => t.setIfInBounds p v) a.tmps, defers := [] } W)
    (hdone : ∀ (D : Nat) (W : World), w.heap.size ≤ D → I 0 W → W.heap[D]? = some (.deferred (some [])) → Q .normal { a with defers := { target := .collected D, args := #[] } :: a.defers } W) :
    (Code.rangeFunc g ps assign body).wpIn Fence.wide n Try.prog Q a w := by
  refine wpIn_rangeFunc ?_
  intro fn hfn
  obtain ⟨rec, hrec⟩ : ∃ rec : LoopState → Option Code → Loop, rec = fun st pe => { state := st, pending := pe, fn, tmps := a.tmps, params := ps, assign, body, defers := w.heap.size } := ⟨_, rfl⟩
  obtain ⟨W1, hW1⟩ : ∃ W1, (w.alloc (.deferred (some []))).alloc (.loop (rec .ready none)) = W1 := ⟨_, rfl⟩
  have hL1 : W1.heap[w.heap.size + 1]? = some (.loop (rec .ready none)) := by
    rw [← hW1]; have := World.alloc_heap_new (w.alloc (.deferred (some []))) (.loop (rec .ready none)); rwa [World.size_alloc] at this
  have hK1 : W1.heap[w.heap.size]? = some (.deferred (some [])) := by
    rw [← hW1]; exact (Below.heap_alloc _ _ _ (by simp)).trans (World.alloc_heap_new w _)
  have hI1 : I N W1 := by rw [← hW1]; exact h0 _ _
  have hb1 : Below w.heap.size w W1 := by rw [← hW1]; exact ((Below.refl _ w).alloc (Nat.le_refl _) _).alloc (by simp) _
  refine ⟨w.heap.size + 1, [{ target := .collected w.heap.size, args := #[] }], W1, { target := .fn (.func itf) caps, args := #[.func (.yield (w.heap.size + 1)) #[] #[]] }, W1, itf,
    #[.func (.yield (w.heap.size + 1)) #[] #[]] ++ caps, W1, ?_, ?_, ?_, ?_, fun _ => (by omega), ?_⟩
  · rw [← hW1, hrec]; exact run_enterLoop_outer _ _ _ _ _
  · simp only [resolve, hg]
    simp [go_sem]
  · intro f' hf'; exact trivial
  · simp [invoke, go_sem, hent]
  · refine (hit (w.heap.size + 1) (fun k W => I k W ∧ W.heap[w.heap.size + 1]? = some (.loop (rec .ready none)) ∧ W.heap[w.heap.size]? = some (.deferred (some []))) W1 (fun k W h => ⟨hId k W h.1, h.2⟩) ?_ hb1 ⟨hI1, hL1, hK1⟩).mono ?_
    · rintro i Wx hiN ⟨hi, hlx, hkx⟩
      have hy := run_yield (P := Try.prog) (args := encs i) hlx (by rw [hrec]; exact (hps i).symm)
      rw [hrec] at hy
      refine ⟨fn, _, assign, body, hy, roundIn_of_wpIn hfn (hround (w.heap.size + 1) i Wx _ hiN hi (by omega) ⟨_, hlx, rfl⟩ (fun a1 Wy hkf hsk hbod => ?_))⟩
      have hl' := hkf.same _ _ (by omega) hlx rfl
      have hk' := hkf.same _ _ (Nat.le_refl _) hkx rfl
      have hlt := lt_of_heapL hl'
      refine ⟨_, run_beginRound hl' (by rw [hrec]), ?_⟩
      have hl2 : (Wy.putObj (w.heap.size + 1) (.loop { rec .ready none with state := .busy })).heap[w.heap.size + 1]? = some (.loop { rec .ready none with state := .busy }) := World.putObj_heap_same hlt
      have hk2 : (Wy.putObj (w.heap.size + 1) (.loop { rec .ready none with state := .busy })).heap[w.heap.size]? = some (.deferred (some [])) := (World.putObj_heap_other (by omega)).trans hk'
      refine wpIn_mono (hbod _) ?_
      rintro e a3 W3 hp
      cases e with
      | normal =>
        obtain ⟨hk3, hs3, hi3⟩ := hp
        have hl3 := hk3.same _ _ (by omega) hl2 rfl
        have hd3 := hk3.same _ _ (Nat.le_refl _) hk2 rfl
        have hr := run_endRound (P := Try.prog) none hl3
        rw [hrec] at hr
        refine ⟨_, _, hr, rfl, ⟨hI _ _ _ _ _ (by omega) hl3 rfl hi3, ?_, (World.putObj_heap_other (by omega)).trans hd3⟩, ?_⟩
        · rw [World.putObj_heap_same (lt_of_heapL hl3), hrec]
          rfl
        · refine hsk.trans ⟨hs3.os, hs3.tape, hs3.output, Nat.le_trans (by simp) (Nat.le_trans hs3.size (by simp)), fun q hq => ?_⟩
          have hqw := hKw q hq
          rw [World.putObj_heap_other (by omega), hs3.block q hq, World.putObj_heap_other (by omega)]
      | ret => exact hp.elim
      | exit id => exact hp.elim
      | goto t => exact hp.elim
      | panic ch => exact hp.elim
      | outgrown => exact hp.elim
    · rintro e W2 ⟨⟨v9, rfl⟩, hi, hl', hk'⟩
      have hr := run_endLoop (P := Try.prog) hl' (by rw [hrec]; simp)
      rw [hrec] at hr
      exact ⟨none, _, hr, hdone _ _ (Nat.le_refl _) (hI _ _ _ _ _ (by omega) hl' rfl hi) ((World.putObj_heap_other (by omega)).trans hk')⟩
theorem pairs_any (ao bo : Option Addr) (n c m d : Nat) (w : World) :
    Calls Try.prog 76 #[.slice ao n c, .slice bo m d] w fun e w' => e = .returned (.func (.func 90) #[] #[.pointer (some ⟨w.heap.size, 0, none⟩), .pointer (some ⟨w.heap.size + 1, 0, none⟩)]) ∧ w' = (w.alloc (.cells #[.slice ao n c] 97)).alloc (.cells #[.slice bo m d] 97) := by
  go_enter Try.func76, Try.ntmps76
  go_wp2
  go_ret
  exact ⟨rfl, rfl⟩
set_option linter.unusedVariables false in
set_option linter.unusedSimpArgs false in
set_option maxRecDepth 20000 in
set_option maxHeartbeats 4000000 in
theorem pairs_in (n : Nat) (hn : 3 ≤ n) (l An Nn : Nat) (K : Nat → Prop) (hKA : K An) (hKN : K Nn) (xs ns : List Nat) (ba oa ca bn on cn : Nat) (J : Nat → World → Prop) (W : World) (hlen : xs.length ≤ 1000000) (hln : ns.length = xs.length)
    (hA : W.heap[An]? = some (.cells #[.slice (some ⟨ba, oa, none⟩) xs.length ca] 97 (0, 0))) (hN : W.heap[Nn]? = some (.cells #[.slice (some ⟨bn, on, none⟩) xs.length cn] 97 (0, 0)))
    (hx : NumsAt W ba oa xs) (hns : NumsAt W bn on ns) (hKa : K ba) (hKn : K bn) (hJd : ∀ k W, J k W → J k W.drew)
    (hY : ∀ i W0, i < xs.length → J (i + 1) W0 → YieldAt Fence.wide (n - 1) Try.prog l #[numV (xs.getD (xs.length - 1 - i) 0), numV (ns.getD (xs.length - 1 - i) 0)] W0 fun e W' => e = .returned (.bool true) ∧ J i W' ∧ StayK K W0 W') (h0 : J xs.length W) :
    CallsIn Fence.wide n Try.prog 90 #[.func (.yield l) #[] #[], .pointer (some ⟨An, 0, none⟩), .pointer (some ⟨Nn, 0, none⟩)] W fun e W' => (∃ v, e = .returned v) ∧ J 0 W' := by
  refine callsIn_of_wp Try.func90 rfl trivial ?_ rfl
  simp only [Try.ntmps90, List.size_toArray, List.length_cons, List.length_nil, Nat.reduceAdd, Nat.reduceSub, Array.replicate_succ, Array.replicate_zero, List.push_toArray, List.append_toArray, List.nil_append, List.cons_append]
  have HY := Lib.hid hY
  have HX := Lib.hid hx
  have HNS := Lib.hid hns
  have HA := Lib.hid hA
  have HN := Lib.hid hN
  have HLN := Lib.hid hln
  obtain ⟨m, hm⟩ : ∃ m, m = xs.length := ⟨_, rfl⟩
  have HM := Lib.hid hm
  rw [← hm] at HA HN HY hlen h0 HLN
  have H0 := Lib.hid h0
  have hmI : (m : Int) ≤ 1000000 := by omega
  have c0 : W.cell? ⟨An, 0, none⟩ = some (.slice (some ⟨ba, oa, none⟩) m ca) := cell_of_row W An 0 _ _ (0, 0) HA.out
  have hn1 : 1 ≤ n := by omega
  clear hm hA hN hY hx hns hln h0
  gi_wp2_with fail
  gi_loopg [7] m (fun g i wr => ∃ k : Nat, k ≤ m ∧ g = m - k ∧ i = .int .i64 (k : Int) ∧ Hid (J (m - k) wr) ∧ Hid (StayK K W wr))
  case atStart => exact ⟨0, Nat.zero_le _, rfl, rfl, Lib.hid (by rw [Nat.sub_zero]; exact H0.out), Lib.hid ⟨rfl, rfl, rfl, Nat.le_refl _, fun _ _ => rfl⟩⟩
  case round =>
    obtain ⟨k, hk, hg9, rfl, HJ, HS⟩ := hrel
    by_cases hlt : k < m
    · have hltI : (k : Int) < (m : Int) := by omega
      obtain ⟨i, hi⟩ : ∃ i, i = m - 1 - k := ⟨_, rfl⟩
      have hik : m - k = i + 1 := by omega
      have hyy := HY.out i wr.drew (by omega) (hJd _ _ (by have := HJ.out; rwa [hik] at this))
      rw [show m - 1 - i = k by omega] at hyy
      obtain ⟨x, hx⟩ : ∃ x, xs.getD k 0 = x := ⟨_, rfl⟩
      obtain ⟨y, hy⟩ : ∃ y, ns.getD k 0 = y := ⟨_, rfl⟩
      have hxk : xs[k]? = some x := by rw [← hx, List.getD_eq_getElem?_getD, List.getElem?_eq_getElem (by rw [← HM.out]; omega)]; rfl
      have hyk : ns[k]? = some y := by rw [← hy, List.getD_eq_getElem?_getD, List.getElem?_eq_getElem (by rw [HLN.out]; omega)]; rfl
      rw [hx, hy] at hyy
      unfold numV words at hyy
      have c1 : wr.cell? ⟨An, 0, none⟩ = some (.slice (some ⟨ba, oa, none⟩) m ca) := cell_of_row wr An 0 _ _ (0, 0) ((HS.out.block An hKA).trans HA.out)
      have c2 : wr.cell? ⟨Nn, 0, none⟩ = some (.slice (some ⟨bn, on, none⟩) m cn) := cell_of_row wr Nn 0 _ _ (0, 0) ((HS.out.block Nn hKN).trans HN.out)
      have x0 : wr.cell? ⟨ba, oa + k * 4, none⟩ = _ := (World.cell?_of_block (HS.out.block ba hKa)).trans (HX.out k x hxk 0 (by decide))
      have x1 := (World.cell?_of_block (a := ⟨ba, oa + k * 4 + 1, none⟩) (HS.out.block ba hKa)).trans (HX.out k x hxk 1 (by decide))
      have x2 := (World.cell?_of_block (a := ⟨ba, oa + k * 4 + 2, none⟩) (HS.out.block ba hKa)).trans (HX.out k x hxk 2 (by decide))
      have x3 := (World.cell?_of_block (a := ⟨ba, oa + k * 4 + 3, none⟩) (HS.out.block ba hKa)).trans (HX.out k x hxk 3 (by decide))
      have y0 : wr.cell? ⟨bn, on + k * 4, none⟩ = _ := (World.cell?_of_block (HS.out.block bn hKn)).trans (HNS.out k y hyk 0 (by decide))
      have y1 := (World.cell?_of_block (a := ⟨bn, on + k * 4 + 1, none⟩) (HS.out.block bn hKn)).trans (HNS.out k y hyk 1 (by decide))
      have y2 := (World.cell?_of_block (a := ⟨bn, on + k * 4 + 2, none⟩) (HS.out.block bn hKn)).trans (HNS.out k y hyk 2 (by decide))
      have y3 := (World.cell?_of_block (a := ⟨bn, on + k * 4 + 3, none⟩) (HS.out.block bn hKn)).trans (HNS.out k y hyk 3 (by decide))
      obtain ⟨fn9, tmps9, assign9, body9, hy9, hR9⟩ := hyy
      have HR9 := Lib.hid hR9
      have HIK := Lib.hid (show m - (k + 1) = i ∧ i < m by omega)
      clear hR9 hx hy hxk hyk hik hi
      gi_wp2_with fail
      have hkI : ¬ ((k : Int) < 0) := by omega
      gi_region_with (have hy := hy9; refine HR9.out.mono ?_; rintro _ w9 ⟨rfl, hj9, hs9⟩)
      all_goals (
        have HJ9 := Lib.hid hj9
        have HS9 := Lib.hid (show StayK K W w9 from ⟨hs9.os.trans HS.out.os, hs9.tape.trans HS.out.tape, hs9.output.trans HS.out.output, Nat.le_trans HS.out.size hs9.size, fun g hg => (hs9.block g hg).trans (HS.out.block g hg)⟩)
        clear hj9 hs9 c1 c2 x0 x1 x2 x3 y0 y1 y2 y3 hy
        gi_wp2_with fail
        gi_roundg i
        case rel => exact ⟨k + 1, by omega, HIK.out.1.symm, by go_num, Lib.hid (by rw [HIK.out.1]; exact HJ9.out), HS9⟩
        case measure => have := HIK.out; omega)
    · have hkm : k = m := by omega
      subst hkm
      have hltI : ¬ ((k : Int) < (k : Int)) := by omega
      gi_wp2_with fail
      exact ⟨rfl, _, results_none rfl _ _ _, ⟨_, rfl⟩, by have := HJ.out; rwa [Nat.sub_self] at this⟩
end Go.Proofs.Ytpoocnkflmimdaa
