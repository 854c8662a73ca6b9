/- Layer 18's reference: what is told of bytes, in plain words, record by record; cuts of bytes; Layer 18's reference: Records -/
import Derived.Test.YtidhlbhfhfonoaaGreatDoorJZXG14
import Derived.Test.YtidhlbhfhfonoaaGreatDoorJZXG09
namespace Go.Proofs.YtidhlbhfhfonoaaGreatDoor
open Go.ChangeShapes Go.WideShapes Go.ChangeAt Go.RowKit
def longS (L : List (List Nat × Nat)) : Nat := (L.map fun x => x.1.length + 8).sum
def lastS (c : Nat) (L : List (List Nat × Nat)) : Nat := (L.getLast?.map Prod.snd).getD c
theorem longS_snoc (L : List (List Nat × Nat)) (x : List Nat × Nat) : longS (L ++ [x]) = longS L + (x.1.length + 8) := by simp [longS]
theorem lastS_snoc (c : Nat) (L : List (List Nat × Nat)) (x : List Nat × Nat) : lastS c (L ++ [x]) = x.2 := by simp [lastS]
theorem slice_mid8 {w : World} {v : Value} {l : List Nat} (hk : KAt .u8 w v l) (i j : Nat) (hi : i ≤ j) (hj : j ≤ l.length) :
    ∃ a c, (∀ W, (Instr.sliceAt 58 v (some (.int .i64 i)) (some (.int .i64 j)) none).run Tryz.prog W = .ok (.slice a (j - i) c) W) ∧ KAt .u8 w (.slice a (j - i) c) ((l.take j).drop i) := by
  obtain ⟨ao, cap, rfl, h1, h2, h3, h4⟩ := hk
  have hrun : ∀ W, (Instr.sliceAt 58 (.slice ao l.length cap) (some (.int .i64 i)) (some (.int .i64 j)) none).run Tryz.prog W = .ok (sliced ao i j cap 1) W := fun W => by
    rw [run_sliceAt_slice _ _ _ _ _ _ elemB, run_slice_lh _ _ _ _ _ elemB .i64 .i64 i j (by omega) (by omega) (by omega), sizeB]
    simp
  unfold sliced at hrun
  have hl : ((l.take j).drop i).length = j - i := by simp; omega
  refine ⟨_, _, fun W => hrun W, ?_⟩
  refine ⟨_, _, by rw [hl], by rw [hl]; omega, by omega, fun hno => ?_, fun h0 => ?_⟩
  · split at hno
    · omega
    · have : ao = none := by cases ao with | none => rfl | some _ => cases hno
      have := h3 this
      omega
  · rw [hl] at h0
    obtain ⟨b, o, rfl, hc⟩ := h4 (by omega)
    rw [if_neg (by omega)]
    refine ⟨b, o + i, by simp [Addr.add_lit], fun q x hx => ?_⟩
    rw [List.getElem?_drop, List.getElem?_take] at hx
    split at hx
    · have := hc _ _ hx
      rw [Nat.add_assoc]
      exact this
    · cases hx
theorem bstr_inj {a b : List Nat} (ha : Bytes a) (hb : Bytes b) (h : bstr a = bstr b) : a = b := by
  have e : ∀ {l : List Nat}, Bytes l → (bstr l).data.toList.map UInt8.toNat = l := fun {l} hl => by
    unfold bstr
    simp only [List.map_map]
    conv => rhs; rw [← List.map_id l]
    exact List.map_congr_left fun x hx => by
      have := hl x hx
      simp [Nat.mod_eq_of_lt this]
  rw [← e ha, ← e hb, h]
theorem four_get {b : List Nat} (h : 8 ≤ b.length) : ∃ x0 x1 x2 x3, b[0]? = some x0 ∧ b[1]? = some x1 ∧ b[2]? = some x2 ∧ b[3]? = some x3 ∧ val4 b = x0 * 16777216 + x1 * 65536 + x2 * 256 + x3 ∧ b.take 4 = [x0, x1, x2, x3] := by
  match b, h with
  | x0 :: x1 :: x2 :: x3 :: t, _ => exact ⟨x0, x1, x2, x3, rfl, rfl, rfl, rfl, rfl, rfl⟩
theorem num4_val4 {b : List Nat} (h : 8 ≤ b.length) (hb : Bytes b) : num4 (val4 b) = b.take 4 := by
  obtain ⟨x0, x1, x2, x3, h0, h1, h2, h3, hv, ht⟩ := four_get h
  have l0 := hb x0 (List.mem_of_getElem? h0)
  have l1 := hb x1 (List.mem_of_getElem? h1)
  have l2 := hb x2 (List.mem_of_getElem? h2)
  have l3 := hb x3 (List.mem_of_getElem? h3)
  rw [ht, hv]
  unfold num4
  rw [show (x0 * 16777216 + x1 * 65536 + x2 * 256 + x3) / 16777216 % 256 = x0 by omega, show (x0 * 16777216 + x1 * 65536 + x2 * 256 + x3) / 65536 % 256 = x1 by omega, show (x0 * 16777216 + x1 * 65536 + x2 * 256 + x3) / 256 % 256 = x2 by omega, show (x0 * 16777216 + x1 * 65536 + x2 * 256 + x3) % 256 = x3 by omega]
/-- The reference's way: the record is laid again, and compared. -/
theorem recs_next {c : Nat} {b : List Nat} (hb : Bytes b) (h8 : 8 ≤ b.length) (h1 : ¬ val4 b > 65536) (h2 : ¬ val4 b > b.length - 8) :
    recs c b = if laidR c ((b.drop 4).take (val4 b)) = b.take (val4 b + 8) then ((b.drop 4).take (val4 b), nextC c ((b.drop 4).take (val4 b))) :: recs (nextC c ((b.drop 4).take (val4 b))) (b.drop (val4 b + 8)) else [] := by
  rw [recs_eq, if_neg (by omega), if_neg (by omega)]
  have hr : ((b.drop 4).take (val4 b)).length = val4 b := by rw [List.length_take, List.length_drop]; omega
  have hh : headR ((b.drop 4).take (val4 b)) = b.take (4 + val4 b) := by
    unfold headR
    rw [hr, num4_val4 h8 hb, ← List.take_add]
  have hn : nextC c ((b.drop 4).take (val4 b)) = crc c (b.take (4 + val4 b)) := by unfold nextC; rw [hh]
  have hl : laidR c ((b.drop 4).take (val4 b)) = b.take (4 + val4 b) ++ num4 (crc c (b.take (4 + val4 b))) := by unfold laidR; rw [hh, hn]
  have ht : b.take (val4 b + 8) = b.take (4 + val4 b) ++ (b.drop (4 + val4 b)).take 4 := by rw [show val4 b + 8 = 4 + val4 b + 4 by omega, List.take_add]
  rw [hn, hl, ht, show val4 b + 8 = 4 + val4 b + 4 by omega]
  by_cases he : num4 (crc c (b.take (4 + val4 b))) = (b.drop (4 + val4 b)).take 4
  · rw [if_pos he, if_pos (by rw [he])]
  · rw [if_neg he, if_neg fun e => he (List.append_cancel_left e)]
theorem recs_end {c : Nat} {b : List Nat} (h : b.length < 8 ∨ val4 b > 65536 ∨ val4 b > b.length - 8) : recs c b = [] := by
  rw [recs_eq]
  by_cases h8 : b.length < 8
  · rw [if_pos h8]
  · rw [if_neg h8, if_pos (h.resolve_left h8)]
end Go.Proofs.YtidhlbhfhfonoaaGreatDoor
namespace Go.Proofs.YtidhlbhfhfonoaaGreatDoor
open Go.ChangeShapes Go.WideShapes Go.ChangeAt Go.RowKit
theorem i64_n8 {n : Nat} (h : (n : Int) ≤ 65536) : IntKind.i64.wrap ((n : Int) + 8) = (n : Int) + 8 := by rw [IntKind.wrap_i64]; omega
theorem src_rec (w : World) (a : Option Addr) (n c : Nat) (t : TypeId) : SrcV (w.alloc (.cells #[.slice a n c] t)) 1 (.slice (some ⟨w.heap.size, 0, none⟩) 1 1) 1 [.slice a n c] :=
  ⟨_, _, rfl, rfl, fun z hz => by simp at hz; subst hz; rfl, (fun h => by cases h), fun ad had j z hz => (by
    cases had
    exact one_new w _ t j z hz)⟩
theorem infoRR : (Tryz.prog.info? 58).map (fun i => (i.zero, i.size, i.bytes)) = some (some (.slice none 0 0), 1, 24) := by kernel_rfl
/-- The records so far: a list of lists of the call's own. -/
def RecI (w : World) (C : Nat) (out : Value) (pre : List (List Nat × Nat)) (xs : List Value) : Prop := OwnV w C 58 1 out pre.length xs ∧ ∀ (i : Nat) (x : List Nat × Nat), pre[i]? = some x → ∃ u, xs[i]? = some u ∧ Own w C u x.1 ∧ ∀ g, u.ownBlock = some g → out.ownBlock ≠ some g
theorem RecI.later {w w' : World} {C : Nat} {out : Value} {pre : List (List Nat × Nat)} {xs : List Value} (h : RecI w C out pre xs) (hb : Below w.heap.size w w') : RecI w' C out pre xs :=
  ⟨OwnV.later h.1 hb, fun i x hx => by obtain ⟨u, h1, h2, h3⟩ := h.2 i x hx; exact ⟨u, h1, h2.later hb, h3⟩⟩
theorem Own.blk {w w' : World} {C : Nat} {v : Value} {l : List Nat} (h : Own w C v l) (hb : ∀ g, v.ownBlock = some g → w'.heap[g]? = w.heap[g]?) : Own w' C v l := OwnV.block h hb
theorem RecI.next {w w1 w2 : World} {C : Nat} {out out' u : Value} {pre : List (List Nat × Nat)} {xs : List Value} {r : List Nat} {k : Nat} (h : RecI w C out pre xs) (hC : C ≤ w.heap.size) (hb : Below w.heap.size w w1) (hu : Own w1 w.heap.size u r) (ho : OwnV w2 C 58 1 out' (pre.length + 1) (xs ++ [u])) (hg : w1.grownBy w2 out.ownBlock) (hl : Lies w1 w2 out out' pre.length 1) : RecI w2 C out' (pre ++ [(r, k)]) (xs ++ [u]) := by
  have hs := hb.size
  have hout : ∀ g, out.ownBlock = some g → g < w.heap.size := fun g hg => (OwnV.lt h.1 g hg).2
  have hxl : xs.length = pre.length := by have := h.1.1; omega
  have hnew : ∀ g, g < w1.heap.size → out.ownBlock ≠ some g → out'.ownBlock ≠ some g := fun g h1 h2 => lies_apart hl h2 h1
  refine ⟨by rw [List.length_append, List.length_singleton]; exact ho, fun i x hx => ?_⟩
  by_cases hi : i < pre.length
  · rw [List.getElem?_append_left hi] at hx
    obtain ⟨u9, h1, h2, h3⟩ := h.2 i x hx
    refine ⟨u9, by rw [List.getElem?_append_left (by omega)]; exact h1, (h2.later hb).blk fun g hg9 => ?_, fun g hg9 => ?_⟩
    · exact hg.block g (by have := (OwnV.lt h2 g hg9).2; omega) (fun e => h3 g hg9 e.symm)
    · exact hnew g (by have := (OwnV.lt h2 g hg9).2; omega) (h3 g hg9)
  · rw [List.getElem?_append_right (by omega)] at hx
    obtain ⟨h0, hx⟩ := List.getElem?_eq_some_iff.1 hx
    have h00 : i - pre.length = 0 := by simpa using h0
    have hip : i = pre.length := by omega
    subst hip
    simp only [Nat.sub_self, List.getElem_cons_zero] at hx
    subst hx
    refine ⟨u, by rw [List.getElem?_append_right (by omega), hxl, Nat.sub_self]; rfl, ?_, fun g hg9 => ?_⟩
    · refine (Own.base hu hC).blk fun g hg9 => hg.block g (OwnV.lt hu g hg9).2 fun e => ?_
      have := hout g e.symm
      have := (OwnV.lt hu g hg9).1
      omega
    · refine hnew g (OwnV.lt hu g hg9).2 fun e => ?_
      have := hout g e
      have := (OwnV.lt hu g hg9).1
      omega
theorem RecI.parts {w : World} {C : Nat} {out : Value} {pre : List (List Nat × Nat)} {xs : List Value} (h : RecI w C out pre xs) : PartsAt w out (pre.map Prod.fst) := by
  have hx : ∀ (i : Nat) (l : List Nat), (pre.map Prod.fst)[i]? = some l → ∃ u, xs[i]? = some u ∧ KAt .u8 w u l := fun i l hl => by
    rw [List.getElem?_map] at hl
    obtain ⟨x, hx, rfl⟩ := Option.map_eq_some_iff.1 hl
    obtain ⟨u, h1, h2, _⟩ := h.2 i x hx
    exact ⟨u, h1, h2.at_⟩
  have h1 : OwnV w C 58 1 out (pre.map Prod.fst).length xs := by rw [List.length_map]; exact h.1
  rcases h1.2 with ⟨rfl, h0⟩ | ⟨g, o, cap, cur, rfl, h3, h4, h5, h6, h7, h8⟩
  · have : pre.map Prod.fst = [] := List.length_eq_zero_iff.1 h0
    rw [this]
    exact ⟨_, 0, rfl, Nat.le_refl _, Nat.zero_le _, fun _ => rfl, fun h => absurd h (Nat.lt_irrefl _)⟩
  · refine ⟨_, cap, rfl, h5, h6, (fun h => by cases h), fun _ => ⟨g, o, rfl, fun i l hl => ?_⟩⟩
    obtain ⟨u, h9, h10⟩ := hx i l hl
    have hc := OwnV.cells h1 i u h9
    rw [Addr.add_lit] at hc
    exact ⟨u, hc, h10⟩
set_option linter.unusedSimpArgs false in
set_option linter.unusedVariables false in
set_option maxRecDepth 20000 in
set_option maxHeartbeats 3000000 in
theorem RRecords_any {v : Value} {b0 : List Nat} (w : World) (hv : KAt .u8 w v b0) (hb : Bytes b0) (hl : b0.length ≤ 1048576) :
    Calls Tryz.prog 45 #[v] w fun e w' => ∃ u, e = .returned (.tuple #[u, .int .i64 (longS (recs firstC b0)), .int .u32 (lastS firstC (recs firstC b0))]) ∧ PartsAt w' u ((recs firstC b0).map Prod.fst) ∧ Below w.heap.size w w' := by
  obtain ⟨C, hC⟩ : ∃ C, C = w.heap.size := ⟨_, rfl⟩
  have HC := Lib.hid hC
  rw [← hC]
  have HK0 := Lib.hid hv
  have HBY := Lib.hid hb
  obtain ⟨m, hm⟩ : ∃ m, m = b0.length := ⟨_, rfl⟩
  have HM := Lib.hid hm
  obtain ⟨va, vk, hve, _⟩ := hv
  rw [← hm] at hve hl
  subst hve
  have mI : (m : Int) ≤ 1048576 := by omega
  obtain ⟨i0, hi0, hz0, hz1, hz2⟩ := info_parts infoB
  obtain ⟨i1, hi1, hy0, hy1, hy2⟩ := info_parts infoRR
  have HI0 := Lib.hid hi0
  have HI1 := Lib.hid hi1
  obtain ⟨RS, hRS⟩ : ∃ RS, RS = recs firstC b0 := ⟨_, rfl⟩
  have HRS := Lib.hid hRS
  rw [← hRS]
  clear hC hb hm hi0 hi1 hRS
  go_enter Tryz.func45, Tryz.ntmps45
  go_wp2_with fail
  go_loopw [0, 5, 6, 7] (fun bv out ck en wr => ∃ (pre : List (List Nat × Nat)) (xs : List Value) (cc e : Nat) (a : Option Addr) (k : Nat), e ≤ m ∧ bv = .slice a (m - e) k ∧ ck = .int .u32 cc ∧ en = .int .i64 e ∧ cc < 4294967296 ∧ Hid (RS = pre ++ recs cc (b0.drop e)) ∧ Hid (KAt .u8 w (.slice a (m - e) k) (b0.drop e)) ∧ Hid (RecI wr C out pre xs) ∧ Hid (longS pre = e ∧ lastS firstC pre = cc) ∧ pre.length ≤ e ∧ Hid (Below C w wr)) (fun _ _ _ en _ => m - (intOf en).toNat)
  case atStart => exact ⟨[], [], firstC, 0, va, vk, Nat.zero_le _, rfl, rfl, rfl, by decide, Lib.hid HRS.out, HK0, Lib.hid ⟨⟨rfl, .inl ⟨rfl, rfl⟩⟩, fun i x hx => by simp at hx⟩, Lib.hid ⟨rfl, rfl⟩, Nat.zero_le _, Lib.hid (Below.refl _ _)⟩
  case round =>
    obtain ⟨pre, xs, cc, e, a, k, he, rfl, rfl, rfl, hcc, HR, HKW, HX, HE, hpe, HB⟩ := hrel
    have HK := Lib.hid (HKW.out.later (show Below w.heap.size w wr by rw [← HC.out]; exact HB.out))
    obtain ⟨oa, oc, hout⟩ := HX.out.1.sl
    subst hout
    obtain ⟨b, hbq⟩ : ∃ b, b = b0.drop e := ⟨_, rfl⟩
    have HBB := Lib.hid (show Bytes b by rw [hbq]; exact fun x hx => HBY.out x (List.drop_subset _ _ hx))
    obtain ⟨z, hz⟩ : ∃ z, z = m - e := ⟨_, rfl⟩
    have HZ := Lib.hid (show b.length = z by rw [hbq, List.length_drop, ← HM.out, hz])
    have zI : (z : Int) ≤ 1048576 := by omega
    have HZM := Lib.hid hz
    rw [← hbq] at HR HK HKW
    rw [← hz] at HK HKW ⊢
    have HBQ := Lib.hid hbq
    clear hbq hz
    by_cases h8 : z < 8
    · have z8 : ¬ (8 : Int) ≤ (z : Int) := by omega
      have HF := Lib.hid (show RS = pre by rw [HR.out, recs_end (.inl (by rw [HZ.out]; exact h8)), List.append_nil])
      clear h8
      go_wp2_with fail
      go_ret3
      refine ⟨.slice oa pre.length oc, ?_, ?_, HB.out⟩
      · rw [HF.out, HE.out.1, HE.out.2]; rfl
      · rw [HF.out]; exact HX.out.parts
    · have z8 : (8 : Int) ≤ (z : Int) := by omega
      obtain ⟨x0, x1, x2, x3, g0, g1, g2, g3, gv, _⟩ := four_get (b := b) (by rw [HZ.out]; omega)
      have l0 := HBB.out x0 (List.mem_of_getElem? g0)
      have l1 := HBB.out x1 (List.mem_of_getElem? g1)
      have l2 := HBB.out x2 (List.mem_of_getElem? g2)
      have l3 := HBB.out x3 (List.mem_of_getElem? g3)
      obtain ⟨ao9, cap9, hsl, k1, k2, k3, k4⟩ := HK.out
      obtain ⟨g, o, hao, hcell⟩ := k4 (by rw [HZ.out]; omega)
      injection hsl with q1 q2 q3
      subst q1 q3 hao
      clear q2
      have c0 := hcell 0 x0 g0
      have c1 := hcell 1 x1 g1
      have c2 := hcell 2 x2 g2
      have c3 := hcell 3 x3 g3
      rw [Nat.add_zero] at c0
      obtain ⟨n, hn⟩ : ∃ n, n = val4 b := ⟨_, rfl⟩
      have en : 16777216 * (x0 : Int) + 65536 * (x1 : Int) + 256 * (x2 : Int) + (x3 : Int) = (n : Int) := by rw [hn, gv]; omega
      have HN := Lib.hid hn
      have j0 : (x0 : Int) < 256 := by omega
      have j1 : (x1 : Int) < 256 := by omega
      have j2 : (x2 : Int) < 256 := by omega
      have j3 : (x3 : Int) < 256 := by omega
      clear g0 g1 g2 g3 gv l0 l1 l2 l3 hcell k1 k2 k3 k4 hn h8
      go_wp2_with fail
      go_quiet (fail)
      generalize hW : World.drewN wr _ = wq
      have XQ := Lib.hid (show Below wr.heap.size wr wq by rw [← hW]; exact below_drewN9 _ _)
      have hCr : C ≤ wr.heap.size := by have := HB.out.size; have := HC.out; omega
      have BQ := Lib.hid (HB.out.trans (XQ.out.mono hCr))
      clear hW c0 c1 c2 c3
      by_cases hbig : 65536 < n
      · have bI : (65536 : Int) < (n : Int) := by omega
        have HF := Lib.hid (show RS = pre by rw [HR.out, recs_end (.inr (.inl (by rw [← HN.out]; exact hbig))), List.append_nil])
        clear hbig
        go_wp2_with fail
        go_ret3
        refine ⟨.slice oa pre.length oc, ?_, ?_, BQ.out⟩
        · rw [HF.out, HE.out.1, HE.out.2]; rfl
        · rw [HF.out]; exact (HX.out.later XQ.out).parts
      · have bI : ¬ (65536 : Int) < (n : Int) := by omega
        have dI : decide ((65536 : Int) < (n : Int)) = false := decide_eq_false bI
        by_cases hlong : z - 8 < n
        · have lI : (z : Int) - 8 < (n : Int) := by omega
          have HF := Lib.hid (show RS = pre by rw [HR.out, recs_end (.inr (.inr (by rw [← HN.out, HZ.out]; exact hlong))), List.append_nil])
          clear hlong hbig
          go_wp2_with fail
          go_ret3
          refine ⟨.slice oa pre.length oc, ?_, ?_, BQ.out⟩
          · rw [HF.out, HE.out.1, HE.out.2]; rfl
          · rw [HF.out]; exact (HX.out.later XQ.out).parts
        · have lI : ¬ ((z : Int) - 8 < (n : Int)) := by omega
          have HNX := Lib.hid (recs_next (c := cc) HBB.out (by rw [HZ.out]; omega) (by rw [← HN.out]; omega) (by rw [← HN.out, HZ.out]; omega))
          rw [← HN.out] at HNX
          have nz : n + 8 ≤ z := by omega
          have nI : (n : Int) ≤ 65536 := by omega
          have nzI : (n : Int) + 8 ≤ (z : Int) := by omega
          clear hbig hlong
          have HKQ := Lib.hid (HK.out.later XQ.out)
          obtain ⟨ma, mc, r1, m1⟩ := slice_mid8 HKQ.out 4 (4 + n) (by omega) (by rw [HZ.out]; omega)
          rw [Nat.add_sub_cancel_left] at m1
          have r1 : ∀ W, (Instr.sliceAt 58 (.slice (some ⟨g, o, none⟩) z k) (some (.int .i64 4)) (some (.int .i64 (4 + (n : Int)))) none).run Tryz.prog W = .ok (.slice ma n mc) W := fun W => by
            have h9 := r1 W
            rw [Nat.add_sub_cancel_left] at h9
            exact h9
          have HM1 := Lib.hid m1
          have hrl : ((b.take (4 + n)).drop 4).length = n := by rw [List.length_drop, List.length_take, HZ.out]; omega
          obtain ⟨rr, hrr⟩ : ∃ rr, rr = (b.drop 4).take n := ⟨_, rfl⟩
          have hre : (b.take (4 + n)).drop 4 = rr := by rw [hrr, List.drop_take, Nat.add_sub_cancel_left]
          rw [hre] at HM1 hrl
          rw [← hrr] at HNX
          have HRB := Lib.hid (show Bytes rr by rw [hrr]; exact fun x hx => HBB.out x (List.drop_subset _ _ (List.take_subset _ _ hx)))
          have HRL := Lib.hid hrl
          have HSR := Lib.hid (show SrcV wq 1 (.slice ma n mc) n (cellsK .u8 rr) by have h9 := HM1.out.src; rw [hrl] at h9; exact h9)
          have hCq : wr.heap.size ≤ wq.heap.size := XQ.out.size
          clear m1 hre hrr hrl
          go_upto_region 9 with (
            at_builtin
            refine wpList_append_W rfl _ _ 58 rfl wr.heap.size 5 i0 (.int .u8 0) 1 1 Tryz.underlying58 HI0.out hz0 hz1 hz2 rfl (.slice none 0 0) 0 [] rfl ⟨rfl, .inl ⟨rfl, rfl⟩⟩ (.slice ma n mc) n (cellsK .u8 rr) rfl HSR.out (by unfold maxLen; omega) (by omega) hCq ?_
            intro v2 w2 ho2 hg2 hl2
            obtain ⟨ra, rc, rfl⟩ := ho2.sl
            have HO2 := Lib.hid (show Own w2 wr.heap.size (.slice ra n rc) rr by unfold Own; rw [HRL.out]; rw [Nat.zero_add, List.nil_append] at ho2; exact ho2)
            have HB2 := Lib.hid (show Below wq.heap.size wq w2 from (Below.refl _ _).grown hg2 (Nat.le_refl _) (fun g hg => by cases hg))
            clear ho2 hg2 hl2)
          obtain ⟨nx, hnx⟩ : ∃ nx, nx = nextC cc rr := ⟨_, rfl⟩
          have hnl : nx < 4294967296 := by rw [hnx]; exact nextC_lt hcc HRB.out
          have HLC := Lib.hid (show Calls Tryz.prog 48 #[.int .u32 cc, .slice ra n rc] w2 fun e w' => ∃ u, e = .returned (.tuple #[u, .int .u32 nx]) ∧ Own w' w2.heap.size u (laidR cc rr) ∧ Below w2.heap.size w2 w' by rw [hnx]; exact RLaid_any w2 hcc HO2.out.at_ HRB.out (by rw [HRL.out]; omega))
          rw [← hnx] at HNX
          clear hnx
          go_wp2_with fail
          refine HLC.out.mono ?_
          rintro _ w3 ⟨u3, rfl, hw, hb3⟩
          have HW := Lib.hid hw
          have HB3 := Lib.hid hb3
          have hq2 : wq.heap.size ≤ w2.heap.size := HB2.out.size
          have HKB := Lib.hid ((HKQ.out.later HB2.out).later hb3)
          obtain ⟨ta, tc, t1, tk⟩ := slice_to HKB.out (n + 8) (by rw [HZ.out]; exact nz)
          have t1 : ∀ W, (Instr.sliceAt 58 (.slice (some ⟨g, o, none⟩) z k) none (some (.int .i64 ((n : Int) + 8))) none).run Tryz.prog W = .ok (.slice ta (n + 8) tc) W := fun W => by
            have h9 := t1 W
            rw [show ((n + 8 : Nat) : Int) = (n : Int) + 8 by omega] at h9
            exact h9
          have HC1 := Lib.hid (conv_any (HW.out.at_.later (Below.refl _ w3).drew))
          have HC2 := Lib.hid (conv_any (tk.later (Below.refl _ w3).drew))
          have HBW : Bytes (laidR cc rr) := laidR_bytes HRB.out
          have HBT : Bytes (b.take (n + 8)) := fun x hx => HBB.out x (List.take_subset _ _ hx)
          obtain ⟨p1, hp1⟩ : ∃ p1, p1 = bstr (laidR cc rr) := ⟨_, rfl⟩
          obtain ⟨p2, hp2⟩ : ∃ p2, p2 = bstr (b.take (n + 8)) := ⟨_, rfl⟩
          rw [← hp1] at HC1
          rw [← hp2] at HC2
          have HEQ := Lib.hid (show p1 = p2 ↔ laidR cc rr = b.take (n + 8) from ⟨fun h => bstr_inj HBW HBT (by rw [← hp1, ← hp2, h]), fun h => by rw [hp1, hp2, h]⟩)
          clear hw hb3 tk hp1 hp2 HBW HBT
          go_wp2_with fail
          refine wp_region_still_lit (by kernel_rfl) (by kernel_rfl) ?_
          repeat still_step
          refine wpStill_step (fun K hK => ?_)
          go_simp
          rw [HC1.out]
          refine ⟨rfl, ?_⟩
          refine hK _ ?_
          clear hK K
          still_step
          still_step
          refine wpStill_step (fun K hK => ?_)
          go_simp
          rw [i64_n8 nI]
          refine hK _ ?_
          clear hK K
          still_step
          refine wpStill_step (fun K hK => ?_)
          go_simp
          rw [HC2.out]
          refine ⟨rfl, ?_⟩
          refine hK _ ?_
          clear hK K
          repeat still_step
          refine wpStill_nil ?_
          change Exit.then _ _ Exit.normal _ w3.drew
          have HX9 := Lib.hid (((HX.out.later XQ.out).later HB2.out).later HB3.out)
          have hC3 : C ≤ w2.heap.size := by omega
          have hC4 : C ≤ wq.heap.size := by omega
          have B9 := Lib.hid ((BQ.out.trans (HB2.out.mono hC4)).trans (HB3.out.mono hC3))
          have hs3 : w2.heap.size ≤ w3.heap.size := HB3.out.size
          by_cases hpp : p1 = p2
          · have HNX := Lib.hid (HNX.out.trans (if_pos (HEQ.out.1 hpp)))
            have hq : (p1.toList == p2.toList) = true := by rw [list_eq_str]; exact decide_eq_true hpp
            have HO3 := Lib.hid (HO2.out.later HB3.out)
            clear hpp HC1 HC2
            obtain ⟨fa, fc, f1, fk⟩ := slice_from HKW.out (n + 8) (by rw [HZ.out]; exact nz)
            have hfz : b.length - (n + 8) = z - (n + 8) := by rw [HZ.out]
            rw [hfz] at f1 fk
            have f1 : ∀ W, (Instr.sliceAt 58 (.slice (some ⟨g, o, none⟩) z k) (some (.int .i64 ((n : Int) + 8))) none none).run Tryz.prog W = .ok (.slice fa (z - (n + 8)) fc) W := fun W => by
              have h9 := f1 W
              rw [show ((n + 8 : Nat) : Int) = (n : Int) + 8 by omega] at h9
              exact h9
            have HFK := Lib.hid fk
            clear hfz fk
            rw [show (!p1.toList == p2.toList) = false by rw [hq]; rfl]
            go_wp2_with (
              at_builtin
              refine wpList_append_W rfl _ _ 33 rfl C 58 i1 (.slice none 0 0) 1 24 Tryz.underlying33 HI1.out hy0 hy1 hy2 rfl (.slice oa pre.length oc) pre.length xs rfl (HX9.out.later (((Below.refl _ w3).drew.alloc (Nat.le_refl _) _))).1 (.slice (some ⟨w3.heap.size, 0, none⟩) 1 1) 1 [.slice ra n rc] rfl (src_rec w3.drew ra n rc _) (by unfold maxLen; omega) (by omega) (by simp; omega) ?_
              intro v5 w5 ho5 hg5 hl5
              obtain ⟨a5, c5, rfl⟩ := ho5.sl
              have HO5 := Lib.hid ho5
              have HG5 := Lib.hid hg5
              have HL5 := Lib.hid hl5
              clear ho5 hg5 hl5)
            have hs5 : wr.heap.size ≤ w3.heap.size := by omega
            have HO4 := Lib.hid ((HO3.out.later (Below.refl _ w3).drew).later ((Below.refl _ w3.drew).alloc (Nat.le_refl _) (.cells #[.slice ra n rc] 58)))
            have HR5 := Lib.hid (RecI.next (k := nx) HX.out hCr ((((XQ.out.trans (HB2.out.mono hCq)).trans (HB3.out.mono (by omega : wr.heap.size ≤ w2.heap.size))).drew).alloc hs5 (.cells #[.slice ra n rc] 58)) HO4.out HO5.out HG5.out HL5.out)
            have B5 := Lib.hid ((((B9.out.drew).alloc (by omega : C ≤ w3.heap.size) (.cells #[.slice ra n rc] 58))).grown HG5.out (by simp; omega) (fun g hg => (OwnV.lt HX.out.1 g hg).1))
            have hd : b.drop (n + 8) = b0.drop (e + (n + 8)) := by rw [HBQ.out, List.drop_drop]
            have hez : z - (n + 8) = m - (e + (n + 8)) := by rw [HZM.out]; omega
            have HK5 := Lib.hid (show KAt .u8 w (.slice fa (m - (e + (n + 8))) fc) (b0.drop (e + (n + 8))) by rw [← hez, ← hd]; exact HFK.out)
            have hle : e + (n + 8) ≤ m := by have := HZM.out; omega
            go_roundw
            case rel => exact ⟨pre ++ [(rr, nx)], xs ++ [.slice ra n rc], nx, e + (n + 8), fa, fc, hle, by rw [hez], rfl, by go_num, hnl, Lib.hid (by rw [HR.out, HNX.out, ← hd, List.append_assoc]; rfl), HK5, HR5, Lib.hid ⟨by rw [longS_snoc, HE.out.1, HRL.out], lastS_snoc _ _ _⟩, by rw [List.length_append, List.length_singleton]; omega, B5⟩
            case measure => simp [intOf]; omega
          · have HF := Lib.hid (show RS = pre by rw [HR.out, HNX.out, if_neg (fun e => hpp (HEQ.out.2 e)), List.append_nil])
            have hq : (p1.toList == p2.toList) = false := by rw [list_eq_str]; exact decide_eq_false hpp
            clear HNX hpp HC1 HC2
            rw [show (!p1.toList == p2.toList) = true by rw [hq]; rfl]
            go_wp2_with fail
            go_ret3
            refine ⟨.slice oa pre.length oc, ?_, ?_, B9.out.drew⟩
            · rw [HF.out, HE.out.1, HE.out.2]; rfl
            · rw [HF.out]; exact (HX9.out.later (Below.refl _ _).drew).parts
end Go.Proofs.YtidhlbhfhfonoaaGreatDoor
