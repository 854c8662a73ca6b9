/- Layer 18 (journals): the records of a file's bytes, one by one (a function that is ranged over); Layer 18 (journals): a loop over the records, by the iterator's own contract -/
import Derived.Test.YtidhlbhfhfonoaaGreatDoorJZXG25
import Derived.Test.YtidhlbhfhfonoaaGreatDoorJZXG12
import Derived.RangeFuncNested
import Derived.RangeFuncBound
import Derived.RangeFuncCalls
import Derived.RangeFuncLeaves
import Derived.OwnWalkIn
import Derived.TacticsInMore
import Derived.LoopNIn
import Derived.LoopIn
import Derived.RegionIn
import Derived.Sort.QuietIn
import Derived.Sort.LoopGhostIn
import Derived.Sort.CutIn
import Derived.Stop.RegionWithIn
namespace Go.Proofs.YtidhlbhfhfonoaaGreatDoor
open Go.ChangeShapes Go.WideShapes Go.ChangeAt Go.RowKit

/-- A record as it is handed over: its slice, its bytes, its check. -/
structure Rec where
  v : Value
  r : List Nat
  c : Nat
def Rec.rc (x : Rec) : List Nat × Nat := (x.r, x.c)
/-- What is new of a record when it is handed over. -/
structure RecNew (W0 W1 : World) (x : Rec) : Prop where
  own : Own W1 W0.heap.size x.v x.r
  sh : ∃ a c, x.v = .slice a x.r.length c
  lt : x.c < 4294967296
  le : x.r.length ≤ 65536
  by_ : Bytes x.r
theorem chg_drew {w w' : World} {S : Nat → Prop} (h : Chg w w' S) (n : Nat) : Chg w (w'.drewN n) S := ⟨h.os, h.tape, h.output, h.size, h.block⟩
theorem chg_on {W w w' : World} {S : Nat → Prop} (h : Chg W w S) (hb : Below w.heap.size w w') : Chg W w' S :=
  ⟨hb.os.trans h.os, hb.tape.trans h.tape, hb.output.trans h.output, Nat.le_trans h.size hb.size, fun g hg hn => (hb.block g (Nat.lt_of_lt_of_le hg h.size)).trans (h.block g hg hn)⟩
theorem parts1 {w : World} {u1 : Value} {l1 : List Nat} (t : TypeId) (h1 : KAt .u8 w u1 l1) : PartsAt (w.alloc (.cells #[u1] t)) (.slice (some ⟨w.heap.size, 0, none⟩) 1 1) [l1] := by
  have hb : Below w.heap.size w (w.alloc (.cells #[u1] t)) := (Below.refl _ w).alloc (Nat.le_refl _) _
  have hh := heap_alloc_new w (.cells #[u1] t)
  refine ⟨_, 1, rfl, Nat.le_refl _, by unfold maxLen; omega, (fun h => by cases h), fun _ => ⟨w.heap.size, 0, rfl, fun i l hl => ?_⟩⟩
  match i, hl with
  | 0, hl => cases hl; exact ⟨u1, cell_of_row _ _ 0 _ _ (0, 0) hh, h1.later hb⟩
  | i + 1, hl => simp at hl
/-- All have been handed over. -/
def IterEnd (b : List Nat) (J : List Rec → World → Prop) (Bn : Nat) (W' : World) : Prop := ∃ xs W0, xs.map Rec.rc = recs firstC b ∧ J xs W0 ∧ Chg W0 W' (fun g => g = Bn)
theorem recs_step {cc N e f cn : Nat} {bb r : List Nat} (h8 : 8 ≤ bb.length) (hv : val4 bb = N) (h1 : ¬ (N > 65536)) (h2 : ¬ (N > bb.length - 8)) (he : e = 4 + N) (hf : f = e + 4) (hcn : cn = crc cc (bb.take e)) (hr : r = (bb.drop 4).take N) :
    recs cc bb = if num4 cn = (bb.drop e).take 4 then (r, cn) :: recs cn (bb.drop f) else [] := by
  rw [recs_eq, if_neg (by omega), if_neg (by rw [hv]; omega), hv, ← he, ← hcn, ← hr, ← hf]
theorem slice_tail {w : World} {v : Value} {l : List Nat} (hk : KAt .u8 w v l) (n : Nat) (hn : n ≤ l.length) :
    ∃ a c, (∀ W, (Instr.sliceAt 58 v (some (.int .i64 n)) none none).run Tryz.prog W = .ok (.slice a (l.length - n) c) W) ∧ KAt .u8 w (.slice a (l.length - n) c) (l.drop n) ∧ ∀ g, (Value.slice a (l.length - n) c).ownBlock = some g → v.ownBlock = some g := by
  obtain ⟨ao, cap, rfl, h1, h2, h3, h4⟩ := hk
  have hrun : ∀ W, (Instr.sliceAt 58 (.slice ao l.length cap) (some (.int .i64 n)) none none).run Tryz.prog W = .ok (sliced ao n l.length cap 1) W := fun W => by
    rw [run_sliceAt_slice _ _ _ _ _ _ elemB, run_slice_l _ _ _ _ _ elemB .i64 n (by omega) (by omega), sizeB]
    simp
  unfold sliced at hrun
  refine ⟨_, _, hrun, ?_, ?_⟩
  · have hl : (l.drop n).length = l.length - n := by simp
    refine ⟨_, _, by rw [hl], by rw [hl]; omega, by omega, fun hno => ?_, fun h0 => ?_⟩
    · split at hno
      · omega
      · have : ao = none := by cases ao with | none => rfl | some _ => cases hno
        have := h3 this
        omega
    · rw [hl] at h0
      obtain ⟨b, o, rfl, hc⟩ := h4 (by omega)
      rw [if_neg (by omega)]
      refine ⟨b, o + n, by simp [Addr.add_lit], fun i x hx => ?_⟩
      rw [List.getElem?_drop] at hx
      rw [Nat.add_assoc]
      exact hc _ _ hx
  · intro g hg
    cases ao with
    | none => split at hg <;> simp [Value.ownBlock] at hg
    | some ad =>
      split at hg
      · exact hg
      · simp only [Option.map_some, Value.ownBlock, Option.some.injEq] at hg ⊢
        rw [← hg]
        unfold Addr.add
        split <;> rfl
theorem slice_mid {w : World} {v : Value} {l : List Nat} (hk : KAt .u8 w v l) (lo hi : Nat) (hlo : lo ≤ hi) (hhi : hi ≤ l.length) :
    ∃ a c, (∀ W, (Instr.sliceAt 58 v (some (.int .i64 lo)) (some (.int .i64 hi)) none).run Tryz.prog W = .ok (.slice a (hi - lo) c) W) ∧ KAt .u8 w (.slice a (hi - lo) c) ((l.drop lo).take (hi - lo)) := by
  obtain ⟨ao, cap, rfl, h1, h2, h3, h4⟩ := hk
  have hrun : ∀ W, (Instr.sliceAt 58 (.slice ao l.length cap) (some (.int .i64 lo)) (some (.int .i64 hi)) none).run Tryz.prog W = .ok (sliced ao lo hi cap 1) W := fun W => by
    rw [run_sliceAt_slice _ _ _ _ _ _ elemB, run_slice_lh _ _ _ _ _ elemB .i64 .i64 lo hi (by omega) (by omega) (by omega), sizeB]
    simp
  unfold sliced at hrun
  refine ⟨_, _, hrun, ?_⟩
  have hl : ((l.drop lo).take (hi - lo)).length = hi - lo := by simp; omega
  refine ⟨_, _, by rw [hl], by rw [hl]; omega, by omega, fun hno => ?_, fun h0 => ?_⟩
  · split at hno
    · omega
    · have : ao = none := by cases ao with | none => rfl | some _ => cases hno
      have := h3 this
      omega
  · rw [hl] at h0
    obtain ⟨b, o, rfl, hc⟩ := h4 (by omega)
    rw [if_neg (by omega)]
    refine ⟨b, o + lo, by simp [Addr.add_lit], fun i x hx => ?_⟩
    rw [List.getElem?_take] at hx
    split at hx
    · rw [List.getElem?_drop] at hx
      rw [Nat.add_assoc]
      exact hc _ _ hx
    · cases hx
set_option maxRecDepth 100000 in
set_option maxHeartbeats 4000000 in
theorem records_in (n : Nat) (hn : 3 ≤ n) (l Bn : Nat) (K : Nat → Prop) (hKB : K Bn) (b : List Nat) (hb8 : Bytes b) (v : Value) (J : List Rec → World → Prop)
    (hY : ∀ pre x W0 W1, J pre W0 → Chg W0 W1 (fun g => g = Bn) → RecNew W0 W1 x → (∃ rest, recs firstC b = (pre ++ [x]).map Rec.rc ++ rest) → YieldAt Fence.wide (n - 1) Tryz.prog l #[x.v, .int .u32 x.c] W1 fun e W' =>
      e = .returned (.bool true) ∧ J (pre ++ [x]) W' ∧ Stay K W1 W')
    (W : World) (hBn : W.heap[Bn]? = some (.cells #[v] 58 (0, 0))) (hv : KAt .u8 W v b) (hvK : ∀ g, v.ownBlock = some g → K g ∧ g ≠ Bn) (h0 : J [] W) :
    CallsIn Fence.wide n Tryz.prog 114 #[.func (.yield l) #[] #[], .pointer (some ⟨Bn, 0, none⟩)] W fun e W' => (∃ v, e = .returned v) ∧ IterEnd b J Bn W' := by
  refine callsIn_of_wp Tryz.func114 rfl trivial ?_ rfl
  simp only [Tryz.ntmps114, List.size_toArray, List.length_cons, List.length_nil, Nat.reduceAdd, Nat.reduceSub, Array.replicate_succ, Array.replicate_zero, List.push_toArray, List.append_toArray, List.nil_append, List.cons_append]
  have HY := Lib.hid hY
  have hn1 : 1 ≤ n := by omega
  gi_wp2_with fail
  gi_loopg [3] b.length (fun g c wr => ∃ (pre : List Rec) (W0 : World) (bb : List Nat) (vv : Value) (cc : Nat), g = bb.length ∧ c = .int .u32 cc ∧ cc < 4294967296 ∧ Hid (recs firstC b = pre.map Rec.rc ++ recs cc bb) ∧ Hid (J pre W0) ∧ Hid (Chg W0 wr (fun g => g = Bn)) ∧ Hid (wr.heap[Bn]? = some (.cells #[vv] 58 (0, 0))) ∧ Hid (KAt .u8 wr vv bb) ∧ Hid (∀ g, vv.ownBlock = some g → K g ∧ g ≠ Bn) ∧ Hid (Bytes bb))
  case atStart => exact ⟨[], W, b, v, firstC, rfl, rfl, by decide, Lib.hid rfl, Lib.hid h0, Lib.hid (Chg.refl W _), Lib.hid hBn, Lib.hid hv, Lib.hid hvK, Lib.hid hb8⟩
  case round =>
    obtain ⟨pre, W0, bb, vv, cc, hg9, rfl, hcc, HRC, HJ, HC, HBn, HV, HVK, HBB⟩ := hrel
    have hv9 := HV.out
    obtain ⟨ao, cap, hvv, h1, h2, h3, h4⟩ := hv9
    obtain ⟨m, hm⟩ : ∃ m, m = bb.length := ⟨_, rfl⟩
    rw [← hm] at hvv h1 h4 hg9
    subst hvv
    have HM := Lib.hid hm
    have H4 := Lib.hid h4
    unfold maxLen at h2
    have c0 := cell_of_row wr Bn 0 _ _ (0, 0) HBn.out
    have hmI : (m : Int) ≤ 9223372036854775807 := by omega
    clear h3 h4 hm hY h0 hv hvK hBn hb8
    by_cases h8 : 8 ≤ m
    · have h8I : (8 : Int) ≤ (m : Int) := by omega
      obtain ⟨g, o, rfl, hcell⟩ := H4.out (by omega)
      obtain ⟨x0, x1, x2, x3, t, hbb⟩ : ∃ x0 x1 x2 x3 t, bb = x0 :: x1 :: x2 :: x3 :: t := by
        match bb, HM.out with
        | x0 :: x1 :: x2 :: x3 :: t, _ => exact ⟨x0, x1, x2, x3, t, rfl⟩
        | [], h => simp at h; omega
        | [_], h => simp at h; omega
        | [_, _], h => simp at h; omega
        | [_, _, _], h => simp at h; omega
      have k0 : wr.cell? ⟨g, o, none⟩ = some (.int .u8 x0) := hcell 0 x0 (by rw [hbb]; rfl)
      have k1 : wr.cell? ⟨g, o + 1, none⟩ = some (.int .u8 x1) := hcell 1 x1 (by rw [hbb]; rfl)
      have k2 : wr.cell? ⟨g, o + 2, none⟩ = some (.int .u8 x2) := hcell 2 x2 (by rw [hbb]; rfl)
      have k3 : wr.cell? ⟨g, o + 3, none⟩ = some (.int .u8 x3) := hcell 3 x3 (by rw [hbb]; rfl)
      have b0 : x0 < 256 := HBB.out _ (by rw [hbb]; simp)
      have b1 : x1 < 256 := HBB.out _ (by rw [hbb]; simp)
      have b2 : x2 < 256 := HBB.out _ (by rw [hbb]; simp)
      have b3 : x3 < 256 := HBB.out _ (by rw [hbb]; simp)
      obtain ⟨t1, ht1⟩ : ∃ t1, t1 = x0 * 16777216 + x1 * 65536 := ⟨_, rfl⟩
      obtain ⟨t2, ht2⟩ : ∃ t2, t2 = t1 + x2 * 256 := ⟨_, rfl⟩
      obtain ⟨N, hN⟩ : ∃ N, N = t2 + x3 := ⟨_, rfl⟩
      have hval : val4 bb = N := by rw [hbb, hN, ht2, ht1]; rfl
      have e1 : bits .or .u64 ((x0 : Int) * 16777216) ((x1 : Int) * 65536) = (t1 : Int) := by
        rw [show (x0 : Int) * 16777216 = ((x0 * 16777216 : Nat) : Int) by omega, show (x1 : Int) * 65536 = ((x1 * 65536 : Nat) : Int) by omega, u64_or_nat _ _ (by omega) (by omega), nat_join 24 _ _ (by omega) (by omega), ht1]
      have e2 : bits .or .u64 (t1 : Int) ((x2 : Int) * 256) = (t2 : Int) := by
        rw [show (x2 : Int) * 256 = ((x2 * 256 : Nat) : Int) by omega, u64_or_nat _ _ (by omega) (by omega), nat_join 16 _ _ (by omega) (by omega), ht2]
      have e3 : bits .or .u64 (t2 : Int) (x3 : Int) = (N : Int) := by
        rw [u64_or_nat _ _ (by omega) (by omega), nat_join 8 _ _ (by omega) (by omega), hN]
      have HVAL := Lib.hid hval
      have hN9 : (N : Int) < 4294967296 := by omega
      clear hcell hbb ht1 ht2 hN hval
      obtain ⟨q, hq⟩ : ∃ q, q = m - 8 := ⟨_, rfl⟩
      have eq : (m : Int) - 8 = (q : Int) := by omega
      have hqI : (q : Int) ≤ 9223372036854775807 := by omega
      have HQ := Lib.hid hq
      have stop : ∀ (h : N > 65536 ∨ N > m - 8), recs cc bb = [] := fun h => by
        rw [recs_eq, if_neg (by rw [← HM.out]; omega), if_pos (by rw [HVAL.out, ← HM.out]; exact h)]
      have HSTOP := Lib.hid stop
      clear hq stop
      by_cases hbig : 65536 < N
      · have hbI : (65536 : Int) < (N : Int) := by omega
        gi_wp2_with fail
        gi_quiet (fail)
        gi_wp2_with fail
        refine bodyPost_ret (results_none rfl _ _ _) rfl ?_
        exact ⟨⟨_, rfl⟩, pre, W0, by rw [HRC.out, HSTOP.out (.inl hbig), List.append_nil], HJ.out, chg_drew HC.out _⟩
      · have hbI : ¬ ((65536 : Int) < (N : Int)) := by omega
        have hbD : decide ((65536 : Int) < (N : Int)) = false := decide_eq_false hbI
        by_cases hlong : q < N
        · have hlI : (q : Int) < (N : Int) := by omega
          gi_wp2_with fail
          gi_quiet (fail)
          gi_wp2_with fail
          refine bodyPost_ret (results_none rfl _ _ _) rfl ?_
          exact ⟨⟨_, rfl⟩, pre, W0, by rw [HRC.out, HSTOP.out (.inr (by have := HQ.out; omega)), List.append_nil], HJ.out, chg_drew HC.out _⟩
        · have hlI : ¬ ((q : Int) < (N : Int)) := by omega
          have hlD : decide ((q : Int) < (N : Int)) = false := decide_eq_false hlI
          obtain ⟨e, he⟩ : ∃ e, e = 4 + N := ⟨_, rfl⟩
          have eE : (4 : Int) + (N : Int) = (e : Int) := by omega
          obtain ⟨f, hf⟩ : ∃ f, f = e + 4 := ⟨_, rfl⟩
          have eF : (e : Int) + 4 = (f : Int) := by omega
          have hfm : f ≤ m := by have := HQ.out; omega
          have heI : (e : Int) ≤ 1000000 := by omega
          have hfI : (f : Int) ≤ 1000010 := by omega
          have hfw : IntKind.i64.wrap (f : Int) = (f : Int) := by rw [IntKind.wrap_i64]; omega
          obtain ⟨a1, c1, ks1, hk1⟩ := slice_mid HV.out 4 e (by omega) (by rw [← HM.out]; omega)
          obtain ⟨a2, c2, ks2, hk2⟩ := slice_to HV.out e (by rw [← HM.out]; omega)
          obtain ⟨a3, c3, ks3, hk3⟩ := slice_mid HV.out e f (by omega) (by rw [← HM.out]; omega)
          obtain ⟨a4, c4, ks4, hk4, ho4⟩ := slice_tail HV.out f (by rw [← HM.out]; omega)
          rw [show e - 4 = N by omega] at ks1 hk1
          rw [show f - e = 4 by omega] at ks3 hk3
          rw [← HM.out] at ks4 hk4 ho4
          obtain ⟨r4, hr4⟩ : ∃ r4, r4 = m - f := ⟨_, rfl⟩
          rw [← hr4] at ks4 hk4 ho4
          have HK1 := Lib.hid hk1
          have HK2 := Lib.hid hk2
          have HK3 := Lib.hid hk3
          have HK4 := Lib.hid (And.intro hk4 ho4)
          have HE := Lib.hid (And.intro he (And.intro hf hr4))
          clear hk1 hk2 hk3 hk4 ho4 he hf hr4
          have ks1 : ∀ W, (Instr.sliceAt 58 (.slice (some ⟨g, o, none⟩) m cap) (some (.int .i64 4)) (some (.int .i64 e)) none).run Tryz.prog W = .ok (.slice a1 N c1) W := fun W => ks1 W
          gi_wp2_with fail
          gi_quiet (fail)
          clear k0 k1 k2 k3 e1 e2 e3
          gi_wp2_with fail
          obtain ⟨w1, e1⟩ : ∃ w1 : World, w1 = wr.drewN nq := ⟨_, rfl⟩
          have hb1 : Below wr.heap.size wr w1 := by rw [e1]; exact below_drewN9 _ _
          rw [← e1]
          have HC := Lib.hid (chg_on HC.out hb1)
          have HBn := Lib.hid (heap_on hb1 HBn.out)
          have HK1 := Lib.hid (HK1.out.later hb1)
          have HK2 := Lib.hid (HK2.out.later hb1)
          have HK3 := Lib.hid (HK3.out.later hb1)
          have HK4 := Lib.hid (And.intro (HK4.out.1.later hb1) HK4.out.2)
          clear e1 hb1 c0
          obtain ⟨r, hr⟩ : ∃ r, r = (bb.drop 4).take N := ⟨_, rfl⟩
          have hrl : r.length = N := by rw [hr]; simp; have := HM.out; have := HQ.out; omega
          rw [← hr] at HK1
          refine ⟨trivial, (callsIn_wide.2 (BClone_any HK1.out (by omega))).mono ?_⟩
          rintro _ w2 ⟨v6, rfl, ho, hb⟩
          obtain ⟨a6, c6, rfl⟩ := ho.sl
          rw [hrl] at ho ⊢
          have HO := Lib.hid (ho.base (HC.out.size))
          have HR := Lib.hid hr
          have HRL := Lib.hid hrl
          have HC := Lib.hid (chg_on HC.out hb)
          have HBn := Lib.hid (heap_on hb HBn.out)
          have HK2 := Lib.hid (HK2.out.later hb)
          have HK3 := Lib.hid (HK3.out.later hb)
          have HK4 := Lib.hid (And.intro (HK4.out.1.later hb) HK4.out.2)
          clear ho hr hrl HK1 hb
          have c0 := cell_of_row w2 Bn 0 _ _ (0, 0) HBn.out
          gi_wp2_with fail
          clear c0
          have hb : Below w2.heap.size w2 (w2.alloc (.cells #[.slice a2 e c2] 58)) := (Below.refl _ w2).alloc (Nat.le_refl _) _
          have hp := parts1 58 HK2.out
          obtain ⟨w3, e3⟩ : ∃ w3, w3 = w2.alloc (.cells #[.slice a2 e c2] 58) := ⟨_, rfl⟩
          rw [← e3] at hb hp ⊢
          have hbe : ∀ l ∈ [bb.take e], Bytes l := fun l hl => by
            simp only [List.mem_cons, List.not_mem_nil, or_false] at hl
            subst hl
            exact fun x hx => HBB.out x (List.mem_of_mem_take hx)
          refine ⟨trivial, (callsIn_wide.2 (over_any w3 hcc hbe hp)).mono ?_⟩
          rintro _ w4 ⟨rfl, n4, h4⟩
          have hb4 : Below w3.heap.size w3 w4 := by rw [h4]; exact below_drewN9 _ _
          have hfl : [bb.take e].flatten = bb.take e := by simp
          rw [hfl]
          obtain ⟨cn, hcn⟩ : ∃ cn, cn = crc cc (bb.take e) := ⟨_, rfl⟩
          have hcn9 : cn < 4294967296 := by rw [hcn]; exact crc_lt _ hcc (fun x hx => HBB.out x (List.mem_of_mem_take hx))
          rw [← hcn]
          have HCN := Lib.hid hcn
          have HC := Lib.hid (chg_on (chg_on HC.out hb) hb4)
          have HBn := Lib.hid (heap_on hb4 (heap_on hb HBn.out))
          have HO := Lib.hid ((HO.out.later hb).later hb4)
          have HK3 := Lib.hid ((HK3.out.later hb).later hb4)
          have HK4 := Lib.hid (And.intro ((HK4.out.1.later hb).later hb4) HK4.out.2)
          clear hb hp e3 hbe h4 hb4 hfl hcn HK2
          gi_wp2_with fail
          have c0 := cell_of_row w4 Bn 0 _ _ (0, 0) HBn.out
          have HB3 := Lib.hid (show Bytes ((bb.drop e).take 4) from fun x hx => HBB.out x (List.mem_of_mem_drop (List.mem_of_mem_take hx)))
          have HVKK := Lib.hid (fun q hq => HVK.out q (HK4.out.2 q hq))
          have HSTEP := Lib.hid (recs_step (cc := cc) (bb := bb) (N := N) (e := e) (f := f) (cn := cn) (r := r) (by rw [← HM.out]; exact h8) HVAL.out (by omega) (by rw [← HM.out]; have := HQ.out; omega) HE.out.1 HE.out.2.1 HCN.out HR.out)
          by_cases hck : num4 cn = (bb.drop e).take 4
          · have HCK := Lib.hid hck
            refine it7_eq n hn1 l Bn N e f m cap g o cn hcn9 a6 a3 c6 c3 _ r heI hfI eF hfw w4 _ c0 ks3 HK3 HB3.out HO HRL _ _ _ _ _ _ _ _ _ _ _ _ _ _ _ _ _ _ _ _ _ _ _ _ _ _ _ _ _ _ _ _ _ _ _ _ _ _ _ _ _ _ _ _ _ _ _ _ _ _ _ _ _ _ _ _ _ _ _ _ _ _ _ _ _ _ _ _ _ _ _ _ (fun _ _ _ _ _ h => h) (decide_eq_true hck) (fun W' => ∃ a7 c7 w5, Below w4.heap.size w4 w5 ∧ Stay K w5 W' ∧ J (pre ++ [⟨.slice a7 N c7, r, cn⟩]) W') ?_ ?_
            · refine Lib.hid fun w5 a7 c7 hb5 ho5 => ?_
              refine (HY.out pre ⟨.slice a7 N c7, r, cn⟩ W0 w5 HJ.out (chg_on HC.out hb5) ⟨ho5, ⟨a7, c7, by rw [HRL.out]⟩, hcn9, by rw [HRL.out]; omega, ?_⟩ ⟨recs cn (bb.drop f), ?_⟩).mono ?_
              · rw [HR.out]
                exact fun x hx => HBB.out x (List.mem_of_mem_drop (List.mem_of_mem_take hx))
              · rw [HRC.out, HSTEP.out, if_pos HCK.out, List.map_append, List.append_assoc]
                rfl
              · rintro e9 W' ⟨h1, h2, h3⟩
                exact ⟨h1, a7, c7, w5, hb5, h3, h2⟩
            · rintro x55 x56 x57 x58 x59 x60 x61 x62 x63 x64 x65 x66 x67 x68 x69 x70 W' ⟨a7, c7, w5, hb5, hst, hj⟩
              have HBn9 := Lib.hid (hst.heap hKB (heap_on hb5 HBn.out))
              have HK9 := Lib.hid ((HK4.out.1.later hb5).block fun q hq => hst.block q (HVKK.out q hq).1)
              have HJ9 := Lib.hid hj
              clear hb5 hst hj c0 hck
              have c0 := cell_of_row W' Bn 0 _ _ (0, 0) HBn9.out
              have f0 := frozen_row HBn9.out 0
              gi_wp2_with fail
              gi_roundg (bb.drop f).length
              case measure => have h7 := HM.out; rw [hg9, List.length_drop]; omega
              case rel =>
                have hset : ∀ q, q ≠ Bn → (W'.setCell ⟨Bn, 0, none⟩ (.slice a4 r4 c4)).heap[q]? = W'.heap[q]? := fun q hq => Below.heap_setCell _ _ _ _ hq
                refine ⟨pre ++ [⟨.slice a7 N c7, r, cn⟩], W', bb.drop f, .slice a4 r4 c4, cn, rfl, rfl, hcn9, Lib.hid ?_, HJ9, Lib.hid (Chg.setCell (S := fun g => g = Bn) (p := ⟨Bn, 0, none⟩) (Chg.refl W' _) (.inl rfl) _), Lib.hid (heap_setCell_same _ Bn 0 _ _ _ HBn9.out), Lib.hid (HK9.out.block fun q hq => hset q (HVKK.out q hq).2), HVKK, Lib.hid fun x hx => HBB.out x (List.mem_of_mem_drop hx)⟩
                rw [HRC.out, HSTEP.out, if_pos HCK.out, List.map_append, List.append_assoc]
                rfl
          · have HCK := Lib.hid hck
            refine it7_ne n hn1 l Bn N e f m cap g o cn hcn9 a6 a3 c6 c3 _ r heI hfI eF hfw w4 _ c0 ks3 HK3 HB3.out HO HRL _ _ _ _ _ _ _ _ _ _ _ _ _ _ _ _ _ _ _ _ _ _ _ _ _ _ _ _ _ _ _ _ _ _ _ _ _ _ _ _ _ _ _ _ _ _ _ _ _ _ _ _ _ _ _ _ _ _ _ _ _ _ _ _ _ _ _ _ _ _ _ _ (fun _ _ _ _ _ h => h) (decide_eq_false hck) ?_
            intro x55 x56 x57 x58 x59 x60 x61 x62 x63 x64 x65 x66 x67 x68 x69 x70 w' hb'
            have HC9 := Lib.hid (chg_on HC.out hb')
            clear hb' c0 hck
            gi_wp2_with fail
            refine bodyPost_ret (results_none rfl _ _ _) rfl ?_
            exact ⟨⟨_, rfl⟩, pre, W0, by rw [HRC.out, HSTEP.out, if_neg HCK.out, List.append_nil], HJ.out, HC9.out⟩
    · have h8I : ¬ ((8 : Int) ≤ (m : Int)) := by omega
      gi_wp2_with fail
      go_end0
      refine ⟨⟨_, rfl⟩, pre, W0, ?_, HJ.out, HC.out⟩
      rw [HRC.out, recs_eq, if_pos (by rw [← HM.out]; omega), List.append_nil]
end Go.Proofs.YtidhlbhfhfonoaaGreatDoor
namespace Go.Proofs.YtidhlbhfhfonoaaGreatDoor
open Go.ChangeShapes Go.WideShapes Go.ChangeAt Go.RowKit

theorem chg_putObj {W A : World} {S : Nat → Prop} (h : Chg W A S) (l : Nat) (o : Obj) (hl : W.heap.size ≤ l) : Chg W (A.putObj l o) S :=
  ⟨h.os, h.tape, h.output, by simpa using h.size, fun g hg hn => (World.putObj_heap_other (by omega)).trans (h.block g hg hn)⟩
/-- How a round's body ends. -/
def roundEnd (B : Nat) (K : Nat → Prop) (I : World → Prop) (W : World) : Exit → Act → World → Prop
  | .normal, _, W' => KeepsFrom B W W' ∧ Stay K W W' ∧ I W'
  | _, _, _ => False
theorem range_recs {n : Nat} (hn : 5 ≤ n) {g : Operand} {ps : Array Tmp} {assign body : Code} {Q : Exit → Act → World → Prop} {a : Act} {w : World} {Bn : Nat}
    (hg : a.eval g = .func (.func 114) #[] #[.pointer (some ⟨Bn, 0, none⟩)])
    (K : Nat → Prop) (hKB : K Bn) (hKw : ∀ k, K k → k < w.heap.size) (b : List Nat) (hb8 : Bytes b) (v : Value) (hBn : w.heap[Bn]? = some (.cells #[v] 58 (0, 0))) (hv : KAt .u8 w v b) (hvK : ∀ g, v.ownBlock = some g → K g ∧ g ≠ Bn)
    (hps : ps.size = 2) (I : List Rec → World → Prop) (R : List Rec → Rec → World → Prop)
    (hI : ∀ pre A l o o', w.heap.size ≤ l → A.heap[l]? = some o → o.isCells = false → I pre A → I pre (A.putObj l o'))
    (hR : ∀ pre x A l o o', w.heap.size ≤ l → A.heap[l]? = some o → o.isCells = false → R pre x A → R pre x (A.putObj l o'))
    (h0 : ∀ o1 o2, I [] ((w.alloc o1).alloc o2)) (hIc : ∀ pre A B, I pre A → Chg A B (fun g => g = Bn) → I pre B)
    (hready : ∀ pre x W0 W1, I pre W0 → Chg W0 W1 (fun g => g = Bn) → RecNew W0 W1 x → (∃ rest, recs firstC b = (pre ++ [x]).map Rec.rc ++ rest) → R pre x W1)
    (a₁ : Rec → Act)
    (hassign : ∀ (l : Nat) (x : Rec) (W : World) (K : Act → World → Prop), K (a₁ x) W →
      assign.wpIn (Fence.wide.inRound l) (n - 1 - 1) Tryz.prog (Exit.then K (fun _ _ _ => False)) { tmps := (ps.zip #[x.v, .int .u32 x.c]).foldl (fun t (p, v) => t.setIfInBounds p v) a.tmps, defers := [] } W)
    (hbody : ∀ (l : Nat) (pre : List Rec) (x : Rec) (W : World), R pre x W → body.wpIn (Fence.wide.inRound l) (n - 1 - 1) Tryz.prog (roundEnd w.heap.size K (I (pre ++ [x])) W) (a₁ x) W)
    (hdone : ∀ (D : Nat) (xs : List Rec) (W : World), w.heap.size ≤ D → xs.map Rec.rc = recs firstC b → I xs W → W.heap[D]? = some (.deferred (some [])) → Q .normal { a with defers := { target := .collected D, args := #[] } :: a.defers } W) :
    (Code.rangeFunc g ps assign body).wpIn Fence.wide n Tryz.prog Q a w := by
  refine wpIn_rangeFunc ?_
  intro fn hfn
  obtain ⟨rec, hrec⟩ : ∃ rec : LoopState → Option Code → Loop, rec = fun st pe => { state := st, pending := pe, fn, tmps := a.tmps, params := ps, assign, body, defers := w.heap.size } := ⟨_, rfl⟩
  obtain ⟨W1, hW1⟩ : ∃ W1, (w.alloc (.deferred (some []))).alloc (.loop (rec .ready none)) = W1 := ⟨_, rfl⟩
  have hL1 : W1.heap[w.heap.size + 1]? = some (.loop (rec .ready none)) := by
    rw [← hW1]; have := World.alloc_heap_new (w.alloc (.deferred (some []))) (.loop (rec .ready none)); rwa [World.size_alloc] at this
  have hK1 : W1.heap[w.heap.size]? = some (.deferred (some [])) := by
    rw [← hW1]; exact (Below.heap_alloc _ _ _ (by simp)).trans (World.alloc_heap_new w _)
  have hI1 : I [] W1 := by rw [← hW1]; exact h0 _ _
  have hb1 : Below w.heap.size w W1 := by rw [← hW1]; exact ((Below.refl _ w).alloc (Nat.le_refl _) _).alloc (by simp) _
  refine ⟨w.heap.size + 1, [{ target := .collected w.heap.size, args := #[] }], W1, { target := .fn (.func 114) #[.pointer (some ⟨Bn, 0, none⟩)], args := #[.func (.yield (w.heap.size + 1)) #[] #[]] }, W1, 114,
    #[.func (.yield (w.heap.size + 1)) #[] #[]] ++ #[.pointer (some ⟨Bn, 0, none⟩)], W1, ?_, ?_, ?_, ?_, fun _ => (by omega), ?_⟩
  · rw [← hW1, hrec]; exact run_enterLoop_outer _ _ _ _ _
  · simp only [resolve, hg]
    simp [go_sem]
  · intro f' hf'; exact trivial
  · simp [invoke, go_sem]
  · have hBlt : Bn < w.heap.size := lt_of_heap hBn
    refine (records_in (n - 1) (by omega) (w.heap.size + 1) Bn K hKB b hb8 v (fun pre W => I pre W ∧ W.heap[w.heap.size + 1]? = some (.loop (rec .ready none)) ∧ W.heap[w.heap.size]? = some (.deferred (some []))) ?_ W1 (heap_on hb1 hBn) (hv.later hb1) hvK ⟨hI1, hL1, hK1⟩).mono ?_
    · rintro pre x W0 Wy ⟨hi, hl, hk⟩ hc hnew hpre
      have hl' : Wy.heap[w.heap.size + 1]? = some (.loop (rec .ready none)) := (hc.block _ (lt_of_heap hl) (by omega)).trans hl
      have hk' : Wy.heap[w.heap.size]? = some (.deferred (some [])) := (hc.block _ (lt_of_heap hk) (by omega)).trans hk
      have hrd := hready pre x W0 Wy hi hc hnew hpre
      have hlt := lt_of_heap hl'
      have hy := run_yield (P := Tryz.prog) (args := #[x.v, .int .u32 x.c]) hl' (by rw [hrec]; exact hps.symm)
      rw [hrec] at hy
      refine ⟨fn, _, assign, body, hy, roundIn_of_wpIn hfn (hassign _ x Wy _ ⟨_, run_beginRound hl' (by rw [hrec]), ?_⟩)⟩
      have hl2 : (Wy.putObj (w.heap.size + 1) (.loop { rec .ready none with state := .busy })).heap[w.heap.size + 1]? = some (.loop { rec .ready none with state := .busy }) := World.putObj_heap_same hlt
      have hk2 : (Wy.putObj (w.heap.size + 1) (.loop { rec .ready none with state := .busy })).heap[w.heap.size]? = some (.deferred (some [])) := (World.putObj_heap_other (by omega)).trans hk'
      refine wpIn_mono (hbody _ pre x _ (hR _ _ _ _ _ _ (by omega) hl' rfl hrd)) ?_
      rintro e a3 W3 hp
      cases e with
      | normal =>
        obtain ⟨hk3, hs3, hi3⟩ := hp
        have hl3 := hk3.same _ _ (by omega) hl2 rfl
        have hd3 := hk3.same _ _ (Nat.le_refl _) hk2 rfl
        have hr := run_endRound (P := Tryz.prog) none hl3
        rw [hrec] at hr
        refine ⟨_, _, hr, rfl, ⟨hI _ _ _ _ _ (by omega) hl3 rfl hi3, ?_, (World.putObj_heap_other (by omega)).trans hd3⟩, ?_⟩
        · rw [World.putObj_heap_same (lt_of_heap hl3), hrec]
          rfl
        · exact ⟨hs3.os, hs3.tape, hs3.output, Nat.le_trans (by simp) (Nat.le_trans hs3.size (by simp)), fun q hq => by
            have hqw := hKw q hq
            rw [World.putObj_heap_other (by omega), hs3.block q hq, World.putObj_heap_other (by omega)]⟩
      | ret => exact hp.elim
      | exit id => exact hp.elim
      | goto t => exact hp.elim
      | panic ch => exact hp.elim
      | outgrown => exact hp.elim
    · rintro e W2 ⟨⟨v9, rfl⟩, xs, W0, hxs, ⟨hi, hl, hk⟩, hc⟩
      have hl' : W2.heap[w.heap.size + 1]? = some (.loop (rec .ready none)) := (hc.block _ (lt_of_heap hl) (by omega)).trans hl
      have hk' : W2.heap[w.heap.size]? = some (.deferred (some [])) := (hc.block _ (lt_of_heap hk) (by omega)).trans hk
      have hr := run_endLoop (P := Tryz.prog) hl' (by rw [hrec]; simp)
      rw [hrec] at hr
      exact ⟨none, _, hr, hdone _ xs _ (Nat.le_refl _) hxs (hI _ _ _ _ _ (by omega) hl' rfl (hIc _ _ _ hi hc)) ((World.putObj_heap_other (by omega)).trans hk')⟩
end Go.Proofs.YtidhlbhfhfonoaaGreatDoor
