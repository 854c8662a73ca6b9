/- The walk of NumsGet: it returns true. -/
import Derived.Test.YtplhfbflgjnjmaaGreatDoorBook7
namespace Go.Proofs.YtplhfbflgjnjmaaGreatDoor
open Go.ChangeShapes Go.WideShapes Go.ChangeAt Go.RowKit

theorem ne_same (z0 z1 z2 z3 : Nat) (w : World) : (binOp .neq 30 (.agg #[.int .u64 z0, .int .u64 z1, .int .u64 z2, .int .u64 z3]) (.agg #[.int .u64 z0, .int .u64 z1, .int .u64 z2, .int .u64 z3])).run Tryz.prog w = .ok (.bool false) w := by
  have hg : ∀ i, i < 4 → (#[Value.int .u64 z0, .int .u64 z1, .int .u64 z2, .int .u64 z3])[i]? = some (.int .u64 ((([z0, z1, z2, z3] : List Nat).getD i 0 : Nat) : Int)) := by
    intro i hi
    obtain rfl | rfl | rfl | rfl : i = 0 ∨ i = 1 ∨ i = 2 ∨ i = 3 := by omega
    all_goals rfl
  rw [run_neq_arr w 30 25 .u64 4 Tryz.underlying30 Tryz.underlying25 (fun _ => by kernel_rfl) (fun _ => by kernel_rfl) _ _ (fun i => (([z0, z1, z2, z3] : List Nat).getD i 0 : Nat)) (fun i => (([z0, z1, z2, z3] : List Nat).getD i 0 : Nat)) hg hg]
  simp
theorem one_at (w : World) (x : Nat) (t : TypeId) : KAt .i64 (w.alloc (.cells #[.int .i64 x] t)) (.slice (some ⟨w.heap.size, 0, none⟩) 1 1) [x] := by
  refine ⟨_, _, rfl, Nat.le_refl _, by unfold maxLen; simp, (fun h => by cases h), fun _ => ⟨_, _, rfl, fun i z hz => ?_⟩⟩
  match i, hz with
  | 0, hz => simp at hz; subst hz; simp
theorem beyond_one (x : Nat) (hx : x ≤ 9223372036854775807 - 1048576) (w : World) :
    Calls Tryz.prog 5 #[.slice (some ⟨w.heap.size, 0, none⟩) 1 1] (w.alloc (.cells #[.int .i64 x] 3)) fun e w' => e = .returned (.bool (decide (1048576 < x))) ∧ w.alloc (.cells #[.int .i64 x] 3) = w' := by
  have h := beyond_any (l := [x]) _ (one_at w x 3) (by simp) (by simp; omega)
  rw [show [x].sum = x from by simp] at h
  exact h
theorem twin_parts {w : World} {base n : Nat} {v : Value} {l : List Nat} (h : Twin w base v l) (hn : l.length = n) : ∃ a c, v = .slice a n c := by
  obtain ⟨g, o, cap, rfl, _⟩ := h
  exact ⟨_, _, by rw [hn]⟩
/-- Four words in a new block. -/
def Four (w : World) (b z0 z1 z2 z3 : Nat) : Prop := w.cell? ⟨b, 0, none⟩ = some (.int .u64 z0) ∧ w.cell? ⟨b, 1, none⟩ = some (.int .u64 z1) ∧ w.cell? ⟨b, 2, none⟩ = some (.int .u64 z2) ∧ w.cell? ⟨b, 3, none⟩ = some (.int .u64 z3)
theorem cell_on {w w' : World} {a : Addr} {v : Value} (h : w.cell? a = some v) (hb : Below w.heap.size w w') : w'.cell? a = some v := (World.cell?_of_block (w := w) (hb.block a.block (World.block_lt_of_cell? (a := a) _ h))).trans h
theorem Four.later {w w' : World} {b z0 z1 z2 z3 : Nat} (h : Four w b z0 z1 z2 z3) (hb : Below w.heap.size w w') : Four w' b z0 z1 z2 z3 := ⟨cell_on h.1 hb, cell_on h.2.1 hb, cell_on h.2.2.1 hb, cell_on h.2.2.2 hb⟩
theorem Four.new (w : World) (z0 z1 z2 z3 : Nat) (t : TypeId) : Four (w.alloc (.cells #[.int .u64 z0, .int .u64 z1, .int .u64 z2, .int .u64 z3] t)) w.heap.size z0 z1 z2 z3 := by
  refine ⟨?_, ?_, ?_, ?_⟩ <;> simp
set_option maxRecDepth 40000 in
set_option maxHeartbeats 4000000 in
theorem numsGet_small (l : List Nat) (n0 : Nat) (E0 : Hid (l.length = n0)) (a0 : Option Addr) (c0 : Nat) (bytes : Int) (w : World) (H0 : Hid (KAt .u8 w (.slice a0 n0 c0) l)) (B0 : Hid (Bytes l)) (hsm : n0 ≤ 1048576) :
    Calls Tryz.prog 3 #[.slice a0 n0 c0, .int .i64 bytes] w fun e w' => e = .returned (.bool true) ∧ Below w.heap.size w w' := by
  have HY := Lib.hid (fun w => beyond_one n0 (by omega) w)
  rw [show decide (1048576 < n0) = false by simpa using hsm] at HY
  obtain ⟨z0, z1, z2, z3, ze, hl1, hl2⟩ := long_both l B0.out
  obtain ⟨r, took, err, hrl, hg1, hg2⟩ := bytes_both l B0.out (by rw [E0.out]; omega)
  have HL1 := Lib.hid hl1
  have HL2 := Lib.hid hl2
  obtain ⟨rn, ern⟩ : ∃ rn, rn = r.length := ⟨_, rfl⟩
  rw [← ern] at hg1 hg2
  have HG1 := Lib.hid hg1
  have HG2 := Lib.hid hg2
  have HRL := Lib.hid (show rn ≤ n0 by rw [ern, ← E0.out]; exact hrl)
  have HRN := Lib.hid ern
  have HN := Lib.hid (fun w v hv => Get_get (b := l) (v := v) w hv B0.out bytes)
  have HR := Lib.hid (fun w v hv => RGet_get (b := l) (v := v) w hv B0.out bytes)
  obtain ⟨m9, e9⟩ : ∃ m9, m9 = (getR l bytes).1 := ⟨_, rfl⟩
  obtain ⟨k9, f9⟩ : ∃ k9, k9 = (getR l bytes).2 := ⟨_, rfl⟩
  rw [← e9, ← f9] at HN HR
  clear hl1 hl2 hg1 hg2 hrl ern e9 f9
  go_enter Tryz.func3, Tryz.ntmps3
  go_wp2_with fail
  refine (HY.out _).mono ?_
  rintro _ w1 ⟨rfl, rfl⟩
  obtain ⟨w1, e1⟩ : ∃ w1 : World, w1 = w.alloc (.cells #[.int .i64 n0] 3) := ⟨_, rfl⟩
  have HB1 := Lib.hid (show Below w.heap.size w w1 by rw [e1]; exact (Below.refl _ _).alloc (Nat.le_refl _) _)
  rw [← e1]
  clear e1 HY
  have U1 := Lib.hid (H0.out.later HB1.out)
  go_wp2_with fail
  refine (Twin_any w1 U1.out (by rw [E0.out]; omega)).mono ?_
  rintro _ w2 ⟨v2, rfl, ht, hb⟩
  obtain ⟨a2, c2, rfl⟩ := twin_parts ht E0.out
  have HB2 := Lib.hid (below_on HB1.out hb)
  have T2 := Lib.hid ht
  have HTB := Lib.hid (fun g hg => (OwnV.lt ht.own g hg).2)
  have U2 := Lib.hid (U1.out.later hb)
  have hs12 := hb.size
  have hs01 := HB1.out.size
  clear ht hb U1 H0
  go_wp2_with fail
  refine (HN.out w2 _ T2.out.own.at_).mono ?_
  rintro _ _ ⟨rfl, rfl⟩
  go_wp2_with fail
  refine (HR.out w2 _ U2.out).mono ?_
  rintro _ _ ⟨rfl, rfl⟩
  clear HN HR
  go_wp2_with fail
  refine (HL1.out w2 _ T2.out.own.at_).mono ?_
  rintro _ w3 ⟨rfl, hb⟩
  have HB3 := Lib.hid (below_on HB2.out hb)
  have T3 := Lib.hid (T2.out.later hb)
  have U3 := Lib.hid (U2.out.later hb)
  have hs23 := hb.size
  clear hb T2 U2 HB1 HL1
  go_wp2_with fail
  obtain ⟨w4, e4⟩ : ∃ w4 : World, w4 = w3.alloc (.cells #[.int .u64 z0, .int .u64 z1, .int .u64 z2, .int .u64 z3] 30) := ⟨_, rfl⟩
  have hb34 : Below w3.heap.size w3 w4 := by rw [e4]; exact (Below.refl _ _).alloc (Nat.le_refl _) _
  have P4 := Lib.hid (show Four w4 w3.heap.size z0 z1 z2 z3 by rw [e4]; exact Four.new _ _ _ _ _ _)
  rw [← e4]
  clear e4
  have HB4 := Lib.hid (below_on HB3.out hb34)
  have T4 := Lib.hid (T3.out.later hb34)
  have U4 := Lib.hid (U3.out.later hb34)
  have hs34 := hb34.size
  clear hb34 T3 U3 HB2 HB3
  refine (HL2.out w4 _ U4.out).mono ?_
  rintro _ w5 ⟨rfl, hb⟩
  have HB5 := Lib.hid (below_on HB4.out hb)
  have T5 := Lib.hid (T4.out.later hb)
  have U5 := Lib.hid (U4.out.later hb)
  have P5 := Lib.hid (P4.out.later hb)
  have hs45 := hb.size
  clear hb T4 U4 HB4 P4 HL2
  go_wp2_with fail
  obtain ⟨w6, e6⟩ : ∃ w6 : World, w6 = w5.alloc (.cells #[.int .u64 z0, .int .u64 z1, .int .u64 z2, .int .u64 z3] 30) := ⟨_, rfl⟩
  have hb56 : Below w5.heap.size w5 w6 := by rw [e6]; exact (Below.refl _ _).alloc (Nat.le_refl _) _
  have Q6 := Lib.hid (show Four w6 w5.heap.size z0 z1 z2 z3 by rw [e6]; exact Four.new _ _ _ _ _ _)
  rw [← e6]
  clear e6
  have HB6 := Lib.hid (below_on HB5.out hb56)
  have T6 := Lib.hid (T5.out.later hb56)
  have U6 := Lib.hid (U5.out.later hb56)
  have P6 := Lib.hid (P5.out.later hb56)
  have hs56 := hb56.size
  clear hb56 T5 U5 HB5 P5
  refine (HG1.out w6 _ T6.out.own.at_).mono ?_
  rintro _ w7 ⟨a7, c7, rfl, hx, hb⟩
  have HB7 := Lib.hid (below_on HB6.out hb)
  have T7 := Lib.hid (T6.out.later hb)
  have U7 := Lib.hid (U6.out.later hb)
  have P7 := Lib.hid (P6.out.later hb)
  have Q7 := Lib.hid (Q6.out.later hb)
  have X7 := Lib.hid hx
  have HXB := Lib.hid (fun g hg => OwnV.lt hx g hg)
  have hs67 := hb.size
  clear hb hx U6 HB6 P6 Q6
  go_wp2_with fail
  refine (HG1.out w7 _ T7.out.own.at_).mono ?_
  rintro _ w8 ⟨a8, c8, rfl, hy, hb⟩
  have HB8 := Lib.hid (below_on HB7.out hb)
  have T8 := Lib.hid (T7.out.later hb)
  have U8 := Lib.hid (U7.out.later hb)
  have P8 := Lib.hid (P7.out.later hb)
  have Q8 := Lib.hid (Q7.out.later hb)
  have X8 := Lib.hid (X7.out.later hb)
  have Y8 := Lib.hid hy
  have HYB := Lib.hid (fun g hg => OwnV.lt hy g hg)
  have hs78 := hb.size
  clear hb hy U7 HB7 P7 Q7 HG1
  go_wp2_with fail
  refine (HG2.out w8 _ U8.out).mono ?_
  rintro _ w9 ⟨a9, c9, rfl, hz, hb⟩
  have HB9 := Lib.hid (below_on HB8.out hb)
  have T9 := Lib.hid (T8.out.later hb)
  have U9 := Lib.hid (U8.out.later hb)
  have X9 := Lib.hid (X8.out.later hb)
  have Y9 := Lib.hid (Y8.out.later hb)
  have Z9 := Lib.hid hz
  obtain ⟨p0, p1, p2, p3⟩ := P8.out.later hb
  obtain ⟨q0, q1, q2, q3⟩ := Q8.out.later hb
  have hs89 := hb.size
  clear hb hz U8 HB8 P8 Q8 HG2
  have hne := ne_same z0 z1 z2 z3
  go_wp2_with fail
  refine (same_self w9 X9.out.at_ Z9.out.at_).mono ?_
  rintro _ wa ⟨rfl, n1, ea⟩
  have hba : Below w9.heap.size w9 wa := by rw [ea]; exact below_drewN9 _ _
  have HBA := Lib.hid hba
  clear ea hba
  go_wp2_with fail
  refine (same_self wa (Y9.out.at_.later HBA.out) (Z9.out.at_.later HBA.out)).mono ?_
  rintro _ wb ⟨rfl, n2, eb⟩
  have hbb : Below w9.heap.size w9 wb := by rw [eb]; exact below_on HBA.out (below_drewN9 _ _)
  have HBB := Lib.hid hbb
  clear eb hbb
  go_wp2_with fail
  refine (Left_any wb (T9.out.later HBB.out) (U9.out.later HBB.out)).mono ?_
  rintro _ wc ⟨rfl, n3, ec⟩
  have hbc : Below w9.heap.size w9 wc := by rw [ec]; exact below_on HBB.out (below_drewN9 _ _)
  have HBC := Lib.hid hbc
  clear ec hbc
  clear p0 p1 p2 p3 q0 q1 q2 q3 hne
  go_wp2_with fail
  have hwc : w9.heap.size ≤ wc.heap.size := HBC.out.size
  have hw : w.heap.size ≤ wc.heap.size := by omega
  have hs78' := hs78
  have hK : Kp (wc.alloc (.cells book0 54)) w.heap.size wc.heap.size 0 3 (.slice none 0 0) (fun i => if i = 0 then .slice a2 n0 c2 else if i = 1 then .slice a7 rn c7 else .slice a8 rn c8) (fun i => if i = 0 then n0 else rn) (fun i => if i = 0 then cellsK .u8 l else cellsK .u8 r) := by
    refine Kp.start _ (fun i hi => ?_) (fun i j hi hj hij g hg e => ?_)
    · have h0 := (T9.out.later HBC.out).own.base (B' := w.heap.size) hs01
      have h1 := (X9.out.later HBC.out).base (B' := w.heap.size) (by omega)
      have h2 := (Y9.out.later HBC.out).base (B' := w.heap.size) (by omega)
      unfold Own at h0 h1 h2
      rw [E0.out] at h0
      rw [← HRN.out] at h1 h2
      obtain rfl | rfl | rfl : i = 0 ∨ i = 1 ∨ i = 2 := by omega
      · exact h0
      · exact h1
      · exact h2
    · have h0 := HTB.out
      have h1 := HXB.out
      have h2 := HYB.out
      obtain rfl | rfl | rfl : i = 0 ∨ i = 1 ∨ i = 2 := by omega
      all_goals
        obtain rfl | rfl | rfl : j = 0 ∨ j = 1 ∨ j = 2 := by omega
        all_goals first
          | exact absurd rfl hij
          | (have x0 := h0 g hg; have x1 := h1 g e; omega)
          | (have x0 := h0 g hg; have x1 := h2 g e; omega)
          | (have x0 := h1 g hg; have x1 := h0 g e; omega)
          | (have x0 := h1 g hg; have x1 := h2 g e; omega)
          | (have x0 := h2 g hg; have x1 := h0 g e; omega)
          | (have x0 := h2 g hg; have x1 := h1 g e; omega)
  obtain ⟨wd, ed⟩ : ∃ wd : World, wd = wc.alloc (.cells book0 54) := ⟨_, rfl⟩
  have hbd : Below w.heap.size w wd := by rw [ed]; exact (below_on HB9.out HBC.out).alloc hw _
  rw [← ed] at hK
  rw [← ed]
  have HKD := Lib.hid hK
  have HBD := Lib.hid hbd
  have hN : ∀ i, i < 3 → (fun i => if i = 0 then n0 else rn) i ≤ 4000000 := fun i _ => by have := HRL.out; dsimp only; split <;> omega
  have HNN := Lib.hid hN
  clear hK hbd hN ed HTB HXB HYB T9 U9 X9 Y9 Z9 HB9 HBA HBB HBC
  refine (HKD.out.next (by omega) (by omega) hw _ rfl).mono ?_
  rintro _ we ⟨rfl, ⟨vb1, hk1⟩, hb1⟩
  have HK1 := Lib.hid hk1
  have HBE := Lib.hid (HBD.out.trans hb1)
  clear hk1 hb1 HKD HBD
  go_wp2_with fail
  refine (HK1.out.next (by omega) (by omega) hw _ rfl).mono ?_
  rintro _ wf ⟨rfl, ⟨vb2, hk2⟩, hb2⟩
  have HK2 := Lib.hid hk2
  have HBF := Lib.hid (HBE.out.trans hb2)
  clear hk2 hb2 HK1 HBE
  go_wp2_with fail
  refine (HK2.out.next (by omega) (by omega) hw _ rfl).mono ?_
  rintro _ wg ⟨rfl, ⟨vb3, hk3⟩, hb3⟩
  have HK3 := Lib.hid hk3
  have HBG := Lib.hid (HBF.out.trans hb3)
  clear hk3 hb3 HK2 HBF
  go_wp2_with fail
  refine (HK3.out.apart (by omega) hw HNN.out).mono ?_
  rintro _ wh ⟨rfl, hb4⟩
  have HBH := Lib.hid (HBG.out.trans hb4)
  clear hb4
  go_wp2_with fail
  go_ret
  exact ⟨rfl, HBH.out⟩
set_option maxRecDepth 40000 in
set_option maxHeartbeats 2000000 in
theorem numsGet_big (n0 : Nat) (a0 : Option Addr) (c0 : Nat) (bytes : Int) (w : World) (hbig : 1048576 < n0) (hn : n0 ≤ 140737488355328) :
    Calls Tryz.prog 3 #[.slice a0 n0 c0, .int .i64 bytes] w fun e w' => e = .returned (.bool true) ∧ Below w.heap.size w w' := by
  have HY := Lib.hid (fun w => beyond_one n0 (by omega) w)
  rw [show decide (1048576 < n0) = true by simpa using hbig] at HY
  go_enter Tryz.func3, Tryz.ntmps3
  go_wp2_with fail
  refine (HY.out _).mono ?_
  rintro _ w1 ⟨rfl, rfl⟩
  go_wp2_with fail
  go_ret
  exact ⟨rfl, (Below.refl _ _).alloc (Nat.le_refl _) _⟩
theorem numsGet_walk (l : List Nat) (v : Value) (bytes : Int) (w : World) (h : KAt .u8 w v l) (hb : Bytes l) (hs : l.length ≤ 140737488351232) :
    Calls Tryz.prog 3 #[v, .int .i64 bytes] w fun e w' => e = .returned (.bool true) ∧ Below w.heap.size w w' := by
  obtain ⟨a, c, e, _, _⟩ : ∃ a c, v = .slice a l.length c ∧ l.length ≤ c ∧ c ≤ maxLen := by
    obtain ⟨ao, cap, h1, h2, h3, _⟩ := h
    exact ⟨ao, cap, h1, h2, h3⟩
  subst e
  by_cases hbig : 1048576 < l.length
  · exact numsGet_big _ a c bytes w hbig (by omega)
  · exact numsGet_small l _ (Lib.hid rfl) a c bytes w (Lib.hid h) (Lib.hid hb) (by omega)
end Go.Proofs.YtplhfbflgjnjmaaGreatDoor
