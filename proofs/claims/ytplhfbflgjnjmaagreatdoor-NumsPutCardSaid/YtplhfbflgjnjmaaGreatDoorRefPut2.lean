/- The reference's Put, PutLong, PutBytes: their contracts. -/
import Derived.Test.YtplhfbflgjnjmaaGreatDoorRefPut
import Derived.Test.YtplhfbflgjnjmaaGreatDoorGetLaw
namespace Go.Proofs.YtplhfbflgjnjmaaGreatDoor
open Go.ChangeShapes Go.WideShapes Go.ChangeAt Go.RowKit

theorem RPut_any {b : List Nat} {v : Value} (w : World) (hv : KAt .u8 w v b) (n : Nat) (hn : n < 18446744073709551616) (bytes : Int) (hsz : b.length + 8 ≤ 140737488355328) :
    Calls Tryz.prog 20 #[v, .int .u64 n, .int .i64 bytes] w fun e w' => ∃ v', e = .returned v' ∧ Own w' w.heap.size v' (b ++ be (many bytes) n) ∧ Below w.heap.size w w' := by
  have hv' := hv
  obtain ⟨a, c, rfl, _⟩ := hv'
  have hmx : ∃ mx : Nat, (∀ w, (Builtin.max_ #[3, 3] 3 #[.int .i64 0, .int .i64 bytes]).run Tryz.prog w = .ok (.int .i64 mx) w) ∧ mx = (max 0 bytes).toNat := by
    refine ⟨_, fun w => ?_, rfl⟩
    rw [run_max_int2, show (if bytes > 0 then bytes else 0) = (((max 0 bytes).toNat : Nat) : Int) from by split <;> omega]
  obtain ⟨mx, hmx, emx⟩ := hmx
  have hmn : ∀ w, (Builtin.min_ #[3, 3] 3 #[.int .i64 8, .int .i64 mx]).run Tryz.prog w = .ok (.int .i64 (many bytes : Nat)) w := by
    intro w
    have e : many bytes = min 8 mx := by unfold many; omega
    rw [e, run_min_int2, show (if (mx : Int) < 8 then (mx : Int) else 8) = ((min 8 mx : Nat) : Int) from by split <;> omega]
  refine (RPut_M w (Lib.hid rfl) hv n hn bytes mx (many bytes) (many_le bytes) hsz hmx hmn).mono ?_
  rintro e w' ⟨a', c', he, ho, hb⟩
  refine ⟨_, he, ?_, hb⟩
  unfold Own
  rw [show (b ++ be (many bytes) n).length = b.length + many bytes by rw [List.length_append, be_length]]
  exact ho
theorem own_parts {w : World} {base n : Nat} {v : Value} {l : List Nat} (h : Own w base v l) (hn : l.length = n) : ∃ a c, v = .slice a n c := by
  unfold Own at h
  rw [hn] at h
  exact h.sl
set_option maxRecDepth 20000 in
set_option maxHeartbeats 3000000 in
theorem RPutLong_any {b : List Nat} {v : Value} (w : World) (hv : KAt .u8 w v b) (x0 x1 x2 x3 : Nat) (h0 : x0 < 18446744073709551616) (h1 : x1 < 18446744073709551616) (h2 : x2 < 18446744073709551616) (h3 : x3 < 18446744073709551616) (hsz : b.length + 32 ≤ 140737488355328) :
    Calls Tryz.prog 21 #[v, .agg #[.int .u64 x0, .int .u64 x1, .int .u64 x2, .int .u64 x3]] w fun e w' => ∃ v', e = .returned v' ∧ Own w' w.heap.size v' (b ++ (be 8 x3 ++ (be 8 x2 ++ (be 8 x1 ++ be 8 x0)))) ∧ Below w.heap.size w w' := by
  have HG := Lib.hid (fun (l : List Nat) (n : Nat) (en : l.length = n) (v' : Value) (w1 : World) (hv' : KAt .u8 w1 v' l) (x : Nat) (hx : x < 18446744073709551616) (hl : n + 8 ≤ 140737488355328) =>
    (show Calls Tryz.prog 20 #[v', .int .u64 x, .int .i64 8] w1 fun e w' => ∃ a' c' r, e = .returned (.slice a' (n + 8) c') ∧ l ++ be 8 x = r ∧ Own w' w1.heap.size (.slice a' (n + 8) c') r ∧ Below w1.heap.size w1 w' from (RPut_any w1 hv' x hx 8 (by omega)).mono (by
      rintro _ w' ⟨v2, rfl, ho, hb⟩
      obtain ⟨a2, c2, rfl⟩ := own_parts (n := n + 8) ho (by rw [List.length_append, be_length, en]; rfl)
      exact ⟨a2, c2, _, rfl, rfl, ho, hb⟩)))
  have HV := Lib.hid hv
  obtain ⟨a, c, rfl, _⟩ := hv
  obtain ⟨n, en⟩ : ∃ n, Hid (b.length = n) := ⟨_, Lib.hid rfl⟩
  rw [en.out] at HV hsz ⊢
  go_enter Tryz.func21, Tryz.ntmps21
  go_wp2
  obtain ⟨w1, e1⟩ : ∃ w1 : World, w1 = w.alloc (.cells #[.int .u64 x0, .int .u64 x1, .int .u64 x2, .int .u64 x3] 30) := ⟨_, rfl⟩
  have hb1 : Below w.heap.size w w1 := by rw [e1]; exact (Below.refl _ _).alloc (Nat.le_refl _) _
  have P1 := Lib.hid (show Four w1 w.heap.size x0 x1 x2 x3 by rw [e1]; exact Four.new _ _ _ _ _ _)
  rw [← e1]
  clear e1
  have HB1 := Lib.hid hb1
  have hs1 := hb1.size
  have V1 := Lib.hid (HV.out.later hb1)
  clear hb1 HV
  refine wp_loop_rounds 5 ?_
  rw [rounds_succ]
  obtain ⟨p0, p1, p2, p3⟩ := P1.out
  go_wp2_with fail
  clear p0 p1 p2 p3
  refine (HG.out b (n) en.out _ w1 V1.out x3 h3 (by omega)).mono ?_
  rintro _ w2 ⟨a2, c2, l2, rfl, el, ho, hb⟩
  have O2 := Lib.hid ho
  have HB2 := Lib.hid (below_on HB1.out hb)
  have P2 := Lib.hid (P1.out.later hb)
  have E2 := Lib.hid el
  have N2 := Lib.hid (show l2.length = n + 8 by rw [← el, List.length_append, be_length, en.out])
  have hs2 := hb.size
  clear ho hb el HB1 P1 V1
  go_wp2_with fail
  rw [rounds_succ]
  obtain ⟨p0, p1, p2, p3⟩ := P2.out
  go_wp2_with fail
  clear p0 p1 p2 p3
  refine (HG.out l2 (n + 8) N2.out _ w2 O2.out.at_ x2 h2 (by omega)).mono ?_
  rintro _ w3 ⟨a3, c3, l3, rfl, el, ho, hb⟩
  have O3 := Lib.hid ho
  have HB3 := Lib.hid (below_on HB2.out hb)
  have P3 := Lib.hid (P2.out.later hb)
  have E3 := Lib.hid el
  have N3 := Lib.hid (show l3.length = n + 8 + 8 by rw [← el, List.length_append, be_length, N2.out])
  have hs3 := hb.size
  clear ho hb el HB2 P2 O2
  go_wp2_with fail
  rw [rounds_succ]
  obtain ⟨p0, p1, p2, p3⟩ := P3.out
  go_wp2_with fail
  clear p0 p1 p2 p3
  refine (HG.out l3 (n + 8 + 8) N3.out _ w3 O3.out.at_ x1 h1 (by omega)).mono ?_
  rintro _ w4 ⟨a4, c4, l4, rfl, el, ho, hb⟩
  have O4 := Lib.hid ho
  have HB4 := Lib.hid (below_on HB3.out hb)
  have P4 := Lib.hid (P3.out.later hb)
  have E4 := Lib.hid el
  have N4 := Lib.hid (show l4.length = n + 8 + 8 + 8 by rw [← el, List.length_append, be_length, N3.out])
  have hs4 := hb.size
  clear ho hb el HB3 P3 O3
  go_wp2_with fail
  rw [rounds_succ]
  obtain ⟨p0, p1, p2, p3⟩ := P4.out
  go_wp2_with fail
  clear p0 p1 p2 p3
  refine (HG.out l4 (n + 8 + 8 + 8) N4.out _ w4 O4.out.at_ x0 h0 (by omega)).mono ?_
  rintro _ w5 ⟨a5, c5, l5, rfl, el, ho, hb⟩
  have O5 := Lib.hid ho
  have HB5 := Lib.hid (below_on HB4.out hb)
  have P5 := Lib.hid (P4.out.later hb)
  have E5 := Lib.hid el
  have N5 := Lib.hid (show l5.length = n + 8 + 8 + 8 + 8 by rw [← el, List.length_append, be_length, N4.out])
  have hs5 := hb.size
  clear ho hb el HB4 P4 O4
  go_wp2_with fail
  rw [rounds_succ]
  go_wp2_with fail
  go_ret
  refine ⟨_, rfl, ?_, HB5.out⟩
  have h := O5.out.base (B' := w.heap.size) (by omega)
  rw [← E5.out, ← E4.out, ← E3.out, ← E2.out] at h
  simpa using h

set_option maxRecDepth 20000 in
set_option maxHeartbeats 3000000 in
theorem RPutBytes_any {b l : List Nat} {v u : Value} (w : World) (hv : KAt .u8 w v b) (hu : KAt .u8 w u l) (hsz : b.length + 8 + l.length ≤ 140737488355328) :
    Calls Tryz.prog 22 #[v, u] w fun e w' => ∃ v', e = .returned v' ∧ Own w' w.heap.size v' (b ++ (be 4 l.length ++ l)) ∧ Below w.heap.size w w' := by
  have HP := Lib.hid (RPut_any w hv l.length (by omega) 4 (by omega))
  have HU := Lib.hid hu
  obtain ⟨i0, hi, hz0, hz1, hz2⟩ := info_parts infoB
  have HI := Lib.hid hi
  have hu' := hu
  obtain ⟨au, cu, rfl, hcu⟩ := hu'
  obtain ⟨n, en⟩ : ∃ n, Hid (l.length = n) := ⟨_, Lib.hid rfl⟩
  have hn : n = l.length := en.out.symm
  rw [en.out] at HP HU hcu ⊢
  have hln : n ≤ 9223372036854775807 := by omega
  have hln2 : b.length + 8 + n ≤ 140737488355328 := by omega
  clear hi hu hv hsz hn hcu
  go_enter Tryz.func22, Tryz.ntmps22
  go_wp2_with fail
  refine (HP.out).mono ?_
  rintro _ w1 ⟨v1, rfl, ho, hb⟩
  have hl1 : (b ++ be (many 4) n).length = b.length + 4 := by rw [List.length_append, be_length]; rfl
  obtain ⟨a1, c1, rfl⟩ := own_parts ho hl1
  have ho' : OwnV w1 w.heap.size 5 1 (.slice a1 (b.length + 4) c1) (b.length + 4) (cellsK .u8 (b ++ be 4 n)) := by unfold Own at ho; rw [hl1] at ho; exact ho
  have HO := Lib.hid ho'
  have hs := (HU.out.later hb).src
  rw [en.out] at hs
  have HS := Lib.hid hs
  have HB := Lib.hid hb
  have HLT := Lib.hid (fun g hg => (OwnV.lt ho' g hg))
  have hs1 := hb.size
  clear ho ho' hb hs hl1 HP HU
  go_wp2_with (at_builtin; refine wpList_append_V rfl _ _ 22 rfl w.heap.size 5 i0 (.int .u8 0) 1 1 Tryz.underlying22 HI.out hz0 hz1 hz2 rfl (.slice a1 (b.length + 4) c1) (b.length + 4) (cellsK .u8 (b ++ be 4 n)) rfl HO.out (.slice au n cu) n (cellsK .u8 l) rfl HS.out (by unfold maxLen; omega) (by omega) hs1 ?_; intro v' w2 ho hg; have HO2 := Lib.hid ho; have HGr := Lib.hid hg; clear ho hg)
  obtain ⟨a7, c7, rfl⟩ := HO2.out.sl
  go_ret
  exact ⟨_, rfl, by have h1 := HO2.out; unfold Own; rw [show (b ++ (be 4 n ++ l)).length = b.length + 4 + n by simp [be_length, en.out]; omega, ← List.append_assoc, cellsK_append]; exact h1, HB.out.grown HGr.out hs1 (fun k hk => (HLT.out k hk).1)⟩
end Go.Proofs.YtplhfbflgjnjmaaGreatDoor
