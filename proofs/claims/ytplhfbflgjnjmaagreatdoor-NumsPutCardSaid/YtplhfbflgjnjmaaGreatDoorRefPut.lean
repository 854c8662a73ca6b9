/- The reference's Put, PutLong, PutBytes. -/
import Derived.Test.YtplhfbflgjnjmaaGreatDoorBook7
namespace Go.Proofs.YtplhfbflgjnjmaaGreatDoor
open Go.ChangeShapes Go.WideShapes Go.ChangeAt Go.RowKit

/-- The lowest bytes, the lowest first. -/
def lows (n : Nat) : Nat → List Nat
  | 0 => []
  | i + 1 => lows n i ++ [n / 256 ^ i % 256]
theorem lows_length (n : Nat) : ∀ i, (lows n i).length = i
  | 0 => rfl
  | i + 1 => by rw [lows, List.length_append, lows_length n i]; rfl
theorem lows_get (n : Nat) : ∀ {i p : Nat}, p < i → (lows n i)[p]? = some (n / 256 ^ p % 256)
  | i + 1, p, h => by
    have hl := lows_length n i
    by_cases hp : p < i
    · rw [lows, List.getElem?_append_left (by omega), lows_get n hp]
    · obtain rfl : p = i := by omega
      rw [lows, List.getElem?_append_right (by omega), hl]
      simp
theorem div_next (n i : Nat) : n / 256 ^ i / 256 = n / 256 ^ (i + 1) := by rw [Nat.div_div_eq_div_mul, Nat.pow_succ]
set_option maxRecDepth 20000 in
set_option maxHeartbeats 3000000 in
theorem RPut_M {b : List Nat} {a : Option Addr} {n0 c : Nat} (w : World) (E0 : Hid (b.length = n0)) (hv : KAt .u8 w (.slice a n0 c) b) (n : Nat) (hn : n < 18446744073709551616) (bytes : Int) (mx M : Nat) (hM8 : M ≤ 8) (hsz : n0 + 8 ≤ 140737488355328)
    (hmx : ∀ w, (Builtin.max_ #[3, 3] 3 #[.int .i64 0, .int .i64 bytes]).run Tryz.prog w = .ok (.int .i64 mx) w) (hmn : ∀ w, (Builtin.min_ #[3, 3] 3 #[.int .i64 8, .int .i64 mx]).run Tryz.prog w = .ok (.int .i64 M) w) :
    Calls Tryz.prog 20 #[.slice a n0 c, .int .u64 n, .int .i64 bytes] w fun e w' => ∃ a' c', e = .returned (.slice a' (n0 + M) c') ∧ OwnV w' w.heap.size 5 1 (.slice a' (n0 + M) c') (n0 + M) (cellsK .u8 (b ++ be M n)) ∧ Below w.heap.size w w' := by
  obtain ⟨i0, hi, hz0, hz1, hz2⟩ := info_parts infoB
  have HI := Lib.hid hi
  have HE := Lib.hid (own_nil w w.heap.size)
  have hsrc := hv.src
  rw [E0.out] at hsrc
  have HS := Lib.hid hsrc
  have hn64 : n ≤ 18446744073709551615 := by omega
  clear hi hv hsrc
  go_enter Tryz.func20, Tryz.ntmps20
  go_wp2_with (at_builtin; refine wpList_append_W rfl (.const (.slice none 0 0)) (.tmp 12) 22 rfl w.heap.size 5 i0 (.int .u8 0) 1 1 Tryz.underlying22 HI.out hz0 hz1 hz2 rfl (.slice none 0 0) 0 [] rfl HE.out (.slice a n0 c) n0 (cellsK .u8 b) rfl HS.out (by unfold maxLen; omega) (by omega) (Nat.le_refl _) ?_
               intro v7 w1 ho hg hl
               obtain ⟨a7, c7, rfl⟩ := ho.sl
               have HO := Lib.hid (show OwnV w1 w.heap.size 5 1 (.slice a7 (0 + n0) c7) (0 + n0) (cellsK .u8 b) from ho)
               have HB1 := Lib.hid ((Below.refl w.heap.size w).grown hg (Nat.le_refl _) (fun k hk => by simp [Value.ownBlock] at hk))
               clear ho hg hl)
  have ho7 := HO.out
  rw [Nat.zero_add] at ho7
  have HO7 := Lib.hid ho7
  have H7B := Lib.hid (fun g hg => (OwnV.lt ho7 g hg).2)
  have hs01 := HB1.out.size
  clear ho7 HO HE HS
  go_loopw [1, 9, 10] (fun u v i wr => ∃ i' : Nat, i' ≤ M ∧ i = .int .i64 i' ∧ u = .int .u64 (n / 256 ^ i' : Nat) ∧ OwnV wr w1.heap.size 5 1 v i' (cellsK .u8 (lows n i')) ∧ Below w1.heap.size w1 wr) (fun _ _ i _ => M - (intOf i).toNat)
  case atStart => exact ⟨0, Nat.zero_le _, rfl, by simp, own_nil _ _, Below.refl _ _⟩
  case round =>
    obtain ⟨i, hi, rfl, rfl, hown, hbel⟩ := hrel
    obtain ⟨wo, rfl⟩ : ∃ wo : World, wo = wr := ⟨_, rfl⟩
    obtain ⟨a9, c9, rfl⟩ := hown.sl
    have HP := Lib.hid hown
    have HB := Lib.hid hbel
    have hs1o := hbel.size
    clear hown hbel
    by_cases hlt : i < M
    · have hdl : n / 256 ^ i ≤ n := Nat.div_le_self _ _
      have HDN := Lib.hid (div_next n i)
      have HBY := Lib.hid (show lows n (i + 1) = lows n i ++ [n / 256 ^ i % 256] from rfl)
      obtain ⟨q, hq⟩ : ∃ q, q = n / 256 ^ i := ⟨_, rfl⟩
      rw [← hq] at HDN HBY hdl ⊢
      clear hq hmx hmn
      go_wp2_with (at_builtin; refine wpList_append_W rfl (.tmp 22) (.tmp 26) 22 rfl w1.heap.size 5 i0 (.int .u8 0) 1 1 Tryz.underlying22 HI.out hz0 hz1 hz2 rfl (.slice a9 i c9) i (cellsK .u8 (lows n i)) rfl (OwnV.later HP.out ((Below.refl _ _).alloc (Nat.le_refl _) _)) (.slice (some ⟨wo.heap.size, 0, none⟩) 1 1) 1 [.int .u8 ((q : Int) % 256)] rfl (src_one _ _ _) (by unfold maxLen; omega) (by omega) (by simp; omega) ?_
                   intro v3 w3 ho3 hg3 hl3
                   have HO3 := Lib.hid ho3
                   have HG3 := Lib.hid hg3
                   clear ho3 hg3 hl3)
      go_roundw
      case rel => exact ⟨i + 1, by omega, by go_num, by rw [← HDN.out]; exact congrArg (Value.int .u64) (by simp), by
        rw [HBY.out, cellsK_append, show cellsK .u8 [q % 256] = [.int .u8 ((q : Int) % 256)] by simp [cellsK]]
        exact HO3.out, (HB.out.alloc hs1o _).grown HG3.out (by simp; omega) (fun g hg => (OwnV.lt HP.out g hg).1)⟩
      case measure => simp [intOf]; omega
    · obtain rfl : i = M := by omega
      clear hlt hmx hmn
      obtain ⟨q0, hq0⟩ : ∃ q : Nat, q = n / 256 ^ i := ⟨_, rfl⟩
      rw [← hq0]
      clear hq0
      have HOO := Lib.hid (OwnV.later (HO7.out) HB.out)
      have HLB := Lib.hid (fun g hg => OwnV.lt HP.out g hg)
      have HBO := Lib.hid (below_on HB1.out HB.out)
      have hapart : ∀ g, (Value.slice a9 i c9).ownBlock = some g → (Value.slice a7 n0 c7).ownBlock ≠ some g := fun g hg e => by have := HLB.out g hg; have := H7B.out g e; omega
      have HAP := Lib.hid hapart
      clear hapart
      go_wp2
      go_loopw [7, 11] (fun v j wr => ∃ j' : Nat, j' ≤ i ∧ j = .int .i64 ((i : Int) - 1 - j') ∧ OwnV wr w.heap.size 5 1 v (n0 + j') (cellsK .u8 (b ++ (be i n).take j')) ∧ OwnV wr w1.heap.size 5 1 (.slice a9 i c9) i (cellsK .u8 (lows n i)) ∧ (∀ g, (Value.slice a9 i c9).ownBlock = some g → v.ownBlock ≠ some g) ∧ Below w.heap.size w wr) (fun _ j _ => (intOf j + 1).toNat)
      case atStart => exact ⟨0, Nat.zero_le _, by go_num, by simpa using HOO.out, HP.out, HAP.out, HBO.out⟩
      case round =>
        obtain ⟨j, hj, rfl, hout, hlow, hap, hbl⟩ := hrel
        obtain ⟨wq, rfl⟩ : ∃ wq : World, wq = wr := ⟨_, rfl⟩
        obtain ⟨a8, c8, rfl⟩ := hout.sl
        have HOUT := Lib.hid hout
        have HLOW := Lib.hid hlow
        have HAPP := Lib.hid hap
        have HBL := Lib.hid hbl
        have hsl := hbl.size
        clear hap hbl hout
        by_cases hlt : j < i
        · have hin : i - 1 - j < i := by omega
          have hidx : (i : Int) - 1 - j = ((i - 1 - j : Nat) : Int) := by omega
          have hbyte := lows_get n hin
          have hh := hlow.2
          rcases hh with ⟨_, hh⟩ | ⟨g, o, cap, cur, hh, hg1, hg2, hg3, hg4, _⟩
          · omega
          cases hh
          have hc := OwnV.cells hlow (i - 1 - j) (.int .u8 ((n / 256 ^ (i - 1 - j) % 256 : Nat) : Int)) (by rw [cellsK_get, hbyte]; rfl)
          rw [Addr.add_lit] at hc
          have hltg : g < wq.heap.size := (Array.getElem?_eq_some_iff.1 hg2).1
          have HTS := Lib.hid (be_take_step (k := i) (x := n) hlt)
          obtain ⟨q, hq⟩ : ∃ q, q = n / 256 ^ (i - 1 - j) % 256 := ⟨_, rfl⟩
          rw [← hq] at hc HTS
          rw [hidx]
          unfold maxLen at hg4
          obtain ⟨p, hp⟩ : ∃ p, p = i - 1 - j := ⟨_, rfl⟩
          rw [← hp] at hc hin ⊢
          have hpi : p + j + 1 = i := by omega
          clear hq hbyte hlow hg2 hidx hp
          go_wp2_with (at_builtin; refine wpList_append_W rfl (.tmp 36) (.tmp 41) 22 rfl w.heap.size 5 i0 (.int .u8 0) 1 1 Tryz.underlying22 HI.out hz0 hz1 hz2 rfl (.slice a8 (n0 + j) c8) (n0 + j) (cellsK .u8 (b ++ (be i n).take j)) rfl (OwnV.later HOUT.out ((Below.refl _ _).alloc (Nat.le_refl _) _)) (.slice (some ⟨wq.heap.size, 0, none⟩) 1 1) 1 [.int .u8 (q : Int)] rfl (src_one _ _ _) (by unfold maxLen; omega) (by omega) (by simp; omega) ?_
                       intro v3 w3 ho3 hg3 hl3
                       have HO3 := Lib.hid ho3
                       have HG3 := Lib.hid hg3
                       have HL3 := Lib.hid hl3
                       clear ho3 hg3 hl3)
          go_roundw
          case rel => exact ⟨j + 1, by omega, by go_num, by
            rw [HTS.out, ← List.append_assoc, cellsK_append, show cellsK .u8 [q] = [.int .u8 (q : Int)] from rfl]
            exact HO3.out, OwnV.kept (OwnV.later HLOW.out ((Below.refl _ _).alloc (Nat.le_refl _) _)) HG3.out (.inr (fun e => HAPP.out g rfl (by rw [← e]; rfl))), fun g9 hg9 => by
              cases hg9
              exact lies_apart HL3.out (HAPP.out g rfl) (by simp; omega), (HBL.out.alloc hsl _).grown HG3.out (by simp; omega) (fun k hk => (OwnV.lt HOUT.out k hk).1)⟩
          case measure => simp [intOf]
        · obtain rfl : j = i := by omega
          clear hlt hlow
          go_wp2
          go_ret
          exact ⟨_, _, rfl, by have h := HOUT.out; rwa [List.take_of_length_le (by rw [be_length]; exact Nat.le_refl _)] at h, HBL.out⟩
end Go.Proofs.YtplhfbflgjnjmaaGreatDoor
