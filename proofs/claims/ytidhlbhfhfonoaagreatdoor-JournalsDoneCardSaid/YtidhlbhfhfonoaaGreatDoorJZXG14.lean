/- Layer 18 (journals), in plain words: checks, records laid one behind the other, and what is told of bytes; Layer 18 (journals): a check goes on over bytes; Layer 18's reference: a check that goes on bit by bit is the one that goes on byte by byte, in plain words; Layer 18's reference: a check goes on; four bytes of a number; a record is laid; Layer 18's reference: four bytes of a number; a record is laid -/
import Derived.Test.YtidhlbhfhfonoaaGreatDoorJZXG01
import Derived.Test.YtidhlbhfhfonoaaGreatDoorJZXG12
import Derived.Test.YtidhlbhfhfonoaaGreatDoorJZXG13
import Derived.Laws.BitsAllLaws
import Derived.Test.YtidhlbhfhfonoaaGreatDoorJZXG04
namespace Go.Proofs.YtidhlbhfhfonoaaGreatDoor

/-- One bit of a check. -/
def stepC (c : Nat) : Nat := if c / 2147483648 = 1 then (c * 2 % 4294967296) ^^^ 79764919 else c * 2 % 4294967296
def stepsC : Nat → Nat → Nat
  | 0, c => c
  | k + 1, c => stepsC k (stepC c)
/-- A byte more. -/
def byteC (c x : Nat) : Nat := stepsC 8 (c ^^^ (x * 16777216))
def crc (c : Nat) (l : List Nat) : Nat := l.foldl byteC c
abbrev firstC : Nat := 4294967295
def num4 (n : Nat) : List Nat := [n / 16777216 % 256, n / 65536 % 256, n / 256 % 256, n % 256]
def val4 : List Nat → Nat
  | a :: b :: c :: d :: _ => a * 16777216 + b * 65536 + c * 256 + d
  | _ => 0
/-- A record's bytes ahead of its check. -/
def headR (r : List Nat) : List Nat := num4 r.length ++ r
/-- Its check, behind c. -/
def nextC (c : Nat) (r : List Nat) : Nat := crc c (headR r)
def laidR (c : Nat) (r : List Nat) : List Nat := headR r ++ num4 (nextC c r)
/-- What is told of bytes, behind a check: each record with its check. -/
def recsF : Nat → Nat → List Nat → List (List Nat × Nat)
  | 0, _, _ => []
  | f + 1, c, b => if b.length < 8 then [] else
      if val4 b > 65536 ∨ val4 b > b.length - 8 then [] else
        if num4 (crc c (b.take (4 + val4 b))) = (b.drop (4 + val4 b)).take 4 then
          ((b.drop 4).take (val4 b), crc c (b.take (4 + val4 b))) :: recsF f (crc c (b.take (4 + val4 b))) (b.drop (4 + val4 b + 4))
        else []
def recs (c : Nat) (b : List Nat) : List (List Nat × Nat) := recsF (b.length + 1) c b
theorem recsF_more : ∀ (f g c : Nat) (b : List Nat), b.length < f → b.length < g → recsF f c b = recsF g c b
  | 0, _, _, _, h, _ => absurd h (Nat.not_lt_zero _)
  | _, 0, _, _, _, h => absurd h (Nat.not_lt_zero _)
  | f + 1, g + 1, c, b, h, h' => by
    unfold recsF
    split
    · rfl
    · split
      · rfl
      · split
        · rw [recsF_more f g _ _ (by simp; omega) (by simp; omega)]
        · rfl
theorem recs_eq (c : Nat) (b : List Nat) : recs c b = if b.length < 8 then [] else
      if val4 b > 65536 ∨ val4 b > b.length - 8 then [] else
        if num4 (crc c (b.take (4 + val4 b))) = (b.drop (4 + val4 b)).take 4 then
          ((b.drop 4).take (val4 b), crc c (b.take (4 + val4 b))) :: recs (crc c (b.take (4 + val4 b))) (b.drop (4 + val4 b + 4))
        else [] := by
  unfold recs
  rw [recsF]
  split
  · rfl
  · split
    · rfl
    · split
      · rw [recsF_more b.length ((b.drop (4 + val4 b + 4)).length + 1) _ _ (by simp; omega) (by omega)]
      · rfl
/-! ### Numbers in four bytes -/
theorem num4_length (n : Nat) : (num4 n).length = 4 := rfl
theorem num4_bytes (n : Nat) : ∀ x ∈ num4 n, x < 256 := by
  intro x hx
  simp only [num4, List.mem_cons, List.not_mem_nil, or_false] at hx
  rcases hx with rfl | rfl | rfl | rfl <;> exact Nat.mod_lt _ (by omega)
/-! ### Checks -/
theorem stepC_lt {c : Nat} (_ : c < 4294967296) : stepC c < 4294967296 := by
  unfold stepC
  split
  · exact Nat.xor_lt_two_pow (n := 32) (by omega) (by omega)
  · omega
theorem stepsC_lt : ∀ (k : Nat) {c : Nat}, c < 4294967296 → stepsC k c < 4294967296
  | 0, _, h => h
  | k + 1, _, h => stepsC_lt k (stepC_lt h)
theorem xor_lt32 {c x : Nat} (hc : c < 4294967296) (hx : x < 256) : c ^^^ (x * 16777216) < 4294967296 :=
  Nat.xor_lt_two_pow (n := 32) (by omega) (by omega)
theorem byteC_lt {c x : Nat} (hc : c < 4294967296) (hx : x < 256) : byteC c x < 4294967296 := stepsC_lt 8 (xor_lt32 hc hx)
theorem crc_nil (c : Nat) : crc c [] = c := rfl
theorem crc_cons (c x : Nat) (l : List Nat) : crc c (x :: l) = crc (byteC c x) l := rfl
theorem crc_append (c : Nat) (l m : List Nat) : crc c (l ++ m) = crc (crc c l) m := List.foldl_append
theorem crc_lt : ∀ (l : List Nat) {c : Nat}, c < 4294967296 → (∀ x ∈ l, x < 256) → crc c l < 4294967296
  | [], _, h, _ => h
  | x :: l, _, h, hl => crc_lt l (byteC_lt h (hl x (List.mem_cons_self ..))) fun y hy => hl y (List.mem_cons_of_mem _ hy)
theorem headR_bytes {r : List Nat} (h : ∀ x ∈ r, x < 256) : ∀ x ∈ headR r, x < 256 := fun x hx => by
  rcases List.mem_append.1 hx with hx | hx
  · exact num4_bytes _ x hx
  · exact h x hx
theorem headR_length (r : List Nat) : (headR r).length = 4 + r.length := by simp [headR, num4_length]
theorem nextC_lt {c : Nat} {r : List Nat} (hc : c < 4294967296) (hr : ∀ x ∈ r, x < 256) : nextC c r < 4294967296 := crc_lt _ hc (headR_bytes hr)
theorem laidR_length (c : Nat) (r : List Nat) : (laidR c r).length = r.length + 8 := by
  simp only [laidR, List.length_append, headR_length, num4_length]
  omega
theorem laidR_bytes {c : Nat} {r : List Nat} (h : ∀ x ∈ r, x < 256) : ∀ x ∈ laidR c r, x < 256 := fun x hx => by
  rcases List.mem_append.1 hx with hx | hx
  · exact headR_bytes h x hx
  · exact num4_bytes _ x hx
/-! ### What is told -/
/-- What is told: the records alone. -/
def told (b : List Nat) : List (List Nat) := (recs firstC b).map Prod.fst
end Go.Proofs.YtidhlbhfhfonoaaGreatDoor
namespace Go.Proofs.YtidhlbhfhfonoaaGreatDoor
open Go.ChangeShapes Go.WideShapes Go.ChangeAt Go.RowKit

/-- The slice v holds these slices of bytes. -/
def PartsAt (w : World) (v : Value) (L : List (List Nat)) : Prop :=
  ∃ (ao : Option Addr) (cap : Nat), v = .slice ao L.length cap ∧ L.length ≤ cap ∧ cap ≤ maxLen ∧ (ao = none → cap = 0) ∧
    (0 < L.length → ∃ b o, ao = some ⟨b, o, none⟩ ∧ ∀ (i : Nat) (l : List Nat), L[i]? = some l → ∃ u, w.cell? ⟨b, o + i, none⟩ = some u ∧ KAt .u8 w u l)
theorem PartsAt.later {w w' : World} {v : Value} {L : List (List Nat)} (h : PartsAt w v L) (hb : Below w.heap.size w w') : PartsAt w' v L := by
  obtain ⟨ao, cap, h1, h2, h3, h4, h5⟩ := h
  refine ⟨ao, cap, h1, h2, h3, h4, fun h0 => ?_⟩
  obtain ⟨b, o, h6, h7⟩ := h5 h0
  refine ⟨b, o, h6, fun i l hl => ?_⟩
  obtain ⟨u, h8, h9⟩ := h7 i l hl
  exact ⟨u, cell_on h8 hb, h9.later hb⟩
theorem crc_drop {c : Nat} {l : List Nat} {k x : Nat} (h : l[k]? = some x) : crc c (l.drop k) = crc (byteC c x) (l.drop (k + 1)) := by
  obtain ⟨hk, rfl⟩ := List.getElem?_eq_some_iff.1 h
  rw [List.drop_eq_getElem_cons hk, crc_cons]
theorem crc_flat {c : Nat} {L : List (List Nat)} {k : Nat} {l : List Nat} (h : L[k]? = some l) : crc c (L.drop k).flatten = crc (crc c l) (L.drop (k + 1)).flatten := by
  obtain ⟨hk, rfl⟩ := List.getElem?_eq_some_iff.1 h
  rw [List.drop_eq_getElem_cons hk, List.flatten_cons, crc_append]
set_option linter.unusedSimpArgs false in
set_option linter.unusedVariables false in
set_option maxRecDepth 20000 in
set_option maxHeartbeats 4000000 in
theorem over_any {c0 : Nat} {v : Value} {L : List (List Nat)} (w : World) (hc0 : c0 < 4294967296) (hL : ∀ l ∈ L, Bytes l) (hv : PartsAt w v L) :
    Calls Tryz.prog 115 #[.int .u32 c0, v] w fun e w' => e = .returned (.int .u32 (crc c0 L.flatten)) ∧ ∃ n, w' = w.drewN n := by
  obtain ⟨ao, cap, rfl, hc1, hc2, hc3, hc4⟩ := hv
  unfold maxLen at hc2
  obtain ⟨m, hm⟩ : ∃ m, m = L.length := ⟨_, rfl⟩
  have HM := Lib.hid hm
  have HL := Lib.hid hL
  rw [← hm] at hc1 hc4 ⊢
  have H4 := Lib.hid hc4
  have hm9 : (m : Int) ≤ 9223372036854775807 := by omega
  clear hc3 hc4 hm hL
  go_enter Tryz.func115, Tryz.ntmps115
  go_wp2_with fail
  go_loopw [0, 12] (fun c i wr => ∃ k n cc : Nat, k ≤ m ∧ i = .int .i64 k ∧ c = .int .u32 cc ∧ cc < 4294967296 ∧ Hid (crc cc (L.drop k).flatten = crc c0 L.flatten) ∧ wr = w.drewN n) (fun _ i _ => m - (intOf i).toNat)
  case atStart => exact ⟨0, 0, c0, Nat.zero_le _, rfl, rfl, hc0, Lib.hid rfl, rfl⟩
  case round =>
    obtain ⟨k, n, cc, hk, rfl, rfl, hcc, HC, rfl⟩ := hrel
    by_cases hlt : k < m
    · have hltI : (k : Int) < (m : Int) := by omega
      obtain ⟨l, hl⟩ : ∃ l, L[k]? = some l := ⟨_, List.getElem?_eq_getElem (by rw [← HM.out]; exact hlt)⟩
      obtain ⟨b, o, rfl, hcell⟩ := H4.out (by omega)
      obtain ⟨u, hu, hkl⟩ := hcell k l hl
      have hlb := HL.out l (List.mem_of_getElem? hl)
      obtain ⟨ao2, cap2, rfl, hd1, hd2, hd3, hd4⟩ := hkl
      unfold maxLen at hd2
      obtain ⟨q, hq⟩ : ∃ q, q = l.length := ⟨_, rfl⟩
      have HQ := Lib.hid hq
      rw [← hq] at hd1 hd4 hu
      have H5 := Lib.hid hd4
      have HLK := Lib.hid hl
      have HLB := Lib.hid hlb
      have hq9 : (q : Int) ≤ 9223372036854775807 := by omega
      clear hcell hl hd3 hd4 hq hlb
      go_wp2_with fail
      go_loopw [0, 18] (fun c i wr => ∃ k2 n2 c2 : Nat, k2 ≤ q ∧ i = .int .i64 k2 ∧ c = .int .u32 c2 ∧ c2 < 4294967296 ∧ Hid (crc c2 (l.drop k2) = crc cc l) ∧ wr = w.drewN n2) (fun _ i _ => q - (intOf i).toNat)
      case atStart => exact ⟨0, _, cc, Nat.zero_le _, rfl, rfl, hcc, Lib.hid rfl, rfl⟩
      case round =>
        obtain ⟨k2, n2, c2, hk2, rfl, rfl, hc2', HC2, rfl⟩ := hrel
        by_cases hlt2 : k2 < q
        · have hlt2I : (k2 : Int) < (q : Int) := by omega
          obtain ⟨x, hx⟩ : ∃ x, l[k2]? = some x := ⟨_, List.getElem?_eq_getElem (by rw [← HQ.out]; exact hlt2)⟩
          obtain ⟨b2, o2, rfl, hcell2⟩ := H5.out (by omega)
          have cc2 := hcell2 k2 x hx
          have hx9 := HLB.out x (List.mem_of_getElem? hx)
          have HX := Lib.hid hx
          clear hcell2 hx
          obtain ⟨y, hy⟩ : ∃ y, y = x * 16777216 := ⟨_, rfl⟩
          have hy9 : y < 4294967296 := by omega
          obtain ⟨z, hz⟩ : ∃ z, z = c2 ^^^ y := ⟨_, rfl⟩
          have ez : bits .xor .u32 (c2 : Int) ((x : Int) * 16777216) = (z : Int) := by rw [show (x : Int) * 16777216 = (y : Int) by omega, hz]; exact u32_xor_nat _ _ hc2' hy9
          have HZ := Lib.hid (show byteC c2 x = stepsC 8 z by rw [byteC, hz, hy])
          have hz9 : z < 4294967296 := by rw [hz, hy]; exact xor_lt32 hc2' hx9
          clear hy hz
          go_wp2_with fail
          go_loopw [0, 27] (fun c i wr => ∃ k3 c3 : Nat, k3 ≤ 8 ∧ i = .int .i64 k3 ∧ c = .int .u32 c3 ∧ c3 < 4294967296 ∧ Hid (stepsC (8 - k3) c3 = stepsC 8 z) ∧ wr = w.drewN n2) (fun _ i _ => 8 - (intOf i).toNat)
          case atStart => exact ⟨0, z, by omega, rfl, rfl, hz9, Lib.hid rfl, rfl⟩
          case round =>
            obtain ⟨k3, c3, hk3, rfl, rfl, hc3', HC3, rfl⟩ := hrel
            by_cases hlt3 : k3 < 8
            · have hlt3I : (k3 : Int) < 8 := by omega
              have hst : stepsC (8 - k3) c3 = stepsC (8 - (k3 + 1)) (stepC c3) := by
                rw [show 8 - k3 = (8 - (k3 + 1)) + 1 by omega]
                rfl
              have HST := Lib.hid hst
              clear hst
              obtain ⟨e, he⟩ : ∃ e, e = c3 * 2 % 4294967296 := ⟨_, rfl⟩
              have ee : IntKind.u32.wrap ((c3 : Int) * 2) = (e : Int) := by rw [IntKind.wrap_u32']; omega
              have he9 : e < 4294967296 := by omega
              obtain ⟨t, ht⟩ : ∃ t, t = c3 / 2147483648 := ⟨_, rfl⟩
              have et : (c3 : Int) / 2 ^ 31 = (t : Int) := by rw [ht]; rfl
              have et2 : (c3 : Int) / 2147483648 = (t : Int) := by rw [ht]; rfl
              obtain ⟨f, hf⟩ : ∃ f, f = e ^^^ 79764919 := ⟨_, rfl⟩
              have ef : bits .xor .u32 (e : Int) 79764919 = (f : Int) := by rw [hf]; exact u32_xor_nat _ 79764919 he9 (by decide)
              have hf9 : f < 4294967296 := by rw [hf]; exact Nat.xor_lt_two_pow (n := 32) he9 (by decide)
              by_cases h1 : t = 1
              · have h1I : (t : Int) = 1 := by omega
                have HS := Lib.hid (show stepC c3 = f by rw [stepC, if_pos (by rw [← ht]; exact h1), hf, he])
                clear hf he ht
                go_wp2_with fail
                go_roundw
                case rel => exact ⟨k3 + 1, f, by omega, by go_num, rfl, hf9, Lib.hid (by rw [← HC3.out, HST.out, HS.out]), trivial⟩
                case measure => simp [intOf]; omega
              · have h1I : ¬ ((t : Int) = 1) := by omega
                have HS := Lib.hid (show stepC c3 = e by rw [stepC, if_neg (by rw [← ht]; exact h1), he])
                clear hf he ht
                go_wp2_with fail
                go_roundw
                case rel => exact ⟨k3 + 1, e, by omega, by go_num, rfl, he9, Lib.hid (by rw [← HC3.out, HST.out, HS.out]), trivial⟩
                case measure => simp [intOf]; omega
            · obtain rfl : k3 = 8 := by omega
              have hS : c3 = byteC c2 x := by
                have h9 := HC3.out
                rw [HZ.out, ← h9]
                rfl
              have HS := Lib.hid hS
              clear hS
              go_wp2_with fail
              go_roundw
              case rel => exact ⟨k2 + 1, _, c3, by omega, by go_num, rfl, hc3', Lib.hid (by rw [← HC2.out, crc_drop HX.out, HS.out]), rfl⟩
              case measure => simp [intOf]; omega
        · obtain rfl : k2 = q := by omega
          have hlt2I : ¬ ((k2 : Int) < (k2 : Int)) := by omega
          have hS : c2 = crc cc l := by
            have h9 := HC2.out
            rw [HQ.out, List.drop_length, crc_nil] at h9
            exact h9
          have HS := Lib.hid hS
          clear hS
          go_wp2_with fail
          go_roundw
          case rel => exact ⟨k + 1, _, c2, by omega, by go_num, rfl, hc2', Lib.hid (by rw [← HC.out, crc_flat HLK.out, HS.out]), rfl⟩
          case measure => simp [intOf]; omega
    · obtain rfl : k = m := by omega
      have hltI : ¬ ((k : Int) < (k : Int)) := by omega
      have hS : cc = crc c0 L.flatten := by
        have h9 := HC.out
        rw [HM.out, List.drop_length] at h9
        exact h9
      have HS := Lib.hid hS
      clear hS
      go_wp2_with fail
      go_ret
      refine ⟨?_, _, rfl⟩
      rw [← HS.out]
      rfl
end Go.Proofs.YtidhlbhfhfonoaaGreatDoor
namespace Go.Proofs.YtidhlbhfhfonoaaGreatDoor
def onBit (c b : Nat) : Nat := if c / 2147483648 ^^^ b = 1 then (c * 2 % 4294967296) ^^^ 79764919 else c * 2 % 4294967296
/-- The lowest k bits of x, the highest first. -/
def onBits : Nat → Nat → Nat → Nat
  | 0, c, _ => c
  | k + 1, c, x => onBits k (onBit c (x / 2 ^ k % 2)) x
theorem xor_double (a b : Nat) : (a ^^^ b) * 2 % 4294967296 = (a * 2 % 4294967296) ^^^ (b * 2 % 4294967296) := by
  have e : (4294967296 : Nat) = 2 ^ 32 := rfl
  rw [e, ← Nat.xor_mod_two_pow]
  congr 1
  have h := Nat.shiftLeft_xor_distrib (a := a) (b := b) (i := 1)
  simpa [Nat.shiftLeft_eq] using h
theorem xor_top (a b : Nat) : (a ^^^ b) / 2147483648 = a / 2147483648 ^^^ b / 2147483648 := by
  have h := Nat.shiftRight_xor_distrib (a := a) (b := b) (i := 31)
  simpa [Nat.shiftRight_eq_div_pow] using h
theorem bit_step {k : Nat} (hk : k < 8) (c x : Nat) : stepC (c ^^^ (x % 2 ^ (k + 1) * 2 ^ (31 - k))) = onBit c (x / 2 ^ k % 2) ^^^ (x % 2 ^ k * 2 ^ (32 - k)) := by
  have e1 : 2 ^ k * 2 ^ (31 - k) = 2147483648 := by rw [← Nat.pow_add, show k + (31 - k) = 31 by omega]
  have hpos : 0 < 2 ^ (31 - k) := Nat.two_pow_pos _
  have h0 : x % 2 ^ (k + 1) = x / 2 ^ k % 2 * 2 ^ k + x % 2 ^ k := by
    rw [Nat.pow_succ, Nat.mod_mul, Nat.add_comm, Nat.mul_comm]
  have hlt : x % 2 ^ k < 2 ^ k := Nat.mod_lt _ (Nat.two_pow_pos _)
  have e2 : x % 2 ^ (k + 1) * 2 ^ (31 - k) = x / 2 ^ k % 2 * 2147483648 + x % 2 ^ k * 2 ^ (31 - k) := by rw [h0, Nat.add_mul, Nat.mul_assoc, e1]
  have hlow : x % 2 ^ k * 2 ^ (31 - k) < 2147483648 := by rw [← e1]; exact Nat.mul_lt_mul_of_pos_right hlt hpos
  have e3 : x % 2 ^ (k + 1) * 2 ^ (31 - k) / 2147483648 = x / 2 ^ k % 2 := by rw [e2]; omega
  have e4 : x % 2 ^ (k + 1) * 2 ^ (31 - k) * 2 % 4294967296 = x % 2 ^ k * 2 ^ (32 - k) := by
    have e5 : x % 2 ^ k * 2 ^ (32 - k) = x % 2 ^ k * 2 ^ (31 - k) * 2 := by rw [Nat.mul_assoc, ← Nat.pow_succ, show (31 - k).succ = 32 - k by omega]
    rw [e5, e2]
    omega
  unfold stepC onBit
  rw [xor_top, e3, xor_double, e4]
  split
  · rw [Nat.xor_assoc, Nat.xor_comm _ 79764919, ← Nat.xor_assoc]
  · rfl
theorem stepsC_succ (k c : Nat) : stepsC (k + 1) c = stepsC k (stepC c) := rfl
theorem onBits_eq : ∀ {k : Nat}, k ≤ 8 → ∀ (c x : Nat), onBits k c x = stepsC k (c ^^^ (x % 2 ^ k * 2 ^ (32 - k)))
  | 0, _, c, x => by simp [onBits, stepsC, Nat.mod_one]
  | k + 1, hk, c, x => by
    rw [onBits, onBits_eq (by omega), stepsC_succ, show 32 - (k + 1) = 31 - k by omega, bit_step (by omega)]
theorem on_byte {c x : Nat} (hx : x < 256) : onBits 8 c x = byteC c x := by
  rw [onBits_eq (Nat.le_refl 8)]
  unfold byteC
  rw [Nat.mod_eq_of_lt (by simpa using hx)]
end Go.Proofs.YtidhlbhfhfonoaaGreatDoor
namespace Go.Proofs.YtidhlbhfhfonoaaGreatDoor
open Go.ChangeShapes Go.WideShapes Go.ChangeAt Go.RowKit
theorem crc_take {l : List Nat} {i x c : Nat} (h : l[i]? = some x) : crc c (l.take (i + 1)) = byteC (crc c (l.take i)) x := by
  unfold crc
  rw [List.take_add_one, h, List.foldl_append]
  rfl
set_option linter.unusedSimpArgs false in
set_option linter.unusedVariables false in
set_option maxRecDepth 20000 in
set_option maxHeartbeats 2000000 in
theorem On_any {c0 : Nat} {v : Value} {l : List Nat} (w : World) (hc : c0 < 4294967296) (hv : KAt .u8 w v l) (hb : Bytes l) :
    Calls Tryz.prog 120 #[.int .u32 c0, v] w fun e w' => e = .returned (.int .u32 (crc c0 l)) ∧ ∃ n, w' = w.drewN n := by
  obtain ⟨ao, cap, rfl, hc1, hc2, hc3, hc4⟩ := hv
  unfold maxLen at hc2
  obtain ⟨m, hm⟩ : ∃ m, m = l.length := ⟨_, rfl⟩
  have HM := Lib.hid hm
  rw [← hm] at hc1 hc4 ⊢
  have H4 := Lib.hid hc4
  have HB := Lib.hid hb
  have hm9 : (m : Int) ≤ 9223372036854775807 := by omega
  clear hc3 hc4 hm hb
  go_enter Tryz.func120, Tryz.ntmps120
  go_wp2_with fail
  go_loopw [0, 5] (fun c i wr => ∃ k n y : Nat, k ≤ m ∧ i = .int .i64 k ∧ c = .int .u32 y ∧ y < 4294967296 ∧ Hid (y = crc c0 (l.take k)) ∧ wr = w.drewN n) (fun _ i _ => m - (intOf i).toNat)
  case atStart => exact ⟨0, 0, c0, Nat.zero_le _, rfl, rfl, hc, Lib.hid rfl, rfl⟩
  case round =>
    obtain ⟨k, n, y, hk, rfl, rfl, hy, HY, rfl⟩ := hrel
    by_cases hlt : k < m
    · have hltI : (k : Int) < (m : Int) := by omega
      obtain ⟨x, hx⟩ : ∃ x, l[k]? = some x := ⟨_, List.getElem?_eq_getElem (by rw [← HM.out]; exact hlt)⟩
      obtain ⟨b, o, rfl, hcell⟩ := H4.out (by omega)
      have cx := hcell k x hx
      have hx9 := HB.out x (List.mem_of_getElem? hx)
      have HX := Lib.hid (show crc c0 (l.take (k + 1)) = onBits 8 y x by rw [crc_take hx, ← HY.out, on_byte hx9])
      clear hcell hx
      go_wp2_with fail
      go_loopw [0, 6] (fun c j wr => ∃ q n z : Nat, q ≤ 8 ∧ j = .int .i64 ((q : Int) - 1) ∧ c = .int .u32 z ∧ z < 4294967296 ∧ Hid (onBits q z x = crc c0 (l.take (k + 1))) ∧ wr = w.drewN n) (fun _ j _ => (intOf j + 1).toNat)
      case atStart => exact ⟨8, n, y, Nat.le_refl _, rfl, rfl, hy, Lib.hid HX.out.symm, rfl⟩
      case round =>
        obtain ⟨q, n, z, hq, rfl, rfl, hz, HZ, rfl⟩ := hrel
        by_cases hq0 : q = 0
        · subst hq0
          have HE := Lib.hid (show z = crc c0 (l.take (k + 1)) from HZ.out)
          go_wp2_with fail
          go_roundw
          case rel => exact ⟨k + 1, _, z, by omega, by go_num, rfl, hz, HE, rfl⟩
          case measure => simp [intOf]; omega
        · obtain ⟨p, rfl⟩ : ∃ p, q = p + 1 := ⟨q - 1, by omega⟩
          have eP : ((p + 1 : Nat) : Int) - 1 = (p : Int) := by omega
          have pI : (0 : Int) ≤ (p : Int) := by omega
          have pI2 : (p : Int) ≤ 7 := by omega
          obtain ⟨bt, hbt⟩ : ∃ bt, bt = x / 2 ^ p % 2 := ⟨_, rfl⟩
          have hb2 : bt < 2 := by rw [hbt]; exact Nat.mod_lt _ (by decide)
          have ea : bits .and .u32 ((x : Int) / 2 ^ p % 4294967296) 1 = (bt : Int) := by
            have h1 : x / 2 ^ p < 4294967296 := Nat.lt_of_le_of_lt (Nat.div_le_self _ _) (by omega)
            obtain ⟨Y, hY⟩ : ∃ Y, Y = x / 2 ^ p := ⟨_, rfl⟩
            have hY' : ((x : Int) / 2 ^ p) = (Y : Int) := by rw [hY]; simp
            rw [← hY] at h1 hbt
            rw [hY', show (Y : Int) % 4294967296 = (Y : Int) by omega, show (1 : Int) = ((1 : Nat) : Int) from rfl, u32_and_nat _ 1 h1 (by decide), Nat.and_one_is_mod, hbt]
          obtain ⟨tp, htp⟩ : ∃ tp, tp = z / 2147483648 ^^^ bt := ⟨_, rfl⟩
          have ex : bits .xor .u32 ((z : Int) / 2147483648) (bt : Int) = (tp : Int) := by
            rw [show ((z : Int) / 2147483648) = ((z / 2147483648 : Nat) : Int) by omega, u32_xor_nat _ _ (by omega) (by omega), htp]
          obtain ⟨d, hd⟩ : ∃ d, d = z * 2 % 4294967296 := ⟨_, rfl⟩
          have hd9 : d < 4294967296 := by rw [hd]; exact Nat.mod_lt _ (by decide)
          have ed : (z : Int) * 2 % 4294967296 = (d : Int) := by rw [hd]; omega
          obtain ⟨f, hf⟩ : ∃ f, f = d ^^^ 79764919 := ⟨_, rfl⟩
          have hf9 : f < 4294967296 := by rw [hf]; exact Nat.xor_lt_two_pow (n := 32) hd9 (by decide)
          have ef : bits .xor .u32 (d : Int) 79764919 = (f : Int) := by rw [hf]; exact u32_xor_nat _ 79764919 hd9 (by decide)
          have HO := Lib.hid (show onBits (p + 1) z x = onBits p (if tp = 1 then f else d) x by
            rw [onBits, onBit, ← hbt, ← htp, ← hd, ← hf])
          clear hbt hd hf htp
          by_cases h1 : tp = 1
          · have HO := Lib.hid (show onBits p f x = crc c0 (l.take (k + 1)) by rw [← HZ.out, HO.out, if_pos h1])
            have e1 : ((tp : Int) == 1) = true := by simp; omega
            clear h1
            go_wp2_with fail
            go_roundw
            case rel => exact ⟨p, _, f, by omega, by go_num, rfl, hf9, HO, rfl⟩
            case measure => simp [intOf]
          · have HO := Lib.hid (show onBits p d x = crc c0 (l.take (k + 1)) by rw [← HZ.out, HO.out, if_neg h1])
            have e1 : ((tp : Int) == 1) = false := by simp; omega
            clear h1
            go_wp2_with fail
            go_roundw
            case rel => exact ⟨p, _, d, by omega, by go_num, (by first | rfl | exact congrArg _ ed), hd9, HO, rfl⟩
            case measure => simp [intOf]
    · obtain rfl : k = m := by omega
      have HE := Lib.hid (show y = crc c0 l by rw [HY.out, HM.out, List.take_length])
      go_wp2_with fail
      go_ret
      exact ⟨by rw [← HE.out]; rfl, n, rfl⟩
end Go.Proofs.YtidhlbhfhfonoaaGreatDoor
namespace Go.Proofs.YtidhlbhfhfonoaaGreatDoor
open Go.ChangeShapes Go.WideShapes Go.ChangeAt Go.RowKit
theorem own_lit (w : World) (l : List Nat) (hl : l.length ≤ maxLen) : Own (w.alloc (.cells (cellsK .u8 l).toArray 5)) w.heap.size (.slice (some ⟨w.heap.size, 0, none⟩) l.length l.length) l :=
  ⟨by simp [cellsK_length], .inr ⟨w.heap.size, 0, l.length, _, rfl, Nat.le_refl _, heap_alloc_new w _, Nat.le_refl _, hl, by simp [cellsK_length], by simp only [List.drop_zero, Nat.mul_one]; rw [List.take_of_length_le (by simp [cellsK_length])]⟩⟩
set_option linter.unusedSimpArgs false in
set_option linter.unusedVariables false in
set_option maxRecDepth 20000 in
set_option maxHeartbeats 2000000 in
theorem Rfour_any (n : Nat) (hn : n < 4294967296) (w : World) :
    Calls Tryz.prog 119 #[.int .u32 n] w fun e w' => e = .returned (.slice (some ⟨w.heap.size, 0, none⟩) 4 4) ∧ Own w' w.heap.size (.slice (some ⟨w.heap.size, 0, none⟩) 4 4) (num4 n) ∧ Below w.heap.size w w' := by
  have HO := Lib.hid (own_lit w (num4 n) (by unfold maxLen; simp [num4]))
  have e1 : (n : Int) / 16777216 = ((n / 16777216 % 256 : Nat) : Int) := by omega
  have e2 : (n : Int) / 65536 % 256 = ((n / 65536 % 256 : Nat) : Int) := by omega
  have e3 : (n : Int) / 256 % 256 = ((n / 256 % 256 : Nat) : Int) := by omega
  have e4 : (n : Int) % 256 = ((n % 256 : Nat) : Int) := by omega
  have hnI : (n : Int) < 4294967296 := by omega
  have HC := Lib.hid (show cellsK .u8 (num4 n) = [.int .u8 ((n : Int) / 16777216), .int .u8 ((n : Int) / 65536 % 256), .int .u8 ((n : Int) / 256 % 256), .int .u8 ((n : Int) % 256)] by rw [e1, e2, e3, e4]; rfl)
  clear e1 e2 e3 e4
  go_enter Tryz.func119, Tryz.ntmps119
  go_wp2_with fail
  go_ret
  refine ⟨rfl, ?_, (Below.refl _ _).alloc (Nat.le_refl _) _⟩
  have h9 := HO.out
  rw [HC.out] at h9
  exact h9
set_option linter.unusedSimpArgs false in
set_option linter.unusedVariables false in
set_option maxRecDepth 20000 in
set_option maxHeartbeats 2000000 in
theorem RLaid_any {c : Nat} {v : Value} {r : List Nat} (w : World) (hc : c < 4294967296) (hv : KAt .u8 w v r) (hb : Bytes r) (hr : r.length ≤ 2000000) :
    Calls Tryz.prog 48 #[.int .u32 c, v] w fun e w' => ∃ u, e = .returned (.tuple #[u, .int .u32 (nextC c r)]) ∧ Own w' w.heap.size u (laidR c r) ∧ Below w.heap.size w w' := by
  have HK := Lib.hid hv
  obtain ⟨a, k, hve, _⟩ := hv
  obtain ⟨m, hm⟩ : ∃ m, m = r.length := ⟨_, rfl⟩
  have HM := Lib.hid hm
  rw [← hm] at hve hr
  subst hve
  have mI : (m : Int) ≤ 2000000 := by omega
  have HF1 := Lib.hid (Rfour_any m (by omega) w)
  have hnx : nextC c r < 4294967296 := nextC_lt hc hb
  have HON := Lib.hid (fun (W : World) (u : Value) (hu : KAt .u8 W u (headR r)) => On_any W hc hu (headR_bytes hb))
  obtain ⟨n, hn⟩ : ∃ n, n = nextC c r := ⟨_, rfl⟩
  have HF2 := Lib.hid (fun W : World => Rfour_any n (by rw [hn]; exact hnx) W)
  have HON := Lib.hid (show ∀ (W : World) (u : Value), KAt .u8 W u (headR r) → Calls Tryz.prog 120 #[.int .u32 c, u] W fun e w' => e = .returned (.int .u32 n) ∧ ∃ k, w' = W.drewN k by rw [hn]; exact HON.out)
  have HHD := Lib.hid (show num4 m ++ r = headR r by rw [hm]; rfl)
  have HLD := Lib.hid (show headR r ++ num4 n = laidR c r by rw [hn]; rfl)
  rw [← hn]
  have HHL := Lib.hid (show (headR r).length = 4 + m by rw [headR_length, hm])
  obtain ⟨i0, hi0, hz0, hz1, hz2⟩ := info_parts infoB
  have HI := Lib.hid hi0
  obtain ⟨C, hC⟩ : ∃ C, C = w.heap.size := ⟨_, rfl⟩
  rw [← hC] at HF1 ⊢
  have HC := Lib.hid hC
  clear hn hnx hm hi0 hb hC
  go_enter Tryz.func48, Tryz.ntmps48
  go_wp2_with fail
  refine HF1.out.mono ?_
  rintro _ w1 ⟨rfl, ho, hb⟩
  have HO1 := Lib.hid ho
  have HB1 := Lib.hid hb
  have HSRC := Lib.hid (HK.out.later (show Below w.heap.size w w1 by rw [← HC.out]; exact hb)).src
  have hs1 : C ≤ w1.heap.size := by rw [HC.out]; exact hb.size
  have HSRC := Lib.hid (show SrcV w1 1 (.slice a m k) m (cellsK .u8 r) by have h9 := HSRC.out; rw [← HM.out] at h9; exact h9)
  clear ho hb
  go_upto_region 2 with (
    at_builtin
    refine wpList_append_W rfl _ _ 58 rfl C 5 i0 (.int .u8 0) 1 1 Tryz.underlying58 HI.out hz0 hz1 hz2 rfl (.slice (some ⟨C, 0, none⟩) 4 4) 4 (cellsK .u8 (num4 m)) rfl HO1.out (.slice a m k) m (cellsK .u8 r) rfl HSRC.out (by unfold maxLen; omega) (by omega) hs1 ?_
    intro v2 w2 ho2 hg2 hl2
    obtain ⟨a2, c2, rfl⟩ := ho2.sl
    have HO2 := Lib.hid (show Own w2 C (.slice a2 (4 + m) c2) (headR r) by unfold Own; rw [HHL.out, ← HHD.out, cellsK_append]; exact ho2)
    have HB2 := Lib.hid (HB1.out.grown hg2 hs1 (fun g hg => (OwnV.lt HO1.out g hg).1))
    clear ho2 hg2 hl2)
  go_wp2_with fail
  refine (HON.out w2 _ HO2.out.at_).mono ?_
  rintro _ w3 ⟨rfl, k3, e3⟩
  have hb3 : Below w2.heap.size w2 w3 := by rw [e3]; exact below_drewN9 _ _
  have HO3 := Lib.hid (HO2.out.later hb3)
  have hs2 : C ≤ w2.heap.size := by have := HB2.out.size; have := HC.out; omega
  have HB3 := Lib.hid (HB2.out.trans (hb3.mono hs2))
  clear e3 hb3
  go_wp2_with fail
  refine (HF2.out w3).mono ?_
  rintro _ w4 ⟨rfl, ho, hb⟩
  have HO4 := Lib.hid (HO3.out.later hb)
  have hs3 : C ≤ w3.heap.size := by have := HB3.out.size; have := HC.out; omega
  have HB4 := Lib.hid (HB3.out.trans (hb.mono hs3))
  have HS4 := Lib.hid ho.at_.src
  have hs4 : C ≤ w4.heap.size := by have := HB4.out.size; have := HC.out; omega
  have HOV := Lib.hid (show OwnV w4 C 5 1 (.slice a2 (4 + m) c2) (4 + m) (cellsK .u8 (headR r)) by have h9 := HO4.out; unfold Own at h9; rw [HHL.out] at h9; exact h9)
  clear ho hb HO3 HO4
  go_wp2_with (
    at_builtin
    refine wpList_append_W rfl _ _ 58 rfl C 5 i0 (.int .u8 0) 1 1 Tryz.underlying58 HI.out hz0 hz1 hz2 rfl (.slice a2 (4 + m) c2) (4 + m) (cellsK .u8 (headR r)) rfl HOV.out (.slice (some ⟨w3.heap.size, 0, none⟩) 4 4) 4 (cellsK .u8 (num4 n)) rfl HS4.out (by unfold maxLen; omega) (by omega) hs4 ?_
    intro v5 w5 ho5 hg5 hl5
    obtain ⟨a5, c5, rfl⟩ := ho5.sl
    have HO5 := Lib.hid (show Own w5 C (.slice a5 (4 + m + 4) c5) (laidR c r) by unfold Own; rw [← HLD.out, List.length_append, HHL.out, num4_length, cellsK_append]; exact ho5)
    have HB5 := Lib.hid (HB4.out.grown hg5 hs4 (fun g hg => (OwnV.lt HOV.out g hg).1))
    clear ho5 hg5 hl5)
  go_ret2
  exact ⟨_, rfl, HO5.out, by rw [HC.out] at HB5; first | exact HB5.out | (rw [HC.out]; exact HB5.out)⟩
end Go.Proofs.YtidhlbhfhfonoaaGreatDoor
